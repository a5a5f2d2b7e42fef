/- Walks by program. No condition. -/
import Derived.Test.YtjbgahmcobcojaaDoorEn21
import Derived.Test.YtjbgahmcobcojaaDoorChecked
import Derived.Test.YtjbgahmcobcojaaDoorEnN
import Derived.Test.YtjbgahmcobcojaaDoorEnU
import Derived.Test.YtjbgahmcobcojaaDoorEnN
import Derived.Test.YtjbgahmcobcojaaDoorEnN
namespace Go.Proofs.YtjbgahmcobcojaaDoor
open Go.RowKit YtjbgahmcobcojaaDoor.En
set_option linter.unusedVariables false
set_option linter.unusedSimpArgs false
theorem sz3 : szOf Tryd.prog 3 = some 1 := by kernel_rfl
theorem to3 : tyOf Tryd.prog 3 = some (1, 8, some (Value.int .i64 (0 : Int))) := by kernel_rfl
theorem sz5 : szOf Tryd.prog 5 = some 1 := by kernel_rfl
theorem to5 : tyOf Tryd.prog 5 = some (1, 1, some (Value.int .u8 (0 : Int))) := by kernel_rfl
theorem sz9 : szOf Tryd.prog 9 = some 1 := by kernel_rfl
theorem to9 : tyOf Tryd.prog 9 = some (1, 16, some (str ([] : List UInt8))) := by kernel_rfl
theorem mixed : Tryd.prog.follows .mixedOrders = true := by kernel_rfl
def f_stringslite_HasPrefix (fu : Nat) (a0 : (List UInt8)) (a1 : (List UInt8)) : Option Bool := (lt (fun (j1b4 : Bool) => (some j1b4)) fun (kk2 : Bool → Option Bool) => (bif (decide ((a0.length : Int) ≥ (a1.length : Int))) then (req (0 ≤ (a1.length : Int) ∧ (a1.length : Int) ≤ (a0.length : Int)) (kk2 ((a0.take ((a1.length : Int)).toNat) == a1))) else (kk2 false)))
set_option maxRecDepth 100000 in
theorem f_stringslite_HasPrefix_ok (fu : Nat) (a0 : (List UInt8)) (a1 : (List UInt8)) {r : Bool} (h : f_stringslite_HasPrefix fu a0 a1 = some r) : FnOk Tryd.prog 134 [(str a0), (str a1)] [] [] (fun (i : Unit) => { val := (Value.bool r) }) := by
  unfold f_stringslite_HasPrefix at h
  refine fn_enter Tryd.func134 rfl Tryd.ntmps134 rfl (fun w0 Z0 => ?_)
  refine aw_seq ?_
  refine aw_region ?_
  refine al_val (ov_assign rfl rfl) ?_
  refine al_nil ?_
  refine aq_then ?_
  obtain ⟨kk2, hkk2, h⟩ := lt_some h
  refine aw_seq_join (ι := Bool) (fun i => (memOf w0 Z0 [] [] [])) (fun i => (tab [(4, (Value.bool i))])) (fun i => kk2 i = some r) ?_ ?_
  · rintro j1b4 h
    have h : kk2 j1b4 = some r := h
    rw [hkk2] at h
    dsimp only at h
    clear hkk2
    refine aw_show (m := (memOf w0 Z0 [] [] [])) (S := (tab [(4, (Value.bool j1b4))])) ?_
    refine aw_ret ?_
    obtain rfl := Option.some.inj h
    exact fn_ret () [] [] rfl rfl rfl rfl (res1 rfl rfl) rfl rfl rfl (by decide)
  · clear hkk2
    refine aw_region ?_
    refine al_val (ov_move rfl rfl) ?_
    refine al_val (ov_strLen Tryd.underlying9 rfl rfl) ?_
    refine al_val (ov_move rfl rfl) ?_
    refine al_val (ov_strLen Tryd.underlying9 rfl rfl) ?_
    refine al_val (ov_int rfl rfl rfl rfl) ?_
    refine al_val (ov_move rfl rfl) ?_
    refine al_caseB 10 rfl (fun hb3 => ?_) (fun hb3 => ?_)
    · replace h := bif_t hb3 h
      refine al_val (ov_move rfl rfl) ?_
      refine al_val (ov_move rfl rfl) ?_
      refine al_val (ov_strLen Tryd.underlying9 rfl rfl) ?_
      obtain ⟨hc4, h⟩ := req_some h
      refine al_val (ov_strTo hc4.1 hc4.2 Tryd.underlying9 rfl rfl rfl) ?_
      refine al_val (ov_move rfl rfl) ?_
      refine al_val (ov_strCmp rfl rfl rfl rfl) ?_
      refine al_val (ov_pick_t rfl rfl rfl) ?_
      refine al_val (ov_assign rfl rfl) ?_
      refine al_nil ?_
      exact aq_join ((a0.take ((a1.length : Int)).toNat) == a1) h (fun w a hm hs => norm hm hs [] [] [(4, (Value.bool ((a0.take ((a1.length : Int)).toNat) == a1)))] (by decide) ⟨rfl, trivial⟩)
    · replace h := bif_f hb3 h
      refine al_skip ?_
      refine al_skip ?_
      refine al_skip ?_
      refine al_skip ?_
      refine al_skip ?_
      refine al_skip ?_
      refine al_val (ov_pick_f rfl rfl rfl) ?_
      refine al_val (ov_assign rfl rfl) ?_
      refine al_nil ?_
      exact aq_join false h (fun w a hm hs => norm hm hs [] [] [(4, (Value.bool false))] (by decide) ⟨rfl, trivial⟩)
def f_stringslite_CutPrefix (fu : Nat) (a0 : (List UInt8)) (a1 : (List UInt8)) : Option ((List UInt8) × Bool) := (opt (f_stringslite_HasPrefix fu a0 a1) fun (r2 : Bool) => (bif (!r2) then (some (a0, false)) else (req (0 ≤ (a1.length : Int) ∧ (a1.length : Int) ≤ (a0.length : Int)) (some ((a0.drop ((a1.length : Int)).toNat), true)))))
set_option maxRecDepth 100000 in
theorem f_stringslite_CutPrefix_ok (fu : Nat) (a0 : (List UInt8)) (a1 : (List UInt8)) {r : ((List UInt8) × Bool)} (h : f_stringslite_CutPrefix fu a0 a1 = some r) : FnOk Tryd.prog 117 [(str a0), (str a1)] [] [] (fun (i : Unit) => { val := (Value.tuple #[(str r.1), (Value.bool r.2)]) }) := by
  unfold f_stringslite_CutPrefix at h
  refine fn_enter Tryd.func117 rfl Tryd.ntmps117 rfl (fun w0 Z0 => ?_)
  refine aw_seq ?_
  refine aw_region ?_
  refine al_val (ov_assign rfl rfl) ?_
  refine al_val (ov_assign rfl rfl) ?_
  refine al_nil ?_
  refine aq_then ?_
  refine aw_seq ?_
  refine aw_seq ?_
  refine aw_region ?_
  refine al_val (ov_move rfl rfl) ?_
  refine al_val (ov_move rfl rfl) ?_
  obtain ⟨r2, hc1, h⟩ := opt_some h
  refine al_call (vs := [(str a0), (str a1)]) (f_stringslite_HasPrefix_ok fu a0 a1 hc1) [] [] [] pre_nil rfl (by simp) (by decide) (.inl rfl) rfl Tryd.func134 rfl rfl rfl (fun _ => ?_)
  refine al_val (ov_not rfl rfl) ?_
  refine al_nil ?_
  refine aq_then ?_
  refine aw_cond rfl (fun hb3 => ?_) (fun hb3 => ?_)
  · replace h := bif_t hb3 h
    refine aw_seq ?_
    refine aw_region ?_
    refine al_val (ov_move rfl rfl) ?_
    refine al_val (ov_assign rfl rfl) ?_
    refine al_val (ov_assign rfl rfl) ?_
    refine al_nil ?_
    refine aq_then ?_
    refine aw_ret ?_
    refine aq_then_ret ?_
    obtain rfl := Option.some.inj h
    exact fn_ret () [] [] rfl rfl rfl rfl (res2 rfl rfl rfl) rfl rfl rfl (by decide)
  · replace h := bif_f hb3 h
    refine aw_skip ?_
    refine aq_then ?_
    refine aw_seq ?_
    refine aw_region ?_
    refine al_val (ov_move rfl rfl) ?_
    refine al_val (ov_move rfl rfl) ?_
    refine al_val (ov_strLen Tryd.underlying9 rfl rfl) ?_
    obtain ⟨hc4, h⟩ := req_some h
    refine al_val (ov_strFrom hc4.1 hc4.2 Tryd.underlying9 rfl rfl rfl) ?_
    refine al_val (ov_assign rfl rfl) ?_
    refine al_val (ov_assign rfl rfl) ?_
    refine al_nil ?_
    refine aq_then ?_
    refine aw_ret ?_
    obtain rfl := Option.some.inj h
    exact fn_ret () [] [] rfl rfl rfl rfl (res2 rfl rfl rfl) rfl rfl rfl (by decide)
def f_strings_CutPrefix (fu : Nat) (a0 : (List UInt8)) (a1 : (List UInt8)) : Option ((List UInt8) × Bool) := (opt (f_stringslite_CutPrefix fu a0 a1) fun (r2 : ((List UInt8) × Bool)) => (some (r2.1, r2.2)))
set_option maxRecDepth 100000 in
theorem f_strings_CutPrefix_ok (fu : Nat) (a0 : (List UInt8)) (a1 : (List UInt8)) {r : ((List UInt8) × Bool)} (h : f_strings_CutPrefix fu a0 a1 = some r) : FnOk Tryd.prog 83 [(str a0), (str a1)] [] [] (fun (i : Unit) => { val := (Value.tuple #[(str r.1), (Value.bool r.2)]) }) := by
  unfold f_strings_CutPrefix at h
  refine fn_enter Tryd.func83 rfl Tryd.ntmps83 rfl (fun w0 Z0 => ?_)
  refine aw_seq ?_
  refine aw_region ?_
  refine al_val (ov_assign rfl rfl) ?_
  refine al_val (ov_assign rfl rfl) ?_
  refine al_nil ?_
  refine aq_then ?_
  refine aw_seq ?_
  refine aw_region ?_
  refine al_val (ov_move rfl rfl) ?_
  refine al_val (ov_move rfl rfl) ?_
  obtain ⟨r2, hc1, h⟩ := opt_some h
  refine al_call (vs := [(str a0), (str a1)]) (f_stringslite_CutPrefix_ok fu a0 a1 hc1) [] [] [] pre_nil rfl (by simp) (by decide) (.inl rfl) rfl Tryd.func117 rfl rfl rfl (fun _ => ?_)
  refine al_val (ov_extract rfl rfl rfl) ?_
  refine al_val (ov_extract rfl rfl rfl) ?_
  refine al_val (ov_assign rfl rfl) ?_
  refine al_val (ov_assign rfl rfl) ?_
  refine al_nil ?_
  refine aq_then ?_
  refine aw_ret ?_
  obtain rfl := Option.some.inj h
  exact fn_ret () [] [] rfl rfl rfl rfl (res2 rfl rfl rfl) rfl rfl rfl (by decide)
def f_names_Check_L10 (a0 : (List UInt8)) (kk5 : (Int → Option Int)) : Nat → Int → Int → Option Int
  | 0, _, _ => none
  | k9 + 1, l8i3, l8xp22 => (bif (decide (l8xp22.toNat < a0.length)) then (lt (fun (j12b35 : Bool) => (bif j12b35 then (some (8 : Int)) else (f_names_Check_L10 a0 kk5 k9 (IntKind.i64.wrap (l8i3 + (1 : Int))) ((l8xp22.toNat + (dec a0 l8xp22.toNat).2 : Nat) : Int)))) fun (kk13 : Bool → Option Int) => (bif ((((dec a0 l8xp22.toNat).1 : Nat) : Int) == (47 : Int)) then (kk13 true) else (bif (decide ((((dec a0 l8xp22.toNat).1 : Nat) : Int) < (32 : Int))) then (kk13 true) else (kk13 ((((dec a0 l8xp22.toNat).1 : Nat) : Int) == (127 : Int)))))) else (kk5 l8i3))
def f_names_Check (fu : Nat) (a0 : (List UInt8)) : Option Int := (lt (fun (j1b20 : Bool) => (bif j1b20 then (some (8 : Int)) else (lt (fun (j4i3 : Int) => (bif (decide (j4i3 > (24 : Int))) then (some (2 : Int)) else (some (0 : Int)))) fun (kk5 : Int → Option Int) => (f_names_Check_L10 a0 kk5 fu (0 : Int) (0 : Int))))) fun (kk2 : Bool → Option Int) => (bif (a0 == ([] : List UInt8)) then (kk2 true) else (bif (a0 == ([46] : List UInt8)) then (kk2 true) else (bif (a0 == ([46, 46] : List UInt8)) then (kk2 true) else (opt (f_utf8_ValidString fu a0) fun (r21 : Bool) => (kk2 (!r21)))))))
set_option maxRecDepth 100000 in
theorem f_names_Check_ok (fu : Nat) (a0 : (List UInt8)) {r : Int} (h : f_names_Check fu a0 = some r) : FnOk Tryd.prog 46 [(str a0)] [uTabs] [] (fun (i : Unit) => { val := (Value.int .i64 r) }) := by
  unfold f_names_Check at h
  refine fn_enter Tryd.func46 rfl Tryd.ntmps46 rfl (fun w0 Z0 => ?_)
  refine aw_seq ?_
  refine aw_region ?_
  refine al_val (ov_assign rfl rfl) ?_
  refine al_nil ?_
  refine aq_then ?_
  refine aw_seq ?_
  obtain ⟨kk2, hkk2, h⟩ := lt_some h
  refine aw_seq_join (ι := Bool) (fun i => (memOf w0 Z0 [] [] [uTabs])) (fun i => (tab [(0, (str a0)), (20, (Value.bool i))])) (fun i => kk2 i = some r) ?_ ?_
  · rintro j1b20 h
    have h : kk2 j1b20 = some r := h
    rw [hkk2] at h
    dsimp only at h
    clear hkk2
    refine aw_show (m := (memOf w0 Z0 [] [] [uTabs])) (S := (tab [(0, (str a0)), (20, (Value.bool j1b20))])) ?_
    refine aw_cond rfl (fun hb3 => ?_) (fun hb3 => ?_)
    · replace h := bif_t hb3 h
      refine aw_seq ?_
      refine aw_region ?_
      refine al_val (ov_assign rfl rfl) ?_
      refine al_nil ?_
      refine aq_then ?_
      refine aw_ret ?_
      refine aq_then_ret ?_
      obtain rfl := Option.some.inj h
      exact fn_ret () [] [] rfl rfl rfl rfl (res1 rfl rfl) rfl rfl rfl (by decide)
    · replace h := bif_f hb3 h
      refine aw_skip ?_
      refine aq_then ?_
      refine aw_seq ?_
      refine aw_region ?_
      refine al_val (ov_assign rfl rfl) ?_
      refine al_nil ?_
      refine aq_then ?_
      obtain ⟨kk5, hkk5, h⟩ := lt_some h
      refine aw_seq_join (ι := Int) (fun i => (memOf w0 Z0 [] [] [uTabs])) (fun i => (tab [(3, (Value.int .i64 i))])) (fun i => kk5 i = some r) ?_ ?_
      · rintro j4i3 h
        have h : kk5 j4i3 = some r := h
        rw [hkk5] at h
        dsimp only at h
        clear hkk5
        refine aw_show (m := (memOf w0 Z0 [] [] [uTabs])) (S := (tab [(3, (Value.int .i64 j4i3))])) ?_
        refine aw_seq ?_
        refine aw_seq ?_
        refine aw_region ?_
        refine al_val (ov_move rfl rfl) ?_
        refine al_val (ov_int rfl rfl rfl rfl) ?_
        refine al_nil ?_
        refine aq_then ?_
        refine aw_cond rfl (fun hb6 => ?_) (fun hb6 => ?_)
        · replace h := bif_t hb6 h
          refine aw_seq ?_
          refine aw_region ?_
          refine al_val (ov_assign rfl rfl) ?_
          refine al_nil ?_
          refine aq_then ?_
          refine aw_ret ?_
          refine aq_then_ret ?_
          obtain rfl := Option.some.inj h
          exact fn_ret () [] [] rfl rfl rfl rfl (res1 rfl rfl) rfl rfl rfl (by decide)
        · replace h := bif_f hb6 h
          refine aw_skip ?_
          refine aq_then ?_
          refine aw_seq ?_
          refine aw_region ?_
          refine al_val (ov_assign rfl rfl) ?_
          refine al_nil ?_
          refine aq_then ?_
          refine aw_ret ?_
          obtain rfl := Option.some.inj h
          exact fn_ret () [] [] rfl rfl rfl rfl (res1 rfl rfl) rfl rfl rfl (by decide)
      · clear hkk5
        refine aw_seq ?_
        refine aw_region ?_
        refine al_val (ov_move rfl rfl) ?_
        refine al_range rfl Tryd.underlying9 rfl (fun g7 => ?_)
        refine al_nil ?_
        refine aq_then ?_
        refine aw_block ?_
        refine aw_state (aw_loop (ι := Int × Int) (fun i => (memOf w0 Z0 [] [(oIter g7 a0 i.2)] [uTabs])) (fun i => (tab [(3, (Value.int .i64 i.1)), (22, (ptr g7 0))])) (fun q i => f_names_Check_L10 a0 kk5 q i.1 i.2 = some r) ?_ fu ((0 : Int), (0 : Int)) h) (fun w a hm hs => norm hm hs [0] [0] [(3, (Value.int .i64 (0 : Int))), (22, (ptr g7 0))] (by decide) ⟨rfl, rfl, trivial⟩)
        clear h
        rintro k9 ⟨l8i3, l8xp22⟩ h
        have h : f_names_Check_L10 a0 kk5 k9 l8i3 l8xp22 = some r := h
        obtain _ | k9 := k9
        · rw [f_names_Check_L10] at h; cases h
        rw [f_names_Check_L10] at h
        refine aw_show (m := (memOf w0 Z0 [] [(oIter g7 a0 l8xp22)] [uTabs])) (S := (tab [(3, (Value.int .i64 l8i3)), (22, (ptr g7 0))])) ?_
        refine aw_seq ?_
        refine aw_region ?_
        refine al_next 0 rfl rfl rfl (fun hn11 => ?_) (fun hn11 => ?_)
        · replace h := bif_t (decide_eq_true hn11) h
          refine al_val (ov_extract rfl rfl rfl) ?_
          refine al_nil ?_
          refine aq_then ?_
          refine aw_seq ?_
          refine aw_cond_t rfl ?_
          refine aw_skip ?_
          refine aq_then ?_
          refine aw_block ?_
          refine aw_seq ?_
          refine aw_region ?_
          refine al_val (ov_extract rfl rfl rfl) ?_
          refine al_val (ov_assign rfl rfl) ?_
          refine al_nil ?_
          refine aq_then ?_
          refine aw_seq ?_
          obtain ⟨kk13, hkk13, h⟩ := lt_some h
          refine aw_seq_join (ι := Bool) (fun i => (memOf w0 Z0 [] [(oIter g7 a0 ((l8xp22.toNat + (dec a0 l8xp22.toNat).2 : Nat) : Int))] [uTabs])) (fun i => (tab [(3, (Value.int .i64 l8i3)), (22, (ptr g7 0)), (35, (Value.bool i))])) (fun i => kk13 i = some r) ?_ ?_
          · rintro j12b35 h
            have h : kk13 j12b35 = some r := h
            rw [hkk13] at h
            dsimp only at h
            clear hkk13
            refine aw_show (m := (memOf w0 Z0 [] [(oIter g7 a0 ((l8xp22.toNat + (dec a0 l8xp22.toNat).2 : Nat) : Int))] [uTabs])) (S := (tab [(3, (Value.int .i64 l8i3)), (22, (ptr g7 0)), (35, (Value.bool j12b35))])) ?_
            refine aw_cond rfl (fun hb14 => ?_) (fun hb14 => ?_)
            · replace h := bif_t hb14 h
              refine aw_seq ?_
              refine aw_region ?_
              refine al_val (ov_assign rfl rfl) ?_
              refine al_nil ?_
              refine aq_then ?_
              refine aw_ret ?_
              refine aq_then_ret ?_
              refine aq_block_ret ?_
              refine aq_then_ret ?_
              refine aq_block_ret ?_
              refine aq_then_ret ?_
              obtain rfl := Option.some.inj h
              exact fn_ret () [] [] rfl rfl rfl rfl (res1 rfl rfl) rfl rfl rfl (by decide)
            · replace h := bif_f hb14 h
              refine aw_skip ?_
              refine aq_then ?_
              refine aw_region ?_
              refine al_val (ov_move rfl rfl) ?_
              refine al_val (ov_int rfl rfl rfl rfl) ?_
              refine al_val (ov_assign rfl rfl) ?_
              refine al_nil ?_
              refine aq_block ?_
              exact aq_again k9 ((IntKind.i64.wrap (l8i3 + (1 : Int))), ((l8xp22.toNat + (dec a0 l8xp22.toNat).2 : Nat) : Int)) (Nat.lt_succ_self _) h (fun w a hm hs => norm hm hs [0] [0] [(3, (Value.int .i64 (IntKind.i64.wrap (l8i3 + (1 : Int))))), (22, (ptr g7 0))] (by decide) ⟨rfl, rfl, trivial⟩)
          · clear hkk13
            refine aw_region ?_
            refine al_val (ov_move rfl rfl) ?_
            refine al_val (ov_int rfl rfl rfl rfl) ?_
            refine al_val (ov_move rfl rfl) ?_
            refine al_caseB 28 rfl (fun hb15 => ?_) (fun hb15 => ?_)
            · replace h := bif_t hb15 h
              refine al_skip ?_
              refine al_skip ?_
              refine al_val (ov_pick_t rfl rfl rfl) ?_
              refine al_val (ov_move rfl rfl) ?_
              refine al_skip ?_
              refine al_skip ?_
              refine al_val (ov_pick_t rfl rfl rfl) ?_
              refine al_nil ?_
              exact aq_join true h (fun w a hm hs => norm hm hs [0] [0] [(3, (Value.int .i64 l8i3)), (22, (ptr g7 0)), (35, (Value.bool true))] (by decide) ⟨rfl, rfl, rfl, trivial⟩)
            · replace h := bif_f hb15 h
              refine al_val (ov_move rfl rfl) ?_
              refine al_val (ov_int rfl rfl rfl rfl) ?_
              refine al_val (ov_pick_f rfl rfl rfl) ?_
              refine al_val (ov_move rfl rfl) ?_
              refine al_caseB 32 rfl (fun hb16 => ?_) (fun hb16 => ?_)
              · replace h := bif_t hb16 h
                refine al_skip ?_
                refine al_skip ?_
                refine al_val (ov_pick_t rfl rfl rfl) ?_
                refine al_nil ?_
                exact aq_join true h (fun w a hm hs => norm hm hs [0] [0] [(3, (Value.int .i64 l8i3)), (22, (ptr g7 0)), (35, (Value.bool true))] (by decide) ⟨rfl, rfl, rfl, trivial⟩)
              · replace h := bif_f hb16 h
                refine al_val (ov_move rfl rfl) ?_
                refine al_val (ov_int rfl rfl rfl rfl) ?_
                refine al_val (ov_pick_f rfl rfl rfl) ?_
                refine al_nil ?_
                exact aq_join ((((dec a0 l8xp22.toNat).1 : Nat) : Int) == (127 : Int)) h (fun w a hm hs => norm hm hs [0] [0] [(3, (Value.int .i64 l8i3)), (22, (ptr g7 0)), (35, (Value.bool ((((dec a0 l8xp22.toNat).1 : Nat) : Int) == (127 : Int))))] (by decide) ⟨rfl, rfl, rfl, trivial⟩)
        · replace h := bif_f (decide_eq_false hn11) h
          refine al_val (ov_extract rfl rfl rfl) ?_
          refine al_nil ?_
          refine aq_then ?_
          refine aw_seq ?_
          refine aw_cond_f rfl ?_
          refine aw_exit ?_
          refine aq_then_exit ?_
          refine aq_then_exit ?_
          refine aq_block_exit ?_
          exact aq_join l8i3 h (fun w a hm hs => norm hm hs [] [0] [(3, (Value.int .i64 l8i3))] (by decide) ⟨rfl, trivial⟩)
  · clear hkk2
    refine aw_region ?_
    refine al_val (ov_move rfl rfl) ?_
    refine al_val (ov_strCmp rfl rfl rfl rfl) ?_
    refine al_val (ov_move rfl rfl) ?_
    refine al_caseB 8 rfl (fun hb17 => ?_) (fun hb17 => ?_)
    · replace h := bif_t hb17 h
      refine al_skip ?_
      refine al_skip ?_
      refine al_val (ov_pick_t rfl rfl rfl) ?_
      refine al_val (ov_move rfl rfl) ?_
      refine al_skip ?_
      refine al_skip ?_
      refine al_val (ov_pick_t rfl rfl rfl) ?_
      refine al_val (ov_move rfl rfl) ?_
      refine al_skip ?_
      refine al_skip ?_
      refine al_skip ?_
      refine al_val (ov_pick_t rfl rfl rfl) ?_
      refine al_nil ?_
      exact aq_join true h (fun w a hm hs => norm hm hs [] [0] [(0, (str a0)), (20, (Value.bool true))] (by decide) ⟨rfl, rfl, trivial⟩)
    · replace h := bif_f hb17 h
      refine al_val (ov_move rfl rfl) ?_
      refine al_val (ov_strCmp rfl rfl rfl rfl) ?_
      refine al_val (ov_pick_f rfl rfl rfl) ?_
      refine al_val (ov_move rfl rfl) ?_
      refine al_caseB 12 rfl (fun hb18 => ?_) (fun hb18 => ?_)
      · replace h := bif_t hb18 h
        refine al_skip ?_
        refine al_skip ?_
        refine al_val (ov_pick_t rfl rfl rfl) ?_
        refine al_val (ov_move rfl rfl) ?_
        refine al_skip ?_
        refine al_skip ?_
        refine al_skip ?_
        refine al_val (ov_pick_t rfl rfl rfl) ?_
        refine al_nil ?_
        exact aq_join true h (fun w a hm hs => norm hm hs [] [0] [(0, (str a0)), (20, (Value.bool true))] (by decide) ⟨rfl, rfl, trivial⟩)
      · replace h := bif_f hb18 h
        refine al_val (ov_move rfl rfl) ?_
        refine al_val (ov_strCmp rfl rfl rfl rfl) ?_
        refine al_val (ov_pick_f rfl rfl rfl) ?_
        refine al_val (ov_move rfl rfl) ?_
        refine al_caseB 16 rfl (fun hb19 => ?_) (fun hb19 => ?_)
        · replace h := bif_t hb19 h
          refine al_skip ?_
          refine al_skip ?_
          refine al_skip ?_
          refine al_val (ov_pick_t rfl rfl rfl) ?_
          refine al_nil ?_
          exact aq_join true h (fun w a hm hs => norm hm hs [] [0] [(0, (str a0)), (20, (Value.bool true))] (by decide) ⟨rfl, rfl, trivial⟩)
        · replace h := bif_f hb19 h
          refine al_val (ov_move rfl rfl) ?_
          obtain ⟨r21, hc20, h⟩ := opt_some h
          refine al_call (vs := [(str a0)]) (f_utf8_ValidString_ok fu a0 hc20) [] [] [] (pre_fz 0 rfl pre_nil) rfl (by simp) (by decide) (.inl rfl) rfl Tryd.func91 rfl rfl rfl (fun _ => ?_)
          refine al_val (ov_not rfl rfl) ?_
          refine al_val (ov_pick_f rfl rfl rfl) ?_
          refine al_nil ?_
          exact aq_join (!r21) h (fun w a hm hs => norm hm hs [] [0] [(0, (str a0)), (20, (Value.bool (!r21)))] (by decide) ⟨rfl, rfl, trivial⟩)
def f_names_checkAll_L5 (a0 : (List (List UInt8))) (kk2 : (Unit → Option Int)) (fu : Nat) : Nat → Int → Option Int
  | 0, _ => none
  | k4 + 1, l3i8 => (bif (decide (l3i8 < (a0.length : Int))) then (opt (at? a0 l3i8) fun (u7 : (List UInt8)) => (bif (decide (l3i8 ≥ (8 : Int))) then (some (14 : Int)) else (opt (f_names_Check fu u7) fun (r12 : Int) => (bif (r12 != (0 : Int)) then (some r12) else (f_names_checkAll_L5 a0 kk2 fu k4 (IntKind.i64.wrap (l3i8 + (1 : Int)))))))) else (kk2 ()))
def f_names_checkAll (fu : Nat) (a0 : (List (List UInt8))) : Option Int := (lt (fun (_ : Unit) => (some (0 : Int))) fun (kk2 : Unit → Option Int) => (f_names_checkAll_L5 a0 kk2 fu fu (0 : Int)))
set_option maxRecDepth 100000 in
theorem f_names_checkAll_ok (fu : Nat) (v0_0 : Value) (a0 : (List (List UInt8))) {r : Int} (h : f_names_checkAll fu a0 = some r) : FnOk Tryd.prog 85 [v0_0] [(fDat (tyList tyStr) [v0_0] a0), uTabs] [] (fun (i : Unit) => { val := (Value.int .i64 r) }) := by
  unfold f_names_checkAll at h
  refine fn_enter Tryd.func85 rfl Tryd.ntmps85 rfl (fun w0 Z0 => ?_)
  refine aw_seq ?_
  refine aw_region ?_
  refine al_val (ov_assign rfl rfl) ?_
  refine al_nil ?_
  refine aq_then ?_
  obtain ⟨kk2, hkk2, h⟩ := lt_some h
  refine aw_seq_join (ι := Unit) (fun i => (memOf w0 Z0 [] [] [(fDat (tyList tyStr) [v0_0] a0), uTabs])) (fun i => (tab [])) (fun i => kk2 () = some r) ?_ ?_
  · rintro _ h
    have h : kk2 () = some r := h
    rw [hkk2] at h
    dsimp only at h
    clear hkk2
    refine aw_show (m := (memOf w0 Z0 [] [] [(fDat (tyList tyStr) [v0_0] a0), uTabs])) (S := (tab [])) ?_
    refine aw_seq ?_
    refine aw_region ?_
    refine al_val (ov_assign rfl rfl) ?_
    refine al_nil ?_
    refine aq_then ?_
    refine aw_ret ?_
    obtain rfl := Option.some.inj h
    exact fn_ret () [] [] rfl rfl rfl rfl (res1 rfl rfl) rfl rfl rfl (by decide)
  · clear hkk2
    refine aw_seq ?_
    refine aw_region ?_
    refine al_val (ov_move rfl rfl) ?_
    refine al_val (ov_lenD 0 rfl rfl Tryd.underlying22 rfl) ?_
    refine al_val (ov_move rfl rfl) ?_
    refine al_nil ?_
    refine aq_then ?_
    refine aw_block ?_
    refine aw_state (aw_loop (ι := Int) (fun i => (memOf w0 Z0 [] [] [(fDat (tyList tyStr) [v0_0] a0), uTabs])) (fun i => (tab [(6, v0_0), (7, (Value.int .i64 (a0.length : Int))), (8, (Value.int .i64 i))])) (fun q i => f_names_checkAll_L5 a0 kk2 fu q i = some r) ?_ fu (0 : Int) h) (fun w a hm hs => norm hm hs [] [0, 1] [(6, v0_0), (7, (Value.int .i64 (a0.length : Int))), (8, (Value.int .i64 (0 : Int)))] (by decide) ⟨rfl, rfl, rfl, trivial⟩)
    clear h
    rintro k4 l3i8 h
    have h : f_names_checkAll_L5 a0 kk2 fu k4 l3i8 = some r := h
    obtain _ | k4 := k4
    · rw [f_names_checkAll_L5] at h; cases h
    rw [f_names_checkAll_L5] at h
    refine aw_show (m := (memOf w0 Z0 [] [] [(fDat (tyList tyStr) [v0_0] a0), uTabs])) (S := (tab [(6, v0_0), (7, (Value.int .i64 (a0.length : Int))), (8, (Value.int .i64 l3i8))])) ?_
    refine aw_seq ?_
    refine aw_region ?_
    refine al_val (ov_int rfl rfl rfl rfl) ?_
    refine al_nil ?_
    refine aq_then ?_
    refine aw_seq ?_
    refine aw_cond rfl (fun hb6 => ?_) (fun hb6 => ?_)
    · replace h := bif_t hb6 h
      refine aw_skip ?_
      refine aq_then ?_
      refine aw_seq ?_
      refine aw_block ?_
      refine aw_seq ?_
      refine aw_region ?_
      refine al_val (ov_move rfl rfl) ?_
      obtain ⟨u7, hu8, h⟩ := opt_some h
      refine al_idxD 0 hu8 rfl rfl rfl Tryd.underlying22 sz9 rfl (fun p9 => ?_)
      refine al_val (ov_loadP (ds := [(str u7)]) 0 rfl (fun h => h) rfl Tryd.underlying9 sz9 rfl rfl rfl) ?_
      refine al_val (ov_assign rfl rfl) ?_
      refine al_val (ov_assign rfl rfl) ?_
      refine al_nil ?_
      refine aq_then ?_
      refine aw_seq ?_
      refine aw_seq ?_
      refine aw_region ?_
      refine al_val (ov_move rfl rfl) ?_
      refine al_val (ov_int rfl rfl rfl rfl) ?_
      refine al_nil ?_
      refine aq_then ?_
      refine aw_cond rfl (fun hb10 => ?_) (fun hb10 => ?_)
      · replace h := bif_t hb10 h
        refine aw_seq ?_
        refine aw_region ?_
        refine al_val (ov_assign rfl rfl) ?_
        refine al_nil ?_
        refine aq_then ?_
        refine aw_ret ?_
        refine aq_then_ret ?_
        refine aq_block_ret ?_
        refine aq_then_ret ?_
        refine aq_then_ret ?_
        refine aq_block_ret ?_
        refine aq_then_ret ?_
        obtain rfl := Option.some.inj h
        exact fn_ret () [] [] rfl rfl rfl rfl (res1 rfl rfl) rfl rfl rfl (by decide)
      · replace h := bif_f hb10 h
        refine aw_skip ?_
        refine aq_then ?_
        refine aw_seq ?_
        refine aw_region ?_
        refine al_val (ov_move rfl rfl) ?_
        obtain ⟨r12, hc11, h⟩ := opt_some h
        refine al_call (vs := [(str u7)]) (f_names_Check_ok fu u7 hc11) [] [] [] (pre_fz 2 rfl pre_nil) rfl (by simp) (by decide) (.inl rfl) rfl Tryd.func46 rfl rfl rfl (fun _ => ?_)
        refine al_val (ov_assign rfl rfl) ?_
        refine al_nil ?_
        refine aq_then ?_
        refine aw_seq ?_
        refine aw_region ?_
        refine al_val (ov_move rfl rfl) ?_
        refine al_val (ov_int rfl rfl rfl rfl) ?_
        refine al_nil ?_
        refine aq_then ?_
        refine aw_cond rfl (fun hb13 => ?_) (fun hb13 => ?_)
        · replace h := bif_t hb13 h
          refine aw_seq ?_
          refine aw_region ?_
          refine al_val (ov_move rfl rfl) ?_
          refine al_val (ov_assign rfl rfl) ?_
          refine al_nil ?_
          refine aq_then ?_
          refine aw_ret ?_
          refine aq_block_ret ?_
          refine aq_then_ret ?_
          refine aq_then_ret ?_
          refine aq_block_ret ?_
          refine aq_then_ret ?_
          obtain rfl := Option.some.inj h
          exact fn_ret () [] [] rfl rfl rfl rfl (res1 rfl rfl) rfl rfl rfl (by decide)
        · replace h := bif_f hb13 h
          refine aw_skip ?_
          refine aq_block ?_
          refine aq_then ?_
          refine aw_region ?_
          refine al_val (ov_int rfl rfl rfl rfl) ?_
          refine al_val (ov_move rfl rfl) ?_
          refine al_nil ?_
          exact aq_again k4 (IntKind.i64.wrap (l3i8 + (1 : Int))) (Nat.lt_succ_self _) h (fun w a hm hs => norm hm hs [] [1, 2] [(6, v0_0), (7, (Value.int .i64 (a0.length : Int))), (8, (Value.int .i64 (IntKind.i64.wrap (l3i8 + (1 : Int)))))] (by decide) ⟨rfl, rfl, rfl, trivial⟩)
    · replace h := bif_f hb6 h
      refine aw_exit ?_
      refine aq_then_exit ?_
      refine aq_then_exit ?_
      refine aq_block_exit ?_
      exact aq_join () h (fun w a hm hs => norm hm hs [] [0, 1] [] (by decide) trivial)
def f_names_Split (fu : Nat) (a0 : (List UInt8)) : Option ((List (List UInt8)) × Int) := (opt (f_strings_CutPrefix fu a0 ([47] : List UInt8)) fun (r2 : ((List UInt8) × Bool)) => (bif (!r2.2) then (some (([] : List (List UInt8)), (8 : Int))) else (bif (r2.1 == ([] : List UInt8)) then (some (([] : List (List UInt8)), (0 : Int))) else (opt (f_strings_Split fu r2.1 ([47] : List UInt8)) fun (r6 : (List (List UInt8))) => (opt (f_names_checkAll fu r6) fun (r9 : Int) => (bif (r9 != (0 : Int)) then (some (([] : List (List UInt8)), r9)) else (some (r6, (0 : Int)))))))))
set_option maxRecDepth 100000 in
theorem f_names_Split_ok (fu : Nat) (a0 : (List UInt8)) {r : ((List (List UInt8)) × Int)} (h : f_names_Split fu a0 = some r) : FnOk Tryd.prog 38 [(str a0)] [uMax, uTabs] [] (fun (i : Value) => { val := (Value.tuple #[i, (Value.int .i64 r.2)]), own := [(oRow i 9 tyStr r.1)] }) := by
  unfold f_names_Split at h
  refine fn_enter Tryd.func38 rfl Tryd.ntmps38 rfl (fun w0 Z0 => ?_)
  refine aw_seq ?_
  refine aw_region ?_
  refine al_val (ov_assign rfl rfl) ?_
  refine al_val (ov_assign rfl rfl) ?_
  refine al_nil ?_
  refine aq_then ?_
  refine aw_seq ?_
  refine aw_region ?_
  refine al_val (ov_move rfl rfl) ?_
  obtain ⟨r2, hc1, h⟩ := opt_some h
  refine al_call (vs := [(str a0), (str ([47] : List UInt8))]) (f_strings_CutPrefix_ok fu a0 ([47] : List UInt8) hc1) [] [] [] pre_nil rfl (by simp) (by decide) (.inl rfl) rfl Tryd.func83 rfl rfl rfl (fun _ => ?_)
  refine al_val (ov_move rfl rfl) ?_
  refine al_val (ov_extract rfl rfl rfl) ?_
  refine al_val (ov_extract rfl rfl rfl) ?_
  refine al_val (ov_assign rfl rfl) ?_
  refine al_val (ov_assign rfl rfl) ?_
  refine al_nil ?_
  refine aq_then ?_
  refine aw_seq ?_
  refine aw_seq ?_
  refine aw_region ?_
  refine al_val (ov_move rfl rfl) ?_
  refine al_val (ov_not rfl rfl) ?_
  refine al_nil ?_
  refine aq_then ?_
  refine aw_cond rfl (fun hb3 => ?_) (fun hb3 => ?_)
  · replace h := bif_t hb3 h
    refine aw_seq ?_
    refine aw_region ?_
    refine al_val (ov_assign rfl rfl) ?_
    refine al_val (ov_assign rfl rfl) ?_
    refine al_nil ?_
    refine aq_then ?_
    refine aw_ret ?_
    refine aq_then_ret ?_
    refine aq_nilR 9 tyStr ?_
    obtain rfl := Option.some.inj h
    exact fn_ret (Value.slice none 0 0) [0] [] rfl rfl rfl rfl (res2 rfl rfl rfl) rfl rfl rfl (by decide)
  · replace h := bif_f hb3 h
    refine aw_skip ?_
    refine aq_then ?_
    refine aw_seq ?_
    refine aw_seq ?_
    refine aw_region ?_
    refine al_val (ov_move rfl rfl) ?_
    refine al_val (ov_strCmp rfl rfl rfl rfl) ?_
    refine al_nil ?_
    refine aq_then ?_
    refine aw_cond rfl (fun hb4 => ?_) (fun hb4 => ?_)
    · replace h := bif_t hb4 h
      refine aw_seq ?_
      refine aw_region ?_
      refine al_val (ov_assign rfl rfl) ?_
      refine al_val (ov_assign rfl rfl) ?_
      refine al_nil ?_
      refine aq_then ?_
      refine aw_ret ?_
      refine aq_then_ret ?_
      refine aq_nilR 9 tyStr ?_
      obtain rfl := Option.some.inj h
      exact fn_ret (Value.slice none 0 0) [0] [] rfl rfl rfl rfl (res2 rfl rfl rfl) rfl rfl rfl (by decide)
    · replace h := bif_f hb4 h
      refine aw_skip ?_
      refine aq_then ?_
      refine aw_seq ?_
      refine aw_region ?_
      refine al_val (ov_move rfl rfl) ?_
      obtain ⟨r6, hc5, h⟩ := opt_some h
      refine al_call (vs := [(str r2.1), (str ([47] : List UInt8))]) (f_strings_Split_ok fu r2.1 ([47] : List UInt8) hc5) [] [] [] (pre_fz 0 rfl pre_nil) rfl (by simp) (by decide) (.inl rfl) rfl Tryd.func84 rfl rfl rfl (fun v7 => ?_)
      refine al_val (ov_assign rfl rfl) ?_
      refine al_nil ?_
      refine aq_then ?_
      refine aw_seq ?_
      refine aw_seq ?_
      refine aw_region ?_
      refine al_val (ov_move rfl rfl) ?_
      obtain ⟨r9, hc8, h⟩ := opt_some h
      refine al_call (vs := [v7]) (f_names_checkAll_ok fu v7 r6 hc8) [0] [] [0] (pre_own 0 rfl rfl (pre_fz 1 rfl pre_nil)) rfl (by simp) (by decide) (.inr flat_res0) rfl Tryd.func85 rfl rfl rfl (fun _ => ?_)
      refine al_val (ov_assign rfl rfl) ?_
      refine al_nil ?_
      refine aq_then ?_
      refine aw_seq ?_
      refine aw_region ?_
      refine al_val (ov_move rfl rfl) ?_
      refine al_val (ov_int rfl rfl rfl rfl) ?_
      refine al_nil ?_
      refine aq_then ?_
      refine aw_cond rfl (fun hb10 => ?_) (fun hb10 => ?_)
      · replace h := bif_t hb10 h
        refine aw_seq ?_
        refine aw_region ?_
        refine al_val (ov_move rfl rfl) ?_
        refine al_val (ov_assign rfl rfl) ?_
        refine al_val (ov_assign rfl rfl) ?_
        refine al_nil ?_
        refine aq_then ?_
        refine aw_ret ?_
        refine aq_then_ret ?_
        refine aq_nilR 9 tyStr ?_
        obtain rfl := Option.some.inj h
        exact fn_ret (Value.slice none 0 0) [0] [] rfl rfl rfl rfl (res2 rfl rfl rfl) rfl rfl rfl (by decide)
      · replace h := bif_f hb10 h
        refine aw_skip ?_
        refine aq_then ?_
        refine aw_seq ?_
        refine aw_region ?_
        refine al_val (ov_move rfl rfl) ?_
        refine al_val (ov_assign rfl rfl) ?_
        refine al_val (ov_assign rfl rfl) ?_
        refine al_nil ?_
        refine aq_then ?_
        refine aw_ret ?_
        obtain rfl := Option.some.inj h
        exact fn_ret v7 [0] [] rfl rfl rfl rfl (res2 rfl rfl rfl) rfl rfl rfl (by decide)
def f_lumref_cutAt : Nat → (List UInt8) → Option (List (List UInt8))
  | 0, _ => none
  | fu + 1, a0 => (opt (f_strings_IndexByte fu a0 (47 : Int)) fun (r2 : Int) => (bif (decide (r2 < (0 : Int))) then (some [a0]) else (req (0 ≤ r2 ∧ r2 ≤ (a0.length : Int)) (req (0 ≤ (IntKind.i64.wrap (r2 + (1 : Int))) ∧ (IntKind.i64.wrap (r2 + (1 : Int))) ≤ (a0.length : Int)) (opt (f_lumref_cutAt fu (a0.drop ((IntKind.i64.wrap (r2 + (1 : Int)))).toNat)) fun (r9 : (List (List UInt8))) => (req (((([(a0.take (r2).toNat)]).length + r9.length) * 16 : Nat) ≤ 140737488355328 ∧ ([(a0.take (r2).toNat)]).length + r9.length ≤ 9223372036854775807) (some (([(a0.take (r2).toNat)]) ++ r9))))))))
set_option maxRecDepth 100000 in
theorem f_lumref_cutAt_ok (fu : Nat) (a0 : (List UInt8)) {r : (List (List UInt8))} (h : f_lumref_cutAt fu a0 = some r) : FnOk Tryd.prog 86 [(str a0)] [] [] (fun (i : Value) => { val := i, own := [(oRow i 9 tyStr r)] }) := by
  cases fu with
  | zero => rw [f_lumref_cutAt] at h; cases h
  | succ fu =>
    rw [f_lumref_cutAt] at h
    refine fn_enter Tryd.func86 rfl Tryd.ntmps86 rfl (fun w0 Z0 => ?_)
    refine aw_seq ?_
    refine aw_region ?_
    refine al_val (ov_assign rfl rfl) ?_
    refine al_nil ?_
    refine aq_then ?_
    refine aw_seq ?_
    refine aw_region ?_
    refine al_val (ov_move rfl rfl) ?_
    obtain ⟨r2, hc1, h⟩ := opt_some h
    refine al_call (vs := [(str a0), (Value.int .u8 (47 : Int))]) (f_strings_IndexByte_ok fu a0 (47 : Int) hc1) [] [] [] pre_nil rfl (by simp) (by decide) (.inl rfl) rfl Tryd.func119 rfl rfl rfl (fun _ => ?_)
    refine al_val (ov_assign rfl rfl) ?_
    refine al_nil ?_
    refine aq_then ?_
    refine aw_seq ?_
    refine aw_seq ?_
    refine aw_region ?_
    refine al_val (ov_move rfl rfl) ?_
    refine al_val (ov_int rfl rfl rfl rfl) ?_
    refine al_nil ?_
    refine aq_then ?_
    refine aw_cond rfl (fun hb3 => ?_) (fun hb3 => ?_)
    · replace h := bif_t hb3 h
      refine aw_seq ?_
      refine aw_region ?_
      refine al_val (ov_move rfl rfl) ?_
      refine al_buildSlice (τ := tyStr) (e := 9) (k := 1) (sz := 0) (by_ := 0) (z := undef) (cs := [(str a0)]) (xs := [a0]) rfl (by decide) (fun w a hm hs => ⟨([(str a0)]).toArray, rfl, by simp only [List.map_toArray, List.map_cons, List.map_nil, hs.ev (x := .tmp 8) rfl]; exact run_bs [(str a0)] [(str a0)] Tryd.underlying22 to9 rfl rfl (bs_cons (l := [(str a0)]) (cs := []) (cv_rfl rfl) rfl bs_nil) hm⟩) (fun hm => ⟨_, _, rfl, (fun _ => rfl) hm, rfl⟩) rfl (fun v4 => ?_)
      refine al_val (ov_assign rfl rfl) ?_
      refine al_nil ?_
      refine aq_then ?_
      refine aw_ret ?_
      refine aq_then_ret ?_
      obtain rfl := Option.some.inj h
      exact fn_ret v4 [0] [] rfl rfl rfl rfl (res1 rfl rfl) rfl rfl rfl (by decide)
    · replace h := bif_f hb3 h
      refine aw_skip ?_
      refine aq_then ?_
      refine aw_seq ?_
      obtain ⟨hc5, h⟩ := req_some h
      obtain ⟨hc7, h⟩ := req_some h
      refine aw_region_open [⟨0, 10, Unit, fun _ => { val := (str a0) }⟩, ⟨1, 11, Unit, fun _ => { val := (Value.int .i64 r2) }⟩, ⟨2, 12, Unit, fun _ => { val := (str (a0.take (r2).toNat)) }⟩, ⟨3, 13, Value, fun (i : Value) => { val := i, own := [(oRow i 9 tyStr [(a0.take (r2).toNat)])] }⟩, ⟨4, 14, Unit, fun _ => { val := (str a0) }⟩, ⟨5, 15, Unit, fun _ => { val := (Value.int .i64 r2) }⟩, ⟨6, 16, Unit, fun _ => { val := (Value.int .i64 (IntKind.i64.wrap (r2 + (1 : Int)))) }⟩, ⟨7, 17, Unit, fun _ => { val := (str (a0.drop ((IntKind.i64.wrap (r2 + (1 : Int)))).toNat)) }⟩] (tab [(0, (str a0)), (2, (Value.slice none 0 0)), (3, (Value.int .i64 r2))]) mixed (fun a hs => hs.tab _ (allT_mem ⟨rfl, rfl, rfl, trivial⟩)) ?_
      refine ta_show (m := (memOf w0 Z0 [] [] [])) (S := (tab [(0, (str a0)), (2, (Value.slice none 0 0)), (3, (Value.int .i64 r2))])) ?_
      refine ta_step 8 _ [0, 1, 2, 3, 4, 5, 6, 7] [10, 11, 12, 13, 14, 15, 16, 17] [4, 5, 6, 7] [] [⟨4, 14, Unit, fun _ => { val := (str a0) }⟩, ⟨5, 15, Unit, fun _ => { val := (Value.int .i64 r2) }⟩, ⟨6, 16, Unit, fun _ => { val := (Value.int .i64 (IntKind.i64.wrap (r2 + (1 : Int)))) }⟩, ⟨7, 17, Unit, fun _ => { val := (str (a0.drop ((IntKind.i64.wrap (r2 + (1 : Int)))).toNat)) }⟩] [⟨0, 10, Unit, fun _ => { val := (str a0) }⟩, ⟨1, 11, Unit, fun _ => { val := (Value.int .i64 r2) }⟩, ⟨2, 12, Unit, fun _ => { val := (str (a0.take (r2).toNat)) }⟩, ⟨3, 13, Value, fun (i : Value) => { val := i, own := [(oRow i 9 tyStr [(a0.take (r2).toNat)])] }⟩] rfl rfl rfl (by kernel_rfl) rfl rfl rfl ⟨⟨_, rfl, [], rfl, by
    intro X_ Y_ F_ K_ hK_
    refine al_show (m := Mem.plus (memOf w0 Z0 [] [] []) X_ Y_) (S := over (tab [(0, (str a0)), (2, (Value.slice none 0 0)), (3, (Value.int .i64 r2))]) F_) ?_
    refine al_val (ov_move rfl rfl) ?_
    refine al_nil ?_
    exact fr_fin hK_ ()⟩, ⟨_, rfl, [], rfl, by
    intro X_ Y_ F_ K_ hK_
    refine al_show (m := Mem.plus (memOf w0 Z0 [] [] []) X_ Y_) (S := over (tab [(0, (str a0)), (2, (Value.slice none 0 0)), (3, (Value.int .i64 r2))]) F_) ?_
    refine al_val (ov_move rfl rfl) ?_
    refine al_nil ?_
    exact fr_fin hK_ ()⟩, ⟨_, rfl, [0, 1], rfl, by
    intro _
    intro _
    intro X_ Y_ F_ K_ hK_
    refine al_show (m := Mem.plus (memOf w0 Z0 [] [] []) X_ Y_) (S := over (put (put (tab [(0, (str a0)), (2, (Value.slice none 0 0)), (3, (Value.int .i64 r2))]) 10 (str a0)) 11 (Value.int .i64 r2)) F_) ?_
    refine al_val (ov_strTo hc5.1 hc5.2 Tryd.underlying9 rfl rfl rfl) ?_
    refine al_nil ?_
    exact fr_fin hK_ ()⟩, ⟨_, rfl, [2], rfl, by
    intro _
    intro X_ Y_ F_ K_ hK_
    refine al_show (m := Mem.plus (memOf w0 Z0 [] [] []) X_ Y_) (S := over (put (tab [(0, (str a0)), (2, (Value.slice none 0 0)), (3, (Value.int .i64 r2))]) 12 (str (a0.take (r2).toNat))) F_) ?_
    refine al_buildSlice (τ := tyStr) (e := 9) (k := 1) (sz := 0) (by_ := 0) (z := undef) (cs := [(str (a0.take (r2).toNat))]) (xs := [(a0.take (r2).toNat)]) rfl (by decide) (fun w a hm hs => ⟨([(str (a0.take (r2).toNat))]).toArray, rfl, by simp only [List.map_toArray, List.map_cons, List.map_nil, hs.ev (x := .tmp 12) rfl]; exact run_bs [(str (a0.take (r2).toNat))] [(str (a0.take (r2).toNat))] Tryd.underlying22 to9 rfl rfl (bs_cons (l := [(str (a0.take (r2).toNat))]) (cs := []) (cv_rfl rfl) rfl bs_nil) hm⟩) (fun hm => ⟨_, _, rfl, (fun _ => rfl) hm, rfl⟩) rfl (fun v6 => ?_)
    refine al_nil ?_
    exact fr_fin hK_ v6⟩, ⟨_, rfl, [], rfl, by
    intro X_ Y_ F_ K_ hK_
    refine al_show (m := Mem.plus (memOf w0 Z0 [] [] []) X_ Y_) (S := over (tab [(0, (str a0)), (2, (Value.slice none 0 0)), (3, (Value.int .i64 r2))]) F_) ?_
    refine al_val (ov_move rfl rfl) ?_
    refine al_nil ?_
    exact fr_fin hK_ ()⟩, ⟨_, rfl, [], rfl, by
    intro X_ Y_ F_ K_ hK_
    refine al_show (m := Mem.plus (memOf w0 Z0 [] [] []) X_ Y_) (S := over (tab [(0, (str a0)), (2, (Value.slice none 0 0)), (3, (Value.int .i64 r2))]) F_) ?_
    refine al_val (ov_move rfl rfl) ?_
    refine al_nil ?_
    exact fr_fin hK_ ()⟩, ⟨_, rfl, [5], rfl, by
    intro _
    intro X_ Y_ F_ K_ hK_
    refine al_show (m := Mem.plus (memOf w0 Z0 [] [] []) X_ Y_) (S := over (put (tab [(0, (str a0)), (2, (Value.slice none 0 0)), (3, (Value.int .i64 r2))]) 15 (Value.int .i64 r2)) F_) ?_
    refine al_val (ov_int rfl rfl rfl rfl) ?_
    refine al_nil ?_
    exact fr_fin hK_ ()⟩, ⟨_, rfl, [4, 6], rfl, by
    intro _
    intro _
    intro X_ Y_ F_ K_ hK_
    refine al_show (m := Mem.plus (memOf w0 Z0 [] [] []) X_ Y_) (S := over (put (put (tab [(0, (str a0)), (2, (Value.slice none 0 0)), (3, (Value.int .i64 r2))]) 14 (str a0)) 16 (Value.int .i64 (IntKind.i64.wrap (r2 + (1 : Int))))) F_) ?_
    refine al_val (ov_strFrom hc7.1 hc7.2 Tryd.underlying9 rfl rfl rfl) ?_
    refine al_nil ?_
    exact fr_fin hK_ ()⟩, trivial⟩ ?_
      intro _
      intro _
      intro _
      intro _
      intro X_ Y_ F_ K_ hK_
      refine al_show (m := Mem.plus (memOf w0 Z0 [] [] []) X_ Y_) (S := over (put (put (put (put (tab [(0, (str a0)), (2, (Value.slice none 0 0)), (3, (Value.int .i64 r2))]) 14 (str a0)) 15 (Value.int .i64 r2)) 16 (Value.int .i64 (IntKind.i64.wrap (r2 + (1 : Int))))) 17 (str (a0.drop ((IntKind.i64.wrap (r2 + (1 : Int)))).toNat))) F_) ?_
      obtain ⟨r9, hc8, h⟩ := opt_some h
      refine al_callX (vs := [(str (a0.drop ((IntKind.i64.wrap (r2 + (1 : Int)))).toNat))]) (f_lumref_cutAt_ok fu (a0.drop ((IntKind.i64.wrap (r2 + (1 : Int)))).toNat) hc8) [] [] [] pre_nil rfl (by simp) (by decide) rfl (.inl rfl) rfl Tryd.func86 rfl rfl rfl (fun v10 => ?_)
      refine al_nil ?_
      refine aq_show (m := Mem.plus (memOf w0 Z0 [] [(oRow v10 9 tyStr r9)] []) X_ Y_) ?_
      refine aq_next hK_ [0] [] [(0, (str a0)), (2, (Value.slice none 0 0)), (3, (Value.int .i64 r2)), (18, v10)] [10, 11, 12, 13] [] rfl rfl (by decide) rfl ⟨rfl, rfl, rfl, rfl, trivial⟩ ⟨rfl, rfl, rfl, rfl, trivial⟩ ?_
      clear hK_ K_ F_ X_ Y_
      refine ta_show (m := (memOf w0 Z0 [] [(oRow v10 9 tyStr r9)] [])) (S := (tab [(0, (str a0)), (2, (Value.slice none 0 0)), (3, (Value.int .i64 r2)), (18, v10)])) ?_
      refine ta_step 9 _ [0, 1, 2, 3] [10, 11, 12, 13] [0, 1, 2, 3] [] [⟨0, 10, Unit, fun _ => { val := (str a0) }⟩, ⟨1, 11, Unit, fun _ => { val := (Value.int .i64 r2) }⟩, ⟨2, 12, Unit, fun _ => { val := (str (a0.take (r2).toNat)) }⟩, ⟨3, 13, Value, fun (i : Value) => { val := i, own := [(oRow i 9 tyStr [(a0.take (r2).toNat)])] }⟩] [] rfl rfl rfl (by kernel_rfl) rfl rfl rfl ⟨⟨_, rfl, [], rfl, by
    intro X_ Y_ F_ K_ hK_
    refine al_show (m := Mem.plus (memOf w0 Z0 [] [(oRow v10 9 tyStr r9)] []) X_ Y_) (S := over (tab [(0, (str a0)), (2, (Value.slice none 0 0)), (3, (Value.int .i64 r2)), (18, v10)]) F_) ?_
    refine al_val (ov_move rfl rfl) ?_
    refine al_nil ?_
    exact fr_fin hK_ ()⟩, ⟨_, rfl, [], rfl, by
    intro X_ Y_ F_ K_ hK_
    refine al_show (m := Mem.plus (memOf w0 Z0 [] [(oRow v10 9 tyStr r9)] []) X_ Y_) (S := over (tab [(0, (str a0)), (2, (Value.slice none 0 0)), (3, (Value.int .i64 r2)), (18, v10)]) F_) ?_
    refine al_val (ov_move rfl rfl) ?_
    refine al_nil ?_
    exact fr_fin hK_ ()⟩, ⟨_, rfl, [0, 1], rfl, by
    intro _
    intro _
    intro X_ Y_ F_ K_ hK_
    refine al_show (m := Mem.plus (memOf w0 Z0 [] [(oRow v10 9 tyStr r9)] []) X_ Y_) (S := over (put (put (tab [(0, (str a0)), (2, (Value.slice none 0 0)), (3, (Value.int .i64 r2)), (18, v10)]) 10 (str a0)) 11 (Value.int .i64 r2)) F_) ?_
    refine al_val (ov_strTo hc5.1 hc5.2 Tryd.underlying9 rfl rfl rfl) ?_
    refine al_nil ?_
    exact fr_fin hK_ ()⟩, ⟨_, rfl, [2], rfl, by
    intro _
    intro X_ Y_ F_ K_ hK_
    refine al_show (m := Mem.plus (memOf w0 Z0 [] [(oRow v10 9 tyStr r9)] []) X_ Y_) (S := over (put (tab [(0, (str a0)), (2, (Value.slice none 0 0)), (3, (Value.int .i64 r2)), (18, v10)]) 12 (str (a0.take (r2).toNat))) F_) ?_
    refine al_buildSlice (τ := tyStr) (e := 9) (k := 1) (sz := 0) (by_ := 0) (z := undef) (cs := [(str (a0.take (r2).toNat))]) (xs := [(a0.take (r2).toNat)]) rfl (by decide) (fun w a hm hs => ⟨([(str (a0.take (r2).toNat))]).toArray, rfl, by simp only [List.map_toArray, List.map_cons, List.map_nil, hs.ev (x := .tmp 12) rfl]; exact run_bs [(str (a0.take (r2).toNat))] [(str (a0.take (r2).toNat))] Tryd.underlying22 to9 rfl rfl (bs_cons (l := [(str (a0.take (r2).toNat))]) (cs := []) (cv_rfl rfl) rfl bs_nil) hm⟩) (fun hm => ⟨_, _, rfl, (fun _ => rfl) hm, rfl⟩) rfl (fun v6 => ?_)
    refine al_nil ?_
    exact fr_fin hK_ v6⟩, trivial⟩ ?_
      intro _
      intro _
      intro _
      intro v6
      intro X_ Y_ F_ K_ hK_
      refine al_show (m := Mem.plus (memOf w0 Z0 [] [(oRow v6 9 tyStr [(a0.take (r2).toNat)]), (oRow v10 9 tyStr r9)] []) X_ Y_) (S := over (put (put (put (put (tab [(0, (str a0)), (2, (Value.slice none 0 0)), (3, (Value.int .i64 r2)), (18, v10)]) 10 (str a0)) 11 (Value.int .i64 r2)) 12 (str (a0.take (r2).toNat))) 13 v6) F_) ?_
      obtain ⟨hc11, h⟩ := req_some h
      refine al_append 0 hc11.1 hc11.2 rfl (src_own (i := 0) 1 rfl) rfl rfl Tryd.underlying22 to9 rfl rfl rfl (fun v12 => ?_)
      refine al_nil ?_
      refine aq_show (m := Mem.plus (memOf w0 Z0 [] [(oRow v12 9 tyStr (([(a0.take (r2).toNat)]) ++ r9)), (oRow v10 9 tyStr r9)] []) X_ Y_) ?_
      refine aq_next hK_ [0, 1] [] [(2, (Value.slice none 0 0)), (19, v12)] [] [] rfl rfl (by decide) rfl ⟨rfl, rfl, trivial⟩ trivial ?_
      clear hK_ K_ F_ X_ Y_
      refine ta_show (m := (memOf w0 Z0 [] [(oRow v12 9 tyStr (([(a0.take (r2).toNat)]) ++ r9)), (oRow v10 9 tyStr r9)] [])) (S := (tab [(2, (Value.slice none 0 0)), (19, v12)])) ?_
      refine ta_step 10 _ [] [] [] [] [] [] rfl rfl rfl (by kernel_rfl) rfl rfl rfl trivial ?_
      intro X_ Y_ F_ K_ hK_
      refine al_show (m := Mem.plus (memOf w0 Z0 [] [(oRow v12 9 tyStr (([(a0.take (r2).toNat)]) ++ r9)), (oRow v10 9 tyStr r9)] []) X_ Y_) (S := over (tab [(2, (Value.slice none 0 0)), (19, v12)]) F_) ?_
      refine al_val (ov_assign rfl rfl) ?_
      refine al_nil ?_
      refine aq_show (m := Mem.plus (memOf w0 Z0 [] [(oRow v12 9 tyStr (([(a0.take (r2).toNat)]) ++ r9)), (oRow v10 9 tyStr r9)] []) X_ Y_) ?_
      refine aq_next hK_ [0, 1] [] [(2, v12)] [] [] rfl rfl (by decide) rfl ⟨rfl, trivial⟩ trivial ?_
      clear hK_ K_ F_ X_ Y_
      refine ta_show (m := (memOf w0 Z0 [] [(oRow v12 9 tyStr (([(a0.take (r2).toNat)]) ++ r9)), (oRow v10 9 tyStr r9)] [])) (S := (tab [(2, v12)])) ?_
      refine ta_end [] [] rfl rfl (by kernel_rfl) rfl trivial ?_
      refine aq_show (m := (memOf w0 Z0 [] [(oRow v12 9 tyStr (([(a0.take (r2).toNat)]) ++ r9)), (oRow v10 9 tyStr r9)] [])) (S := (tab [(2, v12)])) ?_
      refine aq_then ?_
      refine aw_ret ?_
      obtain rfl := Option.some.inj h
      exact fn_ret v12 [0] [] rfl rfl rfl rfl (res1 rfl rfl) rfl rfl rfl (by decide)
def f_lumref_char_L20 (a0 : (List UInt8)) (j4i5 : Int) (kk8 : (Int → Option (Int × Int))) : Nat → Int → Int → Option (Int × Int)
  | 0, _, _ => none
  | k19 + 1, l18i4, l18i53 => (bif (decide (l18i53 < ((cut a0 (1 : Int) j4i5).length : Int))) then (opt (at? (cut a0 (1 : Int) j4i5) l18i53) fun (u22 : UInt8) => (lt (fun (j25b62 : Bool) => (bif j25b62 then (some ((0 : Int), (0 : Int))) else (f_lumref_char_L20 a0 j4i5 kk8 k19 (IntKind.i64.wrap ((IntKind.i64.wrap ((IntKind.i64.wrap ((64 : Int) * l18i4)) + (IntKind.i64.wrap (u22.toNat : Int)))) - (128 : Int))) (IntKind.i64.wrap (l18i53 + (1 : Int)))))) fun (kk26 : Bool → Option (Int × Int)) => (bif (decide ((u22.toNat : Int) < (128 : Int))) then (kk26 true) else (kk26 (decide ((u22.toNat : Int) > (191 : Int))))))) else (kk8 l18i4))
def f_lumref_char (fu : Nat) (a0 : (List UInt8)) : Option (Int × Int) := (bif (a0 == ([] : List UInt8)) then (some ((0 : Int), (0 : Int))) else (req (0 ≤ (0 : Int) ∧ (0 : Int) < (a0.length : Int)) (bif (decide ((IntKind.i64.wrap (En.bAt a0 (0 : Int))) < (128 : Int))) then (some ((IntKind.i64.wrap (En.bAt a0 (0 : Int))), (1 : Int))) else (lt (fun (j4i4 : Int) (j4i5 : Int) (j4i6 : Int) => (bif (decide ((a0.length : Int) < j4i5)) then (some ((0 : Int), (0 : Int))) else (lt (fun (j7i4 : Int) => (lt (fun (j9b84 : Bool) => (bif j9b84 then (some ((0 : Int), (0 : Int))) else (some (j7i4, j4i5)))) fun (kk10 : Bool → Option (Int × Int)) => (bif (decide (j7i4 < j4i6)) then (kk10 true) else (bif (decide (j7i4 > (1114111 : Int))) then (kk10 true) else (bif (decide (j7i4 ≥ (55296 : Int))) then (kk10 (decide (j7i4 < (57344 : Int)))) else (kk10 false)))))) fun (kk8 : Int → Option (Int × Int)) => (req (0 ≤ (1 : Int) ∧ (1 : Int) ≤ j4i5 ∧ j4i5 ≤ (a0.length : Int)) (req ((cut a0 (1 : Int) j4i5).length ≤ 9223372036854775807) (f_lumref_char_L20 a0 j4i5 kk8 fu j4i4 (0 : Int))))))) fun (kk5 : Int → Int → Int → Option (Int × Int)) => (lt (fun (j29b17 : Bool) => (bif j29b17 then (kk5 (IntKind.i64.wrap ((IntKind.i64.wrap (En.bAt a0 (0 : Int))) - (192 : Int))) (2 : Int) (128 : Int)) else (lt (fun (j32b26 : Bool) => (bif j32b26 then (kk5 (IntKind.i64.wrap ((IntKind.i64.wrap (En.bAt a0 (0 : Int))) - (224 : Int))) (3 : Int) (2048 : Int)) else (lt (fun (j35b35 : Bool) => (bif j35b35 then (kk5 (IntKind.i64.wrap ((IntKind.i64.wrap (En.bAt a0 (0 : Int))) - (240 : Int))) (4 : Int) (65536 : Int)) else (some ((0 : Int), (0 : Int))))) fun (kk36 : Bool → Option (Int × Int)) => (bif (decide ((IntKind.i64.wrap (En.bAt a0 (0 : Int))) ≥ (240 : Int))) then (kk36 (decide ((IntKind.i64.wrap (En.bAt a0 (0 : Int))) < (245 : Int)))) else (kk36 false))))) fun (kk33 : Bool → Option (Int × Int)) => (bif (decide ((IntKind.i64.wrap (En.bAt a0 (0 : Int))) ≥ (224 : Int))) then (kk33 (decide ((IntKind.i64.wrap (En.bAt a0 (0 : Int))) < (240 : Int)))) else (kk33 false))))) fun (kk30 : Bool → Option (Int × Int)) => (bif (decide ((IntKind.i64.wrap (En.bAt a0 (0 : Int))) ≥ (194 : Int))) then (kk30 (decide ((IntKind.i64.wrap (En.bAt a0 (0 : Int))) < (224 : Int)))) else (kk30 false)))))))
set_option maxRecDepth 100000 in
set_option maxHeartbeats 2000000 in
theorem f_lumref_char_ok (fu : Nat) (a0 : (List UInt8)) {r : (Int × Int)} (h : f_lumref_char fu a0 = some r) : FnOk Tryd.prog 125 [(str a0)] [] [] (fun (i : Unit) => { val := (Value.tuple #[(Value.int .i64 r.1), (Value.int .i64 r.2)]) }) := by
  unfold f_lumref_char at h
  refine fn_enter Tryd.func125 rfl Tryd.ntmps125 rfl (fun w0 Z0 => ?_)
  refine aw_seq ?_
  refine aw_region ?_
  refine al_val (ov_assign rfl rfl) ?_
  refine al_val (ov_assign rfl rfl) ?_
  refine al_nil ?_
  refine aq_then ?_
  refine aw_seq ?_
  refine aw_seq ?_
  refine aw_region ?_
  refine al_val (ov_move rfl rfl) ?_
  refine al_val (ov_strCmp rfl rfl rfl rfl) ?_
  refine al_nil ?_
  refine aq_then ?_
  refine aw_cond rfl (fun hb1 => ?_) (fun hb1 => ?_)
  · replace h := bif_t hb1 h
    refine aw_seq ?_
    refine aw_region ?_
    refine al_val (ov_assign rfl rfl) ?_
    refine al_val (ov_assign rfl rfl) ?_
    refine al_nil ?_
    refine aq_then ?_
    refine aw_ret ?_
    refine aq_then_ret ?_
    obtain rfl := Option.some.inj h
    exact fn_ret () [] [] rfl rfl rfl rfl (res2 rfl rfl rfl) rfl rfl rfl (by decide)
  · replace h := bif_f hb1 h
    refine aw_skip ?_
    refine aq_then ?_
    refine aw_seq ?_
    refine aw_region ?_
    refine al_val (ov_move rfl rfl) ?_
    obtain ⟨hc2, h⟩ := req_some h
    refine al_val (ov_strIdx hc2.1 hc2.2 Tryd.underlying9 rfl rfl rfl) ?_
    refine al_val (ov_convInt (by rw [Tryd.underlying5]; rfl) Tryd.underlying3 rfl rfl) ?_
    refine al_val (ov_assign rfl rfl) ?_
    refine al_nil ?_
    refine aq_then ?_
    refine aw_seq ?_
    refine aw_seq ?_
    refine aw_region ?_
    refine al_val (ov_move rfl rfl) ?_
    refine al_val (ov_int rfl rfl rfl rfl) ?_
    refine al_nil ?_
    refine aq_then ?_
    refine aw_cond rfl (fun hb3 => ?_) (fun hb3 => ?_)
    · replace h := bif_t hb3 h
      refine aw_seq ?_
      refine aw_region ?_
      refine al_val (ov_move rfl rfl) ?_
      refine al_val (ov_assign rfl rfl) ?_
      refine al_val (ov_assign rfl rfl) ?_
      refine al_nil ?_
      refine aq_then ?_
      refine aw_ret ?_
      refine aq_then_ret ?_
      obtain rfl := Option.some.inj h
      exact fn_ret () [] [] rfl rfl rfl rfl (res2 rfl rfl rfl) rfl rfl rfl (by decide)
    · replace h := bif_f hb3 h
      refine aw_skip ?_
      refine aq_then ?_
      refine aw_seq ?_
      refine aw_region ?_
      refine al_val (ov_assign rfl rfl) ?_
      refine al_val (ov_assign rfl rfl) ?_
      refine al_nil ?_
      refine aq_then ?_
      obtain ⟨kk5, hkk5, h⟩ := lt_some h
      refine aw_seq_join (ι := Int × Int × Int) (fun i => (memOf w0 Z0 [] [] [])) (fun i => (tab [(0, (str a0)), (4, (Value.int .i64 i.1)), (5, (Value.int .i64 i.2.1)), (6, (Value.int .i64 i.2.2))])) (fun i => kk5 i.1 i.2.1 i.2.2 = some r) ?_ ?_
      · rintro ⟨j4i4, j4i5, j4i6⟩ h
        have h : kk5 j4i4 j4i5 j4i6 = some r := h
        rw [hkk5] at h
        dsimp only at h
        clear hkk5
        refine aw_show (m := (memOf w0 Z0 [] [] [])) (S := (tab [(0, (str a0)), (4, (Value.int .i64 j4i4)), (5, (Value.int .i64 j4i5)), (6, (Value.int .i64 j4i6))])) ?_
        refine aw_seq ?_
        refine aw_seq ?_
        refine aw_region ?_
        refine al_val (ov_move rfl rfl) ?_
        refine al_val (ov_strLen Tryd.underlying9 rfl rfl) ?_
        refine al_val (ov_move rfl rfl) ?_
        refine al_val (ov_int rfl rfl rfl rfl) ?_
        refine al_nil ?_
        refine aq_then ?_
        refine aw_cond rfl (fun hb6 => ?_) (fun hb6 => ?_)
        · replace h := bif_t hb6 h
          refine aw_seq ?_
          refine aw_region ?_
          refine al_val (ov_assign rfl rfl) ?_
          refine al_val (ov_assign rfl rfl) ?_
          refine al_nil ?_
          refine aq_then ?_
          refine aw_ret ?_
          refine aq_then_ret ?_
          obtain rfl := Option.some.inj h
          exact fn_ret () [] [] rfl rfl rfl rfl (res2 rfl rfl rfl) rfl rfl rfl (by decide)
        · replace h := bif_f hb6 h
          refine aw_skip ?_
          refine aq_then ?_
          obtain ⟨kk8, hkk8, h⟩ := lt_some h
          refine aw_seq_join (ι := Int) (fun i => (memOf w0 Z0 [] [] [])) (fun i => (tab [(4, (Value.int .i64 i)), (5, (Value.int .i64 j4i5)), (6, (Value.int .i64 j4i6))])) (fun i => kk8 i = some r) ?_ ?_
          · rintro j7i4 h
            have h : kk8 j7i4 = some r := h
            rw [hkk8] at h
            dsimp only at h
            clear hkk8
            refine aw_show (m := (memOf w0 Z0 [] [] [])) (S := (tab [(4, (Value.int .i64 j7i4)), (5, (Value.int .i64 j4i5)), (6, (Value.int .i64 j4i6))])) ?_
            refine aw_seq ?_
            obtain ⟨kk10, hkk10, h⟩ := lt_some h
            refine aw_seq_join (ι := Bool) (fun i => (memOf w0 Z0 [] [] [])) (fun i => (tab [(4, (Value.int .i64 j7i4)), (5, (Value.int .i64 j4i5)), (84, (Value.bool i))])) (fun i => kk10 i = some r) ?_ ?_
            · rintro j9b84 h
              have h : kk10 j9b84 = some r := h
              rw [hkk10] at h
              dsimp only at h
              clear hkk10
              refine aw_show (m := (memOf w0 Z0 [] [] [])) (S := (tab [(4, (Value.int .i64 j7i4)), (5, (Value.int .i64 j4i5)), (84, (Value.bool j9b84))])) ?_
              refine aw_cond rfl (fun hb11 => ?_) (fun hb11 => ?_)
              · replace h := bif_t hb11 h
                refine aw_seq ?_
                refine aw_region ?_
                refine al_val (ov_assign rfl rfl) ?_
                refine al_val (ov_assign rfl rfl) ?_
                refine al_nil ?_
                refine aq_then ?_
                refine aw_ret ?_
                refine aq_then_ret ?_
                obtain rfl := Option.some.inj h
                exact fn_ret () [] [] rfl rfl rfl rfl (res2 rfl rfl rfl) rfl rfl rfl (by decide)
              · replace h := bif_f hb11 h
                refine aw_skip ?_
                refine aq_then ?_
                refine aw_seq ?_
                refine aw_region ?_
                refine al_val (ov_move rfl rfl) ?_
                refine al_val (ov_move rfl rfl) ?_
                refine al_val (ov_assign rfl rfl) ?_
                refine al_val (ov_assign rfl rfl) ?_
                refine al_nil ?_
                refine aq_then ?_
                refine aw_ret ?_
                obtain rfl := Option.some.inj h
                exact fn_ret () [] [] rfl rfl rfl rfl (res2 rfl rfl rfl) rfl rfl rfl (by decide)
            · clear hkk10
              refine aw_region ?_
              refine al_val (ov_move rfl rfl) ?_
              refine al_val (ov_move rfl rfl) ?_
              refine al_val (ov_int rfl rfl rfl rfl) ?_
              refine al_val (ov_move rfl rfl) ?_
              refine al_caseB 73 rfl (fun hb12 => ?_) (fun hb12 => ?_)
              · replace h := bif_t hb12 h
                refine al_skip ?_
                refine al_skip ?_
                refine al_val (ov_pick_t rfl rfl rfl) ?_
                refine al_val (ov_move rfl rfl) ?_
                refine al_skip ?_
                refine al_skip ?_
                refine al_skip ?_
                refine al_skip ?_
                refine al_skip ?_
                refine al_skip ?_
                refine al_val (ov_pick_t rfl rfl rfl) ?_
                refine al_nil ?_
                exact aq_join true h (fun w a hm hs => norm hm hs [] [] [(4, (Value.int .i64 j7i4)), (5, (Value.int .i64 j4i5)), (84, (Value.bool true))] (by decide) ⟨rfl, rfl, rfl, trivial⟩)
              · replace h := bif_f hb12 h
                refine al_val (ov_move rfl rfl) ?_
                refine al_val (ov_int rfl rfl rfl rfl) ?_
                refine al_val (ov_pick_f rfl rfl rfl) ?_
                refine al_val (ov_move rfl rfl) ?_
                refine al_caseB 77 rfl (fun hb13 => ?_) (fun hb13 => ?_)
                · replace h := bif_t hb13 h
                  refine al_skip ?_
                  refine al_skip ?_
                  refine al_skip ?_
                  refine al_skip ?_
                  refine al_skip ?_
                  refine al_skip ?_
                  refine al_val (ov_pick_t rfl rfl rfl) ?_
                  refine al_nil ?_
                  exact aq_join true h (fun w a hm hs => norm hm hs [] [] [(4, (Value.int .i64 j7i4)), (5, (Value.int .i64 j4i5)), (84, (Value.bool true))] (by decide) ⟨rfl, rfl, rfl, trivial⟩)
                · replace h := bif_f hb13 h
                  refine al_val (ov_move rfl rfl) ?_
                  refine al_val (ov_int rfl rfl rfl rfl) ?_
                  refine al_val (ov_move rfl rfl) ?_
                  refine al_caseB 80 rfl (fun hb14 => ?_) (fun hb14 => ?_)
                  · replace h := bif_t hb14 h
                    refine al_val (ov_move rfl rfl) ?_
                    refine al_val (ov_int rfl rfl rfl rfl) ?_
                    refine al_val (ov_pick_t rfl rfl rfl) ?_
                    refine al_val (ov_pick_f rfl rfl rfl) ?_
                    refine al_nil ?_
                    exact aq_join (decide (j7i4 < (57344 : Int))) h (fun w a hm hs => norm hm hs [] [] [(4, (Value.int .i64 j7i4)), (5, (Value.int .i64 j4i5)), (84, (Value.bool (decide (j7i4 < (57344 : Int)))))] (by decide) ⟨rfl, rfl, rfl, trivial⟩)
                  · replace h := bif_f hb14 h
                    refine al_skip ?_
                    refine al_skip ?_
                    refine al_val (ov_pick_f rfl rfl rfl) ?_
                    refine al_val (ov_pick_f rfl rfl rfl) ?_
                    refine al_nil ?_
                    exact aq_join false h (fun w a hm hs => norm hm hs [] [] [(4, (Value.int .i64 j7i4)), (5, (Value.int .i64 j4i5)), (84, (Value.bool false))] (by decide) ⟨rfl, rfl, rfl, trivial⟩)
          · clear hkk8
            refine aw_seq ?_
            refine aw_region ?_
            refine al_val (ov_move rfl rfl) ?_
            refine al_val (ov_move rfl rfl) ?_
            obtain ⟨hc15, h⟩ := req_some h
            refine al_val (ov_strCut hc15.1 hc15.2.1 hc15.2.2 Tryd.underlying9 rfl rfl rfl rfl) ?_
            obtain ⟨hc16, h⟩ := req_some h
            refine al_bytes hc16 rfl Tryd.underlying9 Tryd.underlying89 Tryd.underlying5 rfl (fun s17 => ?_)
            refine al_val (ov_lenD 0 rfl rfl Tryd.underlying89 rfl) ?_
            refine al_val (ov_move rfl rfl) ?_
            refine al_nil ?_
            refine aq_then ?_
            refine aw_block ?_
            refine aw_state (aw_loop (ι := Int × Int) (fun i => (memOf w0 Z0 [] [] [(fDat (tyList tyU8) [s17] (cut a0 (1 : Int) j4i5))])) (fun i => (tab [(4, (Value.int .i64 i.1)), (5, (Value.int .i64 j4i5)), (6, (Value.int .i64 j4i6)), (51, s17), (52, (Value.int .i64 ((cut a0 (1 : Int) j4i5).length : Int))), (53, (Value.int .i64 i.2))])) (fun q i => f_lumref_char_L20 a0 j4i5 kk8 q i.1 i.2 = some r) ?_ fu (j4i4, (0 : Int)) h) (fun w a hm hs => norm hm hs [] [0] [(4, (Value.int .i64 j4i4)), (5, (Value.int .i64 j4i5)), (6, (Value.int .i64 j4i6)), (51, s17), (52, (Value.int .i64 ((cut a0 (1 : Int) j4i5).length : Int))), (53, (Value.int .i64 (0 : Int)))] (by decide) ⟨rfl, rfl, rfl, rfl, rfl, rfl, trivial⟩)
            clear h
            rintro k19 ⟨l18i4, l18i53⟩ h
            have h : f_lumref_char_L20 a0 j4i5 kk8 k19 l18i4 l18i53 = some r := h
            obtain _ | k19 := k19
            · rw [f_lumref_char_L20] at h; cases h
            rw [f_lumref_char_L20] at h
            refine aw_show (m := (memOf w0 Z0 [] [] [(fDat (tyList tyU8) [s17] (cut a0 (1 : Int) j4i5))])) (S := (tab [(4, (Value.int .i64 l18i4)), (5, (Value.int .i64 j4i5)), (6, (Value.int .i64 j4i6)), (51, s17), (52, (Value.int .i64 ((cut a0 (1 : Int) j4i5).length : Int))), (53, (Value.int .i64 l18i53))])) ?_
            refine aw_seq ?_
            refine aw_region ?_
            refine al_val (ov_int rfl rfl rfl rfl) ?_
            refine al_nil ?_
            refine aq_then ?_
            refine aw_seq ?_
            refine aw_cond rfl (fun hb21 => ?_) (fun hb21 => ?_)
            · replace h := bif_t hb21 h
              refine aw_skip ?_
              refine aq_then ?_
              refine aw_seq ?_
              refine aw_block ?_
              refine aw_seq ?_
              refine aw_region ?_
              obtain ⟨u22, hu23, h⟩ := opt_some h
              refine al_idxD 0 hu23 rfl rfl rfl Tryd.underlying89 sz5 rfl (fun p24 => ?_)
              refine al_val (ov_loadP (ds := [(Value.int .u8 (u22.toNat : Int))]) 0 rfl (fun h => h) rfl Tryd.underlying5 sz5 rfl rfl rfl) ?_
              refine al_val (ov_assign rfl rfl) ?_
              refine al_nil ?_
              refine aq_then ?_
              refine aw_seq ?_
              obtain ⟨kk26, hkk26, h⟩ := lt_some h
              refine aw_seq_join (ι := Bool) (fun i => (memOf w0 Z0 [] [] [(fDat (tyList tyU8) [s17] (cut a0 (1 : Int) j4i5)), (fPtr tyU8 p24 u22)])) (fun i => (tab [(4, (Value.int .i64 l18i4)), (5, (Value.int .i64 j4i5)), (6, (Value.int .i64 j4i6)), (8, (Value.int .u8 (u22.toNat : Int))), (51, s17), (52, (Value.int .i64 ((cut a0 (1 : Int) j4i5).length : Int))), (53, (Value.int .i64 l18i53)), (62, (Value.bool i))])) (fun i => kk26 i = some r) ?_ ?_
              · rintro j25b62 h
                have h : kk26 j25b62 = some r := h
                rw [hkk26] at h
                dsimp only at h
                clear hkk26
                refine aw_show (m := (memOf w0 Z0 [] [] [(fDat (tyList tyU8) [s17] (cut a0 (1 : Int) j4i5)), (fPtr tyU8 p24 u22)])) (S := (tab [(4, (Value.int .i64 l18i4)), (5, (Value.int .i64 j4i5)), (6, (Value.int .i64 j4i6)), (8, (Value.int .u8 (u22.toNat : Int))), (51, s17), (52, (Value.int .i64 ((cut a0 (1 : Int) j4i5).length : Int))), (53, (Value.int .i64 l18i53)), (62, (Value.bool j25b62))])) ?_
                refine aw_cond rfl (fun hb27 => ?_) (fun hb27 => ?_)
                · replace h := bif_t hb27 h
                  refine aw_seq ?_
                  refine aw_region ?_
                  refine al_val (ov_assign rfl rfl) ?_
                  refine al_val (ov_assign rfl rfl) ?_
                  refine al_nil ?_
                  refine aq_then ?_
                  refine aw_ret ?_
                  refine aq_then_ret ?_
                  refine aq_block_ret ?_
                  refine aq_then_ret ?_
                  refine aq_then_ret ?_
                  refine aq_block_ret ?_
                  refine aq_then_ret ?_
                  obtain rfl := Option.some.inj h
                  exact fn_ret () [] [] rfl rfl rfl rfl (res2 rfl rfl rfl) rfl rfl rfl (by decide)
                · replace h := bif_f hb27 h
                  refine aw_skip ?_
                  refine aq_then ?_
                  refine aw_region ?_
                  refine al_val (ov_move rfl rfl) ?_
                  refine al_val (ov_int rfl rfl rfl rfl) ?_
                  refine al_val (ov_move rfl rfl) ?_
                  refine al_val (ov_convInt (by rw [Tryd.underlying5]; rfl) Tryd.underlying3 rfl rfl) ?_
                  refine al_val (ov_int rfl rfl rfl rfl) ?_
                  refine al_val (ov_int rfl rfl rfl rfl) ?_
                  refine al_val (ov_assign rfl rfl) ?_
                  refine al_nil ?_
                  refine aq_block ?_
                  refine aq_then ?_
                  refine aw_region ?_
                  refine al_val (ov_int rfl rfl rfl rfl) ?_
                  refine al_val (ov_move rfl rfl) ?_
                  refine al_nil ?_
                  exact aq_again k19 ((IntKind.i64.wrap ((IntKind.i64.wrap ((IntKind.i64.wrap ((64 : Int) * l18i4)) + (IntKind.i64.wrap (u22.toNat : Int)))) - (128 : Int))), (IntKind.i64.wrap (l18i53 + (1 : Int)))) (Nat.lt_succ_self _) h (fun w a hm hs => norm hm hs [] [0] [(4, (Value.int .i64 (IntKind.i64.wrap ((IntKind.i64.wrap ((IntKind.i64.wrap ((64 : Int) * l18i4)) + (IntKind.i64.wrap (u22.toNat : Int)))) - (128 : Int))))), (5, (Value.int .i64 j4i5)), (6, (Value.int .i64 j4i6)), (51, s17), (52, (Value.int .i64 ((cut a0 (1 : Int) j4i5).length : Int))), (53, (Value.int .i64 (IntKind.i64.wrap (l18i53 + (1 : Int)))))] (by decide) ⟨rfl, rfl, rfl, rfl, rfl, rfl, trivial⟩)
              · clear hkk26
                refine aw_region ?_
                refine al_val (ov_move rfl rfl) ?_
                refine al_val (ov_int rfl rfl rfl rfl) ?_
                refine al_val (ov_move rfl rfl) ?_
                refine al_caseB 59 rfl (fun hb28 => ?_) (fun hb28 => ?_)
                · replace h := bif_t hb28 h
                  refine al_skip ?_
                  refine al_skip ?_
                  refine al_val (ov_pick_t rfl rfl rfl) ?_
                  refine al_nil ?_
                  exact aq_join true h (fun w a hm hs => norm hm hs [] [1, 0] [(4, (Value.int .i64 l18i4)), (5, (Value.int .i64 j4i5)), (6, (Value.int .i64 j4i6)), (8, (Value.int .u8 (u22.toNat : Int))), (51, s17), (52, (Value.int .i64 ((cut a0 (1 : Int) j4i5).length : Int))), (53, (Value.int .i64 l18i53)), (62, (Value.bool true))] (by decide) ⟨rfl, rfl, rfl, rfl, rfl, rfl, rfl, rfl, trivial⟩)
                · replace h := bif_f hb28 h
                  refine al_val (ov_move rfl rfl) ?_
                  refine al_val (ov_int rfl rfl rfl rfl) ?_
                  refine al_val (ov_pick_f rfl rfl rfl) ?_
                  refine al_nil ?_
                  exact aq_join (decide ((u22.toNat : Int) > (191 : Int))) h (fun w a hm hs => norm hm hs [] [1, 0] [(4, (Value.int .i64 l18i4)), (5, (Value.int .i64 j4i5)), (6, (Value.int .i64 j4i6)), (8, (Value.int .u8 (u22.toNat : Int))), (51, s17), (52, (Value.int .i64 ((cut a0 (1 : Int) j4i5).length : Int))), (53, (Value.int .i64 l18i53)), (62, (Value.bool (decide ((u22.toNat : Int) > (191 : Int)))))] (by decide) ⟨rfl, rfl, rfl, rfl, rfl, rfl, rfl, rfl, trivial⟩)
            · replace h := bif_f hb21 h
              refine aw_exit ?_
              refine aq_then_exit ?_
              refine aq_then_exit ?_
              refine aq_block_exit ?_
              exact aq_join l18i4 h (fun w a hm hs => norm hm hs [] [] [(4, (Value.int .i64 l18i4)), (5, (Value.int .i64 j4i5)), (6, (Value.int .i64 j4i6))] (by decide) ⟨rfl, rfl, rfl, trivial⟩)
      · clear hkk5
        refine aw_block ?_
        obtain ⟨kk30, hkk30, h⟩ := lt_some h
        refine aw_seq_join (ι := Bool) (fun i => (memOf w0 Z0 [] [] [])) (fun i => (tab [(0, (str a0)), (4, (Value.int .i64 (IntKind.i64.wrap (En.bAt a0 (0 : Int))))), (17, (Value.bool i))])) (fun i => kk30 i = some r) ?_ ?_
        · rintro j29b17 h
          have h : kk30 j29b17 = some r := h
          rw [hkk30] at h
          dsimp only at h
          clear hkk30
          refine aw_show (m := (memOf w0 Z0 [] [] [])) (S := (tab [(0, (str a0)), (4, (Value.int .i64 (IntKind.i64.wrap (En.bAt a0 (0 : Int))))), (17, (Value.bool j29b17))])) ?_
          refine aw_cond rfl (fun hb31 => ?_) (fun hb31 => ?_)
          · replace h := bif_t hb31 h
            refine aw_region ?_
            refine al_val (ov_move rfl rfl) ?_
            refine al_val (ov_int rfl rfl rfl rfl) ?_
            refine al_val (ov_assign rfl rfl) ?_
            refine al_val (ov_assign rfl rfl) ?_
            refine al_val (ov_assign rfl rfl) ?_
            refine al_nil ?_
            refine aq_block ?_
            exact aq_join ((IntKind.i64.wrap ((IntKind.i64.wrap (En.bAt a0 (0 : Int))) - (192 : Int))), (2 : Int), (128 : Int)) h (fun w a hm hs => norm hm hs [] [] [(0, (str a0)), (4, (Value.int .i64 (IntKind.i64.wrap ((IntKind.i64.wrap (En.bAt a0 (0 : Int))) - (192 : Int))))), (5, (Value.int .i64 (2 : Int))), (6, (Value.int .i64 (128 : Int)))] (by decide) ⟨rfl, rfl, rfl, rfl, trivial⟩)
          · replace h := bif_f hb31 h
            obtain ⟨kk33, hkk33, h⟩ := lt_some h
            refine aw_seq_join (ι := Bool) (fun i => (memOf w0 Z0 [] [] [])) (fun i => (tab [(0, (str a0)), (4, (Value.int .i64 (IntKind.i64.wrap (En.bAt a0 (0 : Int))))), (26, (Value.bool i))])) (fun i => kk33 i = some r) ?_ ?_
            · rintro j32b26 h
              have h : kk33 j32b26 = some r := h
              rw [hkk33] at h
              dsimp only at h
              clear hkk33
              refine aw_show (m := (memOf w0 Z0 [] [] [])) (S := (tab [(0, (str a0)), (4, (Value.int .i64 (IntKind.i64.wrap (En.bAt a0 (0 : Int))))), (26, (Value.bool j32b26))])) ?_
              refine aw_cond rfl (fun hb34 => ?_) (fun hb34 => ?_)
              · replace h := bif_t hb34 h
                refine aw_region ?_
                refine al_val (ov_move rfl rfl) ?_
                refine al_val (ov_int rfl rfl rfl rfl) ?_
                refine al_val (ov_assign rfl rfl) ?_
                refine al_val (ov_assign rfl rfl) ?_
                refine al_val (ov_assign rfl rfl) ?_
                refine al_nil ?_
                refine aq_block ?_
                exact aq_join ((IntKind.i64.wrap ((IntKind.i64.wrap (En.bAt a0 (0 : Int))) - (224 : Int))), (3 : Int), (2048 : Int)) h (fun w a hm hs => norm hm hs [] [] [(0, (str a0)), (4, (Value.int .i64 (IntKind.i64.wrap ((IntKind.i64.wrap (En.bAt a0 (0 : Int))) - (224 : Int))))), (5, (Value.int .i64 (3 : Int))), (6, (Value.int .i64 (2048 : Int)))] (by decide) ⟨rfl, rfl, rfl, rfl, trivial⟩)
              · replace h := bif_f hb34 h
                obtain ⟨kk36, hkk36, h⟩ := lt_some h
                refine aw_seq_join (ι := Bool) (fun i => (memOf w0 Z0 [] [] [])) (fun i => (tab [(0, (str a0)), (4, (Value.int .i64 (IntKind.i64.wrap (En.bAt a0 (0 : Int))))), (35, (Value.bool i))])) (fun i => kk36 i = some r) ?_ ?_
                · rintro j35b35 h
                  have h : kk36 j35b35 = some r := h
                  rw [hkk36] at h
                  dsimp only at h
                  clear hkk36
                  refine aw_show (m := (memOf w0 Z0 [] [] [])) (S := (tab [(0, (str a0)), (4, (Value.int .i64 (IntKind.i64.wrap (En.bAt a0 (0 : Int))))), (35, (Value.bool j35b35))])) ?_
                  refine aw_cond rfl (fun hb37 => ?_) (fun hb37 => ?_)
                  · replace h := bif_t hb37 h
                    refine aw_region ?_
                    refine al_val (ov_move rfl rfl) ?_
                    refine al_val (ov_int rfl rfl rfl rfl) ?_
                    refine al_val (ov_assign rfl rfl) ?_
                    refine al_val (ov_assign rfl rfl) ?_
                    refine al_val (ov_assign rfl rfl) ?_
                    refine al_nil ?_
                    refine aq_block ?_
                    exact aq_join ((IntKind.i64.wrap ((IntKind.i64.wrap (En.bAt a0 (0 : Int))) - (240 : Int))), (4 : Int), (65536 : Int)) h (fun w a hm hs => norm hm hs [] [] [(0, (str a0)), (4, (Value.int .i64 (IntKind.i64.wrap ((IntKind.i64.wrap (En.bAt a0 (0 : Int))) - (240 : Int))))), (5, (Value.int .i64 (4 : Int))), (6, (Value.int .i64 (65536 : Int)))] (by decide) ⟨rfl, rfl, rfl, rfl, trivial⟩)
                  · replace h := bif_f hb37 h
                    refine aw_seq ?_
                    refine aw_region ?_
                    refine al_val (ov_assign rfl rfl) ?_
                    refine al_val (ov_assign rfl rfl) ?_
                    refine al_nil ?_
                    refine aq_then ?_
                    refine aw_ret ?_
                    refine aq_block_ret ?_
                    refine aq_then_ret ?_
                    obtain rfl := Option.some.inj h
                    exact fn_ret () [] [] rfl rfl rfl rfl (res2 rfl rfl rfl) rfl rfl rfl (by decide)
                · clear hkk36
                  refine aw_region ?_
                  refine al_val (ov_move rfl rfl) ?_
                  refine al_val (ov_int rfl rfl rfl rfl) ?_
                  refine al_val (ov_move rfl rfl) ?_
                  refine al_caseB 38 rfl (fun hb38 => ?_) (fun hb38 => ?_)
                  · replace h := bif_t hb38 h
                    refine al_val (ov_move rfl rfl) ?_
                    refine al_val (ov_int rfl rfl rfl rfl) ?_
                    refine al_val (ov_pick_t rfl rfl rfl) ?_
                    refine al_val (ov_assign rfl rfl) ?_
                    refine al_nil ?_
                    exact aq_join (decide ((IntKind.i64.wrap (En.bAt a0 (0 : Int))) < (245 : Int))) h (fun w a hm hs => norm hm hs [] [] [(0, (str a0)), (4, (Value.int .i64 (IntKind.i64.wrap (En.bAt a0 (0 : Int))))), (35, (Value.bool (decide ((IntKind.i64.wrap (En.bAt a0 (0 : Int))) < (245 : Int)))))] (by decide) ⟨rfl, rfl, rfl, trivial⟩)
                  · replace h := bif_f hb38 h
                    refine al_skip ?_
                    refine al_skip ?_
                    refine al_val (ov_pick_f rfl rfl rfl) ?_
                    refine al_val (ov_assign rfl rfl) ?_
                    refine al_nil ?_
                    exact aq_join false h (fun w a hm hs => norm hm hs [] [] [(0, (str a0)), (4, (Value.int .i64 (IntKind.i64.wrap (En.bAt a0 (0 : Int))))), (35, (Value.bool false))] (by decide) ⟨rfl, rfl, rfl, trivial⟩)
            · clear hkk33
              refine aw_region ?_
              refine al_val (ov_move rfl rfl) ?_
              refine al_val (ov_int rfl rfl rfl rfl) ?_
              refine al_val (ov_move rfl rfl) ?_
              refine al_caseB 29 rfl (fun hb39 => ?_) (fun hb39 => ?_)
              · replace h := bif_t hb39 h
                refine al_val (ov_move rfl rfl) ?_
                refine al_val (ov_int rfl rfl rfl rfl) ?_
                refine al_val (ov_pick_t rfl rfl rfl) ?_
                refine al_val (ov_assign rfl rfl) ?_
                refine al_nil ?_
                exact aq_join (decide ((IntKind.i64.wrap (En.bAt a0 (0 : Int))) < (240 : Int))) h (fun w a hm hs => norm hm hs [] [] [(0, (str a0)), (4, (Value.int .i64 (IntKind.i64.wrap (En.bAt a0 (0 : Int))))), (26, (Value.bool (decide ((IntKind.i64.wrap (En.bAt a0 (0 : Int))) < (240 : Int)))))] (by decide) ⟨rfl, rfl, rfl, trivial⟩)
              · replace h := bif_f hb39 h
                refine al_skip ?_
                refine al_skip ?_
                refine al_val (ov_pick_f rfl rfl rfl) ?_
                refine al_val (ov_assign rfl rfl) ?_
                refine al_nil ?_
                exact aq_join false h (fun w a hm hs => norm hm hs [] [] [(0, (str a0)), (4, (Value.int .i64 (IntKind.i64.wrap (En.bAt a0 (0 : Int))))), (26, (Value.bool false))] (by decide) ⟨rfl, rfl, rfl, trivial⟩)
        · clear hkk30
          refine aw_region ?_
          refine al_val (ov_move rfl rfl) ?_
          refine al_val (ov_int rfl rfl rfl rfl) ?_
          refine al_val (ov_move rfl rfl) ?_
          refine al_caseB 20 rfl (fun hb40 => ?_) (fun hb40 => ?_)
          · replace h := bif_t hb40 h
            refine al_val (ov_move rfl rfl) ?_
            refine al_val (ov_int rfl rfl rfl rfl) ?_
            refine al_val (ov_pick_t rfl rfl rfl) ?_
            refine al_val (ov_assign rfl rfl) ?_
            refine al_nil ?_
            exact aq_join (decide ((IntKind.i64.wrap (En.bAt a0 (0 : Int))) < (224 : Int))) h (fun w a hm hs => norm hm hs [] [] [(0, (str a0)), (4, (Value.int .i64 (IntKind.i64.wrap (En.bAt a0 (0 : Int))))), (17, (Value.bool (decide ((IntKind.i64.wrap (En.bAt a0 (0 : Int))) < (224 : Int)))))] (by decide) ⟨rfl, rfl, rfl, trivial⟩)
          · replace h := bif_f hb40 h
            refine al_skip ?_
            refine al_skip ?_
            refine al_val (ov_pick_f rfl rfl rfl) ?_
            refine al_val (ov_assign rfl rfl) ?_
            refine al_nil ?_
            exact aq_join false h (fun w a hm hs => norm hm hs [] [] [(0, (str a0)), (4, (Value.int .i64 (IntKind.i64.wrap (En.bAt a0 (0 : Int))))), (17, (Value.bool false))] (by decide) ⟨rfl, rfl, rfl, trivial⟩)
def f_lumref_Chars_L5 (kk2 : ((List Int) → Option ((List Int) × Bool))) (fu : Nat) : Nat → (List UInt8) → (List Int) → Option ((List Int) × Bool)
  | 0, _, _ => none
  | k4 + 1, l3s0, l3x4 => (bif (!(l3s0 == ([] : List UInt8))) then (opt (f_lumref_char fu l3s0) fun (r8 : (Int × Int)) => (bif (r8.2 == (0 : Int)) then (some (([] : List Int), false)) else (req (((l3x4.length + ([r8.1]).length) * 8 : Nat) ≤ 140737488355328 ∧ l3x4.length + ([r8.1]).length ≤ 9223372036854775807) (req (0 ≤ r8.2 ∧ r8.2 ≤ (l3s0.length : Int)) (f_lumref_Chars_L5 kk2 fu k4 (l3s0.drop (r8.2).toNat) (l3x4 ++ ([r8.1]))))))) else (kk2 l3x4))
def f_lumref_Chars (fu : Nat) (a0 : (List UInt8)) : Option ((List Int) × Bool) := (lt (fun (j1x4 : (List Int)) => (some (j1x4, true))) fun (kk2 : (List Int) → Option ((List Int) × Bool)) => (f_lumref_Chars_L5 kk2 fu fu a0 ([] : List Int)))
set_option maxRecDepth 100000 in
theorem f_lumref_Chars_ok (fu : Nat) (a0 : (List UInt8)) {r : ((List Int) × Bool)} (h : f_lumref_Chars fu a0 = some r) : FnOk Tryd.prog 92 [(str a0)] [] [] (fun (i : Value) => { val := (Value.tuple #[i, (Value.bool r.2)]), own := [(oRow i 3 (tyInt .i64) r.1)] }) := by
  unfold f_lumref_Chars at h
  refine fn_enter Tryd.func92 rfl Tryd.ntmps92 rfl (fun w0 Z0 => ?_)
  refine aw_seq ?_
  refine aw_region ?_
  refine al_val (ov_assign rfl rfl) ?_
  refine al_val (ov_assign rfl rfl) ?_
  refine al_nil ?_
  refine aq_then ?_
  refine aw_seq ?_
  refine aw_region ?_
  refine al_val (ov_assign rfl rfl) ?_
  refine al_nil ?_
  refine aq_then ?_
  obtain ⟨kk2, hkk2, h⟩ := lt_some h
  refine aw_seq_join (ι := Value × (List Int)) (fun i => (memOf w0 Z0 [] [(oRow i.1 3 (tyInt .i64) i.2)] [])) (fun i => (tab [(4, i.1)])) (fun i => kk2 i.2 = some r) ?_ ?_
  · rintro ⟨j1v4, j1x4⟩ h
    have h : kk2 j1x4 = some r := h
    rw [hkk2] at h
    dsimp only at h
    clear hkk2
    refine aw_show (m := (memOf w0 Z0 [] [(oRow j1v4 3 (tyInt .i64) j1x4)] [])) (S := (tab [(4, j1v4)])) ?_
    refine aw_seq ?_
    refine aw_region ?_
    refine al_val (ov_move rfl rfl) ?_
    refine al_val (ov_assign rfl rfl) ?_
    refine al_val (ov_assign rfl rfl) ?_
    refine al_nil ?_
    refine aq_then ?_
    refine aw_ret ?_
    obtain rfl := Option.some.inj h
    exact fn_ret j1v4 [0] [] rfl rfl rfl rfl (res2 rfl rfl rfl) rfl rfl rfl (by decide)
  · clear hkk2
    refine aw_block ?_
    refine aw_nilR 3 (tyInt .i64) ?_
    refine aw_state (aw_loop (ι := (List UInt8) × Value × (List Int)) (fun i => (memOf w0 Z0 [] [(oRow i.2.1 3 (tyInt .i64) i.2.2)] [])) (fun i => (tab [(0, (str i.1)), (4, i.2.1)])) (fun q i => f_lumref_Chars_L5 kk2 fu q i.1 i.2.2 = some r) ?_ fu (a0, (Value.slice none 0 0), ([] : List Int)) h) (fun w a hm hs => norm hm hs [0] [] [(0, (str a0)), (4, (Value.slice none 0 0))] (by decide) ⟨rfl, rfl, trivial⟩)
    clear h
    rintro k4 ⟨l3s0, l3v4, l3x4⟩ h
    have h : f_lumref_Chars_L5 kk2 fu k4 l3s0 l3x4 = some r := h
    obtain _ | k4 := k4
    · rw [f_lumref_Chars_L5] at h; cases h
    rw [f_lumref_Chars_L5] at h
    refine aw_show (m := (memOf w0 Z0 [] [(oRow l3v4 3 (tyInt .i64) l3x4)] [])) (S := (tab [(0, (str l3s0)), (4, l3v4)])) ?_
    refine aw_seq ?_
    refine aw_seq ?_
    refine aw_region ?_
    refine al_val (ov_move rfl rfl) ?_
    refine al_val (ov_strCmp rfl rfl rfl rfl) ?_
    refine al_nil ?_
    refine aq_then ?_
    refine aw_cond rfl (fun hb6 => ?_) (fun hb6 => ?_)
    · replace h := bif_t hb6 h
      refine aw_skip ?_
      refine aq_then ?_
      refine aw_block ?_
      refine aw_seq ?_
      refine aw_region ?_
      refine al_val (ov_move rfl rfl) ?_
      obtain ⟨r8, hc7, h⟩ := opt_some h
      refine al_call (vs := [(str l3s0)]) (f_lumref_char_ok fu l3s0 hc7) [] [] [0] pre_nil rfl (by simp) (by decide) (.inl rfl) rfl Tryd.func125 rfl rfl rfl (fun _ => ?_)
      refine al_val (ov_move rfl rfl) ?_
      refine al_val (ov_extract rfl rfl rfl) ?_
      refine al_val (ov_extract rfl rfl rfl) ?_
      refine al_val (ov_assign rfl rfl) ?_
      refine al_val (ov_assign rfl rfl) ?_
      refine al_nil ?_
      refine aq_then ?_
      refine aw_seq ?_
      refine aw_seq ?_
      refine aw_region ?_
      refine al_val (ov_move rfl rfl) ?_
      refine al_val (ov_int rfl rfl rfl rfl) ?_
      refine al_nil ?_
      refine aq_then ?_
      refine aw_cond rfl (fun hb9 => ?_) (fun hb9 => ?_)
      · replace h := bif_t hb9 h
        refine aw_seq ?_
        refine aw_region ?_
        refine al_val (ov_assign rfl rfl) ?_
        refine al_val (ov_assign rfl rfl) ?_
        refine al_nil ?_
        refine aq_then ?_
        refine aw_ret ?_
        refine aq_then_ret ?_
        refine aq_block_ret ?_
        refine aq_then_ret ?_
        refine aq_block_ret ?_
        refine aq_then_ret ?_
        refine aq_nilR 3 (tyInt .i64) ?_
        obtain rfl := Option.some.inj h
        exact fn_ret (Value.slice none 0 0) [0] [] rfl rfl rfl rfl (res2 rfl rfl rfl) rfl rfl rfl (by decide)
      · replace h := bif_f hb9 h
        refine aw_skip ?_
        refine aq_then ?_
        refine aw_seq ?_
        refine aw_region ?_
        refine al_val (ov_move rfl rfl) ?_
        refine al_val (ov_move rfl rfl) ?_
        refine al_buildSlice (τ := (tyInt .i64)) (e := 3) (k := 1) (sz := 0) (by_ := 0) (z := undef) (cs := [(Value.int .i64 r8.1)]) (xs := [r8.1]) rfl (by decide) (fun w a hm hs => ⟨([(Value.int .i64 r8.1)]).toArray, rfl, by simp only [List.map_toArray, List.map_cons, List.map_nil, hs.ev (x := .tmp 17) rfl]; exact run_bs [(Value.int .i64 r8.1)] [(Value.int .i64 r8.1)] Tryd.underlying59 to3 rfl rfl (bs_cons (l := [(Value.int .i64 r8.1)]) (cs := []) (cv_rfl rfl) rfl bs_nil) hm⟩) (fun hm => ⟨_, _, rfl, (fun _ => rfl) hm, rfl⟩) rfl (fun v10 => ?_)
        obtain ⟨hc11, h⟩ := req_some h
        refine al_append 1 hc11.1 hc11.2 rfl (src_own (i := 1) 0 rfl) rfl rfl Tryd.underlying59 to3 rfl rfl rfl (fun v12 => ?_)
        refine al_val (ov_assign rfl rfl) ?_
        refine al_nil ?_
        refine aq_then ?_
        refine aw_region ?_
        refine al_val (ov_move rfl rfl) ?_
        refine al_val (ov_move rfl rfl) ?_
        obtain ⟨hc13, h⟩ := req_some h
        refine al_val (ov_strFrom hc13.1 hc13.2 Tryd.underlying9 rfl rfl rfl) ?_
        refine al_val (ov_assign rfl rfl) ?_
        refine al_nil ?_
        refine aq_block ?_
        exact aq_again k4 ((l3s0.drop (r8.2).toNat), v12, (l3x4 ++ ([r8.1]))) (Nat.lt_succ_self _) h (fun w a hm hs => norm hm hs [1] [] [(0, (str (l3s0.drop (r8.2).toNat))), (4, v12)] (by decide) ⟨rfl, rfl, trivial⟩)
    · replace h := bif_f hb6 h
      refine aw_exit ?_
      refine aq_then_exit ?_
      refine aq_then_exit ?_
      refine aq_block_exit ?_
      exact aq_join (l3v4, l3x4) h (fun w a hm hs => norm hm hs [0] [] [(4, l3v4)] (by decide) ⟨rfl, trivial⟩)
def f_lumref_Name_L12 (r2 : ((List Int) × Bool)) (kk8 : (Unit → Option Int)) : Nat → Int → Option Int
  | 0, _ => none
  | k11 + 1, l10i29 => (bif (decide (l10i29 < (r2.1.length : Int))) then (opt (at? r2.1 l10i29) fun (u14 : Int) => (lt (fun (j18b42 : Bool) => (bif j18b42 then (some (8 : Int)) else (f_lumref_Name_L12 r2 kk8 k11 (IntKind.i64.wrap (l10i29 + (1 : Int)))))) fun (kk19 : Bool → Option Int) => (bif (u14 == (47 : Int)) then (kk19 true) else (bif (decide (u14 < (32 : Int))) then (kk19 true) else (kk19 (u14 == (127 : Int))))))) else (kk8 ()))
def f_lumref_Name (fu : Nat) (a0 : (List UInt8)) : Option Int := (opt (f_lumref_Chars fu a0) fun (r2 : ((List Int) × Bool)) => (lt (fun (j4b26 : Bool) => (bif j4b26 then (some (8 : Int)) else (lt (fun (_ : Unit) => (bif (decide ((r2.1.length : Int) > (24 : Int))) then (some (2 : Int)) else (some (0 : Int)))) fun (kk8 : Unit → Option Int) => (f_lumref_Name_L12 r2 kk8 fu (0 : Int))))) fun (kk5 : Bool → Option Int) => (bif (!r2.2) then (kk5 true) else (bif ((r2.1.length : Int) == (0 : Int)) then (kk5 true) else (bif (a0 == ([46] : List UInt8)) then (kk5 true) else (kk5 (a0 == ([46, 46] : List UInt8))))))))
set_option maxRecDepth 100000 in
theorem f_lumref_Name_ok (fu : Nat) (a0 : (List UInt8)) {r : Int} (h : f_lumref_Name fu a0 = some r) : FnOk Tryd.prog 47 [(str a0)] [] [] (fun (i : Unit) => { val := (Value.int .i64 r) }) := by
  unfold f_lumref_Name at h
  refine fn_enter Tryd.func47 rfl Tryd.ntmps47 rfl (fun w0 Z0 => ?_)
  refine aw_seq ?_
  refine aw_region ?_
  refine al_val (ov_assign rfl rfl) ?_
  refine al_nil ?_
  refine aq_then ?_
  refine aw_seq ?_
  refine aw_region ?_
  refine al_val (ov_move rfl rfl) ?_
  obtain ⟨r2, hc1, h⟩ := opt_some h
  refine al_call (vs := [(str a0)]) (f_lumref_Chars_ok fu a0 hc1) [] [] [] pre_nil rfl (by simp) (by decide) (.inl rfl) rfl Tryd.func92 rfl rfl rfl (fun v3 => ?_)
  refine al_val (ov_move rfl rfl) ?_
  refine al_val (ov_extract rfl rfl rfl) ?_
  refine al_val (ov_extract rfl rfl rfl) ?_
  refine al_val (ov_assign rfl rfl) ?_
  refine al_val (ov_assign rfl rfl) ?_
  refine al_nil ?_
  refine aq_then ?_
  refine aw_seq ?_
  obtain ⟨kk5, hkk5, h⟩ := lt_some h
  refine aw_seq_join (ι := Bool) (fun i => (memOf w0 Z0 [] [(oRow v3 3 (tyInt .i64) r2.1)] [])) (fun i => (tab [(3, v3), (26, (Value.bool i))])) (fun i => kk5 i = some r) ?_ ?_
  · rintro j4b26 h
    have h : kk5 j4b26 = some r := h
    rw [hkk5] at h
    dsimp only at h
    clear hkk5
    refine aw_show (m := (memOf w0 Z0 [] [(oRow v3 3 (tyInt .i64) r2.1)] [])) (S := (tab [(3, v3), (26, (Value.bool j4b26))])) ?_
    refine aw_cond rfl (fun hb6 => ?_) (fun hb6 => ?_)
    · replace h := bif_t hb6 h
      refine aw_seq ?_
      refine aw_region ?_
      refine al_val (ov_assign rfl rfl) ?_
      refine al_nil ?_
      refine aq_then ?_
      refine aw_ret ?_
      refine aq_then_ret ?_
      obtain rfl := Option.some.inj h
      exact fn_ret () [] [] rfl rfl rfl rfl (res1 rfl rfl) rfl rfl rfl (by decide)
    · replace h := bif_f hb6 h
      refine aw_skip ?_
      refine aq_then ?_
      obtain ⟨kk8, hkk8, h⟩ := lt_some h
      refine aw_seq_join (ι := Unit) (fun i => (memOf w0 Z0 [] [(oRow v3 3 (tyInt .i64) r2.1)] [])) (fun i => (tab [(3, v3)])) (fun i => kk8 () = some r) ?_ ?_
      · rintro _ h
        have h : kk8 () = some r := h
        rw [hkk8] at h
        dsimp only at h
        clear hkk8
        refine aw_show (m := (memOf w0 Z0 [] [(oRow v3 3 (tyInt .i64) r2.1)] [])) (S := (tab [(3, v3)])) ?_
        refine aw_seq ?_
        refine aw_seq ?_
        refine aw_region ?_
        refine al_val (ov_move rfl rfl) ?_
        refine al_val (ov_lenR 0 rfl rfl Tryd.underlying59 rfl) ?_
        refine al_val (ov_int rfl rfl rfl rfl) ?_
        refine al_nil ?_
        refine aq_then ?_
        refine aw_cond rfl (fun hb9 => ?_) (fun hb9 => ?_)
        · replace h := bif_t hb9 h
          refine aw_seq ?_
          refine aw_region ?_
          refine al_val (ov_assign rfl rfl) ?_
          refine al_nil ?_
          refine aq_then ?_
          refine aw_ret ?_
          refine aq_then_ret ?_
          obtain rfl := Option.some.inj h
          exact fn_ret () [] [] rfl rfl rfl rfl (res1 rfl rfl) rfl rfl rfl (by decide)
        · replace h := bif_f hb9 h
          refine aw_skip ?_
          refine aq_then ?_
          refine aw_seq ?_
          refine aw_region ?_
          refine al_val (ov_assign rfl rfl) ?_
          refine al_nil ?_
          refine aq_then ?_
          refine aw_ret ?_
          obtain rfl := Option.some.inj h
          exact fn_ret () [] [] rfl rfl rfl rfl (res1 rfl rfl) rfl rfl rfl (by decide)
      · clear hkk8
        refine aw_seq ?_
        refine aw_region ?_
        refine al_val (ov_move rfl rfl) ?_
        refine al_val (ov_lenR 0 rfl rfl Tryd.underlying59 rfl) ?_
        refine al_val (ov_move rfl rfl) ?_
        refine al_nil ?_
        refine aq_then ?_
        refine aw_block ?_
        refine aw_state (aw_loop (ι := Int) (fun i => (memOf w0 Z0 [] [(oRow v3 3 (tyInt .i64) r2.1)] [])) (fun i => (tab [(3, v3), (27, v3), (28, (Value.int .i64 (r2.1.length : Int))), (29, (Value.int .i64 i))])) (fun q i => f_lumref_Name_L12 r2 kk8 q i = some r) ?_ fu (0 : Int) h) (fun w a hm hs => norm hm hs [0] [] [(3, v3), (27, v3), (28, (Value.int .i64 (r2.1.length : Int))), (29, (Value.int .i64 (0 : Int)))] (by decide) ⟨rfl, rfl, rfl, rfl, trivial⟩)
        clear h
        rintro k11 l10i29 h
        have h : f_lumref_Name_L12 r2 kk8 k11 l10i29 = some r := h
        obtain _ | k11 := k11
        · rw [f_lumref_Name_L12] at h; cases h
        rw [f_lumref_Name_L12] at h
        refine aw_show (m := (memOf w0 Z0 [] [(oRow v3 3 (tyInt .i64) r2.1)] [])) (S := (tab [(3, v3), (27, v3), (28, (Value.int .i64 (r2.1.length : Int))), (29, (Value.int .i64 l10i29))])) ?_
        refine aw_seq ?_
        refine aw_region ?_
        refine al_val (ov_int rfl rfl rfl rfl) ?_
        refine al_nil ?_
        refine aq_then ?_
        refine aw_seq ?_
        refine aw_cond rfl (fun hb13 => ?_) (fun hb13 => ?_)
        · replace h := bif_t hb13 h
          refine aw_skip ?_
          refine aq_then ?_
          refine aw_seq ?_
          refine aw_block ?_
          refine aw_seq ?_
          refine aw_region ?_
          obtain ⟨u14, hu15, h⟩ := opt_some h
          refine al_idxR 0 (at_some hu15).1 (at_some hu15).2.1 rfl rfl rfl Tryd.underlying59 sz3 rfl (fun p16 hp17 => ?_)
          refine al_val (ov_loadR (ds := [(Value.int .i64 u14)]) 0 rfl hp17 (at_some hu15).2.2 (fun h => h) rfl Tryd.underlying3 sz3 rfl rfl rfl) ?_
          refine al_val (ov_assign rfl rfl) ?_
          refine al_nil ?_
          refine aq_then ?_
          obtain ⟨kk19, hkk19, h⟩ := lt_some h
          refine aw_seq_join (ι := Bool) (fun i => (memOf w0 Z0 [] [(oRow v3 3 (tyInt .i64) r2.1)] [])) (fun i => (tab [(3, v3), (27, v3), (28, (Value.int .i64 (r2.1.length : Int))), (29, (Value.int .i64 l10i29)), (42, (Value.bool i))])) (fun i => kk19 i = some r) ?_ ?_
          · rintro j18b42 h
            have h : kk19 j18b42 = some r := h
            rw [hkk19] at h
            dsimp only at h
            clear hkk19
            refine aw_show (m := (memOf w0 Z0 [] [(oRow v3 3 (tyInt .i64) r2.1)] [])) (S := (tab [(3, v3), (27, v3), (28, (Value.int .i64 (r2.1.length : Int))), (29, (Value.int .i64 l10i29)), (42, (Value.bool j18b42))])) ?_
            refine aw_cond rfl (fun hb20 => ?_) (fun hb20 => ?_)
            · replace h := bif_t hb20 h
              refine aw_seq ?_
              refine aw_region ?_
              refine al_val (ov_assign rfl rfl) ?_
              refine al_nil ?_
              refine aq_then ?_
              refine aw_ret ?_
              refine aq_block_ret ?_
              refine aq_then_ret ?_
              refine aq_then_ret ?_
              refine aq_block_ret ?_
              refine aq_then_ret ?_
              obtain rfl := Option.some.inj h
              exact fn_ret () [] [] rfl rfl rfl rfl (res1 rfl rfl) rfl rfl rfl (by decide)
            · replace h := bif_f hb20 h
              refine aw_skip ?_
              refine aq_block ?_
              refine aq_then ?_
              refine aw_region ?_
              refine al_val (ov_int rfl rfl rfl rfl) ?_
              refine al_val (ov_move rfl rfl) ?_
              refine al_nil ?_
              exact aq_again k11 (IntKind.i64.wrap (l10i29 + (1 : Int))) (Nat.lt_succ_self _) h (fun w a hm hs => norm hm hs [0] [] [(3, v3), (27, v3), (28, (Value.int .i64 (r2.1.length : Int))), (29, (Value.int .i64 (IntKind.i64.wrap (l10i29 + (1 : Int)))))] (by decide) ⟨rfl, rfl, rfl, rfl, trivial⟩)
          · clear hkk19
            refine aw_region ?_
            refine al_val (ov_move rfl rfl) ?_
            refine al_val (ov_int rfl rfl rfl rfl) ?_
            refine al_val (ov_move rfl rfl) ?_
            refine al_caseB 35 rfl (fun hb21 => ?_) (fun hb21 => ?_)
            · replace h := bif_t hb21 h
              refine al_skip ?_
              refine al_skip ?_
              refine al_val (ov_pick_t rfl rfl rfl) ?_
              refine al_val (ov_move rfl rfl) ?_
              refine al_skip ?_
              refine al_skip ?_
              refine al_val (ov_pick_t rfl rfl rfl) ?_
              refine al_nil ?_
              exact aq_join true h (fun w a hm hs => norm hm hs [0] [] [(3, v3), (27, v3), (28, (Value.int .i64 (r2.1.length : Int))), (29, (Value.int .i64 l10i29)), (42, (Value.bool true))] (by decide) ⟨rfl, rfl, rfl, rfl, rfl, trivial⟩)
            · replace h := bif_f hb21 h
              refine al_val (ov_move rfl rfl) ?_
              refine al_val (ov_int rfl rfl rfl rfl) ?_
              refine al_val (ov_pick_f rfl rfl rfl) ?_
              refine al_val (ov_move rfl rfl) ?_
              refine al_caseB 39 rfl (fun hb22 => ?_) (fun hb22 => ?_)
              · replace h := bif_t hb22 h
                refine al_skip ?_
                refine al_skip ?_
                refine al_val (ov_pick_t rfl rfl rfl) ?_
                refine al_nil ?_
                exact aq_join true h (fun w a hm hs => norm hm hs [0] [] [(3, v3), (27, v3), (28, (Value.int .i64 (r2.1.length : Int))), (29, (Value.int .i64 l10i29)), (42, (Value.bool true))] (by decide) ⟨rfl, rfl, rfl, rfl, rfl, trivial⟩)
              · replace h := bif_f hb22 h
                refine al_val (ov_move rfl rfl) ?_
                refine al_val (ov_int rfl rfl rfl rfl) ?_
                refine al_val (ov_pick_f rfl rfl rfl) ?_
                refine al_nil ?_
                exact aq_join (u14 == (127 : Int)) h (fun w a hm hs => norm hm hs [0] [] [(3, v3), (27, v3), (28, (Value.int .i64 (r2.1.length : Int))), (29, (Value.int .i64 l10i29)), (42, (Value.bool (u14 == (127 : Int))))] (by decide) ⟨rfl, rfl, rfl, rfl, rfl, trivial⟩)
        · replace h := bif_f hb13 h
          refine aw_exit ?_
          refine aq_then_exit ?_
          refine aq_then_exit ?_
          refine aq_block_exit ?_
          exact aq_join () h (fun w a hm hs => norm hm hs [0] [] [(3, v3)] (by decide) ⟨rfl, trivial⟩)
  · clear hkk5
    refine aw_region ?_
    refine al_val (ov_move rfl rfl) ?_
    refine al_val (ov_not rfl rfl) ?_
    refine al_val (ov_move rfl rfl) ?_
    refine al_caseB 14 rfl (fun hb23 => ?_) (fun hb23 => ?_)
    · replace h := bif_t hb23 h
      refine al_skip ?_
      refine al_skip ?_
      refine al_skip ?_
      refine al_val (ov_pick_t rfl rfl rfl) ?_
      refine al_val (ov_move rfl rfl) ?_
      refine al_skip ?_
      refine al_skip ?_
      refine al_val (ov_pick_t rfl rfl rfl) ?_
      refine al_val (ov_move rfl rfl) ?_
      refine al_skip ?_
      refine al_skip ?_
      refine al_val (ov_pick_t rfl rfl rfl) ?_
      refine al_nil ?_
      exact aq_join true h (fun w a hm hs => norm hm hs [0] [] [(3, v3), (26, (Value.bool true))] (by decide) ⟨rfl, rfl, trivial⟩)
    · replace h := bif_f hb23 h
      refine al_val (ov_move rfl rfl) ?_
      refine al_val (ov_lenR 0 rfl rfl Tryd.underlying59 rfl) ?_
      refine al_val (ov_int rfl rfl rfl rfl) ?_
      refine al_val (ov_pick_f rfl rfl rfl) ?_
      refine al_val (ov_move rfl rfl) ?_
      refine al_caseB 19 rfl (fun hb24 => ?_) (fun hb24 => ?_)
      · replace h := bif_t hb24 h
        refine al_skip ?_
        refine al_skip ?_
        refine al_val (ov_pick_t rfl rfl rfl) ?_
        refine al_val (ov_move rfl rfl) ?_
        refine al_skip ?_
        refine al_skip ?_
        refine al_val (ov_pick_t rfl rfl rfl) ?_
        refine al_nil ?_
        exact aq_join true h (fun w a hm hs => norm hm hs [0] [] [(3, v3), (26, (Value.bool true))] (by decide) ⟨rfl, rfl, trivial⟩)
      · replace h := bif_f hb24 h
        refine al_val (ov_move rfl rfl) ?_
        refine al_val (ov_strCmp rfl rfl rfl rfl) ?_
        refine al_val (ov_pick_f rfl rfl rfl) ?_
        refine al_val (ov_move rfl rfl) ?_
        refine al_caseB 23 rfl (fun hb25 => ?_) (fun hb25 => ?_)
        · replace h := bif_t hb25 h
          refine al_skip ?_
          refine al_skip ?_
          refine al_val (ov_pick_t rfl rfl rfl) ?_
          refine al_nil ?_
          exact aq_join true h (fun w a hm hs => norm hm hs [0] [] [(3, v3), (26, (Value.bool true))] (by decide) ⟨rfl, rfl, trivial⟩)
        · replace h := bif_f hb25 h
          refine al_val (ov_move rfl rfl) ?_
          refine al_val (ov_strCmp rfl rfl rfl rfl) ?_
          refine al_val (ov_pick_f rfl rfl rfl) ?_
          refine al_nil ?_
          exact aq_join (a0 == ([46, 46] : List UInt8)) h (fun w a hm hs => norm hm hs [0] [] [(3, v3), (26, (Value.bool (a0 == ([46, 46] : List UInt8))))] (by decide) ⟨rfl, rfl, trivial⟩)
def f_lumref_nameErr_L5 (a0 : (List (List UInt8))) (kk2 : (Unit → Option Int)) (fu : Nat) : Nat → Int → Option Int
  | 0, _ => none
  | k4 + 1, l3i8 => (bif (decide (l3i8 < (a0.length : Int))) then (opt (at? a0 l3i8) fun (u7 : (List UInt8)) => (bif (decide (l3i8 ≥ (8 : Int))) then (some (14 : Int)) else (opt (f_lumref_Name fu u7) fun (r12 : Int) => (bif (r12 != (0 : Int)) then (some r12) else (f_lumref_nameErr_L5 a0 kk2 fu k4 (IntKind.i64.wrap (l3i8 + (1 : Int)))))))) else (kk2 ()))
def f_lumref_nameErr (fu : Nat) (a0 : (List (List UInt8))) : Option Int := (lt (fun (_ : Unit) => (some (0 : Int))) fun (kk2 : Unit → Option Int) => (f_lumref_nameErr_L5 a0 kk2 fu fu (0 : Int)))
set_option maxRecDepth 100000 in
theorem f_lumref_nameErr_ok (fu : Nat) (v0_0 : Value) (a0 : (List (List UInt8))) {r : Int} (h : f_lumref_nameErr fu a0 = some r) : FnOk Tryd.prog 87 [v0_0] [(fDat (tyList tyStr) [v0_0] a0)] [] (fun (i : Unit) => { val := (Value.int .i64 r) }) := by
  unfold f_lumref_nameErr at h
  refine fn_enter Tryd.func87 rfl Tryd.ntmps87 rfl (fun w0 Z0 => ?_)
  refine aw_seq ?_
  refine aw_region ?_
  refine al_val (ov_assign rfl rfl) ?_
  refine al_nil ?_
  refine aq_then ?_
  obtain ⟨kk2, hkk2, h⟩ := lt_some h
  refine aw_seq_join (ι := Unit) (fun i => (memOf w0 Z0 [] [] [(fDat (tyList tyStr) [v0_0] a0)])) (fun i => (tab [])) (fun i => kk2 () = some r) ?_ ?_
  · rintro _ h
    have h : kk2 () = some r := h
    rw [hkk2] at h
    dsimp only at h
    clear hkk2
    refine aw_show (m := (memOf w0 Z0 [] [] [(fDat (tyList tyStr) [v0_0] a0)])) (S := (tab [])) ?_
    refine aw_seq ?_
    refine aw_region ?_
    refine al_val (ov_assign rfl rfl) ?_
    refine al_nil ?_
    refine aq_then ?_
    refine aw_ret ?_
    obtain rfl := Option.some.inj h
    exact fn_ret () [] [] rfl rfl rfl rfl (res1 rfl rfl) rfl rfl rfl (by decide)
  · clear hkk2
    refine aw_seq ?_
    refine aw_region ?_
    refine al_val (ov_move rfl rfl) ?_
    refine al_val (ov_lenD 0 rfl rfl Tryd.underlying22 rfl) ?_
    refine al_val (ov_move rfl rfl) ?_
    refine al_nil ?_
    refine aq_then ?_
    refine aw_block ?_
    refine aw_state (aw_loop (ι := Int) (fun i => (memOf w0 Z0 [] [] [(fDat (tyList tyStr) [v0_0] a0)])) (fun i => (tab [(6, v0_0), (7, (Value.int .i64 (a0.length : Int))), (8, (Value.int .i64 i))])) (fun q i => f_lumref_nameErr_L5 a0 kk2 fu q i = some r) ?_ fu (0 : Int) h) (fun w a hm hs => norm hm hs [] [0] [(6, v0_0), (7, (Value.int .i64 (a0.length : Int))), (8, (Value.int .i64 (0 : Int)))] (by decide) ⟨rfl, rfl, rfl, trivial⟩)
    clear h
    rintro k4 l3i8 h
    have h : f_lumref_nameErr_L5 a0 kk2 fu k4 l3i8 = some r := h
    obtain _ | k4 := k4
    · rw [f_lumref_nameErr_L5] at h; cases h
    rw [f_lumref_nameErr_L5] at h
    refine aw_show (m := (memOf w0 Z0 [] [] [(fDat (tyList tyStr) [v0_0] a0)])) (S := (tab [(6, v0_0), (7, (Value.int .i64 (a0.length : Int))), (8, (Value.int .i64 l3i8))])) ?_
    refine aw_seq ?_
    refine aw_region ?_
    refine al_val (ov_int rfl rfl rfl rfl) ?_
    refine al_nil ?_
    refine aq_then ?_
    refine aw_seq ?_
    refine aw_cond rfl (fun hb6 => ?_) (fun hb6 => ?_)
    · replace h := bif_t hb6 h
      refine aw_skip ?_
      refine aq_then ?_
      refine aw_seq ?_
      refine aw_block ?_
      refine aw_seq ?_
      refine aw_region ?_
      refine al_val (ov_move rfl rfl) ?_
      obtain ⟨u7, hu8, h⟩ := opt_some h
      refine al_idxD 0 hu8 rfl rfl rfl Tryd.underlying22 sz9 rfl (fun p9 => ?_)
      refine al_val (ov_loadP (ds := [(str u7)]) 0 rfl (fun h => h) rfl Tryd.underlying9 sz9 rfl rfl rfl) ?_
      refine al_val (ov_assign rfl rfl) ?_
      refine al_val (ov_assign rfl rfl) ?_
      refine al_nil ?_
      refine aq_then ?_
      refine aw_seq ?_
      refine aw_seq ?_
      refine aw_region ?_
      refine al_val (ov_move rfl rfl) ?_
      refine al_val (ov_int rfl rfl rfl rfl) ?_
      refine al_nil ?_
      refine aq_then ?_
      refine aw_cond rfl (fun hb10 => ?_) (fun hb10 => ?_)
      · replace h := bif_t hb10 h
        refine aw_seq ?_
        refine aw_region ?_
        refine al_val (ov_assign rfl rfl) ?_
        refine al_nil ?_
        refine aq_then ?_
        refine aw_ret ?_
        refine aq_then_ret ?_
        refine aq_block_ret ?_
        refine aq_then_ret ?_
        refine aq_then_ret ?_
        refine aq_block_ret ?_
        refine aq_then_ret ?_
        obtain rfl := Option.some.inj h
        exact fn_ret () [] [] rfl rfl rfl rfl (res1 rfl rfl) rfl rfl rfl (by decide)
      · replace h := bif_f hb10 h
        refine aw_skip ?_
        refine aq_then ?_
        refine aw_seq ?_
        refine aw_region ?_
        refine al_val (ov_move rfl rfl) ?_
        obtain ⟨r12, hc11, h⟩ := opt_some h
        refine al_call (vs := [(str u7)]) (f_lumref_Name_ok fu u7 hc11) [] [] [] pre_nil rfl (by simp) (by decide) (.inl rfl) rfl Tryd.func47 rfl rfl rfl (fun _ => ?_)
        refine al_val (ov_assign rfl rfl) ?_
        refine al_nil ?_
        refine aq_then ?_
        refine aw_seq ?_
        refine aw_region ?_
        refine al_val (ov_move rfl rfl) ?_
        refine al_val (ov_int rfl rfl rfl rfl) ?_
        refine al_nil ?_
        refine aq_then ?_
        refine aw_cond rfl (fun hb13 => ?_) (fun hb13 => ?_)
        · replace h := bif_t hb13 h
          refine aw_seq ?_
          refine aw_region ?_
          refine al_val (ov_move rfl rfl) ?_
          refine al_val (ov_assign rfl rfl) ?_
          refine al_nil ?_
          refine aq_then ?_
          refine aw_ret ?_
          refine aq_block_ret ?_
          refine aq_then_ret ?_
          refine aq_then_ret ?_
          refine aq_block_ret ?_
          refine aq_then_ret ?_
          obtain rfl := Option.some.inj h
          exact fn_ret () [] [] rfl rfl rfl rfl (res1 rfl rfl) rfl rfl rfl (by decide)
        · replace h := bif_f hb13 h
          refine aw_skip ?_
          refine aq_block ?_
          refine aq_then ?_
          refine aw_region ?_
          refine al_val (ov_int rfl rfl rfl rfl) ?_
          refine al_val (ov_move rfl rfl) ?_
          refine al_nil ?_
          exact aq_again k4 (IntKind.i64.wrap (l3i8 + (1 : Int))) (Nat.lt_succ_self _) h (fun w a hm hs => norm hm hs [] [1] [(6, v0_0), (7, (Value.int .i64 (a0.length : Int))), (8, (Value.int .i64 (IntKind.i64.wrap (l3i8 + (1 : Int)))))] (by decide) ⟨rfl, rfl, rfl, trivial⟩)
    · replace h := bif_f hb6 h
      refine aw_exit ?_
      refine aq_then_exit ?_
      refine aq_then_exit ?_
      refine aq_block_exit ?_
      exact aq_join () h (fun w a hm hs => norm hm hs [] [0] [] (by decide) trivial)
def f_lumref_Split (fu : Nat) (a0 : (List UInt8)) : Option ((List (List UInt8)) × Int) := (lt (fun (j1b12 : Bool) => (bif j1b12 then (some (([] : List (List UInt8)), (8 : Int))) else (bif (a0 == ([47] : List UInt8)) then (some (([] : List (List UInt8)), (0 : Int))) else (req (0 ≤ (1 : Int) ∧ (1 : Int) ≤ (a0.length : Int)) (opt (f_lumref_cutAt fu (a0.drop ((1 : Int)).toNat)) fun (r7 : (List (List UInt8))) => (opt (f_lumref_nameErr fu r7) fun (r10 : Int) => (bif (r10 != (0 : Int)) then (some (([] : List (List UInt8)), r10)) else (some (r7, (0 : Int)))))))))) fun (kk2 : Bool → Option ((List (List UInt8)) × Int)) => (bif (a0 == ([] : List UInt8)) then (kk2 true) else (req (0 ≤ (0 : Int) ∧ (0 : Int) < (a0.length : Int)) (kk2 ((En.bAt a0 (0 : Int)) != (47 : Int))))))
set_option maxRecDepth 100000 in
theorem f_lumref_Split_ok (fu : Nat) (a0 : (List UInt8)) {r : ((List (List UInt8)) × Int)} (h : f_lumref_Split fu a0 = some r) : FnOk Tryd.prog 39 [(str a0)] [] [] (fun (i : Value) => { val := (Value.tuple #[i, (Value.int .i64 r.2)]), own := [(oRow i 9 tyStr r.1)] }) := by
  unfold f_lumref_Split at h
  refine fn_enter Tryd.func39 rfl Tryd.ntmps39 rfl (fun w0 Z0 => ?_)
  refine aw_seq ?_
  refine aw_region ?_
  refine al_val (ov_assign rfl rfl) ?_
  refine al_val (ov_assign rfl rfl) ?_
  refine al_nil ?_
  refine aq_then ?_
  refine aw_seq ?_
  obtain ⟨kk2, hkk2, h⟩ := lt_some h
  refine aw_seq_join (ι := Bool) (fun i => (memOf w0 Z0 [] [] [])) (fun i => (tab [(0, (str a0)), (12, (Value.bool i))])) (fun i => kk2 i = some r) ?_ ?_
  · rintro j1b12 h
    have h : kk2 j1b12 = some r := h
    rw [hkk2] at h
    dsimp only at h
    clear hkk2
    refine aw_show (m := (memOf w0 Z0 [] [] [])) (S := (tab [(0, (str a0)), (12, (Value.bool j1b12))])) ?_
    refine aw_cond rfl (fun hb3 => ?_) (fun hb3 => ?_)
    · replace h := bif_t hb3 h
      refine aw_seq ?_
      refine aw_region ?_
      refine al_val (ov_assign rfl rfl) ?_
      refine al_val (ov_assign rfl rfl) ?_
      refine al_nil ?_
      refine aq_then ?_
      refine aw_ret ?_
      refine aq_then_ret ?_
      refine aq_nilR 9 tyStr ?_
      obtain rfl := Option.some.inj h
      exact fn_ret (Value.slice none 0 0) [0] [] rfl rfl rfl rfl (res2 rfl rfl rfl) rfl rfl rfl (by decide)
    · replace h := bif_f hb3 h
      refine aw_skip ?_
      refine aq_then ?_
      refine aw_seq ?_
      refine aw_seq ?_
      refine aw_region ?_
      refine al_val (ov_move rfl rfl) ?_
      refine al_val (ov_strCmp rfl rfl rfl rfl) ?_
      refine al_nil ?_
      refine aq_then ?_
      refine aw_cond rfl (fun hb4 => ?_) (fun hb4 => ?_)
      · replace h := bif_t hb4 h
        refine aw_seq ?_
        refine aw_region ?_
        refine al_val (ov_assign rfl rfl) ?_
        refine al_val (ov_assign rfl rfl) ?_
        refine al_nil ?_
        refine aq_then ?_
        refine aw_ret ?_
        refine aq_then_ret ?_
        refine aq_nilR 9 tyStr ?_
        obtain rfl := Option.some.inj h
        exact fn_ret (Value.slice none 0 0) [0] [] rfl rfl rfl rfl (res2 rfl rfl rfl) rfl rfl rfl (by decide)
      · replace h := bif_f hb4 h
        refine aw_skip ?_
        refine aq_then ?_
        refine aw_seq ?_
        refine aw_region ?_
        refine al_val (ov_move rfl rfl) ?_
        obtain ⟨hc5, h⟩ := req_some h
        refine al_val (ov_strFrom hc5.1 hc5.2 Tryd.underlying9 rfl rfl rfl) ?_
        obtain ⟨r7, hc6, h⟩ := opt_some h
        refine al_call (vs := [(str (a0.drop ((1 : Int)).toNat))]) (f_lumref_cutAt_ok fu (a0.drop ((1 : Int)).toNat) hc6) [] [] [] pre_nil rfl (by simp) (by decide) (.inl rfl) rfl Tryd.func86 rfl rfl rfl (fun v8 => ?_)
        refine al_val (ov_assign rfl rfl) ?_
        refine al_nil ?_
        refine aq_then ?_
        refine aw_seq ?_
        refine aw_seq ?_
        refine aw_region ?_
        refine al_val (ov_move rfl rfl) ?_
        obtain ⟨r10, hc9, h⟩ := opt_some h
        refine al_call (vs := [v8]) (f_lumref_nameErr_ok fu v8 r7 hc9) [0] [] [0] (pre_own 0 rfl rfl pre_nil) rfl (by simp) (by decide) (.inr flat_res0) rfl Tryd.func87 rfl rfl rfl (fun _ => ?_)
        refine al_val (ov_assign rfl rfl) ?_
        refine al_nil ?_
        refine aq_then ?_
        refine aw_seq ?_
        refine aw_region ?_
        refine al_val (ov_move rfl rfl) ?_
        refine al_val (ov_int rfl rfl rfl rfl) ?_
        refine al_nil ?_
        refine aq_then ?_
        refine aw_cond rfl (fun hb11 => ?_) (fun hb11 => ?_)
        · replace h := bif_t hb11 h
          refine aw_seq ?_
          refine aw_region ?_
          refine al_val (ov_move rfl rfl) ?_
          refine al_val (ov_assign rfl rfl) ?_
          refine al_val (ov_assign rfl rfl) ?_
          refine al_nil ?_
          refine aq_then ?_
          refine aw_ret ?_
          refine aq_then_ret ?_
          refine aq_nilR 9 tyStr ?_
          obtain rfl := Option.some.inj h
          exact fn_ret (Value.slice none 0 0) [0] [] rfl rfl rfl rfl (res2 rfl rfl rfl) rfl rfl rfl (by decide)
        · replace h := bif_f hb11 h
          refine aw_skip ?_
          refine aq_then ?_
          refine aw_seq ?_
          refine aw_region ?_
          refine al_val (ov_move rfl rfl) ?_
          refine al_val (ov_assign rfl rfl) ?_
          refine al_val (ov_assign rfl rfl) ?_
          refine al_nil ?_
          refine aq_then ?_
          refine aw_ret ?_
          obtain rfl := Option.some.inj h
          exact fn_ret v8 [0] [] rfl rfl rfl rfl (res2 rfl rfl rfl) rfl rfl rfl (by decide)
  · clear hkk2
    refine aw_region ?_
    refine al_val (ov_move rfl rfl) ?_
    refine al_val (ov_strCmp rfl rfl rfl rfl) ?_
    refine al_val (ov_move rfl rfl) ?_
    refine al_caseB 8 rfl (fun hb12 => ?_) (fun hb12 => ?_)
    · replace h := bif_t hb12 h
      refine al_skip ?_
      refine al_skip ?_
      refine al_skip ?_
      refine al_val (ov_pick_t rfl rfl rfl) ?_
      refine al_nil ?_
      exact aq_join true h (fun w a hm hs => norm hm hs [] [] [(0, (str a0)), (12, (Value.bool true))] (by decide) ⟨rfl, rfl, trivial⟩)
    · replace h := bif_f hb12 h
      refine al_val (ov_move rfl rfl) ?_
      obtain ⟨hc13, h⟩ := req_some h
      refine al_val (ov_strIdx hc13.1 hc13.2 Tryd.underlying9 rfl rfl rfl) ?_
      refine al_val (ov_int rfl rfl rfl rfl) ?_
      refine al_val (ov_pick_f rfl rfl rfl) ?_
      refine al_nil ?_
      exact aq_join ((En.bAt a0 (0 : Int)) != (47 : Int)) h (fun w a hm hs => norm hm hs [] [] [(0, (str a0)), (12, (Value.bool ((En.bAt a0 (0 : Int)) != (47 : Int))))] (by decide) ⟨rfl, rfl, trivial⟩)
def f_names_Join (fu : Nat) (a0 : (List (List UInt8))) : Option ((List UInt8) × Int) := (opt (f_names_checkAll fu a0) fun (r2 : Int) => (bif (r2 != (0 : Int)) then (some (([] : List UInt8), r2)) else (opt (f_strings_Join fu a0 ([47] : List UInt8)) fun (r5 : (List UInt8)) => (req (([47] : List UInt8).length + r5.length ≤ 9223372036854775807) (some ((([47] : List UInt8) ++ r5), (0 : Int)))))))
set_option maxRecDepth 100000 in
theorem f_names_Join_ok (fu : Nat) (v0_0 : Value) (a0 : (List (List UInt8))) {r : ((List UInt8) × Int)} (h : f_names_Join fu a0 = some r) : FnOk Tryd.prog 40 [v0_0] [(fDat (tyList tyStr) [v0_0] a0), uTabs] [] (fun (i : Unit) => { val := (Value.tuple #[(str r.1), (Value.int .i64 r.2)]) }) := by
  unfold f_names_Join at h
  refine fn_enter Tryd.func40 rfl Tryd.ntmps40 rfl (fun w0 Z0 => ?_)
  refine aw_seq ?_
  refine aw_region ?_
  refine al_val (ov_assign rfl rfl) ?_
  refine al_val (ov_assign rfl rfl) ?_
  refine al_nil ?_
  refine aq_then ?_
  refine aw_seq ?_
  refine aw_seq ?_
  refine aw_region ?_
  refine al_val (ov_move rfl rfl) ?_
  obtain ⟨r2, hc1, h⟩ := opt_some h
  refine al_call (vs := [v0_0]) (f_names_checkAll_ok fu v0_0 a0 hc1) [] [] [] (pre_fz 0 rfl (pre_fz 1 rfl pre_nil)) rfl (by simp) (by decide) (.inl rfl) rfl Tryd.func85 rfl rfl rfl (fun _ => ?_)
  refine al_val (ov_assign rfl rfl) ?_
  refine al_nil ?_
  refine aq_then ?_
  refine aw_seq ?_
  refine aw_region ?_
  refine al_val (ov_move rfl rfl) ?_
  refine al_val (ov_int rfl rfl rfl rfl) ?_
  refine al_nil ?_
  refine aq_then ?_
  refine aw_cond rfl (fun hb3 => ?_) (fun hb3 => ?_)
  · replace h := bif_t hb3 h
    refine aw_seq ?_
    refine aw_region ?_
    refine al_val (ov_move rfl rfl) ?_
    refine al_val (ov_assign rfl rfl) ?_
    refine al_val (ov_assign rfl rfl) ?_
    refine al_nil ?_
    refine aq_then ?_
    refine aw_ret ?_
    refine aq_then_ret ?_
    obtain rfl := Option.some.inj h
    exact fn_ret () [] [] rfl rfl rfl rfl (res2 rfl rfl rfl) rfl rfl rfl (by decide)
  · replace h := bif_f hb3 h
    refine aw_skip ?_
    refine aq_then ?_
    refine aw_seq ?_
    refine aw_region ?_
    refine al_val (ov_move rfl rfl) ?_
    obtain ⟨r5, hc4, h⟩ := opt_some h
    refine al_call (vs := [v0_0, (str ([47] : List UInt8))]) (f_strings_Join_ok fu v0_0 a0 ([47] : List UInt8) hc4) [] [] [] (pre_fz 0 rfl pre_nil) rfl (by simp) (by decide) (.inl rfl) rfl Tryd.func88 rfl rfl rfl (fun _ => ?_)
    obtain ⟨hc6, h⟩ := req_some h
    refine al_val (ov_strAdd hc6 rfl rfl rfl) ?_
    refine al_val (ov_assign rfl rfl) ?_
    refine al_val (ov_assign rfl rfl) ?_
    refine al_nil ?_
    refine aq_then ?_
    refine aw_ret ?_
    obtain rfl := Option.some.inj h
    exact fn_ret () [] [] rfl rfl rfl rfl (res2 rfl rfl rfl) rfl rfl rfl (by decide)
def f_lumref_Join_L9 (a0 : (List (List UInt8))) (kk6 : ((List UInt8) → Option ((List UInt8) × Int))) : Nat → (List UInt8) → Int → Option ((List UInt8) × Int)
  | 0, _, _ => none
  | k8 + 1, l7s5, l7i18 => (bif (decide (l7i18 < (a0.length : Int))) then (opt (at? a0 l7i18) fun (u11 : (List UInt8)) => (req (([47] : List UInt8).length + u11.length ≤ 9223372036854775807) (req (l7s5.length + (([47] : List UInt8) ++ u11).length ≤ 9223372036854775807) (f_lumref_Join_L9 a0 kk6 k8 (l7s5 ++ (([47] : List UInt8) ++ u11)) (IntKind.i64.wrap (l7i18 + (1 : Int))))))) else (kk6 l7s5))
def f_lumref_Join (fu : Nat) (a0 : (List (List UInt8))) : Option ((List UInt8) × Int) := (opt (f_lumref_nameErr fu a0) fun (r2 : Int) => (bif (r2 != (0 : Int)) then (some (([] : List UInt8), r2)) else (bif ((a0.length : Int) == (0 : Int)) then (some (([47] : List UInt8), (0 : Int))) else (lt (fun (j5s5 : (List UInt8)) => (some (j5s5, (0 : Int)))) fun (kk6 : (List UInt8) → Option ((List UInt8) × Int)) => (f_lumref_Join_L9 a0 kk6 fu ([] : List UInt8) (0 : Int))))))
set_option maxRecDepth 100000 in
theorem f_lumref_Join_ok (fu : Nat) (v0_0 : Value) (a0 : (List (List UInt8))) {r : ((List UInt8) × Int)} (h : f_lumref_Join fu a0 = some r) : FnOk Tryd.prog 41 [v0_0] [(fDat (tyList tyStr) [v0_0] a0)] [] (fun (i : Unit) => { val := (Value.tuple #[(str r.1), (Value.int .i64 r.2)]) }) := by
  unfold f_lumref_Join at h
  refine fn_enter Tryd.func41 rfl Tryd.ntmps41 rfl (fun w0 Z0 => ?_)
  refine aw_seq ?_
  refine aw_region ?_
  refine al_val (ov_assign rfl rfl) ?_
  refine al_val (ov_assign rfl rfl) ?_
  refine al_nil ?_
  refine aq_then ?_
  refine aw_seq ?_
  refine aw_seq ?_
  refine aw_region ?_
  refine al_val (ov_move rfl rfl) ?_
  obtain ⟨r2, hc1, h⟩ := opt_some h
  refine al_call (vs := [v0_0]) (f_lumref_nameErr_ok fu v0_0 a0 hc1) [] [] [] (pre_fz 0 rfl pre_nil) rfl (by simp) (by decide) (.inl rfl) rfl Tryd.func87 rfl rfl rfl (fun _ => ?_)
  refine al_val (ov_assign rfl rfl) ?_
  refine al_nil ?_
  refine aq_then ?_
  refine aw_seq ?_
  refine aw_region ?_
  refine al_val (ov_move rfl rfl) ?_
  refine al_val (ov_int rfl rfl rfl rfl) ?_
  refine al_nil ?_
  refine aq_then ?_
  refine aw_cond rfl (fun hb3 => ?_) (fun hb3 => ?_)
  · replace h := bif_t hb3 h
    refine aw_seq ?_
    refine aw_region ?_
    refine al_val (ov_move rfl rfl) ?_
    refine al_val (ov_assign rfl rfl) ?_
    refine al_val (ov_assign rfl rfl) ?_
    refine al_nil ?_
    refine aq_then ?_
    refine aw_ret ?_
    refine aq_then_ret ?_
    obtain rfl := Option.some.inj h
    exact fn_ret () [] [] rfl rfl rfl rfl (res2 rfl rfl rfl) rfl rfl rfl (by decide)
  · replace h := bif_f hb3 h
    refine aw_skip ?_
    refine aq_then ?_
    refine aw_seq ?_
    refine aw_seq ?_
    refine aw_region ?_
    refine al_val (ov_move rfl rfl) ?_
    refine al_val (ov_lenD 0 rfl rfl Tryd.underlying22 rfl) ?_
    refine al_val (ov_int rfl rfl rfl rfl) ?_
    refine al_nil ?_
    refine aq_then ?_
    refine aw_cond rfl (fun hb4 => ?_) (fun hb4 => ?_)
    · replace h := bif_t hb4 h
      refine aw_seq ?_
      refine aw_region ?_
      refine al_val (ov_assign rfl rfl) ?_
      refine al_val (ov_assign rfl rfl) ?_
      refine al_nil ?_
      refine aq_then ?_
      refine aw_ret ?_
      refine aq_then_ret ?_
      obtain rfl := Option.some.inj h
      exact fn_ret () [] [] rfl rfl rfl rfl (res2 rfl rfl rfl) rfl rfl rfl (by decide)
    · replace h := bif_f hb4 h
      refine aw_skip ?_
      refine aq_then ?_
      refine aw_seq ?_
      refine aw_region ?_
      refine al_val (ov_assign rfl rfl) ?_
      refine al_nil ?_
      refine aq_then ?_
      obtain ⟨kk6, hkk6, h⟩ := lt_some h
      refine aw_seq_join (ι := (List UInt8)) (fun i => (memOf w0 Z0 [] [] [(fDat (tyList tyStr) [v0_0] a0)])) (fun i => (tab [(5, (str i))])) (fun i => kk6 i = some r) ?_ ?_
      · rintro j5s5 h
        have h : kk6 j5s5 = some r := h
        rw [hkk6] at h
        dsimp only at h
        clear hkk6
        refine aw_show (m := (memOf w0 Z0 [] [] [(fDat (tyList tyStr) [v0_0] a0)])) (S := (tab [(5, (str j5s5))])) ?_
        refine aw_seq ?_
        refine aw_region ?_
        refine al_val (ov_move rfl rfl) ?_
        refine al_val (ov_assign rfl rfl) ?_
        refine al_val (ov_assign rfl rfl) ?_
        refine al_nil ?_
        refine aq_then ?_
        refine aw_ret ?_
        obtain rfl := Option.some.inj h
        exact fn_ret () [] [] rfl rfl rfl rfl (res2 rfl rfl rfl) rfl rfl rfl (by decide)
      · clear hkk6
        refine aw_seq ?_
        refine aw_region ?_
        refine al_val (ov_move rfl rfl) ?_
        refine al_val (ov_lenD 0 rfl rfl Tryd.underlying22 rfl) ?_
        refine al_val (ov_move rfl rfl) ?_
        refine al_nil ?_
        refine aq_then ?_
        refine aw_block ?_
        refine aw_state (aw_loop (ι := (List UInt8) × Int) (fun i => (memOf w0 Z0 [] [] [(fDat (tyList tyStr) [v0_0] a0)])) (fun i => (tab [(5, (str i.1)), (16, v0_0), (17, (Value.int .i64 (a0.length : Int))), (18, (Value.int .i64 i.2))])) (fun q i => f_lumref_Join_L9 a0 kk6 q i.1 i.2 = some r) ?_ fu (([] : List UInt8), (0 : Int)) h) (fun w a hm hs => norm hm hs [] [0] [(5, (str ([] : List UInt8))), (16, v0_0), (17, (Value.int .i64 (a0.length : Int))), (18, (Value.int .i64 (0 : Int)))] (by decide) ⟨rfl, rfl, rfl, rfl, trivial⟩)
        clear h
        rintro k8 ⟨l7s5, l7i18⟩ h
        have h : f_lumref_Join_L9 a0 kk6 k8 l7s5 l7i18 = some r := h
        obtain _ | k8 := k8
        · rw [f_lumref_Join_L9] at h; cases h
        rw [f_lumref_Join_L9] at h
        refine aw_show (m := (memOf w0 Z0 [] [] [(fDat (tyList tyStr) [v0_0] a0)])) (S := (tab [(5, (str l7s5)), (16, v0_0), (17, (Value.int .i64 (a0.length : Int))), (18, (Value.int .i64 l7i18))])) ?_
        refine aw_seq ?_
        refine aw_region ?_
        refine al_val (ov_int rfl rfl rfl rfl) ?_
        refine al_nil ?_
        refine aq_then ?_
        refine aw_seq ?_
        refine aw_cond rfl (fun hb10 => ?_) (fun hb10 => ?_)
        · replace h := bif_t hb10 h
          refine aw_skip ?_
          refine aq_then ?_
          refine aw_seq ?_
          refine aw_block ?_
          refine aw_seq ?_
          refine aw_region ?_
          obtain ⟨u11, hu12, h⟩ := opt_some h
          refine al_idxD 0 hu12 rfl rfl rfl Tryd.underlying22 sz9 rfl (fun p13 => ?_)
          refine al_val (ov_loadP (ds := [(str u11)]) 0 rfl (fun h => h) rfl Tryd.underlying9 sz9 rfl rfl rfl) ?_
          refine al_val (ov_assign rfl rfl) ?_
          refine al_nil ?_
          refine aq_then ?_
          refine aw_region ?_
          refine al_val (ov_move rfl rfl) ?_
          refine al_val (ov_move rfl rfl) ?_
          obtain ⟨hc14, h⟩ := req_some h
          refine al_val (ov_strAdd hc14 rfl rfl rfl) ?_
          obtain ⟨hc15, h⟩ := req_some h
          refine al_val (ov_strAdd hc15 rfl rfl rfl) ?_
          refine al_val (ov_assign rfl rfl) ?_
          refine al_nil ?_
          refine aq_block ?_
          refine aq_then ?_
          refine aw_region ?_
          refine al_val (ov_int rfl rfl rfl rfl) ?_
          refine al_val (ov_move rfl rfl) ?_
          refine al_nil ?_
          exact aq_again k8 ((l7s5 ++ (([47] : List UInt8) ++ u11)), (IntKind.i64.wrap (l7i18 + (1 : Int)))) (Nat.lt_succ_self _) h (fun w a hm hs => norm hm hs [] [1] [(5, (str (l7s5 ++ (([47] : List UInt8) ++ u11)))), (16, v0_0), (17, (Value.int .i64 (a0.length : Int))), (18, (Value.int .i64 (IntKind.i64.wrap (l7i18 + (1 : Int)))))] (by decide) ⟨rfl, rfl, rfl, rfl, trivial⟩)
        · replace h := bif_f hb10 h
          refine aw_exit ?_
          refine aq_then_exit ?_
          refine aq_then_exit ?_
          refine aq_block_exit ?_
          exact aq_join l7s5 h (fun w a hm hs => norm hm hs [] [0] [(5, (str l7s5))] (by decide) ⟨rfl, trivial⟩)
def f_names_Clean_L10 (kk2 : ((List (List UInt8)) → Option ((List UInt8) × Int))) (r6 : (List (List UInt8))) : Nat → (List (List UInt8)) → Int → Option ((List UInt8) × Int)
  | 0, _, _ => none
  | k9 + 1, l8x4, l8i10 => (bif (decide (l8i10 < (r6.length : Int))) then (lt (fun (j12x4 : (List (List UInt8))) => (f_names_Clean_L10 kk2 r6 k9 j12x4 (IntKind.i64.wrap (l8i10 + (1 : Int))))) fun (kk13 : (List (List UInt8)) → Option ((List UInt8) × Int)) => (opt (at? r6 l8i10) fun (u14 : (List UInt8)) => (lt (fun (j18b19 : Bool) => (bif j18b19 then (kk13 l8x4) else (bif (u14 == ([46, 46] : List UInt8)) then (bif ((l8x4.length : Int) == (0 : Int)) then (some (([] : List UInt8), (8 : Int))) else (req (0 ≤ (IntKind.i64.wrap ((l8x4.length : Int) - (1 : Int))) ∧ (IntKind.i64.wrap ((l8x4.length : Int) - (1 : Int))) ≤ (l8x4.length : Int)) (kk13 (l8x4.take ((IntKind.i64.wrap ((l8x4.length : Int) - (1 : Int)))).toNat)))) else (req (((l8x4.length + ([u14]).length) * 16 : Nat) ≤ 140737488355328 ∧ l8x4.length + ([u14]).length ≤ 9223372036854775807) (kk13 (l8x4 ++ ([u14]))))))) fun (kk19 : Bool → Option ((List UInt8) × Int)) => (bif (u14 == ([] : List UInt8)) then (kk19 (u14 == ([] : List UInt8))) else (kk19 (u14 == ([46] : List UInt8))))))) else (kk2 l8x4))
def f_names_Clean (fu : Nat) (a0 : (List UInt8)) : Option ((List UInt8) × Int) := (lt (fun (j1x4 : (List (List UInt8))) => (opt (f_names_Join fu j1x4) fun (r4 : ((List UInt8) × Int)) => (some (r4.1, r4.2)))) fun (kk2 : (List (List UInt8)) → Option ((List UInt8) × Int)) => (opt (f_strings_Split fu a0 ([47] : List UInt8)) fun (r6 : (List (List UInt8))) => (f_names_Clean_L10 kk2 r6 fu ([] : List (List UInt8)) (0 : Int))))
set_option maxRecDepth 100000 in
theorem f_names_Clean_ok (fu : Nat) (a0 : (List UInt8)) {r : ((List UInt8) × Int)} (h : f_names_Clean fu a0 = some r) : FnOk Tryd.prog 42 [(str a0)] [uMax, uTabs] [] (fun (i : Unit) => { val := (Value.tuple #[(str r.1), (Value.int .i64 r.2)]) }) := by
  unfold f_names_Clean at h
  refine fn_enter Tryd.func42 rfl Tryd.ntmps42 rfl (fun w0 Z0 => ?_)
  refine aw_seq ?_
  refine aw_region ?_
  refine al_val (ov_assign rfl rfl) ?_
  refine al_val (ov_assign rfl rfl) ?_
  refine al_nil ?_
  refine aq_then ?_
  refine aw_seq ?_
  refine aw_region ?_
  refine al_val (ov_assign rfl rfl) ?_
  refine al_nil ?_
  refine aq_then ?_
  obtain ⟨kk2, hkk2, h⟩ := lt_some h
  refine aw_seq_join (ι := Value × (List (List UInt8))) (fun i => (memOf w0 Z0 [] [(oRow i.1 9 tyStr i.2)] [uMax, uTabs])) (fun i => (tab [(4, i.1)])) (fun i => kk2 i.2 = some r) ?_ ?_
  · rintro ⟨j1v4, j1x4⟩ h
    have h : kk2 j1x4 = some r := h
    rw [hkk2] at h
    dsimp only at h
    clear hkk2
    refine aw_show (m := (memOf w0 Z0 [] [(oRow j1v4 9 tyStr j1x4)] [uMax, uTabs])) (S := (tab [(4, j1v4)])) ?_
    refine aw_seq ?_
    refine aw_region ?_
    refine al_val (ov_move rfl rfl) ?_
    obtain ⟨r4, hc3, h⟩ := opt_some h
    refine al_call (vs := [j1v4]) (f_names_Join_ok fu j1v4 j1x4 hc3) [0] [] [0] (pre_own 0 rfl rfl (pre_fz 1 rfl pre_nil)) rfl (by simp) (by decide) (.inr flat_res0) rfl Tryd.func40 rfl rfl rfl (fun _ => ?_)
    refine al_val (ov_extract rfl rfl rfl) ?_
    refine al_val (ov_extract rfl rfl rfl) ?_
    refine al_val (ov_assign rfl rfl) ?_
    refine al_val (ov_assign rfl rfl) ?_
    refine al_nil ?_
    refine aq_then ?_
    refine aw_ret ?_
    obtain rfl := Option.some.inj h
    exact fn_ret () [] [] rfl rfl rfl rfl (res2 rfl rfl rfl) rfl rfl rfl (by decide)
  · clear hkk2
    refine aw_seq ?_
    refine aw_region ?_
    refine al_val (ov_move rfl rfl) ?_
    obtain ⟨r6, hc5, h⟩ := opt_some h
    refine al_call (vs := [(str a0), (str ([47] : List UInt8))]) (f_strings_Split_ok fu a0 ([47] : List UInt8) hc5) [] [] [] (pre_fz 0 rfl pre_nil) rfl (by simp) (by decide) (.inl rfl) rfl Tryd.func84 rfl rfl rfl (fun v7 => ?_)
    refine al_val (ov_lenR 0 rfl rfl Tryd.underlying22 rfl) ?_
    refine al_val (ov_move rfl rfl) ?_
    refine al_nil ?_
    refine aq_then ?_
    refine aw_block ?_
    refine aw_nilR 9 tyStr ?_
    refine aw_state (aw_loop (ι := Value × (List (List UInt8)) × Int) (fun i => (memOf w0 Z0 [] [(oRow i.1 9 tyStr i.2.1), (oRow v7 9 tyStr r6)] [uMax, uTabs])) (fun i => (tab [(4, i.1), (8, v7), (9, (Value.int .i64 (r6.length : Int))), (10, (Value.int .i64 i.2.2))])) (fun q i => f_names_Clean_L10 kk2 r6 q i.2.1 i.2.2 = some r) ?_ fu ((Value.slice none 0 0), ([] : List (List UInt8)), (0 : Int)) h) (fun w a hm hs => norm hm hs [0, 1] [0, 1] [(4, (Value.slice none 0 0)), (8, v7), (9, (Value.int .i64 (r6.length : Int))), (10, (Value.int .i64 (0 : Int)))] (by decide) ⟨rfl, rfl, rfl, rfl, trivial⟩)
    clear h
    rintro k9 ⟨l8v4, l8x4, l8i10⟩ h
    have h : f_names_Clean_L10 kk2 r6 k9 l8x4 l8i10 = some r := h
    obtain _ | k9 := k9
    · rw [f_names_Clean_L10] at h; cases h
    rw [f_names_Clean_L10] at h
    refine aw_show (m := (memOf w0 Z0 [] [(oRow l8v4 9 tyStr l8x4), (oRow v7 9 tyStr r6)] [uMax, uTabs])) (S := (tab [(4, l8v4), (8, v7), (9, (Value.int .i64 (r6.length : Int))), (10, (Value.int .i64 l8i10))])) ?_
    refine aw_seq ?_
    refine aw_region ?_
    refine al_val (ov_int rfl rfl rfl rfl) ?_
    refine al_nil ?_
    refine aq_then ?_
    refine aw_seq ?_
    refine aw_cond rfl (fun hb11 => ?_) (fun hb11 => ?_)
    · replace h := bif_t hb11 h
      refine aw_skip ?_
      refine aq_then ?_
      obtain ⟨kk13, hkk13, h⟩ := lt_some h
      refine aw_seq_join (ι := Value × (List (List UInt8))) (fun i => (memOf w0 Z0 [] [(oRow i.1 9 tyStr i.2), (oRow v7 9 tyStr r6)] [uMax, uTabs])) (fun i => (tab [(4, i.1), (8, v7), (9, (Value.int .i64 (r6.length : Int))), (10, (Value.int .i64 l8i10))])) (fun i => kk13 i.2 = some r) ?_ ?_
      · rintro ⟨j12v4, j12x4⟩ h
        have h : kk13 j12x4 = some r := h
        rw [hkk13] at h
        dsimp only at h
        clear hkk13
        refine aw_show (m := (memOf w0 Z0 [] [(oRow j12v4 9 tyStr j12x4), (oRow v7 9 tyStr r6)] [uMax, uTabs])) (S := (tab [(4, j12v4), (8, v7), (9, (Value.int .i64 (r6.length : Int))), (10, (Value.int .i64 l8i10))])) ?_
        refine aw_region ?_
        refine al_val (ov_int rfl rfl rfl rfl) ?_
        refine al_val (ov_move rfl rfl) ?_
        refine al_nil ?_
        exact aq_again k9 (j12v4, j12x4, (IntKind.i64.wrap (l8i10 + (1 : Int)))) (Nat.lt_succ_self _) h (fun w a hm hs => norm hm hs [0, 1] [0, 1] [(4, j12v4), (8, v7), (9, (Value.int .i64 (r6.length : Int))), (10, (Value.int .i64 (IntKind.i64.wrap (l8i10 + (1 : Int)))))] (by decide) ⟨rfl, rfl, rfl, rfl, trivial⟩)
      · clear hkk13
        refine aw_block ?_
        refine aw_seq ?_
        refine aw_region ?_
        obtain ⟨u14, hu15, h⟩ := opt_some h
        refine al_idxR 1 (at_some hu15).1 (at_some hu15).2.1 rfl rfl rfl Tryd.underlying22 sz9 rfl (fun p16 hp17 => ?_)
        refine al_val (ov_loadR (ds := [(str u14)]) 1 rfl hp17 (at_some hu15).2.2 (fun h => h) rfl Tryd.underlying9 sz9 rfl rfl rfl) ?_
        refine al_val (ov_assign rfl rfl) ?_
        refine al_nil ?_
        refine aq_then ?_
        refine aw_seq ?_
        refine aw_region ?_
        refine al_val (ov_move rfl rfl) ?_
        refine al_nil ?_
        refine aq_then ?_
        refine aw_block ?_
        obtain ⟨kk19, hkk19, h⟩ := lt_some h
        refine aw_seq_join (ι := Bool) (fun i => (memOf w0 Z0 [] [(oRow l8v4 9 tyStr l8x4), (oRow v7 9 tyStr r6)] [uMax, uTabs])) (fun i => (tab [(4, l8v4), (6, (str u14)), (8, v7), (9, (Value.int .i64 (r6.length : Int))), (10, (Value.int .i64 l8i10)), (14, (str u14)), (19, (Value.bool i))])) (fun i => kk19 i = some r) ?_ ?_
        · rintro j18b19 h
          have h : kk19 j18b19 = some r := h
          rw [hkk19] at h
          dsimp only at h
          clear hkk19
          refine aw_show (m := (memOf w0 Z0 [] [(oRow l8v4 9 tyStr l8x4), (oRow v7 9 tyStr r6)] [uMax, uTabs])) (S := (tab [(4, l8v4), (6, (str u14)), (8, v7), (9, (Value.int .i64 (r6.length : Int))), (10, (Value.int .i64 l8i10)), (14, (str u14)), (19, (Value.bool j18b19))])) ?_
          refine aw_cond rfl (fun hb20 => ?_) (fun hb20 => ?_)
          · replace h := bif_t hb20 h
            refine aw_skip ?_
            refine aq_block ?_
            refine aq_block ?_
            exact aq_join (l8v4, l8x4) h (fun w a hm hs => norm hm hs [0, 1] [0, 1] [(4, l8v4), (8, v7), (9, (Value.int .i64 (r6.length : Int))), (10, (Value.int .i64 l8i10))] (by decide) ⟨rfl, rfl, rfl, rfl, trivial⟩)
          · replace h := bif_f hb20 h
            refine aw_seq ?_
            refine aw_region ?_
            refine al_val (ov_strCmp rfl rfl rfl rfl) ?_
            refine al_val (ov_assign rfl rfl) ?_
            refine al_nil ?_
            refine aq_then ?_
            refine aw_cond rfl (fun hb21 => ?_) (fun hb21 => ?_)
            · replace h := bif_t hb21 h
              refine aw_seq ?_
              refine aw_seq ?_
              refine aw_region ?_
              refine al_val (ov_move rfl rfl) ?_
              refine al_val (ov_lenR 0 rfl rfl Tryd.underlying22 rfl) ?_
              refine al_val (ov_int rfl rfl rfl rfl) ?_
              refine al_nil ?_
              refine aq_then ?_
              refine aw_cond rfl (fun hb22 => ?_) (fun hb22 => ?_)
              · replace h := bif_t hb22 h
                refine aw_seq ?_
                refine aw_region ?_
                refine al_val (ov_assign rfl rfl) ?_
                refine al_val (ov_assign rfl rfl) ?_
                refine al_nil ?_
                refine aq_then ?_
                refine aw_ret ?_
                refine aq_then_ret ?_
                refine aq_block_ret ?_
                refine aq_block_ret ?_
                refine aq_then_ret ?_
                refine aq_then_ret ?_
                refine aq_block_ret ?_
                refine aq_then_ret ?_
                obtain rfl := Option.some.inj h
                exact fn_ret () [] [] rfl rfl rfl rfl (res2 rfl rfl rfl) rfl rfl rfl (by decide)
              · replace h := bif_f hb22 h
                refine aw_skip ?_
                refine aq_then ?_
                refine aw_region ?_
                refine al_val (ov_move rfl rfl) ?_
                refine al_val (ov_move rfl rfl) ?_
                refine al_val (ov_lenR 0 rfl rfl Tryd.underlying22 rfl) ?_
                refine al_val (ov_int rfl rfl rfl rfl) ?_
                obtain ⟨hc23, h⟩ := req_some h
                refine al_cutR 0 hc23.1 hc23.2 rfl rfl rfl Tryd.underlying22 sz9 rfl (fun s24 => ?_)
                refine al_val (ov_assign rfl rfl) ?_
                refine al_nil ?_
                refine aq_block ?_
                refine aq_block ?_
                exact aq_join (s24, (l8x4.take ((IntKind.i64.wrap ((l8x4.length : Int) - (1 : Int)))).toNat)) h (fun w a hm hs => norm hm hs [0, 1] [0, 1] [(4, s24), (8, v7), (9, (Value.int .i64 (r6.length : Int))), (10, (Value.int .i64 l8i10))] (by decide) ⟨rfl, rfl, rfl, rfl, trivial⟩)
            · replace h := bif_f hb21 h
              refine aw_region ?_
              refine al_val (ov_move rfl rfl) ?_
              refine al_val (ov_move rfl rfl) ?_
              refine al_buildSlice (τ := tyStr) (e := 9) (k := 1) (sz := 0) (by_ := 0) (z := undef) (cs := [(str u14)]) (xs := [u14]) rfl (by decide) (fun w a hm hs => ⟨([(str u14)]).toArray, rfl, by simp only [List.map_toArray, List.map_cons, List.map_nil, hs.ev (x := .tmp 16) rfl]; exact run_bs [(str u14)] [(str u14)] Tryd.underlying22 to9 rfl rfl (bs_cons (l := [(str u14)]) (cs := []) (cv_rfl rfl) rfl bs_nil) hm⟩) (fun hm => ⟨_, _, rfl, (fun _ => rfl) hm, rfl⟩) rfl (fun v25 => ?_)
              obtain ⟨hc26, h⟩ := req_some h
              refine al_append 1 hc26.1 hc26.2 rfl (src_own (i := 1) 0 rfl) rfl rfl Tryd.underlying22 to9 rfl rfl rfl (fun v27 => ?_)
              refine al_val (ov_assign rfl rfl) ?_
              refine al_nil ?_
              refine aq_block ?_
              refine aq_block ?_
              exact aq_join (v27, (l8x4 ++ ([u14]))) h (fun w a hm hs => norm hm hs [1, 2] [0, 1] [(4, v27), (8, v7), (9, (Value.int .i64 (r6.length : Int))), (10, (Value.int .i64 l8i10))] (by decide) ⟨rfl, rfl, rfl, rfl, trivial⟩)
        · clear hkk19
          refine aw_seq ?_
          refine aw_region ?_
          refine al_val (ov_strCmp rfl rfl rfl rfl) ?_
          refine al_val (ov_assign rfl rfl) ?_
          refine al_nil ?_
          refine aq_then ?_
          refine aw_cond rfl (fun hb28 => ?_) (fun hb28 => ?_)
          · replace h := bif_t hb28 h
            refine aw_skip ?_
            exact aq_join (u14 == ([] : List UInt8)) h (fun w a hm hs => norm hm hs [0, 1] [0, 1] [(4, l8v4), (6, (str u14)), (8, v7), (9, (Value.int .i64 (r6.length : Int))), (10, (Value.int .i64 l8i10)), (14, (str u14)), (19, (Value.bool (u14 == ([] : List UInt8))))] (by decide) ⟨rfl, rfl, rfl, rfl, rfl, rfl, rfl, trivial⟩)
          · replace h := bif_f hb28 h
            refine aw_region ?_
            refine al_val (ov_strCmp rfl rfl rfl rfl) ?_
            refine al_val (ov_assign rfl rfl) ?_
            refine al_nil ?_
            exact aq_join (u14 == ([46] : List UInt8)) h (fun w a hm hs => norm hm hs [0, 1] [0, 1] [(4, l8v4), (6, (str u14)), (8, v7), (9, (Value.int .i64 (r6.length : Int))), (10, (Value.int .i64 l8i10)), (14, (str u14)), (19, (Value.bool (u14 == ([46] : List UInt8))))] (by decide) ⟨rfl, rfl, rfl, rfl, rfl, rfl, rfl, trivial⟩)
    · replace h := bif_f hb11 h
      refine aw_exit ?_
      refine aq_then_exit ?_
      refine aq_then_exit ?_
      refine aq_block_exit ?_
      exact aq_join (l8v4, l8x4) h (fun w a hm hs => norm hm hs [0] [0, 1] [(4, l8v4)] (by decide) ⟨rfl, trivial⟩)
def f_lumref_Clean_L10 (kk2 : ((List (List UInt8)) → Option ((List UInt8) × Int))) (r6 : (List (List UInt8))) : Nat → (List (List UInt8)) → Int → Option ((List UInt8) × Int)
  | 0, _, _ => none
  | k9 + 1, l8x4, l8i10 => (bif (decide (l8i10 < (r6.length : Int))) then (lt (fun (j12x4 : (List (List UInt8))) => (f_lumref_Clean_L10 kk2 r6 k9 j12x4 (IntKind.i64.wrap (l8i10 + (1 : Int))))) fun (kk13 : (List (List UInt8)) → Option ((List UInt8) × Int)) => (opt (at? r6 l8i10) fun (u14 : (List UInt8)) => (bif (u14 == ([46, 46] : List UInt8)) then (bif ((l8x4.length : Int) == (0 : Int)) then (some (([] : List UInt8), (8 : Int))) else (req (0 ≤ (IntKind.i64.wrap ((l8x4.length : Int) - (1 : Int))) ∧ (IntKind.i64.wrap ((l8x4.length : Int) - (1 : Int))) ≤ (l8x4.length : Int)) (kk13 (l8x4.take ((IntKind.i64.wrap ((l8x4.length : Int) - (1 : Int)))).toNat)))) else (lt (fun (j22b29 : Bool) => (bif j22b29 then (req (((l8x4.length + ([u14]).length) * 16 : Nat) ≤ 140737488355328 ∧ l8x4.length + ([u14]).length ≤ 9223372036854775807) (kk13 (l8x4 ++ ([u14])))) else (kk13 l8x4))) fun (kk23 : Bool → Option ((List UInt8) × Int)) => (bif (!(u14 == ([] : List UInt8))) then (kk23 (!(u14 == ([46] : List UInt8)))) else (kk23 false)))))) else (kk2 l8x4))
def f_lumref_Clean (fu : Nat) (a0 : (List UInt8)) : Option ((List UInt8) × Int) := (lt (fun (j1x4 : (List (List UInt8))) => (opt (f_lumref_Join fu j1x4) fun (r4 : ((List UInt8) × Int)) => (some (r4.1, r4.2)))) fun (kk2 : (List (List UInt8)) → Option ((List UInt8) × Int)) => (opt (f_lumref_cutAt fu a0) fun (r6 : (List (List UInt8))) => (f_lumref_Clean_L10 kk2 r6 fu ([] : List (List UInt8)) (0 : Int))))
set_option maxRecDepth 100000 in
theorem f_lumref_Clean_ok (fu : Nat) (a0 : (List UInt8)) {r : ((List UInt8) × Int)} (h : f_lumref_Clean fu a0 = some r) : FnOk Tryd.prog 43 [(str a0)] [] [] (fun (i : Unit) => { val := (Value.tuple #[(str r.1), (Value.int .i64 r.2)]) }) := by
  unfold f_lumref_Clean at h
  refine fn_enter Tryd.func43 rfl Tryd.ntmps43 rfl (fun w0 Z0 => ?_)
  refine aw_seq ?_
  refine aw_region ?_
  refine al_val (ov_assign rfl rfl) ?_
  refine al_val (ov_assign rfl rfl) ?_
  refine al_nil ?_
  refine aq_then ?_
  refine aw_seq ?_
  refine aw_region ?_
  refine al_val (ov_assign rfl rfl) ?_
  refine al_nil ?_
  refine aq_then ?_
  obtain ⟨kk2, hkk2, h⟩ := lt_some h
  refine aw_seq_join (ι := Value × (List (List UInt8))) (fun i => (memOf w0 Z0 [] [(oRow i.1 9 tyStr i.2)] [])) (fun i => (tab [(4, i.1)])) (fun i => kk2 i.2 = some r) ?_ ?_
  · rintro ⟨j1v4, j1x4⟩ h
    have h : kk2 j1x4 = some r := h
    rw [hkk2] at h
    dsimp only at h
    clear hkk2
    refine aw_show (m := (memOf w0 Z0 [] [(oRow j1v4 9 tyStr j1x4)] [])) (S := (tab [(4, j1v4)])) ?_
    refine aw_seq ?_
    refine aw_region ?_
    refine al_val (ov_move rfl rfl) ?_
    obtain ⟨r4, hc3, h⟩ := opt_some h
    refine al_call (vs := [j1v4]) (f_lumref_Join_ok fu j1v4 j1x4 hc3) [0] [] [0] (pre_own 0 rfl rfl pre_nil) rfl (by simp) (by decide) (.inr flat_res0) rfl Tryd.func41 rfl rfl rfl (fun _ => ?_)
    refine al_val (ov_extract rfl rfl rfl) ?_
    refine al_val (ov_extract rfl rfl rfl) ?_
    refine al_val (ov_assign rfl rfl) ?_
    refine al_val (ov_assign rfl rfl) ?_
    refine al_nil ?_
    refine aq_then ?_
    refine aw_ret ?_
    obtain rfl := Option.some.inj h
    exact fn_ret () [] [] rfl rfl rfl rfl (res2 rfl rfl rfl) rfl rfl rfl (by decide)
  · clear hkk2
    refine aw_seq ?_
    refine aw_region ?_
    refine al_val (ov_move rfl rfl) ?_
    obtain ⟨r6, hc5, h⟩ := opt_some h
    refine al_call (vs := [(str a0)]) (f_lumref_cutAt_ok fu a0 hc5) [] [] [] pre_nil rfl (by simp) (by decide) (.inl rfl) rfl Tryd.func86 rfl rfl rfl (fun v7 => ?_)
    refine al_val (ov_lenR 0 rfl rfl Tryd.underlying22 rfl) ?_
    refine al_val (ov_move rfl rfl) ?_
    refine al_nil ?_
    refine aq_then ?_
    refine aw_block ?_
    refine aw_nilR 9 tyStr ?_
    refine aw_state (aw_loop (ι := Value × (List (List UInt8)) × Int) (fun i => (memOf w0 Z0 [] [(oRow i.1 9 tyStr i.2.1), (oRow v7 9 tyStr r6)] [])) (fun i => (tab [(4, i.1), (8, v7), (9, (Value.int .i64 (r6.length : Int))), (10, (Value.int .i64 i.2.2))])) (fun q i => f_lumref_Clean_L10 kk2 r6 q i.2.1 i.2.2 = some r) ?_ fu ((Value.slice none 0 0), ([] : List (List UInt8)), (0 : Int)) h) (fun w a hm hs => norm hm hs [0, 1] [] [(4, (Value.slice none 0 0)), (8, v7), (9, (Value.int .i64 (r6.length : Int))), (10, (Value.int .i64 (0 : Int)))] (by decide) ⟨rfl, rfl, rfl, rfl, trivial⟩)
    clear h
    rintro k9 ⟨l8v4, l8x4, l8i10⟩ h
    have h : f_lumref_Clean_L10 kk2 r6 k9 l8x4 l8i10 = some r := h
    obtain _ | k9 := k9
    · rw [f_lumref_Clean_L10] at h; cases h
    rw [f_lumref_Clean_L10] at h
    refine aw_show (m := (memOf w0 Z0 [] [(oRow l8v4 9 tyStr l8x4), (oRow v7 9 tyStr r6)] [])) (S := (tab [(4, l8v4), (8, v7), (9, (Value.int .i64 (r6.length : Int))), (10, (Value.int .i64 l8i10))])) ?_
    refine aw_seq ?_
    refine aw_region ?_
    refine al_val (ov_int rfl rfl rfl rfl) ?_
    refine al_nil ?_
    refine aq_then ?_
    refine aw_seq ?_
    refine aw_cond rfl (fun hb11 => ?_) (fun hb11 => ?_)
    · replace h := bif_t hb11 h
      refine aw_skip ?_
      refine aq_then ?_
      obtain ⟨kk13, hkk13, h⟩ := lt_some h
      refine aw_seq_join (ι := Value × (List (List UInt8))) (fun i => (memOf w0 Z0 [] [(oRow i.1 9 tyStr i.2), (oRow v7 9 tyStr r6)] [])) (fun i => (tab [(4, i.1), (8, v7), (9, (Value.int .i64 (r6.length : Int))), (10, (Value.int .i64 l8i10))])) (fun i => kk13 i.2 = some r) ?_ ?_
      · rintro ⟨j12v4, j12x4⟩ h
        have h : kk13 j12x4 = some r := h
        rw [hkk13] at h
        dsimp only at h
        clear hkk13
        refine aw_show (m := (memOf w0 Z0 [] [(oRow j12v4 9 tyStr j12x4), (oRow v7 9 tyStr r6)] [])) (S := (tab [(4, j12v4), (8, v7), (9, (Value.int .i64 (r6.length : Int))), (10, (Value.int .i64 l8i10))])) ?_
        refine aw_region ?_
        refine al_val (ov_int rfl rfl rfl rfl) ?_
        refine al_val (ov_move rfl rfl) ?_
        refine al_nil ?_
        exact aq_again k9 (j12v4, j12x4, (IntKind.i64.wrap (l8i10 + (1 : Int)))) (Nat.lt_succ_self _) h (fun w a hm hs => norm hm hs [0, 1] [] [(4, j12v4), (8, v7), (9, (Value.int .i64 (r6.length : Int))), (10, (Value.int .i64 (IntKind.i64.wrap (l8i10 + (1 : Int)))))] (by decide) ⟨rfl, rfl, rfl, rfl, trivial⟩)
      · clear hkk13
        refine aw_block ?_
        refine aw_seq ?_
        refine aw_region ?_
        obtain ⟨u14, hu15, h⟩ := opt_some h
        refine al_idxR 1 (at_some hu15).1 (at_some hu15).2.1 rfl rfl rfl Tryd.underlying22 sz9 rfl (fun p16 hp17 => ?_)
        refine al_val (ov_loadR (ds := [(str u14)]) 1 rfl hp17 (at_some hu15).2.2 (fun h => h) rfl Tryd.underlying9 sz9 rfl rfl rfl) ?_
        refine al_val (ov_assign rfl rfl) ?_
        refine al_nil ?_
        refine aq_then ?_
        refine aw_seq ?_
        refine aw_region ?_
        refine al_val (ov_move rfl rfl) ?_
        refine al_val (ov_strCmp rfl rfl rfl rfl) ?_
        refine al_nil ?_
        refine aq_then ?_
        refine aw_cond rfl (fun hb18 => ?_) (fun hb18 => ?_)
        · replace h := bif_t hb18 h
          refine aw_seq ?_
          refine aw_seq ?_
          refine aw_region ?_
          refine al_val (ov_move rfl rfl) ?_
          refine al_val (ov_lenR 0 rfl rfl Tryd.underlying22 rfl) ?_
          refine al_val (ov_int rfl rfl rfl rfl) ?_
          refine al_nil ?_
          refine aq_then ?_
          refine aw_cond rfl (fun hb19 => ?_) (fun hb19 => ?_)
          · replace h := bif_t hb19 h
            refine aw_seq ?_
            refine aw_region ?_
            refine al_val (ov_assign rfl rfl) ?_
            refine al_val (ov_assign rfl rfl) ?_
            refine al_nil ?_
            refine aq_then ?_
            refine aw_ret ?_
            refine aq_then_ret ?_
            refine aq_block_ret ?_
            refine aq_then_ret ?_
            refine aq_then_ret ?_
            refine aq_block_ret ?_
            refine aq_then_ret ?_
            obtain rfl := Option.some.inj h
            exact fn_ret () [] [] rfl rfl rfl rfl (res2 rfl rfl rfl) rfl rfl rfl (by decide)
          · replace h := bif_f hb19 h
            refine aw_skip ?_
            refine aq_then ?_
            refine aw_region ?_
            refine al_val (ov_move rfl rfl) ?_
            refine al_val (ov_move rfl rfl) ?_
            refine al_val (ov_lenR 0 rfl rfl Tryd.underlying22 rfl) ?_
            refine al_val (ov_int rfl rfl rfl rfl) ?_
            obtain ⟨hc20, h⟩ := req_some h
            refine al_cutR 0 hc20.1 hc20.2 rfl rfl rfl Tryd.underlying22 sz9 rfl (fun s21 => ?_)
            refine al_val (ov_assign rfl rfl) ?_
            refine al_nil ?_
            refine aq_block ?_
            exact aq_join (s21, (l8x4.take ((IntKind.i64.wrap ((l8x4.length : Int) - (1 : Int)))).toNat)) h (fun w a hm hs => norm hm hs [0, 1] [] [(4, s21), (8, v7), (9, (Value.int .i64 (r6.length : Int))), (10, (Value.int .i64 l8i10))] (by decide) ⟨rfl, rfl, rfl, rfl, trivial⟩)
        · replace h := bif_f hb18 h
          obtain ⟨kk23, hkk23, h⟩ := lt_some h
          refine aw_seq_join (ι := Bool) (fun i => (memOf w0 Z0 [] [(oRow l8v4 9 tyStr l8x4), (oRow v7 9 tyStr r6)] [])) (fun i => (tab [(4, l8v4), (6, (str u14)), (8, v7), (9, (Value.int .i64 (r6.length : Int))), (10, (Value.int .i64 l8i10)), (29, (Value.bool i))])) (fun i => kk23 i = some r) ?_ ?_
          · rintro j22b29 h
            have h : kk23 j22b29 = some r := h
            rw [hkk23] at h
            dsimp only at h
            clear hkk23
            refine aw_show (m := (memOf w0 Z0 [] [(oRow l8v4 9 tyStr l8x4), (oRow v7 9 tyStr r6)] [])) (S := (tab [(4, l8v4), (6, (str u14)), (8, v7), (9, (Value.int .i64 (r6.length : Int))), (10, (Value.int .i64 l8i10)), (29, (Value.bool j22b29))])) ?_
            refine aw_cond rfl (fun hb24 => ?_) (fun hb24 => ?_)
            · replace h := bif_t hb24 h
              refine aw_region ?_
              refine al_val (ov_move rfl rfl) ?_
              refine al_val (ov_move rfl rfl) ?_
              refine al_buildSlice (τ := tyStr) (e := 9) (k := 1) (sz := 0) (by_ := 0) (z := undef) (cs := [(str u14)]) (xs := [u14]) rfl (by decide) (fun w a hm hs => ⟨([(str u14)]).toArray, rfl, by simp only [List.map_toArray, List.map_cons, List.map_nil, hs.ev (x := .tmp 31) rfl]; exact run_bs [(str u14)] [(str u14)] Tryd.underlying22 to9 rfl rfl (bs_cons (l := [(str u14)]) (cs := []) (cv_rfl rfl) rfl bs_nil) hm⟩) (fun hm => ⟨_, _, rfl, (fun _ => rfl) hm, rfl⟩) rfl (fun v25 => ?_)
              obtain ⟨hc26, h⟩ := req_some h
              refine al_append 1 hc26.1 hc26.2 rfl (src_own (i := 1) 0 rfl) rfl rfl Tryd.underlying22 to9 rfl rfl rfl (fun v27 => ?_)
              refine al_val (ov_assign rfl rfl) ?_
              refine al_nil ?_
              refine aq_block ?_
              exact aq_join (v27, (l8x4 ++ ([u14]))) h (fun w a hm hs => norm hm hs [1, 2] [] [(4, v27), (8, v7), (9, (Value.int .i64 (r6.length : Int))), (10, (Value.int .i64 l8i10))] (by decide) ⟨rfl, rfl, rfl, rfl, trivial⟩)
            · replace h := bif_f hb24 h
              refine aw_skip ?_
              refine aq_block ?_
              exact aq_join (l8v4, l8x4) h (fun w a hm hs => norm hm hs [0, 1] [] [(4, l8v4), (8, v7), (9, (Value.int .i64 (r6.length : Int))), (10, (Value.int .i64 l8i10))] (by decide) ⟨rfl, rfl, rfl, rfl, trivial⟩)
          · clear hkk23
            refine aw_region ?_
            refine al_val (ov_move rfl rfl) ?_
            refine al_val (ov_strCmp rfl rfl rfl rfl) ?_
            refine al_val (ov_move rfl rfl) ?_
            refine al_caseB 26 rfl (fun hb28 => ?_) (fun hb28 => ?_)
            · replace h := bif_t hb28 h
              refine al_val (ov_move rfl rfl) ?_
              refine al_val (ov_strCmp rfl rfl rfl rfl) ?_
              refine al_val (ov_pick_t rfl rfl rfl) ?_
              refine al_nil ?_
              exact aq_join (!(u14 == ([46] : List UInt8))) h (fun w a hm hs => norm hm hs [0, 1] [] [(4, l8v4), (6, (str u14)), (8, v7), (9, (Value.int .i64 (r6.length : Int))), (10, (Value.int .i64 l8i10)), (29, (Value.bool (!(u14 == ([46] : List UInt8)))))] (by decide) ⟨rfl, rfl, rfl, rfl, rfl, rfl, trivial⟩)
            · replace h := bif_f hb28 h
              refine al_skip ?_
              refine al_skip ?_
              refine al_val (ov_pick_f rfl rfl rfl) ?_
              refine al_nil ?_
              exact aq_join false h (fun w a hm hs => norm hm hs [0, 1] [] [(4, l8v4), (6, (str u14)), (8, v7), (9, (Value.int .i64 (r6.length : Int))), (10, (Value.int .i64 l8i10)), (29, (Value.bool false))] (by decide) ⟨rfl, rfl, rfl, rfl, rfl, rfl, trivial⟩)
    · replace h := bif_f hb11 h
      refine aw_exit ?_
      refine aq_then_exit ?_
      refine aq_then_exit ?_
      refine aq_block_exit ?_
      exact aq_join (l8v4, l8x4) h (fun w a hm hs => norm hm hs [0] [] [(4, l8v4)] (by decide) ⟨rfl, trivial⟩)
def f_cmp_isNaN_string_ (fu : Nat) (a0 : (List UInt8)) : Option Bool := (some (!(a0 == a0)))
set_option maxRecDepth 100000 in
theorem f_cmp_isNaN_string__ok (fu : Nat) (a0 : (List UInt8)) {r : Bool} (h : f_cmp_isNaN_string_ fu a0 = some r) : FnOk Tryd.prog 146 [(str a0)] [] [] (fun (i : Unit) => { val := (Value.bool r) }) := by
  unfold f_cmp_isNaN_string_ at h
  refine fn_enter Tryd.func146 rfl Tryd.ntmps146 rfl (fun w0 Z0 => ?_)
  refine aw_seq ?_
  refine aw_region ?_
  refine al_val (ov_assign rfl rfl) ?_
  refine al_nil ?_
  refine aq_then ?_
  refine aw_seq ?_
  refine aw_region ?_
  refine al_val (ov_move rfl rfl) ?_
  refine al_val (ov_move rfl rfl) ?_
  refine al_val (ov_strCmp rfl rfl rfl rfl) ?_
  refine al_val (ov_assign rfl rfl) ?_
  refine al_nil ?_
  refine aq_then ?_
  refine aw_ret ?_
  obtain rfl := Option.some.inj h
  exact fn_ret () [] [] rfl rfl rfl rfl (res1 rfl rfl) rfl rfl rfl (by decide)
def f_cmp_Compare_string_ (fu : Nat) (a0 : (List UInt8)) (a1 : (List UInt8)) : Option Int := (opt (f_cmp_isNaN_string_ fu a0) fun (r2 : Bool) => (opt (f_cmp_isNaN_string_ fu a1) fun (r4 : Bool) => (bif r2 then (bif r4 then (some (0 : Int)) else (some (-1 : Int))) else (bif r4 then (some (1 : Int)) else (bif (Op.bytesLess a0 a1) then (some (-1 : Int)) else (bif (!(Op.bytesLess a0 a1 || a0 == a1)) then (some (1 : Int)) else (some (0 : Int))))))))
set_option maxRecDepth 100000 in
theorem f_cmp_Compare_string__ok (fu : Nat) (a0 : (List UInt8)) (a1 : (List UInt8)) {r : Int} (h : f_cmp_Compare_string_ fu a0 a1 = some r) : FnOk Tryd.prog 123 [(str a0), (str a1)] [] [] (fun (i : Unit) => { val := (Value.int .i64 r) }) := by
  unfold f_cmp_Compare_string_ at h
  refine fn_enter Tryd.func123 rfl Tryd.ntmps123 rfl (fun w0 Z0 => ?_)
  refine aw_seq ?_
  refine aw_region ?_
  refine al_val (ov_assign rfl rfl) ?_
  refine al_nil ?_
  refine aq_then ?_
  refine aw_seq ?_
  refine aw_region ?_
  refine al_val (ov_move rfl rfl) ?_
  obtain ⟨r2, hc1, h⟩ := opt_some h
  refine al_call (vs := [(str a0)]) (f_cmp_isNaN_string__ok fu a0 hc1) [] [] [] pre_nil rfl (by simp) (by decide) (.inl rfl) rfl Tryd.func146 rfl rfl rfl (fun _ => ?_)
  refine al_val (ov_assign rfl rfl) ?_
  refine al_nil ?_
  refine aq_then ?_
  refine aw_seq ?_
  refine aw_region ?_
  refine al_val (ov_move rfl rfl) ?_
  obtain ⟨r4, hc3, h⟩ := opt_some h
  refine al_call (vs := [(str a1)]) (f_cmp_isNaN_string__ok fu a1 hc3) [] [] [] pre_nil rfl (by simp) (by decide) (.inl rfl) rfl Tryd.func146 rfl rfl rfl (fun _ => ?_)
  refine al_val (ov_assign rfl rfl) ?_
  refine al_nil ?_
  refine aq_then ?_
  refine aw_seq ?_
  refine aw_seq ?_
  refine aw_region ?_
  refine al_val (ov_move rfl rfl) ?_
  refine al_nil ?_
  refine aq_then ?_
  refine aw_cond rfl (fun hb5 => ?_) (fun hb5 => ?_)
  · replace h := bif_t hb5 h
    refine aw_seq ?_
    refine aw_seq ?_
    refine aw_region ?_
    refine al_val (ov_move rfl rfl) ?_
    refine al_nil ?_
    refine aq_then ?_
    refine aw_cond rfl (fun hb6 => ?_) (fun hb6 => ?_)
    · replace h := bif_t hb6 h
      refine aw_seq ?_
      refine aw_region ?_
      refine al_val (ov_assign rfl rfl) ?_
      refine al_nil ?_
      refine aq_then ?_
      refine aw_ret ?_
      refine aq_then_ret ?_
      refine aq_then_ret ?_
      obtain rfl := Option.some.inj h
      exact fn_ret () [] [] rfl rfl rfl rfl (res1 rfl rfl) rfl rfl rfl (by decide)
    · replace h := bif_f hb6 h
      refine aw_skip ?_
      refine aq_then ?_
      refine aw_seq ?_
      refine aw_region ?_
      refine al_val (ov_assign rfl rfl) ?_
      refine al_nil ?_
      refine aq_then ?_
      refine aw_ret ?_
      refine aq_then_ret ?_
      obtain rfl := Option.some.inj h
      exact fn_ret () [] [] rfl rfl rfl rfl (res1 rfl rfl) rfl rfl rfl (by decide)
  · replace h := bif_f hb5 h
    refine aw_skip ?_
    refine aq_then ?_
    refine aw_seq ?_
    refine aw_seq ?_
    refine aw_region ?_
    refine al_val (ov_move rfl rfl) ?_
    refine al_nil ?_
    refine aq_then ?_
    refine aw_cond rfl (fun hb7 => ?_) (fun hb7 => ?_)
    · replace h := bif_t hb7 h
      refine aw_seq ?_
      refine aw_region ?_
      refine al_val (ov_assign rfl rfl) ?_
      refine al_nil ?_
      refine aq_then ?_
      refine aw_ret ?_
      refine aq_then_ret ?_
      obtain rfl := Option.some.inj h
      exact fn_ret () [] [] rfl rfl rfl rfl (res1 rfl rfl) rfl rfl rfl (by decide)
    · replace h := bif_f hb7 h
      refine aw_skip ?_
      refine aq_then ?_
      refine aw_seq ?_
      refine aw_seq ?_
      refine aw_region ?_
      refine al_val (ov_move rfl rfl) ?_
      refine al_val (ov_move rfl rfl) ?_
      refine al_val (ov_strCmp rfl rfl rfl rfl) ?_
      refine al_nil ?_
      refine aq_then ?_
      refine aw_cond rfl (fun hb8 => ?_) (fun hb8 => ?_)
      · replace h := bif_t hb8 h
        refine aw_seq ?_
        refine aw_region ?_
        refine al_val (ov_assign rfl rfl) ?_
        refine al_nil ?_
        refine aq_then ?_
        refine aw_ret ?_
        refine aq_then_ret ?_
        obtain rfl := Option.some.inj h
        exact fn_ret () [] [] rfl rfl rfl rfl (res1 rfl rfl) rfl rfl rfl (by decide)
      · replace h := bif_f hb8 h
        refine aw_skip ?_
        refine aq_then ?_
        refine aw_seq ?_
        refine aw_seq ?_
        refine aw_region ?_
        refine al_val (ov_move rfl rfl) ?_
        refine al_val (ov_move rfl rfl) ?_
        refine al_val (ov_strCmp rfl rfl rfl rfl) ?_
        refine al_nil ?_
        refine aq_then ?_
        refine aw_cond rfl (fun hb9 => ?_) (fun hb9 => ?_)
        · replace h := bif_t hb9 h
          refine aw_seq ?_
          refine aw_region ?_
          refine al_val (ov_assign rfl rfl) ?_
          refine al_nil ?_
          refine aq_then ?_
          refine aw_ret ?_
          refine aq_then_ret ?_
          obtain rfl := Option.some.inj h
          exact fn_ret () [] [] rfl rfl rfl rfl (res1 rfl rfl) rfl rfl rfl (by decide)
        · replace h := bif_f hb9 h
          refine aw_skip ?_
          refine aq_then ?_
          refine aw_seq ?_
          refine aw_region ?_
          refine al_val (ov_assign rfl rfl) ?_
          refine al_nil ?_
          refine aq_then ?_
          refine aw_ret ?_
          obtain rfl := Option.some.inj h
          exact fn_ret () [] [] rfl rfl rfl rfl (res1 rfl rfl) rfl rfl rfl (by decide)
def f_slices_Compare___string_string__L6 (a0 : (List (List UInt8))) (a1 : (List (List UInt8))) (kk2 : (Unit → Option Int)) (fu : Nat) : Nat → Int → Option Int
  | 0, _ => none
  | k5 + 1, l4i11 => (bif (decide (l4i11 < (a0.length : Int))) then (opt (at? a0 l4i11) fun (u8 : (List UInt8)) => (bif (decide (l4i11 ≥ (a1.length : Int))) then (some (1 : Int)) else (opt (at? a1 l4i11) fun (u12 : (List UInt8)) => (opt (f_cmp_Compare_string_ fu u8 u12) fun (r16 : Int) => (bif (r16 != (0 : Int)) then (some r16) else (f_slices_Compare___string_string__L6 a0 a1 kk2 fu k5 (IntKind.i64.wrap (l4i11 + (1 : Int))))))))) else (kk2 ()))
def f_slices_Compare___string_string_ (fu : Nat) (a0 : (List (List UInt8))) (a1 : (List (List UInt8))) : Option Int := (lt (fun (_ : Unit) => (bif (decide ((a0.length : Int) < (a1.length : Int))) then (some (-1 : Int)) else (some (0 : Int)))) fun (kk2 : Unit → Option Int) => (f_slices_Compare___string_string__L6 a0 a1 kk2 fu fu (0 : Int)))
set_option maxRecDepth 100000 in
theorem f_slices_Compare___string_string__ok (fu : Nat) (v0_0 : Value) (a0 : (List (List UInt8))) (v1_0 : Value) (a1 : (List (List UInt8))) {r : Int} (h : f_slices_Compare___string_string_ fu a0 a1 = some r) : FnOk Tryd.prog 89 [v0_0, v1_0] [(fDat (tyList tyStr) [v0_0] a0), (fDat (tyList tyStr) [v1_0] a1)] [] (fun (i : Unit) => { val := (Value.int .i64 r) }) := by
  unfold f_slices_Compare___string_string_ at h
  refine fn_enter Tryd.func89 rfl Tryd.ntmps89 rfl (fun w0 Z0 => ?_)
  refine aw_seq ?_
  refine aw_region ?_
  refine al_val (ov_assign rfl rfl) ?_
  refine al_nil ?_
  refine aq_then ?_
  obtain ⟨kk2, hkk2, h⟩ := lt_some h
  refine aw_seq_join (ι := Unit) (fun i => (memOf w0 Z0 [] [] [(fDat (tyList tyStr) [v0_0] a0), (fDat (tyList tyStr) [v1_0] a1)])) (fun i => (tab [(0, v0_0), (1, v1_0)])) (fun i => kk2 () = some r) ?_ ?_
  · rintro _ h
    have h : kk2 () = some r := h
    rw [hkk2] at h
    dsimp only at h
    clear hkk2
    refine aw_show (m := (memOf w0 Z0 [] [] [(fDat (tyList tyStr) [v0_0] a0), (fDat (tyList tyStr) [v1_0] a1)])) (S := (tab [(0, v0_0), (1, v1_0)])) ?_
    refine aw_seq ?_
    refine aw_seq ?_
    refine aw_region ?_
    refine al_val (ov_move rfl rfl) ?_
    refine al_val (ov_lenD 0 rfl rfl Tryd.underlying22 rfl) ?_
    refine al_val (ov_move rfl rfl) ?_
    refine al_val (ov_lenD 1 rfl rfl Tryd.underlying22 rfl) ?_
    refine al_val (ov_int rfl rfl rfl rfl) ?_
    refine al_nil ?_
    refine aq_then ?_
    refine aw_cond rfl (fun hb3 => ?_) (fun hb3 => ?_)
    · replace h := bif_t hb3 h
      refine aw_seq ?_
      refine aw_region ?_
      refine al_val (ov_assign rfl rfl) ?_
      refine al_nil ?_
      refine aq_then ?_
      refine aw_ret ?_
      refine aq_then_ret ?_
      obtain rfl := Option.some.inj h
      exact fn_ret () [] [] rfl rfl rfl rfl (res1 rfl rfl) rfl rfl rfl (by decide)
    · replace h := bif_f hb3 h
      refine aw_skip ?_
      refine aq_then ?_
      refine aw_seq ?_
      refine aw_region ?_
      refine al_val (ov_assign rfl rfl) ?_
      refine al_nil ?_
      refine aq_then ?_
      refine aw_ret ?_
      obtain rfl := Option.some.inj h
      exact fn_ret () [] [] rfl rfl rfl rfl (res1 rfl rfl) rfl rfl rfl (by decide)
  · clear hkk2
    refine aw_seq ?_
    refine aw_region ?_
    refine al_val (ov_move rfl rfl) ?_
    refine al_val (ov_lenD 0 rfl rfl Tryd.underlying22 rfl) ?_
    refine al_val (ov_move rfl rfl) ?_
    refine al_nil ?_
    refine aq_then ?_
    refine aw_block ?_
    refine aw_state (aw_loop (ι := Int) (fun i => (memOf w0 Z0 [] [] [(fDat (tyList tyStr) [v0_0] a0), (fDat (tyList tyStr) [v1_0] a1)])) (fun i => (tab [(0, v0_0), (1, v1_0), (9, v0_0), (10, (Value.int .i64 (a0.length : Int))), (11, (Value.int .i64 i))])) (fun q i => f_slices_Compare___string_string__L6 a0 a1 kk2 fu q i = some r) ?_ fu (0 : Int) h) (fun w a hm hs => norm hm hs [] [0, 1] [(0, v0_0), (1, v1_0), (9, v0_0), (10, (Value.int .i64 (a0.length : Int))), (11, (Value.int .i64 (0 : Int)))] (by decide) ⟨rfl, rfl, rfl, rfl, rfl, trivial⟩)
    clear h
    rintro k5 l4i11 h
    have h : f_slices_Compare___string_string__L6 a0 a1 kk2 fu k5 l4i11 = some r := h
    obtain _ | k5 := k5
    · rw [f_slices_Compare___string_string__L6] at h; cases h
    rw [f_slices_Compare___string_string__L6] at h
    refine aw_show (m := (memOf w0 Z0 [] [] [(fDat (tyList tyStr) [v0_0] a0), (fDat (tyList tyStr) [v1_0] a1)])) (S := (tab [(0, v0_0), (1, v1_0), (9, v0_0), (10, (Value.int .i64 (a0.length : Int))), (11, (Value.int .i64 l4i11))])) ?_
    refine aw_seq ?_
    refine aw_region ?_
    refine al_val (ov_int rfl rfl rfl rfl) ?_
    refine al_nil ?_
    refine aq_then ?_
    refine aw_seq ?_
    refine aw_cond rfl (fun hb7 => ?_) (fun hb7 => ?_)
    · replace h := bif_t hb7 h
      refine aw_skip ?_
      refine aq_then ?_
      refine aw_seq ?_
      refine aw_block ?_
      refine aw_seq ?_
      refine aw_region ?_
      refine al_val (ov_move rfl rfl) ?_
      obtain ⟨u8, hu9, h⟩ := opt_some h
      refine al_idxD 0 hu9 rfl rfl rfl Tryd.underlying22 sz9 rfl (fun p10 => ?_)
      refine al_val (ov_loadP (ds := [(str u8)]) 0 rfl (fun h => h) rfl Tryd.underlying9 sz9 rfl rfl rfl) ?_
      refine al_val (ov_assign rfl rfl) ?_
      refine al_val (ov_assign rfl rfl) ?_
      refine al_nil ?_
      refine aq_then ?_
      refine aw_seq ?_
      refine aw_seq ?_
      refine aw_region ?_
      refine al_val (ov_move rfl rfl) ?_
      refine al_val (ov_move rfl rfl) ?_
      refine al_val (ov_lenD 2 rfl rfl Tryd.underlying22 rfl) ?_
      refine al_val (ov_int rfl rfl rfl rfl) ?_
      refine al_nil ?_
      refine aq_then ?_
      refine aw_cond rfl (fun hb11 => ?_) (fun hb11 => ?_)
      · replace h := bif_t hb11 h
        refine aw_seq ?_
        refine aw_region ?_
        refine al_val (ov_assign rfl rfl) ?_
        refine al_nil ?_
        refine aq_then ?_
        refine aw_ret ?_
        refine aq_then_ret ?_
        refine aq_block_ret ?_
        refine aq_then_ret ?_
        refine aq_then_ret ?_
        refine aq_block_ret ?_
        refine aq_then_ret ?_
        obtain rfl := Option.some.inj h
        exact fn_ret () [] [] rfl rfl rfl rfl (res1 rfl rfl) rfl rfl rfl (by decide)
      · replace h := bif_f hb11 h
        refine aw_skip ?_
        refine aq_then ?_
        refine aw_seq ?_
        refine aw_region ?_
        refine al_val (ov_move rfl rfl) ?_
        refine al_val (ov_move rfl rfl) ?_
        obtain ⟨u12, hu13, h⟩ := opt_some h
        refine al_idxD 2 hu13 rfl rfl rfl Tryd.underlying22 sz9 rfl (fun p14 => ?_)
        refine al_val (ov_loadP (ds := [(str u12)]) 0 rfl (fun h => h) rfl Tryd.underlying9 sz9 rfl rfl rfl) ?_
        refine al_val (ov_assign rfl rfl) ?_
        refine al_nil ?_
        refine aq_then ?_
        refine aw_seq ?_
        refine aw_region ?_
        refine al_val (ov_move rfl rfl) ?_
        refine al_val (ov_move rfl rfl) ?_
        obtain ⟨r16, hc15, h⟩ := opt_some h
        refine al_call (vs := [(str u8), (str u12)]) (f_cmp_Compare_string__ok fu u8 u12 hc15) [] [] [] pre_nil rfl (by simp) (by decide) (.inl rfl) rfl Tryd.func123 rfl rfl rfl (fun _ => ?_)
        refine al_val (ov_assign rfl rfl) ?_
        refine al_nil ?_
        refine aq_then ?_
        refine aw_seq ?_
        refine aw_region ?_
        refine al_val (ov_move rfl rfl) ?_
        refine al_val (ov_int rfl rfl rfl rfl) ?_
        refine al_nil ?_
        refine aq_then ?_
        refine aw_cond rfl (fun hb17 => ?_) (fun hb17 => ?_)
        · replace h := bif_t hb17 h
          refine aw_seq ?_
          refine aw_region ?_
          refine al_val (ov_move rfl rfl) ?_
          refine al_val (ov_assign rfl rfl) ?_
          refine al_nil ?_
          refine aq_then ?_
          refine aw_ret ?_
          refine aq_block_ret ?_
          refine aq_then_ret ?_
          refine aq_then_ret ?_
          refine aq_block_ret ?_
          refine aq_then_ret ?_
          obtain rfl := Option.some.inj h
          exact fn_ret () [] [] rfl rfl rfl rfl (res1 rfl rfl) rfl rfl rfl (by decide)
        · replace h := bif_f hb17 h
          refine aw_skip ?_
          refine aq_block ?_
          refine aq_then ?_
          refine aw_region ?_
          refine al_val (ov_int rfl rfl rfl rfl) ?_
          refine al_val (ov_move rfl rfl) ?_
          refine al_nil ?_
          exact aq_again k5 (IntKind.i64.wrap (l4i11 + (1 : Int))) (Nat.lt_succ_self _) h (fun w a hm hs => norm hm hs [] [2, 3] [(0, v0_0), (1, v1_0), (9, v0_0), (10, (Value.int .i64 (a0.length : Int))), (11, (Value.int .i64 (IntKind.i64.wrap (l4i11 + (1 : Int)))))] (by decide) ⟨rfl, rfl, rfl, rfl, rfl, trivial⟩)
    · replace h := bif_f hb7 h
      refine aw_exit ?_
      refine aq_then_exit ?_
      refine aq_then_exit ?_
      refine aq_block_exit ?_
      exact aq_join () h (fun w a hm hs => norm hm hs [] [0, 1] [(0, v0_0), (1, v1_0)] (by decide) ⟨rfl, rfl, trivial⟩)
def f_names_Less (fu : Nat) (a0 : (List UInt8)) (a1 : (List UInt8)) : Option (Bool × Int) := (opt (f_names_Split fu a0) fun (r2 : ((List (List UInt8)) × Int)) => (bif (r2.2 != (0 : Int)) then (some (false, r2.2)) else (opt (f_names_Split fu a1) fun (r6 : ((List (List UInt8)) × Int)) => (bif (r6.2 != (0 : Int)) then (some (false, r6.2)) else (opt (f_slices_Compare___string_string_ fu r2.1 r6.1) fun (r10 : Int) => (some ((decide (r10 < (0 : Int))), (0 : Int))))))))
set_option maxRecDepth 100000 in
theorem f_names_Less_ok (fu : Nat) (a0 : (List UInt8)) (a1 : (List UInt8)) {r : (Bool × Int)} (h : f_names_Less fu a0 a1 = some r) : FnOk Tryd.prog 44 [(str a0), (str a1)] [uMax, uTabs] [] (fun (i : Unit) => { val := (Value.tuple #[(Value.bool r.1), (Value.int .i64 r.2)]) }) := by
  unfold f_names_Less at h
  refine fn_enter Tryd.func44 rfl Tryd.ntmps44 rfl (fun w0 Z0 => ?_)
  refine aw_seq ?_
  refine aw_region ?_
  refine al_val (ov_assign rfl rfl) ?_
  refine al_val (ov_assign rfl rfl) ?_
  refine al_nil ?_
  refine aq_then ?_
  refine aw_seq ?_
  refine aw_region ?_
  refine al_val (ov_move rfl rfl) ?_
  obtain ⟨r2, hc1, h⟩ := opt_some h
  refine al_call (vs := [(str a0)]) (f_names_Split_ok fu a0 hc1) [] [] [] (pre_fz 0 rfl (pre_fz 1 rfl pre_nil)) rfl (by simp) (by decide) (.inl rfl) rfl Tryd.func38 rfl rfl rfl (fun v3 => ?_)
  refine al_val (ov_move rfl rfl) ?_
  refine al_val (ov_extract rfl rfl rfl) ?_
  refine al_val (ov_extract rfl rfl rfl) ?_
  refine al_val (ov_assign rfl rfl) ?_
  refine al_val (ov_assign rfl rfl) ?_
  refine al_nil ?_
  refine aq_then ?_
  refine aw_seq ?_
  refine aw_seq ?_
  refine aw_region ?_
  refine al_val (ov_move rfl rfl) ?_
  refine al_val (ov_int rfl rfl rfl rfl) ?_
  refine al_nil ?_
  refine aq_then ?_
  refine aw_cond rfl (fun hb4 => ?_) (fun hb4 => ?_)
  · replace h := bif_t hb4 h
    refine aw_seq ?_
    refine aw_region ?_
    refine al_val (ov_move rfl rfl) ?_
    refine al_val (ov_assign rfl rfl) ?_
    refine al_val (ov_assign rfl rfl) ?_
    refine al_nil ?_
    refine aq_then ?_
    refine aw_ret ?_
    refine aq_then_ret ?_
    obtain rfl := Option.some.inj h
    exact fn_ret () [] [] rfl rfl rfl rfl (res2 rfl rfl rfl) rfl rfl rfl (by decide)
  · replace h := bif_f hb4 h
    refine aw_skip ?_
    refine aq_then ?_
    refine aw_seq ?_
    refine aw_region ?_
    refine al_val (ov_move rfl rfl) ?_
    obtain ⟨r6, hc5, h⟩ := opt_some h
    refine al_call (vs := [(str a1)]) (f_names_Split_ok fu a1 hc5) [] [] [0] (pre_fz 0 rfl (pre_fz 1 rfl pre_nil)) rfl (by simp) (by decide) (.inl rfl) rfl Tryd.func38 rfl rfl rfl (fun v7 => ?_)
    refine al_val (ov_move rfl rfl) ?_
    refine al_val (ov_extract rfl rfl rfl) ?_
    refine al_val (ov_extract rfl rfl rfl) ?_
    refine al_val (ov_assign rfl rfl) ?_
    refine al_val (ov_assign rfl rfl) ?_
    refine al_nil ?_
    refine aq_then ?_
    refine aw_seq ?_
    refine aw_seq ?_
    refine aw_region ?_
    refine al_val (ov_move rfl rfl) ?_
    refine al_val (ov_int rfl rfl rfl rfl) ?_
    refine al_nil ?_
    refine aq_then ?_
    refine aw_cond rfl (fun hb8 => ?_) (fun hb8 => ?_)
    · replace h := bif_t hb8 h
      refine aw_seq ?_
      refine aw_region ?_
      refine al_val (ov_move rfl rfl) ?_
      refine al_val (ov_assign rfl rfl) ?_
      refine al_val (ov_assign rfl rfl) ?_
      refine al_nil ?_
      refine aq_then ?_
      refine aw_ret ?_
      refine aq_then_ret ?_
      obtain rfl := Option.some.inj h
      exact fn_ret () [] [] rfl rfl rfl rfl (res2 rfl rfl rfl) rfl rfl rfl (by decide)
    · replace h := bif_f hb8 h
      refine aw_skip ?_
      refine aq_then ?_
      refine aw_seq ?_
      refine aw_region ?_
      refine al_val (ov_move rfl rfl) ?_
      refine al_val (ov_move rfl rfl) ?_
      obtain ⟨r10, hc9, h⟩ := opt_some h
      refine al_call (vs := [v3, v7]) (f_slices_Compare___string_string__ok fu v3 r2.1 v7 r6.1 hc9) [0, 1] [] [0, 1] (pre_own 1 rfl rfl (pre_own 0 rfl rfl pre_nil)) rfl (by simp) (by decide) (.inr flat_res0) rfl Tryd.func89 rfl rfl rfl (fun _ => ?_)
      refine al_val (ov_int rfl rfl rfl rfl) ?_
      refine al_val (ov_assign rfl rfl) ?_
      refine al_val (ov_assign rfl rfl) ?_
      refine al_nil ?_
      refine aq_then ?_
      refine aw_ret ?_
      obtain rfl := Option.some.inj h
      exact fn_ret () [] [] rfl rfl rfl rfl (res2 rfl rfl rfl) rfl rfl rfl (by decide)
def f_lumref_ahead : Nat → (List (List UInt8)) → (List (List UInt8)) → Option Bool
  | 0, _, _ => none
  | fu + 1, a0, a1 => (bif ((a1.length : Int) == (0 : Int)) then (some false) else (bif ((a0.length : Int) == (0 : Int)) then (some true) else (opt (at? a0 (0 : Int)) fun (u3 : (List UInt8)) => (opt (at? a1 (0 : Int)) fun (u6 : (List UInt8)) => (bif (!(u3 == u6)) then (opt (at? a0 (0 : Int)) fun (u10 : (List UInt8)) => (opt (at? a1 (0 : Int)) fun (u13 : (List UInt8)) => (some (Op.bytesLess u10 u13)))) else (req (0 ≤ (1 : Int) ∧ (1 : Int) ≤ (a0.length : Int)) (req (0 ≤ (1 : Int) ∧ (1 : Int) ≤ (a1.length : Int)) (opt (f_lumref_ahead fu (a0.drop ((1 : Int)).toNat) (a1.drop ((1 : Int)).toNat)) fun (r21 : Bool) => (some r21)))))))))
set_option maxRecDepth 100000 in
theorem f_lumref_ahead_ok (fu : Nat) (v0_0 : Value) (a0 : (List (List UInt8))) (v1_0 : Value) (a1 : (List (List UInt8))) {r : Bool} (h : f_lumref_ahead fu a0 a1 = some r) : FnOk Tryd.prog 90 [v0_0, v1_0] [(fDat (tyList tyStr) [v0_0] a0), (fDat (tyList tyStr) [v1_0] a1)] [] (fun (i : Unit) => { val := (Value.bool r) }) := by
  cases fu with
  | zero => rw [f_lumref_ahead] at h; cases h
  | succ fu =>
    rw [f_lumref_ahead] at h
    refine fn_enter Tryd.func90 rfl Tryd.ntmps90 rfl (fun w0 Z0 => ?_)
    refine aw_seq ?_
    refine aw_region ?_
    refine al_val (ov_assign rfl rfl) ?_
    refine al_nil ?_
    refine aq_then ?_
    refine aw_seq ?_
    refine aw_seq ?_
    refine aw_region ?_
    refine al_val (ov_move rfl rfl) ?_
    refine al_val (ov_lenD 1 rfl rfl Tryd.underlying22 rfl) ?_
    refine al_val (ov_int rfl rfl rfl rfl) ?_
    refine al_nil ?_
    refine aq_then ?_
    refine aw_cond rfl (fun hb1 => ?_) (fun hb1 => ?_)
    · replace h := bif_t hb1 h
      refine aw_seq ?_
      refine aw_region ?_
      refine al_val (ov_assign rfl rfl) ?_
      refine al_nil ?_
      refine aq_then ?_
      refine aw_ret ?_
      refine aq_then_ret ?_
      obtain rfl := Option.some.inj h
      exact fn_ret () [] [] rfl rfl rfl rfl (res1 rfl rfl) rfl rfl rfl (by decide)
    · replace h := bif_f hb1 h
      refine aw_skip ?_
      refine aq_then ?_
      refine aw_seq ?_
      refine aw_seq ?_
      refine aw_region ?_
      refine al_val (ov_move rfl rfl) ?_
      refine al_val (ov_lenD 0 rfl rfl Tryd.underlying22 rfl) ?_
      refine al_val (ov_int rfl rfl rfl rfl) ?_
      refine al_nil ?_
      refine aq_then ?_
      refine aw_cond rfl (fun hb2 => ?_) (fun hb2 => ?_)
      · replace h := bif_t hb2 h
        refine aw_seq ?_
        refine aw_region ?_
        refine al_val (ov_assign rfl rfl) ?_
        refine al_nil ?_
        refine aq_then ?_
        refine aw_ret ?_
        refine aq_then_ret ?_
        obtain rfl := Option.some.inj h
        exact fn_ret () [] [] rfl rfl rfl rfl (res1 rfl rfl) rfl rfl rfl (by decide)
      · replace h := bif_f hb2 h
        refine aw_skip ?_
        refine aq_then ?_
        refine aw_seq ?_
        refine aw_seq ?_
        obtain ⟨u3, hu4, h⟩ := opt_some h
        obtain ⟨u6, hu7, h⟩ := opt_some h
        refine aw_region_draw 6 [(11, (fun u => fEq u v0_0)), (12, (fun p5 => (fPtr tyStr p5 u3))), (13, (fun u => fEq u (str u3))), (14, (fun u => fEq u v1_0)), (15, (fun p8 => (fPtr tyStr p8 u6))), (16, (fun u => fEq u (str u6)))] (tab [(0, v0_0), (1, v1_0)]) mixed (by kernel_rfl) rfl rfl rfl (fun a hs => hs.tab _ (allT_mem ⟨rfl, rfl, trivial⟩)) ⟨⟨rfl, ld_val (ov_move rfl rfl)⟩, ⟨rfl, ld_eq (j := 0) rfl rfl (ld_of (of_idxD 0 hu4 rfl rfl rfl Tryd.underlying22 sz9 rfl))⟩, ⟨rfl, ld_fact (j := 1) rfl rfl (fun p5 => ld_val (ov_loadP (ds := [(str u3)]) 0 rfl (fun h => h) rfl Tryd.underlying9 sz9 rfl rfl rfl))⟩, ⟨rfl, ld_val (ov_move rfl rfl)⟩, ⟨rfl, ld_eq (j := 3) rfl rfl (ld_of (of_idxD 1 hu7 rfl rfl rfl Tryd.underlying22 sz9 rfl))⟩, ⟨rfl, ld_fact (j := 4) rfl rfl (fun p8 => ld_val (ov_loadP (ds := [(str u6)]) 0 rfl (fun h => h) rfl Tryd.underlying9 sz9 rfl rfl rfl))⟩, trivial⟩ ?_
        refine tl_eq 2 rfl ?_
        refine tl_eq 5 rfl ?_
        refine tl_done ?_
        refine al_val (ov_strCmp rfl rfl rfl rfl) ?_
        refine al_nil ?_
        refine aq_then ?_
        refine aw_cond rfl (fun hb9 => ?_) (fun hb9 => ?_)
        · replace h := bif_t hb9 h
          refine aw_seq ?_
          obtain ⟨u10, hu11, h⟩ := opt_some h
          obtain ⟨u13, hu14, h⟩ := opt_some h
          refine aw_region_draw 7 [(18, (fun u => fEq u v0_0)), (19, (fun p12 => (fPtr tyStr p12 u10))), (20, (fun u => fEq u (str u10))), (21, (fun u => fEq u v1_0)), (22, (fun p15 => (fPtr tyStr p15 u13))), (23, (fun u => fEq u (str u13))), (24, (fun u => fEq u (Value.bool (Op.bytesLess u10 u13))))] (tab [(0, v0_0), (1, v1_0)]) mixed (by kernel_rfl) rfl rfl rfl (fun a hs => hs.tab _ (allT_mem ⟨rfl, rfl, trivial⟩)) ⟨⟨rfl, ld_val (ov_move rfl rfl)⟩, ⟨rfl, ld_eq (j := 0) rfl rfl (ld_of (of_idxD 0 hu11 rfl rfl rfl Tryd.underlying22 sz9 rfl))⟩, ⟨rfl, ld_fact (j := 1) rfl rfl (fun p12 => ld_val (ov_loadP (ds := [(str u10)]) 0 rfl (fun h => h) rfl Tryd.underlying9 sz9 rfl rfl rfl))⟩, ⟨rfl, ld_val (ov_move rfl rfl)⟩, ⟨rfl, ld_eq (j := 3) rfl rfl (ld_of (of_idxD 1 hu14 rfl rfl rfl Tryd.underlying22 sz9 rfl))⟩, ⟨rfl, ld_fact (j := 4) rfl rfl (fun p15 => ld_val (ov_loadP (ds := [(str u13)]) 0 rfl (fun h => h) rfl Tryd.underlying9 sz9 rfl rfl rfl))⟩, ⟨rfl, ld_eq (j := 2) rfl rfl (ld_eq (j := 5) rfl rfl (ld_val (ov_strCmp rfl rfl rfl rfl)))⟩, trivial⟩ ?_
          refine tl_eq 6 rfl ?_
          refine tl_done ?_
          refine al_val (ov_assign rfl rfl) ?_
          refine al_nil ?_
          refine aq_then ?_
          refine aw_ret ?_
          refine aq_then_ret ?_
          obtain rfl := Option.some.inj h
          exact fn_ret () [] [] rfl rfl rfl rfl (res1 rfl rfl) rfl rfl rfl (by decide)
        · replace h := bif_f hb9 h
          refine aw_skip ?_
          refine aq_then ?_
          refine aw_seq ?_
          obtain ⟨hc16, h⟩ := req_some h
          obtain ⟨hc18, h⟩ := req_some h
          obtain ⟨r21, hc20, h⟩ := opt_some h
          refine aw_region_draw 5 [(25, (fun u => fEq u v0_0)), (26, (fun s17 => (fDat (tyList tyStr) [s17] (a0.drop ((1 : Int)).toNat)))), (27, (fun u => fEq u v1_0)), (28, (fun s19 => (fDat (tyList tyStr) [s19] (a1.drop ((1 : Int)).toNat)))), (29, (fun u => fEq u (Value.bool r21)))] (tab [(0, v0_0), (1, v1_0)]) mixed (by kernel_rfl) rfl rfl rfl (fun a hs => hs.tab _ (allT_mem ⟨rfl, rfl, trivial⟩)) ⟨⟨rfl, ld_val (ov_move rfl rfl)⟩, ⟨rfl, ld_eq (j := 0) rfl rfl (ld_of (of_sliceDF 0 hc16.1 hc16.2 rfl rfl rfl Tryd.underlying22 sz9 rfl))⟩, ⟨rfl, ld_val (ov_move rfl rfl)⟩, ⟨rfl, ld_eq (j := 2) rfl rfl (ld_of (of_sliceDF 1 hc18.1 hc18.2 rfl rfl rfl Tryd.underlying22 sz9 rfl))⟩, ⟨rfl, ld_fact (j := 1) rfl rfl (fun s17 => ld_fact (j := 3) rfl rfl (fun s19 => ld_callV (vs := [s17, s19]) (f_lumref_ahead_ok fu s17 (a0.drop ((1 : Int)).toNat) s19 (a1.drop ((1 : Int)).toNat) hc20) [] (pre_fz 1 rfl (pre_fz 0 rfl pre_nil)) rfl Tryd.func90 rfl rfl rfl))⟩, trivial⟩ ?_
          refine tl_eq 4 rfl ?_
          refine tl_done ?_
          refine al_val (ov_assign rfl rfl) ?_
          refine al_nil ?_
          refine aq_then ?_
          refine aw_ret ?_
          obtain rfl := Option.some.inj h
          exact fn_ret () [] [] rfl rfl rfl rfl (res1 rfl rfl) rfl rfl rfl (by decide)
def f_lumref_Less (fu : Nat) (a0 : (List UInt8)) (a1 : (List UInt8)) : Option (Bool × Int) := (opt (f_lumref_Split fu a0) fun (r2 : ((List (List UInt8)) × Int)) => (bif (r2.2 != (0 : Int)) then (some (false, r2.2)) else (opt (f_lumref_Split fu a1) fun (r6 : ((List (List UInt8)) × Int)) => (bif (r6.2 != (0 : Int)) then (some (false, r6.2)) else (opt (f_lumref_ahead fu r2.1 r6.1) fun (r10 : Bool) => (some (r10, (0 : Int))))))))
set_option maxRecDepth 100000 in
theorem f_lumref_Less_ok (fu : Nat) (a0 : (List UInt8)) (a1 : (List UInt8)) {r : (Bool × Int)} (h : f_lumref_Less fu a0 a1 = some r) : FnOk Tryd.prog 45 [(str a0), (str a1)] [] [] (fun (i : Unit) => { val := (Value.tuple #[(Value.bool r.1), (Value.int .i64 r.2)]) }) := by
  unfold f_lumref_Less at h
  refine fn_enter Tryd.func45 rfl Tryd.ntmps45 rfl (fun w0 Z0 => ?_)
  refine aw_seq ?_
  refine aw_region ?_
  refine al_val (ov_assign rfl rfl) ?_
  refine al_val (ov_assign rfl rfl) ?_
  refine al_nil ?_
  refine aq_then ?_
  refine aw_seq ?_
  refine aw_region ?_
  refine al_val (ov_move rfl rfl) ?_
  obtain ⟨r2, hc1, h⟩ := opt_some h
  refine al_call (vs := [(str a0)]) (f_lumref_Split_ok fu a0 hc1) [] [] [] pre_nil rfl (by simp) (by decide) (.inl rfl) rfl Tryd.func39 rfl rfl rfl (fun v3 => ?_)
  refine al_val (ov_move rfl rfl) ?_
  refine al_val (ov_extract rfl rfl rfl) ?_
  refine al_val (ov_extract rfl rfl rfl) ?_
  refine al_val (ov_assign rfl rfl) ?_
  refine al_val (ov_assign rfl rfl) ?_
  refine al_nil ?_
  refine aq_then ?_
  refine aw_seq ?_
  refine aw_seq ?_
  refine aw_region ?_
  refine al_val (ov_move rfl rfl) ?_
  refine al_val (ov_int rfl rfl rfl rfl) ?_
  refine al_nil ?_
  refine aq_then ?_
  refine aw_cond rfl (fun hb4 => ?_) (fun hb4 => ?_)
  · replace h := bif_t hb4 h
    refine aw_seq ?_
    refine aw_region ?_
    refine al_val (ov_move rfl rfl) ?_
    refine al_val (ov_assign rfl rfl) ?_
    refine al_val (ov_assign rfl rfl) ?_
    refine al_nil ?_
    refine aq_then ?_
    refine aw_ret ?_
    refine aq_then_ret ?_
    obtain rfl := Option.some.inj h
    exact fn_ret () [] [] rfl rfl rfl rfl (res2 rfl rfl rfl) rfl rfl rfl (by decide)
  · replace h := bif_f hb4 h
    refine aw_skip ?_
    refine aq_then ?_
    refine aw_seq ?_
    refine aw_region ?_
    refine al_val (ov_move rfl rfl) ?_
    obtain ⟨r6, hc5, h⟩ := opt_some h
    refine al_call (vs := [(str a1)]) (f_lumref_Split_ok fu a1 hc5) [] [] [0] pre_nil rfl (by simp) (by decide) (.inl rfl) rfl Tryd.func39 rfl rfl rfl (fun v7 => ?_)
    refine al_val (ov_move rfl rfl) ?_
    refine al_val (ov_extract rfl rfl rfl) ?_
    refine al_val (ov_extract rfl rfl rfl) ?_
    refine al_val (ov_assign rfl rfl) ?_
    refine al_val (ov_assign rfl rfl) ?_
    refine al_nil ?_
    refine aq_then ?_
    refine aw_seq ?_
    refine aw_seq ?_
    refine aw_region ?_
    refine al_val (ov_move rfl rfl) ?_
    refine al_val (ov_int rfl rfl rfl rfl) ?_
    refine al_nil ?_
    refine aq_then ?_
    refine aw_cond rfl (fun hb8 => ?_) (fun hb8 => ?_)
    · replace h := bif_t hb8 h
      refine aw_seq ?_
      refine aw_region ?_
      refine al_val (ov_move rfl rfl) ?_
      refine al_val (ov_assign rfl rfl) ?_
      refine al_val (ov_assign rfl rfl) ?_
      refine al_nil ?_
      refine aq_then ?_
      refine aw_ret ?_
      refine aq_then_ret ?_
      obtain rfl := Option.some.inj h
      exact fn_ret () [] [] rfl rfl rfl rfl (res2 rfl rfl rfl) rfl rfl rfl (by decide)
    · replace h := bif_f hb8 h
      refine aw_skip ?_
      refine aq_then ?_
      refine aw_seq ?_
      refine aw_region ?_
      refine al_val (ov_move rfl rfl) ?_
      refine al_val (ov_move rfl rfl) ?_
      obtain ⟨r10, hc9, h⟩ := opt_some h
      refine al_call (vs := [v3, v7]) (f_lumref_ahead_ok fu v3 r2.1 v7 r6.1 hc9) [0, 1] [] [0, 1] (pre_own 1 rfl rfl (pre_own 0 rfl rfl pre_nil)) rfl (by simp) (by decide) (.inr flat_res0) rfl Tryd.func90 rfl rfl rfl (fun _ => ?_)
      refine al_val (ov_assign rfl rfl) ?_
      refine al_val (ov_assign rfl rfl) ?_
      refine al_nil ?_
      refine aq_then ?_
      refine aw_ret ?_
      obtain rfl := Option.some.inj h
      exact fn_ret () [] [] rfl rfl rfl rfl (res2 rfl rfl rfl) rfl rfl rfl (by decide)
def f_slices_Equal___string_string__L6 (a0 : (List (List UInt8))) (a1 : (List (List UInt8))) (kk3 : (Unit → Option Bool)) : Nat → Int → Option Bool
  | 0, _ => none
  | k5 + 1, l4i13 => (bif (decide (l4i13 < (a0.length : Int))) then (opt (at? a0 l4i13) fun (u8 : (List UInt8)) => (opt (at? a1 l4i13) fun (u11 : (List UInt8)) => (bif (!(u8 == u11)) then (some false) else (f_slices_Equal___string_string__L6 a0 a1 kk3 k5 (IntKind.i64.wrap (l4i13 + (1 : Int))))))) else (kk3 ()))
def f_slices_Equal___string_string_ (fu : Nat) (a0 : (List (List UInt8))) (a1 : (List (List UInt8))) : Option Bool := (bif ((a0.length : Int) != (a1.length : Int)) then (some false) else (lt (fun (_ : Unit) => (some true)) fun (kk3 : Unit → Option Bool) => (f_slices_Equal___string_string__L6 a0 a1 kk3 fu (0 : Int))))
set_option maxRecDepth 100000 in
theorem f_slices_Equal___string_string__ok (fu : Nat) (v0_0 : Value) (a0 : (List (List UInt8))) (v1_0 : Value) (a1 : (List (List UInt8))) {r : Bool} (h : f_slices_Equal___string_string_ fu a0 a1 = some r) : FnOk Tryd.prog 16 [v0_0, v1_0] [(fDat (tyList tyStr) [v0_0] a0), (fDat (tyList tyStr) [v1_0] a1)] [] (fun (i : Unit) => { val := (Value.bool r) }) := by
  unfold f_slices_Equal___string_string_ at h
  refine fn_enter Tryd.func16 rfl Tryd.ntmps16 rfl (fun w0 Z0 => ?_)
  refine aw_seq ?_
  refine aw_region ?_
  refine al_val (ov_assign rfl rfl) ?_
  refine al_nil ?_
  refine aq_then ?_
  refine aw_seq ?_
  refine aw_seq ?_
  refine aw_region ?_
  refine al_val (ov_move rfl rfl) ?_
  refine al_val (ov_lenD 0 rfl rfl Tryd.underlying22 rfl) ?_
  refine al_val (ov_move rfl rfl) ?_
  refine al_val (ov_lenD 1 rfl rfl Tryd.underlying22 rfl) ?_
  refine al_val (ov_int rfl rfl rfl rfl) ?_
  refine al_nil ?_
  refine aq_then ?_
  refine aw_cond rfl (fun hb1 => ?_) (fun hb1 => ?_)
  · replace h := bif_t hb1 h
    refine aw_seq ?_
    refine aw_region ?_
    refine al_val (ov_assign rfl rfl) ?_
    refine al_nil ?_
    refine aq_then ?_
    refine aw_ret ?_
    refine aq_then_ret ?_
    obtain rfl := Option.some.inj h
    exact fn_ret () [] [] rfl rfl rfl rfl (res1 rfl rfl) rfl rfl rfl (by decide)
  · replace h := bif_f hb1 h
    refine aw_skip ?_
    refine aq_then ?_
    obtain ⟨kk3, hkk3, h⟩ := lt_some h
    refine aw_seq_join (ι := Unit) (fun i => (memOf w0 Z0 [] [] [(fDat (tyList tyStr) [v0_0] a0), (fDat (tyList tyStr) [v1_0] a1)])) (fun i => (tab [])) (fun i => kk3 () = some r) ?_ ?_
    · rintro _ h
      have h : kk3 () = some r := h
      rw [hkk3] at h
      dsimp only at h
      clear hkk3
      refine aw_show (m := (memOf w0 Z0 [] [] [(fDat (tyList tyStr) [v0_0] a0), (fDat (tyList tyStr) [v1_0] a1)])) (S := (tab [])) ?_
      refine aw_seq ?_
      refine aw_region ?_
      refine al_val (ov_assign rfl rfl) ?_
      refine al_nil ?_
      refine aq_then ?_
      refine aw_ret ?_
      obtain rfl := Option.some.inj h
      exact fn_ret () [] [] rfl rfl rfl rfl (res1 rfl rfl) rfl rfl rfl (by decide)
    · clear hkk3
      refine aw_seq ?_
      refine aw_region ?_
      refine al_val (ov_move rfl rfl) ?_
      refine al_val (ov_lenD 0 rfl rfl Tryd.underlying22 rfl) ?_
      refine al_val (ov_move rfl rfl) ?_
      refine al_nil ?_
      refine aq_then ?_
      refine aw_block ?_
      refine aw_state (aw_loop (ι := Int) (fun i => (memOf w0 Z0 [] [] [(fDat (tyList tyStr) [v0_0] a0), (fDat (tyList tyStr) [v1_0] a1)])) (fun i => (tab [(0, v0_0), (1, v1_0), (12, (Value.int .i64 (a0.length : Int))), (13, (Value.int .i64 i))])) (fun q i => f_slices_Equal___string_string__L6 a0 a1 kk3 q i = some r) ?_ fu (0 : Int) h) (fun w a hm hs => norm hm hs [] [0, 1] [(0, v0_0), (1, v1_0), (12, (Value.int .i64 (a0.length : Int))), (13, (Value.int .i64 (0 : Int)))] (by decide) ⟨rfl, rfl, rfl, rfl, trivial⟩)
      clear h
      rintro k5 l4i13 h
      have h : f_slices_Equal___string_string__L6 a0 a1 kk3 k5 l4i13 = some r := h
      obtain _ | k5 := k5
      · rw [f_slices_Equal___string_string__L6] at h; cases h
      rw [f_slices_Equal___string_string__L6] at h
      refine aw_show (m := (memOf w0 Z0 [] [] [(fDat (tyList tyStr) [v0_0] a0), (fDat (tyList tyStr) [v1_0] a1)])) (S := (tab [(0, v0_0), (1, v1_0), (12, (Value.int .i64 (a0.length : Int))), (13, (Value.int .i64 l4i13))])) ?_
      refine aw_seq ?_
      refine aw_region ?_
      refine al_val (ov_int rfl rfl rfl rfl) ?_
      refine al_nil ?_
      refine aq_then ?_
      refine aw_seq ?_
      refine aw_cond rfl (fun hb7 => ?_) (fun hb7 => ?_)
      · replace h := bif_t hb7 h
        refine aw_skip ?_
        refine aq_then ?_
        refine aw_seq ?_
        refine aw_block ?_
        refine aw_seq ?_
        refine aw_region ?_
        refine al_val (ov_move rfl rfl) ?_
        refine al_val (ov_assign rfl rfl) ?_
        refine al_nil ?_
        refine aq_then ?_
        refine aw_seq ?_
        obtain ⟨u8, hu9, h⟩ := opt_some h
        obtain ⟨u11, hu12, h⟩ := opt_some h
        refine aw_region_draw 8 [(16, (fun u => fEq u v0_0)), (17, (fun u => fEq u (Value.int .i64 l4i13))), (18, (fun p10 => (fPtr tyStr p10 u8))), (19, (fun u => fEq u (str u8))), (20, (fun u => fEq u v1_0)), (21, (fun u => fEq u (Value.int .i64 l4i13))), (22, (fun p13 => (fPtr tyStr p13 u11))), (23, (fun u => fEq u (str u11)))] (tab [(0, v0_0), (1, v1_0), (5, (Value.int .i64 l4i13)), (12, (Value.int .i64 (a0.length : Int))), (13, (Value.int .i64 l4i13))]) mixed (by kernel_rfl) rfl rfl rfl (fun a hs => hs.tab _ (allT_mem ⟨rfl, rfl, rfl, rfl, rfl, trivial⟩)) ⟨⟨rfl, ld_val (ov_move rfl rfl)⟩, ⟨rfl, ld_val (ov_move rfl rfl)⟩, ⟨rfl, ld_eq (j := 0) rfl rfl (ld_eq (j := 1) rfl rfl (ld_of (of_idxD 0 hu9 rfl rfl rfl Tryd.underlying22 sz9 rfl)))⟩, ⟨rfl, ld_fact (j := 2) rfl rfl (fun p10 => ld_val (ov_loadP (ds := [(str u8)]) 0 rfl (fun h => h) rfl Tryd.underlying9 sz9 rfl rfl rfl))⟩, ⟨rfl, ld_val (ov_move rfl rfl)⟩, ⟨rfl, ld_val (ov_move rfl rfl)⟩, ⟨rfl, ld_eq (j := 4) rfl rfl (ld_eq (j := 5) rfl rfl (ld_of (of_idxD 1 hu12 rfl rfl rfl Tryd.underlying22 sz9 rfl)))⟩, ⟨rfl, ld_fact (j := 6) rfl rfl (fun p13 => ld_val (ov_loadP (ds := [(str u11)]) 0 rfl (fun h => h) rfl Tryd.underlying9 sz9 rfl rfl rfl))⟩, trivial⟩ ?_
        refine tl_eq 3 rfl ?_
        refine tl_eq 7 rfl ?_
        refine tl_done ?_
        refine al_val (ov_strCmp rfl rfl rfl rfl) ?_
        refine al_nil ?_
        refine aq_then ?_
        refine aw_cond rfl (fun hb14 => ?_) (fun hb14 => ?_)
        · replace h := bif_t hb14 h
          refine aw_seq ?_
          refine aw_region ?_
          refine al_val (ov_assign rfl rfl) ?_
          refine al_nil ?_
          refine aq_then ?_
          refine aw_ret ?_
          refine aq_block_ret ?_
          refine aq_then_ret ?_
          refine aq_then_ret ?_
          refine aq_block_ret ?_
          refine aq_then_ret ?_
          obtain rfl := Option.some.inj h
          exact fn_ret () [] [] rfl rfl rfl rfl (res1 rfl rfl) rfl rfl rfl (by decide)
        · replace h := bif_f hb14 h
          refine aw_skip ?_
          refine aq_block ?_
          refine aq_then ?_
          refine aw_region ?_
          refine al_val (ov_int rfl rfl rfl rfl) ?_
          refine al_val (ov_move rfl rfl) ?_
          refine al_nil ?_
          exact aq_again k5 (IntKind.i64.wrap (l4i13 + (1 : Int))) (Nat.lt_succ_self _) h (fun w a hm hs => norm hm hs [] [0, 1] [(0, v0_0), (1, v1_0), (12, (Value.int .i64 (a0.length : Int))), (13, (Value.int .i64 (IntKind.i64.wrap (l4i13 + (1 : Int)))))] (by decide) ⟨rfl, rfl, rfl, rfl, trivial⟩)
      · replace h := bif_f hb7 h
        refine aw_exit ?_
        refine aq_then_exit ?_
        refine aq_then_exit ?_
        refine aq_block_exit ?_
        exact aq_join () h (fun w a hm hs => norm hm hs [] [0, 1] [] (by decide) trivial)
def f_lumlaw_NamesSays (fu : Nat) (a0 : (List UInt8)) (a1 : (List UInt8)) (a2 : (List UInt8)) (a3 : (List (List UInt8))) : Option Bool := (opt (f_names_Split fu a1) fun (r2 : ((List (List UInt8)) × Int)) => (opt (f_lumref_Split fu a1) fun (r5 : ((List (List UInt8)) × Int)) => (opt (f_names_Join fu a3) fun (r8 : ((List UInt8) × Int)) => (opt (f_lumref_Join fu a3) fun (r10 : ((List UInt8) × Int)) => (opt (f_names_Clean fu a1) fun (r12 : ((List UInt8) × Int)) => (opt (f_lumref_Clean fu a1) fun (r14 : ((List UInt8) × Int)) => (opt (f_names_Less fu a1 a2) fun (r16 : (Bool × Int)) => (opt (f_lumref_Less fu a1 a2) fun (r18 : (Bool × Int)) => (lt (fun (j19b8 : Bool) => (some j19b8)) fun (kk20 : Bool → Option Bool) => (opt (f_names_Check fu a0) fun (r22 : Int) => (opt (f_lumref_Name fu a0) fun (r24 : Int) => (bif (r22 == r24) then (opt (f_slices_Equal___string_string_ fu r2.1 r5.1) fun (r27 : Bool) => (bif r27 then (bif (r2.2 == r5.2) then (bif (r8.1 == r10.1) then (bif (r8.2 == r10.2) then (bif (r12.1 == r14.1) then (bif (r12.2 == r14.2) then (bif (r16.1 == r18.1) then (kk20 (r16.2 == r18.2)) else (kk20 false)) else (kk20 false)) else (kk20 false)) else (kk20 false)) else (kk20 false)) else (kk20 false)) else (kk20 false))) else (kk20 false)))))))))))))
set_option maxRecDepth 100000 in
set_option maxHeartbeats 2000000 in
theorem f_lumlaw_NamesSays_ok (fu : Nat) (a0 : (List UInt8)) (a1 : (List UInt8)) (a2 : (List UInt8)) (v3_0 : Value) (a3 : (List (List UInt8))) {r : Bool} (h : f_lumlaw_NamesSays fu a0 a1 a2 a3 = some r) : FnOk Tryd.prog 8 [(str a0), (str a1), (str a2), v3_0] [(fDat (tyList tyStr) [v3_0] a3), uMax, uTabs] [] (fun (i : Unit) => { val := (Value.bool r) }) := by
  unfold f_lumlaw_NamesSays at h
  refine fn_enter Tryd.func8 rfl Tryd.ntmps8 rfl (fun w0 Z0 => ?_)
  refine aw_seq ?_
  refine aw_region ?_
  refine al_val (ov_assign rfl rfl) ?_
  refine al_nil ?_
  refine aq_then ?_
  refine aw_seq ?_
  refine aw_region ?_
  refine al_val (ov_move rfl rfl) ?_
  obtain ⟨r2, hc1, h⟩ := opt_some h
  refine al_call (vs := [(str a1)]) (f_names_Split_ok fu a1 hc1) [] [] [] (pre_fz 1 rfl (pre_fz 2 rfl pre_nil)) rfl (by simp) (by decide) (.inl rfl) rfl Tryd.func38 rfl rfl rfl (fun v3 => ?_)
  refine al_val (ov_move rfl rfl) ?_
  refine al_val (ov_extract rfl rfl rfl) ?_
  refine al_val (ov_extract rfl rfl rfl) ?_
  refine al_val (ov_assign rfl rfl) ?_
  refine al_val (ov_assign rfl rfl) ?_
  refine al_nil ?_
  refine aq_then ?_
  refine aw_seq ?_
  refine aw_region ?_
  refine al_val (ov_move rfl rfl) ?_
  obtain ⟨r5, hc4, h⟩ := opt_some h
  refine al_call (vs := [(str a1)]) (f_lumref_Split_ok fu a1 hc4) [] [] [0] pre_nil rfl (by simp) (by decide) (.inl rfl) rfl Tryd.func39 rfl rfl rfl (fun v6 => ?_)
  refine al_val (ov_move rfl rfl) ?_
  refine al_val (ov_extract rfl rfl rfl) ?_
  refine al_val (ov_extract rfl rfl rfl) ?_
  refine al_val (ov_assign rfl rfl) ?_
  refine al_val (ov_assign rfl rfl) ?_
  refine al_nil ?_
  refine aq_then ?_
  refine aw_seq ?_
  refine aw_region ?_
  refine al_val (ov_move rfl rfl) ?_
  obtain ⟨r8, hc7, h⟩ := opt_some h
  refine al_call (vs := [v3_0]) (f_names_Join_ok fu v3_0 a3 hc7) [] [] [0, 1] (pre_fz 0 rfl (pre_fz 2 rfl pre_nil)) rfl (by simp) (by decide) (.inl rfl) rfl Tryd.func40 rfl rfl rfl (fun _ => ?_)
  refine al_val (ov_move rfl rfl) ?_
  refine al_val (ov_extract rfl rfl rfl) ?_
  refine al_val (ov_extract rfl rfl rfl) ?_
  refine al_val (ov_assign rfl rfl) ?_
  refine al_val (ov_assign rfl rfl) ?_
  refine al_nil ?_
  refine aq_then ?_
  refine aw_seq ?_
  refine aw_region ?_
  refine al_val (ov_move rfl rfl) ?_
  obtain ⟨r10, hc9, h⟩ := opt_some h
  refine al_call (vs := [v3_0]) (f_lumref_Join_ok fu v3_0 a3 hc9) [] [] [0, 1] (pre_fz 0 rfl pre_nil) rfl (by simp) (by decide) (.inl rfl) rfl Tryd.func41 rfl rfl rfl (fun _ => ?_)
  refine al_val (ov_move rfl rfl) ?_
  refine al_val (ov_extract rfl rfl rfl) ?_
  refine al_val (ov_extract rfl rfl rfl) ?_
  refine al_val (ov_assign rfl rfl) ?_
  refine al_val (ov_assign rfl rfl) ?_
  refine al_nil ?_
  refine aq_then ?_
  refine aw_seq ?_
  refine aw_region ?_
  refine al_val (ov_move rfl rfl) ?_
  obtain ⟨r12, hc11, h⟩ := opt_some h
  refine al_call (vs := [(str a1)]) (f_names_Clean_ok fu a1 hc11) [] [] [0, 1] (pre_fz 1 rfl (pre_fz 2 rfl pre_nil)) rfl (by simp) (by decide) (.inl rfl) rfl Tryd.func42 rfl rfl rfl (fun _ => ?_)
  refine al_val (ov_move rfl rfl) ?_
  refine al_val (ov_extract rfl rfl rfl) ?_
  refine al_val (ov_extract rfl rfl rfl) ?_
  refine al_val (ov_assign rfl rfl) ?_
  refine al_val (ov_assign rfl rfl) ?_
  refine al_nil ?_
  refine aq_then ?_
  refine aw_seq ?_
  refine aw_state (m' := (memOf w0 Z0 [] [(oRow v6 9 tyStr r5.1), (oRow v3 9 tyStr r2.1)] [(fDat (tyList tyStr) [v3_0] a3), uMax, uTabs])) (S' := (tab [(0, (str a0)), (1, (str a1)), (2, (str a2)), (9, v3), (10, (Value.int .i64 r2.2)), (11, v6), (12, (Value.int .i64 r5.2)), (13, (str r8.1)), (14, (Value.int .i64 r8.2)), (15, (str r10.1)), (16, (Value.int .i64 r10.2)), (17, (str r12.1)), (18, (Value.int .i64 r12.2))])) ?_ (fun w a hm hs => norm hm hs [0, 1] [0, 1, 2] [(0, (str a0)), (1, (str a1)), (2, (str a2)), (9, v3), (10, (Value.int .i64 r2.2)), (11, v6), (12, (Value.int .i64 r5.2)), (13, (str r8.1)), (14, (Value.int .i64 r8.2)), (15, (str r10.1)), (16, (Value.int .i64 r10.2)), (17, (str r12.1)), (18, (Value.int .i64 r12.2))] (by decide) ⟨rfl, rfl, rfl, rfl, rfl, rfl, rfl, rfl, rfl, rfl, rfl, rfl, rfl, trivial⟩)
  refine aw_region ?_
  refine al_val (ov_move rfl rfl) ?_
  obtain ⟨r14, hc13, h⟩ := opt_some h
  refine al_call (vs := [(str a1)]) (f_lumref_Clean_ok fu a1 hc13) [] [] [0, 1] pre_nil rfl (by simp) (by decide) (.inl rfl) rfl Tryd.func43 rfl rfl rfl (fun _ => ?_)
  refine al_val (ov_move rfl rfl) ?_
  refine al_val (ov_extract rfl rfl rfl) ?_
  refine al_val (ov_extract rfl rfl rfl) ?_
  refine al_val (ov_assign rfl rfl) ?_
  refine al_val (ov_assign rfl rfl) ?_
  refine al_nil ?_
  refine aq_then ?_
  refine aw_seq ?_
  refine aw_region ?_
  refine al_val (ov_move rfl rfl) ?_
  refine al_val (ov_move rfl rfl) ?_
  obtain ⟨r16, hc15, h⟩ := opt_some h
  refine al_call (vs := [(str a1), (str a2)]) (f_names_Less_ok fu a1 a2 hc15) [] [] [0, 1] (pre_fz 1 rfl (pre_fz 2 rfl pre_nil)) rfl (by simp) (by decide) (.inl rfl) rfl Tryd.func44 rfl rfl rfl (fun _ => ?_)
  refine al_val (ov_move rfl rfl) ?_
  refine al_val (ov_extract rfl rfl rfl) ?_
  refine al_val (ov_extract rfl rfl rfl) ?_
  refine al_val (ov_assign rfl rfl) ?_
  refine al_val (ov_assign rfl rfl) ?_
  refine al_nil ?_
  refine aq_then ?_
  refine aw_seq ?_
  refine aw_region ?_
  refine al_val (ov_move rfl rfl) ?_
  refine al_val (ov_move rfl rfl) ?_
  obtain ⟨r18, hc17, h⟩ := opt_some h
  refine al_call (vs := [(str a1), (str a2)]) (f_lumref_Less_ok fu a1 a2 hc17) [] [] [0, 1] pre_nil rfl (by simp) (by decide) (.inl rfl) rfl Tryd.func45 rfl rfl rfl (fun _ => ?_)
  refine al_val (ov_move rfl rfl) ?_
  refine al_val (ov_extract rfl rfl rfl) ?_
  refine al_val (ov_extract rfl rfl rfl) ?_
  refine al_val (ov_assign rfl rfl) ?_
  refine al_val (ov_assign rfl rfl) ?_
  refine al_nil ?_
  refine aq_then ?_
  obtain ⟨kk20, hkk20, h⟩ := lt_some h
  refine aw_seq_join (ι := Bool) (fun i => (memOf w0 Z0 [] [] [(fDat (tyList tyStr) [v3_0] a3), uMax, uTabs])) (fun i => (tab [(8, (Value.bool i))])) (fun i => kk20 i = some r) ?_ ?_
  · rintro j19b8 h
    have h : kk20 j19b8 = some r := h
    rw [hkk20] at h
    dsimp only at h
    clear hkk20
    refine aw_show (m := (memOf w0 Z0 [] [] [(fDat (tyList tyStr) [v3_0] a3), uMax, uTabs])) (S := (tab [(8, (Value.bool j19b8))])) ?_
    refine aw_ret ?_
    obtain rfl := Option.some.inj h
    exact fn_ret () [] [] rfl rfl rfl rfl (res1 rfl rfl) rfl rfl rfl (by decide)
  · clear hkk20
    refine aw_region ?_
    refine al_val (ov_move rfl rfl) ?_
    obtain ⟨r22, hc21, h⟩ := opt_some h
    refine al_call (vs := [(str a0)]) (f_names_Check_ok fu a0 hc21) [] [] [0, 1] (pre_fz 2 rfl pre_nil) rfl (by simp) (by decide) (.inl rfl) rfl Tryd.func46 rfl rfl rfl (fun _ => ?_)
    refine al_val (ov_move rfl rfl) ?_
    obtain ⟨r24, hc23, h⟩ := opt_some h
    refine al_call (vs := [(str a0)]) (f_lumref_Name_ok fu a0 hc23) [] [] [0, 1] pre_nil rfl (by simp) (by decide) (.inl rfl) rfl Tryd.func47 rfl rfl rfl (fun _ => ?_)
    refine al_val (ov_int rfl rfl rfl rfl) ?_
    refine al_val (ov_move rfl rfl) ?_
    refine al_caseB 72 rfl (fun hb25 => ?_) (fun hb25 => ?_)
    · replace h := bif_t hb25 h
      refine al_val (ov_move rfl rfl) ?_
      refine al_val (ov_move rfl rfl) ?_
      obtain ⟨r27, hc26, h⟩ := opt_some h
      refine al_call (vs := [v3, v6]) (f_slices_Equal___string_string__ok fu v3 r2.1 v6 r5.1 hc26) [0, 1] [] [0, 1] (pre_own 1 rfl rfl (pre_own 0 rfl rfl pre_nil)) rfl (by simp) (by decide) (.inr flat_res0) rfl Tryd.func16 rfl rfl rfl (fun _ => ?_)
      refine al_val (ov_pick_t rfl rfl rfl) ?_
      refine al_val (ov_move rfl rfl) ?_
      refine al_caseB 77 rfl (fun hb28 => ?_) (fun hb28 => ?_)
      · replace h := bif_t hb28 h
        refine al_val (ov_move rfl rfl) ?_
        refine al_val (ov_move rfl rfl) ?_
        refine al_val (ov_int rfl rfl rfl rfl) ?_
        refine al_val (ov_pick_t rfl rfl rfl) ?_
        refine al_val (ov_move rfl rfl) ?_
        refine al_caseB 82 rfl (fun hb29 => ?_) (fun hb29 => ?_)
        · replace h := bif_t hb29 h
          refine al_val (ov_move rfl rfl) ?_
          refine al_val (ov_move rfl rfl) ?_
          refine al_val (ov_strCmp rfl rfl rfl rfl) ?_
          refine al_val (ov_pick_t rfl rfl rfl) ?_
          refine al_val (ov_move rfl rfl) ?_
          refine al_caseB 87 rfl (fun hb30 => ?_) (fun hb30 => ?_)
          · replace h := bif_t hb30 h
            refine al_val (ov_move rfl rfl) ?_
            refine al_val (ov_move rfl rfl) ?_
            refine al_val (ov_int rfl rfl rfl rfl) ?_
            refine al_val (ov_pick_t rfl rfl rfl) ?_
            refine al_val (ov_move rfl rfl) ?_
            refine al_caseB 92 rfl (fun hb31 => ?_) (fun hb31 => ?_)
            · replace h := bif_t hb31 h
              refine al_val (ov_move rfl rfl) ?_
              refine al_val (ov_move rfl rfl) ?_
              refine al_val (ov_strCmp rfl rfl rfl rfl) ?_
              refine al_val (ov_pick_t rfl rfl rfl) ?_
              refine al_val (ov_move rfl rfl) ?_
              refine al_caseB 97 rfl (fun hb32 => ?_) (fun hb32 => ?_)
              · replace h := bif_t hb32 h
                refine al_val (ov_move rfl rfl) ?_
                refine al_val (ov_move rfl rfl) ?_
                refine al_val (ov_int rfl rfl rfl rfl) ?_
                refine al_val (ov_pick_t rfl rfl rfl) ?_
                refine al_val (ov_move rfl rfl) ?_
                refine al_caseB 102 rfl (fun hb33 => ?_) (fun hb33 => ?_)
                · replace h := bif_t hb33 h
                  refine al_val (ov_move rfl rfl) ?_
                  refine al_val (ov_move rfl rfl) ?_
                  refine al_val (ov_boolEq Tryd.underlying4 rfl rfl rfl) ?_
                  refine al_val (ov_pick_t rfl rfl rfl) ?_
                  refine al_val (ov_move rfl rfl) ?_
                  refine al_caseB 107 rfl (fun hb34 => ?_) (fun hb34 => ?_)
                  · replace h := bif_t hb34 h
                    refine al_val (ov_move rfl rfl) ?_
                    refine al_val (ov_move rfl rfl) ?_
                    refine al_val (ov_int rfl rfl rfl rfl) ?_
                    refine al_val (ov_pick_t rfl rfl rfl) ?_
                    refine al_val (ov_assign rfl rfl) ?_
                    refine al_nil ?_
                    exact aq_join (r16.2 == r18.2) h (fun w a hm hs => norm hm hs [] [0, 1, 2] [(8, (Value.bool (r16.2 == r18.2)))] (by decide) ⟨rfl, trivial⟩)
                  · replace h := bif_f hb34 h
                    refine al_skip ?_
                    refine al_skip ?_
                    refine al_skip ?_
                    refine al_val (ov_pick_f rfl rfl rfl) ?_
                    refine al_val (ov_assign rfl rfl) ?_
                    refine al_nil ?_
                    exact aq_join false h (fun w a hm hs => norm hm hs [] [0, 1, 2] [(8, (Value.bool false))] (by decide) ⟨rfl, trivial⟩)
                · replace h := bif_f hb33 h
                  refine al_skip ?_
                  refine al_skip ?_
                  refine al_skip ?_
                  refine al_val (ov_pick_f rfl rfl rfl) ?_
                  refine al_val (ov_move rfl rfl) ?_
                  refine al_skip ?_
                  refine al_skip ?_
                  refine al_skip ?_
                  refine al_val (ov_pick_f rfl rfl rfl) ?_
                  refine al_val (ov_assign rfl rfl) ?_
                  refine al_nil ?_
                  exact aq_join false h (fun w a hm hs => norm hm hs [] [0, 1, 2] [(8, (Value.bool false))] (by decide) ⟨rfl, trivial⟩)
              · replace h := bif_f hb32 h
                refine al_skip ?_
                refine al_skip ?_
                refine al_skip ?_
                refine al_val (ov_pick_f rfl rfl rfl) ?_
                refine al_val (ov_move rfl rfl) ?_
                refine al_skip ?_
                refine al_skip ?_
                refine al_skip ?_
                refine al_val (ov_pick_f rfl rfl rfl) ?_
                refine al_val (ov_move rfl rfl) ?_
                refine al_skip ?_
                refine al_skip ?_
                refine al_skip ?_
                refine al_val (ov_pick_f rfl rfl rfl) ?_
                refine al_val (ov_assign rfl rfl) ?_
                refine al_nil ?_
                exact aq_join false h (fun w a hm hs => norm hm hs [] [0, 1, 2] [(8, (Value.bool false))] (by decide) ⟨rfl, trivial⟩)
            · replace h := bif_f hb31 h
              refine al_skip ?_
              refine al_skip ?_
              refine al_skip ?_
              refine al_val (ov_pick_f rfl rfl rfl) ?_
              refine al_val (ov_move rfl rfl) ?_
              refine al_skip ?_
              refine al_skip ?_
              refine al_skip ?_
              refine al_val (ov_pick_f rfl rfl rfl) ?_
              refine al_val (ov_move rfl rfl) ?_
              refine al_skip ?_
              refine al_skip ?_
              refine al_skip ?_
              refine al_val (ov_pick_f rfl rfl rfl) ?_
              refine al_val (ov_move rfl rfl) ?_
              refine al_skip ?_
              refine al_skip ?_
              refine al_skip ?_
              refine al_val (ov_pick_f rfl rfl rfl) ?_
              refine al_val (ov_assign rfl rfl) ?_
              refine al_nil ?_
              exact aq_join false h (fun w a hm hs => norm hm hs [] [0, 1, 2] [(8, (Value.bool false))] (by decide) ⟨rfl, trivial⟩)
          · replace h := bif_f hb30 h
            refine al_skip ?_
            refine al_skip ?_
            refine al_skip ?_
            refine al_val (ov_pick_f rfl rfl rfl) ?_
            refine al_val (ov_move rfl rfl) ?_
            refine al_skip ?_
            refine al_skip ?_
            refine al_skip ?_
            refine al_val (ov_pick_f rfl rfl rfl) ?_
            refine al_val (ov_move rfl rfl) ?_
            refine al_skip ?_
            refine al_skip ?_
            refine al_skip ?_
            refine al_val (ov_pick_f rfl rfl rfl) ?_
            refine al_val (ov_move rfl rfl) ?_
            refine al_skip ?_
            refine al_skip ?_
            refine al_skip ?_
            refine al_val (ov_pick_f rfl rfl rfl) ?_
            refine al_val (ov_move rfl rfl) ?_
            refine al_skip ?_
            refine al_skip ?_
            refine al_skip ?_
            refine al_val (ov_pick_f rfl rfl rfl) ?_
            refine al_val (ov_assign rfl rfl) ?_
            refine al_nil ?_
            exact aq_join false h (fun w a hm hs => norm hm hs [] [0, 1, 2] [(8, (Value.bool false))] (by decide) ⟨rfl, trivial⟩)
        · replace h := bif_f hb29 h
          refine al_skip ?_
          refine al_skip ?_
          refine al_skip ?_
          refine al_val (ov_pick_f rfl rfl rfl) ?_
          refine al_val (ov_move rfl rfl) ?_
          refine al_skip ?_
          refine al_skip ?_
          refine al_skip ?_
          refine al_val (ov_pick_f rfl rfl rfl) ?_
          refine al_val (ov_move rfl rfl) ?_
          refine al_skip ?_
          refine al_skip ?_
          refine al_skip ?_
          refine al_val (ov_pick_f rfl rfl rfl) ?_
          refine al_val (ov_move rfl rfl) ?_
          refine al_skip ?_
          refine al_skip ?_
          refine al_skip ?_
          refine al_val (ov_pick_f rfl rfl rfl) ?_
          refine al_val (ov_move rfl rfl) ?_
          refine al_skip ?_
          refine al_skip ?_
          refine al_skip ?_
          refine al_val (ov_pick_f rfl rfl rfl) ?_
          refine al_val (ov_move rfl rfl) ?_
          refine al_skip ?_
          refine al_skip ?_
          refine al_skip ?_
          refine al_val (ov_pick_f rfl rfl rfl) ?_
          refine al_val (ov_assign rfl rfl) ?_
          refine al_nil ?_
          exact aq_join false h (fun w a hm hs => norm hm hs [] [0, 1, 2] [(8, (Value.bool false))] (by decide) ⟨rfl, trivial⟩)
      · replace h := bif_f hb28 h
        refine al_skip ?_
        refine al_skip ?_
        refine al_skip ?_
        refine al_val (ov_pick_f rfl rfl rfl) ?_
        refine al_val (ov_move rfl rfl) ?_
        refine al_skip ?_
        refine al_skip ?_
        refine al_skip ?_
        refine al_val (ov_pick_f rfl rfl rfl) ?_
        refine al_val (ov_move rfl rfl) ?_
        refine al_skip ?_
        refine al_skip ?_
        refine al_skip ?_
        refine al_val (ov_pick_f rfl rfl rfl) ?_
        refine al_val (ov_move rfl rfl) ?_
        refine al_skip ?_
        refine al_skip ?_
        refine al_skip ?_
        refine al_val (ov_pick_f rfl rfl rfl) ?_
        refine al_val (ov_move rfl rfl) ?_
        refine al_skip ?_
        refine al_skip ?_
        refine al_skip ?_
        refine al_val (ov_pick_f rfl rfl rfl) ?_
        refine al_val (ov_move rfl rfl) ?_
        refine al_skip ?_
        refine al_skip ?_
        refine al_skip ?_
        refine al_val (ov_pick_f rfl rfl rfl) ?_
        refine al_val (ov_move rfl rfl) ?_
        refine al_skip ?_
        refine al_skip ?_
        refine al_skip ?_
        refine al_val (ov_pick_f rfl rfl rfl) ?_
        refine al_val (ov_assign rfl rfl) ?_
        refine al_nil ?_
        exact aq_join false h (fun w a hm hs => norm hm hs [] [0, 1, 2] [(8, (Value.bool false))] (by decide) ⟨rfl, trivial⟩)
    · replace h := bif_f hb25 h
      refine al_skip ?_
      refine al_skip ?_
      refine al_skip ?_
      refine al_val (ov_pick_f rfl rfl rfl) ?_
      refine al_val (ov_move rfl rfl) ?_
      refine al_skip ?_
      refine al_skip ?_
      refine al_skip ?_
      refine al_val (ov_pick_f rfl rfl rfl) ?_
      refine al_val (ov_move rfl rfl) ?_
      refine al_skip ?_
      refine al_skip ?_
      refine al_skip ?_
      refine al_val (ov_pick_f rfl rfl rfl) ?_
      refine al_val (ov_move rfl rfl) ?_
      refine al_skip ?_
      refine al_skip ?_
      refine al_skip ?_
      refine al_val (ov_pick_f rfl rfl rfl) ?_
      refine al_val (ov_move rfl rfl) ?_
      refine al_skip ?_
      refine al_skip ?_
      refine al_skip ?_
      refine al_val (ov_pick_f rfl rfl rfl) ?_
      refine al_val (ov_move rfl rfl) ?_
      refine al_skip ?_
      refine al_skip ?_
      refine al_skip ?_
      refine al_val (ov_pick_f rfl rfl rfl) ?_
      refine al_val (ov_move rfl rfl) ?_
      refine al_skip ?_
      refine al_skip ?_
      refine al_skip ?_
      refine al_val (ov_pick_f rfl rfl rfl) ?_
      refine al_val (ov_move rfl rfl) ?_
      refine al_skip ?_
      refine al_skip ?_
      refine al_skip ?_
      refine al_val (ov_pick_f rfl rfl rfl) ?_
      refine al_val (ov_assign rfl rfl) ?_
      refine al_nil ?_
      exact aq_join false h (fun w a hm hs => norm hm hs [] [0, 1, 2] [(8, (Value.bool false))] (by decide) ⟨rfl, trivial⟩)
end Go.Proofs.YtjbgahmcobcojaaDoor
