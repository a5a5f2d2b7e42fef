/- Walks by program. No condition. -/
import Derived.Test.YtaoopodaalhheaaDoorEn14
import Derived.Test.YtaoopodaalhheaaDoorChecked
import Derived.Test.YtaoopodaalhheaaDoorEnU
namespace Go.Proofs.YtaoopodaalhheaaDoor
open Go.RowKit YtaoopodaalhheaaDoor.En
set_option linter.unusedVariables false
set_option linter.unusedSimpArgs false
structure S_api_Lease where
  Who : (List UInt8)
  Until : Int
  Token : Int
  deriving DecidableEq
def tyS_api_Lease : Ty S_api_Lease := tyVia (fun x => (x.Who, (x.Until, x.Token))) (tyPair tyStr (tyPair (tyInt .i64) (tyInt .i64)))
theorem subS_api_Lease_0 : Sub tyS_api_Lease 0 tyStr (fun x => x.Who) := Sub.via (Sub.fst (Sub.whole _))
theorem subS_api_Lease_1 : Sub tyS_api_Lease 1 (tyInt .i64) (fun x => x.Until) := Sub.via (Sub.snd (Sub.fst (Sub.whole _)))
theorem subS_api_Lease_2 : Sub tyS_api_Lease 2 (tyInt .i64) (fun x => x.Token) := Sub.via (Sub.snd (Sub.snd (Sub.whole _)))
theorem flatS_api_Lease : FlatTy tyS_api_Lease := flat_via (flat_pair flat_enc (flat_pair flat_enc flat_enc))
theorem encS_api_Lease {Z w cs} {x : S_api_Lease} (h : tyS_api_Lease.rep Z w cs x) : cs = [(str x.Who), (Value.int .i64 x.Until), (Value.int .i64 x.Token)] := by
  obtain ⟨c0, d0, rfl, p0, q0⟩ := h
  obtain ⟨c1, d1, rfl, p1, q1⟩ := q0
  rw [show _ = _ from p0]
  rw [show _ = _ from p1]
  rw [show _ = _ from q1]
  rfl
theorem mkS_api_Lease {Z w cs} {x : S_api_Lease} (h : cs = [(str x.Who), (Value.int .i64 x.Until), (Value.int .i64 x.Token)]) : tyS_api_Lease.rep Z w cs x := by
  subst h
  exact ⟨_, _, (List.take_append_drop 1 _).symm, rfl, ⟨_, _, (List.take_append_drop 1 _).symm, rfl, rfl⟩⟩
theorem sz3 : szOf Tryd.prog 3 = some 1 := by kernel_rfl
theorem to3 : tyOf Tryd.prog 3 = some (1, 8, some (Value.int .i64 (0 : Int))) := by kernel_rfl
theorem sz5 : szOf Tryd.prog 5 = some 1 := by kernel_rfl
theorem to5 : tyOf Tryd.prog 5 = some (1, 1, some (Value.int .u8 (0 : Int))) := by kernel_rfl
theorem sz9 : szOf Tryd.prog 9 = some 1 := by kernel_rfl
theorem to9 : tyOf Tryd.prog 9 = some (1, 16, some (str ([] : List UInt8))) := by kernel_rfl
theorem sz23 : szOf Tryd.prog 23 = some 3 := by kernel_rfl
theorem to23 : tyOf Tryd.prog 23 = some (3, 32, some (ag [(str ([] : List UInt8)), (Value.int .i64 (0 : Int)), (Value.int .i64 (0 : Int))])) := by kernel_rfl
theorem mixed : Tryd.prog.follows .mixedOrders = true := by kernel_rfl
theorem eg23 : Tryd.prog.eqGuardType Tryd.prog.depth 23 = false := by kernel_rfl
theorem kt23 : Tryd.prog.keyTypeAt 20 23 = true := by kernel_rfl
theorem lv23 : leaves Tryd.prog 20 23 = some [9, 3, 3] := by kernel_rfl
theorem injS_api_Lease {x y : S_api_Lease} : (x == y) = true ↔ [(str x.Who), (Value.int .i64 x.Until), (Value.int .i64 x.Token)] = [(str y.Who), (Value.int .i64 y.Until), (Value.int .i64 y.Token)] := by
  rw [beq_iff_eq]
  constructor
  · rintro rfl; rfl
  · intro h
    obtain ⟨⟩ := x
    obtain ⟨⟩ := y
    simp only [S_api_Lease.mk.injEq, str, List.cons_append, List.nil_append, List.cons.injEq, Value.int.injEq, Value.bool.injEq, Value.string.injEq, ByteArray.mk.injEq, Array.mk.injEq, Int.natCast_inj, UInt8.toNat_inj, true_and, and_true] at h ⊢
    first | exact h | simpa [and_assoc] using h
def okS_api_Lease (x : S_api_Lease) : Prop := (x.Who.length ≤ 9223372036854775807) ∧ ((Lit.int .i64 x.Until).wf = true) ∧ ((Lit.int .i64 x.Token).wf = true)
set_option maxRecDepth 100000 in
theorem opnS_api_Lease {H : Type} : Opn H Tryd.prog 23 tyS_api_Lease okS_api_Lease := opn_struct (fun x => (x.Who, (x.Until, x.Token))) (fun y => S_api_Lease.mk y.1 y.2.1 y.2.2) (fun _ => rfl) Tryd.underlying23 sz23 (fields_cons sz9 (opn_str Tryd.underlying9) (fields_cons sz3 (opn_int Tryd.underlying3) (fields_one sz3 (opn_int Tryd.underlying3))))
def f_lease_inRange (fu : Nat) (a0 : Int) : Option Bool := (lt (fun (j1b2 : Bool) => (some j1b2)) fun (kk2 : Bool → Option Bool) => (bif (decide (a0 ≥ (0 : Int))) then (kk2 (decide (a0 ≤ (1099511627776 : Int)))) else (kk2 false)))
set_option maxRecDepth 100000 in
theorem f_lease_inRange_ok (fu : Nat) (a0 : Int) {r : Bool} (h : f_lease_inRange fu a0 = some r) : FnOk Tryd.prog 44 [(Value.int .i64 a0)] [] [] (fun (i : Unit) => { val := (Value.bool r) }) := by
  unfold f_lease_inRange at h
  refine fn_enter Tryd.func44 rfl Tryd.ntmps44 rfl (fun w0 Z0 => ?_)
  refine aw_seq ?_
  refine aw_region ?_
  refine al_val (ov_assign rfl rfl) ?_
  refine al_nil ?_
  refine aq_then ?_
  obtain ⟨kk2, hkk2, h⟩ := lt_some h
  refine aw_seq_join (ι := Bool) (fun i => (memOf w0 Z0 [] [] [])) (fun i => (tab [(2, (Value.bool i))])) (fun i => kk2 i = some r) ?_ ?_
  · rintro j1b2 h
    have h : kk2 j1b2 = some r := h
    rw [hkk2] at h
    dsimp only at h
    clear hkk2
    refine aw_show (m := (memOf w0 Z0 [] [] [])) (S := (tab [(2, (Value.bool j1b2))])) ?_
    refine aw_ret ?_
    obtain rfl := Option.some.inj h
    exact fn_ret () [] [] rfl rfl rfl rfl (res1 rfl rfl) rfl rfl rfl (by decide)
  · clear hkk2
    refine aw_region ?_
    refine al_val (ov_move rfl rfl) ?_
    refine al_val (ov_int rfl rfl rfl rfl) ?_
    refine al_val (ov_move rfl rfl) ?_
    refine al_caseB 5 rfl (fun hb3 => ?_) (fun hb3 => ?_)
    · replace h := bif_t hb3 h
      refine al_val (ov_move rfl rfl) ?_
      refine al_val (ov_int rfl rfl rfl rfl) ?_
      refine al_val (ov_pick_t rfl rfl rfl) ?_
      refine al_val (ov_assign rfl rfl) ?_
      refine al_nil ?_
      exact aq_join (decide (a0 ≤ (1099511627776 : Int))) h (fun w a hm hs => norm hm hs [] [] [(2, (Value.bool (decide (a0 ≤ (1099511627776 : Int)))))] (by decide) ⟨rfl, trivial⟩)
    · replace h := bif_f hb3 h
      refine al_skip ?_
      refine al_skip ?_
      refine al_val (ov_pick_f rfl rfl rfl) ?_
      refine al_val (ov_assign rfl rfl) ?_
      refine al_nil ?_
      exact aq_join false h (fun w a hm hs => norm hm hs [] [] [(2, (Value.bool false))] (by decide) ⟨rfl, trivial⟩)
def f_names_Check_L10 (a0 : (List UInt8)) (kk5 : (Int → Option Int)) : Nat → Int → Int → Option Int
  | 0, _, _ => none
  | k9 + 1, l8i3, l8xp22 => (bif (decide (l8xp22.toNat < a0.length)) then (lt (fun (j12b35 : Bool) => (bif j12b35 then (some (8 : Int)) else (f_names_Check_L10 a0 kk5 k9 (IntKind.i64.wrap (l8i3 + (1 : Int))) ((l8xp22.toNat + (dec a0 l8xp22.toNat).2 : Nat) : Int)))) fun (kk13 : Bool → Option Int) => (bif ((((dec a0 l8xp22.toNat).1 : Nat) : Int) == (47 : Int)) then (kk13 true) else (bif (decide ((((dec a0 l8xp22.toNat).1 : Nat) : Int) < (32 : Int))) then (kk13 true) else (kk13 ((((dec a0 l8xp22.toNat).1 : Nat) : Int) == (127 : Int)))))) else (kk5 l8i3))
def f_names_Check (fu : Nat) (a0 : (List UInt8)) : Option Int := (lt (fun (j1b20 : Bool) => (bif j1b20 then (some (8 : Int)) else (lt (fun (j4i3 : Int) => (bif (decide (j4i3 > (24 : Int))) then (some (2 : Int)) else (some (0 : Int)))) fun (kk5 : Int → Option Int) => (f_names_Check_L10 a0 kk5 fu (0 : Int) (0 : Int))))) fun (kk2 : Bool → Option Int) => (bif (a0 == ([] : List UInt8)) then (kk2 true) else (bif (a0 == ([46] : List UInt8)) then (kk2 true) else (bif (a0 == ([46, 46] : List UInt8)) then (kk2 true) else (opt (f_utf8_ValidString fu a0) fun (r21 : Bool) => (kk2 (!r21)))))))
set_option maxRecDepth 100000 in
theorem f_names_Check_ok (fu : Nat) (a0 : (List UInt8)) {r : Int} (h : f_names_Check fu a0 = some r) : FnOk Tryd.prog 41 [(str a0)] [uTabs] [] (fun (i : Unit) => { val := (Value.int .i64 r) }) := by
  unfold f_names_Check at h
  refine fn_enter Tryd.func41 rfl Tryd.ntmps41 rfl (fun w0 Z0 => ?_)
  refine aw_seq ?_
  refine aw_region ?_
  refine al_val (ov_assign rfl rfl) ?_
  refine al_nil ?_
  refine aq_then ?_
  refine aw_seq ?_
  obtain ⟨kk2, hkk2, h⟩ := lt_some h
  refine aw_seq_join (ι := Bool) (fun i => (memOf w0 Z0 [] [] [uTabs])) (fun i => (tab [(0, (str a0)), (20, (Value.bool i))])) (fun i => kk2 i = some r) ?_ ?_
  · rintro j1b20 h
    have h : kk2 j1b20 = some r := h
    rw [hkk2] at h
    dsimp only at h
    clear hkk2
    refine aw_show (m := (memOf w0 Z0 [] [] [uTabs])) (S := (tab [(0, (str a0)), (20, (Value.bool j1b20))])) ?_
    refine aw_cond rfl (fun hb3 => ?_) (fun hb3 => ?_)
    · replace h := bif_t hb3 h
      refine aw_seq ?_
      refine aw_region ?_
      refine al_val (ov_assign rfl rfl) ?_
      refine al_nil ?_
      refine aq_then ?_
      refine aw_ret ?_
      refine aq_then_ret ?_
      obtain rfl := Option.some.inj h
      exact fn_ret () [] [] rfl rfl rfl rfl (res1 rfl rfl) rfl rfl rfl (by decide)
    · replace h := bif_f hb3 h
      refine aw_skip ?_
      refine aq_then ?_
      refine aw_seq ?_
      refine aw_region ?_
      refine al_val (ov_assign rfl rfl) ?_
      refine al_nil ?_
      refine aq_then ?_
      obtain ⟨kk5, hkk5, h⟩ := lt_some h
      refine aw_seq_join (ι := Int) (fun i => (memOf w0 Z0 [] [] [uTabs])) (fun i => (tab [(3, (Value.int .i64 i))])) (fun i => kk5 i = some r) ?_ ?_
      · rintro j4i3 h
        have h : kk5 j4i3 = some r := h
        rw [hkk5] at h
        dsimp only at h
        clear hkk5
        refine aw_show (m := (memOf w0 Z0 [] [] [uTabs])) (S := (tab [(3, (Value.int .i64 j4i3))])) ?_
        refine aw_seq ?_
        refine aw_seq ?_
        refine aw_region ?_
        refine al_val (ov_move rfl rfl) ?_
        refine al_val (ov_int rfl rfl rfl rfl) ?_
        refine al_nil ?_
        refine aq_then ?_
        refine aw_cond rfl (fun hb6 => ?_) (fun hb6 => ?_)
        · replace h := bif_t hb6 h
          refine aw_seq ?_
          refine aw_region ?_
          refine al_val (ov_assign rfl rfl) ?_
          refine al_nil ?_
          refine aq_then ?_
          refine aw_ret ?_
          refine aq_then_ret ?_
          obtain rfl := Option.some.inj h
          exact fn_ret () [] [] rfl rfl rfl rfl (res1 rfl rfl) rfl rfl rfl (by decide)
        · replace h := bif_f hb6 h
          refine aw_skip ?_
          refine aq_then ?_
          refine aw_seq ?_
          refine aw_region ?_
          refine al_val (ov_assign rfl rfl) ?_
          refine al_nil ?_
          refine aq_then ?_
          refine aw_ret ?_
          obtain rfl := Option.some.inj h
          exact fn_ret () [] [] rfl rfl rfl rfl (res1 rfl rfl) rfl rfl rfl (by decide)
      · clear hkk5
        refine aw_seq ?_
        refine aw_region ?_
        refine al_val (ov_move rfl rfl) ?_
        refine al_range rfl Tryd.underlying9 rfl (fun g7 => ?_)
        refine al_nil ?_
        refine aq_then ?_
        refine aw_block ?_
        refine aw_state (aw_loop (ι := Int × Int) (fun i => (memOf w0 Z0 [] [(oIter g7 a0 i.2)] [uTabs])) (fun i => (tab [(3, (Value.int .i64 i.1)), (22, (ptr g7 0))])) (fun q i => f_names_Check_L10 a0 kk5 q i.1 i.2 = some r) ?_ fu ((0 : Int), (0 : Int)) h) (fun w a hm hs => norm hm hs [0] [0] [(3, (Value.int .i64 (0 : Int))), (22, (ptr g7 0))] (by decide) ⟨rfl, rfl, trivial⟩)
        clear h
        rintro k9 ⟨l8i3, l8xp22⟩ h
        have h : f_names_Check_L10 a0 kk5 k9 l8i3 l8xp22 = some r := h
        obtain _ | k9 := k9
        · rw [f_names_Check_L10] at h; cases h
        rw [f_names_Check_L10] at h
        refine aw_show (m := (memOf w0 Z0 [] [(oIter g7 a0 l8xp22)] [uTabs])) (S := (tab [(3, (Value.int .i64 l8i3)), (22, (ptr g7 0))])) ?_
        refine aw_seq ?_
        refine aw_region ?_
        refine al_next 0 rfl rfl rfl (fun hn11 => ?_) (fun hn11 => ?_)
        · replace h := bif_t (decide_eq_true hn11) h
          refine al_val (ov_extract rfl rfl rfl) ?_
          refine al_nil ?_
          refine aq_then ?_
          refine aw_seq ?_
          refine aw_cond_t rfl ?_
          refine aw_skip ?_
          refine aq_then ?_
          refine aw_block ?_
          refine aw_seq ?_
          refine aw_region ?_
          refine al_val (ov_extract rfl rfl rfl) ?_
          refine al_val (ov_assign rfl rfl) ?_
          refine al_nil ?_
          refine aq_then ?_
          refine aw_seq ?_
          obtain ⟨kk13, hkk13, h⟩ := lt_some h
          refine aw_seq_join (ι := Bool) (fun i => (memOf w0 Z0 [] [(oIter g7 a0 ((l8xp22.toNat + (dec a0 l8xp22.toNat).2 : Nat) : Int))] [uTabs])) (fun i => (tab [(3, (Value.int .i64 l8i3)), (22, (ptr g7 0)), (35, (Value.bool i))])) (fun i => kk13 i = some r) ?_ ?_
          · rintro j12b35 h
            have h : kk13 j12b35 = some r := h
            rw [hkk13] at h
            dsimp only at h
            clear hkk13
            refine aw_show (m := (memOf w0 Z0 [] [(oIter g7 a0 ((l8xp22.toNat + (dec a0 l8xp22.toNat).2 : Nat) : Int))] [uTabs])) (S := (tab [(3, (Value.int .i64 l8i3)), (22, (ptr g7 0)), (35, (Value.bool j12b35))])) ?_
            refine aw_cond rfl (fun hb14 => ?_) (fun hb14 => ?_)
            · replace h := bif_t hb14 h
              refine aw_seq ?_
              refine aw_region ?_
              refine al_val (ov_assign rfl rfl) ?_
              refine al_nil ?_
              refine aq_then ?_
              refine aw_ret ?_
              refine aq_then_ret ?_
              refine aq_block_ret ?_
              refine aq_then_ret ?_
              refine aq_block_ret ?_
              refine aq_then_ret ?_
              obtain rfl := Option.some.inj h
              exact fn_ret () [] [] rfl rfl rfl rfl (res1 rfl rfl) rfl rfl rfl (by decide)
            · replace h := bif_f hb14 h
              refine aw_skip ?_
              refine aq_then ?_
              refine aw_region ?_
              refine al_val (ov_move rfl rfl) ?_
              refine al_val (ov_int rfl rfl rfl rfl) ?_
              refine al_val (ov_assign rfl rfl) ?_
              refine al_nil ?_
              refine aq_block ?_
              exact aq_again k9 ((IntKind.i64.wrap (l8i3 + (1 : Int))), ((l8xp22.toNat + (dec a0 l8xp22.toNat).2 : Nat) : Int)) (Nat.lt_succ_self _) h (fun w a hm hs => norm hm hs [0] [0] [(3, (Value.int .i64 (IntKind.i64.wrap (l8i3 + (1 : Int))))), (22, (ptr g7 0))] (by decide) ⟨rfl, rfl, trivial⟩)
          · clear hkk13
            refine aw_region ?_
            refine al_val (ov_move rfl rfl) ?_
            refine al_val (ov_int rfl rfl rfl rfl) ?_
            refine al_val (ov_move rfl rfl) ?_
            refine al_caseB 28 rfl (fun hb15 => ?_) (fun hb15 => ?_)
            · replace h := bif_t hb15 h
              refine al_skip ?_
              refine al_skip ?_
              refine al_val (ov_pick_t rfl rfl rfl) ?_
              refine al_val (ov_move rfl rfl) ?_
              refine al_skip ?_
              refine al_skip ?_
              refine al_val (ov_pick_t rfl rfl rfl) ?_
              refine al_nil ?_
              exact aq_join true h (fun w a hm hs => norm hm hs [0] [0] [(3, (Value.int .i64 l8i3)), (22, (ptr g7 0)), (35, (Value.bool true))] (by decide) ⟨rfl, rfl, rfl, trivial⟩)
            · replace h := bif_f hb15 h
              refine al_val (ov_move rfl rfl) ?_
              refine al_val (ov_int rfl rfl rfl rfl) ?_
              refine al_val (ov_pick_f rfl rfl rfl) ?_
              refine al_val (ov_move rfl rfl) ?_
              refine al_caseB 32 rfl (fun hb16 => ?_) (fun hb16 => ?_)
              · replace h := bif_t hb16 h
                refine al_skip ?_
                refine al_skip ?_
                refine al_val (ov_pick_t rfl rfl rfl) ?_
                refine al_nil ?_
                exact aq_join true h (fun w a hm hs => norm hm hs [0] [0] [(3, (Value.int .i64 l8i3)), (22, (ptr g7 0)), (35, (Value.bool true))] (by decide) ⟨rfl, rfl, rfl, trivial⟩)
              · replace h := bif_f hb16 h
                refine al_val (ov_move rfl rfl) ?_
                refine al_val (ov_int rfl rfl rfl rfl) ?_
                refine al_val (ov_pick_f rfl rfl rfl) ?_
                refine al_nil ?_
                exact aq_join ((((dec a0 l8xp22.toNat).1 : Nat) : Int) == (127 : Int)) h (fun w a hm hs => norm hm hs [0] [0] [(3, (Value.int .i64 l8i3)), (22, (ptr g7 0)), (35, (Value.bool ((((dec a0 l8xp22.toNat).1 : Nat) : Int) == (127 : Int))))] (by decide) ⟨rfl, rfl, rfl, trivial⟩)
        · replace h := bif_f (decide_eq_false hn11) h
          refine al_val (ov_extract rfl rfl rfl) ?_
          refine al_nil ?_
          refine aq_then ?_
          refine aw_seq ?_
          refine aw_cond_f rfl ?_
          refine aw_exit ?_
          refine aq_then_exit ?_
          refine aq_then_exit ?_
          refine aq_block_exit ?_
          exact aq_join l8i3 h (fun w a hm hs => norm hm hs [] [0] [(3, (Value.int .i64 l8i3))] (by decide) ⟨rfl, trivial⟩)
  · clear hkk2
    refine aw_region ?_
    refine al_val (ov_move rfl rfl) ?_
    refine al_val (ov_strCmp rfl rfl rfl rfl) ?_
    refine al_val (ov_move rfl rfl) ?_
    refine al_caseB 8 rfl (fun hb17 => ?_) (fun hb17 => ?_)
    · replace h := bif_t hb17 h
      refine al_skip ?_
      refine al_skip ?_
      refine al_val (ov_pick_t rfl rfl rfl) ?_
      refine al_val (ov_move rfl rfl) ?_
      refine al_skip ?_
      refine al_skip ?_
      refine al_val (ov_pick_t rfl rfl rfl) ?_
      refine al_val (ov_move rfl rfl) ?_
      refine al_skip ?_
      refine al_skip ?_
      refine al_skip ?_
      refine al_val (ov_pick_t rfl rfl rfl) ?_
      refine al_nil ?_
      exact aq_join true h (fun w a hm hs => norm hm hs [] [0] [(0, (str a0)), (20, (Value.bool true))] (by decide) ⟨rfl, rfl, trivial⟩)
    · replace h := bif_f hb17 h
      refine al_val (ov_move rfl rfl) ?_
      refine al_val (ov_strCmp rfl rfl rfl rfl) ?_
      refine al_val (ov_pick_f rfl rfl rfl) ?_
      refine al_val (ov_move rfl rfl) ?_
      refine al_caseB 12 rfl (fun hb18 => ?_) (fun hb18 => ?_)
      · replace h := bif_t hb18 h
        refine al_skip ?_
        refine al_skip ?_
        refine al_val (ov_pick_t rfl rfl rfl) ?_
        refine al_val (ov_move rfl rfl) ?_
        refine al_skip ?_
        refine al_skip ?_
        refine al_skip ?_
        refine al_val (ov_pick_t rfl rfl rfl) ?_
        refine al_nil ?_
        exact aq_join true h (fun w a hm hs => norm hm hs [] [0] [(0, (str a0)), (20, (Value.bool true))] (by decide) ⟨rfl, rfl, trivial⟩)
      · replace h := bif_f hb18 h
        refine al_val (ov_move rfl rfl) ?_
        refine al_val (ov_strCmp rfl rfl rfl rfl) ?_
        refine al_val (ov_pick_f rfl rfl rfl) ?_
        refine al_val (ov_move rfl rfl) ?_
        refine al_caseB 16 rfl (fun hb19 => ?_) (fun hb19 => ?_)
        · replace h := bif_t hb19 h
          refine al_skip ?_
          refine al_skip ?_
          refine al_skip ?_
          refine al_val (ov_pick_t rfl rfl rfl) ?_
          refine al_nil ?_
          exact aq_join true h (fun w a hm hs => norm hm hs [] [0] [(0, (str a0)), (20, (Value.bool true))] (by decide) ⟨rfl, rfl, trivial⟩)
        · replace h := bif_f hb19 h
          refine al_val (ov_move rfl rfl) ?_
          obtain ⟨r21, hc20, h⟩ := opt_some h
          refine al_call (vs := [(str a0)]) (f_utf8_ValidString_ok fu a0 hc20) [] [] [] (pre_fz 0 rfl pre_nil) rfl (by simp) (by decide) (.inl rfl) rfl Tryd.func72 rfl rfl rfl (fun _ => ?_)
          refine al_val (ov_not rfl rfl) ?_
          refine al_val (ov_pick_f rfl rfl rfl) ?_
          refine al_nil ?_
          exact aq_join (!r21) h (fun w a hm hs => norm hm hs [] [0] [(0, (str a0)), (20, (Value.bool (!r21)))] (by decide) ⟨rfl, rfl, trivial⟩)
def f_lease_Check (fu : Nat) (a0 : S_api_Lease) : Option Int := (lt (fun (j2b12 : Bool) => (bif j2b12 then (some (1 : Int)) else (bif (!(a0.Who == ([] : List UInt8))) then (opt (f_names_Check fu a0.Who) fun (r7 : Int) => (some r7)) else (some (0 : Int))))) fun (kk3 : Bool → Option Int) => (opt (f_lease_inRange fu a0.Token) fun (r9 : Bool) => (bif (!r9) then (kk3 true) else (opt (f_lease_inRange fu a0.Until) fun (r12 : Bool) => (kk3 (!r12))))))
set_option maxRecDepth 100000 in
theorem f_lease_Check_ok (fu : Nat) (a0 : S_api_Lease) {r : Int} (h : f_lease_Check fu a0 = some r) : FnOk Tryd.prog 14 [(ag [(str a0.Who), (Value.int .i64 a0.Until), (Value.int .i64 a0.Token)])] [uTabs] [] (fun (i : Unit) => { val := (Value.int .i64 r) }) := by
  unfold f_lease_Check at h
  refine fn_enter Tryd.func14 rfl Tryd.ntmps14 rfl (fun w0 Z0 => ?_)
  refine aw_seq ?_
  refine aw_region ?_
  refine al_box (vs := [(str a0.Who), (Value.int .i64 a0.Until), (Value.int .i64 a0.Token)]) rfl (cv_rfl rfl) rfl (fun g1 => ?_)
  refine al_val (ov_assign rfl rfl) ?_
  refine al_nil ?_
  refine aq_then ?_
  refine aw_seq ?_
  obtain ⟨kk3, hkk3, h⟩ := lt_some h
  refine aw_seq_join (ι := Bool) (fun i => (memOf w0 Z0 [] [(oBox g1 23 [(str a0.Who), (Value.int .i64 a0.Until), (Value.int .i64 a0.Token)])] [uTabs])) (fun i => (tab [(1, (ptr g1 0)), (12, (Value.bool i))])) (fun i => kk3 i = some r) ?_ ?_
  · rintro j2b12 h
    have h : kk3 j2b12 = some r := h
    rw [hkk3] at h
    dsimp only at h
    clear hkk3
    refine aw_show (m := (memOf w0 Z0 [] [(oBox g1 23 [(str a0.Who), (Value.int .i64 a0.Until), (Value.int .i64 a0.Token)])] [uTabs])) (S := (tab [(1, (ptr g1 0)), (12, (Value.bool j2b12))])) ?_
    refine aw_cond rfl (fun hb4 => ?_) (fun hb4 => ?_)
    · replace h := bif_t hb4 h
      refine aw_seq ?_
      refine aw_region ?_
      refine al_val (ov_assign rfl rfl) ?_
      refine al_nil ?_
      refine aq_then ?_
      refine aw_ret ?_
      refine aq_then_ret ?_
      obtain rfl := Option.some.inj h
      exact fn_ret () [] [] rfl rfl rfl rfl (res1 rfl rfl) rfl rfl rfl (by decide)
    · replace h := bif_f hb4 h
      refine aw_skip ?_
      refine aq_then ?_
      refine aw_seq ?_
      refine aw_seq ?_
      refine aw_region ?_
      refine al_val (ov_fieldA (p := 0) rfl Tryd.underlying23 rfl sz9 rfl rfl rfl) ?_
      refine al_val (ov_load (i := 0) (v := (str a0.Who)) rfl rfl Tryd.underlying9 sz9 rfl rfl rfl rfl) ?_
      refine al_val (ov_strCmp rfl rfl rfl rfl) ?_
      refine al_nil ?_
      refine aq_then ?_
      refine aw_cond rfl (fun hb5 => ?_) (fun hb5 => ?_)
      · replace h := bif_t hb5 h
        refine aw_seq ?_
        refine aw_region ?_
        refine al_val (ov_fieldA (p := 0) rfl Tryd.underlying23 rfl sz9 rfl rfl rfl) ?_
        refine al_val (ov_load (i := 0) (v := (str a0.Who)) rfl rfl Tryd.underlying9 sz9 rfl rfl rfl rfl) ?_
        obtain ⟨r7, hc6, h⟩ := opt_some h
        refine al_call (vs := [(str a0.Who)]) (f_names_Check_ok fu a0.Who hc6) [] [] [0] (pre_fz 0 rfl pre_nil) rfl (by simp) (by decide) (.inl rfl) rfl Tryd.func41 rfl rfl rfl (fun _ => ?_)
        refine al_val (ov_assign rfl rfl) ?_
        refine al_nil ?_
        refine aq_then ?_
        refine aw_ret ?_
        refine aq_then_ret ?_
        obtain rfl := Option.some.inj h
        exact fn_ret () [] [] rfl rfl rfl rfl (res1 rfl rfl) rfl rfl rfl (by decide)
      · replace h := bif_f hb5 h
        refine aw_skip ?_
        refine aq_then ?_
        refine aw_seq ?_
        refine aw_region ?_
        refine al_val (ov_assign rfl rfl) ?_
        refine al_nil ?_
        refine aq_then ?_
        refine aw_ret ?_
        obtain rfl := Option.some.inj h
        exact fn_ret () [] [] rfl rfl rfl rfl (res1 rfl rfl) rfl rfl rfl (by decide)
  · clear hkk3
    refine aw_region ?_
    refine al_val (ov_fieldA (p := 2) rfl Tryd.underlying23 rfl sz3 rfl rfl rfl) ?_
    refine al_val (ov_load (i := 0) (v := (Value.int .i64 a0.Token)) rfl rfl Tryd.underlying3 sz3 rfl rfl rfl rfl) ?_
    obtain ⟨r9, hc8, h⟩ := opt_some h
    refine al_call (vs := [(Value.int .i64 a0.Token)]) (f_lease_inRange_ok fu a0.Token hc8) [] [] [0] pre_nil rfl (by simp) (by decide) (.inl rfl) rfl Tryd.func44 rfl rfl rfl (fun _ => ?_)
    refine al_val (ov_not rfl rfl) ?_
    refine al_val (ov_move rfl rfl) ?_
    refine al_caseB 7 rfl (fun hb10 => ?_) (fun hb10 => ?_)
    · replace h := bif_t hb10 h
      refine al_skip ?_
      refine al_skip ?_
      refine al_skip ?_
      refine al_skip ?_
      refine al_val (ov_pick_t rfl rfl rfl) ?_
      refine al_nil ?_
      exact aq_join true h (fun w a hm hs => norm hm hs [0] [0] [(1, (ptr g1 0)), (12, (Value.bool true))] (by decide) ⟨rfl, rfl, trivial⟩)
    · replace h := bif_f hb10 h
      refine al_val (ov_fieldA (p := 1) rfl Tryd.underlying23 rfl sz3 rfl rfl rfl) ?_
      refine al_val (ov_load (i := 0) (v := (Value.int .i64 a0.Until)) rfl rfl Tryd.underlying3 sz3 rfl rfl rfl rfl) ?_
      obtain ⟨r12, hc11, h⟩ := opt_some h
      refine al_call (vs := [(Value.int .i64 a0.Until)]) (f_lease_inRange_ok fu a0.Until hc11) [] [] [0] pre_nil rfl (by simp) (by decide) (.inl rfl) rfl Tryd.func44 rfl rfl rfl (fun _ => ?_)
      refine al_val (ov_not rfl rfl) ?_
      refine al_val (ov_pick_f rfl rfl rfl) ?_
      refine al_nil ?_
      exact aq_join (!r12) h (fun w a hm hs => norm hm hs [0] [0] [(1, (ptr g1 0)), (12, (Value.bool (!r12)))] (by decide) ⟨rfl, rfl, trivial⟩)
def f_lease_right (fu : Nat) (a0 : Int) : Option Bool := (lt (fun (j1b2 : Bool) => (some j1b2)) fun (kk2 : Bool → Option Bool) => (bif (decide (a0 ≥ (0 : Int))) then (kk2 (decide (a0 ≤ (549755813888 : Int)))) else (kk2 false)))
set_option maxRecDepth 100000 in
theorem f_lease_right_ok (fu : Nat) (a0 : Int) {r : Bool} (h : f_lease_right fu a0 = some r) : FnOk Tryd.prog 42 [(Value.int .i64 a0)] [] [] (fun (i : Unit) => { val := (Value.bool r) }) := by
  unfold f_lease_right at h
  refine fn_enter Tryd.func42 rfl Tryd.ntmps42 rfl (fun w0 Z0 => ?_)
  refine aw_seq ?_
  refine aw_region ?_
  refine al_val (ov_assign rfl rfl) ?_
  refine al_nil ?_
  refine aq_then ?_
  obtain ⟨kk2, hkk2, h⟩ := lt_some h
  refine aw_seq_join (ι := Bool) (fun i => (memOf w0 Z0 [] [] [])) (fun i => (tab [(2, (Value.bool i))])) (fun i => kk2 i = some r) ?_ ?_
  · rintro j1b2 h
    have h : kk2 j1b2 = some r := h
    rw [hkk2] at h
    dsimp only at h
    clear hkk2
    refine aw_show (m := (memOf w0 Z0 [] [] [])) (S := (tab [(2, (Value.bool j1b2))])) ?_
    refine aw_ret ?_
    obtain rfl := Option.some.inj h
    exact fn_ret () [] [] rfl rfl rfl rfl (res1 rfl rfl) rfl rfl rfl (by decide)
  · clear hkk2
    refine aw_region ?_
    refine al_val (ov_move rfl rfl) ?_
    refine al_val (ov_int rfl rfl rfl rfl) ?_
    refine al_val (ov_move rfl rfl) ?_
    refine al_caseB 5 rfl (fun hb3 => ?_) (fun hb3 => ?_)
    · replace h := bif_t hb3 h
      refine al_val (ov_move rfl rfl) ?_
      refine al_val (ov_int rfl rfl rfl rfl) ?_
      refine al_val (ov_pick_t rfl rfl rfl) ?_
      refine al_val (ov_assign rfl rfl) ?_
      refine al_nil ?_
      exact aq_join (decide (a0 ≤ (549755813888 : Int))) h (fun w a hm hs => norm hm hs [] [] [(2, (Value.bool (decide (a0 ≤ (549755813888 : Int)))))] (by decide) ⟨rfl, trivial⟩)
    · replace h := bif_f hb3 h
      refine al_skip ?_
      refine al_skip ?_
      refine al_val (ov_pick_f rfl rfl rfl) ?_
      refine al_val (ov_assign rfl rfl) ?_
      refine al_nil ?_
      exact aq_join false h (fun w a hm hs => norm hm hs [] [] [(2, (Value.bool false))] (by decide) ⟨rfl, trivial⟩)
def f_lease_Ask (fu : Nat) (a0 : S_api_Lease) (a1 : (List UInt8)) (a2 : Int) (a3 : Int) : Option (S_api_Lease × Int × Int) := (opt (f_lease_Check fu a0) fun (r4 : Int) => (bif (r4 != (0 : Int)) then (some ((S_api_Lease.mk ([] : List UInt8) (0 : Int) (0 : Int)), (0 : Int), r4)) else (opt (f_names_Check fu a1) fun (r7 : Int) => (bif (r7 != (0 : Int)) then (some ((S_api_Lease.mk ([] : List UInt8) (0 : Int) (0 : Int)), (0 : Int), r7)) else (lt (fun (j9b26 : Bool) => (bif j9b26 then (some ((S_api_Lease.mk ([] : List UInt8) (0 : Int) (0 : Int)), (0 : Int), (1 : Int))) else (lt (fun (j12b39 : Bool) => (bif j12b39 then (some ((S_api_Lease.mk ([] : List UInt8) (0 : Int) (0 : Int)), (0 : Int), (15 : Int))) else (bif (a0.Token == (1099511627776 : Int)) then (some ((S_api_Lease.mk ([] : List UInt8) (0 : Int) (0 : Int)), (0 : Int), (12 : Int))) else (some ((S_api_Lease.mk a1 (if a0.Until > (IntKind.i64.wrap (a2 + a3)) then a0.Until else (IntKind.i64.wrap (a2 + a3))) (IntKind.i64.wrap (a0.Token + (1 : Int)))), (IntKind.i64.wrap (a0.Token + (1 : Int))), (0 : Int)))))) fun (kk13 : Bool → Option (S_api_Lease × Int × Int)) => (bif (!(a0.Who == ([] : List UInt8))) then (bif (!(a0.Who == a1)) then (kk13 (decide (a2 < a0.Until))) else (kk13 false)) else (kk13 false))))) fun (kk10 : Bool → Option (S_api_Lease × Int × Int)) => (opt (f_lease_right fu a2) fun (r20 : Bool) => (bif (!r20) then (kk10 true) else (bif (decide (a3 < (1 : Int))) then (kk10 true) else (kk10 (decide (a3 > (1000 : Int))))))))))))
set_option maxRecDepth 100000 in
theorem f_lease_Ask_ok (fu : Nat) (a0 : S_api_Lease) (a1 : (List UInt8)) (a2 : Int) (a3 : Int) {r : (S_api_Lease × Int × Int)} (h : f_lease_Ask fu a0 a1 a2 a3 = some r) : FnOk Tryd.prog 10 [(ag [(str a0.Who), (Value.int .i64 a0.Until), (Value.int .i64 a0.Token)]), (str a1), (Value.int .i64 a2), (Value.int .i64 a3)] [uTabs] [] (fun (i : Unit) => { val := (Value.tuple #[(ag [(str r.1.Who), (Value.int .i64 r.1.Until), (Value.int .i64 r.1.Token)]), (Value.int .i64 r.2.1), (Value.int .i64 r.2.2)]) }) := by
  unfold f_lease_Ask at h
  refine fn_enter Tryd.func10 rfl Tryd.ntmps10 rfl (fun w0 Z0 => ?_)
  refine aw_seq ?_
  refine aw_region ?_
  refine al_box (vs := [(str a0.Who), (Value.int .i64 a0.Until), (Value.int .i64 a0.Token)]) rfl (cv_rfl rfl) rfl (fun g1 => ?_)
  refine al_alloc (zs := [(str ([] : List UInt8)), (Value.int .i64 (0 : Int)), (Value.int .i64 (0 : Int))]) (zeroOf_to to23) rfl rfl (fun g2 => ?_)
  refine al_val (ov_assign rfl rfl) ?_
  refine al_val (ov_assign rfl rfl) ?_
  refine al_nil ?_
  refine aq_then ?_
  refine aw_seq ?_
  refine aw_seq ?_
  refine aw_region ?_
  refine al_val (ov_load (i := 1) (v := (ag [(str a0.Who), (Value.int .i64 a0.Until), (Value.int .i64 a0.Token)])) rfl rfl Tryd.underlying23 sz23 rfl rfl rfl rfl) ?_
  obtain ⟨r4, hc3, h⟩ := opt_some h
  refine al_call (vs := [(ag [(str a0.Who), (Value.int .i64 a0.Until), (Value.int .i64 a0.Token)])]) (f_lease_Check_ok fu a0 hc3) [] [] [0, 1] (pre_fz 0 rfl pre_nil) rfl (by simp) (by decide) (.inl rfl) rfl Tryd.func14 rfl rfl rfl (fun _ => ?_)
  refine al_val (ov_assign rfl rfl) ?_
  refine al_nil ?_
  refine aq_then ?_
  refine aw_seq ?_
  refine aw_region ?_
  refine al_val (ov_move rfl rfl) ?_
  refine al_val (ov_int rfl rfl rfl rfl) ?_
  refine al_nil ?_
  refine aq_then ?_
  refine aw_cond rfl (fun hb5 => ?_) (fun hb5 => ?_)
  · replace h := bif_t hb5 h
    refine aw_seq ?_
    refine aw_region ?_
    refine al_val (ov_build (cells := ([(str ([] : List UInt8)), (Value.int .i64 (0 : Int)), (Value.int .i64 (0 : Int))]).toArray) (cs := [(str ([] : List UInt8)), (Value.int .i64 (0 : Int)), (Value.int .i64 (0 : Int))]) rfl (fun w a hm hs => by simp only [List.map_toArray, List.map_cons, List.map_nil, List.toList_toArray]; kernel_rfl)) ?_
    refine al_val (ov_move rfl rfl) ?_
    refine al_store (i := 0) (vs := [(str ([] : List UInt8)), (Value.int .i64 (0 : Int)), (Value.int .i64 (0 : Int))]) (cs' := [(str ([] : List UInt8)), (Value.int .i64 (0 : Int)), (Value.int .i64 (0 : Int))]) rfl rfl rfl sz23 (cv_rfl rfl) rfl (co_val rfl (co_val rfl (co_val rfl co_nil))) (Nat.le_of_ble_eq_true rfl) rfl rfl ?_
    refine al_val (ov_assign rfl rfl) ?_
    refine al_val (ov_assign rfl rfl) ?_
    refine al_nil ?_
    refine aq_then ?_
    refine aw_ret ?_
    refine aq_then_ret ?_
    obtain rfl := Option.some.inj h
    exact fn_ret () [] [] rfl rfl rfl rfl (resC rfl (resB (i := 0) rfl rfl Tryd.underlying23 sz23 rfl rfl rfl (resT rfl (resT rfl (resN)))) rfl) rfl rfl rfl (by decide)
  · replace h := bif_f hb5 h
    refine aw_skip ?_
    refine aq_then ?_
    refine aw_seq ?_
    refine aw_seq ?_
    refine aw_region ?_
    refine al_val (ov_move rfl rfl) ?_
    obtain ⟨r7, hc6, h⟩ := opt_some h
    refine al_call (vs := [(str a1)]) (f_names_Check_ok fu a1 hc6) [] [] [0, 1] (pre_fz 0 rfl pre_nil) rfl (by simp) (by decide) (.inl rfl) rfl Tryd.func41 rfl rfl rfl (fun _ => ?_)
    refine al_val (ov_assign rfl rfl) ?_
    refine al_nil ?_
    refine aq_then ?_
    refine aw_seq ?_
    refine aw_region ?_
    refine al_val (ov_move rfl rfl) ?_
    refine al_val (ov_int rfl rfl rfl rfl) ?_
    refine al_nil ?_
    refine aq_then ?_
    refine aw_cond rfl (fun hb8 => ?_) (fun hb8 => ?_)
    · replace h := bif_t hb8 h
      refine aw_seq ?_
      refine aw_region ?_
      refine al_val (ov_build (cells := ([(str ([] : List UInt8)), (Value.int .i64 (0 : Int)), (Value.int .i64 (0 : Int))]).toArray) (cs := [(str ([] : List UInt8)), (Value.int .i64 (0 : Int)), (Value.int .i64 (0 : Int))]) rfl (fun w a hm hs => by simp only [List.map_toArray, List.map_cons, List.map_nil, List.toList_toArray]; kernel_rfl)) ?_
      refine al_val (ov_move rfl rfl) ?_
      refine al_store (i := 0) (vs := [(str ([] : List UInt8)), (Value.int .i64 (0 : Int)), (Value.int .i64 (0 : Int))]) (cs' := [(str ([] : List UInt8)), (Value.int .i64 (0 : Int)), (Value.int .i64 (0 : Int))]) rfl rfl rfl sz23 (cv_rfl rfl) rfl (co_val rfl (co_val rfl (co_val rfl co_nil))) (Nat.le_of_ble_eq_true rfl) rfl rfl ?_
      refine al_val (ov_assign rfl rfl) ?_
      refine al_val (ov_assign rfl rfl) ?_
      refine al_nil ?_
      refine aq_then ?_
      refine aw_ret ?_
      refine aq_then_ret ?_
      obtain rfl := Option.some.inj h
      exact fn_ret () [] [] rfl rfl rfl rfl (resC rfl (resB (i := 0) rfl rfl Tryd.underlying23 sz23 rfl rfl rfl (resT rfl (resT rfl (resN)))) rfl) rfl rfl rfl (by decide)
    · replace h := bif_f hb8 h
      refine aw_skip ?_
      refine aq_then ?_
      refine aw_seq ?_
      refine aw_block ?_
      obtain ⟨kk10, hkk10, h⟩ := lt_some h
      refine aw_seq_join (ι := Bool) (fun i => (memOf w0 Z0 [] [(oBox g1 23 [(str a0.Who), (Value.int .i64 a0.Until), (Value.int .i64 a0.Token)]), (oBox g2 23 [(str ([] : List UInt8)), (Value.int .i64 (0 : Int)), (Value.int .i64 (0 : Int))])] [uTabs])) (fun i => (tab [(1, (str a1)), (2, (Value.int .i64 a2)), (3, (Value.int .i64 a3)), (4, (ptr g1 0)), (8, (ptr g2 0)), (26, (Value.bool i))])) (fun i => kk10 i = some r) ?_ ?_
      · rintro j9b26 h
        have h : kk10 j9b26 = some r := h
        rw [hkk10] at h
        dsimp only at h
        clear hkk10
        refine aw_show (m := (memOf w0 Z0 [] [(oBox g1 23 [(str a0.Who), (Value.int .i64 a0.Until), (Value.int .i64 a0.Token)]), (oBox g2 23 [(str ([] : List UInt8)), (Value.int .i64 (0 : Int)), (Value.int .i64 (0 : Int))])] [uTabs])) (S := (tab [(1, (str a1)), (2, (Value.int .i64 a2)), (3, (Value.int .i64 a3)), (4, (ptr g1 0)), (8, (ptr g2 0)), (26, (Value.bool j9b26))])) ?_
        refine aw_cond rfl (fun hb11 => ?_) (fun hb11 => ?_)
        · replace h := bif_t hb11 h
          refine aw_seq ?_
          refine aw_region ?_
          refine al_val (ov_build (cells := ([(str ([] : List UInt8)), (Value.int .i64 (0 : Int)), (Value.int .i64 (0 : Int))]).toArray) (cs := [(str ([] : List UInt8)), (Value.int .i64 (0 : Int)), (Value.int .i64 (0 : Int))]) rfl (fun w a hm hs => by simp only [List.map_toArray, List.map_cons, List.map_nil, List.toList_toArray]; kernel_rfl)) ?_
          refine al_store (i := 1) (vs := [(str ([] : List UInt8)), (Value.int .i64 (0 : Int)), (Value.int .i64 (0 : Int))]) (cs' := [(str ([] : List UInt8)), (Value.int .i64 (0 : Int)), (Value.int .i64 (0 : Int))]) rfl rfl rfl sz23 (cv_rfl rfl) rfl (co_val rfl (co_val rfl (co_val rfl co_nil))) (Nat.le_of_ble_eq_true rfl) rfl rfl ?_
          refine al_val (ov_assign rfl rfl) ?_
          refine al_val (ov_assign rfl rfl) ?_
          refine al_nil ?_
          refine aq_then ?_
          refine aw_ret ?_
          refine aq_block_ret ?_
          refine aq_then_ret ?_
          obtain rfl := Option.some.inj h
          exact fn_ret () [] [] rfl rfl rfl rfl (resC rfl (resB (i := 1) rfl rfl Tryd.underlying23 sz23 rfl rfl rfl (resT rfl (resT rfl (resN)))) rfl) rfl rfl rfl (by decide)
        · replace h := bif_f hb11 h
          obtain ⟨kk13, hkk13, h⟩ := lt_some h
          refine aw_seq_join (ι := Bool) (fun i => (memOf w0 Z0 [] [(oBox g1 23 [(str a0.Who), (Value.int .i64 a0.Until), (Value.int .i64 a0.Token)]), (oBox g2 23 [(str ([] : List UInt8)), (Value.int .i64 (0 : Int)), (Value.int .i64 (0 : Int))])] [uTabs])) (fun i => (tab [(1, (str a1)), (2, (Value.int .i64 a2)), (3, (Value.int .i64 a3)), (4, (ptr g1 0)), (8, (ptr g2 0)), (39, (Value.bool i))])) (fun i => kk13 i = some r) ?_ ?_
          · rintro j12b39 h
            have h : kk13 j12b39 = some r := h
            rw [hkk13] at h
            dsimp only at h
            clear hkk13
            refine aw_show (m := (memOf w0 Z0 [] [(oBox g1 23 [(str a0.Who), (Value.int .i64 a0.Until), (Value.int .i64 a0.Token)]), (oBox g2 23 [(str ([] : List UInt8)), (Value.int .i64 (0 : Int)), (Value.int .i64 (0 : Int))])] [uTabs])) (S := (tab [(1, (str a1)), (2, (Value.int .i64 a2)), (3, (Value.int .i64 a3)), (4, (ptr g1 0)), (8, (ptr g2 0)), (39, (Value.bool j12b39))])) ?_
            refine aw_cond rfl (fun hb14 => ?_) (fun hb14 => ?_)
            · replace h := bif_t hb14 h
              refine aw_seq ?_
              refine aw_region ?_
              refine al_val (ov_build (cells := ([(str ([] : List UInt8)), (Value.int .i64 (0 : Int)), (Value.int .i64 (0 : Int))]).toArray) (cs := [(str ([] : List UInt8)), (Value.int .i64 (0 : Int)), (Value.int .i64 (0 : Int))]) rfl (fun w a hm hs => by simp only [List.map_toArray, List.map_cons, List.map_nil, List.toList_toArray]; kernel_rfl)) ?_
              refine al_store (i := 1) (vs := [(str ([] : List UInt8)), (Value.int .i64 (0 : Int)), (Value.int .i64 (0 : Int))]) (cs' := [(str ([] : List UInt8)), (Value.int .i64 (0 : Int)), (Value.int .i64 (0 : Int))]) rfl rfl rfl sz23 (cv_rfl rfl) rfl (co_val rfl (co_val rfl (co_val rfl co_nil))) (Nat.le_of_ble_eq_true rfl) rfl rfl ?_
              refine al_val (ov_assign rfl rfl) ?_
              refine al_val (ov_assign rfl rfl) ?_
              refine al_nil ?_
              refine aq_then ?_
              refine aw_ret ?_
              refine aq_block_ret ?_
              refine aq_then_ret ?_
              obtain rfl := Option.some.inj h
              exact fn_ret () [] [] rfl rfl rfl rfl (resC rfl (resB (i := 1) rfl rfl Tryd.underlying23 sz23 rfl rfl rfl (resT rfl (resT rfl (resN)))) rfl) rfl rfl rfl (by decide)
            · replace h := bif_f hb14 h
              refine aw_seq ?_
              refine aw_region ?_
              refine al_val (ov_fieldA (p := 2) rfl Tryd.underlying23 rfl sz3 rfl rfl rfl) ?_
              refine al_val (ov_load (i := 0) (v := (Value.int .i64 a0.Token)) rfl rfl Tryd.underlying3 sz3 rfl rfl rfl rfl) ?_
              refine al_val (ov_int rfl rfl rfl rfl) ?_
              refine al_val (ov_assign rfl rfl) ?_
              refine al_nil ?_
              refine aq_then ?_
              refine aw_cond rfl (fun hb15 => ?_) (fun hb15 => ?_)
              · replace h := bif_t hb15 h
                refine aw_seq ?_
                refine aw_region ?_
                refine al_val (ov_build (cells := ([(str ([] : List UInt8)), (Value.int .i64 (0 : Int)), (Value.int .i64 (0 : Int))]).toArray) (cs := [(str ([] : List UInt8)), (Value.int .i64 (0 : Int)), (Value.int .i64 (0 : Int))]) rfl (fun w a hm hs => by simp only [List.map_toArray, List.map_cons, List.map_nil, List.toList_toArray]; kernel_rfl)) ?_
                refine al_store (i := 1) (vs := [(str ([] : List UInt8)), (Value.int .i64 (0 : Int)), (Value.int .i64 (0 : Int))]) (cs' := [(str ([] : List UInt8)), (Value.int .i64 (0 : Int)), (Value.int .i64 (0 : Int))]) rfl rfl rfl sz23 (cv_rfl rfl) rfl (co_val rfl (co_val rfl (co_val rfl co_nil))) (Nat.le_of_ble_eq_true rfl) rfl rfl ?_
                refine al_val (ov_assign rfl rfl) ?_
                refine al_val (ov_assign rfl rfl) ?_
                refine al_nil ?_
                refine aq_then ?_
                refine aw_ret ?_
                refine aq_block_ret ?_
                refine aq_then_ret ?_
                obtain rfl := Option.some.inj h
                exact fn_ret () [] [] rfl rfl rfl rfl (resC rfl (resB (i := 1) rfl rfl Tryd.underlying23 sz23 rfl rfl rfl (resT rfl (resT rfl (resN)))) rfl) rfl rfl rfl (by decide)
              · replace h := bif_f hb15 h
                refine aw_skip ?_
                refine aq_block ?_
                refine aq_then ?_
                refine aw_seq ?_
                refine aw_region ?_
                refine al_val (ov_move rfl rfl) ?_
                refine al_val (ov_move rfl rfl) ?_
                refine al_val (ov_move rfl rfl) ?_
                refine al_val (ov_int rfl rfl rfl rfl) ?_
                refine al_val (ov_fieldA (p := 1) rfl Tryd.underlying23 rfl sz3 rfl rfl rfl) ?_
                refine al_val (ov_load (i := 0) (v := (Value.int .i64 a0.Until)) rfl rfl Tryd.underlying3 sz3 rfl rfl rfl rfl) ?_
                refine al_val (ov_max rfl rfl rfl) ?_
                refine al_val (ov_fieldA (p := 2) rfl Tryd.underlying23 rfl sz3 rfl rfl rfl) ?_
                refine al_val (ov_load (i := 0) (v := (Value.int .i64 a0.Token)) rfl rfl Tryd.underlying3 sz3 rfl rfl rfl rfl) ?_
                refine al_val (ov_int rfl rfl rfl rfl) ?_
                refine al_val (ov_build (cells := ([(str a1), (Value.int .i64 (if a0.Until > (IntKind.i64.wrap (a2 + a3)) then a0.Until else (IntKind.i64.wrap (a2 + a3)))), (Value.int .i64 (IntKind.i64.wrap (a0.Token + (1 : Int))))]).toArray) (cs := [(str a1), (Value.int .i64 (if a0.Until > (IntKind.i64.wrap (a2 + a3)) then a0.Until else (IntKind.i64.wrap (a2 + a3)))), (Value.int .i64 (IntKind.i64.wrap (a0.Token + (1 : Int))))]) rfl (fun w a hm hs => by simp only [List.map_toArray, List.map_cons, List.map_nil, List.toList_toArray, hs.ev (x := .tmp 61) rfl, hs.ev (x := .tmp 67) rfl, hs.ev (x := .tmp 70) rfl]; kernel_rfl)) ?_
                refine al_alloc (zs := [(str ([] : List UInt8)), (Value.int .i64 (0 : Int)), (Value.int .i64 (0 : Int))]) (zeroOf_to to23) rfl rfl (fun g16 => ?_)
                refine al_store (i := 0) (vs := [(str a1), (Value.int .i64 (if a0.Until > (IntKind.i64.wrap (a2 + a3)) then a0.Until else (IntKind.i64.wrap (a2 + a3)))), (Value.int .i64 (IntKind.i64.wrap (a0.Token + (1 : Int))))]) (cs' := [(str a1), (Value.int .i64 (if a0.Until > (IntKind.i64.wrap (a2 + a3)) then a0.Until else (IntKind.i64.wrap (a2 + a3)))), (Value.int .i64 (IntKind.i64.wrap (a0.Token + (1 : Int))))]) rfl rfl rfl sz23 (cv_rfl rfl) rfl (co_val rfl (co_val rfl (co_val rfl co_nil))) (Nat.le_of_ble_eq_true rfl) rfl rfl ?_
                refine al_nil ?_
                refine aq_then ?_
                refine aw_seq ?_
                refine aw_region_open [⟨0, 72, Unit, fun _ => { val := (ag [(str a1), (Value.int .i64 (if a0.Until > (IntKind.i64.wrap (a2 + a3)) then a0.Until else (IntKind.i64.wrap (a2 + a3)))), (Value.int .i64 (IntKind.i64.wrap (a0.Token + (1 : Int))))]) }⟩, ⟨1, 73, Unit, fun _ => { val := (ptr g16 2) }⟩, ⟨2, 74, Unit, fun _ => { val := (Value.int .i64 (IntKind.i64.wrap (a0.Token + (1 : Int)))) }⟩] (tab [(8, (ptr g2 0)), (13, (ptr g16 0))]) mixed (fun a hs => hs.tab _ (allT_mem ⟨rfl, rfl, trivial⟩)) ?_
                refine ta_show (m := (memOf w0 Z0 [] [(oBox g16 23 [(str a1), (Value.int .i64 (if a0.Until > (IntKind.i64.wrap (a2 + a3)) then a0.Until else (IntKind.i64.wrap (a2 + a3)))), (Value.int .i64 (IntKind.i64.wrap (a0.Token + (1 : Int))))]), (oBox g1 23 [(str a0.Who), (Value.int .i64 a0.Until), (Value.int .i64 a0.Token)]), (oBox g2 23 [(str ([] : List UInt8)), (Value.int .i64 (0 : Int)), (Value.int .i64 (0 : Int))])] [uTabs])) (S := (tab [(8, (ptr g2 0)), (13, (ptr g16 0))])) ?_
                refine ta_step 3 _ [0, 1, 2] [72, 73, 74] [0] [] [⟨0, 72, Unit, fun _ => { val := (ag [(str a1), (Value.int .i64 (if a0.Until > (IntKind.i64.wrap (a2 + a3)) then a0.Until else (IntKind.i64.wrap (a2 + a3)))), (Value.int .i64 (IntKind.i64.wrap (a0.Token + (1 : Int))))]) }⟩] [⟨1, 73, Unit, fun _ => { val := (ptr g16 2) }⟩, ⟨2, 74, Unit, fun _ => { val := (Value.int .i64 (IntKind.i64.wrap (a0.Token + (1 : Int)))) }⟩] rfl rfl rfl (by kernel_rfl) rfl rfl rfl ⟨⟨_, rfl, [], rfl, by
    intro X_ Y_ F_ K_ hK_
    refine al_show (m := Mem.plus (memOf w0 Z0 [] [(oBox g16 23 [(str a1), (Value.int .i64 (if a0.Until > (IntKind.i64.wrap (a2 + a3)) then a0.Until else (IntKind.i64.wrap (a2 + a3)))), (Value.int .i64 (IntKind.i64.wrap (a0.Token + (1 : Int))))]), (oBox g1 23 [(str a0.Who), (Value.int .i64 a0.Until), (Value.int .i64 a0.Token)]), (oBox g2 23 [(str ([] : List UInt8)), (Value.int .i64 (0 : Int)), (Value.int .i64 (0 : Int))])] [uTabs]) X_ Y_) (S := over (tab [(8, (ptr g2 0)), (13, (ptr g16 0))]) F_) ?_
    refine al_val (ov_load (i := 0) (v := (ag [(str a1), (Value.int .i64 (if a0.Until > (IntKind.i64.wrap (a2 + a3)) then a0.Until else (IntKind.i64.wrap (a2 + a3)))), (Value.int .i64 (IntKind.i64.wrap (a0.Token + (1 : Int))))])) rfl rfl Tryd.underlying23 sz23 rfl rfl rfl rfl) ?_
    refine al_nil ?_
    exact fr_fin hK_ ()⟩, ⟨_, rfl, [], rfl, by
    intro X_ Y_ F_ K_ hK_
    refine al_show (m := Mem.plus (memOf w0 Z0 [] [(oBox g16 23 [(str a1), (Value.int .i64 (if a0.Until > (IntKind.i64.wrap (a2 + a3)) then a0.Until else (IntKind.i64.wrap (a2 + a3)))), (Value.int .i64 (IntKind.i64.wrap (a0.Token + (1 : Int))))]), (oBox g1 23 [(str a0.Who), (Value.int .i64 a0.Until), (Value.int .i64 a0.Token)]), (oBox g2 23 [(str ([] : List UInt8)), (Value.int .i64 (0 : Int)), (Value.int .i64 (0 : Int))])] [uTabs]) X_ Y_) (S := over (tab [(8, (ptr g2 0)), (13, (ptr g16 0))]) F_) ?_
    refine al_val (ov_fieldA (p := 2) rfl Tryd.underlying23 rfl sz3 rfl rfl rfl) ?_
    refine al_nil ?_
    exact fr_fin hK_ ()⟩, ⟨_, rfl, [1], rfl, by
    intro _
    intro X_ Y_ F_ K_ hK_
    refine al_show (m := Mem.plus (memOf w0 Z0 [] [(oBox g16 23 [(str a1), (Value.int .i64 (if a0.Until > (IntKind.i64.wrap (a2 + a3)) then a0.Until else (IntKind.i64.wrap (a2 + a3)))), (Value.int .i64 (IntKind.i64.wrap (a0.Token + (1 : Int))))]), (oBox g1 23 [(str a0.Who), (Value.int .i64 a0.Until), (Value.int .i64 a0.Token)]), (oBox g2 23 [(str ([] : List UInt8)), (Value.int .i64 (0 : Int)), (Value.int .i64 (0 : Int))])] [uTabs]) X_ Y_) (S := over (put (tab [(8, (ptr g2 0)), (13, (ptr g16 0))]) 73 (ptr g16 2)) F_) ?_
    refine al_val (ov_load (i := 0) (v := (Value.int .i64 (IntKind.i64.wrap (a0.Token + (1 : Int))))) rfl rfl Tryd.underlying3 sz3 rfl rfl rfl rfl) ?_
    refine al_nil ?_
    exact fr_fin hK_ ()⟩, trivial⟩ ?_
                intro _
                intro X_ Y_ F_ K_ hK_
                refine al_show (m := Mem.plus (memOf w0 Z0 [] [(oBox g16 23 [(str a1), (Value.int .i64 (if a0.Until > (IntKind.i64.wrap (a2 + a3)) then a0.Until else (IntKind.i64.wrap (a2 + a3)))), (Value.int .i64 (IntKind.i64.wrap (a0.Token + (1 : Int))))]), (oBox g1 23 [(str a0.Who), (Value.int .i64 a0.Until), (Value.int .i64 a0.Token)]), (oBox g2 23 [(str ([] : List UInt8)), (Value.int .i64 (0 : Int)), (Value.int .i64 (0 : Int))])] [uTabs]) X_ Y_) (S := over (put (tab [(8, (ptr g2 0)), (13, (ptr g16 0))]) 72 (ag [(str a1), (Value.int .i64 (if a0.Until > (IntKind.i64.wrap (a2 + a3)) then a0.Until else (IntKind.i64.wrap (a2 + a3)))), (Value.int .i64 (IntKind.i64.wrap (a0.Token + (1 : Int))))])) F_) ?_
                refine al_store (i := 2) (vs := [(str a1), (Value.int .i64 (if a0.Until > (IntKind.i64.wrap (a2 + a3)) then a0.Until else (IntKind.i64.wrap (a2 + a3)))), (Value.int .i64 (IntKind.i64.wrap (a0.Token + (1 : Int))))]) (cs' := [(str a1), (Value.int .i64 (if a0.Until > (IntKind.i64.wrap (a2 + a3)) then a0.Until else (IntKind.i64.wrap (a2 + a3)))), (Value.int .i64 (IntKind.i64.wrap (a0.Token + (1 : Int))))]) rfl rfl rfl sz23 (cv_rfl rfl) rfl (co_val rfl (co_val rfl (co_val rfl co_nil))) (Nat.le_of_ble_eq_true rfl) rfl rfl ?_
                refine al_nil ?_
                refine aq_show (m := Mem.plus (memOf w0 Z0 [] [(oBox g16 23 [(str a1), (Value.int .i64 (if a0.Until > (IntKind.i64.wrap (a2 + a3)) then a0.Until else (IntKind.i64.wrap (a2 + a3)))), (Value.int .i64 (IntKind.i64.wrap (a0.Token + (1 : Int))))]), (oBox g1 23 [(str a0.Who), (Value.int .i64 a0.Until), (Value.int .i64 a0.Token)]), (oBox g2 23 [(str a1), (Value.int .i64 (if a0.Until > (IntKind.i64.wrap (a2 + a3)) then a0.Until else (IntKind.i64.wrap (a2 + a3)))), (Value.int .i64 (IntKind.i64.wrap (a0.Token + (1 : Int))))])] [uTabs]) X_ Y_) ?_
                refine aq_next hK_ [0, 1, 2] [0] [(8, (ptr g2 0)), (13, (ptr g16 0))] [73, 74] [] rfl rfl (by decide) rfl ⟨rfl, rfl, trivial⟩ ⟨rfl, rfl, trivial⟩ ?_
                clear hK_ K_ F_ X_ Y_
                refine ta_show (m := (memOf w0 Z0 [] [(oBox g16 23 [(str a1), (Value.int .i64 (if a0.Until > (IntKind.i64.wrap (a2 + a3)) then a0.Until else (IntKind.i64.wrap (a2 + a3)))), (Value.int .i64 (IntKind.i64.wrap (a0.Token + (1 : Int))))]), (oBox g1 23 [(str a0.Who), (Value.int .i64 a0.Until), (Value.int .i64 a0.Token)]), (oBox g2 23 [(str a1), (Value.int .i64 (if a0.Until > (IntKind.i64.wrap (a2 + a3)) then a0.Until else (IntKind.i64.wrap (a2 + a3)))), (Value.int .i64 (IntKind.i64.wrap (a0.Token + (1 : Int))))])] [uTabs])) (S := (tab [(8, (ptr g2 0)), (13, (ptr g16 0))])) ?_
                refine ta_step 4 _ [1, 2] [73, 74] [1, 2] [] [⟨1, 73, Unit, fun _ => { val := (ptr g16 2) }⟩, ⟨2, 74, Unit, fun _ => { val := (Value.int .i64 (IntKind.i64.wrap (a0.Token + (1 : Int)))) }⟩] [] rfl rfl rfl (by kernel_rfl) rfl rfl rfl ⟨⟨_, rfl, [], rfl, by
    intro X_ Y_ F_ K_ hK_
    refine al_show (m := Mem.plus (memOf w0 Z0 [] [(oBox g16 23 [(str a1), (Value.int .i64 (if a0.Until > (IntKind.i64.wrap (a2 + a3)) then a0.Until else (IntKind.i64.wrap (a2 + a3)))), (Value.int .i64 (IntKind.i64.wrap (a0.Token + (1 : Int))))]), (oBox g1 23 [(str a0.Who), (Value.int .i64 a0.Until), (Value.int .i64 a0.Token)]), (oBox g2 23 [(str a1), (Value.int .i64 (if a0.Until > (IntKind.i64.wrap (a2 + a3)) then a0.Until else (IntKind.i64.wrap (a2 + a3)))), (Value.int .i64 (IntKind.i64.wrap (a0.Token + (1 : Int))))])] [uTabs]) X_ Y_) (S := over (tab [(8, (ptr g2 0)), (13, (ptr g16 0))]) F_) ?_
    refine al_val (ov_fieldA (p := 2) rfl Tryd.underlying23 rfl sz3 rfl rfl rfl) ?_
    refine al_nil ?_
    exact fr_fin hK_ ()⟩, ⟨_, rfl, [0], rfl, by
    intro _
    intro X_ Y_ F_ K_ hK_
    refine al_show (m := Mem.plus (memOf w0 Z0 [] [(oBox g16 23 [(str a1), (Value.int .i64 (if a0.Until > (IntKind.i64.wrap (a2 + a3)) then a0.Until else (IntKind.i64.wrap (a2 + a3)))), (Value.int .i64 (IntKind.i64.wrap (a0.Token + (1 : Int))))]), (oBox g1 23 [(str a0.Who), (Value.int .i64 a0.Until), (Value.int .i64 a0.Token)]), (oBox g2 23 [(str a1), (Value.int .i64 (if a0.Until > (IntKind.i64.wrap (a2 + a3)) then a0.Until else (IntKind.i64.wrap (a2 + a3)))), (Value.int .i64 (IntKind.i64.wrap (a0.Token + (1 : Int))))])] [uTabs]) X_ Y_) (S := over (put (tab [(8, (ptr g2 0)), (13, (ptr g16 0))]) 73 (ptr g16 2)) F_) ?_
    refine al_val (ov_load (i := 0) (v := (Value.int .i64 (IntKind.i64.wrap (a0.Token + (1 : Int))))) rfl rfl Tryd.underlying3 sz3 rfl rfl rfl rfl) ?_
    refine al_nil ?_
    exact fr_fin hK_ ()⟩, trivial⟩ ?_
                intro _
                intro _
                intro X_ Y_ F_ K_ hK_
                refine al_show (m := Mem.plus (memOf w0 Z0 [] [(oBox g16 23 [(str a1), (Value.int .i64 (if a0.Until > (IntKind.i64.wrap (a2 + a3)) then a0.Until else (IntKind.i64.wrap (a2 + a3)))), (Value.int .i64 (IntKind.i64.wrap (a0.Token + (1 : Int))))]), (oBox g1 23 [(str a0.Who), (Value.int .i64 a0.Until), (Value.int .i64 a0.Token)]), (oBox g2 23 [(str a1), (Value.int .i64 (if a0.Until > (IntKind.i64.wrap (a2 + a3)) then a0.Until else (IntKind.i64.wrap (a2 + a3)))), (Value.int .i64 (IntKind.i64.wrap (a0.Token + (1 : Int))))])] [uTabs]) X_ Y_) (S := over (put (put (tab [(8, (ptr g2 0)), (13, (ptr g16 0))]) 73 (ptr g16 2)) 74 (Value.int .i64 (IntKind.i64.wrap (a0.Token + (1 : Int))))) F_) ?_
                refine al_val (ov_assign rfl rfl) ?_
                refine al_nil ?_
                refine aq_show (m := Mem.plus (memOf w0 Z0 [] [(oBox g16 23 [(str a1), (Value.int .i64 (if a0.Until > (IntKind.i64.wrap (a2 + a3)) then a0.Until else (IntKind.i64.wrap (a2 + a3)))), (Value.int .i64 (IntKind.i64.wrap (a0.Token + (1 : Int))))]), (oBox g1 23 [(str a0.Who), (Value.int .i64 a0.Until), (Value.int .i64 a0.Token)]), (oBox g2 23 [(str a1), (Value.int .i64 (if a0.Until > (IntKind.i64.wrap (a2 + a3)) then a0.Until else (IntKind.i64.wrap (a2 + a3)))), (Value.int .i64 (IntKind.i64.wrap (a0.Token + (1 : Int))))])] [uTabs]) X_ Y_) ?_
                refine aq_next hK_ [0, 1, 2] [0] [(8, (ptr g2 0)), (9, (Value.int .i64 (IntKind.i64.wrap (a0.Token + (1 : Int)))))] [] [] rfl rfl (by decide) rfl ⟨rfl, rfl, trivial⟩ trivial ?_
                clear hK_ K_ F_ X_ Y_
                refine ta_show (m := (memOf w0 Z0 [] [(oBox g16 23 [(str a1), (Value.int .i64 (if a0.Until > (IntKind.i64.wrap (a2 + a3)) then a0.Until else (IntKind.i64.wrap (a2 + a3)))), (Value.int .i64 (IntKind.i64.wrap (a0.Token + (1 : Int))))]), (oBox g1 23 [(str a0.Who), (Value.int .i64 a0.Until), (Value.int .i64 a0.Token)]), (oBox g2 23 [(str a1), (Value.int .i64 (if a0.Until > (IntKind.i64.wrap (a2 + a3)) then a0.Until else (IntKind.i64.wrap (a2 + a3)))), (Value.int .i64 (IntKind.i64.wrap (a0.Token + (1 : Int))))])] [uTabs])) (S := (tab [(8, (ptr g2 0)), (9, (Value.int .i64 (IntKind.i64.wrap (a0.Token + (1 : Int)))))])) ?_
                refine ta_step 5 _ [] [] [] [] [] [] rfl rfl rfl (by kernel_rfl) rfl rfl rfl trivial ?_
                intro X_ Y_ F_ K_ hK_
                refine al_show (m := Mem.plus (memOf w0 Z0 [] [(oBox g16 23 [(str a1), (Value.int .i64 (if a0.Until > (IntKind.i64.wrap (a2 + a3)) then a0.Until else (IntKind.i64.wrap (a2 + a3)))), (Value.int .i64 (IntKind.i64.wrap (a0.Token + (1 : Int))))]), (oBox g1 23 [(str a0.Who), (Value.int .i64 a0.Until), (Value.int .i64 a0.Token)]), (oBox g2 23 [(str a1), (Value.int .i64 (if a0.Until > (IntKind.i64.wrap (a2 + a3)) then a0.Until else (IntKind.i64.wrap (a2 + a3)))), (Value.int .i64 (IntKind.i64.wrap (a0.Token + (1 : Int))))])] [uTabs]) X_ Y_) (S := over (tab [(8, (ptr g2 0)), (9, (Value.int .i64 (IntKind.i64.wrap (a0.Token + (1 : Int)))))]) F_) ?_
                refine al_val (ov_assign rfl rfl) ?_
                refine al_nil ?_
                refine aq_show (m := Mem.plus (memOf w0 Z0 [] [(oBox g16 23 [(str a1), (Value.int .i64 (if a0.Until > (IntKind.i64.wrap (a2 + a3)) then a0.Until else (IntKind.i64.wrap (a2 + a3)))), (Value.int .i64 (IntKind.i64.wrap (a0.Token + (1 : Int))))]), (oBox g1 23 [(str a0.Who), (Value.int .i64 a0.Until), (Value.int .i64 a0.Token)]), (oBox g2 23 [(str a1), (Value.int .i64 (if a0.Until > (IntKind.i64.wrap (a2 + a3)) then a0.Until else (IntKind.i64.wrap (a2 + a3)))), (Value.int .i64 (IntKind.i64.wrap (a0.Token + (1 : Int))))])] [uTabs]) X_ Y_) ?_
                refine aq_next hK_ [0, 1, 2] [0] [(8, (ptr g2 0)), (9, (Value.int .i64 (IntKind.i64.wrap (a0.Token + (1 : Int))))), (10, (Value.int .i64 (0 : Int)))] [] [] rfl rfl (by decide) rfl ⟨rfl, rfl, rfl, trivial⟩ trivial ?_
                clear hK_ K_ F_ X_ Y_
                refine ta_show (m := (memOf w0 Z0 [] [(oBox g16 23 [(str a1), (Value.int .i64 (if a0.Until > (IntKind.i64.wrap (a2 + a3)) then a0.Until else (IntKind.i64.wrap (a2 + a3)))), (Value.int .i64 (IntKind.i64.wrap (a0.Token + (1 : Int))))]), (oBox g1 23 [(str a0.Who), (Value.int .i64 a0.Until), (Value.int .i64 a0.Token)]), (oBox g2 23 [(str a1), (Value.int .i64 (if a0.Until > (IntKind.i64.wrap (a2 + a3)) then a0.Until else (IntKind.i64.wrap (a2 + a3)))), (Value.int .i64 (IntKind.i64.wrap (a0.Token + (1 : Int))))])] [uTabs])) (S := (tab [(8, (ptr g2 0)), (9, (Value.int .i64 (IntKind.i64.wrap (a0.Token + (1 : Int))))), (10, (Value.int .i64 (0 : Int)))])) ?_
                refine ta_end [] [] rfl rfl (by kernel_rfl) rfl trivial ?_
                refine aq_show (m := (memOf w0 Z0 [] [(oBox g16 23 [(str a1), (Value.int .i64 (if a0.Until > (IntKind.i64.wrap (a2 + a3)) then a0.Until else (IntKind.i64.wrap (a2 + a3)))), (Value.int .i64 (IntKind.i64.wrap (a0.Token + (1 : Int))))]), (oBox g1 23 [(str a0.Who), (Value.int .i64 a0.Until), (Value.int .i64 a0.Token)]), (oBox g2 23 [(str a1), (Value.int .i64 (if a0.Until > (IntKind.i64.wrap (a2 + a3)) then a0.Until else (IntKind.i64.wrap (a2 + a3)))), (Value.int .i64 (IntKind.i64.wrap (a0.Token + (1 : Int))))])] [uTabs])) (S := (tab [(8, (ptr g2 0)), (9, (Value.int .i64 (IntKind.i64.wrap (a0.Token + (1 : Int))))), (10, (Value.int .i64 (0 : Int)))])) ?_
                refine aq_then ?_
                refine aw_ret ?_
                obtain rfl := Option.some.inj h
                exact fn_ret () [] [] rfl rfl rfl rfl (resC rfl (resB (i := 2) rfl rfl Tryd.underlying23 sz23 rfl rfl rfl (resT rfl (resT rfl (resN)))) rfl) rfl rfl rfl (by decide)
          · clear hkk13
            refine aw_region ?_
            refine al_val (ov_fieldA (p := 0) rfl Tryd.underlying23 rfl sz9 rfl rfl rfl) ?_
            refine al_val (ov_load (i := 0) (v := (str a0.Who)) rfl rfl Tryd.underlying9 sz9 rfl rfl rfl rfl) ?_
            refine al_val (ov_strCmp rfl rfl rfl rfl) ?_
            refine al_val (ov_move rfl rfl) ?_
            refine al_caseB 43 rfl (fun hb17 => ?_) (fun hb17 => ?_)
            · replace h := bif_t hb17 h
              refine al_val (ov_fieldA (p := 0) rfl Tryd.underlying23 rfl sz9 rfl rfl rfl) ?_
              refine al_val (ov_load (i := 0) (v := (str a0.Who)) rfl rfl Tryd.underlying9 sz9 rfl rfl rfl rfl) ?_
              refine al_val (ov_move rfl rfl) ?_
              refine al_val (ov_strCmp rfl rfl rfl rfl) ?_
              refine al_val (ov_pick_t rfl rfl rfl) ?_
              refine al_val (ov_move rfl rfl) ?_
              refine al_caseB 49 rfl (fun hb18 => ?_) (fun hb18 => ?_)
              · replace h := bif_t hb18 h
                refine al_val (ov_move rfl rfl) ?_
                refine al_val (ov_fieldA (p := 1) rfl Tryd.underlying23 rfl sz3 rfl rfl rfl) ?_
                refine al_val (ov_load (i := 0) (v := (Value.int .i64 a0.Until)) rfl rfl Tryd.underlying3 sz3 rfl rfl rfl rfl) ?_
                refine al_val (ov_int rfl rfl rfl rfl) ?_
                refine al_val (ov_pick_t rfl rfl rfl) ?_
                refine al_val (ov_assign rfl rfl) ?_
                refine al_nil ?_
                exact aq_join (decide (a2 < a0.Until)) h (fun w a hm hs => norm hm hs [0, 1] [0] [(1, (str a1)), (2, (Value.int .i64 a2)), (3, (Value.int .i64 a3)), (4, (ptr g1 0)), (8, (ptr g2 0)), (39, (Value.bool (decide (a2 < a0.Until))))] (by decide) ⟨rfl, rfl, rfl, rfl, rfl, rfl, trivial⟩)
              · replace h := bif_f hb18 h
                refine al_skip ?_
                refine al_skip ?_
                refine al_skip ?_
                refine al_skip ?_
                refine al_val (ov_pick_f rfl rfl rfl) ?_
                refine al_val (ov_assign rfl rfl) ?_
                refine al_nil ?_
                exact aq_join false h (fun w a hm hs => norm hm hs [0, 1] [0] [(1, (str a1)), (2, (Value.int .i64 a2)), (3, (Value.int .i64 a3)), (4, (ptr g1 0)), (8, (ptr g2 0)), (39, (Value.bool false))] (by decide) ⟨rfl, rfl, rfl, rfl, rfl, rfl, trivial⟩)
            · replace h := bif_f hb17 h
              refine al_skip ?_
              refine al_skip ?_
              refine al_skip ?_
              refine al_skip ?_
              refine al_val (ov_pick_f rfl rfl rfl) ?_
              refine al_val (ov_move rfl rfl) ?_
              refine al_skip ?_
              refine al_skip ?_
              refine al_skip ?_
              refine al_skip ?_
              refine al_val (ov_pick_f rfl rfl rfl) ?_
              refine al_val (ov_assign rfl rfl) ?_
              refine al_nil ?_
              exact aq_join false h (fun w a hm hs => norm hm hs [0, 1] [0] [(1, (str a1)), (2, (Value.int .i64 a2)), (3, (Value.int .i64 a3)), (4, (ptr g1 0)), (8, (ptr g2 0)), (39, (Value.bool false))] (by decide) ⟨rfl, rfl, rfl, rfl, rfl, rfl, trivial⟩)
      · clear hkk10
        refine aw_region ?_
        refine al_val (ov_move rfl rfl) ?_
        obtain ⟨r20, hc19, h⟩ := opt_some h
        refine al_call (vs := [(Value.int .i64 a2)]) (f_lease_right_ok fu a2 hc19) [] [] [0, 1] pre_nil rfl (by simp) (by decide) (.inl rfl) rfl Tryd.func42 rfl rfl rfl (fun _ => ?_)
        refine al_val (ov_not rfl rfl) ?_
        refine al_val (ov_move rfl rfl) ?_
        refine al_caseB 30 rfl (fun hb21 => ?_) (fun hb21 => ?_)
        · replace h := bif_t hb21 h
          refine al_skip ?_
          refine al_skip ?_
          refine al_val (ov_pick_t rfl rfl rfl) ?_
          refine al_val (ov_move rfl rfl) ?_
          refine al_skip ?_
          refine al_skip ?_
          refine al_val (ov_pick_t rfl rfl rfl) ?_
          refine al_val (ov_assign rfl rfl) ?_
          refine al_nil ?_
          exact aq_join true h (fun w a hm hs => norm hm hs [1, 0] [0] [(1, (str a1)), (2, (Value.int .i64 a2)), (3, (Value.int .i64 a3)), (4, (ptr g1 0)), (8, (ptr g2 0)), (26, (Value.bool true))] (by decide) ⟨rfl, rfl, rfl, rfl, rfl, rfl, trivial⟩)
        · replace h := bif_f hb21 h
          refine al_val (ov_move rfl rfl) ?_
          refine al_val (ov_int rfl rfl rfl rfl) ?_
          refine al_val (ov_pick_f rfl rfl rfl) ?_
          refine al_val (ov_move rfl rfl) ?_
          refine al_caseB 34 rfl (fun hb22 => ?_) (fun hb22 => ?_)
          · replace h := bif_t hb22 h
            refine al_skip ?_
            refine al_skip ?_
            refine al_val (ov_pick_t rfl rfl rfl) ?_
            refine al_val (ov_assign rfl rfl) ?_
            refine al_nil ?_
            exact aq_join true h (fun w a hm hs => norm hm hs [1, 0] [0] [(1, (str a1)), (2, (Value.int .i64 a2)), (3, (Value.int .i64 a3)), (4, (ptr g1 0)), (8, (ptr g2 0)), (26, (Value.bool true))] (by decide) ⟨rfl, rfl, rfl, rfl, rfl, rfl, trivial⟩)
          · replace h := bif_f hb22 h
            refine al_val (ov_move rfl rfl) ?_
            refine al_val (ov_int rfl rfl rfl rfl) ?_
            refine al_val (ov_pick_f rfl rfl rfl) ?_
            refine al_val (ov_assign rfl rfl) ?_
            refine al_nil ?_
            exact aq_join (decide (a3 > (1000 : Int))) h (fun w a hm hs => norm hm hs [1, 0] [0] [(1, (str a1)), (2, (Value.int .i64 a2)), (3, (Value.int .i64 a3)), (4, (ptr g1 0)), (8, (ptr g2 0)), (26, (Value.bool (decide (a3 > (1000 : Int)))))] (by decide) ⟨rfl, rfl, rfl, rfl, rfl, rfl, trivial⟩)
def f_lumref_char_L20 (a0 : (List UInt8)) (j4i5 : Int) (kk8 : (Int → Option (Int × Int))) : Nat → Int → Int → Option (Int × Int)
  | 0, _, _ => none
  | k19 + 1, l18i4, l18i53 => (bif (decide (l18i53 < ((cut a0 (1 : Int) j4i5).length : Int))) then (opt (at? (cut a0 (1 : Int) j4i5) l18i53) fun (u22 : UInt8) => (lt (fun (j25b62 : Bool) => (bif j25b62 then (some ((0 : Int), (0 : Int))) else (f_lumref_char_L20 a0 j4i5 kk8 k19 (IntKind.i64.wrap ((IntKind.i64.wrap ((IntKind.i64.wrap ((64 : Int) * l18i4)) + (IntKind.i64.wrap (u22.toNat : Int)))) - (128 : Int))) (IntKind.i64.wrap (l18i53 + (1 : Int)))))) fun (kk26 : Bool → Option (Int × Int)) => (bif (decide ((u22.toNat : Int) < (128 : Int))) then (kk26 true) else (kk26 (decide ((u22.toNat : Int) > (191 : Int))))))) else (kk8 l18i4))
def f_lumref_char (fu : Nat) (a0 : (List UInt8)) : Option (Int × Int) := (bif (a0 == ([] : List UInt8)) then (some ((0 : Int), (0 : Int))) else (req (0 ≤ (0 : Int) ∧ (0 : Int) < (a0.length : Int)) (bif (decide ((IntKind.i64.wrap (En.bAt a0 (0 : Int))) < (128 : Int))) then (some ((IntKind.i64.wrap (En.bAt a0 (0 : Int))), (1 : Int))) else (lt (fun (j4i4 : Int) (j4i5 : Int) (j4i6 : Int) => (bif (decide ((a0.length : Int) < j4i5)) then (some ((0 : Int), (0 : Int))) else (lt (fun (j7i4 : Int) => (lt (fun (j9b84 : Bool) => (bif j9b84 then (some ((0 : Int), (0 : Int))) else (some (j7i4, j4i5)))) fun (kk10 : Bool → Option (Int × Int)) => (bif (decide (j7i4 < j4i6)) then (kk10 true) else (bif (decide (j7i4 > (1114111 : Int))) then (kk10 true) else (bif (decide (j7i4 ≥ (55296 : Int))) then (kk10 (decide (j7i4 < (57344 : Int)))) else (kk10 false)))))) fun (kk8 : Int → Option (Int × Int)) => (req (0 ≤ (1 : Int) ∧ (1 : Int) ≤ j4i5 ∧ j4i5 ≤ (a0.length : Int)) (req ((cut a0 (1 : Int) j4i5).length ≤ 9223372036854775807) (f_lumref_char_L20 a0 j4i5 kk8 fu j4i4 (0 : Int))))))) fun (kk5 : Int → Int → Int → Option (Int × Int)) => (lt (fun (j29b17 : Bool) => (bif j29b17 then (kk5 (IntKind.i64.wrap ((IntKind.i64.wrap (En.bAt a0 (0 : Int))) - (192 : Int))) (2 : Int) (128 : Int)) else (lt (fun (j32b26 : Bool) => (bif j32b26 then (kk5 (IntKind.i64.wrap ((IntKind.i64.wrap (En.bAt a0 (0 : Int))) - (224 : Int))) (3 : Int) (2048 : Int)) else (lt (fun (j35b35 : Bool) => (bif j35b35 then (kk5 (IntKind.i64.wrap ((IntKind.i64.wrap (En.bAt a0 (0 : Int))) - (240 : Int))) (4 : Int) (65536 : Int)) else (some ((0 : Int), (0 : Int))))) fun (kk36 : Bool → Option (Int × Int)) => (bif (decide ((IntKind.i64.wrap (En.bAt a0 (0 : Int))) ≥ (240 : Int))) then (kk36 (decide ((IntKind.i64.wrap (En.bAt a0 (0 : Int))) < (245 : Int)))) else (kk36 false))))) fun (kk33 : Bool → Option (Int × Int)) => (bif (decide ((IntKind.i64.wrap (En.bAt a0 (0 : Int))) ≥ (224 : Int))) then (kk33 (decide ((IntKind.i64.wrap (En.bAt a0 (0 : Int))) < (240 : Int)))) else (kk33 false))))) fun (kk30 : Bool → Option (Int × Int)) => (bif (decide ((IntKind.i64.wrap (En.bAt a0 (0 : Int))) ≥ (194 : Int))) then (kk30 (decide ((IntKind.i64.wrap (En.bAt a0 (0 : Int))) < (224 : Int)))) else (kk30 false)))))))
set_option maxRecDepth 100000 in
theorem f_lumref_char_ok (fu : Nat) (a0 : (List UInt8)) {r : (Int × Int)} (h : f_lumref_char fu a0 = some r) : FnOk Tryd.prog 87 [(str a0)] [] [] (fun (i : Unit) => { val := (Value.tuple #[(Value.int .i64 r.1), (Value.int .i64 r.2)]) }) := by
  unfold f_lumref_char at h
  refine fn_enter Tryd.func87 rfl Tryd.ntmps87 rfl (fun w0 Z0 => ?_)
  refine aw_seq ?_
  refine aw_region ?_
  refine al_val (ov_assign rfl rfl) ?_
  refine al_val (ov_assign rfl rfl) ?_
  refine al_nil ?_
  refine aq_then ?_
  refine aw_seq ?_
  refine aw_seq ?_
  refine aw_region ?_
  refine al_val (ov_move rfl rfl) ?_
  refine al_val (ov_strCmp rfl rfl rfl rfl) ?_
  refine al_nil ?_
  refine aq_then ?_
  refine aw_cond rfl (fun hb1 => ?_) (fun hb1 => ?_)
  · replace h := bif_t hb1 h
    refine aw_seq ?_
    refine aw_region ?_
    refine al_val (ov_assign rfl rfl) ?_
    refine al_val (ov_assign rfl rfl) ?_
    refine al_nil ?_
    refine aq_then ?_
    refine aw_ret ?_
    refine aq_then_ret ?_
    obtain rfl := Option.some.inj h
    exact fn_ret () [] [] rfl rfl rfl rfl (res2 rfl rfl rfl) rfl rfl rfl (by decide)
  · replace h := bif_f hb1 h
    refine aw_skip ?_
    refine aq_then ?_
    refine aw_seq ?_
    refine aw_region ?_
    refine al_val (ov_move rfl rfl) ?_
    obtain ⟨hc2, h⟩ := req_some h
    refine al_val (ov_strIdx hc2.1 hc2.2 Tryd.underlying9 rfl rfl rfl) ?_
    refine al_val (ov_convInt (by rw [Tryd.underlying5]; rfl) Tryd.underlying3 rfl rfl) ?_
    refine al_val (ov_assign rfl rfl) ?_
    refine al_nil ?_
    refine aq_then ?_
    refine aw_seq ?_
    refine aw_seq ?_
    refine aw_region ?_
    refine al_val (ov_move rfl rfl) ?_
    refine al_val (ov_int rfl rfl rfl rfl) ?_
    refine al_nil ?_
    refine aq_then ?_
    refine aw_cond rfl (fun hb3 => ?_) (fun hb3 => ?_)
    · replace h := bif_t hb3 h
      refine aw_seq ?_
      refine aw_region ?_
      refine al_val (ov_move rfl rfl) ?_
      refine al_val (ov_assign rfl rfl) ?_
      refine al_val (ov_assign rfl rfl) ?_
      refine al_nil ?_
      refine aq_then ?_
      refine aw_ret ?_
      refine aq_then_ret ?_
      obtain rfl := Option.some.inj h
      exact fn_ret () [] [] rfl rfl rfl rfl (res2 rfl rfl rfl) rfl rfl rfl (by decide)
    · replace h := bif_f hb3 h
      refine aw_skip ?_
      refine aq_then ?_
      refine aw_seq ?_
      refine aw_region ?_
      refine al_val (ov_assign rfl rfl) ?_
      refine al_val (ov_assign rfl rfl) ?_
      refine al_nil ?_
      refine aq_then ?_
      obtain ⟨kk5, hkk5, h⟩ := lt_some h
      refine aw_seq_join (ι := Int × Int × Int) (fun i => (memOf w0 Z0 [] [] [])) (fun i => (tab [(0, (str a0)), (4, (Value.int .i64 i.1)), (5, (Value.int .i64 i.2.1)), (6, (Value.int .i64 i.2.2))])) (fun i => kk5 i.1 i.2.1 i.2.2 = some r) ?_ ?_
      · rintro ⟨j4i4, j4i5, j4i6⟩ h
        have h : kk5 j4i4 j4i5 j4i6 = some r := h
        rw [hkk5] at h
        dsimp only at h
        clear hkk5
        refine aw_show (m := (memOf w0 Z0 [] [] [])) (S := (tab [(0, (str a0)), (4, (Value.int .i64 j4i4)), (5, (Value.int .i64 j4i5)), (6, (Value.int .i64 j4i6))])) ?_
        refine aw_seq ?_
        refine aw_seq ?_
        refine aw_region ?_
        refine al_val (ov_move rfl rfl) ?_
        refine al_val (ov_strLen Tryd.underlying9 rfl rfl) ?_
        refine al_val (ov_move rfl rfl) ?_
        refine al_val (ov_int rfl rfl rfl rfl) ?_
        refine al_nil ?_
        refine aq_then ?_
        refine aw_cond rfl (fun hb6 => ?_) (fun hb6 => ?_)
        · replace h := bif_t hb6 h
          refine aw_seq ?_
          refine aw_region ?_
          refine al_val (ov_assign rfl rfl) ?_
          refine al_val (ov_assign rfl rfl) ?_
          refine al_nil ?_
          refine aq_then ?_
          refine aw_ret ?_
          refine aq_then_ret ?_
          obtain rfl := Option.some.inj h
          exact fn_ret () [] [] rfl rfl rfl rfl (res2 rfl rfl rfl) rfl rfl rfl (by decide)
        · replace h := bif_f hb6 h
          refine aw_skip ?_
          refine aq_then ?_
          obtain ⟨kk8, hkk8, h⟩ := lt_some h
          refine aw_seq_join (ι := Int) (fun i => (memOf w0 Z0 [] [] [])) (fun i => (tab [(4, (Value.int .i64 i)), (5, (Value.int .i64 j4i5)), (6, (Value.int .i64 j4i6))])) (fun i => kk8 i = some r) ?_ ?_
          · rintro j7i4 h
            have h : kk8 j7i4 = some r := h
            rw [hkk8] at h
            dsimp only at h
            clear hkk8
            refine aw_show (m := (memOf w0 Z0 [] [] [])) (S := (tab [(4, (Value.int .i64 j7i4)), (5, (Value.int .i64 j4i5)), (6, (Value.int .i64 j4i6))])) ?_
            refine aw_seq ?_
            obtain ⟨kk10, hkk10, h⟩ := lt_some h
            refine aw_seq_join (ι := Bool) (fun i => (memOf w0 Z0 [] [] [])) (fun i => (tab [(4, (Value.int .i64 j7i4)), (5, (Value.int .i64 j4i5)), (84, (Value.bool i))])) (fun i => kk10 i = some r) ?_ ?_
            · rintro j9b84 h
              have h : kk10 j9b84 = some r := h
              rw [hkk10] at h
              dsimp only at h
              clear hkk10
              refine aw_show (m := (memOf w0 Z0 [] [] [])) (S := (tab [(4, (Value.int .i64 j7i4)), (5, (Value.int .i64 j4i5)), (84, (Value.bool j9b84))])) ?_
              refine aw_cond rfl (fun hb11 => ?_) (fun hb11 => ?_)
              · replace h := bif_t hb11 h
                refine aw_seq ?_
                refine aw_region ?_
                refine al_val (ov_assign rfl rfl) ?_
                refine al_val (ov_assign rfl rfl) ?_
                refine al_nil ?_
                refine aq_then ?_
                refine aw_ret ?_
                refine aq_then_ret ?_
                obtain rfl := Option.some.inj h
                exact fn_ret () [] [] rfl rfl rfl rfl (res2 rfl rfl rfl) rfl rfl rfl (by decide)
              · replace h := bif_f hb11 h
                refine aw_skip ?_
                refine aq_then ?_
                refine aw_seq ?_
                refine aw_region ?_
                refine al_val (ov_move rfl rfl) ?_
                refine al_val (ov_move rfl rfl) ?_
                refine al_val (ov_assign rfl rfl) ?_
                refine al_val (ov_assign rfl rfl) ?_
                refine al_nil ?_
                refine aq_then ?_
                refine aw_ret ?_
                obtain rfl := Option.some.inj h
                exact fn_ret () [] [] rfl rfl rfl rfl (res2 rfl rfl rfl) rfl rfl rfl (by decide)
            · clear hkk10
              refine aw_region ?_
              refine al_val (ov_move rfl rfl) ?_
              refine al_val (ov_move rfl rfl) ?_
              refine al_val (ov_int rfl rfl rfl rfl) ?_
              refine al_val (ov_move rfl rfl) ?_
              refine al_caseB 73 rfl (fun hb12 => ?_) (fun hb12 => ?_)
              · replace h := bif_t hb12 h
                refine al_skip ?_
                refine al_skip ?_
                refine al_val (ov_pick_t rfl rfl rfl) ?_
                refine al_val (ov_move rfl rfl) ?_
                refine al_skip ?_
                refine al_skip ?_
                refine al_skip ?_
                refine al_skip ?_
                refine al_skip ?_
                refine al_skip ?_
                refine al_val (ov_pick_t rfl rfl rfl) ?_
                refine al_nil ?_
                exact aq_join true h (fun w a hm hs => norm hm hs [] [] [(4, (Value.int .i64 j7i4)), (5, (Value.int .i64 j4i5)), (84, (Value.bool true))] (by decide) ⟨rfl, rfl, rfl, trivial⟩)
              · replace h := bif_f hb12 h
                refine al_val (ov_move rfl rfl) ?_
                refine al_val (ov_int rfl rfl rfl rfl) ?_
                refine al_val (ov_pick_f rfl rfl rfl) ?_
                refine al_val (ov_move rfl rfl) ?_
                refine al_caseB 77 rfl (fun hb13 => ?_) (fun hb13 => ?_)
                · replace h := bif_t hb13 h
                  refine al_skip ?_
                  refine al_skip ?_
                  refine al_skip ?_
                  refine al_skip ?_
                  refine al_skip ?_
                  refine al_skip ?_
                  refine al_val (ov_pick_t rfl rfl rfl) ?_
                  refine al_nil ?_
                  exact aq_join true h (fun w a hm hs => norm hm hs [] [] [(4, (Value.int .i64 j7i4)), (5, (Value.int .i64 j4i5)), (84, (Value.bool true))] (by decide) ⟨rfl, rfl, rfl, trivial⟩)
                · replace h := bif_f hb13 h
                  refine al_val (ov_move rfl rfl) ?_
                  refine al_val (ov_int rfl rfl rfl rfl) ?_
                  refine al_val (ov_move rfl rfl) ?_
                  refine al_caseB 80 rfl (fun hb14 => ?_) (fun hb14 => ?_)
                  · replace h := bif_t hb14 h
                    refine al_val (ov_move rfl rfl) ?_
                    refine al_val (ov_int rfl rfl rfl rfl) ?_
                    refine al_val (ov_pick_t rfl rfl rfl) ?_
                    refine al_val (ov_pick_f rfl rfl rfl) ?_
                    refine al_nil ?_
                    exact aq_join (decide (j7i4 < (57344 : Int))) h (fun w a hm hs => norm hm hs [] [] [(4, (Value.int .i64 j7i4)), (5, (Value.int .i64 j4i5)), (84, (Value.bool (decide (j7i4 < (57344 : Int)))))] (by decide) ⟨rfl, rfl, rfl, trivial⟩)
                  · replace h := bif_f hb14 h
                    refine al_skip ?_
                    refine al_skip ?_
                    refine al_val (ov_pick_f rfl rfl rfl) ?_
                    refine al_val (ov_pick_f rfl rfl rfl) ?_
                    refine al_nil ?_
                    exact aq_join false h (fun w a hm hs => norm hm hs [] [] [(4, (Value.int .i64 j7i4)), (5, (Value.int .i64 j4i5)), (84, (Value.bool false))] (by decide) ⟨rfl, rfl, rfl, trivial⟩)
          · clear hkk8
            refine aw_seq ?_
            refine aw_region ?_
            refine al_val (ov_move rfl rfl) ?_
            refine al_val (ov_move rfl rfl) ?_
            obtain ⟨hc15, h⟩ := req_some h
            refine al_val (ov_strCut hc15.1 hc15.2.1 hc15.2.2 Tryd.underlying9 rfl rfl rfl rfl) ?_
            obtain ⟨hc16, h⟩ := req_some h
            refine al_bytes hc16 rfl Tryd.underlying9 Tryd.underlying70 Tryd.underlying5 rfl (fun s17 => ?_)
            refine al_val (ov_lenD 0 rfl rfl Tryd.underlying70 rfl) ?_
            refine al_val (ov_move rfl rfl) ?_
            refine al_nil ?_
            refine aq_then ?_
            refine aw_block ?_
            refine aw_state (aw_loop (ι := Int × Int) (fun i => (memOf w0 Z0 [] [] [(fDat (tyList tyU8) [s17] (cut a0 (1 : Int) j4i5))])) (fun i => (tab [(4, (Value.int .i64 i.1)), (5, (Value.int .i64 j4i5)), (6, (Value.int .i64 j4i6)), (51, s17), (52, (Value.int .i64 ((cut a0 (1 : Int) j4i5).length : Int))), (53, (Value.int .i64 i.2))])) (fun q i => f_lumref_char_L20 a0 j4i5 kk8 q i.1 i.2 = some r) ?_ fu (j4i4, (0 : Int)) h) (fun w a hm hs => norm hm hs [] [0] [(4, (Value.int .i64 j4i4)), (5, (Value.int .i64 j4i5)), (6, (Value.int .i64 j4i6)), (51, s17), (52, (Value.int .i64 ((cut a0 (1 : Int) j4i5).length : Int))), (53, (Value.int .i64 (0 : Int)))] (by decide) ⟨rfl, rfl, rfl, rfl, rfl, rfl, trivial⟩)
            clear h
            rintro k19 ⟨l18i4, l18i53⟩ h
            have h : f_lumref_char_L20 a0 j4i5 kk8 k19 l18i4 l18i53 = some r := h
            obtain _ | k19 := k19
            · rw [f_lumref_char_L20] at h; cases h
            rw [f_lumref_char_L20] at h
            refine aw_show (m := (memOf w0 Z0 [] [] [(fDat (tyList tyU8) [s17] (cut a0 (1 : Int) j4i5))])) (S := (tab [(4, (Value.int .i64 l18i4)), (5, (Value.int .i64 j4i5)), (6, (Value.int .i64 j4i6)), (51, s17), (52, (Value.int .i64 ((cut a0 (1 : Int) j4i5).length : Int))), (53, (Value.int .i64 l18i53))])) ?_
            refine aw_seq ?_
            refine aw_region ?_
            refine al_val (ov_int rfl rfl rfl rfl) ?_
            refine al_nil ?_
            refine aq_then ?_
            refine aw_seq ?_
            refine aw_cond rfl (fun hb21 => ?_) (fun hb21 => ?_)
            · replace h := bif_t hb21 h
              refine aw_skip ?_
              refine aq_then ?_
              refine aw_seq ?_
              refine aw_block ?_
              refine aw_seq ?_
              refine aw_region ?_
              obtain ⟨u22, hu23, h⟩ := opt_some h
              refine al_idxD 0 hu23 rfl rfl rfl Tryd.underlying70 sz5 rfl (fun p24 => ?_)
              refine al_val (ov_loadP (ds := [(Value.int .u8 (u22.toNat : Int))]) 0 rfl (fun h => h) rfl Tryd.underlying5 sz5 rfl rfl rfl) ?_
              refine al_val (ov_assign rfl rfl) ?_
              refine al_nil ?_
              refine aq_then ?_
              refine aw_seq ?_
              obtain ⟨kk26, hkk26, h⟩ := lt_some h
              refine aw_seq_join (ι := Bool) (fun i => (memOf w0 Z0 [] [] [(fDat (tyList tyU8) [s17] (cut a0 (1 : Int) j4i5)), (fPtr tyU8 p24 u22)])) (fun i => (tab [(4, (Value.int .i64 l18i4)), (5, (Value.int .i64 j4i5)), (6, (Value.int .i64 j4i6)), (8, (Value.int .u8 (u22.toNat : Int))), (51, s17), (52, (Value.int .i64 ((cut a0 (1 : Int) j4i5).length : Int))), (53, (Value.int .i64 l18i53)), (62, (Value.bool i))])) (fun i => kk26 i = some r) ?_ ?_
              · rintro j25b62 h
                have h : kk26 j25b62 = some r := h
                rw [hkk26] at h
                dsimp only at h
                clear hkk26
                refine aw_show (m := (memOf w0 Z0 [] [] [(fDat (tyList tyU8) [s17] (cut a0 (1 : Int) j4i5)), (fPtr tyU8 p24 u22)])) (S := (tab [(4, (Value.int .i64 l18i4)), (5, (Value.int .i64 j4i5)), (6, (Value.int .i64 j4i6)), (8, (Value.int .u8 (u22.toNat : Int))), (51, s17), (52, (Value.int .i64 ((cut a0 (1 : Int) j4i5).length : Int))), (53, (Value.int .i64 l18i53)), (62, (Value.bool j25b62))])) ?_
                refine aw_cond rfl (fun hb27 => ?_) (fun hb27 => ?_)
                · replace h := bif_t hb27 h
                  refine aw_seq ?_
                  refine aw_region ?_
                  refine al_val (ov_assign rfl rfl) ?_
                  refine al_val (ov_assign rfl rfl) ?_
                  refine al_nil ?_
                  refine aq_then ?_
                  refine aw_ret ?_
                  refine aq_then_ret ?_
                  refine aq_block_ret ?_
                  refine aq_then_ret ?_
                  refine aq_then_ret ?_
                  refine aq_block_ret ?_
                  refine aq_then_ret ?_
                  obtain rfl := Option.some.inj h
                  exact fn_ret () [] [] rfl rfl rfl rfl (res2 rfl rfl rfl) rfl rfl rfl (by decide)
                · replace h := bif_f hb27 h
                  refine aw_skip ?_
                  refine aq_then ?_
                  refine aw_region ?_
                  refine al_val (ov_move rfl rfl) ?_
                  refine al_val (ov_int rfl rfl rfl rfl) ?_
                  refine al_val (ov_move rfl rfl) ?_
                  refine al_val (ov_convInt (by rw [Tryd.underlying5]; rfl) Tryd.underlying3 rfl rfl) ?_
                  refine al_val (ov_int rfl rfl rfl rfl) ?_
                  refine al_val (ov_int rfl rfl rfl rfl) ?_
                  refine al_val (ov_assign rfl rfl) ?_
                  refine al_nil ?_
                  refine aq_block ?_
                  refine aq_then ?_
                  refine aw_region ?_
                  refine al_val (ov_int rfl rfl rfl rfl) ?_
                  refine al_val (ov_move rfl rfl) ?_
                  refine al_nil ?_
                  exact aq_again k19 ((IntKind.i64.wrap ((IntKind.i64.wrap ((IntKind.i64.wrap ((64 : Int) * l18i4)) + (IntKind.i64.wrap (u22.toNat : Int)))) - (128 : Int))), (IntKind.i64.wrap (l18i53 + (1 : Int)))) (Nat.lt_succ_self _) h (fun w a hm hs => norm hm hs [] [0] [(4, (Value.int .i64 (IntKind.i64.wrap ((IntKind.i64.wrap ((IntKind.i64.wrap ((64 : Int) * l18i4)) + (IntKind.i64.wrap (u22.toNat : Int)))) - (128 : Int))))), (5, (Value.int .i64 j4i5)), (6, (Value.int .i64 j4i6)), (51, s17), (52, (Value.int .i64 ((cut a0 (1 : Int) j4i5).length : Int))), (53, (Value.int .i64 (IntKind.i64.wrap (l18i53 + (1 : Int)))))] (by decide) ⟨rfl, rfl, rfl, rfl, rfl, rfl, trivial⟩)
              · clear hkk26
                refine aw_region ?_
                refine al_val (ov_move rfl rfl) ?_
                refine al_val (ov_int rfl rfl rfl rfl) ?_
                refine al_val (ov_move rfl rfl) ?_
                refine al_caseB 59 rfl (fun hb28 => ?_) (fun hb28 => ?_)
                · replace h := bif_t hb28 h
                  refine al_skip ?_
                  refine al_skip ?_
                  refine al_val (ov_pick_t rfl rfl rfl) ?_
                  refine al_nil ?_
                  exact aq_join true h (fun w a hm hs => norm hm hs [] [1, 0] [(4, (Value.int .i64 l18i4)), (5, (Value.int .i64 j4i5)), (6, (Value.int .i64 j4i6)), (8, (Value.int .u8 (u22.toNat : Int))), (51, s17), (52, (Value.int .i64 ((cut a0 (1 : Int) j4i5).length : Int))), (53, (Value.int .i64 l18i53)), (62, (Value.bool true))] (by decide) ⟨rfl, rfl, rfl, rfl, rfl, rfl, rfl, rfl, trivial⟩)
                · replace h := bif_f hb28 h
                  refine al_val (ov_move rfl rfl) ?_
                  refine al_val (ov_int rfl rfl rfl rfl) ?_
                  refine al_val (ov_pick_f rfl rfl rfl) ?_
                  refine al_nil ?_
                  exact aq_join (decide ((u22.toNat : Int) > (191 : Int))) h (fun w a hm hs => norm hm hs [] [1, 0] [(4, (Value.int .i64 l18i4)), (5, (Value.int .i64 j4i5)), (6, (Value.int .i64 j4i6)), (8, (Value.int .u8 (u22.toNat : Int))), (51, s17), (52, (Value.int .i64 ((cut a0 (1 : Int) j4i5).length : Int))), (53, (Value.int .i64 l18i53)), (62, (Value.bool (decide ((u22.toNat : Int) > (191 : Int)))))] (by decide) ⟨rfl, rfl, rfl, rfl, rfl, rfl, rfl, rfl, trivial⟩)
            · replace h := bif_f hb21 h
              refine aw_exit ?_
              refine aq_then_exit ?_
              refine aq_then_exit ?_
              refine aq_block_exit ?_
              exact aq_join l18i4 h (fun w a hm hs => norm hm hs [] [] [(4, (Value.int .i64 l18i4)), (5, (Value.int .i64 j4i5)), (6, (Value.int .i64 j4i6))] (by decide) ⟨rfl, rfl, rfl, trivial⟩)
      · clear hkk5
        refine aw_block ?_
        obtain ⟨kk30, hkk30, h⟩ := lt_some h
        refine aw_seq_join (ι := Bool) (fun i => (memOf w0 Z0 [] [] [])) (fun i => (tab [(0, (str a0)), (4, (Value.int .i64 (IntKind.i64.wrap (En.bAt a0 (0 : Int))))), (17, (Value.bool i))])) (fun i => kk30 i = some r) ?_ ?_
        · rintro j29b17 h
          have h : kk30 j29b17 = some r := h
          rw [hkk30] at h
          dsimp only at h
          clear hkk30
          refine aw_show (m := (memOf w0 Z0 [] [] [])) (S := (tab [(0, (str a0)), (4, (Value.int .i64 (IntKind.i64.wrap (En.bAt a0 (0 : Int))))), (17, (Value.bool j29b17))])) ?_
          refine aw_cond rfl (fun hb31 => ?_) (fun hb31 => ?_)
          · replace h := bif_t hb31 h
            refine aw_region ?_
            refine al_val (ov_move rfl rfl) ?_
            refine al_val (ov_int rfl rfl rfl rfl) ?_
            refine al_val (ov_assign rfl rfl) ?_
            refine al_val (ov_assign rfl rfl) ?_
            refine al_val (ov_assign rfl rfl) ?_
            refine al_nil ?_
            refine aq_block ?_
            exact aq_join ((IntKind.i64.wrap ((IntKind.i64.wrap (En.bAt a0 (0 : Int))) - (192 : Int))), (2 : Int), (128 : Int)) h (fun w a hm hs => norm hm hs [] [] [(0, (str a0)), (4, (Value.int .i64 (IntKind.i64.wrap ((IntKind.i64.wrap (En.bAt a0 (0 : Int))) - (192 : Int))))), (5, (Value.int .i64 (2 : Int))), (6, (Value.int .i64 (128 : Int)))] (by decide) ⟨rfl, rfl, rfl, rfl, trivial⟩)
          · replace h := bif_f hb31 h
            obtain ⟨kk33, hkk33, h⟩ := lt_some h
            refine aw_seq_join (ι := Bool) (fun i => (memOf w0 Z0 [] [] [])) (fun i => (tab [(0, (str a0)), (4, (Value.int .i64 (IntKind.i64.wrap (En.bAt a0 (0 : Int))))), (26, (Value.bool i))])) (fun i => kk33 i = some r) ?_ ?_
            · rintro j32b26 h
              have h : kk33 j32b26 = some r := h
              rw [hkk33] at h
              dsimp only at h
              clear hkk33
              refine aw_show (m := (memOf w0 Z0 [] [] [])) (S := (tab [(0, (str a0)), (4, (Value.int .i64 (IntKind.i64.wrap (En.bAt a0 (0 : Int))))), (26, (Value.bool j32b26))])) ?_
              refine aw_cond rfl (fun hb34 => ?_) (fun hb34 => ?_)
              · replace h := bif_t hb34 h
                refine aw_region ?_
                refine al_val (ov_move rfl rfl) ?_
                refine al_val (ov_int rfl rfl rfl rfl) ?_
                refine al_val (ov_assign rfl rfl) ?_
                refine al_val (ov_assign rfl rfl) ?_
                refine al_val (ov_assign rfl rfl) ?_
                refine al_nil ?_
                refine aq_block ?_
                exact aq_join ((IntKind.i64.wrap ((IntKind.i64.wrap (En.bAt a0 (0 : Int))) - (224 : Int))), (3 : Int), (2048 : Int)) h (fun w a hm hs => norm hm hs [] [] [(0, (str a0)), (4, (Value.int .i64 (IntKind.i64.wrap ((IntKind.i64.wrap (En.bAt a0 (0 : Int))) - (224 : Int))))), (5, (Value.int .i64 (3 : Int))), (6, (Value.int .i64 (2048 : Int)))] (by decide) ⟨rfl, rfl, rfl, rfl, trivial⟩)
              · replace h := bif_f hb34 h
                obtain ⟨kk36, hkk36, h⟩ := lt_some h
                refine aw_seq_join (ι := Bool) (fun i => (memOf w0 Z0 [] [] [])) (fun i => (tab [(0, (str a0)), (4, (Value.int .i64 (IntKind.i64.wrap (En.bAt a0 (0 : Int))))), (35, (Value.bool i))])) (fun i => kk36 i = some r) ?_ ?_
                · rintro j35b35 h
                  have h : kk36 j35b35 = some r := h
                  rw [hkk36] at h
                  dsimp only at h
                  clear hkk36
                  refine aw_show (m := (memOf w0 Z0 [] [] [])) (S := (tab [(0, (str a0)), (4, (Value.int .i64 (IntKind.i64.wrap (En.bAt a0 (0 : Int))))), (35, (Value.bool j35b35))])) ?_
                  refine aw_cond rfl (fun hb37 => ?_) (fun hb37 => ?_)
                  · replace h := bif_t hb37 h
                    refine aw_region ?_
                    refine al_val (ov_move rfl rfl) ?_
                    refine al_val (ov_int rfl rfl rfl rfl) ?_
                    refine al_val (ov_assign rfl rfl) ?_
                    refine al_val (ov_assign rfl rfl) ?_
                    refine al_val (ov_assign rfl rfl) ?_
                    refine al_nil ?_
                    refine aq_block ?_
                    exact aq_join ((IntKind.i64.wrap ((IntKind.i64.wrap (En.bAt a0 (0 : Int))) - (240 : Int))), (4 : Int), (65536 : Int)) h (fun w a hm hs => norm hm hs [] [] [(0, (str a0)), (4, (Value.int .i64 (IntKind.i64.wrap ((IntKind.i64.wrap (En.bAt a0 (0 : Int))) - (240 : Int))))), (5, (Value.int .i64 (4 : Int))), (6, (Value.int .i64 (65536 : Int)))] (by decide) ⟨rfl, rfl, rfl, rfl, trivial⟩)
                  · replace h := bif_f hb37 h
                    refine aw_seq ?_
                    refine aw_region ?_
                    refine al_val (ov_assign rfl rfl) ?_
                    refine al_val (ov_assign rfl rfl) ?_
                    refine al_nil ?_
                    refine aq_then ?_
                    refine aw_ret ?_
                    refine aq_block_ret ?_
                    refine aq_then_ret ?_
                    obtain rfl := Option.some.inj h
                    exact fn_ret () [] [] rfl rfl rfl rfl (res2 rfl rfl rfl) rfl rfl rfl (by decide)
                · clear hkk36
                  refine aw_region ?_
                  refine al_val (ov_move rfl rfl) ?_
                  refine al_val (ov_int rfl rfl rfl rfl) ?_
                  refine al_val (ov_move rfl rfl) ?_
                  refine al_caseB 38 rfl (fun hb38 => ?_) (fun hb38 => ?_)
                  · replace h := bif_t hb38 h
                    refine al_val (ov_move rfl rfl) ?_
                    refine al_val (ov_int rfl rfl rfl rfl) ?_
                    refine al_val (ov_pick_t rfl rfl rfl) ?_
                    refine al_val (ov_assign rfl rfl) ?_
                    refine al_nil ?_
                    exact aq_join (decide ((IntKind.i64.wrap (En.bAt a0 (0 : Int))) < (245 : Int))) h (fun w a hm hs => norm hm hs [] [] [(0, (str a0)), (4, (Value.int .i64 (IntKind.i64.wrap (En.bAt a0 (0 : Int))))), (35, (Value.bool (decide ((IntKind.i64.wrap (En.bAt a0 (0 : Int))) < (245 : Int)))))] (by decide) ⟨rfl, rfl, rfl, trivial⟩)
                  · replace h := bif_f hb38 h
                    refine al_skip ?_
                    refine al_skip ?_
                    refine al_val (ov_pick_f rfl rfl rfl) ?_
                    refine al_val (ov_assign rfl rfl) ?_
                    refine al_nil ?_
                    exact aq_join false h (fun w a hm hs => norm hm hs [] [] [(0, (str a0)), (4, (Value.int .i64 (IntKind.i64.wrap (En.bAt a0 (0 : Int))))), (35, (Value.bool false))] (by decide) ⟨rfl, rfl, rfl, trivial⟩)
            · clear hkk33
              refine aw_region ?_
              refine al_val (ov_move rfl rfl) ?_
              refine al_val (ov_int rfl rfl rfl rfl) ?_
              refine al_val (ov_move rfl rfl) ?_
              refine al_caseB 29 rfl (fun hb39 => ?_) (fun hb39 => ?_)
              · replace h := bif_t hb39 h
                refine al_val (ov_move rfl rfl) ?_
                refine al_val (ov_int rfl rfl rfl rfl) ?_
                refine al_val (ov_pick_t rfl rfl rfl) ?_
                refine al_val (ov_assign rfl rfl) ?_
                refine al_nil ?_
                exact aq_join (decide ((IntKind.i64.wrap (En.bAt a0 (0 : Int))) < (240 : Int))) h (fun w a hm hs => norm hm hs [] [] [(0, (str a0)), (4, (Value.int .i64 (IntKind.i64.wrap (En.bAt a0 (0 : Int))))), (26, (Value.bool (decide ((IntKind.i64.wrap (En.bAt a0 (0 : Int))) < (240 : Int)))))] (by decide) ⟨rfl, rfl, rfl, trivial⟩)
              · replace h := bif_f hb39 h
                refine al_skip ?_
                refine al_skip ?_
                refine al_val (ov_pick_f rfl rfl rfl) ?_
                refine al_val (ov_assign rfl rfl) ?_
                refine al_nil ?_
                exact aq_join false h (fun w a hm hs => norm hm hs [] [] [(0, (str a0)), (4, (Value.int .i64 (IntKind.i64.wrap (En.bAt a0 (0 : Int))))), (26, (Value.bool false))] (by decide) ⟨rfl, rfl, rfl, trivial⟩)
        · clear hkk30
          refine aw_region ?_
          refine al_val (ov_move rfl rfl) ?_
          refine al_val (ov_int rfl rfl rfl rfl) ?_
          refine al_val (ov_move rfl rfl) ?_
          refine al_caseB 20 rfl (fun hb40 => ?_) (fun hb40 => ?_)
          · replace h := bif_t hb40 h
            refine al_val (ov_move rfl rfl) ?_
            refine al_val (ov_int rfl rfl rfl rfl) ?_
            refine al_val (ov_pick_t rfl rfl rfl) ?_
            refine al_val (ov_assign rfl rfl) ?_
            refine al_nil ?_
            exact aq_join (decide ((IntKind.i64.wrap (En.bAt a0 (0 : Int))) < (224 : Int))) h (fun w a hm hs => norm hm hs [] [] [(0, (str a0)), (4, (Value.int .i64 (IntKind.i64.wrap (En.bAt a0 (0 : Int))))), (17, (Value.bool (decide ((IntKind.i64.wrap (En.bAt a0 (0 : Int))) < (224 : Int)))))] (by decide) ⟨rfl, rfl, rfl, trivial⟩)
          · replace h := bif_f hb40 h
            refine al_skip ?_
            refine al_skip ?_
            refine al_val (ov_pick_f rfl rfl rfl) ?_
            refine al_val (ov_assign rfl rfl) ?_
            refine al_nil ?_
            exact aq_join false h (fun w a hm hs => norm hm hs [] [] [(0, (str a0)), (4, (Value.int .i64 (IntKind.i64.wrap (En.bAt a0 (0 : Int))))), (17, (Value.bool false))] (by decide) ⟨rfl, rfl, rfl, trivial⟩)
def f_lumref_Chars_L5 (kk2 : ((List Int) → Option ((List Int) × Bool))) (fu : Nat) : Nat → (List UInt8) → (List Int) → Option ((List Int) × Bool)
  | 0, _, _ => none
  | k4 + 1, l3s0, l3x4 => (bif (!(l3s0 == ([] : List UInt8))) then (opt (f_lumref_char fu l3s0) fun (r8 : (Int × Int)) => (bif (r8.2 == (0 : Int)) then (some (([] : List Int), false)) else (req (((l3x4.length + ([r8.1]).length) * 8 : Nat) ≤ 140737488355328 ∧ l3x4.length + ([r8.1]).length ≤ 9223372036854775807) (req (0 ≤ r8.2 ∧ r8.2 ≤ (l3s0.length : Int)) (f_lumref_Chars_L5 kk2 fu k4 (l3s0.drop (r8.2).toNat) (l3x4 ++ ([r8.1]))))))) else (kk2 l3x4))
def f_lumref_Chars (fu : Nat) (a0 : (List UInt8)) : Option ((List Int) × Bool) := (lt (fun (j1x4 : (List Int)) => (some (j1x4, true))) fun (kk2 : (List Int) → Option ((List Int) × Bool)) => (f_lumref_Chars_L5 kk2 fu fu a0 ([] : List Int)))
set_option maxRecDepth 100000 in
theorem f_lumref_Chars_ok (fu : Nat) (a0 : (List UInt8)) {r : ((List Int) × Bool)} (h : f_lumref_Chars fu a0 = some r) : FnOk Tryd.prog 64 [(str a0)] [] [] (fun (i : Value) => { val := (Value.tuple #[i, (Value.bool r.2)]), own := [(oRow i 3 (tyInt .i64) r.1)] }) := by
  unfold f_lumref_Chars at h
  refine fn_enter Tryd.func64 rfl Tryd.ntmps64 rfl (fun w0 Z0 => ?_)
  refine aw_seq ?_
  refine aw_region ?_
  refine al_val (ov_assign rfl rfl) ?_
  refine al_val (ov_assign rfl rfl) ?_
  refine al_nil ?_
  refine aq_then ?_
  refine aw_seq ?_
  refine aw_region ?_
  refine al_val (ov_assign rfl rfl) ?_
  refine al_nil ?_
  refine aq_then ?_
  obtain ⟨kk2, hkk2, h⟩ := lt_some h
  refine aw_seq_join (ι := Value × (List Int)) (fun i => (memOf w0 Z0 [] [(oRow i.1 3 (tyInt .i64) i.2)] [])) (fun i => (tab [(4, i.1)])) (fun i => kk2 i.2 = some r) ?_ ?_
  · rintro ⟨j1v4, j1x4⟩ h
    have h : kk2 j1x4 = some r := h
    rw [hkk2] at h
    dsimp only at h
    clear hkk2
    refine aw_show (m := (memOf w0 Z0 [] [(oRow j1v4 3 (tyInt .i64) j1x4)] [])) (S := (tab [(4, j1v4)])) ?_
    refine aw_seq ?_
    refine aw_region ?_
    refine al_val (ov_move rfl rfl) ?_
    refine al_val (ov_assign rfl rfl) ?_
    refine al_val (ov_assign rfl rfl) ?_
    refine al_nil ?_
    refine aq_then ?_
    refine aw_ret ?_
    obtain rfl := Option.some.inj h
    exact fn_ret j1v4 [0] [] rfl rfl rfl rfl (res2 rfl rfl rfl) rfl rfl rfl (by decide)
  · clear hkk2
    refine aw_block ?_
    refine aw_nilR 3 (tyInt .i64) ?_
    refine aw_state (aw_loop (ι := (List UInt8) × Value × (List Int)) (fun i => (memOf w0 Z0 [] [(oRow i.2.1 3 (tyInt .i64) i.2.2)] [])) (fun i => (tab [(0, (str i.1)), (4, i.2.1)])) (fun q i => f_lumref_Chars_L5 kk2 fu q i.1 i.2.2 = some r) ?_ fu (a0, (Value.slice none 0 0), ([] : List Int)) h) (fun w a hm hs => norm hm hs [0] [] [(0, (str a0)), (4, (Value.slice none 0 0))] (by decide) ⟨rfl, rfl, trivial⟩)
    clear h
    rintro k4 ⟨l3s0, l3v4, l3x4⟩ h
    have h : f_lumref_Chars_L5 kk2 fu k4 l3s0 l3x4 = some r := h
    obtain _ | k4 := k4
    · rw [f_lumref_Chars_L5] at h; cases h
    rw [f_lumref_Chars_L5] at h
    refine aw_show (m := (memOf w0 Z0 [] [(oRow l3v4 3 (tyInt .i64) l3x4)] [])) (S := (tab [(0, (str l3s0)), (4, l3v4)])) ?_
    refine aw_seq ?_
    refine aw_seq ?_
    refine aw_region ?_
    refine al_val (ov_move rfl rfl) ?_
    refine al_val (ov_strCmp rfl rfl rfl rfl) ?_
    refine al_nil ?_
    refine aq_then ?_
    refine aw_cond rfl (fun hb6 => ?_) (fun hb6 => ?_)
    · replace h := bif_t hb6 h
      refine aw_skip ?_
      refine aq_then ?_
      refine aw_block ?_
      refine aw_seq ?_
      refine aw_region ?_
      refine al_val (ov_move rfl rfl) ?_
      obtain ⟨r8, hc7, h⟩ := opt_some h
      refine al_call (vs := [(str l3s0)]) (f_lumref_char_ok fu l3s0 hc7) [] [] [0] pre_nil rfl (by simp) (by decide) (.inl rfl) rfl Tryd.func87 rfl rfl rfl (fun _ => ?_)
      refine al_val (ov_move rfl rfl) ?_
      refine al_val (ov_extract rfl rfl rfl) ?_
      refine al_val (ov_extract rfl rfl rfl) ?_
      refine al_val (ov_assign rfl rfl) ?_
      refine al_val (ov_assign rfl rfl) ?_
      refine al_nil ?_
      refine aq_then ?_
      refine aw_seq ?_
      refine aw_seq ?_
      refine aw_region ?_
      refine al_val (ov_move rfl rfl) ?_
      refine al_val (ov_int rfl rfl rfl rfl) ?_
      refine al_nil ?_
      refine aq_then ?_
      refine aw_cond rfl (fun hb9 => ?_) (fun hb9 => ?_)
      · replace h := bif_t hb9 h
        refine aw_seq ?_
        refine aw_region ?_
        refine al_val (ov_assign rfl rfl) ?_
        refine al_val (ov_assign rfl rfl) ?_
        refine al_nil ?_
        refine aq_then ?_
        refine aw_ret ?_
        refine aq_then_ret ?_
        refine aq_block_ret ?_
        refine aq_then_ret ?_
        refine aq_block_ret ?_
        refine aq_then_ret ?_
        refine aq_nilR 3 (tyInt .i64) ?_
        obtain rfl := Option.some.inj h
        exact fn_ret (Value.slice none 0 0) [0] [] rfl rfl rfl rfl (res2 rfl rfl rfl) rfl rfl rfl (by decide)
      · replace h := bif_f hb9 h
        refine aw_skip ?_
        refine aq_then ?_
        refine aw_seq ?_
        refine aw_region ?_
        refine al_val (ov_move rfl rfl) ?_
        refine al_val (ov_move rfl rfl) ?_
        refine al_buildSlice (τ := (tyInt .i64)) (e := 3) (k := 1) (sz := 0) (by_ := 0) (z := undef) (cs := [(Value.int .i64 r8.1)]) (xs := [r8.1]) rfl (by decide) (fun w a hm hs => ⟨([(Value.int .i64 r8.1)]).toArray, rfl, by simp only [List.map_toArray, List.map_cons, List.map_nil, hs.ev (x := .tmp 17) rfl]; exact run_bs [(Value.int .i64 r8.1)] [(Value.int .i64 r8.1)] Tryd.underlying93 to3 rfl rfl (bs_cons (l := [(Value.int .i64 r8.1)]) (cs := []) (cv_rfl rfl) rfl bs_nil) hm⟩) (fun hm => ⟨_, _, rfl, (fun _ => rfl) hm, rfl⟩) rfl (fun v10 => ?_)
        obtain ⟨hc11, h⟩ := req_some h
        refine al_append 1 hc11.1 hc11.2 rfl (src_own (i := 1) 0 rfl) rfl rfl Tryd.underlying93 to3 rfl rfl rfl (fun v12 => ?_)
        refine al_val (ov_assign rfl rfl) ?_
        refine al_nil ?_
        refine aq_then ?_
        refine aw_region ?_
        refine al_val (ov_move rfl rfl) ?_
        refine al_val (ov_move rfl rfl) ?_
        obtain ⟨hc13, h⟩ := req_some h
        refine al_val (ov_strFrom hc13.1 hc13.2 Tryd.underlying9 rfl rfl rfl) ?_
        refine al_val (ov_assign rfl rfl) ?_
        refine al_nil ?_
        refine aq_block ?_
        exact aq_again k4 ((l3s0.drop (r8.2).toNat), v12, (l3x4 ++ ([r8.1]))) (Nat.lt_succ_self _) h (fun w a hm hs => norm hm hs [1] [] [(0, (str (l3s0.drop (r8.2).toNat))), (4, v12)] (by decide) ⟨rfl, rfl, trivial⟩)
    · replace h := bif_f hb6 h
      refine aw_exit ?_
      refine aq_then_exit ?_
      refine aq_then_exit ?_
      refine aq_block_exit ?_
      exact aq_join (l3v4, l3x4) h (fun w a hm hs => norm hm hs [0] [] [(4, l3v4)] (by decide) ⟨rfl, trivial⟩)
def f_lumref_Name_L12 (r2 : ((List Int) × Bool)) (kk8 : (Unit → Option Int)) : Nat → Int → Option Int
  | 0, _ => none
  | k11 + 1, l10i29 => (bif (decide (l10i29 < (r2.1.length : Int))) then (opt (at? r2.1 l10i29) fun (u14 : Int) => (lt (fun (j18b42 : Bool) => (bif j18b42 then (some (8 : Int)) else (f_lumref_Name_L12 r2 kk8 k11 (IntKind.i64.wrap (l10i29 + (1 : Int)))))) fun (kk19 : Bool → Option Int) => (bif (u14 == (47 : Int)) then (kk19 true) else (bif (decide (u14 < (32 : Int))) then (kk19 true) else (kk19 (u14 == (127 : Int))))))) else (kk8 ()))
def f_lumref_Name (fu : Nat) (a0 : (List UInt8)) : Option Int := (opt (f_lumref_Chars fu a0) fun (r2 : ((List Int) × Bool)) => (lt (fun (j4b26 : Bool) => (bif j4b26 then (some (8 : Int)) else (lt (fun (_ : Unit) => (bif (decide ((r2.1.length : Int) > (24 : Int))) then (some (2 : Int)) else (some (0 : Int)))) fun (kk8 : Unit → Option Int) => (f_lumref_Name_L12 r2 kk8 fu (0 : Int))))) fun (kk5 : Bool → Option Int) => (bif (!r2.2) then (kk5 true) else (bif ((r2.1.length : Int) == (0 : Int)) then (kk5 true) else (bif (a0 == ([46] : List UInt8)) then (kk5 true) else (kk5 (a0 == ([46, 46] : List UInt8))))))))
set_option maxRecDepth 100000 in
theorem f_lumref_Name_ok (fu : Nat) (a0 : (List UInt8)) {r : Int} (h : f_lumref_Name fu a0 = some r) : FnOk Tryd.prog 43 [(str a0)] [] [] (fun (i : Unit) => { val := (Value.int .i64 r) }) := by
  unfold f_lumref_Name at h
  refine fn_enter Tryd.func43 rfl Tryd.ntmps43 rfl (fun w0 Z0 => ?_)
  refine aw_seq ?_
  refine aw_region ?_
  refine al_val (ov_assign rfl rfl) ?_
  refine al_nil ?_
  refine aq_then ?_
  refine aw_seq ?_
  refine aw_region ?_
  refine al_val (ov_move rfl rfl) ?_
  obtain ⟨r2, hc1, h⟩ := opt_some h
  refine al_call (vs := [(str a0)]) (f_lumref_Chars_ok fu a0 hc1) [] [] [] pre_nil rfl (by simp) (by decide) (.inl rfl) rfl Tryd.func64 rfl rfl rfl (fun v3 => ?_)
  refine al_val (ov_move rfl rfl) ?_
  refine al_val (ov_extract rfl rfl rfl) ?_
  refine al_val (ov_extract rfl rfl rfl) ?_
  refine al_val (ov_assign rfl rfl) ?_
  refine al_val (ov_assign rfl rfl) ?_
  refine al_nil ?_
  refine aq_then ?_
  refine aw_seq ?_
  obtain ⟨kk5, hkk5, h⟩ := lt_some h
  refine aw_seq_join (ι := Bool) (fun i => (memOf w0 Z0 [] [(oRow v3 3 (tyInt .i64) r2.1)] [])) (fun i => (tab [(3, v3), (26, (Value.bool i))])) (fun i => kk5 i = some r) ?_ ?_
  · rintro j4b26 h
    have h : kk5 j4b26 = some r := h
    rw [hkk5] at h
    dsimp only at h
    clear hkk5
    refine aw_show (m := (memOf w0 Z0 [] [(oRow v3 3 (tyInt .i64) r2.1)] [])) (S := (tab [(3, v3), (26, (Value.bool j4b26))])) ?_
    refine aw_cond rfl (fun hb6 => ?_) (fun hb6 => ?_)
    · replace h := bif_t hb6 h
      refine aw_seq ?_
      refine aw_region ?_
      refine al_val (ov_assign rfl rfl) ?_
      refine al_nil ?_
      refine aq_then ?_
      refine aw_ret ?_
      refine aq_then_ret ?_
      obtain rfl := Option.some.inj h
      exact fn_ret () [] [] rfl rfl rfl rfl (res1 rfl rfl) rfl rfl rfl (by decide)
    · replace h := bif_f hb6 h
      refine aw_skip ?_
      refine aq_then ?_
      obtain ⟨kk8, hkk8, h⟩ := lt_some h
      refine aw_seq_join (ι := Unit) (fun i => (memOf w0 Z0 [] [(oRow v3 3 (tyInt .i64) r2.1)] [])) (fun i => (tab [(3, v3)])) (fun i => kk8 () = some r) ?_ ?_
      · rintro _ h
        have h : kk8 () = some r := h
        rw [hkk8] at h
        dsimp only at h
        clear hkk8
        refine aw_show (m := (memOf w0 Z0 [] [(oRow v3 3 (tyInt .i64) r2.1)] [])) (S := (tab [(3, v3)])) ?_
        refine aw_seq ?_
        refine aw_seq ?_
        refine aw_region ?_
        refine al_val (ov_move rfl rfl) ?_
        refine al_val (ov_lenR 0 rfl rfl Tryd.underlying93 rfl) ?_
        refine al_val (ov_int rfl rfl rfl rfl) ?_
        refine al_nil ?_
        refine aq_then ?_
        refine aw_cond rfl (fun hb9 => ?_) (fun hb9 => ?_)
        · replace h := bif_t hb9 h
          refine aw_seq ?_
          refine aw_region ?_
          refine al_val (ov_assign rfl rfl) ?_
          refine al_nil ?_
          refine aq_then ?_
          refine aw_ret ?_
          refine aq_then_ret ?_
          obtain rfl := Option.some.inj h
          exact fn_ret () [] [] rfl rfl rfl rfl (res1 rfl rfl) rfl rfl rfl (by decide)
        · replace h := bif_f hb9 h
          refine aw_skip ?_
          refine aq_then ?_
          refine aw_seq ?_
          refine aw_region ?_
          refine al_val (ov_assign rfl rfl) ?_
          refine al_nil ?_
          refine aq_then ?_
          refine aw_ret ?_
          obtain rfl := Option.some.inj h
          exact fn_ret () [] [] rfl rfl rfl rfl (res1 rfl rfl) rfl rfl rfl (by decide)
      · clear hkk8
        refine aw_seq ?_
        refine aw_region ?_
        refine al_val (ov_move rfl rfl) ?_
        refine al_val (ov_lenR 0 rfl rfl Tryd.underlying93 rfl) ?_
        refine al_val (ov_move rfl rfl) ?_
        refine al_nil ?_
        refine aq_then ?_
        refine aw_block ?_
        refine aw_state (aw_loop (ι := Int) (fun i => (memOf w0 Z0 [] [(oRow v3 3 (tyInt .i64) r2.1)] [])) (fun i => (tab [(3, v3), (27, v3), (28, (Value.int .i64 (r2.1.length : Int))), (29, (Value.int .i64 i))])) (fun q i => f_lumref_Name_L12 r2 kk8 q i = some r) ?_ fu (0 : Int) h) (fun w a hm hs => norm hm hs [0] [] [(3, v3), (27, v3), (28, (Value.int .i64 (r2.1.length : Int))), (29, (Value.int .i64 (0 : Int)))] (by decide) ⟨rfl, rfl, rfl, rfl, trivial⟩)
        clear h
        rintro k11 l10i29 h
        have h : f_lumref_Name_L12 r2 kk8 k11 l10i29 = some r := h
        obtain _ | k11 := k11
        · rw [f_lumref_Name_L12] at h; cases h
        rw [f_lumref_Name_L12] at h
        refine aw_show (m := (memOf w0 Z0 [] [(oRow v3 3 (tyInt .i64) r2.1)] [])) (S := (tab [(3, v3), (27, v3), (28, (Value.int .i64 (r2.1.length : Int))), (29, (Value.int .i64 l10i29))])) ?_
        refine aw_seq ?_
        refine aw_region ?_
        refine al_val (ov_int rfl rfl rfl rfl) ?_
        refine al_nil ?_
        refine aq_then ?_
        refine aw_seq ?_
        refine aw_cond rfl (fun hb13 => ?_) (fun hb13 => ?_)
        · replace h := bif_t hb13 h
          refine aw_skip ?_
          refine aq_then ?_
          refine aw_seq ?_
          refine aw_block ?_
          refine aw_seq ?_
          refine aw_region ?_
          obtain ⟨u14, hu15, h⟩ := opt_some h
          refine al_idxR 0 (at_some hu15).1 (at_some hu15).2.1 rfl rfl rfl Tryd.underlying93 sz3 rfl (fun p16 hp17 => ?_)
          refine al_val (ov_loadR (ds := [(Value.int .i64 u14)]) 0 rfl hp17 (at_some hu15).2.2 (fun h => h) rfl Tryd.underlying3 sz3 rfl rfl rfl) ?_
          refine al_val (ov_assign rfl rfl) ?_
          refine al_nil ?_
          refine aq_then ?_
          obtain ⟨kk19, hkk19, h⟩ := lt_some h
          refine aw_seq_join (ι := Bool) (fun i => (memOf w0 Z0 [] [(oRow v3 3 (tyInt .i64) r2.1)] [])) (fun i => (tab [(3, v3), (27, v3), (28, (Value.int .i64 (r2.1.length : Int))), (29, (Value.int .i64 l10i29)), (42, (Value.bool i))])) (fun i => kk19 i = some r) ?_ ?_
          · rintro j18b42 h
            have h : kk19 j18b42 = some r := h
            rw [hkk19] at h
            dsimp only at h
            clear hkk19
            refine aw_show (m := (memOf w0 Z0 [] [(oRow v3 3 (tyInt .i64) r2.1)] [])) (S := (tab [(3, v3), (27, v3), (28, (Value.int .i64 (r2.1.length : Int))), (29, (Value.int .i64 l10i29)), (42, (Value.bool j18b42))])) ?_
            refine aw_cond rfl (fun hb20 => ?_) (fun hb20 => ?_)
            · replace h := bif_t hb20 h
              refine aw_seq ?_
              refine aw_region ?_
              refine al_val (ov_assign rfl rfl) ?_
              refine al_nil ?_
              refine aq_then ?_
              refine aw_ret ?_
              refine aq_block_ret ?_
              refine aq_then_ret ?_
              refine aq_then_ret ?_
              refine aq_block_ret ?_
              refine aq_then_ret ?_
              obtain rfl := Option.some.inj h
              exact fn_ret () [] [] rfl rfl rfl rfl (res1 rfl rfl) rfl rfl rfl (by decide)
            · replace h := bif_f hb20 h
              refine aw_skip ?_
              refine aq_block ?_
              refine aq_then ?_
              refine aw_region ?_
              refine al_val (ov_int rfl rfl rfl rfl) ?_
              refine al_val (ov_move rfl rfl) ?_
              refine al_nil ?_
              exact aq_again k11 (IntKind.i64.wrap (l10i29 + (1 : Int))) (Nat.lt_succ_self _) h (fun w a hm hs => norm hm hs [0] [] [(3, v3), (27, v3), (28, (Value.int .i64 (r2.1.length : Int))), (29, (Value.int .i64 (IntKind.i64.wrap (l10i29 + (1 : Int)))))] (by decide) ⟨rfl, rfl, rfl, rfl, trivial⟩)
          · clear hkk19
            refine aw_region ?_
            refine al_val (ov_move rfl rfl) ?_
            refine al_val (ov_int rfl rfl rfl rfl) ?_
            refine al_val (ov_move rfl rfl) ?_
            refine al_caseB 35 rfl (fun hb21 => ?_) (fun hb21 => ?_)
            · replace h := bif_t hb21 h
              refine al_skip ?_
              refine al_skip ?_
              refine al_val (ov_pick_t rfl rfl rfl) ?_
              refine al_val (ov_move rfl rfl) ?_
              refine al_skip ?_
              refine al_skip ?_
              refine al_val (ov_pick_t rfl rfl rfl) ?_
              refine al_nil ?_
              exact aq_join true h (fun w a hm hs => norm hm hs [0] [] [(3, v3), (27, v3), (28, (Value.int .i64 (r2.1.length : Int))), (29, (Value.int .i64 l10i29)), (42, (Value.bool true))] (by decide) ⟨rfl, rfl, rfl, rfl, rfl, trivial⟩)
            · replace h := bif_f hb21 h
              refine al_val (ov_move rfl rfl) ?_
              refine al_val (ov_int rfl rfl rfl rfl) ?_
              refine al_val (ov_pick_f rfl rfl rfl) ?_
              refine al_val (ov_move rfl rfl) ?_
              refine al_caseB 39 rfl (fun hb22 => ?_) (fun hb22 => ?_)
              · replace h := bif_t hb22 h
                refine al_skip ?_
                refine al_skip ?_
                refine al_val (ov_pick_t rfl rfl rfl) ?_
                refine al_nil ?_
                exact aq_join true h (fun w a hm hs => norm hm hs [0] [] [(3, v3), (27, v3), (28, (Value.int .i64 (r2.1.length : Int))), (29, (Value.int .i64 l10i29)), (42, (Value.bool true))] (by decide) ⟨rfl, rfl, rfl, rfl, rfl, trivial⟩)
              · replace h := bif_f hb22 h
                refine al_val (ov_move rfl rfl) ?_
                refine al_val (ov_int rfl rfl rfl rfl) ?_
                refine al_val (ov_pick_f rfl rfl rfl) ?_
                refine al_nil ?_
                exact aq_join (u14 == (127 : Int)) h (fun w a hm hs => norm hm hs [0] [] [(3, v3), (27, v3), (28, (Value.int .i64 (r2.1.length : Int))), (29, (Value.int .i64 l10i29)), (42, (Value.bool (u14 == (127 : Int))))] (by decide) ⟨rfl, rfl, rfl, rfl, rfl, trivial⟩)
        · replace h := bif_f hb13 h
          refine aw_exit ?_
          refine aq_then_exit ?_
          refine aq_then_exit ?_
          refine aq_block_exit ?_
          exact aq_join () h (fun w a hm hs => norm hm hs [0] [] [(3, v3)] (by decide) ⟨rfl, trivial⟩)
  · clear hkk5
    refine aw_region ?_
    refine al_val (ov_move rfl rfl) ?_
    refine al_val (ov_not rfl rfl) ?_
    refine al_val (ov_move rfl rfl) ?_
    refine al_caseB 14 rfl (fun hb23 => ?_) (fun hb23 => ?_)
    · replace h := bif_t hb23 h
      refine al_skip ?_
      refine al_skip ?_
      refine al_skip ?_
      refine al_val (ov_pick_t rfl rfl rfl) ?_
      refine al_val (ov_move rfl rfl) ?_
      refine al_skip ?_
      refine al_skip ?_
      refine al_val (ov_pick_t rfl rfl rfl) ?_
      refine al_val (ov_move rfl rfl) ?_
      refine al_skip ?_
      refine al_skip ?_
      refine al_val (ov_pick_t rfl rfl rfl) ?_
      refine al_nil ?_
      exact aq_join true h (fun w a hm hs => norm hm hs [0] [] [(3, v3), (26, (Value.bool true))] (by decide) ⟨rfl, rfl, trivial⟩)
    · replace h := bif_f hb23 h
      refine al_val (ov_move rfl rfl) ?_
      refine al_val (ov_lenR 0 rfl rfl Tryd.underlying93 rfl) ?_
      refine al_val (ov_int rfl rfl rfl rfl) ?_
      refine al_val (ov_pick_f rfl rfl rfl) ?_
      refine al_val (ov_move rfl rfl) ?_
      refine al_caseB 19 rfl (fun hb24 => ?_) (fun hb24 => ?_)
      · replace h := bif_t hb24 h
        refine al_skip ?_
        refine al_skip ?_
        refine al_val (ov_pick_t rfl rfl rfl) ?_
        refine al_val (ov_move rfl rfl) ?_
        refine al_skip ?_
        refine al_skip ?_
        refine al_val (ov_pick_t rfl rfl rfl) ?_
        refine al_nil ?_
        exact aq_join true h (fun w a hm hs => norm hm hs [0] [] [(3, v3), (26, (Value.bool true))] (by decide) ⟨rfl, rfl, trivial⟩)
      · replace h := bif_f hb24 h
        refine al_val (ov_move rfl rfl) ?_
        refine al_val (ov_strCmp rfl rfl rfl rfl) ?_
        refine al_val (ov_pick_f rfl rfl rfl) ?_
        refine al_val (ov_move rfl rfl) ?_
        refine al_caseB 23 rfl (fun hb25 => ?_) (fun hb25 => ?_)
        · replace h := bif_t hb25 h
          refine al_skip ?_
          refine al_skip ?_
          refine al_val (ov_pick_t rfl rfl rfl) ?_
          refine al_nil ?_
          exact aq_join true h (fun w a hm hs => norm hm hs [0] [] [(3, v3), (26, (Value.bool true))] (by decide) ⟨rfl, rfl, trivial⟩)
        · replace h := bif_f hb25 h
          refine al_val (ov_move rfl rfl) ?_
          refine al_val (ov_strCmp rfl rfl rfl rfl) ?_
          refine al_val (ov_pick_f rfl rfl rfl) ?_
          refine al_nil ?_
          exact aq_join (a0 == ([46, 46] : List UInt8)) h (fun w a hm hs => norm hm hs [0] [] [(3, v3), (26, (Value.bool (a0 == ([46, 46] : List UInt8))))] (by decide) ⟨rfl, rfl, trivial⟩)
def f_lumref_Lease (fu : Nat) (a0 : S_api_Lease) : Option Int := (lt (fun (j2b20 : Bool) => (bif j2b20 then (some (1 : Int)) else (bif (!(a0.Who == ([] : List UInt8))) then (opt (f_lumref_Name fu a0.Who) fun (r7 : Int) => (some r7)) else (some (0 : Int))))) fun (kk3 : Bool → Option Int) => (bif (decide (a0.Token < (0 : Int))) then (kk3 true) else (bif (decide (a0.Token > (1099511627776 : Int))) then (kk3 true) else (bif (decide (a0.Until < (0 : Int))) then (kk3 true) else (kk3 (decide (a0.Until > (1099511627776 : Int))))))))
set_option maxRecDepth 100000 in
theorem f_lumref_Lease_ok (fu : Nat) (a0 : S_api_Lease) {r : Int} (h : f_lumref_Lease fu a0 = some r) : FnOk Tryd.prog 15 [(ag [(str a0.Who), (Value.int .i64 a0.Until), (Value.int .i64 a0.Token)])] [] [] (fun (i : Unit) => { val := (Value.int .i64 r) }) := by
  unfold f_lumref_Lease at h
  refine fn_enter Tryd.func15 rfl Tryd.ntmps15 rfl (fun w0 Z0 => ?_)
  refine aw_seq ?_
  refine aw_region ?_
  refine al_box (vs := [(str a0.Who), (Value.int .i64 a0.Until), (Value.int .i64 a0.Token)]) rfl (cv_rfl rfl) rfl (fun g1 => ?_)
  refine al_val (ov_assign rfl rfl) ?_
  refine al_nil ?_
  refine aq_then ?_
  refine aw_seq ?_
  obtain ⟨kk3, hkk3, h⟩ := lt_some h
  refine aw_seq_join (ι := Bool) (fun i => (memOf w0 Z0 [] [(oBox g1 23 [(str a0.Who), (Value.int .i64 a0.Until), (Value.int .i64 a0.Token)])] [])) (fun i => (tab [(1, (ptr g1 0)), (20, (Value.bool i))])) (fun i => kk3 i = some r) ?_ ?_
  · rintro j2b20 h
    have h : kk3 j2b20 = some r := h
    rw [hkk3] at h
    dsimp only at h
    clear hkk3
    refine aw_show (m := (memOf w0 Z0 [] [(oBox g1 23 [(str a0.Who), (Value.int .i64 a0.Until), (Value.int .i64 a0.Token)])] [])) (S := (tab [(1, (ptr g1 0)), (20, (Value.bool j2b20))])) ?_
    refine aw_cond rfl (fun hb4 => ?_) (fun hb4 => ?_)
    · replace h := bif_t hb4 h
      refine aw_seq ?_
      refine aw_region ?_
      refine al_val (ov_assign rfl rfl) ?_
      refine al_nil ?_
      refine aq_then ?_
      refine aw_ret ?_
      refine aq_then_ret ?_
      obtain rfl := Option.some.inj h
      exact fn_ret () [] [] rfl rfl rfl rfl (res1 rfl rfl) rfl rfl rfl (by decide)
    · replace h := bif_f hb4 h
      refine aw_skip ?_
      refine aq_then ?_
      refine aw_seq ?_
      refine aw_seq ?_
      refine aw_region ?_
      refine al_val (ov_fieldA (p := 0) rfl Tryd.underlying23 rfl sz9 rfl rfl rfl) ?_
      refine al_val (ov_load (i := 0) (v := (str a0.Who)) rfl rfl Tryd.underlying9 sz9 rfl rfl rfl rfl) ?_
      refine al_val (ov_strCmp rfl rfl rfl rfl) ?_
      refine al_nil ?_
      refine aq_then ?_
      refine aw_cond rfl (fun hb5 => ?_) (fun hb5 => ?_)
      · replace h := bif_t hb5 h
        refine aw_seq ?_
        refine aw_region ?_
        refine al_val (ov_fieldA (p := 0) rfl Tryd.underlying23 rfl sz9 rfl rfl rfl) ?_
        refine al_val (ov_load (i := 0) (v := (str a0.Who)) rfl rfl Tryd.underlying9 sz9 rfl rfl rfl rfl) ?_
        obtain ⟨r7, hc6, h⟩ := opt_some h
        refine al_call (vs := [(str a0.Who)]) (f_lumref_Name_ok fu a0.Who hc6) [] [] [0] pre_nil rfl (by simp) (by decide) (.inl rfl) rfl Tryd.func43 rfl rfl rfl (fun _ => ?_)
        refine al_val (ov_assign rfl rfl) ?_
        refine al_nil ?_
        refine aq_then ?_
        refine aw_ret ?_
        refine aq_then_ret ?_
        obtain rfl := Option.some.inj h
        exact fn_ret () [] [] rfl rfl rfl rfl (res1 rfl rfl) rfl rfl rfl (by decide)
      · replace h := bif_f hb5 h
        refine aw_skip ?_
        refine aq_then ?_
        refine aw_seq ?_
        refine aw_region ?_
        refine al_val (ov_assign rfl rfl) ?_
        refine al_nil ?_
        refine aq_then ?_
        refine aw_ret ?_
        obtain rfl := Option.some.inj h
        exact fn_ret () [] [] rfl rfl rfl rfl (res1 rfl rfl) rfl rfl rfl (by decide)
  · clear hkk3
    refine aw_region ?_
    refine al_val (ov_fieldA (p := 2) rfl Tryd.underlying23 rfl sz3 rfl rfl rfl) ?_
    refine al_val (ov_load (i := 0) (v := (Value.int .i64 a0.Token)) rfl rfl Tryd.underlying3 sz3 rfl rfl rfl rfl) ?_
    refine al_val (ov_int rfl rfl rfl rfl) ?_
    refine al_val (ov_move rfl rfl) ?_
    refine al_caseB 6 rfl (fun hb8 => ?_) (fun hb8 => ?_)
    · replace h := bif_t hb8 h
      refine al_skip ?_
      refine al_skip ?_
      refine al_skip ?_
      refine al_val (ov_pick_t rfl rfl rfl) ?_
      refine al_val (ov_move rfl rfl) ?_
      refine al_skip ?_
      refine al_skip ?_
      refine al_skip ?_
      refine al_val (ov_pick_t rfl rfl rfl) ?_
      refine al_val (ov_move rfl rfl) ?_
      refine al_skip ?_
      refine al_skip ?_
      refine al_skip ?_
      refine al_val (ov_pick_t rfl rfl rfl) ?_
      refine al_nil ?_
      exact aq_join true h (fun w a hm hs => norm hm hs [0] [] [(1, (ptr g1 0)), (20, (Value.bool true))] (by decide) ⟨rfl, rfl, trivial⟩)
    · replace h := bif_f hb8 h
      refine al_val (ov_fieldA (p := 2) rfl Tryd.underlying23 rfl sz3 rfl rfl rfl) ?_
      refine al_val (ov_load (i := 0) (v := (Value.int .i64 a0.Token)) rfl rfl Tryd.underlying3 sz3 rfl rfl rfl rfl) ?_
      refine al_val (ov_int rfl rfl rfl rfl) ?_
      refine al_val (ov_pick_f rfl rfl rfl) ?_
      refine al_val (ov_move rfl rfl) ?_
      refine al_caseB 11 rfl (fun hb9 => ?_) (fun hb9 => ?_)
      · replace h := bif_t hb9 h
        refine al_skip ?_
        refine al_skip ?_
        refine al_skip ?_
        refine al_val (ov_pick_t rfl rfl rfl) ?_
        refine al_val (ov_move rfl rfl) ?_
        refine al_skip ?_
        refine al_skip ?_
        refine al_skip ?_
        refine al_val (ov_pick_t rfl rfl rfl) ?_
        refine al_nil ?_
        exact aq_join true h (fun w a hm hs => norm hm hs [0] [] [(1, (ptr g1 0)), (20, (Value.bool true))] (by decide) ⟨rfl, rfl, trivial⟩)
      · replace h := bif_f hb9 h
        refine al_val (ov_fieldA (p := 1) rfl Tryd.underlying23 rfl sz3 rfl rfl rfl) ?_
        refine al_val (ov_load (i := 0) (v := (Value.int .i64 a0.Until)) rfl rfl Tryd.underlying3 sz3 rfl rfl rfl rfl) ?_
        refine al_val (ov_int rfl rfl rfl rfl) ?_
        refine al_val (ov_pick_f rfl rfl rfl) ?_
        refine al_val (ov_move rfl rfl) ?_
        refine al_caseB 16 rfl (fun hb10 => ?_) (fun hb10 => ?_)
        · replace h := bif_t hb10 h
          refine al_skip ?_
          refine al_skip ?_
          refine al_skip ?_
          refine al_val (ov_pick_t rfl rfl rfl) ?_
          refine al_nil ?_
          exact aq_join true h (fun w a hm hs => norm hm hs [0] [] [(1, (ptr g1 0)), (20, (Value.bool true))] (by decide) ⟨rfl, rfl, trivial⟩)
        · replace h := bif_f hb10 h
          refine al_val (ov_fieldA (p := 1) rfl Tryd.underlying23 rfl sz3 rfl rfl rfl) ?_
          refine al_val (ov_load (i := 0) (v := (Value.int .i64 a0.Until)) rfl rfl Tryd.underlying3 sz3 rfl rfl rfl rfl) ?_
          refine al_val (ov_int rfl rfl rfl rfl) ?_
          refine al_val (ov_pick_f rfl rfl rfl) ?_
          refine al_nil ?_
          exact aq_join (decide (a0.Until > (1099511627776 : Int))) h (fun w a hm hs => norm hm hs [0] [] [(1, (ptr g1 0)), (20, (Value.bool (decide (a0.Until > (1099511627776 : Int)))))] (by decide) ⟨rfl, rfl, trivial⟩)
def f_lumref_Ask (fu : Nat) (a0 : S_api_Lease) (a1 : (List UInt8)) (a2 : Int) (a3 : Int) : Option (S_api_Lease × Int × Int) := (opt (f_lumref_Lease fu a0) fun (r4 : Int) => (bif (r4 != (0 : Int)) then (some ((S_api_Lease.mk ([] : List UInt8) (0 : Int) (0 : Int)), (0 : Int), r4)) else (opt (f_lumref_Name fu a1) fun (r7 : Int) => (bif (r7 != (0 : Int)) then (some ((S_api_Lease.mk ([] : List UInt8) (0 : Int) (0 : Int)), (0 : Int), r7)) else (lt (fun (j9b39 : Bool) => (bif j9b39 then (some ((S_api_Lease.mk ([] : List UInt8) (0 : Int) (0 : Int)), (0 : Int), (1 : Int))) else (lt (fun (j12b55 : Bool) => (bif j12b55 then (some ((S_api_Lease.mk ([] : List UInt8) (0 : Int) (0 : Int)), (0 : Int), (15 : Int))) else (bif (a0.Token == (1099511627776 : Int)) then (some ((S_api_Lease.mk ([] : List UInt8) (0 : Int) (0 : Int)), (0 : Int), (12 : Int))) else (lt (fun (j16i13 : Int) => (some ((S_api_Lease.mk a1 j16i13 (IntKind.i64.wrap (a0.Token + (1 : Int)))), (IntKind.i64.wrap (a0.Token + (1 : Int))), (0 : Int)))) fun (kk17 : Int → Option (S_api_Lease × Int × Int)) => (bif (decide ((IntKind.i64.wrap (a2 + a3)) < a0.Until)) then (kk17 a0.Until) else (kk17 (IntKind.i64.wrap (a2 + a3)))))))) fun (kk13 : Bool → Option (S_api_Lease × Int × Int)) => (bif (!(a0.Who == ([] : List UInt8))) then (bif (!(a0.Who == a1)) then (kk13 (decide (a2 < a0.Until))) else (kk13 false)) else (kk13 false))))) fun (kk10 : Bool → Option (S_api_Lease × Int × Int)) => (bif (decide (a2 < (0 : Int))) then (kk10 true) else (bif (decide (a2 > (549755813888 : Int))) then (kk10 true) else (bif (decide (a3 < (1 : Int))) then (kk10 true) else (kk10 (decide (a3 > (1000 : Int))))))))))))
set_option maxRecDepth 100000 in
theorem f_lumref_Ask_ok (fu : Nat) (a0 : S_api_Lease) (a1 : (List UInt8)) (a2 : Int) (a3 : Int) {r : (S_api_Lease × Int × Int)} (h : f_lumref_Ask fu a0 a1 a2 a3 = some r) : FnOk Tryd.prog 11 [(ag [(str a0.Who), (Value.int .i64 a0.Until), (Value.int .i64 a0.Token)]), (str a1), (Value.int .i64 a2), (Value.int .i64 a3)] [] [] (fun (i : Unit) => { val := (Value.tuple #[(ag [(str r.1.Who), (Value.int .i64 r.1.Until), (Value.int .i64 r.1.Token)]), (Value.int .i64 r.2.1), (Value.int .i64 r.2.2)]) }) := by
  unfold f_lumref_Ask at h
  refine fn_enter Tryd.func11 rfl Tryd.ntmps11 rfl (fun w0 Z0 => ?_)
  refine aw_seq ?_
  refine aw_region ?_
  refine al_box (vs := [(str a0.Who), (Value.int .i64 a0.Until), (Value.int .i64 a0.Token)]) rfl (cv_rfl rfl) rfl (fun g1 => ?_)
  refine al_alloc (zs := [(str ([] : List UInt8)), (Value.int .i64 (0 : Int)), (Value.int .i64 (0 : Int))]) (zeroOf_to to23) rfl rfl (fun g2 => ?_)
  refine al_val (ov_assign rfl rfl) ?_
  refine al_val (ov_assign rfl rfl) ?_
  refine al_nil ?_
  refine aq_then ?_
  refine aw_seq ?_
  refine aw_seq ?_
  refine aw_region ?_
  refine al_val (ov_load (i := 1) (v := (ag [(str a0.Who), (Value.int .i64 a0.Until), (Value.int .i64 a0.Token)])) rfl rfl Tryd.underlying23 sz23 rfl rfl rfl rfl) ?_
  obtain ⟨r4, hc3, h⟩ := opt_some h
  refine al_call (vs := [(ag [(str a0.Who), (Value.int .i64 a0.Until), (Value.int .i64 a0.Token)])]) (f_lumref_Lease_ok fu a0 hc3) [] [] [0, 1] pre_nil rfl (by simp) (by decide) (.inl rfl) rfl Tryd.func15 rfl rfl rfl (fun _ => ?_)
  refine al_val (ov_assign rfl rfl) ?_
  refine al_nil ?_
  refine aq_then ?_
  refine aw_seq ?_
  refine aw_region ?_
  refine al_val (ov_move rfl rfl) ?_
  refine al_val (ov_int rfl rfl rfl rfl) ?_
  refine al_nil ?_
  refine aq_then ?_
  refine aw_cond rfl (fun hb5 => ?_) (fun hb5 => ?_)
  · replace h := bif_t hb5 h
    refine aw_seq ?_
    refine aw_region ?_
    refine al_val (ov_build (cells := ([(str ([] : List UInt8)), (Value.int .i64 (0 : Int)), (Value.int .i64 (0 : Int))]).toArray) (cs := [(str ([] : List UInt8)), (Value.int .i64 (0 : Int)), (Value.int .i64 (0 : Int))]) rfl (fun w a hm hs => by simp only [List.map_toArray, List.map_cons, List.map_nil, List.toList_toArray]; kernel_rfl)) ?_
    refine al_val (ov_move rfl rfl) ?_
    refine al_store (i := 0) (vs := [(str ([] : List UInt8)), (Value.int .i64 (0 : Int)), (Value.int .i64 (0 : Int))]) (cs' := [(str ([] : List UInt8)), (Value.int .i64 (0 : Int)), (Value.int .i64 (0 : Int))]) rfl rfl rfl sz23 (cv_rfl rfl) rfl (co_val rfl (co_val rfl (co_val rfl co_nil))) (Nat.le_of_ble_eq_true rfl) rfl rfl ?_
    refine al_val (ov_assign rfl rfl) ?_
    refine al_val (ov_assign rfl rfl) ?_
    refine al_nil ?_
    refine aq_then ?_
    refine aw_ret ?_
    refine aq_then_ret ?_
    obtain rfl := Option.some.inj h
    exact fn_ret () [] [] rfl rfl rfl rfl (resC rfl (resB (i := 0) rfl rfl Tryd.underlying23 sz23 rfl rfl rfl (resT rfl (resT rfl (resN)))) rfl) rfl rfl rfl (by decide)
  · replace h := bif_f hb5 h
    refine aw_skip ?_
    refine aq_then ?_
    refine aw_seq ?_
    refine aw_seq ?_
    refine aw_region ?_
    refine al_val (ov_move rfl rfl) ?_
    obtain ⟨r7, hc6, h⟩ := opt_some h
    refine al_call (vs := [(str a1)]) (f_lumref_Name_ok fu a1 hc6) [] [] [0, 1] pre_nil rfl (by simp) (by decide) (.inl rfl) rfl Tryd.func43 rfl rfl rfl (fun _ => ?_)
    refine al_val (ov_assign rfl rfl) ?_
    refine al_nil ?_
    refine aq_then ?_
    refine aw_seq ?_
    refine aw_region ?_
    refine al_val (ov_move rfl rfl) ?_
    refine al_val (ov_int rfl rfl rfl rfl) ?_
    refine al_nil ?_
    refine aq_then ?_
    refine aw_cond rfl (fun hb8 => ?_) (fun hb8 => ?_)
    · replace h := bif_t hb8 h
      refine aw_seq ?_
      refine aw_region ?_
      refine al_val (ov_build (cells := ([(str ([] : List UInt8)), (Value.int .i64 (0 : Int)), (Value.int .i64 (0 : Int))]).toArray) (cs := [(str ([] : List UInt8)), (Value.int .i64 (0 : Int)), (Value.int .i64 (0 : Int))]) rfl (fun w a hm hs => by simp only [List.map_toArray, List.map_cons, List.map_nil, List.toList_toArray]; kernel_rfl)) ?_
      refine al_val (ov_move rfl rfl) ?_
      refine al_store (i := 0) (vs := [(str ([] : List UInt8)), (Value.int .i64 (0 : Int)), (Value.int .i64 (0 : Int))]) (cs' := [(str ([] : List UInt8)), (Value.int .i64 (0 : Int)), (Value.int .i64 (0 : Int))]) rfl rfl rfl sz23 (cv_rfl rfl) rfl (co_val rfl (co_val rfl (co_val rfl co_nil))) (Nat.le_of_ble_eq_true rfl) rfl rfl ?_
      refine al_val (ov_assign rfl rfl) ?_
      refine al_val (ov_assign rfl rfl) ?_
      refine al_nil ?_
      refine aq_then ?_
      refine aw_ret ?_
      refine aq_then_ret ?_
      obtain rfl := Option.some.inj h
      exact fn_ret () [] [] rfl rfl rfl rfl (resC rfl (resB (i := 0) rfl rfl Tryd.underlying23 sz23 rfl rfl rfl (resT rfl (resT rfl (resN)))) rfl) rfl rfl rfl (by decide)
    · replace h := bif_f hb8 h
      refine aw_skip ?_
      refine aq_then ?_
      refine aw_seq ?_
      obtain ⟨kk10, hkk10, h⟩ := lt_some h
      refine aw_seq_join (ι := Bool) (fun i => (memOf w0 Z0 [] [(oBox g1 23 [(str a0.Who), (Value.int .i64 a0.Until), (Value.int .i64 a0.Token)]), (oBox g2 23 [(str ([] : List UInt8)), (Value.int .i64 (0 : Int)), (Value.int .i64 (0 : Int))])] [])) (fun i => (tab [(1, (str a1)), (2, (Value.int .i64 a2)), (3, (Value.int .i64 a3)), (4, (ptr g1 0)), (8, (ptr g2 0)), (39, (Value.bool i))])) (fun i => kk10 i = some r) ?_ ?_
      · rintro j9b39 h
        have h : kk10 j9b39 = some r := h
        rw [hkk10] at h
        dsimp only at h
        clear hkk10
        refine aw_show (m := (memOf w0 Z0 [] [(oBox g1 23 [(str a0.Who), (Value.int .i64 a0.Until), (Value.int .i64 a0.Token)]), (oBox g2 23 [(str ([] : List UInt8)), (Value.int .i64 (0 : Int)), (Value.int .i64 (0 : Int))])] [])) (S := (tab [(1, (str a1)), (2, (Value.int .i64 a2)), (3, (Value.int .i64 a3)), (4, (ptr g1 0)), (8, (ptr g2 0)), (39, (Value.bool j9b39))])) ?_
        refine aw_cond rfl (fun hb11 => ?_) (fun hb11 => ?_)
        · replace h := bif_t hb11 h
          refine aw_seq ?_
          refine aw_region ?_
          refine al_val (ov_build (cells := ([(str ([] : List UInt8)), (Value.int .i64 (0 : Int)), (Value.int .i64 (0 : Int))]).toArray) (cs := [(str ([] : List UInt8)), (Value.int .i64 (0 : Int)), (Value.int .i64 (0 : Int))]) rfl (fun w a hm hs => by simp only [List.map_toArray, List.map_cons, List.map_nil, List.toList_toArray]; kernel_rfl)) ?_
          refine al_store (i := 1) (vs := [(str ([] : List UInt8)), (Value.int .i64 (0 : Int)), (Value.int .i64 (0 : Int))]) (cs' := [(str ([] : List UInt8)), (Value.int .i64 (0 : Int)), (Value.int .i64 (0 : Int))]) rfl rfl rfl sz23 (cv_rfl rfl) rfl (co_val rfl (co_val rfl (co_val rfl co_nil))) (Nat.le_of_ble_eq_true rfl) rfl rfl ?_
          refine al_val (ov_assign rfl rfl) ?_
          refine al_val (ov_assign rfl rfl) ?_
          refine al_nil ?_
          refine aq_then ?_
          refine aw_ret ?_
          refine aq_then_ret ?_
          obtain rfl := Option.some.inj h
          exact fn_ret () [] [] rfl rfl rfl rfl (resC rfl (resB (i := 1) rfl rfl Tryd.underlying23 sz23 rfl rfl rfl (resT rfl (resT rfl (resN)))) rfl) rfl rfl rfl (by decide)
        · replace h := bif_f hb11 h
          refine aw_skip ?_
          refine aq_then ?_
          refine aw_seq ?_
          obtain ⟨kk13, hkk13, h⟩ := lt_some h
          refine aw_seq_join (ι := Bool) (fun i => (memOf w0 Z0 [] [(oBox g1 23 [(str a0.Who), (Value.int .i64 a0.Until), (Value.int .i64 a0.Token)]), (oBox g2 23 [(str ([] : List UInt8)), (Value.int .i64 (0 : Int)), (Value.int .i64 (0 : Int))])] [])) (fun i => (tab [(1, (str a1)), (2, (Value.int .i64 a2)), (3, (Value.int .i64 a3)), (4, (ptr g1 0)), (8, (ptr g2 0)), (55, (Value.bool i))])) (fun i => kk13 i = some r) ?_ ?_
          · rintro j12b55 h
            have h : kk13 j12b55 = some r := h
            rw [hkk13] at h
            dsimp only at h
            clear hkk13
            refine aw_show (m := (memOf w0 Z0 [] [(oBox g1 23 [(str a0.Who), (Value.int .i64 a0.Until), (Value.int .i64 a0.Token)]), (oBox g2 23 [(str ([] : List UInt8)), (Value.int .i64 (0 : Int)), (Value.int .i64 (0 : Int))])] [])) (S := (tab [(1, (str a1)), (2, (Value.int .i64 a2)), (3, (Value.int .i64 a3)), (4, (ptr g1 0)), (8, (ptr g2 0)), (55, (Value.bool j12b55))])) ?_
            refine aw_cond rfl (fun hb14 => ?_) (fun hb14 => ?_)
            · replace h := bif_t hb14 h
              refine aw_seq ?_
              refine aw_region ?_
              refine al_val (ov_build (cells := ([(str ([] : List UInt8)), (Value.int .i64 (0 : Int)), (Value.int .i64 (0 : Int))]).toArray) (cs := [(str ([] : List UInt8)), (Value.int .i64 (0 : Int)), (Value.int .i64 (0 : Int))]) rfl (fun w a hm hs => by simp only [List.map_toArray, List.map_cons, List.map_nil, List.toList_toArray]; kernel_rfl)) ?_
              refine al_store (i := 1) (vs := [(str ([] : List UInt8)), (Value.int .i64 (0 : Int)), (Value.int .i64 (0 : Int))]) (cs' := [(str ([] : List UInt8)), (Value.int .i64 (0 : Int)), (Value.int .i64 (0 : Int))]) rfl rfl rfl sz23 (cv_rfl rfl) rfl (co_val rfl (co_val rfl (co_val rfl co_nil))) (Nat.le_of_ble_eq_true rfl) rfl rfl ?_
              refine al_val (ov_assign rfl rfl) ?_
              refine al_val (ov_assign rfl rfl) ?_
              refine al_nil ?_
              refine aq_then ?_
              refine aw_ret ?_
              refine aq_then_ret ?_
              obtain rfl := Option.some.inj h
              exact fn_ret () [] [] rfl rfl rfl rfl (resC rfl (resB (i := 1) rfl rfl Tryd.underlying23 sz23 rfl rfl rfl (resT rfl (resT rfl (resN)))) rfl) rfl rfl rfl (by decide)
            · replace h := bif_f hb14 h
              refine aw_skip ?_
              refine aq_then ?_
              refine aw_seq ?_
              refine aw_seq ?_
              refine aw_region ?_
              refine al_val (ov_fieldA (p := 2) rfl Tryd.underlying23 rfl sz3 rfl rfl rfl) ?_
              refine al_val (ov_load (i := 0) (v := (Value.int .i64 a0.Token)) rfl rfl Tryd.underlying3 sz3 rfl rfl rfl rfl) ?_
              refine al_val (ov_int rfl rfl rfl rfl) ?_
              refine al_nil ?_
              refine aq_then ?_
              refine aw_cond rfl (fun hb15 => ?_) (fun hb15 => ?_)
              · replace h := bif_t hb15 h
                refine aw_seq ?_
                refine aw_region ?_
                refine al_val (ov_build (cells := ([(str ([] : List UInt8)), (Value.int .i64 (0 : Int)), (Value.int .i64 (0 : Int))]).toArray) (cs := [(str ([] : List UInt8)), (Value.int .i64 (0 : Int)), (Value.int .i64 (0 : Int))]) rfl (fun w a hm hs => by simp only [List.map_toArray, List.map_cons, List.map_nil, List.toList_toArray]; kernel_rfl)) ?_
                refine al_store (i := 1) (vs := [(str ([] : List UInt8)), (Value.int .i64 (0 : Int)), (Value.int .i64 (0 : Int))]) (cs' := [(str ([] : List UInt8)), (Value.int .i64 (0 : Int)), (Value.int .i64 (0 : Int))]) rfl rfl rfl sz23 (cv_rfl rfl) rfl (co_val rfl (co_val rfl (co_val rfl co_nil))) (Nat.le_of_ble_eq_true rfl) rfl rfl ?_
                refine al_val (ov_assign rfl rfl) ?_
                refine al_val (ov_assign rfl rfl) ?_
                refine al_nil ?_
                refine aq_then ?_
                refine aw_ret ?_
                refine aq_then_ret ?_
                obtain rfl := Option.some.inj h
                exact fn_ret () [] [] rfl rfl rfl rfl (resC rfl (resB (i := 1) rfl rfl Tryd.underlying23 sz23 rfl rfl rfl (resT rfl (resT rfl (resN)))) rfl) rfl rfl rfl (by decide)
              · replace h := bif_f hb15 h
                refine aw_skip ?_
                refine aq_then ?_
                refine aw_seq ?_
                refine aw_region ?_
                refine al_val (ov_move rfl rfl) ?_
                refine al_val (ov_move rfl rfl) ?_
                refine al_val (ov_int rfl rfl rfl rfl) ?_
                refine al_val (ov_assign rfl rfl) ?_
                refine al_nil ?_
                refine aq_then ?_
                obtain ⟨kk17, hkk17, h⟩ := lt_some h
                refine aw_seq_join (ι := Int) (fun i => (memOf w0 Z0 [] [(oBox g1 23 [(str a0.Who), (Value.int .i64 a0.Until), (Value.int .i64 a0.Token)]), (oBox g2 23 [(str ([] : List UInt8)), (Value.int .i64 (0 : Int)), (Value.int .i64 (0 : Int))])] [])) (fun i => (tab [(1, (str a1)), (4, (ptr g1 0)), (8, (ptr g2 0)), (13, (Value.int .i64 i))])) (fun i => kk17 i = some r) ?_ ?_
                · rintro j16i13 h
                  have h : kk17 j16i13 = some r := h
                  rw [hkk17] at h
                  dsimp only at h
                  clear hkk17
                  refine aw_show (m := (memOf w0 Z0 [] [(oBox g1 23 [(str a0.Who), (Value.int .i64 a0.Until), (Value.int .i64 a0.Token)]), (oBox g2 23 [(str ([] : List UInt8)), (Value.int .i64 (0 : Int)), (Value.int .i64 (0 : Int))])] [])) (S := (tab [(1, (str a1)), (4, (ptr g1 0)), (8, (ptr g2 0)), (13, (Value.int .i64 j16i13))])) ?_
                  refine aw_seq ?_
                  refine aw_region_open [⟨0, 70, Unit, fun _ => { val := (str a1) }⟩, ⟨1, 71, Unit, fun _ => { val := (Value.int .i64 j16i13) }⟩, ⟨2, 72, Unit, fun _ => { val := (ptr g1 2) }⟩, ⟨3, 73, Unit, fun _ => { val := (Value.int .i64 a0.Token) }⟩, ⟨4, 74, Unit, fun _ => { val := (Value.int .i64 (IntKind.i64.wrap (a0.Token + (1 : Int)))) }⟩, ⟨5, 75, Unit, fun _ => { val := (ag [(str a1), (Value.int .i64 j16i13), (Value.int .i64 (IntKind.i64.wrap (a0.Token + (1 : Int))))]) }⟩, ⟨6, 76, Unit, fun _ => { val := (ptr g1 2) }⟩, ⟨7, 77, Unit, fun _ => { val := (Value.int .i64 a0.Token) }⟩, ⟨8, 78, Unit, fun _ => { val := (Value.int .i64 (IntKind.i64.wrap (a0.Token + (1 : Int)))) }⟩] (tab [(1, (str a1)), (4, (ptr g1 0)), (8, (ptr g2 0)), (13, (Value.int .i64 j16i13))]) mixed (fun a hs => hs.tab _ (allT_mem ⟨rfl, rfl, rfl, rfl, trivial⟩)) ?_
                  refine ta_show (m := (memOf w0 Z0 [] [(oBox g1 23 [(str a0.Who), (Value.int .i64 a0.Until), (Value.int .i64 a0.Token)]), (oBox g2 23 [(str ([] : List UInt8)), (Value.int .i64 (0 : Int)), (Value.int .i64 (0 : Int))])] [])) (S := (tab [(1, (str a1)), (4, (ptr g1 0)), (8, (ptr g2 0)), (13, (Value.int .i64 j16i13))])) ?_
                  refine ta_step 9 _ [0, 1, 2, 3, 4, 5, 6, 7, 8] [70, 71, 72, 73, 74, 75, 76, 77, 78] [0, 1, 2, 3, 4, 5] [] [⟨0, 70, Unit, fun _ => { val := (str a1) }⟩, ⟨1, 71, Unit, fun _ => { val := (Value.int .i64 j16i13) }⟩, ⟨2, 72, Unit, fun _ => { val := (ptr g1 2) }⟩, ⟨3, 73, Unit, fun _ => { val := (Value.int .i64 a0.Token) }⟩, ⟨4, 74, Unit, fun _ => { val := (Value.int .i64 (IntKind.i64.wrap (a0.Token + (1 : Int)))) }⟩, ⟨5, 75, Unit, fun _ => { val := (ag [(str a1), (Value.int .i64 j16i13), (Value.int .i64 (IntKind.i64.wrap (a0.Token + (1 : Int))))]) }⟩] [⟨6, 76, Unit, fun _ => { val := (ptr g1 2) }⟩, ⟨7, 77, Unit, fun _ => { val := (Value.int .i64 a0.Token) }⟩, ⟨8, 78, Unit, fun _ => { val := (Value.int .i64 (IntKind.i64.wrap (a0.Token + (1 : Int)))) }⟩] rfl rfl rfl (by kernel_rfl) rfl rfl rfl ⟨⟨_, rfl, [], rfl, by
    intro X_ Y_ F_ K_ hK_
    refine al_show (m := Mem.plus (memOf w0 Z0 [] [(oBox g1 23 [(str a0.Who), (Value.int .i64 a0.Until), (Value.int .i64 a0.Token)]), (oBox g2 23 [(str ([] : List UInt8)), (Value.int .i64 (0 : Int)), (Value.int .i64 (0 : Int))])] []) X_ Y_) (S := over (tab [(1, (str a1)), (4, (ptr g1 0)), (8, (ptr g2 0)), (13, (Value.int .i64 j16i13))]) F_) ?_
    refine al_val (ov_move rfl rfl) ?_
    refine al_nil ?_
    exact fr_fin hK_ ()⟩, ⟨_, rfl, [], rfl, by
    intro X_ Y_ F_ K_ hK_
    refine al_show (m := Mem.plus (memOf w0 Z0 [] [(oBox g1 23 [(str a0.Who), (Value.int .i64 a0.Until), (Value.int .i64 a0.Token)]), (oBox g2 23 [(str ([] : List UInt8)), (Value.int .i64 (0 : Int)), (Value.int .i64 (0 : Int))])] []) X_ Y_) (S := over (tab [(1, (str a1)), (4, (ptr g1 0)), (8, (ptr g2 0)), (13, (Value.int .i64 j16i13))]) F_) ?_
    refine al_val (ov_move rfl rfl) ?_
    refine al_nil ?_
    exact fr_fin hK_ ()⟩, ⟨_, rfl, [], rfl, by
    intro X_ Y_ F_ K_ hK_
    refine al_show (m := Mem.plus (memOf w0 Z0 [] [(oBox g1 23 [(str a0.Who), (Value.int .i64 a0.Until), (Value.int .i64 a0.Token)]), (oBox g2 23 [(str ([] : List UInt8)), (Value.int .i64 (0 : Int)), (Value.int .i64 (0 : Int))])] []) X_ Y_) (S := over (tab [(1, (str a1)), (4, (ptr g1 0)), (8, (ptr g2 0)), (13, (Value.int .i64 j16i13))]) F_) ?_
    refine al_val (ov_fieldA (p := 2) rfl Tryd.underlying23 rfl sz3 rfl rfl rfl) ?_
    refine al_nil ?_
    exact fr_fin hK_ ()⟩, ⟨_, rfl, [2], rfl, by
    intro _
    intro X_ Y_ F_ K_ hK_
    refine al_show (m := Mem.plus (memOf w0 Z0 [] [(oBox g1 23 [(str a0.Who), (Value.int .i64 a0.Until), (Value.int .i64 a0.Token)]), (oBox g2 23 [(str ([] : List UInt8)), (Value.int .i64 (0 : Int)), (Value.int .i64 (0 : Int))])] []) X_ Y_) (S := over (put (tab [(1, (str a1)), (4, (ptr g1 0)), (8, (ptr g2 0)), (13, (Value.int .i64 j16i13))]) 72 (ptr g1 2)) F_) ?_
    refine al_val (ov_load (i := 0) (v := (Value.int .i64 a0.Token)) rfl rfl Tryd.underlying3 sz3 rfl rfl rfl rfl) ?_
    refine al_nil ?_
    exact fr_fin hK_ ()⟩, ⟨_, rfl, [3], rfl, by
    intro _
    intro X_ Y_ F_ K_ hK_
    refine al_show (m := Mem.plus (memOf w0 Z0 [] [(oBox g1 23 [(str a0.Who), (Value.int .i64 a0.Until), (Value.int .i64 a0.Token)]), (oBox g2 23 [(str ([] : List UInt8)), (Value.int .i64 (0 : Int)), (Value.int .i64 (0 : Int))])] []) X_ Y_) (S := over (put (tab [(1, (str a1)), (4, (ptr g1 0)), (8, (ptr g2 0)), (13, (Value.int .i64 j16i13))]) 73 (Value.int .i64 a0.Token)) F_) ?_
    refine al_val (ov_int rfl rfl rfl rfl) ?_
    refine al_nil ?_
    exact fr_fin hK_ ()⟩, ⟨_, rfl, [0, 1, 4], rfl, by
    intro _
    intro _
    intro _
    intro X_ Y_ F_ K_ hK_
    refine al_show (m := Mem.plus (memOf w0 Z0 [] [(oBox g1 23 [(str a0.Who), (Value.int .i64 a0.Until), (Value.int .i64 a0.Token)]), (oBox g2 23 [(str ([] : List UInt8)), (Value.int .i64 (0 : Int)), (Value.int .i64 (0 : Int))])] []) X_ Y_) (S := over (put (put (put (tab [(1, (str a1)), (4, (ptr g1 0)), (8, (ptr g2 0)), (13, (Value.int .i64 j16i13))]) 70 (str a1)) 71 (Value.int .i64 j16i13)) 74 (Value.int .i64 (IntKind.i64.wrap (a0.Token + (1 : Int))))) F_) ?_
    refine al_val (ov_build (cells := ([(str a1), (Value.int .i64 j16i13), (Value.int .i64 (IntKind.i64.wrap (a0.Token + (1 : Int))))]).toArray) (cs := [(str a1), (Value.int .i64 j16i13), (Value.int .i64 (IntKind.i64.wrap (a0.Token + (1 : Int))))]) rfl (fun w a hm hs => by simp only [List.map_toArray, List.map_cons, List.map_nil, List.toList_toArray, hs.ev (x := .tmp 70) rfl, hs.ev (x := .tmp 71) rfl, hs.ev (x := .tmp 74) rfl]; kernel_rfl)) ?_
    refine al_nil ?_
    exact fr_fin hK_ ()⟩, ⟨_, rfl, [], rfl, by
    intro X_ Y_ F_ K_ hK_
    refine al_show (m := Mem.plus (memOf w0 Z0 [] [(oBox g1 23 [(str a0.Who), (Value.int .i64 a0.Until), (Value.int .i64 a0.Token)]), (oBox g2 23 [(str ([] : List UInt8)), (Value.int .i64 (0 : Int)), (Value.int .i64 (0 : Int))])] []) X_ Y_) (S := over (tab [(1, (str a1)), (4, (ptr g1 0)), (8, (ptr g2 0)), (13, (Value.int .i64 j16i13))]) F_) ?_
    refine al_val (ov_fieldA (p := 2) rfl Tryd.underlying23 rfl sz3 rfl rfl rfl) ?_
    refine al_nil ?_
    exact fr_fin hK_ ()⟩, ⟨_, rfl, [6], rfl, by
    intro _
    intro X_ Y_ F_ K_ hK_
    refine al_show (m := Mem.plus (memOf w0 Z0 [] [(oBox g1 23 [(str a0.Who), (Value.int .i64 a0.Until), (Value.int .i64 a0.Token)]), (oBox g2 23 [(str ([] : List UInt8)), (Value.int .i64 (0 : Int)), (Value.int .i64 (0 : Int))])] []) X_ Y_) (S := over (put (tab [(1, (str a1)), (4, (ptr g1 0)), (8, (ptr g2 0)), (13, (Value.int .i64 j16i13))]) 76 (ptr g1 2)) F_) ?_
    refine al_val (ov_load (i := 0) (v := (Value.int .i64 a0.Token)) rfl rfl Tryd.underlying3 sz3 rfl rfl rfl rfl) ?_
    refine al_nil ?_
    exact fr_fin hK_ ()⟩, ⟨_, rfl, [7], rfl, by
    intro _
    intro X_ Y_ F_ K_ hK_
    refine al_show (m := Mem.plus (memOf w0 Z0 [] [(oBox g1 23 [(str a0.Who), (Value.int .i64 a0.Until), (Value.int .i64 a0.Token)]), (oBox g2 23 [(str ([] : List UInt8)), (Value.int .i64 (0 : Int)), (Value.int .i64 (0 : Int))])] []) X_ Y_) (S := over (put (tab [(1, (str a1)), (4, (ptr g1 0)), (8, (ptr g2 0)), (13, (Value.int .i64 j16i13))]) 77 (Value.int .i64 a0.Token)) F_) ?_
    refine al_val (ov_int rfl rfl rfl rfl) ?_
    refine al_nil ?_
    exact fr_fin hK_ ()⟩, trivial⟩ ?_
                  intro _
                  intro _
                  intro _
                  intro _
                  intro _
                  intro _
                  intro X_ Y_ F_ K_ hK_
                  refine al_show (m := Mem.plus (memOf w0 Z0 [] [(oBox g1 23 [(str a0.Who), (Value.int .i64 a0.Until), (Value.int .i64 a0.Token)]), (oBox g2 23 [(str ([] : List UInt8)), (Value.int .i64 (0 : Int)), (Value.int .i64 (0 : Int))])] []) X_ Y_) (S := over (put (put (put (put (put (put (tab [(1, (str a1)), (4, (ptr g1 0)), (8, (ptr g2 0)), (13, (Value.int .i64 j16i13))]) 70 (str a1)) 71 (Value.int .i64 j16i13)) 72 (ptr g1 2)) 73 (Value.int .i64 a0.Token)) 74 (Value.int .i64 (IntKind.i64.wrap (a0.Token + (1 : Int))))) 75 (ag [(str a1), (Value.int .i64 j16i13), (Value.int .i64 (IntKind.i64.wrap (a0.Token + (1 : Int))))])) F_) ?_
                  refine al_store (i := 1) (vs := [(str a1), (Value.int .i64 j16i13), (Value.int .i64 (IntKind.i64.wrap (a0.Token + (1 : Int))))]) (cs' := [(str a1), (Value.int .i64 j16i13), (Value.int .i64 (IntKind.i64.wrap (a0.Token + (1 : Int))))]) rfl rfl rfl sz23 (cv_rfl rfl) rfl (co_val rfl (co_val rfl (co_val rfl co_nil))) (Nat.le_of_ble_eq_true rfl) rfl rfl ?_
                  refine al_nil ?_
                  refine aq_show (m := Mem.plus (memOf w0 Z0 [] [(oBox g1 23 [(str a0.Who), (Value.int .i64 a0.Until), (Value.int .i64 a0.Token)]), (oBox g2 23 [(str a1), (Value.int .i64 j16i13), (Value.int .i64 (IntKind.i64.wrap (a0.Token + (1 : Int))))])] []) X_ Y_) ?_
                  refine aq_next hK_ [0, 1] [] [(4, (ptr g1 0)), (8, (ptr g2 0))] [76, 77, 78] [] rfl rfl (by decide) rfl ⟨rfl, rfl, trivial⟩ ⟨rfl, rfl, rfl, trivial⟩ ?_
                  clear hK_ K_ F_ X_ Y_
                  refine ta_show (m := (memOf w0 Z0 [] [(oBox g1 23 [(str a0.Who), (Value.int .i64 a0.Until), (Value.int .i64 a0.Token)]), (oBox g2 23 [(str a1), (Value.int .i64 j16i13), (Value.int .i64 (IntKind.i64.wrap (a0.Token + (1 : Int))))])] [])) (S := (tab [(4, (ptr g1 0)), (8, (ptr g2 0))])) ?_
                  refine ta_step 10 _ [6, 7, 8] [76, 77, 78] [6, 7, 8] [] [⟨6, 76, Unit, fun _ => { val := (ptr g1 2) }⟩, ⟨7, 77, Unit, fun _ => { val := (Value.int .i64 a0.Token) }⟩, ⟨8, 78, Unit, fun _ => { val := (Value.int .i64 (IntKind.i64.wrap (a0.Token + (1 : Int)))) }⟩] [] rfl rfl rfl (by kernel_rfl) rfl rfl rfl ⟨⟨_, rfl, [], rfl, by
    intro X_ Y_ F_ K_ hK_
    refine al_show (m := Mem.plus (memOf w0 Z0 [] [(oBox g1 23 [(str a0.Who), (Value.int .i64 a0.Until), (Value.int .i64 a0.Token)]), (oBox g2 23 [(str a1), (Value.int .i64 j16i13), (Value.int .i64 (IntKind.i64.wrap (a0.Token + (1 : Int))))])] []) X_ Y_) (S := over (tab [(4, (ptr g1 0)), (8, (ptr g2 0))]) F_) ?_
    refine al_val (ov_fieldA (p := 2) rfl Tryd.underlying23 rfl sz3 rfl rfl rfl) ?_
    refine al_nil ?_
    exact fr_fin hK_ ()⟩, ⟨_, rfl, [0], rfl, by
    intro _
    intro X_ Y_ F_ K_ hK_
    refine al_show (m := Mem.plus (memOf w0 Z0 [] [(oBox g1 23 [(str a0.Who), (Value.int .i64 a0.Until), (Value.int .i64 a0.Token)]), (oBox g2 23 [(str a1), (Value.int .i64 j16i13), (Value.int .i64 (IntKind.i64.wrap (a0.Token + (1 : Int))))])] []) X_ Y_) (S := over (put (tab [(4, (ptr g1 0)), (8, (ptr g2 0))]) 76 (ptr g1 2)) F_) ?_
    refine al_val (ov_load (i := 0) (v := (Value.int .i64 a0.Token)) rfl rfl Tryd.underlying3 sz3 rfl rfl rfl rfl) ?_
    refine al_nil ?_
    exact fr_fin hK_ ()⟩, ⟨_, rfl, [1], rfl, by
    intro _
    intro X_ Y_ F_ K_ hK_
    refine al_show (m := Mem.plus (memOf w0 Z0 [] [(oBox g1 23 [(str a0.Who), (Value.int .i64 a0.Until), (Value.int .i64 a0.Token)]), (oBox g2 23 [(str a1), (Value.int .i64 j16i13), (Value.int .i64 (IntKind.i64.wrap (a0.Token + (1 : Int))))])] []) X_ Y_) (S := over (put (tab [(4, (ptr g1 0)), (8, (ptr g2 0))]) 77 (Value.int .i64 a0.Token)) F_) ?_
    refine al_val (ov_int rfl rfl rfl rfl) ?_
    refine al_nil ?_
    exact fr_fin hK_ ()⟩, trivial⟩ ?_
                  intro _
                  intro _
                  intro _
                  intro X_ Y_ F_ K_ hK_
                  refine al_show (m := Mem.plus (memOf w0 Z0 [] [(oBox g1 23 [(str a0.Who), (Value.int .i64 a0.Until), (Value.int .i64 a0.Token)]), (oBox g2 23 [(str a1), (Value.int .i64 j16i13), (Value.int .i64 (IntKind.i64.wrap (a0.Token + (1 : Int))))])] []) X_ Y_) (S := over (put (put (put (tab [(4, (ptr g1 0)), (8, (ptr g2 0))]) 76 (ptr g1 2)) 77 (Value.int .i64 a0.Token)) 78 (Value.int .i64 (IntKind.i64.wrap (a0.Token + (1 : Int))))) F_) ?_
                  refine al_val (ov_assign rfl rfl) ?_
                  refine al_nil ?_
                  refine aq_show (m := Mem.plus (memOf w0 Z0 [] [(oBox g1 23 [(str a0.Who), (Value.int .i64 a0.Until), (Value.int .i64 a0.Token)]), (oBox g2 23 [(str a1), (Value.int .i64 j16i13), (Value.int .i64 (IntKind.i64.wrap (a0.Token + (1 : Int))))])] []) X_ Y_) ?_
                  refine aq_next hK_ [0, 1] [] [(8, (ptr g2 0)), (9, (Value.int .i64 (IntKind.i64.wrap (a0.Token + (1 : Int)))))] [] [] rfl rfl (by decide) rfl ⟨rfl, rfl, trivial⟩ trivial ?_
                  clear hK_ K_ F_ X_ Y_
                  refine ta_show (m := (memOf w0 Z0 [] [(oBox g1 23 [(str a0.Who), (Value.int .i64 a0.Until), (Value.int .i64 a0.Token)]), (oBox g2 23 [(str a1), (Value.int .i64 j16i13), (Value.int .i64 (IntKind.i64.wrap (a0.Token + (1 : Int))))])] [])) (S := (tab [(8, (ptr g2 0)), (9, (Value.int .i64 (IntKind.i64.wrap (a0.Token + (1 : Int)))))])) ?_
                  refine ta_step 11 _ [] [] [] [] [] [] rfl rfl rfl (by kernel_rfl) rfl rfl rfl trivial ?_
                  intro X_ Y_ F_ K_ hK_
                  refine al_show (m := Mem.plus (memOf w0 Z0 [] [(oBox g1 23 [(str a0.Who), (Value.int .i64 a0.Until), (Value.int .i64 a0.Token)]), (oBox g2 23 [(str a1), (Value.int .i64 j16i13), (Value.int .i64 (IntKind.i64.wrap (a0.Token + (1 : Int))))])] []) X_ Y_) (S := over (tab [(8, (ptr g2 0)), (9, (Value.int .i64 (IntKind.i64.wrap (a0.Token + (1 : Int)))))]) F_) ?_
                  refine al_val (ov_assign rfl rfl) ?_
                  refine al_nil ?_
                  refine aq_show (m := Mem.plus (memOf w0 Z0 [] [(oBox g1 23 [(str a0.Who), (Value.int .i64 a0.Until), (Value.int .i64 a0.Token)]), (oBox g2 23 [(str a1), (Value.int .i64 j16i13), (Value.int .i64 (IntKind.i64.wrap (a0.Token + (1 : Int))))])] []) X_ Y_) ?_
                  refine aq_next hK_ [0, 1] [] [(8, (ptr g2 0)), (9, (Value.int .i64 (IntKind.i64.wrap (a0.Token + (1 : Int))))), (10, (Value.int .i64 (0 : Int)))] [] [] rfl rfl (by decide) rfl ⟨rfl, rfl, rfl, trivial⟩ trivial ?_
                  clear hK_ K_ F_ X_ Y_
                  refine ta_show (m := (memOf w0 Z0 [] [(oBox g1 23 [(str a0.Who), (Value.int .i64 a0.Until), (Value.int .i64 a0.Token)]), (oBox g2 23 [(str a1), (Value.int .i64 j16i13), (Value.int .i64 (IntKind.i64.wrap (a0.Token + (1 : Int))))])] [])) (S := (tab [(8, (ptr g2 0)), (9, (Value.int .i64 (IntKind.i64.wrap (a0.Token + (1 : Int))))), (10, (Value.int .i64 (0 : Int)))])) ?_
                  refine ta_end [] [] rfl rfl (by kernel_rfl) rfl trivial ?_
                  refine aq_show (m := (memOf w0 Z0 [] [(oBox g1 23 [(str a0.Who), (Value.int .i64 a0.Until), (Value.int .i64 a0.Token)]), (oBox g2 23 [(str a1), (Value.int .i64 j16i13), (Value.int .i64 (IntKind.i64.wrap (a0.Token + (1 : Int))))])] [])) (S := (tab [(8, (ptr g2 0)), (9, (Value.int .i64 (IntKind.i64.wrap (a0.Token + (1 : Int))))), (10, (Value.int .i64 (0 : Int)))])) ?_
                  refine aq_then ?_
                  refine aw_ret ?_
                  obtain rfl := Option.some.inj h
                  exact fn_ret () [] [] rfl rfl rfl rfl (resC rfl (resB (i := 1) rfl rfl Tryd.underlying23 sz23 rfl rfl rfl (resT rfl (resT rfl (resN)))) rfl) rfl rfl rfl (by decide)
                · clear hkk17
                  refine aw_seq ?_
                  refine aw_region ?_
                  refine al_val (ov_move rfl rfl) ?_
                  refine al_val (ov_fieldA (p := 1) rfl Tryd.underlying23 rfl sz3 rfl rfl rfl) ?_
                  refine al_val (ov_load (i := 0) (v := (Value.int .i64 a0.Until)) rfl rfl Tryd.underlying3 sz3 rfl rfl rfl rfl) ?_
                  refine al_val (ov_int rfl rfl rfl rfl) ?_
                  refine al_nil ?_
                  refine aq_then ?_
                  refine aw_cond rfl (fun hb18 => ?_) (fun hb18 => ?_)
                  · replace h := bif_t hb18 h
                    refine aw_region ?_
                    refine al_val (ov_fieldA (p := 1) rfl Tryd.underlying23 rfl sz3 rfl rfl rfl) ?_
                    refine al_val (ov_load (i := 0) (v := (Value.int .i64 a0.Until)) rfl rfl Tryd.underlying3 sz3 rfl rfl rfl rfl) ?_
                    refine al_val (ov_assign rfl rfl) ?_
                    refine al_nil ?_
                    exact aq_join a0.Until h (fun w a hm hs => norm hm hs [0, 1] [] [(1, (str a1)), (4, (ptr g1 0)), (8, (ptr g2 0)), (13, (Value.int .i64 a0.Until))] (by decide) ⟨rfl, rfl, rfl, rfl, trivial⟩)
                  · replace h := bif_f hb18 h
                    refine aw_skip ?_
                    exact aq_join (IntKind.i64.wrap (a2 + a3)) h (fun w a hm hs => norm hm hs [0, 1] [] [(1, (str a1)), (4, (ptr g1 0)), (8, (ptr g2 0)), (13, (Value.int .i64 (IntKind.i64.wrap (a2 + a3))))] (by decide) ⟨rfl, rfl, rfl, rfl, trivial⟩)
          · clear hkk13
            refine aw_region ?_
            refine al_val (ov_fieldA (p := 0) rfl Tryd.underlying23 rfl sz9 rfl rfl rfl) ?_
            refine al_val (ov_load (i := 0) (v := (str a0.Who)) rfl rfl Tryd.underlying9 sz9 rfl rfl rfl rfl) ?_
            refine al_val (ov_strCmp rfl rfl rfl rfl) ?_
            refine al_val (ov_move rfl rfl) ?_
            refine al_caseB 44 rfl (fun hb19 => ?_) (fun hb19 => ?_)
            · replace h := bif_t hb19 h
              refine al_val (ov_fieldA (p := 0) rfl Tryd.underlying23 rfl sz9 rfl rfl rfl) ?_
              refine al_val (ov_load (i := 0) (v := (str a0.Who)) rfl rfl Tryd.underlying9 sz9 rfl rfl rfl rfl) ?_
              refine al_val (ov_move rfl rfl) ?_
              refine al_val (ov_strCmp rfl rfl rfl rfl) ?_
              refine al_val (ov_pick_t rfl rfl rfl) ?_
              refine al_val (ov_move rfl rfl) ?_
              refine al_caseB 50 rfl (fun hb20 => ?_) (fun hb20 => ?_)
              · replace h := bif_t hb20 h
                refine al_val (ov_move rfl rfl) ?_
                refine al_val (ov_fieldA (p := 1) rfl Tryd.underlying23 rfl sz3 rfl rfl rfl) ?_
                refine al_val (ov_load (i := 0) (v := (Value.int .i64 a0.Until)) rfl rfl Tryd.underlying3 sz3 rfl rfl rfl rfl) ?_
                refine al_val (ov_int rfl rfl rfl rfl) ?_
                refine al_val (ov_pick_t rfl rfl rfl) ?_
                refine al_nil ?_
                exact aq_join (decide (a2 < a0.Until)) h (fun w a hm hs => norm hm hs [0, 1] [] [(1, (str a1)), (2, (Value.int .i64 a2)), (3, (Value.int .i64 a3)), (4, (ptr g1 0)), (8, (ptr g2 0)), (55, (Value.bool (decide (a2 < a0.Until))))] (by decide) ⟨rfl, rfl, rfl, rfl, rfl, rfl, trivial⟩)
              · replace h := bif_f hb20 h
                refine al_skip ?_
                refine al_skip ?_
                refine al_skip ?_
                refine al_skip ?_
                refine al_val (ov_pick_f rfl rfl rfl) ?_
                refine al_nil ?_
                exact aq_join false h (fun w a hm hs => norm hm hs [0, 1] [] [(1, (str a1)), (2, (Value.int .i64 a2)), (3, (Value.int .i64 a3)), (4, (ptr g1 0)), (8, (ptr g2 0)), (55, (Value.bool false))] (by decide) ⟨rfl, rfl, rfl, rfl, rfl, rfl, trivial⟩)
            · replace h := bif_f hb19 h
              refine al_skip ?_
              refine al_skip ?_
              refine al_skip ?_
              refine al_skip ?_
              refine al_val (ov_pick_f rfl rfl rfl) ?_
              refine al_val (ov_move rfl rfl) ?_
              refine al_skip ?_
              refine al_skip ?_
              refine al_skip ?_
              refine al_skip ?_
              refine al_val (ov_pick_f rfl rfl rfl) ?_
              refine al_nil ?_
              exact aq_join false h (fun w a hm hs => norm hm hs [0, 1] [] [(1, (str a1)), (2, (Value.int .i64 a2)), (3, (Value.int .i64 a3)), (4, (ptr g1 0)), (8, (ptr g2 0)), (55, (Value.bool false))] (by decide) ⟨rfl, rfl, rfl, rfl, rfl, rfl, trivial⟩)
      · clear hkk10
        refine aw_region ?_
        refine al_val (ov_move rfl rfl) ?_
        refine al_val (ov_int rfl rfl rfl rfl) ?_
        refine al_val (ov_move rfl rfl) ?_
        refine al_caseB 28 rfl (fun hb21 => ?_) (fun hb21 => ?_)
        · replace h := bif_t hb21 h
          refine al_skip ?_
          refine al_skip ?_
          refine al_val (ov_pick_t rfl rfl rfl) ?_
          refine al_val (ov_move rfl rfl) ?_
          refine al_skip ?_
          refine al_skip ?_
          refine al_val (ov_pick_t rfl rfl rfl) ?_
          refine al_val (ov_move rfl rfl) ?_
          refine al_skip ?_
          refine al_skip ?_
          refine al_val (ov_pick_t rfl rfl rfl) ?_
          refine al_nil ?_
          exact aq_join true h (fun w a hm hs => norm hm hs [1, 0] [] [(1, (str a1)), (2, (Value.int .i64 a2)), (3, (Value.int .i64 a3)), (4, (ptr g1 0)), (8, (ptr g2 0)), (39, (Value.bool true))] (by decide) ⟨rfl, rfl, rfl, rfl, rfl, rfl, trivial⟩)
        · replace h := bif_f hb21 h
          refine al_val (ov_move rfl rfl) ?_
          refine al_val (ov_int rfl rfl rfl rfl) ?_
          refine al_val (ov_pick_f rfl rfl rfl) ?_
          refine al_val (ov_move rfl rfl) ?_
          refine al_caseB 32 rfl (fun hb22 => ?_) (fun hb22 => ?_)
          · replace h := bif_t hb22 h
            refine al_skip ?_
            refine al_skip ?_
            refine al_val (ov_pick_t rfl rfl rfl) ?_
            refine al_val (ov_move rfl rfl) ?_
            refine al_skip ?_
            refine al_skip ?_
            refine al_val (ov_pick_t rfl rfl rfl) ?_
            refine al_nil ?_
            exact aq_join true h (fun w a hm hs => norm hm hs [1, 0] [] [(1, (str a1)), (2, (Value.int .i64 a2)), (3, (Value.int .i64 a3)), (4, (ptr g1 0)), (8, (ptr g2 0)), (39, (Value.bool true))] (by decide) ⟨rfl, rfl, rfl, rfl, rfl, rfl, trivial⟩)
          · replace h := bif_f hb22 h
            refine al_val (ov_move rfl rfl) ?_
            refine al_val (ov_int rfl rfl rfl rfl) ?_
            refine al_val (ov_pick_f rfl rfl rfl) ?_
            refine al_val (ov_move rfl rfl) ?_
            refine al_caseB 36 rfl (fun hb23 => ?_) (fun hb23 => ?_)
            · replace h := bif_t hb23 h
              refine al_skip ?_
              refine al_skip ?_
              refine al_val (ov_pick_t rfl rfl rfl) ?_
              refine al_nil ?_
              exact aq_join true h (fun w a hm hs => norm hm hs [1, 0] [] [(1, (str a1)), (2, (Value.int .i64 a2)), (3, (Value.int .i64 a3)), (4, (ptr g1 0)), (8, (ptr g2 0)), (39, (Value.bool true))] (by decide) ⟨rfl, rfl, rfl, rfl, rfl, rfl, trivial⟩)
            · replace h := bif_f hb23 h
              refine al_val (ov_move rfl rfl) ?_
              refine al_val (ov_int rfl rfl rfl rfl) ?_
              refine al_val (ov_pick_f rfl rfl rfl) ?_
              refine al_nil ?_
              exact aq_join (decide (a3 > (1000 : Int))) h (fun w a hm hs => norm hm hs [1, 0] [] [(1, (str a1)), (2, (Value.int .i64 a2)), (3, (Value.int .i64 a3)), (4, (ptr g1 0)), (8, (ptr g2 0)), (39, (Value.bool (decide (a3 > (1000 : Int)))))] (by decide) ⟨rfl, rfl, rfl, rfl, rfl, rfl, trivial⟩)
def f_lease_Give (fu : Nat) (a0 : S_api_Lease) (a1 : Int) (a2 : Int) : Option (S_api_Lease × Int) := (opt (f_lease_Check fu a0) fun (r4 : Int) => (bif (r4 != (0 : Int)) then (some ((S_api_Lease.mk ([] : List UInt8) (0 : Int) (0 : Int)), r4)) else (opt (f_lease_right fu a2) fun (r7 : Bool) => (bif (!r7) then (some ((S_api_Lease.mk ([] : List UInt8) (0 : Int) (0 : Int)), (1 : Int))) else (lt (fun (j9b20 : Bool) => (bif j9b20 then (some ((S_api_Lease.mk ([] : List UInt8) (0 : Int) (0 : Int)), (16 : Int))) else (some ((S_api_Lease.mk ([] : List UInt8) (if a2 < a0.Until then a2 else a0.Until) a0.Token), (0 : Int))))) fun (kk10 : Bool → Option (S_api_Lease × Int)) => (bif (a0.Who == ([] : List UInt8)) then (kk10 true) else (kk10 (a1 != a0.Token))))))))
set_option maxRecDepth 100000 in
theorem f_lease_Give_ok (fu : Nat) (a0 : S_api_Lease) (a1 : Int) (a2 : Int) {r : (S_api_Lease × Int)} (h : f_lease_Give fu a0 a1 a2 = some r) : FnOk Tryd.prog 12 [(ag [(str a0.Who), (Value.int .i64 a0.Until), (Value.int .i64 a0.Token)]), (Value.int .i64 a1), (Value.int .i64 a2)] [uTabs] [] (fun (i : Unit) => { val := (Value.tuple #[(ag [(str r.1.Who), (Value.int .i64 r.1.Until), (Value.int .i64 r.1.Token)]), (Value.int .i64 r.2)]) }) := by
  unfold f_lease_Give at h
  refine fn_enter Tryd.func12 rfl Tryd.ntmps12 rfl (fun w0 Z0 => ?_)
  refine aw_seq ?_
  refine aw_region ?_
  refine al_box (vs := [(str a0.Who), (Value.int .i64 a0.Until), (Value.int .i64 a0.Token)]) rfl (cv_rfl rfl) rfl (fun g1 => ?_)
  refine al_alloc (zs := [(str ([] : List UInt8)), (Value.int .i64 (0 : Int)), (Value.int .i64 (0 : Int))]) (zeroOf_to to23) rfl rfl (fun g2 => ?_)
  refine al_val (ov_assign rfl rfl) ?_
  refine al_nil ?_
  refine aq_then ?_
  refine aw_seq ?_
  refine aw_seq ?_
  refine aw_region ?_
  refine al_val (ov_load (i := 1) (v := (ag [(str a0.Who), (Value.int .i64 a0.Until), (Value.int .i64 a0.Token)])) rfl rfl Tryd.underlying23 sz23 rfl rfl rfl rfl) ?_
  obtain ⟨r4, hc3, h⟩ := opt_some h
  refine al_call (vs := [(ag [(str a0.Who), (Value.int .i64 a0.Until), (Value.int .i64 a0.Token)])]) (f_lease_Check_ok fu a0 hc3) [] [] [0, 1] (pre_fz 0 rfl pre_nil) rfl (by simp) (by decide) (.inl rfl) rfl Tryd.func14 rfl rfl rfl (fun _ => ?_)
  refine al_val (ov_assign rfl rfl) ?_
  refine al_nil ?_
  refine aq_then ?_
  refine aw_seq ?_
  refine aw_region ?_
  refine al_val (ov_move rfl rfl) ?_
  refine al_val (ov_int rfl rfl rfl rfl) ?_
  refine al_nil ?_
  refine aq_then ?_
  refine aw_cond rfl (fun hb5 => ?_) (fun hb5 => ?_)
  · replace h := bif_t hb5 h
    refine aw_seq ?_
    refine aw_region ?_
    refine al_val (ov_build (cells := ([(str ([] : List UInt8)), (Value.int .i64 (0 : Int)), (Value.int .i64 (0 : Int))]).toArray) (cs := [(str ([] : List UInt8)), (Value.int .i64 (0 : Int)), (Value.int .i64 (0 : Int))]) rfl (fun w a hm hs => by simp only [List.map_toArray, List.map_cons, List.map_nil, List.toList_toArray]; kernel_rfl)) ?_
    refine al_val (ov_move rfl rfl) ?_
    refine al_store (i := 0) (vs := [(str ([] : List UInt8)), (Value.int .i64 (0 : Int)), (Value.int .i64 (0 : Int))]) (cs' := [(str ([] : List UInt8)), (Value.int .i64 (0 : Int)), (Value.int .i64 (0 : Int))]) rfl rfl rfl sz23 (cv_rfl rfl) rfl (co_val rfl (co_val rfl (co_val rfl co_nil))) (Nat.le_of_ble_eq_true rfl) rfl rfl ?_
    refine al_val (ov_assign rfl rfl) ?_
    refine al_nil ?_
    refine aq_then ?_
    refine aw_ret ?_
    refine aq_then_ret ?_
    obtain rfl := Option.some.inj h
    exact fn_ret () [] [] rfl rfl rfl rfl (resC rfl (resB (i := 0) rfl rfl Tryd.underlying23 sz23 rfl rfl rfl (resT rfl (resN))) rfl) rfl rfl rfl (by decide)
  · replace h := bif_f hb5 h
    refine aw_skip ?_
    refine aq_then ?_
    refine aw_seq ?_
    refine aw_block ?_
    refine aw_seq ?_
    refine aw_region ?_
    refine al_val (ov_move rfl rfl) ?_
    obtain ⟨r7, hc6, h⟩ := opt_some h
    refine al_call (vs := [(Value.int .i64 a2)]) (f_lease_right_ok fu a2 hc6) [] [] [0, 1] pre_nil rfl (by simp) (by decide) (.inl rfl) rfl Tryd.func42 rfl rfl rfl (fun _ => ?_)
    refine al_val (ov_not rfl rfl) ?_
    refine al_val (ov_assign rfl rfl) ?_
    refine al_nil ?_
    refine aq_then ?_
    refine aw_cond rfl (fun hb8 => ?_) (fun hb8 => ?_)
    · replace h := bif_t hb8 h
      refine aw_seq ?_
      refine aw_region ?_
      refine al_val (ov_build (cells := ([(str ([] : List UInt8)), (Value.int .i64 (0 : Int)), (Value.int .i64 (0 : Int))]).toArray) (cs := [(str ([] : List UInt8)), (Value.int .i64 (0 : Int)), (Value.int .i64 (0 : Int))]) rfl (fun w a hm hs => by simp only [List.map_toArray, List.map_cons, List.map_nil, List.toList_toArray]; kernel_rfl)) ?_
      refine al_store (i := 0) (vs := [(str ([] : List UInt8)), (Value.int .i64 (0 : Int)), (Value.int .i64 (0 : Int))]) (cs' := [(str ([] : List UInt8)), (Value.int .i64 (0 : Int)), (Value.int .i64 (0 : Int))]) rfl rfl rfl sz23 (cv_rfl rfl) rfl (co_val rfl (co_val rfl (co_val rfl co_nil))) (Nat.le_of_ble_eq_true rfl) rfl rfl ?_
      refine al_val (ov_assign rfl rfl) ?_
      refine al_nil ?_
      refine aq_then ?_
      refine aw_ret ?_
      refine aq_block_ret ?_
      refine aq_then_ret ?_
      obtain rfl := Option.some.inj h
      exact fn_ret () [] [] rfl rfl rfl rfl (resC rfl (resB (i := 0) rfl rfl Tryd.underlying23 sz23 rfl rfl rfl (resT rfl (resN))) rfl) rfl rfl rfl (by decide)
    · replace h := bif_f hb8 h
      obtain ⟨kk10, hkk10, h⟩ := lt_some h
      refine aw_seq_join (ι := Bool) (fun i => (memOf w0 Z0 [] [(oBox g1 23 [(str a0.Who), (Value.int .i64 a0.Until), (Value.int .i64 a0.Token)]), (oBox g2 23 [(str ([] : List UInt8)), (Value.int .i64 (0 : Int)), (Value.int .i64 (0 : Int))])] [uTabs])) (fun i => (tab [(2, (Value.int .i64 a2)), (3, (ptr g1 0)), (6, (ptr g2 0)), (20, (Value.bool i))])) (fun i => kk10 i = some r) ?_ ?_
      · rintro j9b20 h
        have h : kk10 j9b20 = some r := h
        rw [hkk10] at h
        dsimp only at h
        clear hkk10
        refine aw_show (m := (memOf w0 Z0 [] [(oBox g1 23 [(str a0.Who), (Value.int .i64 a0.Until), (Value.int .i64 a0.Token)]), (oBox g2 23 [(str ([] : List UInt8)), (Value.int .i64 (0 : Int)), (Value.int .i64 (0 : Int))])] [uTabs])) (S := (tab [(2, (Value.int .i64 a2)), (3, (ptr g1 0)), (6, (ptr g2 0)), (20, (Value.bool j9b20))])) ?_
        refine aw_cond rfl (fun hb11 => ?_) (fun hb11 => ?_)
        · replace h := bif_t hb11 h
          refine aw_seq ?_
          refine aw_region ?_
          refine al_val (ov_build (cells := ([(str ([] : List UInt8)), (Value.int .i64 (0 : Int)), (Value.int .i64 (0 : Int))]).toArray) (cs := [(str ([] : List UInt8)), (Value.int .i64 (0 : Int)), (Value.int .i64 (0 : Int))]) rfl (fun w a hm hs => by simp only [List.map_toArray, List.map_cons, List.map_nil, List.toList_toArray]; kernel_rfl)) ?_
          refine al_store (i := 1) (vs := [(str ([] : List UInt8)), (Value.int .i64 (0 : Int)), (Value.int .i64 (0 : Int))]) (cs' := [(str ([] : List UInt8)), (Value.int .i64 (0 : Int)), (Value.int .i64 (0 : Int))]) rfl rfl rfl sz23 (cv_rfl rfl) rfl (co_val rfl (co_val rfl (co_val rfl co_nil))) (Nat.le_of_ble_eq_true rfl) rfl rfl ?_
          refine al_val (ov_assign rfl rfl) ?_
          refine al_nil ?_
          refine aq_then ?_
          refine aw_ret ?_
          refine aq_block_ret ?_
          refine aq_then_ret ?_
          obtain rfl := Option.some.inj h
          exact fn_ret () [] [] rfl rfl rfl rfl (resC rfl (resB (i := 1) rfl rfl Tryd.underlying23 sz23 rfl rfl rfl (resT rfl (resN))) rfl) rfl rfl rfl (by decide)
        · replace h := bif_f hb11 h
          refine aw_skip ?_
          refine aq_block ?_
          refine aq_then ?_
          refine aw_seq ?_
          refine aw_region ?_
          refine al_val (ov_fieldA (p := 1) rfl Tryd.underlying23 rfl sz3 rfl rfl rfl) ?_
          refine al_val (ov_load (i := 0) (v := (Value.int .i64 a0.Until)) rfl rfl Tryd.underlying3 sz3 rfl rfl rfl rfl) ?_
          refine al_val (ov_move rfl rfl) ?_
          refine al_val (ov_min rfl rfl rfl) ?_
          refine al_val (ov_fieldA (p := 2) rfl Tryd.underlying23 rfl sz3 rfl rfl rfl) ?_
          refine al_val (ov_load (i := 0) (v := (Value.int .i64 a0.Token)) rfl rfl Tryd.underlying3 sz3 rfl rfl rfl rfl) ?_
          refine al_val (ov_build (cells := ([(str ([] : List UInt8)), (Value.int .i64 (if a2 < a0.Until then a2 else a0.Until)), (Value.int .i64 a0.Token)]).toArray) (cs := [(str ([] : List UInt8)), (Value.int .i64 (if a2 < a0.Until then a2 else a0.Until)), (Value.int .i64 a0.Token)]) rfl (fun w a hm hs => by simp only [List.map_toArray, List.map_cons, List.map_nil, List.toList_toArray, hs.ev (x := .tmp 34) rfl, hs.ev (x := .tmp 36) rfl]; kernel_rfl)) ?_
          refine al_store (i := 1) (vs := [(str ([] : List UInt8)), (Value.int .i64 (if a2 < a0.Until then a2 else a0.Until)), (Value.int .i64 a0.Token)]) (cs' := [(str ([] : List UInt8)), (Value.int .i64 (if a2 < a0.Until then a2 else a0.Until)), (Value.int .i64 a0.Token)]) rfl rfl rfl sz23 (cv_rfl rfl) rfl (co_val rfl (co_val rfl (co_val rfl co_nil))) (Nat.le_of_ble_eq_true rfl) rfl rfl ?_
          refine al_val (ov_assign rfl rfl) ?_
          refine al_nil ?_
          refine aq_then ?_
          refine aw_ret ?_
          obtain rfl := Option.some.inj h
          exact fn_ret () [] [] rfl rfl rfl rfl (resC rfl (resB (i := 1) rfl rfl Tryd.underlying23 sz23 rfl rfl rfl (resT rfl (resN))) rfl) rfl rfl rfl (by decide)
      · clear hkk10
        refine aw_region ?_
        refine al_val (ov_fieldA (p := 0) rfl Tryd.underlying23 rfl sz9 rfl rfl rfl) ?_
        refine al_val (ov_load (i := 1) (v := (str a0.Who)) rfl rfl Tryd.underlying9 sz9 rfl rfl rfl rfl) ?_
        refine al_val (ov_strCmp rfl rfl rfl rfl) ?_
        refine al_val (ov_move rfl rfl) ?_
        refine al_caseB 24 rfl (fun hb12 => ?_) (fun hb12 => ?_)
        · replace h := bif_t hb12 h
          refine al_skip ?_
          refine al_skip ?_
          refine al_skip ?_
          refine al_skip ?_
          refine al_val (ov_pick_t rfl rfl rfl) ?_
          refine al_val (ov_assign rfl rfl) ?_
          refine al_nil ?_
          exact aq_join true h (fun w a hm hs => norm hm hs [1, 0] [0] [(2, (Value.int .i64 a2)), (3, (ptr g1 0)), (6, (ptr g2 0)), (20, (Value.bool true))] (by decide) ⟨rfl, rfl, rfl, rfl, trivial⟩)
        · replace h := bif_f hb12 h
          refine al_val (ov_move rfl rfl) ?_
          refine al_val (ov_fieldA (p := 2) rfl Tryd.underlying23 rfl sz3 rfl rfl rfl) ?_
          refine al_val (ov_load (i := 1) (v := (Value.int .i64 a0.Token)) rfl rfl Tryd.underlying3 sz3 rfl rfl rfl rfl) ?_
          refine al_val (ov_int rfl rfl rfl rfl) ?_
          refine al_val (ov_pick_f rfl rfl rfl) ?_
          refine al_val (ov_assign rfl rfl) ?_
          refine al_nil ?_
          exact aq_join (a1 != a0.Token) h (fun w a hm hs => norm hm hs [1, 0] [0] [(2, (Value.int .i64 a2)), (3, (ptr g1 0)), (6, (ptr g2 0)), (20, (Value.bool (a1 != a0.Token)))] (by decide) ⟨rfl, rfl, rfl, rfl, trivial⟩)
def f_lumref_Give (fu : Nat) (a0 : S_api_Lease) (a1 : Int) (a2 : Int) : Option (S_api_Lease × Int) := (opt (f_lumref_Lease fu a0) fun (r4 : Int) => (bif (r4 != (0 : Int)) then (some ((S_api_Lease.mk ([] : List UInt8) (0 : Int) (0 : Int)), r4)) else (lt (fun (j6b20 : Bool) => (bif j6b20 then (some ((S_api_Lease.mk ([] : List UInt8) (0 : Int) (0 : Int)), (1 : Int))) else (lt (fun (j9b30 : Bool) => (bif j9b30 then (some ((S_api_Lease.mk ([] : List UInt8) (0 : Int) (0 : Int)), (16 : Int))) else (some ((S_api_Lease.mk ([] : List UInt8) (if a0.Until < a2 then a0.Until else a2) a1), (0 : Int))))) fun (kk10 : Bool → Option (S_api_Lease × Int)) => (bif (a0.Who == ([] : List UInt8)) then (kk10 true) else (kk10 (a0.Token != a1)))))) fun (kk7 : Bool → Option (S_api_Lease × Int)) => (bif (decide (a2 < (0 : Int))) then (kk7 true) else (kk7 (decide (a2 > (549755813888 : Int))))))))
set_option maxRecDepth 100000 in
theorem f_lumref_Give_ok (fu : Nat) (a0 : S_api_Lease) (a1 : Int) (a2 : Int) {r : (S_api_Lease × Int)} (h : f_lumref_Give fu a0 a1 a2 = some r) : FnOk Tryd.prog 13 [(ag [(str a0.Who), (Value.int .i64 a0.Until), (Value.int .i64 a0.Token)]), (Value.int .i64 a1), (Value.int .i64 a2)] [] [] (fun (i : Unit) => { val := (Value.tuple #[(ag [(str r.1.Who), (Value.int .i64 r.1.Until), (Value.int .i64 r.1.Token)]), (Value.int .i64 r.2)]) }) := by
  unfold f_lumref_Give at h
  refine fn_enter Tryd.func13 rfl Tryd.ntmps13 rfl (fun w0 Z0 => ?_)
  refine aw_seq ?_
  refine aw_region ?_
  refine al_box (vs := [(str a0.Who), (Value.int .i64 a0.Until), (Value.int .i64 a0.Token)]) rfl (cv_rfl rfl) rfl (fun g1 => ?_)
  refine al_alloc (zs := [(str ([] : List UInt8)), (Value.int .i64 (0 : Int)), (Value.int .i64 (0 : Int))]) (zeroOf_to to23) rfl rfl (fun g2 => ?_)
  refine al_val (ov_assign rfl rfl) ?_
  refine al_nil ?_
  refine aq_then ?_
  refine aw_seq ?_
  refine aw_seq ?_
  refine aw_region ?_
  refine al_val (ov_load (i := 1) (v := (ag [(str a0.Who), (Value.int .i64 a0.Until), (Value.int .i64 a0.Token)])) rfl rfl Tryd.underlying23 sz23 rfl rfl rfl rfl) ?_
  obtain ⟨r4, hc3, h⟩ := opt_some h
  refine al_call (vs := [(ag [(str a0.Who), (Value.int .i64 a0.Until), (Value.int .i64 a0.Token)])]) (f_lumref_Lease_ok fu a0 hc3) [] [] [0, 1] pre_nil rfl (by simp) (by decide) (.inl rfl) rfl Tryd.func15 rfl rfl rfl (fun _ => ?_)
  refine al_val (ov_assign rfl rfl) ?_
  refine al_nil ?_
  refine aq_then ?_
  refine aw_seq ?_
  refine aw_region ?_
  refine al_val (ov_move rfl rfl) ?_
  refine al_val (ov_int rfl rfl rfl rfl) ?_
  refine al_nil ?_
  refine aq_then ?_
  refine aw_cond rfl (fun hb5 => ?_) (fun hb5 => ?_)
  · replace h := bif_t hb5 h
    refine aw_seq ?_
    refine aw_region ?_
    refine al_val (ov_build (cells := ([(str ([] : List UInt8)), (Value.int .i64 (0 : Int)), (Value.int .i64 (0 : Int))]).toArray) (cs := [(str ([] : List UInt8)), (Value.int .i64 (0 : Int)), (Value.int .i64 (0 : Int))]) rfl (fun w a hm hs => by simp only [List.map_toArray, List.map_cons, List.map_nil, List.toList_toArray]; kernel_rfl)) ?_
    refine al_val (ov_move rfl rfl) ?_
    refine al_store (i := 0) (vs := [(str ([] : List UInt8)), (Value.int .i64 (0 : Int)), (Value.int .i64 (0 : Int))]) (cs' := [(str ([] : List UInt8)), (Value.int .i64 (0 : Int)), (Value.int .i64 (0 : Int))]) rfl rfl rfl sz23 (cv_rfl rfl) rfl (co_val rfl (co_val rfl (co_val rfl co_nil))) (Nat.le_of_ble_eq_true rfl) rfl rfl ?_
    refine al_val (ov_assign rfl rfl) ?_
    refine al_nil ?_
    refine aq_then ?_
    refine aw_ret ?_
    refine aq_then_ret ?_
    obtain rfl := Option.some.inj h
    exact fn_ret () [] [] rfl rfl rfl rfl (resC rfl (resB (i := 0) rfl rfl Tryd.underlying23 sz23 rfl rfl rfl (resT rfl (resN))) rfl) rfl rfl rfl (by decide)
  · replace h := bif_f hb5 h
    refine aw_skip ?_
    refine aq_then ?_
    refine aw_seq ?_
    obtain ⟨kk7, hkk7, h⟩ := lt_some h
    refine aw_seq_join (ι := Bool) (fun i => (memOf w0 Z0 [] [(oBox g1 23 [(str a0.Who), (Value.int .i64 a0.Until), (Value.int .i64 a0.Token)]), (oBox g2 23 [(str ([] : List UInt8)), (Value.int .i64 (0 : Int)), (Value.int .i64 (0 : Int))])] [])) (fun i => (tab [(1, (Value.int .i64 a1)), (2, (Value.int .i64 a2)), (3, (ptr g1 0)), (6, (ptr g2 0)), (20, (Value.bool i))])) (fun i => kk7 i = some r) ?_ ?_
    · rintro j6b20 h
      have h : kk7 j6b20 = some r := h
      rw [hkk7] at h
      dsimp only at h
      clear hkk7
      refine aw_show (m := (memOf w0 Z0 [] [(oBox g1 23 [(str a0.Who), (Value.int .i64 a0.Until), (Value.int .i64 a0.Token)]), (oBox g2 23 [(str ([] : List UInt8)), (Value.int .i64 (0 : Int)), (Value.int .i64 (0 : Int))])] [])) (S := (tab [(1, (Value.int .i64 a1)), (2, (Value.int .i64 a2)), (3, (ptr g1 0)), (6, (ptr g2 0)), (20, (Value.bool j6b20))])) ?_
      refine aw_cond rfl (fun hb8 => ?_) (fun hb8 => ?_)
      · replace h := bif_t hb8 h
        refine aw_seq ?_
        refine aw_region ?_
        refine al_val (ov_build (cells := ([(str ([] : List UInt8)), (Value.int .i64 (0 : Int)), (Value.int .i64 (0 : Int))]).toArray) (cs := [(str ([] : List UInt8)), (Value.int .i64 (0 : Int)), (Value.int .i64 (0 : Int))]) rfl (fun w a hm hs => by simp only [List.map_toArray, List.map_cons, List.map_nil, List.toList_toArray]; kernel_rfl)) ?_
        refine al_store (i := 1) (vs := [(str ([] : List UInt8)), (Value.int .i64 (0 : Int)), (Value.int .i64 (0 : Int))]) (cs' := [(str ([] : List UInt8)), (Value.int .i64 (0 : Int)), (Value.int .i64 (0 : Int))]) rfl rfl rfl sz23 (cv_rfl rfl) rfl (co_val rfl (co_val rfl (co_val rfl co_nil))) (Nat.le_of_ble_eq_true rfl) rfl rfl ?_
        refine al_val (ov_assign rfl rfl) ?_
        refine al_nil ?_
        refine aq_then ?_
        refine aw_ret ?_
        refine aq_then_ret ?_
        obtain rfl := Option.some.inj h
        exact fn_ret () [] [] rfl rfl rfl rfl (resC rfl (resB (i := 1) rfl rfl Tryd.underlying23 sz23 rfl rfl rfl (resT rfl (resN))) rfl) rfl rfl rfl (by decide)
      · replace h := bif_f hb8 h
        refine aw_skip ?_
        refine aq_then ?_
        refine aw_seq ?_
        obtain ⟨kk10, hkk10, h⟩ := lt_some h
        refine aw_seq_join (ι := Bool) (fun i => (memOf w0 Z0 [] [(oBox g1 23 [(str a0.Who), (Value.int .i64 a0.Until), (Value.int .i64 a0.Token)]), (oBox g2 23 [(str ([] : List UInt8)), (Value.int .i64 (0 : Int)), (Value.int .i64 (0 : Int))])] [])) (fun i => (tab [(1, (Value.int .i64 a1)), (2, (Value.int .i64 a2)), (3, (ptr g1 0)), (6, (ptr g2 0)), (30, (Value.bool i))])) (fun i => kk10 i = some r) ?_ ?_
        · rintro j9b30 h
          have h : kk10 j9b30 = some r := h
          rw [hkk10] at h
          dsimp only at h
          clear hkk10
          refine aw_show (m := (memOf w0 Z0 [] [(oBox g1 23 [(str a0.Who), (Value.int .i64 a0.Until), (Value.int .i64 a0.Token)]), (oBox g2 23 [(str ([] : List UInt8)), (Value.int .i64 (0 : Int)), (Value.int .i64 (0 : Int))])] [])) (S := (tab [(1, (Value.int .i64 a1)), (2, (Value.int .i64 a2)), (3, (ptr g1 0)), (6, (ptr g2 0)), (30, (Value.bool j9b30))])) ?_
          refine aw_cond rfl (fun hb11 => ?_) (fun hb11 => ?_)
          · replace h := bif_t hb11 h
            refine aw_seq ?_
            refine aw_region ?_
            refine al_val (ov_build (cells := ([(str ([] : List UInt8)), (Value.int .i64 (0 : Int)), (Value.int .i64 (0 : Int))]).toArray) (cs := [(str ([] : List UInt8)), (Value.int .i64 (0 : Int)), (Value.int .i64 (0 : Int))]) rfl (fun w a hm hs => by simp only [List.map_toArray, List.map_cons, List.map_nil, List.toList_toArray]; kernel_rfl)) ?_
            refine al_store (i := 1) (vs := [(str ([] : List UInt8)), (Value.int .i64 (0 : Int)), (Value.int .i64 (0 : Int))]) (cs' := [(str ([] : List UInt8)), (Value.int .i64 (0 : Int)), (Value.int .i64 (0 : Int))]) rfl rfl rfl sz23 (cv_rfl rfl) rfl (co_val rfl (co_val rfl (co_val rfl co_nil))) (Nat.le_of_ble_eq_true rfl) rfl rfl ?_
            refine al_val (ov_assign rfl rfl) ?_
            refine al_nil ?_
            refine aq_then ?_
            refine aw_ret ?_
            refine aq_then_ret ?_
            obtain rfl := Option.some.inj h
            exact fn_ret () [] [] rfl rfl rfl rfl (resC rfl (resB (i := 1) rfl rfl Tryd.underlying23 sz23 rfl rfl rfl (resT rfl (resN))) rfl) rfl rfl rfl (by decide)
          · replace h := bif_f hb11 h
            refine aw_skip ?_
            refine aq_then ?_
            refine aw_seq ?_
            refine aw_region ?_
            refine al_val (ov_move rfl rfl) ?_
            refine al_val (ov_fieldA (p := 1) rfl Tryd.underlying23 rfl sz3 rfl rfl rfl) ?_
            refine al_val (ov_load (i := 0) (v := (Value.int .i64 a0.Until)) rfl rfl Tryd.underlying3 sz3 rfl rfl rfl rfl) ?_
            refine al_val (ov_min rfl rfl rfl) ?_
            refine al_val (ov_move rfl rfl) ?_
            refine al_val (ov_build (cells := ([(str ([] : List UInt8)), (Value.int .i64 (if a0.Until < a2 then a0.Until else a2)), (Value.int .i64 a1)]).toArray) (cs := [(str ([] : List UInt8)), (Value.int .i64 (if a0.Until < a2 then a0.Until else a2)), (Value.int .i64 a1)]) rfl (fun w a hm hs => by simp only [List.map_toArray, List.map_cons, List.map_nil, List.toList_toArray, hs.ev (x := .tmp 35) rfl, hs.ev (x := .tmp 36) rfl]; kernel_rfl)) ?_
            refine al_store (i := 1) (vs := [(str ([] : List UInt8)), (Value.int .i64 (if a0.Until < a2 then a0.Until else a2)), (Value.int .i64 a1)]) (cs' := [(str ([] : List UInt8)), (Value.int .i64 (if a0.Until < a2 then a0.Until else a2)), (Value.int .i64 a1)]) rfl rfl rfl sz23 (cv_rfl rfl) rfl (co_val rfl (co_val rfl (co_val rfl co_nil))) (Nat.le_of_ble_eq_true rfl) rfl rfl ?_
            refine al_val (ov_assign rfl rfl) ?_
            refine al_nil ?_
            refine aq_then ?_
            refine aw_ret ?_
            obtain rfl := Option.some.inj h
            exact fn_ret () [] [] rfl rfl rfl rfl (resC rfl (resB (i := 1) rfl rfl Tryd.underlying23 sz23 rfl rfl rfl (resT rfl (resN))) rfl) rfl rfl rfl (by decide)
        · clear hkk10
          refine aw_region ?_
          refine al_val (ov_fieldA (p := 0) rfl Tryd.underlying23 rfl sz9 rfl rfl rfl) ?_
          refine al_val (ov_load (i := 0) (v := (str a0.Who)) rfl rfl Tryd.underlying9 sz9 rfl rfl rfl rfl) ?_
          refine al_val (ov_strCmp rfl rfl rfl rfl) ?_
          refine al_val (ov_move rfl rfl) ?_
          refine al_caseB 25 rfl (fun hb12 => ?_) (fun hb12 => ?_)
          · replace h := bif_t hb12 h
            refine al_skip ?_
            refine al_skip ?_
            refine al_skip ?_
            refine al_skip ?_
            refine al_val (ov_pick_t rfl rfl rfl) ?_
            refine al_nil ?_
            exact aq_join true h (fun w a hm hs => norm hm hs [0, 1] [] [(1, (Value.int .i64 a1)), (2, (Value.int .i64 a2)), (3, (ptr g1 0)), (6, (ptr g2 0)), (30, (Value.bool true))] (by decide) ⟨rfl, rfl, rfl, rfl, rfl, trivial⟩)
          · replace h := bif_f hb12 h
            refine al_val (ov_fieldA (p := 2) rfl Tryd.underlying23 rfl sz3 rfl rfl rfl) ?_
            refine al_val (ov_load (i := 0) (v := (Value.int .i64 a0.Token)) rfl rfl Tryd.underlying3 sz3 rfl rfl rfl rfl) ?_
            refine al_val (ov_move rfl rfl) ?_
            refine al_val (ov_int rfl rfl rfl rfl) ?_
            refine al_val (ov_pick_f rfl rfl rfl) ?_
            refine al_nil ?_
            exact aq_join (a0.Token != a1) h (fun w a hm hs => norm hm hs [0, 1] [] [(1, (Value.int .i64 a1)), (2, (Value.int .i64 a2)), (3, (ptr g1 0)), (6, (ptr g2 0)), (30, (Value.bool (a0.Token != a1)))] (by decide) ⟨rfl, rfl, rfl, rfl, rfl, trivial⟩)
    · clear hkk7
      refine aw_region ?_
      refine al_val (ov_move rfl rfl) ?_
      refine al_val (ov_int rfl rfl rfl rfl) ?_
      refine al_val (ov_move rfl rfl) ?_
      refine al_caseB 17 rfl (fun hb13 => ?_) (fun hb13 => ?_)
      · replace h := bif_t hb13 h
        refine al_skip ?_
        refine al_skip ?_
        refine al_val (ov_pick_t rfl rfl rfl) ?_
        refine al_nil ?_
        exact aq_join true h (fun w a hm hs => norm hm hs [1, 0] [] [(1, (Value.int .i64 a1)), (2, (Value.int .i64 a2)), (3, (ptr g1 0)), (6, (ptr g2 0)), (20, (Value.bool true))] (by decide) ⟨rfl, rfl, rfl, rfl, rfl, trivial⟩)
      · replace h := bif_f hb13 h
        refine al_val (ov_move rfl rfl) ?_
        refine al_val (ov_int rfl rfl rfl rfl) ?_
        refine al_val (ov_pick_f rfl rfl rfl) ?_
        refine al_nil ?_
        exact aq_join (decide (a2 > (549755813888 : Int))) h (fun w a hm hs => norm hm hs [1, 0] [] [(1, (Value.int .i64 a1)), (2, (Value.int .i64 a2)), (3, (ptr g1 0)), (6, (ptr g2 0)), (20, (Value.bool (decide (a2 > (549755813888 : Int)))))] (by decide) ⟨rfl, rfl, rfl, rfl, rfl, trivial⟩)
def f_lumlaw_LeaseSays (fu : Nat) (a0 : S_api_Lease) (a1 : (List UInt8)) (a2 : Int) (a3 : Int) (a4 : Int) : Option Bool := (opt (f_lease_Ask fu a0 a1 a3 a4) fun (r3 : (S_api_Lease × Int × Int)) => (opt (f_lumref_Ask fu a0 a1 a3 a4) fun (r6 : (S_api_Lease × Int × Int)) => (opt (f_lease_Give fu a0 a2 a3) fun (r9 : (S_api_Lease × Int)) => (opt (f_lumref_Give fu a0 a2 a3) fun (r12 : (S_api_Lease × Int)) => (lt (fun (j14b10 : Bool) => (some j14b10)) fun (kk15 : Bool → Option Bool) => (opt (f_lease_Check fu a0) fun (r17 : Int) => (opt (f_lumref_Lease fu a0) fun (r19 : Int) => (bif (r17 == r19) then (req (r3.1.Who.length ≤ 9223372036854775807) (req ((Lit.int .i64 r3.1.Until).wf = true) (req ((Lit.int .i64 r3.1.Token).wf = true) (req (r6.1.Who.length ≤ 9223372036854775807) (req ((Lit.int .i64 r6.1.Until).wf = true) (req ((Lit.int .i64 r6.1.Token).wf = true) (bif ((S_api_Lease.mk r3.1.Who r3.1.Until r3.1.Token) == (S_api_Lease.mk r6.1.Who r6.1.Until r6.1.Token)) then (bif (r3.2.1 == r6.2.1) then (bif (r3.2.2 == r6.2.2) then (req (r9.1.Who.length ≤ 9223372036854775807) (req ((Lit.int .i64 r9.1.Until).wf = true) (req ((Lit.int .i64 r9.1.Token).wf = true) (req (r12.1.Who.length ≤ 9223372036854775807) (req ((Lit.int .i64 r12.1.Until).wf = true) (req ((Lit.int .i64 r12.1.Token).wf = true) (bif ((S_api_Lease.mk r9.1.Who r9.1.Until r9.1.Token) == (S_api_Lease.mk r12.1.Who r12.1.Until r12.1.Token)) then (kk15 (r9.2 == r12.2)) else (kk15 false)))))))) else (kk15 false)) else (kk15 false)) else (kk15 false)))))))) else (kk15 false)))))))))
set_option maxRecDepth 100000 in
theorem f_lumlaw_LeaseSays_ok (fu : Nat) (a0 : S_api_Lease) (a1 : (List UInt8)) (a2 : Int) (a3 : Int) (a4 : Int) {r : Bool} (h : f_lumlaw_LeaseSays fu a0 a1 a2 a3 a4 = some r) : FnOk Tryd.prog 3 [(ag [(str a0.Who), (Value.int .i64 a0.Until), (Value.int .i64 a0.Token)]), (str a1), (Value.int .i64 a2), (Value.int .i64 a3), (Value.int .i64 a4)] [uTabs] [] (fun (i : Unit) => { val := (Value.bool r) }) := by
  unfold f_lumlaw_LeaseSays at h
  refine fn_enter Tryd.func3 rfl Tryd.ntmps3 rfl (fun w0 Z0 => ?_)
  refine aw_seq ?_
  refine aw_region ?_
  refine al_box (vs := [(str a0.Who), (Value.int .i64 a0.Until), (Value.int .i64 a0.Token)]) rfl (cv_rfl rfl) rfl (fun g1 => ?_)
  refine al_val (ov_assign rfl rfl) ?_
  refine al_nil ?_
  refine aq_then ?_
  refine aw_seq ?_
  refine aw_region ?_
  refine al_val (ov_load (i := 0) (v := (ag [(str a0.Who), (Value.int .i64 a0.Until), (Value.int .i64 a0.Token)])) rfl rfl Tryd.underlying23 sz23 rfl rfl rfl rfl) ?_
  refine al_val (ov_move rfl rfl) ?_
  refine al_val (ov_move rfl rfl) ?_
  refine al_val (ov_move rfl rfl) ?_
  obtain ⟨r3, hc2, h⟩ := opt_some h
  refine al_call (vs := [(ag [(str a0.Who), (Value.int .i64 a0.Until), (Value.int .i64 a0.Token)]), (str a1), (Value.int .i64 a3), (Value.int .i64 a4)]) (f_lease_Ask_ok fu a0 a1 a3 a4 hc2) [] [] [0] (pre_fz 0 rfl pre_nil) rfl (by simp) (by decide) (.inl rfl) rfl Tryd.func10 rfl rfl rfl (fun _ => ?_)
  refine al_val (ov_move rfl rfl) ?_
  refine al_val (ov_extract rfl rfl rfl) ?_
  refine al_val (ov_extract rfl rfl rfl) ?_
  refine al_val (ov_extract rfl rfl rfl) ?_
  refine al_alloc (zs := [(str ([] : List UInt8)), (Value.int .i64 (0 : Int)), (Value.int .i64 (0 : Int))]) (zeroOf_to to23) rfl rfl (fun g4 => ?_)
  refine al_store (i := 0) (vs := [(str r3.1.Who), (Value.int .i64 r3.1.Until), (Value.int .i64 r3.1.Token)]) (cs' := [(str r3.1.Who), (Value.int .i64 r3.1.Until), (Value.int .i64 r3.1.Token)]) rfl rfl rfl sz23 (cv_rfl rfl) rfl (co_val rfl (co_val rfl (co_val rfl co_nil))) (Nat.le_of_ble_eq_true rfl) rfl rfl ?_
  refine al_val (ov_assign rfl rfl) ?_
  refine al_val (ov_assign rfl rfl) ?_
  refine al_nil ?_
  refine aq_then ?_
  refine aw_seq ?_
  refine aw_region ?_
  refine al_val (ov_load (i := 1) (v := (ag [(str a0.Who), (Value.int .i64 a0.Until), (Value.int .i64 a0.Token)])) rfl rfl Tryd.underlying23 sz23 rfl rfl rfl rfl) ?_
  refine al_val (ov_move rfl rfl) ?_
  refine al_val (ov_move rfl rfl) ?_
  refine al_val (ov_move rfl rfl) ?_
  obtain ⟨r6, hc5, h⟩ := opt_some h
  refine al_call (vs := [(ag [(str a0.Who), (Value.int .i64 a0.Until), (Value.int .i64 a0.Token)]), (str a1), (Value.int .i64 a3), (Value.int .i64 a4)]) (f_lumref_Ask_ok fu a0 a1 a3 a4 hc5) [] [] [0, 1] pre_nil rfl (by simp) (by decide) (.inl rfl) rfl Tryd.func11 rfl rfl rfl (fun _ => ?_)
  refine al_val (ov_move rfl rfl) ?_
  refine al_val (ov_extract rfl rfl rfl) ?_
  refine al_val (ov_extract rfl rfl rfl) ?_
  refine al_val (ov_extract rfl rfl rfl) ?_
  refine al_alloc (zs := [(str ([] : List UInt8)), (Value.int .i64 (0 : Int)), (Value.int .i64 (0 : Int))]) (zeroOf_to to23) rfl rfl (fun g7 => ?_)
  refine al_store (i := 0) (vs := [(str r6.1.Who), (Value.int .i64 r6.1.Until), (Value.int .i64 r6.1.Token)]) (cs' := [(str r6.1.Who), (Value.int .i64 r6.1.Until), (Value.int .i64 r6.1.Token)]) rfl rfl rfl sz23 (cv_rfl rfl) rfl (co_val rfl (co_val rfl (co_val rfl co_nil))) (Nat.le_of_ble_eq_true rfl) rfl rfl ?_
  refine al_val (ov_assign rfl rfl) ?_
  refine al_val (ov_assign rfl rfl) ?_
  refine al_nil ?_
  refine aq_then ?_
  refine aw_seq ?_
  refine aw_region ?_
  refine al_val (ov_load (i := 2) (v := (ag [(str a0.Who), (Value.int .i64 a0.Until), (Value.int .i64 a0.Token)])) rfl rfl Tryd.underlying23 sz23 rfl rfl rfl rfl) ?_
  refine al_val (ov_move rfl rfl) ?_
  refine al_val (ov_move rfl rfl) ?_
  obtain ⟨r9, hc8, h⟩ := opt_some h
  refine al_call (vs := [(ag [(str a0.Who), (Value.int .i64 a0.Until), (Value.int .i64 a0.Token)]), (Value.int .i64 a2), (Value.int .i64 a3)]) (f_lease_Give_ok fu a0 a2 a3 hc8) [] [] [0, 1, 2] (pre_fz 0 rfl pre_nil) rfl (by simp) (by decide) (.inl rfl) rfl Tryd.func12 rfl rfl rfl (fun _ => ?_)
  refine al_val (ov_move rfl rfl) ?_
  refine al_val (ov_extract rfl rfl rfl) ?_
  refine al_val (ov_extract rfl rfl rfl) ?_
  refine al_alloc (zs := [(str ([] : List UInt8)), (Value.int .i64 (0 : Int)), (Value.int .i64 (0 : Int))]) (zeroOf_to to23) rfl rfl (fun g10 => ?_)
  refine al_store (i := 0) (vs := [(str r9.1.Who), (Value.int .i64 r9.1.Until), (Value.int .i64 r9.1.Token)]) (cs' := [(str r9.1.Who), (Value.int .i64 r9.1.Until), (Value.int .i64 r9.1.Token)]) rfl rfl rfl sz23 (cv_rfl rfl) rfl (co_val rfl (co_val rfl (co_val rfl co_nil))) (Nat.le_of_ble_eq_true rfl) rfl rfl ?_
  refine al_val (ov_assign rfl rfl) ?_
  refine al_nil ?_
  refine aq_then ?_
  refine aw_seq ?_
  refine aw_region ?_
  refine al_val (ov_load (i := 3) (v := (ag [(str a0.Who), (Value.int .i64 a0.Until), (Value.int .i64 a0.Token)])) rfl rfl Tryd.underlying23 sz23 rfl rfl rfl rfl) ?_
  refine al_val (ov_move rfl rfl) ?_
  refine al_val (ov_move rfl rfl) ?_
  obtain ⟨r12, hc11, h⟩ := opt_some h
  refine al_call (vs := [(ag [(str a0.Who), (Value.int .i64 a0.Until), (Value.int .i64 a0.Token)]), (Value.int .i64 a2), (Value.int .i64 a3)]) (f_lumref_Give_ok fu a0 a2 a3 hc11) [] [] [0, 1, 2, 3] pre_nil rfl (by simp) (by decide) (.inl rfl) rfl Tryd.func13 rfl rfl rfl (fun _ => ?_)
  refine al_val (ov_move rfl rfl) ?_
  refine al_val (ov_extract rfl rfl rfl) ?_
  refine al_val (ov_extract rfl rfl rfl) ?_
  refine al_alloc (zs := [(str ([] : List UInt8)), (Value.int .i64 (0 : Int)), (Value.int .i64 (0 : Int))]) (zeroOf_to to23) rfl rfl (fun g13 => ?_)
  refine al_store (i := 0) (vs := [(str r12.1.Who), (Value.int .i64 r12.1.Until), (Value.int .i64 r12.1.Token)]) (cs' := [(str r12.1.Who), (Value.int .i64 r12.1.Until), (Value.int .i64 r12.1.Token)]) rfl rfl rfl sz23 (cv_rfl rfl) rfl (co_val rfl (co_val rfl (co_val rfl co_nil))) (Nat.le_of_ble_eq_true rfl) rfl rfl ?_
  refine al_val (ov_assign rfl rfl) ?_
  refine al_nil ?_
  refine aq_then ?_
  obtain ⟨kk15, hkk15, h⟩ := lt_some h
  refine aw_seq_join (ι := Bool) (fun i => (memOf w0 Z0 [] [] [uTabs])) (fun i => (tab [(10, (Value.bool i))])) (fun i => kk15 i = some r) ?_ ?_
  · rintro j14b10 h
    have h : kk15 j14b10 = some r := h
    rw [hkk15] at h
    dsimp only at h
    clear hkk15
    refine aw_show (m := (memOf w0 Z0 [] [] [uTabs])) (S := (tab [(10, (Value.bool j14b10))])) ?_
    refine aw_ret ?_
    obtain rfl := Option.some.inj h
    exact fn_ret () [] [] rfl rfl rfl rfl (res1 rfl rfl) rfl rfl rfl (by decide)
  · clear hkk15
    obtain ⟨r17, hc16, h⟩ := opt_some h
    obtain ⟨r19, hc18, h⟩ := opt_some h
    rcases Bool.eq_false_or_eq_true (r17 == r19) with hb20 | hb20
    · replace h := bif_t hb20 h
      obtain ⟨hc21, h⟩ := req_some h
      obtain ⟨hc22, h⟩ := req_some h
      obtain ⟨hc23, h⟩ := req_some h
      obtain ⟨hc24, h⟩ := req_some h
      obtain ⟨hc25, h⟩ := req_some h
      obtain ⟨hc26, h⟩ := req_some h
      rcases Bool.eq_false_or_eq_true ((S_api_Lease.mk r3.1.Who r3.1.Until r3.1.Token) == (S_api_Lease.mk r6.1.Who r6.1.Until r6.1.Token)) with hb27 | hb27
      · replace h := bif_t hb27 h
        rcases Bool.eq_false_or_eq_true (r3.2.1 == r6.2.1) with hb28 | hb28
        · replace h := bif_t hb28 h
          rcases Bool.eq_false_or_eq_true (r3.2.2 == r6.2.2) with hb29 | hb29
          · replace h := bif_t hb29 h
            obtain ⟨hc30, h⟩ := req_some h
            obtain ⟨hc31, h⟩ := req_some h
            obtain ⟨hc32, h⟩ := req_some h
            obtain ⟨hc33, h⟩ := req_some h
            obtain ⟨hc34, h⟩ := req_some h
            obtain ⟨hc35, h⟩ := req_some h
            rcases Bool.eq_false_or_eq_true ((S_api_Lease.mk r9.1.Who r9.1.Until r9.1.Token) == (S_api_Lease.mk r12.1.Who r12.1.Until r12.1.Token)) with hb36 | hb36
            · replace h := bif_t hb36 h
              refine aw_region_draw 30 [(53, (fun u => fEq u (ag [(str a0.Who), (Value.int .i64 a0.Until), (Value.int .i64 a0.Token)]))), (54, (fun u => fEq u (Value.int .i64 r17))), (55, (fun u => fEq u (ag [(str a0.Who), (Value.int .i64 a0.Until), (Value.int .i64 a0.Token)]))), (56, (fun u => fEq u (Value.int .i64 r19))), (57, (fun u => fEq u (Value.bool true))), (58, (fun u => fEq u (Value.bool true))), (59, (fun u => fEq u (ag [(str r3.1.Who), (Value.int .i64 r3.1.Until), (Value.int .i64 r3.1.Token)]))), (60, (fun u => fEq u (ag [(str r6.1.Who), (Value.int .i64 r6.1.Until), (Value.int .i64 r6.1.Token)]))), (61, (fun u => fEq u (Value.bool true))), (62, (fun u => fEq u (Value.bool true))), (63, (fun u => fEq u (Value.bool true))), (64, (fun u => fEq u (Value.int .i64 r3.2.1))), (65, (fun u => fEq u (Value.int .i64 r6.2.1))), (66, (fun u => fEq u (Value.bool true))), (67, (fun u => fEq u (Value.bool true))), (68, (fun u => fEq u (Value.bool true))), (69, (fun u => fEq u (Value.int .i64 r3.2.2))), (70, (fun u => fEq u (Value.int .i64 r6.2.2))), (71, (fun u => fEq u (Value.bool true))), (72, (fun u => fEq u (Value.bool true))), (73, (fun u => fEq u (Value.bool true))), (74, (fun u => fEq u (ag [(str r9.1.Who), (Value.int .i64 r9.1.Until), (Value.int .i64 r9.1.Token)]))), (75, (fun u => fEq u (ag [(str r12.1.Who), (Value.int .i64 r12.1.Until), (Value.int .i64 r12.1.Token)]))), (76, (fun u => fEq u (Value.bool true))), (77, (fun u => fEq u (Value.bool true))), (78, (fun u => fEq u (Value.bool true))), (79, (fun u => fEq u (Value.int .i64 r9.2))), (80, (fun u => fEq u (Value.int .i64 r12.2))), (81, (fun u => fEq u (Value.bool (r9.2 == r12.2)))), (82, (fun u => fEq u (Value.bool (r9.2 == r12.2))))] (tab [(5, (ptr g1 0)), (10, (Value.bool false)), (11, (ptr g4 0)), (12, (Value.int .i64 r3.2.1)), (13, (Value.int .i64 r3.2.2)), (14, (ptr g7 0)), (15, (Value.int .i64 r6.2.1)), (16, (Value.int .i64 r6.2.2)), (17, (ptr g10 0)), (18, (Value.int .i64 r9.2)), (19, (ptr g13 0)), (20, (Value.int .i64 r12.2))]) mixed (by kernel_rfl) rfl rfl rfl (fun a hs => hs.tab _ (allT_mem ⟨rfl, rfl, rfl, rfl, rfl, rfl, rfl, rfl, rfl, rfl, rfl, rfl, trivial⟩)) ⟨⟨rfl, ld_val (ov_load (i := 4) (v := (ag [(str a0.Who), (Value.int .i64 a0.Until), (Value.int .i64 a0.Token)])) rfl rfl Tryd.underlying23 sz23 rfl rfl rfl rfl)⟩, ⟨rfl, ld_eq (j := 0) rfl rfl (ld_callV (vs := [(ag [(str a0.Who), (Value.int .i64 a0.Until), (Value.int .i64 a0.Token)])]) (f_lease_Check_ok fu a0 hc16) [] (pre_fz 0 rfl pre_nil) rfl Tryd.func14 rfl rfl rfl)⟩, ⟨rfl, ld_val (ov_load (i := 4) (v := (ag [(str a0.Who), (Value.int .i64 a0.Until), (Value.int .i64 a0.Token)])) rfl rfl Tryd.underlying23 sz23 rfl rfl rfl rfl)⟩, ⟨rfl, ld_eq (j := 2) rfl rfl (ld_callV (vs := [(ag [(str a0.Who), (Value.int .i64 a0.Until), (Value.int .i64 a0.Token)])]) (f_lumref_Lease_ok fu a0 hc18) [] pre_nil rfl Tryd.func15 rfl rfl rfl)⟩, ⟨rfl, ld_eq (j := 1) rfl rfl (ld_eq (j := 3) rfl rfl (ld_val (ov_cast (by first | rw [hb20] | rfl) (ov_int rfl rfl rfl rfl))))⟩, ⟨rfl, ld_eq (j := 4) rfl rfl (ld_val (ov_cast (by first | rw [hb20] | rfl) (ov_move rfl rfl)))⟩, ⟨rfl, ld_eq (j := 5) rfl rfl (ld_val (ov_load (i := 3) (v := (ag [(str r3.1.Who), (Value.int .i64 r3.1.Until), (Value.int .i64 r3.1.Token)])) rfl rfl Tryd.underlying23 sz23 rfl rfl rfl rfl))⟩, ⟨rfl, ld_eq (j := 5) rfl rfl (ld_val (ov_load (i := 2) (v := (ag [(str r6.1.Who), (Value.int .i64 r6.1.Until), (Value.int .i64 r6.1.Token)])) rfl rfl Tryd.underlying23 sz23 rfl rfl rfl rfl))⟩, ⟨rfl, ld_eq (j := 5) rfl rfl (ld_eq (j := 6) rfl rfl (ld_eq (j := 7) rfl rfl (ld_val (ov_cast (by first | rw [hb27] | rfl) (ov_eqlA (cs := [(str r3.1.Who), (Value.int .i64 r3.1.Until), (Value.int .i64 r3.1.Token)]) (ds := [(str r6.1.Who), (Value.int .i64 r6.1.Until), (Value.int .i64 r6.1.Token)]) (ls := [9, 3, 3]) (p := ((S_api_Lease.mk r3.1.Who r3.1.Until r3.1.Token) == (S_api_Lease.mk r6.1.Who r6.1.Until r6.1.Token))) eg23 kt23 lv23 rfl rfl (by kernel_rfl) (by kernel_rfl) (fit_cons (fit_str Tryd.underlying9 hc21) (fit_cons (fit_int Tryd.underlying3 hc22) (fit_cons (fit_int Tryd.underlying3 hc23) fit_nil))) (fit_cons (fit_str Tryd.underlying9 hc24) (fit_cons (fit_int Tryd.underlying3 hc25) (fit_cons (fit_int Tryd.underlying3 hc26) fit_nil))) (injS_api_Lease (x := (S_api_Lease.mk r3.1.Who r3.1.Until r3.1.Token)) (y := (S_api_Lease.mk r6.1.Who r6.1.Until r6.1.Token))) rfl)))))⟩, ⟨rfl, ld_eq (j := 5) rfl rfl (ld_eq (j := 8) rfl rfl (ld_val (ov_cast (by first | rw [hb27] | rfl) (ov_pick_t rfl rfl rfl))))⟩, ⟨rfl, ld_eq (j := 9) rfl rfl (ld_val (ov_cast (by first | rw [hb27] | rfl) (ov_move rfl rfl)))⟩, ⟨rfl, ld_eq (j := 10) rfl rfl (ld_val (ov_move rfl rfl))⟩, ⟨rfl, ld_eq (j := 10) rfl rfl (ld_val (ov_move rfl rfl))⟩, ⟨rfl, ld_eq (j := 10) rfl rfl (ld_eq (j := 11) rfl rfl (ld_eq (j := 12) rfl rfl (ld_val (ov_cast (by first | rw [hb28] | rfl) (ov_int rfl rfl rfl rfl)))))⟩, ⟨rfl, ld_eq (j := 10) rfl rfl (ld_eq (j := 13) rfl rfl (ld_val (ov_cast (by first | rw [hb28] | rfl) (ov_pick_t rfl rfl rfl))))⟩, ⟨rfl, ld_eq (j := 14) rfl rfl (ld_val (ov_cast (by first | rw [hb28] | rfl) (ov_move rfl rfl)))⟩, ⟨rfl, ld_eq (j := 15) rfl rfl (ld_val (ov_move rfl rfl))⟩, ⟨rfl, ld_eq (j := 15) rfl rfl (ld_val (ov_move rfl rfl))⟩, ⟨rfl, ld_eq (j := 15) rfl rfl (ld_eq (j := 16) rfl rfl (ld_eq (j := 17) rfl rfl (ld_val (ov_cast (by first | rw [hb29] | rfl) (ov_int rfl rfl rfl rfl)))))⟩, ⟨rfl, ld_eq (j := 15) rfl rfl (ld_eq (j := 18) rfl rfl (ld_val (ov_cast (by first | rw [hb29] | rfl) (ov_pick_t rfl rfl rfl))))⟩, ⟨rfl, ld_eq (j := 19) rfl rfl (ld_val (ov_cast (by first | rw [hb29] | rfl) (ov_move rfl rfl)))⟩, ⟨rfl, ld_eq (j := 20) rfl rfl (ld_val (ov_load (i := 1) (v := (ag [(str r9.1.Who), (Value.int .i64 r9.1.Until), (Value.int .i64 r9.1.Token)])) rfl rfl Tryd.underlying23 sz23 rfl rfl rfl rfl))⟩, ⟨rfl, ld_eq (j := 20) rfl rfl (ld_val (ov_load (i := 0) (v := (ag [(str r12.1.Who), (Value.int .i64 r12.1.Until), (Value.int .i64 r12.1.Token)])) rfl rfl Tryd.underlying23 sz23 rfl rfl rfl rfl))⟩, ⟨rfl, ld_eq (j := 20) rfl rfl (ld_eq (j := 21) rfl rfl (ld_eq (j := 22) rfl rfl (ld_val (ov_cast (by first | rw [hb36] | rfl) (ov_eqlA (cs := [(str r9.1.Who), (Value.int .i64 r9.1.Until), (Value.int .i64 r9.1.Token)]) (ds := [(str r12.1.Who), (Value.int .i64 r12.1.Until), (Value.int .i64 r12.1.Token)]) (ls := [9, 3, 3]) (p := ((S_api_Lease.mk r9.1.Who r9.1.Until r9.1.Token) == (S_api_Lease.mk r12.1.Who r12.1.Until r12.1.Token))) eg23 kt23 lv23 rfl rfl (by kernel_rfl) (by kernel_rfl) (fit_cons (fit_str Tryd.underlying9 hc30) (fit_cons (fit_int Tryd.underlying3 hc31) (fit_cons (fit_int Tryd.underlying3 hc32) fit_nil))) (fit_cons (fit_str Tryd.underlying9 hc33) (fit_cons (fit_int Tryd.underlying3 hc34) (fit_cons (fit_int Tryd.underlying3 hc35) fit_nil))) (injS_api_Lease (x := (S_api_Lease.mk r9.1.Who r9.1.Until r9.1.Token)) (y := (S_api_Lease.mk r12.1.Who r12.1.Until r12.1.Token))) rfl)))))⟩, ⟨rfl, ld_eq (j := 20) rfl rfl (ld_eq (j := 23) rfl rfl (ld_val (ov_cast (by first | rw [hb36] | rfl) (ov_pick_t rfl rfl rfl))))⟩, ⟨rfl, ld_eq (j := 24) rfl rfl (ld_val (ov_cast (by first | rw [hb36] | rfl) (ov_move rfl rfl)))⟩, ⟨rfl, ld_eq (j := 25) rfl rfl (ld_val (ov_move rfl rfl))⟩, ⟨rfl, ld_eq (j := 25) rfl rfl (ld_val (ov_move rfl rfl))⟩, ⟨rfl, ld_eq (j := 25) rfl rfl (ld_eq (j := 26) rfl rfl (ld_eq (j := 27) rfl rfl (ld_val (ov_int rfl rfl rfl rfl))))⟩, ⟨rfl, ld_eq (j := 25) rfl rfl (ld_eq (j := 28) rfl rfl (ld_val (ov_pick_t rfl rfl rfl)))⟩, trivial⟩ ?_
              refine tl_eq 29 rfl ?_
              refine tl_done ?_
              refine al_val (ov_assign rfl rfl) ?_
              refine al_nil ?_
              exact aq_join (r9.2 == r12.2) h (fun w a hm hs => norm hm hs [] [0] [(10, (Value.bool (r9.2 == r12.2)))] (by decide) ⟨rfl, trivial⟩)
            · replace h := bif_f hb36 h
              refine aw_region_draw 30 [(53, (fun u => fEq u (ag [(str a0.Who), (Value.int .i64 a0.Until), (Value.int .i64 a0.Token)]))), (54, (fun u => fEq u (Value.int .i64 r17))), (55, (fun u => fEq u (ag [(str a0.Who), (Value.int .i64 a0.Until), (Value.int .i64 a0.Token)]))), (56, (fun u => fEq u (Value.int .i64 r19))), (57, (fun u => fEq u (Value.bool true))), (58, (fun u => fEq u (Value.bool true))), (59, (fun u => fEq u (ag [(str r3.1.Who), (Value.int .i64 r3.1.Until), (Value.int .i64 r3.1.Token)]))), (60, (fun u => fEq u (ag [(str r6.1.Who), (Value.int .i64 r6.1.Until), (Value.int .i64 r6.1.Token)]))), (61, (fun u => fEq u (Value.bool true))), (62, (fun u => fEq u (Value.bool true))), (63, (fun u => fEq u (Value.bool true))), (64, (fun u => fEq u (Value.int .i64 r3.2.1))), (65, (fun u => fEq u (Value.int .i64 r6.2.1))), (66, (fun u => fEq u (Value.bool true))), (67, (fun u => fEq u (Value.bool true))), (68, (fun u => fEq u (Value.bool true))), (69, (fun u => fEq u (Value.int .i64 r3.2.2))), (70, (fun u => fEq u (Value.int .i64 r6.2.2))), (71, (fun u => fEq u (Value.bool true))), (72, (fun u => fEq u (Value.bool true))), (73, (fun u => fEq u (Value.bool true))), (74, (fun u => fEq u (ag [(str r9.1.Who), (Value.int .i64 r9.1.Until), (Value.int .i64 r9.1.Token)]))), (75, (fun u => fEq u (ag [(str r12.1.Who), (Value.int .i64 r12.1.Until), (Value.int .i64 r12.1.Token)]))), (76, (fun u => fEq u (Value.bool false))), (77, (fun u => fEq u (Value.bool false))), (78, (fun u => fEq u (Value.bool false))), (79, (fun u => fEq u undef)), (80, (fun u => fEq u undef)), (81, (fun u => fEq u undef)), (82, (fun u => fEq u (Value.bool false)))] (tab [(5, (ptr g1 0)), (10, (Value.bool false)), (11, (ptr g4 0)), (12, (Value.int .i64 r3.2.1)), (13, (Value.int .i64 r3.2.2)), (14, (ptr g7 0)), (15, (Value.int .i64 r6.2.1)), (16, (Value.int .i64 r6.2.2)), (17, (ptr g10 0)), (18, (Value.int .i64 r9.2)), (19, (ptr g13 0)), (20, (Value.int .i64 r12.2))]) mixed (by kernel_rfl) rfl rfl rfl (fun a hs => hs.tab _ (allT_mem ⟨rfl, rfl, rfl, rfl, rfl, rfl, rfl, rfl, rfl, rfl, rfl, rfl, trivial⟩)) ⟨⟨rfl, ld_val (ov_load (i := 4) (v := (ag [(str a0.Who), (Value.int .i64 a0.Until), (Value.int .i64 a0.Token)])) rfl rfl Tryd.underlying23 sz23 rfl rfl rfl rfl)⟩, ⟨rfl, ld_eq (j := 0) rfl rfl (ld_callV (vs := [(ag [(str a0.Who), (Value.int .i64 a0.Until), (Value.int .i64 a0.Token)])]) (f_lease_Check_ok fu a0 hc16) [] (pre_fz 0 rfl pre_nil) rfl Tryd.func14 rfl rfl rfl)⟩, ⟨rfl, ld_val (ov_load (i := 4) (v := (ag [(str a0.Who), (Value.int .i64 a0.Until), (Value.int .i64 a0.Token)])) rfl rfl Tryd.underlying23 sz23 rfl rfl rfl rfl)⟩, ⟨rfl, ld_eq (j := 2) rfl rfl (ld_callV (vs := [(ag [(str a0.Who), (Value.int .i64 a0.Until), (Value.int .i64 a0.Token)])]) (f_lumref_Lease_ok fu a0 hc18) [] pre_nil rfl Tryd.func15 rfl rfl rfl)⟩, ⟨rfl, ld_eq (j := 1) rfl rfl (ld_eq (j := 3) rfl rfl (ld_val (ov_cast (by first | rw [hb20] | rfl) (ov_int rfl rfl rfl rfl))))⟩, ⟨rfl, ld_eq (j := 4) rfl rfl (ld_val (ov_cast (by first | rw [hb20] | rfl) (ov_move rfl rfl)))⟩, ⟨rfl, ld_eq (j := 5) rfl rfl (ld_val (ov_load (i := 3) (v := (ag [(str r3.1.Who), (Value.int .i64 r3.1.Until), (Value.int .i64 r3.1.Token)])) rfl rfl Tryd.underlying23 sz23 rfl rfl rfl rfl))⟩, ⟨rfl, ld_eq (j := 5) rfl rfl (ld_val (ov_load (i := 2) (v := (ag [(str r6.1.Who), (Value.int .i64 r6.1.Until), (Value.int .i64 r6.1.Token)])) rfl rfl Tryd.underlying23 sz23 rfl rfl rfl rfl))⟩, ⟨rfl, ld_eq (j := 5) rfl rfl (ld_eq (j := 6) rfl rfl (ld_eq (j := 7) rfl rfl (ld_val (ov_cast (by first | rw [hb27] | rfl) (ov_eqlA (cs := [(str r3.1.Who), (Value.int .i64 r3.1.Until), (Value.int .i64 r3.1.Token)]) (ds := [(str r6.1.Who), (Value.int .i64 r6.1.Until), (Value.int .i64 r6.1.Token)]) (ls := [9, 3, 3]) (p := ((S_api_Lease.mk r3.1.Who r3.1.Until r3.1.Token) == (S_api_Lease.mk r6.1.Who r6.1.Until r6.1.Token))) eg23 kt23 lv23 rfl rfl (by kernel_rfl) (by kernel_rfl) (fit_cons (fit_str Tryd.underlying9 hc21) (fit_cons (fit_int Tryd.underlying3 hc22) (fit_cons (fit_int Tryd.underlying3 hc23) fit_nil))) (fit_cons (fit_str Tryd.underlying9 hc24) (fit_cons (fit_int Tryd.underlying3 hc25) (fit_cons (fit_int Tryd.underlying3 hc26) fit_nil))) (injS_api_Lease (x := (S_api_Lease.mk r3.1.Who r3.1.Until r3.1.Token)) (y := (S_api_Lease.mk r6.1.Who r6.1.Until r6.1.Token))) rfl)))))⟩, ⟨rfl, ld_eq (j := 5) rfl rfl (ld_eq (j := 8) rfl rfl (ld_val (ov_cast (by first | rw [hb27] | rfl) (ov_pick_t rfl rfl rfl))))⟩, ⟨rfl, ld_eq (j := 9) rfl rfl (ld_val (ov_cast (by first | rw [hb27] | rfl) (ov_move rfl rfl)))⟩, ⟨rfl, ld_eq (j := 10) rfl rfl (ld_val (ov_move rfl rfl))⟩, ⟨rfl, ld_eq (j := 10) rfl rfl (ld_val (ov_move rfl rfl))⟩, ⟨rfl, ld_eq (j := 10) rfl rfl (ld_eq (j := 11) rfl rfl (ld_eq (j := 12) rfl rfl (ld_val (ov_cast (by first | rw [hb28] | rfl) (ov_int rfl rfl rfl rfl)))))⟩, ⟨rfl, ld_eq (j := 10) rfl rfl (ld_eq (j := 13) rfl rfl (ld_val (ov_cast (by first | rw [hb28] | rfl) (ov_pick_t rfl rfl rfl))))⟩, ⟨rfl, ld_eq (j := 14) rfl rfl (ld_val (ov_cast (by first | rw [hb28] | rfl) (ov_move rfl rfl)))⟩, ⟨rfl, ld_eq (j := 15) rfl rfl (ld_val (ov_move rfl rfl))⟩, ⟨rfl, ld_eq (j := 15) rfl rfl (ld_val (ov_move rfl rfl))⟩, ⟨rfl, ld_eq (j := 15) rfl rfl (ld_eq (j := 16) rfl rfl (ld_eq (j := 17) rfl rfl (ld_val (ov_cast (by first | rw [hb29] | rfl) (ov_int rfl rfl rfl rfl)))))⟩, ⟨rfl, ld_eq (j := 15) rfl rfl (ld_eq (j := 18) rfl rfl (ld_val (ov_cast (by first | rw [hb29] | rfl) (ov_pick_t rfl rfl rfl))))⟩, ⟨rfl, ld_eq (j := 19) rfl rfl (ld_val (ov_cast (by first | rw [hb29] | rfl) (ov_move rfl rfl)))⟩, ⟨rfl, ld_eq (j := 20) rfl rfl (ld_val (ov_load (i := 1) (v := (ag [(str r9.1.Who), (Value.int .i64 r9.1.Until), (Value.int .i64 r9.1.Token)])) rfl rfl Tryd.underlying23 sz23 rfl rfl rfl rfl))⟩, ⟨rfl, ld_eq (j := 20) rfl rfl (ld_val (ov_load (i := 0) (v := (ag [(str r12.1.Who), (Value.int .i64 r12.1.Until), (Value.int .i64 r12.1.Token)])) rfl rfl Tryd.underlying23 sz23 rfl rfl rfl rfl))⟩, ⟨rfl, ld_eq (j := 20) rfl rfl (ld_eq (j := 21) rfl rfl (ld_eq (j := 22) rfl rfl (ld_val (ov_cast (by first | rw [hb36] | rfl) (ov_eqlA (cs := [(str r9.1.Who), (Value.int .i64 r9.1.Until), (Value.int .i64 r9.1.Token)]) (ds := [(str r12.1.Who), (Value.int .i64 r12.1.Until), (Value.int .i64 r12.1.Token)]) (ls := [9, 3, 3]) (p := ((S_api_Lease.mk r9.1.Who r9.1.Until r9.1.Token) == (S_api_Lease.mk r12.1.Who r12.1.Until r12.1.Token))) eg23 kt23 lv23 rfl rfl (by kernel_rfl) (by kernel_rfl) (fit_cons (fit_str Tryd.underlying9 hc30) (fit_cons (fit_int Tryd.underlying3 hc31) (fit_cons (fit_int Tryd.underlying3 hc32) fit_nil))) (fit_cons (fit_str Tryd.underlying9 hc33) (fit_cons (fit_int Tryd.underlying3 hc34) (fit_cons (fit_int Tryd.underlying3 hc35) fit_nil))) (injS_api_Lease (x := (S_api_Lease.mk r9.1.Who r9.1.Until r9.1.Token)) (y := (S_api_Lease.mk r12.1.Who r12.1.Until r12.1.Token))) rfl)))))⟩, ⟨rfl, ld_eq (j := 20) rfl rfl (ld_eq (j := 23) rfl rfl (ld_val (ov_cast (by first | rw [hb36] | rfl) (ov_pick_t rfl rfl rfl))))⟩, ⟨rfl, ld_eq (j := 24) rfl rfl (ld_val (ov_cast (by first | rw [hb36] | rfl) (ov_move rfl rfl)))⟩, ⟨rfl, ld_eq (j := 25) rfl rfl (ld_skip)⟩, ⟨rfl, ld_eq (j := 25) rfl rfl (ld_skip)⟩, ⟨rfl, ld_eq (j := 25) rfl rfl (ld_skip)⟩, ⟨rfl, ld_eq (j := 25) rfl rfl (ld_eq (j := 28) rfl rfl (ld_val (ov_pick_f rfl rfl rfl)))⟩, trivial⟩ ?_
              refine tl_eq 29 rfl ?_
              refine tl_done ?_
              refine al_val (ov_assign rfl rfl) ?_
              refine al_nil ?_
              exact aq_join false h (fun w a hm hs => norm hm hs [] [0] [(10, (Value.bool false))] (by decide) ⟨rfl, trivial⟩)
          · replace h := bif_f hb29 h
            refine aw_region_draw 30 [(53, (fun u => fEq u (ag [(str a0.Who), (Value.int .i64 a0.Until), (Value.int .i64 a0.Token)]))), (54, (fun u => fEq u (Value.int .i64 r17))), (55, (fun u => fEq u (ag [(str a0.Who), (Value.int .i64 a0.Until), (Value.int .i64 a0.Token)]))), (56, (fun u => fEq u (Value.int .i64 r19))), (57, (fun u => fEq u (Value.bool true))), (58, (fun u => fEq u (Value.bool true))), (59, (fun u => fEq u (ag [(str r3.1.Who), (Value.int .i64 r3.1.Until), (Value.int .i64 r3.1.Token)]))), (60, (fun u => fEq u (ag [(str r6.1.Who), (Value.int .i64 r6.1.Until), (Value.int .i64 r6.1.Token)]))), (61, (fun u => fEq u (Value.bool true))), (62, (fun u => fEq u (Value.bool true))), (63, (fun u => fEq u (Value.bool true))), (64, (fun u => fEq u (Value.int .i64 r3.2.1))), (65, (fun u => fEq u (Value.int .i64 r6.2.1))), (66, (fun u => fEq u (Value.bool true))), (67, (fun u => fEq u (Value.bool true))), (68, (fun u => fEq u (Value.bool true))), (69, (fun u => fEq u (Value.int .i64 r3.2.2))), (70, (fun u => fEq u (Value.int .i64 r6.2.2))), (71, (fun u => fEq u (Value.bool false))), (72, (fun u => fEq u (Value.bool false))), (73, (fun u => fEq u (Value.bool false))), (74, (fun u => fEq u undef)), (75, (fun u => fEq u undef)), (76, (fun u => fEq u undef)), (77, (fun u => fEq u (Value.bool false))), (78, (fun u => fEq u (Value.bool false))), (79, (fun u => fEq u undef)), (80, (fun u => fEq u undef)), (81, (fun u => fEq u undef)), (82, (fun u => fEq u (Value.bool false)))] (tab [(5, (ptr g1 0)), (10, (Value.bool false)), (11, (ptr g4 0)), (12, (Value.int .i64 r3.2.1)), (13, (Value.int .i64 r3.2.2)), (14, (ptr g7 0)), (15, (Value.int .i64 r6.2.1)), (16, (Value.int .i64 r6.2.2)), (17, (ptr g10 0)), (18, (Value.int .i64 r9.2)), (19, (ptr g13 0)), (20, (Value.int .i64 r12.2))]) mixed (by kernel_rfl) rfl rfl rfl (fun a hs => hs.tab _ (allT_mem ⟨rfl, rfl, rfl, rfl, rfl, rfl, rfl, rfl, rfl, rfl, rfl, rfl, trivial⟩)) ⟨⟨rfl, ld_val (ov_load (i := 4) (v := (ag [(str a0.Who), (Value.int .i64 a0.Until), (Value.int .i64 a0.Token)])) rfl rfl Tryd.underlying23 sz23 rfl rfl rfl rfl)⟩, ⟨rfl, ld_eq (j := 0) rfl rfl (ld_callV (vs := [(ag [(str a0.Who), (Value.int .i64 a0.Until), (Value.int .i64 a0.Token)])]) (f_lease_Check_ok fu a0 hc16) [] (pre_fz 0 rfl pre_nil) rfl Tryd.func14 rfl rfl rfl)⟩, ⟨rfl, ld_val (ov_load (i := 4) (v := (ag [(str a0.Who), (Value.int .i64 a0.Until), (Value.int .i64 a0.Token)])) rfl rfl Tryd.underlying23 sz23 rfl rfl rfl rfl)⟩, ⟨rfl, ld_eq (j := 2) rfl rfl (ld_callV (vs := [(ag [(str a0.Who), (Value.int .i64 a0.Until), (Value.int .i64 a0.Token)])]) (f_lumref_Lease_ok fu a0 hc18) [] pre_nil rfl Tryd.func15 rfl rfl rfl)⟩, ⟨rfl, ld_eq (j := 1) rfl rfl (ld_eq (j := 3) rfl rfl (ld_val (ov_cast (by first | rw [hb20] | rfl) (ov_int rfl rfl rfl rfl))))⟩, ⟨rfl, ld_eq (j := 4) rfl rfl (ld_val (ov_cast (by first | rw [hb20] | rfl) (ov_move rfl rfl)))⟩, ⟨rfl, ld_eq (j := 5) rfl rfl (ld_val (ov_load (i := 3) (v := (ag [(str r3.1.Who), (Value.int .i64 r3.1.Until), (Value.int .i64 r3.1.Token)])) rfl rfl Tryd.underlying23 sz23 rfl rfl rfl rfl))⟩, ⟨rfl, ld_eq (j := 5) rfl rfl (ld_val (ov_load (i := 2) (v := (ag [(str r6.1.Who), (Value.int .i64 r6.1.Until), (Value.int .i64 r6.1.Token)])) rfl rfl Tryd.underlying23 sz23 rfl rfl rfl rfl))⟩, ⟨rfl, ld_eq (j := 5) rfl rfl (ld_eq (j := 6) rfl rfl (ld_eq (j := 7) rfl rfl (ld_val (ov_cast (by first | rw [hb27] | rfl) (ov_eqlA (cs := [(str r3.1.Who), (Value.int .i64 r3.1.Until), (Value.int .i64 r3.1.Token)]) (ds := [(str r6.1.Who), (Value.int .i64 r6.1.Until), (Value.int .i64 r6.1.Token)]) (ls := [9, 3, 3]) (p := ((S_api_Lease.mk r3.1.Who r3.1.Until r3.1.Token) == (S_api_Lease.mk r6.1.Who r6.1.Until r6.1.Token))) eg23 kt23 lv23 rfl rfl (by kernel_rfl) (by kernel_rfl) (fit_cons (fit_str Tryd.underlying9 hc21) (fit_cons (fit_int Tryd.underlying3 hc22) (fit_cons (fit_int Tryd.underlying3 hc23) fit_nil))) (fit_cons (fit_str Tryd.underlying9 hc24) (fit_cons (fit_int Tryd.underlying3 hc25) (fit_cons (fit_int Tryd.underlying3 hc26) fit_nil))) (injS_api_Lease (x := (S_api_Lease.mk r3.1.Who r3.1.Until r3.1.Token)) (y := (S_api_Lease.mk r6.1.Who r6.1.Until r6.1.Token))) rfl)))))⟩, ⟨rfl, ld_eq (j := 5) rfl rfl (ld_eq (j := 8) rfl rfl (ld_val (ov_cast (by first | rw [hb27] | rfl) (ov_pick_t rfl rfl rfl))))⟩, ⟨rfl, ld_eq (j := 9) rfl rfl (ld_val (ov_cast (by first | rw [hb27] | rfl) (ov_move rfl rfl)))⟩, ⟨rfl, ld_eq (j := 10) rfl rfl (ld_val (ov_move rfl rfl))⟩, ⟨rfl, ld_eq (j := 10) rfl rfl (ld_val (ov_move rfl rfl))⟩, ⟨rfl, ld_eq (j := 10) rfl rfl (ld_eq (j := 11) rfl rfl (ld_eq (j := 12) rfl rfl (ld_val (ov_cast (by first | rw [hb28] | rfl) (ov_int rfl rfl rfl rfl)))))⟩, ⟨rfl, ld_eq (j := 10) rfl rfl (ld_eq (j := 13) rfl rfl (ld_val (ov_cast (by first | rw [hb28] | rfl) (ov_pick_t rfl rfl rfl))))⟩, ⟨rfl, ld_eq (j := 14) rfl rfl (ld_val (ov_cast (by first | rw [hb28] | rfl) (ov_move rfl rfl)))⟩, ⟨rfl, ld_eq (j := 15) rfl rfl (ld_val (ov_move rfl rfl))⟩, ⟨rfl, ld_eq (j := 15) rfl rfl (ld_val (ov_move rfl rfl))⟩, ⟨rfl, ld_eq (j := 15) rfl rfl (ld_eq (j := 16) rfl rfl (ld_eq (j := 17) rfl rfl (ld_val (ov_cast (by first | rw [hb29] | rfl) (ov_int rfl rfl rfl rfl)))))⟩, ⟨rfl, ld_eq (j := 15) rfl rfl (ld_eq (j := 18) rfl rfl (ld_val (ov_cast (by first | rw [hb29] | rfl) (ov_pick_t rfl rfl rfl))))⟩, ⟨rfl, ld_eq (j := 19) rfl rfl (ld_val (ov_cast (by first | rw [hb29] | rfl) (ov_move rfl rfl)))⟩, ⟨rfl, ld_eq (j := 20) rfl rfl (ld_skip)⟩, ⟨rfl, ld_eq (j := 20) rfl rfl (ld_skip)⟩, ⟨rfl, ld_eq (j := 20) rfl rfl (ld_skip)⟩, ⟨rfl, ld_eq (j := 20) rfl rfl (ld_eq (j := 23) rfl rfl (ld_val (ov_pick_f rfl rfl rfl)))⟩, ⟨rfl, ld_eq (j := 24) rfl rfl (ld_val (ov_move rfl rfl))⟩, ⟨rfl, ld_eq (j := 25) rfl rfl (ld_skip)⟩, ⟨rfl, ld_eq (j := 25) rfl rfl (ld_skip)⟩, ⟨rfl, ld_eq (j := 25) rfl rfl (ld_skip)⟩, ⟨rfl, ld_eq (j := 25) rfl rfl (ld_eq (j := 28) rfl rfl (ld_val (ov_pick_f rfl rfl rfl)))⟩, trivial⟩ ?_
            refine tl_eq 29 rfl ?_
            refine tl_done ?_
            refine al_val (ov_assign rfl rfl) ?_
            refine al_nil ?_
            exact aq_join false h (fun w a hm hs => norm hm hs [] [0] [(10, (Value.bool false))] (by decide) ⟨rfl, trivial⟩)
        · replace h := bif_f hb28 h
          refine aw_region_draw 30 [(53, (fun u => fEq u (ag [(str a0.Who), (Value.int .i64 a0.Until), (Value.int .i64 a0.Token)]))), (54, (fun u => fEq u (Value.int .i64 r17))), (55, (fun u => fEq u (ag [(str a0.Who), (Value.int .i64 a0.Until), (Value.int .i64 a0.Token)]))), (56, (fun u => fEq u (Value.int .i64 r19))), (57, (fun u => fEq u (Value.bool true))), (58, (fun u => fEq u (Value.bool true))), (59, (fun u => fEq u (ag [(str r3.1.Who), (Value.int .i64 r3.1.Until), (Value.int .i64 r3.1.Token)]))), (60, (fun u => fEq u (ag [(str r6.1.Who), (Value.int .i64 r6.1.Until), (Value.int .i64 r6.1.Token)]))), (61, (fun u => fEq u (Value.bool true))), (62, (fun u => fEq u (Value.bool true))), (63, (fun u => fEq u (Value.bool true))), (64, (fun u => fEq u (Value.int .i64 r3.2.1))), (65, (fun u => fEq u (Value.int .i64 r6.2.1))), (66, (fun u => fEq u (Value.bool false))), (67, (fun u => fEq u (Value.bool false))), (68, (fun u => fEq u (Value.bool false))), (69, (fun u => fEq u undef)), (70, (fun u => fEq u undef)), (71, (fun u => fEq u undef)), (72, (fun u => fEq u (Value.bool false))), (73, (fun u => fEq u (Value.bool false))), (74, (fun u => fEq u undef)), (75, (fun u => fEq u undef)), (76, (fun u => fEq u undef)), (77, (fun u => fEq u (Value.bool false))), (78, (fun u => fEq u (Value.bool false))), (79, (fun u => fEq u undef)), (80, (fun u => fEq u undef)), (81, (fun u => fEq u undef)), (82, (fun u => fEq u (Value.bool false)))] (tab [(5, (ptr g1 0)), (10, (Value.bool false)), (11, (ptr g4 0)), (12, (Value.int .i64 r3.2.1)), (13, (Value.int .i64 r3.2.2)), (14, (ptr g7 0)), (15, (Value.int .i64 r6.2.1)), (16, (Value.int .i64 r6.2.2)), (17, (ptr g10 0)), (18, (Value.int .i64 r9.2)), (19, (ptr g13 0)), (20, (Value.int .i64 r12.2))]) mixed (by kernel_rfl) rfl rfl rfl (fun a hs => hs.tab _ (allT_mem ⟨rfl, rfl, rfl, rfl, rfl, rfl, rfl, rfl, rfl, rfl, rfl, rfl, trivial⟩)) ⟨⟨rfl, ld_val (ov_load (i := 4) (v := (ag [(str a0.Who), (Value.int .i64 a0.Until), (Value.int .i64 a0.Token)])) rfl rfl Tryd.underlying23 sz23 rfl rfl rfl rfl)⟩, ⟨rfl, ld_eq (j := 0) rfl rfl (ld_callV (vs := [(ag [(str a0.Who), (Value.int .i64 a0.Until), (Value.int .i64 a0.Token)])]) (f_lease_Check_ok fu a0 hc16) [] (pre_fz 0 rfl pre_nil) rfl Tryd.func14 rfl rfl rfl)⟩, ⟨rfl, ld_val (ov_load (i := 4) (v := (ag [(str a0.Who), (Value.int .i64 a0.Until), (Value.int .i64 a0.Token)])) rfl rfl Tryd.underlying23 sz23 rfl rfl rfl rfl)⟩, ⟨rfl, ld_eq (j := 2) rfl rfl (ld_callV (vs := [(ag [(str a0.Who), (Value.int .i64 a0.Until), (Value.int .i64 a0.Token)])]) (f_lumref_Lease_ok fu a0 hc18) [] pre_nil rfl Tryd.func15 rfl rfl rfl)⟩, ⟨rfl, ld_eq (j := 1) rfl rfl (ld_eq (j := 3) rfl rfl (ld_val (ov_cast (by first | rw [hb20] | rfl) (ov_int rfl rfl rfl rfl))))⟩, ⟨rfl, ld_eq (j := 4) rfl rfl (ld_val (ov_cast (by first | rw [hb20] | rfl) (ov_move rfl rfl)))⟩, ⟨rfl, ld_eq (j := 5) rfl rfl (ld_val (ov_load (i := 3) (v := (ag [(str r3.1.Who), (Value.int .i64 r3.1.Until), (Value.int .i64 r3.1.Token)])) rfl rfl Tryd.underlying23 sz23 rfl rfl rfl rfl))⟩, ⟨rfl, ld_eq (j := 5) rfl rfl (ld_val (ov_load (i := 2) (v := (ag [(str r6.1.Who), (Value.int .i64 r6.1.Until), (Value.int .i64 r6.1.Token)])) rfl rfl Tryd.underlying23 sz23 rfl rfl rfl rfl))⟩, ⟨rfl, ld_eq (j := 5) rfl rfl (ld_eq (j := 6) rfl rfl (ld_eq (j := 7) rfl rfl (ld_val (ov_cast (by first | rw [hb27] | rfl) (ov_eqlA (cs := [(str r3.1.Who), (Value.int .i64 r3.1.Until), (Value.int .i64 r3.1.Token)]) (ds := [(str r6.1.Who), (Value.int .i64 r6.1.Until), (Value.int .i64 r6.1.Token)]) (ls := [9, 3, 3]) (p := ((S_api_Lease.mk r3.1.Who r3.1.Until r3.1.Token) == (S_api_Lease.mk r6.1.Who r6.1.Until r6.1.Token))) eg23 kt23 lv23 rfl rfl (by kernel_rfl) (by kernel_rfl) (fit_cons (fit_str Tryd.underlying9 hc21) (fit_cons (fit_int Tryd.underlying3 hc22) (fit_cons (fit_int Tryd.underlying3 hc23) fit_nil))) (fit_cons (fit_str Tryd.underlying9 hc24) (fit_cons (fit_int Tryd.underlying3 hc25) (fit_cons (fit_int Tryd.underlying3 hc26) fit_nil))) (injS_api_Lease (x := (S_api_Lease.mk r3.1.Who r3.1.Until r3.1.Token)) (y := (S_api_Lease.mk r6.1.Who r6.1.Until r6.1.Token))) rfl)))))⟩, ⟨rfl, ld_eq (j := 5) rfl rfl (ld_eq (j := 8) rfl rfl (ld_val (ov_cast (by first | rw [hb27] | rfl) (ov_pick_t rfl rfl rfl))))⟩, ⟨rfl, ld_eq (j := 9) rfl rfl (ld_val (ov_cast (by first | rw [hb27] | rfl) (ov_move rfl rfl)))⟩, ⟨rfl, ld_eq (j := 10) rfl rfl (ld_val (ov_move rfl rfl))⟩, ⟨rfl, ld_eq (j := 10) rfl rfl (ld_val (ov_move rfl rfl))⟩, ⟨rfl, ld_eq (j := 10) rfl rfl (ld_eq (j := 11) rfl rfl (ld_eq (j := 12) rfl rfl (ld_val (ov_cast (by first | rw [hb28] | rfl) (ov_int rfl rfl rfl rfl)))))⟩, ⟨rfl, ld_eq (j := 10) rfl rfl (ld_eq (j := 13) rfl rfl (ld_val (ov_cast (by first | rw [hb28] | rfl) (ov_pick_t rfl rfl rfl))))⟩, ⟨rfl, ld_eq (j := 14) rfl rfl (ld_val (ov_cast (by first | rw [hb28] | rfl) (ov_move rfl rfl)))⟩, ⟨rfl, ld_eq (j := 15) rfl rfl (ld_skip)⟩, ⟨rfl, ld_eq (j := 15) rfl rfl (ld_skip)⟩, ⟨rfl, ld_eq (j := 15) rfl rfl (ld_skip)⟩, ⟨rfl, ld_eq (j := 15) rfl rfl (ld_eq (j := 18) rfl rfl (ld_val (ov_pick_f rfl rfl rfl)))⟩, ⟨rfl, ld_eq (j := 19) rfl rfl (ld_val (ov_move rfl rfl))⟩, ⟨rfl, ld_eq (j := 20) rfl rfl (ld_skip)⟩, ⟨rfl, ld_eq (j := 20) rfl rfl (ld_skip)⟩, ⟨rfl, ld_eq (j := 20) rfl rfl (ld_skip)⟩, ⟨rfl, ld_eq (j := 20) rfl rfl (ld_eq (j := 23) rfl rfl (ld_val (ov_pick_f rfl rfl rfl)))⟩, ⟨rfl, ld_eq (j := 24) rfl rfl (ld_val (ov_move rfl rfl))⟩, ⟨rfl, ld_eq (j := 25) rfl rfl (ld_skip)⟩, ⟨rfl, ld_eq (j := 25) rfl rfl (ld_skip)⟩, ⟨rfl, ld_eq (j := 25) rfl rfl (ld_skip)⟩, ⟨rfl, ld_eq (j := 25) rfl rfl (ld_eq (j := 28) rfl rfl (ld_val (ov_pick_f rfl rfl rfl)))⟩, trivial⟩ ?_
          refine tl_eq 29 rfl ?_
          refine tl_done ?_
          refine al_val (ov_assign rfl rfl) ?_
          refine al_nil ?_
          exact aq_join false h (fun w a hm hs => norm hm hs [] [0] [(10, (Value.bool false))] (by decide) ⟨rfl, trivial⟩)
      · replace h := bif_f hb27 h
        refine aw_region_draw 30 [(53, (fun u => fEq u (ag [(str a0.Who), (Value.int .i64 a0.Until), (Value.int .i64 a0.Token)]))), (54, (fun u => fEq u (Value.int .i64 r17))), (55, (fun u => fEq u (ag [(str a0.Who), (Value.int .i64 a0.Until), (Value.int .i64 a0.Token)]))), (56, (fun u => fEq u (Value.int .i64 r19))), (57, (fun u => fEq u (Value.bool true))), (58, (fun u => fEq u (Value.bool true))), (59, (fun u => fEq u (ag [(str r3.1.Who), (Value.int .i64 r3.1.Until), (Value.int .i64 r3.1.Token)]))), (60, (fun u => fEq u (ag [(str r6.1.Who), (Value.int .i64 r6.1.Until), (Value.int .i64 r6.1.Token)]))), (61, (fun u => fEq u (Value.bool false))), (62, (fun u => fEq u (Value.bool false))), (63, (fun u => fEq u (Value.bool false))), (64, (fun u => fEq u undef)), (65, (fun u => fEq u undef)), (66, (fun u => fEq u undef)), (67, (fun u => fEq u (Value.bool false))), (68, (fun u => fEq u (Value.bool false))), (69, (fun u => fEq u undef)), (70, (fun u => fEq u undef)), (71, (fun u => fEq u undef)), (72, (fun u => fEq u (Value.bool false))), (73, (fun u => fEq u (Value.bool false))), (74, (fun u => fEq u undef)), (75, (fun u => fEq u undef)), (76, (fun u => fEq u undef)), (77, (fun u => fEq u (Value.bool false))), (78, (fun u => fEq u (Value.bool false))), (79, (fun u => fEq u undef)), (80, (fun u => fEq u undef)), (81, (fun u => fEq u undef)), (82, (fun u => fEq u (Value.bool false)))] (tab [(5, (ptr g1 0)), (10, (Value.bool false)), (11, (ptr g4 0)), (12, (Value.int .i64 r3.2.1)), (13, (Value.int .i64 r3.2.2)), (14, (ptr g7 0)), (15, (Value.int .i64 r6.2.1)), (16, (Value.int .i64 r6.2.2)), (17, (ptr g10 0)), (18, (Value.int .i64 r9.2)), (19, (ptr g13 0)), (20, (Value.int .i64 r12.2))]) mixed (by kernel_rfl) rfl rfl rfl (fun a hs => hs.tab _ (allT_mem ⟨rfl, rfl, rfl, rfl, rfl, rfl, rfl, rfl, rfl, rfl, rfl, rfl, trivial⟩)) ⟨⟨rfl, ld_val (ov_load (i := 4) (v := (ag [(str a0.Who), (Value.int .i64 a0.Until), (Value.int .i64 a0.Token)])) rfl rfl Tryd.underlying23 sz23 rfl rfl rfl rfl)⟩, ⟨rfl, ld_eq (j := 0) rfl rfl (ld_callV (vs := [(ag [(str a0.Who), (Value.int .i64 a0.Until), (Value.int .i64 a0.Token)])]) (f_lease_Check_ok fu a0 hc16) [] (pre_fz 0 rfl pre_nil) rfl Tryd.func14 rfl rfl rfl)⟩, ⟨rfl, ld_val (ov_load (i := 4) (v := (ag [(str a0.Who), (Value.int .i64 a0.Until), (Value.int .i64 a0.Token)])) rfl rfl Tryd.underlying23 sz23 rfl rfl rfl rfl)⟩, ⟨rfl, ld_eq (j := 2) rfl rfl (ld_callV (vs := [(ag [(str a0.Who), (Value.int .i64 a0.Until), (Value.int .i64 a0.Token)])]) (f_lumref_Lease_ok fu a0 hc18) [] pre_nil rfl Tryd.func15 rfl rfl rfl)⟩, ⟨rfl, ld_eq (j := 1) rfl rfl (ld_eq (j := 3) rfl rfl (ld_val (ov_cast (by first | rw [hb20] | rfl) (ov_int rfl rfl rfl rfl))))⟩, ⟨rfl, ld_eq (j := 4) rfl rfl (ld_val (ov_cast (by first | rw [hb20] | rfl) (ov_move rfl rfl)))⟩, ⟨rfl, ld_eq (j := 5) rfl rfl (ld_val (ov_load (i := 3) (v := (ag [(str r3.1.Who), (Value.int .i64 r3.1.Until), (Value.int .i64 r3.1.Token)])) rfl rfl Tryd.underlying23 sz23 rfl rfl rfl rfl))⟩, ⟨rfl, ld_eq (j := 5) rfl rfl (ld_val (ov_load (i := 2) (v := (ag [(str r6.1.Who), (Value.int .i64 r6.1.Until), (Value.int .i64 r6.1.Token)])) rfl rfl Tryd.underlying23 sz23 rfl rfl rfl rfl))⟩, ⟨rfl, ld_eq (j := 5) rfl rfl (ld_eq (j := 6) rfl rfl (ld_eq (j := 7) rfl rfl (ld_val (ov_cast (by first | rw [hb27] | rfl) (ov_eqlA (cs := [(str r3.1.Who), (Value.int .i64 r3.1.Until), (Value.int .i64 r3.1.Token)]) (ds := [(str r6.1.Who), (Value.int .i64 r6.1.Until), (Value.int .i64 r6.1.Token)]) (ls := [9, 3, 3]) (p := ((S_api_Lease.mk r3.1.Who r3.1.Until r3.1.Token) == (S_api_Lease.mk r6.1.Who r6.1.Until r6.1.Token))) eg23 kt23 lv23 rfl rfl (by kernel_rfl) (by kernel_rfl) (fit_cons (fit_str Tryd.underlying9 hc21) (fit_cons (fit_int Tryd.underlying3 hc22) (fit_cons (fit_int Tryd.underlying3 hc23) fit_nil))) (fit_cons (fit_str Tryd.underlying9 hc24) (fit_cons (fit_int Tryd.underlying3 hc25) (fit_cons (fit_int Tryd.underlying3 hc26) fit_nil))) (injS_api_Lease (x := (S_api_Lease.mk r3.1.Who r3.1.Until r3.1.Token)) (y := (S_api_Lease.mk r6.1.Who r6.1.Until r6.1.Token))) rfl)))))⟩, ⟨rfl, ld_eq (j := 5) rfl rfl (ld_eq (j := 8) rfl rfl (ld_val (ov_cast (by first | rw [hb27] | rfl) (ov_pick_t rfl rfl rfl))))⟩, ⟨rfl, ld_eq (j := 9) rfl rfl (ld_val (ov_cast (by first | rw [hb27] | rfl) (ov_move rfl rfl)))⟩, ⟨rfl, ld_eq (j := 10) rfl rfl (ld_skip)⟩, ⟨rfl, ld_eq (j := 10) rfl rfl (ld_skip)⟩, ⟨rfl, ld_eq (j := 10) rfl rfl (ld_skip)⟩, ⟨rfl, ld_eq (j := 10) rfl rfl (ld_eq (j := 13) rfl rfl (ld_val (ov_pick_f rfl rfl rfl)))⟩, ⟨rfl, ld_eq (j := 14) rfl rfl (ld_val (ov_move rfl rfl))⟩, ⟨rfl, ld_eq (j := 15) rfl rfl (ld_skip)⟩, ⟨rfl, ld_eq (j := 15) rfl rfl (ld_skip)⟩, ⟨rfl, ld_eq (j := 15) rfl rfl (ld_skip)⟩, ⟨rfl, ld_eq (j := 15) rfl rfl (ld_eq (j := 18) rfl rfl (ld_val (ov_pick_f rfl rfl rfl)))⟩, ⟨rfl, ld_eq (j := 19) rfl rfl (ld_val (ov_move rfl rfl))⟩, ⟨rfl, ld_eq (j := 20) rfl rfl (ld_skip)⟩, ⟨rfl, ld_eq (j := 20) rfl rfl (ld_skip)⟩, ⟨rfl, ld_eq (j := 20) rfl rfl (ld_skip)⟩, ⟨rfl, ld_eq (j := 20) rfl rfl (ld_eq (j := 23) rfl rfl (ld_val (ov_pick_f rfl rfl rfl)))⟩, ⟨rfl, ld_eq (j := 24) rfl rfl (ld_val (ov_move rfl rfl))⟩, ⟨rfl, ld_eq (j := 25) rfl rfl (ld_skip)⟩, ⟨rfl, ld_eq (j := 25) rfl rfl (ld_skip)⟩, ⟨rfl, ld_eq (j := 25) rfl rfl (ld_skip)⟩, ⟨rfl, ld_eq (j := 25) rfl rfl (ld_eq (j := 28) rfl rfl (ld_val (ov_pick_f rfl rfl rfl)))⟩, trivial⟩ ?_
        refine tl_eq 29 rfl ?_
        refine tl_done ?_
        refine al_val (ov_assign rfl rfl) ?_
        refine al_nil ?_
        exact aq_join false h (fun w a hm hs => norm hm hs [] [0] [(10, (Value.bool false))] (by decide) ⟨rfl, trivial⟩)
    · replace h := bif_f hb20 h
      refine aw_region_draw 30 [(53, (fun u => fEq u (ag [(str a0.Who), (Value.int .i64 a0.Until), (Value.int .i64 a0.Token)]))), (54, (fun u => fEq u (Value.int .i64 r17))), (55, (fun u => fEq u (ag [(str a0.Who), (Value.int .i64 a0.Until), (Value.int .i64 a0.Token)]))), (56, (fun u => fEq u (Value.int .i64 r19))), (57, (fun u => fEq u (Value.bool false))), (58, (fun u => fEq u (Value.bool false))), (59, (fun u => fEq u undef)), (60, (fun u => fEq u undef)), (61, (fun u => fEq u undef)), (62, (fun u => fEq u (Value.bool false))), (63, (fun u => fEq u (Value.bool false))), (64, (fun u => fEq u undef)), (65, (fun u => fEq u undef)), (66, (fun u => fEq u undef)), (67, (fun u => fEq u (Value.bool false))), (68, (fun u => fEq u (Value.bool false))), (69, (fun u => fEq u undef)), (70, (fun u => fEq u undef)), (71, (fun u => fEq u undef)), (72, (fun u => fEq u (Value.bool false))), (73, (fun u => fEq u (Value.bool false))), (74, (fun u => fEq u undef)), (75, (fun u => fEq u undef)), (76, (fun u => fEq u undef)), (77, (fun u => fEq u (Value.bool false))), (78, (fun u => fEq u (Value.bool false))), (79, (fun u => fEq u undef)), (80, (fun u => fEq u undef)), (81, (fun u => fEq u undef)), (82, (fun u => fEq u (Value.bool false)))] (tab [(5, (ptr g1 0)), (10, (Value.bool false)), (11, (ptr g4 0)), (12, (Value.int .i64 r3.2.1)), (13, (Value.int .i64 r3.2.2)), (14, (ptr g7 0)), (15, (Value.int .i64 r6.2.1)), (16, (Value.int .i64 r6.2.2)), (17, (ptr g10 0)), (18, (Value.int .i64 r9.2)), (19, (ptr g13 0)), (20, (Value.int .i64 r12.2))]) mixed (by kernel_rfl) rfl rfl rfl (fun a hs => hs.tab _ (allT_mem ⟨rfl, rfl, rfl, rfl, rfl, rfl, rfl, rfl, rfl, rfl, rfl, rfl, trivial⟩)) ⟨⟨rfl, ld_val (ov_load (i := 4) (v := (ag [(str a0.Who), (Value.int .i64 a0.Until), (Value.int .i64 a0.Token)])) rfl rfl Tryd.underlying23 sz23 rfl rfl rfl rfl)⟩, ⟨rfl, ld_eq (j := 0) rfl rfl (ld_callV (vs := [(ag [(str a0.Who), (Value.int .i64 a0.Until), (Value.int .i64 a0.Token)])]) (f_lease_Check_ok fu a0 hc16) [] (pre_fz 0 rfl pre_nil) rfl Tryd.func14 rfl rfl rfl)⟩, ⟨rfl, ld_val (ov_load (i := 4) (v := (ag [(str a0.Who), (Value.int .i64 a0.Until), (Value.int .i64 a0.Token)])) rfl rfl Tryd.underlying23 sz23 rfl rfl rfl rfl)⟩, ⟨rfl, ld_eq (j := 2) rfl rfl (ld_callV (vs := [(ag [(str a0.Who), (Value.int .i64 a0.Until), (Value.int .i64 a0.Token)])]) (f_lumref_Lease_ok fu a0 hc18) [] pre_nil rfl Tryd.func15 rfl rfl rfl)⟩, ⟨rfl, ld_eq (j := 1) rfl rfl (ld_eq (j := 3) rfl rfl (ld_val (ov_cast (by first | rw [hb20] | rfl) (ov_int rfl rfl rfl rfl))))⟩, ⟨rfl, ld_eq (j := 4) rfl rfl (ld_val (ov_cast (by first | rw [hb20] | rfl) (ov_move rfl rfl)))⟩, ⟨rfl, ld_eq (j := 5) rfl rfl (ld_skip)⟩, ⟨rfl, ld_eq (j := 5) rfl rfl (ld_skip)⟩, ⟨rfl, ld_eq (j := 5) rfl rfl (ld_skip)⟩, ⟨rfl, ld_eq (j := 5) rfl rfl (ld_eq (j := 8) rfl rfl (ld_val (ov_pick_f rfl rfl rfl)))⟩, ⟨rfl, ld_eq (j := 9) rfl rfl (ld_val (ov_move rfl rfl))⟩, ⟨rfl, ld_eq (j := 10) rfl rfl (ld_skip)⟩, ⟨rfl, ld_eq (j := 10) rfl rfl (ld_skip)⟩, ⟨rfl, ld_eq (j := 10) rfl rfl (ld_skip)⟩, ⟨rfl, ld_eq (j := 10) rfl rfl (ld_eq (j := 13) rfl rfl (ld_val (ov_pick_f rfl rfl rfl)))⟩, ⟨rfl, ld_eq (j := 14) rfl rfl (ld_val (ov_move rfl rfl))⟩, ⟨rfl, ld_eq (j := 15) rfl rfl (ld_skip)⟩, ⟨rfl, ld_eq (j := 15) rfl rfl (ld_skip)⟩, ⟨rfl, ld_eq (j := 15) rfl rfl (ld_skip)⟩, ⟨rfl, ld_eq (j := 15) rfl rfl (ld_eq (j := 18) rfl rfl (ld_val (ov_pick_f rfl rfl rfl)))⟩, ⟨rfl, ld_eq (j := 19) rfl rfl (ld_val (ov_move rfl rfl))⟩, ⟨rfl, ld_eq (j := 20) rfl rfl (ld_skip)⟩, ⟨rfl, ld_eq (j := 20) rfl rfl (ld_skip)⟩, ⟨rfl, ld_eq (j := 20) rfl rfl (ld_skip)⟩, ⟨rfl, ld_eq (j := 20) rfl rfl (ld_eq (j := 23) rfl rfl (ld_val (ov_pick_f rfl rfl rfl)))⟩, ⟨rfl, ld_eq (j := 24) rfl rfl (ld_val (ov_move rfl rfl))⟩, ⟨rfl, ld_eq (j := 25) rfl rfl (ld_skip)⟩, ⟨rfl, ld_eq (j := 25) rfl rfl (ld_skip)⟩, ⟨rfl, ld_eq (j := 25) rfl rfl (ld_skip)⟩, ⟨rfl, ld_eq (j := 25) rfl rfl (ld_eq (j := 28) rfl rfl (ld_val (ov_pick_f rfl rfl rfl)))⟩, trivial⟩ ?_
      refine tl_eq 29 rfl ?_
      refine tl_done ?_
      refine al_val (ov_assign rfl rfl) ?_
      refine al_nil ?_
      exact aq_join false h (fun w a hm hs => norm hm hs [] [0] [(10, (Value.bool false))] (by decide) ⟨rfl, trivial⟩)
end Go.Proofs.YtaoopodaalhheaaDoor
