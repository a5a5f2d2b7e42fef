/- Walks by program. No condition. -/
import Derived.Test.YtaoopodaalhheaaEn14
import Derived.Test.YtaoopodaalhheaaChecked
import Derived.Test.YtaoopodaalhheaaShRepeat
namespace Go.Proofs.Ytaoopodaalhheaa
open Go.RowKit Ytaoopodaalhheaa.En
set_option linter.unusedVariables false
set_option linter.unusedSimpArgs false
structure S_api_Token where
  Lit : Int
  Len : Int
  Dist : Int
  deriving DecidableEq
def tyS_api_Token : Ty S_api_Token := tyVia (fun x => (x.Lit, (x.Len, x.Dist))) (tyPair (tyInt .u8) (tyPair (tyInt .i64) (tyInt .i64)))
theorem subS_api_Token_0 : Sub tyS_api_Token 0 (tyInt .u8) (fun x => x.Lit) := Sub.via (Sub.fst (Sub.whole _))
theorem subS_api_Token_1 : Sub tyS_api_Token 1 (tyInt .i64) (fun x => x.Len) := Sub.via (Sub.snd (Sub.fst (Sub.whole _)))
theorem subS_api_Token_2 : Sub tyS_api_Token 2 (tyInt .i64) (fun x => x.Dist) := Sub.via (Sub.snd (Sub.snd (Sub.whole _)))
theorem flatS_api_Token : FlatTy tyS_api_Token := flat_via (flat_pair flat_enc (flat_pair flat_enc flat_enc))
theorem encS_api_Token {Z w cs} {x : S_api_Token} (h : tyS_api_Token.rep Z w cs x) : cs = [(Value.int .u8 x.Lit), (Value.int .i64 x.Len), (Value.int .i64 x.Dist)] := by
  obtain ⟨c0, d0, rfl, p0, q0⟩ := h
  obtain ⟨c1, d1, rfl, p1, q1⟩ := q0
  rw [show _ = _ from p0]
  rw [show _ = _ from p1]
  rw [show _ = _ from q1]
  rfl
theorem mkS_api_Token {Z w cs} {x : S_api_Token} (h : cs = [(Value.int .u8 x.Lit), (Value.int .i64 x.Len), (Value.int .i64 x.Dist)]) : tyS_api_Token.rep Z w cs x := by
  subst h
  exact ⟨_, _, (List.take_append_drop 1 _).symm, rfl, ⟨_, _, (List.take_append_drop 1 _).symm, rfl, rfl⟩⟩
theorem sz3 : szOf Try.prog 3 = some 1 := by kernel_rfl
theorem to3 : tyOf Try.prog 3 = some (1, 8, some (Value.int .i64 (0 : Int))) := by kernel_rfl
theorem sz5 : szOf Try.prog 5 = some 1 := by kernel_rfl
theorem to5 : tyOf Try.prog 5 = some (1, 1, some (Value.int .u8 (0 : Int))) := by kernel_rfl
theorem sz124 : szOf Try.prog 124 = some 3 := by kernel_rfl
theorem to124 : tyOf Try.prog 124 = some (3, 24, some (ag [(Value.int .u8 (0 : Int)), (Value.int .i64 (0 : Int)), (Value.int .i64 (0 : Int))])) := by kernel_rfl
theorem mixed : Try.prog.follows .mixedOrders = true := by kernel_rfl
theorem eg124 : Try.prog.eqGuardType Try.prog.depth 124 = false := by kernel_rfl
theorem kt124 : Try.prog.keyTypeAt 20 124 = true := by kernel_rfl
theorem lv124 : leaves Try.prog 20 124 = some [5, 3, 3] := by kernel_rfl
theorem injS_api_Token {x y : S_api_Token} : (x == y) = true ↔ [(Value.int .u8 x.Lit), (Value.int .i64 x.Len), (Value.int .i64 x.Dist)] = [(Value.int .u8 y.Lit), (Value.int .i64 y.Len), (Value.int .i64 y.Dist)] := by
  rw [beq_iff_eq]
  constructor
  · rintro rfl; rfl
  · intro h
    obtain ⟨⟩ := x
    obtain ⟨⟩ := y
    simp only [S_api_Token.mk.injEq, str, List.cons_append, List.nil_append, List.cons.injEq, Value.int.injEq, Value.bool.injEq, Value.string.injEq, ByteArray.mk.injEq, Array.mk.injEq, Int.natCast_inj, UInt8.toNat_inj, true_and, and_true] at h ⊢
    first | exact h | simpa [and_assoc] using h
def okS_api_Token (x : S_api_Token) : Prop := ((Lit.int .u8 x.Lit).wf = true) ∧ ((Lit.int .i64 x.Len).wf = true) ∧ ((Lit.int .i64 x.Dist).wf = true)
set_option maxRecDepth 100000 in
theorem opnS_api_Token {H : Type} : Opn H Try.prog 124 tyS_api_Token okS_api_Token := opn_struct (fun x => (x.Lit, (x.Len, x.Dist))) (fun y => S_api_Token.mk y.1 y.2.1 y.2.2) (fun _ => rfl) Try.underlying124 sz124 (fields_cons sz5 (opn_int Try.underlying5) (fields_cons sz3 (opn_int Try.underlying3) (fields_one sz3 (opn_int Try.underlying3))))
def f_lumref_tokenForm (fu : Nat) (a0 : S_api_Token) : Option Bool := (lt (fun (j2b3 : Bool) => (lt (fun (j4b4 : Bool) => (lt (fun (j6b2 : Bool) => (some j6b2)) fun (kk7 : Bool → Option Bool) => (bif j2b3 then (kk7 true) else (kk7 j4b4)))) fun (kk5 : Bool → Option Bool) => (bif (a0.Lit == (0 : Int)) then (bif (decide ((1 : Int) ≤ a0.Len)) then (bif (decide (a0.Len ≤ (255 : Int))) then (bif (decide ((1 : Int) ≤ a0.Dist)) then (kk5 (decide (a0.Dist ≤ (1024 : Int)))) else (kk5 false)) else (kk5 false)) else (kk5 false)) else (kk5 false)))) fun (kk3 : Bool → Option Bool) => (bif (a0.Len == (0 : Int)) then (kk3 (a0.Dist == (0 : Int))) else (kk3 false)))
set_option maxRecDepth 100000 in
theorem f_lumref_tokenForm_ok (fu : Nat) (a0 : S_api_Token) {r : Bool} (h : f_lumref_tokenForm fu a0 = some r) : FnOk Try.prog 155 [(ag [(Value.int .u8 a0.Lit), (Value.int .i64 a0.Len), (Value.int .i64 a0.Dist)])] [] [] (fun (i : Unit) => { val := (Value.bool r) }) := by
  unfold f_lumref_tokenForm at h
  refine fn_enter Try.func155 rfl Try.ntmps155 rfl (fun w0 Z0 => ?_)
  refine aw_seq ?_
  refine aw_region ?_
  refine al_box (vs := [(Value.int .u8 a0.Lit), (Value.int .i64 a0.Len), (Value.int .i64 a0.Dist)]) rfl (cv_rfl rfl) rfl (fun g1 => ?_)
  refine al_val (ov_assign rfl rfl) ?_
  refine al_nil ?_
  refine aq_then ?_
  obtain ⟨kk3, hkk3, h⟩ := lt_some h
  refine aw_seq_join (ι := Bool) (fun i => (memOf w0 Z0 [] [(oBox g1 124 [(Value.int .u8 a0.Lit), (Value.int .i64 a0.Len), (Value.int .i64 a0.Dist)])] [])) (fun i => (tab [(1, (ptr g1 0)), (3, (Value.bool i))])) (fun i => kk3 i = some r) ?_ ?_
  · rintro j2b3 h
    have h : kk3 j2b3 = some r := h
    rw [hkk3] at h
    dsimp only at h
    clear hkk3
    refine aw_show (m := (memOf w0 Z0 [] [(oBox g1 124 [(Value.int .u8 a0.Lit), (Value.int .i64 a0.Len), (Value.int .i64 a0.Dist)])] [])) (S := (tab [(1, (ptr g1 0)), (3, (Value.bool j2b3))])) ?_
    obtain ⟨kk5, hkk5, h⟩ := lt_some h
    refine aw_seq_join (ι := Bool) (fun i => (memOf w0 Z0 [] [] [])) (fun i => (tab [(3, (Value.bool j2b3)), (4, (Value.bool i))])) (fun i => kk5 i = some r) ?_ ?_
    · rintro j4b4 h
      have h : kk5 j4b4 = some r := h
      rw [hkk5] at h
      dsimp only at h
      clear hkk5
      refine aw_show (m := (memOf w0 Z0 [] [] [])) (S := (tab [(3, (Value.bool j2b3)), (4, (Value.bool j4b4))])) ?_
      obtain ⟨kk7, hkk7, h⟩ := lt_some h
      refine aw_seq_join (ι := Bool) (fun i => (memOf w0 Z0 [] [] [])) (fun i => (tab [(2, (Value.bool i))])) (fun i => kk7 i = some r) ?_ ?_
      · rintro j6b2 h
        have h : kk7 j6b2 = some r := h
        rw [hkk7] at h
        dsimp only at h
        clear hkk7
        refine aw_show (m := (memOf w0 Z0 [] [] [])) (S := (tab [(2, (Value.bool j6b2))])) ?_
        refine aw_ret ?_
        obtain rfl := Option.some.inj h
        exact fn_ret () [] [] rfl rfl rfl rfl (res1 rfl rfl) rfl rfl rfl (by decide)
      · clear hkk7
        refine aw_region ?_
        refine al_val (ov_move rfl rfl) ?_
        refine al_val (ov_move rfl rfl) ?_
        refine al_caseB 37 rfl (fun hb8 => ?_) (fun hb8 => ?_)
        · replace h := bif_t hb8 h
          refine al_skip ?_
          refine al_val (ov_pick_t rfl rfl rfl) ?_
          refine al_val (ov_assign rfl rfl) ?_
          refine al_nil ?_
          exact aq_join true h (fun w a hm hs => norm hm hs [] [] [(2, (Value.bool true))] (by decide) ⟨rfl, trivial⟩)
        · replace h := bif_f hb8 h
          refine al_val (ov_move rfl rfl) ?_
          refine al_val (ov_pick_f rfl rfl rfl) ?_
          refine al_val (ov_assign rfl rfl) ?_
          refine al_nil ?_
          exact aq_join j4b4 h (fun w a hm hs => norm hm hs [] [] [(2, (Value.bool j4b4))] (by decide) ⟨rfl, trivial⟩)
    · clear hkk5
      refine aw_region ?_
      refine al_val (ov_fieldA (p := 0) rfl Try.underlying124 rfl sz5 rfl rfl rfl) ?_
      refine al_val (ov_load (i := 0) (v := (Value.int .u8 a0.Lit)) rfl rfl Try.underlying5 sz5 rfl rfl rfl rfl) ?_
      refine al_val (ov_int rfl rfl rfl rfl) ?_
      refine al_val (ov_move rfl rfl) ?_
      refine al_caseB 16 rfl (fun hb9 => ?_) (fun hb9 => ?_)
      · replace h := bif_t hb9 h
        refine al_val (ov_fieldA (p := 1) rfl Try.underlying124 rfl sz3 rfl rfl rfl) ?_
        refine al_val (ov_load (i := 0) (v := (Value.int .i64 a0.Len)) rfl rfl Try.underlying3 sz3 rfl rfl rfl rfl) ?_
        refine al_val (ov_int rfl rfl rfl rfl) ?_
        refine al_val (ov_pick_t rfl rfl rfl) ?_
        refine al_val (ov_move rfl rfl) ?_
        refine al_caseB 21 rfl (fun hb10 => ?_) (fun hb10 => ?_)
        · replace h := bif_t hb10 h
          refine al_val (ov_fieldA (p := 1) rfl Try.underlying124 rfl sz3 rfl rfl rfl) ?_
          refine al_val (ov_load (i := 0) (v := (Value.int .i64 a0.Len)) rfl rfl Try.underlying3 sz3 rfl rfl rfl rfl) ?_
          refine al_val (ov_int rfl rfl rfl rfl) ?_
          refine al_val (ov_pick_t rfl rfl rfl) ?_
          refine al_val (ov_move rfl rfl) ?_
          refine al_caseB 26 rfl (fun hb11 => ?_) (fun hb11 => ?_)
          · replace h := bif_t hb11 h
            refine al_val (ov_fieldA (p := 2) rfl Try.underlying124 rfl sz3 rfl rfl rfl) ?_
            refine al_val (ov_load (i := 0) (v := (Value.int .i64 a0.Dist)) rfl rfl Try.underlying3 sz3 rfl rfl rfl rfl) ?_
            refine al_val (ov_int rfl rfl rfl rfl) ?_
            refine al_val (ov_pick_t rfl rfl rfl) ?_
            refine al_val (ov_move rfl rfl) ?_
            refine al_caseB 31 rfl (fun hb12 => ?_) (fun hb12 => ?_)
            · replace h := bif_t hb12 h
              refine al_val (ov_fieldA (p := 2) rfl Try.underlying124 rfl sz3 rfl rfl rfl) ?_
              refine al_val (ov_load (i := 0) (v := (Value.int .i64 a0.Dist)) rfl rfl Try.underlying3 sz3 rfl rfl rfl rfl) ?_
              refine al_val (ov_int rfl rfl rfl rfl) ?_
              refine al_val (ov_pick_t rfl rfl rfl) ?_
              refine al_val (ov_assign rfl rfl) ?_
              refine al_nil ?_
              exact aq_join (decide (a0.Dist ≤ (1024 : Int))) h (fun w a hm hs => norm hm hs [] [] [(3, (Value.bool j2b3)), (4, (Value.bool (decide (a0.Dist ≤ (1024 : Int)))))] (by decide) ⟨rfl, rfl, trivial⟩)
            · replace h := bif_f hb12 h
              refine al_skip ?_
              refine al_skip ?_
              refine al_skip ?_
              refine al_val (ov_pick_f rfl rfl rfl) ?_
              refine al_val (ov_assign rfl rfl) ?_
              refine al_nil ?_
              exact aq_join false h (fun w a hm hs => norm hm hs [] [] [(3, (Value.bool j2b3)), (4, (Value.bool false))] (by decide) ⟨rfl, rfl, trivial⟩)
          · replace h := bif_f hb11 h
            refine al_skip ?_
            refine al_skip ?_
            refine al_skip ?_
            refine al_val (ov_pick_f rfl rfl rfl) ?_
            refine al_val (ov_move rfl rfl) ?_
            refine al_skip ?_
            refine al_skip ?_
            refine al_skip ?_
            refine al_val (ov_pick_f rfl rfl rfl) ?_
            refine al_val (ov_assign rfl rfl) ?_
            refine al_nil ?_
            exact aq_join false h (fun w a hm hs => norm hm hs [] [] [(3, (Value.bool j2b3)), (4, (Value.bool false))] (by decide) ⟨rfl, rfl, trivial⟩)
        · replace h := bif_f hb10 h
          refine al_skip ?_
          refine al_skip ?_
          refine al_skip ?_
          refine al_val (ov_pick_f rfl rfl rfl) ?_
          refine al_val (ov_move rfl rfl) ?_
          refine al_skip ?_
          refine al_skip ?_
          refine al_skip ?_
          refine al_val (ov_pick_f rfl rfl rfl) ?_
          refine al_val (ov_move rfl rfl) ?_
          refine al_skip ?_
          refine al_skip ?_
          refine al_skip ?_
          refine al_val (ov_pick_f rfl rfl rfl) ?_
          refine al_val (ov_assign rfl rfl) ?_
          refine al_nil ?_
          exact aq_join false h (fun w a hm hs => norm hm hs [] [] [(3, (Value.bool j2b3)), (4, (Value.bool false))] (by decide) ⟨rfl, rfl, trivial⟩)
      · replace h := bif_f hb9 h
        refine al_skip ?_
        refine al_skip ?_
        refine al_skip ?_
        refine al_val (ov_pick_f rfl rfl rfl) ?_
        refine al_val (ov_move rfl rfl) ?_
        refine al_skip ?_
        refine al_skip ?_
        refine al_skip ?_
        refine al_val (ov_pick_f rfl rfl rfl) ?_
        refine al_val (ov_move rfl rfl) ?_
        refine al_skip ?_
        refine al_skip ?_
        refine al_skip ?_
        refine al_val (ov_pick_f rfl rfl rfl) ?_
        refine al_val (ov_move rfl rfl) ?_
        refine al_skip ?_
        refine al_skip ?_
        refine al_skip ?_
        refine al_val (ov_pick_f rfl rfl rfl) ?_
        refine al_val (ov_assign rfl rfl) ?_
        refine al_nil ?_
        exact aq_join false h (fun w a hm hs => norm hm hs [] [] [(3, (Value.bool j2b3)), (4, (Value.bool false))] (by decide) ⟨rfl, rfl, trivial⟩)
  · clear hkk3
    refine aw_region ?_
    refine al_val (ov_fieldA (p := 1) rfl Try.underlying124 rfl sz3 rfl rfl rfl) ?_
    refine al_val (ov_load (i := 0) (v := (Value.int .i64 a0.Len)) rfl rfl Try.underlying3 sz3 rfl rfl rfl rfl) ?_
    refine al_val (ov_int rfl rfl rfl rfl) ?_
    refine al_val (ov_move rfl rfl) ?_
    refine al_caseB 8 rfl (fun hb13 => ?_) (fun hb13 => ?_)
    · replace h := bif_t hb13 h
      refine al_val (ov_fieldA (p := 2) rfl Try.underlying124 rfl sz3 rfl rfl rfl) ?_
      refine al_val (ov_load (i := 0) (v := (Value.int .i64 a0.Dist)) rfl rfl Try.underlying3 sz3 rfl rfl rfl rfl) ?_
      refine al_val (ov_int rfl rfl rfl rfl) ?_
      refine al_val (ov_pick_t rfl rfl rfl) ?_
      refine al_val (ov_assign rfl rfl) ?_
      refine al_nil ?_
      exact aq_join (a0.Dist == (0 : Int)) h (fun w a hm hs => norm hm hs [0] [] [(1, (ptr g1 0)), (3, (Value.bool (a0.Dist == (0 : Int))))] (by decide) ⟨rfl, rfl, trivial⟩)
    · replace h := bif_f hb13 h
      refine al_skip ?_
      refine al_skip ?_
      refine al_skip ?_
      refine al_val (ov_pick_f rfl rfl rfl) ?_
      refine al_val (ov_assign rfl rfl) ?_
      refine al_nil ?_
      exact aq_join false h (fun w a hm hs => norm hm hs [0] [] [(1, (ptr g1 0)), (3, (Value.bool false))] (by decide) ⟨rfl, rfl, trivial⟩)
def f_lumref_Tokens_L6 (a0 : (List S_api_Token)) (kk3 : (Unit → Option Int)) (fu : Nat) : Nat → Int → Option Int
  | 0, _ => none
  | k5 + 1, l4i10 => (bif (decide (l4i10 < (a0.length : Int))) then (opt (at? a0 l4i10) fun (u8 : S_api_Token) => (opt (f_lumref_tokenForm fu u8) fun (r13 : Bool) => (bif (!r13) then (some (4 : Int)) else (f_lumref_Tokens_L6 a0 kk3 fu k5 (IntKind.i64.wrap (l4i10 + (1 : Int))))))) else (kk3 ()))
def f_lumref_Tokens (fu : Nat) (a0 : (List S_api_Token)) : Option Int := (bif (decide ((a0.length : Int) > (4096 : Int))) then (some (2 : Int)) else (lt (fun (_ : Unit) => (some (0 : Int))) fun (kk3 : Unit → Option Int) => (f_lumref_Tokens_L6 a0 kk3 fu fu (0 : Int))))
set_option maxRecDepth 100000 in
theorem f_lumref_Tokens_ok (fu : Nat) (v0_0 : Value) (a0 : (List S_api_Token)) {r : Int} (h : f_lumref_Tokens fu a0 = some r) : FnOk Try.prog 76 [v0_0] [(fDat (tyList tyS_api_Token) [v0_0] a0)] [] (fun (i : Unit) => { val := (Value.int .i64 r) }) := by
  unfold f_lumref_Tokens at h
  refine fn_enter Try.func76 rfl Try.ntmps76 rfl (fun w0 Z0 => ?_)
  refine aw_seq ?_
  refine aw_region ?_
  refine al_val (ov_assign rfl rfl) ?_
  refine al_nil ?_
  refine aq_then ?_
  refine aw_seq ?_
  refine aw_seq ?_
  refine aw_region ?_
  refine al_val (ov_move rfl rfl) ?_
  refine al_val (ov_lenD 0 rfl rfl Try.underlying114 rfl) ?_
  refine al_val (ov_int rfl rfl rfl rfl) ?_
  refine al_nil ?_
  refine aq_then ?_
  refine aw_cond rfl (fun hb1 => ?_) (fun hb1 => ?_)
  · replace h := bif_t hb1 h
    refine aw_seq ?_
    refine aw_region ?_
    refine al_val (ov_assign rfl rfl) ?_
    refine al_nil ?_
    refine aq_then ?_
    refine aw_ret ?_
    refine aq_then_ret ?_
    obtain rfl := Option.some.inj h
    exact fn_ret () [] [] rfl rfl rfl rfl (res1 rfl rfl) rfl rfl rfl (by decide)
  · replace h := bif_f hb1 h
    refine aw_skip ?_
    refine aq_then ?_
    obtain ⟨kk3, hkk3, h⟩ := lt_some h
    refine aw_seq_join (ι := Unit) (fun i => (memOf w0 Z0 [] [] [(fDat (tyList tyS_api_Token) [v0_0] a0)])) (fun i => (tab [])) (fun i => kk3 () = some r) ?_ ?_
    · rintro _ h
      have h : kk3 () = some r := h
      rw [hkk3] at h
      dsimp only at h
      clear hkk3
      refine aw_show (m := (memOf w0 Z0 [] [] [(fDat (tyList tyS_api_Token) [v0_0] a0)])) (S := (tab [])) ?_
      refine aw_seq ?_
      refine aw_region ?_
      refine al_val (ov_assign rfl rfl) ?_
      refine al_nil ?_
      refine aq_then ?_
      refine aw_ret ?_
      obtain rfl := Option.some.inj h
      exact fn_ret () [] [] rfl rfl rfl rfl (res1 rfl rfl) rfl rfl rfl (by decide)
    · clear hkk3
      refine aw_seq ?_
      refine aw_region ?_
      refine al_val (ov_move rfl rfl) ?_
      refine al_val (ov_lenD 0 rfl rfl Try.underlying114 rfl) ?_
      refine al_val (ov_move rfl rfl) ?_
      refine al_nil ?_
      refine aq_then ?_
      refine aw_block ?_
      refine aw_state (aw_loop (ι := Int) (fun i => (memOf w0 Z0 [] [] [(fDat (tyList tyS_api_Token) [v0_0] a0)])) (fun i => (tab [(8, v0_0), (9, (Value.int .i64 (a0.length : Int))), (10, (Value.int .i64 i))])) (fun q i => f_lumref_Tokens_L6 a0 kk3 fu q i = some r) ?_ fu (0 : Int) h) (fun w a hm hs => norm hm hs [] [0] [(8, v0_0), (9, (Value.int .i64 (a0.length : Int))), (10, (Value.int .i64 (0 : Int)))] (by decide) ⟨rfl, rfl, rfl, trivial⟩)
      clear h
      rintro k5 l4i10 h
      have h : f_lumref_Tokens_L6 a0 kk3 fu k5 l4i10 = some r := h
      obtain _ | k5 := k5
      · rw [f_lumref_Tokens_L6] at h; cases h
      rw [f_lumref_Tokens_L6] at h
      refine aw_show (m := (memOf w0 Z0 [] [] [(fDat (tyList tyS_api_Token) [v0_0] a0)])) (S := (tab [(8, v0_0), (9, (Value.int .i64 (a0.length : Int))), (10, (Value.int .i64 l4i10))])) ?_
      refine aw_seq ?_
      refine aw_region ?_
      refine al_val (ov_int rfl rfl rfl rfl) ?_
      refine al_nil ?_
      refine aq_then ?_
      refine aw_seq ?_
      refine aw_cond rfl (fun hb7 => ?_) (fun hb7 => ?_)
      · replace h := bif_t hb7 h
        refine aw_skip ?_
        refine aq_then ?_
        refine aw_seq ?_
        refine aw_block ?_
        refine aw_seq ?_
        refine aw_region ?_
        obtain ⟨u8, hu9, h⟩ := opt_some h
        refine al_idxD 0 hu9 rfl rfl rfl Try.underlying114 sz124 rfl (fun p10 => ?_)
        refine al_val (ov_loadP (ds := [(Value.int .u8 u8.Lit), (Value.int .i64 u8.Len), (Value.int .i64 u8.Dist)]) 0 rfl encS_api_Token rfl Try.underlying124 sz124 rfl rfl rfl) ?_
        refine al_alloc (zs := [(Value.int .u8 (0 : Int)), (Value.int .i64 (0 : Int)), (Value.int .i64 (0 : Int))]) (zeroOf_to to124) rfl rfl (fun g11 => ?_)
        refine al_store (i := 0) (vs := [(Value.int .u8 u8.Lit), (Value.int .i64 u8.Len), (Value.int .i64 u8.Dist)]) (cs' := [(Value.int .u8 u8.Lit), (Value.int .i64 u8.Len), (Value.int .i64 u8.Dist)]) rfl rfl rfl sz124 (cv_rfl rfl) rfl (co_val rfl (co_val rfl (co_val rfl co_nil))) (Nat.le_of_ble_eq_true rfl) rfl rfl ?_
        refine al_nil ?_
        refine aq_then ?_
        refine aw_seq ?_
        refine aw_region ?_
        refine al_val (ov_load (i := 0) (v := (ag [(Value.int .u8 u8.Lit), (Value.int .i64 u8.Len), (Value.int .i64 u8.Dist)])) rfl rfl Try.underlying124 sz124 rfl rfl rfl rfl) ?_
        obtain ⟨r13, hc12, h⟩ := opt_some h
        refine al_call (vs := [(ag [(Value.int .u8 u8.Lit), (Value.int .i64 u8.Len), (Value.int .i64 u8.Dist)])]) (f_lumref_tokenForm_ok fu u8 hc12) [] [] [0] pre_nil rfl (by simp) (by decide) (.inl rfl) rfl Try.func155 rfl rfl rfl (fun _ => ?_)
        refine al_val (ov_not rfl rfl) ?_
        refine al_nil ?_
        refine aq_then ?_
        refine aw_cond rfl (fun hb14 => ?_) (fun hb14 => ?_)
        · replace h := bif_t hb14 h
          refine aw_seq ?_
          refine aw_region ?_
          refine al_val (ov_assign rfl rfl) ?_
          refine al_nil ?_
          refine aq_then ?_
          refine aw_ret ?_
          refine aq_block_ret ?_
          refine aq_then_ret ?_
          refine aq_then_ret ?_
          refine aq_block_ret ?_
          refine aq_then_ret ?_
          obtain rfl := Option.some.inj h
          exact fn_ret () [] [] rfl rfl rfl rfl (res1 rfl rfl) rfl rfl rfl (by decide)
        · replace h := bif_f hb14 h
          refine aw_skip ?_
          refine aq_block ?_
          refine aq_then ?_
          refine aw_region ?_
          refine al_val (ov_int rfl rfl rfl rfl) ?_
          refine al_val (ov_move rfl rfl) ?_
          refine al_nil ?_
          exact aq_again k5 (IntKind.i64.wrap (l4i10 + (1 : Int))) (Nat.lt_succ_self _) h (fun w a hm hs => norm hm hs [] [1] [(8, v0_0), (9, (Value.int .i64 (a0.length : Int))), (10, (Value.int .i64 (IntKind.i64.wrap (l4i10 + (1 : Int)))))] (by decide) ⟨rfl, rfl, rfl, trivial⟩)
      · replace h := bif_f hb7 h
        refine aw_exit ?_
        refine aq_then_exit ?_
        refine aq_then_exit ?_
        refine aq_block_exit ?_
        exact aq_join () h (fun w a hm hs => norm hm hs [] [0] [] (by decide) trivial)
def f_lz_formed (fu : Nat) (a0 : S_api_Token) : Option Bool := (bif (a0.Len == (0 : Int)) then (some (a0.Dist == (0 : Int))) else (lt (fun (j3b2 : Bool) => (some j3b2)) fun (kk4 : Bool → Option Bool) => (bif (a0.Lit == (0 : Int)) then (bif (decide (a0.Len ≥ (1 : Int))) then (bif (decide (a0.Len ≤ (255 : Int))) then (bif (decide (a0.Dist ≥ (1 : Int))) then (kk4 (decide (a0.Dist ≤ (1024 : Int)))) else (kk4 false)) else (kk4 false)) else (kk4 false)) else (kk4 false))))
set_option maxRecDepth 100000 in
theorem f_lz_formed_ok (fu : Nat) (a0 : S_api_Token) {r : Bool} (h : f_lz_formed fu a0 = some r) : FnOk Try.prog 157 [(ag [(Value.int .u8 a0.Lit), (Value.int .i64 a0.Len), (Value.int .i64 a0.Dist)])] [] [] (fun (i : Unit) => { val := (Value.bool r) }) := by
  unfold f_lz_formed at h
  refine fn_enter Try.func157 rfl Try.ntmps157 rfl (fun w0 Z0 => ?_)
  refine aw_seq ?_
  refine aw_region ?_
  refine al_box (vs := [(Value.int .u8 a0.Lit), (Value.int .i64 a0.Len), (Value.int .i64 a0.Dist)]) rfl (cv_rfl rfl) rfl (fun g1 => ?_)
  refine al_val (ov_assign rfl rfl) ?_
  refine al_nil ?_
  refine aq_then ?_
  refine aw_seq ?_
  refine aw_seq ?_
  refine aw_region ?_
  refine al_val (ov_fieldA (p := 1) rfl Try.underlying124 rfl sz3 rfl rfl rfl) ?_
  refine al_val (ov_load (i := 0) (v := (Value.int .i64 a0.Len)) rfl rfl Try.underlying3 sz3 rfl rfl rfl rfl) ?_
  refine al_val (ov_int rfl rfl rfl rfl) ?_
  refine al_nil ?_
  refine aq_then ?_
  refine aw_cond rfl (fun hb2 => ?_) (fun hb2 => ?_)
  · replace h := bif_t hb2 h
    refine aw_seq ?_
    refine aw_region ?_
    refine al_val (ov_fieldA (p := 2) rfl Try.underlying124 rfl sz3 rfl rfl rfl) ?_
    refine al_val (ov_load (i := 0) (v := (Value.int .i64 a0.Dist)) rfl rfl Try.underlying3 sz3 rfl rfl rfl rfl) ?_
    refine al_val (ov_int rfl rfl rfl rfl) ?_
    refine al_val (ov_assign rfl rfl) ?_
    refine al_nil ?_
    refine aq_then ?_
    refine aw_ret ?_
    refine aq_then_ret ?_
    obtain rfl := Option.some.inj h
    exact fn_ret () [] [] rfl rfl rfl rfl (res1 rfl rfl) rfl rfl rfl (by decide)
  · replace h := bif_f hb2 h
    refine aw_skip ?_
    refine aq_then ?_
    obtain ⟨kk4, hkk4, h⟩ := lt_some h
    refine aw_seq_join (ι := Bool) (fun i => (memOf w0 Z0 [] [] [])) (fun i => (tab [(2, (Value.bool i))])) (fun i => kk4 i = some r) ?_ ?_
    · rintro j3b2 h
      have h : kk4 j3b2 = some r := h
      rw [hkk4] at h
      dsimp only at h
      clear hkk4
      refine aw_show (m := (memOf w0 Z0 [] [] [])) (S := (tab [(2, (Value.bool j3b2))])) ?_
      refine aw_ret ?_
      obtain rfl := Option.some.inj h
      exact fn_ret () [] [] rfl rfl rfl rfl (res1 rfl rfl) rfl rfl rfl (by decide)
    · clear hkk4
      refine aw_region ?_
      refine al_val (ov_fieldA (p := 0) rfl Try.underlying124 rfl sz5 rfl rfl rfl) ?_
      refine al_val (ov_load (i := 0) (v := (Value.int .u8 a0.Lit)) rfl rfl Try.underlying5 sz5 rfl rfl rfl rfl) ?_
      refine al_val (ov_int rfl rfl rfl rfl) ?_
      refine al_val (ov_move rfl rfl) ?_
      refine al_caseB 12 rfl (fun hb5 => ?_) (fun hb5 => ?_)
      · replace h := bif_t hb5 h
        refine al_val (ov_fieldA (p := 1) rfl Try.underlying124 rfl sz3 rfl rfl rfl) ?_
        refine al_val (ov_load (i := 0) (v := (Value.int .i64 a0.Len)) rfl rfl Try.underlying3 sz3 rfl rfl rfl rfl) ?_
        refine al_val (ov_int rfl rfl rfl rfl) ?_
        refine al_val (ov_pick_t rfl rfl rfl) ?_
        refine al_val (ov_move rfl rfl) ?_
        refine al_caseB 17 rfl (fun hb6 => ?_) (fun hb6 => ?_)
        · replace h := bif_t hb6 h
          refine al_val (ov_fieldA (p := 1) rfl Try.underlying124 rfl sz3 rfl rfl rfl) ?_
          refine al_val (ov_load (i := 0) (v := (Value.int .i64 a0.Len)) rfl rfl Try.underlying3 sz3 rfl rfl rfl rfl) ?_
          refine al_val (ov_int rfl rfl rfl rfl) ?_
          refine al_val (ov_pick_t rfl rfl rfl) ?_
          refine al_val (ov_move rfl rfl) ?_
          refine al_caseB 22 rfl (fun hb7 => ?_) (fun hb7 => ?_)
          · replace h := bif_t hb7 h
            refine al_val (ov_fieldA (p := 2) rfl Try.underlying124 rfl sz3 rfl rfl rfl) ?_
            refine al_val (ov_load (i := 0) (v := (Value.int .i64 a0.Dist)) rfl rfl Try.underlying3 sz3 rfl rfl rfl rfl) ?_
            refine al_val (ov_int rfl rfl rfl rfl) ?_
            refine al_val (ov_pick_t rfl rfl rfl) ?_
            refine al_val (ov_move rfl rfl) ?_
            refine al_caseB 27 rfl (fun hb8 => ?_) (fun hb8 => ?_)
            · replace h := bif_t hb8 h
              refine al_val (ov_fieldA (p := 2) rfl Try.underlying124 rfl sz3 rfl rfl rfl) ?_
              refine al_val (ov_load (i := 0) (v := (Value.int .i64 a0.Dist)) rfl rfl Try.underlying3 sz3 rfl rfl rfl rfl) ?_
              refine al_val (ov_int rfl rfl rfl rfl) ?_
              refine al_val (ov_pick_t rfl rfl rfl) ?_
              refine al_val (ov_assign rfl rfl) ?_
              refine al_nil ?_
              exact aq_join (decide (a0.Dist ≤ (1024 : Int))) h (fun w a hm hs => norm hm hs [] [] [(2, (Value.bool (decide (a0.Dist ≤ (1024 : Int)))))] (by decide) ⟨rfl, trivial⟩)
            · replace h := bif_f hb8 h
              refine al_skip ?_
              refine al_skip ?_
              refine al_skip ?_
              refine al_val (ov_pick_f rfl rfl rfl) ?_
              refine al_val (ov_assign rfl rfl) ?_
              refine al_nil ?_
              exact aq_join false h (fun w a hm hs => norm hm hs [] [] [(2, (Value.bool false))] (by decide) ⟨rfl, trivial⟩)
          · replace h := bif_f hb7 h
            refine al_skip ?_
            refine al_skip ?_
            refine al_skip ?_
            refine al_val (ov_pick_f rfl rfl rfl) ?_
            refine al_val (ov_move rfl rfl) ?_
            refine al_skip ?_
            refine al_skip ?_
            refine al_skip ?_
            refine al_val (ov_pick_f rfl rfl rfl) ?_
            refine al_val (ov_assign rfl rfl) ?_
            refine al_nil ?_
            exact aq_join false h (fun w a hm hs => norm hm hs [] [] [(2, (Value.bool false))] (by decide) ⟨rfl, trivial⟩)
        · replace h := bif_f hb6 h
          refine al_skip ?_
          refine al_skip ?_
          refine al_skip ?_
          refine al_val (ov_pick_f rfl rfl rfl) ?_
          refine al_val (ov_move rfl rfl) ?_
          refine al_skip ?_
          refine al_skip ?_
          refine al_skip ?_
          refine al_val (ov_pick_f rfl rfl rfl) ?_
          refine al_val (ov_move rfl rfl) ?_
          refine al_skip ?_
          refine al_skip ?_
          refine al_skip ?_
          refine al_val (ov_pick_f rfl rfl rfl) ?_
          refine al_val (ov_assign rfl rfl) ?_
          refine al_nil ?_
          exact aq_join false h (fun w a hm hs => norm hm hs [] [] [(2, (Value.bool false))] (by decide) ⟨rfl, trivial⟩)
      · replace h := bif_f hb5 h
        refine al_skip ?_
        refine al_skip ?_
        refine al_skip ?_
        refine al_val (ov_pick_f rfl rfl rfl) ?_
        refine al_val (ov_move rfl rfl) ?_
        refine al_skip ?_
        refine al_skip ?_
        refine al_skip ?_
        refine al_val (ov_pick_f rfl rfl rfl) ?_
        refine al_val (ov_move rfl rfl) ?_
        refine al_skip ?_
        refine al_skip ?_
        refine al_skip ?_
        refine al_val (ov_pick_f rfl rfl rfl) ?_
        refine al_val (ov_move rfl rfl) ?_
        refine al_skip ?_
        refine al_skip ?_
        refine al_skip ?_
        refine al_val (ov_pick_f rfl rfl rfl) ?_
        refine al_val (ov_assign rfl rfl) ?_
        refine al_nil ?_
        exact aq_join false h (fun w a hm hs => norm hm hs [] [] [(2, (Value.bool false))] (by decide) ⟨rfl, trivial⟩)
def f_lz_Check_L6 (a0 : (List S_api_Token)) (kk3 : (Unit → Option Int)) (fu : Nat) : Nat → Int → Option Int
  | 0, _ => none
  | k5 + 1, l4i10 => (bif (decide (l4i10 < (a0.length : Int))) then (opt (at? a0 l4i10) fun (u8 : S_api_Token) => (opt (f_lz_formed fu u8) fun (r13 : Bool) => (bif (!r13) then (some (4 : Int)) else (f_lz_Check_L6 a0 kk3 fu k5 (IntKind.i64.wrap (l4i10 + (1 : Int))))))) else (kk3 ()))
def f_lz_Check (fu : Nat) (a0 : (List S_api_Token)) : Option Int := (bif (decide ((a0.length : Int) > (4096 : Int))) then (some (2 : Int)) else (lt (fun (_ : Unit) => (some (0 : Int))) fun (kk3 : Unit → Option Int) => (f_lz_Check_L6 a0 kk3 fu fu (0 : Int))))
set_option maxRecDepth 100000 in
theorem f_lz_Check_ok (fu : Nat) (v0_0 : Value) (a0 : (List S_api_Token)) {r : Int} (h : f_lz_Check fu a0 = some r) : FnOk Try.prog 83 [v0_0] [(fDat (tyList tyS_api_Token) [v0_0] a0)] [] (fun (i : Unit) => { val := (Value.int .i64 r) }) := by
  unfold f_lz_Check at h
  refine fn_enter Try.func83 rfl Try.ntmps83 rfl (fun w0 Z0 => ?_)
  refine aw_seq ?_
  refine aw_region ?_
  refine al_val (ov_assign rfl rfl) ?_
  refine al_nil ?_
  refine aq_then ?_
  refine aw_seq ?_
  refine aw_seq ?_
  refine aw_region ?_
  refine al_val (ov_move rfl rfl) ?_
  refine al_val (ov_lenD 0 rfl rfl Try.underlying114 rfl) ?_
  refine al_val (ov_int rfl rfl rfl rfl) ?_
  refine al_nil ?_
  refine aq_then ?_
  refine aw_cond rfl (fun hb1 => ?_) (fun hb1 => ?_)
  · replace h := bif_t hb1 h
    refine aw_seq ?_
    refine aw_region ?_
    refine al_val (ov_assign rfl rfl) ?_
    refine al_nil ?_
    refine aq_then ?_
    refine aw_ret ?_
    refine aq_then_ret ?_
    obtain rfl := Option.some.inj h
    exact fn_ret () [] [] rfl rfl rfl rfl (res1 rfl rfl) rfl rfl rfl (by decide)
  · replace h := bif_f hb1 h
    refine aw_skip ?_
    refine aq_then ?_
    obtain ⟨kk3, hkk3, h⟩ := lt_some h
    refine aw_seq_join (ι := Unit) (fun i => (memOf w0 Z0 [] [] [(fDat (tyList tyS_api_Token) [v0_0] a0)])) (fun i => (tab [])) (fun i => kk3 () = some r) ?_ ?_
    · rintro _ h
      have h : kk3 () = some r := h
      rw [hkk3] at h
      dsimp only at h
      clear hkk3
      refine aw_show (m := (memOf w0 Z0 [] [] [(fDat (tyList tyS_api_Token) [v0_0] a0)])) (S := (tab [])) ?_
      refine aw_seq ?_
      refine aw_region ?_
      refine al_val (ov_assign rfl rfl) ?_
      refine al_nil ?_
      refine aq_then ?_
      refine aw_ret ?_
      obtain rfl := Option.some.inj h
      exact fn_ret () [] [] rfl rfl rfl rfl (res1 rfl rfl) rfl rfl rfl (by decide)
    · clear hkk3
      refine aw_seq ?_
      refine aw_region ?_
      refine al_val (ov_move rfl rfl) ?_
      refine al_val (ov_lenD 0 rfl rfl Try.underlying114 rfl) ?_
      refine al_val (ov_move rfl rfl) ?_
      refine al_nil ?_
      refine aq_then ?_
      refine aw_block ?_
      refine aw_state (aw_loop (ι := Int) (fun i => (memOf w0 Z0 [] [] [(fDat (tyList tyS_api_Token) [v0_0] a0)])) (fun i => (tab [(8, v0_0), (9, (Value.int .i64 (a0.length : Int))), (10, (Value.int .i64 i))])) (fun q i => f_lz_Check_L6 a0 kk3 fu q i = some r) ?_ fu (0 : Int) h) (fun w a hm hs => norm hm hs [] [0] [(8, v0_0), (9, (Value.int .i64 (a0.length : Int))), (10, (Value.int .i64 (0 : Int)))] (by decide) ⟨rfl, rfl, rfl, trivial⟩)
      clear h
      rintro k5 l4i10 h
      have h : f_lz_Check_L6 a0 kk3 fu k5 l4i10 = some r := h
      obtain _ | k5 := k5
      · rw [f_lz_Check_L6] at h; cases h
      rw [f_lz_Check_L6] at h
      refine aw_show (m := (memOf w0 Z0 [] [] [(fDat (tyList tyS_api_Token) [v0_0] a0)])) (S := (tab [(8, v0_0), (9, (Value.int .i64 (a0.length : Int))), (10, (Value.int .i64 l4i10))])) ?_
      refine aw_seq ?_
      refine aw_region ?_
      refine al_val (ov_int rfl rfl rfl rfl) ?_
      refine al_nil ?_
      refine aq_then ?_
      refine aw_seq ?_
      refine aw_cond rfl (fun hb7 => ?_) (fun hb7 => ?_)
      · replace h := bif_t hb7 h
        refine aw_skip ?_
        refine aq_then ?_
        refine aw_seq ?_
        refine aw_block ?_
        refine aw_seq ?_
        refine aw_region ?_
        obtain ⟨u8, hu9, h⟩ := opt_some h
        refine al_idxD 0 hu9 rfl rfl rfl Try.underlying114 sz124 rfl (fun p10 => ?_)
        refine al_val (ov_loadP (ds := [(Value.int .u8 u8.Lit), (Value.int .i64 u8.Len), (Value.int .i64 u8.Dist)]) 0 rfl encS_api_Token rfl Try.underlying124 sz124 rfl rfl rfl) ?_
        refine al_alloc (zs := [(Value.int .u8 (0 : Int)), (Value.int .i64 (0 : Int)), (Value.int .i64 (0 : Int))]) (zeroOf_to to124) rfl rfl (fun g11 => ?_)
        refine al_store (i := 0) (vs := [(Value.int .u8 u8.Lit), (Value.int .i64 u8.Len), (Value.int .i64 u8.Dist)]) (cs' := [(Value.int .u8 u8.Lit), (Value.int .i64 u8.Len), (Value.int .i64 u8.Dist)]) rfl rfl rfl sz124 (cv_rfl rfl) rfl (co_val rfl (co_val rfl (co_val rfl co_nil))) (Nat.le_of_ble_eq_true rfl) rfl rfl ?_
        refine al_nil ?_
        refine aq_then ?_
        refine aw_seq ?_
        refine aw_region ?_
        refine al_val (ov_load (i := 0) (v := (ag [(Value.int .u8 u8.Lit), (Value.int .i64 u8.Len), (Value.int .i64 u8.Dist)])) rfl rfl Try.underlying124 sz124 rfl rfl rfl rfl) ?_
        obtain ⟨r13, hc12, h⟩ := opt_some h
        refine al_call (vs := [(ag [(Value.int .u8 u8.Lit), (Value.int .i64 u8.Len), (Value.int .i64 u8.Dist)])]) (f_lz_formed_ok fu u8 hc12) [] [] [0] pre_nil rfl (by simp) (by decide) (.inl rfl) rfl Try.func157 rfl rfl rfl (fun _ => ?_)
        refine al_val (ov_not rfl rfl) ?_
        refine al_nil ?_
        refine aq_then ?_
        refine aw_cond rfl (fun hb14 => ?_) (fun hb14 => ?_)
        · replace h := bif_t hb14 h
          refine aw_seq ?_
          refine aw_region ?_
          refine al_val (ov_assign rfl rfl) ?_
          refine al_nil ?_
          refine aq_then ?_
          refine aw_ret ?_
          refine aq_block_ret ?_
          refine aq_then_ret ?_
          refine aq_then_ret ?_
          refine aq_block_ret ?_
          refine aq_then_ret ?_
          obtain rfl := Option.some.inj h
          exact fn_ret () [] [] rfl rfl rfl rfl (res1 rfl rfl) rfl rfl rfl (by decide)
        · replace h := bif_f hb14 h
          refine aw_skip ?_
          refine aq_block ?_
          refine aq_then ?_
          refine aw_region ?_
          refine al_val (ov_int rfl rfl rfl rfl) ?_
          refine al_val (ov_move rfl rfl) ?_
          refine al_nil ?_
          exact aq_again k5 (IntKind.i64.wrap (l4i10 + (1 : Int))) (Nat.lt_succ_self _) h (fun w a hm hs => norm hm hs [] [1] [(8, v0_0), (9, (Value.int .i64 (a0.length : Int))), (10, (Value.int .i64 (IntKind.i64.wrap (l4i10 + (1 : Int)))))] (by decide) ⟨rfl, rfl, rfl, trivial⟩)
      · replace h := bif_f hb7 h
        refine aw_exit ?_
        refine aq_then_exit ?_
        refine aq_then_exit ?_
        refine aq_block_exit ?_
        exact aq_join () h (fun w a hm hs => norm hm hs [] [0] [] (by decide) trivial)
def f_lz_Expand_L26 (kk15 : ((List UInt8) → Option ((List UInt8) × Int))) (u16 : S_api_Token) : Nat → (List UInt8) → Int → Option ((List UInt8) × Int)
  | 0, _, _ => none
  | k25 + 1, l24x7, l24i50 => (bif (decide (l24i50 < u16.Len)) then (opt (at? l24x7 (IntKind.i64.wrap ((l24x7.length : Int) - u16.Dist))) fun (u28 : UInt8) => (req (((l24x7.length + ([u28]).length) * 1 : Nat) ≤ 140737488355328 ∧ l24x7.length + ([u28]).length ≤ 9223372036854775807) (f_lz_Expand_L26 kk15 u16 k25 (l24x7 ++ ([u28])) (IntKind.i64.wrap (l24i50 + (1 : Int)))))) else (kk15 l24x7))
def f_lz_Expand_L11 (a0 : (List S_api_Token)) (a1 : Int) (kk8 : ((List UInt8) → Option ((List UInt8) × Int))) (fu : Nat) : Nat → (List UInt8) → Int → Option ((List UInt8) × Int)
  | 0, _, _ => none
  | k10 + 1, l9x7, l9i23 => (lt (fun (l9x7 : (List UInt8)) (l9i23 : Int) => (f_lz_Expand_L11 a0 a1 kk8 fu k10 l9x7 l9i23)) fun (kk12 : (List UInt8) → Int → Option ((List UInt8) × Int)) => (bif (decide (l9i23 < (a0.length : Int))) then (lt (fun (j14x7 : (List UInt8)) => (kk12 j14x7 (IntKind.i64.wrap (l9i23 + (1 : Int))))) fun (kk15 : (List UInt8) → Option ((List UInt8) × Int)) => (opt (at? a0 l9i23) fun (u16 : S_api_Token) => (bif (decide (u16.Dist > (l9x7.length : Int))) then (some (([] : List UInt8), (4 : Int))) else (bif (decide ((IntKind.i64.wrap ((l9x7.length : Int) + (if (1 : Int) > u16.Len then (1 : Int) else u16.Len))) > a1)) then (some (([] : List UInt8), (2 : Int))) else (lt (fun (j22x7 : (List UInt8)) => (f_lz_Expand_L26 kk15 u16 fu j22x7 (0 : Int))) fun (kk23 : (List UInt8) → Option ((List UInt8) × Int)) => (bif (u16.Len == (0 : Int)) then (req (0 ≤ u16.Lit ∧ u16.Lit ≤ 255) (req (((l9x7.length + ([(UInt8.ofNat (u16.Lit).toNat)]).length) * 1 : Nat) ≤ 140737488355328 ∧ l9x7.length + ([(UInt8.ofNat (u16.Lit).toNat)]).length ≤ 9223372036854775807) (kk23 (l9x7 ++ ([(UInt8.ofNat (u16.Lit).toNat)]))))) else (kk23 l9x7))))))) else (kk8 l9x7)))
def f_lz_Expand (fu : Nat) (a0 : (List S_api_Token)) (a1 : Int) : Option ((List UInt8) × Int) := (lt (fun (j1b15 : Bool) => (bif j1b15 then (some (([] : List UInt8), (1 : Int))) else (opt (f_lz_Check fu a0) fun (r5 : Int) => (bif (r5 != (0 : Int)) then (some (([] : List UInt8), r5)) else (lt (fun (j7x7 : (List UInt8)) => (some (j7x7, (0 : Int)))) fun (kk8 : (List UInt8) → Option ((List UInt8) × Int)) => (f_lz_Expand_L11 a0 a1 kk8 fu fu ([] : List UInt8) (0 : Int))))))) fun (kk2 : Bool → Option ((List UInt8) × Int)) => (bif (decide (a1 < (0 : Int))) then (kk2 true) else (kk2 (decide (a1 > (4096 : Int))))))
set_option maxRecDepth 100000 in
theorem f_lz_Expand_ok (fu : Nat) (v0_0 : Value) (a0 : (List S_api_Token)) (a1 : Int) {r : ((List UInt8) × Int)} (h : f_lz_Expand fu a0 a1 = some r) : FnOk Try.prog 77 [v0_0, (Value.int .i64 a1)] [(fDat (tyList tyS_api_Token) [v0_0] a0)] [] (fun (i : Unit) => { val := (Value.tuple #[(str r.1), (Value.int .i64 r.2)]) }) := by
  unfold f_lz_Expand at h
  refine fn_enter Try.func77 rfl Try.ntmps77 rfl (fun w0 Z0 => ?_)
  refine aw_seq ?_
  refine aw_region ?_
  refine al_val (ov_assign rfl rfl) ?_
  refine al_val (ov_assign rfl rfl) ?_
  refine al_nil ?_
  refine aq_then ?_
  refine aw_seq ?_
  obtain ⟨kk2, hkk2, h⟩ := lt_some h
  refine aw_seq_join (ι := Bool) (fun i => (memOf w0 Z0 [] [] [(fDat (tyList tyS_api_Token) [v0_0] a0)])) (fun i => (tab [(0, v0_0), (1, (Value.int .i64 a1)), (15, (Value.bool i))])) (fun i => kk2 i = some r) ?_ ?_
  · rintro j1b15 h
    have h : kk2 j1b15 = some r := h
    rw [hkk2] at h
    dsimp only at h
    clear hkk2
    refine aw_show (m := (memOf w0 Z0 [] [] [(fDat (tyList tyS_api_Token) [v0_0] a0)])) (S := (tab [(0, v0_0), (1, (Value.int .i64 a1)), (15, (Value.bool j1b15))])) ?_
    refine aw_cond rfl (fun hb3 => ?_) (fun hb3 => ?_)
    · replace h := bif_t hb3 h
      refine aw_seq ?_
      refine aw_region ?_
      refine al_val (ov_assign rfl rfl) ?_
      refine al_val (ov_assign rfl rfl) ?_
      refine al_nil ?_
      refine aq_then ?_
      refine aw_ret ?_
      refine aq_then_ret ?_
      obtain rfl := Option.some.inj h
      exact fn_ret () [] [] rfl rfl rfl rfl (res2 rfl rfl rfl) rfl rfl rfl (by decide)
    · replace h := bif_f hb3 h
      refine aw_skip ?_
      refine aq_then ?_
      refine aw_seq ?_
      refine aw_seq ?_
      refine aw_region ?_
      refine al_val (ov_move rfl rfl) ?_
      obtain ⟨r5, hc4, h⟩ := opt_some h
      refine al_call (vs := [v0_0]) (f_lz_Check_ok fu v0_0 a0 hc4) [] [] [] (pre_fz 0 rfl pre_nil) rfl (by simp) (by decide) (.inl rfl) rfl Try.func83 rfl rfl rfl (fun _ => ?_)
      refine al_val (ov_assign rfl rfl) ?_
      refine al_nil ?_
      refine aq_then ?_
      refine aw_seq ?_
      refine aw_region ?_
      refine al_val (ov_move rfl rfl) ?_
      refine al_val (ov_int rfl rfl rfl rfl) ?_
      refine al_nil ?_
      refine aq_then ?_
      refine aw_cond rfl (fun hb6 => ?_) (fun hb6 => ?_)
      · replace h := bif_t hb6 h
        refine aw_seq ?_
        refine aw_region ?_
        refine al_val (ov_move rfl rfl) ?_
        refine al_val (ov_assign rfl rfl) ?_
        refine al_val (ov_assign rfl rfl) ?_
        refine al_nil ?_
        refine aq_then ?_
        refine aw_ret ?_
        refine aq_then_ret ?_
        obtain rfl := Option.some.inj h
        exact fn_ret () [] [] rfl rfl rfl rfl (res2 rfl rfl rfl) rfl rfl rfl (by decide)
      · replace h := bif_f hb6 h
        refine aw_skip ?_
        refine aq_then ?_
        refine aw_seq ?_
        refine aw_region ?_
        refine al_val (ov_assign rfl rfl) ?_
        refine al_nil ?_
        refine aq_then ?_
        obtain ⟨kk8, hkk8, h⟩ := lt_some h
        refine aw_seq_join (ι := Value × (List UInt8)) (fun i => (memOf w0 Z0 [] [(oRow i.1 5 tyU8 i.2)] [(fDat (tyList tyS_api_Token) [v0_0] a0)])) (fun i => (tab [(7, i.1)])) (fun i => kk8 i.2 = some r) ?_ ?_
        · rintro ⟨j7v7, j7x7⟩ h
          have h : kk8 j7x7 = some r := h
          rw [hkk8] at h
          dsimp only at h
          clear hkk8
          refine aw_show (m := (memOf w0 Z0 [] [(oRow j7v7 5 tyU8 j7x7)] [(fDat (tyList tyS_api_Token) [v0_0] a0)])) (S := (tab [(7, j7v7)])) ?_
          refine aw_seq ?_
          refine aw_region ?_
          refine al_val (ov_move rfl rfl) ?_
          refine al_val (ov_toStrR 0 rfl rfl Try.underlying156 Try.underlying5 Try.underlying9 rfl) ?_
          refine al_val (ov_assign rfl rfl) ?_
          refine al_val (ov_assign rfl rfl) ?_
          refine al_nil ?_
          refine aq_then ?_
          refine aw_ret ?_
          obtain rfl := Option.some.inj h
          exact fn_ret () [] [] rfl rfl rfl rfl (res2 rfl rfl rfl) rfl rfl rfl (by decide)
        · clear hkk8
          refine aw_seq ?_
          refine aw_region ?_
          refine al_val (ov_move rfl rfl) ?_
          refine al_val (ov_lenD 0 rfl rfl Try.underlying114 rfl) ?_
          refine al_val (ov_move rfl rfl) ?_
          refine al_nil ?_
          refine aq_then ?_
          refine aw_block ?_
          refine aw_nilR 5 tyU8 ?_
          refine aw_state (aw_loop (ι := Value × (List UInt8) × Int) (fun i => (memOf w0 Z0 [] [(oRow i.1 5 tyU8 i.2.1)] [(fDat (tyList tyS_api_Token) [v0_0] a0)])) (fun i => (tab [(1, (Value.int .i64 a1)), (7, i.1), (21, v0_0), (22, (Value.int .i64 (a0.length : Int))), (23, (Value.int .i64 i.2.2))])) (fun q i => f_lz_Expand_L11 a0 a1 kk8 fu q i.2.1 i.2.2 = some r) ?_ fu ((Value.slice none 0 0), ([] : List UInt8), (0 : Int)) h) (fun w a hm hs => norm hm hs [0] [0] [(1, (Value.int .i64 a1)), (7, (Value.slice none 0 0)), (21, v0_0), (22, (Value.int .i64 (a0.length : Int))), (23, (Value.int .i64 (0 : Int)))] (by decide) ⟨rfl, rfl, rfl, rfl, rfl, trivial⟩)
          clear h
          rintro k10 ⟨l9v7, l9x7, l9i23⟩ h
          have h : f_lz_Expand_L11 a0 a1 kk8 fu k10 l9x7 l9i23 = some r := h
          obtain _ | k10 := k10
          · rw [f_lz_Expand_L11] at h; cases h
          rw [f_lz_Expand_L11] at h
          refine aw_show (m := (memOf w0 Z0 [] [(oRow l9v7 5 tyU8 l9x7)] [(fDat (tyList tyS_api_Token) [v0_0] a0)])) (S := (tab [(1, (Value.int .i64 a1)), (7, l9v7), (21, v0_0), (22, (Value.int .i64 (a0.length : Int))), (23, (Value.int .i64 l9i23))])) ?_
          obtain ⟨kk12, hkk12, h⟩ := lt_some h
          refine aw_body_join (ι := Value × (List UInt8) × Int) (fun i => (memOf w0 Z0 [] [(oRow i.1 5 tyU8 i.2.1)] [(fDat (tyList tyS_api_Token) [v0_0] a0)])) (fun i => (tab [(1, (Value.int .i64 a1)), (7, i.1), (21, v0_0), (22, (Value.int .i64 (a0.length : Int))), (23, (Value.int .i64 i.2.2))])) (fun i => kk12 i.2.1 i.2.2 = some r) (fun i h => aq_again k10 i (Nat.lt_succ_self _) (by rw [hkk12] at h; exact h) (fun w a hm hs => ⟨hm, hs⟩)) ?_
          clear hkk12
          refine aw_seq ?_
          refine aw_region ?_
          refine al_val (ov_int rfl rfl rfl rfl) ?_
          refine al_nil ?_
          refine aq_then ?_
          refine aw_seq ?_
          refine aw_cond rfl (fun hb13 => ?_) (fun hb13 => ?_)
          · replace h := bif_t hb13 h
            refine aw_skip ?_
            refine aq_then ?_
            obtain ⟨kk15, hkk15, h⟩ := lt_some h
            refine aw_seq_join (ι := Value × (List UInt8)) (fun i => (memOf w0 Z0 [] [(oRow i.1 5 tyU8 i.2)] [(fDat (tyList tyS_api_Token) [v0_0] a0)])) (fun i => (tab [(1, (Value.int .i64 a1)), (7, i.1), (21, v0_0), (22, (Value.int .i64 (a0.length : Int))), (23, (Value.int .i64 l9i23))])) (fun i => kk15 i.2 = some r) ?_ ?_
            · rintro ⟨j14v7, j14x7⟩ h
              have h : kk15 j14x7 = some r := h
              rw [hkk15] at h
              dsimp only at h
              clear hkk15
              refine aw_show (m := (memOf w0 Z0 [] [(oRow j14v7 5 tyU8 j14x7)] [(fDat (tyList tyS_api_Token) [v0_0] a0)])) (S := (tab [(1, (Value.int .i64 a1)), (7, j14v7), (21, v0_0), (22, (Value.int .i64 (a0.length : Int))), (23, (Value.int .i64 l9i23))])) ?_
              refine aw_region ?_
              refine al_val (ov_int rfl rfl rfl rfl) ?_
              refine al_val (ov_move rfl rfl) ?_
              refine al_nil ?_
              exact aq_join (j14v7, j14x7, (IntKind.i64.wrap (l9i23 + (1 : Int)))) h (fun w a hm hs => norm hm hs [0] [0] [(1, (Value.int .i64 a1)), (7, j14v7), (21, v0_0), (22, (Value.int .i64 (a0.length : Int))), (23, (Value.int .i64 (IntKind.i64.wrap (l9i23 + (1 : Int)))))] (by decide) ⟨rfl, rfl, rfl, rfl, rfl, trivial⟩)
            · clear hkk15
              refine aw_block ?_
              refine aw_seq ?_
              refine aw_region ?_
              obtain ⟨u16, hu17, h⟩ := opt_some h
              refine al_idxD 0 hu17 rfl rfl rfl Try.underlying114 sz124 rfl (fun p18 => ?_)
              refine al_val (ov_loadP (ds := [(Value.int .u8 u16.Lit), (Value.int .i64 u16.Len), (Value.int .i64 u16.Dist)]) 0 rfl encS_api_Token rfl Try.underlying124 sz124 rfl rfl rfl) ?_
              refine al_alloc (zs := [(Value.int .u8 (0 : Int)), (Value.int .i64 (0 : Int)), (Value.int .i64 (0 : Int))]) (zeroOf_to to124) rfl rfl (fun g19 => ?_)
              refine al_store (i := 0) (vs := [(Value.int .u8 u16.Lit), (Value.int .i64 u16.Len), (Value.int .i64 u16.Dist)]) (cs' := [(Value.int .u8 u16.Lit), (Value.int .i64 u16.Len), (Value.int .i64 u16.Dist)]) rfl rfl rfl sz124 (cv_rfl rfl) rfl (co_val rfl (co_val rfl (co_val rfl co_nil))) (Nat.le_of_ble_eq_true rfl) rfl rfl ?_
              refine al_nil ?_
              refine aq_then ?_
              refine aw_seq ?_
              refine aw_seq ?_
              refine aw_region ?_
              refine al_val (ov_fieldA (p := 2) rfl Try.underlying124 rfl sz3 rfl rfl rfl) ?_
              refine al_val (ov_load (i := 0) (v := (Value.int .i64 u16.Dist)) rfl rfl Try.underlying3 sz3 rfl rfl rfl rfl) ?_
              refine al_val (ov_move rfl rfl) ?_
              refine al_val (ov_lenR 1 rfl rfl Try.underlying156 rfl) ?_
              refine al_val (ov_int rfl rfl rfl rfl) ?_
              refine al_nil ?_
              refine aq_then ?_
              refine aw_cond rfl (fun hb20 => ?_) (fun hb20 => ?_)
              · replace h := bif_t hb20 h
                refine aw_seq ?_
                refine aw_region ?_
                refine al_val (ov_assign rfl rfl) ?_
                refine al_val (ov_assign rfl rfl) ?_
                refine al_nil ?_
                refine aq_then ?_
                refine aw_ret ?_
                refine aq_then_ret ?_
                refine aq_block_ret ?_
                refine aq_then_ret ?_
                refine aq_then_ret ?_
                refine aq_block_ret ?_
                refine aq_then_ret ?_
                obtain rfl := Option.some.inj h
                exact fn_ret () [] [] rfl rfl rfl rfl (res2 rfl rfl rfl) rfl rfl rfl (by decide)
              · replace h := bif_f hb20 h
                refine aw_skip ?_
                refine aq_then ?_
                refine aw_seq ?_
                refine aw_seq ?_
                refine aw_region ?_
                refine al_val (ov_move rfl rfl) ?_
                refine al_val (ov_lenR 1 rfl rfl Try.underlying156 rfl) ?_
                refine al_val (ov_fieldA (p := 1) rfl Try.underlying124 rfl sz3 rfl rfl rfl) ?_
                refine al_val (ov_load (i := 0) (v := (Value.int .i64 u16.Len)) rfl rfl Try.underlying3 sz3 rfl rfl rfl rfl) ?_
                refine al_val (ov_max rfl rfl rfl) ?_
                refine al_val (ov_int rfl rfl rfl rfl) ?_
                refine al_val (ov_move rfl rfl) ?_
                refine al_val (ov_int rfl rfl rfl rfl) ?_
                refine al_nil ?_
                refine aq_then ?_
                refine aw_cond rfl (fun hb21 => ?_) (fun hb21 => ?_)
                · replace h := bif_t hb21 h
                  refine aw_seq ?_
                  refine aw_region ?_
                  refine al_val (ov_assign rfl rfl) ?_
                  refine al_val (ov_assign rfl rfl) ?_
                  refine al_nil ?_
                  refine aq_then ?_
                  refine aw_ret ?_
                  refine aq_then_ret ?_
                  refine aq_block_ret ?_
                  refine aq_then_ret ?_
                  refine aq_then_ret ?_
                  refine aq_block_ret ?_
                  refine aq_then_ret ?_
                  obtain rfl := Option.some.inj h
                  exact fn_ret () [] [] rfl rfl rfl rfl (res2 rfl rfl rfl) rfl rfl rfl (by decide)
                · replace h := bif_f hb21 h
                  refine aw_skip ?_
                  refine aq_then ?_
                  obtain ⟨kk23, hkk23, h⟩ := lt_some h
                  refine aw_seq_join (ι := Value × (List UInt8)) (fun i => (memOf w0 Z0 [] [(oRow i.1 5 tyU8 i.2), (oBox g19 124 [(Value.int .u8 u16.Lit), (Value.int .i64 u16.Len), (Value.int .i64 u16.Dist)])] [(fDat (tyList tyS_api_Token) [v0_0] a0), (fPtr tyS_api_Token p18 u16)])) (fun i => (tab [(1, (Value.int .i64 a1)), (7, i.1), (9, (ptr g19 0)), (21, v0_0), (22, (Value.int .i64 (a0.length : Int))), (23, (Value.int .i64 l9i23))])) (fun i => kk23 i.2 = some r) ?_ ?_
                  · rintro ⟨j22v7, j22x7⟩ h
                    have h : kk23 j22x7 = some r := h
                    rw [hkk23] at h
                    dsimp only at h
                    clear hkk23
                    refine aw_show (m := (memOf w0 Z0 [] [(oRow j22v7 5 tyU8 j22x7), (oBox g19 124 [(Value.int .u8 u16.Lit), (Value.int .i64 u16.Len), (Value.int .i64 u16.Dist)])] [(fDat (tyList tyS_api_Token) [v0_0] a0), (fPtr tyS_api_Token p18 u16)])) (S := (tab [(1, (Value.int .i64 a1)), (7, j22v7), (9, (ptr g19 0)), (21, v0_0), (22, (Value.int .i64 (a0.length : Int))), (23, (Value.int .i64 l9i23))])) ?_
                    refine aw_seq ?_
                    refine aw_region ?_
                    refine al_val (ov_fieldA (p := 1) rfl Try.underlying124 rfl sz3 rfl rfl rfl) ?_
                    refine al_val (ov_load (i := 1) (v := (Value.int .i64 u16.Len)) rfl rfl Try.underlying3 sz3 rfl rfl rfl rfl) ?_
                    refine al_val (ov_move rfl rfl) ?_
                    refine al_nil ?_
                    refine aq_then ?_
                    refine aw_block ?_
                    refine aw_state (aw_loop (ι := Value × (List UInt8) × Int) (fun i => (memOf w0 Z0 [] [(oRow i.1 5 tyU8 i.2.1), (oBox g19 124 [(Value.int .u8 u16.Lit), (Value.int .i64 u16.Len), (Value.int .i64 u16.Dist)])] [(fDat (tyList tyS_api_Token) [v0_0] a0), (fPtr tyS_api_Token p18 u16)])) (fun i => (tab [(1, (Value.int .i64 a1)), (7, i.1), (9, (ptr g19 0)), (21, v0_0), (22, (Value.int .i64 (a0.length : Int))), (23, (Value.int .i64 l9i23)), (49, (Value.int .i64 u16.Len)), (50, (Value.int .i64 i.2.2))])) (fun q i => f_lz_Expand_L26 kk15 u16 q i.2.1 i.2.2 = some r) ?_ fu (j22v7, j22x7, (0 : Int)) h) (fun w a hm hs => norm hm hs [0, 1] [0, 1] [(1, (Value.int .i64 a1)), (7, j22v7), (9, (ptr g19 0)), (21, v0_0), (22, (Value.int .i64 (a0.length : Int))), (23, (Value.int .i64 l9i23)), (49, (Value.int .i64 u16.Len)), (50, (Value.int .i64 (0 : Int)))] (by decide) ⟨rfl, rfl, rfl, rfl, rfl, rfl, rfl, rfl, trivial⟩)
                    clear h
                    rintro k25 ⟨l24v7, l24x7, l24i50⟩ h
                    have h : f_lz_Expand_L26 kk15 u16 k25 l24x7 l24i50 = some r := h
                    obtain _ | k25 := k25
                    · rw [f_lz_Expand_L26] at h; cases h
                    rw [f_lz_Expand_L26] at h
                    refine aw_show (m := (memOf w0 Z0 [] [(oRow l24v7 5 tyU8 l24x7), (oBox g19 124 [(Value.int .u8 u16.Lit), (Value.int .i64 u16.Len), (Value.int .i64 u16.Dist)])] [(fDat (tyList tyS_api_Token) [v0_0] a0), (fPtr tyS_api_Token p18 u16)])) (S := (tab [(1, (Value.int .i64 a1)), (7, l24v7), (9, (ptr g19 0)), (21, v0_0), (22, (Value.int .i64 (a0.length : Int))), (23, (Value.int .i64 l9i23)), (49, (Value.int .i64 u16.Len)), (50, (Value.int .i64 l24i50))])) ?_
                    refine aw_seq ?_
                    refine aw_region ?_
                    refine al_val (ov_int rfl rfl rfl rfl) ?_
                    refine al_nil ?_
                    refine aq_then ?_
                    refine aw_seq ?_
                    refine aw_cond rfl (fun hb27 => ?_) (fun hb27 => ?_)
                    · replace h := bif_t hb27 h
                      refine aw_skip ?_
                      refine aq_then ?_
                      refine aw_seq ?_
                      refine aw_block ?_
                      refine aw_region ?_
                      refine al_val (ov_move rfl rfl) ?_
                      refine al_val (ov_move rfl rfl) ?_
                      refine al_val (ov_move rfl rfl) ?_
                      refine al_val (ov_lenR 0 rfl rfl Try.underlying156 rfl) ?_
                      refine al_val (ov_fieldA (p := 2) rfl Try.underlying124 rfl sz3 rfl rfl rfl) ?_
                      refine al_val (ov_load (i := 1) (v := (Value.int .i64 u16.Dist)) rfl rfl Try.underlying3 sz3 rfl rfl rfl rfl) ?_
                      refine al_val (ov_int rfl rfl rfl rfl) ?_
                      obtain ⟨u28, hu29, h⟩ := opt_some h
                      refine al_idxR 0 (at_some hu29).1 (at_some hu29).2.1 rfl rfl rfl Try.underlying156 sz5 rfl (fun p30 hp31 => ?_)
                      refine al_val (ov_loadR (ds := [(Value.int .u8 (u28.toNat : Int))]) 0 rfl hp31 (at_some hu29).2.2 (fun h => h) rfl Try.underlying5 sz5 rfl rfl rfl) ?_
                      refine al_buildSlice (τ := tyU8) (e := 5) (k := 1) (sz := 0) (by_ := 0) (z := undef) (cs := [(Value.int .u8 (u28.toNat : Int))]) (xs := [u28]) rfl (by decide) (fun w a hm hs => ⟨([(Value.int .u8 (u28.toNat : Int))]).toArray, rfl, by simp only [List.map_toArray, List.map_cons, List.map_nil, hs.ev (x := .tmp 60) rfl]; exact run_bs [(Value.int .u8 (u28.toNat : Int))] [(Value.int .u8 (u28.toNat : Int))] Try.underlying156 to5 rfl rfl (bs_cons (l := [(Value.int .u8 (u28.toNat : Int))]) (cs := []) (cv_rfl rfl) rfl bs_nil) hm⟩) (fun hm => ⟨_, _, rfl, (fun _ => rfl) hm, rfl⟩) rfl (fun v32 => ?_)
                      obtain ⟨hc34, h⟩ := req_some h
                      refine al_append 1 hc34.1 hc34.2 rfl (src_own (i := 1) 0 rfl) rfl rfl Try.underlying156 to5 rfl rfl rfl (fun v35 => ?_)
                      refine al_val (ov_assign rfl rfl) ?_
                      refine al_nil ?_
                      refine aq_block ?_
                      refine aq_then ?_
                      refine aw_region ?_
                      refine al_val (ov_int rfl rfl rfl rfl) ?_
                      refine al_val (ov_move rfl rfl) ?_
                      refine al_nil ?_
                      exact aq_again k25 (v35, (l24x7 ++ ([u28])), (IntKind.i64.wrap (l24i50 + (1 : Int)))) (Nat.lt_succ_self _) h (fun w a hm hs => norm hm hs [1, 2] [0, 1] [(1, (Value.int .i64 a1)), (7, v35), (9, (ptr g19 0)), (21, v0_0), (22, (Value.int .i64 (a0.length : Int))), (23, (Value.int .i64 l9i23)), (49, (Value.int .i64 u16.Len)), (50, (Value.int .i64 (IntKind.i64.wrap (l24i50 + (1 : Int)))))] (by decide) ⟨rfl, rfl, rfl, rfl, rfl, rfl, rfl, rfl, trivial⟩)
                    · replace h := bif_f hb27 h
                      refine aw_exit ?_
                      refine aq_then_exit ?_
                      refine aq_then_exit ?_
                      refine aq_block_exit ?_
                      refine aq_block ?_
                      exact aq_join (l24v7, l24x7) h (fun w a hm hs => norm hm hs [0] [0] [(1, (Value.int .i64 a1)), (7, l24v7), (21, v0_0), (22, (Value.int .i64 (a0.length : Int))), (23, (Value.int .i64 l9i23))] (by decide) ⟨rfl, rfl, rfl, rfl, rfl, trivial⟩)
                  · clear hkk23
                    refine aw_seq ?_
                    refine aw_region ?_
                    refine al_val (ov_fieldA (p := 1) rfl Try.underlying124 rfl sz3 rfl rfl rfl) ?_
                    refine al_val (ov_load (i := 0) (v := (Value.int .i64 u16.Len)) rfl rfl Try.underlying3 sz3 rfl rfl rfl rfl) ?_
                    refine al_val (ov_int rfl rfl rfl rfl) ?_
                    refine al_nil ?_
                    refine aq_then ?_
                    refine aw_cond rfl (fun hb36 => ?_) (fun hb36 => ?_)
                    · replace h := bif_t hb36 h
                      refine aw_region ?_
                      refine al_val (ov_move rfl rfl) ?_
                      refine al_val (ov_fieldA (p := 0) rfl Try.underlying124 rfl sz5 rfl rfl rfl) ?_
                      refine al_val (ov_load (i := 0) (v := (Value.int .u8 u16.Lit)) rfl rfl Try.underlying5 sz5 rfl rfl rfl rfl) ?_
                      obtain ⟨hc38, h⟩ := req_some h
                      refine al_buildSlice (τ := tyU8) (e := 5) (k := 1) (sz := 0) (by_ := 0) (z := undef) (cs := [(Value.int .u8 u16.Lit)]) (xs := [(UInt8.ofNat (u16.Lit).toNat)]) rfl (by decide) (fun w a hm hs => ⟨([(Value.int .u8 u16.Lit)]).toArray, rfl, by simp only [List.map_toArray, List.map_cons, List.map_nil, hs.ev (x := .tmp 45) rfl]; exact run_bs [(Value.int .u8 u16.Lit)] [(Value.int .u8 u16.Lit)] Try.underlying156 to5 rfl rfl (bs_cons (l := [(Value.int .u8 u16.Lit)]) (cs := []) (cv_rfl rfl) rfl bs_nil) hm⟩) (fun hm => ⟨_, _, rfl, (fun _ => u8_rep hc38) hm, rfl⟩) rfl (fun v37 => ?_)
                      obtain ⟨hc39, h⟩ := req_some h
                      refine al_append 2 hc39.1 hc39.2 rfl (src_own (i := 2) 0 rfl) rfl rfl Try.underlying156 to5 rfl rfl rfl (fun v40 => ?_)
                      refine al_val (ov_assign rfl rfl) ?_
                      refine al_nil ?_
                      exact aq_join (v40, (l9x7 ++ ([(UInt8.ofNat (u16.Lit).toNat)]))) h (fun w a hm hs => norm hm hs [2, 1] [1, 0] [(1, (Value.int .i64 a1)), (7, v40), (9, (ptr g19 0)), (21, v0_0), (22, (Value.int .i64 (a0.length : Int))), (23, (Value.int .i64 l9i23))] (by decide) ⟨rfl, rfl, rfl, rfl, rfl, rfl, trivial⟩)
                    · replace h := bif_f hb36 h
                      refine aw_skip ?_
                      exact aq_join (l9v7, l9x7) h (fun w a hm hs => norm hm hs [1, 0] [1, 0] [(1, (Value.int .i64 a1)), (7, l9v7), (9, (ptr g19 0)), (21, v0_0), (22, (Value.int .i64 (a0.length : Int))), (23, (Value.int .i64 l9i23))] (by decide) ⟨rfl, rfl, rfl, rfl, rfl, rfl, trivial⟩)
          · replace h := bif_f hb13 h
            refine aw_exit ?_
            refine aq_then_exit ?_
            refine aq_then_exit ?_
            refine aq_block_exit ?_
            exact aq_join (l9v7, l9x7) h (fun w a hm hs => norm hm hs [0] [0] [(7, l9v7)] (by decide) ⟨rfl, trivial⟩)
  · clear hkk2
    refine aw_region ?_
    refine al_val (ov_move rfl rfl) ?_
    refine al_val (ov_int rfl rfl rfl rfl) ?_
    refine al_val (ov_move rfl rfl) ?_
    refine al_caseB 12 rfl (fun hb41 => ?_) (fun hb41 => ?_)
    · replace h := bif_t hb41 h
      refine al_skip ?_
      refine al_skip ?_
      refine al_val (ov_pick_t rfl rfl rfl) ?_
      refine al_nil ?_
      exact aq_join true h (fun w a hm hs => norm hm hs [] [0] [(0, v0_0), (1, (Value.int .i64 a1)), (15, (Value.bool true))] (by decide) ⟨rfl, rfl, rfl, trivial⟩)
    · replace h := bif_f hb41 h
      refine al_val (ov_move rfl rfl) ?_
      refine al_val (ov_int rfl rfl rfl rfl) ?_
      refine al_val (ov_pick_f rfl rfl rfl) ?_
      refine al_nil ?_
      exact aq_join (decide (a1 > (4096 : Int))) h (fun w a hm hs => norm hm hs [] [0] [(0, v0_0), (1, (Value.int .i64 a1)), (15, (Value.bool (decide (a1 > (4096 : Int)))))] (by decide) ⟨rfl, rfl, rfl, trivial⟩)
def f_strings_Repeat (fu : Nat) (a0 : List UInt8) (a1 : Int) : Option (List UInt8) := req (0 ≤ a1 ∧ a1 ≤ 9223372036854775807 ∧ a0.length * a1.toNat ≤ 140737488355328) (some (Lib.repeatL a0 a1.toNat))
theorem f_strings_Repeat_ok (fu : Nat) (a0 : List UInt8) (a1 : Int) {r : List UInt8} (h : f_strings_Repeat fu a0 a1 = some r) : FnOk Try.prog 125 [(str a0), (Value.int .i64 a1)] [] [] (fun (i : Unit) => { val := (str r) }) := by
  unfold f_strings_Repeat at h
  obtain ⟨hc, h⟩ := req_some h
  obtain rfl := Option.some.inj h
  obtain ⟨n, rfl⟩ : ∃ n : Nat, a1 = n := ⟨a1.toNat, by omega⟩
  refine fnok_pure fun w => ?_
  exact (Try.strings_Repeat ⟨a0.toArray⟩ n w (by omega) (by simpa [ByteArray.size] using hc.2.2)).mono fun e w' h9 => by simpa [str] using h9
def f_lumref_Expand_L11 (a0 : (List S_api_Token)) (a1 : Int) (kk8 : ((List UInt8) → Option ((List UInt8) × Int))) (fu : Nat) : Nat → (List UInt8) → Int → Option ((List UInt8) × Int)
  | 0, _, _ => none
  | k10 + 1, l9s7, l9i25 => (bif (decide (l9i25 < (a0.length : Int))) then (lt (fun (j13s7 : (List UInt8)) => (f_lumref_Expand_L11 a0 a1 kk8 fu k10 j13s7 (IntKind.i64.wrap (l9i25 + (1 : Int))))) fun (kk14 : (List UInt8) → Option ((List UInt8) × Int)) => (opt (at? a0 l9i25) fun (u15 : S_api_Token) => (bif (decide (u15.Dist > (l9s7.length : Int))) then (some (([] : List UInt8), (4 : Int))) else (lt (fun (j20i10 : Int) => (bif (decide ((IntKind.i64.wrap ((l9s7.length : Int) + j20i10)) > a1)) then (some (([] : List UInt8), (2 : Int))) else (bif (u15.Len == (0 : Int)) then (req (0 ≤ u15.Lit ∧ u15.Lit ≤ 255) (req (l9s7.length + ([(UInt8.ofNat (u15.Lit).toNat)]).length ≤ 9223372036854775807) (kk14 (l9s7 ++ ([(UInt8.ofNat (u15.Lit).toNat)]))))) else (req (0 ≤ (IntKind.i64.wrap ((l9s7.length : Int) - u15.Dist)) ∧ (IntKind.i64.wrap ((l9s7.length : Int) - u15.Dist)) ≤ (l9s7.length : Int)) (req (((l9s7.drop ((IntKind.i64.wrap ((l9s7.length : Int) - u15.Dist))).toNat).length : Int) ≠ 0) (opt (f_strings_Repeat fu (l9s7.drop ((IntKind.i64.wrap ((l9s7.length : Int) - u15.Dist))).toNat) (IntKind.i64.wrap ((IntKind.i64.wrap ((j20i10).tdiv ((l9s7.drop ((IntKind.i64.wrap ((l9s7.length : Int) - u15.Dist))).toNat).length : Int))) + (1 : Int)))) fun (r30 : (List UInt8)) => (req (0 ≤ j20i10 ∧ j20i10 ≤ (r30.length : Int)) (req (l9s7.length + (r30.take (j20i10).toNat).length ≤ 9223372036854775807) (kk14 (l9s7 ++ (r30.take (j20i10).toNat))))))))))) fun (kk21 : Int → Option ((List UInt8) × Int)) => (bif (u15.Len == (0 : Int)) then (kk21 (1 : Int)) else (kk21 u15.Len)))))) else (kk8 l9s7))
def f_lumref_Expand (fu : Nat) (a0 : (List S_api_Token)) (a1 : Int) : Option ((List UInt8) × Int) := (lt (fun (j1b17 : Bool) => (bif j1b17 then (some (([] : List UInt8), (1 : Int))) else (opt (f_lumref_Tokens fu a0) fun (r5 : Int) => (bif (r5 != (0 : Int)) then (some (([] : List UInt8), r5)) else (lt (fun (j7s7 : (List UInt8)) => (some (j7s7, (0 : Int)))) fun (kk8 : (List UInt8) → Option ((List UInt8) × Int)) => (f_lumref_Expand_L11 a0 a1 kk8 fu fu ([] : List UInt8) (0 : Int))))))) fun (kk2 : Bool → Option ((List UInt8) × Int)) => (bif (decide (a1 < (0 : Int))) then (kk2 true) else (kk2 (decide (a1 > (4096 : Int))))))
set_option maxRecDepth 100000 in
theorem f_lumref_Expand_ok (fu : Nat) (v0_0 : Value) (a0 : (List S_api_Token)) (a1 : Int) {r : ((List UInt8) × Int)} (h : f_lumref_Expand fu a0 a1 = some r) : FnOk Try.prog 78 [v0_0, (Value.int .i64 a1)] [(fDat (tyList tyS_api_Token) [v0_0] a0)] [] (fun (i : Unit) => { val := (Value.tuple #[(str r.1), (Value.int .i64 r.2)]) }) := by
  unfold f_lumref_Expand at h
  refine fn_enter Try.func78 rfl Try.ntmps78 rfl (fun w0 Z0 => ?_)
  refine aw_seq ?_
  refine aw_region ?_
  refine al_val (ov_assign rfl rfl) ?_
  refine al_val (ov_assign rfl rfl) ?_
  refine al_nil ?_
  refine aq_then ?_
  refine aw_seq ?_
  obtain ⟨kk2, hkk2, h⟩ := lt_some h
  refine aw_seq_join (ι := Bool) (fun i => (memOf w0 Z0 [] [] [(fDat (tyList tyS_api_Token) [v0_0] a0)])) (fun i => (tab [(0, v0_0), (1, (Value.int .i64 a1)), (17, (Value.bool i))])) (fun i => kk2 i = some r) ?_ ?_
  · rintro j1b17 h
    have h : kk2 j1b17 = some r := h
    rw [hkk2] at h
    dsimp only at h
    clear hkk2
    refine aw_show (m := (memOf w0 Z0 [] [] [(fDat (tyList tyS_api_Token) [v0_0] a0)])) (S := (tab [(0, v0_0), (1, (Value.int .i64 a1)), (17, (Value.bool j1b17))])) ?_
    refine aw_cond rfl (fun hb3 => ?_) (fun hb3 => ?_)
    · replace h := bif_t hb3 h
      refine aw_seq ?_
      refine aw_region ?_
      refine al_val (ov_assign rfl rfl) ?_
      refine al_val (ov_assign rfl rfl) ?_
      refine al_nil ?_
      refine aq_then ?_
      refine aw_ret ?_
      refine aq_then_ret ?_
      obtain rfl := Option.some.inj h
      exact fn_ret () [] [] rfl rfl rfl rfl (res2 rfl rfl rfl) rfl rfl rfl (by decide)
    · replace h := bif_f hb3 h
      refine aw_skip ?_
      refine aq_then ?_
      refine aw_seq ?_
      refine aw_seq ?_
      refine aw_region ?_
      refine al_val (ov_move rfl rfl) ?_
      obtain ⟨r5, hc4, h⟩ := opt_some h
      refine al_call (vs := [v0_0]) (f_lumref_Tokens_ok fu v0_0 a0 hc4) [] [] [] (pre_fz 0 rfl pre_nil) rfl (by simp) (by decide) (.inl rfl) rfl Try.func76 rfl rfl rfl (fun _ => ?_)
      refine al_val (ov_assign rfl rfl) ?_
      refine al_nil ?_
      refine aq_then ?_
      refine aw_seq ?_
      refine aw_region ?_
      refine al_val (ov_move rfl rfl) ?_
      refine al_val (ov_int rfl rfl rfl rfl) ?_
      refine al_nil ?_
      refine aq_then ?_
      refine aw_cond rfl (fun hb6 => ?_) (fun hb6 => ?_)
      · replace h := bif_t hb6 h
        refine aw_seq ?_
        refine aw_region ?_
        refine al_val (ov_move rfl rfl) ?_
        refine al_val (ov_assign rfl rfl) ?_
        refine al_val (ov_assign rfl rfl) ?_
        refine al_nil ?_
        refine aq_then ?_
        refine aw_ret ?_
        refine aq_then_ret ?_
        obtain rfl := Option.some.inj h
        exact fn_ret () [] [] rfl rfl rfl rfl (res2 rfl rfl rfl) rfl rfl rfl (by decide)
      · replace h := bif_f hb6 h
        refine aw_skip ?_
        refine aq_then ?_
        refine aw_seq ?_
        refine aw_region ?_
        refine al_val (ov_assign rfl rfl) ?_
        refine al_nil ?_
        refine aq_then ?_
        obtain ⟨kk8, hkk8, h⟩ := lt_some h
        refine aw_seq_join (ι := (List UInt8)) (fun i => (memOf w0 Z0 [] [] [(fDat (tyList tyS_api_Token) [v0_0] a0)])) (fun i => (tab [(7, (str i))])) (fun i => kk8 i = some r) ?_ ?_
        · rintro j7s7 h
          have h : kk8 j7s7 = some r := h
          rw [hkk8] at h
          dsimp only at h
          clear hkk8
          refine aw_show (m := (memOf w0 Z0 [] [] [(fDat (tyList tyS_api_Token) [v0_0] a0)])) (S := (tab [(7, (str j7s7))])) ?_
          refine aw_seq ?_
          refine aw_region ?_
          refine al_val (ov_move rfl rfl) ?_
          refine al_val (ov_assign rfl rfl) ?_
          refine al_val (ov_assign rfl rfl) ?_
          refine al_nil ?_
          refine aq_then ?_
          refine aw_ret ?_
          obtain rfl := Option.some.inj h
          exact fn_ret () [] [] rfl rfl rfl rfl (res2 rfl rfl rfl) rfl rfl rfl (by decide)
        · clear hkk8
          refine aw_seq ?_
          refine aw_region ?_
          refine al_val (ov_move rfl rfl) ?_
          refine al_val (ov_lenD 0 rfl rfl Try.underlying114 rfl) ?_
          refine al_val (ov_move rfl rfl) ?_
          refine al_nil ?_
          refine aq_then ?_
          refine aw_block ?_
          refine aw_state (aw_loop (ι := (List UInt8) × Int) (fun i => (memOf w0 Z0 [] [] [(fDat (tyList tyS_api_Token) [v0_0] a0)])) (fun i => (tab [(1, (Value.int .i64 a1)), (7, (str i.1)), (23, v0_0), (24, (Value.int .i64 (a0.length : Int))), (25, (Value.int .i64 i.2))])) (fun q i => f_lumref_Expand_L11 a0 a1 kk8 fu q i.1 i.2 = some r) ?_ fu (([] : List UInt8), (0 : Int)) h) (fun w a hm hs => norm hm hs [] [0] [(1, (Value.int .i64 a1)), (7, (str ([] : List UInt8))), (23, v0_0), (24, (Value.int .i64 (a0.length : Int))), (25, (Value.int .i64 (0 : Int)))] (by decide) ⟨rfl, rfl, rfl, rfl, rfl, trivial⟩)
          clear h
          rintro k10 ⟨l9s7, l9i25⟩ h
          have h : f_lumref_Expand_L11 a0 a1 kk8 fu k10 l9s7 l9i25 = some r := h
          obtain _ | k10 := k10
          · rw [f_lumref_Expand_L11] at h; cases h
          rw [f_lumref_Expand_L11] at h
          refine aw_show (m := (memOf w0 Z0 [] [] [(fDat (tyList tyS_api_Token) [v0_0] a0)])) (S := (tab [(1, (Value.int .i64 a1)), (7, (str l9s7)), (23, v0_0), (24, (Value.int .i64 (a0.length : Int))), (25, (Value.int .i64 l9i25))])) ?_
          refine aw_seq ?_
          refine aw_region ?_
          refine al_val (ov_int rfl rfl rfl rfl) ?_
          refine al_nil ?_
          refine aq_then ?_
          refine aw_seq ?_
          refine aw_cond rfl (fun hb12 => ?_) (fun hb12 => ?_)
          · replace h := bif_t hb12 h
            refine aw_skip ?_
            refine aq_then ?_
            obtain ⟨kk14, hkk14, h⟩ := lt_some h
            refine aw_seq_join (ι := (List UInt8)) (fun i => (memOf w0 Z0 [] [] [(fDat (tyList tyS_api_Token) [v0_0] a0)])) (fun i => (tab [(1, (Value.int .i64 a1)), (7, (str i)), (23, v0_0), (24, (Value.int .i64 (a0.length : Int))), (25, (Value.int .i64 l9i25))])) (fun i => kk14 i = some r) ?_ ?_
            · rintro j13s7 h
              have h : kk14 j13s7 = some r := h
              rw [hkk14] at h
              dsimp only at h
              clear hkk14
              refine aw_show (m := (memOf w0 Z0 [] [] [(fDat (tyList tyS_api_Token) [v0_0] a0)])) (S := (tab [(1, (Value.int .i64 a1)), (7, (str j13s7)), (23, v0_0), (24, (Value.int .i64 (a0.length : Int))), (25, (Value.int .i64 l9i25))])) ?_
              refine aw_region ?_
              refine al_val (ov_int rfl rfl rfl rfl) ?_
              refine al_val (ov_move rfl rfl) ?_
              refine al_nil ?_
              exact aq_again k10 (j13s7, (IntKind.i64.wrap (l9i25 + (1 : Int)))) (Nat.lt_succ_self _) h (fun w a hm hs => norm hm hs [] [0] [(1, (Value.int .i64 a1)), (7, (str j13s7)), (23, v0_0), (24, (Value.int .i64 (a0.length : Int))), (25, (Value.int .i64 (IntKind.i64.wrap (l9i25 + (1 : Int)))))] (by decide) ⟨rfl, rfl, rfl, rfl, rfl, trivial⟩)
            · clear hkk14
              refine aw_block ?_
              refine aw_seq ?_
              refine aw_region ?_
              obtain ⟨u15, hu16, h⟩ := opt_some h
              refine al_idxD 0 hu16 rfl rfl rfl Try.underlying114 sz124 rfl (fun p17 => ?_)
              refine al_val (ov_loadP (ds := [(Value.int .u8 u15.Lit), (Value.int .i64 u15.Len), (Value.int .i64 u15.Dist)]) 0 rfl encS_api_Token rfl Try.underlying124 sz124 rfl rfl rfl) ?_
              refine al_alloc (zs := [(Value.int .u8 (0 : Int)), (Value.int .i64 (0 : Int)), (Value.int .i64 (0 : Int))]) (zeroOf_to to124) rfl rfl (fun g18 => ?_)
              refine al_store (i := 0) (vs := [(Value.int .u8 u15.Lit), (Value.int .i64 u15.Len), (Value.int .i64 u15.Dist)]) (cs' := [(Value.int .u8 u15.Lit), (Value.int .i64 u15.Len), (Value.int .i64 u15.Dist)]) rfl rfl rfl sz124 (cv_rfl rfl) rfl (co_val rfl (co_val rfl (co_val rfl co_nil))) (Nat.le_of_ble_eq_true rfl) rfl rfl ?_
              refine al_nil ?_
              refine aq_then ?_
              refine aw_seq ?_
              refine aw_seq ?_
              refine aw_region ?_
              refine al_val (ov_fieldA (p := 2) rfl Try.underlying124 rfl sz3 rfl rfl rfl) ?_
              refine al_val (ov_load (i := 0) (v := (Value.int .i64 u15.Dist)) rfl rfl Try.underlying3 sz3 rfl rfl rfl rfl) ?_
              refine al_val (ov_move rfl rfl) ?_
              refine al_val (ov_strLen Try.underlying9 rfl rfl) ?_
              refine al_val (ov_int rfl rfl rfl rfl) ?_
              refine al_nil ?_
              refine aq_then ?_
              refine aw_cond rfl (fun hb19 => ?_) (fun hb19 => ?_)
              · replace h := bif_t hb19 h
                refine aw_seq ?_
                refine aw_region ?_
                refine al_val (ov_assign rfl rfl) ?_
                refine al_val (ov_assign rfl rfl) ?_
                refine al_nil ?_
                refine aq_then ?_
                refine aw_ret ?_
                refine aq_then_ret ?_
                refine aq_block_ret ?_
                refine aq_then_ret ?_
                refine aq_then_ret ?_
                refine aq_block_ret ?_
                refine aq_then_ret ?_
                obtain rfl := Option.some.inj h
                exact fn_ret () [] [] rfl rfl rfl rfl (res2 rfl rfl rfl) rfl rfl rfl (by decide)
              · replace h := bif_f hb19 h
                refine aw_skip ?_
                refine aq_then ?_
                refine aw_seq ?_
                refine aw_region ?_
                refine al_val (ov_fieldA (p := 1) rfl Try.underlying124 rfl sz3 rfl rfl rfl) ?_
                refine al_val (ov_load (i := 0) (v := (Value.int .i64 u15.Len)) rfl rfl Try.underlying3 sz3 rfl rfl rfl rfl) ?_
                refine al_val (ov_assign rfl rfl) ?_
                refine al_nil ?_
                refine aq_then ?_
                obtain ⟨kk21, hkk21, h⟩ := lt_some h
                refine aw_seq_join (ι := Int) (fun i => (memOf w0 Z0 [] [(oBox g18 124 [(Value.int .u8 u15.Lit), (Value.int .i64 u15.Len), (Value.int .i64 u15.Dist)])] [(fDat (tyList tyS_api_Token) [v0_0] a0), (fPtr tyS_api_Token p17 u15)])) (fun i => (tab [(1, (Value.int .i64 a1)), (7, (str l9s7)), (9, (ptr g18 0)), (10, (Value.int .i64 i)), (23, v0_0), (24, (Value.int .i64 (a0.length : Int))), (25, (Value.int .i64 l9i25))])) (fun i => kk21 i = some r) ?_ ?_
                · rintro j20i10 h
                  have h : kk21 j20i10 = some r := h
                  rw [hkk21] at h
                  dsimp only at h
                  clear hkk21
                  refine aw_show (m := (memOf w0 Z0 [] [(oBox g18 124 [(Value.int .u8 u15.Lit), (Value.int .i64 u15.Len), (Value.int .i64 u15.Dist)])] [(fDat (tyList tyS_api_Token) [v0_0] a0), (fPtr tyS_api_Token p17 u15)])) (S := (tab [(1, (Value.int .i64 a1)), (7, (str l9s7)), (9, (ptr g18 0)), (10, (Value.int .i64 j20i10)), (23, v0_0), (24, (Value.int .i64 (a0.length : Int))), (25, (Value.int .i64 l9i25))])) ?_
                  refine aw_seq ?_
                  refine aw_seq ?_
                  refine aw_region ?_
                  refine al_val (ov_move rfl rfl) ?_
                  refine al_val (ov_strLen Try.underlying9 rfl rfl) ?_
                  refine al_val (ov_move rfl rfl) ?_
                  refine al_val (ov_int rfl rfl rfl rfl) ?_
                  refine al_val (ov_move rfl rfl) ?_
                  refine al_val (ov_int rfl rfl rfl rfl) ?_
                  refine al_nil ?_
                  refine aq_then ?_
                  refine aw_cond rfl (fun hb22 => ?_) (fun hb22 => ?_)
                  · replace h := bif_t hb22 h
                    refine aw_seq ?_
                    refine aw_region ?_
                    refine al_val (ov_assign rfl rfl) ?_
                    refine al_val (ov_assign rfl rfl) ?_
                    refine al_nil ?_
                    refine aq_then ?_
                    refine aw_ret ?_
                    refine aq_then_ret ?_
                    refine aq_block_ret ?_
                    refine aq_then_ret ?_
                    refine aq_then_ret ?_
                    refine aq_block_ret ?_
                    refine aq_then_ret ?_
                    obtain rfl := Option.some.inj h
                    exact fn_ret () [] [] rfl rfl rfl rfl (res2 rfl rfl rfl) rfl rfl rfl (by decide)
                  · replace h := bif_f hb22 h
                    refine aw_skip ?_
                    refine aq_then ?_
                    refine aw_seq ?_
                    refine aw_seq ?_
                    refine aw_region ?_
                    refine al_val (ov_fieldA (p := 1) rfl Try.underlying124 rfl sz3 rfl rfl rfl) ?_
                    refine al_val (ov_load (i := 0) (v := (Value.int .i64 u15.Len)) rfl rfl Try.underlying3 sz3 rfl rfl rfl rfl) ?_
                    refine al_val (ov_int rfl rfl rfl rfl) ?_
                    refine al_nil ?_
                    refine aq_then ?_
                    refine aw_cond rfl (fun hb23 => ?_) (fun hb23 => ?_)
                    · replace h := bif_t hb23 h
                      refine aw_seq ?_
                      refine aw_region ?_
                      refine al_val (ov_move rfl rfl) ?_
                      refine al_val (ov_fieldA (p := 0) rfl Try.underlying124 rfl sz5 rfl rfl rfl) ?_
                      refine al_val (ov_load (i := 0) (v := (Value.int .u8 u15.Lit)) rfl rfl Try.underlying5 sz5 rfl rfl rfl rfl) ?_
                      obtain ⟨hc25, h⟩ := req_some h
                      refine al_buildSlice (τ := tyU8) (e := 5) (k := 1) (sz := 0) (by_ := 0) (z := undef) (cs := [(Value.int .u8 u15.Lit)]) (xs := [(UInt8.ofNat (u15.Lit).toNat)]) rfl (by decide) (fun w a hm hs => ⟨([(Value.int .u8 u15.Lit)]).toArray, rfl, by simp only [List.map_toArray, List.map_cons, List.map_nil, hs.ev (x := .tmp 49) rfl]; exact run_bs [(Value.int .u8 u15.Lit)] [(Value.int .u8 u15.Lit)] Try.underlying156 to5 rfl rfl (bs_cons (l := [(Value.int .u8 u15.Lit)]) (cs := []) (cv_rfl rfl) rfl bs_nil) hm⟩) (fun hm => ⟨_, _, rfl, (fun _ => u8_rep hc25) hm, rfl⟩) rfl (fun v24 => ?_)
                      refine al_val (ov_toStrR 0 rfl rfl Try.underlying156 Try.underlying5 Try.underlying9 rfl) ?_
                      obtain ⟨hc26, h⟩ := req_some h
                      refine al_val (ov_strAdd hc26 rfl rfl rfl) ?_
                      refine al_val (ov_assign rfl rfl) ?_
                      refine al_nil ?_
                      refine aq_then ?_
                      refine aw_exit ?_
                      refine aq_then_exit ?_
                      refine aq_block_exit ?_
                      exact aq_join (l9s7 ++ ([(UInt8.ofNat (u15.Lit).toNat)])) h (fun w a hm hs => norm hm hs [] [0] [(1, (Value.int .i64 a1)), (7, (str (l9s7 ++ ([(UInt8.ofNat (u15.Lit).toNat)])))), (23, v0_0), (24, (Value.int .i64 (a0.length : Int))), (25, (Value.int .i64 l9i25))] (by decide) ⟨rfl, rfl, rfl, rfl, rfl, trivial⟩)
                    · replace h := bif_f hb23 h
                      refine aw_skip ?_
                      refine aq_then ?_
                      refine aw_seq ?_
                      refine aw_region ?_
                      refine al_val (ov_move rfl rfl) ?_
                      refine al_val (ov_move rfl rfl) ?_
                      refine al_val (ov_strLen Try.underlying9 rfl rfl) ?_
                      refine al_val (ov_fieldA (p := 2) rfl Try.underlying124 rfl sz3 rfl rfl rfl) ?_
                      refine al_val (ov_load (i := 0) (v := (Value.int .i64 u15.Dist)) rfl rfl Try.underlying3 sz3 rfl rfl rfl rfl) ?_
                      refine al_val (ov_int rfl rfl rfl rfl) ?_
                      obtain ⟨hc27, h⟩ := req_some h
                      refine al_val (ov_strFrom hc27.1 hc27.2 Try.underlying9 rfl rfl rfl) ?_
                      refine al_val (ov_assign rfl rfl) ?_
                      refine al_nil ?_
                      refine aq_then ?_
                      refine aw_region ?_
                      refine al_val (ov_move rfl rfl) ?_
                      refine al_val (ov_move rfl rfl) ?_
                      refine al_val (ov_move rfl rfl) ?_
                      refine al_val (ov_move rfl rfl) ?_
                      refine al_val (ov_strLen Try.underlying9 rfl rfl) ?_
                      obtain ⟨hc28, h⟩ := req_some h
                      refine al_val (ov_quo hc28 rfl rfl rfl) ?_
                      refine al_val (ov_int rfl rfl rfl rfl) ?_
                      obtain ⟨r30, hc29, h⟩ := opt_some h
                      refine al_call (vs := [(str (l9s7.drop ((IntKind.i64.wrap ((l9s7.length : Int) - u15.Dist))).toNat)), (Value.int .i64 (IntKind.i64.wrap ((IntKind.i64.wrap ((j20i10).tdiv ((l9s7.drop ((IntKind.i64.wrap ((l9s7.length : Int) - u15.Dist))).toNat).length : Int))) + (1 : Int))))]) (f_strings_Repeat_ok fu (l9s7.drop ((IntKind.i64.wrap ((l9s7.length : Int) - u15.Dist))).toNat) (IntKind.i64.wrap ((IntKind.i64.wrap ((j20i10).tdiv ((l9s7.drop ((IntKind.i64.wrap ((l9s7.length : Int) - u15.Dist))).toNat).length : Int))) + (1 : Int))) hc29) [] [] [0] pre_nil rfl (by simp) (by decide) (.inl rfl) rfl Try.func125 rfl rfl rfl (fun _ => ?_)
                      refine al_val (ov_move rfl rfl) ?_
                      obtain ⟨hc31, h⟩ := req_some h
                      refine al_val (ov_strTo hc31.1 hc31.2 Try.underlying9 rfl rfl rfl) ?_
                      obtain ⟨hc32, h⟩ := req_some h
                      refine al_val (ov_strAdd hc32 rfl rfl rfl) ?_
                      refine al_val (ov_assign rfl rfl) ?_
                      refine al_nil ?_
                      refine aq_block ?_
                      exact aq_join (l9s7 ++ (r30.take (j20i10).toNat)) h (fun w a hm hs => norm hm hs [] [0] [(1, (Value.int .i64 a1)), (7, (str (l9s7 ++ (r30.take (j20i10).toNat)))), (23, v0_0), (24, (Value.int .i64 (a0.length : Int))), (25, (Value.int .i64 l9i25))] (by decide) ⟨rfl, rfl, rfl, rfl, rfl, trivial⟩)
                · clear hkk21
                  refine aw_seq ?_
                  refine aw_region ?_
                  refine al_val (ov_move rfl rfl) ?_
                  refine al_val (ov_int rfl rfl rfl rfl) ?_
                  refine al_nil ?_
                  refine aq_then ?_
                  refine aw_cond rfl (fun hb33 => ?_) (fun hb33 => ?_)
                  · replace h := bif_t hb33 h
                    refine aw_region ?_
                    refine al_val (ov_assign rfl rfl) ?_
                    refine al_nil ?_
                    exact aq_join (1 : Int) h (fun w a hm hs => norm hm hs [0] [1, 0] [(1, (Value.int .i64 a1)), (7, (str l9s7)), (9, (ptr g18 0)), (10, (Value.int .i64 (1 : Int))), (23, v0_0), (24, (Value.int .i64 (a0.length : Int))), (25, (Value.int .i64 l9i25))] (by decide) ⟨rfl, rfl, rfl, rfl, rfl, rfl, rfl, trivial⟩)
                  · replace h := bif_f hb33 h
                    refine aw_skip ?_
                    exact aq_join u15.Len h (fun w a hm hs => norm hm hs [0] [1, 0] [(1, (Value.int .i64 a1)), (7, (str l9s7)), (9, (ptr g18 0)), (10, (Value.int .i64 u15.Len)), (23, v0_0), (24, (Value.int .i64 (a0.length : Int))), (25, (Value.int .i64 l9i25))] (by decide) ⟨rfl, rfl, rfl, rfl, rfl, rfl, rfl, trivial⟩)
          · replace h := bif_f hb12 h
            refine aw_exit ?_
            refine aq_then_exit ?_
            refine aq_then_exit ?_
            refine aq_block_exit ?_
            exact aq_join l9s7 h (fun w a hm hs => norm hm hs [] [0] [(7, (str l9s7))] (by decide) ⟨rfl, trivial⟩)
  · clear hkk2
    refine aw_region ?_
    refine al_val (ov_move rfl rfl) ?_
    refine al_val (ov_int rfl rfl rfl rfl) ?_
    refine al_val (ov_move rfl rfl) ?_
    refine al_caseB 14 rfl (fun hb34 => ?_) (fun hb34 => ?_)
    · replace h := bif_t hb34 h
      refine al_skip ?_
      refine al_skip ?_
      refine al_val (ov_pick_t rfl rfl rfl) ?_
      refine al_nil ?_
      exact aq_join true h (fun w a hm hs => norm hm hs [] [0] [(0, v0_0), (1, (Value.int .i64 a1)), (17, (Value.bool true))] (by decide) ⟨rfl, rfl, rfl, trivial⟩)
    · replace h := bif_f hb34 h
      refine al_val (ov_move rfl rfl) ?_
      refine al_val (ov_int rfl rfl rfl rfl) ?_
      refine al_val (ov_pick_f rfl rfl rfl) ?_
      refine al_nil ?_
      exact aq_join (decide (a1 > (4096 : Int))) h (fun w a hm hs => norm hm hs [] [0] [(0, v0_0), (1, (Value.int .i64 a1)), (17, (Value.bool (decide (a1 > (4096 : Int)))))] (by decide) ⟨rfl, rfl, rfl, trivial⟩)
def f_lz_Pack_L8 (a0 : (List S_api_Token)) (kk5 : ((List UInt8) → Option ((List UInt8) × Int))) : Nat → (List UInt8) → Int → Option ((List UInt8) × Int)
  | 0, _, _ => none
  | k7 + 1, l6x5, l6i15 => (bif (decide (l6i15 < (a0.length : Int))) then (lt (fun (j10x5 : (List UInt8)) => (f_lz_Pack_L8 a0 kk5 k7 j10x5 (IntKind.i64.wrap (l6i15 + (1 : Int))))) fun (kk11 : (List UInt8) → Option ((List UInt8) × Int)) => (opt (at? a0 l6i15) fun (u12 : S_api_Token) => (bif (u12.Len == (0 : Int)) then (req (0 ≤ (0 : Int) ∧ (0 : Int) ≤ 255) (req (0 ≤ u12.Lit ∧ u12.Lit ≤ 255) (req (((l6x5.length + ([(UInt8.ofNat ((0 : Int)).toNat), (UInt8.ofNat (u12.Lit).toNat)]).length) * 1 : Nat) ≤ 140737488355328 ∧ l6x5.length + ([(UInt8.ofNat ((0 : Int)).toNat), (UInt8.ofNat (u12.Lit).toNat)]).length ≤ 9223372036854775807) (kk11 (l6x5 ++ ([(UInt8.ofNat ((0 : Int)).toNat), (UInt8.ofNat (u12.Lit).toNat)])))))) else (req (0 ≤ (IntKind.u8.wrap u12.Len) ∧ (IntKind.u8.wrap u12.Len) ≤ 255) (req (0 ≤ (IntKind.u8.wrap u12.Dist) ∧ (IntKind.u8.wrap u12.Dist) ≤ 255) (req (0 ≤ (IntKind.u8.wrap ((u12.Dist).fdiv (2 ^ min ((8 : Int)).toNat (IntKind.bits .i64)))) ∧ (IntKind.u8.wrap ((u12.Dist).fdiv (2 ^ min ((8 : Int)).toNat (IntKind.bits .i64)))) ≤ 255) (req (((l6x5.length + ([(UInt8.ofNat ((IntKind.u8.wrap u12.Len)).toNat), (UInt8.ofNat ((IntKind.u8.wrap u12.Dist)).toNat), (UInt8.ofNat ((IntKind.u8.wrap ((u12.Dist).fdiv (2 ^ min ((8 : Int)).toNat (IntKind.bits .i64))))).toNat)]).length) * 1 : Nat) ≤ 140737488355328 ∧ l6x5.length + ([(UInt8.ofNat ((IntKind.u8.wrap u12.Len)).toNat), (UInt8.ofNat ((IntKind.u8.wrap u12.Dist)).toNat), (UInt8.ofNat ((IntKind.u8.wrap ((u12.Dist).fdiv (2 ^ min ((8 : Int)).toNat (IntKind.bits .i64))))).toNat)]).length ≤ 9223372036854775807) (kk11 (l6x5 ++ ([(UInt8.ofNat ((IntKind.u8.wrap u12.Len)).toNat), (UInt8.ofNat ((IntKind.u8.wrap u12.Dist)).toNat), (UInt8.ofNat ((IntKind.u8.wrap ((u12.Dist).fdiv (2 ^ min ((8 : Int)).toNat (IntKind.bits .i64))))).toNat)])))))))))) else (kk5 l6x5))
def f_lz_Pack (fu : Nat) (a0 : (List S_api_Token)) : Option ((List UInt8) × Int) := (opt (f_lz_Check fu a0) fun (r2 : Int) => (bif (r2 != (0 : Int)) then (some (([] : List UInt8), r2)) else (lt (fun (j4x5 : (List UInt8)) => (some (j4x5, (0 : Int)))) fun (kk5 : (List UInt8) → Option ((List UInt8) × Int)) => (f_lz_Pack_L8 a0 kk5 fu ([] : List UInt8) (0 : Int)))))
set_option maxRecDepth 100000 in
theorem f_lz_Pack_ok (fu : Nat) (v0_0 : Value) (a0 : (List S_api_Token)) {r : ((List UInt8) × Int)} (h : f_lz_Pack fu a0 = some r) : FnOk Try.prog 79 [v0_0] [(fDat (tyList tyS_api_Token) [v0_0] a0)] [] (fun (i : Unit) => { val := (Value.tuple #[(str r.1), (Value.int .i64 r.2)]) }) := by
  unfold f_lz_Pack at h
  refine fn_enter Try.func79 rfl Try.ntmps79 rfl (fun w0 Z0 => ?_)
  refine aw_seq ?_
  refine aw_region ?_
  refine al_val (ov_assign rfl rfl) ?_
  refine al_val (ov_assign rfl rfl) ?_
  refine al_nil ?_
  refine aq_then ?_
  refine aw_seq ?_
  refine aw_seq ?_
  refine aw_region ?_
  refine al_val (ov_move rfl rfl) ?_
  obtain ⟨r2, hc1, h⟩ := opt_some h
  refine al_call (vs := [v0_0]) (f_lz_Check_ok fu v0_0 a0 hc1) [] [] [] (pre_fz 0 rfl pre_nil) rfl (by simp) (by decide) (.inl rfl) rfl Try.func83 rfl rfl rfl (fun _ => ?_)
  refine al_val (ov_assign rfl rfl) ?_
  refine al_nil ?_
  refine aq_then ?_
  refine aw_seq ?_
  refine aw_region ?_
  refine al_val (ov_move rfl rfl) ?_
  refine al_val (ov_int rfl rfl rfl rfl) ?_
  refine al_nil ?_
  refine aq_then ?_
  refine aw_cond rfl (fun hb3 => ?_) (fun hb3 => ?_)
  · replace h := bif_t hb3 h
    refine aw_seq ?_
    refine aw_region ?_
    refine al_val (ov_move rfl rfl) ?_
    refine al_val (ov_assign rfl rfl) ?_
    refine al_val (ov_assign rfl rfl) ?_
    refine al_nil ?_
    refine aq_then ?_
    refine aw_ret ?_
    refine aq_then_ret ?_
    obtain rfl := Option.some.inj h
    exact fn_ret () [] [] rfl rfl rfl rfl (res2 rfl rfl rfl) rfl rfl rfl (by decide)
  · replace h := bif_f hb3 h
    refine aw_skip ?_
    refine aq_then ?_
    refine aw_seq ?_
    refine aw_region ?_
    refine al_val (ov_assign rfl rfl) ?_
    refine al_nil ?_
    refine aq_then ?_
    obtain ⟨kk5, hkk5, h⟩ := lt_some h
    refine aw_seq_join (ι := Value × (List UInt8)) (fun i => (memOf w0 Z0 [] [(oRow i.1 5 tyU8 i.2)] [(fDat (tyList tyS_api_Token) [v0_0] a0)])) (fun i => (tab [(5, i.1)])) (fun i => kk5 i.2 = some r) ?_ ?_
    · rintro ⟨j4v5, j4x5⟩ h
      have h : kk5 j4x5 = some r := h
      rw [hkk5] at h
      dsimp only at h
      clear hkk5
      refine aw_show (m := (memOf w0 Z0 [] [(oRow j4v5 5 tyU8 j4x5)] [(fDat (tyList tyS_api_Token) [v0_0] a0)])) (S := (tab [(5, j4v5)])) ?_
      refine aw_seq ?_
      refine aw_region ?_
      refine al_val (ov_move rfl rfl) ?_
      refine al_val (ov_toStrR 0 rfl rfl Try.underlying156 Try.underlying5 Try.underlying9 rfl) ?_
      refine al_val (ov_assign rfl rfl) ?_
      refine al_val (ov_assign rfl rfl) ?_
      refine al_nil ?_
      refine aq_then ?_
      refine aw_ret ?_
      obtain rfl := Option.some.inj h
      exact fn_ret () [] [] rfl rfl rfl rfl (res2 rfl rfl rfl) rfl rfl rfl (by decide)
    · clear hkk5
      refine aw_seq ?_
      refine aw_region ?_
      refine al_val (ov_move rfl rfl) ?_
      refine al_val (ov_lenD 0 rfl rfl Try.underlying114 rfl) ?_
      refine al_val (ov_move rfl rfl) ?_
      refine al_nil ?_
      refine aq_then ?_
      refine aw_block ?_
      refine aw_nilR 5 tyU8 ?_
      refine aw_state (aw_loop (ι := Value × (List UInt8) × Int) (fun i => (memOf w0 Z0 [] [(oRow i.1 5 tyU8 i.2.1)] [(fDat (tyList tyS_api_Token) [v0_0] a0)])) (fun i => (tab [(5, i.1), (13, v0_0), (14, (Value.int .i64 (a0.length : Int))), (15, (Value.int .i64 i.2.2))])) (fun q i => f_lz_Pack_L8 a0 kk5 q i.2.1 i.2.2 = some r) ?_ fu ((Value.slice none 0 0), ([] : List UInt8), (0 : Int)) h) (fun w a hm hs => norm hm hs [0] [0] [(5, (Value.slice none 0 0)), (13, v0_0), (14, (Value.int .i64 (a0.length : Int))), (15, (Value.int .i64 (0 : Int)))] (by decide) ⟨rfl, rfl, rfl, rfl, trivial⟩)
      clear h
      rintro k7 ⟨l6v5, l6x5, l6i15⟩ h
      have h : f_lz_Pack_L8 a0 kk5 k7 l6x5 l6i15 = some r := h
      obtain _ | k7 := k7
      · rw [f_lz_Pack_L8] at h; cases h
      rw [f_lz_Pack_L8] at h
      refine aw_show (m := (memOf w0 Z0 [] [(oRow l6v5 5 tyU8 l6x5)] [(fDat (tyList tyS_api_Token) [v0_0] a0)])) (S := (tab [(5, l6v5), (13, v0_0), (14, (Value.int .i64 (a0.length : Int))), (15, (Value.int .i64 l6i15))])) ?_
      refine aw_seq ?_
      refine aw_region ?_
      refine al_val (ov_int rfl rfl rfl rfl) ?_
      refine al_nil ?_
      refine aq_then ?_
      refine aw_seq ?_
      refine aw_cond rfl (fun hb9 => ?_) (fun hb9 => ?_)
      · replace h := bif_t hb9 h
        refine aw_skip ?_
        refine aq_then ?_
        obtain ⟨kk11, hkk11, h⟩ := lt_some h
        refine aw_seq_join (ι := Value × (List UInt8)) (fun i => (memOf w0 Z0 [] [(oRow i.1 5 tyU8 i.2)] [(fDat (tyList tyS_api_Token) [v0_0] a0)])) (fun i => (tab [(5, i.1), (13, v0_0), (14, (Value.int .i64 (a0.length : Int))), (15, (Value.int .i64 l6i15))])) (fun i => kk11 i.2 = some r) ?_ ?_
        · rintro ⟨j10v5, j10x5⟩ h
          have h : kk11 j10x5 = some r := h
          rw [hkk11] at h
          dsimp only at h
          clear hkk11
          refine aw_show (m := (memOf w0 Z0 [] [(oRow j10v5 5 tyU8 j10x5)] [(fDat (tyList tyS_api_Token) [v0_0] a0)])) (S := (tab [(5, j10v5), (13, v0_0), (14, (Value.int .i64 (a0.length : Int))), (15, (Value.int .i64 l6i15))])) ?_
          refine aw_region ?_
          refine al_val (ov_int rfl rfl rfl rfl) ?_
          refine al_val (ov_move rfl rfl) ?_
          refine al_nil ?_
          exact aq_again k7 (j10v5, j10x5, (IntKind.i64.wrap (l6i15 + (1 : Int)))) (Nat.lt_succ_self _) h (fun w a hm hs => norm hm hs [0] [0] [(5, j10v5), (13, v0_0), (14, (Value.int .i64 (a0.length : Int))), (15, (Value.int .i64 (IntKind.i64.wrap (l6i15 + (1 : Int)))))] (by decide) ⟨rfl, rfl, rfl, rfl, trivial⟩)
        · clear hkk11
          refine aw_block ?_
          refine aw_seq ?_
          refine aw_region ?_
          obtain ⟨u12, hu13, h⟩ := opt_some h
          refine al_idxD 0 hu13 rfl rfl rfl Try.underlying114 sz124 rfl (fun p14 => ?_)
          refine al_val (ov_loadP (ds := [(Value.int .u8 u12.Lit), (Value.int .i64 u12.Len), (Value.int .i64 u12.Dist)]) 0 rfl encS_api_Token rfl Try.underlying124 sz124 rfl rfl rfl) ?_
          refine al_alloc (zs := [(Value.int .u8 (0 : Int)), (Value.int .i64 (0 : Int)), (Value.int .i64 (0 : Int))]) (zeroOf_to to124) rfl rfl (fun g15 => ?_)
          refine al_store (i := 0) (vs := [(Value.int .u8 u12.Lit), (Value.int .i64 u12.Len), (Value.int .i64 u12.Dist)]) (cs' := [(Value.int .u8 u12.Lit), (Value.int .i64 u12.Len), (Value.int .i64 u12.Dist)]) rfl rfl rfl sz124 (cv_rfl rfl) rfl (co_val rfl (co_val rfl (co_val rfl co_nil))) (Nat.le_of_ble_eq_true rfl) rfl rfl ?_
          refine al_nil ?_
          refine aq_then ?_
          refine aw_seq ?_
          refine aw_region ?_
          refine al_val (ov_fieldA (p := 1) rfl Try.underlying124 rfl sz3 rfl rfl rfl) ?_
          refine al_val (ov_load (i := 0) (v := (Value.int .i64 u12.Len)) rfl rfl Try.underlying3 sz3 rfl rfl rfl rfl) ?_
          refine al_val (ov_int rfl rfl rfl rfl) ?_
          refine al_nil ?_
          refine aq_then ?_
          refine aw_cond rfl (fun hb16 => ?_) (fun hb16 => ?_)
          · replace h := bif_t hb16 h
            refine aw_region ?_
            refine al_val (ov_move rfl rfl) ?_
            refine al_val (ov_fieldA (p := 0) rfl Try.underlying124 rfl sz5 rfl rfl rfl) ?_
            refine al_val (ov_load (i := 0) (v := (Value.int .u8 u12.Lit)) rfl rfl Try.underlying5 sz5 rfl rfl rfl rfl) ?_
            obtain ⟨hc18, h⟩ := req_some h
            obtain ⟨hc19, h⟩ := req_some h
            refine al_buildSlice (τ := tyU8) (e := 5) (k := 2) (sz := 0) (by_ := 0) (z := undef) (cs := [(Value.int .u8 (0 : Int)), (Value.int .u8 u12.Lit)]) (xs := [(UInt8.ofNat ((0 : Int)).toNat), (UInt8.ofNat (u12.Lit).toNat)]) rfl (by decide) (fun w a hm hs => ⟨([(Value.int .u8 (0 : Int)), (Value.int .u8 u12.Lit)]).toArray, rfl, by simp only [List.map_toArray, List.map_cons, List.map_nil, hs.ev (x := .const (Value.int .u8 (0 : Int))) rfl, hs.ev (x := .tmp 24) rfl]; exact run_bs [(Value.int .u8 (0 : Int)), (Value.int .u8 u12.Lit)] [(Value.int .u8 (0 : Int)), (Value.int .u8 u12.Lit)] Try.underlying156 to5 rfl rfl (bs_cons (l := [(Value.int .u8 (0 : Int))]) (cs := [(Value.int .u8 u12.Lit)]) (cv_rfl rfl) rfl (bs_cons (l := [(Value.int .u8 u12.Lit)]) (cs := []) (cv_rfl rfl) rfl bs_nil)) hm⟩) (fun hm => ⟨_, _, rfl, (fun _ => u8_rep hc18) hm, ⟨_, _, rfl, (fun _ => u8_rep hc19) hm, rfl⟩⟩) rfl (fun v17 => ?_)
            obtain ⟨hc20, h⟩ := req_some h
            refine al_append 2 hc20.1 hc20.2 rfl (src_own (i := 2) 0 rfl) rfl rfl Try.underlying156 to5 rfl rfl rfl (fun v21 => ?_)
            refine al_val (ov_assign rfl rfl) ?_
            refine al_nil ?_
            refine aq_block ?_
            exact aq_join (v21, (l6x5 ++ ([(UInt8.ofNat ((0 : Int)).toNat), (UInt8.ofNat (u12.Lit).toNat)]))) h (fun w a hm hs => norm hm hs [2] [1] [(5, v21), (13, v0_0), (14, (Value.int .i64 (a0.length : Int))), (15, (Value.int .i64 l6i15))] (by decide) ⟨rfl, rfl, rfl, rfl, trivial⟩)
          · replace h := bif_f hb16 h
            refine aw_region ?_
            refine al_val (ov_move rfl rfl) ?_
            refine al_val (ov_fieldA (p := 1) rfl Try.underlying124 rfl sz3 rfl rfl rfl) ?_
            refine al_val (ov_load (i := 0) (v := (Value.int .i64 u12.Len)) rfl rfl Try.underlying3 sz3 rfl rfl rfl rfl) ?_
            refine al_val (ov_convInt (by rw [Try.underlying3]; rfl) Try.underlying5 rfl rfl) ?_
            refine al_val (ov_fieldA (p := 2) rfl Try.underlying124 rfl sz3 rfl rfl rfl) ?_
            refine al_val (ov_load (i := 0) (v := (Value.int .i64 u12.Dist)) rfl rfl Try.underlying3 sz3 rfl rfl rfl rfl) ?_
            refine al_val (ov_convInt (by rw [Try.underlying3]; rfl) Try.underlying5 rfl rfl) ?_
            refine al_val (ov_fieldA (p := 2) rfl Try.underlying124 rfl sz3 rfl rfl rfl) ?_
            refine al_val (ov_load (i := 0) (v := (Value.int .i64 u12.Dist)) rfl rfl Try.underlying3 sz3 rfl rfl rfl rfl) ?_
            refine al_val (ov_shr (by decide) rfl rfl rfl) ?_
            refine al_val (ov_convInt (by rw [Try.underlying3]; rfl) Try.underlying5 rfl rfl) ?_
            obtain ⟨hc23, h⟩ := req_some h
            obtain ⟨hc24, h⟩ := req_some h
            obtain ⟨hc25, h⟩ := req_some h
            refine al_buildSlice (τ := tyU8) (e := 5) (k := 3) (sz := 0) (by_ := 0) (z := undef) (cs := [(Value.int .u8 (IntKind.u8.wrap u12.Len)), (Value.int .u8 (IntKind.u8.wrap u12.Dist)), (Value.int .u8 (IntKind.u8.wrap ((u12.Dist).fdiv (2 ^ min ((8 : Int)).toNat (IntKind.bits .i64)))))]) (xs := [(UInt8.ofNat ((IntKind.u8.wrap u12.Len)).toNat), (UInt8.ofNat ((IntKind.u8.wrap u12.Dist)).toNat), (UInt8.ofNat ((IntKind.u8.wrap ((u12.Dist).fdiv (2 ^ min ((8 : Int)).toNat (IntKind.bits .i64))))).toNat)]) rfl (by decide) (fun w a hm hs => ⟨([(Value.int .u8 (IntKind.u8.wrap u12.Len)), (Value.int .u8 (IntKind.u8.wrap u12.Dist)), (Value.int .u8 (IntKind.u8.wrap ((u12.Dist).fdiv (2 ^ min ((8 : Int)).toNat (IntKind.bits .i64)))))]).toArray, rfl, by simp only [List.map_toArray, List.map_cons, List.map_nil, hs.ev (x := .tmp 30) rfl, hs.ev (x := .tmp 33) rfl, hs.ev (x := .tmp 37) rfl]; exact run_bs [(Value.int .u8 (IntKind.u8.wrap u12.Len)), (Value.int .u8 (IntKind.u8.wrap u12.Dist)), (Value.int .u8 (IntKind.u8.wrap ((u12.Dist).fdiv (2 ^ min ((8 : Int)).toNat (IntKind.bits .i64)))))] [(Value.int .u8 (IntKind.u8.wrap u12.Len)), (Value.int .u8 (IntKind.u8.wrap u12.Dist)), (Value.int .u8 (IntKind.u8.wrap ((u12.Dist).fdiv (2 ^ min ((8 : Int)).toNat (IntKind.bits .i64)))))] Try.underlying156 to5 rfl rfl (bs_cons (l := [(Value.int .u8 (IntKind.u8.wrap u12.Len))]) (cs := [(Value.int .u8 (IntKind.u8.wrap u12.Dist)), (Value.int .u8 (IntKind.u8.wrap ((u12.Dist).fdiv (2 ^ min ((8 : Int)).toNat (IntKind.bits .i64)))))]) (cv_rfl rfl) rfl (bs_cons (l := [(Value.int .u8 (IntKind.u8.wrap u12.Dist))]) (cs := [(Value.int .u8 (IntKind.u8.wrap ((u12.Dist).fdiv (2 ^ min ((8 : Int)).toNat (IntKind.bits .i64)))))]) (cv_rfl rfl) rfl (bs_cons (l := [(Value.int .u8 (IntKind.u8.wrap ((u12.Dist).fdiv (2 ^ min ((8 : Int)).toNat (IntKind.bits .i64)))))]) (cs := []) (cv_rfl rfl) rfl bs_nil))) hm⟩) (fun hm => ⟨_, _, rfl, (fun _ => u8_rep hc23) hm, ⟨_, _, rfl, (fun _ => u8_rep hc24) hm, ⟨_, _, rfl, (fun _ => u8_rep hc25) hm, rfl⟩⟩⟩) rfl (fun v22 => ?_)
            obtain ⟨hc26, h⟩ := req_some h
            refine al_append 2 hc26.1 hc26.2 rfl (src_own (i := 2) 0 rfl) rfl rfl Try.underlying156 to5 rfl rfl rfl (fun v27 => ?_)
            refine al_val (ov_assign rfl rfl) ?_
            refine al_nil ?_
            refine aq_block ?_
            exact aq_join (v27, (l6x5 ++ ([(UInt8.ofNat ((IntKind.u8.wrap u12.Len)).toNat), (UInt8.ofNat ((IntKind.u8.wrap u12.Dist)).toNat), (UInt8.ofNat ((IntKind.u8.wrap ((u12.Dist).fdiv (2 ^ min ((8 : Int)).toNat (IntKind.bits .i64))))).toNat)]))) h (fun w a hm hs => norm hm hs [2] [1] [(5, v27), (13, v0_0), (14, (Value.int .i64 (a0.length : Int))), (15, (Value.int .i64 l6i15))] (by decide) ⟨rfl, rfl, rfl, rfl, trivial⟩)
      · replace h := bif_f hb9 h
        refine aw_exit ?_
        refine aq_then_exit ?_
        refine aq_then_exit ?_
        refine aq_block_exit ?_
        exact aq_join (l6v5, l6x5) h (fun w a hm hs => norm hm hs [0] [0] [(5, l6v5)] (by decide) ⟨rfl, trivial⟩)
def f_lumref_tokenText (fu : Nat) (a0 : S_api_Token) : Option (List UInt8) := (bif (a0.Len == (0 : Int)) then (req (0 ≤ (0 : Int) ∧ (0 : Int) ≤ 255) (req (0 ≤ a0.Lit ∧ a0.Lit ≤ 255) (some [(UInt8.ofNat ((0 : Int)).toNat), (UInt8.ofNat (a0.Lit).toNat)]))) else (req (0 ≤ (IntKind.u8.wrap a0.Len) ∧ (IntKind.u8.wrap a0.Len) ≤ 255) (req (0 ≤ (IntKind.u8.wrap ((a0.Dist).tmod (256 : Int))) ∧ (IntKind.u8.wrap ((a0.Dist).tmod (256 : Int))) ≤ 255) (req (0 ≤ (IntKind.u8.wrap (IntKind.i64.wrap ((a0.Dist).tdiv (256 : Int)))) ∧ (IntKind.u8.wrap (IntKind.i64.wrap ((a0.Dist).tdiv (256 : Int)))) ≤ 255) (some [(UInt8.ofNat ((IntKind.u8.wrap a0.Len)).toNat), (UInt8.ofNat ((IntKind.u8.wrap ((a0.Dist).tmod (256 : Int)))).toNat), (UInt8.ofNat ((IntKind.u8.wrap (IntKind.i64.wrap ((a0.Dist).tdiv (256 : Int))))).toNat)])))))
set_option maxRecDepth 100000 in
theorem f_lumref_tokenText_ok (fu : Nat) (a0 : S_api_Token) {r : (List UInt8)} (h : f_lumref_tokenText fu a0 = some r) : FnOk Try.prog 156 [(ag [(Value.int .u8 a0.Lit), (Value.int .i64 a0.Len), (Value.int .i64 a0.Dist)])] [] [] (fun (i : Unit) => { val := (str r) }) := by
  unfold f_lumref_tokenText at h
  refine fn_enter Try.func156 rfl Try.ntmps156 rfl (fun w0 Z0 => ?_)
  refine aw_seq ?_
  refine aw_region ?_
  refine al_box (vs := [(Value.int .u8 a0.Lit), (Value.int .i64 a0.Len), (Value.int .i64 a0.Dist)]) rfl (cv_rfl rfl) rfl (fun g1 => ?_)
  refine al_val (ov_assign rfl rfl) ?_
  refine al_nil ?_
  refine aq_then ?_
  refine aw_seq ?_
  refine aw_seq ?_
  refine aw_region ?_
  refine al_val (ov_fieldA (p := 1) rfl Try.underlying124 rfl sz3 rfl rfl rfl) ?_
  refine al_val (ov_load (i := 0) (v := (Value.int .i64 a0.Len)) rfl rfl Try.underlying3 sz3 rfl rfl rfl rfl) ?_
  refine al_val (ov_int rfl rfl rfl rfl) ?_
  refine al_nil ?_
  refine aq_then ?_
  refine aw_cond rfl (fun hb2 => ?_) (fun hb2 => ?_)
  · replace h := bif_t hb2 h
    refine aw_seq ?_
    refine aw_region ?_
    refine al_val (ov_fieldA (p := 0) rfl Try.underlying124 rfl sz5 rfl rfl rfl) ?_
    refine al_val (ov_load (i := 0) (v := (Value.int .u8 a0.Lit)) rfl rfl Try.underlying5 sz5 rfl rfl rfl rfl) ?_
    obtain ⟨hc4, h⟩ := req_some h
    obtain ⟨hc5, h⟩ := req_some h
    refine al_buildSlice (τ := tyU8) (e := 5) (k := 2) (sz := 0) (by_ := 0) (z := undef) (cs := [(Value.int .u8 (0 : Int)), (Value.int .u8 a0.Lit)]) (xs := [(UInt8.ofNat ((0 : Int)).toNat), (UInt8.ofNat (a0.Lit).toNat)]) rfl (by decide) (fun w a hm hs => ⟨([(Value.int .u8 (0 : Int)), (Value.int .u8 a0.Lit)]).toArray, rfl, by simp only [List.map_toArray, List.map_cons, List.map_nil, hs.ev (x := .const (Value.int .u8 (0 : Int))) rfl, hs.ev (x := .tmp 7) rfl]; exact run_bs [(Value.int .u8 (0 : Int)), (Value.int .u8 a0.Lit)] [(Value.int .u8 (0 : Int)), (Value.int .u8 a0.Lit)] Try.underlying156 to5 rfl rfl (bs_cons (l := [(Value.int .u8 (0 : Int))]) (cs := [(Value.int .u8 a0.Lit)]) (cv_rfl rfl) rfl (bs_cons (l := [(Value.int .u8 a0.Lit)]) (cs := []) (cv_rfl rfl) rfl bs_nil)) hm⟩) (fun hm => ⟨_, _, rfl, (fun _ => u8_rep hc4) hm, ⟨_, _, rfl, (fun _ => u8_rep hc5) hm, rfl⟩⟩) rfl (fun v3 => ?_)
    refine al_val (ov_toStrR 0 rfl rfl Try.underlying156 Try.underlying5 Try.underlying9 rfl) ?_
    refine al_val (ov_assign rfl rfl) ?_
    refine al_nil ?_
    refine aq_then ?_
    refine aw_ret ?_
    refine aq_then_ret ?_
    obtain rfl := Option.some.inj h
    exact fn_ret () [] [] rfl rfl rfl rfl (res1 rfl rfl) rfl rfl rfl (by decide)
  · replace h := bif_f hb2 h
    refine aw_skip ?_
    refine aq_then ?_
    refine aw_seq ?_
    refine aw_region ?_
    refine al_val (ov_fieldA (p := 1) rfl Try.underlying124 rfl sz3 rfl rfl rfl) ?_
    refine al_val (ov_load (i := 0) (v := (Value.int .i64 a0.Len)) rfl rfl Try.underlying3 sz3 rfl rfl rfl rfl) ?_
    refine al_val (ov_convInt (by rw [Try.underlying3]; rfl) Try.underlying5 rfl rfl) ?_
    refine al_val (ov_fieldA (p := 2) rfl Try.underlying124 rfl sz3 rfl rfl rfl) ?_
    refine al_val (ov_load (i := 0) (v := (Value.int .i64 a0.Dist)) rfl rfl Try.underlying3 sz3 rfl rfl rfl rfl) ?_
    refine al_val (ov_rem (by decide) rfl rfl rfl) ?_
    refine al_val (ov_convInt (by rw [Try.underlying3]; rfl) Try.underlying5 rfl rfl) ?_
    refine al_val (ov_fieldA (p := 2) rfl Try.underlying124 rfl sz3 rfl rfl rfl) ?_
    refine al_val (ov_load (i := 0) (v := (Value.int .i64 a0.Dist)) rfl rfl Try.underlying3 sz3 rfl rfl rfl rfl) ?_
    refine al_val (ov_quo (by decide) rfl rfl rfl) ?_
    refine al_val (ov_convInt (by rw [Try.underlying3]; rfl) Try.underlying5 rfl rfl) ?_
    obtain ⟨hc7, h⟩ := req_some h
    obtain ⟨hc8, h⟩ := req_some h
    obtain ⟨hc9, h⟩ := req_some h
    refine al_buildSlice (τ := tyU8) (e := 5) (k := 3) (sz := 0) (by_ := 0) (z := undef) (cs := [(Value.int .u8 (IntKind.u8.wrap a0.Len)), (Value.int .u8 (IntKind.u8.wrap ((a0.Dist).tmod (256 : Int)))), (Value.int .u8 (IntKind.u8.wrap (IntKind.i64.wrap ((a0.Dist).tdiv (256 : Int)))))]) (xs := [(UInt8.ofNat ((IntKind.u8.wrap a0.Len)).toNat), (UInt8.ofNat ((IntKind.u8.wrap ((a0.Dist).tmod (256 : Int)))).toNat), (UInt8.ofNat ((IntKind.u8.wrap (IntKind.i64.wrap ((a0.Dist).tdiv (256 : Int))))).toNat)]) rfl (by decide) (fun w a hm hs => ⟨([(Value.int .u8 (IntKind.u8.wrap a0.Len)), (Value.int .u8 (IntKind.u8.wrap ((a0.Dist).tmod (256 : Int)))), (Value.int .u8 (IntKind.u8.wrap (IntKind.i64.wrap ((a0.Dist).tdiv (256 : Int)))))]).toArray, rfl, by simp only [List.map_toArray, List.map_cons, List.map_nil, hs.ev (x := .tmp 12) rfl, hs.ev (x := .tmp 16) rfl, hs.ev (x := .tmp 20) rfl]; exact run_bs [(Value.int .u8 (IntKind.u8.wrap a0.Len)), (Value.int .u8 (IntKind.u8.wrap ((a0.Dist).tmod (256 : Int)))), (Value.int .u8 (IntKind.u8.wrap (IntKind.i64.wrap ((a0.Dist).tdiv (256 : Int)))))] [(Value.int .u8 (IntKind.u8.wrap a0.Len)), (Value.int .u8 (IntKind.u8.wrap ((a0.Dist).tmod (256 : Int)))), (Value.int .u8 (IntKind.u8.wrap (IntKind.i64.wrap ((a0.Dist).tdiv (256 : Int)))))] Try.underlying156 to5 rfl rfl (bs_cons (l := [(Value.int .u8 (IntKind.u8.wrap a0.Len))]) (cs := [(Value.int .u8 (IntKind.u8.wrap ((a0.Dist).tmod (256 : Int)))), (Value.int .u8 (IntKind.u8.wrap (IntKind.i64.wrap ((a0.Dist).tdiv (256 : Int)))))]) (cv_rfl rfl) rfl (bs_cons (l := [(Value.int .u8 (IntKind.u8.wrap ((a0.Dist).tmod (256 : Int))))]) (cs := [(Value.int .u8 (IntKind.u8.wrap (IntKind.i64.wrap ((a0.Dist).tdiv (256 : Int)))))]) (cv_rfl rfl) rfl (bs_cons (l := [(Value.int .u8 (IntKind.u8.wrap (IntKind.i64.wrap ((a0.Dist).tdiv (256 : Int)))))]) (cs := []) (cv_rfl rfl) rfl bs_nil))) hm⟩) (fun hm => ⟨_, _, rfl, (fun _ => u8_rep hc7) hm, ⟨_, _, rfl, (fun _ => u8_rep hc8) hm, ⟨_, _, rfl, (fun _ => u8_rep hc9) hm, rfl⟩⟩⟩) rfl (fun v6 => ?_)
    refine al_val (ov_toStrR 0 rfl rfl Try.underlying156 Try.underlying5 Try.underlying9 rfl) ?_
    refine al_val (ov_assign rfl rfl) ?_
    refine al_nil ?_
    refine aq_then ?_
    refine aw_ret ?_
    obtain rfl := Option.some.inj h
    exact fn_ret () [] [] rfl rfl rfl rfl (res1 rfl rfl) rfl rfl rfl (by decide)
def f_lumref_TokensText_L5 (a0 : (List S_api_Token)) (kk2 : ((List UInt8) → Option (List UInt8))) (fu : Nat) : Nat → (List UInt8) → Int → Option (List UInt8)
  | 0, _, _ => none
  | k4 + 1, l3s3, l3i8 => (bif (decide (l3i8 < (a0.length : Int))) then (opt (at? a0 l3i8) fun (u7 : S_api_Token) => (opt (f_lumref_tokenText fu u7) fun (r12 : (List UInt8)) => (req (l3s3.length + r12.length ≤ 9223372036854775807) (f_lumref_TokensText_L5 a0 kk2 fu k4 (l3s3 ++ r12) (IntKind.i64.wrap (l3i8 + (1 : Int))))))) else (kk2 l3s3))
def f_lumref_TokensText (fu : Nat) (a0 : (List S_api_Token)) : Option (List UInt8) := (lt (fun (j1s3 : (List UInt8)) => (some j1s3)) fun (kk2 : (List UInt8) → Option (List UInt8)) => (f_lumref_TokensText_L5 a0 kk2 fu fu ([] : List UInt8) (0 : Int)))
set_option maxRecDepth 100000 in
theorem f_lumref_TokensText_ok (fu : Nat) (v0_0 : Value) (a0 : (List S_api_Token)) {r : (List UInt8)} (h : f_lumref_TokensText fu a0 = some r) : FnOk Try.prog 80 [v0_0] [(fDat (tyList tyS_api_Token) [v0_0] a0)] [] (fun (i : Unit) => { val := (str r) }) := by
  unfold f_lumref_TokensText at h
  refine fn_enter Try.func80 rfl Try.ntmps80 rfl (fun w0 Z0 => ?_)
  refine aw_seq ?_
  refine aw_region ?_
  refine al_val (ov_assign rfl rfl) ?_
  refine al_nil ?_
  refine aq_then ?_
  refine aw_seq ?_
  refine aw_region ?_
  refine al_val (ov_assign rfl rfl) ?_
  refine al_nil ?_
  refine aq_then ?_
  obtain ⟨kk2, hkk2, h⟩ := lt_some h
  refine aw_seq_join (ι := (List UInt8)) (fun i => (memOf w0 Z0 [] [] [(fDat (tyList tyS_api_Token) [v0_0] a0)])) (fun i => (tab [(3, (str i))])) (fun i => kk2 i = some r) ?_ ?_
  · rintro j1s3 h
    have h : kk2 j1s3 = some r := h
    rw [hkk2] at h
    dsimp only at h
    clear hkk2
    refine aw_show (m := (memOf w0 Z0 [] [] [(fDat (tyList tyS_api_Token) [v0_0] a0)])) (S := (tab [(3, (str j1s3))])) ?_
    refine aw_seq ?_
    refine aw_region ?_
    refine al_val (ov_move rfl rfl) ?_
    refine al_val (ov_assign rfl rfl) ?_
    refine al_nil ?_
    refine aq_then ?_
    refine aw_ret ?_
    obtain rfl := Option.some.inj h
    exact fn_ret () [] [] rfl rfl rfl rfl (res1 rfl rfl) rfl rfl rfl (by decide)
  · clear hkk2
    refine aw_seq ?_
    refine aw_region ?_
    refine al_val (ov_move rfl rfl) ?_
    refine al_val (ov_lenD 0 rfl rfl Try.underlying114 rfl) ?_
    refine al_val (ov_move rfl rfl) ?_
    refine al_nil ?_
    refine aq_then ?_
    refine aw_block ?_
    refine aw_state (aw_loop (ι := (List UInt8) × Int) (fun i => (memOf w0 Z0 [] [] [(fDat (tyList tyS_api_Token) [v0_0] a0)])) (fun i => (tab [(3, (str i.1)), (6, v0_0), (7, (Value.int .i64 (a0.length : Int))), (8, (Value.int .i64 i.2))])) (fun q i => f_lumref_TokensText_L5 a0 kk2 fu q i.1 i.2 = some r) ?_ fu (([] : List UInt8), (0 : Int)) h) (fun w a hm hs => norm hm hs [] [0] [(3, (str ([] : List UInt8))), (6, v0_0), (7, (Value.int .i64 (a0.length : Int))), (8, (Value.int .i64 (0 : Int)))] (by decide) ⟨rfl, rfl, rfl, rfl, trivial⟩)
    clear h
    rintro k4 ⟨l3s3, l3i8⟩ h
    have h : f_lumref_TokensText_L5 a0 kk2 fu k4 l3s3 l3i8 = some r := h
    obtain _ | k4 := k4
    · rw [f_lumref_TokensText_L5] at h; cases h
    rw [f_lumref_TokensText_L5] at h
    refine aw_show (m := (memOf w0 Z0 [] [] [(fDat (tyList tyS_api_Token) [v0_0] a0)])) (S := (tab [(3, (str l3s3)), (6, v0_0), (7, (Value.int .i64 (a0.length : Int))), (8, (Value.int .i64 l3i8))])) ?_
    refine aw_seq ?_
    refine aw_region ?_
    refine al_val (ov_int rfl rfl rfl rfl) ?_
    refine al_nil ?_
    refine aq_then ?_
    refine aw_seq ?_
    refine aw_cond rfl (fun hb6 => ?_) (fun hb6 => ?_)
    · replace h := bif_t hb6 h
      refine aw_skip ?_
      refine aq_then ?_
      refine aw_seq ?_
      refine aw_block ?_
      refine aw_seq ?_
      refine aw_region ?_
      obtain ⟨u7, hu8, h⟩ := opt_some h
      refine al_idxD 0 hu8 rfl rfl rfl Try.underlying114 sz124 rfl (fun p9 => ?_)
      refine al_val (ov_loadP (ds := [(Value.int .u8 u7.Lit), (Value.int .i64 u7.Len), (Value.int .i64 u7.Dist)]) 0 rfl encS_api_Token rfl Try.underlying124 sz124 rfl rfl rfl) ?_
      refine al_alloc (zs := [(Value.int .u8 (0 : Int)), (Value.int .i64 (0 : Int)), (Value.int .i64 (0 : Int))]) (zeroOf_to to124) rfl rfl (fun g10 => ?_)
      refine al_store (i := 0) (vs := [(Value.int .u8 u7.Lit), (Value.int .i64 u7.Len), (Value.int .i64 u7.Dist)]) (cs' := [(Value.int .u8 u7.Lit), (Value.int .i64 u7.Len), (Value.int .i64 u7.Dist)]) rfl rfl rfl sz124 (cv_rfl rfl) rfl (co_val rfl (co_val rfl (co_val rfl co_nil))) (Nat.le_of_ble_eq_true rfl) rfl rfl ?_
      refine al_nil ?_
      refine aq_then ?_
      refine aw_region ?_
      refine al_val (ov_move rfl rfl) ?_
      refine al_val (ov_load (i := 0) (v := (ag [(Value.int .u8 u7.Lit), (Value.int .i64 u7.Len), (Value.int .i64 u7.Dist)])) rfl rfl Try.underlying124 sz124 rfl rfl rfl rfl) ?_
      obtain ⟨r12, hc11, h⟩ := opt_some h
      refine al_call (vs := [(ag [(Value.int .u8 u7.Lit), (Value.int .i64 u7.Len), (Value.int .i64 u7.Dist)])]) (f_lumref_tokenText_ok fu u7 hc11) [] [] [0] pre_nil rfl (by simp) (by decide) (.inl rfl) rfl Try.func156 rfl rfl rfl (fun _ => ?_)
      obtain ⟨hc13, h⟩ := req_some h
      refine al_val (ov_strAdd hc13 rfl rfl rfl) ?_
      refine al_val (ov_assign rfl rfl) ?_
      refine al_nil ?_
      refine aq_block ?_
      refine aq_then ?_
      refine aw_region ?_
      refine al_val (ov_int rfl rfl rfl rfl) ?_
      refine al_val (ov_move rfl rfl) ?_
      refine al_nil ?_
      exact aq_again k4 ((l3s3 ++ r12), (IntKind.i64.wrap (l3i8 + (1 : Int)))) (Nat.lt_succ_self _) h (fun w a hm hs => norm hm hs [] [1] [(3, (str (l3s3 ++ r12))), (6, v0_0), (7, (Value.int .i64 (a0.length : Int))), (8, (Value.int .i64 (IntKind.i64.wrap (l3i8 + (1 : Int)))))] (by decide) ⟨rfl, rfl, rfl, rfl, trivial⟩)
    · replace h := bif_f hb6 h
      refine aw_exit ?_
      refine aq_then_exit ?_
      refine aq_then_exit ?_
      refine aq_block_exit ?_
      exact aq_join l3s3 h (fun w a hm hs => norm hm hs [] [0] [(3, (str l3s3))] (by decide) ⟨rfl, trivial⟩)
def f_lz_Read_L5 (kk2 : ((List S_api_Token) → Option ((List S_api_Token) × Int))) (fu : Nat) : Nat → (List UInt8) → (List S_api_Token) → Option ((List S_api_Token) × Int)
  | 0, _, _ => none
  | k4 + 1, l3s0, l3x4 => (bif (!(l3s0 == ([] : List UInt8))) then (lt (fun (j7i5 : Int) => (bif (decide ((l3s0.length : Int) < j7i5)) then (some (([] : List S_api_Token), (3 : Int))) else (req (0 ≤ (1 : Int) ∧ (1 : Int) < (l3s0.length : Int)) (lt (fun (j12i6_0 : Int) (j12i6_1 : Int) (j12i6_2 : Int) => (opt (f_lz_formed fu (S_api_Token.mk j12i6_0 j12i6_1 j12i6_2)) fun (r15 : Bool) => (bif (!r15) then (some (([] : List S_api_Token), (4 : Int))) else (bif ((l3x4.length : Int) == (4096 : Int)) then (some (([] : List S_api_Token), (2 : Int))) else (req (((l3x4.length + ([(S_api_Token.mk j12i6_0 j12i6_1 j12i6_2)]).length) * 24 : Nat) ≤ 140737488355328 ∧ l3x4.length + ([(S_api_Token.mk j12i6_0 j12i6_1 j12i6_2)]).length ≤ 9223372036854775807) (req (0 ≤ j7i5 ∧ j7i5 ≤ (l3s0.length : Int)) (f_lz_Read_L5 kk2 fu k4 (l3s0.drop (j7i5).toNat) (l3x4 ++ ([(S_api_Token.mk j12i6_0 j12i6_1 j12i6_2)]))))))))) fun (kk13 : Int → Int → Int → Option ((List S_api_Token) × Int)) => (bif (j7i5 == (3 : Int)) then (req (0 ≤ (0 : Int) ∧ (0 : Int) < (l3s0.length : Int)) (req (0 ≤ (1 : Int) ∧ (1 : Int) < (l3s0.length : Int)) (req (0 ≤ (2 : Int) ∧ (2 : Int) < (l3s0.length : Int)) (kk13 (0 : Int) (IntKind.i64.wrap (En.bAt l3s0 (0 : Int))) (bits .or .i64 (IntKind.i64.wrap (En.bAt l3s0 (1 : Int))) (IntKind.i64.wrap ((IntKind.i64.wrap (En.bAt l3s0 (2 : Int))) * 2 ^ min ((8 : Int)).toNat (IntKind.bits .i64)))))))) else (kk13 (En.bAt l3s0 (1 : Int)) (0 : Int) (0 : Int))))))) fun (kk8 : Int → Option ((List S_api_Token) × Int)) => (req (0 ≤ (0 : Int) ∧ (0 : Int) < (l3s0.length : Int)) (bif ((En.bAt l3s0 (0 : Int)) == (0 : Int)) then (kk8 (2 : Int)) else (kk8 (3 : Int))))) else (kk2 l3x4))
def f_lz_Read (fu : Nat) (a0 : (List UInt8)) : Option ((List S_api_Token) × Int) := (lt (fun (j1x4 : (List S_api_Token)) => (some (j1x4, (0 : Int)))) fun (kk2 : (List S_api_Token) → Option ((List S_api_Token) × Int)) => (f_lz_Read_L5 kk2 fu fu a0 ([] : List S_api_Token)))
set_option maxRecDepth 100000 in
theorem f_lz_Read_ok (fu : Nat) (a0 : (List UInt8)) {r : ((List S_api_Token) × Int)} (h : f_lz_Read fu a0 = some r) : FnOk Try.prog 81 [(str a0)] [] [] (fun (i : Value) => { val := (Value.tuple #[i, (Value.int .i64 r.2)]), own := [(oRow i 124 tyS_api_Token r.1)] }) := by
  unfold f_lz_Read at h
  refine fn_enter Try.func81 rfl Try.ntmps81 rfl (fun w0 Z0 => ?_)
  refine aw_seq ?_
  refine aw_region ?_
  refine al_val (ov_assign rfl rfl) ?_
  refine al_val (ov_assign rfl rfl) ?_
  refine al_nil ?_
  refine aq_then ?_
  refine aw_seq ?_
  refine aw_region ?_
  refine al_val (ov_assign rfl rfl) ?_
  refine al_nil ?_
  refine aq_then ?_
  obtain ⟨kk2, hkk2, h⟩ := lt_some h
  refine aw_seq_join (ι := Value × (List S_api_Token)) (fun i => (memOf w0 Z0 [] [(oRow i.1 124 tyS_api_Token i.2)] [])) (fun i => (tab [(4, i.1)])) (fun i => kk2 i.2 = some r) ?_ ?_
  · rintro ⟨j1v4, j1x4⟩ h
    have h : kk2 j1x4 = some r := h
    rw [hkk2] at h
    dsimp only at h
    clear hkk2
    refine aw_show (m := (memOf w0 Z0 [] [(oRow j1v4 124 tyS_api_Token j1x4)] [])) (S := (tab [(4, j1v4)])) ?_
    refine aw_seq ?_
    refine aw_region ?_
    refine al_val (ov_move rfl rfl) ?_
    refine al_val (ov_assign rfl rfl) ?_
    refine al_val (ov_assign rfl rfl) ?_
    refine al_nil ?_
    refine aq_then ?_
    refine aw_ret ?_
    obtain rfl := Option.some.inj h
    exact fn_ret j1v4 [0] [] rfl rfl rfl rfl (res2 rfl rfl rfl) rfl rfl rfl (by decide)
  · clear hkk2
    refine aw_block ?_
    refine aw_nilR 124 tyS_api_Token ?_
    refine aw_state (aw_loop (ι := (List UInt8) × Value × (List S_api_Token)) (fun i => (memOf w0 Z0 [] [(oRow i.2.1 124 tyS_api_Token i.2.2)] [])) (fun i => (tab [(0, (str i.1)), (4, i.2.1)])) (fun q i => f_lz_Read_L5 kk2 fu q i.1 i.2.2 = some r) ?_ fu (a0, (Value.slice none 0 0), ([] : List S_api_Token)) h) (fun w a hm hs => norm hm hs [0] [] [(0, (str a0)), (4, (Value.slice none 0 0))] (by decide) ⟨rfl, rfl, trivial⟩)
    clear h
    rintro k4 ⟨l3s0, l3v4, l3x4⟩ h
    have h : f_lz_Read_L5 kk2 fu k4 l3s0 l3x4 = some r := h
    obtain _ | k4 := k4
    · rw [f_lz_Read_L5] at h; cases h
    rw [f_lz_Read_L5] at h
    refine aw_show (m := (memOf w0 Z0 [] [(oRow l3v4 124 tyS_api_Token l3x4)] [])) (S := (tab [(0, (str l3s0)), (4, l3v4)])) ?_
    refine aw_seq ?_
    refine aw_seq ?_
    refine aw_region ?_
    refine al_val (ov_move rfl rfl) ?_
    refine al_val (ov_strCmp rfl rfl rfl rfl) ?_
    refine al_nil ?_
    refine aq_then ?_
    refine aw_cond rfl (fun hb6 => ?_) (fun hb6 => ?_)
    · replace h := bif_t hb6 h
      refine aw_skip ?_
      refine aq_then ?_
      refine aw_block ?_
      refine aw_seq ?_
      refine aw_region ?_
      refine al_val (ov_assign rfl rfl) ?_
      refine al_nil ?_
      refine aq_then ?_
      obtain ⟨kk8, hkk8, h⟩ := lt_some h
      refine aw_seq_join (ι := Int) (fun i => (memOf w0 Z0 [] [(oRow l3v4 124 tyS_api_Token l3x4)] [])) (fun i => (tab [(0, (str l3s0)), (4, l3v4), (5, (Value.int .i64 i))])) (fun i => kk8 i = some r) ?_ ?_
      · rintro j7i5 h
        have h : kk8 j7i5 = some r := h
        rw [hkk8] at h
        dsimp only at h
        clear hkk8
        refine aw_show (m := (memOf w0 Z0 [] [(oRow l3v4 124 tyS_api_Token l3x4)] [])) (S := (tab [(0, (str l3s0)), (4, l3v4), (5, (Value.int .i64 j7i5))])) ?_
        refine aw_seq ?_
        refine aw_seq ?_
        refine aw_region ?_
        refine al_val (ov_move rfl rfl) ?_
        refine al_val (ov_strLen Try.underlying9 rfl rfl) ?_
        refine al_val (ov_move rfl rfl) ?_
        refine al_val (ov_int rfl rfl rfl rfl) ?_
        refine al_nil ?_
        refine aq_then ?_
        refine aw_cond rfl (fun hb9 => ?_) (fun hb9 => ?_)
        · replace h := bif_t hb9 h
          refine aw_seq ?_
          refine aw_region ?_
          refine al_val (ov_assign rfl rfl) ?_
          refine al_val (ov_assign rfl rfl) ?_
          refine al_nil ?_
          refine aq_then ?_
          refine aw_ret ?_
          refine aq_then_ret ?_
          refine aq_block_ret ?_
          refine aq_then_ret ?_
          refine aq_block_ret ?_
          refine aq_then_ret ?_
          refine aq_nilR 124 tyS_api_Token ?_
          obtain rfl := Option.some.inj h
          exact fn_ret (Value.slice none 0 0) [0] [] rfl rfl rfl rfl (res2 rfl rfl rfl) rfl rfl rfl (by decide)
        · replace h := bif_f hb9 h
          refine aw_skip ?_
          refine aq_then ?_
          refine aw_seq ?_
          refine aw_region ?_
          refine al_val (ov_move rfl rfl) ?_
          obtain ⟨hc10, h⟩ := req_some h
          refine al_val (ov_strIdx hc10.1 hc10.2 Try.underlying9 rfl rfl rfl) ?_
          refine al_val (ov_build (cells := ([(Value.int .u8 (En.bAt l3s0 (1 : Int))), (Value.int .i64 (0 : Int)), (Value.int .i64 (0 : Int))]).toArray) (cs := [(Value.int .u8 (En.bAt l3s0 (1 : Int))), (Value.int .i64 (0 : Int)), (Value.int .i64 (0 : Int))]) rfl (fun w a hm hs => by simp only [List.map_toArray, List.map_cons, List.map_nil, List.toList_toArray, hs.ev (x := .tmp 17) rfl]; kernel_rfl)) ?_
          refine al_alloc (zs := [(Value.int .u8 (0 : Int)), (Value.int .i64 (0 : Int)), (Value.int .i64 (0 : Int))]) (zeroOf_to to124) rfl rfl (fun g11 => ?_)
          refine al_store (i := 0) (vs := [(Value.int .u8 (En.bAt l3s0 (1 : Int))), (Value.int .i64 (0 : Int)), (Value.int .i64 (0 : Int))]) (cs' := [(Value.int .u8 (En.bAt l3s0 (1 : Int))), (Value.int .i64 (0 : Int)), (Value.int .i64 (0 : Int))]) rfl rfl rfl sz124 (cv_rfl rfl) rfl (co_val rfl (co_val rfl (co_val rfl co_nil))) (Nat.le_of_ble_eq_true rfl) rfl rfl ?_
          refine al_nil ?_
          refine aq_then ?_
          obtain ⟨kk13, hkk13, h⟩ := lt_some h
          refine aw_seq_join (ι := Int × Int × Int) (fun i => (memOf w0 Z0 [] [(oRow l3v4 124 tyS_api_Token l3x4), (oBox g11 124 [(Value.int .u8 i.1), (Value.int .i64 i.2.1), (Value.int .i64 i.2.2)])] [])) (fun i => (tab [(0, (str l3s0)), (4, l3v4), (5, (Value.int .i64 j7i5)), (6, (ptr g11 0))])) (fun i => kk13 i.1 i.2.1 i.2.2 = some r) ?_ ?_
          · rintro ⟨j12i6_0, j12i6_1, j12i6_2⟩ h
            have h : kk13 j12i6_0 j12i6_1 j12i6_2 = some r := h
            rw [hkk13] at h
            dsimp only at h
            clear hkk13
            refine aw_show (m := (memOf w0 Z0 [] [(oRow l3v4 124 tyS_api_Token l3x4), (oBox g11 124 [(Value.int .u8 j12i6_0), (Value.int .i64 j12i6_1), (Value.int .i64 j12i6_2)])] [])) (S := (tab [(0, (str l3s0)), (4, l3v4), (5, (Value.int .i64 j7i5)), (6, (ptr g11 0))])) ?_
            refine aw_seq ?_
            refine aw_seq ?_
            refine aw_region ?_
            refine al_val (ov_load (i := 1) (v := (ag [(Value.int .u8 j12i6_0), (Value.int .i64 j12i6_1), (Value.int .i64 j12i6_2)])) rfl rfl Try.underlying124 sz124 rfl rfl rfl rfl) ?_
            obtain ⟨r15, hc14, h⟩ := opt_some h
            refine al_call (vs := [(ag [(Value.int .u8 j12i6_0), (Value.int .i64 j12i6_1), (Value.int .i64 j12i6_2)])]) (f_lz_formed_ok fu (S_api_Token.mk j12i6_0 j12i6_1 j12i6_2) hc14) [] [] [0, 1] pre_nil rfl (by simp) (by decide) (.inl rfl) rfl Try.func157 rfl rfl rfl (fun _ => ?_)
            refine al_val (ov_not rfl rfl) ?_
            refine al_nil ?_
            refine aq_then ?_
            refine aw_cond rfl (fun hb16 => ?_) (fun hb16 => ?_)
            · replace h := bif_t hb16 h
              refine aw_seq ?_
              refine aw_region ?_
              refine al_val (ov_assign rfl rfl) ?_
              refine al_val (ov_assign rfl rfl) ?_
              refine al_nil ?_
              refine aq_then ?_
              refine aw_ret ?_
              refine aq_then_ret ?_
              refine aq_block_ret ?_
              refine aq_then_ret ?_
              refine aq_block_ret ?_
              refine aq_then_ret ?_
              refine aq_nilR 124 tyS_api_Token ?_
              obtain rfl := Option.some.inj h
              exact fn_ret (Value.slice none 0 0) [0] [] rfl rfl rfl rfl (res2 rfl rfl rfl) rfl rfl rfl (by decide)
            · replace h := bif_f hb16 h
              refine aw_skip ?_
              refine aq_then ?_
              refine aw_seq ?_
              refine aw_seq ?_
              refine aw_region ?_
              refine al_val (ov_move rfl rfl) ?_
              refine al_val (ov_lenR 0 rfl rfl Try.underlying114 rfl) ?_
              refine al_val (ov_int rfl rfl rfl rfl) ?_
              refine al_nil ?_
              refine aq_then ?_
              refine aw_cond rfl (fun hb17 => ?_) (fun hb17 => ?_)
              · replace h := bif_t hb17 h
                refine aw_seq ?_
                refine aw_region ?_
                refine al_val (ov_assign rfl rfl) ?_
                refine al_val (ov_assign rfl rfl) ?_
                refine al_nil ?_
                refine aq_then ?_
                refine aw_ret ?_
                refine aq_then_ret ?_
                refine aq_block_ret ?_
                refine aq_then_ret ?_
                refine aq_block_ret ?_
                refine aq_then_ret ?_
                refine aq_nilR 124 tyS_api_Token ?_
                obtain rfl := Option.some.inj h
                exact fn_ret (Value.slice none 0 0) [0] [] rfl rfl rfl rfl (res2 rfl rfl rfl) rfl rfl rfl (by decide)
              · replace h := bif_f hb17 h
                refine aw_skip ?_
                refine aq_then ?_
                refine aw_seq ?_
                refine aw_region ?_
                refine al_val (ov_move rfl rfl) ?_
                refine al_val (ov_load (i := 1) (v := (ag [(Value.int .u8 j12i6_0), (Value.int .i64 j12i6_1), (Value.int .i64 j12i6_2)])) rfl rfl Try.underlying124 sz124 rfl rfl rfl rfl) ?_
                refine al_buildSlice (τ := tyS_api_Token) (e := 124) (k := 1) (sz := 0) (by_ := 0) (z := undef) (cs := [(Value.int .u8 j12i6_0), (Value.int .i64 j12i6_1), (Value.int .i64 j12i6_2)]) (xs := [(S_api_Token.mk j12i6_0 j12i6_1 j12i6_2)]) rfl (by decide) (fun w a hm hs => ⟨([(Value.int .u8 j12i6_0), (Value.int .i64 j12i6_1), (Value.int .i64 j12i6_2)]).toArray, rfl, by simp only [List.map_toArray, List.map_cons, List.map_nil, hs.ev (x := .tmp 40) rfl]; exact run_bs [(ag [(Value.int .u8 j12i6_0), (Value.int .i64 j12i6_1), (Value.int .i64 j12i6_2)])] [(Value.int .u8 j12i6_0), (Value.int .i64 j12i6_1), (Value.int .i64 j12i6_2)] Try.underlying114 to124 rfl rfl (bs_cons (l := [(Value.int .u8 j12i6_0), (Value.int .i64 j12i6_1), (Value.int .i64 j12i6_2)]) (cs := []) (cv_rfl rfl) rfl bs_nil) hm⟩) (fun hm => ⟨_, _, rfl, (fun _ => mkS_api_Token rfl) hm, rfl⟩) rfl (fun v18 => ?_)
                obtain ⟨hc19, h⟩ := req_some h
                refine al_append 1 hc19.1 hc19.2 rfl (src_own (i := 1) 0 rfl) rfl rfl Try.underlying114 to124 rfl rfl rfl (fun v20 => ?_)
                refine al_val (ov_assign rfl rfl) ?_
                refine al_nil ?_
                refine aq_then ?_
                refine aw_region ?_
                refine al_val (ov_move rfl rfl) ?_
                refine al_val (ov_move rfl rfl) ?_
                obtain ⟨hc21, h⟩ := req_some h
                refine al_val (ov_strFrom hc21.1 hc21.2 Try.underlying9 rfl rfl rfl) ?_
                refine al_val (ov_assign rfl rfl) ?_
                refine al_nil ?_
                refine aq_block ?_
                exact aq_again k4 ((l3s0.drop (j7i5).toNat), v20, (l3x4 ++ ([(S_api_Token.mk j12i6_0 j12i6_1 j12i6_2)]))) (Nat.lt_succ_self _) h (fun w a hm hs => norm hm hs [1] [] [(0, (str (l3s0.drop (j7i5).toNat))), (4, v20)] (by decide) ⟨rfl, rfl, trivial⟩)
          · clear hkk13
            refine aw_seq ?_
            refine aw_region ?_
            refine al_val (ov_move rfl rfl) ?_
            refine al_val (ov_int rfl rfl rfl rfl) ?_
            refine al_nil ?_
            refine aq_then ?_
            refine aw_cond rfl (fun hb22 => ?_) (fun hb22 => ?_)
            · replace h := bif_t hb22 h
              obtain ⟨hc23, h⟩ := req_some h
              obtain ⟨hc24, h⟩ := req_some h
              obtain ⟨hc25, h⟩ := req_some h
              refine aw_region_draw 11 [(21, (fun u => fEq u (str l3s0))), (22, (fun u => fEq u (Value.int .u8 (En.bAt l3s0 (0 : Int))))), (23, (fun u => fEq u (Value.int .i64 (IntKind.i64.wrap (En.bAt l3s0 (0 : Int)))))), (24, (fun u => fEq u (str l3s0))), (25, (fun u => fEq u (Value.int .u8 (En.bAt l3s0 (1 : Int))))), (26, (fun u => fEq u (Value.int .i64 (IntKind.i64.wrap (En.bAt l3s0 (1 : Int)))))), (27, (fun u => fEq u (str l3s0))), (28, (fun u => fEq u (Value.int .u8 (En.bAt l3s0 (2 : Int))))), (29, (fun u => fEq u (Value.int .i64 (IntKind.i64.wrap (En.bAt l3s0 (2 : Int)))))), (30, (fun u => fEq u (Value.int .i64 (IntKind.i64.wrap ((IntKind.i64.wrap (En.bAt l3s0 (2 : Int))) * 2 ^ min ((8 : Int)).toNat (IntKind.bits .i64)))))), (31, (fun u => fEq u (Value.int .i64 (bits .or .i64 (IntKind.i64.wrap (En.bAt l3s0 (1 : Int))) (IntKind.i64.wrap ((IntKind.i64.wrap (En.bAt l3s0 (2 : Int))) * 2 ^ min ((8 : Int)).toNat (IntKind.bits .i64)))))))] (tab [(0, (str l3s0)), (4, l3v4), (5, (Value.int .i64 j7i5)), (6, (ptr g11 0))]) mixed (by kernel_rfl) rfl rfl rfl (fun a hs => hs.tab _ (allT_mem ⟨rfl, rfl, rfl, rfl, trivial⟩)) ⟨⟨rfl, ld_val (ov_move rfl rfl)⟩, ⟨rfl, ld_eq (j := 0) rfl rfl (ld_val (ov_strIdx hc23.1 hc23.2 Try.underlying9 rfl rfl rfl))⟩, ⟨rfl, ld_eq (j := 1) rfl rfl (ld_val (ov_convInt (by rw [Try.underlying5]; rfl) Try.underlying3 rfl rfl))⟩, ⟨rfl, ld_val (ov_move rfl rfl)⟩, ⟨rfl, ld_eq (j := 3) rfl rfl (ld_val (ov_strIdx hc24.1 hc24.2 Try.underlying9 rfl rfl rfl))⟩, ⟨rfl, ld_eq (j := 4) rfl rfl (ld_val (ov_convInt (by rw [Try.underlying5]; rfl) Try.underlying3 rfl rfl))⟩, ⟨rfl, ld_val (ov_move rfl rfl)⟩, ⟨rfl, ld_eq (j := 6) rfl rfl (ld_val (ov_strIdx hc25.1 hc25.2 Try.underlying9 rfl rfl rfl))⟩, ⟨rfl, ld_eq (j := 7) rfl rfl (ld_val (ov_convInt (by rw [Try.underlying5]; rfl) Try.underlying3 rfl rfl))⟩, ⟨rfl, ld_eq (j := 8) rfl rfl (ld_val (ov_shl (by decide) rfl rfl rfl))⟩, ⟨rfl, ld_eq (j := 5) rfl rfl (ld_eq (j := 9) rfl rfl (ld_val (ov_int rfl rfl rfl rfl)))⟩, trivial⟩ ?_
              refine tl_eq 2 rfl ?_
              refine tl_eq 10 rfl ?_
              refine tl_done ?_
              refine al_val (ov_build (cells := ([(Value.int .u8 (0 : Int)), (Value.int .i64 (IntKind.i64.wrap (En.bAt l3s0 (0 : Int)))), (Value.int .i64 (bits .or .i64 (IntKind.i64.wrap (En.bAt l3s0 (1 : Int))) (IntKind.i64.wrap ((IntKind.i64.wrap (En.bAt l3s0 (2 : Int))) * 2 ^ min ((8 : Int)).toNat (IntKind.bits .i64)))))]).toArray) (cs := [(Value.int .u8 (0 : Int)), (Value.int .i64 (IntKind.i64.wrap (En.bAt l3s0 (0 : Int)))), (Value.int .i64 (bits .or .i64 (IntKind.i64.wrap (En.bAt l3s0 (1 : Int))) (IntKind.i64.wrap ((IntKind.i64.wrap (En.bAt l3s0 (2 : Int))) * 2 ^ min ((8 : Int)).toNat (IntKind.bits .i64)))))]) rfl (fun w a hm hs => by simp only [List.map_toArray, List.map_cons, List.map_nil, List.toList_toArray, hs.ev (x := .tmp 23) rfl, hs.ev (x := .tmp 31) rfl]; kernel_rfl)) ?_
              refine al_store (i := 0) (vs := [(Value.int .u8 (0 : Int)), (Value.int .i64 (IntKind.i64.wrap (En.bAt l3s0 (0 : Int)))), (Value.int .i64 (bits .or .i64 (IntKind.i64.wrap (En.bAt l3s0 (1 : Int))) (IntKind.i64.wrap ((IntKind.i64.wrap (En.bAt l3s0 (2 : Int))) * 2 ^ min ((8 : Int)).toNat (IntKind.bits .i64)))))]) (cs' := [(Value.int .u8 (0 : Int)), (Value.int .i64 (IntKind.i64.wrap (En.bAt l3s0 (0 : Int)))), (Value.int .i64 (bits .or .i64 (IntKind.i64.wrap (En.bAt l3s0 (1 : Int))) (IntKind.i64.wrap ((IntKind.i64.wrap (En.bAt l3s0 (2 : Int))) * 2 ^ min ((8 : Int)).toNat (IntKind.bits .i64)))))]) rfl rfl rfl sz124 (cv_rfl rfl) rfl (co_val rfl (co_val rfl (co_val rfl co_nil))) (Nat.le_of_ble_eq_true rfl) rfl rfl ?_
              refine al_nil ?_
              exact aq_join ((0 : Int), (IntKind.i64.wrap (En.bAt l3s0 (0 : Int))), (bits .or .i64 (IntKind.i64.wrap (En.bAt l3s0 (1 : Int))) (IntKind.i64.wrap ((IntKind.i64.wrap (En.bAt l3s0 (2 : Int))) * 2 ^ min ((8 : Int)).toNat (IntKind.bits .i64))))) h (fun w a hm hs => norm hm hs [1, 0] [] [(0, (str l3s0)), (4, l3v4), (5, (Value.int .i64 j7i5)), (6, (ptr g11 0))] (by decide) ⟨rfl, rfl, rfl, rfl, trivial⟩)
            · replace h := bif_f hb22 h
              refine aw_skip ?_
              exact aq_join ((En.bAt l3s0 (1 : Int)), (0 : Int), (0 : Int)) h (fun w a hm hs => norm hm hs [1, 0] [] [(0, (str l3s0)), (4, l3v4), (5, (Value.int .i64 j7i5)), (6, (ptr g11 0))] (by decide) ⟨rfl, rfl, rfl, rfl, trivial⟩)
      · clear hkk8
        refine aw_seq ?_
        refine aw_region ?_
        refine al_val (ov_move rfl rfl) ?_
        obtain ⟨hc26, h⟩ := req_some h
        refine al_val (ov_strIdx hc26.1 hc26.2 Try.underlying9 rfl rfl rfl) ?_
        refine al_val (ov_int rfl rfl rfl rfl) ?_
        refine al_nil ?_
        refine aq_then ?_
        refine aw_cond rfl (fun hb27 => ?_) (fun hb27 => ?_)
        · replace h := bif_t hb27 h
          refine aw_region ?_
          refine al_val (ov_assign rfl rfl) ?_
          refine al_nil ?_
          exact aq_join (2 : Int) h (fun w a hm hs => norm hm hs [0] [] [(0, (str l3s0)), (4, l3v4), (5, (Value.int .i64 (2 : Int)))] (by decide) ⟨rfl, rfl, rfl, trivial⟩)
        · replace h := bif_f hb27 h
          refine aw_skip ?_
          exact aq_join (3 : Int) h (fun w a hm hs => norm hm hs [0] [] [(0, (str l3s0)), (4, l3v4), (5, (Value.int .i64 (3 : Int)))] (by decide) ⟨rfl, rfl, rfl, trivial⟩)
    · replace h := bif_f hb6 h
      refine aw_exit ?_
      refine aq_then_exit ?_
      refine aq_then_exit ?_
      refine aq_block_exit ?_
      exact aq_join (l3v4, l3x4) h (fun w a hm hs => norm hm hs [0] [] [(4, l3v4)] (by decide) ⟨rfl, trivial⟩)
def f_lumref_ReadTokens_L5 (a0 : (List UInt8)) (kk2 : ((List S_api_Token) → Option ((List S_api_Token) × Int))) : Nat → (List S_api_Token) → Int → Option ((List S_api_Token) × Int)
  | 0, _, _ => none
  | k4 + 1, l3x4, l3i5 => (bif (decide (l3i5 < (a0.length : Int))) then (lt (fun (j8i5 : Int) (j8i6_0 : Int) (j8i6_1 : Int) (j8i6_2 : Int) => (bif ((l3x4.length : Int) == (4096 : Int)) then (some (([] : List S_api_Token), (2 : Int))) else (req (((l3x4.length + ([(S_api_Token.mk j8i6_0 j8i6_1 j8i6_2)]).length) * 24 : Nat) ≤ 140737488355328 ∧ l3x4.length + ([(S_api_Token.mk j8i6_0 j8i6_1 j8i6_2)]).length ≤ 9223372036854775807) (f_lumref_ReadTokens_L5 a0 kk2 k4 (l3x4 ++ ([(S_api_Token.mk j8i6_0 j8i6_1 j8i6_2)])) j8i5)))) fun (kk9 : Int → Int → Int → Int → Option ((List S_api_Token) × Int)) => (req (0 ≤ l3i5 ∧ l3i5 < (a0.length : Int)) (bif ((En.bAt a0 l3i5) == (0 : Int)) then (bif (decide ((IntKind.i64.wrap (l3i5 + (2 : Int))) > (a0.length : Int))) then (some (([] : List S_api_Token), (3 : Int))) else (req (0 ≤ (IntKind.i64.wrap (l3i5 + (1 : Int))) ∧ (IntKind.i64.wrap (l3i5 + (1 : Int))) < (a0.length : Int)) (kk9 (IntKind.i64.wrap (l3i5 + (2 : Int))) (En.bAt a0 (IntKind.i64.wrap (l3i5 + (1 : Int)))) (0 : Int) (0 : Int)))) else (bif (decide ((IntKind.i64.wrap (l3i5 + (3 : Int))) > (a0.length : Int))) then (some (([] : List S_api_Token), (3 : Int))) else (req (0 ≤ l3i5 ∧ l3i5 < (a0.length : Int)) (req (0 ≤ (IntKind.i64.wrap (l3i5 + (1 : Int))) ∧ (IntKind.i64.wrap (l3i5 + (1 : Int))) < (a0.length : Int)) (req (0 ≤ (IntKind.i64.wrap (l3i5 + (2 : Int))) ∧ (IntKind.i64.wrap (l3i5 + (2 : Int))) < (a0.length : Int)) (lt (fun (j22b59 : Bool) => (bif j22b59 then (some (([] : List S_api_Token), (4 : Int))) else (kk9 (IntKind.i64.wrap (l3i5 + (3 : Int))) (0 : Int) (IntKind.i64.wrap (En.bAt a0 l3i5)) (IntKind.i64.wrap ((IntKind.i64.wrap (En.bAt a0 (IntKind.i64.wrap (l3i5 + (1 : Int))))) + (IntKind.i64.wrap ((256 : Int) * (IntKind.i64.wrap (En.bAt a0 (IntKind.i64.wrap (l3i5 + (2 : Int)))))))))))) fun (kk23 : Bool → Option ((List S_api_Token) × Int)) => (bif ((IntKind.i64.wrap ((IntKind.i64.wrap (En.bAt a0 (IntKind.i64.wrap (l3i5 + (1 : Int))))) + (IntKind.i64.wrap ((256 : Int) * (IntKind.i64.wrap (En.bAt a0 (IntKind.i64.wrap (l3i5 + (2 : Int))))))))) == (0 : Int)) then (kk23 true) else (kk23 (decide ((IntKind.i64.wrap ((IntKind.i64.wrap (En.bAt a0 (IntKind.i64.wrap (l3i5 + (1 : Int))))) + (IntKind.i64.wrap ((256 : Int) * (IntKind.i64.wrap (En.bAt a0 (IntKind.i64.wrap (l3i5 + (2 : Int))))))))) > (1024 : Int))))))))))))) else (kk2 l3x4))
def f_lumref_ReadTokens (fu : Nat) (a0 : (List UInt8)) : Option ((List S_api_Token) × Int) := (lt (fun (j1x4 : (List S_api_Token)) => (some (j1x4, (0 : Int)))) fun (kk2 : (List S_api_Token) → Option ((List S_api_Token) × Int)) => (f_lumref_ReadTokens_L5 a0 kk2 fu ([] : List S_api_Token) (0 : Int)))
set_option maxRecDepth 100000 in
theorem f_lumref_ReadTokens_ok (fu : Nat) (a0 : (List UInt8)) {r : ((List S_api_Token) × Int)} (h : f_lumref_ReadTokens fu a0 = some r) : FnOk Try.prog 82 [(str a0)] [] [] (fun (i : Value) => { val := (Value.tuple #[i, (Value.int .i64 r.2)]), own := [(oRow i 124 tyS_api_Token r.1)] }) := by
  unfold f_lumref_ReadTokens at h
  refine fn_enter Try.func82 rfl Try.ntmps82 rfl (fun w0 Z0 => ?_)
  refine aw_seq ?_
  refine aw_region ?_
  refine al_val (ov_assign rfl rfl) ?_
  refine al_val (ov_assign rfl rfl) ?_
  refine al_nil ?_
  refine aq_then ?_
  refine aw_seq ?_
  refine aw_region ?_
  refine al_val (ov_assign rfl rfl) ?_
  refine al_nil ?_
  refine aq_then ?_
  refine aw_seq ?_
  refine aw_region ?_
  refine al_val (ov_assign rfl rfl) ?_
  refine al_nil ?_
  refine aq_then ?_
  obtain ⟨kk2, hkk2, h⟩ := lt_some h
  refine aw_seq_join (ι := Value × (List S_api_Token)) (fun i => (memOf w0 Z0 [] [(oRow i.1 124 tyS_api_Token i.2)] [])) (fun i => (tab [(4, i.1)])) (fun i => kk2 i.2 = some r) ?_ ?_
  · rintro ⟨j1v4, j1x4⟩ h
    have h : kk2 j1x4 = some r := h
    rw [hkk2] at h
    dsimp only at h
    clear hkk2
    refine aw_show (m := (memOf w0 Z0 [] [(oRow j1v4 124 tyS_api_Token j1x4)] [])) (S := (tab [(4, j1v4)])) ?_
    refine aw_seq ?_
    refine aw_region ?_
    refine al_val (ov_move rfl rfl) ?_
    refine al_val (ov_assign rfl rfl) ?_
    refine al_val (ov_assign rfl rfl) ?_
    refine al_nil ?_
    refine aq_then ?_
    refine aw_ret ?_
    obtain rfl := Option.some.inj h
    exact fn_ret j1v4 [0] [] rfl rfl rfl rfl (res2 rfl rfl rfl) rfl rfl rfl (by decide)
  · clear hkk2
    refine aw_block ?_
    refine aw_nilR 124 tyS_api_Token ?_
    refine aw_state (aw_loop (ι := Value × (List S_api_Token) × Int) (fun i => (memOf w0 Z0 [] [(oRow i.1 124 tyS_api_Token i.2.1)] [])) (fun i => (tab [(0, (str a0)), (4, i.1), (5, (Value.int .i64 i.2.2))])) (fun q i => f_lumref_ReadTokens_L5 a0 kk2 q i.2.1 i.2.2 = some r) ?_ fu ((Value.slice none 0 0), ([] : List S_api_Token), (0 : Int)) h) (fun w a hm hs => norm hm hs [0] [] [(0, (str a0)), (4, (Value.slice none 0 0)), (5, (Value.int .i64 (0 : Int)))] (by decide) ⟨rfl, rfl, rfl, trivial⟩)
    clear h
    rintro k4 ⟨l3v4, l3x4, l3i5⟩ h
    have h : f_lumref_ReadTokens_L5 a0 kk2 k4 l3x4 l3i5 = some r := h
    obtain _ | k4 := k4
    · rw [f_lumref_ReadTokens_L5] at h; cases h
    rw [f_lumref_ReadTokens_L5] at h
    refine aw_show (m := (memOf w0 Z0 [] [(oRow l3v4 124 tyS_api_Token l3x4)] [])) (S := (tab [(0, (str a0)), (4, l3v4), (5, (Value.int .i64 l3i5))])) ?_
    refine aw_seq ?_
    refine aw_seq ?_
    refine aw_region ?_
    refine al_val (ov_move rfl rfl) ?_
    refine al_val (ov_move rfl rfl) ?_
    refine al_val (ov_strLen Try.underlying9 rfl rfl) ?_
    refine al_val (ov_int rfl rfl rfl rfl) ?_
    refine al_nil ?_
    refine aq_then ?_
    refine aw_cond rfl (fun hb6 => ?_) (fun hb6 => ?_)
    · replace h := bif_t hb6 h
      refine aw_skip ?_
      refine aq_then ?_
      refine aw_block ?_
      refine aw_seq ?_
      refine aw_region ?_
      refine al_alloc (zs := [(Value.int .u8 (0 : Int)), (Value.int .i64 (0 : Int)), (Value.int .i64 (0 : Int))]) (zeroOf_to to124) rfl rfl (fun g7 => ?_)
      refine al_nil ?_
      refine aq_then ?_
      obtain ⟨kk9, hkk9, h⟩ := lt_some h
      refine aw_seq_join (ι := Int × Int × Int × Int) (fun i => (memOf w0 Z0 [] [(oRow l3v4 124 tyS_api_Token l3x4), (oBox g7 124 [(Value.int .u8 i.2.1), (Value.int .i64 i.2.2.1), (Value.int .i64 i.2.2.2)])] [])) (fun i => (tab [(0, (str a0)), (4, l3v4), (5, (Value.int .i64 i.1)), (6, (ptr g7 0))])) (fun i => kk9 i.1 i.2.1 i.2.2.1 i.2.2.2 = some r) ?_ ?_
      · rintro ⟨j8i5, j8i6_0, j8i6_1, j8i6_2⟩ h
        have h : kk9 j8i5 j8i6_0 j8i6_1 j8i6_2 = some r := h
        rw [hkk9] at h
        dsimp only at h
        clear hkk9
        refine aw_show (m := (memOf w0 Z0 [] [(oRow l3v4 124 tyS_api_Token l3x4), (oBox g7 124 [(Value.int .u8 j8i6_0), (Value.int .i64 j8i6_1), (Value.int .i64 j8i6_2)])] [])) (S := (tab [(0, (str a0)), (4, l3v4), (5, (Value.int .i64 j8i5)), (6, (ptr g7 0))])) ?_
        refine aw_seq ?_
        refine aw_seq ?_
        refine aw_region ?_
        refine al_val (ov_move rfl rfl) ?_
        refine al_val (ov_lenR 0 rfl rfl Try.underlying114 rfl) ?_
        refine al_val (ov_int rfl rfl rfl rfl) ?_
        refine al_nil ?_
        refine aq_then ?_
        refine aw_cond rfl (fun hb10 => ?_) (fun hb10 => ?_)
        · replace h := bif_t hb10 h
          refine aw_seq ?_
          refine aw_region ?_
          refine al_val (ov_assign rfl rfl) ?_
          refine al_val (ov_assign rfl rfl) ?_
          refine al_nil ?_
          refine aq_then ?_
          refine aw_ret ?_
          refine aq_then_ret ?_
          refine aq_block_ret ?_
          refine aq_then_ret ?_
          refine aq_block_ret ?_
          refine aq_then_ret ?_
          refine aq_nilR 124 tyS_api_Token ?_
          obtain rfl := Option.some.inj h
          exact fn_ret (Value.slice none 0 0) [0] [] rfl rfl rfl rfl (res2 rfl rfl rfl) rfl rfl rfl (by decide)
        · replace h := bif_f hb10 h
          refine aw_skip ?_
          refine aq_then ?_
          refine aw_region ?_
          refine al_val (ov_move rfl rfl) ?_
          refine al_val (ov_load (i := 1) (v := (ag [(Value.int .u8 j8i6_0), (Value.int .i64 j8i6_1), (Value.int .i64 j8i6_2)])) rfl rfl Try.underlying124 sz124 rfl rfl rfl rfl) ?_
          refine al_buildSlice (τ := tyS_api_Token) (e := 124) (k := 1) (sz := 0) (by_ := 0) (z := undef) (cs := [(Value.int .u8 j8i6_0), (Value.int .i64 j8i6_1), (Value.int .i64 j8i6_2)]) (xs := [(S_api_Token.mk j8i6_0 j8i6_1 j8i6_2)]) rfl (by decide) (fun w a hm hs => ⟨([(Value.int .u8 j8i6_0), (Value.int .i64 j8i6_1), (Value.int .i64 j8i6_2)]).toArray, rfl, by simp only [List.map_toArray, List.map_cons, List.map_nil, hs.ev (x := .tmp 64) rfl]; exact run_bs [(ag [(Value.int .u8 j8i6_0), (Value.int .i64 j8i6_1), (Value.int .i64 j8i6_2)])] [(Value.int .u8 j8i6_0), (Value.int .i64 j8i6_1), (Value.int .i64 j8i6_2)] Try.underlying114 to124 rfl rfl (bs_cons (l := [(Value.int .u8 j8i6_0), (Value.int .i64 j8i6_1), (Value.int .i64 j8i6_2)]) (cs := []) (cv_rfl rfl) rfl bs_nil) hm⟩) (fun hm => ⟨_, _, rfl, (fun _ => mkS_api_Token rfl) hm, rfl⟩) rfl (fun v11 => ?_)
          obtain ⟨hc12, h⟩ := req_some h
          refine al_append 1 hc12.1 hc12.2 rfl (src_own (i := 1) 0 rfl) rfl rfl Try.underlying114 to124 rfl rfl rfl (fun v13 => ?_)
          refine al_val (ov_assign rfl rfl) ?_
          refine al_nil ?_
          refine aq_block ?_
          exact aq_again k4 (v13, (l3x4 ++ ([(S_api_Token.mk j8i6_0 j8i6_1 j8i6_2)])), j8i5) (Nat.lt_succ_self _) h (fun w a hm hs => norm hm hs [1] [] [(0, (str a0)), (4, v13), (5, (Value.int .i64 j8i5))] (by decide) ⟨rfl, rfl, rfl, trivial⟩)
      · clear hkk9
        refine aw_seq ?_
        refine aw_region ?_
        refine al_val (ov_move rfl rfl) ?_
        refine al_val (ov_move rfl rfl) ?_
        obtain ⟨hc14, h⟩ := req_some h
        refine al_val (ov_strIdx hc14.1 hc14.2 Try.underlying9 rfl rfl rfl) ?_
        refine al_val (ov_int rfl rfl rfl rfl) ?_
        refine al_nil ?_
        refine aq_then ?_
        refine aw_cond rfl (fun hb15 => ?_) (fun hb15 => ?_)
        · replace h := bif_t hb15 h
          refine aw_seq ?_
          refine aw_seq ?_
          refine aw_region ?_
          refine al_val (ov_move rfl rfl) ?_
          refine al_val (ov_int rfl rfl rfl rfl) ?_
          refine al_val (ov_move rfl rfl) ?_
          refine al_val (ov_strLen Try.underlying9 rfl rfl) ?_
          refine al_val (ov_int rfl rfl rfl rfl) ?_
          refine al_nil ?_
          refine aq_then ?_
          refine aw_cond rfl (fun hb16 => ?_) (fun hb16 => ?_)
          · replace h := bif_t hb16 h
            refine aw_seq ?_
            refine aw_region ?_
            refine al_val (ov_assign rfl rfl) ?_
            refine al_val (ov_assign rfl rfl) ?_
            refine al_nil ?_
            refine aq_then ?_
            refine aw_ret ?_
            refine aq_then_ret ?_
            refine aq_then_ret ?_
            refine aq_block_ret ?_
            refine aq_then_ret ?_
            refine aq_block_ret ?_
            refine aq_then_ret ?_
            refine aq_nilR 124 tyS_api_Token ?_
            obtain rfl := Option.some.inj h
            exact fn_ret (Value.slice none 0 0) [0] [] rfl rfl rfl rfl (res2 rfl rfl rfl) rfl rfl rfl (by decide)
          · replace h := bif_f hb16 h
            refine aw_skip ?_
            refine aq_then ?_
            refine aw_seq ?_
            refine aw_region ?_
            refine al_val (ov_move rfl rfl) ?_
            refine al_val (ov_move rfl rfl) ?_
            refine al_val (ov_int rfl rfl rfl rfl) ?_
            obtain ⟨hc17, h⟩ := req_some h
            refine al_val (ov_strIdx hc17.1 hc17.2 Try.underlying9 rfl rfl rfl) ?_
            refine al_val (ov_fieldA (p := 0) rfl Try.underlying124 rfl sz5 rfl rfl rfl) ?_
            refine al_store (i := 0) (vs := [(Value.int .u8 (En.bAt a0 (IntKind.i64.wrap (l3i5 + (1 : Int)))))]) (cs' := [(Value.int .u8 (En.bAt a0 (IntKind.i64.wrap (l3i5 + (1 : Int))))), (Value.int .i64 (0 : Int)), (Value.int .i64 (0 : Int))]) rfl rfl rfl sz5 (cv_rfl rfl) rfl (co_val rfl co_nil) (Nat.le_of_ble_eq_true rfl) rfl rfl ?_
            refine al_nil ?_
            refine aq_then ?_
            refine aw_region ?_
            refine al_val (ov_move rfl rfl) ?_
            refine al_val (ov_int rfl rfl rfl rfl) ?_
            refine al_val (ov_assign rfl rfl) ?_
            refine al_nil ?_
            exact aq_join ((IntKind.i64.wrap (l3i5 + (2 : Int))), (En.bAt a0 (IntKind.i64.wrap (l3i5 + (1 : Int)))), (0 : Int), (0 : Int)) h (fun w a hm hs => norm hm hs [1, 0] [] [(0, (str a0)), (4, l3v4), (5, (Value.int .i64 (IntKind.i64.wrap (l3i5 + (2 : Int))))), (6, (ptr g7 0))] (by decide) ⟨rfl, rfl, rfl, rfl, trivial⟩)
        · replace h := bif_f hb15 h
          refine aw_seq ?_
          refine aw_seq ?_
          refine aw_region ?_
          refine al_val (ov_move rfl rfl) ?_
          refine al_val (ov_int rfl rfl rfl rfl) ?_
          refine al_val (ov_move rfl rfl) ?_
          refine al_val (ov_strLen Try.underlying9 rfl rfl) ?_
          refine al_val (ov_int rfl rfl rfl rfl) ?_
          refine al_nil ?_
          refine aq_then ?_
          refine aw_cond rfl (fun hb18 => ?_) (fun hb18 => ?_)
          · replace h := bif_t hb18 h
            refine aw_seq ?_
            refine aw_region ?_
            refine al_val (ov_assign rfl rfl) ?_
            refine al_val (ov_assign rfl rfl) ?_
            refine al_nil ?_
            refine aq_then ?_
            refine aw_ret ?_
            refine aq_then_ret ?_
            refine aq_then_ret ?_
            refine aq_block_ret ?_
            refine aq_then_ret ?_
            refine aq_block_ret ?_
            refine aq_then_ret ?_
            refine aq_nilR 124 tyS_api_Token ?_
            obtain rfl := Option.some.inj h
            exact fn_ret (Value.slice none 0 0) [0] [] rfl rfl rfl rfl (res2 rfl rfl rfl) rfl rfl rfl (by decide)
          · replace h := bif_f hb18 h
            refine aw_skip ?_
            refine aq_then ?_
            refine aw_seq ?_
            refine aw_region ?_
            refine al_val (ov_move rfl rfl) ?_
            refine al_val (ov_move rfl rfl) ?_
            obtain ⟨hc19, h⟩ := req_some h
            refine al_val (ov_strIdx hc19.1 hc19.2 Try.underlying9 rfl rfl rfl) ?_
            refine al_val (ov_convInt (by rw [Try.underlying5]; rfl) Try.underlying3 rfl rfl) ?_
            refine al_val (ov_fieldA (p := 1) rfl Try.underlying124 rfl sz3 rfl rfl rfl) ?_
            refine al_store (i := 0) (vs := [(Value.int .i64 (IntKind.i64.wrap (En.bAt a0 l3i5)))]) (cs' := [(Value.int .u8 (0 : Int)), (Value.int .i64 (IntKind.i64.wrap (En.bAt a0 l3i5))), (Value.int .i64 (0 : Int))]) rfl rfl rfl sz3 (cv_rfl rfl) rfl (co_val rfl co_nil) (Nat.le_of_ble_eq_true rfl) rfl rfl ?_
            refine al_nil ?_
            refine aq_then ?_
            refine aw_seq ?_
            obtain ⟨hc20, h⟩ := req_some h
            obtain ⟨hc21, h⟩ := req_some h
            refine aw_region_draw 13 [(37, (fun u => fEq u (str a0))), (38, (fun u => fEq u (Value.int .i64 l3i5))), (39, (fun u => fEq u (Value.int .i64 (IntKind.i64.wrap (l3i5 + (1 : Int)))))), (40, (fun u => fEq u (Value.int .u8 (En.bAt a0 (IntKind.i64.wrap (l3i5 + (1 : Int))))))), (41, (fun u => fEq u (Value.int .i64 (IntKind.i64.wrap (En.bAt a0 (IntKind.i64.wrap (l3i5 + (1 : Int)))))))), (42, (fun u => fEq u (str a0))), (43, (fun u => fEq u (Value.int .i64 l3i5))), (44, (fun u => fEq u (Value.int .i64 (IntKind.i64.wrap (l3i5 + (2 : Int)))))), (45, (fun u => fEq u (Value.int .u8 (En.bAt a0 (IntKind.i64.wrap (l3i5 + (2 : Int))))))), (46, (fun u => fEq u (Value.int .i64 (IntKind.i64.wrap (En.bAt a0 (IntKind.i64.wrap (l3i5 + (2 : Int)))))))), (47, (fun u => fEq u (Value.int .i64 (IntKind.i64.wrap ((256 : Int) * (IntKind.i64.wrap (En.bAt a0 (IntKind.i64.wrap (l3i5 + (2 : Int)))))))))), (48, (fun u => fEq u (Value.int .i64 (IntKind.i64.wrap ((IntKind.i64.wrap (En.bAt a0 (IntKind.i64.wrap (l3i5 + (1 : Int))))) + (IntKind.i64.wrap ((256 : Int) * (IntKind.i64.wrap (En.bAt a0 (IntKind.i64.wrap (l3i5 + (2 : Int)))))))))))), (49, (fun u => fEq u (ptr g7 2)))] (tab [(0, (str a0)), (4, l3v4), (5, (Value.int .i64 l3i5)), (6, (ptr g7 0))]) mixed (by kernel_rfl) rfl rfl rfl (fun a hs => hs.tab _ (allT_mem ⟨rfl, rfl, rfl, rfl, trivial⟩)) ⟨⟨rfl, ld_val (ov_move rfl rfl)⟩, ⟨rfl, ld_val (ov_move rfl rfl)⟩, ⟨rfl, ld_eq (j := 1) rfl rfl (ld_val (ov_int rfl rfl rfl rfl))⟩, ⟨rfl, ld_eq (j := 0) rfl rfl (ld_eq (j := 2) rfl rfl (ld_val (ov_strIdx hc20.1 hc20.2 Try.underlying9 rfl rfl rfl)))⟩, ⟨rfl, ld_eq (j := 3) rfl rfl (ld_val (ov_convInt (by rw [Try.underlying5]; rfl) Try.underlying3 rfl rfl))⟩, ⟨rfl, ld_val (ov_move rfl rfl)⟩, ⟨rfl, ld_val (ov_move rfl rfl)⟩, ⟨rfl, ld_eq (j := 6) rfl rfl (ld_val (ov_int rfl rfl rfl rfl))⟩, ⟨rfl, ld_eq (j := 5) rfl rfl (ld_eq (j := 7) rfl rfl (ld_val (ov_strIdx hc21.1 hc21.2 Try.underlying9 rfl rfl rfl)))⟩, ⟨rfl, ld_eq (j := 8) rfl rfl (ld_val (ov_convInt (by rw [Try.underlying5]; rfl) Try.underlying3 rfl rfl))⟩, ⟨rfl, ld_eq (j := 9) rfl rfl (ld_val (ov_int rfl rfl rfl rfl))⟩, ⟨rfl, ld_eq (j := 4) rfl rfl (ld_eq (j := 10) rfl rfl (ld_val (ov_int rfl rfl rfl rfl)))⟩, ⟨rfl, ld_val (ov_fieldA (p := 2) rfl Try.underlying124 rfl sz3 rfl rfl rfl)⟩, trivial⟩ ?_
            refine tl_eq 11 rfl ?_
            refine tl_eq 12 rfl ?_
            refine tl_done ?_
            refine al_store (i := 0) (vs := [(Value.int .i64 (IntKind.i64.wrap ((IntKind.i64.wrap (En.bAt a0 (IntKind.i64.wrap (l3i5 + (1 : Int))))) + (IntKind.i64.wrap ((256 : Int) * (IntKind.i64.wrap (En.bAt a0 (IntKind.i64.wrap (l3i5 + (2 : Int))))))))))]) (cs' := [(Value.int .u8 (0 : Int)), (Value.int .i64 (IntKind.i64.wrap (En.bAt a0 l3i5))), (Value.int .i64 (IntKind.i64.wrap ((IntKind.i64.wrap (En.bAt a0 (IntKind.i64.wrap (l3i5 + (1 : Int))))) + (IntKind.i64.wrap ((256 : Int) * (IntKind.i64.wrap (En.bAt a0 (IntKind.i64.wrap (l3i5 + (2 : Int))))))))))]) rfl rfl rfl sz3 (cv_rfl rfl) rfl (co_val rfl co_nil) (Nat.le_of_ble_eq_true rfl) rfl rfl ?_
            refine al_nil ?_
            refine aq_then ?_
            refine aw_seq ?_
            refine aw_region ?_
            refine al_val (ov_move rfl rfl) ?_
            refine al_val (ov_int rfl rfl rfl rfl) ?_
            refine al_val (ov_assign rfl rfl) ?_
            refine al_nil ?_
            refine aq_then ?_
            obtain ⟨kk23, hkk23, h⟩ := lt_some h
            refine aw_seq_join (ι := Bool) (fun i => (memOf w0 Z0 [] [(oRow l3v4 124 tyS_api_Token l3x4), (oBox g7 124 [(Value.int .u8 (0 : Int)), (Value.int .i64 (IntKind.i64.wrap (En.bAt a0 l3i5))), (Value.int .i64 (IntKind.i64.wrap ((IntKind.i64.wrap (En.bAt a0 (IntKind.i64.wrap (l3i5 + (1 : Int))))) + (IntKind.i64.wrap ((256 : Int) * (IntKind.i64.wrap (En.bAt a0 (IntKind.i64.wrap (l3i5 + (2 : Int))))))))))])] [])) (fun i => (tab [(0, (str a0)), (4, l3v4), (5, (Value.int .i64 (IntKind.i64.wrap (l3i5 + (3 : Int))))), (6, (ptr g7 0)), (59, (Value.bool i))])) (fun i => kk23 i = some r) ?_ ?_
            · rintro j22b59 h
              have h : kk23 j22b59 = some r := h
              rw [hkk23] at h
              dsimp only at h
              clear hkk23
              refine aw_show (m := (memOf w0 Z0 [] [(oRow l3v4 124 tyS_api_Token l3x4), (oBox g7 124 [(Value.int .u8 (0 : Int)), (Value.int .i64 (IntKind.i64.wrap (En.bAt a0 l3i5))), (Value.int .i64 (IntKind.i64.wrap ((IntKind.i64.wrap (En.bAt a0 (IntKind.i64.wrap (l3i5 + (1 : Int))))) + (IntKind.i64.wrap ((256 : Int) * (IntKind.i64.wrap (En.bAt a0 (IntKind.i64.wrap (l3i5 + (2 : Int))))))))))])] [])) (S := (tab [(0, (str a0)), (4, l3v4), (5, (Value.int .i64 (IntKind.i64.wrap (l3i5 + (3 : Int))))), (6, (ptr g7 0)), (59, (Value.bool j22b59))])) ?_
              refine aw_cond rfl (fun hb24 => ?_) (fun hb24 => ?_)
              · replace h := bif_t hb24 h
                refine aw_seq ?_
                refine aw_region ?_
                refine al_val (ov_assign rfl rfl) ?_
                refine al_val (ov_assign rfl rfl) ?_
                refine al_nil ?_
                refine aq_then ?_
                refine aw_ret ?_
                refine aq_then_ret ?_
                refine aq_block_ret ?_
                refine aq_then_ret ?_
                refine aq_block_ret ?_
                refine aq_then_ret ?_
                refine aq_nilR 124 tyS_api_Token ?_
                obtain rfl := Option.some.inj h
                exact fn_ret (Value.slice none 0 0) [0] [] rfl rfl rfl rfl (res2 rfl rfl rfl) rfl rfl rfl (by decide)
              · replace h := bif_f hb24 h
                refine aw_skip ?_
                exact aq_join ((IntKind.i64.wrap (l3i5 + (3 : Int))), (0 : Int), (IntKind.i64.wrap (En.bAt a0 l3i5)), (IntKind.i64.wrap ((IntKind.i64.wrap (En.bAt a0 (IntKind.i64.wrap (l3i5 + (1 : Int))))) + (IntKind.i64.wrap ((256 : Int) * (IntKind.i64.wrap (En.bAt a0 (IntKind.i64.wrap (l3i5 + (2 : Int)))))))))) h (fun w a hm hs => norm hm hs [0, 1] [] [(0, (str a0)), (4, l3v4), (5, (Value.int .i64 (IntKind.i64.wrap (l3i5 + (3 : Int))))), (6, (ptr g7 0))] (by decide) ⟨rfl, rfl, rfl, rfl, trivial⟩)
            · clear hkk23
              refine aw_region ?_
              refine al_val (ov_fieldA (p := 2) rfl Try.underlying124 rfl sz3 rfl rfl rfl) ?_
              refine al_val (ov_load (i := 0) (v := (Value.int .i64 (IntKind.i64.wrap ((IntKind.i64.wrap (En.bAt a0 (IntKind.i64.wrap (l3i5 + (1 : Int))))) + (IntKind.i64.wrap ((256 : Int) * (IntKind.i64.wrap (En.bAt a0 (IntKind.i64.wrap (l3i5 + (2 : Int))))))))))) rfl rfl Try.underlying3 sz3 rfl rfl rfl rfl) ?_
              refine al_val (ov_int rfl rfl rfl rfl) ?_
              refine al_val (ov_move rfl rfl) ?_
              refine al_caseB 55 rfl (fun hb25 => ?_) (fun hb25 => ?_)
              · replace h := bif_t hb25 h
                refine al_skip ?_
                refine al_skip ?_
                refine al_skip ?_
                refine al_val (ov_pick_t rfl rfl rfl) ?_
                refine al_nil ?_
                exact aq_join true h (fun w a hm hs => norm hm hs [1, 0] [] [(0, (str a0)), (4, l3v4), (5, (Value.int .i64 (IntKind.i64.wrap (l3i5 + (3 : Int))))), (6, (ptr g7 0)), (59, (Value.bool true))] (by decide) ⟨rfl, rfl, rfl, rfl, rfl, trivial⟩)
              · replace h := bif_f hb25 h
                refine al_val (ov_fieldA (p := 2) rfl Try.underlying124 rfl sz3 rfl rfl rfl) ?_
                refine al_val (ov_load (i := 0) (v := (Value.int .i64 (IntKind.i64.wrap ((IntKind.i64.wrap (En.bAt a0 (IntKind.i64.wrap (l3i5 + (1 : Int))))) + (IntKind.i64.wrap ((256 : Int) * (IntKind.i64.wrap (En.bAt a0 (IntKind.i64.wrap (l3i5 + (2 : Int))))))))))) rfl rfl Try.underlying3 sz3 rfl rfl rfl rfl) ?_
                refine al_val (ov_int rfl rfl rfl rfl) ?_
                refine al_val (ov_pick_f rfl rfl rfl) ?_
                refine al_nil ?_
                exact aq_join (decide ((IntKind.i64.wrap ((IntKind.i64.wrap (En.bAt a0 (IntKind.i64.wrap (l3i5 + (1 : Int))))) + (IntKind.i64.wrap ((256 : Int) * (IntKind.i64.wrap (En.bAt a0 (IntKind.i64.wrap (l3i5 + (2 : Int))))))))) > (1024 : Int))) h (fun w a hm hs => norm hm hs [1, 0] [] [(0, (str a0)), (4, l3v4), (5, (Value.int .i64 (IntKind.i64.wrap (l3i5 + (3 : Int))))), (6, (ptr g7 0)), (59, (Value.bool (decide ((IntKind.i64.wrap ((IntKind.i64.wrap (En.bAt a0 (IntKind.i64.wrap (l3i5 + (1 : Int))))) + (IntKind.i64.wrap ((256 : Int) * (IntKind.i64.wrap (En.bAt a0 (IntKind.i64.wrap (l3i5 + (2 : Int))))))))) > (1024 : Int)))))] (by decide) ⟨rfl, rfl, rfl, rfl, rfl, trivial⟩)
    · replace h := bif_f hb6 h
      refine aw_exit ?_
      refine aq_then_exit ?_
      refine aq_then_exit ?_
      refine aq_block_exit ?_
      exact aq_join (l3v4, l3x4) h (fun w a hm hs => norm hm hs [0] [] [(4, l3v4)] (by decide) ⟨rfl, trivial⟩)
def f_slices_Equal___api_Token_api_Token__L6 (a0 : (List S_api_Token)) (a1 : (List S_api_Token)) (kk3 : (Unit → Option Bool)) : Nat → Int → Option Bool
  | 0, _ => none
  | k5 + 1, l4i13 => (bif (decide (l4i13 < (a0.length : Int))) then (opt (at? a0 l4i13) fun (u8 : S_api_Token) => (opt (at? a1 l4i13) fun (u11 : S_api_Token) => (req ((Lit.int .u8 u8.Lit).wf = true) (req ((Lit.int .i64 u8.Len).wf = true) (req ((Lit.int .i64 u8.Dist).wf = true) (req ((Lit.int .u8 u11.Lit).wf = true) (req ((Lit.int .i64 u11.Len).wf = true) (req ((Lit.int .i64 u11.Dist).wf = true) (bif (!(u8 == u11)) then (some false) else (f_slices_Equal___api_Token_api_Token__L6 a0 a1 kk3 k5 (IntKind.i64.wrap (l4i13 + (1 : Int))))))))))))) else (kk3 ()))
def f_slices_Equal___api_Token_api_Token_ (fu : Nat) (a0 : (List S_api_Token)) (a1 : (List S_api_Token)) : Option Bool := (bif ((a0.length : Int) != (a1.length : Int)) then (some false) else (lt (fun (_ : Unit) => (some true)) fun (kk3 : Unit → Option Bool) => (f_slices_Equal___api_Token_api_Token__L6 a0 a1 kk3 fu (0 : Int))))
set_option maxRecDepth 100000 in
theorem f_slices_Equal___api_Token_api_Token__ok (fu : Nat) (v0_0 : Value) (a0 : (List S_api_Token)) (v1_0 : Value) (a1 : (List S_api_Token)) {r : Bool} (h : f_slices_Equal___api_Token_api_Token_ fu a0 a1 = some r) : FnOk Try.prog 84 [v0_0, v1_0] [(fDat (tyList tyS_api_Token) [v0_0] a0), (fDat (tyList tyS_api_Token) [v1_0] a1)] [] (fun (i : Unit) => { val := (Value.bool r) }) := by
  unfold f_slices_Equal___api_Token_api_Token_ at h
  refine fn_enter Try.func84 rfl Try.ntmps84 rfl (fun w0 Z0 => ?_)
  refine aw_seq ?_
  refine aw_region ?_
  refine al_val (ov_assign rfl rfl) ?_
  refine al_nil ?_
  refine aq_then ?_
  refine aw_seq ?_
  refine aw_seq ?_
  refine aw_region ?_
  refine al_val (ov_move rfl rfl) ?_
  refine al_val (ov_lenD 0 rfl rfl Try.underlying114 rfl) ?_
  refine al_val (ov_move rfl rfl) ?_
  refine al_val (ov_lenD 1 rfl rfl Try.underlying114 rfl) ?_
  refine al_val (ov_int rfl rfl rfl rfl) ?_
  refine al_nil ?_
  refine aq_then ?_
  refine aw_cond rfl (fun hb1 => ?_) (fun hb1 => ?_)
  · replace h := bif_t hb1 h
    refine aw_seq ?_
    refine aw_region ?_
    refine al_val (ov_assign rfl rfl) ?_
    refine al_nil ?_
    refine aq_then ?_
    refine aw_ret ?_
    refine aq_then_ret ?_
    obtain rfl := Option.some.inj h
    exact fn_ret () [] [] rfl rfl rfl rfl (res1 rfl rfl) rfl rfl rfl (by decide)
  · replace h := bif_f hb1 h
    refine aw_skip ?_
    refine aq_then ?_
    obtain ⟨kk3, hkk3, h⟩ := lt_some h
    refine aw_seq_join (ι := Unit) (fun i => (memOf w0 Z0 [] [] [(fDat (tyList tyS_api_Token) [v0_0] a0), (fDat (tyList tyS_api_Token) [v1_0] a1)])) (fun i => (tab [])) (fun i => kk3 () = some r) ?_ ?_
    · rintro _ h
      have h : kk3 () = some r := h
      rw [hkk3] at h
      dsimp only at h
      clear hkk3
      refine aw_show (m := (memOf w0 Z0 [] [] [(fDat (tyList tyS_api_Token) [v0_0] a0), (fDat (tyList tyS_api_Token) [v1_0] a1)])) (S := (tab [])) ?_
      refine aw_seq ?_
      refine aw_region ?_
      refine al_val (ov_assign rfl rfl) ?_
      refine al_nil ?_
      refine aq_then ?_
      refine aw_ret ?_
      obtain rfl := Option.some.inj h
      exact fn_ret () [] [] rfl rfl rfl rfl (res1 rfl rfl) rfl rfl rfl (by decide)
    · clear hkk3
      refine aw_seq ?_
      refine aw_region ?_
      refine al_val (ov_move rfl rfl) ?_
      refine al_val (ov_lenD 0 rfl rfl Try.underlying114 rfl) ?_
      refine al_val (ov_move rfl rfl) ?_
      refine al_nil ?_
      refine aq_then ?_
      refine aw_block ?_
      refine aw_state (aw_loop (ι := Int) (fun i => (memOf w0 Z0 [] [] [(fDat (tyList tyS_api_Token) [v0_0] a0), (fDat (tyList tyS_api_Token) [v1_0] a1)])) (fun i => (tab [(0, v0_0), (1, v1_0), (12, (Value.int .i64 (a0.length : Int))), (13, (Value.int .i64 i))])) (fun q i => f_slices_Equal___api_Token_api_Token__L6 a0 a1 kk3 q i = some r) ?_ fu (0 : Int) h) (fun w a hm hs => norm hm hs [] [0, 1] [(0, v0_0), (1, v1_0), (12, (Value.int .i64 (a0.length : Int))), (13, (Value.int .i64 (0 : Int)))] (by decide) ⟨rfl, rfl, rfl, rfl, trivial⟩)
      clear h
      rintro k5 l4i13 h
      have h : f_slices_Equal___api_Token_api_Token__L6 a0 a1 kk3 k5 l4i13 = some r := h
      obtain _ | k5 := k5
      · rw [f_slices_Equal___api_Token_api_Token__L6] at h; cases h
      rw [f_slices_Equal___api_Token_api_Token__L6] at h
      refine aw_show (m := (memOf w0 Z0 [] [] [(fDat (tyList tyS_api_Token) [v0_0] a0), (fDat (tyList tyS_api_Token) [v1_0] a1)])) (S := (tab [(0, v0_0), (1, v1_0), (12, (Value.int .i64 (a0.length : Int))), (13, (Value.int .i64 l4i13))])) ?_
      refine aw_seq ?_
      refine aw_region ?_
      refine al_val (ov_int rfl rfl rfl rfl) ?_
      refine al_nil ?_
      refine aq_then ?_
      refine aw_seq ?_
      refine aw_cond rfl (fun hb7 => ?_) (fun hb7 => ?_)
      · replace h := bif_t hb7 h
        refine aw_skip ?_
        refine aq_then ?_
        refine aw_seq ?_
        refine aw_block ?_
        refine aw_seq ?_
        refine aw_region ?_
        refine al_val (ov_move rfl rfl) ?_
        refine al_val (ov_assign rfl rfl) ?_
        refine al_nil ?_
        refine aq_then ?_
        refine aw_seq ?_
        obtain ⟨u8, hu9, h⟩ := opt_some h
        obtain ⟨u11, hu12, h⟩ := opt_some h
        refine aw_region_draw 8 [(16, (fun u => fEq u v0_0)), (17, (fun u => fEq u (Value.int .i64 l4i13))), (18, (fun p10 => (fPtr tyS_api_Token p10 u8))), (19, (fun u => fEq u (ag [(Value.int .u8 u8.Lit), (Value.int .i64 u8.Len), (Value.int .i64 u8.Dist)]))), (20, (fun u => fEq u v1_0)), (21, (fun u => fEq u (Value.int .i64 l4i13))), (22, (fun p13 => (fPtr tyS_api_Token p13 u11))), (23, (fun u => fEq u (ag [(Value.int .u8 u11.Lit), (Value.int .i64 u11.Len), (Value.int .i64 u11.Dist)])))] (tab [(0, v0_0), (1, v1_0), (5, (Value.int .i64 l4i13)), (12, (Value.int .i64 (a0.length : Int))), (13, (Value.int .i64 l4i13))]) mixed (by kernel_rfl) rfl rfl rfl (fun a hs => hs.tab _ (allT_mem ⟨rfl, rfl, rfl, rfl, rfl, trivial⟩)) ⟨⟨rfl, ld_val (ov_move rfl rfl)⟩, ⟨rfl, ld_val (ov_move rfl rfl)⟩, ⟨rfl, ld_eq (j := 0) rfl rfl (ld_eq (j := 1) rfl rfl (ld_of (of_idxD 0 hu9 rfl rfl rfl Try.underlying114 sz124 rfl)))⟩, ⟨rfl, ld_fact (j := 2) rfl rfl (fun p10 => ld_val (ov_loadP (ds := [(Value.int .u8 u8.Lit), (Value.int .i64 u8.Len), (Value.int .i64 u8.Dist)]) 0 rfl encS_api_Token rfl Try.underlying124 sz124 rfl rfl rfl))⟩, ⟨rfl, ld_val (ov_move rfl rfl)⟩, ⟨rfl, ld_val (ov_move rfl rfl)⟩, ⟨rfl, ld_eq (j := 4) rfl rfl (ld_eq (j := 5) rfl rfl (ld_of (of_idxD 1 hu12 rfl rfl rfl Try.underlying114 sz124 rfl)))⟩, ⟨rfl, ld_fact (j := 6) rfl rfl (fun p13 => ld_val (ov_loadP (ds := [(Value.int .u8 u11.Lit), (Value.int .i64 u11.Len), (Value.int .i64 u11.Dist)]) 0 rfl encS_api_Token rfl Try.underlying124 sz124 rfl rfl rfl))⟩, trivial⟩ ?_
        refine tl_eq 3 rfl ?_
        refine tl_eq 7 rfl ?_
        refine tl_done ?_
        obtain ⟨hc14, h⟩ := req_some h
        obtain ⟨hc15, h⟩ := req_some h
        obtain ⟨hc16, h⟩ := req_some h
        obtain ⟨hc17, h⟩ := req_some h
        obtain ⟨hc18, h⟩ := req_some h
        obtain ⟨hc19, h⟩ := req_some h
        refine al_val (ov_neqA (cs := [(Value.int .u8 u8.Lit), (Value.int .i64 u8.Len), (Value.int .i64 u8.Dist)]) (ds := [(Value.int .u8 u11.Lit), (Value.int .i64 u11.Len), (Value.int .i64 u11.Dist)]) (ls := [5, 3, 3]) (p := (u8 == u11)) eg124 kt124 lv124 rfl rfl (by kernel_rfl) (by kernel_rfl) (fit_cons (fit_int Try.underlying5 hc14) (fit_cons (fit_int Try.underlying3 hc15) (fit_cons (fit_int Try.underlying3 hc16) fit_nil))) (fit_cons (fit_int Try.underlying5 hc17) (fit_cons (fit_int Try.underlying3 hc18) (fit_cons (fit_int Try.underlying3 hc19) fit_nil))) (injS_api_Token (x := u8) (y := u11)) rfl) ?_
        refine al_nil ?_
        refine aq_then ?_
        refine aw_cond rfl (fun hb20 => ?_) (fun hb20 => ?_)
        · replace h := bif_t hb20 h
          refine aw_seq ?_
          refine aw_region ?_
          refine al_val (ov_assign rfl rfl) ?_
          refine al_nil ?_
          refine aq_then ?_
          refine aw_ret ?_
          refine aq_block_ret ?_
          refine aq_then_ret ?_
          refine aq_then_ret ?_
          refine aq_block_ret ?_
          refine aq_then_ret ?_
          obtain rfl := Option.some.inj h
          exact fn_ret () [] [] rfl rfl rfl rfl (res1 rfl rfl) rfl rfl rfl (by decide)
        · replace h := bif_f hb20 h
          refine aw_skip ?_
          refine aq_block ?_
          refine aq_then ?_
          refine aw_region ?_
          refine al_val (ov_int rfl rfl rfl rfl) ?_
          refine al_val (ov_move rfl rfl) ?_
          refine al_nil ?_
          exact aq_again k5 (IntKind.i64.wrap (l4i13 + (1 : Int))) (Nat.lt_succ_self _) h (fun w a hm hs => norm hm hs [] [0, 1] [(0, v0_0), (1, v1_0), (12, (Value.int .i64 (a0.length : Int))), (13, (Value.int .i64 (IntKind.i64.wrap (l4i13 + (1 : Int)))))] (by decide) ⟨rfl, rfl, rfl, rfl, trivial⟩)
      · replace h := bif_f hb7 h
        refine aw_exit ?_
        refine aq_then_exit ?_
        refine aq_then_exit ?_
        refine aq_block_exit ?_
        exact aq_join () h (fun w a hm hs => norm hm hs [] [0, 1] [] (by decide) trivial)
def f_lumlaw_LzSays (fu : Nat) (a0 : (List S_api_Token)) (a1 : Int) (a2 : (List UInt8)) : Option Bool := (opt (f_lumref_Tokens fu a0) fun (r2 : Int) => (opt (f_lz_Expand fu a0 a1) fun (r4 : ((List UInt8) × Int)) => (opt (f_lumref_Expand fu a0 a1) fun (r6 : ((List UInt8) × Int)) => (opt (f_lz_Pack fu a0) fun (r8 : ((List UInt8) × Int)) => (lt (fun (j9s14 : (List UInt8)) => (opt (f_lz_Read fu a2) fun (r12 : ((List S_api_Token) × Int)) => (opt (f_lumref_ReadTokens fu a2) fun (r15 : ((List S_api_Token) × Int)) => (lt (fun (j17b6 : Bool) => (some j17b6)) fun (kk18 : Bool → Option Bool) => (opt (f_lz_Check fu a0) fun (r20 : Int) => (bif (r20 == r2) then (bif (r4.1 == r6.1) then (bif (r4.2 == r6.2) then (bif (r8.1 == j9s14) then (bif (r8.2 == r2) then (opt (f_slices_Equal___api_Token_api_Token_ fu r12.1 r15.1) fun (r27 : Bool) => (bif r27 then (kk18 (r12.2 == r15.2)) else (kk18 false))) else (kk18 false)) else (kk18 false)) else (kk18 false)) else (kk18 false)) else (kk18 false))))))) fun (kk10 : (List UInt8) → Option Bool) => (bif (r2 == (0 : Int)) then (opt (f_lumref_TokensText fu a0) fun (r31 : (List UInt8)) => (kk10 r31)) else (kk10 ([] : List UInt8))))))))
set_option maxRecDepth 100000 in
theorem f_lumlaw_LzSays_ok (fu : Nat) (v0_0 : Value) (a0 : (List S_api_Token)) (a1 : Int) (a2 : (List UInt8)) {r : Bool} (h : f_lumlaw_LzSays fu a0 a1 a2 = some r) : FnOk Try.prog 14 [v0_0, (Value.int .i64 a1), (str a2)] [(fDat (tyList tyS_api_Token) [v0_0] a0)] [] (fun (i : Unit) => { val := (Value.bool r) }) := by
  unfold f_lumlaw_LzSays at h
  refine fn_enter Try.func14 rfl Try.ntmps14 rfl (fun w0 Z0 => ?_)
  refine aw_seq ?_
  refine aw_region ?_
  refine al_val (ov_assign rfl rfl) ?_
  refine al_nil ?_
  refine aq_then ?_
  refine aw_seq ?_
  refine aw_region ?_
  refine al_val (ov_move rfl rfl) ?_
  obtain ⟨r2, hc1, h⟩ := opt_some h
  refine al_call (vs := [v0_0]) (f_lumref_Tokens_ok fu v0_0 a0 hc1) [] [] [] (pre_fz 0 rfl pre_nil) rfl (by simp) (by decide) (.inl rfl) rfl Try.func76 rfl rfl rfl (fun _ => ?_)
  refine al_val (ov_assign rfl rfl) ?_
  refine al_nil ?_
  refine aq_then ?_
  refine aw_seq ?_
  refine aw_region ?_
  refine al_val (ov_move rfl rfl) ?_
  refine al_val (ov_move rfl rfl) ?_
  obtain ⟨r4, hc3, h⟩ := opt_some h
  refine al_call (vs := [v0_0, (Value.int .i64 a1)]) (f_lz_Expand_ok fu v0_0 a0 a1 hc3) [] [] [] (pre_fz 0 rfl pre_nil) rfl (by simp) (by decide) (.inl rfl) rfl Try.func77 rfl rfl rfl (fun _ => ?_)
  refine al_val (ov_move rfl rfl) ?_
  refine al_val (ov_extract rfl rfl rfl) ?_
  refine al_val (ov_extract rfl rfl rfl) ?_
  refine al_val (ov_assign rfl rfl) ?_
  refine al_val (ov_assign rfl rfl) ?_
  refine al_nil ?_
  refine aq_then ?_
  refine aw_seq ?_
  refine aw_region ?_
  refine al_val (ov_move rfl rfl) ?_
  refine al_val (ov_move rfl rfl) ?_
  obtain ⟨r6, hc5, h⟩ := opt_some h
  refine al_call (vs := [v0_0, (Value.int .i64 a1)]) (f_lumref_Expand_ok fu v0_0 a0 a1 hc5) [] [] [] (pre_fz 0 rfl pre_nil) rfl (by simp) (by decide) (.inl rfl) rfl Try.func78 rfl rfl rfl (fun _ => ?_)
  refine al_val (ov_move rfl rfl) ?_
  refine al_val (ov_extract rfl rfl rfl) ?_
  refine al_val (ov_extract rfl rfl rfl) ?_
  refine al_val (ov_assign rfl rfl) ?_
  refine al_val (ov_assign rfl rfl) ?_
  refine al_nil ?_
  refine aq_then ?_
  refine aw_seq ?_
  refine aw_region ?_
  refine al_val (ov_move rfl rfl) ?_
  obtain ⟨r8, hc7, h⟩ := opt_some h
  refine al_call (vs := [v0_0]) (f_lz_Pack_ok fu v0_0 a0 hc7) [] [] [] (pre_fz 0 rfl pre_nil) rfl (by simp) (by decide) (.inl rfl) rfl Try.func79 rfl rfl rfl (fun _ => ?_)
  refine al_val (ov_move rfl rfl) ?_
  refine al_val (ov_extract rfl rfl rfl) ?_
  refine al_val (ov_extract rfl rfl rfl) ?_
  refine al_val (ov_assign rfl rfl) ?_
  refine al_val (ov_assign rfl rfl) ?_
  refine al_nil ?_
  refine aq_then ?_
  refine aw_seq ?_
  refine aw_region ?_
  refine al_val (ov_assign rfl rfl) ?_
  refine al_nil ?_
  refine aq_then ?_
  obtain ⟨kk10, hkk10, h⟩ := lt_some h
  refine aw_seq_join (ι := (List UInt8)) (fun i => (memOf w0 Z0 [] [] [(fDat (tyList tyS_api_Token) [v0_0] a0)])) (fun i => (tab [(0, v0_0), (2, (str a2)), (7, (Value.int .i64 r2)), (8, (str r4.1)), (9, (Value.int .i64 r4.2)), (10, (str r6.1)), (11, (Value.int .i64 r6.2)), (12, (str r8.1)), (13, (Value.int .i64 r8.2)), (14, (str i))])) (fun i => kk10 i = some r) ?_ ?_
  · rintro j9s14 h
    have h : kk10 j9s14 = some r := h
    rw [hkk10] at h
    dsimp only at h
    clear hkk10
    refine aw_show (m := (memOf w0 Z0 [] [] [(fDat (tyList tyS_api_Token) [v0_0] a0)])) (S := (tab [(0, v0_0), (2, (str a2)), (7, (Value.int .i64 r2)), (8, (str r4.1)), (9, (Value.int .i64 r4.2)), (10, (str r6.1)), (11, (Value.int .i64 r6.2)), (12, (str r8.1)), (13, (Value.int .i64 r8.2)), (14, (str j9s14))])) ?_
    refine aw_seq ?_
    refine aw_region ?_
    refine al_val (ov_move rfl rfl) ?_
    obtain ⟨r12, hc11, h⟩ := opt_some h
    refine al_call (vs := [(str a2)]) (f_lz_Read_ok fu a2 hc11) [] [] [] pre_nil rfl (by simp) (by decide) (.inl rfl) rfl Try.func81 rfl rfl rfl (fun v13 => ?_)
    refine al_val (ov_move rfl rfl) ?_
    refine al_val (ov_extract rfl rfl rfl) ?_
    refine al_val (ov_extract rfl rfl rfl) ?_
    refine al_val (ov_assign rfl rfl) ?_
    refine al_val (ov_assign rfl rfl) ?_
    refine al_nil ?_
    refine aq_then ?_
    refine aw_seq ?_
    refine aw_region ?_
    refine al_val (ov_move rfl rfl) ?_
    obtain ⟨r15, hc14, h⟩ := opt_some h
    refine al_call (vs := [(str a2)]) (f_lumref_ReadTokens_ok fu a2 hc14) [] [] [0] pre_nil rfl (by simp) (by decide) (.inl rfl) rfl Try.func82 rfl rfl rfl (fun v16 => ?_)
    refine al_val (ov_move rfl rfl) ?_
    refine al_val (ov_extract rfl rfl rfl) ?_
    refine al_val (ov_extract rfl rfl rfl) ?_
    refine al_val (ov_assign rfl rfl) ?_
    refine al_val (ov_assign rfl rfl) ?_
    refine al_nil ?_
    refine aq_then ?_
    obtain ⟨kk18, hkk18, h⟩ := lt_some h
    refine aw_seq_join (ι := Bool) (fun i => (memOf w0 Z0 [] [] [(fDat (tyList tyS_api_Token) [v0_0] a0)])) (fun i => (tab [(6, (Value.bool i))])) (fun i => kk18 i = some r) ?_ ?_
    · rintro j17b6 h
      have h : kk18 j17b6 = some r := h
      rw [hkk18] at h
      dsimp only at h
      clear hkk18
      refine aw_show (m := (memOf w0 Z0 [] [] [(fDat (tyList tyS_api_Token) [v0_0] a0)])) (S := (tab [(6, (Value.bool j17b6))])) ?_
      refine aw_ret ?_
      obtain rfl := Option.some.inj h
      exact fn_ret () [] [] rfl rfl rfl rfl (res1 rfl rfl) rfl rfl rfl (by decide)
    · clear hkk18
      refine aw_region ?_
      refine al_val (ov_move rfl rfl) ?_
      obtain ⟨r20, hc19, h⟩ := opt_some h
      refine al_call (vs := [v0_0]) (f_lz_Check_ok fu v0_0 a0 hc19) [] [] [0, 1] (pre_fz 0 rfl pre_nil) rfl (by simp) (by decide) (.inl rfl) rfl Try.func83 rfl rfl rfl (fun _ => ?_)
      refine al_val (ov_move rfl rfl) ?_
      refine al_val (ov_int rfl rfl rfl rfl) ?_
      refine al_val (ov_move rfl rfl) ?_
      refine al_caseB 56 rfl (fun hb21 => ?_) (fun hb21 => ?_)
      · replace h := bif_t hb21 h
        refine al_val (ov_move rfl rfl) ?_
        refine al_val (ov_move rfl rfl) ?_
        refine al_val (ov_strCmp rfl rfl rfl rfl) ?_
        refine al_val (ov_pick_t rfl rfl rfl) ?_
        refine al_val (ov_move rfl rfl) ?_
        refine al_caseB 61 rfl (fun hb22 => ?_) (fun hb22 => ?_)
        · replace h := bif_t hb22 h
          refine al_val (ov_move rfl rfl) ?_
          refine al_val (ov_move rfl rfl) ?_
          refine al_val (ov_int rfl rfl rfl rfl) ?_
          refine al_val (ov_pick_t rfl rfl rfl) ?_
          refine al_val (ov_move rfl rfl) ?_
          refine al_caseB 66 rfl (fun hb23 => ?_) (fun hb23 => ?_)
          · replace h := bif_t hb23 h
            refine al_val (ov_move rfl rfl) ?_
            refine al_val (ov_move rfl rfl) ?_
            refine al_val (ov_strCmp rfl rfl rfl rfl) ?_
            refine al_val (ov_pick_t rfl rfl rfl) ?_
            refine al_val (ov_move rfl rfl) ?_
            refine al_caseB 71 rfl (fun hb24 => ?_) (fun hb24 => ?_)
            · replace h := bif_t hb24 h
              refine al_val (ov_move rfl rfl) ?_
              refine al_val (ov_move rfl rfl) ?_
              refine al_val (ov_int rfl rfl rfl rfl) ?_
              refine al_val (ov_pick_t rfl rfl rfl) ?_
              refine al_val (ov_move rfl rfl) ?_
              refine al_caseB 76 rfl (fun hb25 => ?_) (fun hb25 => ?_)
              · replace h := bif_t hb25 h
                refine al_val (ov_move rfl rfl) ?_
                refine al_val (ov_move rfl rfl) ?_
                obtain ⟨r27, hc26, h⟩ := opt_some h
                refine al_call (vs := [v13, v16]) (f_slices_Equal___api_Token_api_Token__ok fu v13 r12.1 v16 r15.1 hc26) [0, 1] [] [0, 1] (pre_own 1 rfl rfl (pre_own 0 rfl rfl pre_nil)) rfl (by simp) (by decide) (.inr flat_res0) rfl Try.func84 rfl rfl rfl (fun _ => ?_)
                refine al_val (ov_pick_t rfl rfl rfl) ?_
                refine al_val (ov_move rfl rfl) ?_
                refine al_caseB 81 rfl (fun hb28 => ?_) (fun hb28 => ?_)
                · replace h := bif_t hb28 h
                  refine al_val (ov_move rfl rfl) ?_
                  refine al_val (ov_move rfl rfl) ?_
                  refine al_val (ov_int rfl rfl rfl rfl) ?_
                  refine al_val (ov_pick_t rfl rfl rfl) ?_
                  refine al_val (ov_assign rfl rfl) ?_
                  refine al_nil ?_
                  exact aq_join (r12.2 == r15.2) h (fun w a hm hs => norm hm hs [] [0] [(6, (Value.bool (r12.2 == r15.2)))] (by decide) ⟨rfl, trivial⟩)
                · replace h := bif_f hb28 h
                  refine al_skip ?_
                  refine al_skip ?_
                  refine al_skip ?_
                  refine al_val (ov_pick_f rfl rfl rfl) ?_
                  refine al_val (ov_assign rfl rfl) ?_
                  refine al_nil ?_
                  exact aq_join false h (fun w a hm hs => norm hm hs [] [0] [(6, (Value.bool false))] (by decide) ⟨rfl, trivial⟩)
              · replace h := bif_f hb25 h
                refine al_skip ?_
                refine al_skip ?_
                refine al_skip ?_
                refine al_val (ov_pick_f rfl rfl rfl) ?_
                refine al_val (ov_move rfl rfl) ?_
                refine al_skip ?_
                refine al_skip ?_
                refine al_skip ?_
                refine al_val (ov_pick_f rfl rfl rfl) ?_
                refine al_val (ov_assign rfl rfl) ?_
                refine al_nil ?_
                exact aq_join false h (fun w a hm hs => norm hm hs [] [0] [(6, (Value.bool false))] (by decide) ⟨rfl, trivial⟩)
            · replace h := bif_f hb24 h
              refine al_skip ?_
              refine al_skip ?_
              refine al_skip ?_
              refine al_val (ov_pick_f rfl rfl rfl) ?_
              refine al_val (ov_move rfl rfl) ?_
              refine al_skip ?_
              refine al_skip ?_
              refine al_skip ?_
              refine al_val (ov_pick_f rfl rfl rfl) ?_
              refine al_val (ov_move rfl rfl) ?_
              refine al_skip ?_
              refine al_skip ?_
              refine al_skip ?_
              refine al_val (ov_pick_f rfl rfl rfl) ?_
              refine al_val (ov_assign rfl rfl) ?_
              refine al_nil ?_
              exact aq_join false h (fun w a hm hs => norm hm hs [] [0] [(6, (Value.bool false))] (by decide) ⟨rfl, trivial⟩)
          · replace h := bif_f hb23 h
            refine al_skip ?_
            refine al_skip ?_
            refine al_skip ?_
            refine al_val (ov_pick_f rfl rfl rfl) ?_
            refine al_val (ov_move rfl rfl) ?_
            refine al_skip ?_
            refine al_skip ?_
            refine al_skip ?_
            refine al_val (ov_pick_f rfl rfl rfl) ?_
            refine al_val (ov_move rfl rfl) ?_
            refine al_skip ?_
            refine al_skip ?_
            refine al_skip ?_
            refine al_val (ov_pick_f rfl rfl rfl) ?_
            refine al_val (ov_move rfl rfl) ?_
            refine al_skip ?_
            refine al_skip ?_
            refine al_skip ?_
            refine al_val (ov_pick_f rfl rfl rfl) ?_
            refine al_val (ov_assign rfl rfl) ?_
            refine al_nil ?_
            exact aq_join false h (fun w a hm hs => norm hm hs [] [0] [(6, (Value.bool false))] (by decide) ⟨rfl, trivial⟩)
        · replace h := bif_f hb22 h
          refine al_skip ?_
          refine al_skip ?_
          refine al_skip ?_
          refine al_val (ov_pick_f rfl rfl rfl) ?_
          refine al_val (ov_move rfl rfl) ?_
          refine al_skip ?_
          refine al_skip ?_
          refine al_skip ?_
          refine al_val (ov_pick_f rfl rfl rfl) ?_
          refine al_val (ov_move rfl rfl) ?_
          refine al_skip ?_
          refine al_skip ?_
          refine al_skip ?_
          refine al_val (ov_pick_f rfl rfl rfl) ?_
          refine al_val (ov_move rfl rfl) ?_
          refine al_skip ?_
          refine al_skip ?_
          refine al_skip ?_
          refine al_val (ov_pick_f rfl rfl rfl) ?_
          refine al_val (ov_move rfl rfl) ?_
          refine al_skip ?_
          refine al_skip ?_
          refine al_skip ?_
          refine al_val (ov_pick_f rfl rfl rfl) ?_
          refine al_val (ov_assign rfl rfl) ?_
          refine al_nil ?_
          exact aq_join false h (fun w a hm hs => norm hm hs [] [0] [(6, (Value.bool false))] (by decide) ⟨rfl, trivial⟩)
      · replace h := bif_f hb21 h
        refine al_skip ?_
        refine al_skip ?_
        refine al_skip ?_
        refine al_val (ov_pick_f rfl rfl rfl) ?_
        refine al_val (ov_move rfl rfl) ?_
        refine al_skip ?_
        refine al_skip ?_
        refine al_skip ?_
        refine al_val (ov_pick_f rfl rfl rfl) ?_
        refine al_val (ov_move rfl rfl) ?_
        refine al_skip ?_
        refine al_skip ?_
        refine al_skip ?_
        refine al_val (ov_pick_f rfl rfl rfl) ?_
        refine al_val (ov_move rfl rfl) ?_
        refine al_skip ?_
        refine al_skip ?_
        refine al_skip ?_
        refine al_val (ov_pick_f rfl rfl rfl) ?_
        refine al_val (ov_move rfl rfl) ?_
        refine al_skip ?_
        refine al_skip ?_
        refine al_skip ?_
        refine al_val (ov_pick_f rfl rfl rfl) ?_
        refine al_val (ov_move rfl rfl) ?_
        refine al_skip ?_
        refine al_skip ?_
        refine al_skip ?_
        refine al_val (ov_pick_f rfl rfl rfl) ?_
        refine al_val (ov_assign rfl rfl) ?_
        refine al_nil ?_
        exact aq_join false h (fun w a hm hs => norm hm hs [] [0] [(6, (Value.bool false))] (by decide) ⟨rfl, trivial⟩)
  · clear hkk10
    refine aw_seq ?_
    refine aw_region ?_
    refine al_val (ov_move rfl rfl) ?_
    refine al_val (ov_int rfl rfl rfl rfl) ?_
    refine al_nil ?_
    refine aq_then ?_
    refine aw_cond rfl (fun hb29 => ?_) (fun hb29 => ?_)
    · replace h := bif_t hb29 h
      refine aw_region ?_
      refine al_val (ov_move rfl rfl) ?_
      obtain ⟨r31, hc30, h⟩ := opt_some h
      refine al_call (vs := [v0_0]) (f_lumref_TokensText_ok fu v0_0 a0 hc30) [] [] [] (pre_fz 0 rfl pre_nil) rfl (by simp) (by decide) (.inl rfl) rfl Try.func80 rfl rfl rfl (fun _ => ?_)
      refine al_val (ov_assign rfl rfl) ?_
      refine al_nil ?_
      exact aq_join r31 h (fun w a hm hs => norm hm hs [] [0] [(0, v0_0), (2, (str a2)), (7, (Value.int .i64 r2)), (8, (str r4.1)), (9, (Value.int .i64 r4.2)), (10, (str r6.1)), (11, (Value.int .i64 r6.2)), (12, (str r8.1)), (13, (Value.int .i64 r8.2)), (14, (str r31))] (by decide) ⟨rfl, rfl, rfl, rfl, rfl, rfl, rfl, rfl, rfl, rfl, trivial⟩)
    · replace h := bif_f hb29 h
      refine aw_skip ?_
      exact aq_join ([] : List UInt8) h (fun w a hm hs => norm hm hs [] [0] [(0, v0_0), (2, (str a2)), (7, (Value.int .i64 r2)), (8, (str r4.1)), (9, (Value.int .i64 r4.2)), (10, (str r6.1)), (11, (Value.int .i64 r6.2)), (12, (str r8.1)), (13, (Value.int .i64 r8.2)), (14, (str ([] : List UInt8)))] (by decide) ⟨rfl, rfl, rfl, rfl, rfl, rfl, rfl, rfl, rfl, rfl, trivial⟩)
end Go.Proofs.Ytaoopodaalhheaa
