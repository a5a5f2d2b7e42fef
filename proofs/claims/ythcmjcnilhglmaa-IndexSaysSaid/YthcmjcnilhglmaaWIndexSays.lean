/- Walks by program. No condition. -/
import Derived.Test.YthcmjcnilhglmaaEn12
import Derived.Test.YthcmjcnilhglmaaChecked
namespace Go.Proofs.Ythcmjcnilhglmaa
open Go.RowKit Ythcmjcnilhglmaa.En
set_option linter.unusedVariables false
set_option linter.unusedSimpArgs false
structure A8u8 where
  e0 : UInt8
  e1 : UInt8
  e2 : UInt8
  e3 : UInt8
  e4 : UInt8
  e5 : UInt8
  e6 : UInt8
  e7 : UInt8
  deriving DecidableEq
def tyA8u8 : Ty A8u8 := tyVia (fun x => (x.e0, (x.e1, (x.e2, (x.e3, (x.e4, (x.e5, (x.e6, x.e7)))))))) (tyPair tyU8 (tyPair tyU8 (tyPair tyU8 (tyPair tyU8 (tyPair tyU8 (tyPair tyU8 (tyPair tyU8 tyU8)))))))
theorem subA8u8_0 : Sub tyA8u8 0 tyU8 (fun x => x.e0) := Sub.via (Sub.fst (Sub.whole _))
theorem subA8u8_1 : Sub tyA8u8 1 tyU8 (fun x => x.e1) := Sub.via (Sub.snd (Sub.fst (Sub.whole _)))
theorem subA8u8_2 : Sub tyA8u8 2 tyU8 (fun x => x.e2) := Sub.via (Sub.snd (Sub.snd (Sub.fst (Sub.whole _))))
theorem subA8u8_3 : Sub tyA8u8 3 tyU8 (fun x => x.e3) := Sub.via (Sub.snd (Sub.snd (Sub.snd (Sub.fst (Sub.whole _)))))
theorem subA8u8_4 : Sub tyA8u8 4 tyU8 (fun x => x.e4) := Sub.via (Sub.snd (Sub.snd (Sub.snd (Sub.snd (Sub.fst (Sub.whole _))))))
theorem subA8u8_5 : Sub tyA8u8 5 tyU8 (fun x => x.e5) := Sub.via (Sub.snd (Sub.snd (Sub.snd (Sub.snd (Sub.snd (Sub.fst (Sub.whole _)))))))
theorem subA8u8_6 : Sub tyA8u8 6 tyU8 (fun x => x.e6) := Sub.via (Sub.snd (Sub.snd (Sub.snd (Sub.snd (Sub.snd (Sub.snd (Sub.fst (Sub.whole _))))))))
theorem subA8u8_7 : Sub tyA8u8 7 tyU8 (fun x => x.e7) := Sub.via (Sub.snd (Sub.snd (Sub.snd (Sub.snd (Sub.snd (Sub.snd (Sub.snd (Sub.whole _))))))))
def cA8u8 (x : A8u8) : List Value := [(Value.int .u8 (x.e0.toNat : Int)), (Value.int .u8 (x.e1.toNat : Int)), (Value.int .u8 (x.e2.toNat : Int)), (Value.int .u8 (x.e3.toNat : Int)), (Value.int .u8 (x.e4.toNat : Int)), (Value.int .u8 (x.e5.toNat : Int)), (Value.int .u8 (x.e6.toNat : Int)), (Value.int .u8 (x.e7.toNat : Int))]
def lA8u8 (x : A8u8) : List UInt8 := [x.e0, x.e1, x.e2, x.e3, x.e4, x.e5, x.e6, x.e7]
def vA8u8 (y : UInt8) : Value := (Value.int .u8 (y.toNat : Int))
def setA8u8 (x : A8u8) (j : Int) (y : UInt8) : A8u8 := ⟨if j = 0 then y else x.e0, if j = 1 then y else x.e1, if j = 2 then y else x.e2, if j = 3 then y else x.e3, if j = 4 then y else x.e4, if j = 5 then y else x.e5, if j = 6 then y else x.e6, if j = 7 then y else x.e7⟩
theorem oneA8u8 (x : A8u8) : ∀ u ∈ cA8u8 x, u.oneCell' = true := ones_map (enc := vA8u8) (xs := lA8u8 x) (fun _ => rfl)
theorem lenA8u8 (x : A8u8) : (lA8u8 x).length = 8 := rfl
theorem lsetA8u8 {x : A8u8} {j : Int} {y : UInt8} (h0 : 0 ≤ j) (h1 : j < 8) : lA8u8 (setA8u8 x j y) = (lA8u8 x).set j.toNat y := by
  obtain ⟨q, rfl⟩ : ∃ q : Nat, j = q := ⟨j.toNat, by omega⟩
  match q, h1 with
  | 0, _ => rfl
  | 1, _ => rfl
  | 2, _ => rfl
  | 3, _ => rfl
  | 4, _ => rfl
  | 5, _ => rfl
  | 6, _ => rfl
  | 7, _ => rfl
  | n + 8, h => omega
theorem csetA8u8 {x : A8u8} {j : Int} {y : UInt8} (h0 : 0 ≤ j) (h1 : j < 8) (pre post : List Value) : pre ++ (cA8u8 (setA8u8 x j y) ++ post) = (pre ++ (cA8u8 x ++ post)).set (pre.length + j.toNat) (vA8u8 y) := by
  have h : cA8u8 (setA8u8 x j y) = (cA8u8 x).set j.toNat (vA8u8 y) := by
    have e : ∀ z : A8u8, cA8u8 z = (lA8u8 z).map vA8u8 := fun _ => rfl
    rw [e, e, lsetA8u8 h0 h1, List.map_set]
  rw [h, List.set_append_right _ _ (by omega), Nat.add_sub_cancel_left, List.set_append_left _ _ (by show j.toNat < 8; omega)]
theorem flatA8u8 : FlatTy tyA8u8 := flat_via (flat_pair flat_enc (flat_pair flat_enc (flat_pair flat_enc (flat_pair flat_enc (flat_pair flat_enc (flat_pair flat_enc (flat_pair flat_enc flat_enc)))))))
theorem encA8u8 {Z w cs} {x : A8u8} (h : tyA8u8.rep Z w cs x) : cs = (cA8u8 x) := by
  obtain ⟨c0, d0, rfl, p0, q0⟩ := h
  obtain ⟨c1, d1, rfl, p1, q1⟩ := q0
  obtain ⟨c2, d2, rfl, p2, q2⟩ := q1
  obtain ⟨c3, d3, rfl, p3, q3⟩ := q2
  obtain ⟨c4, d4, rfl, p4, q4⟩ := q3
  obtain ⟨c5, d5, rfl, p5, q5⟩ := q4
  obtain ⟨c6, d6, rfl, p6, q6⟩ := q5
  rw [show _ = _ from p0]
  rw [show _ = _ from p1]
  rw [show _ = _ from p2]
  rw [show _ = _ from p3]
  rw [show _ = _ from p4]
  rw [show _ = _ from p5]
  rw [show _ = _ from p6]
  rw [show _ = _ from q6]
  rfl
theorem mkA8u8 {Z w cs} {x : A8u8} (h : cs = (cA8u8 x)) : tyA8u8.rep Z w cs x := by
  subst h
  exact ⟨_, _, (List.take_append_drop 1 _).symm, rfl, ⟨_, _, (List.take_append_drop 1 _).symm, rfl, ⟨_, _, (List.take_append_drop 1 _).symm, rfl, ⟨_, _, (List.take_append_drop 1 _).symm, rfl, ⟨_, _, (List.take_append_drop 1 _).symm, rfl, ⟨_, _, (List.take_append_drop 1 _).symm, rfl, ⟨_, _, (List.take_append_drop 1 _).symm, rfl, rfl⟩⟩⟩⟩⟩⟩⟩
theorem lrepA8u8 {Z w cs} {x : A8u8} (h : tyA8u8.rep Z w cs x) : RepL tyU8 Z w cs (lA8u8 x) := by
  rw [encA8u8 h]
  exact ⟨[_], _, rfl, rfl, ⟨[_], _, rfl, rfl, ⟨[_], _, rfl, rfl, ⟨[_], _, rfl, rfl, ⟨[_], _, rfl, rfl, ⟨[_], _, rfl, rfl, ⟨[_], _, rfl, rfl, ⟨[_], _, rfl, rfl, rfl⟩⟩⟩⟩⟩⟩⟩⟩
structure S_api_Place where
  ID : A8u8
  Kind : Int
  Pack : Int
  At : Int
  Len : Int
  deriving DecidableEq
def tyS_api_Place : Ty S_api_Place := tyVia (fun x => (x.ID, (x.Kind, (x.Pack, (x.At, x.Len))))) (tyPair tyA8u8 (tyPair (tyInt .i64) (tyPair (tyInt .i64) (tyPair (tyInt .i64) (tyInt .i64)))))
theorem subS_api_Place_0 : Sub tyS_api_Place 0 tyA8u8 (fun x => x.ID) := Sub.via (Sub.fst (Sub.whole _))
theorem subS_api_Place_1 : Sub tyS_api_Place 8 (tyInt .i64) (fun x => x.Kind) := Sub.via (Sub.snd (Sub.fst (Sub.whole _)))
theorem subS_api_Place_2 : Sub tyS_api_Place 9 (tyInt .i64) (fun x => x.Pack) := Sub.via (Sub.snd (Sub.snd (Sub.fst (Sub.whole _))))
theorem subS_api_Place_3 : Sub tyS_api_Place 10 (tyInt .i64) (fun x => x.At) := Sub.via (Sub.snd (Sub.snd (Sub.snd (Sub.fst (Sub.whole _)))))
theorem subS_api_Place_4 : Sub tyS_api_Place 11 (tyInt .i64) (fun x => x.Len) := Sub.via (Sub.snd (Sub.snd (Sub.snd (Sub.snd (Sub.whole _)))))
theorem flatS_api_Place : FlatTy tyS_api_Place := flat_via (flat_pair flatA8u8 (flat_pair flat_enc (flat_pair flat_enc (flat_pair flat_enc flat_enc))))
theorem encS_api_Place {Z w cs} {x : S_api_Place} (h : tyS_api_Place.rep Z w cs x) : cs = ((cA8u8 x.ID) ++ [(Value.int .i64 x.Kind), (Value.int .i64 x.Pack), (Value.int .i64 x.At), (Value.int .i64 x.Len)]) := by
  obtain ⟨c0, d0, rfl, p0, q0⟩ := h
  obtain ⟨c1, d1, rfl, p1, q1⟩ := q0
  obtain ⟨c2, d2, rfl, p2, q2⟩ := q1
  obtain ⟨c3, d3, rfl, p3, q3⟩ := q2
  rw [encA8u8 p0]
  rw [show _ = _ from p1]
  rw [show _ = _ from p2]
  rw [show _ = _ from p3]
  rw [show _ = _ from q3]
  rfl
theorem mkS_api_Place {Z w cs} {x : S_api_Place} (h : cs = ((cA8u8 x.ID) ++ [(Value.int .i64 x.Kind), (Value.int .i64 x.Pack), (Value.int .i64 x.At), (Value.int .i64 x.Len)])) : tyS_api_Place.rep Z w cs x := by
  subst h
  exact ⟨_, _, (List.take_append_drop 8 _).symm, (mkA8u8 rfl), ⟨_, _, (List.take_append_drop 1 _).symm, rfl, ⟨_, _, (List.take_append_drop 1 _).symm, rfl, ⟨_, _, (List.take_append_drop 1 _).symm, rfl, rfl⟩⟩⟩⟩
theorem sz3 : szOf Try.prog 3 = some 1 := by kernel_rfl
theorem to3 : tyOf Try.prog 3 = some (1, 8, some (Value.int .i64 (0 : Int))) := by kernel_rfl
theorem sz5 : szOf Try.prog 5 = some 1 := by kernel_rfl
theorem to5 : tyOf Try.prog 5 = some (1, 1, some (Value.int .u8 (0 : Int))) := by kernel_rfl
theorem sz69 : szOf Try.prog 69 = some 8 := by kernel_rfl
theorem to69 : tyOf Try.prog 69 = some (8, 8, some (ag [(Value.int .u8 (0 : Int)), (Value.int .u8 (0 : Int)), (Value.int .u8 (0 : Int)), (Value.int .u8 (0 : Int)), (Value.int .u8 (0 : Int)), (Value.int .u8 (0 : Int)), (Value.int .u8 (0 : Int)), (Value.int .u8 (0 : Int))])) := by kernel_rfl
theorem sz72 : szOf Try.prog 72 = some 12 := by kernel_rfl
theorem to72 : tyOf Try.prog 72 = some (12, 40, some (ag [(Value.int .u8 (0 : Int)), (Value.int .u8 (0 : Int)), (Value.int .u8 (0 : Int)), (Value.int .u8 (0 : Int)), (Value.int .u8 (0 : Int)), (Value.int .u8 (0 : Int)), (Value.int .u8 (0 : Int)), (Value.int .u8 (0 : Int)), (Value.int .i64 (0 : Int)), (Value.int .i64 (0 : Int)), (Value.int .i64 (0 : Int)), (Value.int .i64 (0 : Int))])) := by kernel_rfl
theorem mixed : Try.prog.follows .mixedOrders = true := by kernel_rfl
theorem eg69 : Try.prog.eqGuardType Try.prog.depth 69 = false := by kernel_rfl
theorem kt69 : Try.prog.keyTypeAt 20 69 = true := by kernel_rfl
theorem lv69 : leaves Try.prog 20 69 = some [5, 5, 5, 5, 5, 5, 5, 5] := by kernel_rfl
theorem injA8u8 {x y : A8u8} : (x == y) = true ↔ (cA8u8 x) = (cA8u8 y) := by
  rw [beq_iff_eq]
  constructor
  · rintro rfl; rfl
  · intro h
    obtain ⟨⟩ := x
    obtain ⟨⟩ := y
    simp only [A8u8.mk.injEq, cA8u8, str, List.cons_append, List.nil_append, List.cons.injEq, Value.int.injEq, Value.bool.injEq, Value.string.injEq, ByteArray.mk.injEq, Array.mk.injEq, Int.natCast_inj, UInt8.toNat_inj, true_and, and_true] at h ⊢
    first | exact h | simpa [and_assoc] using h
theorem extA8u8 (x y : A8u8) : x = y ↔ x.e0 = y.e0 ∧ x.e1 = y.e1 ∧ x.e2 = y.e2 ∧ x.e3 = y.e3 ∧ x.e4 = y.e4 ∧ x.e5 = y.e5 ∧ x.e6 = y.e6 ∧ x.e7 = y.e7 := by
  constructor
  · rintro rfl; simp
  · intro h
    obtain ⟨⟩ := x
    obtain ⟨⟩ := y
    simpa using h
theorem eg72 : Try.prog.eqGuardType Try.prog.depth 72 = false := by kernel_rfl
theorem kt72 : Try.prog.keyTypeAt 20 72 = true := by kernel_rfl
theorem lv72 : leaves Try.prog 20 72 = some [5, 5, 5, 5, 5, 5, 5, 5, 3, 3, 3, 3] := by kernel_rfl
theorem injS_api_Place {x y : S_api_Place} : (x == y) = true ↔ ((cA8u8 x.ID) ++ [(Value.int .i64 x.Kind), (Value.int .i64 x.Pack), (Value.int .i64 x.At), (Value.int .i64 x.Len)]) = ((cA8u8 y.ID) ++ [(Value.int .i64 y.Kind), (Value.int .i64 y.Pack), (Value.int .i64 y.At), (Value.int .i64 y.Len)]) := by
  rw [beq_iff_eq]
  constructor
  · rintro rfl; rfl
  · intro h
    obtain ⟨⟩ := x
    obtain ⟨⟩ := y
    simp only [A8u8.mk.injEq, S_api_Place.mk.injEq, cA8u8, extA8u8, str, List.cons_append, List.nil_append, List.cons.injEq, Value.int.injEq, Value.bool.injEq, Value.string.injEq, ByteArray.mk.injEq, Array.mk.injEq, Int.natCast_inj, UInt8.toNat_inj, true_and, and_true] at h ⊢
    first | exact h | simpa [and_assoc] using h
def okA8u8 (x : A8u8) : Prop := (True) ∧ (True) ∧ (True) ∧ (True) ∧ (True) ∧ (True) ∧ (True) ∧ (True)
set_option maxRecDepth 100000 in
theorem opnA8u8 {H : Type} : Opn H Try.prog 69 tyA8u8 okA8u8 := opn_array (fun x => (x.e0, (x.e1, (x.e2, (x.e3, (x.e4, (x.e5, (x.e6, x.e7)))))))) (fun y => A8u8.mk y.1 y.2.1 y.2.2.1 y.2.2.2.1 y.2.2.2.2.1 y.2.2.2.2.2.1 y.2.2.2.2.2.2.1 y.2.2.2.2.2.2.2) (fun _ => rfl) Try.underlying69 sz69 (fields_cons sz5 (opn_u8 Try.underlying5) (fields_cons sz5 (opn_u8 Try.underlying5) (fields_cons sz5 (opn_u8 Try.underlying5) (fields_cons sz5 (opn_u8 Try.underlying5) (fields_cons sz5 (opn_u8 Try.underlying5) (fields_cons sz5 (opn_u8 Try.underlying5) (fields_cons sz5 (opn_u8 Try.underlying5) (fields_one sz5 (opn_u8 Try.underlying5)))))))))
def okS_api_Place (x : S_api_Place) : Prop := (okA8u8 x.ID) ∧ ((Lit.int .i64 x.Kind).wf = true) ∧ ((Lit.int .i64 x.Pack).wf = true) ∧ ((Lit.int .i64 x.At).wf = true) ∧ ((Lit.int .i64 x.Len).wf = true)
set_option maxRecDepth 100000 in
theorem opnS_api_Place {H : Type} : Opn H Try.prog 72 tyS_api_Place okS_api_Place := opn_struct (fun x => (x.ID, (x.Kind, (x.Pack, (x.At, x.Len))))) (fun y => S_api_Place.mk y.1 y.2.1 y.2.2.1 y.2.2.2.1 y.2.2.2.2) (fun _ => rfl) Try.underlying72 sz72 (fields_cons sz69 opnA8u8 (fields_cons sz3 (opn_int Try.underlying3) (fields_cons sz3 (opn_int Try.underlying3) (fields_cons sz3 (opn_int Try.underlying3) (fields_one sz3 (opn_int Try.underlying3))))))
def f_lumref_kindOK (fu : Nat) (a0 : Int) : Option Bool := (lt (fun (j1b2 : Bool) => (some j1b2)) fun (kk2 : Bool → Option Bool) => (bif (a0 == (1 : Int)) then (kk2 true) else (bif (a0 == (2 : Int)) then (kk2 true) else (kk2 (a0 == (3 : Int))))))
set_option maxRecDepth 100000 in
theorem f_lumref_kindOK_ok (fu : Nat) (a0 : Int) {r : Bool} (h : f_lumref_kindOK fu a0 = some r) : FnOk Try.prog 112 [(Value.int .i64 a0)] [] [] (fun (i : Unit) => { val := (Value.bool r) }) := by
  unfold f_lumref_kindOK at h
  refine fn_enter Try.func112 rfl Try.ntmps112 rfl (fun w0 Z0 => ?_)
  refine aw_seq ?_
  refine aw_region ?_
  refine al_val (ov_assign rfl rfl) ?_
  refine al_nil ?_
  refine aq_then ?_
  obtain ⟨kk2, hkk2, h⟩ := lt_some h
  refine aw_seq_join (ι := Bool) (fun i => (memOf w0 Z0 [] [] [])) (fun i => (tab [(2, (Value.bool i))])) (fun i => kk2 i = some r) ?_ ?_
  · rintro j1b2 h
    have h : kk2 j1b2 = some r := h
    rw [hkk2] at h
    dsimp only at h
    clear hkk2
    refine aw_show (m := (memOf w0 Z0 [] [] [])) (S := (tab [(2, (Value.bool j1b2))])) ?_
    refine aw_ret ?_
    obtain rfl := Option.some.inj h
    exact fn_ret () [] [] rfl rfl rfl rfl (res1 rfl rfl) rfl rfl rfl (by decide)
  · clear hkk2
    refine aw_region ?_
    refine al_val (ov_move rfl rfl) ?_
    refine al_val (ov_int rfl rfl rfl rfl) ?_
    refine al_val (ov_move rfl rfl) ?_
    refine al_caseB 5 rfl (fun hb3 => ?_) (fun hb3 => ?_)
    · replace h := bif_t hb3 h
      refine al_skip ?_
      refine al_skip ?_
      refine al_val (ov_pick_t rfl rfl rfl) ?_
      refine al_val (ov_move rfl rfl) ?_
      refine al_skip ?_
      refine al_skip ?_
      refine al_val (ov_pick_t rfl rfl rfl) ?_
      refine al_val (ov_assign rfl rfl) ?_
      refine al_nil ?_
      exact aq_join true h (fun w a hm hs => norm hm hs [] [] [(2, (Value.bool true))] (by decide) ⟨rfl, trivial⟩)
    · replace h := bif_f hb3 h
      refine al_val (ov_move rfl rfl) ?_
      refine al_val (ov_int rfl rfl rfl rfl) ?_
      refine al_val (ov_pick_f rfl rfl rfl) ?_
      refine al_val (ov_move rfl rfl) ?_
      refine al_caseB 9 rfl (fun hb4 => ?_) (fun hb4 => ?_)
      · replace h := bif_t hb4 h
        refine al_skip ?_
        refine al_skip ?_
        refine al_val (ov_pick_t rfl rfl rfl) ?_
        refine al_val (ov_assign rfl rfl) ?_
        refine al_nil ?_
        exact aq_join true h (fun w a hm hs => norm hm hs [] [] [(2, (Value.bool true))] (by decide) ⟨rfl, trivial⟩)
      · replace h := bif_f hb4 h
        refine al_val (ov_move rfl rfl) ?_
        refine al_val (ov_int rfl rfl rfl rfl) ?_
        refine al_val (ov_pick_f rfl rfl rfl) ?_
        refine al_val (ov_assign rfl rfl) ?_
        refine al_nil ?_
        exact aq_join (a0 == (3 : Int)) h (fun w a hm hs => norm hm hs [] [] [(2, (Value.bool (a0 == (3 : Int))))] (by decide) ⟨rfl, trivial⟩)
def f_lumref_placeErr (fu : Nat) (a0 : S_api_Place) : Option Int := (opt (f_lumref_kindOK fu a0.Kind) fun (r3 : Bool) => (bif (!r3) then (some (5 : Int)) else (lt (fun (j5b24 : Bool) => (bif j5b24 then (some (1 : Int)) else (some (0 : Int)))) fun (kk6 : Bool → Option Int) => (bif (decide ((if a0.Len < (if a0.At < a0.Pack then a0.At else a0.Pack) then a0.Len else (if a0.At < a0.Pack then a0.At else a0.Pack)) < (0 : Int))) then (kk6 true) else (kk6 (decide ((if a0.Len > (if a0.At > a0.Pack then a0.At else a0.Pack) then a0.Len else (if a0.At > a0.Pack then a0.At else a0.Pack)) > (1099511627776 : Int))))))))
set_option maxRecDepth 100000 in
theorem f_lumref_placeErr_ok (fu : Nat) (a0 : S_api_Place) {r : Int} (h : f_lumref_placeErr fu a0 = some r) : FnOk Try.prog 86 [(ag ((cA8u8 a0.ID) ++ [(Value.int .i64 a0.Kind), (Value.int .i64 a0.Pack), (Value.int .i64 a0.At), (Value.int .i64 a0.Len)]))] [] [] (fun (i : Unit) => { val := (Value.int .i64 r) }) := by
  unfold f_lumref_placeErr at h
  refine fn_enter Try.func86 rfl Try.ntmps86 rfl (fun w0 Z0 => ?_)
  refine aw_seq ?_
  refine aw_region ?_
  refine al_box (vs := ((cA8u8 a0.ID) ++ [(Value.int .i64 a0.Kind), (Value.int .i64 a0.Pack), (Value.int .i64 a0.At), (Value.int .i64 a0.Len)])) rfl (cv_rfl rfl) rfl (fun g1 => ?_)
  refine al_val (ov_assign rfl rfl) ?_
  refine al_nil ?_
  refine aq_then ?_
  refine aw_seq ?_
  refine aw_seq ?_
  refine aw_region ?_
  refine al_val (ov_fieldA (p := 8) rfl Try.underlying72 rfl sz3 rfl rfl rfl) ?_
  refine al_val (ov_load (i := 0) (v := (Value.int .i64 a0.Kind)) rfl rfl Try.underlying3 sz3 rfl rfl rfl rfl) ?_
  obtain ⟨r3, hc2, h⟩ := opt_some h
  refine al_call (vs := [(Value.int .i64 a0.Kind)]) (f_lumref_kindOK_ok fu a0.Kind hc2) [] [] [0] pre_nil rfl (by simp) (by decide) (.inl rfl) rfl Try.func112 rfl rfl rfl (fun _ => ?_)
  refine al_val (ov_not rfl rfl) ?_
  refine al_nil ?_
  refine aq_then ?_
  refine aw_cond rfl (fun hb4 => ?_) (fun hb4 => ?_)
  · replace h := bif_t hb4 h
    refine aw_seq ?_
    refine aw_region ?_
    refine al_val (ov_assign rfl rfl) ?_
    refine al_nil ?_
    refine aq_then ?_
    refine aw_ret ?_
    refine aq_then_ret ?_
    obtain rfl := Option.some.inj h
    exact fn_ret () [] [] rfl rfl rfl rfl (res1 rfl rfl) rfl rfl rfl (by decide)
  · replace h := bif_f hb4 h
    refine aw_skip ?_
    refine aq_then ?_
    refine aw_seq ?_
    obtain ⟨kk6, hkk6, h⟩ := lt_some h
    refine aw_seq_join (ι := Bool) (fun i => (memOf w0 Z0 [] [] [])) (fun i => (tab [(24, (Value.bool i))])) (fun i => kk6 i = some r) ?_ ?_
    · rintro j5b24 h
      have h : kk6 j5b24 = some r := h
      rw [hkk6] at h
      dsimp only at h
      clear hkk6
      refine aw_show (m := (memOf w0 Z0 [] [] [])) (S := (tab [(24, (Value.bool j5b24))])) ?_
      refine aw_cond rfl (fun hb7 => ?_) (fun hb7 => ?_)
      · replace h := bif_t hb7 h
        refine aw_seq ?_
        refine aw_region ?_
        refine al_val (ov_assign rfl rfl) ?_
        refine al_nil ?_
        refine aq_then ?_
        refine aw_ret ?_
        refine aq_then_ret ?_
        obtain rfl := Option.some.inj h
        exact fn_ret () [] [] rfl rfl rfl rfl (res1 rfl rfl) rfl rfl rfl (by decide)
      · replace h := bif_f hb7 h
        refine aw_skip ?_
        refine aq_then ?_
        refine aw_seq ?_
        refine aw_region ?_
        refine al_val (ov_assign rfl rfl) ?_
        refine al_nil ?_
        refine aq_then ?_
        refine aw_ret ?_
        obtain rfl := Option.some.inj h
        exact fn_ret () [] [] rfl rfl rfl rfl (res1 rfl rfl) rfl rfl rfl (by decide)
    · clear hkk6
      refine aw_region ?_
      refine al_val (ov_fieldA (p := 9) rfl Try.underlying72 rfl sz3 rfl rfl rfl) ?_
      refine al_val (ov_load (i := 0) (v := (Value.int .i64 a0.Pack)) rfl rfl Try.underlying3 sz3 rfl rfl rfl rfl) ?_
      refine al_val (ov_fieldA (p := 10) rfl Try.underlying72 rfl sz3 rfl rfl rfl) ?_
      refine al_val (ov_load (i := 0) (v := (Value.int .i64 a0.At)) rfl rfl Try.underlying3 sz3 rfl rfl rfl rfl) ?_
      refine al_val (ov_fieldA (p := 11) rfl Try.underlying72 rfl sz3 rfl rfl rfl) ?_
      refine al_val (ov_load (i := 0) (v := (Value.int .i64 a0.Len)) rfl rfl Try.underlying3 sz3 rfl rfl rfl rfl) ?_
      refine al_val (ov_min3 rfl rfl rfl rfl) ?_
      refine al_val (ov_int rfl rfl rfl rfl) ?_
      refine al_val (ov_move rfl rfl) ?_
      refine al_caseB 15 rfl (fun hb8 => ?_) (fun hb8 => ?_)
      · replace h := bif_t hb8 h
        refine al_skip ?_
        refine al_skip ?_
        refine al_skip ?_
        refine al_skip ?_
        refine al_skip ?_
        refine al_skip ?_
        refine al_skip ?_
        refine al_skip ?_
        refine al_val (ov_pick_t rfl rfl rfl) ?_
        refine al_nil ?_
        exact aq_join true h (fun w a hm hs => norm hm hs [] [] [(24, (Value.bool true))] (by decide) ⟨rfl, trivial⟩)
      · replace h := bif_f hb8 h
        refine al_val (ov_fieldA (p := 9) rfl Try.underlying72 rfl sz3 rfl rfl rfl) ?_
        refine al_val (ov_load (i := 0) (v := (Value.int .i64 a0.Pack)) rfl rfl Try.underlying3 sz3 rfl rfl rfl rfl) ?_
        refine al_val (ov_fieldA (p := 10) rfl Try.underlying72 rfl sz3 rfl rfl rfl) ?_
        refine al_val (ov_load (i := 0) (v := (Value.int .i64 a0.At)) rfl rfl Try.underlying3 sz3 rfl rfl rfl rfl) ?_
        refine al_val (ov_fieldA (p := 11) rfl Try.underlying72 rfl sz3 rfl rfl rfl) ?_
        refine al_val (ov_load (i := 0) (v := (Value.int .i64 a0.Len)) rfl rfl Try.underlying3 sz3 rfl rfl rfl rfl) ?_
        refine al_val (ov_max3 rfl rfl rfl rfl) ?_
        refine al_val (ov_int rfl rfl rfl rfl) ?_
        refine al_val (ov_pick_f rfl rfl rfl) ?_
        refine al_nil ?_
        exact aq_join (decide ((if a0.Len > (if a0.At > a0.Pack then a0.At else a0.Pack) then a0.Len else (if a0.At > a0.Pack then a0.At else a0.Pack)) > (1099511627776 : Int))) h (fun w a hm hs => norm hm hs [] [] [(24, (Value.bool (decide ((if a0.Len > (if a0.At > a0.Pack then a0.At else a0.Pack) then a0.Len else (if a0.At > a0.Pack then a0.At else a0.Pack)) > (1099511627776 : Int)))))] (by decide) ⟨rfl, trivial⟩)
def f_lumref_Index_L6 (a0 : (List S_api_Place)) (kk3 : (Unit → Option Int)) (fu : Nat) : Nat → Int → Option Int
  | 0, _ => none
  | k5 + 1, l4i11 => (bif (decide (l4i11 < (a0.length : Int))) then (opt (at? a0 l4i11) fun (u8 : S_api_Place) => (opt (f_lumref_placeErr fu u8) fun (r13 : Int) => (bif (r13 != (0 : Int)) then (some r13) else (lt (fun (j15b35 : Bool) => (bif j15b35 then (some (4 : Int)) else (f_lumref_Index_L6 a0 kk3 fu k5 (IntKind.i64.wrap (l4i11 + (1 : Int)))))) fun (kk16 : Bool → Option Int) => (bif (decide (l4i11 > (0 : Int))) then (opt (at? a0 (IntKind.i64.wrap (l4i11 - (1 : Int)))) fun (u19 : S_api_Place) => (kk16 (!Op.bytesLess (lA8u8 u19.ID) (lA8u8 u8.ID)))) else (kk16 false)))))) else (kk3 ()))
def f_lumref_Index (fu : Nat) (a0 : (List S_api_Place)) : Option Int := (bif (decide ((a0.length : Int) > (400 : Int))) then (some (2 : Int)) else (lt (fun (_ : Unit) => (some (0 : Int))) fun (kk3 : Unit → Option Int) => (f_lumref_Index_L6 a0 kk3 fu fu (0 : Int))))
set_option maxRecDepth 100000 in
theorem f_lumref_Index_ok (fu : Nat) (v0_0 : Value) (a0 : (List S_api_Place)) {r : Int} (h : f_lumref_Index fu a0 = some r) : FnOk Try.prog 41 [v0_0] [(fDat (tyList tyS_api_Place) [v0_0] a0)] [] (fun (i : Unit) => { val := (Value.int .i64 r) }) := by
  unfold f_lumref_Index at h
  refine fn_enter Try.func41 rfl Try.ntmps41 rfl (fun w0 Z0 => ?_)
  refine aw_seq ?_
  refine aw_region ?_
  refine al_val (ov_assign rfl rfl) ?_
  refine al_nil ?_
  refine aq_then ?_
  refine aw_seq ?_
  refine aw_seq ?_
  refine aw_region ?_
  refine al_val (ov_move rfl rfl) ?_
  refine al_val (ov_lenD 0 rfl rfl Try.underlying67 rfl) ?_
  refine al_val (ov_int rfl rfl rfl rfl) ?_
  refine al_nil ?_
  refine aq_then ?_
  refine aw_cond rfl (fun hb1 => ?_) (fun hb1 => ?_)
  · replace h := bif_t hb1 h
    refine aw_seq ?_
    refine aw_region ?_
    refine al_val (ov_assign rfl rfl) ?_
    refine al_nil ?_
    refine aq_then ?_
    refine aw_ret ?_
    refine aq_then_ret ?_
    obtain rfl := Option.some.inj h
    exact fn_ret () [] [] rfl rfl rfl rfl (res1 rfl rfl) rfl rfl rfl (by decide)
  · replace h := bif_f hb1 h
    refine aw_skip ?_
    refine aq_then ?_
    obtain ⟨kk3, hkk3, h⟩ := lt_some h
    refine aw_seq_join (ι := Unit) (fun i => (memOf w0 Z0 [] [] [(fDat (tyList tyS_api_Place) [v0_0] a0)])) (fun i => (tab [])) (fun i => kk3 () = some r) ?_ ?_
    · rintro _ h
      have h : kk3 () = some r := h
      rw [hkk3] at h
      dsimp only at h
      clear hkk3
      refine aw_show (m := (memOf w0 Z0 [] [] [(fDat (tyList tyS_api_Place) [v0_0] a0)])) (S := (tab [])) ?_
      refine aw_seq ?_
      refine aw_region ?_
      refine al_val (ov_assign rfl rfl) ?_
      refine al_nil ?_
      refine aq_then ?_
      refine aw_ret ?_
      obtain rfl := Option.some.inj h
      exact fn_ret () [] [] rfl rfl rfl rfl (res1 rfl rfl) rfl rfl rfl (by decide)
    · clear hkk3
      refine aw_seq ?_
      refine aw_region ?_
      refine al_val (ov_move rfl rfl) ?_
      refine al_val (ov_lenD 0 rfl rfl Try.underlying67 rfl) ?_
      refine al_val (ov_move rfl rfl) ?_
      refine al_nil ?_
      refine aq_then ?_
      refine aw_block ?_
      refine aw_state (aw_loop (ι := Int) (fun i => (memOf w0 Z0 [] [] [(fDat (tyList tyS_api_Place) [v0_0] a0)])) (fun i => (tab [(0, v0_0), (9, v0_0), (10, (Value.int .i64 (a0.length : Int))), (11, (Value.int .i64 i))])) (fun q i => f_lumref_Index_L6 a0 kk3 fu q i = some r) ?_ fu (0 : Int) h) (fun w a hm hs => norm hm hs [] [0] [(0, v0_0), (9, v0_0), (10, (Value.int .i64 (a0.length : Int))), (11, (Value.int .i64 (0 : Int)))] (by decide) ⟨rfl, rfl, rfl, rfl, trivial⟩)
      clear h
      rintro k5 l4i11 h
      have h : f_lumref_Index_L6 a0 kk3 fu k5 l4i11 = some r := h
      obtain _ | k5 := k5
      · rw [f_lumref_Index_L6] at h; cases h
      rw [f_lumref_Index_L6] at h
      refine aw_show (m := (memOf w0 Z0 [] [] [(fDat (tyList tyS_api_Place) [v0_0] a0)])) (S := (tab [(0, v0_0), (9, v0_0), (10, (Value.int .i64 (a0.length : Int))), (11, (Value.int .i64 l4i11))])) ?_
      refine aw_seq ?_
      refine aw_region ?_
      refine al_val (ov_int rfl rfl rfl rfl) ?_
      refine al_nil ?_
      refine aq_then ?_
      refine aw_seq ?_
      refine aw_cond rfl (fun hb7 => ?_) (fun hb7 => ?_)
      · replace h := bif_t hb7 h
        refine aw_skip ?_
        refine aq_then ?_
        refine aw_seq ?_
        refine aw_block ?_
        refine aw_seq ?_
        refine aw_region ?_
        refine al_val (ov_move rfl rfl) ?_
        obtain ⟨u8, hu9, h⟩ := opt_some h
        refine al_idxD 0 hu9 rfl rfl rfl Try.underlying67 sz72 rfl (fun p10 => ?_)
        refine al_val (ov_loadP (ds := ((cA8u8 u8.ID) ++ [(Value.int .i64 u8.Kind), (Value.int .i64 u8.Pack), (Value.int .i64 u8.At), (Value.int .i64 u8.Len)])) 0 rfl encS_api_Place rfl Try.underlying72 sz72 rfl rfl rfl) ?_
        refine al_alloc (zs := ((cA8u8 (A8u8.mk (0 : UInt8) (0 : UInt8) (0 : UInt8) (0 : UInt8) (0 : UInt8) (0 : UInt8) (0 : UInt8) (0 : UInt8))) ++ [(Value.int .i64 (0 : Int)), (Value.int .i64 (0 : Int)), (Value.int .i64 (0 : Int)), (Value.int .i64 (0 : Int))])) (zeroOf_to to72) rfl rfl (fun g11 => ?_)
        refine al_val (ov_assign rfl rfl) ?_
        refine al_store (i := 0) (vs := ((cA8u8 u8.ID) ++ [(Value.int .i64 u8.Kind), (Value.int .i64 u8.Pack), (Value.int .i64 u8.At), (Value.int .i64 u8.Len)])) (cs' := ((cA8u8 u8.ID) ++ [(Value.int .i64 u8.Kind), (Value.int .i64 u8.Pack), (Value.int .i64 u8.At), (Value.int .i64 u8.Len)])) rfl rfl rfl sz72 (cv_rfl rfl) rfl (co_app (oneA8u8 u8.ID) (co_val rfl (co_val rfl (co_val rfl (co_val rfl co_nil))))) (Nat.le_of_ble_eq_true rfl) rfl rfl ?_
        refine al_nil ?_
        refine aq_then ?_
        refine aw_seq ?_
        refine aw_seq ?_
        refine aw_region ?_
        refine al_val (ov_load (i := 0) (v := (ag ((cA8u8 u8.ID) ++ [(Value.int .i64 u8.Kind), (Value.int .i64 u8.Pack), (Value.int .i64 u8.At), (Value.int .i64 u8.Len)]))) rfl rfl Try.underlying72 sz72 rfl rfl rfl rfl) ?_
        obtain ⟨r13, hc12, h⟩ := opt_some h
        refine al_call (vs := [(ag ((cA8u8 u8.ID) ++ [(Value.int .i64 u8.Kind), (Value.int .i64 u8.Pack), (Value.int .i64 u8.At), (Value.int .i64 u8.Len)]))]) (f_lumref_placeErr_ok fu u8 hc12) [] [] [0] pre_nil rfl (by simp) (by decide) (.inl rfl) rfl Try.func86 rfl rfl rfl (fun _ => ?_)
        refine al_val (ov_assign rfl rfl) ?_
        refine al_nil ?_
        refine aq_then ?_
        refine aw_seq ?_
        refine aw_region ?_
        refine al_val (ov_move rfl rfl) ?_
        refine al_val (ov_int rfl rfl rfl rfl) ?_
        refine al_nil ?_
        refine aq_then ?_
        refine aw_cond rfl (fun hb14 => ?_) (fun hb14 => ?_)
        · replace h := bif_t hb14 h
          refine aw_seq ?_
          refine aw_region ?_
          refine al_val (ov_move rfl rfl) ?_
          refine al_val (ov_assign rfl rfl) ?_
          refine al_nil ?_
          refine aq_then ?_
          refine aw_ret ?_
          refine aq_then_ret ?_
          refine aq_block_ret ?_
          refine aq_then_ret ?_
          refine aq_then_ret ?_
          refine aq_block_ret ?_
          refine aq_then_ret ?_
          obtain rfl := Option.some.inj h
          exact fn_ret () [] [] rfl rfl rfl rfl (res1 rfl rfl) rfl rfl rfl (by decide)
        · replace h := bif_f hb14 h
          refine aw_skip ?_
          refine aq_then ?_
          obtain ⟨kk16, hkk16, h⟩ := lt_some h
          refine aw_seq_join (ι := Bool) (fun i => (memOf w0 Z0 [] [] [(fDat (tyList tyS_api_Place) [v0_0] a0), (fPtr tyS_api_Place p10 u8)])) (fun i => (tab [(0, v0_0), (9, v0_0), (10, (Value.int .i64 (a0.length : Int))), (11, (Value.int .i64 l4i11)), (35, (Value.bool i))])) (fun i => kk16 i = some r) ?_ ?_
          · rintro j15b35 h
            have h : kk16 j15b35 = some r := h
            rw [hkk16] at h
            dsimp only at h
            clear hkk16
            refine aw_show (m := (memOf w0 Z0 [] [] [(fDat (tyList tyS_api_Place) [v0_0] a0), (fPtr tyS_api_Place p10 u8)])) (S := (tab [(0, v0_0), (9, v0_0), (10, (Value.int .i64 (a0.length : Int))), (11, (Value.int .i64 l4i11)), (35, (Value.bool j15b35))])) ?_
            refine aw_cond rfl (fun hb17 => ?_) (fun hb17 => ?_)
            · replace h := bif_t hb17 h
              refine aw_seq ?_
              refine aw_region ?_
              refine al_val (ov_assign rfl rfl) ?_
              refine al_nil ?_
              refine aq_then ?_
              refine aw_ret ?_
              refine aq_block_ret ?_
              refine aq_then_ret ?_
              refine aq_then_ret ?_
              refine aq_block_ret ?_
              refine aq_then_ret ?_
              obtain rfl := Option.some.inj h
              exact fn_ret () [] [] rfl rfl rfl rfl (res1 rfl rfl) rfl rfl rfl (by decide)
            · replace h := bif_f hb17 h
              refine aw_skip ?_
              refine aq_block ?_
              refine aq_then ?_
              refine aw_region ?_
              refine al_val (ov_int rfl rfl rfl rfl) ?_
              refine al_val (ov_move rfl rfl) ?_
              refine al_nil ?_
              exact aq_again k5 (IntKind.i64.wrap (l4i11 + (1 : Int))) (Nat.lt_succ_self _) h (fun w a hm hs => norm hm hs [] [0] [(0, v0_0), (9, v0_0), (10, (Value.int .i64 (a0.length : Int))), (11, (Value.int .i64 (IntKind.i64.wrap (l4i11 + (1 : Int)))))] (by decide) ⟨rfl, rfl, rfl, rfl, trivial⟩)
          · clear hkk16
            refine aw_freezeB 0 (u8) rfl rfl (fun _ _ => mkS_api_Place rfl) ?_
            rcases Bool.eq_false_or_eq_true (decide (l4i11 > (0 : Int))) with hb18 | hb18
            · replace h := bif_t hb18 h
              obtain ⟨u19, hu20, h⟩ := opt_some h
              refine aw_region_draw 14 [(21, (fun u => fEq u (Value.int .i64 l4i11))), (22, (fun u => fEq u (Value.bool true))), (23, (fun u => fEq u (Value.bool true))), (24, (fun u => fEq u v0_0)), (25, (fun u => fEq u (Value.int .i64 l4i11))), (26, (fun u => fEq u (Value.int .i64 (IntKind.i64.wrap (l4i11 - (1 : Int)))))), (27, (fun p21 => (fPtr tyS_api_Place p21 u19))), (28, (fun p22 => (fPtr tyA8u8 p22 u19.ID))), (29, (fun s23 => (fDat (tyList tyU8) [s23] (lA8u8 u19.ID)))), (30, (fun u => fEq u (str (lA8u8 u19.ID)))), (31, (fun p24 => (fPtr tyA8u8 p24 u8.ID))), (32, (fun s25 => (fDat (tyList tyU8) [s25] (lA8u8 u8.ID)))), (33, (fun u => fEq u (str (lA8u8 u8.ID)))), (34, (fun u => fEq u (Value.bool (!Op.bytesLess (lA8u8 u19.ID) (lA8u8 u8.ID)))))] (tab [(0, v0_0), (3, (Value.int .i64 l4i11)), (4, (ptr g11 0)), (9, v0_0), (10, (Value.int .i64 (a0.length : Int))), (11, (Value.int .i64 l4i11))]) mixed (by kernel_rfl) rfl rfl rfl (fun a hs => hs.tab _ (allT_mem ⟨rfl, rfl, rfl, rfl, rfl, rfl, trivial⟩)) ⟨⟨rfl, ld_val (ov_move rfl rfl)⟩, ⟨rfl, ld_eq (j := 0) rfl rfl (ld_val (ov_cast (by first | rw [hb18] | rfl) (ov_int rfl rfl rfl rfl)))⟩, ⟨rfl, ld_eq (j := 1) rfl rfl (ld_val (ov_cast (by first | rw [hb18] | rfl) (ov_move rfl rfl)))⟩, ⟨rfl, ld_eq (j := 2) rfl rfl (ld_val (ov_move rfl rfl))⟩, ⟨rfl, ld_eq (j := 2) rfl rfl (ld_val (ov_move rfl rfl))⟩, ⟨rfl, ld_eq (j := 2) rfl rfl (ld_eq (j := 4) rfl rfl (ld_val (ov_int rfl rfl rfl rfl)))⟩, ⟨rfl, ld_eq (j := 2) rfl rfl (ld_eq (j := 3) rfl rfl (ld_eq (j := 5) rfl rfl (ld_of (of_idxD 2 hu20 rfl rfl rfl Try.underlying67 sz72 rfl))))⟩, ⟨rfl, ld_eq (j := 2) rfl rfl (ld_fact (j := 6) rfl rfl (fun p21 => ld_of (of_fieldD (pr := fun (y : S_api_Place) => y.ID) 0 rfl subS_api_Place_0 rfl Try.underlying72 rfl sz69 rfl rfl)))⟩, ⟨rfl, ld_eq (j := 2) rfl rfl (ld_fact (j := 7) rfl rfl (fun p22 => ld_of (of_sliceP 0 lrepA8u8 rfl rfl rfl rfl Try.underlying69 sz5 rfl)))⟩, ⟨rfl, ld_eq (j := 2) rfl rfl (ld_fact (j := 8) rfl rfl (fun s23 => ld_val (ov_toStr 0 rfl rfl Try.underlying44 Try.underlying5 Try.underlying9 rfl)))⟩, ⟨rfl, ld_eq (j := 2) rfl rfl (ld_of (of_fieldD (pr := fun (y : S_api_Place) => y.ID) 0 rfl subS_api_Place_0 rfl Try.underlying72 rfl sz69 rfl rfl))⟩, ⟨rfl, ld_eq (j := 2) rfl rfl (ld_fact (j := 10) rfl rfl (fun p24 => ld_of (of_sliceP 0 lrepA8u8 rfl rfl rfl rfl Try.underlying69 sz5 rfl)))⟩, ⟨rfl, ld_eq (j := 2) rfl rfl (ld_fact (j := 11) rfl rfl (fun s25 => ld_val (ov_toStr 0 rfl rfl Try.underlying44 Try.underlying5 Try.underlying9 rfl)))⟩, ⟨rfl, ld_eq (j := 2) rfl rfl (ld_eq (j := 9) rfl rfl (ld_eq (j := 12) rfl rfl (ld_val (ov_strCmp rfl rfl rfl rfl))))⟩, trivial⟩ ?_
              refine tl_eq 2 rfl ?_
              refine tl_eq 13 rfl ?_
              refine tl_done ?_
              refine al_val (ov_pick_t rfl rfl rfl) ?_
              refine al_nil ?_
              exact aq_join (!Op.bytesLess (lA8u8 u19.ID) (lA8u8 u8.ID)) h (fun w a hm hs => norm hm hs [] [2, 1] [(0, v0_0), (9, v0_0), (10, (Value.int .i64 (a0.length : Int))), (11, (Value.int .i64 l4i11)), (35, (Value.bool (!Op.bytesLess (lA8u8 u19.ID) (lA8u8 u8.ID))))] (by decide) ⟨rfl, rfl, rfl, rfl, rfl, trivial⟩)
            · replace h := bif_f hb18 h
              refine aw_region_draw 14 [(21, (fun u => fEq u (Value.int .i64 l4i11))), (22, (fun u => fEq u (Value.bool false))), (23, (fun u => fEq u (Value.bool false))), (24, (fun u => fEq u undef)), (25, (fun u => fEq u undef)), (26, (fun u => fEq u undef)), (27, (fun u => fEq u undef)), (28, (fun u => fEq u undef)), (29, (fun u => fEq u undef)), (30, (fun u => fEq u undef)), (31, (fun u => fEq u undef)), (32, (fun u => fEq u undef)), (33, (fun u => fEq u undef)), (34, (fun u => fEq u undef))] (tab [(0, v0_0), (3, (Value.int .i64 l4i11)), (4, (ptr g11 0)), (9, v0_0), (10, (Value.int .i64 (a0.length : Int))), (11, (Value.int .i64 l4i11))]) mixed (by kernel_rfl) rfl rfl rfl (fun a hs => hs.tab _ (allT_mem ⟨rfl, rfl, rfl, rfl, rfl, rfl, trivial⟩)) ⟨⟨rfl, ld_val (ov_move rfl rfl)⟩, ⟨rfl, ld_eq (j := 0) rfl rfl (ld_val (ov_cast (by first | rw [hb18] | rfl) (ov_int rfl rfl rfl rfl)))⟩, ⟨rfl, ld_eq (j := 1) rfl rfl (ld_val (ov_cast (by first | rw [hb18] | rfl) (ov_move rfl rfl)))⟩, ⟨rfl, ld_eq (j := 2) rfl rfl (ld_skip)⟩, ⟨rfl, ld_eq (j := 2) rfl rfl (ld_skip)⟩, ⟨rfl, ld_eq (j := 2) rfl rfl (ld_skip)⟩, ⟨rfl, ld_eq (j := 2) rfl rfl (ld_skip)⟩, ⟨rfl, ld_eq (j := 2) rfl rfl (ld_skip)⟩, ⟨rfl, ld_eq (j := 2) rfl rfl (ld_skip)⟩, ⟨rfl, ld_eq (j := 2) rfl rfl (ld_skip)⟩, ⟨rfl, ld_eq (j := 2) rfl rfl (ld_skip)⟩, ⟨rfl, ld_eq (j := 2) rfl rfl (ld_skip)⟩, ⟨rfl, ld_eq (j := 2) rfl rfl (ld_skip)⟩, ⟨rfl, ld_eq (j := 2) rfl rfl (ld_skip)⟩, trivial⟩ ?_
              refine tl_eq 2 rfl ?_
              refine tl_eq 13 rfl ?_
              refine tl_done ?_
              refine al_val (ov_pick_f rfl rfl rfl) ?_
              refine al_nil ?_
              exact aq_join false h (fun w a hm hs => norm hm hs [] [2, 1] [(0, v0_0), (9, v0_0), (10, (Value.int .i64 (a0.length : Int))), (11, (Value.int .i64 l4i11)), (35, (Value.bool false))] (by decide) ⟨rfl, rfl, rfl, rfl, rfl, trivial⟩)
      · replace h := bif_f hb7 h
        refine aw_exit ?_
        refine aq_then_exit ?_
        refine aq_then_exit ?_
        refine aq_block_exit ?_
        exact aq_join () h (fun w a hm hs => norm hm hs [] [0] [] (by decide) trivial)
def f_pack_Known (fu : Nat) (a0 : Int) : Option Bool := (lt (fun (j1b2 : Bool) => (some j1b2)) fun (kk2 : Bool → Option Bool) => (bif (decide (a0 ≥ (1 : Int))) then (kk2 (decide (a0 ≤ (3 : Int)))) else (kk2 false)))
set_option maxRecDepth 100000 in
theorem f_pack_Known_ok (fu : Nat) (a0 : Int) {r : Bool} (h : f_pack_Known fu a0 = some r) : FnOk Try.prog 114 [(Value.int .i64 a0)] [] [] (fun (i : Unit) => { val := (Value.bool r) }) := by
  unfold f_pack_Known at h
  refine fn_enter Try.func114 rfl Try.ntmps114 rfl (fun w0 Z0 => ?_)
  refine aw_seq ?_
  refine aw_region ?_
  refine al_val (ov_assign rfl rfl) ?_
  refine al_nil ?_
  refine aq_then ?_
  obtain ⟨kk2, hkk2, h⟩ := lt_some h
  refine aw_seq_join (ι := Bool) (fun i => (memOf w0 Z0 [] [] [])) (fun i => (tab [(2, (Value.bool i))])) (fun i => kk2 i = some r) ?_ ?_
  · rintro j1b2 h
    have h : kk2 j1b2 = some r := h
    rw [hkk2] at h
    dsimp only at h
    clear hkk2
    refine aw_show (m := (memOf w0 Z0 [] [] [])) (S := (tab [(2, (Value.bool j1b2))])) ?_
    refine aw_ret ?_
    obtain rfl := Option.some.inj h
    exact fn_ret () [] [] rfl rfl rfl rfl (res1 rfl rfl) rfl rfl rfl (by decide)
  · clear hkk2
    refine aw_region ?_
    refine al_val (ov_move rfl rfl) ?_
    refine al_val (ov_int rfl rfl rfl rfl) ?_
    refine al_val (ov_move rfl rfl) ?_
    refine al_caseB 5 rfl (fun hb3 => ?_) (fun hb3 => ?_)
    · replace h := bif_t hb3 h
      refine al_val (ov_move rfl rfl) ?_
      refine al_val (ov_int rfl rfl rfl rfl) ?_
      refine al_val (ov_pick_t rfl rfl rfl) ?_
      refine al_val (ov_assign rfl rfl) ?_
      refine al_nil ?_
      exact aq_join (decide (a0 ≤ (3 : Int))) h (fun w a hm hs => norm hm hs [] [] [(2, (Value.bool (decide (a0 ≤ (3 : Int)))))] (by decide) ⟨rfl, trivial⟩)
    · replace h := bif_f hb3 h
      refine al_skip ?_
      refine al_skip ?_
      refine al_val (ov_pick_f rfl rfl rfl) ?_
      refine al_val (ov_assign rfl rfl) ?_
      refine al_nil ?_
      exact aq_join false h (fun w a hm hs => norm hm hs [] [] [(2, (Value.bool false))] (by decide) ⟨rfl, trivial⟩)
def f_index_inRange (fu : Nat) (a0 : Int) : Option Bool := (lt (fun (j1b2 : Bool) => (some j1b2)) fun (kk2 : Bool → Option Bool) => (bif (decide (a0 ≥ (0 : Int))) then (kk2 (decide (a0 ≤ (1099511627776 : Int)))) else (kk2 false)))
set_option maxRecDepth 100000 in
theorem f_index_inRange_ok (fu : Nat) (a0 : Int) {r : Bool} (h : f_index_inRange fu a0 = some r) : FnOk Try.prog 115 [(Value.int .i64 a0)] [] [] (fun (i : Unit) => { val := (Value.bool r) }) := by
  unfold f_index_inRange at h
  refine fn_enter Try.func115 rfl Try.ntmps115 rfl (fun w0 Z0 => ?_)
  refine aw_seq ?_
  refine aw_region ?_
  refine al_val (ov_assign rfl rfl) ?_
  refine al_nil ?_
  refine aq_then ?_
  obtain ⟨kk2, hkk2, h⟩ := lt_some h
  refine aw_seq_join (ι := Bool) (fun i => (memOf w0 Z0 [] [] [])) (fun i => (tab [(2, (Value.bool i))])) (fun i => kk2 i = some r) ?_ ?_
  · rintro j1b2 h
    have h : kk2 j1b2 = some r := h
    rw [hkk2] at h
    dsimp only at h
    clear hkk2
    refine aw_show (m := (memOf w0 Z0 [] [] [])) (S := (tab [(2, (Value.bool j1b2))])) ?_
    refine aw_ret ?_
    obtain rfl := Option.some.inj h
    exact fn_ret () [] [] rfl rfl rfl rfl (res1 rfl rfl) rfl rfl rfl (by decide)
  · clear hkk2
    refine aw_region ?_
    refine al_val (ov_move rfl rfl) ?_
    refine al_val (ov_int rfl rfl rfl rfl) ?_
    refine al_val (ov_move rfl rfl) ?_
    refine al_caseB 5 rfl (fun hb3 => ?_) (fun hb3 => ?_)
    · replace h := bif_t hb3 h
      refine al_val (ov_move rfl rfl) ?_
      refine al_val (ov_int rfl rfl rfl rfl) ?_
      refine al_val (ov_pick_t rfl rfl rfl) ?_
      refine al_val (ov_assign rfl rfl) ?_
      refine al_nil ?_
      exact aq_join (decide (a0 ≤ (1099511627776 : Int))) h (fun w a hm hs => norm hm hs [] [] [(2, (Value.bool (decide (a0 ≤ (1099511627776 : Int)))))] (by decide) ⟨rfl, trivial⟩)
    · replace h := bif_f hb3 h
      refine al_skip ?_
      refine al_skip ?_
      refine al_val (ov_pick_f rfl rfl rfl) ?_
      refine al_val (ov_assign rfl rfl) ?_
      refine al_nil ?_
      exact aq_join false h (fun w a hm hs => norm hm hs [] [] [(2, (Value.bool false))] (by decide) ⟨rfl, trivial⟩)
def f_index_place (fu : Nat) (a0 : S_api_Place) : Option Int := (opt (f_pack_Known fu a0.Kind) fun (r3 : Bool) => (bif (!r3) then (some (5 : Int)) else (lt (fun (j5b8 : Bool) => (bif j5b8 then (some (1 : Int)) else (some (0 : Int)))) fun (kk6 : Bool → Option Int) => (opt (f_index_inRange fu a0.Pack) fun (r9 : Bool) => (bif (!r9) then (kk6 true) else (opt (f_index_inRange fu a0.At) fun (r12 : Bool) => (bif (!r12) then (kk6 true) else (opt (f_index_inRange fu a0.Len) fun (r15 : Bool) => (kk6 (!r15))))))))))
set_option maxRecDepth 100000 in
theorem f_index_place_ok (fu : Nat) (a0 : S_api_Place) {r : Int} (h : f_index_place fu a0 = some r) : FnOk Try.prog 90 [(ag ((cA8u8 a0.ID) ++ [(Value.int .i64 a0.Kind), (Value.int .i64 a0.Pack), (Value.int .i64 a0.At), (Value.int .i64 a0.Len)]))] [] [] (fun (i : Unit) => { val := (Value.int .i64 r) }) := by
  unfold f_index_place at h
  refine fn_enter Try.func90 rfl Try.ntmps90 rfl (fun w0 Z0 => ?_)
  refine aw_seq ?_
  refine aw_region ?_
  refine al_box (vs := ((cA8u8 a0.ID) ++ [(Value.int .i64 a0.Kind), (Value.int .i64 a0.Pack), (Value.int .i64 a0.At), (Value.int .i64 a0.Len)])) rfl (cv_rfl rfl) rfl (fun g1 => ?_)
  refine al_val (ov_assign rfl rfl) ?_
  refine al_nil ?_
  refine aq_then ?_
  refine aw_seq ?_
  refine aw_block ?_
  refine aw_seq ?_
  refine aw_region ?_
  refine al_val (ov_fieldA (p := 8) rfl Try.underlying72 rfl sz3 rfl rfl rfl) ?_
  refine al_val (ov_load (i := 0) (v := (Value.int .i64 a0.Kind)) rfl rfl Try.underlying3 sz3 rfl rfl rfl rfl) ?_
  obtain ⟨r3, hc2, h⟩ := opt_some h
  refine al_call (vs := [(Value.int .i64 a0.Kind)]) (f_pack_Known_ok fu a0.Kind hc2) [] [] [0] pre_nil rfl (by simp) (by decide) (.inl rfl) rfl Try.func114 rfl rfl rfl (fun _ => ?_)
  refine al_val (ov_not rfl rfl) ?_
  refine al_val (ov_assign rfl rfl) ?_
  refine al_nil ?_
  refine aq_then ?_
  refine aw_cond rfl (fun hb4 => ?_) (fun hb4 => ?_)
  · replace h := bif_t hb4 h
    refine aw_seq ?_
    refine aw_region ?_
    refine al_val (ov_assign rfl rfl) ?_
    refine al_nil ?_
    refine aq_then ?_
    refine aw_ret ?_
    refine aq_block_ret ?_
    refine aq_then_ret ?_
    obtain rfl := Option.some.inj h
    exact fn_ret () [] [] rfl rfl rfl rfl (res1 rfl rfl) rfl rfl rfl (by decide)
  · replace h := bif_f hb4 h
    obtain ⟨kk6, hkk6, h⟩ := lt_some h
    refine aw_seq_join (ι := Bool) (fun i => (memOf w0 Z0 [] [] [])) (fun i => (tab [(8, (Value.bool i))])) (fun i => kk6 i = some r) ?_ ?_
    · rintro j5b8 h
      have h : kk6 j5b8 = some r := h
      rw [hkk6] at h
      dsimp only at h
      clear hkk6
      refine aw_show (m := (memOf w0 Z0 [] [] [])) (S := (tab [(8, (Value.bool j5b8))])) ?_
      refine aw_cond rfl (fun hb7 => ?_) (fun hb7 => ?_)
      · replace h := bif_t hb7 h
        refine aw_seq ?_
        refine aw_region ?_
        refine al_val (ov_assign rfl rfl) ?_
        refine al_nil ?_
        refine aq_then ?_
        refine aw_ret ?_
        refine aq_block_ret ?_
        refine aq_then_ret ?_
        obtain rfl := Option.some.inj h
        exact fn_ret () [] [] rfl rfl rfl rfl (res1 rfl rfl) rfl rfl rfl (by decide)
      · replace h := bif_f hb7 h
        refine aw_skip ?_
        refine aq_block ?_
        refine aq_then ?_
        refine aw_seq ?_
        refine aw_region ?_
        refine al_val (ov_assign rfl rfl) ?_
        refine al_nil ?_
        refine aq_then ?_
        refine aw_ret ?_
        obtain rfl := Option.some.inj h
        exact fn_ret () [] [] rfl rfl rfl rfl (res1 rfl rfl) rfl rfl rfl (by decide)
    · clear hkk6
      refine aw_region ?_
      refine al_val (ov_fieldA (p := 9) rfl Try.underlying72 rfl sz3 rfl rfl rfl) ?_
      refine al_val (ov_load (i := 0) (v := (Value.int .i64 a0.Pack)) rfl rfl Try.underlying3 sz3 rfl rfl rfl rfl) ?_
      obtain ⟨r9, hc8, h⟩ := opt_some h
      refine al_call (vs := [(Value.int .i64 a0.Pack)]) (f_index_inRange_ok fu a0.Pack hc8) [] [] [0] pre_nil rfl (by simp) (by decide) (.inl rfl) rfl Try.func115 rfl rfl rfl (fun _ => ?_)
      refine al_val (ov_not rfl rfl) ?_
      refine al_val (ov_move rfl rfl) ?_
      refine al_caseB 13 rfl (fun hb10 => ?_) (fun hb10 => ?_)
      · replace h := bif_t hb10 h
        refine al_skip ?_
        refine al_skip ?_
        refine al_skip ?_
        refine al_skip ?_
        refine al_val (ov_pick_t rfl rfl rfl) ?_
        refine al_val (ov_move rfl rfl) ?_
        refine al_skip ?_
        refine al_skip ?_
        refine al_skip ?_
        refine al_skip ?_
        refine al_val (ov_pick_t rfl rfl rfl) ?_
        refine al_val (ov_assign rfl rfl) ?_
        refine al_nil ?_
        exact aq_join true h (fun w a hm hs => norm hm hs [] [] [(8, (Value.bool true))] (by decide) ⟨rfl, trivial⟩)
      · replace h := bif_f hb10 h
        refine al_val (ov_fieldA (p := 10) rfl Try.underlying72 rfl sz3 rfl rfl rfl) ?_
        refine al_val (ov_load (i := 0) (v := (Value.int .i64 a0.At)) rfl rfl Try.underlying3 sz3 rfl rfl rfl rfl) ?_
        obtain ⟨r12, hc11, h⟩ := opt_some h
        refine al_call (vs := [(Value.int .i64 a0.At)]) (f_index_inRange_ok fu a0.At hc11) [] [] [0] pre_nil rfl (by simp) (by decide) (.inl rfl) rfl Try.func115 rfl rfl rfl (fun _ => ?_)
        refine al_val (ov_not rfl rfl) ?_
        refine al_val (ov_pick_f rfl rfl rfl) ?_
        refine al_val (ov_move rfl rfl) ?_
        refine al_caseB 19 rfl (fun hb13 => ?_) (fun hb13 => ?_)
        · replace h := bif_t hb13 h
          refine al_skip ?_
          refine al_skip ?_
          refine al_skip ?_
          refine al_skip ?_
          refine al_val (ov_pick_t rfl rfl rfl) ?_
          refine al_val (ov_assign rfl rfl) ?_
          refine al_nil ?_
          exact aq_join true h (fun w a hm hs => norm hm hs [] [] [(8, (Value.bool true))] (by decide) ⟨rfl, trivial⟩)
        · replace h := bif_f hb13 h
          refine al_val (ov_fieldA (p := 11) rfl Try.underlying72 rfl sz3 rfl rfl rfl) ?_
          refine al_val (ov_load (i := 0) (v := (Value.int .i64 a0.Len)) rfl rfl Try.underlying3 sz3 rfl rfl rfl rfl) ?_
          obtain ⟨r15, hc14, h⟩ := opt_some h
          refine al_call (vs := [(Value.int .i64 a0.Len)]) (f_index_inRange_ok fu a0.Len hc14) [] [] [0] pre_nil rfl (by simp) (by decide) (.inl rfl) rfl Try.func115 rfl rfl rfl (fun _ => ?_)
          refine al_val (ov_not rfl rfl) ?_
          refine al_val (ov_pick_f rfl rfl rfl) ?_
          refine al_val (ov_assign rfl rfl) ?_
          refine al_nil ?_
          exact aq_join (!r15) h (fun w a hm hs => norm hm hs [] [] [(8, (Value.bool (!r15)))] (by decide) ⟨rfl, trivial⟩)
def f_bytes_Compare (fu : Nat) (a0 : (List UInt8)) (a1 : (List UInt8)) : Option Int := (some (Lib.compareBytes a0 a1))
set_option maxRecDepth 100000 in
theorem f_bytes_Compare_ok (fu : Nat) (v0_0 : Value) (a0 : (List UInt8)) (v1_0 : Value) (a1 : (List UInt8)) {r : Int} (h : f_bytes_Compare fu a0 a1 = some r) : FnOk Try.prog 113 [v0_0, v1_0] [(fDat (tyList tyU8) [v0_0] a0), (fDat (tyList tyU8) [v1_0] a1)] [] (fun (i : Unit) => { val := (Value.int .i64 r) }) := by
  unfold f_bytes_Compare at h
  refine fn_enter Try.func113 rfl Try.ntmps113 rfl (fun w0 Z0 => ?_)
  refine aw_seq ?_
  refine aw_region ?_
  refine al_val (ov_assign rfl rfl) ?_
  refine al_nil ?_
  refine aq_then ?_
  refine aw_seq ?_
  refine aw_region ?_
  refine al_val (ov_move rfl rfl) ?_
  refine al_val (ov_move rfl rfl) ?_
  refine al_val (v := (Value.int .i64 (Lib.compareBytes a0 a1))) (ov_bytesCmp 0 1 rfl rfl rfl rfl Try.func119 rfl rfl rfl rfl rfl) ?_
  refine al_val (ov_assign rfl rfl) ?_
  refine al_nil ?_
  refine aq_then ?_
  refine aw_ret ?_
  obtain rfl := Option.some.inj h
  exact fn_ret () [] [] rfl rfl rfl rfl (res1 rfl rfl) rfl rfl rfl (by decide)
def f_index_Compare (fu : Nat) (a0 : A8u8) (a1 : A8u8) : Option Int := (opt (f_bytes_Compare fu (lA8u8 a0) (lA8u8 a1)) fun (r6 : Int) => (some r6))
set_option maxRecDepth 100000 in
theorem f_index_Compare_ok (fu : Nat) (a0 : A8u8) (a1 : A8u8) {r : Int} (h : f_index_Compare fu a0 a1 = some r) : FnOk Try.prog 89 [(ag (cA8u8 a0)), (ag (cA8u8 a1))] [] [] (fun (i : Unit) => { val := (Value.int .i64 r) }) := by
  unfold f_index_Compare at h
  refine fn_enter Try.func89 rfl Try.ntmps89 rfl (fun w0 Z0 => ?_)
  refine aw_seq ?_
  refine aw_region ?_
  refine al_box (vs := (cA8u8 a0)) rfl (cv_rfl rfl) rfl (fun g1 => ?_)
  refine al_box (vs := (cA8u8 a1)) rfl (cv_rfl rfl) rfl (fun g2 => ?_)
  refine al_val (ov_assign rfl rfl) ?_
  refine al_nil ?_
  refine aq_then ?_
  refine aw_seq ?_
  refine aw_freezeB 1 (a0) rfl rfl (fun _ _ => mkA8u8 rfl) ?_
  refine aw_freezeB 0 (a1) rfl rfl (fun _ _ => mkA8u8 rfl) ?_
  obtain ⟨r6, hc5, h⟩ := opt_some h
  refine aw_region_draw 3 [(5, (fun s3 => (fDat (tyList tyU8) [s3] (lA8u8 a0)))), (6, (fun s4 => (fDat (tyList tyU8) [s4] (lA8u8 a1)))), (7, (fun u => fEq u (Value.int .i64 r6)))] (tab [(2, (ptr g1 0)), (3, (ptr g2 0)), (4, (Value.int .i64 (0 : Int)))]) mixed (by kernel_rfl) rfl rfl rfl (fun a hs => hs.tab _ (allT_mem ⟨rfl, rfl, rfl, trivial⟩)) ⟨⟨rfl, ld_of (of_sliceP 1 lrepA8u8 rfl rfl rfl rfl Try.underlying69 sz5 rfl)⟩, ⟨rfl, ld_of (of_sliceP 0 lrepA8u8 rfl rfl rfl rfl Try.underlying69 sz5 rfl)⟩, ⟨rfl, ld_fact (j := 0) rfl rfl (fun s3 => ld_fact (j := 1) rfl rfl (fun s4 => ld_callV (vs := [s3, s4]) (f_bytes_Compare_ok fu s3 (lA8u8 a0) s4 (lA8u8 a1) hc5) [] (pre_fz 1 rfl (pre_fz 0 rfl pre_nil)) rfl Try.func113 rfl rfl rfl))⟩, trivial⟩ ?_
  refine tl_eq 2 rfl ?_
  refine tl_done ?_
  refine al_val (ov_assign rfl rfl) ?_
  refine al_nil ?_
  refine aq_then ?_
  refine aw_ret ?_
  obtain rfl := Option.some.inj h
  exact fn_ret () [] [] rfl rfl rfl rfl (res1 rfl rfl) rfl rfl rfl (by decide)
def f_index_Check_L6 (a0 : (List S_api_Place)) (kk3 : (Unit → Option Int)) (fu : Nat) : Nat → Int → Option Int
  | 0, _ => none
  | k5 + 1, l4i11 => (bif (decide (l4i11 < (a0.length : Int))) then (opt (at? a0 l4i11) fun (u8 : S_api_Place) => (opt (f_index_place fu u8) fun (r13 : Int) => (bif (r13 != (0 : Int)) then (some r13) else (lt (fun (j15b34 : Bool) => (bif j15b34 then (some (4 : Int)) else (f_index_Check_L6 a0 kk3 fu k5 (IntKind.i64.wrap (l4i11 + (1 : Int)))))) fun (kk16 : Bool → Option Int) => (bif (decide (l4i11 > (0 : Int))) then (opt (at? a0 (IntKind.i64.wrap (l4i11 - (1 : Int)))) fun (u19 : S_api_Place) => (opt (f_index_Compare fu u8.ID u19.ID) fun (r24 : Int) => (kk16 (decide (r24 ≤ (0 : Int)))))) else (kk16 false)))))) else (kk3 ()))
def f_index_Check (fu : Nat) (a0 : (List S_api_Place)) : Option Int := (bif (decide ((a0.length : Int) > (400 : Int))) then (some (2 : Int)) else (lt (fun (_ : Unit) => (some (0 : Int))) fun (kk3 : Unit → Option Int) => (f_index_Check_L6 a0 kk3 fu fu (0 : Int))))
set_option maxRecDepth 100000 in
theorem f_index_Check_ok (fu : Nat) (v0_0 : Value) (a0 : (List S_api_Place)) {r : Int} (h : f_index_Check fu a0 = some r) : FnOk Try.prog 45 [v0_0] [(fDat (tyList tyS_api_Place) [v0_0] a0)] [] (fun (i : Unit) => { val := (Value.int .i64 r) }) := by
  unfold f_index_Check at h
  refine fn_enter Try.func45 rfl Try.ntmps45 rfl (fun w0 Z0 => ?_)
  refine aw_seq ?_
  refine aw_region ?_
  refine al_val (ov_assign rfl rfl) ?_
  refine al_nil ?_
  refine aq_then ?_
  refine aw_seq ?_
  refine aw_seq ?_
  refine aw_region ?_
  refine al_val (ov_move rfl rfl) ?_
  refine al_val (ov_lenD 0 rfl rfl Try.underlying67 rfl) ?_
  refine al_val (ov_int rfl rfl rfl rfl) ?_
  refine al_nil ?_
  refine aq_then ?_
  refine aw_cond rfl (fun hb1 => ?_) (fun hb1 => ?_)
  · replace h := bif_t hb1 h
    refine aw_seq ?_
    refine aw_region ?_
    refine al_val (ov_assign rfl rfl) ?_
    refine al_nil ?_
    refine aq_then ?_
    refine aw_ret ?_
    refine aq_then_ret ?_
    obtain rfl := Option.some.inj h
    exact fn_ret () [] [] rfl rfl rfl rfl (res1 rfl rfl) rfl rfl rfl (by decide)
  · replace h := bif_f hb1 h
    refine aw_skip ?_
    refine aq_then ?_
    obtain ⟨kk3, hkk3, h⟩ := lt_some h
    refine aw_seq_join (ι := Unit) (fun i => (memOf w0 Z0 [] [] [(fDat (tyList tyS_api_Place) [v0_0] a0)])) (fun i => (tab [])) (fun i => kk3 () = some r) ?_ ?_
    · rintro _ h
      have h : kk3 () = some r := h
      rw [hkk3] at h
      dsimp only at h
      clear hkk3
      refine aw_show (m := (memOf w0 Z0 [] [] [(fDat (tyList tyS_api_Place) [v0_0] a0)])) (S := (tab [])) ?_
      refine aw_seq ?_
      refine aw_region ?_
      refine al_val (ov_assign rfl rfl) ?_
      refine al_nil ?_
      refine aq_then ?_
      refine aw_ret ?_
      obtain rfl := Option.some.inj h
      exact fn_ret () [] [] rfl rfl rfl rfl (res1 rfl rfl) rfl rfl rfl (by decide)
    · clear hkk3
      refine aw_seq ?_
      refine aw_region ?_
      refine al_val (ov_move rfl rfl) ?_
      refine al_val (ov_lenD 0 rfl rfl Try.underlying67 rfl) ?_
      refine al_val (ov_move rfl rfl) ?_
      refine al_nil ?_
      refine aq_then ?_
      refine aw_block ?_
      refine aw_state (aw_loop (ι := Int) (fun i => (memOf w0 Z0 [] [] [(fDat (tyList tyS_api_Place) [v0_0] a0)])) (fun i => (tab [(0, v0_0), (9, v0_0), (10, (Value.int .i64 (a0.length : Int))), (11, (Value.int .i64 i))])) (fun q i => f_index_Check_L6 a0 kk3 fu q i = some r) ?_ fu (0 : Int) h) (fun w a hm hs => norm hm hs [] [0] [(0, v0_0), (9, v0_0), (10, (Value.int .i64 (a0.length : Int))), (11, (Value.int .i64 (0 : Int)))] (by decide) ⟨rfl, rfl, rfl, rfl, trivial⟩)
      clear h
      rintro k5 l4i11 h
      have h : f_index_Check_L6 a0 kk3 fu k5 l4i11 = some r := h
      obtain _ | k5 := k5
      · rw [f_index_Check_L6] at h; cases h
      rw [f_index_Check_L6] at h
      refine aw_show (m := (memOf w0 Z0 [] [] [(fDat (tyList tyS_api_Place) [v0_0] a0)])) (S := (tab [(0, v0_0), (9, v0_0), (10, (Value.int .i64 (a0.length : Int))), (11, (Value.int .i64 l4i11))])) ?_
      refine aw_seq ?_
      refine aw_region ?_
      refine al_val (ov_int rfl rfl rfl rfl) ?_
      refine al_nil ?_
      refine aq_then ?_
      refine aw_seq ?_
      refine aw_cond rfl (fun hb7 => ?_) (fun hb7 => ?_)
      · replace h := bif_t hb7 h
        refine aw_skip ?_
        refine aq_then ?_
        refine aw_seq ?_
        refine aw_block ?_
        refine aw_seq ?_
        refine aw_region ?_
        refine al_val (ov_move rfl rfl) ?_
        obtain ⟨u8, hu9, h⟩ := opt_some h
        refine al_idxD 0 hu9 rfl rfl rfl Try.underlying67 sz72 rfl (fun p10 => ?_)
        refine al_val (ov_loadP (ds := ((cA8u8 u8.ID) ++ [(Value.int .i64 u8.Kind), (Value.int .i64 u8.Pack), (Value.int .i64 u8.At), (Value.int .i64 u8.Len)])) 0 rfl encS_api_Place rfl Try.underlying72 sz72 rfl rfl rfl) ?_
        refine al_alloc (zs := ((cA8u8 (A8u8.mk (0 : UInt8) (0 : UInt8) (0 : UInt8) (0 : UInt8) (0 : UInt8) (0 : UInt8) (0 : UInt8) (0 : UInt8))) ++ [(Value.int .i64 (0 : Int)), (Value.int .i64 (0 : Int)), (Value.int .i64 (0 : Int)), (Value.int .i64 (0 : Int))])) (zeroOf_to to72) rfl rfl (fun g11 => ?_)
        refine al_val (ov_assign rfl rfl) ?_
        refine al_store (i := 0) (vs := ((cA8u8 u8.ID) ++ [(Value.int .i64 u8.Kind), (Value.int .i64 u8.Pack), (Value.int .i64 u8.At), (Value.int .i64 u8.Len)])) (cs' := ((cA8u8 u8.ID) ++ [(Value.int .i64 u8.Kind), (Value.int .i64 u8.Pack), (Value.int .i64 u8.At), (Value.int .i64 u8.Len)])) rfl rfl rfl sz72 (cv_rfl rfl) rfl (co_app (oneA8u8 u8.ID) (co_val rfl (co_val rfl (co_val rfl (co_val rfl co_nil))))) (Nat.le_of_ble_eq_true rfl) rfl rfl ?_
        refine al_nil ?_
        refine aq_then ?_
        refine aw_seq ?_
        refine aw_seq ?_
        refine aw_region ?_
        refine al_val (ov_load (i := 0) (v := (ag ((cA8u8 u8.ID) ++ [(Value.int .i64 u8.Kind), (Value.int .i64 u8.Pack), (Value.int .i64 u8.At), (Value.int .i64 u8.Len)]))) rfl rfl Try.underlying72 sz72 rfl rfl rfl rfl) ?_
        obtain ⟨r13, hc12, h⟩ := opt_some h
        refine al_call (vs := [(ag ((cA8u8 u8.ID) ++ [(Value.int .i64 u8.Kind), (Value.int .i64 u8.Pack), (Value.int .i64 u8.At), (Value.int .i64 u8.Len)]))]) (f_index_place_ok fu u8 hc12) [] [] [0] pre_nil rfl (by simp) (by decide) (.inl rfl) rfl Try.func90 rfl rfl rfl (fun _ => ?_)
        refine al_val (ov_assign rfl rfl) ?_
        refine al_nil ?_
        refine aq_then ?_
        refine aw_seq ?_
        refine aw_region ?_
        refine al_val (ov_move rfl rfl) ?_
        refine al_val (ov_int rfl rfl rfl rfl) ?_
        refine al_nil ?_
        refine aq_then ?_
        refine aw_cond rfl (fun hb14 => ?_) (fun hb14 => ?_)
        · replace h := bif_t hb14 h
          refine aw_seq ?_
          refine aw_region ?_
          refine al_val (ov_move rfl rfl) ?_
          refine al_val (ov_assign rfl rfl) ?_
          refine al_nil ?_
          refine aq_then ?_
          refine aw_ret ?_
          refine aq_then_ret ?_
          refine aq_block_ret ?_
          refine aq_then_ret ?_
          refine aq_then_ret ?_
          refine aq_block_ret ?_
          refine aq_then_ret ?_
          obtain rfl := Option.some.inj h
          exact fn_ret () [] [] rfl rfl rfl rfl (res1 rfl rfl) rfl rfl rfl (by decide)
        · replace h := bif_f hb14 h
          refine aw_skip ?_
          refine aq_then ?_
          obtain ⟨kk16, hkk16, h⟩ := lt_some h
          refine aw_seq_join (ι := Bool) (fun i => (memOf w0 Z0 [] [] [(fDat (tyList tyS_api_Place) [v0_0] a0), (fPtr tyS_api_Place p10 u8)])) (fun i => (tab [(0, v0_0), (9, v0_0), (10, (Value.int .i64 (a0.length : Int))), (11, (Value.int .i64 l4i11)), (34, (Value.bool i))])) (fun i => kk16 i = some r) ?_ ?_
          · rintro j15b34 h
            have h : kk16 j15b34 = some r := h
            rw [hkk16] at h
            dsimp only at h
            clear hkk16
            refine aw_show (m := (memOf w0 Z0 [] [] [(fDat (tyList tyS_api_Place) [v0_0] a0), (fPtr tyS_api_Place p10 u8)])) (S := (tab [(0, v0_0), (9, v0_0), (10, (Value.int .i64 (a0.length : Int))), (11, (Value.int .i64 l4i11)), (34, (Value.bool j15b34))])) ?_
            refine aw_cond rfl (fun hb17 => ?_) (fun hb17 => ?_)
            · replace h := bif_t hb17 h
              refine aw_seq ?_
              refine aw_region ?_
              refine al_val (ov_assign rfl rfl) ?_
              refine al_nil ?_
              refine aq_then ?_
              refine aw_ret ?_
              refine aq_block_ret ?_
              refine aq_then_ret ?_
              refine aq_then_ret ?_
              refine aq_block_ret ?_
              refine aq_then_ret ?_
              obtain rfl := Option.some.inj h
              exact fn_ret () [] [] rfl rfl rfl rfl (res1 rfl rfl) rfl rfl rfl (by decide)
            · replace h := bif_f hb17 h
              refine aw_skip ?_
              refine aq_block ?_
              refine aq_then ?_
              refine aw_region ?_
              refine al_val (ov_int rfl rfl rfl rfl) ?_
              refine al_val (ov_move rfl rfl) ?_
              refine al_nil ?_
              exact aq_again k5 (IntKind.i64.wrap (l4i11 + (1 : Int))) (Nat.lt_succ_self _) h (fun w a hm hs => norm hm hs [] [0] [(0, v0_0), (9, v0_0), (10, (Value.int .i64 (a0.length : Int))), (11, (Value.int .i64 (IntKind.i64.wrap (l4i11 + (1 : Int)))))] (by decide) ⟨rfl, rfl, rfl, rfl, trivial⟩)
          · clear hkk16
            rcases Bool.eq_false_or_eq_true (decide (l4i11 > (0 : Int))) with hb18 | hb18
            · replace h := bif_t hb18 h
              obtain ⟨u19, hu20, h⟩ := opt_some h
              obtain ⟨r24, hc23, h⟩ := opt_some h
              refine aw_region_draw 13 [(21, (fun u => fEq u (Value.int .i64 l4i11))), (22, (fun u => fEq u (Value.bool true))), (23, (fun u => fEq u (Value.bool true))), (24, (fun u => fEq u (ptr g11 0))), (25, (fun u => fEq u (ag (cA8u8 u8.ID)))), (26, (fun u => fEq u v0_0)), (27, (fun u => fEq u (Value.int .i64 l4i11))), (28, (fun u => fEq u (Value.int .i64 (IntKind.i64.wrap (l4i11 - (1 : Int)))))), (29, (fun p21 => (fPtr tyS_api_Place p21 u19))), (30, (fun p22 => (fPtr tyA8u8 p22 u19.ID))), (31, (fun u => fEq u (ag (cA8u8 u19.ID)))), (32, (fun u => fEq u (Value.int .i64 r24))), (33, (fun u => fEq u (Value.bool (decide (r24 ≤ (0 : Int))))))] (tab [(0, v0_0), (3, (Value.int .i64 l4i11)), (4, (ptr g11 0)), (9, v0_0), (10, (Value.int .i64 (a0.length : Int))), (11, (Value.int .i64 l4i11))]) mixed (by kernel_rfl) rfl rfl rfl (fun a hs => hs.tab _ (allT_mem ⟨rfl, rfl, rfl, rfl, rfl, rfl, trivial⟩)) ⟨⟨rfl, ld_val (ov_move rfl rfl)⟩, ⟨rfl, ld_eq (j := 0) rfl rfl (ld_val (ov_cast (by first | rw [hb18] | rfl) (ov_int rfl rfl rfl rfl)))⟩, ⟨rfl, ld_eq (j := 1) rfl rfl (ld_val (ov_cast (by first | rw [hb18] | rfl) (ov_move rfl rfl)))⟩, ⟨rfl, ld_eq (j := 2) rfl rfl (ld_val (ov_fieldA (p := 0) rfl Try.underlying72 rfl sz69 rfl rfl rfl))⟩, ⟨rfl, ld_eq (j := 2) rfl rfl (ld_eq (j := 3) rfl rfl (ld_val (ov_load (i := 0) (v := (ag (cA8u8 u8.ID))) rfl rfl Try.underlying69 sz69 rfl rfl rfl rfl)))⟩, ⟨rfl, ld_eq (j := 2) rfl rfl (ld_val (ov_move rfl rfl))⟩, ⟨rfl, ld_eq (j := 2) rfl rfl (ld_val (ov_move rfl rfl))⟩, ⟨rfl, ld_eq (j := 2) rfl rfl (ld_eq (j := 6) rfl rfl (ld_val (ov_int rfl rfl rfl rfl)))⟩, ⟨rfl, ld_eq (j := 2) rfl rfl (ld_eq (j := 5) rfl rfl (ld_eq (j := 7) rfl rfl (ld_of (of_idxD 1 hu20 rfl rfl rfl Try.underlying67 sz72 rfl))))⟩, ⟨rfl, ld_eq (j := 2) rfl rfl (ld_fact (j := 8) rfl rfl (fun p21 => ld_of (of_fieldD (pr := fun (y : S_api_Place) => y.ID) 0 rfl subS_api_Place_0 rfl Try.underlying72 rfl sz69 rfl rfl)))⟩, ⟨rfl, ld_eq (j := 2) rfl rfl (ld_fact (j := 9) rfl rfl (fun p22 => ld_val (ov_loadP (ds := (cA8u8 u19.ID)) 0 rfl encA8u8 rfl Try.underlying69 sz69 rfl rfl rfl)))⟩, ⟨rfl, ld_eq (j := 2) rfl rfl (ld_eq (j := 4) rfl rfl (ld_eq (j := 10) rfl rfl (ld_callV (vs := [(ag (cA8u8 u8.ID)), (ag (cA8u8 u19.ID))]) (f_index_Compare_ok fu u8.ID u19.ID hc23) [] pre_nil rfl Try.func89 rfl rfl rfl)))⟩, ⟨rfl, ld_eq (j := 2) rfl rfl (ld_eq (j := 11) rfl rfl (ld_val (ov_int rfl rfl rfl rfl)))⟩, trivial⟩ ?_
              refine tl_eq 2 rfl ?_
              refine tl_eq 12 rfl ?_
              refine tl_done ?_
              refine al_val (ov_pick_t rfl rfl rfl) ?_
              refine al_nil ?_
              exact aq_join (decide (r24 ≤ (0 : Int))) h (fun w a hm hs => norm hm hs [] [1, 0] [(0, v0_0), (9, v0_0), (10, (Value.int .i64 (a0.length : Int))), (11, (Value.int .i64 l4i11)), (34, (Value.bool (decide (r24 ≤ (0 : Int)))))] (by decide) ⟨rfl, rfl, rfl, rfl, rfl, trivial⟩)
            · replace h := bif_f hb18 h
              refine aw_region_draw 13 [(21, (fun u => fEq u (Value.int .i64 l4i11))), (22, (fun u => fEq u (Value.bool false))), (23, (fun u => fEq u (Value.bool false))), (24, (fun u => fEq u undef)), (25, (fun u => fEq u undef)), (26, (fun u => fEq u undef)), (27, (fun u => fEq u undef)), (28, (fun u => fEq u undef)), (29, (fun u => fEq u undef)), (30, (fun u => fEq u undef)), (31, (fun u => fEq u undef)), (32, (fun u => fEq u undef)), (33, (fun u => fEq u undef))] (tab [(0, v0_0), (3, (Value.int .i64 l4i11)), (4, (ptr g11 0)), (9, v0_0), (10, (Value.int .i64 (a0.length : Int))), (11, (Value.int .i64 l4i11))]) mixed (by kernel_rfl) rfl rfl rfl (fun a hs => hs.tab _ (allT_mem ⟨rfl, rfl, rfl, rfl, rfl, rfl, trivial⟩)) ⟨⟨rfl, ld_val (ov_move rfl rfl)⟩, ⟨rfl, ld_eq (j := 0) rfl rfl (ld_val (ov_cast (by first | rw [hb18] | rfl) (ov_int rfl rfl rfl rfl)))⟩, ⟨rfl, ld_eq (j := 1) rfl rfl (ld_val (ov_cast (by first | rw [hb18] | rfl) (ov_move rfl rfl)))⟩, ⟨rfl, ld_eq (j := 2) rfl rfl (ld_skip)⟩, ⟨rfl, ld_eq (j := 2) rfl rfl (ld_skip)⟩, ⟨rfl, ld_eq (j := 2) rfl rfl (ld_skip)⟩, ⟨rfl, ld_eq (j := 2) rfl rfl (ld_skip)⟩, ⟨rfl, ld_eq (j := 2) rfl rfl (ld_skip)⟩, ⟨rfl, ld_eq (j := 2) rfl rfl (ld_skip)⟩, ⟨rfl, ld_eq (j := 2) rfl rfl (ld_skip)⟩, ⟨rfl, ld_eq (j := 2) rfl rfl (ld_skip)⟩, ⟨rfl, ld_eq (j := 2) rfl rfl (ld_skip)⟩, ⟨rfl, ld_eq (j := 2) rfl rfl (ld_skip)⟩, trivial⟩ ?_
              refine tl_eq 2 rfl ?_
              refine tl_eq 12 rfl ?_
              refine tl_done ?_
              refine al_val (ov_pick_f rfl rfl rfl) ?_
              refine al_nil ?_
              exact aq_join false h (fun w a hm hs => norm hm hs [] [1, 0] [(0, v0_0), (9, v0_0), (10, (Value.int .i64 (a0.length : Int))), (11, (Value.int .i64 l4i11)), (34, (Value.bool false))] (by decide) ⟨rfl, rfl, rfl, rfl, rfl, trivial⟩)
      · replace h := bif_f hb7 h
        refine aw_exit ?_
        refine aq_then_exit ?_
        refine aq_then_exit ?_
        refine aq_block_exit ?_
        exact aq_join () h (fun w a hm hs => norm hm hs [] [0] [] (by decide) trivial)
-- STUCK slices.BinarySearchFunc[[]lumberroom/api.Place,lumberroom/api.Place,lumberroom/api.ID]: lty ['func', [72, 69], [3], False]
def f_index_Find_1 (fu : Nat) (a0 : S_api_Place) (a1 : A8u8) : Option Int := (opt (f_index_Compare fu a0.ID a1) fun (r4 : Int) => (some r4))
set_option maxRecDepth 100000 in
theorem f_index_Find_1_ok (fu : Nat) (a0 : S_api_Place) (a1 : A8u8) {r : Int} (h : f_index_Find_1 fu a0 a1 = some r) : FnOk Try.prog 88 [(ag ((cA8u8 a0.ID) ++ [(Value.int .i64 a0.Kind), (Value.int .i64 a0.Pack), (Value.int .i64 a0.At), (Value.int .i64 a0.Len)])), (ag (cA8u8 a1))] [] [] (fun (i : Unit) => { val := (Value.int .i64 r) }) := by
  unfold f_index_Find_1 at h
  refine fn_enter Try.func88 rfl Try.ntmps88 rfl (fun w0 Z0 => ?_)
  refine aw_seq ?_
  refine aw_region ?_
  refine al_box (vs := ((cA8u8 a0.ID) ++ [(Value.int .i64 a0.Kind), (Value.int .i64 a0.Pack), (Value.int .i64 a0.At), (Value.int .i64 a0.Len)])) rfl (cv_rfl rfl) rfl (fun g1 => ?_)
  refine al_box (vs := (cA8u8 a1)) rfl (cv_rfl rfl) rfl (fun g2 => ?_)
  refine al_val (ov_assign rfl rfl) ?_
  refine al_nil ?_
  refine aq_then ?_
  refine aw_seq ?_
  refine aw_region ?_
  refine al_val (ov_fieldA (p := 0) rfl Try.underlying72 rfl sz69 rfl rfl rfl) ?_
  refine al_val (ov_load (i := 1) (v := (ag (cA8u8 a0.ID))) rfl rfl Try.underlying69 sz69 rfl rfl rfl rfl) ?_
  refine al_val (ov_load (i := 0) (v := (ag (cA8u8 a1))) rfl rfl Try.underlying69 sz69 rfl rfl rfl rfl) ?_
  obtain ⟨r4, hc3, h⟩ := opt_some h
  refine al_call (vs := [(ag (cA8u8 a0.ID)), (ag (cA8u8 a1))]) (f_index_Compare_ok fu a0.ID a1 hc3) [] [] [0, 1] pre_nil rfl (by simp) (by decide) (.inl rfl) rfl Try.func89 rfl rfl rfl (fun _ => ?_)
  refine al_val (ov_assign rfl rfl) ?_
  refine al_nil ?_
  refine aq_then ?_
  refine aw_ret ?_
  obtain rfl := Option.some.inj h
  exact fn_ret () [] [] rfl rfl rfl rfl (res1 rfl rfl) rfl rfl rfl (by decide)
def f_slices_BinarySearchFunc___api_Place_api_Place_api_ID__F88_L14 (a0 : (List S_api_Place)) (a1 : A8u8) (kk3 : (Int → Option (Int × Bool))) (fu : Nat) : Nat → Int → Int → Option (Int × Bool)
  | 0, _, _ => none
  | k13 + 1, l12i9, l12i10 => (bif (decide (l12i9 < l12i10)) then (opt (at? a0 (IntKind.i64.wrap (((IntKind.u64.wrap (IntKind.i64.wrap (l12i9 + l12i10)))).fdiv (2 ^ min ((1 : Int)).toNat (IntKind.bits .u64))))) fun (u16 : S_api_Place) => (opt (f_index_Find_1 fu u16 a1) fun (r20 : Int) => (bif (decide (r20 < (0 : Int))) then (f_slices_BinarySearchFunc___api_Place_api_Place_api_ID__F88_L14 a0 a1 kk3 fu k13 (IntKind.i64.wrap ((IntKind.i64.wrap (((IntKind.u64.wrap (IntKind.i64.wrap (l12i9 + l12i10)))).fdiv (2 ^ min ((1 : Int)).toNat (IntKind.bits .u64)))) + (1 : Int))) l12i10) else (f_slices_BinarySearchFunc___api_Place_api_Place_api_ID__F88_L14 a0 a1 kk3 fu k13 l12i9 (IntKind.i64.wrap (((IntKind.u64.wrap (IntKind.i64.wrap (l12i9 + l12i10)))).fdiv (2 ^ min ((1 : Int)).toNat (IntKind.bits .u64)))))))) else (kk3 l12i9))
def f_slices_BinarySearchFunc___api_Place_api_Place_api_ID__F88 (fu : Nat) (a0 : (List S_api_Place)) (a1 : A8u8) : Option (Int × Bool) := (lt (fun (j2i9 : Int) => (lt (fun (j4b7 : Bool) => (some (j2i9, j4b7))) fun (kk5 : Bool → Option (Int × Bool)) => (bif (decide (j2i9 < (a0.length : Int))) then (opt (at? a0 j2i9) fun (u7 : S_api_Place) => (opt (f_index_Find_1 fu u7 a1) fun (r11 : Int) => (kk5 (r11 == (0 : Int))))) else (kk5 false)))) fun (kk3 : Int → Option (Int × Bool)) => (f_slices_BinarySearchFunc___api_Place_api_Place_api_ID__F88_L14 a0 a1 kk3 fu fu (0 : Int) (a0.length : Int)))
set_option maxRecDepth 100000 in
theorem f_slices_BinarySearchFunc___api_Place_api_Place_api_ID__F88_ok (fu : Nat) (v0_0 : Value) (a0 : (List S_api_Place)) (a1 : A8u8) {r : (Int × Bool)} (h : f_slices_BinarySearchFunc___api_Place_api_Place_api_ID__F88 fu a0 a1 = some r) : FnOk Try.prog 87 [v0_0, (ag (cA8u8 a1)), (Value.func (.func 88) #[] #[])] [(fDat (tyList tyS_api_Place) [v0_0] a0)] [] (fun (i : Unit) => { val := (Value.tuple #[(Value.int .i64 r.1), (Value.bool r.2)]) }) := by
  unfold f_slices_BinarySearchFunc___api_Place_api_Place_api_ID__F88 at h
  refine fn_enter Try.func87 rfl Try.ntmps87 rfl (fun w0 Z0 => ?_)
  refine aw_seq ?_
  refine aw_region ?_
  refine al_box (vs := (cA8u8 a1)) rfl (cv_rfl rfl) rfl (fun g1 => ?_)
  refine al_val (ov_assign rfl rfl) ?_
  refine al_val (ov_assign rfl rfl) ?_
  refine al_nil ?_
  refine aq_then ?_
  refine aw_seq ?_
  refine aw_region ?_
  refine al_val (ov_move rfl rfl) ?_
  refine al_val (ov_lenD 0 rfl rfl Try.underlying67 rfl) ?_
  refine al_val (ov_assign rfl rfl) ?_
  refine al_nil ?_
  refine aq_then ?_
  refine aw_seq ?_
  refine aw_region ?_
  refine al_val (ov_move rfl rfl) ?_
  refine al_val (ov_assign rfl rfl) ?_
  refine al_val (ov_assign rfl rfl) ?_
  refine al_nil ?_
  refine aq_then ?_
  obtain ⟨kk3, hkk3, h⟩ := lt_some h
  refine aw_seq_join (ι := Int) (fun i => (memOf w0 Z0 [] [(oBox g1 69 (cA8u8 a1))] [(fDat (tyList tyS_api_Place) [v0_0] a0)])) (fun i => (tab [(0, v0_0), (2, (Value.func (.func 88) #[] #[])), (4, (ptr g1 0)), (8, (Value.int .i64 (a0.length : Int))), (9, (Value.int .i64 i))])) (fun i => kk3 i = some r) ?_ ?_
  · rintro j2i9 h
    have h : kk3 j2i9 = some r := h
    rw [hkk3] at h
    dsimp only at h
    clear hkk3
    refine aw_show (m := (memOf w0 Z0 [] [(oBox g1 69 (cA8u8 a1))] [(fDat (tyList tyS_api_Place) [v0_0] a0)])) (S := (tab [(0, v0_0), (2, (Value.func (.func 88) #[] #[])), (4, (ptr g1 0)), (8, (Value.int .i64 (a0.length : Int))), (9, (Value.int .i64 j2i9))])) ?_
    obtain ⟨kk5, hkk5, h⟩ := lt_some h
    refine aw_seq_join (ι := Bool) (fun i => (memOf w0 Z0 [] [] [(fDat (tyList tyS_api_Place) [v0_0] a0)])) (fun i => (tab [(6, (Value.int .i64 j2i9)), (7, (Value.bool i))])) (fun i => kk5 i = some r) ?_ ?_
    · rintro j4b7 h
      have h : kk5 j4b7 = some r := h
      rw [hkk5] at h
      dsimp only at h
      clear hkk5
      refine aw_show (m := (memOf w0 Z0 [] [] [(fDat (tyList tyS_api_Place) [v0_0] a0)])) (S := (tab [(6, (Value.int .i64 j2i9)), (7, (Value.bool j4b7))])) ?_
      refine aw_ret ?_
      obtain rfl := Option.some.inj h
      exact fn_ret () [] [] rfl rfl rfl rfl (res2 rfl rfl rfl) rfl rfl rfl (by decide)
    · clear hkk5
      rcases Bool.eq_false_or_eq_true (decide (j2i9 < (a0.length : Int))) with hb6 | hb6
      · replace h := bif_t hb6 h
        obtain ⟨u7, hu8, h⟩ := opt_some h
        obtain ⟨r11, hc10, h⟩ := opt_some h
        refine aw_region_draw 15 [(35, (fun u => fEq u (Value.int .i64 j2i9))), (36, (fun u => fEq u (Value.int .i64 j2i9))), (37, (fun u => fEq u (Value.int .i64 (a0.length : Int)))), (38, (fun u => fEq u (Value.bool true))), (39, (fun u => fEq u (Value.bool true))), (40, (fun u => fEq u (Value.func (.func 88) #[] #[]))), (41, (fun u => fEq u v0_0)), (42, (fun u => fEq u (Value.int .i64 j2i9))), (43, (fun p9 => (fPtr tyS_api_Place p9 u7))), (44, (fun u => fEq u (ag ((cA8u8 u7.ID) ++ [(Value.int .i64 u7.Kind), (Value.int .i64 u7.Pack), (Value.int .i64 u7.At), (Value.int .i64 u7.Len)])))), (45, (fun u => fEq u (ag (cA8u8 a1)))), (46, (fun u => fEq u (Value.int .i64 r11))), (47, (fun u => fEq u (Value.bool (r11 == (0 : Int))))), (48, (fun u => fEq u (Value.bool (r11 == (0 : Int))))), (6, (fun u => fEq u (Value.int .i64 j2i9)))] (tab [(0, v0_0), (2, (Value.func (.func 88) #[] #[])), (4, (ptr g1 0)), (8, (Value.int .i64 (a0.length : Int))), (9, (Value.int .i64 j2i9))]) mixed (by kernel_rfl) rfl rfl rfl (fun a hs => hs.tab _ (allT_mem ⟨rfl, rfl, rfl, rfl, rfl, trivial⟩)) ⟨⟨rfl, ld_val (ov_move rfl rfl)⟩, ⟨rfl, ld_val (ov_move rfl rfl)⟩, ⟨rfl, ld_val (ov_move rfl rfl)⟩, ⟨rfl, ld_eq (j := 1) rfl rfl (ld_eq (j := 2) rfl rfl (ld_val (ov_cast (by first | rw [hb6] | rfl) (ov_int rfl rfl rfl rfl))))⟩, ⟨rfl, ld_eq (j := 3) rfl rfl (ld_val (ov_cast (by first | rw [hb6] | rfl) (ov_move rfl rfl)))⟩, ⟨rfl, ld_eq (j := 4) rfl rfl (ld_val (ov_move rfl rfl))⟩, ⟨rfl, ld_eq (j := 4) rfl rfl (ld_val (ov_move rfl rfl))⟩, ⟨rfl, ld_eq (j := 4) rfl rfl (ld_val (ov_move rfl rfl))⟩, ⟨rfl, ld_eq (j := 4) rfl rfl (ld_eq (j := 6) rfl rfl (ld_eq (j := 7) rfl rfl (ld_of (of_idxD 0 hu8 rfl rfl rfl Try.underlying67 sz72 rfl))))⟩, ⟨rfl, ld_eq (j := 4) rfl rfl (ld_fact (j := 8) rfl rfl (fun p9 => ld_val (ov_loadP (ds := ((cA8u8 u7.ID) ++ [(Value.int .i64 u7.Kind), (Value.int .i64 u7.Pack), (Value.int .i64 u7.At), (Value.int .i64 u7.Len)])) 0 rfl encS_api_Place rfl Try.underlying72 sz72 rfl rfl rfl)))⟩, ⟨rfl, ld_eq (j := 4) rfl rfl (ld_val (ov_load (i := 0) (v := (ag (cA8u8 a1))) rfl rfl Try.underlying69 sz69 rfl rfl rfl rfl))⟩, ⟨rfl, ld_eq (j := 4) rfl rfl (ld_eq (j := 5) rfl rfl (ld_eq (j := 9) rfl rfl (ld_eq (j := 10) rfl rfl (ld_callF (vs := [(ag ((cA8u8 u7.ID) ++ [(Value.int .i64 u7.Kind), (Value.int .i64 u7.Pack), (Value.int .i64 u7.At), (Value.int .i64 u7.Len)])), (ag (cA8u8 a1))]) (caps := []) (f_index_Find_1_ok fu u7 a1 hc10) rfl [] pre_nil rfl rfl Try.func88 rfl rfl rfl))))⟩, ⟨rfl, ld_eq (j := 4) rfl rfl (ld_eq (j := 11) rfl rfl (ld_val (ov_int rfl rfl rfl rfl)))⟩, ⟨rfl, ld_eq (j := 4) rfl rfl (ld_eq (j := 12) rfl rfl (ld_val (ov_pick_t rfl rfl rfl)))⟩, ⟨rfl, ld_eq (j := 0) rfl rfl (ld_val (ov_assign rfl rfl))⟩, trivial⟩ ?_
        refine tl_eq 13 rfl ?_
        refine tl_eq 14 rfl ?_
        refine tl_done ?_
        refine al_val (ov_assign rfl rfl) ?_
        refine al_nil ?_
        exact aq_join (r11 == (0 : Int)) h (fun w a hm hs => norm hm hs [] [0] [(6, (Value.int .i64 j2i9)), (7, (Value.bool (r11 == (0 : Int))))] (by decide) ⟨rfl, rfl, trivial⟩)
      · replace h := bif_f hb6 h
        refine aw_region_draw 15 [(35, (fun u => fEq u (Value.int .i64 j2i9))), (36, (fun u => fEq u (Value.int .i64 j2i9))), (37, (fun u => fEq u (Value.int .i64 (a0.length : Int)))), (38, (fun u => fEq u (Value.bool false))), (39, (fun u => fEq u (Value.bool false))), (40, (fun u => fEq u undef)), (41, (fun u => fEq u undef)), (42, (fun u => fEq u undef)), (43, (fun u => fEq u undef)), (44, (fun u => fEq u undef)), (45, (fun u => fEq u undef)), (46, (fun u => fEq u undef)), (47, (fun u => fEq u undef)), (48, (fun u => fEq u (Value.bool false))), (6, (fun u => fEq u (Value.int .i64 j2i9)))] (tab [(0, v0_0), (2, (Value.func (.func 88) #[] #[])), (4, (ptr g1 0)), (8, (Value.int .i64 (a0.length : Int))), (9, (Value.int .i64 j2i9))]) mixed (by kernel_rfl) rfl rfl rfl (fun a hs => hs.tab _ (allT_mem ⟨rfl, rfl, rfl, rfl, rfl, trivial⟩)) ⟨⟨rfl, ld_val (ov_move rfl rfl)⟩, ⟨rfl, ld_val (ov_move rfl rfl)⟩, ⟨rfl, ld_val (ov_move rfl rfl)⟩, ⟨rfl, ld_eq (j := 1) rfl rfl (ld_eq (j := 2) rfl rfl (ld_val (ov_cast (by first | rw [hb6] | rfl) (ov_int rfl rfl rfl rfl))))⟩, ⟨rfl, ld_eq (j := 3) rfl rfl (ld_val (ov_cast (by first | rw [hb6] | rfl) (ov_move rfl rfl)))⟩, ⟨rfl, ld_eq (j := 4) rfl rfl (ld_skip)⟩, ⟨rfl, ld_eq (j := 4) rfl rfl (ld_skip)⟩, ⟨rfl, ld_eq (j := 4) rfl rfl (ld_skip)⟩, ⟨rfl, ld_eq (j := 4) rfl rfl (ld_skip)⟩, ⟨rfl, ld_eq (j := 4) rfl rfl (ld_skip)⟩, ⟨rfl, ld_eq (j := 4) rfl rfl (ld_skip)⟩, ⟨rfl, ld_eq (j := 4) rfl rfl (ld_skip)⟩, ⟨rfl, ld_eq (j := 4) rfl rfl (ld_skip)⟩, ⟨rfl, ld_eq (j := 4) rfl rfl (ld_eq (j := 12) rfl rfl (ld_val (ov_pick_f rfl rfl rfl)))⟩, ⟨rfl, ld_eq (j := 0) rfl rfl (ld_val (ov_assign rfl rfl))⟩, trivial⟩ ?_
        refine tl_eq 13 rfl ?_
        refine tl_eq 14 rfl ?_
        refine tl_done ?_
        refine al_val (ov_assign rfl rfl) ?_
        refine al_nil ?_
        exact aq_join false h (fun w a hm hs => norm hm hs [] [0] [(6, (Value.int .i64 j2i9)), (7, (Value.bool false))] (by decide) ⟨rfl, rfl, trivial⟩)
  · clear hkk3
    refine aw_block ?_
    refine aw_state (aw_loop (ι := Int × Int) (fun i => (memOf w0 Z0 [] [(oBox g1 69 (cA8u8 a1))] [(fDat (tyList tyS_api_Place) [v0_0] a0)])) (fun i => (tab [(0, v0_0), (2, (Value.func (.func 88) #[] #[])), (4, (ptr g1 0)), (8, (Value.int .i64 (a0.length : Int))), (9, (Value.int .i64 i.1)), (10, (Value.int .i64 i.2))])) (fun q i => f_slices_BinarySearchFunc___api_Place_api_Place_api_ID__F88_L14 a0 a1 kk3 fu q i.1 i.2 = some r) ?_ fu ((0 : Int), (a0.length : Int)) h) (fun w a hm hs => norm hm hs [0] [0] [(0, v0_0), (2, (Value.func (.func 88) #[] #[])), (4, (ptr g1 0)), (8, (Value.int .i64 (a0.length : Int))), (9, (Value.int .i64 (0 : Int))), (10, (Value.int .i64 (a0.length : Int)))] (by decide) ⟨rfl, rfl, rfl, rfl, rfl, rfl, trivial⟩)
    clear h
    rintro k13 ⟨l12i9, l12i10⟩ h
    have h : f_slices_BinarySearchFunc___api_Place_api_Place_api_ID__F88_L14 a0 a1 kk3 fu k13 l12i9 l12i10 = some r := h
    obtain _ | k13 := k13
    · rw [f_slices_BinarySearchFunc___api_Place_api_Place_api_ID__F88_L14] at h; cases h
    rw [f_slices_BinarySearchFunc___api_Place_api_Place_api_ID__F88_L14] at h
    refine aw_show (m := (memOf w0 Z0 [] [(oBox g1 69 (cA8u8 a1))] [(fDat (tyList tyS_api_Place) [v0_0] a0)])) (S := (tab [(0, v0_0), (2, (Value.func (.func 88) #[] #[])), (4, (ptr g1 0)), (8, (Value.int .i64 (a0.length : Int))), (9, (Value.int .i64 l12i9)), (10, (Value.int .i64 l12i10))])) ?_
    refine aw_seq ?_
    refine aw_seq ?_
    refine aw_region ?_
    refine al_val (ov_move rfl rfl) ?_
    refine al_val (ov_move rfl rfl) ?_
    refine al_val (ov_int rfl rfl rfl rfl) ?_
    refine al_nil ?_
    refine aq_then ?_
    refine aw_cond rfl (fun hb15 => ?_) (fun hb15 => ?_)
    · replace h := bif_t hb15 h
      refine aw_skip ?_
      refine aq_then ?_
      refine aw_block ?_
      refine aw_seq ?_
      refine aw_region ?_
      refine al_val (ov_move rfl rfl) ?_
      refine al_val (ov_move rfl rfl) ?_
      refine al_val (ov_int rfl rfl rfl rfl) ?_
      refine al_val (ov_convInt (by rw [Try.underlying3]; rfl) Try.underlying121 rfl rfl) ?_
      refine al_val (ov_shr (by decide) rfl rfl rfl) ?_
      refine al_val (ov_convInt (by rw [Try.underlying121]; rfl) Try.underlying3 rfl rfl) ?_
      refine al_val (ov_assign rfl rfl) ?_
      refine al_nil ?_
      refine aq_then ?_
      refine aw_seq ?_
      obtain ⟨u16, hu17, h⟩ := opt_some h
      obtain ⟨r20, hc19, h⟩ := opt_some h
      refine aw_region_draw 7 [(24, (fun u => fEq u (Value.func (.func 88) #[] #[]))), (25, (fun u => fEq u v0_0)), (26, (fun u => fEq u (Value.int .i64 (IntKind.i64.wrap (((IntKind.u64.wrap (IntKind.i64.wrap (l12i9 + l12i10)))).fdiv (2 ^ min ((1 : Int)).toNat (IntKind.bits .u64))))))), (27, (fun p18 => (fPtr tyS_api_Place p18 u16))), (28, (fun u => fEq u (ag ((cA8u8 u16.ID) ++ [(Value.int .i64 u16.Kind), (Value.int .i64 u16.Pack), (Value.int .i64 u16.At), (Value.int .i64 u16.Len)])))), (29, (fun u => fEq u (ag (cA8u8 a1)))), (30, (fun u => fEq u (Value.int .i64 r20)))] (tab [(0, v0_0), (2, (Value.func (.func 88) #[] #[])), (4, (ptr g1 0)), (8, (Value.int .i64 (a0.length : Int))), (9, (Value.int .i64 l12i9)), (10, (Value.int .i64 l12i10)), (11, (Value.int .i64 (IntKind.i64.wrap (((IntKind.u64.wrap (IntKind.i64.wrap (l12i9 + l12i10)))).fdiv (2 ^ min ((1 : Int)).toNat (IntKind.bits .u64))))))]) mixed (by kernel_rfl) rfl rfl rfl (fun a hs => hs.tab _ (allT_mem ⟨rfl, rfl, rfl, rfl, rfl, rfl, rfl, trivial⟩)) ⟨⟨rfl, ld_val (ov_move rfl rfl)⟩, ⟨rfl, ld_val (ov_move rfl rfl)⟩, ⟨rfl, ld_val (ov_move rfl rfl)⟩, ⟨rfl, ld_eq (j := 1) rfl rfl (ld_eq (j := 2) rfl rfl (ld_of (of_idxD 0 hu17 rfl rfl rfl Try.underlying67 sz72 rfl)))⟩, ⟨rfl, ld_fact (j := 3) rfl rfl (fun p18 => ld_val (ov_loadP (ds := ((cA8u8 u16.ID) ++ [(Value.int .i64 u16.Kind), (Value.int .i64 u16.Pack), (Value.int .i64 u16.At), (Value.int .i64 u16.Len)])) 0 rfl encS_api_Place rfl Try.underlying72 sz72 rfl rfl rfl))⟩, ⟨rfl, ld_val (ov_load (i := 0) (v := (ag (cA8u8 a1))) rfl rfl Try.underlying69 sz69 rfl rfl rfl rfl)⟩, ⟨rfl, ld_eq (j := 0) rfl rfl (ld_eq (j := 4) rfl rfl (ld_eq (j := 5) rfl rfl (ld_callF (vs := [(ag ((cA8u8 u16.ID) ++ [(Value.int .i64 u16.Kind), (Value.int .i64 u16.Pack), (Value.int .i64 u16.At), (Value.int .i64 u16.Len)])), (ag (cA8u8 a1))]) (caps := []) (f_index_Find_1_ok fu u16 a1 hc19) rfl [] pre_nil rfl rfl Try.func88 rfl rfl rfl)))⟩, trivial⟩ ?_
      refine tl_eq 6 rfl ?_
      refine tl_done ?_
      refine al_val (ov_int rfl rfl rfl rfl) ?_
      refine al_nil ?_
      refine aq_then ?_
      refine aw_cond rfl (fun hb21 => ?_) (fun hb21 => ?_)
      · replace h := bif_t hb21 h
        refine aw_region ?_
        refine al_val (ov_move rfl rfl) ?_
        refine al_val (ov_int rfl rfl rfl rfl) ?_
        refine al_val (ov_assign rfl rfl) ?_
        refine al_nil ?_
        refine aq_block ?_
        exact aq_again k13 ((IntKind.i64.wrap ((IntKind.i64.wrap (((IntKind.u64.wrap (IntKind.i64.wrap (l12i9 + l12i10)))).fdiv (2 ^ min ((1 : Int)).toNat (IntKind.bits .u64)))) + (1 : Int))), l12i10) (Nat.lt_succ_self _) h (fun w a hm hs => norm hm hs [0] [0] [(0, v0_0), (2, (Value.func (.func 88) #[] #[])), (4, (ptr g1 0)), (8, (Value.int .i64 (a0.length : Int))), (9, (Value.int .i64 (IntKind.i64.wrap ((IntKind.i64.wrap (((IntKind.u64.wrap (IntKind.i64.wrap (l12i9 + l12i10)))).fdiv (2 ^ min ((1 : Int)).toNat (IntKind.bits .u64)))) + (1 : Int))))), (10, (Value.int .i64 l12i10))] (by decide) ⟨rfl, rfl, rfl, rfl, rfl, rfl, trivial⟩)
      · replace h := bif_f hb21 h
        refine aw_region ?_
        refine al_val (ov_move rfl rfl) ?_
        refine al_val (ov_assign rfl rfl) ?_
        refine al_nil ?_
        refine aq_block ?_
        exact aq_again k13 (l12i9, (IntKind.i64.wrap (((IntKind.u64.wrap (IntKind.i64.wrap (l12i9 + l12i10)))).fdiv (2 ^ min ((1 : Int)).toNat (IntKind.bits .u64))))) (Nat.lt_succ_self _) h (fun w a hm hs => norm hm hs [0] [0] [(0, v0_0), (2, (Value.func (.func 88) #[] #[])), (4, (ptr g1 0)), (8, (Value.int .i64 (a0.length : Int))), (9, (Value.int .i64 l12i9)), (10, (Value.int .i64 (IntKind.i64.wrap (((IntKind.u64.wrap (IntKind.i64.wrap (l12i9 + l12i10)))).fdiv (2 ^ min ((1 : Int)).toNat (IntKind.bits .u64))))))] (by decide) ⟨rfl, rfl, rfl, rfl, rfl, rfl, trivial⟩)
    · replace h := bif_f hb15 h
      refine aw_exit ?_
      refine aq_then_exit ?_
      refine aq_then_exit ?_
      refine aq_block_exit ?_
      exact aq_join l12i9 h (fun w a hm hs => norm hm hs [0] [0] [(0, v0_0), (2, (Value.func (.func 88) #[] #[])), (4, (ptr g1 0)), (8, (Value.int .i64 (a0.length : Int))), (9, (Value.int .i64 l12i9))] (by decide) ⟨rfl, rfl, rfl, rfl, rfl, trivial⟩)
def f_index_Find (fu : Nat) (a0 : (List S_api_Place)) (a1 : A8u8) : Option (S_api_Place × Int) := (opt (f_index_Check fu a0) fun (r4 : Int) => (bif (r4 != (0 : Int)) then (some ((S_api_Place.mk (A8u8.mk (0 : UInt8) (0 : UInt8) (0 : UInt8) (0 : UInt8) (0 : UInt8) (0 : UInt8) (0 : UInt8) (0 : UInt8)) (0 : Int) (0 : Int) (0 : Int) (0 : Int)), r4)) else (opt (f_slices_BinarySearchFunc___api_Place_api_Place_api_ID__F88 fu a0 a1) fun (r7 : (Int × Bool)) => (bif (!r7.2) then (some ((S_api_Place.mk (A8u8.mk (0 : UInt8) (0 : UInt8) (0 : UInt8) (0 : UInt8) (0 : UInt8) (0 : UInt8) (0 : UInt8) (0 : UInt8)) (0 : Int) (0 : Int) (0 : Int) (0 : Int)), (9 : Int))) else (opt (at? a0 r7.1) fun (u9 : S_api_Place) => (some (u9, (0 : Int))))))))
set_option maxRecDepth 100000 in
theorem f_index_Find_ok (fu : Nat) (v0_0 : Value) (a0 : (List S_api_Place)) (a1 : A8u8) {r : (S_api_Place × Int)} (h : f_index_Find fu a0 a1 = some r) : FnOk Try.prog 42 [v0_0, (ag (cA8u8 a1))] [(fDat (tyList tyS_api_Place) [v0_0] a0)] [] (fun (i : Unit) => { val := (Value.tuple #[(ag ((cA8u8 r.1.ID) ++ [(Value.int .i64 r.1.Kind), (Value.int .i64 r.1.Pack), (Value.int .i64 r.1.At), (Value.int .i64 r.1.Len)])), (Value.int .i64 r.2)]) }) := by
  unfold f_index_Find at h
  refine fn_enter Try.func42 rfl Try.ntmps42 rfl (fun w0 Z0 => ?_)
  refine aw_seq ?_
  refine aw_region ?_
  refine al_box (vs := (cA8u8 a1)) rfl (cv_rfl rfl) rfl (fun g1 => ?_)
  refine al_alloc (zs := ((cA8u8 (A8u8.mk (0 : UInt8) (0 : UInt8) (0 : UInt8) (0 : UInt8) (0 : UInt8) (0 : UInt8) (0 : UInt8) (0 : UInt8))) ++ [(Value.int .i64 (0 : Int)), (Value.int .i64 (0 : Int)), (Value.int .i64 (0 : Int)), (Value.int .i64 (0 : Int))])) (zeroOf_to to72) rfl rfl (fun g2 => ?_)
  refine al_val (ov_assign rfl rfl) ?_
  refine al_nil ?_
  refine aq_then ?_
  refine aw_seq ?_
  refine aw_seq ?_
  refine aw_region ?_
  refine al_val (ov_move rfl rfl) ?_
  obtain ⟨r4, hc3, h⟩ := opt_some h
  refine al_call (vs := [v0_0]) (f_index_Check_ok fu v0_0 a0 hc3) [] [] [0, 1] (pre_fz 0 rfl pre_nil) rfl (by simp) (by decide) (.inl rfl) rfl Try.func45 rfl rfl rfl (fun _ => ?_)
  refine al_val (ov_assign rfl rfl) ?_
  refine al_nil ?_
  refine aq_then ?_
  refine aw_seq ?_
  refine aw_region ?_
  refine al_val (ov_move rfl rfl) ?_
  refine al_val (ov_int rfl rfl rfl rfl) ?_
  refine al_nil ?_
  refine aq_then ?_
  refine aw_cond rfl (fun hb5 => ?_) (fun hb5 => ?_)
  · replace h := bif_t hb5 h
    refine aw_seq ?_
    refine aw_region ?_
    refine al_val (ov_build (cells := (((cA8u8 (A8u8.mk (0 : UInt8) (0 : UInt8) (0 : UInt8) (0 : UInt8) (0 : UInt8) (0 : UInt8) (0 : UInt8) (0 : UInt8))) ++ [(Value.int .i64 (0 : Int)), (Value.int .i64 (0 : Int)), (Value.int .i64 (0 : Int)), (Value.int .i64 (0 : Int))])).toArray) (cs := ((cA8u8 (A8u8.mk (0 : UInt8) (0 : UInt8) (0 : UInt8) (0 : UInt8) (0 : UInt8) (0 : UInt8) (0 : UInt8) (0 : UInt8))) ++ [(Value.int .i64 (0 : Int)), (Value.int .i64 (0 : Int)), (Value.int .i64 (0 : Int)), (Value.int .i64 (0 : Int))])) rfl (fun w a hm hs => by simp only [List.map_toArray, List.map_cons, List.map_nil, List.toList_toArray]; kernel_rfl)) ?_
    refine al_val (ov_move rfl rfl) ?_
    refine al_store (i := 0) (vs := ((cA8u8 (A8u8.mk (0 : UInt8) (0 : UInt8) (0 : UInt8) (0 : UInt8) (0 : UInt8) (0 : UInt8) (0 : UInt8) (0 : UInt8))) ++ [(Value.int .i64 (0 : Int)), (Value.int .i64 (0 : Int)), (Value.int .i64 (0 : Int)), (Value.int .i64 (0 : Int))])) (cs' := ((cA8u8 (A8u8.mk (0 : UInt8) (0 : UInt8) (0 : UInt8) (0 : UInt8) (0 : UInt8) (0 : UInt8) (0 : UInt8) (0 : UInt8))) ++ [(Value.int .i64 (0 : Int)), (Value.int .i64 (0 : Int)), (Value.int .i64 (0 : Int)), (Value.int .i64 (0 : Int))])) rfl rfl rfl sz72 (cv_rfl rfl) rfl (co_app (oneA8u8 (A8u8.mk (0 : UInt8) (0 : UInt8) (0 : UInt8) (0 : UInt8) (0 : UInt8) (0 : UInt8) (0 : UInt8) (0 : UInt8))) (co_val rfl (co_val rfl (co_val rfl (co_val rfl co_nil))))) (Nat.le_of_ble_eq_true rfl) rfl rfl ?_
    refine al_val (ov_assign rfl rfl) ?_
    refine al_nil ?_
    refine aq_then ?_
    refine aw_ret ?_
    refine aq_then_ret ?_
    obtain rfl := Option.some.inj h
    exact fn_ret () [] [] rfl rfl rfl rfl (resC rfl (resB (i := 0) rfl rfl Try.underlying72 sz72 rfl rfl rfl (resT rfl (resN))) rfl) rfl rfl rfl (by decide)
  · replace h := bif_f hb5 h
    refine aw_skip ?_
    refine aq_then ?_
    refine aw_seq ?_
    refine aw_region ?_
    refine al_val (ov_move rfl rfl) ?_
    refine al_val (ov_load (i := 1) (v := (ag (cA8u8 a1))) rfl rfl Try.underlying69 sz69 rfl rfl rfl rfl) ?_
    obtain ⟨r7, hc6, h⟩ := opt_some h
    refine al_call (vs := [v0_0, (ag (cA8u8 a1)), (Value.func (.func 88) #[] #[])]) (f_slices_BinarySearchFunc___api_Place_api_Place_api_ID__F88_ok fu v0_0 a0 a1 hc6) [] [] [0, 1] (pre_fz 0 rfl pre_nil) rfl (by simp) (by decide) (.inl rfl) rfl Try.func87 rfl rfl rfl (fun _ => ?_)
    refine al_val (ov_move rfl rfl) ?_
    refine al_val (ov_extract rfl rfl rfl) ?_
    refine al_val (ov_extract rfl rfl rfl) ?_
    refine al_val (ov_assign rfl rfl) ?_
    refine al_val (ov_assign rfl rfl) ?_
    refine al_nil ?_
    refine aq_then ?_
    refine aw_seq ?_
    refine aw_seq ?_
    refine aw_region ?_
    refine al_val (ov_move rfl rfl) ?_
    refine al_val (ov_not rfl rfl) ?_
    refine al_nil ?_
    refine aq_then ?_
    refine aw_cond rfl (fun hb8 => ?_) (fun hb8 => ?_)
    · replace h := bif_t hb8 h
      refine aw_seq ?_
      refine aw_region ?_
      refine al_val (ov_build (cells := (((cA8u8 (A8u8.mk (0 : UInt8) (0 : UInt8) (0 : UInt8) (0 : UInt8) (0 : UInt8) (0 : UInt8) (0 : UInt8) (0 : UInt8))) ++ [(Value.int .i64 (0 : Int)), (Value.int .i64 (0 : Int)), (Value.int .i64 (0 : Int)), (Value.int .i64 (0 : Int))])).toArray) (cs := ((cA8u8 (A8u8.mk (0 : UInt8) (0 : UInt8) (0 : UInt8) (0 : UInt8) (0 : UInt8) (0 : UInt8) (0 : UInt8) (0 : UInt8))) ++ [(Value.int .i64 (0 : Int)), (Value.int .i64 (0 : Int)), (Value.int .i64 (0 : Int)), (Value.int .i64 (0 : Int))])) rfl (fun w a hm hs => by simp only [List.map_toArray, List.map_cons, List.map_nil, List.toList_toArray]; kernel_rfl)) ?_
      refine al_store (i := 0) (vs := ((cA8u8 (A8u8.mk (0 : UInt8) (0 : UInt8) (0 : UInt8) (0 : UInt8) (0 : UInt8) (0 : UInt8) (0 : UInt8) (0 : UInt8))) ++ [(Value.int .i64 (0 : Int)), (Value.int .i64 (0 : Int)), (Value.int .i64 (0 : Int)), (Value.int .i64 (0 : Int))])) (cs' := ((cA8u8 (A8u8.mk (0 : UInt8) (0 : UInt8) (0 : UInt8) (0 : UInt8) (0 : UInt8) (0 : UInt8) (0 : UInt8) (0 : UInt8))) ++ [(Value.int .i64 (0 : Int)), (Value.int .i64 (0 : Int)), (Value.int .i64 (0 : Int)), (Value.int .i64 (0 : Int))])) rfl rfl rfl sz72 (cv_rfl rfl) rfl (co_app (oneA8u8 (A8u8.mk (0 : UInt8) (0 : UInt8) (0 : UInt8) (0 : UInt8) (0 : UInt8) (0 : UInt8) (0 : UInt8) (0 : UInt8))) (co_val rfl (co_val rfl (co_val rfl (co_val rfl co_nil))))) (Nat.le_of_ble_eq_true rfl) rfl rfl ?_
      refine al_val (ov_assign rfl rfl) ?_
      refine al_nil ?_
      refine aq_then ?_
      refine aw_ret ?_
      refine aq_then_ret ?_
      obtain rfl := Option.some.inj h
      exact fn_ret () [] [] rfl rfl rfl rfl (resC rfl (resB (i := 0) rfl rfl Try.underlying72 sz72 rfl rfl rfl (resT rfl (resN))) rfl) rfl rfl rfl (by decide)
    · replace h := bif_f hb8 h
      refine aw_skip ?_
      refine aq_then ?_
      refine aw_seq ?_
      refine aw_region ?_
      refine al_val (ov_move rfl rfl) ?_
      refine al_val (ov_move rfl rfl) ?_
      obtain ⟨u9, hu10, h⟩ := opt_some h
      refine al_idxD 0 hu10 rfl rfl rfl Try.underlying67 sz72 rfl (fun p11 => ?_)
      refine al_val (ov_loadP (ds := ((cA8u8 u9.ID) ++ [(Value.int .i64 u9.Kind), (Value.int .i64 u9.Pack), (Value.int .i64 u9.At), (Value.int .i64 u9.Len)])) 0 rfl encS_api_Place rfl Try.underlying72 sz72 rfl rfl rfl) ?_
      refine al_store (i := 0) (vs := ((cA8u8 u9.ID) ++ [(Value.int .i64 u9.Kind), (Value.int .i64 u9.Pack), (Value.int .i64 u9.At), (Value.int .i64 u9.Len)])) (cs' := ((cA8u8 u9.ID) ++ [(Value.int .i64 u9.Kind), (Value.int .i64 u9.Pack), (Value.int .i64 u9.At), (Value.int .i64 u9.Len)])) rfl rfl rfl sz72 (cv_rfl rfl) rfl (co_app (oneA8u8 u9.ID) (co_val rfl (co_val rfl (co_val rfl (co_val rfl co_nil))))) (Nat.le_of_ble_eq_true rfl) rfl rfl ?_
      refine al_val (ov_assign rfl rfl) ?_
      refine al_nil ?_
      refine aq_then ?_
      refine aw_ret ?_
      obtain rfl := Option.some.inj h
      exact fn_ret () [] [] rfl rfl rfl rfl (resC rfl (resB (i := 0) rfl rfl Try.underlying72 sz72 rfl rfl rfl (resT rfl (resN))) rfl) rfl rfl rfl (by decide)
def f_lumlaw_IndexSays_1 (fu : Nat) (a0 : S_api_Place) (a1 : A8u8) : Option Bool := (some (a0.ID == a1))
set_option maxRecDepth 100000 in
theorem f_lumlaw_IndexSays_1_ok (fu : Nat) (a0 : S_api_Place) (c1 : Value) (a1 : A8u8) {r : Bool} (h : f_lumlaw_IndexSays_1 fu a0 a1 = some r) : FnOk Try.prog 44 [(ag ((cA8u8 a0.ID) ++ [(Value.int .i64 a0.Kind), (Value.int .i64 a0.Pack), (Value.int .i64 a0.At), (Value.int .i64 a0.Len)])), c1] [(fPtr tyA8u8 c1 a1)] [] (fun (i : Unit) => { val := (Value.bool r) }) := by
  unfold f_lumlaw_IndexSays_1 at h
  refine fn_enter Try.func44 rfl Try.ntmps44 rfl (fun w0 Z0 => ?_)
  refine aw_seq ?_
  refine aw_region ?_
  refine al_box (vs := ((cA8u8 a0.ID) ++ [(Value.int .i64 a0.Kind), (Value.int .i64 a0.Pack), (Value.int .i64 a0.At), (Value.int .i64 a0.Len)])) rfl (cv_rfl rfl) rfl (fun g1 => ?_)
  refine al_val (ov_assign rfl rfl) ?_
  refine al_nil ?_
  refine aq_then ?_
  refine aw_seq ?_
  refine aw_region ?_
  refine al_val (ov_fieldA (p := 0) rfl Try.underlying72 rfl sz69 rfl rfl rfl) ?_
  refine al_val (ov_load (i := 0) (v := (ag (cA8u8 a0.ID))) rfl rfl Try.underlying69 sz69 rfl rfl rfl rfl) ?_
  refine al_val (ov_loadP (ds := (cA8u8 a1)) 0 rfl encA8u8 rfl Try.underlying69 sz69 rfl rfl rfl) ?_
  refine al_val (ov_eqlA (cs := (cA8u8 a0.ID)) (ds := (cA8u8 a1)) (ls := [5, 5, 5, 5, 5, 5, 5, 5]) (p := (a0.ID == a1)) eg69 kt69 lv69 rfl rfl (by kernel_rfl) (by kernel_rfl) (fit_cons (fit_u8 Try.underlying5) (fit_cons (fit_u8 Try.underlying5) (fit_cons (fit_u8 Try.underlying5) (fit_cons (fit_u8 Try.underlying5) (fit_cons (fit_u8 Try.underlying5) (fit_cons (fit_u8 Try.underlying5) (fit_cons (fit_u8 Try.underlying5) (fit_cons (fit_u8 Try.underlying5) fit_nil)))))))) (fit_cons (fit_u8 Try.underlying5) (fit_cons (fit_u8 Try.underlying5) (fit_cons (fit_u8 Try.underlying5) (fit_cons (fit_u8 Try.underlying5) (fit_cons (fit_u8 Try.underlying5) (fit_cons (fit_u8 Try.underlying5) (fit_cons (fit_u8 Try.underlying5) (fit_cons (fit_u8 Try.underlying5) fit_nil)))))))) (injA8u8 (x := a0.ID) (y := a1)) rfl) ?_
  refine al_val (ov_assign rfl rfl) ?_
  refine al_nil ?_
  refine aq_then ?_
  refine aw_ret ?_
  obtain rfl := Option.some.inj h
  exact fn_ret () [] [] rfl rfl rfl rfl (res1 rfl rfl) rfl rfl rfl (by decide)
-- STUCK slices.IndexFunc[[]lumberroom/api.Place,lumberroom/api.Place]: lty ['func', [72], [4], False]
def f_slices_IndexFunc___api_Place_api_Place__F44_L5 (a0 : (List S_api_Place)) (a1_0 : A8u8) (kk2 : (Unit → Option Int)) (fu : Nat) : Nat → Int → Option Int
  | 0, _ => none
  | k4 + 1, l3i8 => (bif (decide (l3i8 < (a0.length : Int))) then (opt (at? a0 l3i8) fun (u7 : S_api_Place) => (opt (f_lumlaw_IndexSays_1 fu u7 a1_0) fun (r11 : Bool) => (bif r11 then (some l3i8) else (f_slices_IndexFunc___api_Place_api_Place__F44_L5 a0 a1_0 kk2 fu k4 (IntKind.i64.wrap (l3i8 + (1 : Int))))))) else (kk2 ()))
def f_slices_IndexFunc___api_Place_api_Place__F44 (fu : Nat) (a0 : (List S_api_Place)) (a1_0 : A8u8) : Option Int := (lt (fun (_ : Unit) => (some (-1 : Int))) fun (kk2 : Unit → Option Int) => (f_slices_IndexFunc___api_Place_api_Place__F44_L5 a0 a1_0 kk2 fu fu (0 : Int)))
set_option maxRecDepth 100000 in
theorem f_slices_IndexFunc___api_Place_api_Place__F44_ok (fu : Nat) (v0_0 : Value) (a0 : (List S_api_Place)) (c1_0 : Value) (a1_0 : A8u8) {r : Int} (h : f_slices_IndexFunc___api_Place_api_Place__F44 fu a0 a1_0 = some r) : FnOk Try.prog 43 [v0_0, (Value.func (.func 44) #[] #[c1_0])] [(fDat (tyList tyS_api_Place) [v0_0] a0), (fPtr tyA8u8 c1_0 a1_0)] [] (fun (i : Unit) => { val := (Value.int .i64 r) }) := by
  unfold f_slices_IndexFunc___api_Place_api_Place__F44 at h
  refine fn_enter Try.func43 rfl Try.ntmps43 rfl (fun w0 Z0 => ?_)
  refine aw_seq ?_
  refine aw_region ?_
  refine al_val (ov_assign rfl rfl) ?_
  refine al_nil ?_
  refine aq_then ?_
  obtain ⟨kk2, hkk2, h⟩ := lt_some h
  refine aw_seq_join (ι := Unit) (fun i => (memOf w0 Z0 [] [] [(fDat (tyList tyS_api_Place) [v0_0] a0), (fPtr tyA8u8 c1_0 a1_0)])) (fun i => (tab [])) (fun i => kk2 () = some r) ?_ ?_
  · rintro _ h
    have h : kk2 () = some r := h
    rw [hkk2] at h
    dsimp only at h
    clear hkk2
    refine aw_show (m := (memOf w0 Z0 [] [] [(fDat (tyList tyS_api_Place) [v0_0] a0), (fPtr tyA8u8 c1_0 a1_0)])) (S := (tab [])) ?_
    refine aw_seq ?_
    refine aw_region ?_
    refine al_val (ov_assign rfl rfl) ?_
    refine al_nil ?_
    refine aq_then ?_
    refine aw_ret ?_
    obtain rfl := Option.some.inj h
    exact fn_ret () [] [] rfl rfl rfl rfl (res1 rfl rfl) rfl rfl rfl (by decide)
  · clear hkk2
    refine aw_seq ?_
    refine aw_region ?_
    refine al_val (ov_move rfl rfl) ?_
    refine al_val (ov_lenD 0 rfl rfl Try.underlying67 rfl) ?_
    refine al_val (ov_move rfl rfl) ?_
    refine al_nil ?_
    refine aq_then ?_
    refine aw_block ?_
    refine aw_state (aw_loop (ι := Int) (fun i => (memOf w0 Z0 [] [] [(fDat (tyList tyS_api_Place) [v0_0] a0), (fPtr tyA8u8 c1_0 a1_0)])) (fun i => (tab [(0, v0_0), (1, (Value.func (.func 44) #[] #[c1_0])), (7, (Value.int .i64 (a0.length : Int))), (8, (Value.int .i64 i))])) (fun q i => f_slices_IndexFunc___api_Place_api_Place__F44_L5 a0 a1_0 kk2 fu q i = some r) ?_ fu (0 : Int) h) (fun w a hm hs => norm hm hs [] [0, 1] [(0, v0_0), (1, (Value.func (.func 44) #[] #[c1_0])), (7, (Value.int .i64 (a0.length : Int))), (8, (Value.int .i64 (0 : Int)))] (by decide) ⟨rfl, rfl, rfl, rfl, trivial⟩)
    clear h
    rintro k4 l3i8 h
    have h : f_slices_IndexFunc___api_Place_api_Place__F44_L5 a0 a1_0 kk2 fu k4 l3i8 = some r := h
    obtain _ | k4 := k4
    · rw [f_slices_IndexFunc___api_Place_api_Place__F44_L5] at h; cases h
    rw [f_slices_IndexFunc___api_Place_api_Place__F44_L5] at h
    refine aw_show (m := (memOf w0 Z0 [] [] [(fDat (tyList tyS_api_Place) [v0_0] a0), (fPtr tyA8u8 c1_0 a1_0)])) (S := (tab [(0, v0_0), (1, (Value.func (.func 44) #[] #[c1_0])), (7, (Value.int .i64 (a0.length : Int))), (8, (Value.int .i64 l3i8))])) ?_
    refine aw_seq ?_
    refine aw_region ?_
    refine al_val (ov_int rfl rfl rfl rfl) ?_
    refine al_nil ?_
    refine aq_then ?_
    refine aw_seq ?_
    refine aw_cond rfl (fun hb6 => ?_) (fun hb6 => ?_)
    · replace h := bif_t hb6 h
      refine aw_skip ?_
      refine aq_then ?_
      refine aw_seq ?_
      refine aw_block ?_
      refine aw_seq ?_
      refine aw_region ?_
      refine al_val (ov_move rfl rfl) ?_
      refine al_val (ov_assign rfl rfl) ?_
      refine al_nil ?_
      refine aq_then ?_
      refine aw_seq ?_
      refine aw_region ?_
      refine al_val (ov_move rfl rfl) ?_
      refine al_val (ov_move rfl rfl) ?_
      refine al_val (ov_move rfl rfl) ?_
      obtain ⟨u7, hu8, h⟩ := opt_some h
      refine al_idxD 0 hu8 rfl rfl rfl Try.underlying67 sz72 rfl (fun p9 => ?_)
      refine al_val (ov_loadP (ds := ((cA8u8 u7.ID) ++ [(Value.int .i64 u7.Kind), (Value.int .i64 u7.Pack), (Value.int .i64 u7.At), (Value.int .i64 u7.Len)])) 0 rfl encS_api_Place rfl Try.underlying72 sz72 rfl rfl rfl) ?_
      obtain ⟨r11, hc10, h⟩ := opt_some h
      refine al_callF (vs := [(ag ((cA8u8 u7.ID) ++ [(Value.int .i64 u7.Kind), (Value.int .i64 u7.Pack), (Value.int .i64 u7.At), (Value.int .i64 u7.Len)]))]) (caps := [c1_0]) (f_lumlaw_IndexSays_1_ok fu u7 c1_0 a1_0 hc10) rfl [] [] [] (pre_fz 2 rfl pre_nil) rfl (by simp) (by decide) (.inl rfl) rfl rfl Try.func44 rfl rfl rfl (fun _ => ?_)
      refine al_nil ?_
      refine aq_then ?_
      refine aw_cond rfl (fun hb12 => ?_) (fun hb12 => ?_)
      · replace h := bif_t hb12 h
        refine aw_seq ?_
        refine aw_region ?_
        refine al_val (ov_move rfl rfl) ?_
        refine al_val (ov_assign rfl rfl) ?_
        refine al_nil ?_
        refine aq_then ?_
        refine aw_ret ?_
        refine aq_block_ret ?_
        refine aq_then_ret ?_
        refine aq_then_ret ?_
        refine aq_block_ret ?_
        refine aq_then_ret ?_
        obtain rfl := Option.some.inj h
        exact fn_ret () [] [] rfl rfl rfl rfl (res1 rfl rfl) rfl rfl rfl (by decide)
      · replace h := bif_f hb12 h
        refine aw_skip ?_
        refine aq_block ?_
        refine aq_then ?_
        refine aw_region ?_
        refine al_val (ov_int rfl rfl rfl rfl) ?_
        refine al_val (ov_move rfl rfl) ?_
        refine al_nil ?_
        exact aq_again k4 (IntKind.i64.wrap (l3i8 + (1 : Int))) (Nat.lt_succ_self _) h (fun w a hm hs => norm hm hs [] [1, 2] [(0, v0_0), (1, (Value.func (.func 44) #[] #[c1_0])), (7, (Value.int .i64 (a0.length : Int))), (8, (Value.int .i64 (IntKind.i64.wrap (l3i8 + (1 : Int)))))] (by decide) ⟨rfl, rfl, rfl, rfl, trivial⟩)
    · replace h := bif_f hb6 h
      refine aw_exit ?_
      refine aq_then_exit ?_
      refine aq_then_exit ?_
      refine aq_block_exit ?_
      exact aq_join () h (fun w a hm hs => norm hm hs [] [0, 1] [] (by decide) trivial)
def f_lumlaw_IndexSays (fu : Nat) (a0 : (List S_api_Place)) (a1 : A8u8) : Option Bool := (opt (f_lumref_Index fu a0) fun (r3 : Int) => (opt (f_index_Find fu a0 a1) fun (r5 : (S_api_Place × Int)) => (lt (fun (j8A8_0 : A8u8) (j8i8_1 : Int) (j8i8_2 : Int) (j8i8_3 : Int) (j8i8_4 : Int) => (lt (fun (j10b4 : Bool) => (some j10b4)) fun (kk11 : Bool → Option Bool) => (req ((Lit.int .i64 r5.1.Kind).wf = true) (req ((Lit.int .i64 r5.1.Pack).wf = true) (req ((Lit.int .i64 r5.1.At).wf = true) (req ((Lit.int .i64 r5.1.Len).wf = true) (req ((Lit.int .i64 j8i8_1).wf = true) (req ((Lit.int .i64 j8i8_2).wf = true) (req ((Lit.int .i64 j8i8_3).wf = true) (req ((Lit.int .i64 j8i8_4).wf = true) (bif ((S_api_Place.mk r5.1.ID r5.1.Kind r5.1.Pack r5.1.At r5.1.Len) == (S_api_Place.mk j8A8_0 j8i8_1 j8i8_2 j8i8_3 j8i8_4)) then (bif (r5.2 == r3) then (opt (f_index_Check fu a0) fun (r23 : Int) => (kk11 (r23 == r3))) else (kk11 false)) else (kk11 false)))))))))))) fun (kk9 : A8u8 → Int → Int → Int → Int → Option Bool) => (bif (r3 == (0 : Int)) then (opt (f_slices_IndexFunc___api_Place_api_Place__F44 fu a0 a1) fun (r26 : Int) => (bif (decide (r26 < (0 : Int))) then (lt (fun (j28b4 : Bool) => (some j28b4)) fun (kk29 : Bool → Option Bool) => (req ((Lit.int .i64 r5.1.Kind).wf = true) (req ((Lit.int .i64 r5.1.Pack).wf = true) (req ((Lit.int .i64 r5.1.At).wf = true) (req ((Lit.int .i64 r5.1.Len).wf = true) (req ((Lit.int .i64 (0 : Int)).wf = true) (req ((Lit.int .i64 (0 : Int)).wf = true) (req ((Lit.int .i64 (0 : Int)).wf = true) (req ((Lit.int .i64 (0 : Int)).wf = true) (bif ((S_api_Place.mk r5.1.ID r5.1.Kind r5.1.Pack r5.1.At r5.1.Len) == (S_api_Place.mk (A8u8.mk (0 : UInt8) (0 : UInt8) (0 : UInt8) (0 : UInt8) (0 : UInt8) (0 : UInt8) (0 : UInt8) (0 : UInt8)) (0 : Int) (0 : Int) (0 : Int) (0 : Int))) then (bif (r5.2 == (9 : Int)) then (opt (f_index_Check fu a0) fun (r41 : Int) => (kk29 (r41 == (0 : Int)))) else (kk29 false)) else (kk29 false))))))))))) else (opt (at? a0 r26) fun (u42 : S_api_Place) => (kk9 u42.ID u42.Kind u42.Pack u42.At u42.Len)))) else (kk9 (A8u8.mk (0 : UInt8) (0 : UInt8) (0 : UInt8) (0 : UInt8) (0 : UInt8) (0 : UInt8) (0 : UInt8) (0 : UInt8)) (0 : Int) (0 : Int) (0 : Int) (0 : Int))))))
set_option maxRecDepth 100000 in
theorem f_lumlaw_IndexSays_ok (fu : Nat) (v0_0 : Value) (a0 : (List S_api_Place)) (a1 : A8u8) {r : Bool} (h : f_lumlaw_IndexSays fu a0 a1 = some r) : FnOk Try.prog 9 [v0_0, (ag (cA8u8 a1))] [(fDat (tyList tyS_api_Place) [v0_0] a0)] [] (fun (i : Unit) => { val := (Value.bool r) }) := by
  unfold f_lumlaw_IndexSays at h
  refine fn_enter Try.func9 rfl Try.ntmps9 rfl (fun w0 Z0 => ?_)
  refine aw_seq ?_
  refine aw_region ?_
  refine al_box (vs := (cA8u8 a1)) rfl (cv_rfl rfl) rfl (fun g1 => ?_)
  refine al_val (ov_assign rfl rfl) ?_
  refine al_nil ?_
  refine aq_then ?_
  refine aw_seq ?_
  refine aw_region ?_
  refine al_val (ov_move rfl rfl) ?_
  obtain ⟨r3, hc2, h⟩ := opt_some h
  refine al_call (vs := [v0_0]) (f_lumref_Index_ok fu v0_0 a0 hc2) [] [] [0] (pre_fz 0 rfl pre_nil) rfl (by simp) (by decide) (.inl rfl) rfl Try.func41 rfl rfl rfl (fun _ => ?_)
  refine al_val (ov_assign rfl rfl) ?_
  refine al_nil ?_
  refine aq_then ?_
  refine aw_seq ?_
  refine aw_region ?_
  refine al_val (ov_move rfl rfl) ?_
  refine al_val (ov_load (i := 0) (v := (ag (cA8u8 a1))) rfl rfl Try.underlying69 sz69 rfl rfl rfl rfl) ?_
  obtain ⟨r5, hc4, h⟩ := opt_some h
  refine al_call (vs := [v0_0, (ag (cA8u8 a1))]) (f_index_Find_ok fu v0_0 a0 a1 hc4) [] [] [0] (pre_fz 0 rfl pre_nil) rfl (by simp) (by decide) (.inl rfl) rfl Try.func42 rfl rfl rfl (fun _ => ?_)
  refine al_val (ov_move rfl rfl) ?_
  refine al_val (ov_extract rfl rfl rfl) ?_
  refine al_val (ov_extract rfl rfl rfl) ?_
  refine al_alloc (zs := ((cA8u8 (A8u8.mk (0 : UInt8) (0 : UInt8) (0 : UInt8) (0 : UInt8) (0 : UInt8) (0 : UInt8) (0 : UInt8) (0 : UInt8))) ++ [(Value.int .i64 (0 : Int)), (Value.int .i64 (0 : Int)), (Value.int .i64 (0 : Int)), (Value.int .i64 (0 : Int))])) (zeroOf_to to72) rfl rfl (fun g6 => ?_)
  refine al_store (i := 0) (vs := ((cA8u8 r5.1.ID) ++ [(Value.int .i64 r5.1.Kind), (Value.int .i64 r5.1.Pack), (Value.int .i64 r5.1.At), (Value.int .i64 r5.1.Len)])) (cs' := ((cA8u8 r5.1.ID) ++ [(Value.int .i64 r5.1.Kind), (Value.int .i64 r5.1.Pack), (Value.int .i64 r5.1.At), (Value.int .i64 r5.1.Len)])) rfl rfl rfl sz72 (cv_rfl rfl) rfl (co_app (oneA8u8 r5.1.ID) (co_val rfl (co_val rfl (co_val rfl (co_val rfl co_nil))))) (Nat.le_of_ble_eq_true rfl) rfl rfl ?_
  refine al_val (ov_assign rfl rfl) ?_
  refine al_nil ?_
  refine aq_then ?_
  refine aw_seq ?_
  refine aw_region ?_
  refine al_val (ov_build (cells := (((cA8u8 (A8u8.mk (0 : UInt8) (0 : UInt8) (0 : UInt8) (0 : UInt8) (0 : UInt8) (0 : UInt8) (0 : UInt8) (0 : UInt8))) ++ [(Value.int .i64 (0 : Int)), (Value.int .i64 (0 : Int)), (Value.int .i64 (0 : Int)), (Value.int .i64 (0 : Int))])).toArray) (cs := ((cA8u8 (A8u8.mk (0 : UInt8) (0 : UInt8) (0 : UInt8) (0 : UInt8) (0 : UInt8) (0 : UInt8) (0 : UInt8) (0 : UInt8))) ++ [(Value.int .i64 (0 : Int)), (Value.int .i64 (0 : Int)), (Value.int .i64 (0 : Int)), (Value.int .i64 (0 : Int))])) rfl (fun w a hm hs => by simp only [List.map_toArray, List.map_cons, List.map_nil, List.toList_toArray]; kernel_rfl)) ?_
  refine al_alloc (zs := ((cA8u8 (A8u8.mk (0 : UInt8) (0 : UInt8) (0 : UInt8) (0 : UInt8) (0 : UInt8) (0 : UInt8) (0 : UInt8) (0 : UInt8))) ++ [(Value.int .i64 (0 : Int)), (Value.int .i64 (0 : Int)), (Value.int .i64 (0 : Int)), (Value.int .i64 (0 : Int))])) (zeroOf_to to72) rfl rfl (fun g7 => ?_)
  refine al_store (i := 0) (vs := ((cA8u8 (A8u8.mk (0 : UInt8) (0 : UInt8) (0 : UInt8) (0 : UInt8) (0 : UInt8) (0 : UInt8) (0 : UInt8) (0 : UInt8))) ++ [(Value.int .i64 (0 : Int)), (Value.int .i64 (0 : Int)), (Value.int .i64 (0 : Int)), (Value.int .i64 (0 : Int))])) (cs' := ((cA8u8 (A8u8.mk (0 : UInt8) (0 : UInt8) (0 : UInt8) (0 : UInt8) (0 : UInt8) (0 : UInt8) (0 : UInt8) (0 : UInt8))) ++ [(Value.int .i64 (0 : Int)), (Value.int .i64 (0 : Int)), (Value.int .i64 (0 : Int)), (Value.int .i64 (0 : Int))])) rfl rfl rfl sz72 (cv_rfl rfl) rfl (co_app (oneA8u8 (A8u8.mk (0 : UInt8) (0 : UInt8) (0 : UInt8) (0 : UInt8) (0 : UInt8) (0 : UInt8) (0 : UInt8) (0 : UInt8))) (co_val rfl (co_val rfl (co_val rfl (co_val rfl co_nil))))) (Nat.le_of_ble_eq_true rfl) rfl rfl ?_
  refine al_nil ?_
  refine aq_then ?_
  obtain ⟨kk9, hkk9, h⟩ := lt_some h
  refine aw_seq_join (ι := A8u8 × Int × Int × Int × Int) (fun i => (memOf w0 Z0 [] [(oBox g6 72 ((cA8u8 r5.1.ID) ++ [(Value.int .i64 r5.1.Kind), (Value.int .i64 r5.1.Pack), (Value.int .i64 r5.1.At), (Value.int .i64 r5.1.Len)])), (oBox g7 72 ((cA8u8 i.1) ++ [(Value.int .i64 i.2.1), (Value.int .i64 i.2.2.1), (Value.int .i64 i.2.2.2.1), (Value.int .i64 i.2.2.2.2)]))] [(fDat (tyList tyS_api_Place) [v0_0] a0)])) (fun i => (tab [(0, v0_0), (5, (Value.int .i64 r3)), (6, (ptr g6 0)), (7, (Value.int .i64 r5.2)), (8, (ptr g7 0))])) (fun i => kk9 i.1 i.2.1 i.2.2.1 i.2.2.2.1 i.2.2.2.2 = some r) ?_ ?_
  · rintro ⟨j8A8_0, j8i8_1, j8i8_2, j8i8_3, j8i8_4⟩ h
    have h : kk9 j8A8_0 j8i8_1 j8i8_2 j8i8_3 j8i8_4 = some r := h
    rw [hkk9] at h
    dsimp only at h
    clear hkk9
    refine aw_show (m := (memOf w0 Z0 [] [(oBox g6 72 ((cA8u8 r5.1.ID) ++ [(Value.int .i64 r5.1.Kind), (Value.int .i64 r5.1.Pack), (Value.int .i64 r5.1.At), (Value.int .i64 r5.1.Len)])), (oBox g7 72 ((cA8u8 j8A8_0) ++ [(Value.int .i64 j8i8_1), (Value.int .i64 j8i8_2), (Value.int .i64 j8i8_3), (Value.int .i64 j8i8_4)]))] [(fDat (tyList tyS_api_Place) [v0_0] a0)])) (S := (tab [(0, v0_0), (5, (Value.int .i64 r3)), (6, (ptr g6 0)), (7, (Value.int .i64 r5.2)), (8, (ptr g7 0))])) ?_
    obtain ⟨kk11, hkk11, h⟩ := lt_some h
    refine aw_seq_join (ι := Bool) (fun i => (memOf w0 Z0 [] [] [(fDat (tyList tyS_api_Place) [v0_0] a0)])) (fun i => (tab [(4, (Value.bool i))])) (fun i => kk11 i = some r) ?_ ?_
    · rintro j10b4 h
      have h : kk11 j10b4 = some r := h
      rw [hkk11] at h
      dsimp only at h
      clear hkk11
      refine aw_show (m := (memOf w0 Z0 [] [] [(fDat (tyList tyS_api_Place) [v0_0] a0)])) (S := (tab [(4, (Value.bool j10b4))])) ?_
      refine aw_ret ?_
      obtain rfl := Option.some.inj h
      exact fn_ret () [] [] rfl rfl rfl rfl (res1 rfl rfl) rfl rfl rfl (by decide)
    · clear hkk11
      refine aw_region ?_
      refine al_val (ov_load (i := 0) (v := (ag ((cA8u8 r5.1.ID) ++ [(Value.int .i64 r5.1.Kind), (Value.int .i64 r5.1.Pack), (Value.int .i64 r5.1.At), (Value.int .i64 r5.1.Len)]))) rfl rfl Try.underlying72 sz72 rfl rfl rfl rfl) ?_
      refine al_val (ov_load (i := 1) (v := (ag ((cA8u8 j8A8_0) ++ [(Value.int .i64 j8i8_1), (Value.int .i64 j8i8_2), (Value.int .i64 j8i8_3), (Value.int .i64 j8i8_4)]))) rfl rfl Try.underlying72 sz72 rfl rfl rfl rfl) ?_
      obtain ⟨hc12, h⟩ := req_some h
      obtain ⟨hc13, h⟩ := req_some h
      obtain ⟨hc14, h⟩ := req_some h
      obtain ⟨hc15, h⟩ := req_some h
      obtain ⟨hc16, h⟩ := req_some h
      obtain ⟨hc17, h⟩ := req_some h
      obtain ⟨hc18, h⟩ := req_some h
      obtain ⟨hc19, h⟩ := req_some h
      refine al_val (ov_eqlA (cs := ((cA8u8 r5.1.ID) ++ [(Value.int .i64 r5.1.Kind), (Value.int .i64 r5.1.Pack), (Value.int .i64 r5.1.At), (Value.int .i64 r5.1.Len)])) (ds := ((cA8u8 j8A8_0) ++ [(Value.int .i64 j8i8_1), (Value.int .i64 j8i8_2), (Value.int .i64 j8i8_3), (Value.int .i64 j8i8_4)])) (ls := [5, 5, 5, 5, 5, 5, 5, 5, 3, 3, 3, 3]) (p := ((S_api_Place.mk r5.1.ID r5.1.Kind r5.1.Pack r5.1.At r5.1.Len) == (S_api_Place.mk j8A8_0 j8i8_1 j8i8_2 j8i8_3 j8i8_4))) eg72 kt72 lv72 rfl rfl (by kernel_rfl) (by kernel_rfl) (fit_cons (fit_u8 Try.underlying5) (fit_cons (fit_u8 Try.underlying5) (fit_cons (fit_u8 Try.underlying5) (fit_cons (fit_u8 Try.underlying5) (fit_cons (fit_u8 Try.underlying5) (fit_cons (fit_u8 Try.underlying5) (fit_cons (fit_u8 Try.underlying5) (fit_cons (fit_u8 Try.underlying5) (fit_cons (fit_int Try.underlying3 hc12) (fit_cons (fit_int Try.underlying3 hc13) (fit_cons (fit_int Try.underlying3 hc14) (fit_cons (fit_int Try.underlying3 hc15) fit_nil)))))))))))) (fit_cons (fit_u8 Try.underlying5) (fit_cons (fit_u8 Try.underlying5) (fit_cons (fit_u8 Try.underlying5) (fit_cons (fit_u8 Try.underlying5) (fit_cons (fit_u8 Try.underlying5) (fit_cons (fit_u8 Try.underlying5) (fit_cons (fit_u8 Try.underlying5) (fit_cons (fit_u8 Try.underlying5) (fit_cons (fit_int Try.underlying3 hc16) (fit_cons (fit_int Try.underlying3 hc17) (fit_cons (fit_int Try.underlying3 hc18) (fit_cons (fit_int Try.underlying3 hc19) fit_nil)))))))))))) (injS_api_Place (x := (S_api_Place.mk r5.1.ID r5.1.Kind r5.1.Pack r5.1.At r5.1.Len)) (y := (S_api_Place.mk j8A8_0 j8i8_1 j8i8_2 j8i8_3 j8i8_4))) rfl) ?_
      refine al_val (ov_move rfl rfl) ?_
      refine al_caseB 45 rfl (fun hb20 => ?_) (fun hb20 => ?_)
      · replace h := bif_t hb20 h
        refine al_val (ov_move rfl rfl) ?_
        refine al_val (ov_move rfl rfl) ?_
        refine al_val (ov_int rfl rfl rfl rfl) ?_
        refine al_val (ov_pick_t rfl rfl rfl) ?_
        refine al_val (ov_move rfl rfl) ?_
        refine al_caseB 50 rfl (fun hb21 => ?_) (fun hb21 => ?_)
        · replace h := bif_t hb21 h
          refine al_val (ov_move rfl rfl) ?_
          obtain ⟨r23, hc22, h⟩ := opt_some h
          refine al_call (vs := [v0_0]) (f_index_Check_ok fu v0_0 a0 hc22) [] [] [0, 1] (pre_fz 0 rfl pre_nil) rfl (by simp) (by decide) (.inl rfl) rfl Try.func45 rfl rfl rfl (fun _ => ?_)
          refine al_val (ov_move rfl rfl) ?_
          refine al_val (ov_int rfl rfl rfl rfl) ?_
          refine al_val (ov_pick_t rfl rfl rfl) ?_
          refine al_val (ov_assign rfl rfl) ?_
          refine al_nil ?_
          exact aq_join (r23 == r3) h (fun w a hm hs => norm hm hs [] [0] [(4, (Value.bool (r23 == r3)))] (by decide) ⟨rfl, trivial⟩)
        · replace h := bif_f hb21 h
          refine al_skip ?_
          refine al_skip ?_
          refine al_skip ?_
          refine al_skip ?_
          refine al_val (ov_pick_f rfl rfl rfl) ?_
          refine al_val (ov_assign rfl rfl) ?_
          refine al_nil ?_
          exact aq_join false h (fun w a hm hs => norm hm hs [] [0] [(4, (Value.bool false))] (by decide) ⟨rfl, trivial⟩)
      · replace h := bif_f hb20 h
        refine al_skip ?_
        refine al_skip ?_
        refine al_skip ?_
        refine al_val (ov_pick_f rfl rfl rfl) ?_
        refine al_val (ov_move rfl rfl) ?_
        refine al_skip ?_
        refine al_skip ?_
        refine al_skip ?_
        refine al_skip ?_
        refine al_val (ov_pick_f rfl rfl rfl) ?_
        refine al_val (ov_assign rfl rfl) ?_
        refine al_nil ?_
        exact aq_join false h (fun w a hm hs => norm hm hs [] [0] [(4, (Value.bool false))] (by decide) ⟨rfl, trivial⟩)
  · clear hkk9
    refine aw_seq ?_
    refine aw_region ?_
    refine al_val (ov_move rfl rfl) ?_
    refine al_val (ov_int rfl rfl rfl rfl) ?_
    refine al_nil ?_
    refine aq_then ?_
    refine aw_cond rfl (fun hb24 => ?_) (fun hb24 => ?_)
    · replace h := bif_t hb24 h
      refine aw_seq ?_
      refine aw_region ?_
      refine al_val (ov_move rfl rfl) ?_
      refine al_val (ov_makeFunc2 (vs := [(ptr g1 0)]) rfl rfl) ?_
      obtain ⟨r26, hc25, h⟩ := opt_some h
      refine al_call (vs := [v0_0, (Value.func (.func 44) #[] #[(ptr g1 0)])]) (f_slices_IndexFunc___api_Place_api_Place__F44_ok fu v0_0 a0 (ptr g1 0) a1 hc25) [2] [] [0, 1, 2] (pre_fz 0 rfl (pre_boxP (x := a1) 2 rfl rfl (fun _ _ => mkA8u8 rfl) pre_nil)) rfl (by simp) (by decide) (.inr flat_res0) rfl Try.func43 rfl rfl rfl (fun _ => ?_)
      refine al_val (ov_assign rfl rfl) ?_
      refine al_nil ?_
      refine aq_then ?_
      refine aw_seq ?_
      refine aw_seq ?_
      refine aw_region ?_
      refine al_val (ov_move rfl rfl) ?_
      refine al_val (ov_int rfl rfl rfl rfl) ?_
      refine al_nil ?_
      refine aq_then ?_
      refine aw_cond rfl (fun hb27 => ?_) (fun hb27 => ?_)
      · replace h := bif_t hb27 h
        obtain ⟨kk29, hkk29, h⟩ := lt_some h
        refine aw_seq_join (ι := Bool) (fun i => (memOf w0 Z0 [] [] [(fDat (tyList tyS_api_Place) [v0_0] a0)])) (fun i => (tab [(4, (Value.bool i))])) (fun i => kk29 i = some r) ?_ ?_
        · rintro j28b4 h
          have h : kk29 j28b4 = some r := h
          rw [hkk29] at h
          dsimp only at h
          clear hkk29
          refine aw_show (m := (memOf w0 Z0 [] [] [(fDat (tyList tyS_api_Place) [v0_0] a0)])) (S := (tab [(4, (Value.bool j28b4))])) ?_
          refine aw_ret ?_
          refine aq_then_ret ?_
          refine aq_then_ret ?_
          obtain rfl := Option.some.inj h
          exact fn_ret () [] [] rfl rfl rfl rfl (res1 rfl rfl) rfl rfl rfl (by decide)
        · clear hkk29
          refine aw_region ?_
          refine al_val (ov_load (i := 1) (v := (ag ((cA8u8 r5.1.ID) ++ [(Value.int .i64 r5.1.Kind), (Value.int .i64 r5.1.Pack), (Value.int .i64 r5.1.At), (Value.int .i64 r5.1.Len)]))) rfl rfl Try.underlying72 sz72 rfl rfl rfl rfl) ?_
          refine al_val (ov_load (i := 0) (v := (ag ((cA8u8 (A8u8.mk (0 : UInt8) (0 : UInt8) (0 : UInt8) (0 : UInt8) (0 : UInt8) (0 : UInt8) (0 : UInt8) (0 : UInt8))) ++ [(Value.int .i64 (0 : Int)), (Value.int .i64 (0 : Int)), (Value.int .i64 (0 : Int)), (Value.int .i64 (0 : Int))]))) rfl rfl Try.underlying72 sz72 rfl rfl rfl rfl) ?_
          obtain ⟨hc30, h⟩ := req_some h
          obtain ⟨hc31, h⟩ := req_some h
          obtain ⟨hc32, h⟩ := req_some h
          obtain ⟨hc33, h⟩ := req_some h
          obtain ⟨hc34, h⟩ := req_some h
          obtain ⟨hc35, h⟩ := req_some h
          obtain ⟨hc36, h⟩ := req_some h
          obtain ⟨hc37, h⟩ := req_some h
          refine al_val (ov_eqlA (cs := ((cA8u8 r5.1.ID) ++ [(Value.int .i64 r5.1.Kind), (Value.int .i64 r5.1.Pack), (Value.int .i64 r5.1.At), (Value.int .i64 r5.1.Len)])) (ds := ((cA8u8 (A8u8.mk (0 : UInt8) (0 : UInt8) (0 : UInt8) (0 : UInt8) (0 : UInt8) (0 : UInt8) (0 : UInt8) (0 : UInt8))) ++ [(Value.int .i64 (0 : Int)), (Value.int .i64 (0 : Int)), (Value.int .i64 (0 : Int)), (Value.int .i64 (0 : Int))])) (ls := [5, 5, 5, 5, 5, 5, 5, 5, 3, 3, 3, 3]) (p := ((S_api_Place.mk r5.1.ID r5.1.Kind r5.1.Pack r5.1.At r5.1.Len) == (S_api_Place.mk (A8u8.mk (0 : UInt8) (0 : UInt8) (0 : UInt8) (0 : UInt8) (0 : UInt8) (0 : UInt8) (0 : UInt8) (0 : UInt8)) (0 : Int) (0 : Int) (0 : Int) (0 : Int)))) eg72 kt72 lv72 rfl rfl (by kernel_rfl) (by kernel_rfl) (fit_cons (fit_u8 Try.underlying5) (fit_cons (fit_u8 Try.underlying5) (fit_cons (fit_u8 Try.underlying5) (fit_cons (fit_u8 Try.underlying5) (fit_cons (fit_u8 Try.underlying5) (fit_cons (fit_u8 Try.underlying5) (fit_cons (fit_u8 Try.underlying5) (fit_cons (fit_u8 Try.underlying5) (fit_cons (fit_int Try.underlying3 hc30) (fit_cons (fit_int Try.underlying3 hc31) (fit_cons (fit_int Try.underlying3 hc32) (fit_cons (fit_int Try.underlying3 hc33) fit_nil)))))))))))) (fit_cons (fit_u8 Try.underlying5) (fit_cons (fit_u8 Try.underlying5) (fit_cons (fit_u8 Try.underlying5) (fit_cons (fit_u8 Try.underlying5) (fit_cons (fit_u8 Try.underlying5) (fit_cons (fit_u8 Try.underlying5) (fit_cons (fit_u8 Try.underlying5) (fit_cons (fit_u8 Try.underlying5) (fit_cons (fit_int Try.underlying3 hc34) (fit_cons (fit_int Try.underlying3 hc35) (fit_cons (fit_int Try.underlying3 hc36) (fit_cons (fit_int Try.underlying3 hc37) fit_nil)))))))))))) (injS_api_Place (x := (S_api_Place.mk r5.1.ID r5.1.Kind r5.1.Pack r5.1.At r5.1.Len)) (y := (S_api_Place.mk (A8u8.mk (0 : UInt8) (0 : UInt8) (0 : UInt8) (0 : UInt8) (0 : UInt8) (0 : UInt8) (0 : UInt8) (0 : UInt8)) (0 : Int) (0 : Int) (0 : Int) (0 : Int)))) rfl) ?_
          refine al_val (ov_move rfl rfl) ?_
          refine al_caseB 29 rfl (fun hb38 => ?_) (fun hb38 => ?_)
          · replace h := bif_t hb38 h
            refine al_val (ov_move rfl rfl) ?_
            refine al_val (ov_int rfl rfl rfl rfl) ?_
            refine al_val (ov_pick_t rfl rfl rfl) ?_
            refine al_val (ov_move rfl rfl) ?_
            refine al_caseB 33 rfl (fun hb39 => ?_) (fun hb39 => ?_)
            · replace h := bif_t hb39 h
              refine al_val (ov_move rfl rfl) ?_
              obtain ⟨r41, hc40, h⟩ := opt_some h
              refine al_call (vs := [v0_0]) (f_index_Check_ok fu v0_0 a0 hc40) [] [] [0, 1, 2] (pre_fz 0 rfl pre_nil) rfl (by simp) (by decide) (.inl rfl) rfl Try.func45 rfl rfl rfl (fun _ => ?_)
              refine al_val (ov_int rfl rfl rfl rfl) ?_
              refine al_val (ov_pick_t rfl rfl rfl) ?_
              refine al_val (ov_assign rfl rfl) ?_
              refine al_nil ?_
              exact aq_join (r41 == (0 : Int)) h (fun w a hm hs => norm hm hs [] [0] [(4, (Value.bool (r41 == (0 : Int))))] (by decide) ⟨rfl, trivial⟩)
            · replace h := bif_f hb39 h
              refine al_skip ?_
              refine al_skip ?_
              refine al_skip ?_
              refine al_val (ov_pick_f rfl rfl rfl) ?_
              refine al_val (ov_assign rfl rfl) ?_
              refine al_nil ?_
              exact aq_join false h (fun w a hm hs => norm hm hs [] [0] [(4, (Value.bool false))] (by decide) ⟨rfl, trivial⟩)
          · replace h := bif_f hb38 h
            refine al_skip ?_
            refine al_skip ?_
            refine al_val (ov_pick_f rfl rfl rfl) ?_
            refine al_val (ov_move rfl rfl) ?_
            refine al_skip ?_
            refine al_skip ?_
            refine al_skip ?_
            refine al_val (ov_pick_f rfl rfl rfl) ?_
            refine al_val (ov_assign rfl rfl) ?_
            refine al_nil ?_
            exact aq_join false h (fun w a hm hs => norm hm hs [] [0] [(4, (Value.bool false))] (by decide) ⟨rfl, trivial⟩)
      · replace h := bif_f hb27 h
        refine aw_skip ?_
        refine aq_then ?_
        refine aw_region ?_
        refine al_val (ov_move rfl rfl) ?_
        refine al_val (ov_move rfl rfl) ?_
        obtain ⟨u42, hu43, h⟩ := opt_some h
        refine al_idxD 0 hu43 rfl rfl rfl Try.underlying67 sz72 rfl (fun p44 => ?_)
        refine al_val (ov_loadP (ds := ((cA8u8 u42.ID) ++ [(Value.int .i64 u42.Kind), (Value.int .i64 u42.Pack), (Value.int .i64 u42.At), (Value.int .i64 u42.Len)])) 0 rfl encS_api_Place rfl Try.underlying72 sz72 rfl rfl rfl) ?_
        refine al_store (i := 0) (vs := ((cA8u8 u42.ID) ++ [(Value.int .i64 u42.Kind), (Value.int .i64 u42.Pack), (Value.int .i64 u42.At), (Value.int .i64 u42.Len)])) (cs' := ((cA8u8 u42.ID) ++ [(Value.int .i64 u42.Kind), (Value.int .i64 u42.Pack), (Value.int .i64 u42.At), (Value.int .i64 u42.Len)])) rfl rfl rfl sz72 (cv_rfl rfl) rfl (co_app (oneA8u8 u42.ID) (co_val rfl (co_val rfl (co_val rfl (co_val rfl co_nil))))) (Nat.le_of_ble_eq_true rfl) rfl rfl ?_
        refine al_nil ?_
        exact aq_join (u42.ID, u42.Kind, u42.Pack, u42.At, u42.Len) h (fun w a hm hs => norm hm hs [1, 0] [1] [(0, v0_0), (5, (Value.int .i64 r3)), (6, (ptr g6 0)), (7, (Value.int .i64 r5.2)), (8, (ptr g7 0))] (by decide) ⟨rfl, rfl, rfl, rfl, rfl, trivial⟩)
    · replace h := bif_f hb24 h
      refine aw_skip ?_
      exact aq_join ((A8u8.mk (0 : UInt8) (0 : UInt8) (0 : UInt8) (0 : UInt8) (0 : UInt8) (0 : UInt8) (0 : UInt8) (0 : UInt8)), (0 : Int), (0 : Int), (0 : Int), (0 : Int)) h (fun w a hm hs => norm hm hs [1, 0] [0] [(0, v0_0), (5, (Value.int .i64 r3)), (6, (ptr g6 0)), (7, (Value.int .i64 r5.2)), (8, (ptr g7 0))] (by decide) ⟨rfl, rfl, rfl, rfl, rfl, trivial⟩)
end Go.Proofs.Ythcmjcnilhglmaa
