/- Walks by program. No condition. -/
import Derived.Test.YtollpgmcmipcoaaEn21
import Derived.Test.YtollpgmcmipcoaaChecked
import Derived.Test.YtollpgmcmipcoaaEn24
namespace Go.Proofs.Ytollpgmcmipcoaa
open Go.RowKit Ytollpgmcmipcoaa.En
set_option linter.unusedVariables false
set_option linter.unusedSimpArgs false
structure S_api_Policy where
  Last : Int
  Days : Int
  Weeks : Int
  Months : Int
  Years : Int
  deriving DecidableEq
def tyS_api_Policy : Ty S_api_Policy := tyVia (fun x => (x.Last, (x.Days, (x.Weeks, (x.Months, x.Years))))) (tyPair (tyInt .i64) (tyPair (tyInt .i64) (tyPair (tyInt .i64) (tyPair (tyInt .i64) (tyInt .i64)))))
theorem subS_api_Policy_0 : Sub tyS_api_Policy 0 (tyInt .i64) (fun x => x.Last) := Sub.via (Sub.fst (Sub.whole _))
theorem subS_api_Policy_1 : Sub tyS_api_Policy 1 (tyInt .i64) (fun x => x.Days) := Sub.via (Sub.snd (Sub.fst (Sub.whole _)))
theorem subS_api_Policy_2 : Sub tyS_api_Policy 2 (tyInt .i64) (fun x => x.Weeks) := Sub.via (Sub.snd (Sub.snd (Sub.fst (Sub.whole _))))
theorem subS_api_Policy_3 : Sub tyS_api_Policy 3 (tyInt .i64) (fun x => x.Months) := Sub.via (Sub.snd (Sub.snd (Sub.snd (Sub.fst (Sub.whole _)))))
theorem subS_api_Policy_4 : Sub tyS_api_Policy 4 (tyInt .i64) (fun x => x.Years) := Sub.via (Sub.snd (Sub.snd (Sub.snd (Sub.snd (Sub.whole _)))))
theorem flatS_api_Policy : FlatTy tyS_api_Policy := flat_via (flat_pair flat_enc (flat_pair flat_enc (flat_pair flat_enc (flat_pair flat_enc flat_enc))))
theorem encS_api_Policy {Z w cs} {x : S_api_Policy} (h : tyS_api_Policy.rep Z w cs x) : cs = [(Value.int .i64 x.Last), (Value.int .i64 x.Days), (Value.int .i64 x.Weeks), (Value.int .i64 x.Months), (Value.int .i64 x.Years)] := by
  obtain ⟨c0, d0, rfl, p0, q0⟩ := h
  obtain ⟨c1, d1, rfl, p1, q1⟩ := q0
  obtain ⟨c2, d2, rfl, p2, q2⟩ := q1
  obtain ⟨c3, d3, rfl, p3, q3⟩ := q2
  rw [show _ = _ from p0]
  rw [show _ = _ from p1]
  rw [show _ = _ from p2]
  rw [show _ = _ from p3]
  rw [show _ = _ from q3]
  rfl
theorem mkS_api_Policy {Z w cs} {x : S_api_Policy} (h : cs = [(Value.int .i64 x.Last), (Value.int .i64 x.Days), (Value.int .i64 x.Weeks), (Value.int .i64 x.Months), (Value.int .i64 x.Years)]) : tyS_api_Policy.rep Z w cs x := by
  subst h
  exact ⟨_, _, (List.take_append_drop 1 _).symm, rfl, ⟨_, _, (List.take_append_drop 1 _).symm, rfl, ⟨_, _, (List.take_append_drop 1 _).symm, rfl, ⟨_, _, (List.take_append_drop 1 _).symm, rfl, rfl⟩⟩⟩⟩
structure A5i64 where
  e0 : Int
  e1 : Int
  e2 : Int
  e3 : Int
  e4 : Int
  deriving DecidableEq
def tyA5i64 : Ty A5i64 := tyVia (fun x => (x.e0, (x.e1, (x.e2, (x.e3, x.e4))))) (tyPair (tyInt .i64) (tyPair (tyInt .i64) (tyPair (tyInt .i64) (tyPair (tyInt .i64) (tyInt .i64)))))
theorem subA5i64_0 : Sub tyA5i64 0 (tyInt .i64) (fun x => x.e0) := Sub.via (Sub.fst (Sub.whole _))
theorem subA5i64_1 : Sub tyA5i64 1 (tyInt .i64) (fun x => x.e1) := Sub.via (Sub.snd (Sub.fst (Sub.whole _)))
theorem subA5i64_2 : Sub tyA5i64 2 (tyInt .i64) (fun x => x.e2) := Sub.via (Sub.snd (Sub.snd (Sub.fst (Sub.whole _))))
theorem subA5i64_3 : Sub tyA5i64 3 (tyInt .i64) (fun x => x.e3) := Sub.via (Sub.snd (Sub.snd (Sub.snd (Sub.fst (Sub.whole _)))))
theorem subA5i64_4 : Sub tyA5i64 4 (tyInt .i64) (fun x => x.e4) := Sub.via (Sub.snd (Sub.snd (Sub.snd (Sub.snd (Sub.whole _)))))
def cA5i64 (x : A5i64) : List Value := [(Value.int .i64 x.e0), (Value.int .i64 x.e1), (Value.int .i64 x.e2), (Value.int .i64 x.e3), (Value.int .i64 x.e4)]
def lA5i64 (x : A5i64) : List Int := [x.e0, x.e1, x.e2, x.e3, x.e4]
def vA5i64 (y : Int) : Value := (Value.int .i64 y)
def setA5i64 (x : A5i64) (j : Int) (y : Int) : A5i64 := ⟨if j = 0 then y else x.e0, if j = 1 then y else x.e1, if j = 2 then y else x.e2, if j = 3 then y else x.e3, if j = 4 then y else x.e4⟩
theorem oneA5i64 (x : A5i64) : ∀ u ∈ cA5i64 x, u.oneCell' = true := ones_map (enc := vA5i64) (xs := lA5i64 x) (fun _ => rfl)
theorem lenA5i64 (x : A5i64) : (lA5i64 x).length = 5 := rfl
theorem lsetA5i64 {x : A5i64} {j : Int} {y : Int} (h0 : 0 ≤ j) (h1 : j < 5) : lA5i64 (setA5i64 x j y) = (lA5i64 x).set j.toNat y := by
  obtain ⟨q, rfl⟩ : ∃ q : Nat, j = q := ⟨j.toNat, by omega⟩
  match q, h1 with
  | 0, _ => rfl
  | 1, _ => rfl
  | 2, _ => rfl
  | 3, _ => rfl
  | 4, _ => rfl
  | n + 5, h => omega
theorem csetA5i64 {x : A5i64} {j : Int} {y : Int} (h0 : 0 ≤ j) (h1 : j < 5) (pre post : List Value) : pre ++ (cA5i64 (setA5i64 x j y) ++ post) = (pre ++ (cA5i64 x ++ post)).set (pre.length + j.toNat) (vA5i64 y) := by
  have h : cA5i64 (setA5i64 x j y) = (cA5i64 x).set j.toNat (vA5i64 y) := by
    have e : ∀ z : A5i64, cA5i64 z = (lA5i64 z).map vA5i64 := fun _ => rfl
    rw [e, e, lsetA5i64 h0 h1, List.map_set]
  rw [h, List.set_append_right _ _ (by omega), Nat.add_sub_cancel_left, List.set_append_left _ _ (by show j.toNat < 5; omega)]
theorem flatA5i64 : FlatTy tyA5i64 := flat_via (flat_pair flat_enc (flat_pair flat_enc (flat_pair flat_enc (flat_pair flat_enc flat_enc))))
theorem encA5i64 {Z w cs} {x : A5i64} (h : tyA5i64.rep Z w cs x) : cs = (cA5i64 x) := by
  obtain ⟨c0, d0, rfl, p0, q0⟩ := h
  obtain ⟨c1, d1, rfl, p1, q1⟩ := q0
  obtain ⟨c2, d2, rfl, p2, q2⟩ := q1
  obtain ⟨c3, d3, rfl, p3, q3⟩ := q2
  rw [show _ = _ from p0]
  rw [show _ = _ from p1]
  rw [show _ = _ from p2]
  rw [show _ = _ from p3]
  rw [show _ = _ from q3]
  rfl
theorem mkA5i64 {Z w cs} {x : A5i64} (h : cs = (cA5i64 x)) : tyA5i64.rep Z w cs x := by
  subst h
  exact ⟨_, _, (List.take_append_drop 1 _).symm, rfl, ⟨_, _, (List.take_append_drop 1 _).symm, rfl, ⟨_, _, (List.take_append_drop 1 _).symm, rfl, ⟨_, _, (List.take_append_drop 1 _).symm, rfl, rfl⟩⟩⟩⟩
theorem lrepA5i64 {Z w cs} {x : A5i64} (h : tyA5i64.rep Z w cs x) : RepL (tyInt .i64) Z w cs (lA5i64 x) := by
  rw [encA5i64 h]
  exact ⟨[_], _, rfl, rfl, ⟨[_], _, rfl, rfl, ⟨[_], _, rfl, rfl, ⟨[_], _, rfl, rfl, ⟨[_], _, rfl, rfl, rfl⟩⟩⟩⟩⟩
structure A2i64 where
  e0 : Int
  e1 : Int
  deriving DecidableEq
def tyA2i64 : Ty A2i64 := tyVia (fun x => (x.e0, x.e1)) (tyPair (tyInt .i64) (tyInt .i64))
theorem subA2i64_0 : Sub tyA2i64 0 (tyInt .i64) (fun x => x.e0) := Sub.via (Sub.fst (Sub.whole _))
theorem subA2i64_1 : Sub tyA2i64 1 (tyInt .i64) (fun x => x.e1) := Sub.via (Sub.snd (Sub.whole _))
def cA2i64 (x : A2i64) : List Value := [(Value.int .i64 x.e0), (Value.int .i64 x.e1)]
def lA2i64 (x : A2i64) : List Int := [x.e0, x.e1]
def vA2i64 (y : Int) : Value := (Value.int .i64 y)
def setA2i64 (x : A2i64) (j : Int) (y : Int) : A2i64 := ⟨if j = 0 then y else x.e0, if j = 1 then y else x.e1⟩
theorem oneA2i64 (x : A2i64) : ∀ u ∈ cA2i64 x, u.oneCell' = true := ones_map (enc := vA2i64) (xs := lA2i64 x) (fun _ => rfl)
theorem lenA2i64 (x : A2i64) : (lA2i64 x).length = 2 := rfl
theorem lsetA2i64 {x : A2i64} {j : Int} {y : Int} (h0 : 0 ≤ j) (h1 : j < 2) : lA2i64 (setA2i64 x j y) = (lA2i64 x).set j.toNat y := by
  obtain ⟨q, rfl⟩ : ∃ q : Nat, j = q := ⟨j.toNat, by omega⟩
  match q, h1 with
  | 0, _ => rfl
  | 1, _ => rfl
  | n + 2, h => omega
theorem csetA2i64 {x : A2i64} {j : Int} {y : Int} (h0 : 0 ≤ j) (h1 : j < 2) (pre post : List Value) : pre ++ (cA2i64 (setA2i64 x j y) ++ post) = (pre ++ (cA2i64 x ++ post)).set (pre.length + j.toNat) (vA2i64 y) := by
  have h : cA2i64 (setA2i64 x j y) = (cA2i64 x).set j.toNat (vA2i64 y) := by
    have e : ∀ z : A2i64, cA2i64 z = (lA2i64 z).map vA2i64 := fun _ => rfl
    rw [e, e, lsetA2i64 h0 h1, List.map_set]
  rw [h, List.set_append_right _ _ (by omega), Nat.add_sub_cancel_left, List.set_append_left _ _ (by show j.toNat < 2; omega)]
theorem flatA2i64 : FlatTy tyA2i64 := flat_via (flat_pair flat_enc flat_enc)
theorem encA2i64 {Z w cs} {x : A2i64} (h : tyA2i64.rep Z w cs x) : cs = (cA2i64 x) := by
  obtain ⟨c0, d0, rfl, p0, q0⟩ := h
  rw [show _ = _ from p0]
  rw [show _ = _ from q0]
  rfl
theorem mkA2i64 {Z w cs} {x : A2i64} (h : cs = (cA2i64 x)) : tyA2i64.rep Z w cs x := by
  subst h
  exact ⟨_, _, (List.take_append_drop 1 _).symm, rfl, rfl⟩
theorem lrepA2i64 {Z w cs} {x : A2i64} (h : tyA2i64.rep Z w cs x) : RepL (tyInt .i64) Z w cs (lA2i64 x) := by
  rw [encA2i64 h]
  exact ⟨[_], _, rfl, rfl, ⟨[_], _, rfl, rfl, rfl⟩⟩
structure S_keep_rule where
  many : Int
  of_ : Int
  deriving DecidableEq
def tyS_keep_rule : Ty S_keep_rule := tyVia (fun x => (x.many, x.of_)) (tyPair (tyInt .i64) tyFn)
theorem subS_keep_rule_0 : Sub tyS_keep_rule 0 (tyInt .i64) (fun x => x.many) := Sub.via (Sub.fst (Sub.whole _))
theorem subS_keep_rule_1 : Sub tyS_keep_rule 1 tyFn (fun x => x.of_) := Sub.via (Sub.snd (Sub.whole _))
theorem flatS_keep_rule : FlatTy tyS_keep_rule := flat_via (flat_pair flat_enc flat_enc)
theorem encS_keep_rule {Z w cs} {x : S_keep_rule} (h : tyS_keep_rule.rep Z w cs x) : cs = [(Value.int .i64 x.many), (Value.func (.func (x.of_).toNat) #[] #[])] := by
  obtain ⟨c0, d0, rfl, p0, q0⟩ := h
  rw [show _ = _ from p0]
  rw [show _ = _ from q0]
  rfl
theorem mkS_keep_rule {Z w cs} {x : S_keep_rule} (h : cs = [(Value.int .i64 x.many), (Value.func (.func (x.of_).toNat) #[] #[])]) : tyS_keep_rule.rep Z w cs x := by
  subst h
  exact ⟨_, _, (List.take_append_drop 1 _).symm, rfl, rfl⟩
theorem sz3 : szOf Try.prog 3 = some 1 := by kernel_rfl
theorem to3 : tyOf Try.prog 3 = some (1, 8, some (Value.int .i64 (0 : Int))) := by kernel_rfl
theorem sz4 : szOf Try.prog 4 = some 1 := by kernel_rfl
theorem to4 : tyOf Try.prog 4 = some (1, 1, some (Value.bool false)) := by kernel_rfl
theorem sz33 : szOf Try.prog 33 = some 5 := by kernel_rfl
theorem to33 : tyOf Try.prog 33 = some (5, 40, some (ag [(Value.int .i64 (0 : Int)), (Value.int .i64 (0 : Int)), (Value.int .i64 (0 : Int)), (Value.int .i64 (0 : Int)), (Value.int .i64 (0 : Int))])) := by kernel_rfl
theorem sz85 : szOf Try.prog 85 = some 1 := by kernel_rfl
theorem to85 : tyOf Try.prog 85 = some (1, 8, some Value.nilFunc) := by kernel_rfl
theorem sz87 : szOf Try.prog 87 = some 2 := by kernel_rfl
theorem to87 : tyOf Try.prog 87 = some (2, 16, some (ag [(Value.int .i64 (0 : Int)), Value.nilFunc])) := by kernel_rfl
theorem sz90 : szOf Try.prog 90 = some 2 := by kernel_rfl
theorem to90 : tyOf Try.prog 90 = some (2, 16, some (ag [(Value.int .i64 (0 : Int)), (Value.int .i64 (0 : Int))])) := by kernel_rfl
theorem mixed : Try.prog.follows .mixedOrders = true := by kernel_rfl
theorem eg90 : Try.prog.eqGuardType Try.prog.depth 90 = false := by kernel_rfl
theorem kt90 : Try.prog.keyTypeAt 20 90 = true := by kernel_rfl
theorem lv90 : leaves Try.prog 20 90 = some [3, 3] := by kernel_rfl
theorem injA2i64 {x y : A2i64} : (x == y) = true ↔ (cA2i64 x) = (cA2i64 y) := by
  rw [beq_iff_eq]
  constructor
  · rintro rfl; rfl
  · intro h
    obtain ⟨⟩ := x
    obtain ⟨⟩ := y
    simp only [A2i64.mk.injEq, cA2i64, str, List.cons_append, List.nil_append, List.cons.injEq, Value.int.injEq, Value.bool.injEq, Value.string.injEq, ByteArray.mk.injEq, Array.mk.injEq, Int.natCast_inj, UInt8.toNat_inj, true_and, and_true] at h ⊢
    first | exact h | simpa [and_assoc] using h
theorem kd90 : Go.Maps.Keyed Try.prog 90 := Go.Maps.Keyed.of_law (Go.deep_law_laid (by kernel_rfl) (m := 20) (by decide) (Nat.le_of_ble_eq_true (by kernel_rfl)) (by kernel_rfl) (by kernel_rfl))
theorem kw90 (x : A2i64) (h0 : (Lit.int .i64 x.e0).wf = true) (h1 : (Lit.int .i64 x.e1).wf = true) : ∃ t, keyOf Try.prog 90 (ag (cA2i64 x)) = some t := key_wide (ls := [3, 3]) (by kernel_rfl) (by kernel_rfl) (by kernel_rfl) (by kernel_rfl) (fit_cons (fit_int Try.underlying3 h0) (fit_cons (fit_int Try.underlying3 h1) fit_nil))
theorem ki90 (a b : A2i64) (h : (fun x : A2i64 => ag (cA2i64 x)) a = (fun x : A2i64 => ag (cA2i64 x)) b) : a = b := eq_of_beq (injA2i64.2 (ag_inj h))
def okS_api_Policy (x : S_api_Policy) : Prop := ((Lit.int .i64 x.Last).wf = true) ∧ ((Lit.int .i64 x.Days).wf = true) ∧ ((Lit.int .i64 x.Weeks).wf = true) ∧ ((Lit.int .i64 x.Months).wf = true) ∧ ((Lit.int .i64 x.Years).wf = true)
set_option maxRecDepth 100000 in
theorem opnS_api_Policy {H : Type} : Opn H Try.prog 33 tyS_api_Policy okS_api_Policy := opn_struct (fun x => (x.Last, (x.Days, (x.Weeks, (x.Months, x.Years))))) (fun y => S_api_Policy.mk y.1 y.2.1 y.2.2.1 y.2.2.2.1 y.2.2.2.2) (fun _ => rfl) Try.underlying33 sz33 (fields_cons sz3 (opn_int Try.underlying3) (fields_cons sz3 (opn_int Try.underlying3) (fields_cons sz3 (opn_int Try.underlying3) (fields_cons sz3 (opn_int Try.underlying3) (fields_one sz3 (opn_int Try.underlying3))))))
def f_keep_Check_L6 (a0 : S_api_Policy) (kk3 : (Unit → Option Int)) : Nat → Int → Option Int
  | 0, _ => none
  | k5 + 1, l4i16 => (bif (decide (l4i16 < (5 : Int))) then (opt (at? (lA5i64 (A5i64.mk a0.Last a0.Days a0.Weeks a0.Months a0.Years)) l4i16) fun (u8 : Int) => (lt (fun (j10b24 : Bool) => (bif j10b24 then (some (1 : Int)) else (f_keep_Check_L6 a0 kk3 k5 (IntKind.i64.wrap (l4i16 + (1 : Int)))))) fun (kk11 : Bool → Option Int) => (bif (decide (u8 < (0 : Int))) then (kk11 true) else (kk11 (decide (u8 > (100 : Int))))))) else (kk3 ()))
def f_keep_Check (fu : Nat) (a0 : S_api_Policy) : Option Int := (lt (fun (_ : Unit) => (some (0 : Int))) fun (kk3 : Unit → Option Int) => (f_keep_Check_L6 a0 kk3 fu (0 : Int)))
set_option maxRecDepth 100000 in
theorem f_keep_Check_ok (fu : Nat) (a0 : S_api_Policy) {r : Int} (h : f_keep_Check fu a0 = some r) : FnOk Try.prog 14 [(ag [(Value.int .i64 a0.Last), (Value.int .i64 a0.Days), (Value.int .i64 a0.Weeks), (Value.int .i64 a0.Months), (Value.int .i64 a0.Years)])] [] [] (fun (i : Unit) => { val := (Value.int .i64 r) }) := by
  unfold f_keep_Check at h
  refine fn_enter Try.func14 rfl Try.ntmps14 rfl (fun w0 Z0 => ?_)
  refine aw_seq ?_
  refine aw_region ?_
  refine al_box (vs := [(Value.int .i64 a0.Last), (Value.int .i64 a0.Days), (Value.int .i64 a0.Weeks), (Value.int .i64 a0.Months), (Value.int .i64 a0.Years)]) rfl (cv_rfl rfl) rfl (fun g1 => ?_)
  refine al_val (ov_assign rfl rfl) ?_
  refine al_nil ?_
  refine aq_then ?_
  obtain ⟨kk3, hkk3, h⟩ := lt_some h
  refine aw_seq_join (ι := Unit) (fun i => (memOf w0 Z0 [] [] [])) (fun i => (tab [])) (fun i => kk3 () = some r) ?_ ?_
  · rintro _ h
    have h : kk3 () = some r := h
    rw [hkk3] at h
    dsimp only at h
    clear hkk3
    refine aw_show (m := (memOf w0 Z0 [] [] [])) (S := (tab [])) ?_
    refine aw_seq ?_
    refine aw_region ?_
    refine al_val (ov_assign rfl rfl) ?_
    refine al_nil ?_
    refine aq_then ?_
    refine aw_ret ?_
    obtain rfl := Option.some.inj h
    exact fn_ret () [] [] rfl rfl rfl rfl (res1 rfl rfl) rfl rfl rfl (by decide)
  · clear hkk3
    refine aw_seq ?_
    refine aw_region ?_
    refine al_val (ov_fieldA (p := 0) rfl Try.underlying33 rfl sz3 rfl rfl rfl) ?_
    refine al_val (ov_load (i := 0) (v := (Value.int .i64 a0.Last)) rfl rfl Try.underlying3 sz3 rfl rfl rfl rfl) ?_
    refine al_val (ov_fieldA (p := 1) rfl Try.underlying33 rfl sz3 rfl rfl rfl) ?_
    refine al_val (ov_load (i := 0) (v := (Value.int .i64 a0.Days)) rfl rfl Try.underlying3 sz3 rfl rfl rfl rfl) ?_
    refine al_val (ov_fieldA (p := 2) rfl Try.underlying33 rfl sz3 rfl rfl rfl) ?_
    refine al_val (ov_load (i := 0) (v := (Value.int .i64 a0.Weeks)) rfl rfl Try.underlying3 sz3 rfl rfl rfl rfl) ?_
    refine al_val (ov_fieldA (p := 3) rfl Try.underlying33 rfl sz3 rfl rfl rfl) ?_
    refine al_val (ov_load (i := 0) (v := (Value.int .i64 a0.Months)) rfl rfl Try.underlying3 sz3 rfl rfl rfl rfl) ?_
    refine al_val (ov_fieldA (p := 4) rfl Try.underlying33 rfl sz3 rfl rfl rfl) ?_
    refine al_val (ov_load (i := 0) (v := (Value.int .i64 a0.Years)) rfl rfl Try.underlying3 sz3 rfl rfl rfl rfl) ?_
    refine al_val (ov_build (cells := ((cA5i64 (A5i64.mk a0.Last a0.Days a0.Weeks a0.Months a0.Years))).toArray) (cs := (cA5i64 (A5i64.mk a0.Last a0.Days a0.Weeks a0.Months a0.Years))) rfl (fun w a hm hs => by simp only [List.map_toArray, List.map_cons, List.map_nil, List.toList_toArray, hs.ev (x := .tmp 6) rfl, hs.ev (x := .tmp 8) rfl, hs.ev (x := .tmp 10) rfl, hs.ev (x := .tmp 12) rfl, hs.ev (x := .tmp 14) rfl]; kernel_rfl)) ?_
    refine al_val (ov_move rfl rfl) ?_
    refine al_nil ?_
    refine aq_then ?_
    refine aw_block ?_
    refine aw_state (aw_loop (ι := Int) (fun i => (memOf w0 Z0 [] [] [])) (fun i => (tab [(15, (ag (cA5i64 (A5i64.mk a0.Last a0.Days a0.Weeks a0.Months a0.Years)))), (16, (Value.int .i64 i))])) (fun q i => f_keep_Check_L6 a0 kk3 q i = some r) ?_ fu (0 : Int) h) (fun w a hm hs => norm hm hs [] [] [(15, (ag (cA5i64 (A5i64.mk a0.Last a0.Days a0.Weeks a0.Months a0.Years)))), (16, (Value.int .i64 (0 : Int)))] (by decide) ⟨rfl, rfl, trivial⟩)
    clear h
    rintro k5 l4i16 h
    have h : f_keep_Check_L6 a0 kk3 k5 l4i16 = some r := h
    obtain _ | k5 := k5
    · rw [f_keep_Check_L6] at h; cases h
    rw [f_keep_Check_L6] at h
    refine aw_show (m := (memOf w0 Z0 [] [] [])) (S := (tab [(15, (ag (cA5i64 (A5i64.mk a0.Last a0.Days a0.Weeks a0.Months a0.Years)))), (16, (Value.int .i64 l4i16))])) ?_
    refine aw_seq ?_
    refine aw_region ?_
    refine al_val (ov_int rfl rfl rfl rfl) ?_
    refine al_nil ?_
    refine aq_then ?_
    refine aw_seq ?_
    refine aw_cond rfl (fun hb7 => ?_) (fun hb7 => ?_)
    · replace h := bif_t hb7 h
      refine aw_skip ?_
      refine aq_then ?_
      refine aw_seq ?_
      refine aw_block ?_
      refine aw_seq ?_
      refine aw_region ?_
      obtain ⟨u8, hu9, h⟩ := opt_some h
      refine al_val (v := (Value.int .i64 u8)) (ov_idxAgg (u := u8) (enc := vA5i64) (xs := lA5i64 (A5i64.mk a0.Last a0.Days a0.Weeks a0.Months a0.Years)) hu9 rfl rfl rfl rfl Try.underlying94 Try.underlying3 rfl sz3 rfl) ?_
      refine al_val (ov_assign rfl rfl) ?_
      refine al_nil ?_
      refine aq_then ?_
      obtain ⟨kk11, hkk11, h⟩ := lt_some h
      refine aw_seq_join (ι := Bool) (fun i => (memOf w0 Z0 [] [] [])) (fun i => (tab [(15, (ag (cA5i64 (A5i64.mk a0.Last a0.Days a0.Weeks a0.Months a0.Years)))), (16, (Value.int .i64 l4i16)), (24, (Value.bool i))])) (fun i => kk11 i = some r) ?_ ?_
      · rintro j10b24 h
        have h : kk11 j10b24 = some r := h
        rw [hkk11] at h
        dsimp only at h
        clear hkk11
        refine aw_show (m := (memOf w0 Z0 [] [] [])) (S := (tab [(15, (ag (cA5i64 (A5i64.mk a0.Last a0.Days a0.Weeks a0.Months a0.Years)))), (16, (Value.int .i64 l4i16)), (24, (Value.bool j10b24))])) ?_
        refine aw_cond rfl (fun hb12 => ?_) (fun hb12 => ?_)
        · replace h := bif_t hb12 h
          refine aw_seq ?_
          refine aw_region ?_
          refine al_val (ov_assign rfl rfl) ?_
          refine al_nil ?_
          refine aq_then ?_
          refine aw_ret ?_
          refine aq_block_ret ?_
          refine aq_then_ret ?_
          refine aq_then_ret ?_
          refine aq_block_ret ?_
          refine aq_then_ret ?_
          obtain rfl := Option.some.inj h
          exact fn_ret () [] [] rfl rfl rfl rfl (res1 rfl rfl) rfl rfl rfl (by decide)
        · replace h := bif_f hb12 h
          refine aw_skip ?_
          refine aq_block ?_
          refine aq_then ?_
          refine aw_region ?_
          refine al_val (ov_int rfl rfl rfl rfl) ?_
          refine al_val (ov_move rfl rfl) ?_
          refine al_nil ?_
          exact aq_again k5 (IntKind.i64.wrap (l4i16 + (1 : Int))) (Nat.lt_succ_self _) h (fun w a hm hs => norm hm hs [] [] [(15, (ag (cA5i64 (A5i64.mk a0.Last a0.Days a0.Weeks a0.Months a0.Years)))), (16, (Value.int .i64 (IntKind.i64.wrap (l4i16 + (1 : Int)))))] (by decide) ⟨rfl, rfl, trivial⟩)
      · clear hkk11
        refine aw_region ?_
        refine al_val (ov_move rfl rfl) ?_
        refine al_val (ov_int rfl rfl rfl rfl) ?_
        refine al_val (ov_move rfl rfl) ?_
        refine al_caseB 21 rfl (fun hb13 => ?_) (fun hb13 => ?_)
        · replace h := bif_t hb13 h
          refine al_skip ?_
          refine al_skip ?_
          refine al_val (ov_pick_t rfl rfl rfl) ?_
          refine al_nil ?_
          exact aq_join true h (fun w a hm hs => norm hm hs [] [] [(15, (ag (cA5i64 (A5i64.mk a0.Last a0.Days a0.Weeks a0.Months a0.Years)))), (16, (Value.int .i64 l4i16)), (24, (Value.bool true))] (by decide) ⟨rfl, rfl, rfl, trivial⟩)
        · replace h := bif_f hb13 h
          refine al_val (ov_move rfl rfl) ?_
          refine al_val (ov_int rfl rfl rfl rfl) ?_
          refine al_val (ov_pick_f rfl rfl rfl) ?_
          refine al_nil ?_
          exact aq_join (decide (u8 > (100 : Int))) h (fun w a hm hs => norm hm hs [] [] [(15, (ag (cA5i64 (A5i64.mk a0.Last a0.Days a0.Weeks a0.Months a0.Years)))), (16, (Value.int .i64 l4i16)), (24, (Value.bool (decide (u8 > (100 : Int)))))] (by decide) ⟨rfl, rfl, rfl, trivial⟩)
    · replace h := bif_f hb7 h
      refine aw_exit ?_
      refine aq_then_exit ?_
      refine aq_then_exit ?_
      refine aq_block_exit ?_
      exact aq_join () h (fun w a hm hs => norm hm hs [] [] [] (by decide) trivial)
def f_keep_rules_1 (fu : Nat) (a0 : Int) : Option A2i64 := (some (A2i64.mk a0 ((A2i64.mk (0 : Int) (0 : Int)).e1)))
set_option maxRecDepth 100000 in
theorem f_keep_rules_1_ok (fu : Nat) (a0 : Int) {r : A2i64} (h : f_keep_rules_1 fu a0 = some r) : FnOk Try.prog 76 [(Value.int .i64 a0)] [] [] (fun (i : Unit) => { val := (ag (cA2i64 r)) }) := by
  unfold f_keep_rules_1 at h
  refine fn_enter Try.func76 rfl Try.ntmps76 rfl (fun w0 Z0 => ?_)
  refine aw_seq ?_
  refine aw_region ?_
  refine al_alloc (zs := (cA2i64 (A2i64.mk (0 : Int) (0 : Int)))) (zeroOf_to to90) rfl rfl (fun g1 => ?_)
  refine al_nil ?_
  refine aq_then ?_
  refine aw_seq ?_
  refine aw_region ?_
  refine al_val (ov_move rfl rfl) ?_
  refine al_val (ov_build (cells := ((cA2i64 (A2i64.mk a0 ((A2i64.mk (0 : Int) (0 : Int)).e1)))).toArray) (cs := (cA2i64 (A2i64.mk a0 ((A2i64.mk (0 : Int) (0 : Int)).e1)))) rfl (fun w a hm hs => by simp only [List.map_toArray, List.map_cons, List.map_nil, List.toList_toArray, hs.ev (x := .tmp 3) rfl]; kernel_rfl)) ?_
  refine al_store (i := 0) (vs := (cA2i64 (A2i64.mk a0 ((A2i64.mk (0 : Int) (0 : Int)).e1)))) (cs' := (cA2i64 (A2i64.mk a0 ((A2i64.mk (0 : Int) (0 : Int)).e1)))) rfl rfl rfl sz90 (cv_rfl rfl) rfl (co_all (oneA2i64 (A2i64.mk a0 ((A2i64.mk (0 : Int) (0 : Int)).e1)))) (Nat.le_of_ble_eq_true rfl) rfl rfl ?_
  refine al_nil ?_
  refine aq_then ?_
  refine aw_ret ?_
  obtain rfl := Option.some.inj h
  exact fn_ret () [] [] rfl rfl rfl rfl (resC rfl (resB (i := 0) rfl rfl Try.underlying90 sz90 rfl rfl rfl (resN)) rfl) rfl rfl rfl (by decide)
def f_civil_OK (fu : Nat) (a0 : Int) : Option Int := (lt (fun (j1b8 : Bool) => (bif j1b8 then (some (1 : Int)) else (some (0 : Int)))) fun (kk2 : Bool → Option Int) => (bif (decide (a0 < (-719162 : Int))) then (kk2 true) else (kk2 (decide (a0 > (2932896 : Int))))))
set_option maxRecDepth 100000 in
theorem f_civil_OK_ok (fu : Nat) (a0 : Int) {r : Int} (h : f_civil_OK fu a0 = some r) : FnOk Try.prog 104 [(Value.int .i64 a0)] [] [] (fun (i : Unit) => { val := (Value.int .i64 r) }) := by
  unfold f_civil_OK at h
  refine fn_enter Try.func104 rfl Try.ntmps104 rfl (fun w0 Z0 => ?_)
  refine aw_seq ?_
  refine aw_region ?_
  refine al_val (ov_assign rfl rfl) ?_
  refine al_nil ?_
  refine aq_then ?_
  refine aw_seq ?_
  obtain ⟨kk2, hkk2, h⟩ := lt_some h
  refine aw_seq_join (ι := Bool) (fun i => (memOf w0 Z0 [] [] [])) (fun i => (tab [(8, (Value.bool i))])) (fun i => kk2 i = some r) ?_ ?_
  · rintro j1b8 h
    have h : kk2 j1b8 = some r := h
    rw [hkk2] at h
    dsimp only at h
    clear hkk2
    refine aw_show (m := (memOf w0 Z0 [] [] [])) (S := (tab [(8, (Value.bool j1b8))])) ?_
    refine aw_cond rfl (fun hb3 => ?_) (fun hb3 => ?_)
    · replace h := bif_t hb3 h
      refine aw_seq ?_
      refine aw_region ?_
      refine al_val (ov_assign rfl rfl) ?_
      refine al_nil ?_
      refine aq_then ?_
      refine aw_ret ?_
      refine aq_then_ret ?_
      obtain rfl := Option.some.inj h
      exact fn_ret () [] [] rfl rfl rfl rfl (res1 rfl rfl) rfl rfl rfl (by decide)
    · replace h := bif_f hb3 h
      refine aw_skip ?_
      refine aq_then ?_
      refine aw_seq ?_
      refine aw_region ?_
      refine al_val (ov_assign rfl rfl) ?_
      refine al_nil ?_
      refine aq_then ?_
      refine aw_ret ?_
      obtain rfl := Option.some.inj h
      exact fn_ret () [] [] rfl rfl rfl rfl (res1 rfl rfl) rfl rfl rfl (by decide)
  · clear hkk2
    refine aw_region ?_
    refine al_val (ov_move rfl rfl) ?_
    refine al_val (ov_int rfl rfl rfl rfl) ?_
    refine al_val (ov_move rfl rfl) ?_
    refine al_caseB 5 rfl (fun hb4 => ?_) (fun hb4 => ?_)
    · replace h := bif_t hb4 h
      refine al_skip ?_
      refine al_skip ?_
      refine al_val (ov_pick_t rfl rfl rfl) ?_
      refine al_nil ?_
      exact aq_join true h (fun w a hm hs => norm hm hs [] [] [(8, (Value.bool true))] (by decide) ⟨rfl, trivial⟩)
    · replace h := bif_f hb4 h
      refine al_val (ov_move rfl rfl) ?_
      refine al_val (ov_int rfl rfl rfl rfl) ?_
      refine al_val (ov_pick_f rfl rfl rfl) ?_
      refine al_nil ?_
      exact aq_join (decide (a0 > (2932896 : Int))) h (fun w a hm hs => norm hm hs [] [] [(8, (Value.bool (decide (a0 > (2932896 : Int)))))] (by decide) ⟨rfl, trivial⟩)
def f_civil_weekday (fu : Nat) (a0 : Int) : Option Int := (some (IntKind.i64.wrap ((((IntKind.i64.wrap (a0 - (-719162 : Int)))).tmod (7 : Int)) + (1 : Int))))
set_option maxRecDepth 100000 in
theorem f_civil_weekday_ok (fu : Nat) (a0 : Int) {r : Int} (h : f_civil_weekday fu a0 = some r) : FnOk Try.prog 105 [(Value.int .i64 a0)] [] [] (fun (i : Unit) => { val := (Value.int .i64 r) }) := by
  unfold f_civil_weekday at h
  refine fn_enter Try.func105 rfl Try.ntmps105 rfl (fun w0 Z0 => ?_)
  refine aw_seq ?_
  refine aw_region ?_
  refine al_val (ov_assign rfl rfl) ?_
  refine al_nil ?_
  refine aq_then ?_
  refine aw_seq ?_
  refine aw_region ?_
  refine al_val (ov_move rfl rfl) ?_
  refine al_val (ov_int rfl rfl rfl rfl) ?_
  refine al_val (ov_rem (by decide) rfl rfl rfl) ?_
  refine al_val (ov_int rfl rfl rfl rfl) ?_
  refine al_val (ov_assign rfl rfl) ?_
  refine al_nil ?_
  refine aq_then ?_
  refine aw_ret ?_
  obtain rfl := Option.some.inj h
  exact fn_ret () [] [] rfl rfl rfl rfl (res1 rfl rfl) rfl rfl rfl (by decide)
def f_civil_begin (fu : Nat) (a0 : Int) : Option Int := (some (IntKind.i64.wrap ((IntKind.i64.wrap ((IntKind.i64.wrap ((IntKind.i64.wrap ((-719162 : Int) + (IntKind.i64.wrap ((IntKind.i64.wrap (a0 - (1 : Int))) * (365 : Int))))) + (IntKind.i64.wrap (((IntKind.i64.wrap (a0 - (1 : Int)))).tdiv (4 : Int))))) - (IntKind.i64.wrap (((IntKind.i64.wrap (a0 - (1 : Int)))).tdiv (100 : Int))))) + (IntKind.i64.wrap (((IntKind.i64.wrap (a0 - (1 : Int)))).tdiv (400 : Int))))))
set_option maxRecDepth 100000 in
theorem f_civil_begin_ok (fu : Nat) (a0 : Int) {r : Int} (h : f_civil_begin fu a0 = some r) : FnOk Try.prog 107 [(Value.int .i64 a0)] [] [] (fun (i : Unit) => { val := (Value.int .i64 r) }) := by
  unfold f_civil_begin at h
  refine fn_enter Try.func107 rfl Try.ntmps107 rfl (fun w0 Z0 => ?_)
  refine aw_seq ?_
  refine aw_region ?_
  refine al_val (ov_assign rfl rfl) ?_
  refine al_nil ?_
  refine aq_then ?_
  refine aw_seq ?_
  refine aw_region ?_
  refine al_val (ov_move rfl rfl) ?_
  refine al_val (ov_int rfl rfl rfl rfl) ?_
  refine al_val (ov_assign rfl rfl) ?_
  refine al_nil ?_
  refine aq_then ?_
  refine aw_seq ?_
  refine aw_region ?_
  refine al_val (ov_move rfl rfl) ?_
  refine al_val (ov_int rfl rfl rfl rfl) ?_
  refine al_val (ov_int rfl rfl rfl rfl) ?_
  refine al_val (ov_move rfl rfl) ?_
  refine al_val (ov_quo (by decide) rfl rfl rfl) ?_
  refine al_val (ov_int rfl rfl rfl rfl) ?_
  refine al_val (ov_move rfl rfl) ?_
  refine al_val (ov_quo (by decide) rfl rfl rfl) ?_
  refine al_val (ov_int rfl rfl rfl rfl) ?_
  refine al_val (ov_move rfl rfl) ?_
  refine al_val (ov_quo (by decide) rfl rfl rfl) ?_
  refine al_val (ov_int rfl rfl rfl rfl) ?_
  refine al_val (ov_assign rfl rfl) ?_
  refine al_nil ?_
  refine aq_then ?_
  refine aw_ret ?_
  obtain rfl := Option.some.inj h
  exact fn_ret () [] [] rfl rfl rfl rfl (res1 rfl rfl) rfl rfl rfl (by decide)
def f_civil_leap (fu : Nat) (a0 : Int) : Option Bool := (lt (fun (j1b2 : Bool) => (some j1b2)) fun (kk2 : Bool → Option Bool) => (bif (((a0).tmod (4 : Int)) == (0 : Int)) then (bif (((a0).tmod (100 : Int)) != (0 : Int)) then (kk2 true) else (kk2 (((a0).tmod (400 : Int)) == (0 : Int)))) else (kk2 false)))
set_option maxRecDepth 100000 in
theorem f_civil_leap_ok (fu : Nat) (a0 : Int) {r : Bool} (h : f_civil_leap fu a0 = some r) : FnOk Try.prog 125 [(Value.int .i64 a0)] [] [] (fun (i : Unit) => { val := (Value.bool r) }) := by
  unfold f_civil_leap at h
  refine fn_enter Try.func125 rfl Try.ntmps125 rfl (fun w0 Z0 => ?_)
  refine aw_seq ?_
  refine aw_region ?_
  refine al_val (ov_assign rfl rfl) ?_
  refine al_nil ?_
  refine aq_then ?_
  obtain ⟨kk2, hkk2, h⟩ := lt_some h
  refine aw_seq_join (ι := Bool) (fun i => (memOf w0 Z0 [] [] [])) (fun i => (tab [(2, (Value.bool i))])) (fun i => kk2 i = some r) ?_ ?_
  · rintro j1b2 h
    have h : kk2 j1b2 = some r := h
    rw [hkk2] at h
    dsimp only at h
    clear hkk2
    refine aw_show (m := (memOf w0 Z0 [] [] [])) (S := (tab [(2, (Value.bool j1b2))])) ?_
    refine aw_ret ?_
    obtain rfl := Option.some.inj h
    exact fn_ret () [] [] rfl rfl rfl rfl (res1 rfl rfl) rfl rfl rfl (by decide)
  · clear hkk2
    refine aw_region ?_
    refine al_val (ov_move rfl rfl) ?_
    refine al_val (ov_rem (by decide) rfl rfl rfl) ?_
    refine al_val (ov_int rfl rfl rfl rfl) ?_
    refine al_val (ov_move rfl rfl) ?_
    refine al_caseB 6 rfl (fun hb3 => ?_) (fun hb3 => ?_)
    · replace h := bif_t hb3 h
      refine al_val (ov_move rfl rfl) ?_
      refine al_val (ov_rem (by decide) rfl rfl rfl) ?_
      refine al_val (ov_int rfl rfl rfl rfl) ?_
      refine al_val (ov_move rfl rfl) ?_
      refine al_caseB 10 rfl (fun hb4 => ?_) (fun hb4 => ?_)
      · replace h := bif_t hb4 h
        refine al_skip ?_
        refine al_skip ?_
        refine al_skip ?_
        refine al_val (ov_pick_t rfl rfl rfl) ?_
        refine al_val (ov_pick_t rfl rfl rfl) ?_
        refine al_val (ov_assign rfl rfl) ?_
        refine al_nil ?_
        exact aq_join true h (fun w a hm hs => norm hm hs [] [] [(2, (Value.bool true))] (by decide) ⟨rfl, trivial⟩)
      · replace h := bif_f hb4 h
        refine al_val (ov_move rfl rfl) ?_
        refine al_val (ov_rem (by decide) rfl rfl rfl) ?_
        refine al_val (ov_int rfl rfl rfl rfl) ?_
        refine al_val (ov_pick_f rfl rfl rfl) ?_
        refine al_val (ov_pick_t rfl rfl rfl) ?_
        refine al_val (ov_assign rfl rfl) ?_
        refine al_nil ?_
        exact aq_join (((a0).tmod (400 : Int)) == (0 : Int)) h (fun w a hm hs => norm hm hs [] [] [(2, (Value.bool (((a0).tmod (400 : Int)) == (0 : Int))))] (by decide) ⟨rfl, trivial⟩)
    · replace h := bif_f hb3 h
      refine al_skip ?_
      refine al_skip ?_
      refine al_skip ?_
      refine al_skip ?_
      refine al_skip ?_
      refine al_skip ?_
      refine al_skip ?_
      refine al_skip ?_
      refine al_val (ov_pick_f rfl rfl rfl) ?_
      refine al_val (ov_assign rfl rfl) ?_
      refine al_nil ?_
      exact aq_join false h (fun w a hm hs => norm hm hs [] [] [(2, (Value.bool false))] (by decide) ⟨rfl, trivial⟩)
def f_civil_length (fu : Nat) (a0 : Int) (a1 : Int) : Option Int := (lt (fun (j1b6 : Bool) => (bif j1b6 then (some (30 : Int)) else (bif (a1 == (2 : Int)) then (opt (f_civil_leap fu a0) fun (r6 : Bool) => (bif r6 then (some (29 : Int)) else (some (28 : Int)))) else (some (31 : Int))))) fun (kk2 : Bool → Option Int) => (bif (a1 == (4 : Int)) then (kk2 (a1 == (4 : Int))) else (bif (a1 == (6 : Int)) then (kk2 (a1 == (6 : Int))) else (bif (a1 == (9 : Int)) then (kk2 (a1 == (9 : Int))) else (kk2 (a1 == (11 : Int)))))))
set_option maxRecDepth 100000 in
theorem f_civil_length_ok (fu : Nat) (a0 : Int) (a1 : Int) {r : Int} (h : f_civil_length fu a0 a1 = some r) : FnOk Try.prog 120 [(Value.int .i64 a0), (Value.int .i64 a1)] [] [] (fun (i : Unit) => { val := (Value.int .i64 r) }) := by
  unfold f_civil_length at h
  refine fn_enter Try.func120 rfl Try.ntmps120 rfl (fun w0 Z0 => ?_)
  refine aw_seq ?_
  refine aw_region ?_
  refine al_val (ov_assign rfl rfl) ?_
  refine al_nil ?_
  refine aq_then ?_
  refine aw_seq ?_
  refine aw_seq ?_
  refine aw_region ?_
  refine al_val (ov_move rfl rfl) ?_
  refine al_nil ?_
  refine aq_then ?_
  refine aw_block ?_
  obtain ⟨kk2, hkk2, h⟩ := lt_some h
  refine aw_seq_join (ι := Bool) (fun i => (memOf w0 Z0 [] [] [])) (fun i => (tab [(0, (Value.int .i64 a0)), (5, (Value.int .i64 a1)), (6, (Value.bool i))])) (fun i => kk2 i = some r) ?_ ?_
  · rintro j1b6 h
    have h : kk2 j1b6 = some r := h
    rw [hkk2] at h
    dsimp only at h
    clear hkk2
    refine aw_show (m := (memOf w0 Z0 [] [] [])) (S := (tab [(0, (Value.int .i64 a0)), (5, (Value.int .i64 a1)), (6, (Value.bool j1b6))])) ?_
    refine aw_cond rfl (fun hb3 => ?_) (fun hb3 => ?_)
    · replace h := bif_t hb3 h
      refine aw_seq ?_
      refine aw_region ?_
      refine al_val (ov_assign rfl rfl) ?_
      refine al_nil ?_
      refine aq_then ?_
      refine aw_ret ?_
      refine aq_block_ret ?_
      refine aq_then_ret ?_
      obtain rfl := Option.some.inj h
      exact fn_ret () [] [] rfl rfl rfl rfl (res1 rfl rfl) rfl rfl rfl (by decide)
    · replace h := bif_f hb3 h
      refine aw_seq ?_
      refine aw_region ?_
      refine al_val (ov_int rfl rfl rfl rfl) ?_
      refine al_val (ov_assign rfl rfl) ?_
      refine al_nil ?_
      refine aq_then ?_
      refine aw_cond rfl (fun hb4 => ?_) (fun hb4 => ?_)
      · replace h := bif_t hb4 h
        refine aw_seq ?_
        refine aw_seq ?_
        refine aw_region ?_
        refine al_val (ov_move rfl rfl) ?_
        obtain ⟨r6, hc5, h⟩ := opt_some h
        refine al_call (vs := [(Value.int .i64 a0)]) (f_civil_leap_ok fu a0 hc5) [] [] [] pre_nil rfl (by simp) (by decide) (.inl rfl) rfl Try.func125 rfl rfl rfl (fun _ => ?_)
        refine al_nil ?_
        refine aq_then ?_
        refine aw_cond rfl (fun hb7 => ?_) (fun hb7 => ?_)
        · replace h := bif_t hb7 h
          refine aw_seq ?_
          refine aw_region ?_
          refine al_val (ov_assign rfl rfl) ?_
          refine al_nil ?_
          refine aq_then ?_
          refine aw_ret ?_
          refine aq_then_ret ?_
          refine aq_block_ret ?_
          refine aq_then_ret ?_
          obtain rfl := Option.some.inj h
          exact fn_ret () [] [] rfl rfl rfl rfl (res1 rfl rfl) rfl rfl rfl (by decide)
        · replace h := bif_f hb7 h
          refine aw_skip ?_
          refine aq_then ?_
          refine aw_seq ?_
          refine aw_region ?_
          refine al_val (ov_assign rfl rfl) ?_
          refine al_nil ?_
          refine aq_then ?_
          refine aw_ret ?_
          refine aq_block_ret ?_
          refine aq_then_ret ?_
          obtain rfl := Option.some.inj h
          exact fn_ret () [] [] rfl rfl rfl rfl (res1 rfl rfl) rfl rfl rfl (by decide)
      · replace h := bif_f hb4 h
        refine aw_skip ?_
        refine aq_block ?_
        refine aq_then ?_
        refine aw_seq ?_
        refine aw_region ?_
        refine al_val (ov_assign rfl rfl) ?_
        refine al_nil ?_
        refine aq_then ?_
        refine aw_ret ?_
        obtain rfl := Option.some.inj h
        exact fn_ret () [] [] rfl rfl rfl rfl (res1 rfl rfl) rfl rfl rfl (by decide)
  · clear hkk2
    refine aw_seq ?_
    refine aw_region ?_
    refine al_val (ov_int rfl rfl rfl rfl) ?_
    refine al_val (ov_assign rfl rfl) ?_
    refine al_nil ?_
    refine aq_then ?_
    refine aw_cond rfl (fun hb8 => ?_) (fun hb8 => ?_)
    · replace h := bif_t hb8 h
      refine aw_skip ?_
      exact aq_join (a1 == (4 : Int)) h (fun w a hm hs => norm hm hs [] [] [(0, (Value.int .i64 a0)), (5, (Value.int .i64 a1)), (6, (Value.bool (a1 == (4 : Int))))] (by decide) ⟨rfl, rfl, rfl, trivial⟩)
    · replace h := bif_f hb8 h
      refine aw_seq ?_
      refine aw_region ?_
      refine al_val (ov_int rfl rfl rfl rfl) ?_
      refine al_val (ov_assign rfl rfl) ?_
      refine al_nil ?_
      refine aq_then ?_
      refine aw_cond rfl (fun hb9 => ?_) (fun hb9 => ?_)
      · replace h := bif_t hb9 h
        refine aw_skip ?_
        exact aq_join (a1 == (6 : Int)) h (fun w a hm hs => norm hm hs [] [] [(0, (Value.int .i64 a0)), (5, (Value.int .i64 a1)), (6, (Value.bool (a1 == (6 : Int))))] (by decide) ⟨rfl, rfl, rfl, trivial⟩)
      · replace h := bif_f hb9 h
        refine aw_seq ?_
        refine aw_region ?_
        refine al_val (ov_int rfl rfl rfl rfl) ?_
        refine al_val (ov_assign rfl rfl) ?_
        refine al_nil ?_
        refine aq_then ?_
        refine aw_cond rfl (fun hb10 => ?_) (fun hb10 => ?_)
        · replace h := bif_t hb10 h
          refine aw_skip ?_
          exact aq_join (a1 == (9 : Int)) h (fun w a hm hs => norm hm hs [] [] [(0, (Value.int .i64 a0)), (5, (Value.int .i64 a1)), (6, (Value.bool (a1 == (9 : Int))))] (by decide) ⟨rfl, rfl, rfl, trivial⟩)
        · replace h := bif_f hb10 h
          refine aw_region ?_
          refine al_val (ov_int rfl rfl rfl rfl) ?_
          refine al_val (ov_assign rfl rfl) ?_
          refine al_nil ?_
          exact aq_join (a1 == (11 : Int)) h (fun w a hm hs => norm hm hs [] [] [(0, (Value.int .i64 a0)), (5, (Value.int .i64 a1)), (6, (Value.bool (a1 == (11 : Int))))] (by decide) ⟨rfl, rfl, rfl, trivial⟩)
def f_civil_date_L9 (j1i2 : Int) (kk6 : (Int → Int → Option (Int × Int × Int))) (fu : Nat) : Nat → Int → Int → Option (Int × Int × Int)
  | 0, _, _ => none
  | k8 + 1, l7i3, l7i4 => (opt (f_civil_length fu j1i2 l7i3) fun (r11 : Int) => (bif (decide (l7i4 > r11)) then (opt (f_civil_length fu j1i2 l7i3) fun (r14 : Int) => (f_civil_date_L9 j1i2 kk6 fu k8 (IntKind.i64.wrap (l7i3 + (1 : Int))) (IntKind.i64.wrap (l7i4 - r14)))) else (kk6 l7i3 l7i4)))
def f_civil_date_L17 (a0 : Int) (kk2 : (Int → Option (Int × Int × Int))) (fu : Nat) : Nat → Int → Option (Int × Int × Int)
  | 0, _ => none
  | k16 + 1, l15i2 => (lt (fun (j18b17 : Bool) => (bif j18b17 then (f_civil_date_L17 a0 kk2 fu k16 (IntKind.i64.wrap (l15i2 + (1 : Int)))) else (kk2 l15i2))) fun (kk19 : Bool → Option (Int × Int × Int)) => (bif (decide (l15i2 < (9999 : Int))) then (opt (f_civil_begin fu (IntKind.i64.wrap (l15i2 + (1 : Int)))) fun (r23 : Int) => (kk19 (decide (r23 ≤ a0)))) else (kk19 false)))
def f_civil_date (fu : Nat) (a0 : Int) : Option (Int × Int × Int) := (lt (fun (j1i2 : Int) => (opt (f_civil_begin fu j1i2) fun (r4 : Int) => (lt (fun (j5i3 : Int) (j5i4 : Int) => (some (j1i2, j5i3, j5i4))) fun (kk6 : Int → Int → Option (Int × Int × Int)) => (f_civil_date_L9 j1i2 kk6 fu fu (1 : Int) (IntKind.i64.wrap ((IntKind.i64.wrap (a0 - r4)) + (1 : Int))))))) fun (kk2 : Int → Option (Int × Int × Int)) => (f_civil_date_L17 a0 kk2 fu fu (IntKind.i64.wrap ((IntKind.i64.wrap (((IntKind.i64.wrap (a0 - (-719162 : Int)))).tdiv (366 : Int))) + (1 : Int)))))
set_option maxRecDepth 100000 in
theorem f_civil_date_ok (fu : Nat) (a0 : Int) {r : (Int × Int × Int)} (h : f_civil_date fu a0 = some r) : FnOk Try.prog 106 [(Value.int .i64 a0)] [] [] (fun (i : Unit) => { val := (Value.tuple #[(Value.int .i64 r.1), (Value.int .i64 r.2.1), (Value.int .i64 r.2.2)]) }) := by
  unfold f_civil_date at h
  refine fn_enter Try.func106 rfl Try.ntmps106 rfl (fun w0 Z0 => ?_)
  refine aw_seq ?_
  refine aw_region ?_
  refine al_val (ov_assign rfl rfl) ?_
  refine al_val (ov_assign rfl rfl) ?_
  refine al_val (ov_assign rfl rfl) ?_
  refine al_nil ?_
  refine aq_then ?_
  refine aw_seq ?_
  refine aw_region ?_
  refine al_val (ov_move rfl rfl) ?_
  refine al_val (ov_int rfl rfl rfl rfl) ?_
  refine al_val (ov_quo (by decide) rfl rfl rfl) ?_
  refine al_val (ov_int rfl rfl rfl rfl) ?_
  refine al_val (ov_assign rfl rfl) ?_
  refine al_nil ?_
  refine aq_then ?_
  obtain ⟨kk2, hkk2, h⟩ := lt_some h
  refine aw_seq_join (ι := Int) (fun i => (memOf w0 Z0 [] [] [])) (fun i => (tab [(0, (Value.int .i64 a0)), (2, (Value.int .i64 i))])) (fun i => kk2 i = some r) ?_ ?_
  · rintro j1i2 h
    have h : kk2 j1i2 = some r := h
    rw [hkk2] at h
    dsimp only at h
    clear hkk2
    refine aw_show (m := (memOf w0 Z0 [] [] [])) (S := (tab [(0, (Value.int .i64 a0)), (2, (Value.int .i64 j1i2))])) ?_
    refine aw_seq ?_
    refine aw_region ?_
    refine al_val (ov_move rfl rfl) ?_
    refine al_val (ov_move rfl rfl) ?_
    obtain ⟨r4, hc3, h⟩ := opt_some h
    refine al_call (vs := [(Value.int .i64 j1i2)]) (f_civil_begin_ok fu j1i2 hc3) [] [] [] pre_nil rfl (by simp) (by decide) (.inl rfl) rfl Try.func107 rfl rfl rfl (fun _ => ?_)
    refine al_val (ov_int rfl rfl rfl rfl) ?_
    refine al_val (ov_int rfl rfl rfl rfl) ?_
    refine al_val (ov_assign rfl rfl) ?_
    refine al_nil ?_
    refine aq_then ?_
    obtain ⟨kk6, hkk6, h⟩ := lt_some h
    refine aw_seq_join (ι := Int × Int) (fun i => (memOf w0 Z0 [] [] [])) (fun i => (tab [(2, (Value.int .i64 j1i2)), (3, (Value.int .i64 i.1)), (4, (Value.int .i64 i.2))])) (fun i => kk6 i.1 i.2 = some r) ?_ ?_
    · rintro ⟨j5i3, j5i4⟩ h
      have h : kk6 j5i3 j5i4 = some r := h
      rw [hkk6] at h
      dsimp only at h
      clear hkk6
      refine aw_show (m := (memOf w0 Z0 [] [] [])) (S := (tab [(2, (Value.int .i64 j1i2)), (3, (Value.int .i64 j5i3)), (4, (Value.int .i64 j5i4))])) ?_
      refine aw_seq ?_
      refine aw_region ?_
      refine al_val (ov_move rfl rfl) ?_
      refine al_val (ov_move rfl rfl) ?_
      refine al_val (ov_move rfl rfl) ?_
      refine al_val (ov_assign rfl rfl) ?_
      refine al_val (ov_assign rfl rfl) ?_
      refine al_val (ov_assign rfl rfl) ?_
      refine al_nil ?_
      refine aq_then ?_
      refine aw_ret ?_
      obtain rfl := Option.some.inj h
      exact fn_ret () [] [] rfl rfl rfl rfl (res3 rfl rfl rfl rfl) rfl rfl rfl (by decide)
    · clear hkk6
      refine aw_seq ?_
      refine aw_region ?_
      refine al_val (ov_assign rfl rfl) ?_
      refine al_nil ?_
      refine aq_then ?_
      refine aw_block ?_
      refine aw_state (aw_loop (ι := Int × Int) (fun i => (memOf w0 Z0 [] [] [])) (fun i => (tab [(2, (Value.int .i64 j1i2)), (3, (Value.int .i64 i.1)), (4, (Value.int .i64 i.2))])) (fun q i => f_civil_date_L9 j1i2 kk6 fu q i.1 i.2 = some r) ?_ fu ((1 : Int), (IntKind.i64.wrap ((IntKind.i64.wrap (a0 - r4)) + (1 : Int)))) h) (fun w a hm hs => norm hm hs [] [] [(2, (Value.int .i64 j1i2)), (3, (Value.int .i64 (1 : Int))), (4, (Value.int .i64 (IntKind.i64.wrap ((IntKind.i64.wrap (a0 - r4)) + (1 : Int)))))] (by decide) ⟨rfl, rfl, rfl, trivial⟩)
      clear h
      rintro k8 ⟨l7i3, l7i4⟩ h
      have h : f_civil_date_L9 j1i2 kk6 fu k8 l7i3 l7i4 = some r := h
      obtain _ | k8 := k8
      · rw [f_civil_date_L9] at h; cases h
      rw [f_civil_date_L9] at h
      refine aw_show (m := (memOf w0 Z0 [] [] [])) (S := (tab [(2, (Value.int .i64 j1i2)), (3, (Value.int .i64 l7i3)), (4, (Value.int .i64 l7i4))])) ?_
      refine aw_seq ?_
      refine aw_seq ?_
      refine aw_region ?_
      refine al_val (ov_move rfl rfl) ?_
      refine al_val (ov_move rfl rfl) ?_
      refine al_val (ov_move rfl rfl) ?_
      obtain ⟨r11, hc10, h⟩ := opt_some h
      refine al_call (vs := [(Value.int .i64 j1i2), (Value.int .i64 l7i3)]) (f_civil_length_ok fu j1i2 l7i3 hc10) [] [] [] pre_nil rfl (by simp) (by decide) (.inl rfl) rfl Try.func120 rfl rfl rfl (fun _ => ?_)
      refine al_val (ov_int rfl rfl rfl rfl) ?_
      refine al_nil ?_
      refine aq_then ?_
      refine aw_cond rfl (fun hb12 => ?_) (fun hb12 => ?_)
      · replace h := bif_t hb12 h
        refine aw_skip ?_
        refine aq_then ?_
        refine aw_seq ?_
        refine aw_block ?_
        refine aw_region ?_
        refine al_val (ov_move rfl rfl) ?_
        refine al_val (ov_move rfl rfl) ?_
        refine al_val (ov_move rfl rfl) ?_
        obtain ⟨r14, hc13, h⟩ := opt_some h
        refine al_call (vs := [(Value.int .i64 j1i2), (Value.int .i64 l7i3)]) (f_civil_length_ok fu j1i2 l7i3 hc13) [] [] [] pre_nil rfl (by simp) (by decide) (.inl rfl) rfl Try.func120 rfl rfl rfl (fun _ => ?_)
        refine al_val (ov_int rfl rfl rfl rfl) ?_
        refine al_val (ov_assign rfl rfl) ?_
        refine al_nil ?_
        refine aq_block ?_
        refine aq_then ?_
        refine aw_region ?_
        refine al_val (ov_move rfl rfl) ?_
        refine al_val (ov_int rfl rfl rfl rfl) ?_
        refine al_val (ov_assign rfl rfl) ?_
        refine al_nil ?_
        exact aq_again k8 ((IntKind.i64.wrap (l7i3 + (1 : Int))), (IntKind.i64.wrap (l7i4 - r14))) (Nat.lt_succ_self _) h (fun w a hm hs => norm hm hs [] [] [(2, (Value.int .i64 j1i2)), (3, (Value.int .i64 (IntKind.i64.wrap (l7i3 + (1 : Int))))), (4, (Value.int .i64 (IntKind.i64.wrap (l7i4 - r14))))] (by decide) ⟨rfl, rfl, rfl, trivial⟩)
      · replace h := bif_f hb12 h
        refine aw_exit ?_
        refine aq_then_exit ?_
        refine aq_then_exit ?_
        refine aq_block_exit ?_
        exact aq_join (l7i3, l7i4) h (fun w a hm hs => norm hm hs [] [] [(2, (Value.int .i64 j1i2)), (3, (Value.int .i64 l7i3)), (4, (Value.int .i64 l7i4))] (by decide) ⟨rfl, rfl, rfl, trivial⟩)
  · clear hkk2
    refine aw_block ?_
    refine aw_state (aw_loop (ι := Int) (fun i => (memOf w0 Z0 [] [] [])) (fun i => (tab [(0, (Value.int .i64 a0)), (2, (Value.int .i64 i))])) (fun q i => f_civil_date_L17 a0 kk2 fu q i = some r) ?_ fu (IntKind.i64.wrap ((IntKind.i64.wrap (((IntKind.i64.wrap (a0 - (-719162 : Int)))).tdiv (366 : Int))) + (1 : Int))) h) (fun w a hm hs => norm hm hs [] [] [(0, (Value.int .i64 a0)), (2, (Value.int .i64 (IntKind.i64.wrap ((IntKind.i64.wrap (((IntKind.i64.wrap (a0 - (-719162 : Int)))).tdiv (366 : Int))) + (1 : Int)))))] (by decide) ⟨rfl, rfl, trivial⟩)
    clear h
    rintro k16 l15i2 h
    have h : f_civil_date_L17 a0 kk2 fu k16 l15i2 = some r := h
    obtain _ | k16 := k16
    · rw [f_civil_date_L17] at h; cases h
    rw [f_civil_date_L17] at h
    refine aw_show (m := (memOf w0 Z0 [] [] [])) (S := (tab [(0, (Value.int .i64 a0)), (2, (Value.int .i64 l15i2))])) ?_
    refine aw_seq ?_
    obtain ⟨kk19, hkk19, h⟩ := lt_some h
    refine aw_seq_join (ι := Bool) (fun i => (memOf w0 Z0 [] [] [])) (fun i => (tab [(0, (Value.int .i64 a0)), (2, (Value.int .i64 l15i2)), (17, (Value.bool i))])) (fun i => kk19 i = some r) ?_ ?_
    · rintro j18b17 h
      have h : kk19 j18b17 = some r := h
      rw [hkk19] at h
      dsimp only at h
      clear hkk19
      refine aw_show (m := (memOf w0 Z0 [] [] [])) (S := (tab [(0, (Value.int .i64 a0)), (2, (Value.int .i64 l15i2)), (17, (Value.bool j18b17))])) ?_
      refine aw_cond rfl (fun hb20 => ?_) (fun hb20 => ?_)
      · replace h := bif_t hb20 h
        refine aw_skip ?_
        refine aq_then ?_
        refine aw_block ?_
        refine aw_region ?_
        refine al_val (ov_move rfl rfl) ?_
        refine al_val (ov_int rfl rfl rfl rfl) ?_
        refine al_val (ov_assign rfl rfl) ?_
        refine al_nil ?_
        refine aq_block ?_
        exact aq_again k16 (IntKind.i64.wrap (l15i2 + (1 : Int))) (Nat.lt_succ_self _) h (fun w a hm hs => norm hm hs [] [] [(0, (Value.int .i64 a0)), (2, (Value.int .i64 (IntKind.i64.wrap (l15i2 + (1 : Int)))))] (by decide) ⟨rfl, rfl, trivial⟩)
      · replace h := bif_f hb20 h
        refine aw_exit ?_
        refine aq_then_exit ?_
        refine aq_then_exit ?_
        refine aq_block_exit ?_
        exact aq_join l15i2 h (fun w a hm hs => norm hm hs [] [] [(0, (Value.int .i64 a0)), (2, (Value.int .i64 l15i2))] (by decide) ⟨rfl, rfl, trivial⟩)
    · clear hkk19
      refine aw_region ?_
      refine al_val (ov_move rfl rfl) ?_
      refine al_val (ov_int rfl rfl rfl rfl) ?_
      refine al_val (ov_move rfl rfl) ?_
      refine al_caseB 11 rfl (fun hb21 => ?_) (fun hb21 => ?_)
      · replace h := bif_t hb21 h
        refine al_val (ov_move rfl rfl) ?_
        refine al_val (ov_int rfl rfl rfl rfl) ?_
        obtain ⟨r23, hc22, h⟩ := opt_some h
        refine al_call (vs := [(Value.int .i64 (IntKind.i64.wrap (l15i2 + (1 : Int))))]) (f_civil_begin_ok fu (IntKind.i64.wrap (l15i2 + (1 : Int))) hc22) [] [] [] pre_nil rfl (by simp) (by decide) (.inl rfl) rfl Try.func107 rfl rfl rfl (fun _ => ?_)
        refine al_val (ov_move rfl rfl) ?_
        refine al_val (ov_int rfl rfl rfl rfl) ?_
        refine al_val (ov_pick_t rfl rfl rfl) ?_
        refine al_nil ?_
        exact aq_join (decide (r23 ≤ a0)) h (fun w a hm hs => norm hm hs [] [] [(0, (Value.int .i64 a0)), (2, (Value.int .i64 l15i2)), (17, (Value.bool (decide (r23 ≤ a0))))] (by decide) ⟨rfl, rfl, rfl, trivial⟩)
      · replace h := bif_f hb21 h
        refine al_skip ?_
        refine al_skip ?_
        refine al_skip ?_
        refine al_skip ?_
        refine al_skip ?_
        refine al_val (ov_pick_f rfl rfl rfl) ?_
        refine al_nil ?_
        exact aq_join false h (fun w a hm hs => norm hm hs [] [] [(0, (Value.int .i64 a0)), (2, (Value.int .i64 l15i2)), (17, (Value.bool false))] (by decide) ⟨rfl, rfl, rfl, trivial⟩)
def f_civil_Week (fu : Nat) (a0 : Int) : Option (Int × Int × Int) := (opt (f_civil_OK fu a0) fun (r2 : Int) => (bif (r2 != (0 : Int)) then (some ((0 : Int), (0 : Int), r2)) else (opt (f_civil_weekday fu a0) fun (r5 : Int) => (opt (f_civil_date fu (IntKind.i64.wrap (a0 + (IntKind.i64.wrap ((4 : Int) - r5))))) fun (r7 : (Int × Int × Int)) => (opt (f_civil_begin fu r7.1) fun (r9 : Int) => (some (r7.1, (IntKind.i64.wrap ((IntKind.i64.wrap (((IntKind.i64.wrap ((IntKind.i64.wrap (a0 + (IntKind.i64.wrap ((4 : Int) - r5)))) - r9))).tdiv (7 : Int))) + (1 : Int))), (0 : Int))))))))
set_option maxRecDepth 100000 in
theorem f_civil_Week_ok (fu : Nat) (a0 : Int) {r : (Int × Int × Int)} (h : f_civil_Week fu a0 = some r) : FnOk Try.prog 78 [(Value.int .i64 a0)] [] [] (fun (i : Unit) => { val := (Value.tuple #[(Value.int .i64 r.1), (Value.int .i64 r.2.1), (Value.int .i64 r.2.2)]) }) := by
  unfold f_civil_Week at h
  refine fn_enter Try.func78 rfl Try.ntmps78 rfl (fun w0 Z0 => ?_)
  refine aw_seq ?_
  refine aw_region ?_
  refine al_val (ov_assign rfl rfl) ?_
  refine al_val (ov_assign rfl rfl) ?_
  refine al_val (ov_assign rfl rfl) ?_
  refine al_nil ?_
  refine aq_then ?_
  refine aw_seq ?_
  refine aw_seq ?_
  refine aw_region ?_
  refine al_val (ov_move rfl rfl) ?_
  obtain ⟨r2, hc1, h⟩ := opt_some h
  refine al_call (vs := [(Value.int .i64 a0)]) (f_civil_OK_ok fu a0 hc1) [] [] [] pre_nil rfl (by simp) (by decide) (.inl rfl) rfl Try.func104 rfl rfl rfl (fun _ => ?_)
  refine al_val (ov_assign rfl rfl) ?_
  refine al_nil ?_
  refine aq_then ?_
  refine aw_seq ?_
  refine aw_region ?_
  refine al_val (ov_move rfl rfl) ?_
  refine al_val (ov_int rfl rfl rfl rfl) ?_
  refine al_nil ?_
  refine aq_then ?_
  refine aw_cond rfl (fun hb3 => ?_) (fun hb3 => ?_)
  · replace h := bif_t hb3 h
    refine aw_seq ?_
    refine aw_region ?_
    refine al_val (ov_move rfl rfl) ?_
    refine al_val (ov_assign rfl rfl) ?_
    refine al_val (ov_assign rfl rfl) ?_
    refine al_val (ov_assign rfl rfl) ?_
    refine al_nil ?_
    refine aq_then ?_
    refine aw_ret ?_
    refine aq_then_ret ?_
    obtain rfl := Option.some.inj h
    exact fn_ret () [] [] rfl rfl rfl rfl (res3 rfl rfl rfl rfl) rfl rfl rfl (by decide)
  · replace h := bif_f hb3 h
    refine aw_skip ?_
    refine aq_then ?_
    refine aw_seq ?_
    refine aw_region ?_
    refine al_val (ov_move rfl rfl) ?_
    refine al_val (ov_move rfl rfl) ?_
    obtain ⟨r5, hc4, h⟩ := opt_some h
    refine al_call (vs := [(Value.int .i64 a0)]) (f_civil_weekday_ok fu a0 hc4) [] [] [] pre_nil rfl (by simp) (by decide) (.inl rfl) rfl Try.func105 rfl rfl rfl (fun _ => ?_)
    refine al_val (ov_int rfl rfl rfl rfl) ?_
    refine al_val (ov_int rfl rfl rfl rfl) ?_
    refine al_val (ov_assign rfl rfl) ?_
    refine al_nil ?_
    refine aq_then ?_
    refine aw_seq ?_
    refine aw_region ?_
    refine al_val (ov_move rfl rfl) ?_
    obtain ⟨r7, hc6, h⟩ := opt_some h
    refine al_call (vs := [(Value.int .i64 (IntKind.i64.wrap (a0 + (IntKind.i64.wrap ((4 : Int) - r5)))))]) (f_civil_date_ok fu (IntKind.i64.wrap (a0 + (IntKind.i64.wrap ((4 : Int) - r5)))) hc6) [] [] [] pre_nil rfl (by simp) (by decide) (.inl rfl) rfl Try.func106 rfl rfl rfl (fun _ => ?_)
    refine al_val (ov_move rfl rfl) ?_
    refine al_val (ov_extract rfl rfl rfl) ?_
    refine al_val (ov_extract rfl rfl rfl) ?_
    refine al_val (ov_extract rfl rfl rfl) ?_
    refine al_val (ov_assign rfl rfl) ?_
    refine al_val (ov_assign rfl rfl) ?_
    refine al_val (ov_assign rfl rfl) ?_
    refine al_nil ?_
    refine aq_then ?_
    refine aw_seq ?_
    refine aw_region ?_
    refine al_val (ov_move rfl rfl) ?_
    refine al_val (ov_move rfl rfl) ?_
    refine al_val (ov_move rfl rfl) ?_
    obtain ⟨r9, hc8, h⟩ := opt_some h
    refine al_call (vs := [(Value.int .i64 r7.1)]) (f_civil_begin_ok fu r7.1 hc8) [] [] [] pre_nil rfl (by simp) (by decide) (.inl rfl) rfl Try.func107 rfl rfl rfl (fun _ => ?_)
    refine al_val (ov_int rfl rfl rfl rfl) ?_
    refine al_val (ov_quo (by decide) rfl rfl rfl) ?_
    refine al_val (ov_int rfl rfl rfl rfl) ?_
    refine al_val (ov_assign rfl rfl) ?_
    refine al_val (ov_assign rfl rfl) ?_
    refine al_val (ov_assign rfl rfl) ?_
    refine al_nil ?_
    refine aq_then ?_
    refine aw_ret ?_
    obtain rfl := Option.some.inj h
    exact fn_ret () [] [] rfl rfl rfl rfl (res3 rfl rfl rfl rfl) rfl rfl rfl (by decide)
def f_keep_rules_2 (fu : Nat) (a0 : Int) : Option A2i64 := (opt (f_civil_Week fu a0) fun (r3 : (Int × Int × Int)) => (some (A2i64.mk r3.1 r3.2.1)))
set_option maxRecDepth 100000 in
theorem f_keep_rules_2_ok (fu : Nat) (a0 : Int) {r : A2i64} (h : f_keep_rules_2 fu a0 = some r) : FnOk Try.prog 77 [(Value.int .i64 a0)] [] [] (fun (i : Unit) => { val := (ag (cA2i64 r)) }) := by
  unfold f_keep_rules_2 at h
  refine fn_enter Try.func77 rfl Try.ntmps77 rfl (fun w0 Z0 => ?_)
  refine aw_seq ?_
  refine aw_region ?_
  refine al_alloc (zs := (cA2i64 (A2i64.mk (0 : Int) (0 : Int)))) (zeroOf_to to90) rfl rfl (fun g1 => ?_)
  refine al_nil ?_
  refine aq_then ?_
  refine aw_seq ?_
  refine aw_region ?_
  refine al_val (ov_move rfl rfl) ?_
  obtain ⟨r3, hc2, h⟩ := opt_some h
  refine al_call (vs := [(Value.int .i64 a0)]) (f_civil_Week_ok fu a0 hc2) [] [] [0] pre_nil rfl (by simp) (by decide) (.inl rfl) rfl Try.func78 rfl rfl rfl (fun _ => ?_)
  refine al_val (ov_move rfl rfl) ?_
  refine al_val (ov_extract rfl rfl rfl) ?_
  refine al_val (ov_extract rfl rfl rfl) ?_
  refine al_val (ov_extract rfl rfl rfl) ?_
  refine al_val (ov_assign rfl rfl) ?_
  refine al_val (ov_assign rfl rfl) ?_
  refine al_val (ov_assign rfl rfl) ?_
  refine al_nil ?_
  refine aq_then ?_
  refine aw_seq ?_
  refine aw_region ?_
  refine al_val (ov_move rfl rfl) ?_
  refine al_val (ov_move rfl rfl) ?_
  refine al_val (ov_build (cells := ((cA2i64 (A2i64.mk r3.1 r3.2.1))).toArray) (cs := (cA2i64 (A2i64.mk r3.1 r3.2.1))) rfl (fun w a hm hs => by simp only [List.map_toArray, List.map_cons, List.map_nil, List.toList_toArray, hs.ev (x := .tmp 12) rfl, hs.ev (x := .tmp 13) rfl]; kernel_rfl)) ?_
  refine al_store (i := 0) (vs := (cA2i64 (A2i64.mk r3.1 r3.2.1))) (cs' := (cA2i64 (A2i64.mk r3.1 r3.2.1))) rfl rfl rfl sz90 (cv_rfl rfl) rfl (co_all (oneA2i64 (A2i64.mk r3.1 r3.2.1))) (Nat.le_of_ble_eq_true rfl) rfl rfl ?_
  refine al_nil ?_
  refine aq_then ?_
  refine aw_ret ?_
  obtain rfl := Option.some.inj h
  exact fn_ret () [] [] rfl rfl rfl rfl (resC rfl (resB (i := 0) rfl rfl Try.underlying90 sz90 rfl rfl rfl (resN)) rfl) rfl rfl rfl (by decide)
def f_civil_Date (fu : Nat) (a0 : Int) : Option (Int × Int × Int × Int) := (opt (f_civil_OK fu a0) fun (r2 : Int) => (bif (r2 != (0 : Int)) then (some ((0 : Int), (0 : Int), (0 : Int), r2)) else (opt (f_civil_date fu a0) fun (r5 : (Int × Int × Int)) => (some (r5.1, r5.2.1, r5.2.2, (0 : Int))))))
set_option maxRecDepth 100000 in
theorem f_civil_Date_ok (fu : Nat) (a0 : Int) {r : (Int × Int × Int × Int)} (h : f_civil_Date fu a0 = some r) : FnOk Try.prog 80 [(Value.int .i64 a0)] [] [] (fun (i : Unit) => { val := (Value.tuple #[(Value.int .i64 r.1), (Value.int .i64 r.2.1), (Value.int .i64 r.2.2.1), (Value.int .i64 r.2.2.2)]) }) := by
  unfold f_civil_Date at h
  refine fn_enter Try.func80 rfl Try.ntmps80 rfl (fun w0 Z0 => ?_)
  refine aw_seq ?_
  refine aw_region ?_
  refine al_val (ov_assign rfl rfl) ?_
  refine al_val (ov_assign rfl rfl) ?_
  refine al_val (ov_assign rfl rfl) ?_
  refine al_val (ov_assign rfl rfl) ?_
  refine al_nil ?_
  refine aq_then ?_
  refine aw_seq ?_
  refine aw_seq ?_
  refine aw_region ?_
  refine al_val (ov_move rfl rfl) ?_
  obtain ⟨r2, hc1, h⟩ := opt_some h
  refine al_call (vs := [(Value.int .i64 a0)]) (f_civil_OK_ok fu a0 hc1) [] [] [] pre_nil rfl (by simp) (by decide) (.inl rfl) rfl Try.func104 rfl rfl rfl (fun _ => ?_)
  refine al_val (ov_assign rfl rfl) ?_
  refine al_nil ?_
  refine aq_then ?_
  refine aw_seq ?_
  refine aw_region ?_
  refine al_val (ov_move rfl rfl) ?_
  refine al_val (ov_int rfl rfl rfl rfl) ?_
  refine al_nil ?_
  refine aq_then ?_
  refine aw_cond rfl (fun hb3 => ?_) (fun hb3 => ?_)
  · replace h := bif_t hb3 h
    refine aw_seq ?_
    refine aw_region ?_
    refine al_val (ov_move rfl rfl) ?_
    refine al_val (ov_assign rfl rfl) ?_
    refine al_val (ov_assign rfl rfl) ?_
    refine al_val (ov_assign rfl rfl) ?_
    refine al_val (ov_assign rfl rfl) ?_
    refine al_nil ?_
    refine aq_then ?_
    refine aw_ret ?_
    refine aq_then_ret ?_
    obtain rfl := Option.some.inj h
    exact fn_ret () [] [] rfl rfl rfl rfl (resC rfl (resT rfl (resT rfl (resT rfl (resT rfl (resN))))) rfl) rfl rfl rfl (by decide)
  · replace h := bif_f hb3 h
    refine aw_skip ?_
    refine aq_then ?_
    refine aw_seq ?_
    refine aw_region ?_
    refine al_val (ov_move rfl rfl) ?_
    obtain ⟨r5, hc4, h⟩ := opt_some h
    refine al_call (vs := [(Value.int .i64 a0)]) (f_civil_date_ok fu a0 hc4) [] [] [] pre_nil rfl (by simp) (by decide) (.inl rfl) rfl Try.func106 rfl rfl rfl (fun _ => ?_)
    refine al_val (ov_move rfl rfl) ?_
    refine al_val (ov_extract rfl rfl rfl) ?_
    refine al_val (ov_extract rfl rfl rfl) ?_
    refine al_val (ov_extract rfl rfl rfl) ?_
    refine al_val (ov_assign rfl rfl) ?_
    refine al_val (ov_assign rfl rfl) ?_
    refine al_val (ov_assign rfl rfl) ?_
    refine al_nil ?_
    refine aq_then ?_
    refine aw_seq ?_
    refine aw_region ?_
    refine al_val (ov_move rfl rfl) ?_
    refine al_val (ov_move rfl rfl) ?_
    refine al_val (ov_move rfl rfl) ?_
    refine al_val (ov_assign rfl rfl) ?_
    refine al_val (ov_assign rfl rfl) ?_
    refine al_val (ov_assign rfl rfl) ?_
    refine al_val (ov_assign rfl rfl) ?_
    refine al_nil ?_
    refine aq_then ?_
    refine aw_ret ?_
    obtain rfl := Option.some.inj h
    exact fn_ret () [] [] rfl rfl rfl rfl (resC rfl (resT rfl (resT rfl (resT rfl (resT rfl (resN))))) rfl) rfl rfl rfl (by decide)
def f_keep_rules_3 (fu : Nat) (a0 : Int) : Option A2i64 := (opt (f_civil_Date fu a0) fun (r3 : (Int × Int × Int × Int)) => (some (A2i64.mk r3.1 r3.2.1)))
set_option maxRecDepth 100000 in
theorem f_keep_rules_3_ok (fu : Nat) (a0 : Int) {r : A2i64} (h : f_keep_rules_3 fu a0 = some r) : FnOk Try.prog 79 [(Value.int .i64 a0)] [] [] (fun (i : Unit) => { val := (ag (cA2i64 r)) }) := by
  unfold f_keep_rules_3 at h
  refine fn_enter Try.func79 rfl Try.ntmps79 rfl (fun w0 Z0 => ?_)
  refine aw_seq ?_
  refine aw_region ?_
  refine al_alloc (zs := (cA2i64 (A2i64.mk (0 : Int) (0 : Int)))) (zeroOf_to to90) rfl rfl (fun g1 => ?_)
  refine al_nil ?_
  refine aq_then ?_
  refine aw_seq ?_
  refine aw_region ?_
  refine al_val (ov_move rfl rfl) ?_
  obtain ⟨r3, hc2, h⟩ := opt_some h
  refine al_call (vs := [(Value.int .i64 a0)]) (f_civil_Date_ok fu a0 hc2) [] [] [0] pre_nil rfl (by simp) (by decide) (.inl rfl) rfl Try.func80 rfl rfl rfl (fun _ => ?_)
  refine al_val (ov_move rfl rfl) ?_
  refine al_val (ov_extract rfl rfl rfl) ?_
  refine al_val (ov_extract rfl rfl rfl) ?_
  refine al_val (ov_extract rfl rfl rfl) ?_
  refine al_val (ov_extract rfl rfl rfl) ?_
  refine al_val (ov_assign rfl rfl) ?_
  refine al_val (ov_assign rfl rfl) ?_
  refine al_val (ov_assign rfl rfl) ?_
  refine al_val (ov_assign rfl rfl) ?_
  refine al_nil ?_
  refine aq_then ?_
  refine aw_seq ?_
  refine aw_region ?_
  refine al_val (ov_move rfl rfl) ?_
  refine al_val (ov_move rfl rfl) ?_
  refine al_val (ov_build (cells := ((cA2i64 (A2i64.mk r3.1 r3.2.1))).toArray) (cs := (cA2i64 (A2i64.mk r3.1 r3.2.1))) rfl (fun w a hm hs => by simp only [List.map_toArray, List.map_cons, List.map_nil, List.toList_toArray, hs.ev (x := .tmp 14) rfl, hs.ev (x := .tmp 15) rfl]; kernel_rfl)) ?_
  refine al_store (i := 0) (vs := (cA2i64 (A2i64.mk r3.1 r3.2.1))) (cs' := (cA2i64 (A2i64.mk r3.1 r3.2.1))) rfl rfl rfl sz90 (cv_rfl rfl) rfl (co_all (oneA2i64 (A2i64.mk r3.1 r3.2.1))) (Nat.le_of_ble_eq_true rfl) rfl rfl ?_
  refine al_nil ?_
  refine aq_then ?_
  refine aw_ret ?_
  obtain rfl := Option.some.inj h
  exact fn_ret () [] [] rfl rfl rfl rfl (resC rfl (resB (i := 0) rfl rfl Try.underlying90 sz90 rfl rfl rfl (resN)) rfl) rfl rfl rfl (by decide)
def f_keep_rules_4 (fu : Nat) (a0 : Int) : Option A2i64 := (opt (f_civil_Date fu a0) fun (r3 : (Int × Int × Int × Int)) => (some (A2i64.mk r3.1 ((A2i64.mk (0 : Int) (0 : Int)).e1))))
set_option maxRecDepth 100000 in
theorem f_keep_rules_4_ok (fu : Nat) (a0 : Int) {r : A2i64} (h : f_keep_rules_4 fu a0 = some r) : FnOk Try.prog 81 [(Value.int .i64 a0)] [] [] (fun (i : Unit) => { val := (ag (cA2i64 r)) }) := by
  unfold f_keep_rules_4 at h
  refine fn_enter Try.func81 rfl Try.ntmps81 rfl (fun w0 Z0 => ?_)
  refine aw_seq ?_
  refine aw_region ?_
  refine al_alloc (zs := (cA2i64 (A2i64.mk (0 : Int) (0 : Int)))) (zeroOf_to to90) rfl rfl (fun g1 => ?_)
  refine al_nil ?_
  refine aq_then ?_
  refine aw_seq ?_
  refine aw_region ?_
  refine al_val (ov_move rfl rfl) ?_
  obtain ⟨r3, hc2, h⟩ := opt_some h
  refine al_call (vs := [(Value.int .i64 a0)]) (f_civil_Date_ok fu a0 hc2) [] [] [0] pre_nil rfl (by simp) (by decide) (.inl rfl) rfl Try.func80 rfl rfl rfl (fun _ => ?_)
  refine al_val (ov_move rfl rfl) ?_
  refine al_val (ov_extract rfl rfl rfl) ?_
  refine al_val (ov_extract rfl rfl rfl) ?_
  refine al_val (ov_extract rfl rfl rfl) ?_
  refine al_val (ov_extract rfl rfl rfl) ?_
  refine al_val (ov_assign rfl rfl) ?_
  refine al_val (ov_assign rfl rfl) ?_
  refine al_val (ov_assign rfl rfl) ?_
  refine al_val (ov_assign rfl rfl) ?_
  refine al_nil ?_
  refine aq_then ?_
  refine aw_seq ?_
  refine aw_region ?_
  refine al_val (ov_move rfl rfl) ?_
  refine al_val (ov_build (cells := ((cA2i64 (A2i64.mk r3.1 ((A2i64.mk (0 : Int) (0 : Int)).e1)))).toArray) (cs := (cA2i64 (A2i64.mk r3.1 ((A2i64.mk (0 : Int) (0 : Int)).e1)))) rfl (fun w a hm hs => by simp only [List.map_toArray, List.map_cons, List.map_nil, List.toList_toArray, hs.ev (x := .tmp 14) rfl]; kernel_rfl)) ?_
  refine al_store (i := 0) (vs := (cA2i64 (A2i64.mk r3.1 ((A2i64.mk (0 : Int) (0 : Int)).e1)))) (cs' := (cA2i64 (A2i64.mk r3.1 ((A2i64.mk (0 : Int) (0 : Int)).e1)))) rfl rfl rfl sz90 (cv_rfl rfl) rfl (co_all (oneA2i64 (A2i64.mk r3.1 ((A2i64.mk (0 : Int) (0 : Int)).e1)))) (Nat.le_of_ble_eq_true rfl) rfl rfl ?_
  refine al_nil ?_
  refine aq_then ?_
  refine aw_ret ?_
  obtain rfl := Option.some.inj h
  exact fn_ret () [] [] rfl rfl rfl rfl (resC rfl (resB (i := 0) rfl rfl Try.underlying90 sz90 rfl rfl rfl (resN)) rfl) rfl rfl rfl (by decide)
def f_keep_rules (fu : Nat) (a0 : S_api_Policy) : Option (List S_keep_rule) := (some [(S_keep_rule.mk a0.Days (76 : Int)), (S_keep_rule.mk a0.Weeks (77 : Int)), (S_keep_rule.mk a0.Months (79 : Int)), (S_keep_rule.mk a0.Years (81 : Int))])
set_option maxRecDepth 100000 in
theorem f_keep_rules_ok (fu : Nat) (a0 : S_api_Policy) {r : (List S_keep_rule)} (h : f_keep_rules fu a0 = some r) : FnOk Try.prog 41 [(ag [(Value.int .i64 a0.Last), (Value.int .i64 a0.Days), (Value.int .i64 a0.Weeks), (Value.int .i64 a0.Months), (Value.int .i64 a0.Years)])] [] [] (fun (i : Value) => { val := i, own := [(oRow i 87 tyS_keep_rule r)] }) := by
  unfold f_keep_rules at h
  refine fn_enter Try.func41 rfl Try.ntmps41 rfl (fun w0 Z0 => ?_)
  refine aw_seq ?_
  refine aw_region ?_
  refine al_box (vs := [(Value.int .i64 a0.Last), (Value.int .i64 a0.Days), (Value.int .i64 a0.Weeks), (Value.int .i64 a0.Months), (Value.int .i64 a0.Years)]) rfl (cv_rfl rfl) rfl (fun g1 => ?_)
  refine al_val (ov_assign rfl rfl) ?_
  refine al_nil ?_
  refine aq_then ?_
  refine aw_seq ?_
  refine aw_region ?_
  refine al_val (ov_fieldA (p := 1) rfl Try.underlying33 rfl sz3 rfl rfl rfl) ?_
  refine al_val (ov_load (i := 0) (v := (Value.int .i64 a0.Days)) rfl rfl Try.underlying3 sz3 rfl rfl rfl rfl) ?_
  refine al_val (ov_build (cells := ([(Value.int .i64 a0.Days), (Value.func (.func 76) #[] #[])]).toArray) (cs := [(Value.int .i64 a0.Days), (Value.func (.func 76) #[] #[])]) rfl (fun w a hm hs => by simp only [List.map_toArray, List.map_cons, List.map_nil, List.toList_toArray, hs.ev (x := .tmp 4) rfl, hs.ev (x := .func 76) rfl]; kernel_rfl)) ?_
  refine al_val (ov_fieldA (p := 2) rfl Try.underlying33 rfl sz3 rfl rfl rfl) ?_
  refine al_val (ov_load (i := 0) (v := (Value.int .i64 a0.Weeks)) rfl rfl Try.underlying3 sz3 rfl rfl rfl rfl) ?_
  refine al_val (ov_build (cells := ([(Value.int .i64 a0.Weeks), (Value.func (.func 77) #[] #[])]).toArray) (cs := [(Value.int .i64 a0.Weeks), (Value.func (.func 77) #[] #[])]) rfl (fun w a hm hs => by simp only [List.map_toArray, List.map_cons, List.map_nil, List.toList_toArray, hs.ev (x := .tmp 7) rfl, hs.ev (x := .func 77) rfl]; kernel_rfl)) ?_
  refine al_val (ov_fieldA (p := 3) rfl Try.underlying33 rfl sz3 rfl rfl rfl) ?_
  refine al_val (ov_load (i := 0) (v := (Value.int .i64 a0.Months)) rfl rfl Try.underlying3 sz3 rfl rfl rfl rfl) ?_
  refine al_val (ov_build (cells := ([(Value.int .i64 a0.Months), (Value.func (.func 79) #[] #[])]).toArray) (cs := [(Value.int .i64 a0.Months), (Value.func (.func 79) #[] #[])]) rfl (fun w a hm hs => by simp only [List.map_toArray, List.map_cons, List.map_nil, List.toList_toArray, hs.ev (x := .tmp 10) rfl, hs.ev (x := .func 79) rfl]; kernel_rfl)) ?_
  refine al_val (ov_fieldA (p := 4) rfl Try.underlying33 rfl sz3 rfl rfl rfl) ?_
  refine al_val (ov_load (i := 0) (v := (Value.int .i64 a0.Years)) rfl rfl Try.underlying3 sz3 rfl rfl rfl rfl) ?_
  refine al_val (ov_build (cells := ([(Value.int .i64 a0.Years), (Value.func (.func 81) #[] #[])]).toArray) (cs := [(Value.int .i64 a0.Years), (Value.func (.func 81) #[] #[])]) rfl (fun w a hm hs => by simp only [List.map_toArray, List.map_cons, List.map_nil, List.toList_toArray, hs.ev (x := .tmp 13) rfl, hs.ev (x := .func 81) rfl]; kernel_rfl)) ?_
  refine al_buildSlice (τ := tyS_keep_rule) (e := 87) (k := 4) (sz := 0) (by_ := 0) (z := undef) (cs := [(Value.int .i64 a0.Days), (Value.func (.func 76) #[] #[]), (Value.int .i64 a0.Weeks), (Value.func (.func 77) #[] #[]), (Value.int .i64 a0.Months), (Value.func (.func 79) #[] #[]), (Value.int .i64 a0.Years), (Value.func (.func 81) #[] #[])]) (xs := [(S_keep_rule.mk a0.Days (76 : Int)), (S_keep_rule.mk a0.Weeks (77 : Int)), (S_keep_rule.mk a0.Months (79 : Int)), (S_keep_rule.mk a0.Years (81 : Int))]) rfl (by decide) (fun w a hm hs => ⟨([(Value.int .i64 a0.Days), (Value.func (.func 76) #[] #[]), (Value.int .i64 a0.Weeks), (Value.func (.func 77) #[] #[]), (Value.int .i64 a0.Months), (Value.func (.func 79) #[] #[]), (Value.int .i64 a0.Years), (Value.func (.func 81) #[] #[])]).toArray, rfl, by simp only [List.map_toArray, List.map_cons, List.map_nil, hs.ev (x := .tmp 5) rfl, hs.ev (x := .tmp 8) rfl, hs.ev (x := .tmp 11) rfl, hs.ev (x := .tmp 14) rfl]; exact run_bs [(ag [(Value.int .i64 a0.Days), (Value.func (.func 76) #[] #[])]), (ag [(Value.int .i64 a0.Weeks), (Value.func (.func 77) #[] #[])]), (ag [(Value.int .i64 a0.Months), (Value.func (.func 79) #[] #[])]), (ag [(Value.int .i64 a0.Years), (Value.func (.func 81) #[] #[])])] [(Value.int .i64 a0.Days), (Value.func (.func 76) #[] #[]), (Value.int .i64 a0.Weeks), (Value.func (.func 77) #[] #[]), (Value.int .i64 a0.Months), (Value.func (.func 79) #[] #[]), (Value.int .i64 a0.Years), (Value.func (.func 81) #[] #[])] Try.underlying83 to87 rfl rfl (bs_cons (l := [(Value.int .i64 a0.Days), (Value.func (.func 76) #[] #[])]) (cs := [(Value.int .i64 a0.Weeks), (Value.func (.func 77) #[] #[]), (Value.int .i64 a0.Months), (Value.func (.func 79) #[] #[]), (Value.int .i64 a0.Years), (Value.func (.func 81) #[] #[])]) (cv_rfl rfl) rfl (bs_cons (l := [(Value.int .i64 a0.Weeks), (Value.func (.func 77) #[] #[])]) (cs := [(Value.int .i64 a0.Months), (Value.func (.func 79) #[] #[]), (Value.int .i64 a0.Years), (Value.func (.func 81) #[] #[])]) (cv_rfl rfl) rfl (bs_cons (l := [(Value.int .i64 a0.Months), (Value.func (.func 79) #[] #[])]) (cs := [(Value.int .i64 a0.Years), (Value.func (.func 81) #[] #[])]) (cv_rfl rfl) rfl (bs_cons (l := [(Value.int .i64 a0.Years), (Value.func (.func 81) #[] #[])]) (cs := []) (cv_rfl rfl) rfl bs_nil)))) hm⟩) (fun hm => ⟨_, _, rfl, (fun _ => mkS_keep_rule rfl) hm, ⟨_, _, rfl, (fun _ => mkS_keep_rule rfl) hm, ⟨_, _, rfl, (fun _ => mkS_keep_rule rfl) hm, ⟨_, _, rfl, (fun _ => mkS_keep_rule rfl) hm, rfl⟩⟩⟩⟩) rfl (fun v2 => ?_)
  refine al_val (ov_assign rfl rfl) ?_
  refine al_nil ?_
  refine aq_then ?_
  refine aw_ret ?_
  obtain rfl := Option.some.inj h
  exact fn_ret v2 [0] [] rfl rfl rfl rfl (res1 rfl rfl) rfl rfl rfl (by decide)
def f_keep_Pick_L32 (a1 : (List Int)) (kk23 : ((List Bool) → Option ((List Bool) × Int))) (u24 : S_keep_rule) (fu : Nat) : Nat → (List Bool) → (List (A2i64 × Bool)) → Int → Option ((List Bool) × Int)
  | 0, _, _, _ => none
  | k31 + 1, l30x9, l30xm13, l30i75 => (bif (decide (l30i75 < (a1.length : Int))) then (lt (fun (j34x9 : (List Bool)) (j34xm13 : (List (A2i64 × Bool))) => (f_keep_Pick_L32 a1 kk23 u24 fu k31 j34x9 j34xm13 (IntKind.i64.wrap (l30i75 + (1 : Int))))) fun (kk35 : (List Bool) → (List (A2i64 × Bool)) → Option ((List Bool) × Int)) => (opt (at? a1 l30i75) fun (u36 : Int) => (bif (u24.of_ == (76 : Int)) then (opt (f_keep_rules_1 fu (IntKind.i64.wrap ((u36).tdiv (1440 : Int)))) fun (r41 : A2i64) => (lt (fun (j43b95 : Bool) => (bif j43b95 then (req ((Lit.int .i64 r41.e0).wf = true) (req ((Lit.int .i64 r41.e1).wf = true) (opt (at? l30x9 l30i75) fun (u48 : Bool) => (kk35 (l30x9.set (l30i75).toNat true) (gset l30xm13 r41 true))))) else (kk35 l30x9 l30xm13))) fun (kk44 : Bool → Option ((List Bool) × Int)) => (req ((Lit.int .i64 r41.e0).wf = true) (req ((Lit.int .i64 r41.e1).wf = true) (bif (!((gget l30xm13 r41).getD false)) then (kk44 (decide ((l30xm13.length : Int) < u24.many))) else (kk44 false)))))) else (bif (u24.of_ == (77 : Int)) then (opt (f_keep_rules_2 fu (IntKind.i64.wrap ((u36).tdiv (1440 : Int)))) fun (r57 : A2i64) => (lt (fun (j59b95 : Bool) => (bif j59b95 then (req ((Lit.int .i64 r57.e0).wf = true) (req ((Lit.int .i64 r57.e1).wf = true) (opt (at? l30x9 l30i75) fun (u64 : Bool) => (kk35 (l30x9.set (l30i75).toNat true) (gset l30xm13 r57 true))))) else (kk35 l30x9 l30xm13))) fun (kk60 : Bool → Option ((List Bool) × Int)) => (req ((Lit.int .i64 r57.e0).wf = true) (req ((Lit.int .i64 r57.e1).wf = true) (bif (!((gget l30xm13 r57).getD false)) then (kk60 (decide ((l30xm13.length : Int) < u24.many))) else (kk60 false)))))) else (bif (u24.of_ == (79 : Int)) then (opt (f_keep_rules_3 fu (IntKind.i64.wrap ((u36).tdiv (1440 : Int)))) fun (r73 : A2i64) => (lt (fun (j75b95 : Bool) => (bif j75b95 then (req ((Lit.int .i64 r73.e0).wf = true) (req ((Lit.int .i64 r73.e1).wf = true) (opt (at? l30x9 l30i75) fun (u80 : Bool) => (kk35 (l30x9.set (l30i75).toNat true) (gset l30xm13 r73 true))))) else (kk35 l30x9 l30xm13))) fun (kk76 : Bool → Option ((List Bool) × Int)) => (req ((Lit.int .i64 r73.e0).wf = true) (req ((Lit.int .i64 r73.e1).wf = true) (bif (!((gget l30xm13 r73).getD false)) then (kk76 (decide ((l30xm13.length : Int) < u24.many))) else (kk76 false)))))) else (bif (u24.of_ == (81 : Int)) then (opt (f_keep_rules_4 fu (IntKind.i64.wrap ((u36).tdiv (1440 : Int)))) fun (r89 : A2i64) => (lt (fun (j91b95 : Bool) => (bif j91b95 then (req ((Lit.int .i64 r89.e0).wf = true) (req ((Lit.int .i64 r89.e1).wf = true) (opt (at? l30x9 l30i75) fun (u96 : Bool) => (kk35 (l30x9.set (l30i75).toNat true) (gset l30xm13 r89 true))))) else (kk35 l30x9 l30xm13))) fun (kk92 : Bool → Option ((List Bool) × Int)) => (req ((Lit.int .i64 r89.e0).wf = true) (req ((Lit.int .i64 r89.e1).wf = true) (bif (!((gget l30xm13 r89).getD false)) then (kk92 (decide ((l30xm13.length : Int) < u24.many))) else (kk92 false)))))) else (none : Option ((List Bool) × Int)))))))) else (kk23 l30x9))
def f_keep_Pick_L19 (a1 : (List Int)) (kk13 : ((List Bool) → Option ((List Bool) × Int))) (r15 : (List S_keep_rule)) (fu : Nat) : Nat → (List Bool) → Int → Option ((List Bool) × Int)
  | 0, _, _ => none
  | k18 + 1, l17x9, l17i68 => (lt (fun (l17x9 : (List Bool)) (l17i68 : Int) => (f_keep_Pick_L19 a1 kk13 r15 fu k18 l17x9 l17i68)) fun (kk20 : (List Bool) → Int → Option ((List Bool) × Int)) => (bif (decide (l17i68 < (r15.length : Int))) then (lt (fun (j22x9 : (List Bool)) => (kk20 j22x9 (IntKind.i64.wrap (l17i68 + (1 : Int))))) fun (kk23 : (List Bool) → Option ((List Bool) × Int)) => (opt (at? r15 l17i68) fun (u24 : S_keep_rule) => (f_keep_Pick_L32 a1 kk23 u24 fu fu l17x9 ([] : List (A2i64 × Bool)) (0 : Int)))) else (kk13 l17x9)))
def f_keep_Pick_L105 (a0 : S_api_Policy) (a1 : (List Int)) (kk11 : ((List Bool) → Option ((List Bool) × Int))) : Nat → (List Bool) → Int → Option ((List Bool) × Int)
  | 0, _, _ => none
  | k104 + 1, l103x9, l103i58 => (bif (decide (l103i58 < (if (a1.length : Int) < a0.Last then (a1.length : Int) else a0.Last))) then (opt (at? l103x9 l103i58) fun (u107 : Bool) => (f_keep_Pick_L105 a0 a1 kk11 k104 (l103x9.set (l103i58).toNat true) (IntKind.i64.wrap (l103i58 + (1 : Int))))) else (kk11 l103x9))
def f_keep_Pick_L113 (a1 : (List Int)) (kk7 : (Unit → Option ((List Bool) × Int))) : Nat → Int → Option ((List Bool) × Int)
  | 0, _ => none
  | k112 + 1, l111i27 => (bif (decide (l111i27 < (a1.length : Int))) then (opt (at? a1 l111i27) fun (u115 : Int) => (lt (fun (j118b37 : Bool) => (bif j118b37 then (some (([] : List Bool), (1 : Int))) else (lt (fun (j121b48 : Bool) => (bif j121b48 then (some (([] : List Bool), (4 : Int))) else (f_keep_Pick_L113 a1 kk7 k112 (IntKind.i64.wrap (l111i27 + (1 : Int)))))) fun (kk122 : Bool → Option ((List Bool) × Int)) => (bif (decide (l111i27 > (0 : Int))) then (opt (at? a1 (IntKind.i64.wrap (l111i27 - (1 : Int)))) fun (u125 : Int) => (kk122 (decide (u115 > u125)))) else (kk122 false))))) fun (kk119 : Bool → Option ((List Bool) × Int)) => (bif (decide (u115 < (0 : Int))) then (kk119 true) else (kk119 (decide (u115 > (4223371679 : Int))))))) else (kk7 ()))
def f_keep_Pick (fu : Nat) (a0 : S_api_Policy) (a1 : (List Int)) : Option ((List Bool) × Int) := (opt (f_keep_Check fu a0) fun (r3 : Int) => (bif (r3 != (0 : Int)) then (some (([] : List Bool), r3)) else (bif (decide ((a1.length : Int) > (200 : Int))) then (some (([] : List Bool), (2 : Int))) else (lt (fun (_ : Unit) => (req (0 ≤ (a1.length : Int) ∧ 1 * (a1.length : Int) ≤ 281474976710656 ∧ (a1.length : Int) ≤ 9223372036854775807) (lt (fun (j10x9 : (List Bool)) => (lt (fun (j12x9 : (List Bool)) => (some (j12x9, (0 : Int)))) fun (kk13 : (List Bool) → Option ((List Bool) × Int)) => (opt (f_keep_rules fu a0) fun (r15 : (List S_keep_rule)) => (f_keep_Pick_L19 a1 kk13 r15 fu fu j10x9 (0 : Int))))) fun (kk11 : (List Bool) → Option ((List Bool) × Int)) => (f_keep_Pick_L105 a0 a1 kk11 fu (List.replicate ((a1.length : Int)).toNat false) (0 : Int))))) fun (kk7 : Unit → Option ((List Bool) × Int)) => (f_keep_Pick_L113 a1 kk7 fu (0 : Int))))))
set_option maxRecDepth 100000 in
set_option maxHeartbeats 2000000 in
theorem f_keep_Pick_ok (fu : Nat) (a0 : S_api_Policy) (v1_0 : Value) (a1 : (List Int)) {r : ((List Bool) × Int)} (h : f_keep_Pick fu a0 a1 = some r) : FnOk Try.prog 12 [(ag [(Value.int .i64 a0.Last), (Value.int .i64 a0.Days), (Value.int .i64 a0.Weeks), (Value.int .i64 a0.Months), (Value.int .i64 a0.Years)]), v1_0] [(fDat (tyList (tyInt .i64)) [v1_0] a1)] [] (fun (i : Value) => { val := (Value.tuple #[i, (Value.int .i64 r.2)]), own := [(oRow i 4 tyBool r.1)] }) := by
  unfold f_keep_Pick at h
  refine fn_enter Try.func12 rfl Try.ntmps12 rfl (fun w0 Z0 => ?_)
  refine aw_seq ?_
  refine aw_region ?_
  refine al_box (vs := [(Value.int .i64 a0.Last), (Value.int .i64 a0.Days), (Value.int .i64 a0.Weeks), (Value.int .i64 a0.Months), (Value.int .i64 a0.Years)]) rfl (cv_rfl rfl) rfl (fun g1 => ?_)
  refine al_val (ov_assign rfl rfl) ?_
  refine al_val (ov_assign rfl rfl) ?_
  refine al_nil ?_
  refine aq_then ?_
  refine aw_seq ?_
  refine aw_seq ?_
  refine aw_region ?_
  refine al_val (ov_load (i := 0) (v := (ag [(Value.int .i64 a0.Last), (Value.int .i64 a0.Days), (Value.int .i64 a0.Weeks), (Value.int .i64 a0.Months), (Value.int .i64 a0.Years)])) rfl rfl Try.underlying33 sz33 rfl rfl rfl rfl) ?_
  obtain ⟨r3, hc2, h⟩ := opt_some h
  refine al_call (vs := [(ag [(Value.int .i64 a0.Last), (Value.int .i64 a0.Days), (Value.int .i64 a0.Weeks), (Value.int .i64 a0.Months), (Value.int .i64 a0.Years)])]) (f_keep_Check_ok fu a0 hc2) [] [] [0] pre_nil rfl (by simp) (by decide) (.inl rfl) rfl Try.func14 rfl rfl rfl (fun _ => ?_)
  refine al_val (ov_assign rfl rfl) ?_
  refine al_nil ?_
  refine aq_then ?_
  refine aw_seq ?_
  refine aw_region ?_
  refine al_val (ov_move rfl rfl) ?_
  refine al_val (ov_int rfl rfl rfl rfl) ?_
  refine al_nil ?_
  refine aq_then ?_
  refine aw_cond rfl (fun hb4 => ?_) (fun hb4 => ?_)
  · replace h := bif_t hb4 h
    refine aw_seq ?_
    refine aw_region ?_
    refine al_val (ov_move rfl rfl) ?_
    refine al_val (ov_assign rfl rfl) ?_
    refine al_val (ov_assign rfl rfl) ?_
    refine al_nil ?_
    refine aq_then ?_
    refine aw_ret ?_
    refine aq_then_ret ?_
    refine aq_nilR 4 tyBool ?_
    obtain rfl := Option.some.inj h
    exact fn_ret (Value.slice none 0 0) [0] [] rfl rfl rfl rfl (res2 rfl rfl rfl) rfl rfl rfl (by decide)
  · replace h := bif_f hb4 h
    refine aw_skip ?_
    refine aq_then ?_
    refine aw_seq ?_
    refine aw_seq ?_
    refine aw_region ?_
    refine al_val (ov_move rfl rfl) ?_
    refine al_val (ov_lenD 0 rfl rfl Try.underlying34 rfl) ?_
    refine al_val (ov_int rfl rfl rfl rfl) ?_
    refine al_nil ?_
    refine aq_then ?_
    refine aw_cond rfl (fun hb5 => ?_) (fun hb5 => ?_)
    · replace h := bif_t hb5 h
      refine aw_seq ?_
      refine aw_region ?_
      refine al_val (ov_assign rfl rfl) ?_
      refine al_val (ov_assign rfl rfl) ?_
      refine al_nil ?_
      refine aq_then ?_
      refine aw_ret ?_
      refine aq_then_ret ?_
      refine aq_nilR 4 tyBool ?_
      obtain rfl := Option.some.inj h
      exact fn_ret (Value.slice none 0 0) [0] [] rfl rfl rfl rfl (res2 rfl rfl rfl) rfl rfl rfl (by decide)
    · replace h := bif_f hb5 h
      refine aw_skip ?_
      refine aq_then ?_
      obtain ⟨kk7, hkk7, h⟩ := lt_some h
      refine aw_seq_join (ι := Unit) (fun i => (memOf w0 Z0 [] [(oBox g1 33 [(Value.int .i64 a0.Last), (Value.int .i64 a0.Days), (Value.int .i64 a0.Weeks), (Value.int .i64 a0.Months), (Value.int .i64 a0.Years)])] [(fDat (tyList (tyInt .i64)) [v1_0] a1)])) (fun i => (tab [(1, v1_0), (2, (ptr g1 0))])) (fun i => kk7 () = some r) ?_ ?_
      · rintro _ h
        have h : kk7 () = some r := h
        rw [hkk7] at h
        dsimp only at h
        clear hkk7
        refine aw_show (m := (memOf w0 Z0 [] [(oBox g1 33 [(Value.int .i64 a0.Last), (Value.int .i64 a0.Days), (Value.int .i64 a0.Weeks), (Value.int .i64 a0.Months), (Value.int .i64 a0.Years)])] [(fDat (tyList (tyInt .i64)) [v1_0] a1)])) (S := (tab [(1, v1_0), (2, (ptr g1 0))])) ?_
        refine aw_seq ?_
        refine aw_region ?_
        refine al_val (ov_move rfl rfl) ?_
        refine al_val (ov_lenD 0 rfl rfl Try.underlying34 rfl) ?_
        obtain ⟨hc8, h⟩ := req_some h
        refine al_make (τ := tyBool) (x0 := false) hc8.1 hc8.2.1 hc8.2.2 rfl rfl Try.underlying35 to4 (fun _ _ => rfl) rfl rfl (fun v9 => ?_)
        refine al_val (ov_assign rfl rfl) ?_
        refine al_nil ?_
        refine aq_then ?_
        obtain ⟨kk11, hkk11, h⟩ := lt_some h
        refine aw_seq_join (ι := (List Bool)) (fun i => (memOf w0 Z0 [] [(oBox g1 33 [(Value.int .i64 a0.Last), (Value.int .i64 a0.Days), (Value.int .i64 a0.Weeks), (Value.int .i64 a0.Months), (Value.int .i64 a0.Years)]), (oRow v9 4 tyBool i)] [(fDat (tyList (tyInt .i64)) [v1_0] a1)])) (fun i => (tab [(1, v1_0), (2, (ptr g1 0)), (9, v9)])) (fun i => kk11 i = some r) ?_ ?_
        · rintro j10x9 h
          have h : kk11 j10x9 = some r := h
          rw [hkk11] at h
          dsimp only at h
          clear hkk11
          refine aw_show (m := (memOf w0 Z0 [] [(oBox g1 33 [(Value.int .i64 a0.Last), (Value.int .i64 a0.Days), (Value.int .i64 a0.Weeks), (Value.int .i64 a0.Months), (Value.int .i64 a0.Years)]), (oRow v9 4 tyBool j10x9)] [(fDat (tyList (tyInt .i64)) [v1_0] a1)])) (S := (tab [(1, v1_0), (2, (ptr g1 0)), (9, v9)])) ?_
          obtain ⟨kk13, hkk13, h⟩ := lt_some h
          refine aw_seq_join (ι := (List Bool)) (fun i => (memOf w0 Z0 [] [(oRow v9 4 tyBool i)] [(fDat (tyList (tyInt .i64)) [v1_0] a1)])) (fun i => (tab [(9, v9)])) (fun i => kk13 i = some r) ?_ ?_
          · rintro j12x9 h
            have h : kk13 j12x9 = some r := h
            rw [hkk13] at h
            dsimp only at h
            clear hkk13
            refine aw_show (m := (memOf w0 Z0 [] [(oRow v9 4 tyBool j12x9)] [(fDat (tyList (tyInt .i64)) [v1_0] a1)])) (S := (tab [(9, v9)])) ?_
            refine aw_seq ?_
            refine aw_region ?_
            refine al_val (ov_move rfl rfl) ?_
            refine al_val (ov_assign rfl rfl) ?_
            refine al_val (ov_assign rfl rfl) ?_
            refine al_nil ?_
            refine aq_then ?_
            refine aw_ret ?_
            obtain rfl := Option.some.inj h
            exact fn_ret v9 [0] [] rfl rfl rfl rfl (res2 rfl rfl rfl) rfl rfl rfl (by decide)
          · clear hkk13
            refine aw_seq ?_
            refine aw_region ?_
            refine al_val (ov_load (i := 0) (v := (ag [(Value.int .i64 a0.Last), (Value.int .i64 a0.Days), (Value.int .i64 a0.Weeks), (Value.int .i64 a0.Months), (Value.int .i64 a0.Years)])) rfl rfl Try.underlying33 sz33 rfl rfl rfl rfl) ?_
            obtain ⟨r15, hc14, h⟩ := opt_some h
            refine al_call (vs := [(ag [(Value.int .i64 a0.Last), (Value.int .i64 a0.Days), (Value.int .i64 a0.Weeks), (Value.int .i64 a0.Months), (Value.int .i64 a0.Years)])]) (f_keep_rules_ok fu a0 hc14) [] [] [0, 1] pre_nil rfl (by simp) (by decide) (.inl rfl) rfl Try.func41 rfl rfl rfl (fun v16 => ?_)
            refine al_val (ov_lenR 0 rfl rfl Try.underlying83 rfl) ?_
            refine al_val (ov_move rfl rfl) ?_
            refine al_nil ?_
            refine aq_then ?_
            refine aw_block ?_
            refine aw_state (aw_loop (ι := (List Bool) × Int) (fun i => (memOf w0 Z0 [] [(oRow v9 4 tyBool i.1), (oRow v16 87 tyS_keep_rule r15)] [(fDat (tyList (tyInt .i64)) [v1_0] a1)])) (fun i => (tab [(1, v1_0), (9, v9), (66, v16), (67, (Value.int .i64 (r15.length : Int))), (68, (Value.int .i64 i.2))])) (fun q i => f_keep_Pick_L19 a1 kk13 r15 fu q i.1 i.2 = some r) ?_ fu (j10x9, (0 : Int)) h) (fun w a hm hs => norm hm hs [2, 0] [0] [(1, v1_0), (9, v9), (66, v16), (67, (Value.int .i64 (r15.length : Int))), (68, (Value.int .i64 (0 : Int)))] (by decide) ⟨rfl, rfl, rfl, rfl, rfl, trivial⟩)
            clear h
            rintro k18 ⟨l17x9, l17i68⟩ h
            have h : f_keep_Pick_L19 a1 kk13 r15 fu k18 l17x9 l17i68 = some r := h
            obtain _ | k18 := k18
            · rw [f_keep_Pick_L19] at h; cases h
            rw [f_keep_Pick_L19] at h
            refine aw_show (m := (memOf w0 Z0 [] [(oRow v9 4 tyBool l17x9), (oRow v16 87 tyS_keep_rule r15)] [(fDat (tyList (tyInt .i64)) [v1_0] a1)])) (S := (tab [(1, v1_0), (9, v9), (66, v16), (67, (Value.int .i64 (r15.length : Int))), (68, (Value.int .i64 l17i68))])) ?_
            obtain ⟨kk20, hkk20, h⟩ := lt_some h
            refine aw_body_join (ι := (List Bool) × Int) (fun i => (memOf w0 Z0 [] [(oRow v9 4 tyBool i.1), (oRow v16 87 tyS_keep_rule r15)] [(fDat (tyList (tyInt .i64)) [v1_0] a1)])) (fun i => (tab [(1, v1_0), (9, v9), (66, v16), (67, (Value.int .i64 (r15.length : Int))), (68, (Value.int .i64 i.2))])) (fun i => kk20 i.1 i.2 = some r) (fun i h => aq_again k18 i (Nat.lt_succ_self _) (by rw [hkk20] at h; exact h) (fun w a hm hs => ⟨hm, hs⟩)) ?_
            clear hkk20
            refine aw_seq ?_
            refine aw_region ?_
            refine al_val (ov_int rfl rfl rfl rfl) ?_
            refine al_nil ?_
            refine aq_then ?_
            refine aw_seq ?_
            refine aw_cond rfl (fun hb21 => ?_) (fun hb21 => ?_)
            · replace h := bif_t hb21 h
              refine aw_skip ?_
              refine aq_then ?_
              obtain ⟨kk23, hkk23, h⟩ := lt_some h
              refine aw_seq_join (ι := (List Bool)) (fun i => (memOf w0 Z0 [] [(oRow v9 4 tyBool i), (oRow v16 87 tyS_keep_rule r15)] [(fDat (tyList (tyInt .i64)) [v1_0] a1)])) (fun i => (tab [(1, v1_0), (9, v9), (66, v16), (67, (Value.int .i64 (r15.length : Int))), (68, (Value.int .i64 l17i68))])) (fun i => kk23 i = some r) ?_ ?_
              · rintro j22x9 h
                have h : kk23 j22x9 = some r := h
                rw [hkk23] at h
                dsimp only at h
                clear hkk23
                refine aw_show (m := (memOf w0 Z0 [] [(oRow v9 4 tyBool j22x9), (oRow v16 87 tyS_keep_rule r15)] [(fDat (tyList (tyInt .i64)) [v1_0] a1)])) (S := (tab [(1, v1_0), (9, v9), (66, v16), (67, (Value.int .i64 (r15.length : Int))), (68, (Value.int .i64 l17i68))])) ?_
                refine aw_region ?_
                refine al_val (ov_int rfl rfl rfl rfl) ?_
                refine al_val (ov_move rfl rfl) ?_
                refine al_nil ?_
                exact aq_join (j22x9, (IntKind.i64.wrap (l17i68 + (1 : Int)))) h (fun w a hm hs => norm hm hs [0, 1] [0] [(1, v1_0), (9, v9), (66, v16), (67, (Value.int .i64 (r15.length : Int))), (68, (Value.int .i64 (IntKind.i64.wrap (l17i68 + (1 : Int)))))] (by decide) ⟨rfl, rfl, rfl, rfl, rfl, trivial⟩)
              · clear hkk23
                refine aw_block ?_
                refine aw_seq ?_
                refine aw_region ?_
                obtain ⟨u24, hu25, h⟩ := opt_some h
                refine al_idxR 1 (at_some hu25).1 (at_some hu25).2.1 rfl rfl rfl Try.underlying83 sz87 rfl (fun p26 hp27 => ?_)
                refine al_val (ov_loadR (ds := [(Value.int .i64 u24.many), (Value.func (.func (u24.of_).toNat) #[] #[])]) 1 rfl hp27 (at_some hu25).2.2 encS_keep_rule rfl Try.underlying87 sz87 rfl rfl rfl) ?_
                refine al_alloc (zs := [(Value.int .i64 (0 : Int)), Value.nilFunc]) (zeroOf_to to87) rfl rfl (fun g28 => ?_)
                refine al_store (i := 0) (vs := [(Value.int .i64 u24.many), (Value.func (.func (u24.of_).toNat) #[] #[])]) (cs' := [(Value.int .i64 u24.many), (Value.func (.func (u24.of_).toNat) #[] #[])]) rfl rfl rfl sz87 (cv_rfl rfl) rfl (co_val rfl (co_val rfl co_nil)) (Nat.le_of_ble_eq_true rfl) rfl rfl ?_
                refine al_nil ?_
                refine aq_then ?_
                refine aw_seq ?_
                refine aw_region ?_
                refine al_makeMapK (ν := Bool) 90 (fun x : A2i64 => ag (cA2i64 x)) (fun x : Bool => Value.bool x) rfl (fun g29 => ?_)
                refine al_val (ov_assign rfl rfl) ?_
                refine al_nil ?_
                refine aq_then ?_
                refine aw_seq ?_
                refine aw_region ?_
                refine al_val (ov_move rfl rfl) ?_
                refine al_val (ov_lenD 0 rfl rfl Try.underlying34 rfl) ?_
                refine al_val (ov_move rfl rfl) ?_
                refine al_nil ?_
                refine aq_then ?_
                refine aw_block ?_
                refine aw_state (aw_loop (ι := (List Bool) × (List (A2i64 × Bool)) × Int) (fun i => (memOf w0 Z0 [] [(oRow v9 4 tyBool i.1), (oBox g28 87 [(Value.int .i64 u24.many), (Value.func (.func (u24.of_).toNat) #[] #[])]), (oMapK Try.prog 90 g29 (fun x : A2i64 => ag (cA2i64 x)) (fun x : Bool => Value.bool x) i.2.1), (oRow v16 87 tyS_keep_rule r15)] [(fDat (tyList (tyInt .i64)) [v1_0] a1)])) (fun i => (tab [(1, v1_0), (9, v9), (12, (ptr g28 0)), (13, (Value.map (some g29))), (66, v16), (67, (Value.int .i64 (r15.length : Int))), (68, (Value.int .i64 l17i68)), (73, v1_0), (74, (Value.int .i64 (a1.length : Int))), (75, (Value.int .i64 i.2.2))])) (fun q i => f_keep_Pick_L32 a1 kk23 u24 fu q i.1 i.2.1 i.2.2 = some r) ?_ fu (l17x9, ([] : List (A2i64 × Bool)), (0 : Int)) h) (fun w a hm hs => norm hm hs [2, 1, 0, 3] [0] [(1, v1_0), (9, v9), (12, (ptr g28 0)), (13, (Value.map (some g29))), (66, v16), (67, (Value.int .i64 (r15.length : Int))), (68, (Value.int .i64 l17i68)), (73, v1_0), (74, (Value.int .i64 (a1.length : Int))), (75, (Value.int .i64 (0 : Int)))] (by decide) ⟨rfl, rfl, rfl, rfl, rfl, rfl, rfl, rfl, rfl, rfl, trivial⟩)
                clear h
                rintro k31 ⟨l30x9, l30xm13, l30i75⟩ h
                have h : f_keep_Pick_L32 a1 kk23 u24 fu k31 l30x9 l30xm13 l30i75 = some r := h
                obtain _ | k31 := k31
                · rw [f_keep_Pick_L32] at h; cases h
                rw [f_keep_Pick_L32] at h
                refine aw_show (m := (memOf w0 Z0 [] [(oRow v9 4 tyBool l30x9), (oBox g28 87 [(Value.int .i64 u24.many), (Value.func (.func (u24.of_).toNat) #[] #[])]), (oMapK Try.prog 90 g29 (fun x : A2i64 => ag (cA2i64 x)) (fun x : Bool => Value.bool x) l30xm13), (oRow v16 87 tyS_keep_rule r15)] [(fDat (tyList (tyInt .i64)) [v1_0] a1)])) (S := (tab [(1, v1_0), (9, v9), (12, (ptr g28 0)), (13, (Value.map (some g29))), (66, v16), (67, (Value.int .i64 (r15.length : Int))), (68, (Value.int .i64 l17i68)), (73, v1_0), (74, (Value.int .i64 (a1.length : Int))), (75, (Value.int .i64 l30i75))])) ?_
                refine aw_seq ?_
                refine aw_region ?_
                refine al_val (ov_int rfl rfl rfl rfl) ?_
                refine al_nil ?_
                refine aq_then ?_
                refine aw_seq ?_
                refine aw_cond rfl (fun hb33 => ?_) (fun hb33 => ?_)
                · replace h := bif_t hb33 h
                  refine aw_skip ?_
                  refine aq_then ?_
                  obtain ⟨kk35, hkk35, h⟩ := lt_some h
                  refine aw_seq_join (ι := (List Bool) × (List (A2i64 × Bool))) (fun i => (memOf w0 Z0 [] [(oRow v9 4 tyBool i.1), (oBox g28 87 [(Value.int .i64 u24.many), (Value.func (.func (u24.of_).toNat) #[] #[])]), (oMapK Try.prog 90 g29 (fun x : A2i64 => ag (cA2i64 x)) (fun x : Bool => Value.bool x) i.2), (oRow v16 87 tyS_keep_rule r15)] [(fDat (tyList (tyInt .i64)) [v1_0] a1)])) (fun i => (tab [(1, v1_0), (9, v9), (12, (ptr g28 0)), (13, (Value.map (some g29))), (66, v16), (67, (Value.int .i64 (r15.length : Int))), (68, (Value.int .i64 l17i68)), (73, v1_0), (74, (Value.int .i64 (a1.length : Int))), (75, (Value.int .i64 l30i75))])) (fun i => kk35 i.1 i.2 = some r) ?_ ?_
                  · rintro ⟨j34x9, j34xm13⟩ h
                    have h : kk35 j34x9 j34xm13 = some r := h
                    rw [hkk35] at h
                    dsimp only at h
                    clear hkk35
                    refine aw_show (m := (memOf w0 Z0 [] [(oRow v9 4 tyBool j34x9), (oBox g28 87 [(Value.int .i64 u24.many), (Value.func (.func (u24.of_).toNat) #[] #[])]), (oMapK Try.prog 90 g29 (fun x : A2i64 => ag (cA2i64 x)) (fun x : Bool => Value.bool x) j34xm13), (oRow v16 87 tyS_keep_rule r15)] [(fDat (tyList (tyInt .i64)) [v1_0] a1)])) (S := (tab [(1, v1_0), (9, v9), (12, (ptr g28 0)), (13, (Value.map (some g29))), (66, v16), (67, (Value.int .i64 (r15.length : Int))), (68, (Value.int .i64 l17i68)), (73, v1_0), (74, (Value.int .i64 (a1.length : Int))), (75, (Value.int .i64 l30i75))])) ?_
                    refine aw_region ?_
                    refine al_val (ov_int rfl rfl rfl rfl) ?_
                    refine al_val (ov_move rfl rfl) ?_
                    refine al_nil ?_
                    exact aq_again k31 (j34x9, j34xm13, (IntKind.i64.wrap (l30i75 + (1 : Int)))) (Nat.lt_succ_self _) h (fun w a hm hs => norm hm hs [0, 1, 2, 3] [0] [(1, v1_0), (9, v9), (12, (ptr g28 0)), (13, (Value.map (some g29))), (66, v16), (67, (Value.int .i64 (r15.length : Int))), (68, (Value.int .i64 l17i68)), (73, v1_0), (74, (Value.int .i64 (a1.length : Int))), (75, (Value.int .i64 (IntKind.i64.wrap (l30i75 + (1 : Int)))))] (by decide) ⟨rfl, rfl, rfl, rfl, rfl, rfl, rfl, rfl, rfl, rfl, trivial⟩)
                  · clear hkk35
                    refine aw_block ?_
                    refine aw_seq ?_
                    refine aw_region ?_
                    refine al_val (ov_move rfl rfl) ?_
                    obtain ⟨u36, hu37, h⟩ := opt_some h
                    refine al_idxD 0 hu37 rfl rfl rfl Try.underlying34 sz3 rfl (fun p38 => ?_)
                    refine al_val (ov_loadP (ds := [(Value.int .i64 u36)]) 0 rfl (fun h => h) rfl Try.underlying3 sz3 rfl rfl rfl) ?_
                    refine al_val (ov_assign rfl rfl) ?_
                    refine al_val (ov_assign rfl rfl) ?_
                    refine al_nil ?_
                    refine aq_then ?_
                    refine aw_seq ?_
                    refine aw_region ?_
                    refine al_val (ov_fieldA (p := 1) rfl Try.underlying87 rfl sz85 rfl rfl rfl) ?_
                    refine al_val (ov_load (i := 1) (v := (Value.func (.func (u24.of_).toNat) #[] #[])) rfl rfl Try.underlying85 sz85 rfl rfl rfl rfl) ?_
                    refine al_val (ov_move rfl rfl) ?_
                    refine al_val (ov_quo (by decide) rfl rfl rfl) ?_
                    rcases Bool.eq_false_or_eq_true (u24.of_ == (76 : Int)) with hb39 | hb39
                    · replace h := bif_t hb39 h
                      refine al_recast (d := 81) (v' := (Value.func (.func 76) #[] #[])) rfl (by rw [eq_of_beq hb39]; rfl) ?_
                      obtain ⟨r41, hc40, h⟩ := opt_some h
                      refine al_callF (vs := [(Value.int .i64 (IntKind.i64.wrap ((u36).tdiv (1440 : Int))))]) (caps := []) (f_keep_rules_1_ok fu (IntKind.i64.wrap ((u36).tdiv (1440 : Int))) hc40) rfl [] [] [0, 1, 2, 3] pre_nil rfl (by simp) (by decide) (.inl rfl) rfl rfl Try.func76 rfl rfl rfl (fun _ => ?_)
                      refine al_alloc (zs := (cA2i64 (A2i64.mk (0 : Int) (0 : Int)))) (zeroOf_to to90) rfl rfl (fun g42 => ?_)
                      refine al_store (i := 0) (vs := (cA2i64 r41)) (cs' := (cA2i64 r41)) rfl rfl rfl sz90 (cv_rfl rfl) rfl (co_all (oneA2i64 r41)) (Nat.le_of_ble_eq_true rfl) rfl rfl ?_
                      refine al_nil ?_
                      refine aq_then ?_
                      obtain ⟨kk44, hkk44, h⟩ := lt_some h
                      refine aw_seq_join (ι := Bool) (fun i => (memOf w0 Z0 [] [(oRow v9 4 tyBool l30x9), (oBox g28 87 [(Value.int .i64 u24.many), (Value.func (.func (u24.of_).toNat) #[] #[])]), (oMapK Try.prog 90 g29 (fun x : A2i64 => ag (cA2i64 x)) (fun x : Bool => Value.bool x) l30xm13), (oBox g42 90 (cA2i64 r41)), (oRow v16 87 tyS_keep_rule r15)] [(fDat (tyList (tyInt .i64)) [v1_0] a1), (fPtr (tyInt .i64) p38 u36)])) (fun i => (tab [(1, v1_0), (9, v9), (12, (ptr g28 0)), (13, (Value.map (some g29))), (14, (Value.int .i64 l30i75)), (16, (ptr g42 0)), (66, v16), (67, (Value.int .i64 (r15.length : Int))), (68, (Value.int .i64 l17i68)), (73, v1_0), (74, (Value.int .i64 (a1.length : Int))), (75, (Value.int .i64 l30i75)), (95, (Value.bool i))])) (fun i => kk44 i = some r) ?_ ?_
                      · rintro j43b95 h
                        have h : kk44 j43b95 = some r := h
                        rw [hkk44] at h
                        dsimp only at h
                        clear hkk44
                        refine aw_show (m := (memOf w0 Z0 [] [(oRow v9 4 tyBool l30x9), (oBox g28 87 [(Value.int .i64 u24.many), (Value.func (.func (u24.of_).toNat) #[] #[])]), (oMapK Try.prog 90 g29 (fun x : A2i64 => ag (cA2i64 x)) (fun x : Bool => Value.bool x) l30xm13), (oBox g42 90 (cA2i64 r41)), (oRow v16 87 tyS_keep_rule r15)] [(fDat (tyList (tyInt .i64)) [v1_0] a1), (fPtr (tyInt .i64) p38 u36)])) (S := (tab [(1, v1_0), (9, v9), (12, (ptr g28 0)), (13, (Value.map (some g29))), (14, (Value.int .i64 l30i75)), (16, (ptr g42 0)), (66, v16), (67, (Value.int .i64 (r15.length : Int))), (68, (Value.int .i64 l17i68)), (73, v1_0), (74, (Value.int .i64 (a1.length : Int))), (75, (Value.int .i64 l30i75)), (95, (Value.bool j43b95))])) ?_
                        refine aw_cond rfl (fun hb45 => ?_) (fun hb45 => ?_)
                        · replace h := bif_t hb45 h
                          refine aw_region ?_
                          refine al_val (ov_move rfl rfl) ?_
                          refine al_val (ov_load (i := 3) (v := (ag (cA2i64 r41))) rfl rfl Try.underlying90 sz90 rfl rfl rfl rfl) ?_
                          refine al_val (ov_move rfl rfl) ?_
                          refine al_val (ov_move rfl rfl) ?_
                          obtain ⟨hc46, h⟩ := req_some h
                          obtain ⟨hc47, h⟩ := req_some h
                          refine al_mapSetK (ek := (fun x : A2i64 => ag (cA2i64 x))) (ew := (fun x : Bool => Value.bool x)) (k := r41) (v := true) 2 kd90 ki90 (kw90 r41 hc46 hc47) rfl rfl rfl rfl Try.underlying88 rfl ?_
                          obtain ⟨u48, hu49, h⟩ := opt_some h
                          refine al_idxR 0 (at_some hu49).1 (at_some hu49).2.1 rfl rfl rfl Try.underlying35 sz4 rfl (fun p50 hp51 => ?_)
                          refine al_storeR (k := (l30i75).toNat) (x := true) (vs := [(Value.bool true)]) 0 rfl hp51 (idx_lt hu49) rfl rfl (cv_rfl rfl) (fun _ => rfl) sz4 rfl ?_
                          refine al_nil ?_
                          refine aq_block ?_
                          exact aq_join ((l30x9.set (l30i75).toNat true), (gset l30xm13 r41 true)) h (fun w a hm hs => norm hm hs [0, 1, 2, 4] [0] [(1, v1_0), (9, v9), (12, (ptr g28 0)), (13, (Value.map (some g29))), (66, v16), (67, (Value.int .i64 (r15.length : Int))), (68, (Value.int .i64 l17i68)), (73, v1_0), (74, (Value.int .i64 (a1.length : Int))), (75, (Value.int .i64 l30i75))] (by decide) ⟨rfl, rfl, rfl, rfl, rfl, rfl, rfl, rfl, rfl, rfl, trivial⟩)
                        · replace h := bif_f hb45 h
                          refine aw_skip ?_
                          refine aq_block ?_
                          exact aq_join (l30x9, l30xm13) h (fun w a hm hs => norm hm hs [0, 1, 2, 4] [0] [(1, v1_0), (9, v9), (12, (ptr g28 0)), (13, (Value.map (some g29))), (66, v16), (67, (Value.int .i64 (r15.length : Int))), (68, (Value.int .i64 l17i68)), (73, v1_0), (74, (Value.int .i64 (a1.length : Int))), (75, (Value.int .i64 l30i75))] (by decide) ⟨rfl, rfl, rfl, rfl, rfl, rfl, rfl, rfl, rfl, rfl, trivial⟩)
                      · clear hkk44
                        refine aw_region ?_
                        refine al_val (ov_move rfl rfl) ?_
                        refine al_val (ov_load (i := 0) (v := (ag (cA2i64 r41))) rfl rfl Try.underlying90 sz90 rfl rfl rfl rfl) ?_
                        obtain ⟨hc52, h⟩ := req_some h
                        obtain ⟨hc53, h⟩ := req_some h
                        refine al_val (v := (Value.bool ((gget l30xm13 r41).getD false))) (ov_lookupK (k := r41) (ek := (fun x : A2i64 => ag (cA2i64 x))) (ew := (fun x : Bool => Value.bool x)) (z := false) 3 kd90 ki90 (kw90 r41 hc52 hc53) rfl rfl rfl Try.underlying88 (zeroOf_to to4) rfl) ?_
                        refine al_val (ov_not rfl rfl) ?_
                        refine al_val (ov_move rfl rfl) ?_
                        refine al_caseB 89 rfl (fun hb54 => ?_) (fun hb54 => ?_)
                        · replace h := bif_t hb54 h
                          refine al_val (ov_move rfl rfl) ?_
                          refine al_val (v := (Value.int .i64 (l30xm13.length : Int))) (ov_lenK 3 rfl rfl Try.underlying88 rfl) ?_
                          refine al_val (ov_fieldA (p := 0) rfl Try.underlying87 rfl sz3 rfl rfl rfl) ?_
                          refine al_val (ov_load (i := 2) (v := (Value.int .i64 u24.many)) rfl rfl Try.underlying3 sz3 rfl rfl rfl rfl) ?_
                          refine al_val (ov_int rfl rfl rfl rfl) ?_
                          refine al_val (ov_pick_t rfl rfl rfl) ?_
                          refine al_nil ?_
                          exact aq_join (decide ((l30xm13.length : Int) < u24.many)) h (fun w a hm hs => norm hm hs [1, 2, 3, 0, 4] [1, 0] [(1, v1_0), (9, v9), (12, (ptr g28 0)), (13, (Value.map (some g29))), (14, (Value.int .i64 l30i75)), (16, (ptr g42 0)), (66, v16), (67, (Value.int .i64 (r15.length : Int))), (68, (Value.int .i64 l17i68)), (73, v1_0), (74, (Value.int .i64 (a1.length : Int))), (75, (Value.int .i64 l30i75)), (95, (Value.bool (decide ((l30xm13.length : Int) < u24.many))))] (by decide) ⟨rfl, rfl, rfl, rfl, rfl, rfl, rfl, rfl, rfl, rfl, rfl, rfl, rfl, trivial⟩)
                        · replace h := bif_f hb54 h
                          refine al_skip ?_
                          refine al_skip ?_
                          refine al_skip ?_
                          refine al_skip ?_
                          refine al_skip ?_
                          refine al_val (ov_pick_f rfl rfl rfl) ?_
                          refine al_nil ?_
                          exact aq_join false h (fun w a hm hs => norm hm hs [1, 2, 3, 0, 4] [1, 0] [(1, v1_0), (9, v9), (12, (ptr g28 0)), (13, (Value.map (some g29))), (14, (Value.int .i64 l30i75)), (16, (ptr g42 0)), (66, v16), (67, (Value.int .i64 (r15.length : Int))), (68, (Value.int .i64 l17i68)), (73, v1_0), (74, (Value.int .i64 (a1.length : Int))), (75, (Value.int .i64 l30i75)), (95, (Value.bool false))] (by decide) ⟨rfl, rfl, rfl, rfl, rfl, rfl, rfl, rfl, rfl, rfl, rfl, rfl, rfl, trivial⟩)
                    · replace h := bif_f hb39 h
                      rcases Bool.eq_false_or_eq_true (u24.of_ == (77 : Int)) with hb55 | hb55
                      · replace h := bif_t hb55 h
                        refine al_recast (d := 81) (v' := (Value.func (.func 77) #[] #[])) rfl (by rw [eq_of_beq hb55]; rfl) ?_
                        obtain ⟨r57, hc56, h⟩ := opt_some h
                        refine al_callF (vs := [(Value.int .i64 (IntKind.i64.wrap ((u36).tdiv (1440 : Int))))]) (caps := []) (f_keep_rules_2_ok fu (IntKind.i64.wrap ((u36).tdiv (1440 : Int))) hc56) rfl [] [] [0, 1, 2, 3] pre_nil rfl (by simp) (by decide) (.inl rfl) rfl rfl Try.func77 rfl rfl rfl (fun _ => ?_)
                        refine al_alloc (zs := (cA2i64 (A2i64.mk (0 : Int) (0 : Int)))) (zeroOf_to to90) rfl rfl (fun g58 => ?_)
                        refine al_store (i := 0) (vs := (cA2i64 r57)) (cs' := (cA2i64 r57)) rfl rfl rfl sz90 (cv_rfl rfl) rfl (co_all (oneA2i64 r57)) (Nat.le_of_ble_eq_true rfl) rfl rfl ?_
                        refine al_nil ?_
                        refine aq_then ?_
                        obtain ⟨kk60, hkk60, h⟩ := lt_some h
                        refine aw_seq_join (ι := Bool) (fun i => (memOf w0 Z0 [] [(oRow v9 4 tyBool l30x9), (oBox g28 87 [(Value.int .i64 u24.many), (Value.func (.func (u24.of_).toNat) #[] #[])]), (oMapK Try.prog 90 g29 (fun x : A2i64 => ag (cA2i64 x)) (fun x : Bool => Value.bool x) l30xm13), (oBox g58 90 (cA2i64 r57)), (oRow v16 87 tyS_keep_rule r15)] [(fDat (tyList (tyInt .i64)) [v1_0] a1), (fPtr (tyInt .i64) p38 u36)])) (fun i => (tab [(1, v1_0), (9, v9), (12, (ptr g28 0)), (13, (Value.map (some g29))), (14, (Value.int .i64 l30i75)), (16, (ptr g58 0)), (66, v16), (67, (Value.int .i64 (r15.length : Int))), (68, (Value.int .i64 l17i68)), (73, v1_0), (74, (Value.int .i64 (a1.length : Int))), (75, (Value.int .i64 l30i75)), (95, (Value.bool i))])) (fun i => kk60 i = some r) ?_ ?_
                        · rintro j59b95 h
                          have h : kk60 j59b95 = some r := h
                          rw [hkk60] at h
                          dsimp only at h
                          clear hkk60
                          refine aw_show (m := (memOf w0 Z0 [] [(oRow v9 4 tyBool l30x9), (oBox g28 87 [(Value.int .i64 u24.many), (Value.func (.func (u24.of_).toNat) #[] #[])]), (oMapK Try.prog 90 g29 (fun x : A2i64 => ag (cA2i64 x)) (fun x : Bool => Value.bool x) l30xm13), (oBox g58 90 (cA2i64 r57)), (oRow v16 87 tyS_keep_rule r15)] [(fDat (tyList (tyInt .i64)) [v1_0] a1), (fPtr (tyInt .i64) p38 u36)])) (S := (tab [(1, v1_0), (9, v9), (12, (ptr g28 0)), (13, (Value.map (some g29))), (14, (Value.int .i64 l30i75)), (16, (ptr g58 0)), (66, v16), (67, (Value.int .i64 (r15.length : Int))), (68, (Value.int .i64 l17i68)), (73, v1_0), (74, (Value.int .i64 (a1.length : Int))), (75, (Value.int .i64 l30i75)), (95, (Value.bool j59b95))])) ?_
                          refine aw_cond rfl (fun hb61 => ?_) (fun hb61 => ?_)
                          · replace h := bif_t hb61 h
                            refine aw_region ?_
                            refine al_val (ov_move rfl rfl) ?_
                            refine al_val (ov_load (i := 3) (v := (ag (cA2i64 r57))) rfl rfl Try.underlying90 sz90 rfl rfl rfl rfl) ?_
                            refine al_val (ov_move rfl rfl) ?_
                            refine al_val (ov_move rfl rfl) ?_
                            obtain ⟨hc62, h⟩ := req_some h
                            obtain ⟨hc63, h⟩ := req_some h
                            refine al_mapSetK (ek := (fun x : A2i64 => ag (cA2i64 x))) (ew := (fun x : Bool => Value.bool x)) (k := r57) (v := true) 2 kd90 ki90 (kw90 r57 hc62 hc63) rfl rfl rfl rfl Try.underlying88 rfl ?_
                            obtain ⟨u64, hu65, h⟩ := opt_some h
                            refine al_idxR 0 (at_some hu65).1 (at_some hu65).2.1 rfl rfl rfl Try.underlying35 sz4 rfl (fun p66 hp67 => ?_)
                            refine al_storeR (k := (l30i75).toNat) (x := true) (vs := [(Value.bool true)]) 0 rfl hp67 (idx_lt hu65) rfl rfl (cv_rfl rfl) (fun _ => rfl) sz4 rfl ?_
                            refine al_nil ?_
                            refine aq_block ?_
                            exact aq_join ((l30x9.set (l30i75).toNat true), (gset l30xm13 r57 true)) h (fun w a hm hs => norm hm hs [0, 1, 2, 4] [0] [(1, v1_0), (9, v9), (12, (ptr g28 0)), (13, (Value.map (some g29))), (66, v16), (67, (Value.int .i64 (r15.length : Int))), (68, (Value.int .i64 l17i68)), (73, v1_0), (74, (Value.int .i64 (a1.length : Int))), (75, (Value.int .i64 l30i75))] (by decide) ⟨rfl, rfl, rfl, rfl, rfl, rfl, rfl, rfl, rfl, rfl, trivial⟩)
                          · replace h := bif_f hb61 h
                            refine aw_skip ?_
                            refine aq_block ?_
                            exact aq_join (l30x9, l30xm13) h (fun w a hm hs => norm hm hs [0, 1, 2, 4] [0] [(1, v1_0), (9, v9), (12, (ptr g28 0)), (13, (Value.map (some g29))), (66, v16), (67, (Value.int .i64 (r15.length : Int))), (68, (Value.int .i64 l17i68)), (73, v1_0), (74, (Value.int .i64 (a1.length : Int))), (75, (Value.int .i64 l30i75))] (by decide) ⟨rfl, rfl, rfl, rfl, rfl, rfl, rfl, rfl, rfl, rfl, trivial⟩)
                        · clear hkk60
                          refine aw_region ?_
                          refine al_val (ov_move rfl rfl) ?_
                          refine al_val (ov_load (i := 0) (v := (ag (cA2i64 r57))) rfl rfl Try.underlying90 sz90 rfl rfl rfl rfl) ?_
                          obtain ⟨hc68, h⟩ := req_some h
                          obtain ⟨hc69, h⟩ := req_some h
                          refine al_val (v := (Value.bool ((gget l30xm13 r57).getD false))) (ov_lookupK (k := r57) (ek := (fun x : A2i64 => ag (cA2i64 x))) (ew := (fun x : Bool => Value.bool x)) (z := false) 3 kd90 ki90 (kw90 r57 hc68 hc69) rfl rfl rfl Try.underlying88 (zeroOf_to to4) rfl) ?_
                          refine al_val (ov_not rfl rfl) ?_
                          refine al_val (ov_move rfl rfl) ?_
                          refine al_caseB 89 rfl (fun hb70 => ?_) (fun hb70 => ?_)
                          · replace h := bif_t hb70 h
                            refine al_val (ov_move rfl rfl) ?_
                            refine al_val (v := (Value.int .i64 (l30xm13.length : Int))) (ov_lenK 3 rfl rfl Try.underlying88 rfl) ?_
                            refine al_val (ov_fieldA (p := 0) rfl Try.underlying87 rfl sz3 rfl rfl rfl) ?_
                            refine al_val (ov_load (i := 2) (v := (Value.int .i64 u24.many)) rfl rfl Try.underlying3 sz3 rfl rfl rfl rfl) ?_
                            refine al_val (ov_int rfl rfl rfl rfl) ?_
                            refine al_val (ov_pick_t rfl rfl rfl) ?_
                            refine al_nil ?_
                            exact aq_join (decide ((l30xm13.length : Int) < u24.many)) h (fun w a hm hs => norm hm hs [1, 2, 3, 0, 4] [1, 0] [(1, v1_0), (9, v9), (12, (ptr g28 0)), (13, (Value.map (some g29))), (14, (Value.int .i64 l30i75)), (16, (ptr g58 0)), (66, v16), (67, (Value.int .i64 (r15.length : Int))), (68, (Value.int .i64 l17i68)), (73, v1_0), (74, (Value.int .i64 (a1.length : Int))), (75, (Value.int .i64 l30i75)), (95, (Value.bool (decide ((l30xm13.length : Int) < u24.many))))] (by decide) ⟨rfl, rfl, rfl, rfl, rfl, rfl, rfl, rfl, rfl, rfl, rfl, rfl, rfl, trivial⟩)
                          · replace h := bif_f hb70 h
                            refine al_skip ?_
                            refine al_skip ?_
                            refine al_skip ?_
                            refine al_skip ?_
                            refine al_skip ?_
                            refine al_val (ov_pick_f rfl rfl rfl) ?_
                            refine al_nil ?_
                            exact aq_join false h (fun w a hm hs => norm hm hs [1, 2, 3, 0, 4] [1, 0] [(1, v1_0), (9, v9), (12, (ptr g28 0)), (13, (Value.map (some g29))), (14, (Value.int .i64 l30i75)), (16, (ptr g58 0)), (66, v16), (67, (Value.int .i64 (r15.length : Int))), (68, (Value.int .i64 l17i68)), (73, v1_0), (74, (Value.int .i64 (a1.length : Int))), (75, (Value.int .i64 l30i75)), (95, (Value.bool false))] (by decide) ⟨rfl, rfl, rfl, rfl, rfl, rfl, rfl, rfl, rfl, rfl, rfl, rfl, rfl, trivial⟩)
                      · replace h := bif_f hb55 h
                        rcases Bool.eq_false_or_eq_true (u24.of_ == (79 : Int)) with hb71 | hb71
                        · replace h := bif_t hb71 h
                          refine al_recast (d := 81) (v' := (Value.func (.func 79) #[] #[])) rfl (by rw [eq_of_beq hb71]; rfl) ?_
                          obtain ⟨r73, hc72, h⟩ := opt_some h
                          refine al_callF (vs := [(Value.int .i64 (IntKind.i64.wrap ((u36).tdiv (1440 : Int))))]) (caps := []) (f_keep_rules_3_ok fu (IntKind.i64.wrap ((u36).tdiv (1440 : Int))) hc72) rfl [] [] [0, 1, 2, 3] pre_nil rfl (by simp) (by decide) (.inl rfl) rfl rfl Try.func79 rfl rfl rfl (fun _ => ?_)
                          refine al_alloc (zs := (cA2i64 (A2i64.mk (0 : Int) (0 : Int)))) (zeroOf_to to90) rfl rfl (fun g74 => ?_)
                          refine al_store (i := 0) (vs := (cA2i64 r73)) (cs' := (cA2i64 r73)) rfl rfl rfl sz90 (cv_rfl rfl) rfl (co_all (oneA2i64 r73)) (Nat.le_of_ble_eq_true rfl) rfl rfl ?_
                          refine al_nil ?_
                          refine aq_then ?_
                          obtain ⟨kk76, hkk76, h⟩ := lt_some h
                          refine aw_seq_join (ι := Bool) (fun i => (memOf w0 Z0 [] [(oRow v9 4 tyBool l30x9), (oBox g28 87 [(Value.int .i64 u24.many), (Value.func (.func (u24.of_).toNat) #[] #[])]), (oMapK Try.prog 90 g29 (fun x : A2i64 => ag (cA2i64 x)) (fun x : Bool => Value.bool x) l30xm13), (oBox g74 90 (cA2i64 r73)), (oRow v16 87 tyS_keep_rule r15)] [(fDat (tyList (tyInt .i64)) [v1_0] a1), (fPtr (tyInt .i64) p38 u36)])) (fun i => (tab [(1, v1_0), (9, v9), (12, (ptr g28 0)), (13, (Value.map (some g29))), (14, (Value.int .i64 l30i75)), (16, (ptr g74 0)), (66, v16), (67, (Value.int .i64 (r15.length : Int))), (68, (Value.int .i64 l17i68)), (73, v1_0), (74, (Value.int .i64 (a1.length : Int))), (75, (Value.int .i64 l30i75)), (95, (Value.bool i))])) (fun i => kk76 i = some r) ?_ ?_
                          · rintro j75b95 h
                            have h : kk76 j75b95 = some r := h
                            rw [hkk76] at h
                            dsimp only at h
                            clear hkk76
                            refine aw_show (m := (memOf w0 Z0 [] [(oRow v9 4 tyBool l30x9), (oBox g28 87 [(Value.int .i64 u24.many), (Value.func (.func (u24.of_).toNat) #[] #[])]), (oMapK Try.prog 90 g29 (fun x : A2i64 => ag (cA2i64 x)) (fun x : Bool => Value.bool x) l30xm13), (oBox g74 90 (cA2i64 r73)), (oRow v16 87 tyS_keep_rule r15)] [(fDat (tyList (tyInt .i64)) [v1_0] a1), (fPtr (tyInt .i64) p38 u36)])) (S := (tab [(1, v1_0), (9, v9), (12, (ptr g28 0)), (13, (Value.map (some g29))), (14, (Value.int .i64 l30i75)), (16, (ptr g74 0)), (66, v16), (67, (Value.int .i64 (r15.length : Int))), (68, (Value.int .i64 l17i68)), (73, v1_0), (74, (Value.int .i64 (a1.length : Int))), (75, (Value.int .i64 l30i75)), (95, (Value.bool j75b95))])) ?_
                            refine aw_cond rfl (fun hb77 => ?_) (fun hb77 => ?_)
                            · replace h := bif_t hb77 h
                              refine aw_region ?_
                              refine al_val (ov_move rfl rfl) ?_
                              refine al_val (ov_load (i := 3) (v := (ag (cA2i64 r73))) rfl rfl Try.underlying90 sz90 rfl rfl rfl rfl) ?_
                              refine al_val (ov_move rfl rfl) ?_
                              refine al_val (ov_move rfl rfl) ?_
                              obtain ⟨hc78, h⟩ := req_some h
                              obtain ⟨hc79, h⟩ := req_some h
                              refine al_mapSetK (ek := (fun x : A2i64 => ag (cA2i64 x))) (ew := (fun x : Bool => Value.bool x)) (k := r73) (v := true) 2 kd90 ki90 (kw90 r73 hc78 hc79) rfl rfl rfl rfl Try.underlying88 rfl ?_
                              obtain ⟨u80, hu81, h⟩ := opt_some h
                              refine al_idxR 0 (at_some hu81).1 (at_some hu81).2.1 rfl rfl rfl Try.underlying35 sz4 rfl (fun p82 hp83 => ?_)
                              refine al_storeR (k := (l30i75).toNat) (x := true) (vs := [(Value.bool true)]) 0 rfl hp83 (idx_lt hu81) rfl rfl (cv_rfl rfl) (fun _ => rfl) sz4 rfl ?_
                              refine al_nil ?_
                              refine aq_block ?_
                              exact aq_join ((l30x9.set (l30i75).toNat true), (gset l30xm13 r73 true)) h (fun w a hm hs => norm hm hs [0, 1, 2, 4] [0] [(1, v1_0), (9, v9), (12, (ptr g28 0)), (13, (Value.map (some g29))), (66, v16), (67, (Value.int .i64 (r15.length : Int))), (68, (Value.int .i64 l17i68)), (73, v1_0), (74, (Value.int .i64 (a1.length : Int))), (75, (Value.int .i64 l30i75))] (by decide) ⟨rfl, rfl, rfl, rfl, rfl, rfl, rfl, rfl, rfl, rfl, trivial⟩)
                            · replace h := bif_f hb77 h
                              refine aw_skip ?_
                              refine aq_block ?_
                              exact aq_join (l30x9, l30xm13) h (fun w a hm hs => norm hm hs [0, 1, 2, 4] [0] [(1, v1_0), (9, v9), (12, (ptr g28 0)), (13, (Value.map (some g29))), (66, v16), (67, (Value.int .i64 (r15.length : Int))), (68, (Value.int .i64 l17i68)), (73, v1_0), (74, (Value.int .i64 (a1.length : Int))), (75, (Value.int .i64 l30i75))] (by decide) ⟨rfl, rfl, rfl, rfl, rfl, rfl, rfl, rfl, rfl, rfl, trivial⟩)
                          · clear hkk76
                            refine aw_region ?_
                            refine al_val (ov_move rfl rfl) ?_
                            refine al_val (ov_load (i := 0) (v := (ag (cA2i64 r73))) rfl rfl Try.underlying90 sz90 rfl rfl rfl rfl) ?_
                            obtain ⟨hc84, h⟩ := req_some h
                            obtain ⟨hc85, h⟩ := req_some h
                            refine al_val (v := (Value.bool ((gget l30xm13 r73).getD false))) (ov_lookupK (k := r73) (ek := (fun x : A2i64 => ag (cA2i64 x))) (ew := (fun x : Bool => Value.bool x)) (z := false) 3 kd90 ki90 (kw90 r73 hc84 hc85) rfl rfl rfl Try.underlying88 (zeroOf_to to4) rfl) ?_
                            refine al_val (ov_not rfl rfl) ?_
                            refine al_val (ov_move rfl rfl) ?_
                            refine al_caseB 89 rfl (fun hb86 => ?_) (fun hb86 => ?_)
                            · replace h := bif_t hb86 h
                              refine al_val (ov_move rfl rfl) ?_
                              refine al_val (v := (Value.int .i64 (l30xm13.length : Int))) (ov_lenK 3 rfl rfl Try.underlying88 rfl) ?_
                              refine al_val (ov_fieldA (p := 0) rfl Try.underlying87 rfl sz3 rfl rfl rfl) ?_
                              refine al_val (ov_load (i := 2) (v := (Value.int .i64 u24.many)) rfl rfl Try.underlying3 sz3 rfl rfl rfl rfl) ?_
                              refine al_val (ov_int rfl rfl rfl rfl) ?_
                              refine al_val (ov_pick_t rfl rfl rfl) ?_
                              refine al_nil ?_
                              exact aq_join (decide ((l30xm13.length : Int) < u24.many)) h (fun w a hm hs => norm hm hs [1, 2, 3, 0, 4] [1, 0] [(1, v1_0), (9, v9), (12, (ptr g28 0)), (13, (Value.map (some g29))), (14, (Value.int .i64 l30i75)), (16, (ptr g74 0)), (66, v16), (67, (Value.int .i64 (r15.length : Int))), (68, (Value.int .i64 l17i68)), (73, v1_0), (74, (Value.int .i64 (a1.length : Int))), (75, (Value.int .i64 l30i75)), (95, (Value.bool (decide ((l30xm13.length : Int) < u24.many))))] (by decide) ⟨rfl, rfl, rfl, rfl, rfl, rfl, rfl, rfl, rfl, rfl, rfl, rfl, rfl, trivial⟩)
                            · replace h := bif_f hb86 h
                              refine al_skip ?_
                              refine al_skip ?_
                              refine al_skip ?_
                              refine al_skip ?_
                              refine al_skip ?_
                              refine al_val (ov_pick_f rfl rfl rfl) ?_
                              refine al_nil ?_
                              exact aq_join false h (fun w a hm hs => norm hm hs [1, 2, 3, 0, 4] [1, 0] [(1, v1_0), (9, v9), (12, (ptr g28 0)), (13, (Value.map (some g29))), (14, (Value.int .i64 l30i75)), (16, (ptr g74 0)), (66, v16), (67, (Value.int .i64 (r15.length : Int))), (68, (Value.int .i64 l17i68)), (73, v1_0), (74, (Value.int .i64 (a1.length : Int))), (75, (Value.int .i64 l30i75)), (95, (Value.bool false))] (by decide) ⟨rfl, rfl, rfl, rfl, rfl, rfl, rfl, rfl, rfl, rfl, rfl, rfl, rfl, trivial⟩)
                        · replace h := bif_f hb71 h
                          rcases Bool.eq_false_or_eq_true (u24.of_ == (81 : Int)) with hb87 | hb87
                          · replace h := bif_t hb87 h
                            refine al_recast (d := 81) (v' := (Value.func (.func 81) #[] #[])) rfl (by rw [eq_of_beq hb87]; rfl) ?_
                            obtain ⟨r89, hc88, h⟩ := opt_some h
                            refine al_callF (vs := [(Value.int .i64 (IntKind.i64.wrap ((u36).tdiv (1440 : Int))))]) (caps := []) (f_keep_rules_4_ok fu (IntKind.i64.wrap ((u36).tdiv (1440 : Int))) hc88) rfl [] [] [0, 1, 2, 3] pre_nil rfl (by simp) (by decide) (.inl rfl) rfl rfl Try.func81 rfl rfl rfl (fun _ => ?_)
                            refine al_alloc (zs := (cA2i64 (A2i64.mk (0 : Int) (0 : Int)))) (zeroOf_to to90) rfl rfl (fun g90 => ?_)
                            refine al_store (i := 0) (vs := (cA2i64 r89)) (cs' := (cA2i64 r89)) rfl rfl rfl sz90 (cv_rfl rfl) rfl (co_all (oneA2i64 r89)) (Nat.le_of_ble_eq_true rfl) rfl rfl ?_
                            refine al_nil ?_
                            refine aq_then ?_
                            obtain ⟨kk92, hkk92, h⟩ := lt_some h
                            refine aw_seq_join (ι := Bool) (fun i => (memOf w0 Z0 [] [(oRow v9 4 tyBool l30x9), (oBox g28 87 [(Value.int .i64 u24.many), (Value.func (.func (u24.of_).toNat) #[] #[])]), (oMapK Try.prog 90 g29 (fun x : A2i64 => ag (cA2i64 x)) (fun x : Bool => Value.bool x) l30xm13), (oBox g90 90 (cA2i64 r89)), (oRow v16 87 tyS_keep_rule r15)] [(fDat (tyList (tyInt .i64)) [v1_0] a1), (fPtr (tyInt .i64) p38 u36)])) (fun i => (tab [(1, v1_0), (9, v9), (12, (ptr g28 0)), (13, (Value.map (some g29))), (14, (Value.int .i64 l30i75)), (16, (ptr g90 0)), (66, v16), (67, (Value.int .i64 (r15.length : Int))), (68, (Value.int .i64 l17i68)), (73, v1_0), (74, (Value.int .i64 (a1.length : Int))), (75, (Value.int .i64 l30i75)), (95, (Value.bool i))])) (fun i => kk92 i = some r) ?_ ?_
                            · rintro j91b95 h
                              have h : kk92 j91b95 = some r := h
                              rw [hkk92] at h
                              dsimp only at h
                              clear hkk92
                              refine aw_show (m := (memOf w0 Z0 [] [(oRow v9 4 tyBool l30x9), (oBox g28 87 [(Value.int .i64 u24.many), (Value.func (.func (u24.of_).toNat) #[] #[])]), (oMapK Try.prog 90 g29 (fun x : A2i64 => ag (cA2i64 x)) (fun x : Bool => Value.bool x) l30xm13), (oBox g90 90 (cA2i64 r89)), (oRow v16 87 tyS_keep_rule r15)] [(fDat (tyList (tyInt .i64)) [v1_0] a1), (fPtr (tyInt .i64) p38 u36)])) (S := (tab [(1, v1_0), (9, v9), (12, (ptr g28 0)), (13, (Value.map (some g29))), (14, (Value.int .i64 l30i75)), (16, (ptr g90 0)), (66, v16), (67, (Value.int .i64 (r15.length : Int))), (68, (Value.int .i64 l17i68)), (73, v1_0), (74, (Value.int .i64 (a1.length : Int))), (75, (Value.int .i64 l30i75)), (95, (Value.bool j91b95))])) ?_
                              refine aw_cond rfl (fun hb93 => ?_) (fun hb93 => ?_)
                              · replace h := bif_t hb93 h
                                refine aw_region ?_
                                refine al_val (ov_move rfl rfl) ?_
                                refine al_val (ov_load (i := 3) (v := (ag (cA2i64 r89))) rfl rfl Try.underlying90 sz90 rfl rfl rfl rfl) ?_
                                refine al_val (ov_move rfl rfl) ?_
                                refine al_val (ov_move rfl rfl) ?_
                                obtain ⟨hc94, h⟩ := req_some h
                                obtain ⟨hc95, h⟩ := req_some h
                                refine al_mapSetK (ek := (fun x : A2i64 => ag (cA2i64 x))) (ew := (fun x : Bool => Value.bool x)) (k := r89) (v := true) 2 kd90 ki90 (kw90 r89 hc94 hc95) rfl rfl rfl rfl Try.underlying88 rfl ?_
                                obtain ⟨u96, hu97, h⟩ := opt_some h
                                refine al_idxR 0 (at_some hu97).1 (at_some hu97).2.1 rfl rfl rfl Try.underlying35 sz4 rfl (fun p98 hp99 => ?_)
                                refine al_storeR (k := (l30i75).toNat) (x := true) (vs := [(Value.bool true)]) 0 rfl hp99 (idx_lt hu97) rfl rfl (cv_rfl rfl) (fun _ => rfl) sz4 rfl ?_
                                refine al_nil ?_
                                refine aq_block ?_
                                exact aq_join ((l30x9.set (l30i75).toNat true), (gset l30xm13 r89 true)) h (fun w a hm hs => norm hm hs [0, 1, 2, 4] [0] [(1, v1_0), (9, v9), (12, (ptr g28 0)), (13, (Value.map (some g29))), (66, v16), (67, (Value.int .i64 (r15.length : Int))), (68, (Value.int .i64 l17i68)), (73, v1_0), (74, (Value.int .i64 (a1.length : Int))), (75, (Value.int .i64 l30i75))] (by decide) ⟨rfl, rfl, rfl, rfl, rfl, rfl, rfl, rfl, rfl, rfl, trivial⟩)
                              · replace h := bif_f hb93 h
                                refine aw_skip ?_
                                refine aq_block ?_
                                exact aq_join (l30x9, l30xm13) h (fun w a hm hs => norm hm hs [0, 1, 2, 4] [0] [(1, v1_0), (9, v9), (12, (ptr g28 0)), (13, (Value.map (some g29))), (66, v16), (67, (Value.int .i64 (r15.length : Int))), (68, (Value.int .i64 l17i68)), (73, v1_0), (74, (Value.int .i64 (a1.length : Int))), (75, (Value.int .i64 l30i75))] (by decide) ⟨rfl, rfl, rfl, rfl, rfl, rfl, rfl, rfl, rfl, rfl, trivial⟩)
                            · clear hkk92
                              refine aw_region ?_
                              refine al_val (ov_move rfl rfl) ?_
                              refine al_val (ov_load (i := 0) (v := (ag (cA2i64 r89))) rfl rfl Try.underlying90 sz90 rfl rfl rfl rfl) ?_
                              obtain ⟨hc100, h⟩ := req_some h
                              obtain ⟨hc101, h⟩ := req_some h
                              refine al_val (v := (Value.bool ((gget l30xm13 r89).getD false))) (ov_lookupK (k := r89) (ek := (fun x : A2i64 => ag (cA2i64 x))) (ew := (fun x : Bool => Value.bool x)) (z := false) 3 kd90 ki90 (kw90 r89 hc100 hc101) rfl rfl rfl Try.underlying88 (zeroOf_to to4) rfl) ?_
                              refine al_val (ov_not rfl rfl) ?_
                              refine al_val (ov_move rfl rfl) ?_
                              refine al_caseB 89 rfl (fun hb102 => ?_) (fun hb102 => ?_)
                              · replace h := bif_t hb102 h
                                refine al_val (ov_move rfl rfl) ?_
                                refine al_val (v := (Value.int .i64 (l30xm13.length : Int))) (ov_lenK 3 rfl rfl Try.underlying88 rfl) ?_
                                refine al_val (ov_fieldA (p := 0) rfl Try.underlying87 rfl sz3 rfl rfl rfl) ?_
                                refine al_val (ov_load (i := 2) (v := (Value.int .i64 u24.many)) rfl rfl Try.underlying3 sz3 rfl rfl rfl rfl) ?_
                                refine al_val (ov_int rfl rfl rfl rfl) ?_
                                refine al_val (ov_pick_t rfl rfl rfl) ?_
                                refine al_nil ?_
                                exact aq_join (decide ((l30xm13.length : Int) < u24.many)) h (fun w a hm hs => norm hm hs [1, 2, 3, 0, 4] [1, 0] [(1, v1_0), (9, v9), (12, (ptr g28 0)), (13, (Value.map (some g29))), (14, (Value.int .i64 l30i75)), (16, (ptr g90 0)), (66, v16), (67, (Value.int .i64 (r15.length : Int))), (68, (Value.int .i64 l17i68)), (73, v1_0), (74, (Value.int .i64 (a1.length : Int))), (75, (Value.int .i64 l30i75)), (95, (Value.bool (decide ((l30xm13.length : Int) < u24.many))))] (by decide) ⟨rfl, rfl, rfl, rfl, rfl, rfl, rfl, rfl, rfl, rfl, rfl, rfl, rfl, trivial⟩)
                              · replace h := bif_f hb102 h
                                refine al_skip ?_
                                refine al_skip ?_
                                refine al_skip ?_
                                refine al_skip ?_
                                refine al_skip ?_
                                refine al_val (ov_pick_f rfl rfl rfl) ?_
                                refine al_nil ?_
                                exact aq_join false h (fun w a hm hs => norm hm hs [1, 2, 3, 0, 4] [1, 0] [(1, v1_0), (9, v9), (12, (ptr g28 0)), (13, (Value.map (some g29))), (14, (Value.int .i64 l30i75)), (16, (ptr g90 0)), (66, v16), (67, (Value.int .i64 (r15.length : Int))), (68, (Value.int .i64 l17i68)), (73, v1_0), (74, (Value.int .i64 (a1.length : Int))), (75, (Value.int .i64 l30i75)), (95, (Value.bool false))] (by decide) ⟨rfl, rfl, rfl, rfl, rfl, rfl, rfl, rfl, rfl, rfl, rfl, rfl, rfl, trivial⟩)
                          · replace h := bif_f hb87 h
                            cases h
                · replace h := bif_f hb33 h
                  refine aw_exit ?_
                  refine aq_then_exit ?_
                  refine aq_then_exit ?_
                  refine aq_block_exit ?_
                  refine aq_block ?_
                  exact aq_join l30x9 h (fun w a hm hs => norm hm hs [0, 3] [0] [(1, v1_0), (9, v9), (66, v16), (67, (Value.int .i64 (r15.length : Int))), (68, (Value.int .i64 l17i68))] (by decide) ⟨rfl, rfl, rfl, rfl, rfl, trivial⟩)
            · replace h := bif_f hb21 h
              refine aw_exit ?_
              refine aq_then_exit ?_
              refine aq_then_exit ?_
              refine aq_block_exit ?_
              exact aq_join l17x9 h (fun w a hm hs => norm hm hs [0] [0] [(9, v9)] (by decide) ⟨rfl, trivial⟩)
        · clear hkk11
          refine aw_seq ?_
          refine aw_region ?_
          refine al_val (ov_fieldA (p := 0) rfl Try.underlying33 rfl sz3 rfl rfl rfl) ?_
          refine al_val (ov_load (i := 1) (v := (Value.int .i64 a0.Last)) rfl rfl Try.underlying3 sz3 rfl rfl rfl rfl) ?_
          refine al_val (ov_move rfl rfl) ?_
          refine al_val (ov_lenD 0 rfl rfl Try.underlying34 rfl) ?_
          refine al_val (ov_min rfl rfl rfl) ?_
          refine al_val (ov_move rfl rfl) ?_
          refine al_nil ?_
          refine aq_then ?_
          refine aw_block ?_
          refine aw_state (aw_loop (ι := (List Bool) × Int) (fun i => (memOf w0 Z0 [] [(oBox g1 33 [(Value.int .i64 a0.Last), (Value.int .i64 a0.Days), (Value.int .i64 a0.Weeks), (Value.int .i64 a0.Months), (Value.int .i64 a0.Years)]), (oRow v9 4 tyBool i.1)] [(fDat (tyList (tyInt .i64)) [v1_0] a1)])) (fun i => (tab [(1, v1_0), (2, (ptr g1 0)), (9, v9), (57, (Value.int .i64 (if (a1.length : Int) < a0.Last then (a1.length : Int) else a0.Last))), (58, (Value.int .i64 i.2))])) (fun q i => f_keep_Pick_L105 a0 a1 kk11 q i.1 i.2 = some r) ?_ fu ((List.replicate ((a1.length : Int)).toNat false), (0 : Int)) h) (fun w a hm hs => norm hm hs [1, 0] [0] [(1, v1_0), (2, (ptr g1 0)), (9, v9), (57, (Value.int .i64 (if (a1.length : Int) < a0.Last then (a1.length : Int) else a0.Last))), (58, (Value.int .i64 (0 : Int)))] (by decide) ⟨rfl, rfl, rfl, rfl, rfl, trivial⟩)
          clear h
          rintro k104 ⟨l103x9, l103i58⟩ h
          have h : f_keep_Pick_L105 a0 a1 kk11 k104 l103x9 l103i58 = some r := h
          obtain _ | k104 := k104
          · rw [f_keep_Pick_L105] at h; cases h
          rw [f_keep_Pick_L105] at h
          refine aw_show (m := (memOf w0 Z0 [] [(oBox g1 33 [(Value.int .i64 a0.Last), (Value.int .i64 a0.Days), (Value.int .i64 a0.Weeks), (Value.int .i64 a0.Months), (Value.int .i64 a0.Years)]), (oRow v9 4 tyBool l103x9)] [(fDat (tyList (tyInt .i64)) [v1_0] a1)])) (S := (tab [(1, v1_0), (2, (ptr g1 0)), (9, v9), (57, (Value.int .i64 (if (a1.length : Int) < a0.Last then (a1.length : Int) else a0.Last))), (58, (Value.int .i64 l103i58))])) ?_
          refine aw_seq ?_
          refine aw_region ?_
          refine al_val (ov_int rfl rfl rfl rfl) ?_
          refine al_nil ?_
          refine aq_then ?_
          refine aw_seq ?_
          refine aw_cond rfl (fun hb106 => ?_) (fun hb106 => ?_)
          · replace h := bif_t hb106 h
            refine aw_skip ?_
            refine aq_then ?_
            refine aw_seq ?_
            refine aw_block ?_
            refine aw_seq ?_
            refine aw_region ?_
            refine al_val (ov_move rfl rfl) ?_
            refine al_val (ov_assign rfl rfl) ?_
            refine al_nil ?_
            refine aq_then ?_
            refine aw_region ?_
            refine al_val (ov_move rfl rfl) ?_
            refine al_val (ov_move rfl rfl) ?_
            obtain ⟨u107, hu108, h⟩ := opt_some h
            refine al_idxR 1 (at_some hu108).1 (at_some hu108).2.1 rfl rfl rfl Try.underlying35 sz4 rfl (fun p109 hp110 => ?_)
            refine al_storeR (k := (l103i58).toNat) (x := true) (vs := [(Value.bool true)]) 1 rfl hp110 (idx_lt hu108) rfl rfl (cv_rfl rfl) (fun _ => rfl) sz4 rfl ?_
            refine al_nil ?_
            refine aq_block ?_
            refine aq_then ?_
            refine aw_region ?_
            refine al_val (ov_int rfl rfl rfl rfl) ?_
            refine al_val (ov_move rfl rfl) ?_
            refine al_nil ?_
            exact aq_again k104 ((l103x9.set (l103i58).toNat true), (IntKind.i64.wrap (l103i58 + (1 : Int)))) (Nat.lt_succ_self _) h (fun w a hm hs => norm hm hs [0, 1] [0] [(1, v1_0), (2, (ptr g1 0)), (9, v9), (57, (Value.int .i64 (if (a1.length : Int) < a0.Last then (a1.length : Int) else a0.Last))), (58, (Value.int .i64 (IntKind.i64.wrap (l103i58 + (1 : Int)))))] (by decide) ⟨rfl, rfl, rfl, rfl, rfl, trivial⟩)
          · replace h := bif_f hb106 h
            refine aw_exit ?_
            refine aq_then_exit ?_
            refine aq_then_exit ?_
            refine aq_block_exit ?_
            exact aq_join l103x9 h (fun w a hm hs => norm hm hs [0, 1] [0] [(1, v1_0), (2, (ptr g1 0)), (9, v9)] (by decide) ⟨rfl, rfl, rfl, trivial⟩)
      · clear hkk7
        refine aw_seq ?_
        refine aw_region ?_
        refine al_val (ov_move rfl rfl) ?_
        refine al_val (ov_lenD 0 rfl rfl Try.underlying34 rfl) ?_
        refine al_val (ov_move rfl rfl) ?_
        refine al_nil ?_
        refine aq_then ?_
        refine aw_block ?_
        refine aw_state (aw_loop (ι := Int) (fun i => (memOf w0 Z0 [] [(oBox g1 33 [(Value.int .i64 a0.Last), (Value.int .i64 a0.Days), (Value.int .i64 a0.Weeks), (Value.int .i64 a0.Months), (Value.int .i64 a0.Years)])] [(fDat (tyList (tyInt .i64)) [v1_0] a1)])) (fun i => (tab [(1, v1_0), (2, (ptr g1 0)), (25, v1_0), (26, (Value.int .i64 (a1.length : Int))), (27, (Value.int .i64 i))])) (fun q i => f_keep_Pick_L113 a1 kk7 q i = some r) ?_ fu (0 : Int) h) (fun w a hm hs => norm hm hs [0] [0] [(1, v1_0), (2, (ptr g1 0)), (25, v1_0), (26, (Value.int .i64 (a1.length : Int))), (27, (Value.int .i64 (0 : Int)))] (by decide) ⟨rfl, rfl, rfl, rfl, rfl, trivial⟩)
        clear h
        rintro k112 l111i27 h
        have h : f_keep_Pick_L113 a1 kk7 k112 l111i27 = some r := h
        obtain _ | k112 := k112
        · rw [f_keep_Pick_L113] at h; cases h
        rw [f_keep_Pick_L113] at h
        refine aw_show (m := (memOf w0 Z0 [] [(oBox g1 33 [(Value.int .i64 a0.Last), (Value.int .i64 a0.Days), (Value.int .i64 a0.Weeks), (Value.int .i64 a0.Months), (Value.int .i64 a0.Years)])] [(fDat (tyList (tyInt .i64)) [v1_0] a1)])) (S := (tab [(1, v1_0), (2, (ptr g1 0)), (25, v1_0), (26, (Value.int .i64 (a1.length : Int))), (27, (Value.int .i64 l111i27))])) ?_
        refine aw_seq ?_
        refine aw_region ?_
        refine al_val (ov_int rfl rfl rfl rfl) ?_
        refine al_nil ?_
        refine aq_then ?_
        refine aw_seq ?_
        refine aw_cond rfl (fun hb114 => ?_) (fun hb114 => ?_)
        · replace h := bif_t hb114 h
          refine aw_skip ?_
          refine aq_then ?_
          refine aw_seq ?_
          refine aw_block ?_
          refine aw_seq ?_
          refine aw_region ?_
          refine al_val (ov_move rfl rfl) ?_
          obtain ⟨u115, hu116, h⟩ := opt_some h
          refine al_idxD 0 hu116 rfl rfl rfl Try.underlying34 sz3 rfl (fun p117 => ?_)
          refine al_val (ov_loadP (ds := [(Value.int .i64 u115)]) 0 rfl (fun h => h) rfl Try.underlying3 sz3 rfl rfl rfl) ?_
          refine al_val (ov_assign rfl rfl) ?_
          refine al_val (ov_assign rfl rfl) ?_
          refine al_nil ?_
          refine aq_then ?_
          refine aw_seq ?_
          obtain ⟨kk119, hkk119, h⟩ := lt_some h
          refine aw_seq_join (ι := Bool) (fun i => (memOf w0 Z0 [] [(oBox g1 33 [(Value.int .i64 a0.Last), (Value.int .i64 a0.Days), (Value.int .i64 a0.Weeks), (Value.int .i64 a0.Months), (Value.int .i64 a0.Years)])] [(fDat (tyList (tyInt .i64)) [v1_0] a1), (fPtr (tyInt .i64) p117 u115)])) (fun i => (tab [(1, v1_0), (2, (ptr g1 0)), (7, (Value.int .i64 l111i27)), (8, (Value.int .i64 u115)), (25, v1_0), (26, (Value.int .i64 (a1.length : Int))), (27, (Value.int .i64 l111i27)), (37, (Value.bool i))])) (fun i => kk119 i = some r) ?_ ?_
          · rintro j118b37 h
            have h : kk119 j118b37 = some r := h
            rw [hkk119] at h
            dsimp only at h
            clear hkk119
            refine aw_show (m := (memOf w0 Z0 [] [(oBox g1 33 [(Value.int .i64 a0.Last), (Value.int .i64 a0.Days), (Value.int .i64 a0.Weeks), (Value.int .i64 a0.Months), (Value.int .i64 a0.Years)])] [(fDat (tyList (tyInt .i64)) [v1_0] a1), (fPtr (tyInt .i64) p117 u115)])) (S := (tab [(1, v1_0), (2, (ptr g1 0)), (7, (Value.int .i64 l111i27)), (8, (Value.int .i64 u115)), (25, v1_0), (26, (Value.int .i64 (a1.length : Int))), (27, (Value.int .i64 l111i27)), (37, (Value.bool j118b37))])) ?_
            refine aw_cond rfl (fun hb120 => ?_) (fun hb120 => ?_)
            · replace h := bif_t hb120 h
              refine aw_seq ?_
              refine aw_region ?_
              refine al_val (ov_assign rfl rfl) ?_
              refine al_val (ov_assign rfl rfl) ?_
              refine al_nil ?_
              refine aq_then ?_
              refine aw_ret ?_
              refine aq_then_ret ?_
              refine aq_block_ret ?_
              refine aq_then_ret ?_
              refine aq_then_ret ?_
              refine aq_block_ret ?_
              refine aq_then_ret ?_
              refine aq_nilR 4 tyBool ?_
              obtain rfl := Option.some.inj h
              exact fn_ret (Value.slice none 0 0) [0] [] rfl rfl rfl rfl (res2 rfl rfl rfl) rfl rfl rfl (by decide)
            · replace h := bif_f hb120 h
              refine aw_skip ?_
              refine aq_then ?_
              obtain ⟨kk122, hkk122, h⟩ := lt_some h
              refine aw_seq_join (ι := Bool) (fun i => (memOf w0 Z0 [] [(oBox g1 33 [(Value.int .i64 a0.Last), (Value.int .i64 a0.Days), (Value.int .i64 a0.Weeks), (Value.int .i64 a0.Months), (Value.int .i64 a0.Years)])] [(fDat (tyList (tyInt .i64)) [v1_0] a1), (fPtr (tyInt .i64) p117 u115)])) (fun i => (tab [(1, v1_0), (2, (ptr g1 0)), (25, v1_0), (26, (Value.int .i64 (a1.length : Int))), (27, (Value.int .i64 l111i27)), (48, (Value.bool i))])) (fun i => kk122 i = some r) ?_ ?_
              · rintro j121b48 h
                have h : kk122 j121b48 = some r := h
                rw [hkk122] at h
                dsimp only at h
                clear hkk122
                refine aw_show (m := (memOf w0 Z0 [] [(oBox g1 33 [(Value.int .i64 a0.Last), (Value.int .i64 a0.Days), (Value.int .i64 a0.Weeks), (Value.int .i64 a0.Months), (Value.int .i64 a0.Years)])] [(fDat (tyList (tyInt .i64)) [v1_0] a1), (fPtr (tyInt .i64) p117 u115)])) (S := (tab [(1, v1_0), (2, (ptr g1 0)), (25, v1_0), (26, (Value.int .i64 (a1.length : Int))), (27, (Value.int .i64 l111i27)), (48, (Value.bool j121b48))])) ?_
                refine aw_cond rfl (fun hb123 => ?_) (fun hb123 => ?_)
                · replace h := bif_t hb123 h
                  refine aw_seq ?_
                  refine aw_region ?_
                  refine al_val (ov_assign rfl rfl) ?_
                  refine al_val (ov_assign rfl rfl) ?_
                  refine al_nil ?_
                  refine aq_then ?_
                  refine aw_ret ?_
                  refine aq_block_ret ?_
                  refine aq_then_ret ?_
                  refine aq_then_ret ?_
                  refine aq_block_ret ?_
                  refine aq_then_ret ?_
                  refine aq_nilR 4 tyBool ?_
                  obtain rfl := Option.some.inj h
                  exact fn_ret (Value.slice none 0 0) [0] [] rfl rfl rfl rfl (res2 rfl rfl rfl) rfl rfl rfl (by decide)
                · replace h := bif_f hb123 h
                  refine aw_skip ?_
                  refine aq_block ?_
                  refine aq_then ?_
                  refine aw_region ?_
                  refine al_val (ov_int rfl rfl rfl rfl) ?_
                  refine al_val (ov_move rfl rfl) ?_
                  refine al_nil ?_
                  exact aq_again k112 (IntKind.i64.wrap (l111i27 + (1 : Int))) (Nat.lt_succ_self _) h (fun w a hm hs => norm hm hs [0] [0] [(1, v1_0), (2, (ptr g1 0)), (25, v1_0), (26, (Value.int .i64 (a1.length : Int))), (27, (Value.int .i64 (IntKind.i64.wrap (l111i27 + (1 : Int)))))] (by decide) ⟨rfl, rfl, rfl, rfl, rfl, trivial⟩)
              · clear hkk122
                refine aw_region ?_
                refine al_val (ov_move rfl rfl) ?_
                refine al_val (ov_int rfl rfl rfl rfl) ?_
                refine al_val (ov_move rfl rfl) ?_
                refine al_caseB 40 rfl (fun hb124 => ?_) (fun hb124 => ?_)
                · replace h := bif_t hb124 h
                  refine al_val (ov_move rfl rfl) ?_
                  refine al_val (ov_move rfl rfl) ?_
                  refine al_val (ov_move rfl rfl) ?_
                  refine al_val (ov_int rfl rfl rfl rfl) ?_
                  obtain ⟨u125, hu126, h⟩ := opt_some h
                  refine al_idxD 0 hu126 rfl rfl rfl Try.underlying34 sz3 rfl (fun p127 => ?_)
                  refine al_val (ov_loadP (ds := [(Value.int .i64 u125)]) 0 rfl (fun h => h) rfl Try.underlying3 sz3 rfl rfl rfl) ?_
                  refine al_val (ov_int rfl rfl rfl rfl) ?_
                  refine al_val (ov_pick_t rfl rfl rfl) ?_
                  refine al_nil ?_
                  exact aq_join (decide (u115 > u125)) h (fun w a hm hs => norm hm hs [0] [1, 2] [(1, v1_0), (2, (ptr g1 0)), (25, v1_0), (26, (Value.int .i64 (a1.length : Int))), (27, (Value.int .i64 l111i27)), (48, (Value.bool (decide (u115 > u125))))] (by decide) ⟨rfl, rfl, rfl, rfl, rfl, rfl, trivial⟩)
                · replace h := bif_f hb124 h
                  refine al_skip ?_
                  refine al_skip ?_
                  refine al_skip ?_
                  refine al_skip ?_
                  refine al_skip ?_
                  refine al_skip ?_
                  refine al_skip ?_
                  refine al_val (ov_pick_f rfl rfl rfl) ?_
                  refine al_nil ?_
                  exact aq_join false h (fun w a hm hs => norm hm hs [0] [0, 1] [(1, v1_0), (2, (ptr g1 0)), (25, v1_0), (26, (Value.int .i64 (a1.length : Int))), (27, (Value.int .i64 l111i27)), (48, (Value.bool false))] (by decide) ⟨rfl, rfl, rfl, rfl, rfl, rfl, trivial⟩)
          · clear hkk119
            refine aw_region ?_
            refine al_val (ov_move rfl rfl) ?_
            refine al_val (ov_int rfl rfl rfl rfl) ?_
            refine al_val (ov_move rfl rfl) ?_
            refine al_caseB 34 rfl (fun hb128 => ?_) (fun hb128 => ?_)
            · replace h := bif_t hb128 h
              refine al_skip ?_
              refine al_skip ?_
              refine al_val (ov_pick_t rfl rfl rfl) ?_
              refine al_nil ?_
              exact aq_join true h (fun w a hm hs => norm hm hs [0] [1, 0] [(1, v1_0), (2, (ptr g1 0)), (7, (Value.int .i64 l111i27)), (8, (Value.int .i64 u115)), (25, v1_0), (26, (Value.int .i64 (a1.length : Int))), (27, (Value.int .i64 l111i27)), (37, (Value.bool true))] (by decide) ⟨rfl, rfl, rfl, rfl, rfl, rfl, rfl, rfl, trivial⟩)
            · replace h := bif_f hb128 h
              refine al_val (ov_move rfl rfl) ?_
              refine al_val (ov_int rfl rfl rfl rfl) ?_
              refine al_val (ov_pick_f rfl rfl rfl) ?_
              refine al_nil ?_
              exact aq_join (decide (u115 > (4223371679 : Int))) h (fun w a hm hs => norm hm hs [0] [1, 0] [(1, v1_0), (2, (ptr g1 0)), (7, (Value.int .i64 l111i27)), (8, (Value.int .i64 u115)), (25, v1_0), (26, (Value.int .i64 (a1.length : Int))), (27, (Value.int .i64 l111i27)), (37, (Value.bool (decide (u115 > (4223371679 : Int)))))] (by decide) ⟨rfl, rfl, rfl, rfl, rfl, rfl, rfl, rfl, trivial⟩)
        · replace h := bif_f hb114 h
          refine aw_exit ?_
          refine aq_then_exit ?_
          refine aq_then_exit ?_
          refine aq_block_exit ?_
          exact aq_join () h (fun w a hm hs => norm hm hs [0] [0] [(1, v1_0), (2, (ptr g1 0))] (by decide) ⟨rfl, rfl, trivial⟩)
def f_lumref_Policy (fu : Nat) (a0 : S_api_Policy) : Option Int := (lt (fun (j2b28 : Bool) => (bif j2b28 then (some (1 : Int)) else (some (0 : Int)))) fun (kk3 : Bool → Option Int) => (bif (decide ((min2 (min2 (min2 (min2 a0.Last a0.Days) a0.Weeks) a0.Months) a0.Years) < (0 : Int))) then (kk3 true) else (kk3 (decide ((max2 (max2 (max2 (max2 a0.Last a0.Days) a0.Weeks) a0.Months) a0.Years) > (100 : Int))))))
set_option maxRecDepth 100000 in
theorem f_lumref_Policy_ok (fu : Nat) (a0 : S_api_Policy) {r : Int} (h : f_lumref_Policy fu a0 = some r) : FnOk Try.prog 15 [(ag [(Value.int .i64 a0.Last), (Value.int .i64 a0.Days), (Value.int .i64 a0.Weeks), (Value.int .i64 a0.Months), (Value.int .i64 a0.Years)])] [] [] (fun (i : Unit) => { val := (Value.int .i64 r) }) := by
  unfold f_lumref_Policy at h
  refine fn_enter Try.func15 rfl Try.ntmps15 rfl (fun w0 Z0 => ?_)
  refine aw_seq ?_
  refine aw_region ?_
  refine al_box (vs := [(Value.int .i64 a0.Last), (Value.int .i64 a0.Days), (Value.int .i64 a0.Weeks), (Value.int .i64 a0.Months), (Value.int .i64 a0.Years)]) rfl (cv_rfl rfl) rfl (fun g1 => ?_)
  refine al_val (ov_assign rfl rfl) ?_
  refine al_nil ?_
  refine aq_then ?_
  refine aw_seq ?_
  obtain ⟨kk3, hkk3, h⟩ := lt_some h
  refine aw_seq_join (ι := Bool) (fun i => (memOf w0 Z0 [] [] [])) (fun i => (tab [(28, (Value.bool i))])) (fun i => kk3 i = some r) ?_ ?_
  · rintro j2b28 h
    have h : kk3 j2b28 = some r := h
    rw [hkk3] at h
    dsimp only at h
    clear hkk3
    refine aw_show (m := (memOf w0 Z0 [] [] [])) (S := (tab [(28, (Value.bool j2b28))])) ?_
    refine aw_cond rfl (fun hb4 => ?_) (fun hb4 => ?_)
    · replace h := bif_t hb4 h
      refine aw_seq ?_
      refine aw_region ?_
      refine al_val (ov_assign rfl rfl) ?_
      refine al_nil ?_
      refine aq_then ?_
      refine aw_ret ?_
      refine aq_then_ret ?_
      obtain rfl := Option.some.inj h
      exact fn_ret () [] [] rfl rfl rfl rfl (res1 rfl rfl) rfl rfl rfl (by decide)
    · replace h := bif_f hb4 h
      refine aw_skip ?_
      refine aq_then ?_
      refine aw_seq ?_
      refine aw_region ?_
      refine al_val (ov_assign rfl rfl) ?_
      refine al_nil ?_
      refine aq_then ?_
      refine aw_ret ?_
      obtain rfl := Option.some.inj h
      exact fn_ret () [] [] rfl rfl rfl rfl (res1 rfl rfl) rfl rfl rfl (by decide)
  · clear hkk3
    refine aw_region ?_
    refine al_val (ov_fieldA (p := 0) rfl Try.underlying33 rfl sz3 rfl rfl rfl) ?_
    refine al_val (ov_load (i := 0) (v := (Value.int .i64 a0.Last)) rfl rfl Try.underlying3 sz3 rfl rfl rfl rfl) ?_
    refine al_val (ov_fieldA (p := 1) rfl Try.underlying33 rfl sz3 rfl rfl rfl) ?_
    refine al_val (ov_load (i := 0) (v := (Value.int .i64 a0.Days)) rfl rfl Try.underlying3 sz3 rfl rfl rfl rfl) ?_
    refine al_val (ov_fieldA (p := 2) rfl Try.underlying33 rfl sz3 rfl rfl rfl) ?_
    refine al_val (ov_load (i := 0) (v := (Value.int .i64 a0.Weeks)) rfl rfl Try.underlying3 sz3 rfl rfl rfl rfl) ?_
    refine al_val (ov_fieldA (p := 3) rfl Try.underlying33 rfl sz3 rfl rfl rfl) ?_
    refine al_val (ov_load (i := 0) (v := (Value.int .i64 a0.Months)) rfl rfl Try.underlying3 sz3 rfl rfl rfl rfl) ?_
    refine al_val (ov_fieldA (p := 4) rfl Try.underlying33 rfl sz3 rfl rfl rfl) ?_
    refine al_val (ov_load (i := 0) (v := (Value.int .i64 a0.Years)) rfl rfl Try.underlying3 sz3 rfl rfl rfl rfl) ?_
    refine al_val (ov_min5 rfl rfl rfl rfl rfl rfl) ?_
    refine al_val (ov_int rfl rfl rfl rfl) ?_
    refine al_val (ov_move rfl rfl) ?_
    refine al_caseB 15 rfl (fun hb5 => ?_) (fun hb5 => ?_)
    · replace h := bif_t hb5 h
      refine al_skip ?_
      refine al_skip ?_
      refine al_skip ?_
      refine al_skip ?_
      refine al_skip ?_
      refine al_skip ?_
      refine al_skip ?_
      refine al_skip ?_
      refine al_skip ?_
      refine al_skip ?_
      refine al_skip ?_
      refine al_skip ?_
      refine al_val (ov_pick_t rfl rfl rfl) ?_
      refine al_nil ?_
      exact aq_join true h (fun w a hm hs => norm hm hs [] [] [(28, (Value.bool true))] (by decide) ⟨rfl, trivial⟩)
    · replace h := bif_f hb5 h
      refine al_val (ov_fieldA (p := 0) rfl Try.underlying33 rfl sz3 rfl rfl rfl) ?_
      refine al_val (ov_load (i := 0) (v := (Value.int .i64 a0.Last)) rfl rfl Try.underlying3 sz3 rfl rfl rfl rfl) ?_
      refine al_val (ov_fieldA (p := 1) rfl Try.underlying33 rfl sz3 rfl rfl rfl) ?_
      refine al_val (ov_load (i := 0) (v := (Value.int .i64 a0.Days)) rfl rfl Try.underlying3 sz3 rfl rfl rfl rfl) ?_
      refine al_val (ov_fieldA (p := 2) rfl Try.underlying33 rfl sz3 rfl rfl rfl) ?_
      refine al_val (ov_load (i := 0) (v := (Value.int .i64 a0.Weeks)) rfl rfl Try.underlying3 sz3 rfl rfl rfl rfl) ?_
      refine al_val (ov_fieldA (p := 3) rfl Try.underlying33 rfl sz3 rfl rfl rfl) ?_
      refine al_val (ov_load (i := 0) (v := (Value.int .i64 a0.Months)) rfl rfl Try.underlying3 sz3 rfl rfl rfl rfl) ?_
      refine al_val (ov_fieldA (p := 4) rfl Try.underlying33 rfl sz3 rfl rfl rfl) ?_
      refine al_val (ov_load (i := 0) (v := (Value.int .i64 a0.Years)) rfl rfl Try.underlying3 sz3 rfl rfl rfl rfl) ?_
      refine al_val (ov_max5 rfl rfl rfl rfl rfl rfl) ?_
      refine al_val (ov_int rfl rfl rfl rfl) ?_
      refine al_val (ov_pick_f rfl rfl rfl) ?_
      refine al_nil ?_
      exact aq_join (decide ((max2 (max2 (max2 (max2 a0.Last a0.Days) a0.Weeks) a0.Months) a0.Years) > (100 : Int))) h (fun w a hm hs => norm hm hs [] [] [(28, (Value.bool (decide ((max2 (max2 (max2 (max2 a0.Last a0.Days) a0.Weeks) a0.Months) a0.Years) > (100 : Int)))))] (by decide) ⟨rfl, trivial⟩)
def f_lumref_Times57_L6 (a0 : (List Int)) (kk3 : (Unit → Option Int)) : Nat → Int → Option Int
  | 0, _ => none
  | k5 + 1, l4i10 => (bif (decide (l4i10 < (a0.length : Int))) then (opt (at? a0 l4i10) fun (u8 : Int) => (lt (fun (j11b20 : Bool) => (bif j11b20 then (some (1 : Int)) else (lt (fun (j14b31 : Bool) => (bif j14b31 then (some (4 : Int)) else (f_lumref_Times57_L6 a0 kk3 k5 (IntKind.i64.wrap (l4i10 + (1 : Int)))))) fun (kk15 : Bool → Option Int) => (bif (decide (l4i10 > (0 : Int))) then (opt (at? a0 (IntKind.i64.wrap (l4i10 - (1 : Int)))) fun (u18 : Int) => (kk15 (decide (u18 < u8)))) else (kk15 false))))) fun (kk12 : Bool → Option Int) => (bif (decide (u8 < (0 : Int))) then (kk12 true) else (kk12 (decide (u8 > (4223371679 : Int))))))) else (kk3 ()))
def f_lumref_Times57 (fu : Nat) (a0 : (List Int)) : Option Int := (bif (decide ((a0.length : Int) > (200 : Int))) then (some (2 : Int)) else (lt (fun (_ : Unit) => (some (0 : Int))) fun (kk3 : Unit → Option Int) => (f_lumref_Times57_L6 a0 kk3 fu (0 : Int))))
set_option maxRecDepth 100000 in
theorem f_lumref_Times57_ok (fu : Nat) (v0_0 : Value) (a0 : (List Int)) {r : Int} (h : f_lumref_Times57 fu a0 = some r) : FnOk Try.prog 42 [v0_0] [(fDat (tyList (tyInt .i64)) [v0_0] a0)] [] (fun (i : Unit) => { val := (Value.int .i64 r) }) := by
  unfold f_lumref_Times57 at h
  refine fn_enter Try.func42 rfl Try.ntmps42 rfl (fun w0 Z0 => ?_)
  refine aw_seq ?_
  refine aw_region ?_
  refine al_val (ov_assign rfl rfl) ?_
  refine al_nil ?_
  refine aq_then ?_
  refine aw_seq ?_
  refine aw_seq ?_
  refine aw_region ?_
  refine al_val (ov_move rfl rfl) ?_
  refine al_val (ov_lenD 0 rfl rfl Try.underlying34 rfl) ?_
  refine al_val (ov_int rfl rfl rfl rfl) ?_
  refine al_nil ?_
  refine aq_then ?_
  refine aw_cond rfl (fun hb1 => ?_) (fun hb1 => ?_)
  · replace h := bif_t hb1 h
    refine aw_seq ?_
    refine aw_region ?_
    refine al_val (ov_assign rfl rfl) ?_
    refine al_nil ?_
    refine aq_then ?_
    refine aw_ret ?_
    refine aq_then_ret ?_
    obtain rfl := Option.some.inj h
    exact fn_ret () [] [] rfl rfl rfl rfl (res1 rfl rfl) rfl rfl rfl (by decide)
  · replace h := bif_f hb1 h
    refine aw_skip ?_
    refine aq_then ?_
    obtain ⟨kk3, hkk3, h⟩ := lt_some h
    refine aw_seq_join (ι := Unit) (fun i => (memOf w0 Z0 [] [] [(fDat (tyList (tyInt .i64)) [v0_0] a0)])) (fun i => (tab [])) (fun i => kk3 () = some r) ?_ ?_
    · rintro _ h
      have h : kk3 () = some r := h
      rw [hkk3] at h
      dsimp only at h
      clear hkk3
      refine aw_show (m := (memOf w0 Z0 [] [] [(fDat (tyList (tyInt .i64)) [v0_0] a0)])) (S := (tab [])) ?_
      refine aw_seq ?_
      refine aw_region ?_
      refine al_val (ov_assign rfl rfl) ?_
      refine al_nil ?_
      refine aq_then ?_
      refine aw_ret ?_
      obtain rfl := Option.some.inj h
      exact fn_ret () [] [] rfl rfl rfl rfl (res1 rfl rfl) rfl rfl rfl (by decide)
    · clear hkk3
      refine aw_seq ?_
      refine aw_region ?_
      refine al_val (ov_move rfl rfl) ?_
      refine al_val (ov_lenD 0 rfl rfl Try.underlying34 rfl) ?_
      refine al_val (ov_move rfl rfl) ?_
      refine al_nil ?_
      refine aq_then ?_
      refine aw_block ?_
      refine aw_state (aw_loop (ι := Int) (fun i => (memOf w0 Z0 [] [] [(fDat (tyList (tyInt .i64)) [v0_0] a0)])) (fun i => (tab [(0, v0_0), (8, v0_0), (9, (Value.int .i64 (a0.length : Int))), (10, (Value.int .i64 i))])) (fun q i => f_lumref_Times57_L6 a0 kk3 q i = some r) ?_ fu (0 : Int) h) (fun w a hm hs => norm hm hs [] [0] [(0, v0_0), (8, v0_0), (9, (Value.int .i64 (a0.length : Int))), (10, (Value.int .i64 (0 : Int)))] (by decide) ⟨rfl, rfl, rfl, rfl, trivial⟩)
      clear h
      rintro k5 l4i10 h
      have h : f_lumref_Times57_L6 a0 kk3 k5 l4i10 = some r := h
      obtain _ | k5 := k5
      · rw [f_lumref_Times57_L6] at h; cases h
      rw [f_lumref_Times57_L6] at h
      refine aw_show (m := (memOf w0 Z0 [] [] [(fDat (tyList (tyInt .i64)) [v0_0] a0)])) (S := (tab [(0, v0_0), (8, v0_0), (9, (Value.int .i64 (a0.length : Int))), (10, (Value.int .i64 l4i10))])) ?_
      refine aw_seq ?_
      refine aw_region ?_
      refine al_val (ov_int rfl rfl rfl rfl) ?_
      refine al_nil ?_
      refine aq_then ?_
      refine aw_seq ?_
      refine aw_cond rfl (fun hb7 => ?_) (fun hb7 => ?_)
      · replace h := bif_t hb7 h
        refine aw_skip ?_
        refine aq_then ?_
        refine aw_seq ?_
        refine aw_block ?_
        refine aw_seq ?_
        refine aw_region ?_
        refine al_val (ov_move rfl rfl) ?_
        obtain ⟨u8, hu9, h⟩ := opt_some h
        refine al_idxD 0 hu9 rfl rfl rfl Try.underlying34 sz3 rfl (fun p10 => ?_)
        refine al_val (ov_loadP (ds := [(Value.int .i64 u8)]) 0 rfl (fun h => h) rfl Try.underlying3 sz3 rfl rfl rfl) ?_
        refine al_val (ov_assign rfl rfl) ?_
        refine al_val (ov_assign rfl rfl) ?_
        refine al_nil ?_
        refine aq_then ?_
        refine aw_seq ?_
        obtain ⟨kk12, hkk12, h⟩ := lt_some h
        refine aw_seq_join (ι := Bool) (fun i => (memOf w0 Z0 [] [] [(fDat (tyList (tyInt .i64)) [v0_0] a0), (fPtr (tyInt .i64) p10 u8)])) (fun i => (tab [(0, v0_0), (3, (Value.int .i64 l4i10)), (4, (Value.int .i64 u8)), (8, v0_0), (9, (Value.int .i64 (a0.length : Int))), (10, (Value.int .i64 l4i10)), (20, (Value.bool i))])) (fun i => kk12 i = some r) ?_ ?_
        · rintro j11b20 h
          have h : kk12 j11b20 = some r := h
          rw [hkk12] at h
          dsimp only at h
          clear hkk12
          refine aw_show (m := (memOf w0 Z0 [] [] [(fDat (tyList (tyInt .i64)) [v0_0] a0), (fPtr (tyInt .i64) p10 u8)])) (S := (tab [(0, v0_0), (3, (Value.int .i64 l4i10)), (4, (Value.int .i64 u8)), (8, v0_0), (9, (Value.int .i64 (a0.length : Int))), (10, (Value.int .i64 l4i10)), (20, (Value.bool j11b20))])) ?_
          refine aw_cond rfl (fun hb13 => ?_) (fun hb13 => ?_)
          · replace h := bif_t hb13 h
            refine aw_seq ?_
            refine aw_region ?_
            refine al_val (ov_assign rfl rfl) ?_
            refine al_nil ?_
            refine aq_then ?_
            refine aw_ret ?_
            refine aq_then_ret ?_
            refine aq_block_ret ?_
            refine aq_then_ret ?_
            refine aq_then_ret ?_
            refine aq_block_ret ?_
            refine aq_then_ret ?_
            obtain rfl := Option.some.inj h
            exact fn_ret () [] [] rfl rfl rfl rfl (res1 rfl rfl) rfl rfl rfl (by decide)
          · replace h := bif_f hb13 h
            refine aw_skip ?_
            refine aq_then ?_
            obtain ⟨kk15, hkk15, h⟩ := lt_some h
            refine aw_seq_join (ι := Bool) (fun i => (memOf w0 Z0 [] [] [(fDat (tyList (tyInt .i64)) [v0_0] a0), (fPtr (tyInt .i64) p10 u8)])) (fun i => (tab [(0, v0_0), (8, v0_0), (9, (Value.int .i64 (a0.length : Int))), (10, (Value.int .i64 l4i10)), (31, (Value.bool i))])) (fun i => kk15 i = some r) ?_ ?_
            · rintro j14b31 h
              have h : kk15 j14b31 = some r := h
              rw [hkk15] at h
              dsimp only at h
              clear hkk15
              refine aw_show (m := (memOf w0 Z0 [] [] [(fDat (tyList (tyInt .i64)) [v0_0] a0), (fPtr (tyInt .i64) p10 u8)])) (S := (tab [(0, v0_0), (8, v0_0), (9, (Value.int .i64 (a0.length : Int))), (10, (Value.int .i64 l4i10)), (31, (Value.bool j14b31))])) ?_
              refine aw_cond rfl (fun hb16 => ?_) (fun hb16 => ?_)
              · replace h := bif_t hb16 h
                refine aw_seq ?_
                refine aw_region ?_
                refine al_val (ov_assign rfl rfl) ?_
                refine al_nil ?_
                refine aq_then ?_
                refine aw_ret ?_
                refine aq_block_ret ?_
                refine aq_then_ret ?_
                refine aq_then_ret ?_
                refine aq_block_ret ?_
                refine aq_then_ret ?_
                obtain rfl := Option.some.inj h
                exact fn_ret () [] [] rfl rfl rfl rfl (res1 rfl rfl) rfl rfl rfl (by decide)
              · replace h := bif_f hb16 h
                refine aw_skip ?_
                refine aq_block ?_
                refine aq_then ?_
                refine aw_region ?_
                refine al_val (ov_int rfl rfl rfl rfl) ?_
                refine al_val (ov_move rfl rfl) ?_
                refine al_nil ?_
                exact aq_again k5 (IntKind.i64.wrap (l4i10 + (1 : Int))) (Nat.lt_succ_self _) h (fun w a hm hs => norm hm hs [] [0] [(0, v0_0), (8, v0_0), (9, (Value.int .i64 (a0.length : Int))), (10, (Value.int .i64 (IntKind.i64.wrap (l4i10 + (1 : Int)))))] (by decide) ⟨rfl, rfl, rfl, rfl, trivial⟩)
            · clear hkk15
              refine aw_region ?_
              refine al_val (ov_move rfl rfl) ?_
              refine al_val (ov_int rfl rfl rfl rfl) ?_
              refine al_val (ov_move rfl rfl) ?_
              refine al_caseB 23 rfl (fun hb17 => ?_) (fun hb17 => ?_)
              · replace h := bif_t hb17 h
                refine al_val (ov_move rfl rfl) ?_
                refine al_val (ov_move rfl rfl) ?_
                refine al_val (ov_int rfl rfl rfl rfl) ?_
                obtain ⟨u18, hu19, h⟩ := opt_some h
                refine al_idxD 0 hu19 rfl rfl rfl Try.underlying34 sz3 rfl (fun p20 => ?_)
                refine al_val (ov_loadP (ds := [(Value.int .i64 u18)]) 0 rfl (fun h => h) rfl Try.underlying3 sz3 rfl rfl rfl) ?_
                refine al_val (ov_move rfl rfl) ?_
                refine al_val (ov_int rfl rfl rfl rfl) ?_
                refine al_val (ov_pick_t rfl rfl rfl) ?_
                refine al_nil ?_
                exact aq_join (decide (u18 < u8)) h (fun w a hm hs => norm hm hs [] [1, 2] [(0, v0_0), (8, v0_0), (9, (Value.int .i64 (a0.length : Int))), (10, (Value.int .i64 l4i10)), (31, (Value.bool (decide (u18 < u8))))] (by decide) ⟨rfl, rfl, rfl, rfl, rfl, trivial⟩)
              · replace h := bif_f hb17 h
                refine al_skip ?_
                refine al_skip ?_
                refine al_skip ?_
                refine al_skip ?_
                refine al_skip ?_
                refine al_skip ?_
                refine al_skip ?_
                refine al_val (ov_pick_f rfl rfl rfl) ?_
                refine al_nil ?_
                exact aq_join false h (fun w a hm hs => norm hm hs [] [0, 1] [(0, v0_0), (8, v0_0), (9, (Value.int .i64 (a0.length : Int))), (10, (Value.int .i64 l4i10)), (31, (Value.bool false))] (by decide) ⟨rfl, rfl, rfl, rfl, rfl, trivial⟩)
        · clear hkk12
          refine aw_region ?_
          refine al_val (ov_move rfl rfl) ?_
          refine al_val (ov_int rfl rfl rfl rfl) ?_
          refine al_val (ov_move rfl rfl) ?_
          refine al_caseB 17 rfl (fun hb21 => ?_) (fun hb21 => ?_)
          · replace h := bif_t hb21 h
            refine al_skip ?_
            refine al_skip ?_
            refine al_val (ov_pick_t rfl rfl rfl) ?_
            refine al_nil ?_
            exact aq_join true h (fun w a hm hs => norm hm hs [] [1, 0] [(0, v0_0), (3, (Value.int .i64 l4i10)), (4, (Value.int .i64 u8)), (8, v0_0), (9, (Value.int .i64 (a0.length : Int))), (10, (Value.int .i64 l4i10)), (20, (Value.bool true))] (by decide) ⟨rfl, rfl, rfl, rfl, rfl, rfl, rfl, trivial⟩)
          · replace h := bif_f hb21 h
            refine al_val (ov_move rfl rfl) ?_
            refine al_val (ov_int rfl rfl rfl rfl) ?_
            refine al_val (ov_pick_f rfl rfl rfl) ?_
            refine al_nil ?_
            exact aq_join (decide (u8 > (4223371679 : Int))) h (fun w a hm hs => norm hm hs [] [1, 0] [(0, v0_0), (3, (Value.int .i64 l4i10)), (4, (Value.int .i64 u8)), (8, v0_0), (9, (Value.int .i64 (a0.length : Int))), (10, (Value.int .i64 l4i10)), (20, (Value.bool (decide (u8 > (4223371679 : Int)))))] (by decide) ⟨rfl, rfl, rfl, rfl, rfl, rfl, rfl, trivial⟩)
      · replace h := bif_f hb7 h
        refine aw_exit ?_
        refine aq_then_exit ?_
        refine aq_then_exit ?_
        refine aq_block_exit ?_
        exact aq_join () h (fun w a hm hs => norm hm hs [] [0] [] (by decide) trivial)
def f_lumref_floor (fu : Nat) (a0 : Int) (a1 : Int) : Option Int := (bif (decide (a0 < (0 : Int))) then (req (a1 ≠ 0) (some (IntKind.i64.wrap (0 - (IntKind.i64.wrap (((IntKind.i64.wrap ((IntKind.i64.wrap (a1 - (1 : Int))) - a0))).tdiv a1)))))) else (req (a1 ≠ 0) (some (IntKind.i64.wrap ((a0).tdiv a1)))))
set_option maxRecDepth 100000 in
theorem f_lumref_floor_ok (fu : Nat) (a0 : Int) (a1 : Int) {r : Int} (h : f_lumref_floor fu a0 a1 = some r) : FnOk Try.prog 108 [(Value.int .i64 a0), (Value.int .i64 a1)] [] [] (fun (i : Unit) => { val := (Value.int .i64 r) }) := by
  unfold f_lumref_floor at h
  refine fn_enter Try.func108 rfl Try.ntmps108 rfl (fun w0 Z0 => ?_)
  refine aw_seq ?_
  refine aw_region ?_
  refine al_val (ov_assign rfl rfl) ?_
  refine al_nil ?_
  refine aq_then ?_
  refine aw_seq ?_
  refine aw_seq ?_
  refine aw_region ?_
  refine al_val (ov_move rfl rfl) ?_
  refine al_val (ov_int rfl rfl rfl rfl) ?_
  refine al_nil ?_
  refine aq_then ?_
  refine aw_cond rfl (fun hb1 => ?_) (fun hb1 => ?_)
  · replace h := bif_t hb1 h
    refine aw_seq ?_
    refine aw_region ?_
    refine al_val (ov_move rfl rfl) ?_
    refine al_val (ov_int rfl rfl rfl rfl) ?_
    refine al_val (ov_move rfl rfl) ?_
    refine al_val (ov_int rfl rfl rfl rfl) ?_
    refine al_val (ov_move rfl rfl) ?_
    obtain ⟨hc2, h⟩ := req_some h
    refine al_val (ov_quo hc2 rfl rfl rfl) ?_
    refine al_val (ov_neg rfl rfl) ?_
    refine al_val (ov_assign rfl rfl) ?_
    refine al_nil ?_
    refine aq_then ?_
    refine aw_ret ?_
    refine aq_then_ret ?_
    obtain rfl := Option.some.inj h
    exact fn_ret () [] [] rfl rfl rfl rfl (res1 rfl rfl) rfl rfl rfl (by decide)
  · replace h := bif_f hb1 h
    refine aw_skip ?_
    refine aq_then ?_
    refine aw_seq ?_
    refine aw_region ?_
    refine al_val (ov_move rfl rfl) ?_
    refine al_val (ov_move rfl rfl) ?_
    obtain ⟨hc3, h⟩ := req_some h
    refine al_val (ov_quo hc3 rfl rfl rfl) ?_
    refine al_val (ov_assign rfl rfl) ?_
    refine al_nil ?_
    refine aq_then ?_
    refine aw_ret ?_
    obtain rfl := Option.some.inj h
    exact fn_ret () [] [] rfl rfl rfl rfl (res1 rfl rfl) rfl rfl rfl (by decide)
def f_lumref_date (fu : Nat) (a0 : Int) : Option (Int × Int × Int) := (opt (f_lumref_floor fu (IntKind.i64.wrap (a0 + (719468 : Int))) (146097 : Int)) fun (r2 : Int) => (bif (decide ((IntKind.i64.wrap (((IntKind.i64.wrap ((IntKind.i64.wrap ((5 : Int) * (IntKind.i64.wrap ((IntKind.i64.wrap ((IntKind.i64.wrap (a0 + (719468 : Int))) - (IntKind.i64.wrap ((146097 : Int) * r2)))) - (IntKind.i64.wrap ((IntKind.i64.wrap ((IntKind.i64.wrap ((365 : Int) * (IntKind.i64.wrap (((IntKind.i64.wrap ((IntKind.i64.wrap ((IntKind.i64.wrap ((IntKind.i64.wrap ((IntKind.i64.wrap (a0 + (719468 : Int))) - (IntKind.i64.wrap ((146097 : Int) * r2)))) - (IntKind.i64.wrap (((IntKind.i64.wrap ((IntKind.i64.wrap (a0 + (719468 : Int))) - (IntKind.i64.wrap ((146097 : Int) * r2))))).tdiv (1460 : Int))))) + (IntKind.i64.wrap (((IntKind.i64.wrap ((IntKind.i64.wrap (a0 + (719468 : Int))) - (IntKind.i64.wrap ((146097 : Int) * r2))))).tdiv (36524 : Int))))) - (IntKind.i64.wrap (((IntKind.i64.wrap ((IntKind.i64.wrap (a0 + (719468 : Int))) - (IntKind.i64.wrap ((146097 : Int) * r2))))).tdiv (146096 : Int)))))).tdiv (365 : Int))))) + (IntKind.i64.wrap (((IntKind.i64.wrap (((IntKind.i64.wrap ((IntKind.i64.wrap ((IntKind.i64.wrap ((IntKind.i64.wrap ((IntKind.i64.wrap (a0 + (719468 : Int))) - (IntKind.i64.wrap ((146097 : Int) * r2)))) - (IntKind.i64.wrap (((IntKind.i64.wrap ((IntKind.i64.wrap (a0 + (719468 : Int))) - (IntKind.i64.wrap ((146097 : Int) * r2))))).tdiv (1460 : Int))))) + (IntKind.i64.wrap (((IntKind.i64.wrap ((IntKind.i64.wrap (a0 + (719468 : Int))) - (IntKind.i64.wrap ((146097 : Int) * r2))))).tdiv (36524 : Int))))) - (IntKind.i64.wrap (((IntKind.i64.wrap ((IntKind.i64.wrap (a0 + (719468 : Int))) - (IntKind.i64.wrap ((146097 : Int) * r2))))).tdiv (146096 : Int)))))).tdiv (365 : Int)))).tdiv (4 : Int))))) - (IntKind.i64.wrap (((IntKind.i64.wrap (((IntKind.i64.wrap ((IntKind.i64.wrap ((IntKind.i64.wrap ((IntKind.i64.wrap ((IntKind.i64.wrap (a0 + (719468 : Int))) - (IntKind.i64.wrap ((146097 : Int) * r2)))) - (IntKind.i64.wrap (((IntKind.i64.wrap ((IntKind.i64.wrap (a0 + (719468 : Int))) - (IntKind.i64.wrap ((146097 : Int) * r2))))).tdiv (1460 : Int))))) + (IntKind.i64.wrap (((IntKind.i64.wrap ((IntKind.i64.wrap (a0 + (719468 : Int))) - (IntKind.i64.wrap ((146097 : Int) * r2))))).tdiv (36524 : Int))))) - (IntKind.i64.wrap (((IntKind.i64.wrap ((IntKind.i64.wrap (a0 + (719468 : Int))) - (IntKind.i64.wrap ((146097 : Int) * r2))))).tdiv (146096 : Int)))))).tdiv (365 : Int)))).tdiv (100 : Int))))))))) + (2 : Int)))).tdiv (153 : Int))) < (10 : Int))) then (some ((IntKind.i64.wrap ((IntKind.i64.wrap ((400 : Int) * r2)) + (IntKind.i64.wrap (((IntKind.i64.wrap ((IntKind.i64.wrap ((IntKind.i64.wrap ((IntKind.i64.wrap ((IntKind.i64.wrap (a0 + (719468 : Int))) - (IntKind.i64.wrap ((146097 : Int) * r2)))) - (IntKind.i64.wrap (((IntKind.i64.wrap ((IntKind.i64.wrap (a0 + (719468 : Int))) - (IntKind.i64.wrap ((146097 : Int) * r2))))).tdiv (1460 : Int))))) + (IntKind.i64.wrap (((IntKind.i64.wrap ((IntKind.i64.wrap (a0 + (719468 : Int))) - (IntKind.i64.wrap ((146097 : Int) * r2))))).tdiv (36524 : Int))))) - (IntKind.i64.wrap (((IntKind.i64.wrap ((IntKind.i64.wrap (a0 + (719468 : Int))) - (IntKind.i64.wrap ((146097 : Int) * r2))))).tdiv (146096 : Int)))))).tdiv (365 : Int))))), (IntKind.i64.wrap ((IntKind.i64.wrap (((IntKind.i64.wrap ((IntKind.i64.wrap ((5 : Int) * (IntKind.i64.wrap ((IntKind.i64.wrap ((IntKind.i64.wrap (a0 + (719468 : Int))) - (IntKind.i64.wrap ((146097 : Int) * r2)))) - (IntKind.i64.wrap ((IntKind.i64.wrap ((IntKind.i64.wrap ((365 : Int) * (IntKind.i64.wrap (((IntKind.i64.wrap ((IntKind.i64.wrap ((IntKind.i64.wrap ((IntKind.i64.wrap ((IntKind.i64.wrap (a0 + (719468 : Int))) - (IntKind.i64.wrap ((146097 : Int) * r2)))) - (IntKind.i64.wrap (((IntKind.i64.wrap ((IntKind.i64.wrap (a0 + (719468 : Int))) - (IntKind.i64.wrap ((146097 : Int) * r2))))).tdiv (1460 : Int))))) + (IntKind.i64.wrap (((IntKind.i64.wrap ((IntKind.i64.wrap (a0 + (719468 : Int))) - (IntKind.i64.wrap ((146097 : Int) * r2))))).tdiv (36524 : Int))))) - (IntKind.i64.wrap (((IntKind.i64.wrap ((IntKind.i64.wrap (a0 + (719468 : Int))) - (IntKind.i64.wrap ((146097 : Int) * r2))))).tdiv (146096 : Int)))))).tdiv (365 : Int))))) + (IntKind.i64.wrap (((IntKind.i64.wrap (((IntKind.i64.wrap ((IntKind.i64.wrap ((IntKind.i64.wrap ((IntKind.i64.wrap ((IntKind.i64.wrap (a0 + (719468 : Int))) - (IntKind.i64.wrap ((146097 : Int) * r2)))) - (IntKind.i64.wrap (((IntKind.i64.wrap ((IntKind.i64.wrap (a0 + (719468 : Int))) - (IntKind.i64.wrap ((146097 : Int) * r2))))).tdiv (1460 : Int))))) + (IntKind.i64.wrap (((IntKind.i64.wrap ((IntKind.i64.wrap (a0 + (719468 : Int))) - (IntKind.i64.wrap ((146097 : Int) * r2))))).tdiv (36524 : Int))))) - (IntKind.i64.wrap (((IntKind.i64.wrap ((IntKind.i64.wrap (a0 + (719468 : Int))) - (IntKind.i64.wrap ((146097 : Int) * r2))))).tdiv (146096 : Int)))))).tdiv (365 : Int)))).tdiv (4 : Int))))) - (IntKind.i64.wrap (((IntKind.i64.wrap (((IntKind.i64.wrap ((IntKind.i64.wrap ((IntKind.i64.wrap ((IntKind.i64.wrap ((IntKind.i64.wrap (a0 + (719468 : Int))) - (IntKind.i64.wrap ((146097 : Int) * r2)))) - (IntKind.i64.wrap (((IntKind.i64.wrap ((IntKind.i64.wrap (a0 + (719468 : Int))) - (IntKind.i64.wrap ((146097 : Int) * r2))))).tdiv (1460 : Int))))) + (IntKind.i64.wrap (((IntKind.i64.wrap ((IntKind.i64.wrap (a0 + (719468 : Int))) - (IntKind.i64.wrap ((146097 : Int) * r2))))).tdiv (36524 : Int))))) - (IntKind.i64.wrap (((IntKind.i64.wrap ((IntKind.i64.wrap (a0 + (719468 : Int))) - (IntKind.i64.wrap ((146097 : Int) * r2))))).tdiv (146096 : Int)))))).tdiv (365 : Int)))).tdiv (100 : Int))))))))) + (2 : Int)))).tdiv (153 : Int))) + (3 : Int))), (IntKind.i64.wrap ((IntKind.i64.wrap ((IntKind.i64.wrap ((IntKind.i64.wrap ((IntKind.i64.wrap (a0 + (719468 : Int))) - (IntKind.i64.wrap ((146097 : Int) * r2)))) - (IntKind.i64.wrap ((IntKind.i64.wrap ((IntKind.i64.wrap ((365 : Int) * (IntKind.i64.wrap (((IntKind.i64.wrap ((IntKind.i64.wrap ((IntKind.i64.wrap ((IntKind.i64.wrap ((IntKind.i64.wrap (a0 + (719468 : Int))) - (IntKind.i64.wrap ((146097 : Int) * r2)))) - (IntKind.i64.wrap (((IntKind.i64.wrap ((IntKind.i64.wrap (a0 + (719468 : Int))) - (IntKind.i64.wrap ((146097 : Int) * r2))))).tdiv (1460 : Int))))) + (IntKind.i64.wrap (((IntKind.i64.wrap ((IntKind.i64.wrap (a0 + (719468 : Int))) - (IntKind.i64.wrap ((146097 : Int) * r2))))).tdiv (36524 : Int))))) - (IntKind.i64.wrap (((IntKind.i64.wrap ((IntKind.i64.wrap (a0 + (719468 : Int))) - (IntKind.i64.wrap ((146097 : Int) * r2))))).tdiv (146096 : Int)))))).tdiv (365 : Int))))) + (IntKind.i64.wrap (((IntKind.i64.wrap (((IntKind.i64.wrap ((IntKind.i64.wrap ((IntKind.i64.wrap ((IntKind.i64.wrap ((IntKind.i64.wrap (a0 + (719468 : Int))) - (IntKind.i64.wrap ((146097 : Int) * r2)))) - (IntKind.i64.wrap (((IntKind.i64.wrap ((IntKind.i64.wrap (a0 + (719468 : Int))) - (IntKind.i64.wrap ((146097 : Int) * r2))))).tdiv (1460 : Int))))) + (IntKind.i64.wrap (((IntKind.i64.wrap ((IntKind.i64.wrap (a0 + (719468 : Int))) - (IntKind.i64.wrap ((146097 : Int) * r2))))).tdiv (36524 : Int))))) - (IntKind.i64.wrap (((IntKind.i64.wrap ((IntKind.i64.wrap (a0 + (719468 : Int))) - (IntKind.i64.wrap ((146097 : Int) * r2))))).tdiv (146096 : Int)))))).tdiv (365 : Int)))).tdiv (4 : Int))))) - (IntKind.i64.wrap (((IntKind.i64.wrap (((IntKind.i64.wrap ((IntKind.i64.wrap ((IntKind.i64.wrap ((IntKind.i64.wrap ((IntKind.i64.wrap (a0 + (719468 : Int))) - (IntKind.i64.wrap ((146097 : Int) * r2)))) - (IntKind.i64.wrap (((IntKind.i64.wrap ((IntKind.i64.wrap (a0 + (719468 : Int))) - (IntKind.i64.wrap ((146097 : Int) * r2))))).tdiv (1460 : Int))))) + (IntKind.i64.wrap (((IntKind.i64.wrap ((IntKind.i64.wrap (a0 + (719468 : Int))) - (IntKind.i64.wrap ((146097 : Int) * r2))))).tdiv (36524 : Int))))) - (IntKind.i64.wrap (((IntKind.i64.wrap ((IntKind.i64.wrap (a0 + (719468 : Int))) - (IntKind.i64.wrap ((146097 : Int) * r2))))).tdiv (146096 : Int)))))).tdiv (365 : Int)))).tdiv (100 : Int))))))) - (IntKind.i64.wrap (((IntKind.i64.wrap ((IntKind.i64.wrap ((153 : Int) * (IntKind.i64.wrap (((IntKind.i64.wrap ((IntKind.i64.wrap ((5 : Int) * (IntKind.i64.wrap ((IntKind.i64.wrap ((IntKind.i64.wrap (a0 + (719468 : Int))) - (IntKind.i64.wrap ((146097 : Int) * r2)))) - (IntKind.i64.wrap ((IntKind.i64.wrap ((IntKind.i64.wrap ((365 : Int) * (IntKind.i64.wrap (((IntKind.i64.wrap ((IntKind.i64.wrap ((IntKind.i64.wrap ((IntKind.i64.wrap ((IntKind.i64.wrap (a0 + (719468 : Int))) - (IntKind.i64.wrap ((146097 : Int) * r2)))) - (IntKind.i64.wrap (((IntKind.i64.wrap ((IntKind.i64.wrap (a0 + (719468 : Int))) - (IntKind.i64.wrap ((146097 : Int) * r2))))).tdiv (1460 : Int))))) + (IntKind.i64.wrap (((IntKind.i64.wrap ((IntKind.i64.wrap (a0 + (719468 : Int))) - (IntKind.i64.wrap ((146097 : Int) * r2))))).tdiv (36524 : Int))))) - (IntKind.i64.wrap (((IntKind.i64.wrap ((IntKind.i64.wrap (a0 + (719468 : Int))) - (IntKind.i64.wrap ((146097 : Int) * r2))))).tdiv (146096 : Int)))))).tdiv (365 : Int))))) + (IntKind.i64.wrap (((IntKind.i64.wrap (((IntKind.i64.wrap ((IntKind.i64.wrap ((IntKind.i64.wrap ((IntKind.i64.wrap ((IntKind.i64.wrap (a0 + (719468 : Int))) - (IntKind.i64.wrap ((146097 : Int) * r2)))) - (IntKind.i64.wrap (((IntKind.i64.wrap ((IntKind.i64.wrap (a0 + (719468 : Int))) - (IntKind.i64.wrap ((146097 : Int) * r2))))).tdiv (1460 : Int))))) + (IntKind.i64.wrap (((IntKind.i64.wrap ((IntKind.i64.wrap (a0 + (719468 : Int))) - (IntKind.i64.wrap ((146097 : Int) * r2))))).tdiv (36524 : Int))))) - (IntKind.i64.wrap (((IntKind.i64.wrap ((IntKind.i64.wrap (a0 + (719468 : Int))) - (IntKind.i64.wrap ((146097 : Int) * r2))))).tdiv (146096 : Int)))))).tdiv (365 : Int)))).tdiv (4 : Int))))) - (IntKind.i64.wrap (((IntKind.i64.wrap (((IntKind.i64.wrap ((IntKind.i64.wrap ((IntKind.i64.wrap ((IntKind.i64.wrap ((IntKind.i64.wrap (a0 + (719468 : Int))) - (IntKind.i64.wrap ((146097 : Int) * r2)))) - (IntKind.i64.wrap (((IntKind.i64.wrap ((IntKind.i64.wrap (a0 + (719468 : Int))) - (IntKind.i64.wrap ((146097 : Int) * r2))))).tdiv (1460 : Int))))) + (IntKind.i64.wrap (((IntKind.i64.wrap ((IntKind.i64.wrap (a0 + (719468 : Int))) - (IntKind.i64.wrap ((146097 : Int) * r2))))).tdiv (36524 : Int))))) - (IntKind.i64.wrap (((IntKind.i64.wrap ((IntKind.i64.wrap (a0 + (719468 : Int))) - (IntKind.i64.wrap ((146097 : Int) * r2))))).tdiv (146096 : Int)))))).tdiv (365 : Int)))).tdiv (100 : Int))))))))) + (2 : Int)))).tdiv (153 : Int))))) + (2 : Int)))).tdiv (5 : Int))))) + (1 : Int))))) else (some ((IntKind.i64.wrap ((IntKind.i64.wrap ((IntKind.i64.wrap ((400 : Int) * r2)) + (IntKind.i64.wrap (((IntKind.i64.wrap ((IntKind.i64.wrap ((IntKind.i64.wrap ((IntKind.i64.wrap ((IntKind.i64.wrap (a0 + (719468 : Int))) - (IntKind.i64.wrap ((146097 : Int) * r2)))) - (IntKind.i64.wrap (((IntKind.i64.wrap ((IntKind.i64.wrap (a0 + (719468 : Int))) - (IntKind.i64.wrap ((146097 : Int) * r2))))).tdiv (1460 : Int))))) + (IntKind.i64.wrap (((IntKind.i64.wrap ((IntKind.i64.wrap (a0 + (719468 : Int))) - (IntKind.i64.wrap ((146097 : Int) * r2))))).tdiv (36524 : Int))))) - (IntKind.i64.wrap (((IntKind.i64.wrap ((IntKind.i64.wrap (a0 + (719468 : Int))) - (IntKind.i64.wrap ((146097 : Int) * r2))))).tdiv (146096 : Int)))))).tdiv (365 : Int))))) + (1 : Int))), (IntKind.i64.wrap ((IntKind.i64.wrap (((IntKind.i64.wrap ((IntKind.i64.wrap ((5 : Int) * (IntKind.i64.wrap ((IntKind.i64.wrap ((IntKind.i64.wrap (a0 + (719468 : Int))) - (IntKind.i64.wrap ((146097 : Int) * r2)))) - (IntKind.i64.wrap ((IntKind.i64.wrap ((IntKind.i64.wrap ((365 : Int) * (IntKind.i64.wrap (((IntKind.i64.wrap ((IntKind.i64.wrap ((IntKind.i64.wrap ((IntKind.i64.wrap ((IntKind.i64.wrap (a0 + (719468 : Int))) - (IntKind.i64.wrap ((146097 : Int) * r2)))) - (IntKind.i64.wrap (((IntKind.i64.wrap ((IntKind.i64.wrap (a0 + (719468 : Int))) - (IntKind.i64.wrap ((146097 : Int) * r2))))).tdiv (1460 : Int))))) + (IntKind.i64.wrap (((IntKind.i64.wrap ((IntKind.i64.wrap (a0 + (719468 : Int))) - (IntKind.i64.wrap ((146097 : Int) * r2))))).tdiv (36524 : Int))))) - (IntKind.i64.wrap (((IntKind.i64.wrap ((IntKind.i64.wrap (a0 + (719468 : Int))) - (IntKind.i64.wrap ((146097 : Int) * r2))))).tdiv (146096 : Int)))))).tdiv (365 : Int))))) + (IntKind.i64.wrap (((IntKind.i64.wrap (((IntKind.i64.wrap ((IntKind.i64.wrap ((IntKind.i64.wrap ((IntKind.i64.wrap ((IntKind.i64.wrap (a0 + (719468 : Int))) - (IntKind.i64.wrap ((146097 : Int) * r2)))) - (IntKind.i64.wrap (((IntKind.i64.wrap ((IntKind.i64.wrap (a0 + (719468 : Int))) - (IntKind.i64.wrap ((146097 : Int) * r2))))).tdiv (1460 : Int))))) + (IntKind.i64.wrap (((IntKind.i64.wrap ((IntKind.i64.wrap (a0 + (719468 : Int))) - (IntKind.i64.wrap ((146097 : Int) * r2))))).tdiv (36524 : Int))))) - (IntKind.i64.wrap (((IntKind.i64.wrap ((IntKind.i64.wrap (a0 + (719468 : Int))) - (IntKind.i64.wrap ((146097 : Int) * r2))))).tdiv (146096 : Int)))))).tdiv (365 : Int)))).tdiv (4 : Int))))) - (IntKind.i64.wrap (((IntKind.i64.wrap (((IntKind.i64.wrap ((IntKind.i64.wrap ((IntKind.i64.wrap ((IntKind.i64.wrap ((IntKind.i64.wrap (a0 + (719468 : Int))) - (IntKind.i64.wrap ((146097 : Int) * r2)))) - (IntKind.i64.wrap (((IntKind.i64.wrap ((IntKind.i64.wrap (a0 + (719468 : Int))) - (IntKind.i64.wrap ((146097 : Int) * r2))))).tdiv (1460 : Int))))) + (IntKind.i64.wrap (((IntKind.i64.wrap ((IntKind.i64.wrap (a0 + (719468 : Int))) - (IntKind.i64.wrap ((146097 : Int) * r2))))).tdiv (36524 : Int))))) - (IntKind.i64.wrap (((IntKind.i64.wrap ((IntKind.i64.wrap (a0 + (719468 : Int))) - (IntKind.i64.wrap ((146097 : Int) * r2))))).tdiv (146096 : Int)))))).tdiv (365 : Int)))).tdiv (100 : Int))))))))) + (2 : Int)))).tdiv (153 : Int))) - (9 : Int))), (IntKind.i64.wrap ((IntKind.i64.wrap ((IntKind.i64.wrap ((IntKind.i64.wrap ((IntKind.i64.wrap (a0 + (719468 : Int))) - (IntKind.i64.wrap ((146097 : Int) * r2)))) - (IntKind.i64.wrap ((IntKind.i64.wrap ((IntKind.i64.wrap ((365 : Int) * (IntKind.i64.wrap (((IntKind.i64.wrap ((IntKind.i64.wrap ((IntKind.i64.wrap ((IntKind.i64.wrap ((IntKind.i64.wrap (a0 + (719468 : Int))) - (IntKind.i64.wrap ((146097 : Int) * r2)))) - (IntKind.i64.wrap (((IntKind.i64.wrap ((IntKind.i64.wrap (a0 + (719468 : Int))) - (IntKind.i64.wrap ((146097 : Int) * r2))))).tdiv (1460 : Int))))) + (IntKind.i64.wrap (((IntKind.i64.wrap ((IntKind.i64.wrap (a0 + (719468 : Int))) - (IntKind.i64.wrap ((146097 : Int) * r2))))).tdiv (36524 : Int))))) - (IntKind.i64.wrap (((IntKind.i64.wrap ((IntKind.i64.wrap (a0 + (719468 : Int))) - (IntKind.i64.wrap ((146097 : Int) * r2))))).tdiv (146096 : Int)))))).tdiv (365 : Int))))) + (IntKind.i64.wrap (((IntKind.i64.wrap (((IntKind.i64.wrap ((IntKind.i64.wrap ((IntKind.i64.wrap ((IntKind.i64.wrap ((IntKind.i64.wrap (a0 + (719468 : Int))) - (IntKind.i64.wrap ((146097 : Int) * r2)))) - (IntKind.i64.wrap (((IntKind.i64.wrap ((IntKind.i64.wrap (a0 + (719468 : Int))) - (IntKind.i64.wrap ((146097 : Int) * r2))))).tdiv (1460 : Int))))) + (IntKind.i64.wrap (((IntKind.i64.wrap ((IntKind.i64.wrap (a0 + (719468 : Int))) - (IntKind.i64.wrap ((146097 : Int) * r2))))).tdiv (36524 : Int))))) - (IntKind.i64.wrap (((IntKind.i64.wrap ((IntKind.i64.wrap (a0 + (719468 : Int))) - (IntKind.i64.wrap ((146097 : Int) * r2))))).tdiv (146096 : Int)))))).tdiv (365 : Int)))).tdiv (4 : Int))))) - (IntKind.i64.wrap (((IntKind.i64.wrap (((IntKind.i64.wrap ((IntKind.i64.wrap ((IntKind.i64.wrap ((IntKind.i64.wrap ((IntKind.i64.wrap (a0 + (719468 : Int))) - (IntKind.i64.wrap ((146097 : Int) * r2)))) - (IntKind.i64.wrap (((IntKind.i64.wrap ((IntKind.i64.wrap (a0 + (719468 : Int))) - (IntKind.i64.wrap ((146097 : Int) * r2))))).tdiv (1460 : Int))))) + (IntKind.i64.wrap (((IntKind.i64.wrap ((IntKind.i64.wrap (a0 + (719468 : Int))) - (IntKind.i64.wrap ((146097 : Int) * r2))))).tdiv (36524 : Int))))) - (IntKind.i64.wrap (((IntKind.i64.wrap ((IntKind.i64.wrap (a0 + (719468 : Int))) - (IntKind.i64.wrap ((146097 : Int) * r2))))).tdiv (146096 : Int)))))).tdiv (365 : Int)))).tdiv (100 : Int))))))) - (IntKind.i64.wrap (((IntKind.i64.wrap ((IntKind.i64.wrap ((153 : Int) * (IntKind.i64.wrap (((IntKind.i64.wrap ((IntKind.i64.wrap ((5 : Int) * (IntKind.i64.wrap ((IntKind.i64.wrap ((IntKind.i64.wrap (a0 + (719468 : Int))) - (IntKind.i64.wrap ((146097 : Int) * r2)))) - (IntKind.i64.wrap ((IntKind.i64.wrap ((IntKind.i64.wrap ((365 : Int) * (IntKind.i64.wrap (((IntKind.i64.wrap ((IntKind.i64.wrap ((IntKind.i64.wrap ((IntKind.i64.wrap ((IntKind.i64.wrap (a0 + (719468 : Int))) - (IntKind.i64.wrap ((146097 : Int) * r2)))) - (IntKind.i64.wrap (((IntKind.i64.wrap ((IntKind.i64.wrap (a0 + (719468 : Int))) - (IntKind.i64.wrap ((146097 : Int) * r2))))).tdiv (1460 : Int))))) + (IntKind.i64.wrap (((IntKind.i64.wrap ((IntKind.i64.wrap (a0 + (719468 : Int))) - (IntKind.i64.wrap ((146097 : Int) * r2))))).tdiv (36524 : Int))))) - (IntKind.i64.wrap (((IntKind.i64.wrap ((IntKind.i64.wrap (a0 + (719468 : Int))) - (IntKind.i64.wrap ((146097 : Int) * r2))))).tdiv (146096 : Int)))))).tdiv (365 : Int))))) + (IntKind.i64.wrap (((IntKind.i64.wrap (((IntKind.i64.wrap ((IntKind.i64.wrap ((IntKind.i64.wrap ((IntKind.i64.wrap ((IntKind.i64.wrap (a0 + (719468 : Int))) - (IntKind.i64.wrap ((146097 : Int) * r2)))) - (IntKind.i64.wrap (((IntKind.i64.wrap ((IntKind.i64.wrap (a0 + (719468 : Int))) - (IntKind.i64.wrap ((146097 : Int) * r2))))).tdiv (1460 : Int))))) + (IntKind.i64.wrap (((IntKind.i64.wrap ((IntKind.i64.wrap (a0 + (719468 : Int))) - (IntKind.i64.wrap ((146097 : Int) * r2))))).tdiv (36524 : Int))))) - (IntKind.i64.wrap (((IntKind.i64.wrap ((IntKind.i64.wrap (a0 + (719468 : Int))) - (IntKind.i64.wrap ((146097 : Int) * r2))))).tdiv (146096 : Int)))))).tdiv (365 : Int)))).tdiv (4 : Int))))) - (IntKind.i64.wrap (((IntKind.i64.wrap (((IntKind.i64.wrap ((IntKind.i64.wrap ((IntKind.i64.wrap ((IntKind.i64.wrap ((IntKind.i64.wrap (a0 + (719468 : Int))) - (IntKind.i64.wrap ((146097 : Int) * r2)))) - (IntKind.i64.wrap (((IntKind.i64.wrap ((IntKind.i64.wrap (a0 + (719468 : Int))) - (IntKind.i64.wrap ((146097 : Int) * r2))))).tdiv (1460 : Int))))) + (IntKind.i64.wrap (((IntKind.i64.wrap ((IntKind.i64.wrap (a0 + (719468 : Int))) - (IntKind.i64.wrap ((146097 : Int) * r2))))).tdiv (36524 : Int))))) - (IntKind.i64.wrap (((IntKind.i64.wrap ((IntKind.i64.wrap (a0 + (719468 : Int))) - (IntKind.i64.wrap ((146097 : Int) * r2))))).tdiv (146096 : Int)))))).tdiv (365 : Int)))).tdiv (100 : Int))))))))) + (2 : Int)))).tdiv (153 : Int))))) + (2 : Int)))).tdiv (5 : Int))))) + (1 : Int)))))))
set_option maxRecDepth 100000 in
theorem f_lumref_date_ok (fu : Nat) (a0 : Int) {r : (Int × Int × Int)} (h : f_lumref_date fu a0 = some r) : FnOk Try.prog 82 [(Value.int .i64 a0)] [] [] (fun (i : Unit) => { val := (Value.tuple #[(Value.int .i64 r.1), (Value.int .i64 r.2.1), (Value.int .i64 r.2.2)]) }) := by
  unfold f_lumref_date at h
  refine fn_enter Try.func82 rfl Try.ntmps82 rfl (fun w0 Z0 => ?_)
  refine aw_seq ?_
  refine aw_region ?_
  refine al_val (ov_assign rfl rfl) ?_
  refine al_val (ov_assign rfl rfl) ?_
  refine al_val (ov_assign rfl rfl) ?_
  refine al_nil ?_
  refine aq_then ?_
  refine aw_seq ?_
  refine aw_region ?_
  refine al_val (ov_move rfl rfl) ?_
  refine al_val (ov_int rfl rfl rfl rfl) ?_
  refine al_val (ov_assign rfl rfl) ?_
  refine al_nil ?_
  refine aq_then ?_
  refine aw_seq ?_
  refine aw_region ?_
  refine al_val (ov_move rfl rfl) ?_
  obtain ⟨r2, hc1, h⟩ := opt_some h
  refine al_call (vs := [(Value.int .i64 (IntKind.i64.wrap (a0 + (719468 : Int)))), (Value.int .i64 (146097 : Int))]) (f_lumref_floor_ok fu (IntKind.i64.wrap (a0 + (719468 : Int))) (146097 : Int) hc1) [] [] [] pre_nil rfl (by simp) (by decide) (.inl rfl) rfl Try.func108 rfl rfl rfl (fun _ => ?_)
  refine al_val (ov_assign rfl rfl) ?_
  refine al_nil ?_
  refine aq_then ?_
  refine aw_seq ?_
  refine aw_region ?_
  refine al_val (ov_move rfl rfl) ?_
  refine al_val (ov_move rfl rfl) ?_
  refine al_val (ov_int rfl rfl rfl rfl) ?_
  refine al_val (ov_int rfl rfl rfl rfl) ?_
  refine al_val (ov_assign rfl rfl) ?_
  refine al_nil ?_
  refine aq_then ?_
  refine aw_seq ?_
  refine aw_region ?_
  refine al_val (ov_move rfl rfl) ?_
  refine al_val (ov_move rfl rfl) ?_
  refine al_val (ov_quo (by decide) rfl rfl rfl) ?_
  refine al_val (ov_int rfl rfl rfl rfl) ?_
  refine al_val (ov_move rfl rfl) ?_
  refine al_val (ov_quo (by decide) rfl rfl rfl) ?_
  refine al_val (ov_int rfl rfl rfl rfl) ?_
  refine al_val (ov_move rfl rfl) ?_
  refine al_val (ov_quo (by decide) rfl rfl rfl) ?_
  refine al_val (ov_int rfl rfl rfl rfl) ?_
  refine al_val (ov_quo (by decide) rfl rfl rfl) ?_
  refine al_val (ov_assign rfl rfl) ?_
  refine al_nil ?_
  refine aq_then ?_
  refine aw_seq ?_
  refine aw_region ?_
  refine al_val (ov_move rfl rfl) ?_
  refine al_val (ov_move rfl rfl) ?_
  refine al_val (ov_int rfl rfl rfl rfl) ?_
  refine al_val (ov_move rfl rfl) ?_
  refine al_val (ov_quo (by decide) rfl rfl rfl) ?_
  refine al_val (ov_int rfl rfl rfl rfl) ?_
  refine al_val (ov_move rfl rfl) ?_
  refine al_val (ov_quo (by decide) rfl rfl rfl) ?_
  refine al_val (ov_int rfl rfl rfl rfl) ?_
  refine al_val (ov_int rfl rfl rfl rfl) ?_
  refine al_val (ov_assign rfl rfl) ?_
  refine al_nil ?_
  refine aq_then ?_
  refine aw_seq ?_
  refine aw_region ?_
  refine al_val (ov_move rfl rfl) ?_
  refine al_val (ov_int rfl rfl rfl rfl) ?_
  refine al_val (ov_int rfl rfl rfl rfl) ?_
  refine al_val (ov_quo (by decide) rfl rfl rfl) ?_
  refine al_val (ov_assign rfl rfl) ?_
  refine al_nil ?_
  refine aq_then ?_
  refine aw_seq ?_
  refine aw_state (m' := (memOf w0 Z0 [] [] [])) (S' := (tab [(5, (Value.int .i64 r2)), (7, (Value.int .i64 (IntKind.i64.wrap (((IntKind.i64.wrap ((IntKind.i64.wrap ((IntKind.i64.wrap ((IntKind.i64.wrap ((IntKind.i64.wrap (a0 + (719468 : Int))) - (IntKind.i64.wrap ((146097 : Int) * r2)))) - (IntKind.i64.wrap (((IntKind.i64.wrap ((IntKind.i64.wrap (a0 + (719468 : Int))) - (IntKind.i64.wrap ((146097 : Int) * r2))))).tdiv (1460 : Int))))) + (IntKind.i64.wrap (((IntKind.i64.wrap ((IntKind.i64.wrap (a0 + (719468 : Int))) - (IntKind.i64.wrap ((146097 : Int) * r2))))).tdiv (36524 : Int))))) - (IntKind.i64.wrap (((IntKind.i64.wrap ((IntKind.i64.wrap (a0 + (719468 : Int))) - (IntKind.i64.wrap ((146097 : Int) * r2))))).tdiv (146096 : Int)))))).tdiv (365 : Int))))), (8, (Value.int .i64 (IntKind.i64.wrap ((IntKind.i64.wrap ((IntKind.i64.wrap (a0 + (719468 : Int))) - (IntKind.i64.wrap ((146097 : Int) * r2)))) - (IntKind.i64.wrap ((IntKind.i64.wrap ((IntKind.i64.wrap ((365 : Int) * (IntKind.i64.wrap (((IntKind.i64.wrap ((IntKind.i64.wrap ((IntKind.i64.wrap ((IntKind.i64.wrap ((IntKind.i64.wrap (a0 + (719468 : Int))) - (IntKind.i64.wrap ((146097 : Int) * r2)))) - (IntKind.i64.wrap (((IntKind.i64.wrap ((IntKind.i64.wrap (a0 + (719468 : Int))) - (IntKind.i64.wrap ((146097 : Int) * r2))))).tdiv (1460 : Int))))) + (IntKind.i64.wrap (((IntKind.i64.wrap ((IntKind.i64.wrap (a0 + (719468 : Int))) - (IntKind.i64.wrap ((146097 : Int) * r2))))).tdiv (36524 : Int))))) - (IntKind.i64.wrap (((IntKind.i64.wrap ((IntKind.i64.wrap (a0 + (719468 : Int))) - (IntKind.i64.wrap ((146097 : Int) * r2))))).tdiv (146096 : Int)))))).tdiv (365 : Int))))) + (IntKind.i64.wrap (((IntKind.i64.wrap (((IntKind.i64.wrap ((IntKind.i64.wrap ((IntKind.i64.wrap ((IntKind.i64.wrap ((IntKind.i64.wrap (a0 + (719468 : Int))) - (IntKind.i64.wrap ((146097 : Int) * r2)))) - (IntKind.i64.wrap (((IntKind.i64.wrap ((IntKind.i64.wrap (a0 + (719468 : Int))) - (IntKind.i64.wrap ((146097 : Int) * r2))))).tdiv (1460 : Int))))) + (IntKind.i64.wrap (((IntKind.i64.wrap ((IntKind.i64.wrap (a0 + (719468 : Int))) - (IntKind.i64.wrap ((146097 : Int) * r2))))).tdiv (36524 : Int))))) - (IntKind.i64.wrap (((IntKind.i64.wrap ((IntKind.i64.wrap (a0 + (719468 : Int))) - (IntKind.i64.wrap ((146097 : Int) * r2))))).tdiv (146096 : Int)))))).tdiv (365 : Int)))).tdiv (4 : Int))))) - (IntKind.i64.wrap (((IntKind.i64.wrap (((IntKind.i64.wrap ((IntKind.i64.wrap ((IntKind.i64.wrap ((IntKind.i64.wrap ((IntKind.i64.wrap (a0 + (719468 : Int))) - (IntKind.i64.wrap ((146097 : Int) * r2)))) - (IntKind.i64.wrap (((IntKind.i64.wrap ((IntKind.i64.wrap (a0 + (719468 : Int))) - (IntKind.i64.wrap ((146097 : Int) * r2))))).tdiv (1460 : Int))))) + (IntKind.i64.wrap (((IntKind.i64.wrap ((IntKind.i64.wrap (a0 + (719468 : Int))) - (IntKind.i64.wrap ((146097 : Int) * r2))))).tdiv (36524 : Int))))) - (IntKind.i64.wrap (((IntKind.i64.wrap ((IntKind.i64.wrap (a0 + (719468 : Int))) - (IntKind.i64.wrap ((146097 : Int) * r2))))).tdiv (146096 : Int)))))).tdiv (365 : Int)))).tdiv (100 : Int))))))))), (9, (Value.int .i64 (IntKind.i64.wrap (((IntKind.i64.wrap ((IntKind.i64.wrap ((5 : Int) * (IntKind.i64.wrap ((IntKind.i64.wrap ((IntKind.i64.wrap (a0 + (719468 : Int))) - (IntKind.i64.wrap ((146097 : Int) * r2)))) - (IntKind.i64.wrap ((IntKind.i64.wrap ((IntKind.i64.wrap ((365 : Int) * (IntKind.i64.wrap (((IntKind.i64.wrap ((IntKind.i64.wrap ((IntKind.i64.wrap ((IntKind.i64.wrap ((IntKind.i64.wrap (a0 + (719468 : Int))) - (IntKind.i64.wrap ((146097 : Int) * r2)))) - (IntKind.i64.wrap (((IntKind.i64.wrap ((IntKind.i64.wrap (a0 + (719468 : Int))) - (IntKind.i64.wrap ((146097 : Int) * r2))))).tdiv (1460 : Int))))) + (IntKind.i64.wrap (((IntKind.i64.wrap ((IntKind.i64.wrap (a0 + (719468 : Int))) - (IntKind.i64.wrap ((146097 : Int) * r2))))).tdiv (36524 : Int))))) - (IntKind.i64.wrap (((IntKind.i64.wrap ((IntKind.i64.wrap (a0 + (719468 : Int))) - (IntKind.i64.wrap ((146097 : Int) * r2))))).tdiv (146096 : Int)))))).tdiv (365 : Int))))) + (IntKind.i64.wrap (((IntKind.i64.wrap (((IntKind.i64.wrap ((IntKind.i64.wrap ((IntKind.i64.wrap ((IntKind.i64.wrap ((IntKind.i64.wrap (a0 + (719468 : Int))) - (IntKind.i64.wrap ((146097 : Int) * r2)))) - (IntKind.i64.wrap (((IntKind.i64.wrap ((IntKind.i64.wrap (a0 + (719468 : Int))) - (IntKind.i64.wrap ((146097 : Int) * r2))))).tdiv (1460 : Int))))) + (IntKind.i64.wrap (((IntKind.i64.wrap ((IntKind.i64.wrap (a0 + (719468 : Int))) - (IntKind.i64.wrap ((146097 : Int) * r2))))).tdiv (36524 : Int))))) - (IntKind.i64.wrap (((IntKind.i64.wrap ((IntKind.i64.wrap (a0 + (719468 : Int))) - (IntKind.i64.wrap ((146097 : Int) * r2))))).tdiv (146096 : Int)))))).tdiv (365 : Int)))).tdiv (4 : Int))))) - (IntKind.i64.wrap (((IntKind.i64.wrap (((IntKind.i64.wrap ((IntKind.i64.wrap ((IntKind.i64.wrap ((IntKind.i64.wrap ((IntKind.i64.wrap (a0 + (719468 : Int))) - (IntKind.i64.wrap ((146097 : Int) * r2)))) - (IntKind.i64.wrap (((IntKind.i64.wrap ((IntKind.i64.wrap (a0 + (719468 : Int))) - (IntKind.i64.wrap ((146097 : Int) * r2))))).tdiv (1460 : Int))))) + (IntKind.i64.wrap (((IntKind.i64.wrap ((IntKind.i64.wrap (a0 + (719468 : Int))) - (IntKind.i64.wrap ((146097 : Int) * r2))))).tdiv (36524 : Int))))) - (IntKind.i64.wrap (((IntKind.i64.wrap ((IntKind.i64.wrap (a0 + (719468 : Int))) - (IntKind.i64.wrap ((146097 : Int) * r2))))).tdiv (146096 : Int)))))).tdiv (365 : Int)))).tdiv (100 : Int))))))))) + (2 : Int)))).tdiv (153 : Int)))))])) ?_ (fun w a hm hs => norm hm hs [] [] [(5, (Value.int .i64 r2)), (7, (Value.int .i64 (IntKind.i64.wrap (((IntKind.i64.wrap ((IntKind.i64.wrap ((IntKind.i64.wrap ((IntKind.i64.wrap ((IntKind.i64.wrap (a0 + (719468 : Int))) - (IntKind.i64.wrap ((146097 : Int) * r2)))) - (IntKind.i64.wrap (((IntKind.i64.wrap ((IntKind.i64.wrap (a0 + (719468 : Int))) - (IntKind.i64.wrap ((146097 : Int) * r2))))).tdiv (1460 : Int))))) + (IntKind.i64.wrap (((IntKind.i64.wrap ((IntKind.i64.wrap (a0 + (719468 : Int))) - (IntKind.i64.wrap ((146097 : Int) * r2))))).tdiv (36524 : Int))))) - (IntKind.i64.wrap (((IntKind.i64.wrap ((IntKind.i64.wrap (a0 + (719468 : Int))) - (IntKind.i64.wrap ((146097 : Int) * r2))))).tdiv (146096 : Int)))))).tdiv (365 : Int))))), (8, (Value.int .i64 (IntKind.i64.wrap ((IntKind.i64.wrap ((IntKind.i64.wrap (a0 + (719468 : Int))) - (IntKind.i64.wrap ((146097 : Int) * r2)))) - (IntKind.i64.wrap ((IntKind.i64.wrap ((IntKind.i64.wrap ((365 : Int) * (IntKind.i64.wrap (((IntKind.i64.wrap ((IntKind.i64.wrap ((IntKind.i64.wrap ((IntKind.i64.wrap ((IntKind.i64.wrap (a0 + (719468 : Int))) - (IntKind.i64.wrap ((146097 : Int) * r2)))) - (IntKind.i64.wrap (((IntKind.i64.wrap ((IntKind.i64.wrap (a0 + (719468 : Int))) - (IntKind.i64.wrap ((146097 : Int) * r2))))).tdiv (1460 : Int))))) + (IntKind.i64.wrap (((IntKind.i64.wrap ((IntKind.i64.wrap (a0 + (719468 : Int))) - (IntKind.i64.wrap ((146097 : Int) * r2))))).tdiv (36524 : Int))))) - (IntKind.i64.wrap (((IntKind.i64.wrap ((IntKind.i64.wrap (a0 + (719468 : Int))) - (IntKind.i64.wrap ((146097 : Int) * r2))))).tdiv (146096 : Int)))))).tdiv (365 : Int))))) + (IntKind.i64.wrap (((IntKind.i64.wrap (((IntKind.i64.wrap ((IntKind.i64.wrap ((IntKind.i64.wrap ((IntKind.i64.wrap ((IntKind.i64.wrap (a0 + (719468 : Int))) - (IntKind.i64.wrap ((146097 : Int) * r2)))) - (IntKind.i64.wrap (((IntKind.i64.wrap ((IntKind.i64.wrap (a0 + (719468 : Int))) - (IntKind.i64.wrap ((146097 : Int) * r2))))).tdiv (1460 : Int))))) + (IntKind.i64.wrap (((IntKind.i64.wrap ((IntKind.i64.wrap (a0 + (719468 : Int))) - (IntKind.i64.wrap ((146097 : Int) * r2))))).tdiv (36524 : Int))))) - (IntKind.i64.wrap (((IntKind.i64.wrap ((IntKind.i64.wrap (a0 + (719468 : Int))) - (IntKind.i64.wrap ((146097 : Int) * r2))))).tdiv (146096 : Int)))))).tdiv (365 : Int)))).tdiv (4 : Int))))) - (IntKind.i64.wrap (((IntKind.i64.wrap (((IntKind.i64.wrap ((IntKind.i64.wrap ((IntKind.i64.wrap ((IntKind.i64.wrap ((IntKind.i64.wrap (a0 + (719468 : Int))) - (IntKind.i64.wrap ((146097 : Int) * r2)))) - (IntKind.i64.wrap (((IntKind.i64.wrap ((IntKind.i64.wrap (a0 + (719468 : Int))) - (IntKind.i64.wrap ((146097 : Int) * r2))))).tdiv (1460 : Int))))) + (IntKind.i64.wrap (((IntKind.i64.wrap ((IntKind.i64.wrap (a0 + (719468 : Int))) - (IntKind.i64.wrap ((146097 : Int) * r2))))).tdiv (36524 : Int))))) - (IntKind.i64.wrap (((IntKind.i64.wrap ((IntKind.i64.wrap (a0 + (719468 : Int))) - (IntKind.i64.wrap ((146097 : Int) * r2))))).tdiv (146096 : Int)))))).tdiv (365 : Int)))).tdiv (100 : Int))))))))), (9, (Value.int .i64 (IntKind.i64.wrap (((IntKind.i64.wrap ((IntKind.i64.wrap ((5 : Int) * (IntKind.i64.wrap ((IntKind.i64.wrap ((IntKind.i64.wrap (a0 + (719468 : Int))) - (IntKind.i64.wrap ((146097 : Int) * r2)))) - (IntKind.i64.wrap ((IntKind.i64.wrap ((IntKind.i64.wrap ((365 : Int) * (IntKind.i64.wrap (((IntKind.i64.wrap ((IntKind.i64.wrap ((IntKind.i64.wrap ((IntKind.i64.wrap ((IntKind.i64.wrap (a0 + (719468 : Int))) - (IntKind.i64.wrap ((146097 : Int) * r2)))) - (IntKind.i64.wrap (((IntKind.i64.wrap ((IntKind.i64.wrap (a0 + (719468 : Int))) - (IntKind.i64.wrap ((146097 : Int) * r2))))).tdiv (1460 : Int))))) + (IntKind.i64.wrap (((IntKind.i64.wrap ((IntKind.i64.wrap (a0 + (719468 : Int))) - (IntKind.i64.wrap ((146097 : Int) * r2))))).tdiv (36524 : Int))))) - (IntKind.i64.wrap (((IntKind.i64.wrap ((IntKind.i64.wrap (a0 + (719468 : Int))) - (IntKind.i64.wrap ((146097 : Int) * r2))))).tdiv (146096 : Int)))))).tdiv (365 : Int))))) + (IntKind.i64.wrap (((IntKind.i64.wrap (((IntKind.i64.wrap ((IntKind.i64.wrap ((IntKind.i64.wrap ((IntKind.i64.wrap ((IntKind.i64.wrap (a0 + (719468 : Int))) - (IntKind.i64.wrap ((146097 : Int) * r2)))) - (IntKind.i64.wrap (((IntKind.i64.wrap ((IntKind.i64.wrap (a0 + (719468 : Int))) - (IntKind.i64.wrap ((146097 : Int) * r2))))).tdiv (1460 : Int))))) + (IntKind.i64.wrap (((IntKind.i64.wrap ((IntKind.i64.wrap (a0 + (719468 : Int))) - (IntKind.i64.wrap ((146097 : Int) * r2))))).tdiv (36524 : Int))))) - (IntKind.i64.wrap (((IntKind.i64.wrap ((IntKind.i64.wrap (a0 + (719468 : Int))) - (IntKind.i64.wrap ((146097 : Int) * r2))))).tdiv (146096 : Int)))))).tdiv (365 : Int)))).tdiv (4 : Int))))) - (IntKind.i64.wrap (((IntKind.i64.wrap (((IntKind.i64.wrap ((IntKind.i64.wrap ((IntKind.i64.wrap ((IntKind.i64.wrap ((IntKind.i64.wrap (a0 + (719468 : Int))) - (IntKind.i64.wrap ((146097 : Int) * r2)))) - (IntKind.i64.wrap (((IntKind.i64.wrap ((IntKind.i64.wrap (a0 + (719468 : Int))) - (IntKind.i64.wrap ((146097 : Int) * r2))))).tdiv (1460 : Int))))) + (IntKind.i64.wrap (((IntKind.i64.wrap ((IntKind.i64.wrap (a0 + (719468 : Int))) - (IntKind.i64.wrap ((146097 : Int) * r2))))).tdiv (36524 : Int))))) - (IntKind.i64.wrap (((IntKind.i64.wrap ((IntKind.i64.wrap (a0 + (719468 : Int))) - (IntKind.i64.wrap ((146097 : Int) * r2))))).tdiv (146096 : Int)))))).tdiv (365 : Int)))).tdiv (100 : Int))))))))) + (2 : Int)))).tdiv (153 : Int)))))] (by decide) ⟨rfl, rfl, rfl, rfl, trivial⟩)
  refine aw_region ?_
  refine al_val (ov_move rfl rfl) ?_
  refine al_val (ov_move rfl rfl) ?_
  refine al_val (ov_int rfl rfl rfl rfl) ?_
  refine al_val (ov_int rfl rfl rfl rfl) ?_
  refine al_val (ov_quo (by decide) rfl rfl rfl) ?_
  refine al_val (ov_int rfl rfl rfl rfl) ?_
  refine al_val (ov_int rfl rfl rfl rfl) ?_
  refine al_val (ov_assign rfl rfl) ?_
  refine al_nil ?_
  refine aq_then ?_
  refine aw_seq ?_
  refine aw_seq ?_
  refine aw_region ?_
  refine al_val (ov_move rfl rfl) ?_
  refine al_val (ov_int rfl rfl rfl rfl) ?_
  refine al_nil ?_
  refine aq_then ?_
  refine aw_cond rfl (fun hb3 => ?_) (fun hb3 => ?_)
  · replace h := bif_t hb3 h
    refine aw_seq ?_
    refine aw_region ?_
    refine al_val (ov_move rfl rfl) ?_
    refine al_val (ov_int rfl rfl rfl rfl) ?_
    refine al_val (ov_move rfl rfl) ?_
    refine al_val (ov_int rfl rfl rfl rfl) ?_
    refine al_val (ov_move rfl rfl) ?_
    refine al_val (ov_int rfl rfl rfl rfl) ?_
    refine al_val (ov_move rfl rfl) ?_
    refine al_val (ov_assign rfl rfl) ?_
    refine al_val (ov_assign rfl rfl) ?_
    refine al_val (ov_assign rfl rfl) ?_
    refine al_nil ?_
    refine aq_then ?_
    refine aw_ret ?_
    refine aq_then_ret ?_
    obtain rfl := Option.some.inj h
    exact fn_ret () [] [] rfl rfl rfl rfl (res3 rfl rfl rfl rfl) rfl rfl rfl (by decide)
  · replace h := bif_f hb3 h
    refine aw_skip ?_
    refine aq_then ?_
    refine aw_seq ?_
    refine aw_region ?_
    refine al_val (ov_move rfl rfl) ?_
    refine al_val (ov_int rfl rfl rfl rfl) ?_
    refine al_val (ov_move rfl rfl) ?_
    refine al_val (ov_int rfl rfl rfl rfl) ?_
    refine al_val (ov_int rfl rfl rfl rfl) ?_
    refine al_val (ov_move rfl rfl) ?_
    refine al_val (ov_int rfl rfl rfl rfl) ?_
    refine al_val (ov_move rfl rfl) ?_
    refine al_val (ov_assign rfl rfl) ?_
    refine al_val (ov_assign rfl rfl) ?_
    refine al_val (ov_assign rfl rfl) ?_
    refine al_nil ?_
    refine aq_then ?_
    refine aw_ret ?_
    obtain rfl := Option.some.inj h
    exact fn_ret () [] [] rfl rfl rfl rfl (res3 rfl rfl rfl rfl) rfl rfl rfl (by decide)
def f_lumref_DayOK (fu : Nat) (a0 : Int) : Option Int := (lt (fun (j1b8 : Bool) => (bif j1b8 then (some (1 : Int)) else (some (0 : Int)))) fun (kk2 : Bool → Option Int) => (bif (decide (a0 < (-719162 : Int))) then (kk2 true) else (kk2 (decide (a0 > (2932896 : Int))))))
set_option maxRecDepth 100000 in
theorem f_lumref_DayOK_ok (fu : Nat) (a0 : Int) {r : Int} (h : f_lumref_DayOK fu a0 = some r) : FnOk Try.prog 121 [(Value.int .i64 a0)] [] [] (fun (i : Unit) => { val := (Value.int .i64 r) }) := by
  unfold f_lumref_DayOK at h
  refine fn_enter Try.func121 rfl Try.ntmps121 rfl (fun w0 Z0 => ?_)
  refine aw_seq ?_
  refine aw_region ?_
  refine al_val (ov_assign rfl rfl) ?_
  refine al_nil ?_
  refine aq_then ?_
  refine aw_seq ?_
  obtain ⟨kk2, hkk2, h⟩ := lt_some h
  refine aw_seq_join (ι := Bool) (fun i => (memOf w0 Z0 [] [] [])) (fun i => (tab [(8, (Value.bool i))])) (fun i => kk2 i = some r) ?_ ?_
  · rintro j1b8 h
    have h : kk2 j1b8 = some r := h
    rw [hkk2] at h
    dsimp only at h
    clear hkk2
    refine aw_show (m := (memOf w0 Z0 [] [] [])) (S := (tab [(8, (Value.bool j1b8))])) ?_
    refine aw_cond rfl (fun hb3 => ?_) (fun hb3 => ?_)
    · replace h := bif_t hb3 h
      refine aw_seq ?_
      refine aw_region ?_
      refine al_val (ov_assign rfl rfl) ?_
      refine al_nil ?_
      refine aq_then ?_
      refine aw_ret ?_
      refine aq_then_ret ?_
      obtain rfl := Option.some.inj h
      exact fn_ret () [] [] rfl rfl rfl rfl (res1 rfl rfl) rfl rfl rfl (by decide)
    · replace h := bif_f hb3 h
      refine aw_skip ?_
      refine aq_then ?_
      refine aw_seq ?_
      refine aw_region ?_
      refine al_val (ov_assign rfl rfl) ?_
      refine al_nil ?_
      refine aq_then ?_
      refine aw_ret ?_
      obtain rfl := Option.some.inj h
      exact fn_ret () [] [] rfl rfl rfl rfl (res1 rfl rfl) rfl rfl rfl (by decide)
  · clear hkk2
    refine aw_region ?_
    refine al_val (ov_move rfl rfl) ?_
    refine al_val (ov_int rfl rfl rfl rfl) ?_
    refine al_val (ov_move rfl rfl) ?_
    refine al_caseB 5 rfl (fun hb4 => ?_) (fun hb4 => ?_)
    · replace h := bif_t hb4 h
      refine al_skip ?_
      refine al_skip ?_
      refine al_val (ov_pick_t rfl rfl rfl) ?_
      refine al_nil ?_
      exact aq_join true h (fun w a hm hs => norm hm hs [] [] [(8, (Value.bool true))] (by decide) ⟨rfl, trivial⟩)
    · replace h := bif_f hb4 h
      refine al_val (ov_move rfl rfl) ?_
      refine al_val (ov_int rfl rfl rfl rfl) ?_
      refine al_val (ov_pick_f rfl rfl rfl) ?_
      refine al_nil ?_
      exact aq_join (decide (a0 > (2932896 : Int))) h (fun w a hm hs => norm hm hs [] [] [(8, (Value.bool (decide (a0 > (2932896 : Int)))))] (by decide) ⟨rfl, trivial⟩)
def f_lumref_Weekday (fu : Nat) (a0 : Int) : Option (Int × Int) := (opt (f_lumref_DayOK fu a0) fun (r2 : Int) => (bif (r2 != (0 : Int)) then (some ((0 : Int), (1 : Int))) else (opt (f_lumref_floor fu a0 (7 : Int)) fun (r5 : Int) => (some ((IntKind.i64.wrap ((((IntKind.i64.wrap ((IntKind.i64.wrap (a0 - (IntKind.i64.wrap (r5 * (7 : Int))))) + (3 : Int)))).tmod (7 : Int)) + (1 : Int))), (0 : Int))))))
set_option maxRecDepth 100000 in
theorem f_lumref_Weekday_ok (fu : Nat) (a0 : Int) {r : (Int × Int)} (h : f_lumref_Weekday fu a0 = some r) : FnOk Try.prog 109 [(Value.int .i64 a0)] [] [] (fun (i : Unit) => { val := (Value.tuple #[(Value.int .i64 r.1), (Value.int .i64 r.2)]) }) := by
  unfold f_lumref_Weekday at h
  refine fn_enter Try.func109 rfl Try.ntmps109 rfl (fun w0 Z0 => ?_)
  refine aw_seq ?_
  refine aw_region ?_
  refine al_val (ov_assign rfl rfl) ?_
  refine al_val (ov_assign rfl rfl) ?_
  refine al_nil ?_
  refine aq_then ?_
  refine aw_seq ?_
  refine aw_seq ?_
  refine aw_region ?_
  refine al_val (ov_move rfl rfl) ?_
  obtain ⟨r2, hc1, h⟩ := opt_some h
  refine al_call (vs := [(Value.int .i64 a0)]) (f_lumref_DayOK_ok fu a0 hc1) [] [] [] pre_nil rfl (by simp) (by decide) (.inl rfl) rfl Try.func121 rfl rfl rfl (fun _ => ?_)
  refine al_val (ov_int rfl rfl rfl rfl) ?_
  refine al_nil ?_
  refine aq_then ?_
  refine aw_cond rfl (fun hb3 => ?_) (fun hb3 => ?_)
  · replace h := bif_t hb3 h
    refine aw_seq ?_
    refine aw_region ?_
    refine al_val (ov_assign rfl rfl) ?_
    refine al_val (ov_assign rfl rfl) ?_
    refine al_nil ?_
    refine aq_then ?_
    refine aw_ret ?_
    refine aq_then_ret ?_
    obtain rfl := Option.some.inj h
    exact fn_ret () [] [] rfl rfl rfl rfl (res2 rfl rfl rfl) rfl rfl rfl (by decide)
  · replace h := bif_f hb3 h
    refine aw_skip ?_
    refine aq_then ?_
    refine aw_seq ?_
    refine aw_region ?_
    refine al_val (ov_move rfl rfl) ?_
    refine al_val (ov_move rfl rfl) ?_
    obtain ⟨r5, hc4, h⟩ := opt_some h
    refine al_call (vs := [(Value.int .i64 a0), (Value.int .i64 (7 : Int))]) (f_lumref_floor_ok fu a0 (7 : Int) hc4) [] [] [] pre_nil rfl (by simp) (by decide) (.inl rfl) rfl Try.func108 rfl rfl rfl (fun _ => ?_)
    refine al_val (ov_int rfl rfl rfl rfl) ?_
    refine al_val (ov_int rfl rfl rfl rfl) ?_
    refine al_val (ov_int rfl rfl rfl rfl) ?_
    refine al_val (ov_rem (by decide) rfl rfl rfl) ?_
    refine al_val (ov_int rfl rfl rfl rfl) ?_
    refine al_val (ov_assign rfl rfl) ?_
    refine al_val (ov_assign rfl rfl) ?_
    refine al_nil ?_
    refine aq_then ?_
    refine aw_ret ?_
    obtain rfl := Option.some.inj h
    exact fn_ret () [] [] rfl rfl rfl rfl (res2 rfl rfl rfl) rfl rfl rfl (by decide)
def f_lumref_days (fu : Nat) (a0 : Int) (a1 : Int) (a2 : Int) : Option Int := (lt (fun (j1i0 : Int) (j1i1 : Int) => (opt (f_lumref_floor fu j1i0 (4 : Int)) fun (r4 : Int) => (opt (f_lumref_floor fu j1i0 (100 : Int)) fun (r6 : Int) => (opt (f_lumref_floor fu j1i0 (400 : Int)) fun (r8 : Int) => (some (IntKind.i64.wrap ((IntKind.i64.wrap ((IntKind.i64.wrap ((IntKind.i64.wrap ((IntKind.i64.wrap ((IntKind.i64.wrap ((IntKind.i64.wrap ((IntKind.i64.wrap ((365 : Int) * j1i0)) + r4)) - r6)) + r8)) + (IntKind.i64.wrap (((IntKind.i64.wrap ((IntKind.i64.wrap ((153 : Int) * (IntKind.i64.wrap (j1i1 - (3 : Int))))) + (2 : Int)))).tdiv (5 : Int))))) + a2)) - (1 : Int))) - (719468 : Int)))))))) fun (kk2 : Int → Int → Option Int) => (bif (decide (a1 ≤ (2 : Int))) then (kk2 (IntKind.i64.wrap (a0 - (1 : Int))) (IntKind.i64.wrap (a1 + (12 : Int)))) else (kk2 a0 a1)))
set_option maxRecDepth 100000 in
theorem f_lumref_days_ok (fu : Nat) (a0 : Int) (a1 : Int) (a2 : Int) {r : Int} (h : f_lumref_days fu a0 a1 a2 = some r) : FnOk Try.prog 110 [(Value.int .i64 a0), (Value.int .i64 a1), (Value.int .i64 a2)] [] [] (fun (i : Unit) => { val := (Value.int .i64 r) }) := by
  unfold f_lumref_days at h
  refine fn_enter Try.func110 rfl Try.ntmps110 rfl (fun w0 Z0 => ?_)
  refine aw_seq ?_
  refine aw_region ?_
  refine al_val (ov_assign rfl rfl) ?_
  refine al_nil ?_
  refine aq_then ?_
  obtain ⟨kk2, hkk2, h⟩ := lt_some h
  refine aw_seq_join (ι := Int × Int) (fun i => (memOf w0 Z0 [] [] [])) (fun i => (tab [(0, (Value.int .i64 i.1)), (1, (Value.int .i64 i.2)), (2, (Value.int .i64 a2))])) (fun i => kk2 i.1 i.2 = some r) ?_ ?_
  · rintro ⟨j1i0, j1i1⟩ h
    have h : kk2 j1i0 j1i1 = some r := h
    rw [hkk2] at h
    dsimp only at h
    clear hkk2
    refine aw_show (m := (memOf w0 Z0 [] [] [])) (S := (tab [(0, (Value.int .i64 j1i0)), (1, (Value.int .i64 j1i1)), (2, (Value.int .i64 a2))])) ?_
    refine aw_seq ?_
    refine aw_region ?_
    refine al_val (ov_move rfl rfl) ?_
    refine al_val (ov_int rfl rfl rfl rfl) ?_
    refine al_val (ov_move rfl rfl) ?_
    obtain ⟨r4, hc3, h⟩ := opt_some h
    refine al_call (vs := [(Value.int .i64 j1i0), (Value.int .i64 (4 : Int))]) (f_lumref_floor_ok fu j1i0 (4 : Int) hc3) [] [] [] pre_nil rfl (by simp) (by decide) (.inl rfl) rfl Try.func108 rfl rfl rfl (fun _ => ?_)
    refine al_val (ov_int rfl rfl rfl rfl) ?_
    refine al_val (ov_move rfl rfl) ?_
    obtain ⟨r6, hc5, h⟩ := opt_some h
    refine al_call (vs := [(Value.int .i64 j1i0), (Value.int .i64 (100 : Int))]) (f_lumref_floor_ok fu j1i0 (100 : Int) hc5) [] [] [] pre_nil rfl (by simp) (by decide) (.inl rfl) rfl Try.func108 rfl rfl rfl (fun _ => ?_)
    refine al_val (ov_int rfl rfl rfl rfl) ?_
    refine al_val (ov_move rfl rfl) ?_
    obtain ⟨r8, hc7, h⟩ := opt_some h
    refine al_call (vs := [(Value.int .i64 j1i0), (Value.int .i64 (400 : Int))]) (f_lumref_floor_ok fu j1i0 (400 : Int) hc7) [] [] [] pre_nil rfl (by simp) (by decide) (.inl rfl) rfl Try.func108 rfl rfl rfl (fun _ => ?_)
    refine al_val (ov_int rfl rfl rfl rfl) ?_
    refine al_val (ov_move rfl rfl) ?_
    refine al_val (ov_int rfl rfl rfl rfl) ?_
    refine al_val (ov_int rfl rfl rfl rfl) ?_
    refine al_val (ov_int rfl rfl rfl rfl) ?_
    refine al_val (ov_quo (by decide) rfl rfl rfl) ?_
    refine al_val (ov_int rfl rfl rfl rfl) ?_
    refine al_val (ov_move rfl rfl) ?_
    refine al_val (ov_int rfl rfl rfl rfl) ?_
    refine al_val (ov_int rfl rfl rfl rfl) ?_
    refine al_val (ov_int rfl rfl rfl rfl) ?_
    refine al_val (ov_assign rfl rfl) ?_
    refine al_nil ?_
    refine aq_then ?_
    refine aw_ret ?_
    obtain rfl := Option.some.inj h
    exact fn_ret () [] [] rfl rfl rfl rfl (res1 rfl rfl) rfl rfl rfl (by decide)
  · clear hkk2
    refine aw_seq ?_
    refine aw_region ?_
    refine al_val (ov_move rfl rfl) ?_
    refine al_val (ov_int rfl rfl rfl rfl) ?_
    refine al_nil ?_
    refine aq_then ?_
    refine aw_cond rfl (fun hb9 => ?_) (fun hb9 => ?_)
    · replace h := bif_t hb9 h
      refine aw_seq ?_
      refine aw_region ?_
      refine al_val (ov_move rfl rfl) ?_
      refine al_val (ov_int rfl rfl rfl rfl) ?_
      refine al_val (ov_assign rfl rfl) ?_
      refine al_nil ?_
      refine aq_then ?_
      refine aw_region ?_
      refine al_val (ov_move rfl rfl) ?_
      refine al_val (ov_int rfl rfl rfl rfl) ?_
      refine al_val (ov_assign rfl rfl) ?_
      refine al_nil ?_
      exact aq_join ((IntKind.i64.wrap (a0 - (1 : Int))), (IntKind.i64.wrap (a1 + (12 : Int)))) h (fun w a hm hs => norm hm hs [] [] [(0, (Value.int .i64 (IntKind.i64.wrap (a0 - (1 : Int))))), (1, (Value.int .i64 (IntKind.i64.wrap (a1 + (12 : Int))))), (2, (Value.int .i64 a2))] (by decide) ⟨rfl, rfl, rfl, trivial⟩)
    · replace h := bif_f hb9 h
      refine aw_skip ?_
      exact aq_join (a0, a1) h (fun w a hm hs => norm hm hs [] [] [(0, (Value.int .i64 a0)), (1, (Value.int .i64 a1)), (2, (Value.int .i64 a2))] (by decide) ⟨rfl, rfl, rfl, trivial⟩)
def f_lumref_Week_L10 (r5 : (Int × Int × Int)) (kk7 : (Int → Option (Int × Int × Int))) (fu : Nat) : Nat → Int → Int → Option (Int × Int × Int)
  | 0, _, _ => none
  | k9 + 1, l8i11, l8i12 => (opt (f_lumref_days fu r5.1 (1 : Int) (1 : Int)) fun (r12 : Int) => (bif (decide (l8i12 ≥ r12)) then (f_lumref_Week_L10 r5 kk7 fu k9 (IntKind.i64.wrap (l8i11 + (1 : Int))) (IntKind.i64.wrap (l8i12 - (7 : Int)))) else (kk7 l8i11)))
def f_lumref_Week (fu : Nat) (a0 : Int) : Option (Int × Int × Int) := (opt (f_lumref_Weekday fu a0) fun (r2 : (Int × Int)) => (bif (r2.2 != (0 : Int)) then (some ((0 : Int), (0 : Int), r2.2)) else (opt (f_lumref_date fu (IntKind.i64.wrap ((IntKind.i64.wrap (a0 + (4 : Int))) - r2.1))) fun (r5 : (Int × Int × Int)) => (lt (fun (j6i11 : Int) => (some (r5.1, j6i11, (0 : Int)))) fun (kk7 : Int → Option (Int × Int × Int)) => (f_lumref_Week_L10 r5 kk7 fu fu (1 : Int) (IntKind.i64.wrap ((IntKind.i64.wrap ((IntKind.i64.wrap (a0 + (4 : Int))) - r2.1)) - (7 : Int))))))))
set_option maxRecDepth 100000 in
theorem f_lumref_Week_ok (fu : Nat) (a0 : Int) {r : (Int × Int × Int)} (h : f_lumref_Week fu a0 = some r) : FnOk Try.prog 83 [(Value.int .i64 a0)] [] [] (fun (i : Unit) => { val := (Value.tuple #[(Value.int .i64 r.1), (Value.int .i64 r.2.1), (Value.int .i64 r.2.2)]) }) := by
  unfold f_lumref_Week at h
  refine fn_enter Try.func83 rfl Try.ntmps83 rfl (fun w0 Z0 => ?_)
  refine aw_seq ?_
  refine aw_region ?_
  refine al_val (ov_assign rfl rfl) ?_
  refine al_val (ov_assign rfl rfl) ?_
  refine al_val (ov_assign rfl rfl) ?_
  refine al_nil ?_
  refine aq_then ?_
  refine aw_seq ?_
  refine aw_region ?_
  refine al_val (ov_move rfl rfl) ?_
  obtain ⟨r2, hc1, h⟩ := opt_some h
  refine al_call (vs := [(Value.int .i64 a0)]) (f_lumref_Weekday_ok fu a0 hc1) [] [] [] pre_nil rfl (by simp) (by decide) (.inl rfl) rfl Try.func109 rfl rfl rfl (fun _ => ?_)
  refine al_val (ov_move rfl rfl) ?_
  refine al_val (ov_extract rfl rfl rfl) ?_
  refine al_val (ov_extract rfl rfl rfl) ?_
  refine al_val (ov_assign rfl rfl) ?_
  refine al_val (ov_assign rfl rfl) ?_
  refine al_nil ?_
  refine aq_then ?_
  refine aw_seq ?_
  refine aw_seq ?_
  refine aw_region ?_
  refine al_val (ov_move rfl rfl) ?_
  refine al_val (ov_int rfl rfl rfl rfl) ?_
  refine al_nil ?_
  refine aq_then ?_
  refine aw_cond rfl (fun hb3 => ?_) (fun hb3 => ?_)
  · replace h := bif_t hb3 h
    refine aw_seq ?_
    refine aw_region ?_
    refine al_val (ov_move rfl rfl) ?_
    refine al_val (ov_assign rfl rfl) ?_
    refine al_val (ov_assign rfl rfl) ?_
    refine al_val (ov_assign rfl rfl) ?_
    refine al_nil ?_
    refine aq_then ?_
    refine aw_ret ?_
    refine aq_then_ret ?_
    obtain rfl := Option.some.inj h
    exact fn_ret () [] [] rfl rfl rfl rfl (res3 rfl rfl rfl rfl) rfl rfl rfl (by decide)
  · replace h := bif_f hb3 h
    refine aw_skip ?_
    refine aq_then ?_
    refine aw_seq ?_
    refine aw_region ?_
    refine al_val (ov_move rfl rfl) ?_
    refine al_val (ov_int rfl rfl rfl rfl) ?_
    refine al_val (ov_move rfl rfl) ?_
    refine al_val (ov_int rfl rfl rfl rfl) ?_
    refine al_val (ov_assign rfl rfl) ?_
    refine al_nil ?_
    refine aq_then ?_
    refine aw_seq ?_
    refine aw_region ?_
    refine al_val (ov_move rfl rfl) ?_
    obtain ⟨r5, hc4, h⟩ := opt_some h
    refine al_call (vs := [(Value.int .i64 (IntKind.i64.wrap ((IntKind.i64.wrap (a0 + (4 : Int))) - r2.1)))]) (f_lumref_date_ok fu (IntKind.i64.wrap ((IntKind.i64.wrap (a0 + (4 : Int))) - r2.1)) hc4) [] [] [] pre_nil rfl (by simp) (by decide) (.inl rfl) rfl Try.func82 rfl rfl rfl (fun _ => ?_)
    refine al_val (ov_move rfl rfl) ?_
    refine al_val (ov_extract rfl rfl rfl) ?_
    refine al_val (ov_extract rfl rfl rfl) ?_
    refine al_val (ov_extract rfl rfl rfl) ?_
    refine al_val (ov_assign rfl rfl) ?_
    refine al_val (ov_assign rfl rfl) ?_
    refine al_val (ov_assign rfl rfl) ?_
    refine al_nil ?_
    refine aq_then ?_
    refine aw_seq ?_
    refine aw_region ?_
    refine al_val (ov_assign rfl rfl) ?_
    refine al_nil ?_
    refine aq_then ?_
    obtain ⟨kk7, hkk7, h⟩ := lt_some h
    refine aw_seq_join (ι := Int) (fun i => (memOf w0 Z0 [] [] [])) (fun i => (tab [(8, (Value.int .i64 r5.1)), (11, (Value.int .i64 i))])) (fun i => kk7 i = some r) ?_ ?_
    · rintro j6i11 h
      have h : kk7 j6i11 = some r := h
      rw [hkk7] at h
      dsimp only at h
      clear hkk7
      refine aw_show (m := (memOf w0 Z0 [] [] [])) (S := (tab [(8, (Value.int .i64 r5.1)), (11, (Value.int .i64 j6i11))])) ?_
      refine aw_seq ?_
      refine aw_region ?_
      refine al_val (ov_move rfl rfl) ?_
      refine al_val (ov_move rfl rfl) ?_
      refine al_val (ov_assign rfl rfl) ?_
      refine al_val (ov_assign rfl rfl) ?_
      refine al_val (ov_assign rfl rfl) ?_
      refine al_nil ?_
      refine aq_then ?_
      refine aw_ret ?_
      obtain rfl := Option.some.inj h
      exact fn_ret () [] [] rfl rfl rfl rfl (res3 rfl rfl rfl rfl) rfl rfl rfl (by decide)
    · clear hkk7
      refine aw_seq ?_
      refine aw_region ?_
      refine al_val (ov_move rfl rfl) ?_
      refine al_val (ov_int rfl rfl rfl rfl) ?_
      refine al_val (ov_assign rfl rfl) ?_
      refine al_nil ?_
      refine aq_then ?_
      refine aw_block ?_
      refine aw_state (aw_loop (ι := Int × Int) (fun i => (memOf w0 Z0 [] [] [])) (fun i => (tab [(8, (Value.int .i64 r5.1)), (11, (Value.int .i64 i.1)), (12, (Value.int .i64 i.2))])) (fun q i => f_lumref_Week_L10 r5 kk7 fu q i.1 i.2 = some r) ?_ fu ((1 : Int), (IntKind.i64.wrap ((IntKind.i64.wrap ((IntKind.i64.wrap (a0 + (4 : Int))) - r2.1)) - (7 : Int)))) h) (fun w a hm hs => norm hm hs [] [] [(8, (Value.int .i64 r5.1)), (11, (Value.int .i64 (1 : Int))), (12, (Value.int .i64 (IntKind.i64.wrap ((IntKind.i64.wrap ((IntKind.i64.wrap (a0 + (4 : Int))) - r2.1)) - (7 : Int)))))] (by decide) ⟨rfl, rfl, rfl, trivial⟩)
      clear h
      rintro k9 ⟨l8i11, l8i12⟩ h
      have h : f_lumref_Week_L10 r5 kk7 fu k9 l8i11 l8i12 = some r := h
      obtain _ | k9 := k9
      · rw [f_lumref_Week_L10] at h; cases h
      rw [f_lumref_Week_L10] at h
      refine aw_show (m := (memOf w0 Z0 [] [] [])) (S := (tab [(8, (Value.int .i64 r5.1)), (11, (Value.int .i64 l8i11)), (12, (Value.int .i64 l8i12))])) ?_
      refine aw_seq ?_
      refine aw_seq ?_
      refine aw_region ?_
      refine al_val (ov_move rfl rfl) ?_
      refine al_val (ov_move rfl rfl) ?_
      obtain ⟨r12, hc11, h⟩ := opt_some h
      refine al_call (vs := [(Value.int .i64 r5.1), (Value.int .i64 (1 : Int)), (Value.int .i64 (1 : Int))]) (f_lumref_days_ok fu r5.1 (1 : Int) (1 : Int) hc11) [] [] [] pre_nil rfl (by simp) (by decide) (.inl rfl) rfl Try.func110 rfl rfl rfl (fun _ => ?_)
      refine al_val (ov_int rfl rfl rfl rfl) ?_
      refine al_nil ?_
      refine aq_then ?_
      refine aw_cond rfl (fun hb13 => ?_) (fun hb13 => ?_)
      · replace h := bif_t hb13 h
        refine aw_skip ?_
        refine aq_then ?_
        refine aw_seq ?_
        refine aw_block ?_
        refine aw_region ?_
        refine al_val (ov_move rfl rfl) ?_
        refine al_val (ov_int rfl rfl rfl rfl) ?_
        refine al_val (ov_assign rfl rfl) ?_
        refine al_nil ?_
        refine aq_block ?_
        refine aq_then ?_
        refine aw_region ?_
        refine al_val (ov_move rfl rfl) ?_
        refine al_val (ov_int rfl rfl rfl rfl) ?_
        refine al_val (ov_assign rfl rfl) ?_
        refine al_nil ?_
        exact aq_again k9 ((IntKind.i64.wrap (l8i11 + (1 : Int))), (IntKind.i64.wrap (l8i12 - (7 : Int)))) (Nat.lt_succ_self _) h (fun w a hm hs => norm hm hs [] [] [(8, (Value.int .i64 r5.1)), (11, (Value.int .i64 (IntKind.i64.wrap (l8i11 + (1 : Int))))), (12, (Value.int .i64 (IntKind.i64.wrap (l8i12 - (7 : Int)))))] (by decide) ⟨rfl, rfl, rfl, trivial⟩)
      · replace h := bif_f hb13 h
        refine aw_exit ?_
        refine aq_then_exit ?_
        refine aq_then_exit ?_
        refine aq_block_exit ?_
        exact aq_join l8i11 h (fun w a hm hs => norm hm hs [] [] [(8, (Value.int .i64 r5.1)), (11, (Value.int .i64 l8i11))] (by decide) ⟨rfl, rfl, trivial⟩)
def f_lumref_spanOf (fu : Nat) (a0 : Int) (a1 : Int) : Option Int := (opt (f_lumref_date fu (IntKind.i64.wrap ((a1).tdiv (1440 : Int)))) fun (r2 : (Int × Int × Int)) => (bif (a0 == (0 : Int)) then (some (IntKind.i64.wrap ((a1).tdiv (1440 : Int)))) else (bif (a0 == (1 : Int)) then (opt (f_lumref_Week fu (IntKind.i64.wrap ((a1).tdiv (1440 : Int)))) fun (r6 : (Int × Int × Int)) => (some (IntKind.i64.wrap ((IntKind.i64.wrap ((100 : Int) * r6.1)) + r6.2.1)))) else (bif (a0 == (2 : Int)) then (some (IntKind.i64.wrap ((IntKind.i64.wrap ((100 : Int) * r2.1)) + r2.2.1))) else (some r2.1)))))
set_option maxRecDepth 100000 in
theorem f_lumref_spanOf_ok (fu : Nat) (a0 : Int) (a1 : Int) {r : Int} (h : f_lumref_spanOf fu a0 a1 = some r) : FnOk Try.prog 43 [(Value.int .i64 a0), (Value.int .i64 a1)] [] [] (fun (i : Unit) => { val := (Value.int .i64 r) }) := by
  unfold f_lumref_spanOf at h
  refine fn_enter Try.func43 rfl Try.ntmps43 rfl (fun w0 Z0 => ?_)
  refine aw_seq ?_
  refine aw_region ?_
  refine al_val (ov_assign rfl rfl) ?_
  refine al_nil ?_
  refine aq_then ?_
  refine aw_seq ?_
  refine aw_region ?_
  refine al_val (ov_move rfl rfl) ?_
  refine al_val (ov_quo (by decide) rfl rfl rfl) ?_
  refine al_val (ov_assign rfl rfl) ?_
  refine al_nil ?_
  refine aq_then ?_
  refine aw_seq ?_
  refine aw_region ?_
  refine al_val (ov_move rfl rfl) ?_
  obtain ⟨r2, hc1, h⟩ := opt_some h
  refine al_call (vs := [(Value.int .i64 (IntKind.i64.wrap ((a1).tdiv (1440 : Int))))]) (f_lumref_date_ok fu (IntKind.i64.wrap ((a1).tdiv (1440 : Int))) hc1) [] [] [] pre_nil rfl (by simp) (by decide) (.inl rfl) rfl Try.func82 rfl rfl rfl (fun _ => ?_)
  refine al_val (ov_move rfl rfl) ?_
  refine al_val (ov_extract rfl rfl rfl) ?_
  refine al_val (ov_extract rfl rfl rfl) ?_
  refine al_val (ov_extract rfl rfl rfl) ?_
  refine al_val (ov_assign rfl rfl) ?_
  refine al_val (ov_assign rfl rfl) ?_
  refine al_val (ov_assign rfl rfl) ?_
  refine al_nil ?_
  refine aq_then ?_
  refine aw_seq ?_
  refine aw_seq ?_
  refine aw_region ?_
  refine al_val (ov_move rfl rfl) ?_
  refine al_nil ?_
  refine aq_then ?_
  refine aw_block ?_
  refine aw_seq ?_
  refine aw_region ?_
  refine al_val (ov_int rfl rfl rfl rfl) ?_
  refine al_val (ov_assign rfl rfl) ?_
  refine al_nil ?_
  refine aq_then ?_
  refine aw_cond rfl (fun hb3 => ?_) (fun hb3 => ?_)
  · replace h := bif_t hb3 h
    refine aw_seq ?_
    refine aw_region ?_
    refine al_val (ov_move rfl rfl) ?_
    refine al_val (ov_assign rfl rfl) ?_
    refine al_nil ?_
    refine aq_then ?_
    refine aw_ret ?_
    refine aq_block_ret ?_
    refine aq_then_ret ?_
    obtain rfl := Option.some.inj h
    exact fn_ret () [] [] rfl rfl rfl rfl (res1 rfl rfl) rfl rfl rfl (by decide)
  · replace h := bif_f hb3 h
    refine aw_seq ?_
    refine aw_region ?_
    refine al_val (ov_int rfl rfl rfl rfl) ?_
    refine al_val (ov_assign rfl rfl) ?_
    refine al_nil ?_
    refine aq_then ?_
    refine aw_cond rfl (fun hb4 => ?_) (fun hb4 => ?_)
    · replace h := bif_t hb4 h
      refine aw_seq ?_
      refine aw_region ?_
      refine al_val (ov_move rfl rfl) ?_
      obtain ⟨r6, hc5, h⟩ := opt_some h
      refine al_call (vs := [(Value.int .i64 (IntKind.i64.wrap ((a1).tdiv (1440 : Int))))]) (f_lumref_Week_ok fu (IntKind.i64.wrap ((a1).tdiv (1440 : Int))) hc5) [] [] [] pre_nil rfl (by simp) (by decide) (.inl rfl) rfl Try.func83 rfl rfl rfl (fun _ => ?_)
      refine al_val (ov_move rfl rfl) ?_
      refine al_val (ov_extract rfl rfl rfl) ?_
      refine al_val (ov_extract rfl rfl rfl) ?_
      refine al_val (ov_extract rfl rfl rfl) ?_
      refine al_val (ov_assign rfl rfl) ?_
      refine al_val (ov_assign rfl rfl) ?_
      refine al_val (ov_assign rfl rfl) ?_
      refine al_nil ?_
      refine aq_then ?_
      refine aw_seq ?_
      refine aw_region ?_
      refine al_val (ov_move rfl rfl) ?_
      refine al_val (ov_int rfl rfl rfl rfl) ?_
      refine al_val (ov_move rfl rfl) ?_
      refine al_val (ov_int rfl rfl rfl rfl) ?_
      refine al_val (ov_assign rfl rfl) ?_
      refine al_nil ?_
      refine aq_then ?_
      refine aw_ret ?_
      refine aq_block_ret ?_
      refine aq_then_ret ?_
      obtain rfl := Option.some.inj h
      exact fn_ret () [] [] rfl rfl rfl rfl (res1 rfl rfl) rfl rfl rfl (by decide)
    · replace h := bif_f hb4 h
      refine aw_seq ?_
      refine aw_region ?_
      refine al_val (ov_int rfl rfl rfl rfl) ?_
      refine al_val (ov_assign rfl rfl) ?_
      refine al_nil ?_
      refine aq_then ?_
      refine aw_cond rfl (fun hb7 => ?_) (fun hb7 => ?_)
      · replace h := bif_t hb7 h
        refine aw_seq ?_
        refine aw_region ?_
        refine al_val (ov_move rfl rfl) ?_
        refine al_val (ov_int rfl rfl rfl rfl) ?_
        refine al_val (ov_move rfl rfl) ?_
        refine al_val (ov_int rfl rfl rfl rfl) ?_
        refine al_val (ov_assign rfl rfl) ?_
        refine al_nil ?_
        refine aq_then ?_
        refine aw_ret ?_
        refine aq_block_ret ?_
        refine aq_then_ret ?_
        obtain rfl := Option.some.inj h
        exact fn_ret () [] [] rfl rfl rfl rfl (res1 rfl rfl) rfl rfl rfl (by decide)
      · replace h := bif_f hb7 h
        refine aw_skip ?_
        refine aq_block ?_
        refine aq_then ?_
        refine aw_seq ?_
        refine aw_region ?_
        refine al_val (ov_move rfl rfl) ?_
        refine al_val (ov_assign rfl rfl) ?_
        refine al_nil ?_
        refine aq_then ?_
        refine aw_ret ?_
        obtain rfl := Option.some.inj h
        exact fn_ret () [] [] rfl rfl rfl rfl (res1 rfl rfl) rfl rfl rfl (by decide)
def f_lumref_has_L5 (a0 : (List Int)) (a1 : Int) (kk2 : (Unit → Option Bool)) : Nat → Int → Option Bool
  | 0, _ => none
  | k4 + 1, l3i9 => (bif (decide (l3i9 < (a0.length : Int))) then (opt (at? a0 l3i9) fun (u7 : Int) => (bif (u7 == a1) then (some true) else (f_lumref_has_L5 a0 a1 kk2 k4 (IntKind.i64.wrap (l3i9 + (1 : Int)))))) else (kk2 ()))
def f_lumref_has (fu : Nat) (a0 : (List Int)) (a1 : Int) : Option Bool := (lt (fun (_ : Unit) => (some false)) fun (kk2 : Unit → Option Bool) => (f_lumref_has_L5 a0 a1 kk2 fu (0 : Int)))
set_option maxRecDepth 100000 in
theorem f_lumref_has_ok (fu : Nat) (v0_0 : Value) (a0 : (List Int)) (a1 : Int) {r : Bool} (h : f_lumref_has fu a0 a1 = some r) : FnOk Try.prog 44 [v0_0, (Value.int .i64 a1)] [(fDat (tyList (tyInt .i64)) [v0_0] a0)] [] (fun (i : Unit) => { val := (Value.bool r) }) := by
  unfold f_lumref_has at h
  refine fn_enter Try.func44 rfl Try.ntmps44 rfl (fun w0 Z0 => ?_)
  refine aw_seq ?_
  refine aw_region ?_
  refine al_val (ov_assign rfl rfl) ?_
  refine al_nil ?_
  refine aq_then ?_
  obtain ⟨kk2, hkk2, h⟩ := lt_some h
  refine aw_seq_join (ι := Unit) (fun i => (memOf w0 Z0 [] [] [(fDat (tyList (tyInt .i64)) [v0_0] a0)])) (fun i => (tab [])) (fun i => kk2 () = some r) ?_ ?_
  · rintro _ h
    have h : kk2 () = some r := h
    rw [hkk2] at h
    dsimp only at h
    clear hkk2
    refine aw_show (m := (memOf w0 Z0 [] [] [(fDat (tyList (tyInt .i64)) [v0_0] a0)])) (S := (tab [])) ?_
    refine aw_seq ?_
    refine aw_region ?_
    refine al_val (ov_assign rfl rfl) ?_
    refine al_nil ?_
    refine aq_then ?_
    refine aw_ret ?_
    obtain rfl := Option.some.inj h
    exact fn_ret () [] [] rfl rfl rfl rfl (res1 rfl rfl) rfl rfl rfl (by decide)
  · clear hkk2
    refine aw_seq ?_
    refine aw_region ?_
    refine al_val (ov_move rfl rfl) ?_
    refine al_val (ov_lenD 0 rfl rfl Try.underlying34 rfl) ?_
    refine al_val (ov_move rfl rfl) ?_
    refine al_nil ?_
    refine aq_then ?_
    refine aw_block ?_
    refine aw_state (aw_loop (ι := Int) (fun i => (memOf w0 Z0 [] [] [(fDat (tyList (tyInt .i64)) [v0_0] a0)])) (fun i => (tab [(1, (Value.int .i64 a1)), (7, v0_0), (8, (Value.int .i64 (a0.length : Int))), (9, (Value.int .i64 i))])) (fun q i => f_lumref_has_L5 a0 a1 kk2 q i = some r) ?_ fu (0 : Int) h) (fun w a hm hs => norm hm hs [] [0] [(1, (Value.int .i64 a1)), (7, v0_0), (8, (Value.int .i64 (a0.length : Int))), (9, (Value.int .i64 (0 : Int)))] (by decide) ⟨rfl, rfl, rfl, rfl, trivial⟩)
    clear h
    rintro k4 l3i9 h
    have h : f_lumref_has_L5 a0 a1 kk2 k4 l3i9 = some r := h
    obtain _ | k4 := k4
    · rw [f_lumref_has_L5] at h; cases h
    rw [f_lumref_has_L5] at h
    refine aw_show (m := (memOf w0 Z0 [] [] [(fDat (tyList (tyInt .i64)) [v0_0] a0)])) (S := (tab [(1, (Value.int .i64 a1)), (7, v0_0), (8, (Value.int .i64 (a0.length : Int))), (9, (Value.int .i64 l3i9))])) ?_
    refine aw_seq ?_
    refine aw_region ?_
    refine al_val (ov_int rfl rfl rfl rfl) ?_
    refine al_nil ?_
    refine aq_then ?_
    refine aw_seq ?_
    refine aw_cond rfl (fun hb6 => ?_) (fun hb6 => ?_)
    · replace h := bif_t hb6 h
      refine aw_skip ?_
      refine aq_then ?_
      refine aw_seq ?_
      refine aw_block ?_
      refine aw_seq ?_
      refine aw_region ?_
      obtain ⟨u7, hu8, h⟩ := opt_some h
      refine al_idxD 0 hu8 rfl rfl rfl Try.underlying34 sz3 rfl (fun p9 => ?_)
      refine al_val (ov_loadP (ds := [(Value.int .i64 u7)]) 0 rfl (fun h => h) rfl Try.underlying3 sz3 rfl rfl rfl) ?_
      refine al_val (ov_assign rfl rfl) ?_
      refine al_nil ?_
      refine aq_then ?_
      refine aw_seq ?_
      refine aw_region ?_
      refine al_val (ov_move rfl rfl) ?_
      refine al_val (ov_move rfl rfl) ?_
      refine al_val (ov_int rfl rfl rfl rfl) ?_
      refine al_nil ?_
      refine aq_then ?_
      refine aw_cond rfl (fun hb10 => ?_) (fun hb10 => ?_)
      · replace h := bif_t hb10 h
        refine aw_seq ?_
        refine aw_region ?_
        refine al_val (ov_assign rfl rfl) ?_
        refine al_nil ?_
        refine aq_then ?_
        refine aw_ret ?_
        refine aq_block_ret ?_
        refine aq_then_ret ?_
        refine aq_then_ret ?_
        refine aq_block_ret ?_
        refine aq_then_ret ?_
        obtain rfl := Option.some.inj h
        exact fn_ret () [] [] rfl rfl rfl rfl (res1 rfl rfl) rfl rfl rfl (by decide)
      · replace h := bif_f hb10 h
        refine aw_skip ?_
        refine aq_block ?_
        refine aq_then ?_
        refine aw_region ?_
        refine al_val (ov_int rfl rfl rfl rfl) ?_
        refine al_val (ov_move rfl rfl) ?_
        refine al_nil ?_
        exact aq_again k4 (IntKind.i64.wrap (l3i9 + (1 : Int))) (Nat.lt_succ_self _) h (fun w a hm hs => norm hm hs [] [1] [(1, (Value.int .i64 a1)), (7, v0_0), (8, (Value.int .i64 (a0.length : Int))), (9, (Value.int .i64 (IntKind.i64.wrap (l3i9 + (1 : Int)))))] (by decide) ⟨rfl, rfl, rfl, rfl, trivial⟩)
    · replace h := bif_f hb6 h
      refine aw_exit ?_
      refine aq_then_exit ?_
      refine aq_then_exit ?_
      refine aq_block_exit ?_
      exact aq_join () h (fun w a hm hs => norm hm hs [] [0] [] (by decide) trivial)
def f_lumref_Pick_L28 (a1 : (List Int)) (l15i52 : Int) (kk21 : ((List Bool) → Option ((List Bool) × Int))) (u22 : Int) (fu : Nat) : Nat → (List Bool) → (List Int) → Int → Option ((List Bool) × Int)
  | 0, _, _, _ => none
  | k27 + 1, l26x8, l26x12, l26i59 => (bif (decide (l26i59 < (a1.length : Int))) then (lt (fun (j30x8 : (List Bool)) (j30x12 : (List Int)) => (f_lumref_Pick_L28 a1 l15i52 kk21 u22 fu k27 j30x8 j30x12 (IntKind.i64.wrap (l26i59 + (1 : Int))))) fun (kk31 : (List Bool) → (List Int) → Option ((List Bool) × Int)) => (opt (at? a1 l26i59) fun (u32 : Int) => (opt (f_lumref_spanOf fu l15i52 u32) fun (r36 : Int) => (lt (fun (j37b76 : Bool) => (bif j37b76 then (req (((l26x12.length + ([r36]).length) * 8 : Nat) ≤ 140737488355328 ∧ l26x12.length + ([r36]).length ≤ 9223372036854775807) (opt (at? l26x8 l26i59) fun (u43 : Bool) => (kk31 (l26x8.set (l26i59).toNat true) (l26x12 ++ ([r36]))))) else (kk31 l26x8 l26x12))) fun (kk38 : Bool → Option ((List Bool) × Int)) => (opt (f_lumref_has fu l26x12 r36) fun (r48 : Bool) => (bif (!r48) then (kk38 (decide ((l26x12.length : Int) < u22))) else (kk38 false))))))) else (kk21 l26x8))
def f_lumref_Pick_L17 (a0 : S_api_Policy) (a1 : (List Int)) (kk13 : ((List Bool) → Option ((List Bool) × Int))) (fu : Nat) : Nat → (List Bool) → Int → Option ((List Bool) × Int)
  | 0, _, _ => none
  | k16 + 1, l15x8, l15i52 => (lt (fun (l15x8 : (List Bool)) (l15i52 : Int) => (f_lumref_Pick_L17 a0 a1 kk13 fu k16 l15x8 l15i52)) fun (kk18 : (List Bool) → Int → Option ((List Bool) × Int)) => (bif (decide (l15i52 < (([a0.Days, a0.Weeks, a0.Months, a0.Years]).length : Int))) then (lt (fun (j20x8 : (List Bool)) => (kk18 j20x8 (IntKind.i64.wrap (l15i52 + (1 : Int))))) fun (kk21 : (List Bool) → Option ((List Bool) × Int)) => (opt (at? ([a0.Days, a0.Weeks, a0.Months, a0.Years]) l15i52) fun (u22 : Int) => (f_lumref_Pick_L28 a1 l15i52 kk21 u22 fu fu l15x8 ([] : List Int) (0 : Int)))) else (kk13 l15x8)))
def f_lumref_Pick_L52 (a0 : S_api_Policy) (a1 : (List Int)) (kk11 : ((List Bool) → Option ((List Bool) × Int))) : Nat → (List Bool) → Int → Option ((List Bool) × Int)
  | 0, _, _ => none
  | k51 + 1, l50x8, l50i31 => (bif (decide (l50i31 < ((List.replicate ((a1.length : Int)).toNat false).length : Int))) then (opt (at? l50x8 l50i31) fun (u54 : Bool) => (f_lumref_Pick_L52 a0 a1 kk11 k51 (l50x8.set (l50i31).toNat (decide (l50i31 < a0.Last))) (IntKind.i64.wrap (l50i31 + (1 : Int))))) else (kk11 l50x8))
def f_lumref_Pick (fu : Nat) (a0 : S_api_Policy) (a1 : (List Int)) : Option ((List Bool) × Int) := (opt (f_lumref_Policy fu a0) fun (r3 : Int) => (bif (r3 != (0 : Int)) then (some (([] : List Bool), r3)) else (opt (f_lumref_Times57 fu a1) fun (r6 : Int) => (bif (r6 != (0 : Int)) then (some (([] : List Bool), r6)) else (req (0 ≤ (a1.length : Int) ∧ 1 * (a1.length : Int) ≤ 281474976710656 ∧ (a1.length : Int) ≤ 9223372036854775807) (lt (fun (j10x8 : (List Bool)) => (lt (fun (j12x8 : (List Bool)) => (some (j12x8, (0 : Int)))) fun (kk13 : (List Bool) → Option ((List Bool) × Int)) => (f_lumref_Pick_L17 a0 a1 kk13 fu fu j10x8 (0 : Int)))) fun (kk11 : (List Bool) → Option ((List Bool) × Int)) => (f_lumref_Pick_L52 a0 a1 kk11 fu (List.replicate ((a1.length : Int)).toNat false) (0 : Int))))))))
set_option maxRecDepth 100000 in
set_option maxHeartbeats 2000000 in
theorem f_lumref_Pick_ok (fu : Nat) (a0 : S_api_Policy) (v1_0 : Value) (a1 : (List Int)) {r : ((List Bool) × Int)} (h : f_lumref_Pick fu a0 a1 = some r) : FnOk Try.prog 13 [(ag [(Value.int .i64 a0.Last), (Value.int .i64 a0.Days), (Value.int .i64 a0.Weeks), (Value.int .i64 a0.Months), (Value.int .i64 a0.Years)]), v1_0] [(fDat (tyList (tyInt .i64)) [v1_0] a1)] [] (fun (i : Value) => { val := (Value.tuple #[i, (Value.int .i64 r.2)]), own := [(oRow i 4 tyBool r.1)] }) := by
  unfold f_lumref_Pick at h
  refine fn_enter Try.func13 rfl Try.ntmps13 rfl (fun w0 Z0 => ?_)
  refine aw_seq ?_
  refine aw_region ?_
  refine al_box (vs := [(Value.int .i64 a0.Last), (Value.int .i64 a0.Days), (Value.int .i64 a0.Weeks), (Value.int .i64 a0.Months), (Value.int .i64 a0.Years)]) rfl (cv_rfl rfl) rfl (fun g1 => ?_)
  refine al_val (ov_assign rfl rfl) ?_
  refine al_val (ov_assign rfl rfl) ?_
  refine al_nil ?_
  refine aq_then ?_
  refine aw_seq ?_
  refine aw_seq ?_
  refine aw_region ?_
  refine al_val (ov_load (i := 0) (v := (ag [(Value.int .i64 a0.Last), (Value.int .i64 a0.Days), (Value.int .i64 a0.Weeks), (Value.int .i64 a0.Months), (Value.int .i64 a0.Years)])) rfl rfl Try.underlying33 sz33 rfl rfl rfl rfl) ?_
  obtain ⟨r3, hc2, h⟩ := opt_some h
  refine al_call (vs := [(ag [(Value.int .i64 a0.Last), (Value.int .i64 a0.Days), (Value.int .i64 a0.Weeks), (Value.int .i64 a0.Months), (Value.int .i64 a0.Years)])]) (f_lumref_Policy_ok fu a0 hc2) [] [] [0] pre_nil rfl (by simp) (by decide) (.inl rfl) rfl Try.func15 rfl rfl rfl (fun _ => ?_)
  refine al_val (ov_assign rfl rfl) ?_
  refine al_nil ?_
  refine aq_then ?_
  refine aw_seq ?_
  refine aw_region ?_
  refine al_val (ov_move rfl rfl) ?_
  refine al_val (ov_int rfl rfl rfl rfl) ?_
  refine al_nil ?_
  refine aq_then ?_
  refine aw_cond rfl (fun hb4 => ?_) (fun hb4 => ?_)
  · replace h := bif_t hb4 h
    refine aw_seq ?_
    refine aw_region ?_
    refine al_val (ov_move rfl rfl) ?_
    refine al_val (ov_assign rfl rfl) ?_
    refine al_val (ov_assign rfl rfl) ?_
    refine al_nil ?_
    refine aq_then ?_
    refine aw_ret ?_
    refine aq_then_ret ?_
    refine aq_nilR 4 tyBool ?_
    obtain rfl := Option.some.inj h
    exact fn_ret (Value.slice none 0 0) [0] [] rfl rfl rfl rfl (res2 rfl rfl rfl) rfl rfl rfl (by decide)
  · replace h := bif_f hb4 h
    refine aw_skip ?_
    refine aq_then ?_
    refine aw_seq ?_
    refine aw_seq ?_
    refine aw_region ?_
    refine al_val (ov_move rfl rfl) ?_
    obtain ⟨r6, hc5, h⟩ := opt_some h
    refine al_call (vs := [v1_0]) (f_lumref_Times57_ok fu v1_0 a1 hc5) [] [] [0] (pre_fz 0 rfl pre_nil) rfl (by simp) (by decide) (.inl rfl) rfl Try.func42 rfl rfl rfl (fun _ => ?_)
    refine al_val (ov_assign rfl rfl) ?_
    refine al_nil ?_
    refine aq_then ?_
    refine aw_seq ?_
    refine aw_region ?_
    refine al_val (ov_move rfl rfl) ?_
    refine al_val (ov_int rfl rfl rfl rfl) ?_
    refine al_nil ?_
    refine aq_then ?_
    refine aw_cond rfl (fun hb7 => ?_) (fun hb7 => ?_)
    · replace h := bif_t hb7 h
      refine aw_seq ?_
      refine aw_region ?_
      refine al_val (ov_move rfl rfl) ?_
      refine al_val (ov_assign rfl rfl) ?_
      refine al_val (ov_assign rfl rfl) ?_
      refine al_nil ?_
      refine aq_then ?_
      refine aw_ret ?_
      refine aq_then_ret ?_
      refine aq_nilR 4 tyBool ?_
      obtain rfl := Option.some.inj h
      exact fn_ret (Value.slice none 0 0) [0] [] rfl rfl rfl rfl (res2 rfl rfl rfl) rfl rfl rfl (by decide)
    · replace h := bif_f hb7 h
      refine aw_skip ?_
      refine aq_then ?_
      refine aw_seq ?_
      refine aw_region ?_
      refine al_val (ov_move rfl rfl) ?_
      refine al_val (ov_lenD 0 rfl rfl Try.underlying34 rfl) ?_
      obtain ⟨hc8, h⟩ := req_some h
      refine al_make (τ := tyBool) (x0 := false) hc8.1 hc8.2.1 hc8.2.2 rfl rfl Try.underlying35 to4 (fun _ _ => rfl) rfl rfl (fun v9 => ?_)
      refine al_val (ov_assign rfl rfl) ?_
      refine al_nil ?_
      refine aq_then ?_
      obtain ⟨kk11, hkk11, h⟩ := lt_some h
      refine aw_seq_join (ι := (List Bool)) (fun i => (memOf w0 Z0 [] [(oBox g1 33 [(Value.int .i64 a0.Last), (Value.int .i64 a0.Days), (Value.int .i64 a0.Weeks), (Value.int .i64 a0.Months), (Value.int .i64 a0.Years)]), (oRow v9 4 tyBool i)] [(fDat (tyList (tyInt .i64)) [v1_0] a1)])) (fun i => (tab [(1, v1_0), (2, (ptr g1 0)), (8, v9)])) (fun i => kk11 i = some r) ?_ ?_
      · rintro j10x8 h
        have h : kk11 j10x8 = some r := h
        rw [hkk11] at h
        dsimp only at h
        clear hkk11
        refine aw_show (m := (memOf w0 Z0 [] [(oBox g1 33 [(Value.int .i64 a0.Last), (Value.int .i64 a0.Days), (Value.int .i64 a0.Weeks), (Value.int .i64 a0.Months), (Value.int .i64 a0.Years)]), (oRow v9 4 tyBool j10x8)] [(fDat (tyList (tyInt .i64)) [v1_0] a1)])) (S := (tab [(1, v1_0), (2, (ptr g1 0)), (8, v9)])) ?_
        obtain ⟨kk13, hkk13, h⟩ := lt_some h
        refine aw_seq_join (ι := (List Bool)) (fun i => (memOf w0 Z0 [] [(oRow v9 4 tyBool i)] [(fDat (tyList (tyInt .i64)) [v1_0] a1)])) (fun i => (tab [(8, v9)])) (fun i => kk13 i = some r) ?_ ?_
        · rintro j12x8 h
          have h : kk13 j12x8 = some r := h
          rw [hkk13] at h
          dsimp only at h
          clear hkk13
          refine aw_show (m := (memOf w0 Z0 [] [(oRow v9 4 tyBool j12x8)] [(fDat (tyList (tyInt .i64)) [v1_0] a1)])) (S := (tab [(8, v9)])) ?_
          refine aw_seq ?_
          refine aw_region ?_
          refine al_val (ov_move rfl rfl) ?_
          refine al_val (ov_assign rfl rfl) ?_
          refine al_val (ov_assign rfl rfl) ?_
          refine al_nil ?_
          refine aq_then ?_
          refine aw_ret ?_
          obtain rfl := Option.some.inj h
          exact fn_ret v9 [0] [] rfl rfl rfl rfl (res2 rfl rfl rfl) rfl rfl rfl (by decide)
        · clear hkk13
          refine aw_seq ?_
          refine aw_region ?_
          refine al_val (ov_fieldA (p := 1) rfl Try.underlying33 rfl sz3 rfl rfl rfl) ?_
          refine al_val (ov_load (i := 0) (v := (Value.int .i64 a0.Days)) rfl rfl Try.underlying3 sz3 rfl rfl rfl rfl) ?_
          refine al_val (ov_fieldA (p := 2) rfl Try.underlying33 rfl sz3 rfl rfl rfl) ?_
          refine al_val (ov_load (i := 0) (v := (Value.int .i64 a0.Weeks)) rfl rfl Try.underlying3 sz3 rfl rfl rfl rfl) ?_
          refine al_val (ov_fieldA (p := 3) rfl Try.underlying33 rfl sz3 rfl rfl rfl) ?_
          refine al_val (ov_load (i := 0) (v := (Value.int .i64 a0.Months)) rfl rfl Try.underlying3 sz3 rfl rfl rfl rfl) ?_
          refine al_val (ov_fieldA (p := 4) rfl Try.underlying33 rfl sz3 rfl rfl rfl) ?_
          refine al_val (ov_load (i := 0) (v := (Value.int .i64 a0.Years)) rfl rfl Try.underlying3 sz3 rfl rfl rfl rfl) ?_
          refine al_buildSlice (τ := (tyInt .i64)) (e := 3) (k := 4) (sz := 0) (by_ := 0) (z := undef) (cs := [(Value.int .i64 a0.Days), (Value.int .i64 a0.Weeks), (Value.int .i64 a0.Months), (Value.int .i64 a0.Years)]) (xs := [a0.Days, a0.Weeks, a0.Months, a0.Years]) rfl (by decide) (fun w a hm hs => ⟨([(Value.int .i64 a0.Days), (Value.int .i64 a0.Weeks), (Value.int .i64 a0.Months), (Value.int .i64 a0.Years)]).toArray, rfl, by simp only [List.map_toArray, List.map_cons, List.map_nil, hs.ev (x := .tmp 43) rfl, hs.ev (x := .tmp 45) rfl, hs.ev (x := .tmp 47) rfl, hs.ev (x := .tmp 49) rfl]; exact run_bs [(Value.int .i64 a0.Days), (Value.int .i64 a0.Weeks), (Value.int .i64 a0.Months), (Value.int .i64 a0.Years)] [(Value.int .i64 a0.Days), (Value.int .i64 a0.Weeks), (Value.int .i64 a0.Months), (Value.int .i64 a0.Years)] Try.underlying34 to3 rfl rfl (bs_cons (l := [(Value.int .i64 a0.Days)]) (cs := [(Value.int .i64 a0.Weeks), (Value.int .i64 a0.Months), (Value.int .i64 a0.Years)]) (cv_rfl rfl) rfl (bs_cons (l := [(Value.int .i64 a0.Weeks)]) (cs := [(Value.int .i64 a0.Months), (Value.int .i64 a0.Years)]) (cv_rfl rfl) rfl (bs_cons (l := [(Value.int .i64 a0.Months)]) (cs := [(Value.int .i64 a0.Years)]) (cv_rfl rfl) rfl (bs_cons (l := [(Value.int .i64 a0.Years)]) (cs := []) (cv_rfl rfl) rfl bs_nil)))) hm⟩) (fun hm => ⟨_, _, rfl, (fun _ => rfl) hm, ⟨_, _, rfl, (fun _ => rfl) hm, ⟨_, _, rfl, (fun _ => rfl) hm, ⟨_, _, rfl, (fun _ => rfl) hm, rfl⟩⟩⟩⟩) rfl (fun v14 => ?_)
          refine al_val (ov_lenR 0 rfl rfl Try.underlying34 rfl) ?_
          refine al_val (ov_move rfl rfl) ?_
          refine al_nil ?_
          refine aq_then ?_
          refine aw_block ?_
          refine aw_state (aw_loop (ι := (List Bool) × Int) (fun i => (memOf w0 Z0 [] [(oRow v9 4 tyBool i.1), (oRow v14 3 (tyInt .i64) [a0.Days, a0.Weeks, a0.Months, a0.Years])] [(fDat (tyList (tyInt .i64)) [v1_0] a1)])) (fun i => (tab [(1, v1_0), (8, v9), (50, v14), (51, (Value.int .i64 (([a0.Days, a0.Weeks, a0.Months, a0.Years]).length : Int))), (52, (Value.int .i64 i.2))])) (fun q i => f_lumref_Pick_L17 a0 a1 kk13 fu q i.1 i.2 = some r) ?_ fu (j10x8, (0 : Int)) h) (fun w a hm hs => norm hm hs [2, 0] [0] [(1, v1_0), (8, v9), (50, v14), (51, (Value.int .i64 (([a0.Days, a0.Weeks, a0.Months, a0.Years]).length : Int))), (52, (Value.int .i64 (0 : Int)))] (by decide) ⟨rfl, rfl, rfl, rfl, rfl, trivial⟩)
          clear h
          rintro k16 ⟨l15x8, l15i52⟩ h
          have h : f_lumref_Pick_L17 a0 a1 kk13 fu k16 l15x8 l15i52 = some r := h
          obtain _ | k16 := k16
          · rw [f_lumref_Pick_L17] at h; cases h
          rw [f_lumref_Pick_L17] at h
          refine aw_show (m := (memOf w0 Z0 [] [(oRow v9 4 tyBool l15x8), (oRow v14 3 (tyInt .i64) [a0.Days, a0.Weeks, a0.Months, a0.Years])] [(fDat (tyList (tyInt .i64)) [v1_0] a1)])) (S := (tab [(1, v1_0), (8, v9), (50, v14), (51, (Value.int .i64 (([a0.Days, a0.Weeks, a0.Months, a0.Years]).length : Int))), (52, (Value.int .i64 l15i52))])) ?_
          obtain ⟨kk18, hkk18, h⟩ := lt_some h
          refine aw_body_join (ι := (List Bool) × Int) (fun i => (memOf w0 Z0 [] [(oRow v9 4 tyBool i.1), (oRow v14 3 (tyInt .i64) [a0.Days, a0.Weeks, a0.Months, a0.Years])] [(fDat (tyList (tyInt .i64)) [v1_0] a1)])) (fun i => (tab [(1, v1_0), (8, v9), (50, v14), (51, (Value.int .i64 (([a0.Days, a0.Weeks, a0.Months, a0.Years]).length : Int))), (52, (Value.int .i64 i.2))])) (fun i => kk18 i.1 i.2 = some r) (fun i h => aq_again k16 i (Nat.lt_succ_self _) (by rw [hkk18] at h; exact h) (fun w a hm hs => ⟨hm, hs⟩)) ?_
          clear hkk18
          refine aw_seq ?_
          refine aw_region ?_
          refine al_val (ov_int rfl rfl rfl rfl) ?_
          refine al_nil ?_
          refine aq_then ?_
          refine aw_seq ?_
          refine aw_cond rfl (fun hb19 => ?_) (fun hb19 => ?_)
          · replace h := bif_t hb19 h
            refine aw_skip ?_
            refine aq_then ?_
            obtain ⟨kk21, hkk21, h⟩ := lt_some h
            refine aw_seq_join (ι := (List Bool)) (fun i => (memOf w0 Z0 [] [(oRow v9 4 tyBool i), (oRow v14 3 (tyInt .i64) [a0.Days, a0.Weeks, a0.Months, a0.Years])] [(fDat (tyList (tyInt .i64)) [v1_0] a1)])) (fun i => (tab [(1, v1_0), (8, v9), (50, v14), (51, (Value.int .i64 (([a0.Days, a0.Weeks, a0.Months, a0.Years]).length : Int))), (52, (Value.int .i64 l15i52))])) (fun i => kk21 i = some r) ?_ ?_
            · rintro j20x8 h
              have h : kk21 j20x8 = some r := h
              rw [hkk21] at h
              dsimp only at h
              clear hkk21
              refine aw_show (m := (memOf w0 Z0 [] [(oRow v9 4 tyBool j20x8), (oRow v14 3 (tyInt .i64) [a0.Days, a0.Weeks, a0.Months, a0.Years])] [(fDat (tyList (tyInt .i64)) [v1_0] a1)])) (S := (tab [(1, v1_0), (8, v9), (50, v14), (51, (Value.int .i64 (([a0.Days, a0.Weeks, a0.Months, a0.Years]).length : Int))), (52, (Value.int .i64 l15i52))])) ?_
              refine aw_region ?_
              refine al_val (ov_int rfl rfl rfl rfl) ?_
              refine al_val (ov_move rfl rfl) ?_
              refine al_nil ?_
              exact aq_join (j20x8, (IntKind.i64.wrap (l15i52 + (1 : Int)))) h (fun w a hm hs => norm hm hs [0, 1] [0] [(1, v1_0), (8, v9), (50, v14), (51, (Value.int .i64 (([a0.Days, a0.Weeks, a0.Months, a0.Years]).length : Int))), (52, (Value.int .i64 (IntKind.i64.wrap (l15i52 + (1 : Int)))))] (by decide) ⟨rfl, rfl, rfl, rfl, rfl, trivial⟩)
            · clear hkk21
              refine aw_block ?_
              refine aw_seq ?_
              refine aw_region ?_
              refine al_val (ov_move rfl rfl) ?_
              obtain ⟨u22, hu23, h⟩ := opt_some h
              refine al_idxR 1 (at_some hu23).1 (at_some hu23).2.1 rfl rfl rfl Try.underlying34 sz3 rfl (fun p24 hp25 => ?_)
              refine al_val (ov_loadR (ds := [(Value.int .i64 u22)]) 1 rfl hp25 (at_some hu23).2.2 (fun h => h) rfl Try.underlying3 sz3 rfl rfl rfl) ?_
              refine al_val (ov_assign rfl rfl) ?_
              refine al_val (ov_assign rfl rfl) ?_
              refine al_nil ?_
              refine aq_then ?_
              refine aw_seq ?_
              refine aw_region ?_
              refine al_val (ov_assign rfl rfl) ?_
              refine al_nil ?_
              refine aq_then ?_
              refine aw_seq ?_
              refine aw_region ?_
              refine al_val (ov_move rfl rfl) ?_
              refine al_val (ov_lenD 0 rfl rfl Try.underlying34 rfl) ?_
              refine al_val (ov_move rfl rfl) ?_
              refine al_nil ?_
              refine aq_then ?_
              refine aw_block ?_
              refine aw_nilR 3 (tyInt .i64) ?_
              refine aw_state (aw_loop (ι := (List Bool) × Value × (List Int) × Int) (fun i => (memOf w0 Z0 [] [(oRow v9 4 tyBool i.1), (oRow i.2.1 3 (tyInt .i64) i.2.2.1), (oRow v14 3 (tyInt .i64) [a0.Days, a0.Weeks, a0.Months, a0.Years])] [(fDat (tyList (tyInt .i64)) [v1_0] a1)])) (fun i => (tab [(1, v1_0), (8, v9), (10, (Value.int .i64 l15i52)), (11, (Value.int .i64 u22)), (12, i.2.1), (50, v14), (51, (Value.int .i64 (([a0.Days, a0.Weeks, a0.Months, a0.Years]).length : Int))), (52, (Value.int .i64 l15i52)), (57, v1_0), (58, (Value.int .i64 (a1.length : Int))), (59, (Value.int .i64 i.2.2.2))])) (fun q i => f_lumref_Pick_L28 a1 l15i52 kk21 u22 fu q i.1 i.2.2.1 i.2.2.2 = some r) ?_ fu (l15x8, (Value.slice none 0 0), ([] : List Int), (0 : Int)) h) (fun w a hm hs => norm hm hs [1, 0, 2] [0] [(1, v1_0), (8, v9), (10, (Value.int .i64 l15i52)), (11, (Value.int .i64 u22)), (12, (Value.slice none 0 0)), (50, v14), (51, (Value.int .i64 (([a0.Days, a0.Weeks, a0.Months, a0.Years]).length : Int))), (52, (Value.int .i64 l15i52)), (57, v1_0), (58, (Value.int .i64 (a1.length : Int))), (59, (Value.int .i64 (0 : Int)))] (by decide) ⟨rfl, rfl, rfl, rfl, rfl, rfl, rfl, rfl, rfl, rfl, rfl, trivial⟩)
              clear h
              rintro k27 ⟨l26x8, l26v12, l26x12, l26i59⟩ h
              have h : f_lumref_Pick_L28 a1 l15i52 kk21 u22 fu k27 l26x8 l26x12 l26i59 = some r := h
              obtain _ | k27 := k27
              · rw [f_lumref_Pick_L28] at h; cases h
              rw [f_lumref_Pick_L28] at h
              refine aw_show (m := (memOf w0 Z0 [] [(oRow v9 4 tyBool l26x8), (oRow l26v12 3 (tyInt .i64) l26x12), (oRow v14 3 (tyInt .i64) [a0.Days, a0.Weeks, a0.Months, a0.Years])] [(fDat (tyList (tyInt .i64)) [v1_0] a1)])) (S := (tab [(1, v1_0), (8, v9), (10, (Value.int .i64 l15i52)), (11, (Value.int .i64 u22)), (12, l26v12), (50, v14), (51, (Value.int .i64 (([a0.Days, a0.Weeks, a0.Months, a0.Years]).length : Int))), (52, (Value.int .i64 l15i52)), (57, v1_0), (58, (Value.int .i64 (a1.length : Int))), (59, (Value.int .i64 l26i59))])) ?_
              refine aw_seq ?_
              refine aw_region ?_
              refine al_val (ov_int rfl rfl rfl rfl) ?_
              refine al_nil ?_
              refine aq_then ?_
              refine aw_seq ?_
              refine aw_cond rfl (fun hb29 => ?_) (fun hb29 => ?_)
              · replace h := bif_t hb29 h
                refine aw_skip ?_
                refine aq_then ?_
                obtain ⟨kk31, hkk31, h⟩ := lt_some h
                refine aw_seq_join (ι := (List Bool) × Value × (List Int)) (fun i => (memOf w0 Z0 [] [(oRow v9 4 tyBool i.1), (oRow i.2.1 3 (tyInt .i64) i.2.2), (oRow v14 3 (tyInt .i64) [a0.Days, a0.Weeks, a0.Months, a0.Years])] [(fDat (tyList (tyInt .i64)) [v1_0] a1)])) (fun i => (tab [(1, v1_0), (8, v9), (10, (Value.int .i64 l15i52)), (11, (Value.int .i64 u22)), (12, i.2.1), (50, v14), (51, (Value.int .i64 (([a0.Days, a0.Weeks, a0.Months, a0.Years]).length : Int))), (52, (Value.int .i64 l15i52)), (57, v1_0), (58, (Value.int .i64 (a1.length : Int))), (59, (Value.int .i64 l26i59))])) (fun i => kk31 i.1 i.2.2 = some r) ?_ ?_
                · rintro ⟨j30x8, j30v12, j30x12⟩ h
                  have h : kk31 j30x8 j30x12 = some r := h
                  rw [hkk31] at h
                  dsimp only at h
                  clear hkk31
                  refine aw_show (m := (memOf w0 Z0 [] [(oRow v9 4 tyBool j30x8), (oRow j30v12 3 (tyInt .i64) j30x12), (oRow v14 3 (tyInt .i64) [a0.Days, a0.Weeks, a0.Months, a0.Years])] [(fDat (tyList (tyInt .i64)) [v1_0] a1)])) (S := (tab [(1, v1_0), (8, v9), (10, (Value.int .i64 l15i52)), (11, (Value.int .i64 u22)), (12, j30v12), (50, v14), (51, (Value.int .i64 (([a0.Days, a0.Weeks, a0.Months, a0.Years]).length : Int))), (52, (Value.int .i64 l15i52)), (57, v1_0), (58, (Value.int .i64 (a1.length : Int))), (59, (Value.int .i64 l26i59))])) ?_
                  refine aw_region ?_
                  refine al_val (ov_int rfl rfl rfl rfl) ?_
                  refine al_val (ov_move rfl rfl) ?_
                  refine al_nil ?_
                  exact aq_again k27 (j30x8, j30v12, j30x12, (IntKind.i64.wrap (l26i59 + (1 : Int)))) (Nat.lt_succ_self _) h (fun w a hm hs => norm hm hs [0, 1, 2] [0] [(1, v1_0), (8, v9), (10, (Value.int .i64 l15i52)), (11, (Value.int .i64 u22)), (12, j30v12), (50, v14), (51, (Value.int .i64 (([a0.Days, a0.Weeks, a0.Months, a0.Years]).length : Int))), (52, (Value.int .i64 l15i52)), (57, v1_0), (58, (Value.int .i64 (a1.length : Int))), (59, (Value.int .i64 (IntKind.i64.wrap (l26i59 + (1 : Int)))))] (by decide) ⟨rfl, rfl, rfl, rfl, rfl, rfl, rfl, rfl, rfl, rfl, rfl, trivial⟩)
                · clear hkk31
                  refine aw_block ?_
                  refine aw_seq ?_
                  refine aw_region ?_
                  refine al_val (ov_move rfl rfl) ?_
                  obtain ⟨u32, hu33, h⟩ := opt_some h
                  refine al_idxD 0 hu33 rfl rfl rfl Try.underlying34 sz3 rfl (fun p34 => ?_)
                  refine al_val (ov_loadP (ds := [(Value.int .i64 u32)]) 0 rfl (fun h => h) rfl Try.underlying3 sz3 rfl rfl rfl) ?_
                  refine al_val (ov_assign rfl rfl) ?_
                  refine al_val (ov_assign rfl rfl) ?_
                  refine al_nil ?_
                  refine aq_then ?_
                  refine aw_seq ?_
                  refine aw_region ?_
                  refine al_val (ov_move rfl rfl) ?_
                  refine al_val (ov_move rfl rfl) ?_
                  obtain ⟨r36, hc35, h⟩ := opt_some h
                  refine al_call (vs := [(Value.int .i64 l15i52), (Value.int .i64 u32)]) (f_lumref_spanOf_ok fu l15i52 u32 hc35) [] [] [0, 1, 2] pre_nil rfl (by simp) (by decide) (.inl rfl) rfl Try.func43 rfl rfl rfl (fun _ => ?_)
                  refine al_val (ov_assign rfl rfl) ?_
                  refine al_nil ?_
                  refine aq_then ?_
                  obtain ⟨kk38, hkk38, h⟩ := lt_some h
                  refine aw_seq_join (ι := Bool) (fun i => (memOf w0 Z0 [] [(oRow v9 4 tyBool l26x8), (oRow l26v12 3 (tyInt .i64) l26x12), (oRow v14 3 (tyInt .i64) [a0.Days, a0.Weeks, a0.Months, a0.Years])] [(fDat (tyList (tyInt .i64)) [v1_0] a1), (fPtr (tyInt .i64) p34 u32)])) (fun i => (tab [(1, v1_0), (8, v9), (10, (Value.int .i64 l15i52)), (11, (Value.int .i64 u22)), (12, l26v12), (13, (Value.int .i64 l26i59)), (15, (Value.int .i64 r36)), (50, v14), (51, (Value.int .i64 (([a0.Days, a0.Weeks, a0.Months, a0.Years]).length : Int))), (52, (Value.int .i64 l15i52)), (57, v1_0), (58, (Value.int .i64 (a1.length : Int))), (59, (Value.int .i64 l26i59)), (76, (Value.bool i))])) (fun i => kk38 i = some r) ?_ ?_
                  · rintro j37b76 h
                    have h : kk38 j37b76 = some r := h
                    rw [hkk38] at h
                    dsimp only at h
                    clear hkk38
                    refine aw_show (m := (memOf w0 Z0 [] [(oRow v9 4 tyBool l26x8), (oRow l26v12 3 (tyInt .i64) l26x12), (oRow v14 3 (tyInt .i64) [a0.Days, a0.Weeks, a0.Months, a0.Years])] [(fDat (tyList (tyInt .i64)) [v1_0] a1), (fPtr (tyInt .i64) p34 u32)])) (S := (tab [(1, v1_0), (8, v9), (10, (Value.int .i64 l15i52)), (11, (Value.int .i64 u22)), (12, l26v12), (13, (Value.int .i64 l26i59)), (15, (Value.int .i64 r36)), (50, v14), (51, (Value.int .i64 (([a0.Days, a0.Weeks, a0.Months, a0.Years]).length : Int))), (52, (Value.int .i64 l15i52)), (57, v1_0), (58, (Value.int .i64 (a1.length : Int))), (59, (Value.int .i64 l26i59)), (76, (Value.bool j37b76))])) ?_
                    refine aw_cond rfl (fun hb39 => ?_) (fun hb39 => ?_)
                    · replace h := bif_t hb39 h
                      refine aw_seq ?_
                      refine aw_region ?_
                      refine al_val (ov_move rfl rfl) ?_
                      refine al_val (ov_move rfl rfl) ?_
                      refine al_buildSlice (τ := (tyInt .i64)) (e := 3) (k := 1) (sz := 0) (by_ := 0) (z := undef) (cs := [(Value.int .i64 r36)]) (xs := [r36]) rfl (by decide) (fun w a hm hs => ⟨([(Value.int .i64 r36)]).toArray, rfl, by simp only [List.map_toArray, List.map_cons, List.map_nil, hs.ev (x := .tmp 78) rfl]; exact run_bs [(Value.int .i64 r36)] [(Value.int .i64 r36)] Try.underlying34 to3 rfl rfl (bs_cons (l := [(Value.int .i64 r36)]) (cs := []) (cv_rfl rfl) rfl bs_nil) hm⟩) (fun hm => ⟨_, _, rfl, (fun _ => rfl) hm, rfl⟩) rfl (fun v40 => ?_)
                      obtain ⟨hc41, h⟩ := req_some h
                      refine al_append 2 hc41.1 hc41.2 rfl (src_own (i := 2) 0 rfl) rfl rfl Try.underlying34 to3 rfl rfl rfl (fun v42 => ?_)
                      refine al_val (ov_assign rfl rfl) ?_
                      refine al_nil ?_
                      refine aq_then ?_
                      refine aw_region ?_
                      refine al_val (ov_move rfl rfl) ?_
                      refine al_val (ov_move rfl rfl) ?_
                      obtain ⟨u43, hu44, h⟩ := opt_some h
                      refine al_idxR 1 (at_some hu44).1 (at_some hu44).2.1 rfl rfl rfl Try.underlying35 sz4 rfl (fun p45 hp46 => ?_)
                      refine al_storeR (k := (l26i59).toNat) (x := true) (vs := [(Value.bool true)]) 1 rfl hp46 (idx_lt hu44) rfl rfl (cv_rfl rfl) (fun _ => rfl) sz4 rfl ?_
                      refine al_nil ?_
                      refine aq_block ?_
                      exact aq_join ((l26x8.set (l26i59).toNat true), v42, (l26x12 ++ ([r36]))) h (fun w a hm hs => norm hm hs [1, 2, 3] [0] [(1, v1_0), (8, v9), (10, (Value.int .i64 l15i52)), (11, (Value.int .i64 u22)), (12, v42), (50, v14), (51, (Value.int .i64 (([a0.Days, a0.Weeks, a0.Months, a0.Years]).length : Int))), (52, (Value.int .i64 l15i52)), (57, v1_0), (58, (Value.int .i64 (a1.length : Int))), (59, (Value.int .i64 l26i59))] (by decide) ⟨rfl, rfl, rfl, rfl, rfl, rfl, rfl, rfl, rfl, rfl, rfl, trivial⟩)
                    · replace h := bif_f hb39 h
                      refine aw_skip ?_
                      refine aq_block ?_
                      exact aq_join (l26x8, l26v12, l26x12) h (fun w a hm hs => norm hm hs [0, 1, 2] [0] [(1, v1_0), (8, v9), (10, (Value.int .i64 l15i52)), (11, (Value.int .i64 u22)), (12, l26v12), (50, v14), (51, (Value.int .i64 (([a0.Days, a0.Weeks, a0.Months, a0.Years]).length : Int))), (52, (Value.int .i64 l15i52)), (57, v1_0), (58, (Value.int .i64 (a1.length : Int))), (59, (Value.int .i64 l26i59))] (by decide) ⟨rfl, rfl, rfl, rfl, rfl, rfl, rfl, rfl, rfl, rfl, rfl, trivial⟩)
                  · clear hkk38
                    refine aw_region ?_
                    refine al_val (ov_move rfl rfl) ?_
                    refine al_val (ov_move rfl rfl) ?_
                    obtain ⟨r48, hc47, h⟩ := opt_some h
                    refine al_call (vs := [l26v12, (Value.int .i64 r36)]) (f_lumref_has_ok fu l26v12 l26x12 r36 hc47) [1] [] [0, 1, 2] (pre_own 1 rfl rfl pre_nil) rfl (by simp) (by decide) (.inr flat_res0) rfl Try.func44 rfl rfl rfl (fun _ => ?_)
                    refine al_val (ov_not rfl rfl) ?_
                    refine al_val (ov_move rfl rfl) ?_
                    refine al_caseB 71 rfl (fun hb49 => ?_) (fun hb49 => ?_)
                    · replace h := bif_t hb49 h
                      refine al_val (ov_move rfl rfl) ?_
                      refine al_val (ov_lenR 1 rfl rfl Try.underlying34 rfl) ?_
                      refine al_val (ov_move rfl rfl) ?_
                      refine al_val (ov_int rfl rfl rfl rfl) ?_
                      refine al_val (ov_pick_t rfl rfl rfl) ?_
                      refine al_nil ?_
                      exact aq_join (decide ((l26x12.length : Int) < u22)) h (fun w a hm hs => norm hm hs [0, 1, 2] [1, 0] [(1, v1_0), (8, v9), (10, (Value.int .i64 l15i52)), (11, (Value.int .i64 u22)), (12, l26v12), (13, (Value.int .i64 l26i59)), (15, (Value.int .i64 r36)), (50, v14), (51, (Value.int .i64 (([a0.Days, a0.Weeks, a0.Months, a0.Years]).length : Int))), (52, (Value.int .i64 l15i52)), (57, v1_0), (58, (Value.int .i64 (a1.length : Int))), (59, (Value.int .i64 l26i59)), (76, (Value.bool (decide ((l26x12.length : Int) < u22))))] (by decide) ⟨rfl, rfl, rfl, rfl, rfl, rfl, rfl, rfl, rfl, rfl, rfl, rfl, rfl, rfl, trivial⟩)
                    · replace h := bif_f hb49 h
                      refine al_skip ?_
                      refine al_skip ?_
                      refine al_skip ?_
                      refine al_skip ?_
                      refine al_val (ov_pick_f rfl rfl rfl) ?_
                      refine al_nil ?_
                      exact aq_join false h (fun w a hm hs => norm hm hs [0, 1, 2] [1, 0] [(1, v1_0), (8, v9), (10, (Value.int .i64 l15i52)), (11, (Value.int .i64 u22)), (12, l26v12), (13, (Value.int .i64 l26i59)), (15, (Value.int .i64 r36)), (50, v14), (51, (Value.int .i64 (([a0.Days, a0.Weeks, a0.Months, a0.Years]).length : Int))), (52, (Value.int .i64 l15i52)), (57, v1_0), (58, (Value.int .i64 (a1.length : Int))), (59, (Value.int .i64 l26i59)), (76, (Value.bool false))] (by decide) ⟨rfl, rfl, rfl, rfl, rfl, rfl, rfl, rfl, rfl, rfl, rfl, rfl, rfl, rfl, trivial⟩)
              · replace h := bif_f hb29 h
                refine aw_exit ?_
                refine aq_then_exit ?_
                refine aq_then_exit ?_
                refine aq_block_exit ?_
                refine aq_block ?_
                exact aq_join l26x8 h (fun w a hm hs => norm hm hs [0, 2] [0] [(1, v1_0), (8, v9), (50, v14), (51, (Value.int .i64 (([a0.Days, a0.Weeks, a0.Months, a0.Years]).length : Int))), (52, (Value.int .i64 l15i52))] (by decide) ⟨rfl, rfl, rfl, rfl, rfl, trivial⟩)
          · replace h := bif_f hb19 h
            refine aw_exit ?_
            refine aq_then_exit ?_
            refine aq_then_exit ?_
            refine aq_block_exit ?_
            exact aq_join l15x8 h (fun w a hm hs => norm hm hs [0] [0] [(8, v9)] (by decide) ⟨rfl, trivial⟩)
      · clear hkk11
        refine aw_seq ?_
        refine aw_region ?_
        refine al_val (ov_move rfl rfl) ?_
        refine al_val (ov_lenR 0 rfl rfl Try.underlying35 rfl) ?_
        refine al_val (ov_move rfl rfl) ?_
        refine al_nil ?_
        refine aq_then ?_
        refine aw_block ?_
        refine aw_state (aw_loop (ι := (List Bool) × Int) (fun i => (memOf w0 Z0 [] [(oBox g1 33 [(Value.int .i64 a0.Last), (Value.int .i64 a0.Days), (Value.int .i64 a0.Weeks), (Value.int .i64 a0.Months), (Value.int .i64 a0.Years)]), (oRow v9 4 tyBool i.1)] [(fDat (tyList (tyInt .i64)) [v1_0] a1)])) (fun i => (tab [(1, v1_0), (2, (ptr g1 0)), (8, v9), (30, (Value.int .i64 ((List.replicate ((a1.length : Int)).toNat false).length : Int))), (31, (Value.int .i64 i.2))])) (fun q i => f_lumref_Pick_L52 a0 a1 kk11 q i.1 i.2 = some r) ?_ fu ((List.replicate ((a1.length : Int)).toNat false), (0 : Int)) h) (fun w a hm hs => norm hm hs [1, 0] [0] [(1, v1_0), (2, (ptr g1 0)), (8, v9), (30, (Value.int .i64 ((List.replicate ((a1.length : Int)).toNat false).length : Int))), (31, (Value.int .i64 (0 : Int)))] (by decide) ⟨rfl, rfl, rfl, rfl, rfl, trivial⟩)
        clear h
        rintro k51 ⟨l50x8, l50i31⟩ h
        have h : f_lumref_Pick_L52 a0 a1 kk11 k51 l50x8 l50i31 = some r := h
        obtain _ | k51 := k51
        · rw [f_lumref_Pick_L52] at h; cases h
        rw [f_lumref_Pick_L52] at h
        refine aw_show (m := (memOf w0 Z0 [] [(oBox g1 33 [(Value.int .i64 a0.Last), (Value.int .i64 a0.Days), (Value.int .i64 a0.Weeks), (Value.int .i64 a0.Months), (Value.int .i64 a0.Years)]), (oRow v9 4 tyBool l50x8)] [(fDat (tyList (tyInt .i64)) [v1_0] a1)])) (S := (tab [(1, v1_0), (2, (ptr g1 0)), (8, v9), (30, (Value.int .i64 ((List.replicate ((a1.length : Int)).toNat false).length : Int))), (31, (Value.int .i64 l50i31))])) ?_
        refine aw_seq ?_
        refine aw_region ?_
        refine al_val (ov_int rfl rfl rfl rfl) ?_
        refine al_nil ?_
        refine aq_then ?_
        refine aw_seq ?_
        refine aw_cond rfl (fun hb53 => ?_) (fun hb53 => ?_)
        · replace h := bif_t hb53 h
          refine aw_skip ?_
          refine aq_then ?_
          refine aw_seq ?_
          refine aw_block ?_
          refine aw_seq ?_
          refine aw_region ?_
          refine al_val (ov_move rfl rfl) ?_
          refine al_val (ov_assign rfl rfl) ?_
          refine al_nil ?_
          refine aq_then ?_
          refine aw_region ?_
          refine al_val (ov_move rfl rfl) ?_
          refine al_val (ov_move rfl rfl) ?_
          refine al_val (ov_move rfl rfl) ?_
          refine al_val (ov_fieldA (p := 0) rfl Try.underlying33 rfl sz3 rfl rfl rfl) ?_
          refine al_val (ov_load (i := 0) (v := (Value.int .i64 a0.Last)) rfl rfl Try.underlying3 sz3 rfl rfl rfl rfl) ?_
          refine al_val (ov_int rfl rfl rfl rfl) ?_
          obtain ⟨u54, hu55, h⟩ := opt_some h
          refine al_idxR 1 (at_some hu55).1 (at_some hu55).2.1 rfl rfl rfl Try.underlying35 sz4 rfl (fun p56 hp57 => ?_)
          refine al_storeR (k := (l50i31).toNat) (x := (decide (l50i31 < a0.Last))) (vs := [(Value.bool (decide (l50i31 < a0.Last)))]) 1 rfl hp57 (idx_lt hu55) rfl rfl (cv_rfl rfl) (fun _ => rfl) sz4 rfl ?_
          refine al_nil ?_
          refine aq_block ?_
          refine aq_then ?_
          refine aw_region ?_
          refine al_val (ov_int rfl rfl rfl rfl) ?_
          refine al_val (ov_move rfl rfl) ?_
          refine al_nil ?_
          exact aq_again k51 ((l50x8.set (l50i31).toNat (decide (l50i31 < a0.Last))), (IntKind.i64.wrap (l50i31 + (1 : Int)))) (Nat.lt_succ_self _) h (fun w a hm hs => norm hm hs [0, 1] [0] [(1, v1_0), (2, (ptr g1 0)), (8, v9), (30, (Value.int .i64 ((List.replicate ((a1.length : Int)).toNat false).length : Int))), (31, (Value.int .i64 (IntKind.i64.wrap (l50i31 + (1 : Int)))))] (by decide) ⟨rfl, rfl, rfl, rfl, rfl, trivial⟩)
        · replace h := bif_f hb53 h
          refine aw_exit ?_
          refine aq_then_exit ?_
          refine aq_then_exit ?_
          refine aq_block_exit ?_
          exact aq_join l50x8 h (fun w a hm hs => norm hm hs [0, 1] [0] [(1, v1_0), (2, (ptr g1 0)), (8, v9)] (by decide) ⟨rfl, rfl, rfl, trivial⟩)
def f_slices_Equal___bool_bool__L6 (a0 : (List Bool)) (a1 : (List Bool)) (kk3 : (Unit → Option Bool)) : Nat → Int → Option Bool
  | 0, _ => none
  | k5 + 1, l4i13 => (bif (decide (l4i13 < (a0.length : Int))) then (opt (at? a0 l4i13) fun (u8 : Bool) => (opt (at? a1 l4i13) fun (u11 : Bool) => (bif (u8 != u11) then (some false) else (f_slices_Equal___bool_bool__L6 a0 a1 kk3 k5 (IntKind.i64.wrap (l4i13 + (1 : Int))))))) else (kk3 ()))
def f_slices_Equal___bool_bool_ (fu : Nat) (a0 : (List Bool)) (a1 : (List Bool)) : Option Bool := (bif ((a0.length : Int) != (a1.length : Int)) then (some false) else (lt (fun (_ : Unit) => (some true)) fun (kk3 : Unit → Option Bool) => (f_slices_Equal___bool_bool__L6 a0 a1 kk3 fu (0 : Int))))
end Go.Proofs.Ytollpgmcmipcoaa
