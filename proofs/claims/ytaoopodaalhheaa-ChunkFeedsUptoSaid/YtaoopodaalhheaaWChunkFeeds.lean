/- Walks by program. No condition. -/
import Derived.Test.YtaoopodaalhheaaEn13
import Derived.Test.YtaoopodaalhheaaChecked
namespace Go.Proofs.Ytaoopodaalhheaa
open Go.RowKit Ytaoopodaalhheaa.En
set_option linter.unusedVariables false
set_option linter.unusedSimpArgs false
structure S_api_Cut where
  Min : Int
  Max : Int
  Bits : Int
  deriving DecidableEq
def tyS_api_Cut : Ty S_api_Cut := tyVia (fun x => (x.Min, (x.Max, x.Bits))) (tyPair (tyInt .i64) (tyPair (tyInt .i64) (tyInt .i64)))
theorem subS_api_Cut_0 : Sub tyS_api_Cut 0 (tyInt .i64) (fun x => x.Min) := Sub.via (Sub.fst (Sub.whole _))
theorem subS_api_Cut_1 : Sub tyS_api_Cut 1 (tyInt .i64) (fun x => x.Max) := Sub.via (Sub.snd (Sub.fst (Sub.whole _)))
theorem subS_api_Cut_2 : Sub tyS_api_Cut 2 (tyInt .i64) (fun x => x.Bits) := Sub.via (Sub.snd (Sub.snd (Sub.whole _)))
theorem flatS_api_Cut : FlatTy tyS_api_Cut := flat_via (flat_pair flat_enc (flat_pair flat_enc flat_enc))
theorem encS_api_Cut {Z w cs} {x : S_api_Cut} (h : tyS_api_Cut.rep Z w cs x) : cs = [(Value.int .i64 x.Min), (Value.int .i64 x.Max), (Value.int .i64 x.Bits)] := by
  obtain ⟨c0, d0, rfl, p0, q0⟩ := h
  obtain ⟨c1, d1, rfl, p1, q1⟩ := q0
  rw [show _ = _ from p0]
  rw [show _ = _ from p1]
  rw [show _ = _ from q1]
  rfl
theorem mkS_api_Cut {Z w cs} {x : S_api_Cut} (h : cs = [(Value.int .i64 x.Min), (Value.int .i64 x.Max), (Value.int .i64 x.Bits)]) : tyS_api_Cut.rep Z w cs x := by
  subst h
  exact ⟨_, _, (List.take_append_drop 1 _).symm, rfl, ⟨_, _, (List.take_append_drop 1 _).symm, rfl, rfl⟩⟩
structure A16u8 where
  e0 : UInt8
  e1 : UInt8
  e2 : UInt8
  e3 : UInt8
  e4 : UInt8
  e5 : UInt8
  e6 : UInt8
  e7 : UInt8
  e8 : UInt8
  e9 : UInt8
  e10 : UInt8
  e11 : UInt8
  e12 : UInt8
  e13 : UInt8
  e14 : UInt8
  e15 : UInt8
  deriving DecidableEq
def tyA16u8 : Ty A16u8 := tyVia (fun x => (x.e0, (x.e1, (x.e2, (x.e3, (x.e4, (x.e5, (x.e6, (x.e7, (x.e8, (x.e9, (x.e10, (x.e11, (x.e12, (x.e13, (x.e14, x.e15)))))))))))))))) (tyPair tyU8 (tyPair tyU8 (tyPair tyU8 (tyPair tyU8 (tyPair tyU8 (tyPair tyU8 (tyPair tyU8 (tyPair tyU8 (tyPair tyU8 (tyPair tyU8 (tyPair tyU8 (tyPair tyU8 (tyPair tyU8 (tyPair tyU8 (tyPair tyU8 tyU8)))))))))))))))
theorem subA16u8_0 : Sub tyA16u8 0 tyU8 (fun x => x.e0) := Sub.via (Sub.fst (Sub.whole _))
theorem subA16u8_1 : Sub tyA16u8 1 tyU8 (fun x => x.e1) := Sub.via (Sub.snd (Sub.fst (Sub.whole _)))
theorem subA16u8_2 : Sub tyA16u8 2 tyU8 (fun x => x.e2) := Sub.via (Sub.snd (Sub.snd (Sub.fst (Sub.whole _))))
theorem subA16u8_3 : Sub tyA16u8 3 tyU8 (fun x => x.e3) := Sub.via (Sub.snd (Sub.snd (Sub.snd (Sub.fst (Sub.whole _)))))
theorem subA16u8_4 : Sub tyA16u8 4 tyU8 (fun x => x.e4) := Sub.via (Sub.snd (Sub.snd (Sub.snd (Sub.snd (Sub.fst (Sub.whole _))))))
theorem subA16u8_5 : Sub tyA16u8 5 tyU8 (fun x => x.e5) := Sub.via (Sub.snd (Sub.snd (Sub.snd (Sub.snd (Sub.snd (Sub.fst (Sub.whole _)))))))
theorem subA16u8_6 : Sub tyA16u8 6 tyU8 (fun x => x.e6) := Sub.via (Sub.snd (Sub.snd (Sub.snd (Sub.snd (Sub.snd (Sub.snd (Sub.fst (Sub.whole _))))))))
theorem subA16u8_7 : Sub tyA16u8 7 tyU8 (fun x => x.e7) := Sub.via (Sub.snd (Sub.snd (Sub.snd (Sub.snd (Sub.snd (Sub.snd (Sub.snd (Sub.fst (Sub.whole _)))))))))
theorem subA16u8_8 : Sub tyA16u8 8 tyU8 (fun x => x.e8) := Sub.via (Sub.snd (Sub.snd (Sub.snd (Sub.snd (Sub.snd (Sub.snd (Sub.snd (Sub.snd (Sub.fst (Sub.whole _))))))))))
theorem subA16u8_9 : Sub tyA16u8 9 tyU8 (fun x => x.e9) := Sub.via (Sub.snd (Sub.snd (Sub.snd (Sub.snd (Sub.snd (Sub.snd (Sub.snd (Sub.snd (Sub.snd (Sub.fst (Sub.whole _)))))))))))
theorem subA16u8_10 : Sub tyA16u8 10 tyU8 (fun x => x.e10) := Sub.via (Sub.snd (Sub.snd (Sub.snd (Sub.snd (Sub.snd (Sub.snd (Sub.snd (Sub.snd (Sub.snd (Sub.snd (Sub.fst (Sub.whole _))))))))))))
theorem subA16u8_11 : Sub tyA16u8 11 tyU8 (fun x => x.e11) := Sub.via (Sub.snd (Sub.snd (Sub.snd (Sub.snd (Sub.snd (Sub.snd (Sub.snd (Sub.snd (Sub.snd (Sub.snd (Sub.snd (Sub.fst (Sub.whole _)))))))))))))
theorem subA16u8_12 : Sub tyA16u8 12 tyU8 (fun x => x.e12) := Sub.via (Sub.snd (Sub.snd (Sub.snd (Sub.snd (Sub.snd (Sub.snd (Sub.snd (Sub.snd (Sub.snd (Sub.snd (Sub.snd (Sub.snd (Sub.fst (Sub.whole _))))))))))))))
theorem subA16u8_13 : Sub tyA16u8 13 tyU8 (fun x => x.e13) := Sub.via (Sub.snd (Sub.snd (Sub.snd (Sub.snd (Sub.snd (Sub.snd (Sub.snd (Sub.snd (Sub.snd (Sub.snd (Sub.snd (Sub.snd (Sub.snd (Sub.fst (Sub.whole _)))))))))))))))
theorem subA16u8_14 : Sub tyA16u8 14 tyU8 (fun x => x.e14) := Sub.via (Sub.snd (Sub.snd (Sub.snd (Sub.snd (Sub.snd (Sub.snd (Sub.snd (Sub.snd (Sub.snd (Sub.snd (Sub.snd (Sub.snd (Sub.snd (Sub.snd (Sub.fst (Sub.whole _))))))))))))))))
theorem subA16u8_15 : Sub tyA16u8 15 tyU8 (fun x => x.e15) := Sub.via (Sub.snd (Sub.snd (Sub.snd (Sub.snd (Sub.snd (Sub.snd (Sub.snd (Sub.snd (Sub.snd (Sub.snd (Sub.snd (Sub.snd (Sub.snd (Sub.snd (Sub.snd (Sub.whole _))))))))))))))))
def cA16u8 (x : A16u8) : List Value := [(Value.int .u8 (x.e0.toNat : Int)), (Value.int .u8 (x.e1.toNat : Int)), (Value.int .u8 (x.e2.toNat : Int)), (Value.int .u8 (x.e3.toNat : Int)), (Value.int .u8 (x.e4.toNat : Int)), (Value.int .u8 (x.e5.toNat : Int)), (Value.int .u8 (x.e6.toNat : Int)), (Value.int .u8 (x.e7.toNat : Int)), (Value.int .u8 (x.e8.toNat : Int)), (Value.int .u8 (x.e9.toNat : Int)), (Value.int .u8 (x.e10.toNat : Int)), (Value.int .u8 (x.e11.toNat : Int)), (Value.int .u8 (x.e12.toNat : Int)), (Value.int .u8 (x.e13.toNat : Int)), (Value.int .u8 (x.e14.toNat : Int)), (Value.int .u8 (x.e15.toNat : Int))]
def lA16u8 (x : A16u8) : List UInt8 := [x.e0, x.e1, x.e2, x.e3, x.e4, x.e5, x.e6, x.e7, x.e8, x.e9, x.e10, x.e11, x.e12, x.e13, x.e14, x.e15]
def vA16u8 (y : UInt8) : Value := (Value.int .u8 (y.toNat : Int))
def setA16u8 (x : A16u8) (j : Int) (y : UInt8) : A16u8 := ⟨if j = 0 then y else x.e0, if j = 1 then y else x.e1, if j = 2 then y else x.e2, if j = 3 then y else x.e3, if j = 4 then y else x.e4, if j = 5 then y else x.e5, if j = 6 then y else x.e6, if j = 7 then y else x.e7, if j = 8 then y else x.e8, if j = 9 then y else x.e9, if j = 10 then y else x.e10, if j = 11 then y else x.e11, if j = 12 then y else x.e12, if j = 13 then y else x.e13, if j = 14 then y else x.e14, if j = 15 then y else x.e15⟩
theorem oneA16u8 (x : A16u8) : ∀ u ∈ cA16u8 x, u.oneCell' = true := ones_map (enc := vA16u8) (xs := lA16u8 x) (fun _ => rfl)
theorem lenA16u8 (x : A16u8) : (lA16u8 x).length = 16 := rfl
theorem lsetA16u8 {x : A16u8} {j : Int} {y : UInt8} (h0 : 0 ≤ j) (h1 : j < 16) : lA16u8 (setA16u8 x j y) = (lA16u8 x).set j.toNat y := by
  obtain ⟨q, rfl⟩ : ∃ q : Nat, j = q := ⟨j.toNat, by omega⟩
  match q, h1 with
  | 0, _ => rfl
  | 1, _ => rfl
  | 2, _ => rfl
  | 3, _ => rfl
  | 4, _ => rfl
  | 5, _ => rfl
  | 6, _ => rfl
  | 7, _ => rfl
  | 8, _ => rfl
  | 9, _ => rfl
  | 10, _ => rfl
  | 11, _ => rfl
  | 12, _ => rfl
  | 13, _ => rfl
  | 14, _ => rfl
  | 15, _ => rfl
  | n + 16, h => omega
theorem csetA16u8 {x : A16u8} {j : Int} {y : UInt8} (h0 : 0 ≤ j) (h1 : j < 16) (pre post : List Value) : pre ++ (cA16u8 (setA16u8 x j y) ++ post) = (pre ++ (cA16u8 x ++ post)).set (pre.length + j.toNat) (vA16u8 y) := by
  have h : cA16u8 (setA16u8 x j y) = (cA16u8 x).set j.toNat (vA16u8 y) := by
    have e : ∀ z : A16u8, cA16u8 z = (lA16u8 z).map vA16u8 := fun _ => rfl
    rw [e, e, lsetA16u8 h0 h1, List.map_set]
  rw [h, List.set_append_right _ _ (by omega), Nat.add_sub_cancel_left, List.set_append_left _ _ (by show j.toNat < 16; omega)]
theorem flatA16u8 : FlatTy tyA16u8 := flat_via (flat_pair flat_enc (flat_pair flat_enc (flat_pair flat_enc (flat_pair flat_enc (flat_pair flat_enc (flat_pair flat_enc (flat_pair flat_enc (flat_pair flat_enc (flat_pair flat_enc (flat_pair flat_enc (flat_pair flat_enc (flat_pair flat_enc (flat_pair flat_enc (flat_pair flat_enc (flat_pair flat_enc flat_enc)))))))))))))))
theorem encA16u8 {Z w cs} {x : A16u8} (h : tyA16u8.rep Z w cs x) : cs = (cA16u8 x) := by
  obtain ⟨c0, d0, rfl, p0, q0⟩ := h
  obtain ⟨c1, d1, rfl, p1, q1⟩ := q0
  obtain ⟨c2, d2, rfl, p2, q2⟩ := q1
  obtain ⟨c3, d3, rfl, p3, q3⟩ := q2
  obtain ⟨c4, d4, rfl, p4, q4⟩ := q3
  obtain ⟨c5, d5, rfl, p5, q5⟩ := q4
  obtain ⟨c6, d6, rfl, p6, q6⟩ := q5
  obtain ⟨c7, d7, rfl, p7, q7⟩ := q6
  obtain ⟨c8, d8, rfl, p8, q8⟩ := q7
  obtain ⟨c9, d9, rfl, p9, q9⟩ := q8
  obtain ⟨c10, d10, rfl, p10, q10⟩ := q9
  obtain ⟨c11, d11, rfl, p11, q11⟩ := q10
  obtain ⟨c12, d12, rfl, p12, q12⟩ := q11
  obtain ⟨c13, d13, rfl, p13, q13⟩ := q12
  obtain ⟨c14, d14, rfl, p14, q14⟩ := q13
  rw [show _ = _ from p0]
  rw [show _ = _ from p1]
  rw [show _ = _ from p2]
  rw [show _ = _ from p3]
  rw [show _ = _ from p4]
  rw [show _ = _ from p5]
  rw [show _ = _ from p6]
  rw [show _ = _ from p7]
  rw [show _ = _ from p8]
  rw [show _ = _ from p9]
  rw [show _ = _ from p10]
  rw [show _ = _ from p11]
  rw [show _ = _ from p12]
  rw [show _ = _ from p13]
  rw [show _ = _ from p14]
  rw [show _ = _ from q14]
  rfl
theorem mkA16u8 {Z w cs} {x : A16u8} (h : cs = (cA16u8 x)) : tyA16u8.rep Z w cs x := by
  subst h
  exact ⟨_, _, (List.take_append_drop 1 _).symm, rfl, ⟨_, _, (List.take_append_drop 1 _).symm, rfl, ⟨_, _, (List.take_append_drop 1 _).symm, rfl, ⟨_, _, (List.take_append_drop 1 _).symm, rfl, ⟨_, _, (List.take_append_drop 1 _).symm, rfl, ⟨_, _, (List.take_append_drop 1 _).symm, rfl, ⟨_, _, (List.take_append_drop 1 _).symm, rfl, ⟨_, _, (List.take_append_drop 1 _).symm, rfl, ⟨_, _, (List.take_append_drop 1 _).symm, rfl, ⟨_, _, (List.take_append_drop 1 _).symm, rfl, ⟨_, _, (List.take_append_drop 1 _).symm, rfl, ⟨_, _, (List.take_append_drop 1 _).symm, rfl, ⟨_, _, (List.take_append_drop 1 _).symm, rfl, ⟨_, _, (List.take_append_drop 1 _).symm, rfl, ⟨_, _, (List.take_append_drop 1 _).symm, rfl, rfl⟩⟩⟩⟩⟩⟩⟩⟩⟩⟩⟩⟩⟩⟩⟩
theorem lrepA16u8 {Z w cs} {x : A16u8} (h : tyA16u8.rep Z w cs x) : RepL tyU8 Z w cs (lA16u8 x) := by
  rw [encA16u8 h]
  exact ⟨[_], _, rfl, rfl, ⟨[_], _, rfl, rfl, ⟨[_], _, rfl, rfl, ⟨[_], _, rfl, rfl, ⟨[_], _, rfl, rfl, ⟨[_], _, rfl, rfl, ⟨[_], _, rfl, rfl, ⟨[_], _, rfl, rfl, ⟨[_], _, rfl, rfl, ⟨[_], _, rfl, rfl, ⟨[_], _, rfl, rfl, ⟨[_], _, rfl, rfl, ⟨[_], _, rfl, rfl, ⟨[_], _, rfl, rfl, ⟨[_], _, rfl, rfl, ⟨[_], _, rfl, rfl, rfl⟩⟩⟩⟩⟩⟩⟩⟩⟩⟩⟩⟩⟩⟩⟩⟩
structure S_api_Roll where
  Win : A16u8
  At : Int
  Sum : Int
  deriving DecidableEq
def tyS_api_Roll : Ty S_api_Roll := tyVia (fun x => (x.Win, (x.At, x.Sum))) (tyPair tyA16u8 (tyPair (tyInt .i64) (tyInt .u32)))
theorem subS_api_Roll_0 : Sub tyS_api_Roll 0 tyA16u8 (fun x => x.Win) := Sub.via (Sub.fst (Sub.whole _))
theorem subS_api_Roll_1 : Sub tyS_api_Roll 16 (tyInt .i64) (fun x => x.At) := Sub.via (Sub.snd (Sub.fst (Sub.whole _)))
theorem subS_api_Roll_2 : Sub tyS_api_Roll 17 (tyInt .u32) (fun x => x.Sum) := Sub.via (Sub.snd (Sub.snd (Sub.whole _)))
theorem flatS_api_Roll : FlatTy tyS_api_Roll := flat_via (flat_pair flatA16u8 (flat_pair flat_enc flat_enc))
theorem encS_api_Roll {Z w cs} {x : S_api_Roll} (h : tyS_api_Roll.rep Z w cs x) : cs = ((cA16u8 x.Win) ++ [(Value.int .i64 x.At), (Value.int .u32 x.Sum)]) := by
  obtain ⟨c0, d0, rfl, p0, q0⟩ := h
  obtain ⟨c1, d1, rfl, p1, q1⟩ := q0
  rw [encA16u8 p0]
  rw [show _ = _ from p1]
  rw [show _ = _ from q1]
  rfl
theorem mkS_api_Roll {Z w cs} {x : S_api_Roll} (h : cs = ((cA16u8 x.Win) ++ [(Value.int .i64 x.At), (Value.int .u32 x.Sum)])) : tyS_api_Roll.rep Z w cs x := by
  subst h
  exact ⟨_, _, (List.take_append_drop 16 _).symm, (mkA16u8 rfl), ⟨_, _, (List.take_append_drop 1 _).symm, rfl, rfl⟩⟩
theorem sz3 : szOf Try.prog 3 = some 1 := by kernel_rfl
theorem to3 : tyOf Try.prog 3 = some (1, 8, some (Value.int .i64 (0 : Int))) := by kernel_rfl
theorem sz5 : szOf Try.prog 5 = some 1 := by kernel_rfl
theorem to5 : tyOf Try.prog 5 = some (1, 1, some (Value.int .u8 (0 : Int))) := by kernel_rfl
theorem sz9 : szOf Try.prog 9 = some 1 := by kernel_rfl
theorem to9 : tyOf Try.prog 9 = some (1, 16, some (str ([] : List UInt8))) := by kernel_rfl
theorem sz36 : szOf Try.prog 36 = some 3 := by kernel_rfl
theorem to36 : tyOf Try.prog 36 = some (3, 24, some (ag [(Value.int .i64 (0 : Int)), (Value.int .i64 (0 : Int)), (Value.int .i64 (0 : Int))])) := by kernel_rfl
theorem sz152 : szOf Try.prog 152 = some 1 := by kernel_rfl
theorem to152 : tyOf Try.prog 152 = some (1, 4, some (Value.int .u32 (0 : Int))) := by kernel_rfl
theorem sz279 : szOf Try.prog 279 = some 16 := by kernel_rfl
theorem to279 : tyOf Try.prog 279 = some (16, 16, some (ag [(Value.int .u8 (0 : Int)), (Value.int .u8 (0 : Int)), (Value.int .u8 (0 : Int)), (Value.int .u8 (0 : Int)), (Value.int .u8 (0 : Int)), (Value.int .u8 (0 : Int)), (Value.int .u8 (0 : Int)), (Value.int .u8 (0 : Int)), (Value.int .u8 (0 : Int)), (Value.int .u8 (0 : Int)), (Value.int .u8 (0 : Int)), (Value.int .u8 (0 : Int)), (Value.int .u8 (0 : Int)), (Value.int .u8 (0 : Int)), (Value.int .u8 (0 : Int)), (Value.int .u8 (0 : Int))])) := by kernel_rfl
theorem sz281 : szOf Try.prog 281 = some 18 := by kernel_rfl
theorem to281 : tyOf Try.prog 281 = some (18, 32, some (ag [(Value.int .u8 (0 : Int)), (Value.int .u8 (0 : Int)), (Value.int .u8 (0 : Int)), (Value.int .u8 (0 : Int)), (Value.int .u8 (0 : Int)), (Value.int .u8 (0 : Int)), (Value.int .u8 (0 : Int)), (Value.int .u8 (0 : Int)), (Value.int .u8 (0 : Int)), (Value.int .u8 (0 : Int)), (Value.int .u8 (0 : Int)), (Value.int .u8 (0 : Int)), (Value.int .u8 (0 : Int)), (Value.int .u8 (0 : Int)), (Value.int .u8 (0 : Int)), (Value.int .u8 (0 : Int)), (Value.int .i64 (0 : Int)), (Value.int .u32 (0 : Int))])) := by kernel_rfl
theorem mixed : Try.prog.follows .mixedOrders = true := by kernel_rfl
def okS_api_Cut (x : S_api_Cut) : Prop := ((Lit.int .i64 x.Min).wf = true) ∧ ((Lit.int .i64 x.Max).wf = true) ∧ ((Lit.int .i64 x.Bits).wf = true)
set_option maxRecDepth 100000 in
theorem opnS_api_Cut {H : Type} : Opn H Try.prog 36 tyS_api_Cut okS_api_Cut := opn_struct (fun x => (x.Min, (x.Max, x.Bits))) (fun y => S_api_Cut.mk y.1 y.2.1 y.2.2) (fun _ => rfl) Try.underlying36 sz36 (fields_cons sz3 (opn_int Try.underlying3) (fields_cons sz3 (opn_int Try.underlying3) (fields_one sz3 (opn_int Try.underlying3))))
def f_chunk_Check (fu : Nat) (a0 : S_api_Cut) : Option Int := (lt (fun (j2b27 : Bool) => (bif j2b27 then (some (1 : Int)) else (some (0 : Int)))) fun (kk3 : Bool → Option Int) => (bif (decide (a0.Min < (16 : Int))) then (kk3 true) else (bif (decide (a0.Max < a0.Min)) then (kk3 true) else (bif (decide (a0.Max > (1024 : Int))) then (kk3 true) else (bif (decide (a0.Bits < (1 : Int))) then (kk3 true) else (kk3 (decide (a0.Bits > (12 : Int)))))))))
set_option maxRecDepth 100000 in
theorem f_chunk_Check_ok (fu : Nat) (a0 : S_api_Cut) {r : Int} (h : f_chunk_Check fu a0 = some r) : FnOk Try.prog 33 [(ag [(Value.int .i64 a0.Min), (Value.int .i64 a0.Max), (Value.int .i64 a0.Bits)])] [] [] (fun (i : Unit) => { val := (Value.int .i64 r) }) := by
  unfold f_chunk_Check at h
  refine fn_enter Try.func33 rfl Try.ntmps33 rfl (fun w0 Z0 => ?_)
  refine aw_seq ?_
  refine aw_region ?_
  refine al_box (vs := [(Value.int .i64 a0.Min), (Value.int .i64 a0.Max), (Value.int .i64 a0.Bits)]) rfl (cv_rfl rfl) rfl (fun g1 => ?_)
  refine al_val (ov_assign rfl rfl) ?_
  refine al_nil ?_
  refine aq_then ?_
  refine aw_seq ?_
  obtain ⟨kk3, hkk3, h⟩ := lt_some h
  refine aw_seq_join (ι := Bool) (fun i => (memOf w0 Z0 [] [] [])) (fun i => (tab [(27, (Value.bool i))])) (fun i => kk3 i = some r) ?_ ?_
  · rintro j2b27 h
    have h : kk3 j2b27 = some r := h
    rw [hkk3] at h
    dsimp only at h
    clear hkk3
    refine aw_show (m := (memOf w0 Z0 [] [] [])) (S := (tab [(27, (Value.bool j2b27))])) ?_
    refine aw_cond rfl (fun hb4 => ?_) (fun hb4 => ?_)
    · replace h := bif_t hb4 h
      refine aw_seq ?_
      refine aw_region ?_
      refine al_val (ov_assign rfl rfl) ?_
      refine al_nil ?_
      refine aq_then ?_
      refine aw_ret ?_
      refine aq_then_ret ?_
      obtain rfl := Option.some.inj h
      exact fn_ret () [] [] rfl rfl rfl rfl (res1 rfl rfl) rfl rfl rfl (by decide)
    · replace h := bif_f hb4 h
      refine aw_skip ?_
      refine aq_then ?_
      refine aw_seq ?_
      refine aw_region ?_
      refine al_val (ov_assign rfl rfl) ?_
      refine al_nil ?_
      refine aq_then ?_
      refine aw_ret ?_
      obtain rfl := Option.some.inj h
      exact fn_ret () [] [] rfl rfl rfl rfl (res1 rfl rfl) rfl rfl rfl (by decide)
  · clear hkk3
    refine aw_region ?_
    refine al_val (ov_fieldA (p := 0) rfl Try.underlying36 rfl sz3 rfl rfl rfl) ?_
    refine al_val (ov_load (i := 0) (v := (Value.int .i64 a0.Min)) rfl rfl Try.underlying3 sz3 rfl rfl rfl rfl) ?_
    refine al_val (ov_int rfl rfl rfl rfl) ?_
    refine al_val (ov_move rfl rfl) ?_
    refine al_caseB 6 rfl (fun hb5 => ?_) (fun hb5 => ?_)
    · replace h := bif_t hb5 h
      refine al_skip ?_
      refine al_skip ?_
      refine al_skip ?_
      refine al_skip ?_
      refine al_skip ?_
      refine al_val (ov_pick_t rfl rfl rfl) ?_
      refine al_val (ov_move rfl rfl) ?_
      refine al_skip ?_
      refine al_skip ?_
      refine al_skip ?_
      refine al_val (ov_pick_t rfl rfl rfl) ?_
      refine al_val (ov_move rfl rfl) ?_
      refine al_skip ?_
      refine al_skip ?_
      refine al_skip ?_
      refine al_val (ov_pick_t rfl rfl rfl) ?_
      refine al_val (ov_move rfl rfl) ?_
      refine al_skip ?_
      refine al_skip ?_
      refine al_skip ?_
      refine al_val (ov_pick_t rfl rfl rfl) ?_
      refine al_nil ?_
      exact aq_join true h (fun w a hm hs => norm hm hs [] [] [(27, (Value.bool true))] (by decide) ⟨rfl, trivial⟩)
    · replace h := bif_f hb5 h
      refine al_val (ov_fieldA (p := 1) rfl Try.underlying36 rfl sz3 rfl rfl rfl) ?_
      refine al_val (ov_load (i := 0) (v := (Value.int .i64 a0.Max)) rfl rfl Try.underlying3 sz3 rfl rfl rfl rfl) ?_
      refine al_val (ov_fieldA (p := 0) rfl Try.underlying36 rfl sz3 rfl rfl rfl) ?_
      refine al_val (ov_load (i := 0) (v := (Value.int .i64 a0.Min)) rfl rfl Try.underlying3 sz3 rfl rfl rfl rfl) ?_
      refine al_val (ov_int rfl rfl rfl rfl) ?_
      refine al_val (ov_pick_f rfl rfl rfl) ?_
      refine al_val (ov_move rfl rfl) ?_
      refine al_caseB 13 rfl (fun hb6 => ?_) (fun hb6 => ?_)
      · replace h := bif_t hb6 h
        refine al_skip ?_
        refine al_skip ?_
        refine al_skip ?_
        refine al_val (ov_pick_t rfl rfl rfl) ?_
        refine al_val (ov_move rfl rfl) ?_
        refine al_skip ?_
        refine al_skip ?_
        refine al_skip ?_
        refine al_val (ov_pick_t rfl rfl rfl) ?_
        refine al_val (ov_move rfl rfl) ?_
        refine al_skip ?_
        refine al_skip ?_
        refine al_skip ?_
        refine al_val (ov_pick_t rfl rfl rfl) ?_
        refine al_nil ?_
        exact aq_join true h (fun w a hm hs => norm hm hs [] [] [(27, (Value.bool true))] (by decide) ⟨rfl, trivial⟩)
      · replace h := bif_f hb6 h
        refine al_val (ov_fieldA (p := 1) rfl Try.underlying36 rfl sz3 rfl rfl rfl) ?_
        refine al_val (ov_load (i := 0) (v := (Value.int .i64 a0.Max)) rfl rfl Try.underlying3 sz3 rfl rfl rfl rfl) ?_
        refine al_val (ov_int rfl rfl rfl rfl) ?_
        refine al_val (ov_pick_f rfl rfl rfl) ?_
        refine al_val (ov_move rfl rfl) ?_
        refine al_caseB 18 rfl (fun hb7 => ?_) (fun hb7 => ?_)
        · replace h := bif_t hb7 h
          refine al_skip ?_
          refine al_skip ?_
          refine al_skip ?_
          refine al_val (ov_pick_t rfl rfl rfl) ?_
          refine al_val (ov_move rfl rfl) ?_
          refine al_skip ?_
          refine al_skip ?_
          refine al_skip ?_
          refine al_val (ov_pick_t rfl rfl rfl) ?_
          refine al_nil ?_
          exact aq_join true h (fun w a hm hs => norm hm hs [] [] [(27, (Value.bool true))] (by decide) ⟨rfl, trivial⟩)
        · replace h := bif_f hb7 h
          refine al_val (ov_fieldA (p := 2) rfl Try.underlying36 rfl sz3 rfl rfl rfl) ?_
          refine al_val (ov_load (i := 0) (v := (Value.int .i64 a0.Bits)) rfl rfl Try.underlying3 sz3 rfl rfl rfl rfl) ?_
          refine al_val (ov_int rfl rfl rfl rfl) ?_
          refine al_val (ov_pick_f rfl rfl rfl) ?_
          refine al_val (ov_move rfl rfl) ?_
          refine al_caseB 23 rfl (fun hb8 => ?_) (fun hb8 => ?_)
          · replace h := bif_t hb8 h
            refine al_skip ?_
            refine al_skip ?_
            refine al_skip ?_
            refine al_val (ov_pick_t rfl rfl rfl) ?_
            refine al_nil ?_
            exact aq_join true h (fun w a hm hs => norm hm hs [] [] [(27, (Value.bool true))] (by decide) ⟨rfl, trivial⟩)
          · replace h := bif_f hb8 h
            refine al_val (ov_fieldA (p := 2) rfl Try.underlying36 rfl sz3 rfl rfl rfl) ?_
            refine al_val (ov_load (i := 0) (v := (Value.int .i64 a0.Bits)) rfl rfl Try.underlying3 sz3 rfl rfl rfl rfl) ?_
            refine al_val (ov_int rfl rfl rfl rfl) ?_
            refine al_val (ov_pick_f rfl rfl rfl) ?_
            refine al_nil ?_
            exact aq_join (decide (a0.Bits > (12 : Int))) h (fun w a hm hs => norm hm hs [] [] [(27, (Value.bool (decide (a0.Bits > (12 : Int)))))] (by decide) ⟨rfl, trivial⟩)
def f_roll_reduce_L5 (kk2 : (Int → Option Int)) : Nat → Int → Int → Option Int
  | 0, _, _ => none
  | k4 + 1, l3i0, l3i3 => (bif (decide (l3i3 ≥ (31 : Int))) then (lt (fun (j7i0 : Int) => (f_roll_reduce_L5 kk2 k4 j7i0 (IntKind.i64.wrap (l3i3 - (1 : Int))))) fun (kk8 : Int → Option Int) => (req (0 ≤ l3i3) (bif ((bits .and .u64 ((l3i0).fdiv (2 ^ min (l3i3).toNat (IntKind.bits .u64))) (1 : Int)) == (1 : Int)) then (req (0 ≤ (IntKind.i64.wrap (l3i3 - (31 : Int)))) (kk8 (bits .xor .u64 l3i0 (IntKind.u64.wrap ((2147483657 : Int) * 2 ^ min ((IntKind.i64.wrap (l3i3 - (31 : Int)))).toNat (IntKind.bits .u64)))))) else (kk8 l3i0)))) else (kk2 l3i0))
def f_roll_reduce (fu : Nat) (a0 : Int) : Option Int := (lt (fun (j1i0 : Int) => (some (IntKind.u32.wrap j1i0))) fun (kk2 : Int → Option Int) => (f_roll_reduce_L5 kk2 fu a0 (63 : Int)))
set_option maxRecDepth 100000 in
theorem f_roll_reduce_ok (fu : Nat) (a0 : Int) {r : Int} (h : f_roll_reduce fu a0 = some r) : FnOk Try.prog 239 [(Value.int .u64 a0)] [] [] (fun (i : Unit) => { val := (Value.int .u32 r) }) := by
  unfold f_roll_reduce at h
  refine fn_enter Try.func239 rfl Try.ntmps239 rfl (fun w0 Z0 => ?_)
  refine aw_seq ?_
  refine aw_region ?_
  refine al_val (ov_assign rfl rfl) ?_
  refine al_nil ?_
  refine aq_then ?_
  obtain ⟨kk2, hkk2, h⟩ := lt_some h
  refine aw_seq_join (ι := Int) (fun i => (memOf w0 Z0 [] [] [])) (fun i => (tab [(0, (Value.int .u64 i))])) (fun i => kk2 i = some r) ?_ ?_
  · rintro j1i0 h
    have h : kk2 j1i0 = some r := h
    rw [hkk2] at h
    dsimp only at h
    clear hkk2
    refine aw_show (m := (memOf w0 Z0 [] [] [])) (S := (tab [(0, (Value.int .u64 j1i0))])) ?_
    refine aw_seq ?_
    refine aw_region ?_
    refine al_val (ov_move rfl rfl) ?_
    refine al_val (ov_convInt (by rw [Try.underlying22]; rfl) Try.underlying152 rfl rfl) ?_
    refine al_val (ov_assign rfl rfl) ?_
    refine al_nil ?_
    refine aq_then ?_
    refine aw_ret ?_
    obtain rfl := Option.some.inj h
    exact fn_ret () [] [] rfl rfl rfl rfl (res1 rfl rfl) rfl rfl rfl (by decide)
  · clear hkk2
    refine aw_seq ?_
    refine aw_region ?_
    refine al_val (ov_assign rfl rfl) ?_
    refine al_nil ?_
    refine aq_then ?_
    refine aw_block ?_
    refine aw_state (aw_loop (ι := Int × Int) (fun i => (memOf w0 Z0 [] [] [])) (fun i => (tab [(0, (Value.int .u64 i.1)), (3, (Value.int .i64 i.2))])) (fun q i => f_roll_reduce_L5 kk2 q i.1 i.2 = some r) ?_ fu (a0, (63 : Int)) h) (fun w a hm hs => norm hm hs [] [] [(0, (Value.int .u64 a0)), (3, (Value.int .i64 (63 : Int)))] (by decide) ⟨rfl, rfl, trivial⟩)
    clear h
    rintro k4 ⟨l3i0, l3i3⟩ h
    have h : f_roll_reduce_L5 kk2 k4 l3i0 l3i3 = some r := h
    obtain _ | k4 := k4
    · rw [f_roll_reduce_L5] at h; cases h
    rw [f_roll_reduce_L5] at h
    refine aw_show (m := (memOf w0 Z0 [] [] [])) (S := (tab [(0, (Value.int .u64 l3i0)), (3, (Value.int .i64 l3i3))])) ?_
    refine aw_seq ?_
    refine aw_seq ?_
    refine aw_region ?_
    refine al_val (ov_move rfl rfl) ?_
    refine al_val (ov_int rfl rfl rfl rfl) ?_
    refine al_nil ?_
    refine aq_then ?_
    refine aw_cond rfl (fun hb6 => ?_) (fun hb6 => ?_)
    · replace h := bif_t hb6 h
      refine aw_skip ?_
      refine aq_then ?_
      obtain ⟨kk8, hkk8, h⟩ := lt_some h
      refine aw_seq_join (ι := Int) (fun i => (memOf w0 Z0 [] [] [])) (fun i => (tab [(0, (Value.int .u64 i)), (3, (Value.int .i64 l3i3))])) (fun i => kk8 i = some r) ?_ ?_
      · rintro j7i0 h
        have h : kk8 j7i0 = some r := h
        rw [hkk8] at h
        dsimp only at h
        clear hkk8
        refine aw_show (m := (memOf w0 Z0 [] [] [])) (S := (tab [(0, (Value.int .u64 j7i0)), (3, (Value.int .i64 l3i3))])) ?_
        refine aw_region ?_
        refine al_val (ov_move rfl rfl) ?_
        refine al_val (ov_int rfl rfl rfl rfl) ?_
        refine al_val (ov_assign rfl rfl) ?_
        refine al_nil ?_
        exact aq_again k4 (j7i0, (IntKind.i64.wrap (l3i3 - (1 : Int)))) (Nat.lt_succ_self _) h (fun w a hm hs => norm hm hs [] [] [(0, (Value.int .u64 j7i0)), (3, (Value.int .i64 (IntKind.i64.wrap (l3i3 - (1 : Int)))))] (by decide) ⟨rfl, rfl, trivial⟩)
      · clear hkk8
        refine aw_block ?_
        refine aw_seq ?_
        refine aw_region ?_
        refine al_val (ov_move rfl rfl) ?_
        refine al_val (ov_move rfl rfl) ?_
        obtain ⟨hc9, h⟩ := req_some h
        refine al_val (ov_shr hc9 rfl rfl rfl) ?_
        refine al_val (ov_int rfl rfl rfl rfl) ?_
        refine al_val (ov_int rfl rfl rfl rfl) ?_
        refine al_nil ?_
        refine aq_then ?_
        refine aw_cond rfl (fun hb10 => ?_) (fun hb10 => ?_)
        · replace h := bif_t hb10 h
          refine aw_region ?_
          refine al_val (ov_move rfl rfl) ?_
          refine al_val (ov_move rfl rfl) ?_
          refine al_val (ov_int rfl rfl rfl rfl) ?_
          obtain ⟨hc11, h⟩ := req_some h
          refine al_val (ov_shl hc11 rfl rfl rfl) ?_
          refine al_val (ov_int rfl rfl rfl rfl) ?_
          refine al_val (ov_assign rfl rfl) ?_
          refine al_nil ?_
          refine aq_block ?_
          exact aq_join (bits .xor .u64 l3i0 (IntKind.u64.wrap ((2147483657 : Int) * 2 ^ min ((IntKind.i64.wrap (l3i3 - (31 : Int)))).toNat (IntKind.bits .u64)))) h (fun w a hm hs => norm hm hs [] [] [(0, (Value.int .u64 (bits .xor .u64 l3i0 (IntKind.u64.wrap ((2147483657 : Int) * 2 ^ min ((IntKind.i64.wrap (l3i3 - (31 : Int)))).toNat (IntKind.bits .u64)))))), (3, (Value.int .i64 l3i3))] (by decide) ⟨rfl, rfl, trivial⟩)
        · replace h := bif_f hb10 h
          refine aw_skip ?_
          refine aq_block ?_
          exact aq_join l3i0 h (fun w a hm hs => norm hm hs [] [] [(0, (Value.int .u64 l3i0)), (3, (Value.int .i64 l3i3))] (by decide) ⟨rfl, rfl, trivial⟩)
    · replace h := bif_f hb6 h
      refine aw_exit ?_
      refine aq_then_exit ?_
      refine aq_then_exit ?_
      refine aq_block_exit ?_
      exact aq_join l3i0 h (fun w a hm hs => norm hm hs [] [] [(0, (Value.int .u64 l3i0))] (by decide) ⟨rfl, trivial⟩)
def f_roll_shift (fu : Nat) (a0 : Int) : Option Int := (opt (f_roll_reduce fu (IntKind.u64.wrap ((IntKind.u64.wrap a0) * 2 ^ min ((8 : Int)).toNat (IntKind.bits .u64)))) fun (r2 : Int) => (some r2))
set_option maxRecDepth 100000 in
theorem f_roll_shift_ok (fu : Nat) (a0 : Int) {r : Int} (h : f_roll_shift fu a0 = some r) : FnOk Try.prog 232 [(Value.int .u32 a0)] [] [] (fun (i : Unit) => { val := (Value.int .u32 r) }) := by
  unfold f_roll_shift at h
  refine fn_enter Try.func232 rfl Try.ntmps232 rfl (fun w0 Z0 => ?_)
  refine aw_seq ?_
  refine aw_region ?_
  refine al_val (ov_assign rfl rfl) ?_
  refine al_nil ?_
  refine aq_then ?_
  refine aw_seq ?_
  refine aw_region ?_
  refine al_val (ov_move rfl rfl) ?_
  refine al_val (ov_convInt (by rw [Try.underlying152]; rfl) Try.underlying22 rfl rfl) ?_
  refine al_val (ov_shl (by decide) rfl rfl rfl) ?_
  obtain ⟨r2, hc1, h⟩ := opt_some h
  refine al_call (vs := [(Value.int .u64 (IntKind.u64.wrap ((IntKind.u64.wrap a0) * 2 ^ min ((8 : Int)).toNat (IntKind.bits .u64))))]) (f_roll_reduce_ok fu (IntKind.u64.wrap ((IntKind.u64.wrap a0) * 2 ^ min ((8 : Int)).toNat (IntKind.bits .u64))) hc1) [] [] [] pre_nil rfl (by simp) (by decide) (.inl rfl) rfl Try.func239 rfl rfl rfl (fun _ => ?_)
  refine al_val (ov_assign rfl rfl) ?_
  refine al_nil ?_
  refine aq_then ?_
  refine aw_ret ?_
  obtain rfl := Option.some.inj h
  exact fn_ret () [] [] rfl rfl rfl rfl (res1 rfl rfl) rfl rfl rfl (by decide)
def f_roll_last_L5 (kk2 : (Int → Option Int)) (fu : Nat) : Nat → Int → Int → Option Int
  | 0, _, _ => none
  | k4 + 1, l3i3, l3i6 => (bif (decide (l3i6 < (15 : Int))) then (opt (f_roll_shift fu l3i3) fun (r8 : Int) => (f_roll_last_L5 kk2 fu k4 r8 (IntKind.i64.wrap (l3i6 + (1 : Int))))) else (kk2 l3i3))
def f_roll_last (fu : Nat) (a0 : Int) : Option Int := (lt (fun (j1i3 : Int) => (some j1i3)) fun (kk2 : Int → Option Int) => (f_roll_last_L5 kk2 fu fu (IntKind.u32.wrap a0) (0 : Int)))
set_option maxRecDepth 100000 in
theorem f_roll_last_ok (fu : Nat) (a0 : Int) {r : Int} (h : f_roll_last fu a0 = some r) : FnOk Try.prog 231 [(Value.int .u8 a0)] [] [] (fun (i : Unit) => { val := (Value.int .u32 r) }) := by
  unfold f_roll_last at h
  refine fn_enter Try.func231 rfl Try.ntmps231 rfl (fun w0 Z0 => ?_)
  refine aw_seq ?_
  refine aw_region ?_
  refine al_val (ov_assign rfl rfl) ?_
  refine al_nil ?_
  refine aq_then ?_
  refine aw_seq ?_
  refine aw_region ?_
  refine al_val (ov_move rfl rfl) ?_
  refine al_val (ov_convInt (by rw [Try.underlying5]; rfl) Try.underlying152 rfl rfl) ?_
  refine al_val (ov_assign rfl rfl) ?_
  refine al_nil ?_
  refine aq_then ?_
  obtain ⟨kk2, hkk2, h⟩ := lt_some h
  refine aw_seq_join (ι := Int) (fun i => (memOf w0 Z0 [] [] [])) (fun i => (tab [(3, (Value.int .u32 i))])) (fun i => kk2 i = some r) ?_ ?_
  · rintro j1i3 h
    have h : kk2 j1i3 = some r := h
    rw [hkk2] at h
    dsimp only at h
    clear hkk2
    refine aw_show (m := (memOf w0 Z0 [] [] [])) (S := (tab [(3, (Value.int .u32 j1i3))])) ?_
    refine aw_seq ?_
    refine aw_region ?_
    refine al_val (ov_move rfl rfl) ?_
    refine al_val (ov_assign rfl rfl) ?_
    refine al_nil ?_
    refine aq_then ?_
    refine aw_ret ?_
    obtain rfl := Option.some.inj h
    exact fn_ret () [] [] rfl rfl rfl rfl (res1 rfl rfl) rfl rfl rfl (by decide)
  · clear hkk2
    refine aw_seq ?_
    refine aw_region ?_
    refine al_val (ov_move rfl rfl) ?_
    refine al_nil ?_
    refine aq_then ?_
    refine aw_block ?_
    refine aw_state (aw_loop (ι := Int × Int) (fun i => (memOf w0 Z0 [] [] [])) (fun i => (tab [(3, (Value.int .u32 i.1)), (6, (Value.int .i64 i.2))])) (fun q i => f_roll_last_L5 kk2 fu q i.1 i.2 = some r) ?_ fu ((IntKind.u32.wrap a0), (0 : Int)) h) (fun w a hm hs => norm hm hs [] [] [(3, (Value.int .u32 (IntKind.u32.wrap a0))), (6, (Value.int .i64 (0 : Int)))] (by decide) ⟨rfl, rfl, trivial⟩)
    clear h
    rintro k4 ⟨l3i3, l3i6⟩ h
    have h : f_roll_last_L5 kk2 fu k4 l3i3 l3i6 = some r := h
    obtain _ | k4 := k4
    · rw [f_roll_last_L5] at h; cases h
    rw [f_roll_last_L5] at h
    refine aw_show (m := (memOf w0 Z0 [] [] [])) (S := (tab [(3, (Value.int .u32 l3i3)), (6, (Value.int .i64 l3i6))])) ?_
    refine aw_seq ?_
    refine aw_region ?_
    refine al_val (ov_int rfl rfl rfl rfl) ?_
    refine al_nil ?_
    refine aq_then ?_
    refine aw_seq ?_
    refine aw_cond rfl (fun hb6 => ?_) (fun hb6 => ?_)
    · replace h := bif_t hb6 h
      refine aw_skip ?_
      refine aq_then ?_
      refine aw_seq ?_
      refine aw_block ?_
      refine aw_region ?_
      refine al_val (ov_move rfl rfl) ?_
      obtain ⟨r8, hc7, h⟩ := opt_some h
      refine al_call (vs := [(Value.int .u32 l3i3)]) (f_roll_shift_ok fu l3i3 hc7) [] [] [] pre_nil rfl (by simp) (by decide) (.inl rfl) rfl Try.func232 rfl rfl rfl (fun _ => ?_)
      refine al_val (ov_assign rfl rfl) ?_
      refine al_nil ?_
      refine aq_block ?_
      refine aq_then ?_
      refine aw_region ?_
      refine al_val (ov_int rfl rfl rfl rfl) ?_
      refine al_val (ov_move rfl rfl) ?_
      refine al_nil ?_
      exact aq_again k4 (r8, (IntKind.i64.wrap (l3i6 + (1 : Int)))) (Nat.lt_succ_self _) h (fun w a hm hs => norm hm hs [] [] [(3, (Value.int .u32 r8)), (6, (Value.int .i64 (IntKind.i64.wrap (l3i6 + (1 : Int)))))] (by decide) ⟨rfl, rfl, trivial⟩)
    · replace h := bif_f hb6 h
      refine aw_exit ?_
      refine aq_then_exit ?_
      refine aq_then_exit ?_
      refine aq_block_exit ?_
      exact aq_join l3i3 h (fun w a hm hs => norm hm hs [] [] [(3, (Value.int .u32 l3i3))] (by decide) ⟨rfl, trivial⟩)
def f_roll_Push (fu : Nat) (a0 : S_api_Roll) (a1 : Int) : Option (S_api_Roll × Int) := (lt (fun (j3b20 : Bool) => (bif j3b20 then (some ((S_api_Roll.mk (A16u8.mk (0 : UInt8) (0 : UInt8) (0 : UInt8) (0 : UInt8) (0 : UInt8) (0 : UInt8) (0 : UInt8) (0 : UInt8) (0 : UInt8) (0 : UInt8) (0 : UInt8) (0 : UInt8) (0 : UInt8) (0 : UInt8) (0 : UInt8) (0 : UInt8)) (0 : Int) (0 : Int)), (1 : Int))) else (lt (fun (j6i2_2 : Int) => (opt (f_roll_shift fu j6i2_2) fun (r9 : Int) => (opt (at? (lA16u8 a0.Win) a0.At) fun (u10 : UInt8) => (req (0 ≤ a1 ∧ a1 ≤ 255) (some ((S_api_Roll.mk (setA16u8 a0.Win a0.At (UInt8.ofNat (a1).toNat)) (((IntKind.i64.wrap (a0.At + (1 : Int)))).tmod (16 : Int)) (bits .xor .u32 r9 (IntKind.u32.wrap a1))), (0 : Int))))))) fun (kk7 : Int → Option (S_api_Roll × Int)) => (opt (at? (lA16u8 a0.Win) a0.At) fun (u13 : UInt8) => (bif ((u13.toNat : Int) != (0 : Int)) then (opt (f_roll_last fu (u13.toNat : Int)) fun (r17 : Int) => (kk7 (bits .xor .u32 a0.Sum r17))) else (kk7 a0.Sum)))))) fun (kk4 : Bool → Option (S_api_Roll × Int)) => (bif (decide (a0.At < (0 : Int))) then (kk4 true) else (bif (decide (a0.At ≥ (16 : Int))) then (kk4 true) else (kk4 ((bits .and .u32 a0.Sum (2147483648 : Int)) != (0 : Int))))))
set_option maxRecDepth 100000 in
theorem f_roll_Push_ok (fu : Nat) (a0 : S_api_Roll) (a1 : Int) {r : (S_api_Roll × Int)} (h : f_roll_Push fu a0 a1 = some r) : FnOk Try.prog 210 [(ag ((cA16u8 a0.Win) ++ [(Value.int .i64 a0.At), (Value.int .u32 a0.Sum)])), (Value.int .u8 a1)] [] [] (fun (i : Unit) => { val := (Value.tuple #[(ag ((cA16u8 r.1.Win) ++ [(Value.int .i64 r.1.At), (Value.int .u32 r.1.Sum)])), (Value.int .i64 r.2)]) }) := by
  unfold f_roll_Push at h
  refine fn_enter Try.func210 rfl Try.ntmps210 rfl (fun w0 Z0 => ?_)
  refine aw_seq ?_
  refine aw_region ?_
  refine al_box (vs := ((cA16u8 a0.Win) ++ [(Value.int .i64 a0.At), (Value.int .u32 a0.Sum)])) rfl (cv_rfl rfl) rfl (fun g1 => ?_)
  refine al_alloc (zs := ((cA16u8 (A16u8.mk (0 : UInt8) (0 : UInt8) (0 : UInt8) (0 : UInt8) (0 : UInt8) (0 : UInt8) (0 : UInt8) (0 : UInt8) (0 : UInt8) (0 : UInt8) (0 : UInt8) (0 : UInt8) (0 : UInt8) (0 : UInt8) (0 : UInt8) (0 : UInt8))) ++ [(Value.int .i64 (0 : Int)), (Value.int .u32 (0 : Int))])) (zeroOf_to to281) rfl rfl (fun g2 => ?_)
  refine al_val (ov_assign rfl rfl) ?_
  refine al_nil ?_
  refine aq_then ?_
  refine aw_seq ?_
  obtain ⟨kk4, hkk4, h⟩ := lt_some h
  refine aw_seq_join (ι := Bool) (fun i => (memOf w0 Z0 [] [(oBox g1 281 ((cA16u8 a0.Win) ++ [(Value.int .i64 a0.At), (Value.int .u32 a0.Sum)])), (oBox g2 281 ((cA16u8 (A16u8.mk (0 : UInt8) (0 : UInt8) (0 : UInt8) (0 : UInt8) (0 : UInt8) (0 : UInt8) (0 : UInt8) (0 : UInt8) (0 : UInt8) (0 : UInt8) (0 : UInt8) (0 : UInt8) (0 : UInt8) (0 : UInt8) (0 : UInt8) (0 : UInt8))) ++ [(Value.int .i64 (0 : Int)), (Value.int .u32 (0 : Int))]))] [])) (fun i => (tab [(1, (Value.int .u8 a1)), (2, (ptr g1 0)), (4, (ptr g2 0)), (20, (Value.bool i))])) (fun i => kk4 i = some r) ?_ ?_
  · rintro j3b20 h
    have h : kk4 j3b20 = some r := h
    rw [hkk4] at h
    dsimp only at h
    clear hkk4
    refine aw_show (m := (memOf w0 Z0 [] [(oBox g1 281 ((cA16u8 a0.Win) ++ [(Value.int .i64 a0.At), (Value.int .u32 a0.Sum)])), (oBox g2 281 ((cA16u8 (A16u8.mk (0 : UInt8) (0 : UInt8) (0 : UInt8) (0 : UInt8) (0 : UInt8) (0 : UInt8) (0 : UInt8) (0 : UInt8) (0 : UInt8) (0 : UInt8) (0 : UInt8) (0 : UInt8) (0 : UInt8) (0 : UInt8) (0 : UInt8) (0 : UInt8))) ++ [(Value.int .i64 (0 : Int)), (Value.int .u32 (0 : Int))]))] [])) (S := (tab [(1, (Value.int .u8 a1)), (2, (ptr g1 0)), (4, (ptr g2 0)), (20, (Value.bool j3b20))])) ?_
    refine aw_cond rfl (fun hb5 => ?_) (fun hb5 => ?_)
    · replace h := bif_t hb5 h
      refine aw_seq ?_
      refine aw_region ?_
      refine al_val (ov_build (cells := (((cA16u8 (A16u8.mk (0 : UInt8) (0 : UInt8) (0 : UInt8) (0 : UInt8) (0 : UInt8) (0 : UInt8) (0 : UInt8) (0 : UInt8) (0 : UInt8) (0 : UInt8) (0 : UInt8) (0 : UInt8) (0 : UInt8) (0 : UInt8) (0 : UInt8) (0 : UInt8))) ++ [(Value.int .i64 (0 : Int)), (Value.int .u32 (0 : Int))])).toArray) (cs := ((cA16u8 (A16u8.mk (0 : UInt8) (0 : UInt8) (0 : UInt8) (0 : UInt8) (0 : UInt8) (0 : UInt8) (0 : UInt8) (0 : UInt8) (0 : UInt8) (0 : UInt8) (0 : UInt8) (0 : UInt8) (0 : UInt8) (0 : UInt8) (0 : UInt8) (0 : UInt8))) ++ [(Value.int .i64 (0 : Int)), (Value.int .u32 (0 : Int))])) rfl (fun w a hm hs => by simp only [List.map_toArray, List.map_cons, List.map_nil, List.toList_toArray]; kernel_rfl)) ?_
      refine al_store (i := 1) (vs := ((cA16u8 (A16u8.mk (0 : UInt8) (0 : UInt8) (0 : UInt8) (0 : UInt8) (0 : UInt8) (0 : UInt8) (0 : UInt8) (0 : UInt8) (0 : UInt8) (0 : UInt8) (0 : UInt8) (0 : UInt8) (0 : UInt8) (0 : UInt8) (0 : UInt8) (0 : UInt8))) ++ [(Value.int .i64 (0 : Int)), (Value.int .u32 (0 : Int))])) (cs' := ((cA16u8 (A16u8.mk (0 : UInt8) (0 : UInt8) (0 : UInt8) (0 : UInt8) (0 : UInt8) (0 : UInt8) (0 : UInt8) (0 : UInt8) (0 : UInt8) (0 : UInt8) (0 : UInt8) (0 : UInt8) (0 : UInt8) (0 : UInt8) (0 : UInt8) (0 : UInt8))) ++ [(Value.int .i64 (0 : Int)), (Value.int .u32 (0 : Int))])) rfl rfl rfl sz281 (cv_rfl rfl) rfl (co_app (oneA16u8 (A16u8.mk (0 : UInt8) (0 : UInt8) (0 : UInt8) (0 : UInt8) (0 : UInt8) (0 : UInt8) (0 : UInt8) (0 : UInt8) (0 : UInt8) (0 : UInt8) (0 : UInt8) (0 : UInt8) (0 : UInt8) (0 : UInt8) (0 : UInt8) (0 : UInt8))) (co_val rfl (co_val rfl co_nil))) (Nat.le_of_ble_eq_true rfl) rfl rfl ?_
      refine al_val (ov_assign rfl rfl) ?_
      refine al_nil ?_
      refine aq_then ?_
      refine aw_ret ?_
      refine aq_then_ret ?_
      obtain rfl := Option.some.inj h
      exact fn_ret () [] [] rfl rfl rfl rfl (resC rfl (resB (i := 1) rfl rfl Try.underlying281 sz281 rfl rfl rfl (resT rfl (resN))) rfl) rfl rfl rfl (by decide)
    · replace h := bif_f hb5 h
      refine aw_skip ?_
      refine aq_then ?_
      obtain ⟨kk7, hkk7, h⟩ := lt_some h
      refine aw_seq_join (ι := Int) (fun i => (memOf w0 Z0 [] [(oBox g1 281 ((cA16u8 a0.Win) ++ [(Value.int .i64 a0.At), (Value.int .u32 i)])), (oBox g2 281 ((cA16u8 (A16u8.mk (0 : UInt8) (0 : UInt8) (0 : UInt8) (0 : UInt8) (0 : UInt8) (0 : UInt8) (0 : UInt8) (0 : UInt8) (0 : UInt8) (0 : UInt8) (0 : UInt8) (0 : UInt8) (0 : UInt8) (0 : UInt8) (0 : UInt8) (0 : UInt8))) ++ [(Value.int .i64 (0 : Int)), (Value.int .u32 (0 : Int))]))] [])) (fun i => (tab [(1, (Value.int .u8 a1)), (2, (ptr g1 0)), (4, (ptr g2 0))])) (fun i => kk7 i = some r) ?_ ?_
      · rintro j6i2_2 h
        have h : kk7 j6i2_2 = some r := h
        rw [hkk7] at h
        dsimp only at h
        clear hkk7
        refine aw_show (m := (memOf w0 Z0 [] [(oBox g1 281 ((cA16u8 a0.Win) ++ [(Value.int .i64 a0.At), (Value.int .u32 j6i2_2)])), (oBox g2 281 ((cA16u8 (A16u8.mk (0 : UInt8) (0 : UInt8) (0 : UInt8) (0 : UInt8) (0 : UInt8) (0 : UInt8) (0 : UInt8) (0 : UInt8) (0 : UInt8) (0 : UInt8) (0 : UInt8) (0 : UInt8) (0 : UInt8) (0 : UInt8) (0 : UInt8) (0 : UInt8))) ++ [(Value.int .i64 (0 : Int)), (Value.int .u32 (0 : Int))]))] [])) (S := (tab [(1, (Value.int .u8 a1)), (2, (ptr g1 0)), (4, (ptr g2 0))])) ?_
        refine aw_seq ?_
        refine aw_region ?_
        refine al_val (ov_fieldA (p := 17) rfl Try.underlying281 rfl sz152 rfl rfl rfl) ?_
        refine al_val (ov_load (i := 0) (v := (Value.int .u32 j6i2_2)) rfl rfl Try.underlying152 sz152 rfl rfl rfl rfl) ?_
        obtain ⟨r9, hc8, h⟩ := opt_some h
        refine al_call (vs := [(Value.int .u32 j6i2_2)]) (f_roll_shift_ok fu j6i2_2 hc8) [] [] [0, 1] pre_nil rfl (by simp) (by decide) (.inl rfl) rfl Try.func232 rfl rfl rfl (fun _ => ?_)
        refine al_val (ov_move rfl rfl) ?_
        refine al_val (ov_convInt (by rw [Try.underlying5]; rfl) Try.underlying152 rfl rfl) ?_
        refine al_val (ov_int rfl rfl rfl rfl) ?_
        refine al_val (ov_fieldA (p := 17) rfl Try.underlying281 rfl sz152 rfl rfl rfl) ?_
        refine al_store (i := 0) (vs := [(Value.int .u32 (bits .xor .u32 r9 (IntKind.u32.wrap a1)))]) (cs' := ((cA16u8 a0.Win) ++ [(Value.int .i64 a0.At), (Value.int .u32 (bits .xor .u32 r9 (IntKind.u32.wrap a1)))])) rfl rfl rfl sz152 (cv_rfl rfl) rfl (co_val rfl co_nil) (Nat.le_of_ble_eq_true rfl) rfl rfl ?_
        refine al_nil ?_
        refine aq_then ?_
        refine aw_seq ?_
        refine aw_region ?_
        refine al_val (ov_fieldA (p := 16) rfl Try.underlying281 rfl sz3 rfl rfl rfl) ?_
        refine al_val (ov_load (i := 0) (v := (Value.int .i64 a0.At)) rfl rfl Try.underlying3 sz3 rfl rfl rfl rfl) ?_
        refine al_val (ov_move rfl rfl) ?_
        refine al_val (ov_fieldA (p := 0) rfl Try.underlying281 rfl sz279 rfl rfl rfl) ?_
        obtain ⟨u10, hu11, h⟩ := opt_some h
        refine al_val (ov_idxArrV hu11 rfl rfl rfl Try.underlying279 sz5 rfl) ?_
        obtain ⟨hc12, h⟩ := req_some h
        refine al_storeV (cs := ((cA16u8 a0.Win) ++ [(Value.int .i64 a0.At), (Value.int .u32 (bits .xor .u32 r9 (IntKind.u32.wrap a1)))])) (cs' := ((cA16u8 (setA16u8 a0.Win a0.At (UInt8.ofNat (a1).toNat))) ++ [(Value.int .i64 a0.At), (Value.int .u32 (bits .xor .u32 r9 (IntKind.u32.wrap a1)))])) 0 rfl rfl rfl sz5 rfl (by have h1 := (at_some hu11).2.1; have h0 := (at_some hu11).1; have h2 : ((lA16u8 a0.Win).length : Int) = 16 := rfl; show 0 + (a0.At).toNat < 18; omega) (by rw [u8_val hc12]; exact csetA16u8 (at_some hu11).1 (at_some hu11).2.1 [] [(Value.int .i64 a0.At), (Value.int .u32 (bits .xor .u32 r9 (IntKind.u32.wrap a1)))]) rfl ?_
        refine al_nil ?_
        refine aq_then ?_
        refine aw_seq ?_
        refine aw_region ?_
        refine al_val (ov_fieldA (p := 16) rfl Try.underlying281 rfl sz3 rfl rfl rfl) ?_
        refine al_val (ov_load (i := 0) (v := (Value.int .i64 a0.At)) rfl rfl Try.underlying3 sz3 rfl rfl rfl rfl) ?_
        refine al_val (ov_int rfl rfl rfl rfl) ?_
        refine al_val (ov_rem (by decide) rfl rfl rfl) ?_
        refine al_val (ov_fieldA (p := 16) rfl Try.underlying281 rfl sz3 rfl rfl rfl) ?_
        refine al_store (i := 0) (vs := [(Value.int .i64 (((IntKind.i64.wrap (a0.At + (1 : Int)))).tmod (16 : Int)))]) (cs' := ((cA16u8 (setA16u8 a0.Win a0.At (UInt8.ofNat (a1).toNat))) ++ [(Value.int .i64 (((IntKind.i64.wrap (a0.At + (1 : Int)))).tmod (16 : Int))), (Value.int .u32 (bits .xor .u32 r9 (IntKind.u32.wrap a1)))])) rfl rfl rfl sz3 (cv_rfl rfl) rfl (co_val rfl co_nil) (Nat.le_of_ble_eq_true rfl) rfl rfl ?_
        refine al_nil ?_
        refine aq_then ?_
        refine aw_seq ?_
        refine aw_region ?_
        refine al_val (ov_load (i := 0) (v := (ag ((cA16u8 (setA16u8 a0.Win a0.At (UInt8.ofNat (a1).toNat))) ++ [(Value.int .i64 (((IntKind.i64.wrap (a0.At + (1 : Int)))).tmod (16 : Int))), (Value.int .u32 (bits .xor .u32 r9 (IntKind.u32.wrap a1)))]))) rfl rfl Try.underlying281 sz281 rfl rfl rfl rfl) ?_
        refine al_store (i := 1) (vs := ((cA16u8 (setA16u8 a0.Win a0.At (UInt8.ofNat (a1).toNat))) ++ [(Value.int .i64 (((IntKind.i64.wrap (a0.At + (1 : Int)))).tmod (16 : Int))), (Value.int .u32 (bits .xor .u32 r9 (IntKind.u32.wrap a1)))])) (cs' := ((cA16u8 (setA16u8 a0.Win a0.At (UInt8.ofNat (a1).toNat))) ++ [(Value.int .i64 (((IntKind.i64.wrap (a0.At + (1 : Int)))).tmod (16 : Int))), (Value.int .u32 (bits .xor .u32 r9 (IntKind.u32.wrap a1)))])) rfl rfl rfl sz281 (cv_rfl rfl) rfl (co_app (oneA16u8 (setA16u8 a0.Win a0.At (UInt8.ofNat (a1).toNat))) (co_val rfl (co_val rfl co_nil))) (Nat.le_of_ble_eq_true rfl) rfl rfl ?_
        refine al_val (ov_assign rfl rfl) ?_
        refine al_nil ?_
        refine aq_then ?_
        refine aw_ret ?_
        obtain rfl := Option.some.inj h
        exact fn_ret () [] [] rfl rfl rfl rfl (resC rfl (resB (i := 1) rfl rfl Try.underlying281 sz281 rfl rfl rfl (resT rfl (resN))) rfl) rfl rfl rfl (by decide)
      · clear hkk7
        refine aw_seq ?_
        refine aw_region ?_
        refine al_val (ov_fieldA (p := 16) rfl Try.underlying281 rfl sz3 rfl rfl rfl) ?_
        refine al_val (ov_load (i := 0) (v := (Value.int .i64 a0.At)) rfl rfl Try.underlying3 sz3 rfl rfl rfl rfl) ?_
        refine al_val (ov_fieldA (p := 0) rfl Try.underlying281 rfl sz279 rfl rfl rfl) ?_
        obtain ⟨u13, hu14, h⟩ := opt_some h
        refine al_val (ov_idxArrV hu14 rfl rfl rfl Try.underlying279 sz5 rfl) ?_
        refine al_val (v := (Value.int .u8 (u13.toNat : Int))) (ov_loadV (enc := vA16u8) (xs := lA16u8 a0.Win) 0 rfl rfl Try.underlying5 sz5 rfl rfl hu14 rfl) ?_
        refine al_val (ov_assign rfl rfl) ?_
        refine al_nil ?_
        refine aq_then ?_
        refine aw_seq ?_
        refine aw_region ?_
        refine al_val (ov_move rfl rfl) ?_
        refine al_val (ov_int rfl rfl rfl rfl) ?_
        refine al_nil ?_
        refine aq_then ?_
        refine aw_cond rfl (fun hb15 => ?_) (fun hb15 => ?_)
        · replace h := bif_t hb15 h
          obtain ⟨r17, hc16, h⟩ := opt_some h
          refine aw_region_draw 6 [(29, (fun u => fEq u (ptr g1 17))), (30, (fun u => fEq u (Value.int .u32 a0.Sum))), (31, (fun u => fEq u (Value.int .u8 (u13.toNat : Int)))), (32, (fun u => fEq u (Value.int .u32 r17))), (33, (fun u => fEq u (Value.int .u32 (bits .xor .u32 a0.Sum r17)))), (34, (fun u => fEq u (ptr g1 17)))] (tab [(1, (Value.int .u8 a1)), (2, (ptr g1 0)), (4, (ptr g2 0)), (6, (Value.int .u8 (u13.toNat : Int)))]) mixed (by kernel_rfl) rfl rfl rfl (fun a hs => hs.tab _ (allT_mem ⟨rfl, rfl, rfl, rfl, trivial⟩)) ⟨⟨rfl, ld_val (ov_fieldA (p := 17) rfl Try.underlying281 rfl sz152 rfl rfl rfl)⟩, ⟨rfl, ld_eq (j := 0) rfl rfl (ld_val (ov_load (i := 0) (v := (Value.int .u32 a0.Sum)) rfl rfl Try.underlying152 sz152 rfl rfl rfl rfl))⟩, ⟨rfl, ld_val (ov_move rfl rfl)⟩, ⟨rfl, ld_eq (j := 2) rfl rfl (ld_callV (vs := [(Value.int .u8 (u13.toNat : Int))]) (f_roll_last_ok fu (u13.toNat : Int) hc16) [] pre_nil rfl Try.func231 rfl rfl rfl)⟩, ⟨rfl, ld_eq (j := 1) rfl rfl (ld_eq (j := 3) rfl rfl (ld_val (ov_int rfl rfl rfl rfl)))⟩, ⟨rfl, ld_val (ov_fieldA (p := 17) rfl Try.underlying281 rfl sz152 rfl rfl rfl)⟩, trivial⟩ ?_
          refine tl_eq 4 rfl ?_
          refine tl_eq 5 rfl ?_
          refine tl_done ?_
          refine al_store (i := 0) (vs := [(Value.int .u32 (bits .xor .u32 a0.Sum r17))]) (cs' := ((cA16u8 a0.Win) ++ [(Value.int .i64 a0.At), (Value.int .u32 (bits .xor .u32 a0.Sum r17))])) rfl rfl rfl sz152 (cv_rfl rfl) rfl (co_val rfl co_nil) (Nat.le_of_ble_eq_true rfl) rfl rfl ?_
          refine al_nil ?_
          exact aq_join (bits .xor .u32 a0.Sum r17) h (fun w a hm hs => norm hm hs [0, 1] [] [(1, (Value.int .u8 a1)), (2, (ptr g1 0)), (4, (ptr g2 0))] (by decide) ⟨rfl, rfl, rfl, trivial⟩)
        · replace h := bif_f hb15 h
          refine aw_skip ?_
          exact aq_join a0.Sum h (fun w a hm hs => norm hm hs [0, 1] [] [(1, (Value.int .u8 a1)), (2, (ptr g1 0)), (4, (ptr g2 0))] (by decide) ⟨rfl, rfl, rfl, trivial⟩)
  · clear hkk4
    refine aw_region ?_
    refine al_val (ov_fieldA (p := 16) rfl Try.underlying281 rfl sz3 rfl rfl rfl) ?_
    refine al_val (ov_load (i := 1) (v := (Value.int .i64 a0.At)) rfl rfl Try.underlying3 sz3 rfl rfl rfl rfl) ?_
    refine al_val (ov_int rfl rfl rfl rfl) ?_
    refine al_val (ov_move rfl rfl) ?_
    refine al_caseB 10 rfl (fun hb18 => ?_) (fun hb18 => ?_)
    · replace h := bif_t hb18 h
      refine al_skip ?_
      refine al_skip ?_
      refine al_skip ?_
      refine al_val (ov_pick_t rfl rfl rfl) ?_
      refine al_val (ov_move rfl rfl) ?_
      refine al_skip ?_
      refine al_skip ?_
      refine al_skip ?_
      refine al_skip ?_
      refine al_val (ov_pick_t rfl rfl rfl) ?_
      refine al_nil ?_
      exact aq_join true h (fun w a hm hs => norm hm hs [1, 0] [] [(1, (Value.int .u8 a1)), (2, (ptr g1 0)), (4, (ptr g2 0)), (20, (Value.bool true))] (by decide) ⟨rfl, rfl, rfl, rfl, trivial⟩)
    · replace h := bif_f hb18 h
      refine al_val (ov_fieldA (p := 16) rfl Try.underlying281 rfl sz3 rfl rfl rfl) ?_
      refine al_val (ov_load (i := 1) (v := (Value.int .i64 a0.At)) rfl rfl Try.underlying3 sz3 rfl rfl rfl rfl) ?_
      refine al_val (ov_int rfl rfl rfl rfl) ?_
      refine al_val (ov_pick_f rfl rfl rfl) ?_
      refine al_val (ov_move rfl rfl) ?_
      refine al_caseB 15 rfl (fun hb19 => ?_) (fun hb19 => ?_)
      · replace h := bif_t hb19 h
        refine al_skip ?_
        refine al_skip ?_
        refine al_skip ?_
        refine al_skip ?_
        refine al_val (ov_pick_t rfl rfl rfl) ?_
        refine al_nil ?_
        exact aq_join true h (fun w a hm hs => norm hm hs [1, 0] [] [(1, (Value.int .u8 a1)), (2, (ptr g1 0)), (4, (ptr g2 0)), (20, (Value.bool true))] (by decide) ⟨rfl, rfl, rfl, rfl, trivial⟩)
      · replace h := bif_f hb19 h
        refine al_val (ov_fieldA (p := 17) rfl Try.underlying281 rfl sz152 rfl rfl rfl) ?_
        refine al_val (ov_load (i := 1) (v := (Value.int .u32 a0.Sum)) rfl rfl Try.underlying152 sz152 rfl rfl rfl rfl) ?_
        refine al_val (ov_int rfl rfl rfl rfl) ?_
        refine al_val (ov_int rfl rfl rfl rfl) ?_
        refine al_val (ov_pick_f rfl rfl rfl) ?_
        refine al_nil ?_
        exact aq_join ((bits .and .u32 a0.Sum (2147483648 : Int)) != (0 : Int)) h (fun w a hm hs => norm hm hs [1, 0] [] [(1, (Value.int .u8 a1)), (2, (ptr g1 0)), (4, (ptr g2 0)), (20, (Value.bool ((bits .and .u32 a0.Sum (2147483648 : Int)) != (0 : Int))))] (by decide) ⟨rfl, rfl, rfl, rfl, trivial⟩)
def f_chunk_end_L7 (a0 : S_api_Cut) (a1 : (List UInt8)) (kk4 : (Unit → Option Int)) (fu : Nat) : Nat → A16u8 → Int → Int → Int → Option Int
  | 0, _, _, _, _ => none
  | k6 + 1, l5A5_0, l5i5_1, l5i5_2, l5i10 => (bif (decide (l5i10 < (a1.length : Int))) then (req (0 ≤ l5i10 ∧ l5i10 < (a1.length : Int)) (opt (f_roll_Push fu (S_api_Roll.mk l5A5_0 l5i5_1 l5i5_2) (En.bAt a1 l5i10)) fun (r11 : (S_api_Roll × Int)) => (lt (fun (j12b42 : Bool) => (bif j12b42 then (some (IntKind.i64.wrap (l5i10 + (1 : Int)))) else (f_chunk_end_L7 a0 a1 kk4 fu k6 r11.1.Win r11.1.At r11.1.Sum (IntKind.i64.wrap (l5i10 + (1 : Int)))))) fun (kk13 : Bool → Option Int) => (bif ((IntKind.i64.wrap (l5i10 + (1 : Int))) == a0.Max) then (kk13 true) else (bif (decide ((IntKind.i64.wrap (l5i10 + (1 : Int))) ≥ a0.Min)) then (req (0 ≤ a0.Bits) (kk13 ((bits .and .u32 r11.1.Sum (IntKind.u32.wrap ((IntKind.u32.wrap ((1 : Int) * 2 ^ min (a0.Bits).toNat (IntKind.bits .u32))) - (1 : Int)))) == (0 : Int)))) else (kk13 false)))))) else (kk4 ()))
def f_chunk_end (fu : Nat) (a0 : S_api_Cut) (a1 : (List UInt8)) : Option Int := (lt (fun (_ : Unit) => (some (0 : Int))) fun (kk4 : Unit → Option Int) => (f_chunk_end_L7 a0 a1 kk4 fu fu (A16u8.mk (0 : UInt8) (0 : UInt8) (0 : UInt8) (0 : UInt8) (0 : UInt8) (0 : UInt8) (0 : UInt8) (0 : UInt8) (0 : UInt8) (0 : UInt8) (0 : UInt8) (0 : UInt8) (0 : UInt8) (0 : UInt8) (0 : UInt8) (0 : UInt8)) (0 : Int) (0 : Int) (0 : Int)))
set_option maxRecDepth 100000 in
theorem f_chunk_end_ok (fu : Nat) (a0 : S_api_Cut) (a1 : (List UInt8)) {r : Int} (h : f_chunk_end fu a0 a1 = some r) : FnOk Try.prog 171 [(ag [(Value.int .i64 a0.Min), (Value.int .i64 a0.Max), (Value.int .i64 a0.Bits)]), (str a1)] [] [] (fun (i : Unit) => { val := (Value.int .i64 r) }) := by
  unfold f_chunk_end at h
  refine fn_enter Try.func171 rfl Try.ntmps171 rfl (fun w0 Z0 => ?_)
  refine aw_seq ?_
  refine aw_region ?_
  refine al_box (vs := [(Value.int .i64 a0.Min), (Value.int .i64 a0.Max), (Value.int .i64 a0.Bits)]) rfl (cv_rfl rfl) rfl (fun g1 => ?_)
  refine al_val (ov_assign rfl rfl) ?_
  refine al_nil ?_
  refine aq_then ?_
  refine aw_seq ?_
  refine aw_region ?_
  refine al_alloc (zs := ((cA16u8 (A16u8.mk (0 : UInt8) (0 : UInt8) (0 : UInt8) (0 : UInt8) (0 : UInt8) (0 : UInt8) (0 : UInt8) (0 : UInt8) (0 : UInt8) (0 : UInt8) (0 : UInt8) (0 : UInt8) (0 : UInt8) (0 : UInt8) (0 : UInt8) (0 : UInt8))) ++ [(Value.int .i64 (0 : Int)), (Value.int .u32 (0 : Int))])) (zeroOf_to to281) rfl rfl (fun g2 => ?_)
  refine al_nil ?_
  refine aq_then ?_
  obtain ⟨kk4, hkk4, h⟩ := lt_some h
  refine aw_seq_join (ι := Unit) (fun i => (memOf w0 Z0 [] [] [])) (fun i => (tab [])) (fun i => kk4 () = some r) ?_ ?_
  · rintro _ h
    have h : kk4 () = some r := h
    rw [hkk4] at h
    dsimp only at h
    clear hkk4
    refine aw_show (m := (memOf w0 Z0 [] [] [])) (S := (tab [])) ?_
    refine aw_seq ?_
    refine aw_region ?_
    refine al_val (ov_assign rfl rfl) ?_
    refine al_nil ?_
    refine aq_then ?_
    refine aw_ret ?_
    obtain rfl := Option.some.inj h
    exact fn_ret () [] [] rfl rfl rfl rfl (res1 rfl rfl) rfl rfl rfl (by decide)
  · clear hkk4
    refine aw_seq ?_
    refine aw_region ?_
    refine al_val (ov_move rfl rfl) ?_
    refine al_val (ov_strLen Try.underlying9 rfl rfl) ?_
    refine al_val (ov_move rfl rfl) ?_
    refine al_nil ?_
    refine aq_then ?_
    refine aw_block ?_
    refine aw_state (aw_loop (ι := A16u8 × Int × Int × Int) (fun i => (memOf w0 Z0 [] [(oBox g1 36 [(Value.int .i64 a0.Min), (Value.int .i64 a0.Max), (Value.int .i64 a0.Bits)]), (oBox g2 281 ((cA16u8 i.1) ++ [(Value.int .i64 i.2.1), (Value.int .u32 i.2.2.1)]))] [])) (fun i => (tab [(1, (str a1)), (2, (ptr g1 0)), (5, (ptr g2 0)), (9, (Value.int .i64 (a1.length : Int))), (10, (Value.int .i64 i.2.2.2))])) (fun q i => f_chunk_end_L7 a0 a1 kk4 fu q i.1 i.2.1 i.2.2.1 i.2.2.2 = some r) ?_ fu ((A16u8.mk (0 : UInt8) (0 : UInt8) (0 : UInt8) (0 : UInt8) (0 : UInt8) (0 : UInt8) (0 : UInt8) (0 : UInt8) (0 : UInt8) (0 : UInt8) (0 : UInt8) (0 : UInt8) (0 : UInt8) (0 : UInt8) (0 : UInt8) (0 : UInt8)), (0 : Int), (0 : Int), (0 : Int)) h) (fun w a hm hs => norm hm hs [1, 0] [] [(1, (str a1)), (2, (ptr g1 0)), (5, (ptr g2 0)), (9, (Value.int .i64 (a1.length : Int))), (10, (Value.int .i64 (0 : Int)))] (by decide) ⟨rfl, rfl, rfl, rfl, rfl, trivial⟩)
    clear h
    rintro k6 ⟨l5A5_0, l5i5_1, l5i5_2, l5i10⟩ h
    have h : f_chunk_end_L7 a0 a1 kk4 fu k6 l5A5_0 l5i5_1 l5i5_2 l5i10 = some r := h
    obtain _ | k6 := k6
    · rw [f_chunk_end_L7] at h; cases h
    rw [f_chunk_end_L7] at h
    refine aw_show (m := (memOf w0 Z0 [] [(oBox g1 36 [(Value.int .i64 a0.Min), (Value.int .i64 a0.Max), (Value.int .i64 a0.Bits)]), (oBox g2 281 ((cA16u8 l5A5_0) ++ [(Value.int .i64 l5i5_1), (Value.int .u32 l5i5_2)]))] [])) (S := (tab [(1, (str a1)), (2, (ptr g1 0)), (5, (ptr g2 0)), (9, (Value.int .i64 (a1.length : Int))), (10, (Value.int .i64 l5i10))])) ?_
    refine aw_seq ?_
    refine aw_region ?_
    refine al_val (ov_int rfl rfl rfl rfl) ?_
    refine al_nil ?_
    refine aq_then ?_
    refine aw_seq ?_
    refine aw_cond rfl (fun hb8 => ?_) (fun hb8 => ?_)
    · replace h := bif_t hb8 h
      refine aw_skip ?_
      refine aq_then ?_
      refine aw_seq ?_
      refine aw_block ?_
      refine aw_seq ?_
      refine aw_region ?_
      refine al_val (ov_move rfl rfl) ?_
      refine al_val (ov_assign rfl rfl) ?_
      refine al_nil ?_
      refine aq_then ?_
      refine aw_seq ?_
      obtain ⟨hc9, h⟩ := req_some h
      refine aw_region_open [⟨0, 14, Unit, fun _ => { val := (ag ((cA16u8 l5A5_0) ++ [(Value.int .i64 l5i5_1), (Value.int .u32 l5i5_2)])) }⟩, ⟨1, 15, Unit, fun _ => { val := (str a1) }⟩, ⟨2, 16, Unit, fun _ => { val := (Value.int .i64 l5i10) }⟩, ⟨3, 17, Unit, fun _ => { val := (Value.int .u8 (En.bAt a1 l5i10)) }⟩] (tab [(1, (str a1)), (2, (ptr g1 0)), (5, (ptr g2 0)), (6, (Value.int .i64 l5i10)), (9, (Value.int .i64 (a1.length : Int))), (10, (Value.int .i64 l5i10))]) mixed (fun a hs => hs.tab _ (allT_mem ⟨rfl, rfl, rfl, rfl, rfl, rfl, trivial⟩)) ?_
      refine ta_show (m := (memOf w0 Z0 [] [(oBox g1 36 [(Value.int .i64 a0.Min), (Value.int .i64 a0.Max), (Value.int .i64 a0.Bits)]), (oBox g2 281 ((cA16u8 l5A5_0) ++ [(Value.int .i64 l5i5_1), (Value.int .u32 l5i5_2)]))] [])) (S := (tab [(1, (str a1)), (2, (ptr g1 0)), (5, (ptr g2 0)), (6, (Value.int .i64 l5i10)), (9, (Value.int .i64 (a1.length : Int))), (10, (Value.int .i64 l5i10))])) ?_
      refine ta_step 4 _ [0, 1, 2, 3] [14, 15, 16, 17] [0, 1, 2, 3] [5, 6, 7] [⟨0, 14, Unit, fun _ => { val := (ag ((cA16u8 l5A5_0) ++ [(Value.int .i64 l5i5_1), (Value.int .u32 l5i5_2)])) }⟩, ⟨1, 15, Unit, fun _ => { val := (str a1) }⟩, ⟨2, 16, Unit, fun _ => { val := (Value.int .i64 l5i10) }⟩, ⟨3, 17, Unit, fun _ => { val := (Value.int .u8 (En.bAt a1 l5i10)) }⟩] [] rfl rfl rfl (by kernel_rfl) rfl rfl rfl ⟨⟨_, rfl, [], rfl, by
    intro X_ Y_ F_ K_ hK_
    refine al_show (m := Mem.plus (memOf w0 Z0 [] [(oBox g1 36 [(Value.int .i64 a0.Min), (Value.int .i64 a0.Max), (Value.int .i64 a0.Bits)]), (oBox g2 281 ((cA16u8 l5A5_0) ++ [(Value.int .i64 l5i5_1), (Value.int .u32 l5i5_2)]))] []) X_ Y_) (S := over (tab [(1, (str a1)), (2, (ptr g1 0)), (5, (ptr g2 0)), (6, (Value.int .i64 l5i10)), (9, (Value.int .i64 (a1.length : Int))), (10, (Value.int .i64 l5i10))]) F_) ?_
    refine al_val (ov_load (i := 1) (v := (ag ((cA16u8 l5A5_0) ++ [(Value.int .i64 l5i5_1), (Value.int .u32 l5i5_2)]))) rfl rfl Try.underlying281 sz281 rfl rfl rfl rfl) ?_
    refine al_nil ?_
    exact fr_fin hK_ ()⟩, ⟨_, rfl, [], rfl, by
    intro X_ Y_ F_ K_ hK_
    refine al_show (m := Mem.plus (memOf w0 Z0 [] [(oBox g1 36 [(Value.int .i64 a0.Min), (Value.int .i64 a0.Max), (Value.int .i64 a0.Bits)]), (oBox g2 281 ((cA16u8 l5A5_0) ++ [(Value.int .i64 l5i5_1), (Value.int .u32 l5i5_2)]))] []) X_ Y_) (S := over (tab [(1, (str a1)), (2, (ptr g1 0)), (5, (ptr g2 0)), (6, (Value.int .i64 l5i10)), (9, (Value.int .i64 (a1.length : Int))), (10, (Value.int .i64 l5i10))]) F_) ?_
    refine al_val (ov_move rfl rfl) ?_
    refine al_nil ?_
    exact fr_fin hK_ ()⟩, ⟨_, rfl, [], rfl, by
    intro X_ Y_ F_ K_ hK_
    refine al_show (m := Mem.plus (memOf w0 Z0 [] [(oBox g1 36 [(Value.int .i64 a0.Min), (Value.int .i64 a0.Max), (Value.int .i64 a0.Bits)]), (oBox g2 281 ((cA16u8 l5A5_0) ++ [(Value.int .i64 l5i5_1), (Value.int .u32 l5i5_2)]))] []) X_ Y_) (S := over (tab [(1, (str a1)), (2, (ptr g1 0)), (5, (ptr g2 0)), (6, (Value.int .i64 l5i10)), (9, (Value.int .i64 (a1.length : Int))), (10, (Value.int .i64 l5i10))]) F_) ?_
    refine al_val (ov_move rfl rfl) ?_
    refine al_nil ?_
    exact fr_fin hK_ ()⟩, ⟨_, rfl, [1, 2], rfl, by
    intro _
    intro _
    intro X_ Y_ F_ K_ hK_
    refine al_show (m := Mem.plus (memOf w0 Z0 [] [(oBox g1 36 [(Value.int .i64 a0.Min), (Value.int .i64 a0.Max), (Value.int .i64 a0.Bits)]), (oBox g2 281 ((cA16u8 l5A5_0) ++ [(Value.int .i64 l5i5_1), (Value.int .u32 l5i5_2)]))] []) X_ Y_) (S := over (put (put (tab [(1, (str a1)), (2, (ptr g1 0)), (5, (ptr g2 0)), (6, (Value.int .i64 l5i10)), (9, (Value.int .i64 (a1.length : Int))), (10, (Value.int .i64 l5i10))]) 15 (str a1)) 16 (Value.int .i64 l5i10)) F_) ?_
    refine al_val (ov_strIdx hc9.1 hc9.2 Try.underlying9 rfl rfl rfl) ?_
    refine al_nil ?_
    exact fr_fin hK_ ()⟩, trivial⟩ ?_
      intro _
      intro _
      intro _
      intro _
      intro X_ Y_ F_ K_ hK_
      refine al_show (m := Mem.plus (memOf w0 Z0 [] [(oBox g1 36 [(Value.int .i64 a0.Min), (Value.int .i64 a0.Max), (Value.int .i64 a0.Bits)]), (oBox g2 281 ((cA16u8 l5A5_0) ++ [(Value.int .i64 l5i5_1), (Value.int .u32 l5i5_2)]))] []) X_ Y_) (S := over (put (put (put (put (tab [(1, (str a1)), (2, (ptr g1 0)), (5, (ptr g2 0)), (6, (Value.int .i64 l5i10)), (9, (Value.int .i64 (a1.length : Int))), (10, (Value.int .i64 l5i10))]) 14 (ag ((cA16u8 l5A5_0) ++ [(Value.int .i64 l5i5_1), (Value.int .u32 l5i5_2)]))) 15 (str a1)) 16 (Value.int .i64 l5i10)) 17 (Value.int .u8 (En.bAt a1 l5i10))) F_) ?_
      obtain ⟨r11, hc10, h⟩ := opt_some h
      refine al_callX (vs := [(ag ((cA16u8 l5A5_0) ++ [(Value.int .i64 l5i5_1), (Value.int .u32 l5i5_2)])), (Value.int .u8 (En.bAt a1 l5i10))]) (f_roll_Push_ok fu (S_api_Roll.mk l5A5_0 l5i5_1 l5i5_2) (En.bAt a1 l5i10) hc10) [] [] [0, 1] pre_nil rfl (by simp) (by decide) rfl (.inl rfl) rfl Try.func210 rfl rfl rfl (fun _ => ?_)
      refine al_nil ?_
      refine aq_show (m := Mem.plus (memOf w0 Z0 [] [(oBox g1 36 [(Value.int .i64 a0.Min), (Value.int .i64 a0.Max), (Value.int .i64 a0.Bits)]), (oBox g2 281 ((cA16u8 l5A5_0) ++ [(Value.int .i64 l5i5_1), (Value.int .u32 l5i5_2)]))] []) X_ Y_) ?_
      refine aq_next hK_ [0, 1] [] [(1, (str a1)), (2, (ptr g1 0)), (5, (ptr g2 0)), (6, (Value.int .i64 l5i10)), (9, (Value.int .i64 (a1.length : Int))), (10, (Value.int .i64 l5i10)), (18, (Value.tuple #[(ag ((cA16u8 r11.1.Win) ++ [(Value.int .i64 r11.1.At), (Value.int .u32 r11.1.Sum)])), (Value.int .i64 r11.2)]))] [] [⟨5, 13, Unit, fun _ => { val := (Value.tuple #[(ag ((cA16u8 r11.1.Win) ++ [(Value.int .i64 r11.1.At), (Value.int .u32 r11.1.Sum)])), (Value.int .i64 r11.2)]) }⟩, ⟨6, 19, Unit, fun _ => { val := (ag ((cA16u8 r11.1.Win) ++ [(Value.int .i64 r11.1.At), (Value.int .u32 r11.1.Sum)])) }⟩, ⟨7, 20, Unit, fun _ => { val := (Value.int .i64 r11.2) }⟩] rfl rfl (by decide) rfl ⟨rfl, rfl, rfl, rfl, rfl, rfl, rfl, trivial⟩ trivial ?_
      clear hK_ K_ F_ X_ Y_
      refine ta_show (m := (memOf w0 Z0 [] [(oBox g1 36 [(Value.int .i64 a0.Min), (Value.int .i64 a0.Max), (Value.int .i64 a0.Bits)]), (oBox g2 281 ((cA16u8 l5A5_0) ++ [(Value.int .i64 l5i5_1), (Value.int .u32 l5i5_2)]))] [])) (S := (tab [(1, (str a1)), (2, (ptr g1 0)), (5, (ptr g2 0)), (6, (Value.int .i64 l5i10)), (9, (Value.int .i64 (a1.length : Int))), (10, (Value.int .i64 l5i10)), (18, (Value.tuple #[(ag ((cA16u8 r11.1.Win) ++ [(Value.int .i64 r11.1.At), (Value.int .u32 r11.1.Sum)])), (Value.int .i64 r11.2)]))])) ?_
      refine ta_step 8 _ [5, 6, 7] [13, 19, 20] [5, 6] [] [⟨5, 13, Unit, fun _ => { val := (Value.tuple #[(ag ((cA16u8 r11.1.Win) ++ [(Value.int .i64 r11.1.At), (Value.int .u32 r11.1.Sum)])), (Value.int .i64 r11.2)]) }⟩, ⟨6, 19, Unit, fun _ => { val := (ag ((cA16u8 r11.1.Win) ++ [(Value.int .i64 r11.1.At), (Value.int .u32 r11.1.Sum)])) }⟩] [⟨7, 20, Unit, fun _ => { val := (Value.int .i64 r11.2) }⟩] rfl rfl rfl (by kernel_rfl) rfl rfl rfl ⟨⟨_, rfl, [], rfl, by
    intro X_ Y_ F_ K_ hK_
    refine al_show (m := Mem.plus (memOf w0 Z0 [] [(oBox g1 36 [(Value.int .i64 a0.Min), (Value.int .i64 a0.Max), (Value.int .i64 a0.Bits)]), (oBox g2 281 ((cA16u8 l5A5_0) ++ [(Value.int .i64 l5i5_1), (Value.int .u32 l5i5_2)]))] []) X_ Y_) (S := over (tab [(1, (str a1)), (2, (ptr g1 0)), (5, (ptr g2 0)), (6, (Value.int .i64 l5i10)), (9, (Value.int .i64 (a1.length : Int))), (10, (Value.int .i64 l5i10)), (18, (Value.tuple #[(ag ((cA16u8 r11.1.Win) ++ [(Value.int .i64 r11.1.At), (Value.int .u32 r11.1.Sum)])), (Value.int .i64 r11.2)]))]) F_) ?_
    refine al_val (ov_move rfl rfl) ?_
    refine al_nil ?_
    exact fr_fin hK_ ()⟩, ⟨_, rfl, [0], rfl, by
    intro _
    intro X_ Y_ F_ K_ hK_
    refine al_show (m := Mem.plus (memOf w0 Z0 [] [(oBox g1 36 [(Value.int .i64 a0.Min), (Value.int .i64 a0.Max), (Value.int .i64 a0.Bits)]), (oBox g2 281 ((cA16u8 l5A5_0) ++ [(Value.int .i64 l5i5_1), (Value.int .u32 l5i5_2)]))] []) X_ Y_) (S := over (put (tab [(1, (str a1)), (2, (ptr g1 0)), (5, (ptr g2 0)), (6, (Value.int .i64 l5i10)), (9, (Value.int .i64 (a1.length : Int))), (10, (Value.int .i64 l5i10)), (18, (Value.tuple #[(ag ((cA16u8 r11.1.Win) ++ [(Value.int .i64 r11.1.At), (Value.int .u32 r11.1.Sum)])), (Value.int .i64 r11.2)]))]) 13 (Value.tuple #[(ag ((cA16u8 r11.1.Win) ++ [(Value.int .i64 r11.1.At), (Value.int .u32 r11.1.Sum)])), (Value.int .i64 r11.2)])) F_) ?_
    refine al_val (ov_extract rfl rfl rfl) ?_
    refine al_nil ?_
    exact fr_fin hK_ ()⟩, ⟨_, rfl, [0], rfl, by
    intro _
    intro X_ Y_ F_ K_ hK_
    refine al_show (m := Mem.plus (memOf w0 Z0 [] [(oBox g1 36 [(Value.int .i64 a0.Min), (Value.int .i64 a0.Max), (Value.int .i64 a0.Bits)]), (oBox g2 281 ((cA16u8 l5A5_0) ++ [(Value.int .i64 l5i5_1), (Value.int .u32 l5i5_2)]))] []) X_ Y_) (S := over (put (tab [(1, (str a1)), (2, (ptr g1 0)), (5, (ptr g2 0)), (6, (Value.int .i64 l5i10)), (9, (Value.int .i64 (a1.length : Int))), (10, (Value.int .i64 l5i10)), (18, (Value.tuple #[(ag ((cA16u8 r11.1.Win) ++ [(Value.int .i64 r11.1.At), (Value.int .u32 r11.1.Sum)])), (Value.int .i64 r11.2)]))]) 13 (Value.tuple #[(ag ((cA16u8 r11.1.Win) ++ [(Value.int .i64 r11.1.At), (Value.int .u32 r11.1.Sum)])), (Value.int .i64 r11.2)])) F_) ?_
    refine al_val (ov_extract rfl rfl rfl) ?_
    refine al_nil ?_
    exact fr_fin hK_ ()⟩, trivial⟩ ?_
      intro _
      intro _
      intro X_ Y_ F_ K_ hK_
      refine al_show (m := Mem.plus (memOf w0 Z0 [] [(oBox g1 36 [(Value.int .i64 a0.Min), (Value.int .i64 a0.Max), (Value.int .i64 a0.Bits)]), (oBox g2 281 ((cA16u8 l5A5_0) ++ [(Value.int .i64 l5i5_1), (Value.int .u32 l5i5_2)]))] []) X_ Y_) (S := over (put (put (tab [(1, (str a1)), (2, (ptr g1 0)), (5, (ptr g2 0)), (6, (Value.int .i64 l5i10)), (9, (Value.int .i64 (a1.length : Int))), (10, (Value.int .i64 l5i10)), (18, (Value.tuple #[(ag ((cA16u8 r11.1.Win) ++ [(Value.int .i64 r11.1.At), (Value.int .u32 r11.1.Sum)])), (Value.int .i64 r11.2)]))]) 13 (Value.tuple #[(ag ((cA16u8 r11.1.Win) ++ [(Value.int .i64 r11.1.At), (Value.int .u32 r11.1.Sum)])), (Value.int .i64 r11.2)])) 19 (ag ((cA16u8 r11.1.Win) ++ [(Value.int .i64 r11.1.At), (Value.int .u32 r11.1.Sum)]))) F_) ?_
      refine al_store (i := 1) (vs := ((cA16u8 r11.1.Win) ++ [(Value.int .i64 r11.1.At), (Value.int .u32 r11.1.Sum)])) (cs' := ((cA16u8 r11.1.Win) ++ [(Value.int .i64 r11.1.At), (Value.int .u32 r11.1.Sum)])) rfl rfl rfl sz281 (cv_rfl rfl) rfl (co_app (oneA16u8 r11.1.Win) (co_val rfl (co_val rfl co_nil))) (Nat.le_of_ble_eq_true rfl) rfl rfl ?_
      refine al_nil ?_
      refine aq_show (m := Mem.plus (memOf w0 Z0 [] [(oBox g1 36 [(Value.int .i64 a0.Min), (Value.int .i64 a0.Max), (Value.int .i64 a0.Bits)]), (oBox g2 281 ((cA16u8 r11.1.Win) ++ [(Value.int .i64 r11.1.At), (Value.int .u32 r11.1.Sum)]))] []) X_ Y_) ?_
      refine aq_next hK_ [0, 1] [] [(1, (str a1)), (2, (ptr g1 0)), (5, (ptr g2 0)), (6, (Value.int .i64 l5i10)), (9, (Value.int .i64 (a1.length : Int))), (10, (Value.int .i64 l5i10)), (13, (Value.tuple #[(ag ((cA16u8 r11.1.Win) ++ [(Value.int .i64 r11.1.At), (Value.int .u32 r11.1.Sum)])), (Value.int .i64 r11.2)]))] [20] [] rfl rfl (by decide) rfl ⟨rfl, rfl, rfl, rfl, rfl, rfl, rfl, trivial⟩ ⟨rfl, trivial⟩ ?_
      clear hK_ K_ F_ X_ Y_
      refine ta_show (m := (memOf w0 Z0 [] [(oBox g1 36 [(Value.int .i64 a0.Min), (Value.int .i64 a0.Max), (Value.int .i64 a0.Bits)]), (oBox g2 281 ((cA16u8 r11.1.Win) ++ [(Value.int .i64 r11.1.At), (Value.int .u32 r11.1.Sum)]))] [])) (S := (tab [(1, (str a1)), (2, (ptr g1 0)), (5, (ptr g2 0)), (6, (Value.int .i64 l5i10)), (9, (Value.int .i64 (a1.length : Int))), (10, (Value.int .i64 l5i10)), (13, (Value.tuple #[(ag ((cA16u8 r11.1.Win) ++ [(Value.int .i64 r11.1.At), (Value.int .u32 r11.1.Sum)])), (Value.int .i64 r11.2)]))])) ?_
      refine ta_end [7] [20] rfl rfl (by kernel_rfl) rfl ⟨⟨_, rfl, [], rfl, by
    intro X_ Y_ F_ K_ hK_
    refine al_show (m := Mem.plus (memOf w0 Z0 [] [(oBox g1 36 [(Value.int .i64 a0.Min), (Value.int .i64 a0.Max), (Value.int .i64 a0.Bits)]), (oBox g2 281 ((cA16u8 r11.1.Win) ++ [(Value.int .i64 r11.1.At), (Value.int .u32 r11.1.Sum)]))] []) X_ Y_) (S := over (tab [(1, (str a1)), (2, (ptr g1 0)), (5, (ptr g2 0)), (6, (Value.int .i64 l5i10)), (9, (Value.int .i64 (a1.length : Int))), (10, (Value.int .i64 l5i10)), (13, (Value.tuple #[(ag ((cA16u8 r11.1.Win) ++ [(Value.int .i64 r11.1.At), (Value.int .u32 r11.1.Sum)])), (Value.int .i64 r11.2)]))]) F_) ?_
    refine al_val (ov_extract rfl rfl rfl) ?_
    refine al_nil ?_
    exact fr_fin hK_ ()⟩, trivial⟩ ?_
      intro _
      refine aq_show (m := (memOf w0 Z0 [] [(oBox g1 36 [(Value.int .i64 a0.Min), (Value.int .i64 a0.Max), (Value.int .i64 a0.Bits)]), (oBox g2 281 ((cA16u8 r11.1.Win) ++ [(Value.int .i64 r11.1.At), (Value.int .u32 r11.1.Sum)]))] [])) (S := (put (tab [(1, (str a1)), (2, (ptr g1 0)), (5, (ptr g2 0)), (6, (Value.int .i64 l5i10)), (9, (Value.int .i64 (a1.length : Int))), (10, (Value.int .i64 l5i10)), (13, (Value.tuple #[(ag ((cA16u8 r11.1.Win) ++ [(Value.int .i64 r11.1.At), (Value.int .u32 r11.1.Sum)])), (Value.int .i64 r11.2)]))]) 20 (Value.int .i64 r11.2))) ?_
      refine aq_then ?_
      refine aw_seq ?_
      refine aw_region ?_
      refine al_val (ov_move rfl rfl) ?_
      refine al_val (ov_int rfl rfl rfl rfl) ?_
      refine al_val (ov_assign rfl rfl) ?_
      refine al_nil ?_
      refine aq_then ?_
      obtain ⟨kk13, hkk13, h⟩ := lt_some h
      refine aw_seq_join (ι := Bool) (fun i => (memOf w0 Z0 [] [(oBox g1 36 [(Value.int .i64 a0.Min), (Value.int .i64 a0.Max), (Value.int .i64 a0.Bits)]), (oBox g2 281 ((cA16u8 r11.1.Win) ++ [(Value.int .i64 r11.1.At), (Value.int .u32 r11.1.Sum)]))] [])) (fun i => (tab [(1, (str a1)), (2, (ptr g1 0)), (5, (ptr g2 0)), (7, (Value.int .i64 (IntKind.i64.wrap (l5i10 + (1 : Int))))), (9, (Value.int .i64 (a1.length : Int))), (10, (Value.int .i64 l5i10)), (42, (Value.bool i))])) (fun i => kk13 i = some r) ?_ ?_
      · rintro j12b42 h
        have h : kk13 j12b42 = some r := h
        rw [hkk13] at h
        dsimp only at h
        clear hkk13
        refine aw_show (m := (memOf w0 Z0 [] [(oBox g1 36 [(Value.int .i64 a0.Min), (Value.int .i64 a0.Max), (Value.int .i64 a0.Bits)]), (oBox g2 281 ((cA16u8 r11.1.Win) ++ [(Value.int .i64 r11.1.At), (Value.int .u32 r11.1.Sum)]))] [])) (S := (tab [(1, (str a1)), (2, (ptr g1 0)), (5, (ptr g2 0)), (7, (Value.int .i64 (IntKind.i64.wrap (l5i10 + (1 : Int))))), (9, (Value.int .i64 (a1.length : Int))), (10, (Value.int .i64 l5i10)), (42, (Value.bool j12b42))])) ?_
        refine aw_cond rfl (fun hb14 => ?_) (fun hb14 => ?_)
        · replace h := bif_t hb14 h
          refine aw_seq ?_
          refine aw_region ?_
          refine al_val (ov_move rfl rfl) ?_
          refine al_val (ov_assign rfl rfl) ?_
          refine al_nil ?_
          refine aq_then ?_
          refine aw_ret ?_
          refine aq_block_ret ?_
          refine aq_then_ret ?_
          refine aq_then_ret ?_
          refine aq_block_ret ?_
          refine aq_then_ret ?_
          obtain rfl := Option.some.inj h
          exact fn_ret () [] [] rfl rfl rfl rfl (res1 rfl rfl) rfl rfl rfl (by decide)
        · replace h := bif_f hb14 h
          refine aw_skip ?_
          refine aq_block ?_
          refine aq_then ?_
          refine aw_region ?_
          refine al_val (ov_int rfl rfl rfl rfl) ?_
          refine al_val (ov_move rfl rfl) ?_
          refine al_nil ?_
          exact aq_again k6 (r11.1.Win, r11.1.At, r11.1.Sum, (IntKind.i64.wrap (l5i10 + (1 : Int)))) (Nat.lt_succ_self _) h (fun w a hm hs => norm hm hs [0, 1] [] [(1, (str a1)), (2, (ptr g1 0)), (5, (ptr g2 0)), (9, (Value.int .i64 (a1.length : Int))), (10, (Value.int .i64 (IntKind.i64.wrap (l5i10 + (1 : Int)))))] (by decide) ⟨rfl, rfl, rfl, rfl, rfl, trivial⟩)
      · clear hkk13
        rcases Bool.eq_false_or_eq_true ((IntKind.i64.wrap (l5i10 + (1 : Int))) == a0.Max) with hb15 | hb15
        · replace h := bif_t hb15 h
          refine aw_region_draw 19 [(23, (fun u => fEq u (Value.int .i64 (IntKind.i64.wrap (l5i10 + (1 : Int)))))), (24, (fun u => fEq u (ptr g1 1))), (25, (fun u => fEq u (Value.int .i64 a0.Max))), (26, (fun u => fEq u (Value.bool true))), (27, (fun u => fEq u (Value.bool true))), (28, (fun u => fEq u undef)), (29, (fun u => fEq u undef)), (30, (fun u => fEq u undef)), (31, (fun u => fEq u undef)), (32, (fun u => fEq u undef)), (33, (fun u => fEq u undef)), (34, (fun u => fEq u undef)), (35, (fun u => fEq u undef)), (36, (fun u => fEq u undef)), (37, (fun u => fEq u undef)), (38, (fun u => fEq u undef)), (39, (fun u => fEq u undef)), (40, (fun u => fEq u undef)), (41, (fun u => fEq u undef))] (tab [(1, (str a1)), (2, (ptr g1 0)), (5, (ptr g2 0)), (7, (Value.int .i64 (IntKind.i64.wrap (l5i10 + (1 : Int))))), (9, (Value.int .i64 (a1.length : Int))), (10, (Value.int .i64 l5i10))]) mixed (by kernel_rfl) rfl rfl rfl (fun a hs => hs.tab _ (allT_mem ⟨rfl, rfl, rfl, rfl, rfl, rfl, trivial⟩)) ⟨⟨rfl, ld_val (ov_move rfl rfl)⟩, ⟨rfl, ld_val (ov_fieldA (p := 1) rfl Try.underlying36 rfl sz3 rfl rfl rfl)⟩, ⟨rfl, ld_eq (j := 1) rfl rfl (ld_val (ov_load (i := 0) (v := (Value.int .i64 a0.Max)) rfl rfl Try.underlying3 sz3 rfl rfl rfl rfl))⟩, ⟨rfl, ld_eq (j := 0) rfl rfl (ld_eq (j := 2) rfl rfl (ld_val (ov_cast (by first | rw [hb15] | rfl) (ov_int rfl rfl rfl rfl))))⟩, ⟨rfl, ld_eq (j := 3) rfl rfl (ld_val (ov_cast (by first | rw [hb15] | rfl) (ov_move rfl rfl)))⟩, ⟨rfl, ld_eq (j := 4) rfl rfl (ld_skip)⟩, ⟨rfl, ld_eq (j := 4) rfl rfl (ld_skip)⟩, ⟨rfl, ld_eq (j := 4) rfl rfl (ld_skip)⟩, ⟨rfl, ld_eq (j := 4) rfl rfl (ld_skip)⟩, ⟨rfl, ld_eq (j := 4) rfl rfl (ld_skip)⟩, ⟨rfl, ld_eq (j := 9) rfl rfl (ld_skip)⟩, ⟨rfl, ld_eq (j := 9) rfl rfl (ld_skip)⟩, ⟨rfl, ld_eq (j := 9) rfl rfl (ld_skip)⟩, ⟨rfl, ld_eq (j := 9) rfl rfl (ld_skip)⟩, ⟨rfl, ld_eq (j := 9) rfl rfl (ld_skip)⟩, ⟨rfl, ld_eq (j := 9) rfl rfl (ld_skip)⟩, ⟨rfl, ld_eq (j := 9) rfl rfl (ld_skip)⟩, ⟨rfl, ld_eq (j := 9) rfl rfl (ld_skip)⟩, ⟨rfl, ld_eq (j := 4) rfl rfl (ld_skip)⟩, trivial⟩ ?_
          refine tl_eq 4 rfl ?_
          refine tl_eq 18 rfl ?_
          refine tl_done ?_
          refine al_val (ov_pick_t rfl rfl rfl) ?_
          refine al_nil ?_
          exact aq_join true h (fun w a hm hs => norm hm hs [0, 1] [] [(1, (str a1)), (2, (ptr g1 0)), (5, (ptr g2 0)), (7, (Value.int .i64 (IntKind.i64.wrap (l5i10 + (1 : Int))))), (9, (Value.int .i64 (a1.length : Int))), (10, (Value.int .i64 l5i10)), (42, (Value.bool true))] (by decide) ⟨rfl, rfl, rfl, rfl, rfl, rfl, rfl, trivial⟩)
        · replace h := bif_f hb15 h
          rcases Bool.eq_false_or_eq_true (decide ((IntKind.i64.wrap (l5i10 + (1 : Int))) ≥ a0.Min)) with hb16 | hb16
          · replace h := bif_t hb16 h
            obtain ⟨hc17, h⟩ := req_some h
            refine aw_region_draw 19 [(23, (fun u => fEq u (Value.int .i64 (IntKind.i64.wrap (l5i10 + (1 : Int)))))), (24, (fun u => fEq u (ptr g1 1))), (25, (fun u => fEq u (Value.int .i64 a0.Max))), (26, (fun u => fEq u (Value.bool false))), (27, (fun u => fEq u (Value.bool false))), (28, (fun u => fEq u (Value.int .i64 (IntKind.i64.wrap (l5i10 + (1 : Int)))))), (29, (fun u => fEq u (ptr g1 0))), (30, (fun u => fEq u (Value.int .i64 a0.Min))), (31, (fun u => fEq u (Value.bool true))), (32, (fun u => fEq u (Value.bool true))), (33, (fun u => fEq u (ptr g2 17))), (34, (fun u => fEq u (Value.int .u32 r11.1.Sum))), (35, (fun u => fEq u (ptr g1 2))), (36, (fun u => fEq u (Value.int .i64 a0.Bits))), (37, (fun u => fEq u (Value.int .u32 (IntKind.u32.wrap ((1 : Int) * 2 ^ min (a0.Bits).toNat (IntKind.bits .u32)))))), (38, (fun u => fEq u (Value.int .u32 (IntKind.u32.wrap ((IntKind.u32.wrap ((1 : Int) * 2 ^ min (a0.Bits).toNat (IntKind.bits .u32))) - (1 : Int)))))), (39, (fun u => fEq u (Value.int .u32 (bits .and .u32 r11.1.Sum (IntKind.u32.wrap ((IntKind.u32.wrap ((1 : Int) * 2 ^ min (a0.Bits).toNat (IntKind.bits .u32))) - (1 : Int))))))), (40, (fun u => fEq u (Value.bool ((bits .and .u32 r11.1.Sum (IntKind.u32.wrap ((IntKind.u32.wrap ((1 : Int) * 2 ^ min (a0.Bits).toNat (IntKind.bits .u32))) - (1 : Int)))) == (0 : Int))))), (41, (fun u => fEq u (Value.bool ((bits .and .u32 r11.1.Sum (IntKind.u32.wrap ((IntKind.u32.wrap ((1 : Int) * 2 ^ min (a0.Bits).toNat (IntKind.bits .u32))) - (1 : Int)))) == (0 : Int)))))] (tab [(1, (str a1)), (2, (ptr g1 0)), (5, (ptr g2 0)), (7, (Value.int .i64 (IntKind.i64.wrap (l5i10 + (1 : Int))))), (9, (Value.int .i64 (a1.length : Int))), (10, (Value.int .i64 l5i10))]) mixed (by kernel_rfl) rfl rfl rfl (fun a hs => hs.tab _ (allT_mem ⟨rfl, rfl, rfl, rfl, rfl, rfl, trivial⟩)) ⟨⟨rfl, ld_val (ov_move rfl rfl)⟩, ⟨rfl, ld_val (ov_fieldA (p := 1) rfl Try.underlying36 rfl sz3 rfl rfl rfl)⟩, ⟨rfl, ld_eq (j := 1) rfl rfl (ld_val (ov_load (i := 0) (v := (Value.int .i64 a0.Max)) rfl rfl Try.underlying3 sz3 rfl rfl rfl rfl))⟩, ⟨rfl, ld_eq (j := 0) rfl rfl (ld_eq (j := 2) rfl rfl (ld_val (ov_cast (by first | rw [hb15] | rfl) (ov_int rfl rfl rfl rfl))))⟩, ⟨rfl, ld_eq (j := 3) rfl rfl (ld_val (ov_cast (by first | rw [hb15] | rfl) (ov_move rfl rfl)))⟩, ⟨rfl, ld_eq (j := 4) rfl rfl (ld_val (ov_move rfl rfl))⟩, ⟨rfl, ld_eq (j := 4) rfl rfl (ld_val (ov_fieldA (p := 0) rfl Try.underlying36 rfl sz3 rfl rfl rfl))⟩, ⟨rfl, ld_eq (j := 4) rfl rfl (ld_eq (j := 6) rfl rfl (ld_val (ov_load (i := 0) (v := (Value.int .i64 a0.Min)) rfl rfl Try.underlying3 sz3 rfl rfl rfl rfl)))⟩, ⟨rfl, ld_eq (j := 4) rfl rfl (ld_eq (j := 5) rfl rfl (ld_eq (j := 7) rfl rfl (ld_val (ov_cast (by first | rw [hb16] | rfl) (ov_int rfl rfl rfl rfl)))))⟩, ⟨rfl, ld_eq (j := 4) rfl rfl (ld_eq (j := 8) rfl rfl (ld_val (ov_cast (by first | rw [hb16] | rfl) (ov_move rfl rfl))))⟩, ⟨rfl, ld_eq (j := 9) rfl rfl (ld_val (ov_fieldA (p := 17) rfl Try.underlying281 rfl sz152 rfl rfl rfl))⟩, ⟨rfl, ld_eq (j := 9) rfl rfl (ld_eq (j := 10) rfl rfl (ld_val (ov_load (i := 1) (v := (Value.int .u32 r11.1.Sum)) rfl rfl Try.underlying152 sz152 rfl rfl rfl rfl)))⟩, ⟨rfl, ld_eq (j := 9) rfl rfl (ld_val (ov_fieldA (p := 2) rfl Try.underlying36 rfl sz3 rfl rfl rfl))⟩, ⟨rfl, ld_eq (j := 9) rfl rfl (ld_eq (j := 12) rfl rfl (ld_val (ov_load (i := 0) (v := (Value.int .i64 a0.Bits)) rfl rfl Try.underlying3 sz3 rfl rfl rfl rfl)))⟩, ⟨rfl, ld_eq (j := 9) rfl rfl (ld_eq (j := 13) rfl rfl (ld_val (ov_shl hc17 rfl rfl rfl)))⟩, ⟨rfl, ld_eq (j := 9) rfl rfl (ld_eq (j := 14) rfl rfl (ld_val (ov_int rfl rfl rfl rfl)))⟩, ⟨rfl, ld_eq (j := 9) rfl rfl (ld_eq (j := 11) rfl rfl (ld_eq (j := 15) rfl rfl (ld_val (ov_int rfl rfl rfl rfl))))⟩, ⟨rfl, ld_eq (j := 9) rfl rfl (ld_eq (j := 16) rfl rfl (ld_val (ov_int rfl rfl rfl rfl)))⟩, ⟨rfl, ld_eq (j := 4) rfl rfl (ld_eq (j := 9) rfl rfl (ld_eq (j := 17) rfl rfl (ld_val (ov_pick_t rfl rfl rfl))))⟩, trivial⟩ ?_
            refine tl_eq 4 rfl ?_
            refine tl_eq 18 rfl ?_
            refine tl_done ?_
            refine al_val (ov_pick_f rfl rfl rfl) ?_
            refine al_nil ?_
            exact aq_join ((bits .and .u32 r11.1.Sum (IntKind.u32.wrap ((IntKind.u32.wrap ((1 : Int) * 2 ^ min (a0.Bits).toNat (IntKind.bits .u32))) - (1 : Int)))) == (0 : Int)) h (fun w a hm hs => norm hm hs [0, 1] [] [(1, (str a1)), (2, (ptr g1 0)), (5, (ptr g2 0)), (7, (Value.int .i64 (IntKind.i64.wrap (l5i10 + (1 : Int))))), (9, (Value.int .i64 (a1.length : Int))), (10, (Value.int .i64 l5i10)), (42, (Value.bool ((bits .and .u32 r11.1.Sum (IntKind.u32.wrap ((IntKind.u32.wrap ((1 : Int) * 2 ^ min (a0.Bits).toNat (IntKind.bits .u32))) - (1 : Int)))) == (0 : Int))))] (by decide) ⟨rfl, rfl, rfl, rfl, rfl, rfl, rfl, trivial⟩)
          · replace h := bif_f hb16 h
            refine aw_region_draw 19 [(23, (fun u => fEq u (Value.int .i64 (IntKind.i64.wrap (l5i10 + (1 : Int)))))), (24, (fun u => fEq u (ptr g1 1))), (25, (fun u => fEq u (Value.int .i64 a0.Max))), (26, (fun u => fEq u (Value.bool false))), (27, (fun u => fEq u (Value.bool false))), (28, (fun u => fEq u (Value.int .i64 (IntKind.i64.wrap (l5i10 + (1 : Int)))))), (29, (fun u => fEq u (ptr g1 0))), (30, (fun u => fEq u (Value.int .i64 a0.Min))), (31, (fun u => fEq u (Value.bool false))), (32, (fun u => fEq u (Value.bool false))), (33, (fun u => fEq u undef)), (34, (fun u => fEq u undef)), (35, (fun u => fEq u undef)), (36, (fun u => fEq u undef)), (37, (fun u => fEq u undef)), (38, (fun u => fEq u undef)), (39, (fun u => fEq u undef)), (40, (fun u => fEq u undef)), (41, (fun u => fEq u (Value.bool false)))] (tab [(1, (str a1)), (2, (ptr g1 0)), (5, (ptr g2 0)), (7, (Value.int .i64 (IntKind.i64.wrap (l5i10 + (1 : Int))))), (9, (Value.int .i64 (a1.length : Int))), (10, (Value.int .i64 l5i10))]) mixed (by kernel_rfl) rfl rfl rfl (fun a hs => hs.tab _ (allT_mem ⟨rfl, rfl, rfl, rfl, rfl, rfl, trivial⟩)) ⟨⟨rfl, ld_val (ov_move rfl rfl)⟩, ⟨rfl, ld_val (ov_fieldA (p := 1) rfl Try.underlying36 rfl sz3 rfl rfl rfl)⟩, ⟨rfl, ld_eq (j := 1) rfl rfl (ld_val (ov_load (i := 0) (v := (Value.int .i64 a0.Max)) rfl rfl Try.underlying3 sz3 rfl rfl rfl rfl))⟩, ⟨rfl, ld_eq (j := 0) rfl rfl (ld_eq (j := 2) rfl rfl (ld_val (ov_cast (by first | rw [hb15] | rfl) (ov_int rfl rfl rfl rfl))))⟩, ⟨rfl, ld_eq (j := 3) rfl rfl (ld_val (ov_cast (by first | rw [hb15] | rfl) (ov_move rfl rfl)))⟩, ⟨rfl, ld_eq (j := 4) rfl rfl (ld_val (ov_move rfl rfl))⟩, ⟨rfl, ld_eq (j := 4) rfl rfl (ld_val (ov_fieldA (p := 0) rfl Try.underlying36 rfl sz3 rfl rfl rfl))⟩, ⟨rfl, ld_eq (j := 4) rfl rfl (ld_eq (j := 6) rfl rfl (ld_val (ov_load (i := 0) (v := (Value.int .i64 a0.Min)) rfl rfl Try.underlying3 sz3 rfl rfl rfl rfl)))⟩, ⟨rfl, ld_eq (j := 4) rfl rfl (ld_eq (j := 5) rfl rfl (ld_eq (j := 7) rfl rfl (ld_val (ov_cast (by first | rw [hb16] | rfl) (ov_int rfl rfl rfl rfl)))))⟩, ⟨rfl, ld_eq (j := 4) rfl rfl (ld_eq (j := 8) rfl rfl (ld_val (ov_cast (by first | rw [hb16] | rfl) (ov_move rfl rfl))))⟩, ⟨rfl, ld_eq (j := 9) rfl rfl (ld_skip)⟩, ⟨rfl, ld_eq (j := 9) rfl rfl (ld_skip)⟩, ⟨rfl, ld_eq (j := 9) rfl rfl (ld_skip)⟩, ⟨rfl, ld_eq (j := 9) rfl rfl (ld_skip)⟩, ⟨rfl, ld_eq (j := 9) rfl rfl (ld_skip)⟩, ⟨rfl, ld_eq (j := 9) rfl rfl (ld_skip)⟩, ⟨rfl, ld_eq (j := 9) rfl rfl (ld_skip)⟩, ⟨rfl, ld_eq (j := 9) rfl rfl (ld_skip)⟩, ⟨rfl, ld_eq (j := 4) rfl rfl (ld_eq (j := 9) rfl rfl (ld_eq (j := 17) rfl rfl (ld_val (ov_pick_f rfl rfl rfl))))⟩, trivial⟩ ?_
            refine tl_eq 4 rfl ?_
            refine tl_eq 18 rfl ?_
            refine tl_done ?_
            refine al_val (ov_pick_f rfl rfl rfl) ?_
            refine al_nil ?_
            exact aq_join false h (fun w a hm hs => norm hm hs [0, 1] [] [(1, (str a1)), (2, (ptr g1 0)), (5, (ptr g2 0)), (7, (Value.int .i64 (IntKind.i64.wrap (l5i10 + (1 : Int))))), (9, (Value.int .i64 (a1.length : Int))), (10, (Value.int .i64 l5i10)), (42, (Value.bool false))] (by decide) ⟨rfl, rfl, rfl, rfl, rfl, rfl, rfl, trivial⟩)
    · replace h := bif_f hb8 h
      refine aw_exit ?_
      refine aq_then_exit ?_
      refine aq_then_exit ?_
      refine aq_block_exit ?_
      exact aq_join () h (fun w a hm hs => norm hm hs [] [] [] (by decide) trivial)
def f_chunk_pieces_L4 (a0 : S_api_Cut) (fu : Nat) : Nat → (List UInt8) → (List (List UInt8)) → Option ((List (List UInt8)) × (List UInt8))
  | 0, _, _ => none
  | k3 + 1, l2s1, l2x6 => (opt (f_chunk_end fu a0 l2s1) fun (r6 : Int) => (bif (r6 == (0 : Int)) then (some (l2x6, l2s1)) else (req (0 ≤ r6 ∧ r6 ≤ (l2s1.length : Int)) (req (((l2x6.length + ([(l2s1.take (r6).toNat)]).length) * 16 : Nat) ≤ 140737488355328 ∧ l2x6.length + ([(l2s1.take (r6).toNat)]).length ≤ 9223372036854775807) (req (0 ≤ r6 ∧ r6 ≤ (l2s1.length : Int)) (f_chunk_pieces_L4 a0 fu k3 (l2s1.drop (r6).toNat) (l2x6 ++ ([(l2s1.take (r6).toNat)]))))))))
def f_chunk_pieces (fu : Nat) (a0 : S_api_Cut) (a1 : (List UInt8)) : Option ((List (List UInt8)) × (List UInt8)) := (f_chunk_pieces_L4 a0 fu fu a1 ([] : List (List UInt8)))
set_option maxRecDepth 100000 in
theorem f_chunk_pieces_ok (fu : Nat) (a0 : S_api_Cut) (a1 : (List UInt8)) {r : ((List (List UInt8)) × (List UInt8))} (h : f_chunk_pieces fu a0 a1 = some r) : FnOk Try.prog 101 [(ag [(Value.int .i64 a0.Min), (Value.int .i64 a0.Max), (Value.int .i64 a0.Bits)]), (str a1)] [] [] (fun (i : Value) => { val := (Value.tuple #[i, (str r.2)]), own := [(oRow i 9 tyStr r.1)] }) := by
  unfold f_chunk_pieces at h
  refine fn_enter Try.func101 rfl Try.ntmps101 rfl (fun w0 Z0 => ?_)
  refine aw_seq ?_
  refine aw_region ?_
  refine al_box (vs := [(Value.int .i64 a0.Min), (Value.int .i64 a0.Max), (Value.int .i64 a0.Bits)]) rfl (cv_rfl rfl) rfl (fun g1 => ?_)
  refine al_val (ov_assign rfl rfl) ?_
  refine al_val (ov_assign rfl rfl) ?_
  refine al_nil ?_
  refine aq_then ?_
  refine aw_seq ?_
  refine aw_region ?_
  refine al_val (ov_assign rfl rfl) ?_
  refine al_nil ?_
  refine aq_then ?_
  refine aw_block ?_
  refine aw_nilR 9 tyStr ?_
  refine aw_state (aw_loop (ι := (List UInt8) × Value × (List (List UInt8))) (fun i => (memOf w0 Z0 [] [(oBox g1 36 [(Value.int .i64 a0.Min), (Value.int .i64 a0.Max), (Value.int .i64 a0.Bits)]), (oRow i.2.1 9 tyStr i.2.2)] [])) (fun i => (tab [(1, (str i.1)), (2, (ptr g1 0)), (6, i.2.1)])) (fun q i => f_chunk_pieces_L4 a0 fu q i.1 i.2.2 = some r) ?_ fu (a1, (Value.slice none 0 0), ([] : List (List UInt8))) h) (fun w a hm hs => norm hm hs [1, 0] [] [(1, (str a1)), (2, (ptr g1 0)), (6, (Value.slice none 0 0))] (by decide) ⟨rfl, rfl, rfl, trivial⟩)
  clear h
  rintro k3 ⟨l2s1, l2v6, l2x6⟩ h
  have h : f_chunk_pieces_L4 a0 fu k3 l2s1 l2x6 = some r := h
  obtain _ | k3 := k3
  · rw [f_chunk_pieces_L4] at h; cases h
  rw [f_chunk_pieces_L4] at h
  refine aw_show (m := (memOf w0 Z0 [] [(oBox g1 36 [(Value.int .i64 a0.Min), (Value.int .i64 a0.Max), (Value.int .i64 a0.Bits)]), (oRow l2v6 9 tyStr l2x6)] [])) (S := (tab [(1, (str l2s1)), (2, (ptr g1 0)), (6, l2v6)])) ?_
  refine aw_block ?_
  refine aw_seq ?_
  refine aw_region ?_
  refine al_val (ov_load (i := 0) (v := (ag [(Value.int .i64 a0.Min), (Value.int .i64 a0.Max), (Value.int .i64 a0.Bits)])) rfl rfl Try.underlying36 sz36 rfl rfl rfl rfl) ?_
  refine al_val (ov_move rfl rfl) ?_
  obtain ⟨r6, hc5, h⟩ := opt_some h
  refine al_call (vs := [(ag [(Value.int .i64 a0.Min), (Value.int .i64 a0.Max), (Value.int .i64 a0.Bits)]), (str l2s1)]) (f_chunk_end_ok fu a0 l2s1 hc5) [] [] [0, 1] pre_nil rfl (by simp) (by decide) (.inl rfl) rfl Try.func171 rfl rfl rfl (fun _ => ?_)
  refine al_val (ov_assign rfl rfl) ?_
  refine al_nil ?_
  refine aq_then ?_
  refine aw_seq ?_
  refine aw_seq ?_
  refine aw_region ?_
  refine al_val (ov_move rfl rfl) ?_
  refine al_val (ov_int rfl rfl rfl rfl) ?_
  refine al_nil ?_
  refine aq_then ?_
  refine aw_cond rfl (fun hb7 => ?_) (fun hb7 => ?_)
  · replace h := bif_t hb7 h
    refine aw_seq ?_
    refine aw_region ?_
    refine al_val (ov_move rfl rfl) ?_
    refine al_val (ov_move rfl rfl) ?_
    refine al_val (ov_assign rfl rfl) ?_
    refine al_val (ov_assign rfl rfl) ?_
    refine al_nil ?_
    refine aq_then ?_
    refine aw_ret ?_
    refine aq_then_ret ?_
    refine aq_block_ret ?_
    refine aq_then_ret ?_
    refine aq_block_ret ?_
    obtain rfl := Option.some.inj h
    exact fn_ret l2v6 [1] [] rfl rfl rfl rfl (res2 rfl rfl rfl) rfl rfl rfl (by decide)
  · replace h := bif_f hb7 h
    refine aw_skip ?_
    refine aq_then ?_
    refine aw_seq ?_
    refine aw_region ?_
    refine al_val (ov_move rfl rfl) ?_
    refine al_val (ov_move rfl rfl) ?_
    refine al_val (ov_move rfl rfl) ?_
    obtain ⟨hc8, h⟩ := req_some h
    refine al_val (ov_strTo hc8.1 hc8.2 Try.underlying9 rfl rfl rfl) ?_
    refine al_buildSlice (τ := tyStr) (e := 9) (k := 1) (sz := 0) (by_ := 0) (z := undef) (cs := [(str (l2s1.take (r6).toNat))]) (xs := [(l2s1.take (r6).toNat)]) rfl (by decide) (fun w a hm hs => ⟨([(str (l2s1.take (r6).toNat))]).toArray, rfl, by simp only [List.map_toArray, List.map_cons, List.map_nil, hs.ev (x := .tmp 18) rfl]; exact run_bs [(str (l2s1.take (r6).toNat))] [(str (l2s1.take (r6).toNat))] Try.underlying37 to9 rfl rfl (bs_cons (l := [(str (l2s1.take (r6).toNat))]) (cs := []) (cv_rfl rfl) rfl bs_nil) hm⟩) (fun hm => ⟨_, _, rfl, (fun _ => rfl) hm, rfl⟩) rfl (fun v9 => ?_)
    obtain ⟨hc10, h⟩ := req_some h
    refine al_append 2 hc10.1 hc10.2 rfl (src_own (i := 2) 0 rfl) rfl rfl Try.underlying37 to9 rfl rfl rfl (fun v11 => ?_)
    refine al_val (ov_assign rfl rfl) ?_
    refine al_nil ?_
    refine aq_then ?_
    refine aw_region ?_
    refine al_val (ov_move rfl rfl) ?_
    refine al_val (ov_move rfl rfl) ?_
    obtain ⟨hc12, h⟩ := req_some h
    refine al_val (ov_strFrom hc12.1 hc12.2 Try.underlying9 rfl rfl rfl) ?_
    refine al_val (ov_assign rfl rfl) ?_
    refine al_nil ?_
    refine aq_block ?_
    exact aq_again k3 ((l2s1.drop (r6).toNat), v11, (l2x6 ++ ([(l2s1.take (r6).toNat)]))) (Nat.lt_succ_self _) h (fun w a hm hs => norm hm hs [1, 2] [] [(1, (str (l2s1.drop (r6).toNat))), (2, (ptr g1 0)), (6, v11)] (by decide) ⟨rfl, rfl, rfl, trivial⟩)
def f_chunk_Feed (fu : Nat) (a0 : S_api_Cut) (a1 : (List UInt8)) (a2 : (List UInt8)) : Option ((List (List UInt8)) × (List UInt8) × Int) := (opt (f_chunk_Check fu a0) fun (r3 : Int) => (bif (r3 != (0 : Int)) then (some (([] : List (List UInt8)), ([] : List UInt8), r3)) else (bif (decide ((IntKind.i64.wrap ((a1.length : Int) + (a2.length : Int))) > (4096 : Int))) then (some (([] : List (List UInt8)), ([] : List UInt8), (2 : Int))) else (req (a1.length + a2.length ≤ 9223372036854775807) (opt (f_chunk_pieces fu a0 (a1 ++ a2)) fun (r8 : ((List (List UInt8)) × (List UInt8))) => (some (r8.1, r8.2, (0 : Int))))))))
set_option maxRecDepth 100000 in
theorem f_chunk_Feed_ok (fu : Nat) (a0 : S_api_Cut) (a1 : (List UInt8)) (a2 : (List UInt8)) {r : ((List (List UInt8)) × (List UInt8) × Int)} (h : f_chunk_Feed fu a0 a1 a2 = some r) : FnOk Try.prog 23 [(ag [(Value.int .i64 a0.Min), (Value.int .i64 a0.Max), (Value.int .i64 a0.Bits)]), (str a1), (str a2)] [] [] (fun (i : Value) => { val := (Value.tuple #[i, (str r.2.1), (Value.int .i64 r.2.2)]), own := [(oRow i 9 tyStr r.1)] }) := by
  unfold f_chunk_Feed at h
  refine fn_enter Try.func23 rfl Try.ntmps23 rfl (fun w0 Z0 => ?_)
  refine aw_seq ?_
  refine aw_region ?_
  refine al_box (vs := [(Value.int .i64 a0.Min), (Value.int .i64 a0.Max), (Value.int .i64 a0.Bits)]) rfl (cv_rfl rfl) rfl (fun g1 => ?_)
  refine al_val (ov_assign rfl rfl) ?_
  refine al_val (ov_assign rfl rfl) ?_
  refine al_val (ov_assign rfl rfl) ?_
  refine al_nil ?_
  refine aq_then ?_
  refine aw_seq ?_
  refine aw_seq ?_
  refine aw_region ?_
  refine al_val (ov_load (i := 0) (v := (ag [(Value.int .i64 a0.Min), (Value.int .i64 a0.Max), (Value.int .i64 a0.Bits)])) rfl rfl Try.underlying36 sz36 rfl rfl rfl rfl) ?_
  obtain ⟨r3, hc2, h⟩ := opt_some h
  refine al_call (vs := [(ag [(Value.int .i64 a0.Min), (Value.int .i64 a0.Max), (Value.int .i64 a0.Bits)])]) (f_chunk_Check_ok fu a0 hc2) [] [] [0] pre_nil rfl (by simp) (by decide) (.inl rfl) rfl Try.func33 rfl rfl rfl (fun _ => ?_)
  refine al_val (ov_assign rfl rfl) ?_
  refine al_nil ?_
  refine aq_then ?_
  refine aw_seq ?_
  refine aw_region ?_
  refine al_val (ov_move rfl rfl) ?_
  refine al_val (ov_int rfl rfl rfl rfl) ?_
  refine al_nil ?_
  refine aq_then ?_
  refine aw_cond rfl (fun hb4 => ?_) (fun hb4 => ?_)
  · replace h := bif_t hb4 h
    refine aw_seq ?_
    refine aw_region ?_
    refine al_val (ov_move rfl rfl) ?_
    refine al_val (ov_assign rfl rfl) ?_
    refine al_val (ov_assign rfl rfl) ?_
    refine al_val (ov_assign rfl rfl) ?_
    refine al_nil ?_
    refine aq_then ?_
    refine aw_ret ?_
    refine aq_then_ret ?_
    refine aq_nilR 9 tyStr ?_
    obtain rfl := Option.some.inj h
    exact fn_ret (Value.slice none 0 0) [0] [] rfl rfl rfl rfl (res3 rfl rfl rfl rfl) rfl rfl rfl (by decide)
  · replace h := bif_f hb4 h
    refine aw_skip ?_
    refine aq_then ?_
    refine aw_seq ?_
    refine aw_seq ?_
    refine aw_region ?_
    refine al_val (ov_move rfl rfl) ?_
    refine al_val (ov_strLen Try.underlying9 rfl rfl) ?_
    refine al_val (ov_move rfl rfl) ?_
    refine al_val (ov_strLen Try.underlying9 rfl rfl) ?_
    refine al_val (ov_int rfl rfl rfl rfl) ?_
    refine al_val (ov_int rfl rfl rfl rfl) ?_
    refine al_nil ?_
    refine aq_then ?_
    refine aw_cond rfl (fun hb5 => ?_) (fun hb5 => ?_)
    · replace h := bif_t hb5 h
      refine aw_seq ?_
      refine aw_region ?_
      refine al_val (ov_assign rfl rfl) ?_
      refine al_val (ov_assign rfl rfl) ?_
      refine al_val (ov_assign rfl rfl) ?_
      refine al_nil ?_
      refine aq_then ?_
      refine aw_ret ?_
      refine aq_then_ret ?_
      refine aq_nilR 9 tyStr ?_
      obtain rfl := Option.some.inj h
      exact fn_ret (Value.slice none 0 0) [0] [] rfl rfl rfl rfl (res3 rfl rfl rfl rfl) rfl rfl rfl (by decide)
    · replace h := bif_f hb5 h
      refine aw_skip ?_
      refine aq_then ?_
      refine aw_seq ?_
      refine aw_region ?_
      refine al_val (ov_load (i := 0) (v := (ag [(Value.int .i64 a0.Min), (Value.int .i64 a0.Max), (Value.int .i64 a0.Bits)])) rfl rfl Try.underlying36 sz36 rfl rfl rfl rfl) ?_
      refine al_val (ov_move rfl rfl) ?_
      refine al_val (ov_move rfl rfl) ?_
      obtain ⟨hc6, h⟩ := req_some h
      refine al_val (ov_strAdd hc6 rfl rfl rfl) ?_
      obtain ⟨r8, hc7, h⟩ := opt_some h
      refine al_call (vs := [(ag [(Value.int .i64 a0.Min), (Value.int .i64 a0.Max), (Value.int .i64 a0.Bits)]), (str (a1 ++ a2))]) (f_chunk_pieces_ok fu a0 (a1 ++ a2) hc7) [] [] [0] pre_nil rfl (by simp) (by decide) (.inl rfl) rfl Try.func101 rfl rfl rfl (fun v9 => ?_)
      refine al_val (ov_move rfl rfl) ?_
      refine al_val (ov_extract rfl rfl rfl) ?_
      refine al_val (ov_extract rfl rfl rfl) ?_
      refine al_val (ov_assign rfl rfl) ?_
      refine al_val (ov_assign rfl rfl) ?_
      refine al_nil ?_
      refine aq_then ?_
      refine aw_seq ?_
      refine aw_region ?_
      refine al_val (ov_move rfl rfl) ?_
      refine al_val (ov_move rfl rfl) ?_
      refine al_val (ov_assign rfl rfl) ?_
      refine al_val (ov_assign rfl rfl) ?_
      refine al_val (ov_assign rfl rfl) ?_
      refine al_nil ?_
      refine aq_then ?_
      refine aw_ret ?_
      obtain rfl := Option.some.inj h
      exact fn_ret v9 [0] [] rfl rfl rfl rfl (res3 rfl rfl rfl rfl) rfl rfl rfl (by decide)
def f_lumref_CutOK (fu : Nat) (a0 : S_api_Cut) : Option Int := (lt (fun (j2b27 : Bool) => (bif j2b27 then (some (0 : Int)) else (some (1 : Int)))) fun (kk3 : Bool → Option Int) => (bif (decide ((16 : Int) ≤ a0.Min)) then (bif (decide (a0.Min ≤ a0.Max)) then (bif (decide (a0.Max ≤ (1024 : Int))) then (bif (decide ((1 : Int) ≤ a0.Bits)) then (kk3 (decide (a0.Bits ≤ (12 : Int)))) else (kk3 false)) else (kk3 false)) else (kk3 false)) else (kk3 false)))
set_option maxRecDepth 100000 in
theorem f_lumref_CutOK_ok (fu : Nat) (a0 : S_api_Cut) {r : Int} (h : f_lumref_CutOK fu a0 = some r) : FnOk Try.prog 24 [(ag [(Value.int .i64 a0.Min), (Value.int .i64 a0.Max), (Value.int .i64 a0.Bits)])] [] [] (fun (i : Unit) => { val := (Value.int .i64 r) }) := by
  unfold f_lumref_CutOK at h
  refine fn_enter Try.func24 rfl Try.ntmps24 rfl (fun w0 Z0 => ?_)
  refine aw_seq ?_
  refine aw_region ?_
  refine al_box (vs := [(Value.int .i64 a0.Min), (Value.int .i64 a0.Max), (Value.int .i64 a0.Bits)]) rfl (cv_rfl rfl) rfl (fun g1 => ?_)
  refine al_val (ov_assign rfl rfl) ?_
  refine al_nil ?_
  refine aq_then ?_
  refine aw_seq ?_
  obtain ⟨kk3, hkk3, h⟩ := lt_some h
  refine aw_seq_join (ι := Bool) (fun i => (memOf w0 Z0 [] [] [])) (fun i => (tab [(27, (Value.bool i))])) (fun i => kk3 i = some r) ?_ ?_
  · rintro j2b27 h
    have h : kk3 j2b27 = some r := h
    rw [hkk3] at h
    dsimp only at h
    clear hkk3
    refine aw_show (m := (memOf w0 Z0 [] [] [])) (S := (tab [(27, (Value.bool j2b27))])) ?_
    refine aw_cond rfl (fun hb4 => ?_) (fun hb4 => ?_)
    · replace h := bif_t hb4 h
      refine aw_seq ?_
      refine aw_region ?_
      refine al_val (ov_assign rfl rfl) ?_
      refine al_nil ?_
      refine aq_then ?_
      refine aw_ret ?_
      refine aq_then_ret ?_
      obtain rfl := Option.some.inj h
      exact fn_ret () [] [] rfl rfl rfl rfl (res1 rfl rfl) rfl rfl rfl (by decide)
    · replace h := bif_f hb4 h
      refine aw_skip ?_
      refine aq_then ?_
      refine aw_seq ?_
      refine aw_region ?_
      refine al_val (ov_assign rfl rfl) ?_
      refine al_nil ?_
      refine aq_then ?_
      refine aw_ret ?_
      obtain rfl := Option.some.inj h
      exact fn_ret () [] [] rfl rfl rfl rfl (res1 rfl rfl) rfl rfl rfl (by decide)
  · clear hkk3
    refine aw_region ?_
    refine al_val (ov_fieldA (p := 0) rfl Try.underlying36 rfl sz3 rfl rfl rfl) ?_
    refine al_val (ov_load (i := 0) (v := (Value.int .i64 a0.Min)) rfl rfl Try.underlying3 sz3 rfl rfl rfl rfl) ?_
    refine al_val (ov_int rfl rfl rfl rfl) ?_
    refine al_val (ov_move rfl rfl) ?_
    refine al_caseB 6 rfl (fun hb5 => ?_) (fun hb5 => ?_)
    · replace h := bif_t hb5 h
      refine al_val (ov_fieldA (p := 0) rfl Try.underlying36 rfl sz3 rfl rfl rfl) ?_
      refine al_val (ov_load (i := 0) (v := (Value.int .i64 a0.Min)) rfl rfl Try.underlying3 sz3 rfl rfl rfl rfl) ?_
      refine al_val (ov_fieldA (p := 1) rfl Try.underlying36 rfl sz3 rfl rfl rfl) ?_
      refine al_val (ov_load (i := 0) (v := (Value.int .i64 a0.Max)) rfl rfl Try.underlying3 sz3 rfl rfl rfl rfl) ?_
      refine al_val (ov_int rfl rfl rfl rfl) ?_
      refine al_val (ov_pick_t rfl rfl rfl) ?_
      refine al_val (ov_move rfl rfl) ?_
      refine al_caseB 13 rfl (fun hb6 => ?_) (fun hb6 => ?_)
      · replace h := bif_t hb6 h
        refine al_val (ov_fieldA (p := 1) rfl Try.underlying36 rfl sz3 rfl rfl rfl) ?_
        refine al_val (ov_load (i := 0) (v := (Value.int .i64 a0.Max)) rfl rfl Try.underlying3 sz3 rfl rfl rfl rfl) ?_
        refine al_val (ov_int rfl rfl rfl rfl) ?_
        refine al_val (ov_pick_t rfl rfl rfl) ?_
        refine al_val (ov_move rfl rfl) ?_
        refine al_caseB 18 rfl (fun hb7 => ?_) (fun hb7 => ?_)
        · replace h := bif_t hb7 h
          refine al_val (ov_fieldA (p := 2) rfl Try.underlying36 rfl sz3 rfl rfl rfl) ?_
          refine al_val (ov_load (i := 0) (v := (Value.int .i64 a0.Bits)) rfl rfl Try.underlying3 sz3 rfl rfl rfl rfl) ?_
          refine al_val (ov_int rfl rfl rfl rfl) ?_
          refine al_val (ov_pick_t rfl rfl rfl) ?_
          refine al_val (ov_move rfl rfl) ?_
          refine al_caseB 23 rfl (fun hb8 => ?_) (fun hb8 => ?_)
          · replace h := bif_t hb8 h
            refine al_val (ov_fieldA (p := 2) rfl Try.underlying36 rfl sz3 rfl rfl rfl) ?_
            refine al_val (ov_load (i := 0) (v := (Value.int .i64 a0.Bits)) rfl rfl Try.underlying3 sz3 rfl rfl rfl rfl) ?_
            refine al_val (ov_int rfl rfl rfl rfl) ?_
            refine al_val (ov_pick_t rfl rfl rfl) ?_
            refine al_nil ?_
            exact aq_join (decide (a0.Bits ≤ (12 : Int))) h (fun w a hm hs => norm hm hs [] [] [(27, (Value.bool (decide (a0.Bits ≤ (12 : Int)))))] (by decide) ⟨rfl, trivial⟩)
          · replace h := bif_f hb8 h
            refine al_skip ?_
            refine al_skip ?_
            refine al_skip ?_
            refine al_val (ov_pick_f rfl rfl rfl) ?_
            refine al_nil ?_
            exact aq_join false h (fun w a hm hs => norm hm hs [] [] [(27, (Value.bool false))] (by decide) ⟨rfl, trivial⟩)
        · replace h := bif_f hb7 h
          refine al_skip ?_
          refine al_skip ?_
          refine al_skip ?_
          refine al_val (ov_pick_f rfl rfl rfl) ?_
          refine al_val (ov_move rfl rfl) ?_
          refine al_skip ?_
          refine al_skip ?_
          refine al_skip ?_
          refine al_val (ov_pick_f rfl rfl rfl) ?_
          refine al_nil ?_
          exact aq_join false h (fun w a hm hs => norm hm hs [] [] [(27, (Value.bool false))] (by decide) ⟨rfl, trivial⟩)
      · replace h := bif_f hb6 h
        refine al_skip ?_
        refine al_skip ?_
        refine al_skip ?_
        refine al_val (ov_pick_f rfl rfl rfl) ?_
        refine al_val (ov_move rfl rfl) ?_
        refine al_skip ?_
        refine al_skip ?_
        refine al_skip ?_
        refine al_val (ov_pick_f rfl rfl rfl) ?_
        refine al_val (ov_move rfl rfl) ?_
        refine al_skip ?_
        refine al_skip ?_
        refine al_skip ?_
        refine al_val (ov_pick_f rfl rfl rfl) ?_
        refine al_nil ?_
        exact aq_join false h (fun w a hm hs => norm hm hs [] [] [(27, (Value.bool false))] (by decide) ⟨rfl, trivial⟩)
    · replace h := bif_f hb5 h
      refine al_skip ?_
      refine al_skip ?_
      refine al_skip ?_
      refine al_skip ?_
      refine al_skip ?_
      refine al_val (ov_pick_f rfl rfl rfl) ?_
      refine al_val (ov_move rfl rfl) ?_
      refine al_skip ?_
      refine al_skip ?_
      refine al_skip ?_
      refine al_val (ov_pick_f rfl rfl rfl) ?_
      refine al_val (ov_move rfl rfl) ?_
      refine al_skip ?_
      refine al_skip ?_
      refine al_skip ?_
      refine al_val (ov_pick_f rfl rfl rfl) ?_
      refine al_val (ov_move rfl rfl) ?_
      refine al_skip ?_
      refine al_skip ?_
      refine al_skip ?_
      refine al_val (ov_pick_f rfl rfl rfl) ?_
      refine al_nil ?_
      exact aq_join false h (fun w a hm hs => norm hm hs [] [] [(27, (Value.bool false))] (by decide) ⟨rfl, trivial⟩)
def f_lumref_rest_L5 (kk2 : (Int → Option Int)) : Nat → Int → Int → Option Int
  | 0, _, _ => none
  | k4 + 1, l3i0, l3i3 => (bif (decide (l3i3 ≥ (31 : Int))) then (lt (fun (j7i0 : Int) => (f_lumref_rest_L5 kk2 k4 j7i0 (IntKind.i64.wrap (l3i3 - (1 : Int))))) fun (kk8 : Int → Option Int) => (req (0 ≤ l3i3) (bif ((bits .and .u64 ((l3i0).fdiv (2 ^ min (l3i3).toNat (IntKind.bits .u64))) (1 : Int)) == (1 : Int)) then (req (0 ≤ (IntKind.i64.wrap (l3i3 - (31 : Int)))) (kk8 (bits .xor .u64 l3i0 (IntKind.u64.wrap ((2147483657 : Int) * 2 ^ min ((IntKind.i64.wrap (l3i3 - (31 : Int)))).toNat (IntKind.bits .u64)))))) else (kk8 l3i0)))) else (kk2 l3i0))
def f_lumref_rest (fu : Nat) (a0 : Int) : Option Int := (lt (fun (j1i0 : Int) => (some (IntKind.u32.wrap j1i0))) fun (kk2 : Int → Option Int) => (f_lumref_rest_L5 kk2 fu a0 (63 : Int)))
set_option maxRecDepth 100000 in
theorem f_lumref_rest_ok (fu : Nat) (a0 : Int) {r : Int} (h : f_lumref_rest fu a0 = some r) : FnOk Try.prog 211 [(Value.int .u64 a0)] [] [] (fun (i : Unit) => { val := (Value.int .u32 r) }) := by
  unfold f_lumref_rest at h
  refine fn_enter Try.func211 rfl Try.ntmps211 rfl (fun w0 Z0 => ?_)
  refine aw_seq ?_
  refine aw_region ?_
  refine al_val (ov_assign rfl rfl) ?_
  refine al_nil ?_
  refine aq_then ?_
  obtain ⟨kk2, hkk2, h⟩ := lt_some h
  refine aw_seq_join (ι := Int) (fun i => (memOf w0 Z0 [] [] [])) (fun i => (tab [(0, (Value.int .u64 i))])) (fun i => kk2 i = some r) ?_ ?_
  · rintro j1i0 h
    have h : kk2 j1i0 = some r := h
    rw [hkk2] at h
    dsimp only at h
    clear hkk2
    refine aw_show (m := (memOf w0 Z0 [] [] [])) (S := (tab [(0, (Value.int .u64 j1i0))])) ?_
    refine aw_seq ?_
    refine aw_region ?_
    refine al_val (ov_move rfl rfl) ?_
    refine al_val (ov_convInt (by rw [Try.underlying22]; rfl) Try.underlying152 rfl rfl) ?_
    refine al_val (ov_assign rfl rfl) ?_
    refine al_nil ?_
    refine aq_then ?_
    refine aw_ret ?_
    obtain rfl := Option.some.inj h
    exact fn_ret () [] [] rfl rfl rfl rfl (res1 rfl rfl) rfl rfl rfl (by decide)
  · clear hkk2
    refine aw_seq ?_
    refine aw_region ?_
    refine al_val (ov_assign rfl rfl) ?_
    refine al_nil ?_
    refine aq_then ?_
    refine aw_block ?_
    refine aw_state (aw_loop (ι := Int × Int) (fun i => (memOf w0 Z0 [] [] [])) (fun i => (tab [(0, (Value.int .u64 i.1)), (3, (Value.int .i64 i.2))])) (fun q i => f_lumref_rest_L5 kk2 q i.1 i.2 = some r) ?_ fu (a0, (63 : Int)) h) (fun w a hm hs => norm hm hs [] [] [(0, (Value.int .u64 a0)), (3, (Value.int .i64 (63 : Int)))] (by decide) ⟨rfl, rfl, trivial⟩)
    clear h
    rintro k4 ⟨l3i0, l3i3⟩ h
    have h : f_lumref_rest_L5 kk2 k4 l3i0 l3i3 = some r := h
    obtain _ | k4 := k4
    · rw [f_lumref_rest_L5] at h; cases h
    rw [f_lumref_rest_L5] at h
    refine aw_show (m := (memOf w0 Z0 [] [] [])) (S := (tab [(0, (Value.int .u64 l3i0)), (3, (Value.int .i64 l3i3))])) ?_
    refine aw_seq ?_
    refine aw_seq ?_
    refine aw_region ?_
    refine al_val (ov_move rfl rfl) ?_
    refine al_val (ov_int rfl rfl rfl rfl) ?_
    refine al_nil ?_
    refine aq_then ?_
    refine aw_cond rfl (fun hb6 => ?_) (fun hb6 => ?_)
    · replace h := bif_t hb6 h
      refine aw_skip ?_
      refine aq_then ?_
      obtain ⟨kk8, hkk8, h⟩ := lt_some h
      refine aw_seq_join (ι := Int) (fun i => (memOf w0 Z0 [] [] [])) (fun i => (tab [(0, (Value.int .u64 i)), (3, (Value.int .i64 l3i3))])) (fun i => kk8 i = some r) ?_ ?_
      · rintro j7i0 h
        have h : kk8 j7i0 = some r := h
        rw [hkk8] at h
        dsimp only at h
        clear hkk8
        refine aw_show (m := (memOf w0 Z0 [] [] [])) (S := (tab [(0, (Value.int .u64 j7i0)), (3, (Value.int .i64 l3i3))])) ?_
        refine aw_region ?_
        refine al_val (ov_move rfl rfl) ?_
        refine al_val (ov_int rfl rfl rfl rfl) ?_
        refine al_val (ov_assign rfl rfl) ?_
        refine al_nil ?_
        exact aq_again k4 (j7i0, (IntKind.i64.wrap (l3i3 - (1 : Int)))) (Nat.lt_succ_self _) h (fun w a hm hs => norm hm hs [] [] [(0, (Value.int .u64 j7i0)), (3, (Value.int .i64 (IntKind.i64.wrap (l3i3 - (1 : Int)))))] (by decide) ⟨rfl, rfl, trivial⟩)
      · clear hkk8
        refine aw_block ?_
        refine aw_seq ?_
        refine aw_region ?_
        refine al_val (ov_move rfl rfl) ?_
        refine al_val (ov_move rfl rfl) ?_
        obtain ⟨hc9, h⟩ := req_some h
        refine al_val (ov_shr hc9 rfl rfl rfl) ?_
        refine al_val (ov_int rfl rfl rfl rfl) ?_
        refine al_val (ov_int rfl rfl rfl rfl) ?_
        refine al_nil ?_
        refine aq_then ?_
        refine aw_cond rfl (fun hb10 => ?_) (fun hb10 => ?_)
        · replace h := bif_t hb10 h
          refine aw_region ?_
          refine al_val (ov_move rfl rfl) ?_
          refine al_val (ov_move rfl rfl) ?_
          refine al_val (ov_int rfl rfl rfl rfl) ?_
          obtain ⟨hc11, h⟩ := req_some h
          refine al_val (ov_shl hc11 rfl rfl rfl) ?_
          refine al_val (ov_int rfl rfl rfl rfl) ?_
          refine al_val (ov_assign rfl rfl) ?_
          refine al_nil ?_
          refine aq_block ?_
          exact aq_join (bits .xor .u64 l3i0 (IntKind.u64.wrap ((2147483657 : Int) * 2 ^ min ((IntKind.i64.wrap (l3i3 - (31 : Int)))).toNat (IntKind.bits .u64)))) h (fun w a hm hs => norm hm hs [] [] [(0, (Value.int .u64 (bits .xor .u64 l3i0 (IntKind.u64.wrap ((2147483657 : Int) * 2 ^ min ((IntKind.i64.wrap (l3i3 - (31 : Int)))).toNat (IntKind.bits .u64)))))), (3, (Value.int .i64 l3i3))] (by decide) ⟨rfl, rfl, trivial⟩)
        · replace h := bif_f hb10 h
          refine aw_skip ?_
          refine aq_block ?_
          exact aq_join l3i0 h (fun w a hm hs => norm hm hs [] [] [(0, (Value.int .u64 l3i0)), (3, (Value.int .i64 l3i3))] (by decide) ⟨rfl, rfl, trivial⟩)
    · replace h := bif_f hb6 h
      refine aw_exit ?_
      refine aq_then_exit ?_
      refine aq_then_exit ?_
      refine aq_block_exit ?_
      exact aq_join l3i0 h (fun w a hm hs => norm hm hs [] [] [(0, (Value.int .u64 l3i0))] (by decide) ⟨rfl, trivial⟩)
def f_lumref_Of_L9 (j1s0 : (List UInt8)) (kk4 : (Int → Option Int)) (fu : Nat) : Nat → Int → Int → Option Int
  | 0, _, _ => none
  | k8 + 1, l7i3, l7i17 => (bif (decide (l7i17 < (j1s0.length : Int))) then (opt (at? j1s0 l7i17) fun (u11 : UInt8) => (opt (f_lumref_rest fu (bits .xor .u64 (IntKind.u64.wrap ((IntKind.u64.wrap l7i3) * 2 ^ min ((8 : Int)).toNat (IntKind.bits .u64))) (IntKind.u64.wrap (u11.toNat : Int)))) fun (r15 : Int) => (f_lumref_Of_L9 j1s0 kk4 fu k8 r15 (IntKind.i64.wrap (l7i17 + (1 : Int)))))) else (kk4 l7i3))
def f_lumref_Of (fu : Nat) (a0 : (List UInt8)) : Option Int := (lt (fun (j1s0 : (List UInt8)) => (lt (fun (j3i3 : Int) => (some j3i3)) fun (kk4 : Int → Option Int) => (req (j1s0.length ≤ 9223372036854775807) (f_lumref_Of_L9 j1s0 kk4 fu fu (0 : Int) (0 : Int))))) fun (kk2 : (List UInt8) → Option Int) => (bif (decide ((a0.length : Int) > (16 : Int))) then (req (0 ≤ (IntKind.i64.wrap ((a0.length : Int) - (16 : Int))) ∧ (IntKind.i64.wrap ((a0.length : Int) - (16 : Int))) ≤ (a0.length : Int)) (kk2 (a0.drop ((IntKind.i64.wrap ((a0.length : Int) - (16 : Int)))).toNat))) else (kk2 a0)))
set_option maxRecDepth 100000 in
theorem f_lumref_Of_ok (fu : Nat) (a0 : (List UInt8)) {r : Int} (h : f_lumref_Of fu a0 = some r) : FnOk Try.prog 172 [(str a0)] [] [] (fun (i : Unit) => { val := (Value.int .u32 r) }) := by
  unfold f_lumref_Of at h
  refine fn_enter Try.func172 rfl Try.ntmps172 rfl (fun w0 Z0 => ?_)
  refine aw_seq ?_
  refine aw_region ?_
  refine al_val (ov_assign rfl rfl) ?_
  refine al_nil ?_
  refine aq_then ?_
  obtain ⟨kk2, hkk2, h⟩ := lt_some h
  refine aw_seq_join (ι := (List UInt8)) (fun i => (memOf w0 Z0 [] [] [])) (fun i => (tab [(0, (str i))])) (fun i => kk2 i = some r) ?_ ?_
  · rintro j1s0 h
    have h : kk2 j1s0 = some r := h
    rw [hkk2] at h
    dsimp only at h
    clear hkk2
    refine aw_show (m := (memOf w0 Z0 [] [] [])) (S := (tab [(0, (str j1s0))])) ?_
    refine aw_seq ?_
    refine aw_region ?_
    refine al_val (ov_assign rfl rfl) ?_
    refine al_nil ?_
    refine aq_then ?_
    obtain ⟨kk4, hkk4, h⟩ := lt_some h
    refine aw_seq_join (ι := Int) (fun i => (memOf w0 Z0 [] [] [])) (fun i => (tab [(3, (Value.int .u32 i))])) (fun i => kk4 i = some r) ?_ ?_
    · rintro j3i3 h
      have h : kk4 j3i3 = some r := h
      rw [hkk4] at h
      dsimp only at h
      clear hkk4
      refine aw_show (m := (memOf w0 Z0 [] [] [])) (S := (tab [(3, (Value.int .u32 j3i3))])) ?_
      refine aw_seq ?_
      refine aw_region ?_
      refine al_val (ov_move rfl rfl) ?_
      refine al_val (ov_assign rfl rfl) ?_
      refine al_nil ?_
      refine aq_then ?_
      refine aw_ret ?_
      obtain rfl := Option.some.inj h
      exact fn_ret () [] [] rfl rfl rfl rfl (res1 rfl rfl) rfl rfl rfl (by decide)
    · clear hkk4
      refine aw_seq ?_
      refine aw_region ?_
      refine al_val (ov_move rfl rfl) ?_
      obtain ⟨hc5, h⟩ := req_some h
      refine al_bytes hc5 rfl Try.underlying9 Try.underlying156 Try.underlying5 rfl (fun s6 => ?_)
      refine al_val (ov_lenD 0 rfl rfl Try.underlying156 rfl) ?_
      refine al_val (ov_move rfl rfl) ?_
      refine al_nil ?_
      refine aq_then ?_
      refine aw_block ?_
      refine aw_state (aw_loop (ι := Int × Int) (fun i => (memOf w0 Z0 [] [] [(fDat (tyList tyU8) [s6] j1s0)])) (fun i => (tab [(3, (Value.int .u32 i.1)), (15, s6), (16, (Value.int .i64 (j1s0.length : Int))), (17, (Value.int .i64 i.2))])) (fun q i => f_lumref_Of_L9 j1s0 kk4 fu q i.1 i.2 = some r) ?_ fu ((0 : Int), (0 : Int)) h) (fun w a hm hs => norm hm hs [] [0] [(3, (Value.int .u32 (0 : Int))), (15, s6), (16, (Value.int .i64 (j1s0.length : Int))), (17, (Value.int .i64 (0 : Int)))] (by decide) ⟨rfl, rfl, rfl, rfl, trivial⟩)
      clear h
      rintro k8 ⟨l7i3, l7i17⟩ h
      have h : f_lumref_Of_L9 j1s0 kk4 fu k8 l7i3 l7i17 = some r := h
      obtain _ | k8 := k8
      · rw [f_lumref_Of_L9] at h; cases h
      rw [f_lumref_Of_L9] at h
      refine aw_show (m := (memOf w0 Z0 [] [] [(fDat (tyList tyU8) [s6] j1s0)])) (S := (tab [(3, (Value.int .u32 l7i3)), (15, s6), (16, (Value.int .i64 (j1s0.length : Int))), (17, (Value.int .i64 l7i17))])) ?_
      refine aw_seq ?_
      refine aw_region ?_
      refine al_val (ov_int rfl rfl rfl rfl) ?_
      refine al_nil ?_
      refine aq_then ?_
      refine aw_seq ?_
      refine aw_cond rfl (fun hb10 => ?_) (fun hb10 => ?_)
      · replace h := bif_t hb10 h
        refine aw_skip ?_
        refine aq_then ?_
        refine aw_seq ?_
        refine aw_block ?_
        refine aw_seq ?_
        refine aw_region ?_
        obtain ⟨u11, hu12, h⟩ := opt_some h
        refine al_idxD 0 hu12 rfl rfl rfl Try.underlying156 sz5 rfl (fun p13 => ?_)
        refine al_val (ov_loadP (ds := [(Value.int .u8 (u11.toNat : Int))]) 0 rfl (fun h => h) rfl Try.underlying5 sz5 rfl rfl rfl) ?_
        refine al_val (ov_assign rfl rfl) ?_
        refine al_nil ?_
        refine aq_then ?_
        refine aw_region ?_
        refine al_val (ov_move rfl rfl) ?_
        refine al_val (ov_convInt (by rw [Try.underlying152]; rfl) Try.underlying22 rfl rfl) ?_
        refine al_val (ov_shl (by decide) rfl rfl rfl) ?_
        refine al_val (ov_move rfl rfl) ?_
        refine al_val (ov_convInt (by rw [Try.underlying5]; rfl) Try.underlying22 rfl rfl) ?_
        refine al_val (ov_int rfl rfl rfl rfl) ?_
        obtain ⟨r15, hc14, h⟩ := opt_some h
        refine al_call (vs := [(Value.int .u64 (bits .xor .u64 (IntKind.u64.wrap ((IntKind.u64.wrap l7i3) * 2 ^ min ((8 : Int)).toNat (IntKind.bits .u64))) (IntKind.u64.wrap (u11.toNat : Int))))]) (f_lumref_rest_ok fu (bits .xor .u64 (IntKind.u64.wrap ((IntKind.u64.wrap l7i3) * 2 ^ min ((8 : Int)).toNat (IntKind.bits .u64))) (IntKind.u64.wrap (u11.toNat : Int))) hc14) [] [] [] pre_nil rfl (by simp) (by decide) (.inl rfl) rfl Try.func211 rfl rfl rfl (fun _ => ?_)
        refine al_val (ov_assign rfl rfl) ?_
        refine al_nil ?_
        refine aq_block ?_
        refine aq_then ?_
        refine aw_region ?_
        refine al_val (ov_int rfl rfl rfl rfl) ?_
        refine al_val (ov_move rfl rfl) ?_
        refine al_nil ?_
        exact aq_again k8 (r15, (IntKind.i64.wrap (l7i17 + (1 : Int)))) (Nat.lt_succ_self _) h (fun w a hm hs => norm hm hs [] [1] [(3, (Value.int .u32 r15)), (15, s6), (16, (Value.int .i64 (j1s0.length : Int))), (17, (Value.int .i64 (IntKind.i64.wrap (l7i17 + (1 : Int)))))] (by decide) ⟨rfl, rfl, rfl, rfl, trivial⟩)
      · replace h := bif_f hb10 h
        refine aw_exit ?_
        refine aq_then_exit ?_
        refine aq_then_exit ?_
        refine aq_block_exit ?_
        exact aq_join l7i3 h (fun w a hm hs => norm hm hs [] [] [(3, (Value.int .u32 l7i3))] (by decide) ⟨rfl, trivial⟩)
  · clear hkk2
    refine aw_seq ?_
    refine aw_region ?_
    refine al_val (ov_move rfl rfl) ?_
    refine al_val (ov_strLen Try.underlying9 rfl rfl) ?_
    refine al_val (ov_int rfl rfl rfl rfl) ?_
    refine al_nil ?_
    refine aq_then ?_
    refine aw_cond rfl (fun hb16 => ?_) (fun hb16 => ?_)
    · replace h := bif_t hb16 h
      refine aw_region ?_
      refine al_val (ov_move rfl rfl) ?_
      refine al_val (ov_move rfl rfl) ?_
      refine al_val (ov_strLen Try.underlying9 rfl rfl) ?_
      refine al_val (ov_int rfl rfl rfl rfl) ?_
      obtain ⟨hc17, h⟩ := req_some h
      refine al_val (ov_strFrom hc17.1 hc17.2 Try.underlying9 rfl rfl rfl) ?_
      refine al_val (ov_assign rfl rfl) ?_
      refine al_nil ?_
      exact aq_join (a0.drop ((IntKind.i64.wrap ((a0.length : Int) - (16 : Int)))).toNat) h (fun w a hm hs => norm hm hs [] [] [(0, (str (a0.drop ((IntKind.i64.wrap ((a0.length : Int) - (16 : Int)))).toNat)))] (by decide) ⟨rfl, trivial⟩)
    · replace h := bif_f hb16 h
      refine aw_skip ?_
      exact aq_join a0 h (fun w a hm hs => norm hm hs [] [] [(0, (str a0))] (by decide) ⟨rfl, trivial⟩)
def f_lumref_ends (fu : Nat) (a0 : S_api_Cut) (a1 : (List UInt8)) : Option Bool := (lt (fun (j2b4 : Bool) => (some j2b4)) fun (kk3 : Bool → Option Bool) => (bif ((a1.length : Int) == a0.Max) then (kk3 true) else (bif (decide ((a1.length : Int) ≥ a0.Min)) then (opt (f_lumref_Of fu a1) fun (r7 : Int) => (req (0 ≤ a0.Bits) (req ((IntKind.u32.wrap ((1 : Int) * 2 ^ min (a0.Bits).toNat (IntKind.bits .u32))) ≠ 0) (kk3 (((r7).tmod (IntKind.u32.wrap ((1 : Int) * 2 ^ min (a0.Bits).toNat (IntKind.bits .u32)))) == (0 : Int)))))) else (kk3 false))))
set_option maxRecDepth 100000 in
theorem f_lumref_ends_ok (fu : Nat) (a0 : S_api_Cut) (a1 : (List UInt8)) {r : Bool} (h : f_lumref_ends fu a0 a1 = some r) : FnOk Try.prog 102 [(ag [(Value.int .i64 a0.Min), (Value.int .i64 a0.Max), (Value.int .i64 a0.Bits)]), (str a1)] [] [] (fun (i : Unit) => { val := (Value.bool r) }) := by
  unfold f_lumref_ends at h
  refine fn_enter Try.func102 rfl Try.ntmps102 rfl (fun w0 Z0 => ?_)
  refine aw_seq ?_
  refine aw_region ?_
  refine al_box (vs := [(Value.int .i64 a0.Min), (Value.int .i64 a0.Max), (Value.int .i64 a0.Bits)]) rfl (cv_rfl rfl) rfl (fun g1 => ?_)
  refine al_val (ov_assign rfl rfl) ?_
  refine al_nil ?_
  refine aq_then ?_
  obtain ⟨kk3, hkk3, h⟩ := lt_some h
  refine aw_seq_join (ι := Bool) (fun i => (memOf w0 Z0 [] [] [])) (fun i => (tab [(4, (Value.bool i))])) (fun i => kk3 i = some r) ?_ ?_
  · rintro j2b4 h
    have h : kk3 j2b4 = some r := h
    rw [hkk3] at h
    dsimp only at h
    clear hkk3
    refine aw_show (m := (memOf w0 Z0 [] [] [])) (S := (tab [(4, (Value.bool j2b4))])) ?_
    refine aw_ret ?_
    obtain rfl := Option.some.inj h
    exact fn_ret () [] [] rfl rfl rfl rfl (res1 rfl rfl) rfl rfl rfl (by decide)
  · clear hkk3
    rcases Bool.eq_false_or_eq_true ((a1.length : Int) == a0.Max) with hb4 | hb4
    · replace h := bif_t hb4 h
      refine aw_region_draw 21 [(5, (fun u => fEq u (str a1))), (6, (fun u => fEq u (Value.int .i64 (a1.length : Int)))), (7, (fun u => fEq u (ptr g1 1))), (8, (fun u => fEq u (Value.int .i64 a0.Max))), (9, (fun u => fEq u (Value.bool true))), (10, (fun u => fEq u (Value.bool true))), (11, (fun u => fEq u undef)), (12, (fun u => fEq u undef)), (13, (fun u => fEq u undef)), (14, (fun u => fEq u undef)), (15, (fun u => fEq u undef)), (16, (fun u => fEq u undef)), (17, (fun u => fEq u undef)), (18, (fun u => fEq u undef)), (19, (fun u => fEq u undef)), (20, (fun u => fEq u undef)), (21, (fun u => fEq u undef)), (22, (fun u => fEq u undef)), (23, (fun u => fEq u undef)), (24, (fun u => fEq u undef)), (25, (fun u => fEq u (Value.bool true)))] (tab [(1, (str a1)), (2, (ptr g1 0)), (4, (Value.bool false))]) mixed (by kernel_rfl) rfl rfl rfl (fun a hs => hs.tab _ (allT_mem ⟨rfl, rfl, rfl, trivial⟩)) ⟨⟨rfl, ld_val (ov_move rfl rfl)⟩, ⟨rfl, ld_eq (j := 0) rfl rfl (ld_val (ov_strLen Try.underlying9 rfl rfl))⟩, ⟨rfl, ld_val (ov_fieldA (p := 1) rfl Try.underlying36 rfl sz3 rfl rfl rfl)⟩, ⟨rfl, ld_eq (j := 2) rfl rfl (ld_val (ov_load (i := 0) (v := (Value.int .i64 a0.Max)) rfl rfl Try.underlying3 sz3 rfl rfl rfl rfl))⟩, ⟨rfl, ld_eq (j := 1) rfl rfl (ld_eq (j := 3) rfl rfl (ld_val (ov_cast (by first | rw [hb4] | rfl) (ov_int rfl rfl rfl rfl))))⟩, ⟨rfl, ld_eq (j := 4) rfl rfl (ld_val (ov_cast (by first | rw [hb4] | rfl) (ov_move rfl rfl)))⟩, ⟨rfl, ld_eq (j := 5) rfl rfl (ld_skip)⟩, ⟨rfl, ld_eq (j := 5) rfl rfl (ld_skip)⟩, ⟨rfl, ld_eq (j := 5) rfl rfl (ld_skip)⟩, ⟨rfl, ld_eq (j := 5) rfl rfl (ld_skip)⟩, ⟨rfl, ld_eq (j := 5) rfl rfl (ld_skip)⟩, ⟨rfl, ld_eq (j := 5) rfl rfl (ld_skip)⟩, ⟨rfl, ld_eq (j := 11) rfl rfl (ld_skip)⟩, ⟨rfl, ld_eq (j := 11) rfl rfl (ld_skip)⟩, ⟨rfl, ld_eq (j := 11) rfl rfl (ld_skip)⟩, ⟨rfl, ld_eq (j := 11) rfl rfl (ld_skip)⟩, ⟨rfl, ld_eq (j := 11) rfl rfl (ld_skip)⟩, ⟨rfl, ld_eq (j := 11) rfl rfl (ld_skip)⟩, ⟨rfl, ld_eq (j := 11) rfl rfl (ld_skip)⟩, ⟨rfl, ld_eq (j := 5) rfl rfl (ld_skip)⟩, ⟨rfl, ld_eq (j := 5) rfl rfl (ld_eq (j := 19) rfl rfl (ld_val (ov_pick_t rfl rfl rfl)))⟩, trivial⟩ ?_
      refine tl_eq 20 rfl ?_
      refine tl_done ?_
      refine al_val (ov_assign rfl rfl) ?_
      refine al_nil ?_
      exact aq_join true h (fun w a hm hs => norm hm hs [] [] [(4, (Value.bool true))] (by decide) ⟨rfl, trivial⟩)
    · replace h := bif_f hb4 h
      rcases Bool.eq_false_or_eq_true (decide ((a1.length : Int) ≥ a0.Min)) with hb5 | hb5
      · replace h := bif_t hb5 h
        obtain ⟨r7, hc6, h⟩ := opt_some h
        obtain ⟨hc8, h⟩ := req_some h
        obtain ⟨hc9, h⟩ := req_some h
        refine aw_region_draw 21 [(5, (fun u => fEq u (str a1))), (6, (fun u => fEq u (Value.int .i64 (a1.length : Int)))), (7, (fun u => fEq u (ptr g1 1))), (8, (fun u => fEq u (Value.int .i64 a0.Max))), (9, (fun u => fEq u (Value.bool false))), (10, (fun u => fEq u (Value.bool false))), (11, (fun u => fEq u (str a1))), (12, (fun u => fEq u (Value.int .i64 (a1.length : Int)))), (13, (fun u => fEq u (ptr g1 0))), (14, (fun u => fEq u (Value.int .i64 a0.Min))), (15, (fun u => fEq u (Value.bool true))), (16, (fun u => fEq u (Value.bool true))), (17, (fun u => fEq u (str a1))), (18, (fun u => fEq u (Value.int .u32 r7))), (19, (fun u => fEq u (ptr g1 2))), (20, (fun u => fEq u (Value.int .i64 a0.Bits))), (21, (fun u => fEq u (Value.int .u32 (IntKind.u32.wrap ((1 : Int) * 2 ^ min (a0.Bits).toNat (IntKind.bits .u32)))))), (22, (fun u => fEq u (Value.int .u32 ((r7).tmod (IntKind.u32.wrap ((1 : Int) * 2 ^ min (a0.Bits).toNat (IntKind.bits .u32))))))), (23, (fun u => fEq u (Value.bool (((r7).tmod (IntKind.u32.wrap ((1 : Int) * 2 ^ min (a0.Bits).toNat (IntKind.bits .u32)))) == (0 : Int))))), (24, (fun u => fEq u (Value.bool (((r7).tmod (IntKind.u32.wrap ((1 : Int) * 2 ^ min (a0.Bits).toNat (IntKind.bits .u32)))) == (0 : Int))))), (25, (fun u => fEq u (Value.bool (((r7).tmod (IntKind.u32.wrap ((1 : Int) * 2 ^ min (a0.Bits).toNat (IntKind.bits .u32)))) == (0 : Int)))))] (tab [(1, (str a1)), (2, (ptr g1 0)), (4, (Value.bool false))]) mixed (by kernel_rfl) rfl rfl rfl (fun a hs => hs.tab _ (allT_mem ⟨rfl, rfl, rfl, trivial⟩)) ⟨⟨rfl, ld_val (ov_move rfl rfl)⟩, ⟨rfl, ld_eq (j := 0) rfl rfl (ld_val (ov_strLen Try.underlying9 rfl rfl))⟩, ⟨rfl, ld_val (ov_fieldA (p := 1) rfl Try.underlying36 rfl sz3 rfl rfl rfl)⟩, ⟨rfl, ld_eq (j := 2) rfl rfl (ld_val (ov_load (i := 0) (v := (Value.int .i64 a0.Max)) rfl rfl Try.underlying3 sz3 rfl rfl rfl rfl))⟩, ⟨rfl, ld_eq (j := 1) rfl rfl (ld_eq (j := 3) rfl rfl (ld_val (ov_cast (by first | rw [hb4] | rfl) (ov_int rfl rfl rfl rfl))))⟩, ⟨rfl, ld_eq (j := 4) rfl rfl (ld_val (ov_cast (by first | rw [hb4] | rfl) (ov_move rfl rfl)))⟩, ⟨rfl, ld_eq (j := 5) rfl rfl (ld_val (ov_move rfl rfl))⟩, ⟨rfl, ld_eq (j := 5) rfl rfl (ld_eq (j := 6) rfl rfl (ld_val (ov_strLen Try.underlying9 rfl rfl)))⟩, ⟨rfl, ld_eq (j := 5) rfl rfl (ld_val (ov_fieldA (p := 0) rfl Try.underlying36 rfl sz3 rfl rfl rfl))⟩, ⟨rfl, ld_eq (j := 5) rfl rfl (ld_eq (j := 8) rfl rfl (ld_val (ov_load (i := 0) (v := (Value.int .i64 a0.Min)) rfl rfl Try.underlying3 sz3 rfl rfl rfl rfl)))⟩, ⟨rfl, ld_eq (j := 5) rfl rfl (ld_eq (j := 7) rfl rfl (ld_eq (j := 9) rfl rfl (ld_val (ov_cast (by first | rw [hb5] | rfl) (ov_int rfl rfl rfl rfl)))))⟩, ⟨rfl, ld_eq (j := 5) rfl rfl (ld_eq (j := 10) rfl rfl (ld_val (ov_cast (by first | rw [hb5] | rfl) (ov_move rfl rfl))))⟩, ⟨rfl, ld_eq (j := 11) rfl rfl (ld_val (ov_move rfl rfl))⟩, ⟨rfl, ld_eq (j := 11) rfl rfl (ld_eq (j := 12) rfl rfl (ld_callV (vs := [(str a1)]) (f_lumref_Of_ok fu a1 hc6) [] pre_nil rfl Try.func172 rfl rfl rfl))⟩, ⟨rfl, ld_eq (j := 11) rfl rfl (ld_val (ov_fieldA (p := 2) rfl Try.underlying36 rfl sz3 rfl rfl rfl))⟩, ⟨rfl, ld_eq (j := 11) rfl rfl (ld_eq (j := 14) rfl rfl (ld_val (ov_load (i := 0) (v := (Value.int .i64 a0.Bits)) rfl rfl Try.underlying3 sz3 rfl rfl rfl rfl)))⟩, ⟨rfl, ld_eq (j := 11) rfl rfl (ld_eq (j := 15) rfl rfl (ld_val (ov_shl hc8 rfl rfl rfl)))⟩, ⟨rfl, ld_eq (j := 11) rfl rfl (ld_eq (j := 13) rfl rfl (ld_eq (j := 16) rfl rfl (ld_val (ov_rem hc9 rfl rfl rfl))))⟩, ⟨rfl, ld_eq (j := 11) rfl rfl (ld_eq (j := 17) rfl rfl (ld_val (ov_int rfl rfl rfl rfl)))⟩, ⟨rfl, ld_eq (j := 5) rfl rfl (ld_eq (j := 11) rfl rfl (ld_eq (j := 18) rfl rfl (ld_val (ov_pick_t rfl rfl rfl))))⟩, ⟨rfl, ld_eq (j := 5) rfl rfl (ld_eq (j := 19) rfl rfl (ld_val (ov_pick_f rfl rfl rfl)))⟩, trivial⟩ ?_
        refine tl_eq 20 rfl ?_
        refine tl_done ?_
        refine al_val (ov_assign rfl rfl) ?_
        refine al_nil ?_
        exact aq_join (((r7).tmod (IntKind.u32.wrap ((1 : Int) * 2 ^ min (a0.Bits).toNat (IntKind.bits .u32)))) == (0 : Int)) h (fun w a hm hs => norm hm hs [] [] [(4, (Value.bool (((r7).tmod (IntKind.u32.wrap ((1 : Int) * 2 ^ min (a0.Bits).toNat (IntKind.bits .u32)))) == (0 : Int))))] (by decide) ⟨rfl, trivial⟩)
      · replace h := bif_f hb5 h
        refine aw_region_draw 21 [(5, (fun u => fEq u (str a1))), (6, (fun u => fEq u (Value.int .i64 (a1.length : Int)))), (7, (fun u => fEq u (ptr g1 1))), (8, (fun u => fEq u (Value.int .i64 a0.Max))), (9, (fun u => fEq u (Value.bool false))), (10, (fun u => fEq u (Value.bool false))), (11, (fun u => fEq u (str a1))), (12, (fun u => fEq u (Value.int .i64 (a1.length : Int)))), (13, (fun u => fEq u (ptr g1 0))), (14, (fun u => fEq u (Value.int .i64 a0.Min))), (15, (fun u => fEq u (Value.bool false))), (16, (fun u => fEq u (Value.bool false))), (17, (fun u => fEq u undef)), (18, (fun u => fEq u undef)), (19, (fun u => fEq u undef)), (20, (fun u => fEq u undef)), (21, (fun u => fEq u undef)), (22, (fun u => fEq u undef)), (23, (fun u => fEq u undef)), (24, (fun u => fEq u (Value.bool false))), (25, (fun u => fEq u (Value.bool false)))] (tab [(1, (str a1)), (2, (ptr g1 0)), (4, (Value.bool false))]) mixed (by kernel_rfl) rfl rfl rfl (fun a hs => hs.tab _ (allT_mem ⟨rfl, rfl, rfl, trivial⟩)) ⟨⟨rfl, ld_val (ov_move rfl rfl)⟩, ⟨rfl, ld_eq (j := 0) rfl rfl (ld_val (ov_strLen Try.underlying9 rfl rfl))⟩, ⟨rfl, ld_val (ov_fieldA (p := 1) rfl Try.underlying36 rfl sz3 rfl rfl rfl)⟩, ⟨rfl, ld_eq (j := 2) rfl rfl (ld_val (ov_load (i := 0) (v := (Value.int .i64 a0.Max)) rfl rfl Try.underlying3 sz3 rfl rfl rfl rfl))⟩, ⟨rfl, ld_eq (j := 1) rfl rfl (ld_eq (j := 3) rfl rfl (ld_val (ov_cast (by first | rw [hb4] | rfl) (ov_int rfl rfl rfl rfl))))⟩, ⟨rfl, ld_eq (j := 4) rfl rfl (ld_val (ov_cast (by first | rw [hb4] | rfl) (ov_move rfl rfl)))⟩, ⟨rfl, ld_eq (j := 5) rfl rfl (ld_val (ov_move rfl rfl))⟩, ⟨rfl, ld_eq (j := 5) rfl rfl (ld_eq (j := 6) rfl rfl (ld_val (ov_strLen Try.underlying9 rfl rfl)))⟩, ⟨rfl, ld_eq (j := 5) rfl rfl (ld_val (ov_fieldA (p := 0) rfl Try.underlying36 rfl sz3 rfl rfl rfl))⟩, ⟨rfl, ld_eq (j := 5) rfl rfl (ld_eq (j := 8) rfl rfl (ld_val (ov_load (i := 0) (v := (Value.int .i64 a0.Min)) rfl rfl Try.underlying3 sz3 rfl rfl rfl rfl)))⟩, ⟨rfl, ld_eq (j := 5) rfl rfl (ld_eq (j := 7) rfl rfl (ld_eq (j := 9) rfl rfl (ld_val (ov_cast (by first | rw [hb5] | rfl) (ov_int rfl rfl rfl rfl)))))⟩, ⟨rfl, ld_eq (j := 5) rfl rfl (ld_eq (j := 10) rfl rfl (ld_val (ov_cast (by first | rw [hb5] | rfl) (ov_move rfl rfl))))⟩, ⟨rfl, ld_eq (j := 11) rfl rfl (ld_skip)⟩, ⟨rfl, ld_eq (j := 11) rfl rfl (ld_skip)⟩, ⟨rfl, ld_eq (j := 11) rfl rfl (ld_skip)⟩, ⟨rfl, ld_eq (j := 11) rfl rfl (ld_skip)⟩, ⟨rfl, ld_eq (j := 11) rfl rfl (ld_skip)⟩, ⟨rfl, ld_eq (j := 11) rfl rfl (ld_skip)⟩, ⟨rfl, ld_eq (j := 11) rfl rfl (ld_skip)⟩, ⟨rfl, ld_eq (j := 5) rfl rfl (ld_eq (j := 11) rfl rfl (ld_eq (j := 18) rfl rfl (ld_val (ov_pick_f rfl rfl rfl))))⟩, ⟨rfl, ld_eq (j := 5) rfl rfl (ld_eq (j := 19) rfl rfl (ld_val (ov_pick_f rfl rfl rfl)))⟩, trivial⟩ ?_
        refine tl_eq 20 rfl ?_
        refine tl_done ?_
        refine al_val (ov_assign rfl rfl) ?_
        refine al_nil ?_
        exact aq_join false h (fun w a hm hs => norm hm hs [] [] [(4, (Value.bool false))] (by decide) ⟨rfl, trivial⟩)
def f_lumref_Pieces_L7 (a0 : S_api_Cut) (a1 : (List UInt8)) (kk3 : ((List (List UInt8)) → Int → Option ((List (List UInt8)) × (List UInt8)))) (fu : Nat) : Nat → (List (List UInt8)) → Int → Int → Option ((List (List UInt8)) × (List UInt8))
  | 0, _, _, _ => none
  | k6 + 1, l5x6, l5i7, l5i11 => (bif (decide (l5i11 < (a1.length : Int))) then (lt (fun (j9x6 : (List (List UInt8))) (j9i7 : Int) => (f_lumref_Pieces_L7 a0 a1 kk3 fu k6 j9x6 j9i7 (IntKind.i64.wrap (l5i11 + (1 : Int))))) fun (kk10 : (List (List UInt8)) → Int → Option ((List (List UInt8)) × (List UInt8))) => (req (0 ≤ l5i7 ∧ l5i7 ≤ (IntKind.i64.wrap (l5i11 + (1 : Int))) ∧ (IntKind.i64.wrap (l5i11 + (1 : Int))) ≤ (a1.length : Int)) (opt (f_lumref_ends fu a0 (cut a1 l5i7 (IntKind.i64.wrap (l5i11 + (1 : Int))))) fun (r13 : Bool) => (bif r13 then (req (0 ≤ l5i7 ∧ l5i7 ≤ (IntKind.i64.wrap (l5i11 + (1 : Int))) ∧ (IntKind.i64.wrap (l5i11 + (1 : Int))) ≤ (a1.length : Int)) (req (((l5x6.length + ([(cut a1 l5i7 (IntKind.i64.wrap (l5i11 + (1 : Int))))]).length) * 16 : Nat) ≤ 140737488355328 ∧ l5x6.length + ([(cut a1 l5i7 (IntKind.i64.wrap (l5i11 + (1 : Int))))]).length ≤ 9223372036854775807) (kk10 (l5x6 ++ ([(cut a1 l5i7 (IntKind.i64.wrap (l5i11 + (1 : Int))))])) (IntKind.i64.wrap (l5i11 + (1 : Int)))))) else (kk10 l5x6 l5i7))))) else (kk3 l5x6 l5i7))
def f_lumref_Pieces (fu : Nat) (a0 : S_api_Cut) (a1 : (List UInt8)) : Option ((List (List UInt8)) × (List UInt8)) := (lt (fun (j2x6 : (List (List UInt8))) (j2i7 : Int) => (req (0 ≤ j2i7 ∧ j2i7 ≤ (a1.length : Int)) (some (j2x6, (a1.drop (j2i7).toNat))))) fun (kk3 : (List (List UInt8)) → Int → Option ((List (List UInt8)) × (List UInt8))) => (f_lumref_Pieces_L7 a0 a1 kk3 fu fu ([] : List (List UInt8)) (0 : Int) (0 : Int)))
set_option maxRecDepth 100000 in
theorem f_lumref_Pieces_ok (fu : Nat) (a0 : S_api_Cut) (a1 : (List UInt8)) {r : ((List (List UInt8)) × (List UInt8))} (h : f_lumref_Pieces fu a0 a1 = some r) : FnOk Try.prog 25 [(ag [(Value.int .i64 a0.Min), (Value.int .i64 a0.Max), (Value.int .i64 a0.Bits)]), (str a1)] [] [] (fun (i : Value) => { val := (Value.tuple #[i, (str r.2)]), own := [(oRow i 9 tyStr r.1)] }) := by
  unfold f_lumref_Pieces at h
  refine fn_enter Try.func25 rfl Try.ntmps25 rfl (fun w0 Z0 => ?_)
  refine aw_seq ?_
  refine aw_region ?_
  refine al_box (vs := [(Value.int .i64 a0.Min), (Value.int .i64 a0.Max), (Value.int .i64 a0.Bits)]) rfl (cv_rfl rfl) rfl (fun g1 => ?_)
  refine al_val (ov_assign rfl rfl) ?_
  refine al_val (ov_assign rfl rfl) ?_
  refine al_nil ?_
  refine aq_then ?_
  refine aw_seq ?_
  refine aw_region ?_
  refine al_val (ov_assign rfl rfl) ?_
  refine al_nil ?_
  refine aq_then ?_
  refine aw_seq ?_
  refine aw_region ?_
  refine al_val (ov_assign rfl rfl) ?_
  refine al_nil ?_
  refine aq_then ?_
  obtain ⟨kk3, hkk3, h⟩ := lt_some h
  refine aw_seq_join (ι := Value × (List (List UInt8)) × Int) (fun i => (memOf w0 Z0 [] [(oRow i.1 9 tyStr i.2.1)] [])) (fun i => (tab [(1, (str a1)), (6, i.1), (7, (Value.int .i64 i.2.2))])) (fun i => kk3 i.2.1 i.2.2 = some r) ?_ ?_
  · rintro ⟨j2v6, j2x6, j2i7⟩ h
    have h : kk3 j2x6 j2i7 = some r := h
    rw [hkk3] at h
    dsimp only at h
    clear hkk3
    refine aw_show (m := (memOf w0 Z0 [] [(oRow j2v6 9 tyStr j2x6)] [])) (S := (tab [(1, (str a1)), (6, j2v6), (7, (Value.int .i64 j2i7))])) ?_
    refine aw_seq ?_
    obtain ⟨hc4, h⟩ := req_some h
    refine aw_region_draw 5 [(32, (fun u => fEq u j2v6)), (33, (fun u => fEq u (str a1))), (34, (fun u => fEq u (Value.int .i64 j2i7))), (35, (fun u => fEq u (str (a1.drop (j2i7).toNat)))), (4, (fun u => fEq u j2v6))] (tab [(1, (str a1)), (6, j2v6), (7, (Value.int .i64 j2i7))]) mixed (by kernel_rfl) rfl rfl rfl (fun a hs => hs.tab _ (allT_mem ⟨rfl, rfl, rfl, trivial⟩)) ⟨⟨rfl, ld_val (ov_move rfl rfl)⟩, ⟨rfl, ld_val (ov_move rfl rfl)⟩, ⟨rfl, ld_val (ov_move rfl rfl)⟩, ⟨rfl, ld_eq (j := 1) rfl rfl (ld_eq (j := 2) rfl rfl (ld_val (ov_strFrom hc4.1 hc4.2 Try.underlying9 rfl rfl rfl)))⟩, ⟨rfl, ld_eq (j := 0) rfl rfl (ld_val (ov_assign rfl rfl))⟩, trivial⟩ ?_
    refine tl_eq 3 rfl ?_
    refine tl_eq 4 rfl ?_
    refine tl_done ?_
    refine al_val (ov_assign rfl rfl) ?_
    refine al_nil ?_
    refine aq_then ?_
    refine aw_ret ?_
    obtain rfl := Option.some.inj h
    exact fn_ret j2v6 [0] [] rfl rfl rfl rfl (res2 rfl rfl rfl) rfl rfl rfl (by decide)
  · clear hkk3
    refine aw_seq ?_
    refine aw_region ?_
    refine al_val (ov_move rfl rfl) ?_
    refine al_val (ov_strLen Try.underlying9 rfl rfl) ?_
    refine al_val (ov_move rfl rfl) ?_
    refine al_nil ?_
    refine aq_then ?_
    refine aw_block ?_
    refine aw_nilR 9 tyStr ?_
    refine aw_state (aw_loop (ι := Value × (List (List UInt8)) × Int × Int) (fun i => (memOf w0 Z0 [] [(oBox g1 36 [(Value.int .i64 a0.Min), (Value.int .i64 a0.Max), (Value.int .i64 a0.Bits)]), (oRow i.1 9 tyStr i.2.1)] [])) (fun i => (tab [(1, (str a1)), (2, (ptr g1 0)), (6, i.1), (7, (Value.int .i64 i.2.2.1)), (10, (Value.int .i64 (a1.length : Int))), (11, (Value.int .i64 i.2.2.2))])) (fun q i => f_lumref_Pieces_L7 a0 a1 kk3 fu q i.2.1 i.2.2.1 i.2.2.2 = some r) ?_ fu ((Value.slice none 0 0), ([] : List (List UInt8)), (0 : Int), (0 : Int)) h) (fun w a hm hs => norm hm hs [1, 0] [] [(1, (str a1)), (2, (ptr g1 0)), (6, (Value.slice none 0 0)), (7, (Value.int .i64 (0 : Int))), (10, (Value.int .i64 (a1.length : Int))), (11, (Value.int .i64 (0 : Int)))] (by decide) ⟨rfl, rfl, rfl, rfl, rfl, rfl, trivial⟩)
    clear h
    rintro k6 ⟨l5v6, l5x6, l5i7, l5i11⟩ h
    have h : f_lumref_Pieces_L7 a0 a1 kk3 fu k6 l5x6 l5i7 l5i11 = some r := h
    obtain _ | k6 := k6
    · rw [f_lumref_Pieces_L7] at h; cases h
    rw [f_lumref_Pieces_L7] at h
    refine aw_show (m := (memOf w0 Z0 [] [(oBox g1 36 [(Value.int .i64 a0.Min), (Value.int .i64 a0.Max), (Value.int .i64 a0.Bits)]), (oRow l5v6 9 tyStr l5x6)] [])) (S := (tab [(1, (str a1)), (2, (ptr g1 0)), (6, l5v6), (7, (Value.int .i64 l5i7)), (10, (Value.int .i64 (a1.length : Int))), (11, (Value.int .i64 l5i11))])) ?_
    refine aw_seq ?_
    refine aw_region ?_
    refine al_val (ov_int rfl rfl rfl rfl) ?_
    refine al_nil ?_
    refine aq_then ?_
    refine aw_seq ?_
    refine aw_cond rfl (fun hb8 => ?_) (fun hb8 => ?_)
    · replace h := bif_t hb8 h
      refine aw_skip ?_
      refine aq_then ?_
      obtain ⟨kk10, hkk10, h⟩ := lt_some h
      refine aw_seq_join (ι := Value × (List (List UInt8)) × Int) (fun i => (memOf w0 Z0 [] [(oBox g1 36 [(Value.int .i64 a0.Min), (Value.int .i64 a0.Max), (Value.int .i64 a0.Bits)]), (oRow i.1 9 tyStr i.2.1)] [])) (fun i => (tab [(1, (str a1)), (2, (ptr g1 0)), (6, i.1), (7, (Value.int .i64 i.2.2)), (10, (Value.int .i64 (a1.length : Int))), (11, (Value.int .i64 l5i11))])) (fun i => kk10 i.2.1 i.2.2 = some r) ?_ ?_
      · rintro ⟨j9v6, j9x6, j9i7⟩ h
        have h : kk10 j9x6 j9i7 = some r := h
        rw [hkk10] at h
        dsimp only at h
        clear hkk10
        refine aw_show (m := (memOf w0 Z0 [] [(oBox g1 36 [(Value.int .i64 a0.Min), (Value.int .i64 a0.Max), (Value.int .i64 a0.Bits)]), (oRow j9v6 9 tyStr j9x6)] [])) (S := (tab [(1, (str a1)), (2, (ptr g1 0)), (6, j9v6), (7, (Value.int .i64 j9i7)), (10, (Value.int .i64 (a1.length : Int))), (11, (Value.int .i64 l5i11))])) ?_
        refine aw_region ?_
        refine al_val (ov_int rfl rfl rfl rfl) ?_
        refine al_val (ov_move rfl rfl) ?_
        refine al_nil ?_
        exact aq_again k6 (j9v6, j9x6, j9i7, (IntKind.i64.wrap (l5i11 + (1 : Int)))) (Nat.lt_succ_self _) h (fun w a hm hs => norm hm hs [0, 1] [] [(1, (str a1)), (2, (ptr g1 0)), (6, j9v6), (7, (Value.int .i64 j9i7)), (10, (Value.int .i64 (a1.length : Int))), (11, (Value.int .i64 (IntKind.i64.wrap (l5i11 + (1 : Int)))))] (by decide) ⟨rfl, rfl, rfl, rfl, rfl, rfl, trivial⟩)
      · clear hkk10
        refine aw_block ?_
        refine aw_seq ?_
        refine aw_region ?_
        refine al_val (ov_move rfl rfl) ?_
        refine al_val (ov_assign rfl rfl) ?_
        refine al_nil ?_
        refine aq_then ?_
        refine aw_seq ?_
        obtain ⟨hc11, h⟩ := req_some h
        refine aw_region_draw 6 [(14, (fun u => fEq u (ag [(Value.int .i64 a0.Min), (Value.int .i64 a0.Max), (Value.int .i64 a0.Bits)]))), (15, (fun u => fEq u (str a1))), (16, (fun u => fEq u (Value.int .i64 l5i7))), (17, (fun u => fEq u (Value.int .i64 l5i11))), (18, (fun u => fEq u (Value.int .i64 (IntKind.i64.wrap (l5i11 + (1 : Int)))))), (19, (fun u => fEq u (str (cut a1 l5i7 (IntKind.i64.wrap (l5i11 + (1 : Int)))))))] (tab [(1, (str a1)), (2, (ptr g1 0)), (6, l5v6), (7, (Value.int .i64 l5i7)), (8, (Value.int .i64 l5i11)), (10, (Value.int .i64 (a1.length : Int))), (11, (Value.int .i64 l5i11))]) mixed (by kernel_rfl) rfl rfl rfl (fun a hs => hs.tab _ (allT_mem ⟨rfl, rfl, rfl, rfl, rfl, rfl, rfl, trivial⟩)) ⟨⟨rfl, ld_val (ov_load (i := 0) (v := (ag [(Value.int .i64 a0.Min), (Value.int .i64 a0.Max), (Value.int .i64 a0.Bits)])) rfl rfl Try.underlying36 sz36 rfl rfl rfl rfl)⟩, ⟨rfl, ld_val (ov_move rfl rfl)⟩, ⟨rfl, ld_val (ov_move rfl rfl)⟩, ⟨rfl, ld_val (ov_move rfl rfl)⟩, ⟨rfl, ld_eq (j := 3) rfl rfl (ld_val (ov_int rfl rfl rfl rfl))⟩, ⟨rfl, ld_eq (j := 1) rfl rfl (ld_eq (j := 2) rfl rfl (ld_eq (j := 4) rfl rfl (ld_val (ov_strCut hc11.1 hc11.2.1 hc11.2.2 Try.underlying9 rfl rfl rfl rfl))))⟩, trivial⟩ ?_
        refine tl_eq 0 rfl ?_
        refine tl_eq 5 rfl ?_
        refine tl_done ?_
        obtain ⟨r13, hc12, h⟩ := opt_some h
        refine al_call (vs := [(ag [(Value.int .i64 a0.Min), (Value.int .i64 a0.Max), (Value.int .i64 a0.Bits)]), (str (cut a1 l5i7 (IntKind.i64.wrap (l5i11 + (1 : Int)))))]) (f_lumref_ends_ok fu a0 (cut a1 l5i7 (IntKind.i64.wrap (l5i11 + (1 : Int)))) hc12) [] [] [0, 1] pre_nil rfl (by simp) (by decide) (.inl rfl) rfl Try.func102 rfl rfl rfl (fun _ => ?_)
        refine al_nil ?_
        refine aq_then ?_
        refine aw_cond rfl (fun hb14 => ?_) (fun hb14 => ?_)
        · replace h := bif_t hb14 h
          refine aw_seq ?_
          refine aw_region ?_
          refine al_val (ov_move rfl rfl) ?_
          refine al_val (ov_move rfl rfl) ?_
          refine al_val (ov_move rfl rfl) ?_
          refine al_val (ov_move rfl rfl) ?_
          refine al_val (ov_int rfl rfl rfl rfl) ?_
          obtain ⟨hc15, h⟩ := req_some h
          refine al_val (ov_strCut hc15.1 hc15.2.1 hc15.2.2 Try.underlying9 rfl rfl rfl rfl) ?_
          refine al_buildSlice (τ := tyStr) (e := 9) (k := 1) (sz := 0) (by_ := 0) (z := undef) (cs := [(str (cut a1 l5i7 (IntKind.i64.wrap (l5i11 + (1 : Int)))))]) (xs := [(cut a1 l5i7 (IntKind.i64.wrap (l5i11 + (1 : Int))))]) rfl (by decide) (fun w a hm hs => ⟨([(str (cut a1 l5i7 (IntKind.i64.wrap (l5i11 + (1 : Int)))))]).toArray, rfl, by simp only [List.map_toArray, List.map_cons, List.map_nil, hs.ev (x := .tmp 26) rfl]; exact run_bs [(str (cut a1 l5i7 (IntKind.i64.wrap (l5i11 + (1 : Int)))))] [(str (cut a1 l5i7 (IntKind.i64.wrap (l5i11 + (1 : Int)))))] Try.underlying37 to9 rfl rfl (bs_cons (l := [(str (cut a1 l5i7 (IntKind.i64.wrap (l5i11 + (1 : Int)))))]) (cs := []) (cv_rfl rfl) rfl bs_nil) hm⟩) (fun hm => ⟨_, _, rfl, (fun _ => rfl) hm, rfl⟩) rfl (fun v16 => ?_)
          obtain ⟨hc17, h⟩ := req_some h
          refine al_append 2 hc17.1 hc17.2 rfl (src_own (i := 2) 0 rfl) rfl rfl Try.underlying37 to9 rfl rfl rfl (fun v18 => ?_)
          refine al_val (ov_assign rfl rfl) ?_
          refine al_nil ?_
          refine aq_then ?_
          refine aw_region ?_
          refine al_val (ov_move rfl rfl) ?_
          refine al_val (ov_int rfl rfl rfl rfl) ?_
          refine al_val (ov_assign rfl rfl) ?_
          refine al_nil ?_
          refine aq_block ?_
          exact aq_join (v18, (l5x6 ++ ([(cut a1 l5i7 (IntKind.i64.wrap (l5i11 + (1 : Int))))])), (IntKind.i64.wrap (l5i11 + (1 : Int)))) h (fun w a hm hs => norm hm hs [1, 2] [] [(1, (str a1)), (2, (ptr g1 0)), (6, v18), (7, (Value.int .i64 (IntKind.i64.wrap (l5i11 + (1 : Int))))), (10, (Value.int .i64 (a1.length : Int))), (11, (Value.int .i64 l5i11))] (by decide) ⟨rfl, rfl, rfl, rfl, rfl, rfl, trivial⟩)
        · replace h := bif_f hb14 h
          refine aw_skip ?_
          refine aq_block ?_
          exact aq_join (l5v6, l5x6, l5i7) h (fun w a hm hs => norm hm hs [0, 1] [] [(1, (str a1)), (2, (ptr g1 0)), (6, l5v6), (7, (Value.int .i64 l5i7)), (10, (Value.int .i64 (a1.length : Int))), (11, (Value.int .i64 l5i11))] (by decide) ⟨rfl, rfl, rfl, rfl, rfl, rfl, trivial⟩)
    · replace h := bif_f hb8 h
      refine aw_exit ?_
      refine aq_then_exit ?_
      refine aq_then_exit ?_
      refine aq_block_exit ?_
      exact aq_join (l5v6, l5x6, l5i7) h (fun w a hm hs => norm hm hs [1] [] [(1, (str a1)), (6, l5v6), (7, (Value.int .i64 l5i7))] (by decide) ⟨rfl, rfl, rfl, trivial⟩)
def f_slices_Equal___string_string__L6 (a0 : (List (List UInt8))) (a1 : (List (List UInt8))) (kk3 : (Unit → Option Bool)) : Nat → Int → Option Bool
  | 0, _ => none
  | k5 + 1, l4i13 => (bif (decide (l4i13 < (a0.length : Int))) then (opt (at? a0 l4i13) fun (u8 : (List UInt8)) => (opt (at? a1 l4i13) fun (u11 : (List UInt8)) => (bif (!(u8 == u11)) then (some false) else (f_slices_Equal___string_string__L6 a0 a1 kk3 k5 (IntKind.i64.wrap (l4i13 + (1 : Int))))))) else (kk3 ()))
def f_slices_Equal___string_string_ (fu : Nat) (a0 : (List (List UInt8))) (a1 : (List (List UInt8))) : Option Bool := (bif ((a0.length : Int) != (a1.length : Int)) then (some false) else (lt (fun (_ : Unit) => (some true)) fun (kk3 : Unit → Option Bool) => (f_slices_Equal___string_string__L6 a0 a1 kk3 fu (0 : Int))))
set_option maxRecDepth 100000 in
theorem f_slices_Equal___string_string__ok (fu : Nat) (v0_0 : Value) (a0 : (List (List UInt8))) (v1_0 : Value) (a1 : (List (List UInt8))) {r : Bool} (h : f_slices_Equal___string_string_ fu a0 a1 = some r) : FnOk Try.prog 26 [v0_0, v1_0] [(fDat (tyList tyStr) [v0_0] a0), (fDat (tyList tyStr) [v1_0] a1)] [] (fun (i : Unit) => { val := (Value.bool r) }) := by
  unfold f_slices_Equal___string_string_ at h
  refine fn_enter Try.func26 rfl Try.ntmps26 rfl (fun w0 Z0 => ?_)
  refine aw_seq ?_
  refine aw_region ?_
  refine al_val (ov_assign rfl rfl) ?_
  refine al_nil ?_
  refine aq_then ?_
  refine aw_seq ?_
  refine aw_seq ?_
  refine aw_region ?_
  refine al_val (ov_move rfl rfl) ?_
  refine al_val (ov_lenD 0 rfl rfl Try.underlying37 rfl) ?_
  refine al_val (ov_move rfl rfl) ?_
  refine al_val (ov_lenD 1 rfl rfl Try.underlying37 rfl) ?_
  refine al_val (ov_int rfl rfl rfl rfl) ?_
  refine al_nil ?_
  refine aq_then ?_
  refine aw_cond rfl (fun hb1 => ?_) (fun hb1 => ?_)
  · replace h := bif_t hb1 h
    refine aw_seq ?_
    refine aw_region ?_
    refine al_val (ov_assign rfl rfl) ?_
    refine al_nil ?_
    refine aq_then ?_
    refine aw_ret ?_
    refine aq_then_ret ?_
    obtain rfl := Option.some.inj h
    exact fn_ret () [] [] rfl rfl rfl rfl (res1 rfl rfl) rfl rfl rfl (by decide)
  · replace h := bif_f hb1 h
    refine aw_skip ?_
    refine aq_then ?_
    obtain ⟨kk3, hkk3, h⟩ := lt_some h
    refine aw_seq_join (ι := Unit) (fun i => (memOf w0 Z0 [] [] [(fDat (tyList tyStr) [v0_0] a0), (fDat (tyList tyStr) [v1_0] a1)])) (fun i => (tab [])) (fun i => kk3 () = some r) ?_ ?_
    · rintro _ h
      have h : kk3 () = some r := h
      rw [hkk3] at h
      dsimp only at h
      clear hkk3
      refine aw_show (m := (memOf w0 Z0 [] [] [(fDat (tyList tyStr) [v0_0] a0), (fDat (tyList tyStr) [v1_0] a1)])) (S := (tab [])) ?_
      refine aw_seq ?_
      refine aw_region ?_
      refine al_val (ov_assign rfl rfl) ?_
      refine al_nil ?_
      refine aq_then ?_
      refine aw_ret ?_
      obtain rfl := Option.some.inj h
      exact fn_ret () [] [] rfl rfl rfl rfl (res1 rfl rfl) rfl rfl rfl (by decide)
    · clear hkk3
      refine aw_seq ?_
      refine aw_region ?_
      refine al_val (ov_move rfl rfl) ?_
      refine al_val (ov_lenD 0 rfl rfl Try.underlying37 rfl) ?_
      refine al_val (ov_move rfl rfl) ?_
      refine al_nil ?_
      refine aq_then ?_
      refine aw_block ?_
      refine aw_state (aw_loop (ι := Int) (fun i => (memOf w0 Z0 [] [] [(fDat (tyList tyStr) [v0_0] a0), (fDat (tyList tyStr) [v1_0] a1)])) (fun i => (tab [(0, v0_0), (1, v1_0), (12, (Value.int .i64 (a0.length : Int))), (13, (Value.int .i64 i))])) (fun q i => f_slices_Equal___string_string__L6 a0 a1 kk3 q i = some r) ?_ fu (0 : Int) h) (fun w a hm hs => norm hm hs [] [0, 1] [(0, v0_0), (1, v1_0), (12, (Value.int .i64 (a0.length : Int))), (13, (Value.int .i64 (0 : Int)))] (by decide) ⟨rfl, rfl, rfl, rfl, trivial⟩)
      clear h
      rintro k5 l4i13 h
      have h : f_slices_Equal___string_string__L6 a0 a1 kk3 k5 l4i13 = some r := h
      obtain _ | k5 := k5
      · rw [f_slices_Equal___string_string__L6] at h; cases h
      rw [f_slices_Equal___string_string__L6] at h
      refine aw_show (m := (memOf w0 Z0 [] [] [(fDat (tyList tyStr) [v0_0] a0), (fDat (tyList tyStr) [v1_0] a1)])) (S := (tab [(0, v0_0), (1, v1_0), (12, (Value.int .i64 (a0.length : Int))), (13, (Value.int .i64 l4i13))])) ?_
      refine aw_seq ?_
      refine aw_region ?_
      refine al_val (ov_int rfl rfl rfl rfl) ?_
      refine al_nil ?_
      refine aq_then ?_
      refine aw_seq ?_
      refine aw_cond rfl (fun hb7 => ?_) (fun hb7 => ?_)
      · replace h := bif_t hb7 h
        refine aw_skip ?_
        refine aq_then ?_
        refine aw_seq ?_
        refine aw_block ?_
        refine aw_seq ?_
        refine aw_region ?_
        refine al_val (ov_move rfl rfl) ?_
        refine al_val (ov_assign rfl rfl) ?_
        refine al_nil ?_
        refine aq_then ?_
        refine aw_seq ?_
        obtain ⟨u8, hu9, h⟩ := opt_some h
        obtain ⟨u11, hu12, h⟩ := opt_some h
        refine aw_region_draw 8 [(16, (fun u => fEq u v0_0)), (17, (fun u => fEq u (Value.int .i64 l4i13))), (18, (fun p10 => (fPtr tyStr p10 u8))), (19, (fun u => fEq u (str u8))), (20, (fun u => fEq u v1_0)), (21, (fun u => fEq u (Value.int .i64 l4i13))), (22, (fun p13 => (fPtr tyStr p13 u11))), (23, (fun u => fEq u (str u11)))] (tab [(0, v0_0), (1, v1_0), (5, (Value.int .i64 l4i13)), (12, (Value.int .i64 (a0.length : Int))), (13, (Value.int .i64 l4i13))]) mixed (by kernel_rfl) rfl rfl rfl (fun a hs => hs.tab _ (allT_mem ⟨rfl, rfl, rfl, rfl, rfl, trivial⟩)) ⟨⟨rfl, ld_val (ov_move rfl rfl)⟩, ⟨rfl, ld_val (ov_move rfl rfl)⟩, ⟨rfl, ld_eq (j := 0) rfl rfl (ld_eq (j := 1) rfl rfl (ld_of (of_idxD 0 hu9 rfl rfl rfl Try.underlying37 sz9 rfl)))⟩, ⟨rfl, ld_fact (j := 2) rfl rfl (fun p10 => ld_val (ov_loadP (ds := [(str u8)]) 0 rfl (fun h => h) rfl Try.underlying9 sz9 rfl rfl rfl))⟩, ⟨rfl, ld_val (ov_move rfl rfl)⟩, ⟨rfl, ld_val (ov_move rfl rfl)⟩, ⟨rfl, ld_eq (j := 4) rfl rfl (ld_eq (j := 5) rfl rfl (ld_of (of_idxD 1 hu12 rfl rfl rfl Try.underlying37 sz9 rfl)))⟩, ⟨rfl, ld_fact (j := 6) rfl rfl (fun p13 => ld_val (ov_loadP (ds := [(str u11)]) 0 rfl (fun h => h) rfl Try.underlying9 sz9 rfl rfl rfl))⟩, trivial⟩ ?_
        refine tl_eq 3 rfl ?_
        refine tl_eq 7 rfl ?_
        refine tl_done ?_
        refine al_val (ov_strCmp rfl rfl rfl rfl) ?_
        refine al_nil ?_
        refine aq_then ?_
        refine aw_cond rfl (fun hb14 => ?_) (fun hb14 => ?_)
        · replace h := bif_t hb14 h
          refine aw_seq ?_
          refine aw_region ?_
          refine al_val (ov_assign rfl rfl) ?_
          refine al_nil ?_
          refine aq_then ?_
          refine aw_ret ?_
          refine aq_block_ret ?_
          refine aq_then_ret ?_
          refine aq_then_ret ?_
          refine aq_block_ret ?_
          refine aq_then_ret ?_
          obtain rfl := Option.some.inj h
          exact fn_ret () [] [] rfl rfl rfl rfl (res1 rfl rfl) rfl rfl rfl (by decide)
        · replace h := bif_f hb14 h
          refine aw_skip ?_
          refine aq_block ?_
          refine aq_then ?_
          refine aw_region ?_
          refine al_val (ov_int rfl rfl rfl rfl) ?_
          refine al_val (ov_move rfl rfl) ?_
          refine al_nil ?_
          exact aq_again k5 (IntKind.i64.wrap (l4i13 + (1 : Int))) (Nat.lt_succ_self _) h (fun w a hm hs => norm hm hs [] [0, 1] [(0, v0_0), (1, v1_0), (12, (Value.int .i64 (a0.length : Int))), (13, (Value.int .i64 (IntKind.i64.wrap (l4i13 + (1 : Int)))))] (by decide) ⟨rfl, rfl, rfl, rfl, trivial⟩)
      · replace h := bif_f hb7 h
        refine aw_exit ?_
        refine aq_then_exit ?_
        refine aq_then_exit ?_
        refine aq_block_exit ?_
        exact aq_join () h (fun w a hm hs => norm hm hs [] [0, 1] [] (by decide) trivial)
def f_lumlaw_ChunkFeeds (fu : Nat) (a0 : S_api_Cut) (a1 : (List UInt8)) (a2 : (List UInt8)) : Option Bool := (opt (f_chunk_Feed fu a0 a1 a2) fun (r3 : ((List (List UInt8)) × (List UInt8) × Int)) => (opt (f_lumref_CutOK fu a0) fun (r6 : Int) => (bif (r6 != (0 : Int)) then (lt (fun (j8b6 : Bool) => (some j8b6)) fun (kk9 : Bool → Option Bool) => (bif ((r3.1.length : Int) == (0 : Int)) then (bif (r3.2.1 == ([] : List UInt8)) then (kk9 (r3.2.2 == (1 : Int))) else (kk9 false)) else (kk9 false))) else (lt (fun (j12b44 : Bool) => (bif j12b44 then (lt (fun (j15b6 : Bool) => (some j15b6)) fun (kk16 : Bool → Option Bool) => (bif ((r3.1.length : Int) == (0 : Int)) then (bif (r3.2.1 == ([] : List UInt8)) then (kk16 (r3.2.2 == (2 : Int))) else (kk16 false)) else (kk16 false))) else (req (a1.length + a2.length ≤ 9223372036854775807) (opt (f_lumref_Pieces fu a0 (a1 ++ a2)) fun (r21 : ((List (List UInt8)) × (List UInt8))) => (lt (fun (j23b6 : Bool) => (some j23b6)) fun (kk24 : Bool → Option Bool) => (bif (r3.2.2 == (0 : Int)) then (opt (f_slices_Equal___string_string_ fu r3.1 r21.1) fun (r27 : Bool) => (bif r27 then (kk24 (r3.2.1 == r21.2)) else (kk24 false))) else (kk24 false))))))) fun (kk13 : Bool → Option Bool) => (bif (decide ((a1.length : Int) > (4096 : Int))) then (kk13 true) else (kk13 (decide ((a2.length : Int) > (IntKind.i64.wrap ((4096 : Int) - (a1.length : Int)))))))))))
set_option maxRecDepth 100000 in
theorem f_lumlaw_ChunkFeeds_ok (fu : Nat) (a0 : S_api_Cut) (a1 : (List UInt8)) (a2 : (List UInt8)) {r : Bool} (h : f_lumlaw_ChunkFeeds fu a0 a1 a2 = some r) : FnOk Try.prog 4 [(ag [(Value.int .i64 a0.Min), (Value.int .i64 a0.Max), (Value.int .i64 a0.Bits)]), (str a1), (str a2)] [] [] (fun (i : Unit) => { val := (Value.bool r) }) := by
  unfold f_lumlaw_ChunkFeeds at h
  refine fn_enter Try.func4 rfl Try.ntmps4 rfl (fun w0 Z0 => ?_)
  refine aw_seq ?_
  refine aw_region ?_
  refine al_box (vs := [(Value.int .i64 a0.Min), (Value.int .i64 a0.Max), (Value.int .i64 a0.Bits)]) rfl (cv_rfl rfl) rfl (fun g1 => ?_)
  refine al_val (ov_assign rfl rfl) ?_
  refine al_nil ?_
  refine aq_then ?_
  refine aw_seq ?_
  refine aw_region ?_
  refine al_val (ov_load (i := 0) (v := (ag [(Value.int .i64 a0.Min), (Value.int .i64 a0.Max), (Value.int .i64 a0.Bits)])) rfl rfl Try.underlying36 sz36 rfl rfl rfl rfl) ?_
  refine al_val (ov_move rfl rfl) ?_
  refine al_val (ov_move rfl rfl) ?_
  obtain ⟨r3, hc2, h⟩ := opt_some h
  refine al_call (vs := [(ag [(Value.int .i64 a0.Min), (Value.int .i64 a0.Max), (Value.int .i64 a0.Bits)]), (str a1), (str a2)]) (f_chunk_Feed_ok fu a0 a1 a2 hc2) [] [] [0] pre_nil rfl (by simp) (by decide) (.inl rfl) rfl Try.func23 rfl rfl rfl (fun v4 => ?_)
  refine al_val (ov_move rfl rfl) ?_
  refine al_val (ov_extract rfl rfl rfl) ?_
  refine al_val (ov_extract rfl rfl rfl) ?_
  refine al_val (ov_extract rfl rfl rfl) ?_
  refine al_val (ov_assign rfl rfl) ?_
  refine al_val (ov_assign rfl rfl) ?_
  refine al_val (ov_assign rfl rfl) ?_
  refine al_nil ?_
  refine aq_then ?_
  refine aw_seq ?_
  refine aw_seq ?_
  refine aw_region ?_
  refine al_val (ov_load (i := 1) (v := (ag [(Value.int .i64 a0.Min), (Value.int .i64 a0.Max), (Value.int .i64 a0.Bits)])) rfl rfl Try.underlying36 sz36 rfl rfl rfl rfl) ?_
  obtain ⟨r6, hc5, h⟩ := opt_some h
  refine al_call (vs := [(ag [(Value.int .i64 a0.Min), (Value.int .i64 a0.Max), (Value.int .i64 a0.Bits)])]) (f_lumref_CutOK_ok fu a0 hc5) [] [] [0, 1] pre_nil rfl (by simp) (by decide) (.inl rfl) rfl Try.func24 rfl rfl rfl (fun _ => ?_)
  refine al_val (ov_int rfl rfl rfl rfl) ?_
  refine al_nil ?_
  refine aq_then ?_
  refine aw_cond rfl (fun hb7 => ?_) (fun hb7 => ?_)
  · replace h := bif_t hb7 h
    obtain ⟨kk9, hkk9, h⟩ := lt_some h
    refine aw_seq_join (ι := Bool) (fun i => (memOf w0 Z0 [] [] [])) (fun i => (tab [(6, (Value.bool i))])) (fun i => kk9 i = some r) ?_ ?_
    · rintro j8b6 h
      have h : kk9 j8b6 = some r := h
      rw [hkk9] at h
      dsimp only at h
      clear hkk9
      refine aw_show (m := (memOf w0 Z0 [] [] [])) (S := (tab [(6, (Value.bool j8b6))])) ?_
      refine aw_ret ?_
      refine aq_then_ret ?_
      obtain rfl := Option.some.inj h
      exact fn_ret () [] [] rfl rfl rfl rfl (res1 rfl rfl) rfl rfl rfl (by decide)
    · clear hkk9
      refine aw_region ?_
      refine al_val (ov_move rfl rfl) ?_
      refine al_val (ov_lenR 0 rfl rfl Try.underlying37 rfl) ?_
      refine al_val (ov_int rfl rfl rfl rfl) ?_
      refine al_val (ov_move rfl rfl) ?_
      refine al_caseB 26 rfl (fun hb10 => ?_) (fun hb10 => ?_)
      · replace h := bif_t hb10 h
        refine al_val (ov_move rfl rfl) ?_
        refine al_val (ov_strCmp rfl rfl rfl rfl) ?_
        refine al_val (ov_pick_t rfl rfl rfl) ?_
        refine al_val (ov_move rfl rfl) ?_
        refine al_caseB 30 rfl (fun hb11 => ?_) (fun hb11 => ?_)
        · replace h := bif_t hb11 h
          refine al_val (ov_move rfl rfl) ?_
          refine al_val (ov_int rfl rfl rfl rfl) ?_
          refine al_val (ov_pick_t rfl rfl rfl) ?_
          refine al_val (ov_assign rfl rfl) ?_
          refine al_nil ?_
          exact aq_join (r3.2.2 == (1 : Int)) h (fun w a hm hs => norm hm hs [] [] [(6, (Value.bool (r3.2.2 == (1 : Int))))] (by decide) ⟨rfl, trivial⟩)
        · replace h := bif_f hb11 h
          refine al_skip ?_
          refine al_skip ?_
          refine al_val (ov_pick_f rfl rfl rfl) ?_
          refine al_val (ov_assign rfl rfl) ?_
          refine al_nil ?_
          exact aq_join false h (fun w a hm hs => norm hm hs [] [] [(6, (Value.bool false))] (by decide) ⟨rfl, trivial⟩)
      · replace h := bif_f hb10 h
        refine al_skip ?_
        refine al_skip ?_
        refine al_val (ov_pick_f rfl rfl rfl) ?_
        refine al_val (ov_move rfl rfl) ?_
        refine al_skip ?_
        refine al_skip ?_
        refine al_val (ov_pick_f rfl rfl rfl) ?_
        refine al_val (ov_assign rfl rfl) ?_
        refine al_nil ?_
        exact aq_join false h (fun w a hm hs => norm hm hs [] [] [(6, (Value.bool false))] (by decide) ⟨rfl, trivial⟩)
  · replace h := bif_f hb7 h
    refine aw_skip ?_
    refine aq_then ?_
    refine aw_seq ?_
    obtain ⟨kk13, hkk13, h⟩ := lt_some h
    refine aw_seq_join (ι := Bool) (fun i => (memOf w0 Z0 [] [(oBox g1 36 [(Value.int .i64 a0.Min), (Value.int .i64 a0.Max), (Value.int .i64 a0.Bits)]), (oRow v4 9 tyStr r3.1)] [])) (fun i => (tab [(1, (str a1)), (2, (str a2)), (3, (ptr g1 0)), (7, v4), (8, (str r3.2.1)), (9, (Value.int .i64 r3.2.2)), (44, (Value.bool i))])) (fun i => kk13 i = some r) ?_ ?_
    · rintro j12b44 h
      have h : kk13 j12b44 = some r := h
      rw [hkk13] at h
      dsimp only at h
      clear hkk13
      refine aw_show (m := (memOf w0 Z0 [] [(oBox g1 36 [(Value.int .i64 a0.Min), (Value.int .i64 a0.Max), (Value.int .i64 a0.Bits)]), (oRow v4 9 tyStr r3.1)] [])) (S := (tab [(1, (str a1)), (2, (str a2)), (3, (ptr g1 0)), (7, v4), (8, (str r3.2.1)), (9, (Value.int .i64 r3.2.2)), (44, (Value.bool j12b44))])) ?_
      refine aw_cond rfl (fun hb14 => ?_) (fun hb14 => ?_)
      · replace h := bif_t hb14 h
        obtain ⟨kk16, hkk16, h⟩ := lt_some h
        refine aw_seq_join (ι := Bool) (fun i => (memOf w0 Z0 [] [] [])) (fun i => (tab [(6, (Value.bool i))])) (fun i => kk16 i = some r) ?_ ?_
        · rintro j15b6 h
          have h : kk16 j15b6 = some r := h
          rw [hkk16] at h
          dsimp only at h
          clear hkk16
          refine aw_show (m := (memOf w0 Z0 [] [] [])) (S := (tab [(6, (Value.bool j15b6))])) ?_
          refine aw_ret ?_
          refine aq_then_ret ?_
          obtain rfl := Option.some.inj h
          exact fn_ret () [] [] rfl rfl rfl rfl (res1 rfl rfl) rfl rfl rfl (by decide)
        · clear hkk16
          refine aw_region ?_
          refine al_val (ov_move rfl rfl) ?_
          refine al_val (ov_lenR 1 rfl rfl Try.underlying37 rfl) ?_
          refine al_val (ov_int rfl rfl rfl rfl) ?_
          refine al_val (ov_move rfl rfl) ?_
          refine al_caseB 48 rfl (fun hb17 => ?_) (fun hb17 => ?_)
          · replace h := bif_t hb17 h
            refine al_val (ov_move rfl rfl) ?_
            refine al_val (ov_strCmp rfl rfl rfl rfl) ?_
            refine al_val (ov_pick_t rfl rfl rfl) ?_
            refine al_val (ov_move rfl rfl) ?_
            refine al_caseB 52 rfl (fun hb18 => ?_) (fun hb18 => ?_)
            · replace h := bif_t hb18 h
              refine al_val (ov_move rfl rfl) ?_
              refine al_val (ov_int rfl rfl rfl rfl) ?_
              refine al_val (ov_pick_t rfl rfl rfl) ?_
              refine al_val (ov_assign rfl rfl) ?_
              refine al_nil ?_
              exact aq_join (r3.2.2 == (2 : Int)) h (fun w a hm hs => norm hm hs [] [] [(6, (Value.bool (r3.2.2 == (2 : Int))))] (by decide) ⟨rfl, trivial⟩)
            · replace h := bif_f hb18 h
              refine al_skip ?_
              refine al_skip ?_
              refine al_val (ov_pick_f rfl rfl rfl) ?_
              refine al_val (ov_assign rfl rfl) ?_
              refine al_nil ?_
              exact aq_join false h (fun w a hm hs => norm hm hs [] [] [(6, (Value.bool false))] (by decide) ⟨rfl, trivial⟩)
          · replace h := bif_f hb17 h
            refine al_skip ?_
            refine al_skip ?_
            refine al_val (ov_pick_f rfl rfl rfl) ?_
            refine al_val (ov_move rfl rfl) ?_
            refine al_skip ?_
            refine al_skip ?_
            refine al_val (ov_pick_f rfl rfl rfl) ?_
            refine al_val (ov_assign rfl rfl) ?_
            refine al_nil ?_
            exact aq_join false h (fun w a hm hs => norm hm hs [] [] [(6, (Value.bool false))] (by decide) ⟨rfl, trivial⟩)
      · replace h := bif_f hb14 h
        refine aw_skip ?_
        refine aq_then ?_
        refine aw_seq ?_
        refine aw_region ?_
        refine al_val (ov_load (i := 0) (v := (ag [(Value.int .i64 a0.Min), (Value.int .i64 a0.Max), (Value.int .i64 a0.Bits)])) rfl rfl Try.underlying36 sz36 rfl rfl rfl rfl) ?_
        refine al_val (ov_move rfl rfl) ?_
        refine al_val (ov_move rfl rfl) ?_
        obtain ⟨hc19, h⟩ := req_some h
        refine al_val (ov_strAdd hc19 rfl rfl rfl) ?_
        obtain ⟨r21, hc20, h⟩ := opt_some h
        refine al_call (vs := [(ag [(Value.int .i64 a0.Min), (Value.int .i64 a0.Max), (Value.int .i64 a0.Bits)]), (str (a1 ++ a2))]) (f_lumref_Pieces_ok fu a0 (a1 ++ a2) hc20) [] [] [0, 1] pre_nil rfl (by simp) (by decide) (.inl rfl) rfl Try.func25 rfl rfl rfl (fun v22 => ?_)
        refine al_val (ov_move rfl rfl) ?_
        refine al_val (ov_extract rfl rfl rfl) ?_
        refine al_val (ov_extract rfl rfl rfl) ?_
        refine al_val (ov_assign rfl rfl) ?_
        refine al_val (ov_assign rfl rfl) ?_
        refine al_nil ?_
        refine aq_then ?_
        obtain ⟨kk24, hkk24, h⟩ := lt_some h
        refine aw_seq_join (ι := Bool) (fun i => (memOf w0 Z0 [] [] [])) (fun i => (tab [(6, (Value.bool i))])) (fun i => kk24 i = some r) ?_ ?_
        · rintro j23b6 h
          have h : kk24 j23b6 = some r := h
          rw [hkk24] at h
          dsimp only at h
          clear hkk24
          refine aw_show (m := (memOf w0 Z0 [] [] [])) (S := (tab [(6, (Value.bool j23b6))])) ?_
          refine aw_ret ?_
          obtain rfl := Option.some.inj h
          exact fn_ret () [] [] rfl rfl rfl rfl (res1 rfl rfl) rfl rfl rfl (by decide)
        · clear hkk24
          refine aw_region ?_
          refine al_val (ov_move rfl rfl) ?_
          refine al_val (ov_int rfl rfl rfl rfl) ?_
          refine al_val (ov_move rfl rfl) ?_
          refine al_caseB 66 rfl (fun hb25 => ?_) (fun hb25 => ?_)
          · replace h := bif_t hb25 h
            refine al_val (ov_move rfl rfl) ?_
            refine al_val (ov_move rfl rfl) ?_
            obtain ⟨r27, hc26, h⟩ := opt_some h
            refine al_call (vs := [v4, v22]) (f_slices_Equal___string_string__ok fu v4 r3.1 v22 r21.1 hc26) [0, 2] [] [0, 1, 2] (pre_own 2 rfl rfl (pre_own 0 rfl rfl pre_nil)) rfl (by simp) (by decide) (.inr flat_res0) rfl Try.func26 rfl rfl rfl (fun _ => ?_)
            refine al_val (ov_pick_t rfl rfl rfl) ?_
            refine al_val (ov_move rfl rfl) ?_
            refine al_caseB 71 rfl (fun hb28 => ?_) (fun hb28 => ?_)
            · replace h := bif_t hb28 h
              refine al_val (ov_move rfl rfl) ?_
              refine al_val (ov_move rfl rfl) ?_
              refine al_val (ov_strCmp rfl rfl rfl rfl) ?_
              refine al_val (ov_pick_t rfl rfl rfl) ?_
              refine al_val (ov_assign rfl rfl) ?_
              refine al_nil ?_
              exact aq_join (r3.2.1 == r21.2) h (fun w a hm hs => norm hm hs [] [] [(6, (Value.bool (r3.2.1 == r21.2)))] (by decide) ⟨rfl, trivial⟩)
            · replace h := bif_f hb28 h
              refine al_skip ?_
              refine al_skip ?_
              refine al_skip ?_
              refine al_val (ov_pick_f rfl rfl rfl) ?_
              refine al_val (ov_assign rfl rfl) ?_
              refine al_nil ?_
              exact aq_join false h (fun w a hm hs => norm hm hs [] [] [(6, (Value.bool false))] (by decide) ⟨rfl, trivial⟩)
          · replace h := bif_f hb25 h
            refine al_skip ?_
            refine al_skip ?_
            refine al_skip ?_
            refine al_val (ov_pick_f rfl rfl rfl) ?_
            refine al_val (ov_move rfl rfl) ?_
            refine al_skip ?_
            refine al_skip ?_
            refine al_skip ?_
            refine al_val (ov_pick_f rfl rfl rfl) ?_
            refine al_val (ov_assign rfl rfl) ?_
            refine al_nil ?_
            exact aq_join false h (fun w a hm hs => norm hm hs [] [] [(6, (Value.bool false))] (by decide) ⟨rfl, trivial⟩)
    · clear hkk13
      refine aw_region ?_
      refine al_val (ov_move rfl rfl) ?_
      refine al_val (ov_strLen Try.underlying9 rfl rfl) ?_
      refine al_val (ov_int rfl rfl rfl rfl) ?_
      refine al_val (ov_move rfl rfl) ?_
      refine al_caseB 37 rfl (fun hb29 => ?_) (fun hb29 => ?_)
      · replace h := bif_t hb29 h
        refine al_skip ?_
        refine al_skip ?_
        refine al_skip ?_
        refine al_skip ?_
        refine al_skip ?_
        refine al_skip ?_
        refine al_val (ov_pick_t rfl rfl rfl) ?_
        refine al_nil ?_
        exact aq_join true h (fun w a hm hs => norm hm hs [1, 0] [] [(1, (str a1)), (2, (str a2)), (3, (ptr g1 0)), (7, v4), (8, (str r3.2.1)), (9, (Value.int .i64 r3.2.2)), (44, (Value.bool true))] (by decide) ⟨rfl, rfl, rfl, rfl, rfl, rfl, rfl, trivial⟩)
      · replace h := bif_f hb29 h
        refine al_val (ov_move rfl rfl) ?_
        refine al_val (ov_strLen Try.underlying9 rfl rfl) ?_
        refine al_val (ov_move rfl rfl) ?_
        refine al_val (ov_strLen Try.underlying9 rfl rfl) ?_
        refine al_val (ov_int rfl rfl rfl rfl) ?_
        refine al_val (ov_int rfl rfl rfl rfl) ?_
        refine al_val (ov_pick_f rfl rfl rfl) ?_
        refine al_nil ?_
        exact aq_join (decide ((a2.length : Int) > (IntKind.i64.wrap ((4096 : Int) - (a1.length : Int))))) h (fun w a hm hs => norm hm hs [1, 0] [] [(1, (str a1)), (2, (str a2)), (3, (ptr g1 0)), (7, v4), (8, (str r3.2.1)), (9, (Value.int .i64 r3.2.2)), (44, (Value.bool (decide ((a2.length : Int) > (IntKind.i64.wrap ((4096 : Int) - (a1.length : Int)))))))] (by decide) ⟨rfl, rfl, rfl, rfl, rfl, rfl, rfl, trivial⟩)
end Go.Proofs.Ytaoopodaalhheaa
