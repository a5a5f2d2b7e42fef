/- Walks by program. No condition. -/
import Derived.Test.YtjbgahmcobcojaaEn19
import Derived.Test.YtjbgahmcobcojaaChecked
namespace Go.Proofs.Ytjbgahmcobcojaa
open Go.RowKit Ytjbgahmcobcojaa.En
set_option linter.unusedVariables false
set_option linter.unusedSimpArgs false
structure A4u32 where
  e0 : Int
  e1 : Int
  e2 : Int
  e3 : Int
  deriving DecidableEq
def tyA4u32 : Ty A4u32 := tyVia (fun x => (x.e0, (x.e1, (x.e2, x.e3)))) (tyPair (tyInt .u32) (tyPair (tyInt .u32) (tyPair (tyInt .u32) (tyInt .u32))))
theorem subA4u32_0 : Sub tyA4u32 0 (tyInt .u32) (fun x => x.e0) := Sub.via (Sub.fst (Sub.whole _))
theorem subA4u32_1 : Sub tyA4u32 1 (tyInt .u32) (fun x => x.e1) := Sub.via (Sub.snd (Sub.fst (Sub.whole _)))
theorem subA4u32_2 : Sub tyA4u32 2 (tyInt .u32) (fun x => x.e2) := Sub.via (Sub.snd (Sub.snd (Sub.fst (Sub.whole _))))
theorem subA4u32_3 : Sub tyA4u32 3 (tyInt .u32) (fun x => x.e3) := Sub.via (Sub.snd (Sub.snd (Sub.snd (Sub.whole _))))
def cA4u32 (x : A4u32) : List Value := [(Value.int .u32 x.e0), (Value.int .u32 x.e1), (Value.int .u32 x.e2), (Value.int .u32 x.e3)]
def lA4u32 (x : A4u32) : List Int := [x.e0, x.e1, x.e2, x.e3]
def vA4u32 (y : Int) : Value := (Value.int .u32 y)
def setA4u32 (x : A4u32) (j : Int) (y : Int) : A4u32 := ⟨if j = 0 then y else x.e0, if j = 1 then y else x.e1, if j = 2 then y else x.e2, if j = 3 then y else x.e3⟩
theorem oneA4u32 (x : A4u32) : ∀ u ∈ cA4u32 x, u.oneCell' = true := ones_map (enc := vA4u32) (xs := lA4u32 x) (fun _ => rfl)
theorem lenA4u32 (x : A4u32) : (lA4u32 x).length = 4 := rfl
theorem lsetA4u32 {x : A4u32} {j : Int} {y : Int} (h0 : 0 ≤ j) (h1 : j < 4) : lA4u32 (setA4u32 x j y) = (lA4u32 x).set j.toNat y := by
  obtain ⟨q, rfl⟩ : ∃ q : Nat, j = q := ⟨j.toNat, by omega⟩
  match q, h1 with
  | 0, _ => rfl
  | 1, _ => rfl
  | 2, _ => rfl
  | 3, _ => rfl
  | n + 4, h => omega
theorem csetA4u32 {x : A4u32} {j : Int} {y : Int} (h0 : 0 ≤ j) (h1 : j < 4) (pre post : List Value) : pre ++ (cA4u32 (setA4u32 x j y) ++ post) = (pre ++ (cA4u32 x ++ post)).set (pre.length + j.toNat) (vA4u32 y) := by
  have h : cA4u32 (setA4u32 x j y) = (cA4u32 x).set j.toNat (vA4u32 y) := by
    have e : ∀ z : A4u32, cA4u32 z = (lA4u32 z).map vA4u32 := fun _ => rfl
    rw [e, e, lsetA4u32 h0 h1, List.map_set]
  rw [h, List.set_append_right _ _ (by omega), Nat.add_sub_cancel_left, List.set_append_left _ _ (by show j.toNat < 4; omega)]
theorem flatA4u32 : FlatTy tyA4u32 := flat_via (flat_pair flat_enc (flat_pair flat_enc (flat_pair flat_enc flat_enc)))
theorem encA4u32 {Z w cs} {x : A4u32} (h : tyA4u32.rep Z w cs x) : cs = (cA4u32 x) := by
  obtain ⟨c0, d0, rfl, p0, q0⟩ := h
  obtain ⟨c1, d1, rfl, p1, q1⟩ := q0
  obtain ⟨c2, d2, rfl, p2, q2⟩ := q1
  rw [show _ = _ from p0]
  rw [show _ = _ from p1]
  rw [show _ = _ from p2]
  rw [show _ = _ from q2]
  rfl
theorem mkA4u32 {Z w cs} {x : A4u32} (h : cs = (cA4u32 x)) : tyA4u32.rep Z w cs x := by
  subst h
  exact ⟨_, _, (List.take_append_drop 1 _).symm, rfl, ⟨_, _, (List.take_append_drop 1 _).symm, rfl, ⟨_, _, (List.take_append_drop 1 _).symm, rfl, rfl⟩⟩⟩
theorem lrepA4u32 {Z w cs} {x : A4u32} (h : tyA4u32.rep Z w cs x) : RepL (tyInt .u32) Z w cs (lA4u32 x) := by
  rw [encA4u32 h]
  exact ⟨[_], _, rfl, rfl, ⟨[_], _, rfl, rfl, ⟨[_], _, rfl, rfl, ⟨[_], _, rfl, rfl, rfl⟩⟩⟩⟩
structure A8u8 where
  e0 : UInt8
  e1 : UInt8
  e2 : UInt8
  e3 : UInt8
  e4 : UInt8
  e5 : UInt8
  e6 : UInt8
  e7 : UInt8
  deriving DecidableEq
def tyA8u8 : Ty A8u8 := tyVia (fun x => (x.e0, (x.e1, (x.e2, (x.e3, (x.e4, (x.e5, (x.e6, x.e7)))))))) (tyPair tyU8 (tyPair tyU8 (tyPair tyU8 (tyPair tyU8 (tyPair tyU8 (tyPair tyU8 (tyPair tyU8 tyU8)))))))
theorem subA8u8_0 : Sub tyA8u8 0 tyU8 (fun x => x.e0) := Sub.via (Sub.fst (Sub.whole _))
theorem subA8u8_1 : Sub tyA8u8 1 tyU8 (fun x => x.e1) := Sub.via (Sub.snd (Sub.fst (Sub.whole _)))
theorem subA8u8_2 : Sub tyA8u8 2 tyU8 (fun x => x.e2) := Sub.via (Sub.snd (Sub.snd (Sub.fst (Sub.whole _))))
theorem subA8u8_3 : Sub tyA8u8 3 tyU8 (fun x => x.e3) := Sub.via (Sub.snd (Sub.snd (Sub.snd (Sub.fst (Sub.whole _)))))
theorem subA8u8_4 : Sub tyA8u8 4 tyU8 (fun x => x.e4) := Sub.via (Sub.snd (Sub.snd (Sub.snd (Sub.snd (Sub.fst (Sub.whole _))))))
theorem subA8u8_5 : Sub tyA8u8 5 tyU8 (fun x => x.e5) := Sub.via (Sub.snd (Sub.snd (Sub.snd (Sub.snd (Sub.snd (Sub.fst (Sub.whole _)))))))
theorem subA8u8_6 : Sub tyA8u8 6 tyU8 (fun x => x.e6) := Sub.via (Sub.snd (Sub.snd (Sub.snd (Sub.snd (Sub.snd (Sub.snd (Sub.fst (Sub.whole _))))))))
theorem subA8u8_7 : Sub tyA8u8 7 tyU8 (fun x => x.e7) := Sub.via (Sub.snd (Sub.snd (Sub.snd (Sub.snd (Sub.snd (Sub.snd (Sub.snd (Sub.whole _))))))))
def cA8u8 (x : A8u8) : List Value := [(Value.int .u8 (x.e0.toNat : Int)), (Value.int .u8 (x.e1.toNat : Int)), (Value.int .u8 (x.e2.toNat : Int)), (Value.int .u8 (x.e3.toNat : Int)), (Value.int .u8 (x.e4.toNat : Int)), (Value.int .u8 (x.e5.toNat : Int)), (Value.int .u8 (x.e6.toNat : Int)), (Value.int .u8 (x.e7.toNat : Int))]
def lA8u8 (x : A8u8) : List UInt8 := [x.e0, x.e1, x.e2, x.e3, x.e4, x.e5, x.e6, x.e7]
def vA8u8 (y : UInt8) : Value := (Value.int .u8 (y.toNat : Int))
def setA8u8 (x : A8u8) (j : Int) (y : UInt8) : A8u8 := ⟨if j = 0 then y else x.e0, if j = 1 then y else x.e1, if j = 2 then y else x.e2, if j = 3 then y else x.e3, if j = 4 then y else x.e4, if j = 5 then y else x.e5, if j = 6 then y else x.e6, if j = 7 then y else x.e7⟩
theorem oneA8u8 (x : A8u8) : ∀ u ∈ cA8u8 x, u.oneCell' = true := ones_map (enc := vA8u8) (xs := lA8u8 x) (fun _ => rfl)
theorem lenA8u8 (x : A8u8) : (lA8u8 x).length = 8 := rfl
theorem lsetA8u8 {x : A8u8} {j : Int} {y : UInt8} (h0 : 0 ≤ j) (h1 : j < 8) : lA8u8 (setA8u8 x j y) = (lA8u8 x).set j.toNat y := by
  obtain ⟨q, rfl⟩ : ∃ q : Nat, j = q := ⟨j.toNat, by omega⟩
  match q, h1 with
  | 0, _ => rfl
  | 1, _ => rfl
  | 2, _ => rfl
  | 3, _ => rfl
  | 4, _ => rfl
  | 5, _ => rfl
  | 6, _ => rfl
  | 7, _ => rfl
  | n + 8, h => omega
theorem csetA8u8 {x : A8u8} {j : Int} {y : UInt8} (h0 : 0 ≤ j) (h1 : j < 8) (pre post : List Value) : pre ++ (cA8u8 (setA8u8 x j y) ++ post) = (pre ++ (cA8u8 x ++ post)).set (pre.length + j.toNat) (vA8u8 y) := by
  have h : cA8u8 (setA8u8 x j y) = (cA8u8 x).set j.toNat (vA8u8 y) := by
    have e : ∀ z : A8u8, cA8u8 z = (lA8u8 z).map vA8u8 := fun _ => rfl
    rw [e, e, lsetA8u8 h0 h1, List.map_set]
  rw [h, List.set_append_right _ _ (by omega), Nat.add_sub_cancel_left, List.set_append_left _ _ (by show j.toNat < 8; omega)]
theorem flatA8u8 : FlatTy tyA8u8 := flat_via (flat_pair flat_enc (flat_pair flat_enc (flat_pair flat_enc (flat_pair flat_enc (flat_pair flat_enc (flat_pair flat_enc (flat_pair flat_enc flat_enc)))))))
theorem encA8u8 {Z w cs} {x : A8u8} (h : tyA8u8.rep Z w cs x) : cs = (cA8u8 x) := by
  obtain ⟨c0, d0, rfl, p0, q0⟩ := h
  obtain ⟨c1, d1, rfl, p1, q1⟩ := q0
  obtain ⟨c2, d2, rfl, p2, q2⟩ := q1
  obtain ⟨c3, d3, rfl, p3, q3⟩ := q2
  obtain ⟨c4, d4, rfl, p4, q4⟩ := q3
  obtain ⟨c5, d5, rfl, p5, q5⟩ := q4
  obtain ⟨c6, d6, rfl, p6, q6⟩ := q5
  rw [show _ = _ from p0]
  rw [show _ = _ from p1]
  rw [show _ = _ from p2]
  rw [show _ = _ from p3]
  rw [show _ = _ from p4]
  rw [show _ = _ from p5]
  rw [show _ = _ from p6]
  rw [show _ = _ from q6]
  rfl
theorem mkA8u8 {Z w cs} {x : A8u8} (h : cs = (cA8u8 x)) : tyA8u8.rep Z w cs x := by
  subst h
  exact ⟨_, _, (List.take_append_drop 1 _).symm, rfl, ⟨_, _, (List.take_append_drop 1 _).symm, rfl, ⟨_, _, (List.take_append_drop 1 _).symm, rfl, ⟨_, _, (List.take_append_drop 1 _).symm, rfl, ⟨_, _, (List.take_append_drop 1 _).symm, rfl, ⟨_, _, (List.take_append_drop 1 _).symm, rfl, ⟨_, _, (List.take_append_drop 1 _).symm, rfl, rfl⟩⟩⟩⟩⟩⟩⟩
theorem lrepA8u8 {Z w cs} {x : A8u8} (h : tyA8u8.rep Z w cs x) : RepL tyU8 Z w cs (lA8u8 x) := by
  rw [encA8u8 h]
  exact ⟨[_], _, rfl, rfl, ⟨[_], _, rfl, rfl, ⟨[_], _, rfl, rfl, ⟨[_], _, rfl, rfl, ⟨[_], _, rfl, rfl, ⟨[_], _, rfl, rfl, ⟨[_], _, rfl, rfl, ⟨[_], _, rfl, rfl, rfl⟩⟩⟩⟩⟩⟩⟩⟩
structure A16u64 where
  e0 : Int
  e1 : Int
  e2 : Int
  e3 : Int
  e4 : Int
  e5 : Int
  e6 : Int
  e7 : Int
  e8 : Int
  e9 : Int
  e10 : Int
  e11 : Int
  e12 : Int
  e13 : Int
  e14 : Int
  e15 : Int
  deriving DecidableEq
def tyA16u64 : Ty A16u64 := tyVia (fun x => (x.e0, (x.e1, (x.e2, (x.e3, (x.e4, (x.e5, (x.e6, (x.e7, (x.e8, (x.e9, (x.e10, (x.e11, (x.e12, (x.e13, (x.e14, x.e15)))))))))))))))) (tyPair (tyInt .u64) (tyPair (tyInt .u64) (tyPair (tyInt .u64) (tyPair (tyInt .u64) (tyPair (tyInt .u64) (tyPair (tyInt .u64) (tyPair (tyInt .u64) (tyPair (tyInt .u64) (tyPair (tyInt .u64) (tyPair (tyInt .u64) (tyPair (tyInt .u64) (tyPair (tyInt .u64) (tyPair (tyInt .u64) (tyPair (tyInt .u64) (tyPair (tyInt .u64) (tyInt .u64))))))))))))))))
theorem subA16u64_0 : Sub tyA16u64 0 (tyInt .u64) (fun x => x.e0) := Sub.via (Sub.fst (Sub.whole _))
theorem subA16u64_1 : Sub tyA16u64 1 (tyInt .u64) (fun x => x.e1) := Sub.via (Sub.snd (Sub.fst (Sub.whole _)))
theorem subA16u64_2 : Sub tyA16u64 2 (tyInt .u64) (fun x => x.e2) := Sub.via (Sub.snd (Sub.snd (Sub.fst (Sub.whole _))))
theorem subA16u64_3 : Sub tyA16u64 3 (tyInt .u64) (fun x => x.e3) := Sub.via (Sub.snd (Sub.snd (Sub.snd (Sub.fst (Sub.whole _)))))
theorem subA16u64_4 : Sub tyA16u64 4 (tyInt .u64) (fun x => x.e4) := Sub.via (Sub.snd (Sub.snd (Sub.snd (Sub.snd (Sub.fst (Sub.whole _))))))
theorem subA16u64_5 : Sub tyA16u64 5 (tyInt .u64) (fun x => x.e5) := Sub.via (Sub.snd (Sub.snd (Sub.snd (Sub.snd (Sub.snd (Sub.fst (Sub.whole _)))))))
theorem subA16u64_6 : Sub tyA16u64 6 (tyInt .u64) (fun x => x.e6) := Sub.via (Sub.snd (Sub.snd (Sub.snd (Sub.snd (Sub.snd (Sub.snd (Sub.fst (Sub.whole _))))))))
theorem subA16u64_7 : Sub tyA16u64 7 (tyInt .u64) (fun x => x.e7) := Sub.via (Sub.snd (Sub.snd (Sub.snd (Sub.snd (Sub.snd (Sub.snd (Sub.snd (Sub.fst (Sub.whole _)))))))))
theorem subA16u64_8 : Sub tyA16u64 8 (tyInt .u64) (fun x => x.e8) := Sub.via (Sub.snd (Sub.snd (Sub.snd (Sub.snd (Sub.snd (Sub.snd (Sub.snd (Sub.snd (Sub.fst (Sub.whole _))))))))))
theorem subA16u64_9 : Sub tyA16u64 9 (tyInt .u64) (fun x => x.e9) := Sub.via (Sub.snd (Sub.snd (Sub.snd (Sub.snd (Sub.snd (Sub.snd (Sub.snd (Sub.snd (Sub.snd (Sub.fst (Sub.whole _)))))))))))
theorem subA16u64_10 : Sub tyA16u64 10 (tyInt .u64) (fun x => x.e10) := Sub.via (Sub.snd (Sub.snd (Sub.snd (Sub.snd (Sub.snd (Sub.snd (Sub.snd (Sub.snd (Sub.snd (Sub.snd (Sub.fst (Sub.whole _))))))))))))
theorem subA16u64_11 : Sub tyA16u64 11 (tyInt .u64) (fun x => x.e11) := Sub.via (Sub.snd (Sub.snd (Sub.snd (Sub.snd (Sub.snd (Sub.snd (Sub.snd (Sub.snd (Sub.snd (Sub.snd (Sub.snd (Sub.fst (Sub.whole _)))))))))))))
theorem subA16u64_12 : Sub tyA16u64 12 (tyInt .u64) (fun x => x.e12) := Sub.via (Sub.snd (Sub.snd (Sub.snd (Sub.snd (Sub.snd (Sub.snd (Sub.snd (Sub.snd (Sub.snd (Sub.snd (Sub.snd (Sub.snd (Sub.fst (Sub.whole _))))))))))))))
theorem subA16u64_13 : Sub tyA16u64 13 (tyInt .u64) (fun x => x.e13) := Sub.via (Sub.snd (Sub.snd (Sub.snd (Sub.snd (Sub.snd (Sub.snd (Sub.snd (Sub.snd (Sub.snd (Sub.snd (Sub.snd (Sub.snd (Sub.snd (Sub.fst (Sub.whole _)))))))))))))))
theorem subA16u64_14 : Sub tyA16u64 14 (tyInt .u64) (fun x => x.e14) := Sub.via (Sub.snd (Sub.snd (Sub.snd (Sub.snd (Sub.snd (Sub.snd (Sub.snd (Sub.snd (Sub.snd (Sub.snd (Sub.snd (Sub.snd (Sub.snd (Sub.snd (Sub.fst (Sub.whole _))))))))))))))))
theorem subA16u64_15 : Sub tyA16u64 15 (tyInt .u64) (fun x => x.e15) := Sub.via (Sub.snd (Sub.snd (Sub.snd (Sub.snd (Sub.snd (Sub.snd (Sub.snd (Sub.snd (Sub.snd (Sub.snd (Sub.snd (Sub.snd (Sub.snd (Sub.snd (Sub.snd (Sub.whole _))))))))))))))))
def cA16u64 (x : A16u64) : List Value := [(Value.int .u64 x.e0), (Value.int .u64 x.e1), (Value.int .u64 x.e2), (Value.int .u64 x.e3), (Value.int .u64 x.e4), (Value.int .u64 x.e5), (Value.int .u64 x.e6), (Value.int .u64 x.e7), (Value.int .u64 x.e8), (Value.int .u64 x.e9), (Value.int .u64 x.e10), (Value.int .u64 x.e11), (Value.int .u64 x.e12), (Value.int .u64 x.e13), (Value.int .u64 x.e14), (Value.int .u64 x.e15)]
def lA16u64 (x : A16u64) : List Int := [x.e0, x.e1, x.e2, x.e3, x.e4, x.e5, x.e6, x.e7, x.e8, x.e9, x.e10, x.e11, x.e12, x.e13, x.e14, x.e15]
def vA16u64 (y : Int) : Value := (Value.int .u64 y)
def setA16u64 (x : A16u64) (j : Int) (y : Int) : A16u64 := ⟨if j = 0 then y else x.e0, if j = 1 then y else x.e1, if j = 2 then y else x.e2, if j = 3 then y else x.e3, if j = 4 then y else x.e4, if j = 5 then y else x.e5, if j = 6 then y else x.e6, if j = 7 then y else x.e7, if j = 8 then y else x.e8, if j = 9 then y else x.e9, if j = 10 then y else x.e10, if j = 11 then y else x.e11, if j = 12 then y else x.e12, if j = 13 then y else x.e13, if j = 14 then y else x.e14, if j = 15 then y else x.e15⟩
theorem oneA16u64 (x : A16u64) : ∀ u ∈ cA16u64 x, u.oneCell' = true := ones_map (enc := vA16u64) (xs := lA16u64 x) (fun _ => rfl)
theorem lenA16u64 (x : A16u64) : (lA16u64 x).length = 16 := rfl
theorem lsetA16u64 {x : A16u64} {j : Int} {y : Int} (h0 : 0 ≤ j) (h1 : j < 16) : lA16u64 (setA16u64 x j y) = (lA16u64 x).set j.toNat y := by
  obtain ⟨q, rfl⟩ : ∃ q : Nat, j = q := ⟨j.toNat, by omega⟩
  match q, h1 with
  | 0, _ => rfl
  | 1, _ => rfl
  | 2, _ => rfl
  | 3, _ => rfl
  | 4, _ => rfl
  | 5, _ => rfl
  | 6, _ => rfl
  | 7, _ => rfl
  | 8, _ => rfl
  | 9, _ => rfl
  | 10, _ => rfl
  | 11, _ => rfl
  | 12, _ => rfl
  | 13, _ => rfl
  | 14, _ => rfl
  | 15, _ => rfl
  | n + 16, h => omega
theorem csetA16u64 {x : A16u64} {j : Int} {y : Int} (h0 : 0 ≤ j) (h1 : j < 16) (pre post : List Value) : pre ++ (cA16u64 (setA16u64 x j y) ++ post) = (pre ++ (cA16u64 x ++ post)).set (pre.length + j.toNat) (vA16u64 y) := by
  have h : cA16u64 (setA16u64 x j y) = (cA16u64 x).set j.toNat (vA16u64 y) := by
    have e : ∀ z : A16u64, cA16u64 z = (lA16u64 z).map vA16u64 := fun _ => rfl
    rw [e, e, lsetA16u64 h0 h1, List.map_set]
  rw [h, List.set_append_right _ _ (by omega), Nat.add_sub_cancel_left, List.set_append_left _ _ (by show j.toNat < 16; omega)]
theorem flatA16u64 : FlatTy tyA16u64 := flat_via (flat_pair flat_enc (flat_pair flat_enc (flat_pair flat_enc (flat_pair flat_enc (flat_pair flat_enc (flat_pair flat_enc (flat_pair flat_enc (flat_pair flat_enc (flat_pair flat_enc (flat_pair flat_enc (flat_pair flat_enc (flat_pair flat_enc (flat_pair flat_enc (flat_pair flat_enc (flat_pair flat_enc flat_enc)))))))))))))))
theorem encA16u64 {Z w cs} {x : A16u64} (h : tyA16u64.rep Z w cs x) : cs = (cA16u64 x) := by
  obtain ⟨c0, d0, rfl, p0, q0⟩ := h
  obtain ⟨c1, d1, rfl, p1, q1⟩ := q0
  obtain ⟨c2, d2, rfl, p2, q2⟩ := q1
  obtain ⟨c3, d3, rfl, p3, q3⟩ := q2
  obtain ⟨c4, d4, rfl, p4, q4⟩ := q3
  obtain ⟨c5, d5, rfl, p5, q5⟩ := q4
  obtain ⟨c6, d6, rfl, p6, q6⟩ := q5
  obtain ⟨c7, d7, rfl, p7, q7⟩ := q6
  obtain ⟨c8, d8, rfl, p8, q8⟩ := q7
  obtain ⟨c9, d9, rfl, p9, q9⟩ := q8
  obtain ⟨c10, d10, rfl, p10, q10⟩ := q9
  obtain ⟨c11, d11, rfl, p11, q11⟩ := q10
  obtain ⟨c12, d12, rfl, p12, q12⟩ := q11
  obtain ⟨c13, d13, rfl, p13, q13⟩ := q12
  obtain ⟨c14, d14, rfl, p14, q14⟩ := q13
  rw [show _ = _ from p0]
  rw [show _ = _ from p1]
  rw [show _ = _ from p2]
  rw [show _ = _ from p3]
  rw [show _ = _ from p4]
  rw [show _ = _ from p5]
  rw [show _ = _ from p6]
  rw [show _ = _ from p7]
  rw [show _ = _ from p8]
  rw [show _ = _ from p9]
  rw [show _ = _ from p10]
  rw [show _ = _ from p11]
  rw [show _ = _ from p12]
  rw [show _ = _ from p13]
  rw [show _ = _ from p14]
  rw [show _ = _ from q14]
  rfl
theorem mkA16u64 {Z w cs} {x : A16u64} (h : cs = (cA16u64 x)) : tyA16u64.rep Z w cs x := by
  subst h
  exact ⟨_, _, (List.take_append_drop 1 _).symm, rfl, ⟨_, _, (List.take_append_drop 1 _).symm, rfl, ⟨_, _, (List.take_append_drop 1 _).symm, rfl, ⟨_, _, (List.take_append_drop 1 _).symm, rfl, ⟨_, _, (List.take_append_drop 1 _).symm, rfl, ⟨_, _, (List.take_append_drop 1 _).symm, rfl, ⟨_, _, (List.take_append_drop 1 _).symm, rfl, ⟨_, _, (List.take_append_drop 1 _).symm, rfl, ⟨_, _, (List.take_append_drop 1 _).symm, rfl, ⟨_, _, (List.take_append_drop 1 _).symm, rfl, ⟨_, _, (List.take_append_drop 1 _).symm, rfl, ⟨_, _, (List.take_append_drop 1 _).symm, rfl, ⟨_, _, (List.take_append_drop 1 _).symm, rfl, ⟨_, _, (List.take_append_drop 1 _).symm, rfl, ⟨_, _, (List.take_append_drop 1 _).symm, rfl, rfl⟩⟩⟩⟩⟩⟩⟩⟩⟩⟩⟩⟩⟩⟩⟩
theorem lrepA16u64 {Z w cs} {x : A16u64} (h : tyA16u64.rep Z w cs x) : RepL (tyInt .u64) Z w cs (lA16u64 x) := by
  rw [encA16u64 h]
  exact ⟨[_], _, rfl, rfl, ⟨[_], _, rfl, rfl, ⟨[_], _, rfl, rfl, ⟨[_], _, rfl, rfl, ⟨[_], _, rfl, rfl, ⟨[_], _, rfl, rfl, ⟨[_], _, rfl, rfl, ⟨[_], _, rfl, rfl, ⟨[_], _, rfl, rfl, ⟨[_], _, rfl, rfl, ⟨[_], _, rfl, rfl, ⟨[_], _, rfl, rfl, ⟨[_], _, rfl, rfl, ⟨[_], _, rfl, rfl, ⟨[_], _, rfl, rfl, ⟨[_], _, rfl, rfl, rfl⟩⟩⟩⟩⟩⟩⟩⟩⟩⟩⟩⟩⟩⟩⟩⟩
theorem sz3 : szOf Try.prog 3 = some 1 := by kernel_rfl
theorem to3 : tyOf Try.prog 3 = some (1, 8, some (Value.int .i64 (0 : Int))) := by kernel_rfl
theorem sz5 : szOf Try.prog 5 = some 1 := by kernel_rfl
theorem to5 : tyOf Try.prog 5 = some (1, 1, some (Value.int .u8 (0 : Int))) := by kernel_rfl
theorem sz22 : szOf Try.prog 22 = some 1 := by kernel_rfl
theorem to22 : tyOf Try.prog 22 = some (1, 8, some (Value.int .u64 (0 : Int))) := by kernel_rfl
theorem sz24 : szOf Try.prog 24 = some 16 := by kernel_rfl
theorem to24 : tyOf Try.prog 24 = some (16, 128, some (ag [(Value.int .u64 (0 : Int)), (Value.int .u64 (0 : Int)), (Value.int .u64 (0 : Int)), (Value.int .u64 (0 : Int)), (Value.int .u64 (0 : Int)), (Value.int .u64 (0 : Int)), (Value.int .u64 (0 : Int)), (Value.int .u64 (0 : Int)), (Value.int .u64 (0 : Int)), (Value.int .u64 (0 : Int)), (Value.int .u64 (0 : Int)), (Value.int .u64 (0 : Int)), (Value.int .u64 (0 : Int)), (Value.int .u64 (0 : Int)), (Value.int .u64 (0 : Int)), (Value.int .u64 (0 : Int))])) := by kernel_rfl
theorem sz26 : szOf Try.prog 26 = some 8 := by kernel_rfl
theorem to26 : tyOf Try.prog 26 = some (8, 8, some (ag [(Value.int .u8 (0 : Int)), (Value.int .u8 (0 : Int)), (Value.int .u8 (0 : Int)), (Value.int .u8 (0 : Int)), (Value.int .u8 (0 : Int)), (Value.int .u8 (0 : Int)), (Value.int .u8 (0 : Int)), (Value.int .u8 (0 : Int))])) := by kernel_rfl
theorem sz58 : szOf Try.prog 58 = some 1 := by kernel_rfl
theorem to58 : tyOf Try.prog 58 = some (1, 4, some (Value.int .u32 (0 : Int))) := by kernel_rfl
theorem sz59 : szOf Try.prog 59 = some 4 := by kernel_rfl
theorem to59 : tyOf Try.prog 59 = some (4, 16, some (ag [(Value.int .u32 (0 : Int)), (Value.int .u32 (0 : Int)), (Value.int .u32 (0 : Int)), (Value.int .u32 (0 : Int))])) := by kernel_rfl
theorem sz69 : szOf Try.prog 69 = some 0 := by kernel_rfl
theorem to69 : tyOf Try.prog 69 = some (0, 0, some (ag [])) := by kernel_rfl
theorem mixed : Try.prog.follows .mixedOrders = true := by kernel_rfl
theorem eg24 : Try.prog.eqGuardType Try.prog.depth 24 = false := by kernel_rfl
theorem kt24 : Try.prog.keyTypeAt 20 24 = true := by kernel_rfl
theorem lv24 : leaves Try.prog 20 24 = some [22, 22, 22, 22, 22, 22, 22, 22, 22, 22, 22, 22, 22, 22, 22, 22] := by kernel_rfl
theorem injA16u64 {x y : A16u64} : (x == y) = true ↔ (cA16u64 x) = (cA16u64 y) := by
  rw [beq_iff_eq]
  constructor
  · rintro rfl; rfl
  · intro h
    obtain ⟨⟩ := x
    obtain ⟨⟩ := y
    simp only [A16u64.mk.injEq, cA16u64, str, List.cons_append, List.nil_append, List.cons.injEq, Value.int.injEq, Value.bool.injEq, Value.string.injEq, ByteArray.mk.injEq, Array.mk.injEq, Int.natCast_inj, UInt8.toNat_inj, true_and, and_true] at h ⊢
    first | exact h | simpa [and_assoc] using h
def okA16u64 (x : A16u64) : Prop := ((Lit.int .u64 x.e0).wf = true) ∧ ((Lit.int .u64 x.e1).wf = true) ∧ ((Lit.int .u64 x.e2).wf = true) ∧ ((Lit.int .u64 x.e3).wf = true) ∧ ((Lit.int .u64 x.e4).wf = true) ∧ ((Lit.int .u64 x.e5).wf = true) ∧ ((Lit.int .u64 x.e6).wf = true) ∧ ((Lit.int .u64 x.e7).wf = true) ∧ ((Lit.int .u64 x.e8).wf = true) ∧ ((Lit.int .u64 x.e9).wf = true) ∧ ((Lit.int .u64 x.e10).wf = true) ∧ ((Lit.int .u64 x.e11).wf = true) ∧ ((Lit.int .u64 x.e12).wf = true) ∧ ((Lit.int .u64 x.e13).wf = true) ∧ ((Lit.int .u64 x.e14).wf = true) ∧ ((Lit.int .u64 x.e15).wf = true)
set_option maxRecDepth 100000 in
theorem opnA16u64 {H : Type} : Opn H Try.prog 24 tyA16u64 okA16u64 := opn_array (fun x => (x.e0, (x.e1, (x.e2, (x.e3, (x.e4, (x.e5, (x.e6, (x.e7, (x.e8, (x.e9, (x.e10, (x.e11, (x.e12, (x.e13, (x.e14, x.e15)))))))))))))))) (fun y => A16u64.mk y.1 y.2.1 y.2.2.1 y.2.2.2.1 y.2.2.2.2.1 y.2.2.2.2.2.1 y.2.2.2.2.2.2.1 y.2.2.2.2.2.2.2.1 y.2.2.2.2.2.2.2.2.1 y.2.2.2.2.2.2.2.2.2.1 y.2.2.2.2.2.2.2.2.2.2.1 y.2.2.2.2.2.2.2.2.2.2.2.1 y.2.2.2.2.2.2.2.2.2.2.2.2.1 y.2.2.2.2.2.2.2.2.2.2.2.2.2.1 y.2.2.2.2.2.2.2.2.2.2.2.2.2.2.1 y.2.2.2.2.2.2.2.2.2.2.2.2.2.2.2) (fun _ => rfl) Try.underlying24 sz24 (fields_cons sz22 (opn_int Try.underlying22) (fields_cons sz22 (opn_int Try.underlying22) (fields_cons sz22 (opn_int Try.underlying22) (fields_cons sz22 (opn_int Try.underlying22) (fields_cons sz22 (opn_int Try.underlying22) (fields_cons sz22 (opn_int Try.underlying22) (fields_cons sz22 (opn_int Try.underlying22) (fields_cons sz22 (opn_int Try.underlying22) (fields_cons sz22 (opn_int Try.underlying22) (fields_cons sz22 (opn_int Try.underlying22) (fields_cons sz22 (opn_int Try.underlying22) (fields_cons sz22 (opn_int Try.underlying22) (fields_cons sz22 (opn_int Try.underlying22) (fields_cons sz22 (opn_int Try.underlying22) (fields_cons sz22 (opn_int Try.underlying22) (fields_one sz22 (opn_int Try.underlying22)))))))))))))))))
def okA8u8 (x : A8u8) : Prop := (True) ∧ (True) ∧ (True) ∧ (True) ∧ (True) ∧ (True) ∧ (True) ∧ (True)
set_option maxRecDepth 100000 in
theorem opnA8u8 {H : Type} : Opn H Try.prog 26 tyA8u8 okA8u8 := opn_array (fun x => (x.e0, (x.e1, (x.e2, (x.e3, (x.e4, (x.e5, (x.e6, x.e7)))))))) (fun y => A8u8.mk y.1 y.2.1 y.2.2.1 y.2.2.2.1 y.2.2.2.2.1 y.2.2.2.2.2.1 y.2.2.2.2.2.2.1 y.2.2.2.2.2.2.2) (fun _ => rfl) Try.underlying26 sz26 (fields_cons sz5 (opn_u8 Try.underlying5) (fields_cons sz5 (opn_u8 Try.underlying5) (fields_cons sz5 (opn_u8 Try.underlying5) (fields_cons sz5 (opn_u8 Try.underlying5) (fields_cons sz5 (opn_u8 Try.underlying5) (fields_cons sz5 (opn_u8 Try.underlying5) (fields_cons sz5 (opn_u8 Try.underlying5) (fields_one sz5 (opn_u8 Try.underlying5)))))))))
def f__binary_bigEndian__Uint32 (fu : Nat) (a0 : Unit) (a1 : (List UInt8)) : Option Int := (opt (at? a1 (3 : Int)) fun (u2 : UInt8) => (opt (at? a1 (3 : Int)) fun (u5 : UInt8) => (opt (at? a1 (2 : Int)) fun (u8 : UInt8) => (opt (at? a1 (1 : Int)) fun (u11 : UInt8) => (opt (at? a1 (0 : Int)) fun (u14 : UInt8) => (some (bits .or .u32 (bits .or .u32 (bits .or .u32 (IntKind.u32.wrap (u5.toNat : Int)) (IntKind.u32.wrap ((IntKind.u32.wrap (u8.toNat : Int)) * 2 ^ min ((8 : Int)).toNat (IntKind.bits .u32)))) (IntKind.u32.wrap ((IntKind.u32.wrap (u11.toNat : Int)) * 2 ^ min ((16 : Int)).toNat (IntKind.bits .u32)))) (IntKind.u32.wrap ((IntKind.u32.wrap (u14.toNat : Int)) * 2 ^ min ((24 : Int)).toNat (IntKind.bits .u32))))))))))
set_option maxRecDepth 100000 in
theorem f__binary_bigEndian__Uint32_ok (fu : Nat) (a0 : Unit) (v1_0 : Value) (a1 : (List UInt8)) {r : Int} (h : f__binary_bigEndian__Uint32 fu a0 a1 = some r) : FnOk Try.prog 51 [(ag []), v1_0] [(fDat (tyList tyU8) [v1_0] a1)] [] (fun (i : Unit) => { val := (Value.int .u32 r) }) := by
  unfold f__binary_bigEndian__Uint32 at h
  refine fn_enter Try.func51 rfl Try.ntmps51 rfl (fun w0 Z0 => ?_)
  refine aw_seq ?_
  refine aw_region ?_
  refine al_box (vs := []) rfl (cv_rfl rfl) rfl (fun g1 => ?_)
  refine al_val (ov_assign rfl rfl) ?_
  refine al_nil ?_
  refine aq_then ?_
  refine aw_seq ?_
  refine aw_region ?_
  refine al_val (ov_move rfl rfl) ?_
  obtain ⟨u2, hu3, h⟩ := opt_some h
  refine al_idxD 0 hu3 rfl rfl rfl Try.underlying62 sz5 rfl (fun p4 => ?_)
  refine al_val (ov_loadP (ds := [(Value.int .u8 (u2.toNat : Int))]) 0 rfl (fun h => h) rfl Try.underlying5 sz5 rfl rfl rfl) ?_
  refine al_nil ?_
  refine aq_then ?_
  refine aw_seq ?_
  obtain ⟨u5, hu6, h⟩ := opt_some h
  obtain ⟨u8, hu9, h⟩ := opt_some h
  obtain ⟨u11, hu12, h⟩ := opt_some h
  obtain ⟨u14, hu15, h⟩ := opt_some h
  refine aw_region_draw 22 [(8, (fun u => fEq u v1_0)), (9, (fun p7 => (fPtr tyU8 p7 u5))), (10, (fun u => fEq u (Value.int .u8 (u5.toNat : Int)))), (11, (fun u => fEq u (Value.int .u32 (IntKind.u32.wrap (u5.toNat : Int))))), (12, (fun u => fEq u v1_0)), (13, (fun p10 => (fPtr tyU8 p10 u8))), (14, (fun u => fEq u (Value.int .u8 (u8.toNat : Int)))), (15, (fun u => fEq u (Value.int .u32 (IntKind.u32.wrap (u8.toNat : Int))))), (16, (fun u => fEq u (Value.int .u32 (IntKind.u32.wrap ((IntKind.u32.wrap (u8.toNat : Int)) * 2 ^ min ((8 : Int)).toNat (IntKind.bits .u32)))))), (17, (fun u => fEq u (Value.int .u32 (bits .or .u32 (IntKind.u32.wrap (u5.toNat : Int)) (IntKind.u32.wrap ((IntKind.u32.wrap (u8.toNat : Int)) * 2 ^ min ((8 : Int)).toNat (IntKind.bits .u32))))))), (18, (fun u => fEq u v1_0)), (19, (fun p13 => (fPtr tyU8 p13 u11))), (20, (fun u => fEq u (Value.int .u8 (u11.toNat : Int)))), (21, (fun u => fEq u (Value.int .u32 (IntKind.u32.wrap (u11.toNat : Int))))), (22, (fun u => fEq u (Value.int .u32 (IntKind.u32.wrap ((IntKind.u32.wrap (u11.toNat : Int)) * 2 ^ min ((16 : Int)).toNat (IntKind.bits .u32)))))), (23, (fun u => fEq u (Value.int .u32 (bits .or .u32 (bits .or .u32 (IntKind.u32.wrap (u5.toNat : Int)) (IntKind.u32.wrap ((IntKind.u32.wrap (u8.toNat : Int)) * 2 ^ min ((8 : Int)).toNat (IntKind.bits .u32)))) (IntKind.u32.wrap ((IntKind.u32.wrap (u11.toNat : Int)) * 2 ^ min ((16 : Int)).toNat (IntKind.bits .u32))))))), (24, (fun u => fEq u v1_0)), (25, (fun p16 => (fPtr tyU8 p16 u14))), (26, (fun u => fEq u (Value.int .u8 (u14.toNat : Int)))), (27, (fun u => fEq u (Value.int .u32 (IntKind.u32.wrap (u14.toNat : Int))))), (28, (fun u => fEq u (Value.int .u32 (IntKind.u32.wrap ((IntKind.u32.wrap (u14.toNat : Int)) * 2 ^ min ((24 : Int)).toNat (IntKind.bits .u32)))))), (29, (fun u => fEq u (Value.int .u32 (bits .or .u32 (bits .or .u32 (bits .or .u32 (IntKind.u32.wrap (u5.toNat : Int)) (IntKind.u32.wrap ((IntKind.u32.wrap (u8.toNat : Int)) * 2 ^ min ((8 : Int)).toNat (IntKind.bits .u32)))) (IntKind.u32.wrap ((IntKind.u32.wrap (u11.toNat : Int)) * 2 ^ min ((16 : Int)).toNat (IntKind.bits .u32)))) (IntKind.u32.wrap ((IntKind.u32.wrap (u14.toNat : Int)) * 2 ^ min ((24 : Int)).toNat (IntKind.bits .u32)))))))] (tab [(1, v1_0), (4, (Value.int .u32 (0 : Int)))]) mixed (by kernel_rfl) rfl rfl rfl (fun a hs => hs.tab _ (allT_mem ⟨rfl, rfl, trivial⟩)) ⟨⟨rfl, ld_val (ov_move rfl rfl)⟩, ⟨rfl, ld_eq (j := 0) rfl rfl (ld_of (of_idxD 1 hu6 rfl rfl rfl Try.underlying62 sz5 rfl))⟩, ⟨rfl, ld_fact (j := 1) rfl rfl (fun p7 => ld_val (ov_loadP (ds := [(Value.int .u8 (u5.toNat : Int))]) 0 rfl (fun h => h) rfl Try.underlying5 sz5 rfl rfl rfl))⟩, ⟨rfl, ld_eq (j := 2) rfl rfl (ld_val (ov_convInt (by rw [Try.underlying5]; rfl) Try.underlying58 rfl rfl))⟩, ⟨rfl, ld_val (ov_move rfl rfl)⟩, ⟨rfl, ld_eq (j := 4) rfl rfl (ld_of (of_idxD 1 hu9 rfl rfl rfl Try.underlying62 sz5 rfl))⟩, ⟨rfl, ld_fact (j := 5) rfl rfl (fun p10 => ld_val (ov_loadP (ds := [(Value.int .u8 (u8.toNat : Int))]) 0 rfl (fun h => h) rfl Try.underlying5 sz5 rfl rfl rfl))⟩, ⟨rfl, ld_eq (j := 6) rfl rfl (ld_val (ov_convInt (by rw [Try.underlying5]; rfl) Try.underlying58 rfl rfl))⟩, ⟨rfl, ld_eq (j := 7) rfl rfl (ld_val (ov_shl (by decide) rfl rfl rfl))⟩, ⟨rfl, ld_eq (j := 3) rfl rfl (ld_eq (j := 8) rfl rfl (ld_val (ov_int rfl rfl rfl rfl)))⟩, ⟨rfl, ld_val (ov_move rfl rfl)⟩, ⟨rfl, ld_eq (j := 10) rfl rfl (ld_of (of_idxD 1 hu12 rfl rfl rfl Try.underlying62 sz5 rfl))⟩, ⟨rfl, ld_fact (j := 11) rfl rfl (fun p13 => ld_val (ov_loadP (ds := [(Value.int .u8 (u11.toNat : Int))]) 0 rfl (fun h => h) rfl Try.underlying5 sz5 rfl rfl rfl))⟩, ⟨rfl, ld_eq (j := 12) rfl rfl (ld_val (ov_convInt (by rw [Try.underlying5]; rfl) Try.underlying58 rfl rfl))⟩, ⟨rfl, ld_eq (j := 13) rfl rfl (ld_val (ov_shl (by decide) rfl rfl rfl))⟩, ⟨rfl, ld_eq (j := 9) rfl rfl (ld_eq (j := 14) rfl rfl (ld_val (ov_int rfl rfl rfl rfl)))⟩, ⟨rfl, ld_val (ov_move rfl rfl)⟩, ⟨rfl, ld_eq (j := 16) rfl rfl (ld_of (of_idxD 1 hu15 rfl rfl rfl Try.underlying62 sz5 rfl))⟩, ⟨rfl, ld_fact (j := 17) rfl rfl (fun p16 => ld_val (ov_loadP (ds := [(Value.int .u8 (u14.toNat : Int))]) 0 rfl (fun h => h) rfl Try.underlying5 sz5 rfl rfl rfl))⟩, ⟨rfl, ld_eq (j := 18) rfl rfl (ld_val (ov_convInt (by rw [Try.underlying5]; rfl) Try.underlying58 rfl rfl))⟩, ⟨rfl, ld_eq (j := 19) rfl rfl (ld_val (ov_shl (by decide) rfl rfl rfl))⟩, ⟨rfl, ld_eq (j := 15) rfl rfl (ld_eq (j := 20) rfl rfl (ld_val (ov_int rfl rfl rfl rfl)))⟩, trivial⟩ ?_
  refine tl_eq 21 rfl ?_
  refine tl_done ?_
  refine al_val (ov_assign rfl rfl) ?_
  refine al_nil ?_
  refine aq_then ?_
  refine aw_ret ?_
  obtain rfl := Option.some.inj h
  exact fn_ret () [] [] rfl rfl rfl rfl (res1 rfl rfl) rfl rfl rfl (by decide)
def f_bloom_positions_L14 (r5 : Int) (r8 : Int) (kk11 : (A4u32 → Option A4u32)) : Nat → A4u32 → Int → Option A4u32
  | 0, _, _ => none
  | k13 + 1, l12A5_0, l12i13 => (bif (decide (l12i13 < (4 : Int))) then (opt (at? (lA4u32 l12A5_0) l12i13) fun (u16 : Int) => (f_bloom_positions_L14 r5 r8 kk11 k13 (setA4u32 l12A5_0 l12i13 (((IntKind.u32.wrap (r5 + (IntKind.u32.wrap ((IntKind.u32.wrap l12i13) * r8))))).tmod (1024 : Int))) (IntKind.i64.wrap (l12i13 + (1 : Int))))) else (kk11 l12A5_0))
def f_bloom_positions (fu : Nat) (a0 : A8u8) : Option A4u32 := (opt (f__binary_bigEndian__Uint32 fu () ((lA8u8 a0).take ((4 : Int)).toNat)) fun (r5 : Int) => (opt (f__binary_bigEndian__Uint32 fu () ((lA8u8 a0).drop ((4 : Int)).toNat)) fun (r8 : Int) => (lt (fun (j10A5_0 : A4u32) => (some j10A5_0)) fun (kk11 : A4u32 → Option A4u32) => (f_bloom_positions_L14 r5 r8 kk11 fu (A4u32.mk (0 : Int) (0 : Int) (0 : Int) (0 : Int)) (0 : Int)))))
set_option maxRecDepth 100000 in
theorem f_bloom_positions_ok (fu : Nat) (a0 : A8u8) {r : A4u32} (h : f_bloom_positions fu a0 = some r) : FnOk Try.prog 29 [(ag (cA8u8 a0))] [] [] (fun (i : Unit) => { val := (ag (cA4u32 r)) }) := by
  unfold f_bloom_positions at h
  refine fn_enter Try.func29 rfl Try.ntmps29 rfl (fun w0 Z0 => ?_)
  refine aw_seq ?_
  refine aw_region ?_
  refine al_box (vs := (cA8u8 a0)) rfl (cv_rfl rfl) rfl (fun g1 => ?_)
  refine al_alloc (zs := (cA4u32 (A4u32.mk (0 : Int) (0 : Int) (0 : Int) (0 : Int)))) (zeroOf_to to59) rfl rfl (fun g2 => ?_)
  refine al_nil ?_
  refine aq_then ?_
  refine aw_seq ?_
  refine aw_freezeB 1 (a0) rfl rfl (fun _ _ => mkA8u8 rfl) ?_
  obtain ⟨r5, hc4, h⟩ := opt_some h
  obtain ⟨r8, hc7, h⟩ := opt_some h
  refine aw_region_draw 7 [(7, (fun u => fEq u (ag []))), (8, (fun s3 => (fDat (tyList tyU8) [s3] ((lA8u8 a0).take ((4 : Int)).toNat)))), (9, (fun u => fEq u (Value.int .u32 r5))), (10, (fun u => fEq u (ag []))), (11, (fun s6 => (fDat (tyList tyU8) [s6] ((lA8u8 a0).drop ((4 : Int)).toNat)))), (12, (fun u => fEq u (Value.int .u32 r8))), (3, (fun u => fEq u (Value.int .u32 r5)))] (tab [(1, (ptr g1 0)), (2, (ptr g2 0))]) mixed (by kernel_rfl) rfl rfl rfl (fun a hs => hs.tab _ (allT_mem ⟨rfl, rfl, trivial⟩)) ⟨⟨rfl, ld_val (ov_load0 Try.underlying69 sz69 rfl rfl rfl)⟩, ⟨rfl, ld_of (of_slicePT 0 (xs := (lA8u8 a0)) (by decide) (by show (4 : Int) ≤ 8; decide) lrepA8u8 rfl rfl rfl rfl rfl Try.underlying26 sz5 rfl)⟩, ⟨rfl, ld_eq (j := 0) rfl rfl (ld_fact (j := 1) rfl rfl (fun s3 => ld_callV (vs := [(ag []), s3]) (f__binary_bigEndian__Uint32_ok fu () s3 ((lA8u8 a0).take ((4 : Int)).toNat) hc4) [] (pre_fz 0 rfl pre_nil) rfl Try.func51 rfl rfl rfl))⟩, ⟨rfl, ld_val (ov_load0 Try.underlying69 sz69 rfl rfl rfl)⟩, ⟨rfl, ld_of (of_slicePF 0 (xs := (lA8u8 a0)) (by decide) (by show (4 : Int) ≤ 8; decide) lrepA8u8 rfl rfl rfl rfl rfl Try.underlying26 sz5 rfl)⟩, ⟨rfl, ld_eq (j := 3) rfl rfl (ld_fact (j := 4) rfl rfl (fun s6 => ld_callV (vs := [(ag []), s6]) (f__binary_bigEndian__Uint32_ok fu () s6 ((lA8u8 a0).drop ((4 : Int)).toNat) hc7) [] (pre_fz 0 rfl pre_nil) rfl Try.func51 rfl rfl rfl))⟩, ⟨rfl, ld_eq (j := 2) rfl rfl (ld_val (ov_assign rfl rfl))⟩, trivial⟩ ?_
  refine tl_eq 5 rfl ?_
  refine tl_eq 6 rfl ?_
  refine tl_done ?_
  refine al_val (ov_assign rfl rfl) ?_
  refine al_nil ?_
  refine aq_then ?_
  refine aw_seq ?_
  refine aw_region ?_
  refine al_alloc (zs := (cA4u32 (A4u32.mk (0 : Int) (0 : Int) (0 : Int) (0 : Int)))) (zeroOf_to to59) rfl rfl (fun g9 => ?_)
  refine al_nil ?_
  refine aq_then ?_
  obtain ⟨kk11, hkk11, h⟩ := lt_some h
  refine aw_seq_join (ι := A4u32) (fun i => (memOf w0 Z0 [] [(oBox g2 59 (cA4u32 (A4u32.mk (0 : Int) (0 : Int) (0 : Int) (0 : Int)))), (oBox g9 59 (cA4u32 i))] [(fPtr tyA8u8 (ptr g1 0) a0)])) (fun i => (tab [(2, (ptr g2 0)), (5, (ptr g9 0))])) (fun i => kk11 i = some r) ?_ ?_
  · rintro j10A5_0 h
    have h : kk11 j10A5_0 = some r := h
    rw [hkk11] at h
    dsimp only at h
    clear hkk11
    refine aw_show (m := (memOf w0 Z0 [] [(oBox g2 59 (cA4u32 (A4u32.mk (0 : Int) (0 : Int) (0 : Int) (0 : Int)))), (oBox g9 59 (cA4u32 j10A5_0))] [(fPtr tyA8u8 (ptr g1 0) a0)])) (S := (tab [(2, (ptr g2 0)), (5, (ptr g9 0))])) ?_
    refine aw_seq ?_
    refine aw_region ?_
    refine al_val (ov_load (i := 1) (v := (ag (cA4u32 j10A5_0))) rfl rfl Try.underlying59 sz59 rfl rfl rfl rfl) ?_
    refine al_store (i := 0) (vs := (cA4u32 j10A5_0)) (cs' := (cA4u32 j10A5_0)) rfl rfl rfl sz59 (cv_rfl rfl) rfl (co_all (oneA4u32 j10A5_0)) (Nat.le_of_ble_eq_true rfl) rfl rfl ?_
    refine al_nil ?_
    refine aq_then ?_
    refine aw_ret ?_
    obtain rfl := Option.some.inj h
    exact fn_ret () [] [] rfl rfl rfl rfl (resC rfl (resB (i := 0) rfl rfl Try.underlying59 sz59 rfl rfl rfl (resN)) rfl) rfl rfl rfl (by decide)
  · clear hkk11
    refine aw_seq ?_
    refine aw_region ?_
    refine al_val (ov_move rfl rfl) ?_
    refine al_nil ?_
    refine aq_then ?_
    refine aw_block ?_
    refine aw_state (aw_loop (ι := A4u32 × Int) (fun i => (memOf w0 Z0 [] [(oBox g2 59 (cA4u32 (A4u32.mk (0 : Int) (0 : Int) (0 : Int) (0 : Int)))), (oBox g9 59 (cA4u32 i.1))] [(fPtr tyA8u8 (ptr g1 0) a0)])) (fun i => (tab [(2, (ptr g2 0)), (3, (Value.int .u32 r5)), (4, (Value.int .u32 r8)), (5, (ptr g9 0)), (13, (Value.int .i64 i.2))])) (fun q i => f_bloom_positions_L14 r5 r8 kk11 q i.1 i.2 = some r) ?_ fu ((A4u32.mk (0 : Int) (0 : Int) (0 : Int) (0 : Int)), (0 : Int)) h) (fun w a hm hs => norm hm hs [1, 0] [0] [(2, (ptr g2 0)), (3, (Value.int .u32 r5)), (4, (Value.int .u32 r8)), (5, (ptr g9 0)), (13, (Value.int .i64 (0 : Int)))] (by decide) ⟨rfl, rfl, rfl, rfl, rfl, trivial⟩)
    clear h
    rintro k13 ⟨l12A5_0, l12i13⟩ h
    have h : f_bloom_positions_L14 r5 r8 kk11 k13 l12A5_0 l12i13 = some r := h
    obtain _ | k13 := k13
    · rw [f_bloom_positions_L14] at h; cases h
    rw [f_bloom_positions_L14] at h
    refine aw_show (m := (memOf w0 Z0 [] [(oBox g2 59 (cA4u32 (A4u32.mk (0 : Int) (0 : Int) (0 : Int) (0 : Int)))), (oBox g9 59 (cA4u32 l12A5_0))] [(fPtr tyA8u8 (ptr g1 0) a0)])) (S := (tab [(2, (ptr g2 0)), (3, (Value.int .u32 r5)), (4, (Value.int .u32 r8)), (5, (ptr g9 0)), (13, (Value.int .i64 l12i13))])) ?_
    refine aw_seq ?_
    refine aw_region ?_
    refine al_val (ov_int rfl rfl rfl rfl) ?_
    refine al_nil ?_
    refine aq_then ?_
    refine aw_seq ?_
    refine aw_cond rfl (fun hb15 => ?_) (fun hb15 => ?_)
    · replace h := bif_t hb15 h
      refine aw_skip ?_
      refine aq_then ?_
      refine aw_seq ?_
      refine aw_block ?_
      refine aw_seq ?_
      refine aw_region ?_
      refine al_val (ov_move rfl rfl) ?_
      refine al_val (ov_assign rfl rfl) ?_
      refine al_nil ?_
      refine aq_then ?_
      refine aw_region ?_
      refine al_val (ov_move rfl rfl) ?_
      refine al_val (ov_move rfl rfl) ?_
      refine al_val (ov_move rfl rfl) ?_
      refine al_val (ov_convInt (by rw [Try.underlying3]; rfl) Try.underlying58 rfl rfl) ?_
      refine al_val (ov_move rfl rfl) ?_
      refine al_val (ov_int rfl rfl rfl rfl) ?_
      refine al_val (ov_int rfl rfl rfl rfl) ?_
      refine al_val (ov_rem (by decide) rfl rfl rfl) ?_
      obtain ⟨u16, hu17, h⟩ := opt_some h
      refine al_val (ov_idxArrV hu17 rfl rfl rfl Try.underlying59 sz58 rfl) ?_
      refine al_storeV (cs := (cA4u32 l12A5_0)) (cs' := (cA4u32 (setA4u32 l12A5_0 l12i13 (((IntKind.u32.wrap (r5 + (IntKind.u32.wrap ((IntKind.u32.wrap l12i13) * r8))))).tmod (1024 : Int))))) 1 rfl rfl rfl sz58 rfl (by have h1 := (at_some hu17).2.1; have h0 := (at_some hu17).1; have h2 : ((lA4u32 l12A5_0).length : Int) = 4 := rfl; show 0 + (l12i13).toNat < 4; omega) (csetA4u32 (at_some hu17).1 (at_some hu17).2.1 [] []) rfl ?_
      refine al_nil ?_
      refine aq_block ?_
      refine aq_then ?_
      refine aw_region ?_
      refine al_val (ov_int rfl rfl rfl rfl) ?_
      refine al_val (ov_move rfl rfl) ?_
      refine al_nil ?_
      exact aq_again k13 ((setA4u32 l12A5_0 l12i13 (((IntKind.u32.wrap (r5 + (IntKind.u32.wrap ((IntKind.u32.wrap l12i13) * r8))))).tmod (1024 : Int))), (IntKind.i64.wrap (l12i13 + (1 : Int)))) (Nat.lt_succ_self _) h (fun w a hm hs => norm hm hs [0, 1] [0] [(2, (ptr g2 0)), (3, (Value.int .u32 r5)), (4, (Value.int .u32 r8)), (5, (ptr g9 0)), (13, (Value.int .i64 (IntKind.i64.wrap (l12i13 + (1 : Int)))))] (by decide) ⟨rfl, rfl, rfl, rfl, rfl, trivial⟩)
    · replace h := bif_f hb15 h
      refine aw_exit ?_
      refine aq_then_exit ?_
      refine aq_then_exit ?_
      refine aq_block_exit ?_
      exact aq_join l12A5_0 h (fun w a hm hs => norm hm hs [0, 1] [0] [(2, (ptr g2 0)), (5, (ptr g9 0))] (by decide) ⟨rfl, rfl, trivial⟩)
def f_bloom_Add_L10 (kk5 : (A16u64 → Option A16u64)) (r7 : A4u32) : Nat → A16u64 → Int → Option A16u64
  | 0, _, _ => none
  | k9 + 1, l8A2_0, l8i9 => (bif (decide (l8i9 < (4 : Int))) then (opt (at? (lA4u32 r7) l8i9) fun (u12 : Int) => (opt (at? (lA16u64 l8A2_0) (IntKind.u32.wrap ((u12).tdiv (64 : Int)))) fun (u14 : Int) => (req (0 ≤ ((u12).tmod (64 : Int))) (opt (at? (lA16u64 l8A2_0) (IntKind.u32.wrap ((u12).tdiv (64 : Int)))) fun (u17 : Int) => (f_bloom_Add_L10 kk5 r7 k9 (setA16u64 l8A2_0 (IntKind.u32.wrap ((u12).tdiv (64 : Int))) (bits .or .u64 u14 (IntKind.u64.wrap ((1 : Int) * 2 ^ min (((u12).tmod (64 : Int))).toNat (IntKind.bits .u64))))) (IntKind.i64.wrap (l8i9 + (1 : Int)))))))) else (kk5 l8A2_0))
def f_bloom_Add (fu : Nat) (a0 : A16u64) (a1 : A8u8) : Option A16u64 := (lt (fun (j4A2_0 : A16u64) => (some j4A2_0)) fun (kk5 : A16u64 → Option A16u64) => (opt (f_bloom_positions fu a1) fun (r7 : A4u32) => (f_bloom_Add_L10 kk5 r7 fu a0 (0 : Int))))
set_option maxRecDepth 100000 in
theorem f_bloom_Add_ok (fu : Nat) (a0 : A16u64) (a1 : A8u8) {r : A16u64} (h : f_bloom_Add fu a0 a1 = some r) : FnOk Try.prog 7 [(ag (cA16u64 a0)), (ag (cA8u8 a1))] [] [] (fun (i : Unit) => { val := (ag (cA16u64 r)) }) := by
  unfold f_bloom_Add at h
  refine fn_enter Try.func7 rfl Try.ntmps7 rfl (fun w0 Z0 => ?_)
  refine aw_seq ?_
  refine aw_region ?_
  refine al_box (vs := (cA16u64 a0)) rfl (cv_rfl rfl) rfl (fun g1 => ?_)
  refine al_box (vs := (cA8u8 a1)) rfl (cv_rfl rfl) rfl (fun g2 => ?_)
  refine al_alloc (zs := (cA16u64 (A16u64.mk (0 : Int) (0 : Int) (0 : Int) (0 : Int) (0 : Int) (0 : Int) (0 : Int) (0 : Int) (0 : Int) (0 : Int) (0 : Int) (0 : Int) (0 : Int) (0 : Int) (0 : Int) (0 : Int)))) (zeroOf_to to24) rfl rfl (fun g3 => ?_)
  refine al_nil ?_
  refine aq_then ?_
  obtain ⟨kk5, hkk5, h⟩ := lt_some h
  refine aw_seq_join (ι := A16u64) (fun i => (memOf w0 Z0 [] [(oBox g1 24 (cA16u64 i)), (oBox g3 24 (cA16u64 (A16u64.mk (0 : Int) (0 : Int) (0 : Int) (0 : Int) (0 : Int) (0 : Int) (0 : Int) (0 : Int) (0 : Int) (0 : Int) (0 : Int) (0 : Int) (0 : Int) (0 : Int) (0 : Int) (0 : Int))))] [])) (fun i => (tab [(2, (ptr g1 0)), (4, (ptr g3 0))])) (fun i => kk5 i = some r) ?_ ?_
  · rintro j4A2_0 h
    have h : kk5 j4A2_0 = some r := h
    rw [hkk5] at h
    dsimp only at h
    clear hkk5
    refine aw_show (m := (memOf w0 Z0 [] [(oBox g1 24 (cA16u64 j4A2_0)), (oBox g3 24 (cA16u64 (A16u64.mk (0 : Int) (0 : Int) (0 : Int) (0 : Int) (0 : Int) (0 : Int) (0 : Int) (0 : Int) (0 : Int) (0 : Int) (0 : Int) (0 : Int) (0 : Int) (0 : Int) (0 : Int) (0 : Int))))] [])) (S := (tab [(2, (ptr g1 0)), (4, (ptr g3 0))])) ?_
    refine aw_seq ?_
    refine aw_region ?_
    refine al_val (ov_load (i := 0) (v := (ag (cA16u64 j4A2_0))) rfl rfl Try.underlying24 sz24 rfl rfl rfl rfl) ?_
    refine al_store (i := 1) (vs := (cA16u64 j4A2_0)) (cs' := (cA16u64 j4A2_0)) rfl rfl rfl sz24 (cv_rfl rfl) rfl (co_all (oneA16u64 j4A2_0)) (Nat.le_of_ble_eq_true rfl) rfl rfl ?_
    refine al_nil ?_
    refine aq_then ?_
    refine aw_ret ?_
    obtain rfl := Option.some.inj h
    exact fn_ret () [] [] rfl rfl rfl rfl (resC rfl (resB (i := 1) rfl rfl Try.underlying24 sz24 rfl rfl rfl (resN)) rfl) rfl rfl rfl (by decide)
  · clear hkk5
    refine aw_seq ?_
    refine aw_region ?_
    refine al_val (ov_load (i := 1) (v := (ag (cA8u8 a1))) rfl rfl Try.underlying26 sz26 rfl rfl rfl rfl) ?_
    obtain ⟨r7, hc6, h⟩ := opt_some h
    refine al_call (vs := [(ag (cA8u8 a1))]) (f_bloom_positions_ok fu a1 hc6) [] [] [0, 1, 2] pre_nil rfl (by simp) (by decide) (.inl rfl) rfl Try.func29 rfl rfl rfl (fun _ => ?_)
    refine al_val (ov_move rfl rfl) ?_
    refine al_nil ?_
    refine aq_then ?_
    refine aw_block ?_
    refine aw_state (aw_loop (ι := A16u64 × Int) (fun i => (memOf w0 Z0 [] [(oBox g1 24 (cA16u64 i.1)), (oBox g3 24 (cA16u64 (A16u64.mk (0 : Int) (0 : Int) (0 : Int) (0 : Int) (0 : Int) (0 : Int) (0 : Int) (0 : Int) (0 : Int) (0 : Int) (0 : Int) (0 : Int) (0 : Int) (0 : Int) (0 : Int) (0 : Int))))] [])) (fun i => (tab [(2, (ptr g1 0)), (4, (ptr g3 0)), (8, (ag (cA4u32 r7))), (9, (Value.int .i64 i.2))])) (fun q i => f_bloom_Add_L10 kk5 r7 q i.1 i.2 = some r) ?_ fu (a0, (0 : Int)) h) (fun w a hm hs => norm hm hs [2, 0] [] [(2, (ptr g1 0)), (4, (ptr g3 0)), (8, (ag (cA4u32 r7))), (9, (Value.int .i64 (0 : Int)))] (by decide) ⟨rfl, rfl, rfl, rfl, trivial⟩)
    clear h
    rintro k9 ⟨l8A2_0, l8i9⟩ h
    have h : f_bloom_Add_L10 kk5 r7 k9 l8A2_0 l8i9 = some r := h
    obtain _ | k9 := k9
    · rw [f_bloom_Add_L10] at h; cases h
    rw [f_bloom_Add_L10] at h
    refine aw_show (m := (memOf w0 Z0 [] [(oBox g1 24 (cA16u64 l8A2_0)), (oBox g3 24 (cA16u64 (A16u64.mk (0 : Int) (0 : Int) (0 : Int) (0 : Int) (0 : Int) (0 : Int) (0 : Int) (0 : Int) (0 : Int) (0 : Int) (0 : Int) (0 : Int) (0 : Int) (0 : Int) (0 : Int) (0 : Int))))] [])) (S := (tab [(2, (ptr g1 0)), (4, (ptr g3 0)), (8, (ag (cA4u32 r7))), (9, (Value.int .i64 l8i9))])) ?_
    refine aw_seq ?_
    refine aw_region ?_
    refine al_val (ov_int rfl rfl rfl rfl) ?_
    refine al_nil ?_
    refine aq_then ?_
    refine aw_seq ?_
    refine aw_cond rfl (fun hb11 => ?_) (fun hb11 => ?_)
    · replace h := bif_t hb11 h
      refine aw_skip ?_
      refine aq_then ?_
      refine aw_seq ?_
      refine aw_block ?_
      refine aw_seq ?_
      refine aw_region ?_
      obtain ⟨u12, hu13, h⟩ := opt_some h
      refine al_val (v := (Value.int .u32 u12)) (ov_idxAgg (u := u12) (enc := vA4u32) (xs := lA4u32 r7) hu13 rfl rfl rfl rfl Try.underlying59 Try.underlying58 rfl sz58 rfl) ?_
      refine al_val (ov_assign rfl rfl) ?_
      refine al_nil ?_
      refine aq_then ?_
      refine aw_region ?_
      refine al_val (ov_move rfl rfl) ?_
      refine al_val (ov_quo (by decide) rfl rfl rfl) ?_
      obtain ⟨u14, hu15, h⟩ := opt_some h
      refine al_val (ov_idxArrV hu15 rfl rfl rfl Try.underlying24 sz22 rfl) ?_
      refine al_val (v := (Value.int .u64 u14)) (ov_loadV (enc := vA16u64) (xs := lA16u64 l8A2_0) 0 rfl rfl Try.underlying22 sz22 rfl rfl hu15 rfl) ?_
      refine al_val (ov_move rfl rfl) ?_
      refine al_val (ov_rem (by decide) rfl rfl rfl) ?_
      obtain ⟨hc16, h⟩ := req_some h
      refine al_val (ov_shl hc16 rfl rfl rfl) ?_
      refine al_val (ov_int rfl rfl rfl rfl) ?_
      obtain ⟨u17, hu18, h⟩ := opt_some h
      refine al_val (ov_idxArrV hu18 rfl rfl rfl Try.underlying24 sz22 rfl) ?_
      refine al_storeV (cs := (cA16u64 l8A2_0)) (cs' := (cA16u64 (setA16u64 l8A2_0 (IntKind.u32.wrap ((u12).tdiv (64 : Int))) (bits .or .u64 u14 (IntKind.u64.wrap ((1 : Int) * 2 ^ min (((u12).tmod (64 : Int))).toNat (IntKind.bits .u64))))))) 0 rfl rfl rfl sz22 rfl (by have h1 := (at_some hu18).2.1; have h0 := (at_some hu18).1; have h2 : ((lA16u64 l8A2_0).length : Int) = 16 := rfl; show 0 + ((IntKind.u32.wrap ((u12).tdiv (64 : Int)))).toNat < 16; omega) (csetA16u64 (at_some hu18).1 (at_some hu18).2.1 [] []) rfl ?_
      refine al_nil ?_
      refine aq_block ?_
      refine aq_then ?_
      refine aw_region ?_
      refine al_val (ov_int rfl rfl rfl rfl) ?_
      refine al_val (ov_move rfl rfl) ?_
      refine al_nil ?_
      exact aq_again k9 ((setA16u64 l8A2_0 (IntKind.u32.wrap ((u12).tdiv (64 : Int))) (bits .or .u64 u14 (IntKind.u64.wrap ((1 : Int) * 2 ^ min (((u12).tmod (64 : Int))).toNat (IntKind.bits .u64))))), (IntKind.i64.wrap (l8i9 + (1 : Int)))) (Nat.lt_succ_self _) h (fun w a hm hs => norm hm hs [0, 1] [] [(2, (ptr g1 0)), (4, (ptr g3 0)), (8, (ag (cA4u32 r7))), (9, (Value.int .i64 (IntKind.i64.wrap (l8i9 + (1 : Int)))))] (by decide) ⟨rfl, rfl, rfl, rfl, trivial⟩)
    · replace h := bif_f hb11 h
      refine aw_exit ?_
      refine aq_then_exit ?_
      refine aq_then_exit ?_
      refine aq_block_exit ?_
      exact aq_join l8A2_0 h (fun w a hm hs => norm hm hs [0, 1] [] [(2, (ptr g1 0)), (4, (ptr g3 0))] (by decide) ⟨rfl, rfl, trivial⟩)
def f_bloom_Join_L18 (kk11 : (A16u64 → Option A16u64)) (u12 : A16u64) : Nat → A16u64 → Int → Option A16u64
  | 0, _, _ => none
  | k17 + 1, l16A3_0, l16i15 => (bif (decide (l16i15 < (16 : Int))) then (opt (at? (lA16u64 u12) l16i15) fun (u20 : Int) => (opt (at? (lA16u64 l16A3_0) l16i15) fun (u22 : Int) => (opt (at? (lA16u64 l16A3_0) l16i15) fun (u24 : Int) => (f_bloom_Join_L18 kk11 u12 k17 (setA16u64 l16A3_0 l16i15 (bits .or .u64 u22 u20)) (IntKind.i64.wrap (l16i15 + (1 : Int))))))) else (kk11 l16A3_0))
def f_bloom_Join_L7 (a0 : (List A16u64)) (kk4 : (A16u64 → Option A16u64)) (fu : Nat) : Nat → A16u64 → Int → Option A16u64
  | 0, _, _ => none
  | k6 + 1, l5A3_0, l5i10 => (lt (fun (l5A3_0 : A16u64) (l5i10 : Int) => (f_bloom_Join_L7 a0 kk4 fu k6 l5A3_0 l5i10)) fun (kk8 : A16u64 → Int → Option A16u64) => (bif (decide (l5i10 < (a0.length : Int))) then (lt (fun (j10A3_0 : A16u64) => (kk8 j10A3_0 (IntKind.i64.wrap (l5i10 + (1 : Int))))) fun (kk11 : A16u64 → Option A16u64) => (opt (at? a0 l5i10) fun (u12 : A16u64) => (f_bloom_Join_L18 kk11 u12 fu l5A3_0 (0 : Int)))) else (kk4 l5A3_0)))
def f_bloom_Join (fu : Nat) (a0 : (List A16u64)) : Option A16u64 := (lt (fun (j3A3_0 : A16u64) => (some j3A3_0)) fun (kk4 : A16u64 → Option A16u64) => (f_bloom_Join_L7 a0 kk4 fu fu (A16u64.mk (0 : Int) (0 : Int) (0 : Int) (0 : Int) (0 : Int) (0 : Int) (0 : Int) (0 : Int) (0 : Int) (0 : Int) (0 : Int) (0 : Int) (0 : Int) (0 : Int) (0 : Int) (0 : Int)) (0 : Int)))
set_option maxRecDepth 100000 in
theorem f_bloom_Join_ok (fu : Nat) (v0_0 : Value) (a0 : (List A16u64)) {r : A16u64} (h : f_bloom_Join fu a0 = some r) : FnOk Try.prog 8 [v0_0] [(fDat (tyList tyA16u64) [v0_0] a0)] [] (fun (i : Unit) => { val := (ag (cA16u64 r)) }) := by
  unfold f_bloom_Join at h
  refine fn_enter Try.func8 rfl Try.ntmps8 rfl (fun w0 Z0 => ?_)
  refine aw_seq ?_
  refine aw_region ?_
  refine al_alloc (zs := (cA16u64 (A16u64.mk (0 : Int) (0 : Int) (0 : Int) (0 : Int) (0 : Int) (0 : Int) (0 : Int) (0 : Int) (0 : Int) (0 : Int) (0 : Int) (0 : Int) (0 : Int) (0 : Int) (0 : Int) (0 : Int)))) (zeroOf_to to24) rfl rfl (fun g1 => ?_)
  refine al_nil ?_
  refine aq_then ?_
  refine aw_seq ?_
  refine aw_region ?_
  refine al_alloc (zs := (cA16u64 (A16u64.mk (0 : Int) (0 : Int) (0 : Int) (0 : Int) (0 : Int) (0 : Int) (0 : Int) (0 : Int) (0 : Int) (0 : Int) (0 : Int) (0 : Int) (0 : Int) (0 : Int) (0 : Int) (0 : Int)))) (zeroOf_to to24) rfl rfl (fun g2 => ?_)
  refine al_nil ?_
  refine aq_then ?_
  obtain ⟨kk4, hkk4, h⟩ := lt_some h
  refine aw_seq_join (ι := A16u64) (fun i => (memOf w0 Z0 [] [(oBox g1 24 (cA16u64 (A16u64.mk (0 : Int) (0 : Int) (0 : Int) (0 : Int) (0 : Int) (0 : Int) (0 : Int) (0 : Int) (0 : Int) (0 : Int) (0 : Int) (0 : Int) (0 : Int) (0 : Int) (0 : Int) (0 : Int)))), (oBox g2 24 (cA16u64 i))] [(fDat (tyList tyA16u64) [v0_0] a0)])) (fun i => (tab [(2, (ptr g1 0)), (3, (ptr g2 0))])) (fun i => kk4 i = some r) ?_ ?_
  · rintro j3A3_0 h
    have h : kk4 j3A3_0 = some r := h
    rw [hkk4] at h
    dsimp only at h
    clear hkk4
    refine aw_show (m := (memOf w0 Z0 [] [(oBox g1 24 (cA16u64 (A16u64.mk (0 : Int) (0 : Int) (0 : Int) (0 : Int) (0 : Int) (0 : Int) (0 : Int) (0 : Int) (0 : Int) (0 : Int) (0 : Int) (0 : Int) (0 : Int) (0 : Int) (0 : Int) (0 : Int)))), (oBox g2 24 (cA16u64 j3A3_0))] [(fDat (tyList tyA16u64) [v0_0] a0)])) (S := (tab [(2, (ptr g1 0)), (3, (ptr g2 0))])) ?_
    refine aw_seq ?_
    refine aw_region ?_
    refine al_val (ov_load (i := 1) (v := (ag (cA16u64 j3A3_0))) rfl rfl Try.underlying24 sz24 rfl rfl rfl rfl) ?_
    refine al_store (i := 0) (vs := (cA16u64 j3A3_0)) (cs' := (cA16u64 j3A3_0)) rfl rfl rfl sz24 (cv_rfl rfl) rfl (co_all (oneA16u64 j3A3_0)) (Nat.le_of_ble_eq_true rfl) rfl rfl ?_
    refine al_nil ?_
    refine aq_then ?_
    refine aw_ret ?_
    obtain rfl := Option.some.inj h
    exact fn_ret () [] [] rfl rfl rfl rfl (resC rfl (resB (i := 0) rfl rfl Try.underlying24 sz24 rfl rfl rfl (resN)) rfl) rfl rfl rfl (by decide)
  · clear hkk4
    refine aw_seq ?_
    refine aw_region ?_
    refine al_val (ov_move rfl rfl) ?_
    refine al_val (ov_lenD 0 rfl rfl Try.underlying61 rfl) ?_
    refine al_val (ov_move rfl rfl) ?_
    refine al_nil ?_
    refine aq_then ?_
    refine aw_block ?_
    refine aw_state (aw_loop (ι := A16u64 × Int) (fun i => (memOf w0 Z0 [] [(oBox g1 24 (cA16u64 (A16u64.mk (0 : Int) (0 : Int) (0 : Int) (0 : Int) (0 : Int) (0 : Int) (0 : Int) (0 : Int) (0 : Int) (0 : Int) (0 : Int) (0 : Int) (0 : Int) (0 : Int) (0 : Int) (0 : Int)))), (oBox g2 24 (cA16u64 i.1))] [(fDat (tyList tyA16u64) [v0_0] a0)])) (fun i => (tab [(2, (ptr g1 0)), (3, (ptr g2 0)), (8, v0_0), (9, (Value.int .i64 (a0.length : Int))), (10, (Value.int .i64 i.2))])) (fun q i => f_bloom_Join_L7 a0 kk4 fu q i.1 i.2 = some r) ?_ fu ((A16u64.mk (0 : Int) (0 : Int) (0 : Int) (0 : Int) (0 : Int) (0 : Int) (0 : Int) (0 : Int) (0 : Int) (0 : Int) (0 : Int) (0 : Int) (0 : Int) (0 : Int) (0 : Int) (0 : Int)), (0 : Int)) h) (fun w a hm hs => norm hm hs [1, 0] [0] [(2, (ptr g1 0)), (3, (ptr g2 0)), (8, v0_0), (9, (Value.int .i64 (a0.length : Int))), (10, (Value.int .i64 (0 : Int)))] (by decide) ⟨rfl, rfl, rfl, rfl, rfl, trivial⟩)
    clear h
    rintro k6 ⟨l5A3_0, l5i10⟩ h
    have h : f_bloom_Join_L7 a0 kk4 fu k6 l5A3_0 l5i10 = some r := h
    obtain _ | k6 := k6
    · rw [f_bloom_Join_L7] at h; cases h
    rw [f_bloom_Join_L7] at h
    refine aw_show (m := (memOf w0 Z0 [] [(oBox g1 24 (cA16u64 (A16u64.mk (0 : Int) (0 : Int) (0 : Int) (0 : Int) (0 : Int) (0 : Int) (0 : Int) (0 : Int) (0 : Int) (0 : Int) (0 : Int) (0 : Int) (0 : Int) (0 : Int) (0 : Int) (0 : Int)))), (oBox g2 24 (cA16u64 l5A3_0))] [(fDat (tyList tyA16u64) [v0_0] a0)])) (S := (tab [(2, (ptr g1 0)), (3, (ptr g2 0)), (8, v0_0), (9, (Value.int .i64 (a0.length : Int))), (10, (Value.int .i64 l5i10))])) ?_
    obtain ⟨kk8, hkk8, h⟩ := lt_some h
    refine aw_body_join (ι := A16u64 × Int) (fun i => (memOf w0 Z0 [] [(oBox g1 24 (cA16u64 (A16u64.mk (0 : Int) (0 : Int) (0 : Int) (0 : Int) (0 : Int) (0 : Int) (0 : Int) (0 : Int) (0 : Int) (0 : Int) (0 : Int) (0 : Int) (0 : Int) (0 : Int) (0 : Int) (0 : Int)))), (oBox g2 24 (cA16u64 i.1))] [(fDat (tyList tyA16u64) [v0_0] a0)])) (fun i => (tab [(2, (ptr g1 0)), (3, (ptr g2 0)), (8, v0_0), (9, (Value.int .i64 (a0.length : Int))), (10, (Value.int .i64 i.2))])) (fun i => kk8 i.1 i.2 = some r) (fun i h => aq_again k6 i (Nat.lt_succ_self _) (by rw [hkk8] at h; exact h) (fun w a hm hs => ⟨hm, hs⟩)) ?_
    clear hkk8
    refine aw_seq ?_
    refine aw_region ?_
    refine al_val (ov_int rfl rfl rfl rfl) ?_
    refine al_nil ?_
    refine aq_then ?_
    refine aw_seq ?_
    refine aw_cond rfl (fun hb9 => ?_) (fun hb9 => ?_)
    · replace h := bif_t hb9 h
      refine aw_skip ?_
      refine aq_then ?_
      obtain ⟨kk11, hkk11, h⟩ := lt_some h
      refine aw_seq_join (ι := A16u64) (fun i => (memOf w0 Z0 [] [(oBox g1 24 (cA16u64 (A16u64.mk (0 : Int) (0 : Int) (0 : Int) (0 : Int) (0 : Int) (0 : Int) (0 : Int) (0 : Int) (0 : Int) (0 : Int) (0 : Int) (0 : Int) (0 : Int) (0 : Int) (0 : Int) (0 : Int)))), (oBox g2 24 (cA16u64 i))] [(fDat (tyList tyA16u64) [v0_0] a0)])) (fun i => (tab [(2, (ptr g1 0)), (3, (ptr g2 0)), (8, v0_0), (9, (Value.int .i64 (a0.length : Int))), (10, (Value.int .i64 l5i10))])) (fun i => kk11 i = some r) ?_ ?_
      · rintro j10A3_0 h
        have h : kk11 j10A3_0 = some r := h
        rw [hkk11] at h
        dsimp only at h
        clear hkk11
        refine aw_show (m := (memOf w0 Z0 [] [(oBox g1 24 (cA16u64 (A16u64.mk (0 : Int) (0 : Int) (0 : Int) (0 : Int) (0 : Int) (0 : Int) (0 : Int) (0 : Int) (0 : Int) (0 : Int) (0 : Int) (0 : Int) (0 : Int) (0 : Int) (0 : Int) (0 : Int)))), (oBox g2 24 (cA16u64 j10A3_0))] [(fDat (tyList tyA16u64) [v0_0] a0)])) (S := (tab [(2, (ptr g1 0)), (3, (ptr g2 0)), (8, v0_0), (9, (Value.int .i64 (a0.length : Int))), (10, (Value.int .i64 l5i10))])) ?_
        refine aw_region ?_
        refine al_val (ov_int rfl rfl rfl rfl) ?_
        refine al_val (ov_move rfl rfl) ?_
        refine al_nil ?_
        exact aq_join (j10A3_0, (IntKind.i64.wrap (l5i10 + (1 : Int)))) h (fun w a hm hs => norm hm hs [0, 1] [0] [(2, (ptr g1 0)), (3, (ptr g2 0)), (8, v0_0), (9, (Value.int .i64 (a0.length : Int))), (10, (Value.int .i64 (IntKind.i64.wrap (l5i10 + (1 : Int)))))] (by decide) ⟨rfl, rfl, rfl, rfl, rfl, trivial⟩)
      · clear hkk11
        refine aw_block ?_
        refine aw_seq ?_
        refine aw_region ?_
        obtain ⟨u12, hu13, h⟩ := opt_some h
        refine al_idxD 0 hu13 rfl rfl rfl Try.underlying61 sz24 rfl (fun p14 => ?_)
        refine al_val (ov_loadP (ds := (cA16u64 u12)) 0 rfl encA16u64 rfl Try.underlying24 sz24 rfl rfl rfl) ?_
        refine al_alloc (zs := (cA16u64 (A16u64.mk (0 : Int) (0 : Int) (0 : Int) (0 : Int) (0 : Int) (0 : Int) (0 : Int) (0 : Int) (0 : Int) (0 : Int) (0 : Int) (0 : Int) (0 : Int) (0 : Int) (0 : Int) (0 : Int)))) (zeroOf_to to24) rfl rfl (fun g15 => ?_)
        refine al_store (i := 0) (vs := (cA16u64 u12)) (cs' := (cA16u64 u12)) rfl rfl rfl sz24 (cv_rfl rfl) rfl (co_all (oneA16u64 u12)) (Nat.le_of_ble_eq_true rfl) rfl rfl ?_
        refine al_nil ?_
        refine aq_then ?_
        refine aw_seq ?_
        refine aw_region ?_
        refine al_val (ov_load (i := 0) (v := (ag (cA16u64 u12))) rfl rfl Try.underlying24 sz24 rfl rfl rfl rfl) ?_
        refine al_val (ov_move rfl rfl) ?_
        refine al_nil ?_
        refine aq_then ?_
        refine aw_block ?_
        refine aw_state (aw_loop (ι := A16u64 × Int) (fun i => (memOf w0 Z0 [] [(oBox g1 24 (cA16u64 (A16u64.mk (0 : Int) (0 : Int) (0 : Int) (0 : Int) (0 : Int) (0 : Int) (0 : Int) (0 : Int) (0 : Int) (0 : Int) (0 : Int) (0 : Int) (0 : Int) (0 : Int) (0 : Int) (0 : Int)))), (oBox g2 24 (cA16u64 i.1))] [(fDat (tyList tyA16u64) [v0_0] a0), (fPtr tyA16u64 p14 u12)])) (fun i => (tab [(2, (ptr g1 0)), (3, (ptr g2 0)), (8, v0_0), (9, (Value.int .i64 (a0.length : Int))), (10, (Value.int .i64 l5i10)), (14, (ag (cA16u64 u12))), (15, (Value.int .i64 i.2))])) (fun q i => f_bloom_Join_L18 kk11 u12 q i.1 i.2 = some r) ?_ fu (l5A3_0, (0 : Int)) h) (fun w a hm hs => norm hm hs [1, 2] [1, 0] [(2, (ptr g1 0)), (3, (ptr g2 0)), (8, v0_0), (9, (Value.int .i64 (a0.length : Int))), (10, (Value.int .i64 l5i10)), (14, (ag (cA16u64 u12))), (15, (Value.int .i64 (0 : Int)))] (by decide) ⟨rfl, rfl, rfl, rfl, rfl, rfl, rfl, trivial⟩)
        clear h
        rintro k17 ⟨l16A3_0, l16i15⟩ h
        have h : f_bloom_Join_L18 kk11 u12 k17 l16A3_0 l16i15 = some r := h
        obtain _ | k17 := k17
        · rw [f_bloom_Join_L18] at h; cases h
        rw [f_bloom_Join_L18] at h
        refine aw_show (m := (memOf w0 Z0 [] [(oBox g1 24 (cA16u64 (A16u64.mk (0 : Int) (0 : Int) (0 : Int) (0 : Int) (0 : Int) (0 : Int) (0 : Int) (0 : Int) (0 : Int) (0 : Int) (0 : Int) (0 : Int) (0 : Int) (0 : Int) (0 : Int) (0 : Int)))), (oBox g2 24 (cA16u64 l16A3_0))] [(fDat (tyList tyA16u64) [v0_0] a0), (fPtr tyA16u64 p14 u12)])) (S := (tab [(2, (ptr g1 0)), (3, (ptr g2 0)), (8, v0_0), (9, (Value.int .i64 (a0.length : Int))), (10, (Value.int .i64 l5i10)), (14, (ag (cA16u64 u12))), (15, (Value.int .i64 l16i15))])) ?_
        refine aw_seq ?_
        refine aw_region ?_
        refine al_val (ov_int rfl rfl rfl rfl) ?_
        refine al_nil ?_
        refine aq_then ?_
        refine aw_seq ?_
        refine aw_cond rfl (fun hb19 => ?_) (fun hb19 => ?_)
        · replace h := bif_t hb19 h
          refine aw_skip ?_
          refine aq_then ?_
          refine aw_seq ?_
          refine aw_block ?_
          refine aw_seq ?_
          refine aw_region ?_
          refine al_val (ov_move rfl rfl) ?_
          obtain ⟨u20, hu21, h⟩ := opt_some h
          refine al_val (v := (Value.int .u64 u20)) (ov_idxAgg (u := u20) (enc := vA16u64) (xs := lA16u64 u12) hu21 rfl rfl rfl rfl Try.underlying24 Try.underlying22 rfl sz22 rfl) ?_
          refine al_val (ov_assign rfl rfl) ?_
          refine al_val (ov_assign rfl rfl) ?_
          refine al_nil ?_
          refine aq_then ?_
          refine aw_region ?_
          refine al_val (ov_move rfl rfl) ?_
          obtain ⟨u22, hu23, h⟩ := opt_some h
          refine al_val (ov_idxArrV hu23 rfl rfl rfl Try.underlying24 sz22 rfl) ?_
          refine al_val (v := (Value.int .u64 u22)) (ov_loadV (enc := vA16u64) (xs := lA16u64 l16A3_0) 1 rfl rfl Try.underlying22 sz22 rfl rfl hu23 rfl) ?_
          refine al_val (ov_move rfl rfl) ?_
          refine al_val (ov_int rfl rfl rfl rfl) ?_
          obtain ⟨u24, hu25, h⟩ := opt_some h
          refine al_val (ov_idxArrV hu25 rfl rfl rfl Try.underlying24 sz22 rfl) ?_
          refine al_storeV (cs := (cA16u64 l16A3_0)) (cs' := (cA16u64 (setA16u64 l16A3_0 l16i15 (bits .or .u64 u22 u20)))) 1 rfl rfl rfl sz22 rfl (by have h1 := (at_some hu25).2.1; have h0 := (at_some hu25).1; have h2 : ((lA16u64 l16A3_0).length : Int) = 16 := rfl; show 0 + (l16i15).toNat < 16; omega) (csetA16u64 (at_some hu25).1 (at_some hu25).2.1 [] []) rfl ?_
          refine al_nil ?_
          refine aq_block ?_
          refine aq_then ?_
          refine aw_region ?_
          refine al_val (ov_int rfl rfl rfl rfl) ?_
          refine al_val (ov_move rfl rfl) ?_
          refine al_nil ?_
          exact aq_again k17 ((setA16u64 l16A3_0 l16i15 (bits .or .u64 u22 u20)), (IntKind.i64.wrap (l16i15 + (1 : Int)))) (Nat.lt_succ_self _) h (fun w a hm hs => norm hm hs [0, 1] [0, 1] [(2, (ptr g1 0)), (3, (ptr g2 0)), (8, v0_0), (9, (Value.int .i64 (a0.length : Int))), (10, (Value.int .i64 l5i10)), (14, (ag (cA16u64 u12))), (15, (Value.int .i64 (IntKind.i64.wrap (l16i15 + (1 : Int)))))] (by decide) ⟨rfl, rfl, rfl, rfl, rfl, rfl, rfl, trivial⟩)
        · replace h := bif_f hb19 h
          refine aw_exit ?_
          refine aq_then_exit ?_
          refine aq_then_exit ?_
          refine aq_block_exit ?_
          refine aq_block ?_
          exact aq_join l16A3_0 h (fun w a hm hs => norm hm hs [0, 1] [0] [(2, (ptr g1 0)), (3, (ptr g2 0)), (8, v0_0), (9, (Value.int .i64 (a0.length : Int))), (10, (Value.int .i64 l5i10))] (by decide) ⟨rfl, rfl, rfl, rfl, rfl, trivial⟩)
    · replace h := bif_f hb9 h
      refine aw_exit ?_
      refine aq_then_exit ?_
      refine aq_then_exit ?_
      refine aq_block_exit ?_
      exact aq_join l5A3_0 h (fun w a hm hs => norm hm hs [0, 1] [0] [(2, (ptr g1 0)), (3, (ptr g2 0))] (by decide) ⟨rfl, rfl, trivial⟩)
def f_lumref_number : Nat → (List UInt8) → Option Int
  | 0, _ => none
  | fu + 1, a0 => (bif (a0 == ([] : List UInt8)) then (some (0 : Int)) else (req (0 ≤ (IntKind.i64.wrap ((a0.length : Int) - (1 : Int))) ∧ (IntKind.i64.wrap ((a0.length : Int) - (1 : Int))) ≤ (a0.length : Int)) (opt (f_lumref_number fu (a0.take ((IntKind.i64.wrap ((a0.length : Int) - (1 : Int)))).toNat)) fun (r4 : Int) => (req (0 ≤ (IntKind.i64.wrap ((a0.length : Int) - (1 : Int))) ∧ (IntKind.i64.wrap ((a0.length : Int) - (1 : Int))) < (a0.length : Int)) (some (IntKind.u64.wrap ((IntKind.u64.wrap ((256 : Int) * r4)) + (IntKind.u64.wrap (En.bAt a0 (IntKind.i64.wrap ((a0.length : Int) - (1 : Int))))))))))))
set_option maxRecDepth 100000 in
theorem f_lumref_number_ok (fu : Nat) (a0 : (List UInt8)) {r : Int} (h : f_lumref_number fu a0 = some r) : FnOk Try.prog 30 [(str a0)] [] [] (fun (i : Unit) => { val := (Value.int .u64 r) }) := by
  cases fu with
  | zero => rw [f_lumref_number] at h; cases h
  | succ fu =>
    rw [f_lumref_number] at h
    refine fn_enter Try.func30 rfl Try.ntmps30 rfl (fun w0 Z0 => ?_)
    refine aw_seq ?_
    refine aw_region ?_
    refine al_val (ov_assign rfl rfl) ?_
    refine al_nil ?_
    refine aq_then ?_
    refine aw_seq ?_
    refine aw_seq ?_
    refine aw_region ?_
    refine al_val (ov_move rfl rfl) ?_
    refine al_val (ov_strCmp rfl rfl rfl rfl) ?_
    refine al_nil ?_
    refine aq_then ?_
    refine aw_cond rfl (fun hb1 => ?_) (fun hb1 => ?_)
    · replace h := bif_t hb1 h
      refine aw_seq ?_
      refine aw_region ?_
      refine al_val (ov_assign rfl rfl) ?_
      refine al_nil ?_
      refine aq_then ?_
      refine aw_ret ?_
      refine aq_then_ret ?_
      obtain rfl := Option.some.inj h
      exact fn_ret () [] [] rfl rfl rfl rfl (res1 rfl rfl) rfl rfl rfl (by decide)
    · replace h := bif_f hb1 h
      refine aw_skip ?_
      refine aq_then ?_
      refine aw_seq ?_
      obtain ⟨hc2, h⟩ := req_some h
      obtain ⟨r4, hc3, h⟩ := opt_some h
      obtain ⟨hc5, h⟩ := req_some h
      refine aw_region_draw 14 [(5, (fun u => fEq u (str a0))), (6, (fun u => fEq u (str a0))), (7, (fun u => fEq u (Value.int .i64 (a0.length : Int)))), (8, (fun u => fEq u (Value.int .i64 (IntKind.i64.wrap ((a0.length : Int) - (1 : Int)))))), (9, (fun u => fEq u (str (a0.take ((IntKind.i64.wrap ((a0.length : Int) - (1 : Int)))).toNat)))), (10, (fun u => fEq u (Value.int .u64 r4))), (11, (fun u => fEq u (Value.int .u64 (IntKind.u64.wrap ((256 : Int) * r4))))), (12, (fun u => fEq u (str a0))), (13, (fun u => fEq u (str a0))), (14, (fun u => fEq u (Value.int .i64 (a0.length : Int)))), (15, (fun u => fEq u (Value.int .i64 (IntKind.i64.wrap ((a0.length : Int) - (1 : Int)))))), (16, (fun u => fEq u (Value.int .u8 (En.bAt a0 (IntKind.i64.wrap ((a0.length : Int) - (1 : Int))))))), (17, (fun u => fEq u (Value.int .u64 (IntKind.u64.wrap (En.bAt a0 (IntKind.i64.wrap ((a0.length : Int) - (1 : Int)))))))), (18, (fun u => fEq u (Value.int .u64 (IntKind.u64.wrap ((IntKind.u64.wrap ((256 : Int) * r4)) + (IntKind.u64.wrap (En.bAt a0 (IntKind.i64.wrap ((a0.length : Int) - (1 : Int))))))))))] (tab [(0, (str a0)), (2, (Value.int .u64 (0 : Int)))]) mixed (by kernel_rfl) rfl rfl rfl (fun a hs => hs.tab _ (allT_mem ⟨rfl, rfl, trivial⟩)) ⟨⟨rfl, ld_val (ov_move rfl rfl)⟩, ⟨rfl, ld_val (ov_move rfl rfl)⟩, ⟨rfl, ld_eq (j := 1) rfl rfl (ld_val (ov_strLen Try.underlying9 rfl rfl))⟩, ⟨rfl, ld_eq (j := 2) rfl rfl (ld_val (ov_int rfl rfl rfl rfl))⟩, ⟨rfl, ld_eq (j := 0) rfl rfl (ld_eq (j := 3) rfl rfl (ld_val (ov_strTo hc2.1 hc2.2 Try.underlying9 rfl rfl rfl)))⟩, ⟨rfl, ld_eq (j := 4) rfl rfl (ld_callV (vs := [(str (a0.take ((IntKind.i64.wrap ((a0.length : Int) - (1 : Int)))).toNat))]) (f_lumref_number_ok fu (a0.take ((IntKind.i64.wrap ((a0.length : Int) - (1 : Int)))).toNat) hc3) [] pre_nil rfl Try.func30 rfl rfl rfl)⟩, ⟨rfl, ld_eq (j := 5) rfl rfl (ld_val (ov_int rfl rfl rfl rfl))⟩, ⟨rfl, ld_val (ov_move rfl rfl)⟩, ⟨rfl, ld_val (ov_move rfl rfl)⟩, ⟨rfl, ld_eq (j := 8) rfl rfl (ld_val (ov_strLen Try.underlying9 rfl rfl))⟩, ⟨rfl, ld_eq (j := 9) rfl rfl (ld_val (ov_int rfl rfl rfl rfl))⟩, ⟨rfl, ld_eq (j := 7) rfl rfl (ld_eq (j := 10) rfl rfl (ld_val (ov_strIdx hc5.1 hc5.2 Try.underlying9 rfl rfl rfl)))⟩, ⟨rfl, ld_eq (j := 11) rfl rfl (ld_val (ov_convInt (by rw [Try.underlying5]; rfl) Try.underlying22 rfl rfl))⟩, ⟨rfl, ld_eq (j := 6) rfl rfl (ld_eq (j := 12) rfl rfl (ld_val (ov_int rfl rfl rfl rfl)))⟩, trivial⟩ ?_
      refine tl_eq 13 rfl ?_
      refine tl_done ?_
      refine al_val (ov_assign rfl rfl) ?_
      refine al_nil ?_
      refine aq_then ?_
      refine aw_ret ?_
      obtain rfl := Option.some.inj h
      exact fn_ret () [] [] rfl rfl rfl rfl (res1 rfl rfl) rfl rfl rfl (by decide)
def f_lumref_Mark (fu : Nat) (a0 : A8u8) (a1 : Int) : Option Int := (opt (f_lumref_number fu ((lA8u8 a0).take ((4 : Int)).toNat)) fun (r4 : Int) => (opt (f_lumref_number fu ((lA8u8 a0).drop ((4 : Int)).toNat)) fun (r7 : Int) => (some (IntKind.i64.wrap (((IntKind.u64.wrap (r4 + (IntKind.u64.wrap ((IntKind.u64.wrap a1) * r7))))).tmod (1024 : Int))))))
set_option maxRecDepth 100000 in
theorem f_lumref_Mark_ok (fu : Nat) (a0 : A8u8) (a1 : Int) {r : Int} (h : f_lumref_Mark fu a0 a1 = some r) : FnOk Try.prog 9 [(ag (cA8u8 a0)), (Value.int .i64 a1)] [] [] (fun (i : Unit) => { val := (Value.int .i64 r) }) := by
  unfold f_lumref_Mark at h
  refine fn_enter Try.func9 rfl Try.ntmps9 rfl (fun w0 Z0 => ?_)
  refine aw_seq ?_
  refine aw_region ?_
  refine al_box (vs := (cA8u8 a0)) rfl (cv_rfl rfl) rfl (fun g1 => ?_)
  refine al_val (ov_assign rfl rfl) ?_
  refine al_nil ?_
  refine aq_then ?_
  refine aw_seq ?_
  refine aw_freezeB 0 (a0) rfl rfl (fun _ _ => mkA8u8 rfl) ?_
  obtain ⟨r4, hc3, h⟩ := opt_some h
  obtain ⟨r7, hc6, h⟩ := opt_some h
  refine aw_region_draw 7 [(7, (fun s2 => (fDat (tyList tyU8) [s2] ((lA8u8 a0).take ((4 : Int)).toNat)))), (8, (fun u => fEq u (str ((lA8u8 a0).take ((4 : Int)).toNat)))), (9, (fun u => fEq u (Value.int .u64 r4))), (10, (fun s5 => (fDat (tyList tyU8) [s5] ((lA8u8 a0).drop ((4 : Int)).toNat)))), (11, (fun u => fEq u (str ((lA8u8 a0).drop ((4 : Int)).toNat)))), (12, (fun u => fEq u (Value.int .u64 r7))), (5, (fun u => fEq u (Value.int .u64 r4)))] (tab [(1, (Value.int .i64 a1)), (2, (ptr g1 0))]) mixed (by kernel_rfl) rfl rfl rfl (fun a hs => hs.tab _ (allT_mem ⟨rfl, rfl, trivial⟩)) ⟨⟨rfl, ld_of (of_slicePT 0 (xs := (lA8u8 a0)) (by decide) (by show (4 : Int) ≤ 8; decide) lrepA8u8 rfl rfl rfl rfl rfl Try.underlying26 sz5 rfl)⟩, ⟨rfl, ld_fact (j := 0) rfl rfl (fun s2 => ld_val (ov_toStr 0 rfl rfl Try.underlying62 Try.underlying5 Try.underlying9 rfl))⟩, ⟨rfl, ld_eq (j := 1) rfl rfl (ld_callV (vs := [(str ((lA8u8 a0).take ((4 : Int)).toNat))]) (f_lumref_number_ok fu ((lA8u8 a0).take ((4 : Int)).toNat) hc3) [] pre_nil rfl Try.func30 rfl rfl rfl)⟩, ⟨rfl, ld_of (of_slicePF 0 (xs := (lA8u8 a0)) (by decide) (by show (4 : Int) ≤ 8; decide) lrepA8u8 rfl rfl rfl rfl rfl Try.underlying26 sz5 rfl)⟩, ⟨rfl, ld_fact (j := 3) rfl rfl (fun s5 => ld_val (ov_toStr 0 rfl rfl Try.underlying62 Try.underlying5 Try.underlying9 rfl))⟩, ⟨rfl, ld_eq (j := 4) rfl rfl (ld_callV (vs := [(str ((lA8u8 a0).drop ((4 : Int)).toNat))]) (f_lumref_number_ok fu ((lA8u8 a0).drop ((4 : Int)).toNat) hc6) [] pre_nil rfl Try.func30 rfl rfl rfl)⟩, ⟨rfl, ld_eq (j := 2) rfl rfl (ld_val (ov_assign rfl rfl))⟩, trivial⟩ ?_
  refine tl_eq 5 rfl ?_
  refine tl_eq 6 rfl ?_
  refine tl_done ?_
  refine al_val (ov_assign rfl rfl) ?_
  refine al_nil ?_
  refine aq_then ?_
  refine aw_seq ?_
  refine aw_region ?_
  refine al_val (ov_move rfl rfl) ?_
  refine al_val (ov_move rfl rfl) ?_
  refine al_val (ov_convInt (by rw [Try.underlying3]; rfl) Try.underlying22 rfl rfl) ?_
  refine al_val (ov_move rfl rfl) ?_
  refine al_val (ov_int rfl rfl rfl rfl) ?_
  refine al_val (ov_int rfl rfl rfl rfl) ?_
  refine al_val (ov_rem (by decide) rfl rfl rfl) ?_
  refine al_val (ov_convInt (by rw [Try.underlying22]; rfl) Try.underlying3 rfl rfl) ?_
  refine al_val (ov_assign rfl rfl) ?_
  refine al_nil ?_
  refine aq_then ?_
  refine aw_ret ?_
  obtain rfl := Option.some.inj h
  exact fn_ret () [] [] rfl rfl rfl rfl (res1 rfl rfl) rfl rfl rfl (by decide)
def f_lumref_Bit (fu : Nat) (a0 : A16u64) (a1 : Int) : Option Bool := (opt (at? (lA16u64 a0) (IntKind.i64.wrap ((a1).tdiv (64 : Int)))) fun (u2 : Int) => (req (0 ≤ ((a1).tmod (64 : Int))) (some ((bits .and .u64 ((u2).fdiv (2 ^ min (((a1).tmod (64 : Int))).toNat (IntKind.bits .u64))) (1 : Int)) == (1 : Int)))))
set_option maxRecDepth 100000 in
theorem f_lumref_Bit_ok (fu : Nat) (a0 : A16u64) (a1 : Int) {r : Bool} (h : f_lumref_Bit fu a0 a1 = some r) : FnOk Try.prog 10 [(ag (cA16u64 a0)), (Value.int .i64 a1)] [] [] (fun (i : Unit) => { val := (Value.bool r) }) := by
  unfold f_lumref_Bit at h
  refine fn_enter Try.func10 rfl Try.ntmps10 rfl (fun w0 Z0 => ?_)
  refine aw_seq ?_
  refine aw_region ?_
  refine al_box (vs := (cA16u64 a0)) rfl (cv_rfl rfl) rfl (fun g1 => ?_)
  refine al_val (ov_assign rfl rfl) ?_
  refine al_nil ?_
  refine aq_then ?_
  refine aw_seq ?_
  refine aw_region ?_
  refine al_val (ov_move rfl rfl) ?_
  refine al_val (ov_quo (by decide) rfl rfl rfl) ?_
  obtain ⟨u2, hu3, h⟩ := opt_some h
  refine al_val (ov_idxArrV hu3 rfl rfl rfl Try.underlying24 sz22 rfl) ?_
  refine al_val (v := (Value.int .u64 u2)) (ov_loadV (enc := vA16u64) (xs := lA16u64 a0) 0 rfl rfl Try.underlying22 sz22 rfl rfl hu3 rfl) ?_
  refine al_val (ov_move rfl rfl) ?_
  refine al_val (ov_rem (by decide) rfl rfl rfl) ?_
  obtain ⟨hc4, h⟩ := req_some h
  refine al_val (ov_shr hc4 rfl rfl rfl) ?_
  refine al_val (ov_int rfl rfl rfl rfl) ?_
  refine al_val (ov_int rfl rfl rfl rfl) ?_
  refine al_val (ov_assign rfl rfl) ?_
  refine al_nil ?_
  refine aq_then ?_
  refine aw_ret ?_
  obtain rfl := Option.some.inj h
  exact fn_ret () [] [] rfl rfl rfl rfl (res1 rfl rfl) rfl rfl rfl (by decide)
def f_bloom_Has_L9 (a0 : A16u64) (kk4 : (Unit → Option Bool)) (r6 : A4u32) : Nat → Int → Option Bool
  | 0, _ => none
  | k8 + 1, l7i9 => (bif (decide (l7i9 < (4 : Int))) then (opt (at? (lA4u32 r6) l7i9) fun (u11 : Int) => (opt (at? (lA16u64 a0) (IntKind.u32.wrap ((u11).tdiv (64 : Int)))) fun (u13 : Int) => (req (0 ≤ ((u11).tmod (64 : Int))) (bif ((bits .and .u64 ((u13).fdiv (2 ^ min (((u11).tmod (64 : Int))).toNat (IntKind.bits .u64))) (1 : Int)) == (0 : Int)) then (some false) else (f_bloom_Has_L9 a0 kk4 r6 k8 (IntKind.i64.wrap (l7i9 + (1 : Int)))))))) else (kk4 ()))
def f_bloom_Has (fu : Nat) (a0 : A16u64) (a1 : A8u8) : Option Bool := (lt (fun (_ : Unit) => (some true)) fun (kk4 : Unit → Option Bool) => (opt (f_bloom_positions fu a1) fun (r6 : A4u32) => (f_bloom_Has_L9 a0 kk4 r6 fu (0 : Int))))
set_option maxRecDepth 100000 in
theorem f_bloom_Has_ok (fu : Nat) (a0 : A16u64) (a1 : A8u8) {r : Bool} (h : f_bloom_Has fu a0 a1 = some r) : FnOk Try.prog 11 [(ag (cA16u64 a0)), (ag (cA8u8 a1))] [] [] (fun (i : Unit) => { val := (Value.bool r) }) := by
  unfold f_bloom_Has at h
  refine fn_enter Try.func11 rfl Try.ntmps11 rfl (fun w0 Z0 => ?_)
  refine aw_seq ?_
  refine aw_region ?_
  refine al_box (vs := (cA16u64 a0)) rfl (cv_rfl rfl) rfl (fun g1 => ?_)
  refine al_box (vs := (cA8u8 a1)) rfl (cv_rfl rfl) rfl (fun g2 => ?_)
  refine al_val (ov_assign rfl rfl) ?_
  refine al_nil ?_
  refine aq_then ?_
  obtain ⟨kk4, hkk4, h⟩ := lt_some h
  refine aw_seq_join (ι := Unit) (fun i => (memOf w0 Z0 [] [] [])) (fun i => (tab [])) (fun i => kk4 () = some r) ?_ ?_
  · rintro _ h
    have h : kk4 () = some r := h
    rw [hkk4] at h
    dsimp only at h
    clear hkk4
    refine aw_show (m := (memOf w0 Z0 [] [] [])) (S := (tab [])) ?_
    refine aw_seq ?_
    refine aw_region ?_
    refine al_val (ov_assign rfl rfl) ?_
    refine al_nil ?_
    refine aq_then ?_
    refine aw_ret ?_
    obtain rfl := Option.some.inj h
    exact fn_ret () [] [] rfl rfl rfl rfl (res1 rfl rfl) rfl rfl rfl (by decide)
  · clear hkk4
    refine aw_seq ?_
    refine aw_region ?_
    refine al_val (ov_load (i := 0) (v := (ag (cA8u8 a1))) rfl rfl Try.underlying26 sz26 rfl rfl rfl rfl) ?_
    obtain ⟨r6, hc5, h⟩ := opt_some h
    refine al_call (vs := [(ag (cA8u8 a1))]) (f_bloom_positions_ok fu a1 hc5) [] [] [0, 1] pre_nil rfl (by simp) (by decide) (.inl rfl) rfl Try.func29 rfl rfl rfl (fun _ => ?_)
    refine al_val (ov_move rfl rfl) ?_
    refine al_nil ?_
    refine aq_then ?_
    refine aw_block ?_
    refine aw_state (aw_loop (ι := Int) (fun i => (memOf w0 Z0 [] [(oBox g1 24 (cA16u64 a0))] [])) (fun i => (tab [(2, (ptr g1 0)), (8, (ag (cA4u32 r6))), (9, (Value.int .i64 i))])) (fun q i => f_bloom_Has_L9 a0 kk4 r6 q i = some r) ?_ fu (0 : Int) h) (fun w a hm hs => norm hm hs [1] [] [(2, (ptr g1 0)), (8, (ag (cA4u32 r6))), (9, (Value.int .i64 (0 : Int)))] (by decide) ⟨rfl, rfl, rfl, trivial⟩)
    clear h
    rintro k8 l7i9 h
    have h : f_bloom_Has_L9 a0 kk4 r6 k8 l7i9 = some r := h
    obtain _ | k8 := k8
    · rw [f_bloom_Has_L9] at h; cases h
    rw [f_bloom_Has_L9] at h
    refine aw_show (m := (memOf w0 Z0 [] [(oBox g1 24 (cA16u64 a0))] [])) (S := (tab [(2, (ptr g1 0)), (8, (ag (cA4u32 r6))), (9, (Value.int .i64 l7i9))])) ?_
    refine aw_seq ?_
    refine aw_region ?_
    refine al_val (ov_int rfl rfl rfl rfl) ?_
    refine al_nil ?_
    refine aq_then ?_
    refine aw_seq ?_
    refine aw_cond rfl (fun hb10 => ?_) (fun hb10 => ?_)
    · replace h := bif_t hb10 h
      refine aw_skip ?_
      refine aq_then ?_
      refine aw_seq ?_
      refine aw_block ?_
      refine aw_seq ?_
      refine aw_region ?_
      obtain ⟨u11, hu12, h⟩ := opt_some h
      refine al_val (v := (Value.int .u32 u11)) (ov_idxAgg (u := u11) (enc := vA4u32) (xs := lA4u32 r6) hu12 rfl rfl rfl rfl Try.underlying59 Try.underlying58 rfl sz58 rfl) ?_
      refine al_val (ov_assign rfl rfl) ?_
      refine al_nil ?_
      refine aq_then ?_
      refine aw_seq ?_
      refine aw_region ?_
      refine al_val (ov_move rfl rfl) ?_
      refine al_val (ov_quo (by decide) rfl rfl rfl) ?_
      obtain ⟨u13, hu14, h⟩ := opt_some h
      refine al_val (ov_idxArrV hu14 rfl rfl rfl Try.underlying24 sz22 rfl) ?_
      refine al_val (v := (Value.int .u64 u13)) (ov_loadV (enc := vA16u64) (xs := lA16u64 a0) 0 rfl rfl Try.underlying22 sz22 rfl rfl hu14 rfl) ?_
      refine al_val (ov_move rfl rfl) ?_
      refine al_val (ov_rem (by decide) rfl rfl rfl) ?_
      obtain ⟨hc15, h⟩ := req_some h
      refine al_val (ov_shr hc15 rfl rfl rfl) ?_
      refine al_val (ov_int rfl rfl rfl rfl) ?_
      refine al_val (ov_int rfl rfl rfl rfl) ?_
      refine al_nil ?_
      refine aq_then ?_
      refine aw_cond rfl (fun hb16 => ?_) (fun hb16 => ?_)
      · replace h := bif_t hb16 h
        refine aw_seq ?_
        refine aw_region ?_
        refine al_val (ov_assign rfl rfl) ?_
        refine al_nil ?_
        refine aq_then ?_
        refine aw_ret ?_
        refine aq_block_ret ?_
        refine aq_then_ret ?_
        refine aq_then_ret ?_
        refine aq_block_ret ?_
        refine aq_then_ret ?_
        obtain rfl := Option.some.inj h
        exact fn_ret () [] [] rfl rfl rfl rfl (res1 rfl rfl) rfl rfl rfl (by decide)
      · replace h := bif_f hb16 h
        refine aw_skip ?_
        refine aq_block ?_
        refine aq_then ?_
        refine aw_region ?_
        refine al_val (ov_int rfl rfl rfl rfl) ?_
        refine al_val (ov_move rfl rfl) ?_
        refine al_nil ?_
        exact aq_again k8 (IntKind.i64.wrap (l7i9 + (1 : Int))) (Nat.lt_succ_self _) h (fun w a hm hs => norm hm hs [0] [] [(2, (ptr g1 0)), (8, (ag (cA4u32 r6))), (9, (Value.int .i64 (IntKind.i64.wrap (l7i9 + (1 : Int)))))] (by decide) ⟨rfl, rfl, rfl, trivial⟩)
    · replace h := bif_f hb10 h
      refine aw_exit ?_
      refine aq_then_exit ?_
      refine aq_then_exit ?_
      refine aq_block_exit ?_
      exact aq_join () h (fun w a hm hs => norm hm hs [] [] [] (by decide) trivial)
def f_bits_OnesCount64 (fu : Nat) (a0 : Int) : Option Int := (some (bits .and .i64 (IntKind.i64.wrap (IntKind.u64.wrap ((IntKind.u64.wrap ((IntKind.u64.wrap ((bits .and .u64 (IntKind.u64.wrap ((((IntKind.u64.wrap ((bits .and .u64 (((IntKind.u64.wrap ((bits .and .u64 ((a0).fdiv (2 ^ min ((1 : Int)).toNat (IntKind.bits .u64))) (6148914691236517205 : Int)) + (bits .and .u64 a0 (6148914691236517205 : Int))))).fdiv (2 ^ min ((2 : Int)).toNat (IntKind.bits .u64))) (3689348814741910323 : Int)) + (bits .and .u64 (IntKind.u64.wrap ((bits .and .u64 ((a0).fdiv (2 ^ min ((1 : Int)).toNat (IntKind.bits .u64))) (6148914691236517205 : Int)) + (bits .and .u64 a0 (6148914691236517205 : Int)))) (3689348814741910323 : Int))))).fdiv (2 ^ min ((4 : Int)).toNat (IntKind.bits .u64))) + (IntKind.u64.wrap ((bits .and .u64 (((IntKind.u64.wrap ((bits .and .u64 ((a0).fdiv (2 ^ min ((1 : Int)).toNat (IntKind.bits .u64))) (6148914691236517205 : Int)) + (bits .and .u64 a0 (6148914691236517205 : Int))))).fdiv (2 ^ min ((2 : Int)).toNat (IntKind.bits .u64))) (3689348814741910323 : Int)) + (bits .and .u64 (IntKind.u64.wrap ((bits .and .u64 ((a0).fdiv (2 ^ min ((1 : Int)).toNat (IntKind.bits .u64))) (6148914691236517205 : Int)) + (bits .and .u64 a0 (6148914691236517205 : Int)))) (3689348814741910323 : Int)))))) (1085102592571150095 : Int)) + (((bits .and .u64 (IntKind.u64.wrap ((((IntKind.u64.wrap ((bits .and .u64 (((IntKind.u64.wrap ((bits .and .u64 ((a0).fdiv (2 ^ min ((1 : Int)).toNat (IntKind.bits .u64))) (6148914691236517205 : Int)) + (bits .and .u64 a0 (6148914691236517205 : Int))))).fdiv (2 ^ min ((2 : Int)).toNat (IntKind.bits .u64))) (3689348814741910323 : Int)) + (bits .and .u64 (IntKind.u64.wrap ((bits .and .u64 ((a0).fdiv (2 ^ min ((1 : Int)).toNat (IntKind.bits .u64))) (6148914691236517205 : Int)) + (bits .and .u64 a0 (6148914691236517205 : Int)))) (3689348814741910323 : Int))))).fdiv (2 ^ min ((4 : Int)).toNat (IntKind.bits .u64))) + (IntKind.u64.wrap ((bits .and .u64 (((IntKind.u64.wrap ((bits .and .u64 ((a0).fdiv (2 ^ min ((1 : Int)).toNat (IntKind.bits .u64))) (6148914691236517205 : Int)) + (bits .and .u64 a0 (6148914691236517205 : Int))))).fdiv (2 ^ min ((2 : Int)).toNat (IntKind.bits .u64))) (3689348814741910323 : Int)) + (bits .and .u64 (IntKind.u64.wrap ((bits .and .u64 ((a0).fdiv (2 ^ min ((1 : Int)).toNat (IntKind.bits .u64))) (6148914691236517205 : Int)) + (bits .and .u64 a0 (6148914691236517205 : Int)))) (3689348814741910323 : Int)))))) (1085102592571150095 : Int))).fdiv (2 ^ min ((8 : Int)).toNat (IntKind.bits .u64))))) + (((IntKind.u64.wrap ((bits .and .u64 (IntKind.u64.wrap ((((IntKind.u64.wrap ((bits .and .u64 (((IntKind.u64.wrap ((bits .and .u64 ((a0).fdiv (2 ^ min ((1 : Int)).toNat (IntKind.bits .u64))) (6148914691236517205 : Int)) + (bits .and .u64 a0 (6148914691236517205 : Int))))).fdiv (2 ^ min ((2 : Int)).toNat (IntKind.bits .u64))) (3689348814741910323 : Int)) + (bits .and .u64 (IntKind.u64.wrap ((bits .and .u64 ((a0).fdiv (2 ^ min ((1 : Int)).toNat (IntKind.bits .u64))) (6148914691236517205 : Int)) + (bits .and .u64 a0 (6148914691236517205 : Int)))) (3689348814741910323 : Int))))).fdiv (2 ^ min ((4 : Int)).toNat (IntKind.bits .u64))) + (IntKind.u64.wrap ((bits .and .u64 (((IntKind.u64.wrap ((bits .and .u64 ((a0).fdiv (2 ^ min ((1 : Int)).toNat (IntKind.bits .u64))) (6148914691236517205 : Int)) + (bits .and .u64 a0 (6148914691236517205 : Int))))).fdiv (2 ^ min ((2 : Int)).toNat (IntKind.bits .u64))) (3689348814741910323 : Int)) + (bits .and .u64 (IntKind.u64.wrap ((bits .and .u64 ((a0).fdiv (2 ^ min ((1 : Int)).toNat (IntKind.bits .u64))) (6148914691236517205 : Int)) + (bits .and .u64 a0 (6148914691236517205 : Int)))) (3689348814741910323 : Int)))))) (1085102592571150095 : Int)) + (((bits .and .u64 (IntKind.u64.wrap ((((IntKind.u64.wrap ((bits .and .u64 (((IntKind.u64.wrap ((bits .and .u64 ((a0).fdiv (2 ^ min ((1 : Int)).toNat (IntKind.bits .u64))) (6148914691236517205 : Int)) + (bits .and .u64 a0 (6148914691236517205 : Int))))).fdiv (2 ^ min ((2 : Int)).toNat (IntKind.bits .u64))) (3689348814741910323 : Int)) + (bits .and .u64 (IntKind.u64.wrap ((bits .and .u64 ((a0).fdiv (2 ^ min ((1 : Int)).toNat (IntKind.bits .u64))) (6148914691236517205 : Int)) + (bits .and .u64 a0 (6148914691236517205 : Int)))) (3689348814741910323 : Int))))).fdiv (2 ^ min ((4 : Int)).toNat (IntKind.bits .u64))) + (IntKind.u64.wrap ((bits .and .u64 (((IntKind.u64.wrap ((bits .and .u64 ((a0).fdiv (2 ^ min ((1 : Int)).toNat (IntKind.bits .u64))) (6148914691236517205 : Int)) + (bits .and .u64 a0 (6148914691236517205 : Int))))).fdiv (2 ^ min ((2 : Int)).toNat (IntKind.bits .u64))) (3689348814741910323 : Int)) + (bits .and .u64 (IntKind.u64.wrap ((bits .and .u64 ((a0).fdiv (2 ^ min ((1 : Int)).toNat (IntKind.bits .u64))) (6148914691236517205 : Int)) + (bits .and .u64 a0 (6148914691236517205 : Int)))) (3689348814741910323 : Int)))))) (1085102592571150095 : Int))).fdiv (2 ^ min ((8 : Int)).toNat (IntKind.bits .u64)))))).fdiv (2 ^ min ((16 : Int)).toNat (IntKind.bits .u64))))) + (((IntKind.u64.wrap ((IntKind.u64.wrap ((bits .and .u64 (IntKind.u64.wrap ((((IntKind.u64.wrap ((bits .and .u64 (((IntKind.u64.wrap ((bits .and .u64 ((a0).fdiv (2 ^ min ((1 : Int)).toNat (IntKind.bits .u64))) (6148914691236517205 : Int)) + (bits .and .u64 a0 (6148914691236517205 : Int))))).fdiv (2 ^ min ((2 : Int)).toNat (IntKind.bits .u64))) (3689348814741910323 : Int)) + (bits .and .u64 (IntKind.u64.wrap ((bits .and .u64 ((a0).fdiv (2 ^ min ((1 : Int)).toNat (IntKind.bits .u64))) (6148914691236517205 : Int)) + (bits .and .u64 a0 (6148914691236517205 : Int)))) (3689348814741910323 : Int))))).fdiv (2 ^ min ((4 : Int)).toNat (IntKind.bits .u64))) + (IntKind.u64.wrap ((bits .and .u64 (((IntKind.u64.wrap ((bits .and .u64 ((a0).fdiv (2 ^ min ((1 : Int)).toNat (IntKind.bits .u64))) (6148914691236517205 : Int)) + (bits .and .u64 a0 (6148914691236517205 : Int))))).fdiv (2 ^ min ((2 : Int)).toNat (IntKind.bits .u64))) (3689348814741910323 : Int)) + (bits .and .u64 (IntKind.u64.wrap ((bits .and .u64 ((a0).fdiv (2 ^ min ((1 : Int)).toNat (IntKind.bits .u64))) (6148914691236517205 : Int)) + (bits .and .u64 a0 (6148914691236517205 : Int)))) (3689348814741910323 : Int)))))) (1085102592571150095 : Int)) + (((bits .and .u64 (IntKind.u64.wrap ((((IntKind.u64.wrap ((bits .and .u64 (((IntKind.u64.wrap ((bits .and .u64 ((a0).fdiv (2 ^ min ((1 : Int)).toNat (IntKind.bits .u64))) (6148914691236517205 : Int)) + (bits .and .u64 a0 (6148914691236517205 : Int))))).fdiv (2 ^ min ((2 : Int)).toNat (IntKind.bits .u64))) (3689348814741910323 : Int)) + (bits .and .u64 (IntKind.u64.wrap ((bits .and .u64 ((a0).fdiv (2 ^ min ((1 : Int)).toNat (IntKind.bits .u64))) (6148914691236517205 : Int)) + (bits .and .u64 a0 (6148914691236517205 : Int)))) (3689348814741910323 : Int))))).fdiv (2 ^ min ((4 : Int)).toNat (IntKind.bits .u64))) + (IntKind.u64.wrap ((bits .and .u64 (((IntKind.u64.wrap ((bits .and .u64 ((a0).fdiv (2 ^ min ((1 : Int)).toNat (IntKind.bits .u64))) (6148914691236517205 : Int)) + (bits .and .u64 a0 (6148914691236517205 : Int))))).fdiv (2 ^ min ((2 : Int)).toNat (IntKind.bits .u64))) (3689348814741910323 : Int)) + (bits .and .u64 (IntKind.u64.wrap ((bits .and .u64 ((a0).fdiv (2 ^ min ((1 : Int)).toNat (IntKind.bits .u64))) (6148914691236517205 : Int)) + (bits .and .u64 a0 (6148914691236517205 : Int)))) (3689348814741910323 : Int)))))) (1085102592571150095 : Int))).fdiv (2 ^ min ((8 : Int)).toNat (IntKind.bits .u64))))) + (((IntKind.u64.wrap ((bits .and .u64 (IntKind.u64.wrap ((((IntKind.u64.wrap ((bits .and .u64 (((IntKind.u64.wrap ((bits .and .u64 ((a0).fdiv (2 ^ min ((1 : Int)).toNat (IntKind.bits .u64))) (6148914691236517205 : Int)) + (bits .and .u64 a0 (6148914691236517205 : Int))))).fdiv (2 ^ min ((2 : Int)).toNat (IntKind.bits .u64))) (3689348814741910323 : Int)) + (bits .and .u64 (IntKind.u64.wrap ((bits .and .u64 ((a0).fdiv (2 ^ min ((1 : Int)).toNat (IntKind.bits .u64))) (6148914691236517205 : Int)) + (bits .and .u64 a0 (6148914691236517205 : Int)))) (3689348814741910323 : Int))))).fdiv (2 ^ min ((4 : Int)).toNat (IntKind.bits .u64))) + (IntKind.u64.wrap ((bits .and .u64 (((IntKind.u64.wrap ((bits .and .u64 ((a0).fdiv (2 ^ min ((1 : Int)).toNat (IntKind.bits .u64))) (6148914691236517205 : Int)) + (bits .and .u64 a0 (6148914691236517205 : Int))))).fdiv (2 ^ min ((2 : Int)).toNat (IntKind.bits .u64))) (3689348814741910323 : Int)) + (bits .and .u64 (IntKind.u64.wrap ((bits .and .u64 ((a0).fdiv (2 ^ min ((1 : Int)).toNat (IntKind.bits .u64))) (6148914691236517205 : Int)) + (bits .and .u64 a0 (6148914691236517205 : Int)))) (3689348814741910323 : Int)))))) (1085102592571150095 : Int)) + (((bits .and .u64 (IntKind.u64.wrap ((((IntKind.u64.wrap ((bits .and .u64 (((IntKind.u64.wrap ((bits .and .u64 ((a0).fdiv (2 ^ min ((1 : Int)).toNat (IntKind.bits .u64))) (6148914691236517205 : Int)) + (bits .and .u64 a0 (6148914691236517205 : Int))))).fdiv (2 ^ min ((2 : Int)).toNat (IntKind.bits .u64))) (3689348814741910323 : Int)) + (bits .and .u64 (IntKind.u64.wrap ((bits .and .u64 ((a0).fdiv (2 ^ min ((1 : Int)).toNat (IntKind.bits .u64))) (6148914691236517205 : Int)) + (bits .and .u64 a0 (6148914691236517205 : Int)))) (3689348814741910323 : Int))))).fdiv (2 ^ min ((4 : Int)).toNat (IntKind.bits .u64))) + (IntKind.u64.wrap ((bits .and .u64 (((IntKind.u64.wrap ((bits .and .u64 ((a0).fdiv (2 ^ min ((1 : Int)).toNat (IntKind.bits .u64))) (6148914691236517205 : Int)) + (bits .and .u64 a0 (6148914691236517205 : Int))))).fdiv (2 ^ min ((2 : Int)).toNat (IntKind.bits .u64))) (3689348814741910323 : Int)) + (bits .and .u64 (IntKind.u64.wrap ((bits .and .u64 ((a0).fdiv (2 ^ min ((1 : Int)).toNat (IntKind.bits .u64))) (6148914691236517205 : Int)) + (bits .and .u64 a0 (6148914691236517205 : Int)))) (3689348814741910323 : Int)))))) (1085102592571150095 : Int))).fdiv (2 ^ min ((8 : Int)).toNat (IntKind.bits .u64)))))).fdiv (2 ^ min ((16 : Int)).toNat (IntKind.bits .u64)))))).fdiv (2 ^ min ((32 : Int)).toNat (IntKind.bits .u64)))))) (127 : Int)))
set_option maxRecDepth 100000 in
theorem f_bits_OnesCount64_ok (fu : Nat) (a0 : Int) {r : Int} (h : f_bits_OnesCount64 fu a0 = some r) : FnOk Try.prog 31 [(Value.int .u64 a0)] [] [] (fun (i : Unit) => { val := (Value.int .i64 r) }) := by
  unfold f_bits_OnesCount64 at h
  refine fn_enter Try.func31 rfl Try.ntmps31 rfl (fun w0 Z0 => ?_)
  refine aw_seq ?_
  refine aw_region ?_
  refine al_val (ov_assign rfl rfl) ?_
  refine al_nil ?_
  refine aq_then ?_
  refine aw_seq ?_
  refine aw_region ?_
  refine al_val (ov_move rfl rfl) ?_
  refine al_val (ov_shr (by decide) rfl rfl rfl) ?_
  refine al_val (ov_int rfl rfl rfl rfl) ?_
  refine al_val (ov_move rfl rfl) ?_
  refine al_val (ov_int rfl rfl rfl rfl) ?_
  refine al_val (ov_int rfl rfl rfl rfl) ?_
  refine al_val (ov_assign rfl rfl) ?_
  refine al_nil ?_
  refine aq_then ?_
  refine aw_seq ?_
  refine aw_region ?_
  refine al_val (ov_move rfl rfl) ?_
  refine al_val (ov_shr (by decide) rfl rfl rfl) ?_
  refine al_val (ov_int rfl rfl rfl rfl) ?_
  refine al_val (ov_move rfl rfl) ?_
  refine al_val (ov_int rfl rfl rfl rfl) ?_
  refine al_val (ov_int rfl rfl rfl rfl) ?_
  refine al_val (ov_assign rfl rfl) ?_
  refine al_nil ?_
  refine aq_then ?_
  refine aw_seq ?_
  refine aw_region ?_
  refine al_val (ov_move rfl rfl) ?_
  refine al_val (ov_shr (by decide) rfl rfl rfl) ?_
  refine al_val (ov_move rfl rfl) ?_
  refine al_val (ov_int rfl rfl rfl rfl) ?_
  refine al_val (ov_int rfl rfl rfl rfl) ?_
  refine al_val (ov_assign rfl rfl) ?_
  refine al_nil ?_
  refine aq_then ?_
  refine aw_seq ?_
  refine aw_region ?_
  refine al_val (ov_move rfl rfl) ?_
  refine al_val (ov_move rfl rfl) ?_
  refine al_val (ov_shr (by decide) rfl rfl rfl) ?_
  refine al_val (ov_int rfl rfl rfl rfl) ?_
  refine al_val (ov_assign rfl rfl) ?_
  refine al_nil ?_
  refine aq_then ?_
  refine aw_seq ?_
  refine aw_region ?_
  refine al_val (ov_move rfl rfl) ?_
  refine al_val (ov_move rfl rfl) ?_
  refine al_val (ov_shr (by decide) rfl rfl rfl) ?_
  refine al_val (ov_int rfl rfl rfl rfl) ?_
  refine al_val (ov_assign rfl rfl) ?_
  refine al_nil ?_
  refine aq_then ?_
  refine aw_seq ?_
  refine aw_region ?_
  refine al_val (ov_move rfl rfl) ?_
  refine al_val (ov_move rfl rfl) ?_
  refine al_val (ov_shr (by decide) rfl rfl rfl) ?_
  refine al_val (ov_int rfl rfl rfl rfl) ?_
  refine al_val (ov_assign rfl rfl) ?_
  refine al_nil ?_
  refine aq_then ?_
  refine aw_seq ?_
  refine aw_region ?_
  refine al_val (ov_move rfl rfl) ?_
  refine al_val (ov_convInt (by rw [Try.underlying22]; rfl) Try.underlying3 rfl rfl) ?_
  refine al_val (ov_int rfl rfl rfl rfl) ?_
  refine al_val (ov_assign rfl rfl) ?_
  refine al_nil ?_
  refine aq_then ?_
  refine aw_ret ?_
  obtain rfl := Option.some.inj h
  exact fn_ret () [] [] rfl rfl rfl rfl (res1 rfl rfl) rfl rfl rfl (by decide)
def f_bloom_Count_L6 (a0 : A16u64) (kk3 : (Int → Option Int)) (fu : Nat) : Nat → Int → Int → Option Int
  | 0, _, _ => none
  | k5 + 1, l4i3, l4i7 => (bif (decide (l4i7 < (16 : Int))) then (opt (at? (lA16u64 a0) l4i7) fun (u8 : Int) => (opt (f_bits_OnesCount64 fu u8) fun (r11 : Int) => (f_bloom_Count_L6 a0 kk3 fu k5 (IntKind.i64.wrap (l4i3 + r11)) (IntKind.i64.wrap (l4i7 + (1 : Int)))))) else (kk3 l4i3))
def f_bloom_Count (fu : Nat) (a0 : A16u64) : Option Int := (lt (fun (j2i3 : Int) => (some j2i3)) fun (kk3 : Int → Option Int) => (f_bloom_Count_L6 a0 kk3 fu fu (0 : Int) (0 : Int)))
set_option maxRecDepth 100000 in
theorem f_bloom_Count_ok (fu : Nat) (a0 : A16u64) {r : Int} (h : f_bloom_Count fu a0 = some r) : FnOk Try.prog 12 [(ag (cA16u64 a0))] [] [] (fun (i : Unit) => { val := (Value.int .i64 r) }) := by
  unfold f_bloom_Count at h
  refine fn_enter Try.func12 rfl Try.ntmps12 rfl (fun w0 Z0 => ?_)
  refine aw_seq ?_
  refine aw_region ?_
  refine al_box (vs := (cA16u64 a0)) rfl (cv_rfl rfl) rfl (fun g1 => ?_)
  refine al_val (ov_assign rfl rfl) ?_
  refine al_nil ?_
  refine aq_then ?_
  refine aw_seq ?_
  refine aw_region ?_
  refine al_val (ov_assign rfl rfl) ?_
  refine al_nil ?_
  refine aq_then ?_
  obtain ⟨kk3, hkk3, h⟩ := lt_some h
  refine aw_seq_join (ι := Int) (fun i => (memOf w0 Z0 [] [] [])) (fun i => (tab [(3, (Value.int .i64 i))])) (fun i => kk3 i = some r) ?_ ?_
  · rintro j2i3 h
    have h : kk3 j2i3 = some r := h
    rw [hkk3] at h
    dsimp only at h
    clear hkk3
    refine aw_show (m := (memOf w0 Z0 [] [] [])) (S := (tab [(3, (Value.int .i64 j2i3))])) ?_
    refine aw_seq ?_
    refine aw_region ?_
    refine al_val (ov_move rfl rfl) ?_
    refine al_val (ov_assign rfl rfl) ?_
    refine al_nil ?_
    refine aq_then ?_
    refine aw_ret ?_
    obtain rfl := Option.some.inj h
    exact fn_ret () [] [] rfl rfl rfl rfl (res1 rfl rfl) rfl rfl rfl (by decide)
  · clear hkk3
    refine aw_seq ?_
    refine aw_region ?_
    refine al_val (ov_load (i := 0) (v := (ag (cA16u64 a0))) rfl rfl Try.underlying24 sz24 rfl rfl rfl rfl) ?_
    refine al_val (ov_move rfl rfl) ?_
    refine al_nil ?_
    refine aq_then ?_
    refine aw_block ?_
    refine aw_state (aw_loop (ι := Int × Int) (fun i => (memOf w0 Z0 [] [] [])) (fun i => (tab [(3, (Value.int .i64 i.1)), (6, (ag (cA16u64 a0))), (7, (Value.int .i64 i.2))])) (fun q i => f_bloom_Count_L6 a0 kk3 fu q i.1 i.2 = some r) ?_ fu ((0 : Int), (0 : Int)) h) (fun w a hm hs => norm hm hs [] [] [(3, (Value.int .i64 (0 : Int))), (6, (ag (cA16u64 a0))), (7, (Value.int .i64 (0 : Int)))] (by decide) ⟨rfl, rfl, rfl, trivial⟩)
    clear h
    rintro k5 ⟨l4i3, l4i7⟩ h
    have h : f_bloom_Count_L6 a0 kk3 fu k5 l4i3 l4i7 = some r := h
    obtain _ | k5 := k5
    · rw [f_bloom_Count_L6] at h; cases h
    rw [f_bloom_Count_L6] at h
    refine aw_show (m := (memOf w0 Z0 [] [] [])) (S := (tab [(3, (Value.int .i64 l4i3)), (6, (ag (cA16u64 a0))), (7, (Value.int .i64 l4i7))])) ?_
    refine aw_seq ?_
    refine aw_region ?_
    refine al_val (ov_int rfl rfl rfl rfl) ?_
    refine al_nil ?_
    refine aq_then ?_
    refine aw_seq ?_
    refine aw_cond rfl (fun hb7 => ?_) (fun hb7 => ?_)
    · replace h := bif_t hb7 h
      refine aw_skip ?_
      refine aq_then ?_
      refine aw_seq ?_
      refine aw_block ?_
      refine aw_seq ?_
      refine aw_region ?_
      obtain ⟨u8, hu9, h⟩ := opt_some h
      refine al_val (v := (Value.int .u64 u8)) (ov_idxAgg (u := u8) (enc := vA16u64) (xs := lA16u64 a0) hu9 rfl rfl rfl rfl Try.underlying24 Try.underlying22 rfl sz22 rfl) ?_
      refine al_val (ov_assign rfl rfl) ?_
      refine al_nil ?_
      refine aq_then ?_
      refine aw_region ?_
      refine al_val (ov_move rfl rfl) ?_
      refine al_val (ov_move rfl rfl) ?_
      obtain ⟨r11, hc10, h⟩ := opt_some h
      refine al_call (vs := [(Value.int .u64 u8)]) (f_bits_OnesCount64_ok fu u8 hc10) [] [] [] pre_nil rfl (by simp) (by decide) (.inl rfl) rfl Try.func31 rfl rfl rfl (fun _ => ?_)
      refine al_val (ov_int rfl rfl rfl rfl) ?_
      refine al_val (ov_assign rfl rfl) ?_
      refine al_nil ?_
      refine aq_block ?_
      refine aq_then ?_
      refine aw_region ?_
      refine al_val (ov_int rfl rfl rfl rfl) ?_
      refine al_val (ov_move rfl rfl) ?_
      refine al_nil ?_
      exact aq_again k5 ((IntKind.i64.wrap (l4i3 + r11)), (IntKind.i64.wrap (l4i7 + (1 : Int)))) (Nat.lt_succ_self _) h (fun w a hm hs => norm hm hs [] [] [(3, (Value.int .i64 (IntKind.i64.wrap (l4i3 + r11)))), (6, (ag (cA16u64 a0))), (7, (Value.int .i64 (IntKind.i64.wrap (l4i7 + (1 : Int)))))] (by decide) ⟨rfl, rfl, rfl, trivial⟩)
    · replace h := bif_f hb7 h
      refine aw_exit ?_
      refine aq_then_exit ?_
      refine aq_then_exit ?_
      refine aq_block_exit ?_
      exact aq_join l4i3 h (fun w a hm hs => norm hm hs [] [] [(3, (Value.int .i64 l4i3))] (by decide) ⟨rfl, trivial⟩)
def f_lumlaw_BloomSays_L60 (a0 : A16u64) (a1 : A16u64) (r8 : A16u64) (r10 : A16u64) (j12xm11 : (List (Int × Int))) (kk15 : (Bool → Int → Option Bool)) (fu : Nat) : Nat → Bool → Int → Int → Option Bool
  | 0, _, _, _ => none
  | k59 + 1, l58b7, l58i10, l58i31 => (bif (decide (l58i31 < (1024 : Int))) then (lt (fun (j62b7 : Bool) (j62i10 : Int) => (f_lumlaw_BloomSays_L60 a0 a1 r8 r10 j12xm11 kk15 fu k59 j62b7 j62i10 (IntKind.i64.wrap (l58i31 + (1 : Int))))) fun (kk63 : Bool → Int → Option Bool) => (lt (fun (j64b7 : Bool) => (lt (fun (j66b71 : Bool) => (bif j66b71 then (some false) else (opt (f_lumref_Bit fu a0 l58i31) fun (r70 : Bool) => (bif r70 then (kk63 j64b7 (IntKind.i64.wrap (l58i10 + (1 : Int)))) else (kk63 j64b7 l58i10))))) fun (kk67 : Bool → Option Bool) => (opt (f_lumref_Bit fu r8 l58i31) fun (r73 : Bool) => (bif ((mget j12xm11 l58i31) == (1 : Int)) then (bif (r73 != true) then (kk67 true) else (opt (f_lumref_Bit fu r10 l58i31) fun (r77 : Bool) => (opt (f_lumref_Bit fu a0 l58i31) fun (r79 : Bool) => (bif r79 then (kk67 (r77 != true)) else (opt (f_lumref_Bit fu a1 l58i31) fun (r82 : Bool) => (kk67 (r77 != r82))))))) else (opt (f_lumref_Bit fu a0 l58i31) fun (r84 : Bool) => (bif (r73 != r84) then (kk67 true) else (opt (f_lumref_Bit fu r10 l58i31) fun (r87 : Bool) => (opt (f_lumref_Bit fu a0 l58i31) fun (r89 : Bool) => (bif r89 then (kk67 (r87 != true)) else (opt (f_lumref_Bit fu a1 l58i31) fun (r92 : Bool) => (kk67 (r87 != r92)))))))))))) fun (kk65 : Bool → Option Bool) => (bif l58b7 then (bif (!((mget j12xm11 l58i31) == (1 : Int))) then (kk65 true) else (opt (f_lumref_Bit fu a0 l58i31) fun (r96 : Bool) => (kk65 r96))) else (kk65 false)))) else (kk15 l58b7 l58i10))
def f_lumlaw_BloomSays_L99 (a2 : A8u8) (kk13 : ((List (Int × Int)) → Option Bool)) (fu : Nat) : Nat → (List (Int × Int)) → Int → Option Bool
  | 0, _, _ => none
  | k98 + 1, l97xm11, l97i23 => (bif (decide (l97i23 < (4 : Int))) then (opt (f_lumref_Mark fu a2 l97i23) fun (r102 : Int) => (f_lumlaw_BloomSays_L99 a2 kk13 fu k98 (mset l97xm11 r102 (1 : Int)) (IntKind.i64.wrap (l97i23 + (1 : Int))))) else (kk13 l97xm11))
def f_lumlaw_BloomSays (fu : Nat) (a0 : A16u64) (a1 : A16u64) (a2 : A8u8) : Option Bool := (opt (f_bloom_Add fu a0 a2) fun (r8 : A16u64) => (opt (f_bloom_Join fu ([a0, a1])) fun (r10 : A16u64) => (lt (fun (j12xm11 : (List (Int × Int))) => (lt (fun (j14b7 : Bool) (j14i10 : Int) => (lt (fun (j16b6 : Bool) => (some j16b6)) fun (kk17 : Bool → Option Bool) => (opt (f_bloom_Has fu a0 a2) fun (r19 : Bool) => (bif (r19 == j14b7) then (opt (f_bloom_Count fu a0) fun (r22 : Int) => (bif (r22 == j14i10) then (opt (f_bloom_Join fu ([] : (List A16u64))) fun (r25 : A16u64) => (req ((Lit.int .u64 r25.e0).wf = true) (req ((Lit.int .u64 r25.e1).wf = true) (req ((Lit.int .u64 r25.e2).wf = true) (req ((Lit.int .u64 r25.e3).wf = true) (req ((Lit.int .u64 r25.e4).wf = true) (req ((Lit.int .u64 r25.e5).wf = true) (req ((Lit.int .u64 r25.e6).wf = true) (req ((Lit.int .u64 r25.e7).wf = true) (req ((Lit.int .u64 r25.e8).wf = true) (req ((Lit.int .u64 r25.e9).wf = true) (req ((Lit.int .u64 r25.e10).wf = true) (req ((Lit.int .u64 r25.e11).wf = true) (req ((Lit.int .u64 r25.e12).wf = true) (req ((Lit.int .u64 r25.e13).wf = true) (req ((Lit.int .u64 r25.e14).wf = true) (req ((Lit.int .u64 r25.e15).wf = true) (req ((Lit.int .u64 ((A16u64.mk (0 : Int) (0 : Int) (0 : Int) (0 : Int) (0 : Int) (0 : Int) (0 : Int) (0 : Int) (0 : Int) (0 : Int) (0 : Int) (0 : Int) (0 : Int) (0 : Int) (0 : Int) (0 : Int)).e0)).wf = true) (req ((Lit.int .u64 ((A16u64.mk (0 : Int) (0 : Int) (0 : Int) (0 : Int) (0 : Int) (0 : Int) (0 : Int) (0 : Int) (0 : Int) (0 : Int) (0 : Int) (0 : Int) (0 : Int) (0 : Int) (0 : Int) (0 : Int)).e1)).wf = true) (req ((Lit.int .u64 ((A16u64.mk (0 : Int) (0 : Int) (0 : Int) (0 : Int) (0 : Int) (0 : Int) (0 : Int) (0 : Int) (0 : Int) (0 : Int) (0 : Int) (0 : Int) (0 : Int) (0 : Int) (0 : Int) (0 : Int)).e2)).wf = true) (req ((Lit.int .u64 ((A16u64.mk (0 : Int) (0 : Int) (0 : Int) (0 : Int) (0 : Int) (0 : Int) (0 : Int) (0 : Int) (0 : Int) (0 : Int) (0 : Int) (0 : Int) (0 : Int) (0 : Int) (0 : Int) (0 : Int)).e3)).wf = true) (req ((Lit.int .u64 ((A16u64.mk (0 : Int) (0 : Int) (0 : Int) (0 : Int) (0 : Int) (0 : Int) (0 : Int) (0 : Int) (0 : Int) (0 : Int) (0 : Int) (0 : Int) (0 : Int) (0 : Int) (0 : Int) (0 : Int)).e4)).wf = true) (req ((Lit.int .u64 ((A16u64.mk (0 : Int) (0 : Int) (0 : Int) (0 : Int) (0 : Int) (0 : Int) (0 : Int) (0 : Int) (0 : Int) (0 : Int) (0 : Int) (0 : Int) (0 : Int) (0 : Int) (0 : Int) (0 : Int)).e5)).wf = true) (req ((Lit.int .u64 ((A16u64.mk (0 : Int) (0 : Int) (0 : Int) (0 : Int) (0 : Int) (0 : Int) (0 : Int) (0 : Int) (0 : Int) (0 : Int) (0 : Int) (0 : Int) (0 : Int) (0 : Int) (0 : Int) (0 : Int)).e6)).wf = true) (req ((Lit.int .u64 ((A16u64.mk (0 : Int) (0 : Int) (0 : Int) (0 : Int) (0 : Int) (0 : Int) (0 : Int) (0 : Int) (0 : Int) (0 : Int) (0 : Int) (0 : Int) (0 : Int) (0 : Int) (0 : Int) (0 : Int)).e7)).wf = true) (req ((Lit.int .u64 ((A16u64.mk (0 : Int) (0 : Int) (0 : Int) (0 : Int) (0 : Int) (0 : Int) (0 : Int) (0 : Int) (0 : Int) (0 : Int) (0 : Int) (0 : Int) (0 : Int) (0 : Int) (0 : Int) (0 : Int)).e8)).wf = true) (req ((Lit.int .u64 ((A16u64.mk (0 : Int) (0 : Int) (0 : Int) (0 : Int) (0 : Int) (0 : Int) (0 : Int) (0 : Int) (0 : Int) (0 : Int) (0 : Int) (0 : Int) (0 : Int) (0 : Int) (0 : Int) (0 : Int)).e9)).wf = true) (req ((Lit.int .u64 ((A16u64.mk (0 : Int) (0 : Int) (0 : Int) (0 : Int) (0 : Int) (0 : Int) (0 : Int) (0 : Int) (0 : Int) (0 : Int) (0 : Int) (0 : Int) (0 : Int) (0 : Int) (0 : Int) (0 : Int)).e10)).wf = true) (req ((Lit.int .u64 ((A16u64.mk (0 : Int) (0 : Int) (0 : Int) (0 : Int) (0 : Int) (0 : Int) (0 : Int) (0 : Int) (0 : Int) (0 : Int) (0 : Int) (0 : Int) (0 : Int) (0 : Int) (0 : Int) (0 : Int)).e11)).wf = true) (req ((Lit.int .u64 ((A16u64.mk (0 : Int) (0 : Int) (0 : Int) (0 : Int) (0 : Int) (0 : Int) (0 : Int) (0 : Int) (0 : Int) (0 : Int) (0 : Int) (0 : Int) (0 : Int) (0 : Int) (0 : Int) (0 : Int)).e12)).wf = true) (req ((Lit.int .u64 ((A16u64.mk (0 : Int) (0 : Int) (0 : Int) (0 : Int) (0 : Int) (0 : Int) (0 : Int) (0 : Int) (0 : Int) (0 : Int) (0 : Int) (0 : Int) (0 : Int) (0 : Int) (0 : Int) (0 : Int)).e13)).wf = true) (req ((Lit.int .u64 ((A16u64.mk (0 : Int) (0 : Int) (0 : Int) (0 : Int) (0 : Int) (0 : Int) (0 : Int) (0 : Int) (0 : Int) (0 : Int) (0 : Int) (0 : Int) (0 : Int) (0 : Int) (0 : Int) (0 : Int)).e14)).wf = true) (req ((Lit.int .u64 ((A16u64.mk (0 : Int) (0 : Int) (0 : Int) (0 : Int) (0 : Int) (0 : Int) (0 : Int) (0 : Int) (0 : Int) (0 : Int) (0 : Int) (0 : Int) (0 : Int) (0 : Int) (0 : Int) (0 : Int)).e15)).wf = true) (kk17 (r25 == (A16u64.mk (0 : Int) (0 : Int) (0 : Int) (0 : Int) (0 : Int) (0 : Int) (0 : Int) (0 : Int) (0 : Int) (0 : Int) (0 : Int) (0 : Int) (0 : Int) (0 : Int) (0 : Int) (0 : Int))))))))))))))))))))))))))))))))))))) else (kk17 false))) else (kk17 false))))) fun (kk15 : Bool → Int → Option Bool) => (f_lumlaw_BloomSays_L60 a0 a1 r8 r10 j12xm11 kk15 fu fu true (0 : Int) (0 : Int)))) fun (kk13 : (List (Int × Int)) → Option Bool) => (f_lumlaw_BloomSays_L99 a2 kk13 fu fu ([] : List (Int × Int)) (0 : Int)))))
end Go.Proofs.Ytjbgahmcobcojaa
