/- Walks by program. No condition. -/
import Derived.Test.YtjbgahmcobcojaaDoorEn20
import Derived.Test.YtjbgahmcobcojaaDoorChecked
import Derived.Test.YtjbgahmcobcojaaDoorShTrim
import Derived.Test.YtjbgahmcobcojaaDoorShBEApp
namespace Go.Proofs.YtjbgahmcobcojaaDoor
open Go.RowKit YtjbgahmcobcojaaDoor.En
set_option linter.unusedVariables false
set_option linter.unusedSimpArgs false
structure A8u8 where
  e0 : UInt8
  e1 : UInt8
  e2 : UInt8
  e3 : UInt8
  e4 : UInt8
  e5 : UInt8
  e6 : UInt8
  e7 : UInt8
  deriving DecidableEq
def tyA8u8 : Ty A8u8 := tyVia (fun x => (x.e0, (x.e1, (x.e2, (x.e3, (x.e4, (x.e5, (x.e6, x.e7)))))))) (tyPair tyU8 (tyPair tyU8 (tyPair tyU8 (tyPair tyU8 (tyPair tyU8 (tyPair tyU8 (tyPair tyU8 tyU8)))))))
theorem subA8u8_0 : Sub tyA8u8 0 tyU8 (fun x => x.e0) := Sub.via (Sub.fst (Sub.whole _))
theorem subA8u8_1 : Sub tyA8u8 1 tyU8 (fun x => x.e1) := Sub.via (Sub.snd (Sub.fst (Sub.whole _)))
theorem subA8u8_2 : Sub tyA8u8 2 tyU8 (fun x => x.e2) := Sub.via (Sub.snd (Sub.snd (Sub.fst (Sub.whole _))))
theorem subA8u8_3 : Sub tyA8u8 3 tyU8 (fun x => x.e3) := Sub.via (Sub.snd (Sub.snd (Sub.snd (Sub.fst (Sub.whole _)))))
theorem subA8u8_4 : Sub tyA8u8 4 tyU8 (fun x => x.e4) := Sub.via (Sub.snd (Sub.snd (Sub.snd (Sub.snd (Sub.fst (Sub.whole _))))))
theorem subA8u8_5 : Sub tyA8u8 5 tyU8 (fun x => x.e5) := Sub.via (Sub.snd (Sub.snd (Sub.snd (Sub.snd (Sub.snd (Sub.fst (Sub.whole _)))))))
theorem subA8u8_6 : Sub tyA8u8 6 tyU8 (fun x => x.e6) := Sub.via (Sub.snd (Sub.snd (Sub.snd (Sub.snd (Sub.snd (Sub.snd (Sub.fst (Sub.whole _))))))))
theorem subA8u8_7 : Sub tyA8u8 7 tyU8 (fun x => x.e7) := Sub.via (Sub.snd (Sub.snd (Sub.snd (Sub.snd (Sub.snd (Sub.snd (Sub.snd (Sub.whole _))))))))
def cA8u8 (x : A8u8) : List Value := [(Value.int .u8 (x.e0.toNat : Int)), (Value.int .u8 (x.e1.toNat : Int)), (Value.int .u8 (x.e2.toNat : Int)), (Value.int .u8 (x.e3.toNat : Int)), (Value.int .u8 (x.e4.toNat : Int)), (Value.int .u8 (x.e5.toNat : Int)), (Value.int .u8 (x.e6.toNat : Int)), (Value.int .u8 (x.e7.toNat : Int))]
def lA8u8 (x : A8u8) : List UInt8 := [x.e0, x.e1, x.e2, x.e3, x.e4, x.e5, x.e6, x.e7]
def vA8u8 (y : UInt8) : Value := (Value.int .u8 (y.toNat : Int))
def setA8u8 (x : A8u8) (j : Int) (y : UInt8) : A8u8 := ⟨if j = 0 then y else x.e0, if j = 1 then y else x.e1, if j = 2 then y else x.e2, if j = 3 then y else x.e3, if j = 4 then y else x.e4, if j = 5 then y else x.e5, if j = 6 then y else x.e6, if j = 7 then y else x.e7⟩
theorem oneA8u8 (x : A8u8) : ∀ u ∈ cA8u8 x, u.oneCell' = true := ones_map (enc := vA8u8) (xs := lA8u8 x) (fun _ => rfl)
theorem lenA8u8 (x : A8u8) : (lA8u8 x).length = 8 := rfl
theorem lsetA8u8 {x : A8u8} {j : Int} {y : UInt8} (h0 : 0 ≤ j) (h1 : j < 8) : lA8u8 (setA8u8 x j y) = (lA8u8 x).set j.toNat y := by
  obtain ⟨q, rfl⟩ : ∃ q : Nat, j = q := ⟨j.toNat, by omega⟩
  match q, h1 with
  | 0, _ => rfl
  | 1, _ => rfl
  | 2, _ => rfl
  | 3, _ => rfl
  | 4, _ => rfl
  | 5, _ => rfl
  | 6, _ => rfl
  | 7, _ => rfl
  | n + 8, h => omega
theorem csetA8u8 {x : A8u8} {j : Int} {y : UInt8} (h0 : 0 ≤ j) (h1 : j < 8) (pre post : List Value) : pre ++ (cA8u8 (setA8u8 x j y) ++ post) = (pre ++ (cA8u8 x ++ post)).set (pre.length + j.toNat) (vA8u8 y) := by
  have h : cA8u8 (setA8u8 x j y) = (cA8u8 x).set j.toNat (vA8u8 y) := by
    have e : ∀ z : A8u8, cA8u8 z = (lA8u8 z).map vA8u8 := fun _ => rfl
    rw [e, e, lsetA8u8 h0 h1, List.map_set]
  rw [h, List.set_append_right _ _ (by omega), Nat.add_sub_cancel_left, List.set_append_left _ _ (by show j.toNat < 8; omega)]
theorem flatA8u8 : FlatTy tyA8u8 := flat_via (flat_pair flat_enc (flat_pair flat_enc (flat_pair flat_enc (flat_pair flat_enc (flat_pair flat_enc (flat_pair flat_enc (flat_pair flat_enc flat_enc)))))))
theorem encA8u8 {Z w cs} {x : A8u8} (h : tyA8u8.rep Z w cs x) : cs = (cA8u8 x) := by
  obtain ⟨c0, d0, rfl, p0, q0⟩ := h
  obtain ⟨c1, d1, rfl, p1, q1⟩ := q0
  obtain ⟨c2, d2, rfl, p2, q2⟩ := q1
  obtain ⟨c3, d3, rfl, p3, q3⟩ := q2
  obtain ⟨c4, d4, rfl, p4, q4⟩ := q3
  obtain ⟨c5, d5, rfl, p5, q5⟩ := q4
  obtain ⟨c6, d6, rfl, p6, q6⟩ := q5
  rw [show _ = _ from p0]
  rw [show _ = _ from p1]
  rw [show _ = _ from p2]
  rw [show _ = _ from p3]
  rw [show _ = _ from p4]
  rw [show _ = _ from p5]
  rw [show _ = _ from p6]
  rw [show _ = _ from q6]
  rfl
theorem mkA8u8 {Z w cs} {x : A8u8} (h : cs = (cA8u8 x)) : tyA8u8.rep Z w cs x := by
  subst h
  exact ⟨_, _, (List.take_append_drop 1 _).symm, rfl, ⟨_, _, (List.take_append_drop 1 _).symm, rfl, ⟨_, _, (List.take_append_drop 1 _).symm, rfl, ⟨_, _, (List.take_append_drop 1 _).symm, rfl, ⟨_, _, (List.take_append_drop 1 _).symm, rfl, ⟨_, _, (List.take_append_drop 1 _).symm, rfl, ⟨_, _, (List.take_append_drop 1 _).symm, rfl, rfl⟩⟩⟩⟩⟩⟩⟩
theorem lrepA8u8 {Z w cs} {x : A8u8} (h : tyA8u8.rep Z w cs x) : RepL tyU8 Z w cs (lA8u8 x) := by
  rw [encA8u8 h]
  exact ⟨[_], _, rfl, rfl, ⟨[_], _, rfl, rfl, ⟨[_], _, rfl, rfl, ⟨[_], _, rfl, rfl, ⟨[_], _, rfl, rfl, ⟨[_], _, rfl, rfl, ⟨[_], _, rfl, rfl, ⟨[_], _, rfl, rfl, rfl⟩⟩⟩⟩⟩⟩⟩⟩
structure S_api_Place where
  ID : A8u8
  Kind : Int
  Pack : Int
  At : Int
  Len : Int
  deriving DecidableEq
def tyS_api_Place : Ty S_api_Place := tyVia (fun x => (x.ID, (x.Kind, (x.Pack, (x.At, x.Len))))) (tyPair tyA8u8 (tyPair (tyInt .i64) (tyPair (tyInt .i64) (tyPair (tyInt .i64) (tyInt .i64)))))
theorem subS_api_Place_0 : Sub tyS_api_Place 0 tyA8u8 (fun x => x.ID) := Sub.via (Sub.fst (Sub.whole _))
theorem subS_api_Place_1 : Sub tyS_api_Place 8 (tyInt .i64) (fun x => x.Kind) := Sub.via (Sub.snd (Sub.fst (Sub.whole _)))
theorem subS_api_Place_2 : Sub tyS_api_Place 9 (tyInt .i64) (fun x => x.Pack) := Sub.via (Sub.snd (Sub.snd (Sub.fst (Sub.whole _))))
theorem subS_api_Place_3 : Sub tyS_api_Place 10 (tyInt .i64) (fun x => x.At) := Sub.via (Sub.snd (Sub.snd (Sub.snd (Sub.fst (Sub.whole _)))))
theorem subS_api_Place_4 : Sub tyS_api_Place 11 (tyInt .i64) (fun x => x.Len) := Sub.via (Sub.snd (Sub.snd (Sub.snd (Sub.snd (Sub.whole _)))))
theorem flatS_api_Place : FlatTy tyS_api_Place := flat_via (flat_pair flatA8u8 (flat_pair flat_enc (flat_pair flat_enc (flat_pair flat_enc flat_enc))))
theorem encS_api_Place {Z w cs} {x : S_api_Place} (h : tyS_api_Place.rep Z w cs x) : cs = ((cA8u8 x.ID) ++ [(Value.int .i64 x.Kind), (Value.int .i64 x.Pack), (Value.int .i64 x.At), (Value.int .i64 x.Len)]) := by
  obtain ⟨c0, d0, rfl, p0, q0⟩ := h
  obtain ⟨c1, d1, rfl, p1, q1⟩ := q0
  obtain ⟨c2, d2, rfl, p2, q2⟩ := q1
  obtain ⟨c3, d3, rfl, p3, q3⟩ := q2
  rw [encA8u8 p0]
  rw [show _ = _ from p1]
  rw [show _ = _ from p2]
  rw [show _ = _ from p3]
  rw [show _ = _ from q3]
  rfl
theorem mkS_api_Place {Z w cs} {x : S_api_Place} (h : cs = ((cA8u8 x.ID) ++ [(Value.int .i64 x.Kind), (Value.int .i64 x.Pack), (Value.int .i64 x.At), (Value.int .i64 x.Len)])) : tyS_api_Place.rep Z w cs x := by
  subst h
  exact ⟨_, _, (List.take_append_drop 8 _).symm, (mkA8u8 rfl), ⟨_, _, (List.take_append_drop 1 _).symm, rfl, ⟨_, _, (List.take_append_drop 1 _).symm, rfl, ⟨_, _, (List.take_append_drop 1 _).symm, rfl, rfl⟩⟩⟩⟩
structure A3u64 where
  e0 : Int
  e1 : Int
  e2 : Int
  deriving DecidableEq
def tyA3u64 : Ty A3u64 := tyVia (fun x => (x.e0, (x.e1, x.e2))) (tyPair (tyInt .u64) (tyPair (tyInt .u64) (tyInt .u64)))
theorem subA3u64_0 : Sub tyA3u64 0 (tyInt .u64) (fun x => x.e0) := Sub.via (Sub.fst (Sub.whole _))
theorem subA3u64_1 : Sub tyA3u64 1 (tyInt .u64) (fun x => x.e1) := Sub.via (Sub.snd (Sub.fst (Sub.whole _)))
theorem subA3u64_2 : Sub tyA3u64 2 (tyInt .u64) (fun x => x.e2) := Sub.via (Sub.snd (Sub.snd (Sub.whole _)))
def cA3u64 (x : A3u64) : List Value := [(Value.int .u64 x.e0), (Value.int .u64 x.e1), (Value.int .u64 x.e2)]
def lA3u64 (x : A3u64) : List Int := [x.e0, x.e1, x.e2]
def vA3u64 (y : Int) : Value := (Value.int .u64 y)
def setA3u64 (x : A3u64) (j : Int) (y : Int) : A3u64 := ⟨if j = 0 then y else x.e0, if j = 1 then y else x.e1, if j = 2 then y else x.e2⟩
theorem oneA3u64 (x : A3u64) : ∀ u ∈ cA3u64 x, u.oneCell' = true := ones_map (enc := vA3u64) (xs := lA3u64 x) (fun _ => rfl)
theorem lenA3u64 (x : A3u64) : (lA3u64 x).length = 3 := rfl
theorem lsetA3u64 {x : A3u64} {j : Int} {y : Int} (h0 : 0 ≤ j) (h1 : j < 3) : lA3u64 (setA3u64 x j y) = (lA3u64 x).set j.toNat y := by
  obtain ⟨q, rfl⟩ : ∃ q : Nat, j = q := ⟨j.toNat, by omega⟩
  match q, h1 with
  | 0, _ => rfl
  | 1, _ => rfl
  | 2, _ => rfl
  | n + 3, h => omega
theorem csetA3u64 {x : A3u64} {j : Int} {y : Int} (h0 : 0 ≤ j) (h1 : j < 3) (pre post : List Value) : pre ++ (cA3u64 (setA3u64 x j y) ++ post) = (pre ++ (cA3u64 x ++ post)).set (pre.length + j.toNat) (vA3u64 y) := by
  have h : cA3u64 (setA3u64 x j y) = (cA3u64 x).set j.toNat (vA3u64 y) := by
    have e : ∀ z : A3u64, cA3u64 z = (lA3u64 z).map vA3u64 := fun _ => rfl
    rw [e, e, lsetA3u64 h0 h1, List.map_set]
  rw [h, List.set_append_right _ _ (by omega), Nat.add_sub_cancel_left, List.set_append_left _ _ (by show j.toNat < 3; omega)]
theorem flatA3u64 : FlatTy tyA3u64 := flat_via (flat_pair flat_enc (flat_pair flat_enc flat_enc))
theorem encA3u64 {Z w cs} {x : A3u64} (h : tyA3u64.rep Z w cs x) : cs = (cA3u64 x) := by
  obtain ⟨c0, d0, rfl, p0, q0⟩ := h
  obtain ⟨c1, d1, rfl, p1, q1⟩ := q0
  rw [show _ = _ from p0]
  rw [show _ = _ from p1]
  rw [show _ = _ from q1]
  rfl
theorem mkA3u64 {Z w cs} {x : A3u64} (h : cs = (cA3u64 x)) : tyA3u64.rep Z w cs x := by
  subst h
  exact ⟨_, _, (List.take_append_drop 1 _).symm, rfl, ⟨_, _, (List.take_append_drop 1 _).symm, rfl, rfl⟩⟩
theorem lrepA3u64 {Z w cs} {x : A3u64} (h : tyA3u64.rep Z w cs x) : RepL (tyInt .u64) Z w cs (lA3u64 x) := by
  rw [encA3u64 h]
  exact ⟨[_], _, rfl, rfl, ⟨[_], _, rfl, rfl, ⟨[_], _, rfl, rfl, rfl⟩⟩⟩
def ofA8u8 (l : List UInt8) : A8u8 := match l.take 8 with | [e0, e1, e2, e3, e4, e5, e6, e7] => ⟨e0, e1, e2, e3, e4, e5, e6, e7⟩ | _ => ⟨0, 0, 0, 0, 0, 0, 0, 0⟩
theorem oflA8u8 {l : List UInt8} (hl : 8 ≤ l.length) {Z w cs} (hr : RepL tyU8 Z w cs (l.take 8)) : tyA8u8.rep Z w cs (ofA8u8 l) := by
  unfold ofA8u8
  have h8 : (l.take 8).length = 8 := by rw [List.length_take]; omega
  generalize l.take 8 = m at hr h8
  match m, h8, hr with
  | [e0, e1, e2, e3, e4, e5, e6, e7], _, hr => exact mkA8u8 (by rw [u8_cells hr]; rfl)
theorem coftA8u8 (l : List UInt8) (hl : l.length = 8) : cA8u8 (ofA8u8 l) = Lib.byteCells l := by
  match l, hl with
  | [e0, e1, e2, e3, e4, e5, e6, e7], _ => rfl
def cpA8u8 (x : A8u8) (l : List UInt8) : A8u8 := ofA8u8 (l.take 8 ++ (lA8u8 x).drop (l.take 8).length)
theorem ccpA8u8 (x : A8u8) (l : List UInt8) : cA8u8 (cpA8u8 x l) = Lib.byteCells (l.take 8) ++ (cA8u8 x).drop (l.take 8).length := by
  have h1 : (l.take 8).length ≤ 8 := by rw [List.length_take]; omega
  unfold cpA8u8
  rw [coftA8u8 _ (by rw [List.length_append, List.length_drop, lenA8u8]; omega)]
  unfold Lib.byteCells
  rw [List.map_append, List.map_drop]
  rfl
theorem cpcA8u8 (x : A8u8) (l : List UInt8) (pre post : List Value) : (pre ++ (cA8u8 x ++ post)).take pre.length ++ Lib.byteCells (l.take 8) ++ (pre ++ (cA8u8 x ++ post)).drop (pre.length + (l.take 8).length) = pre ++ (cA8u8 (cpA8u8 x l) ++ post) := by
  have h1 : (l.take 8).length ≤ (cA8u8 x).length := by rw [List.length_take]; exact Nat.min_le_left _ _
  rw [ccpA8u8, List.take_left, List.drop_append, List.drop_of_length_le (by omega), Nat.add_sub_cancel_left, List.drop_append_of_le_length h1]
  simp
theorem sz3 : szOf Tryd.prog 3 = some 1 := by kernel_rfl
theorem to3 : tyOf Tryd.prog 3 = some (1, 8, some (Value.int .i64 (0 : Int))) := by kernel_rfl
theorem sz5 : szOf Tryd.prog 5 = some 1 := by kernel_rfl
theorem to5 : tyOf Tryd.prog 5 = some (1, 1, some (Value.int .u8 (0 : Int))) := by kernel_rfl
theorem sz49 : szOf Tryd.prog 49 = some 8 := by kernel_rfl
theorem to49 : tyOf Tryd.prog 49 = some (8, 8, some (ag [(Value.int .u8 (0 : Int)), (Value.int .u8 (0 : Int)), (Value.int .u8 (0 : Int)), (Value.int .u8 (0 : Int)), (Value.int .u8 (0 : Int)), (Value.int .u8 (0 : Int)), (Value.int .u8 (0 : Int)), (Value.int .u8 (0 : Int))])) := by kernel_rfl
theorem sz84 : szOf Tryd.prog 84 = some 12 := by kernel_rfl
theorem to84 : tyOf Tryd.prog 84 = some (12, 40, some (ag [(Value.int .u8 (0 : Int)), (Value.int .u8 (0 : Int)), (Value.int .u8 (0 : Int)), (Value.int .u8 (0 : Int)), (Value.int .u8 (0 : Int)), (Value.int .u8 (0 : Int)), (Value.int .u8 (0 : Int)), (Value.int .u8 (0 : Int)), (Value.int .i64 (0 : Int)), (Value.int .i64 (0 : Int)), (Value.int .i64 (0 : Int)), (Value.int .i64 (0 : Int))])) := by kernel_rfl
theorem sz87 : szOf Tryd.prog 87 = some 1 := by kernel_rfl
theorem to87 : tyOf Tryd.prog 87 = some (1, 8, some (Value.int .u64 (0 : Int))) := by kernel_rfl
theorem sz124 : szOf Tryd.prog 124 = some 1 := by kernel_rfl
theorem to124 : tyOf Tryd.prog 124 = some (1, 8, some (Value.pointer none)) := by kernel_rfl
theorem sz126 : szOf Tryd.prog 126 = some 3 := by kernel_rfl
theorem to126 : tyOf Tryd.prog 126 = some (3, 24, some (ag [(Value.int .u64 (0 : Int)), (Value.int .u64 (0 : Int)), (Value.int .u64 (0 : Int))])) := by kernel_rfl
theorem sz128 : szOf Tryd.prog 128 = some 0 := by kernel_rfl
theorem to128 : tyOf Tryd.prog 128 = some (0, 0, some (ag [])) := by kernel_rfl
theorem mixed : Tryd.prog.follows .mixedOrders = true := by kernel_rfl
theorem extA8u8 (x y : A8u8) : x = y ↔ x.e0 = y.e0 ∧ x.e1 = y.e1 ∧ x.e2 = y.e2 ∧ x.e3 = y.e3 ∧ x.e4 = y.e4 ∧ x.e5 = y.e5 ∧ x.e6 = y.e6 ∧ x.e7 = y.e7 := by
  constructor
  · rintro rfl; simp
  · intro h
    obtain ⟨⟩ := x
    obtain ⟨⟩ := y
    simpa using h
theorem eg84 : Tryd.prog.eqGuardType Tryd.prog.depth 84 = false := by kernel_rfl
theorem kt84 : Tryd.prog.keyTypeAt 20 84 = true := by kernel_rfl
theorem lv84 : leaves Tryd.prog 20 84 = some [5, 5, 5, 5, 5, 5, 5, 5, 3, 3, 3, 3] := by kernel_rfl
theorem injS_api_Place {x y : S_api_Place} : (x == y) = true ↔ ((cA8u8 x.ID) ++ [(Value.int .i64 x.Kind), (Value.int .i64 x.Pack), (Value.int .i64 x.At), (Value.int .i64 x.Len)]) = ((cA8u8 y.ID) ++ [(Value.int .i64 y.Kind), (Value.int .i64 y.Pack), (Value.int .i64 y.At), (Value.int .i64 y.Len)]) := by
  rw [beq_iff_eq]
  constructor
  · rintro rfl; rfl
  · intro h
    obtain ⟨⟩ := x
    obtain ⟨⟩ := y
    simp only [A8u8.mk.injEq, S_api_Place.mk.injEq, cA8u8, extA8u8, str, List.cons_append, List.nil_append, List.cons.injEq, Value.int.injEq, Value.bool.injEq, Value.string.injEq, ByteArray.mk.injEq, Array.mk.injEq, Int.natCast_inj, UInt8.toNat_inj, true_and, and_true] at h ⊢
    first | exact h | simpa [and_assoc] using h
def okA8u8 (x : A8u8) : Prop := (True) ∧ (True) ∧ (True) ∧ (True) ∧ (True) ∧ (True) ∧ (True) ∧ (True)
set_option maxRecDepth 100000 in
theorem opnA8u8 {H : Type} : Opn H Tryd.prog 49 tyA8u8 okA8u8 := opn_array (fun x => (x.e0, (x.e1, (x.e2, (x.e3, (x.e4, (x.e5, (x.e6, x.e7)))))))) (fun y => A8u8.mk y.1 y.2.1 y.2.2.1 y.2.2.2.1 y.2.2.2.2.1 y.2.2.2.2.2.1 y.2.2.2.2.2.2.1 y.2.2.2.2.2.2.2) (fun _ => rfl) Tryd.underlying49 sz49 (fields_cons sz5 (opn_u8 Tryd.underlying5) (fields_cons sz5 (opn_u8 Tryd.underlying5) (fields_cons sz5 (opn_u8 Tryd.underlying5) (fields_cons sz5 (opn_u8 Tryd.underlying5) (fields_cons sz5 (opn_u8 Tryd.underlying5) (fields_cons sz5 (opn_u8 Tryd.underlying5) (fields_cons sz5 (opn_u8 Tryd.underlying5) (fields_one sz5 (opn_u8 Tryd.underlying5)))))))))
def okS_api_Place (x : S_api_Place) : Prop := (okA8u8 x.ID) ∧ ((Lit.int .i64 x.Kind).wf = true) ∧ ((Lit.int .i64 x.Pack).wf = true) ∧ ((Lit.int .i64 x.At).wf = true) ∧ ((Lit.int .i64 x.Len).wf = true)
set_option maxRecDepth 100000 in
theorem opnS_api_Place {H : Type} : Opn H Tryd.prog 84 tyS_api_Place okS_api_Place := opn_struct (fun x => (x.ID, (x.Kind, (x.Pack, (x.At, x.Len))))) (fun y => S_api_Place.mk y.1 y.2.1 y.2.2.1 y.2.2.2.1 y.2.2.2.2) (fun _ => rfl) Tryd.underlying84 sz84 (fields_cons sz49 opnA8u8 (fields_cons sz3 (opn_int Tryd.underlying3) (fields_cons sz3 (opn_int Tryd.underlying3) (fields_cons sz3 (opn_int Tryd.underlying3) (fields_one sz3 (opn_int Tryd.underlying3))))))
def f_pack_Known (fu : Nat) (a0 : Int) : Option Bool := (lt (fun (j1b2 : Bool) => (some j1b2)) fun (kk2 : Bool → Option Bool) => (bif (decide (a0 ≥ (1 : Int))) then (kk2 (decide (a0 ≤ (3 : Int)))) else (kk2 false)))
set_option maxRecDepth 100000 in
theorem f_pack_Known_ok (fu : Nat) (a0 : Int) {r : Bool} (h : f_pack_Known fu a0 = some r) : FnOk Tryd.prog 107 [(Value.int .i64 a0)] [] [] (fun (i : Unit) => { val := (Value.bool r) }) := by
  unfold f_pack_Known at h
  refine fn_enter Tryd.func107 rfl Tryd.ntmps107 rfl (fun w0 Z0 => ?_)
  refine aw_seq ?_
  refine aw_region ?_
  refine al_val (ov_assign rfl rfl) ?_
  refine al_nil ?_
  refine aq_then ?_
  obtain ⟨kk2, hkk2, h⟩ := lt_some h
  refine aw_seq_join (ι := Bool) (fun i => (memOf w0 Z0 [] [] [])) (fun i => (tab [(2, (Value.bool i))])) (fun i => kk2 i = some r) ?_ ?_
  · rintro j1b2 h
    have h : kk2 j1b2 = some r := h
    rw [hkk2] at h
    dsimp only at h
    clear hkk2
    refine aw_show (m := (memOf w0 Z0 [] [] [])) (S := (tab [(2, (Value.bool j1b2))])) ?_
    refine aw_ret ?_
    obtain rfl := Option.some.inj h
    exact fn_ret () [] [] rfl rfl rfl rfl (res1 rfl rfl) rfl rfl rfl (by decide)
  · clear hkk2
    refine aw_region ?_
    refine al_val (ov_move rfl rfl) ?_
    refine al_val (ov_int rfl rfl rfl rfl) ?_
    refine al_val (ov_move rfl rfl) ?_
    refine al_caseB 5 rfl (fun hb3 => ?_) (fun hb3 => ?_)
    · replace h := bif_t hb3 h
      refine al_val (ov_move rfl rfl) ?_
      refine al_val (ov_int rfl rfl rfl rfl) ?_
      refine al_val (ov_pick_t rfl rfl rfl) ?_
      refine al_val (ov_assign rfl rfl) ?_
      refine al_nil ?_
      exact aq_join (decide (a0 ≤ (3 : Int))) h (fun w a hm hs => norm hm hs [] [] [(2, (Value.bool (decide (a0 ≤ (3 : Int)))))] (by decide) ⟨rfl, trivial⟩)
    · replace h := bif_f hb3 h
      refine al_skip ?_
      refine al_skip ?_
      refine al_val (ov_pick_f rfl rfl rfl) ?_
      refine al_val (ov_assign rfl rfl) ?_
      refine al_nil ?_
      exact aq_join false h (fun w a hm hs => norm hm hs [] [] [(2, (Value.bool false))] (by decide) ⟨rfl, trivial⟩)
def f_index_inRange (fu : Nat) (a0 : Int) : Option Bool := (lt (fun (j1b2 : Bool) => (some j1b2)) fun (kk2 : Bool → Option Bool) => (bif (decide (a0 ≥ (0 : Int))) then (kk2 (decide (a0 ≤ (1099511627776 : Int)))) else (kk2 false)))
set_option maxRecDepth 100000 in
theorem f_index_inRange_ok (fu : Nat) (a0 : Int) {r : Bool} (h : f_index_inRange fu a0 = some r) : FnOk Tryd.prog 147 [(Value.int .i64 a0)] [] [] (fun (i : Unit) => { val := (Value.bool r) }) := by
  unfold f_index_inRange at h
  refine fn_enter Tryd.func147 rfl Tryd.ntmps147 rfl (fun w0 Z0 => ?_)
  refine aw_seq ?_
  refine aw_region ?_
  refine al_val (ov_assign rfl rfl) ?_
  refine al_nil ?_
  refine aq_then ?_
  obtain ⟨kk2, hkk2, h⟩ := lt_some h
  refine aw_seq_join (ι := Bool) (fun i => (memOf w0 Z0 [] [] [])) (fun i => (tab [(2, (Value.bool i))])) (fun i => kk2 i = some r) ?_ ?_
  · rintro j1b2 h
    have h : kk2 j1b2 = some r := h
    rw [hkk2] at h
    dsimp only at h
    clear hkk2
    refine aw_show (m := (memOf w0 Z0 [] [] [])) (S := (tab [(2, (Value.bool j1b2))])) ?_
    refine aw_ret ?_
    obtain rfl := Option.some.inj h
    exact fn_ret () [] [] rfl rfl rfl rfl (res1 rfl rfl) rfl rfl rfl (by decide)
  · clear hkk2
    refine aw_region ?_
    refine al_val (ov_move rfl rfl) ?_
    refine al_val (ov_int rfl rfl rfl rfl) ?_
    refine al_val (ov_move rfl rfl) ?_
    refine al_caseB 5 rfl (fun hb3 => ?_) (fun hb3 => ?_)
    · replace h := bif_t hb3 h
      refine al_val (ov_move rfl rfl) ?_
      refine al_val (ov_int rfl rfl rfl rfl) ?_
      refine al_val (ov_pick_t rfl rfl rfl) ?_
      refine al_val (ov_assign rfl rfl) ?_
      refine al_nil ?_
      exact aq_join (decide (a0 ≤ (1099511627776 : Int))) h (fun w a hm hs => norm hm hs [] [] [(2, (Value.bool (decide (a0 ≤ (1099511627776 : Int)))))] (by decide) ⟨rfl, trivial⟩)
    · replace h := bif_f hb3 h
      refine al_skip ?_
      refine al_skip ?_
      refine al_val (ov_pick_f rfl rfl rfl) ?_
      refine al_val (ov_assign rfl rfl) ?_
      refine al_nil ?_
      exact aq_join false h (fun w a hm hs => norm hm hs [] [] [(2, (Value.bool false))] (by decide) ⟨rfl, trivial⟩)
def f_index_place (fu : Nat) (a0 : S_api_Place) : Option Int := (opt (f_pack_Known fu a0.Kind) fun (r3 : Bool) => (bif (!r3) then (some (5 : Int)) else (lt (fun (j5b8 : Bool) => (bif j5b8 then (some (1 : Int)) else (some (0 : Int)))) fun (kk6 : Bool → Option Int) => (opt (f_index_inRange fu a0.Pack) fun (r9 : Bool) => (bif (!r9) then (kk6 true) else (opt (f_index_inRange fu a0.At) fun (r12 : Bool) => (bif (!r12) then (kk6 true) else (opt (f_index_inRange fu a0.Len) fun (r15 : Bool) => (kk6 (!r15))))))))))
set_option maxRecDepth 100000 in
theorem f_index_place_ok (fu : Nat) (a0 : S_api_Place) {r : Int} (h : f_index_place fu a0 = some r) : FnOk Tryd.prog 126 [(ag ((cA8u8 a0.ID) ++ [(Value.int .i64 a0.Kind), (Value.int .i64 a0.Pack), (Value.int .i64 a0.At), (Value.int .i64 a0.Len)]))] [] [] (fun (i : Unit) => { val := (Value.int .i64 r) }) := by
  unfold f_index_place at h
  refine fn_enter Tryd.func126 rfl Tryd.ntmps126 rfl (fun w0 Z0 => ?_)
  refine aw_seq ?_
  refine aw_region ?_
  refine al_box (vs := ((cA8u8 a0.ID) ++ [(Value.int .i64 a0.Kind), (Value.int .i64 a0.Pack), (Value.int .i64 a0.At), (Value.int .i64 a0.Len)])) rfl (cv_rfl rfl) rfl (fun g1 => ?_)
  refine al_val (ov_assign rfl rfl) ?_
  refine al_nil ?_
  refine aq_then ?_
  refine aw_seq ?_
  refine aw_block ?_
  refine aw_seq ?_
  refine aw_region ?_
  refine al_val (ov_fieldA (p := 8) rfl Tryd.underlying84 rfl sz3 rfl rfl rfl) ?_
  refine al_val (ov_load (i := 0) (v := (Value.int .i64 a0.Kind)) rfl rfl Tryd.underlying3 sz3 rfl rfl rfl rfl) ?_
  obtain ⟨r3, hc2, h⟩ := opt_some h
  refine al_call (vs := [(Value.int .i64 a0.Kind)]) (f_pack_Known_ok fu a0.Kind hc2) [] [] [0] pre_nil rfl (by simp) (by decide) (.inl rfl) rfl Tryd.func107 rfl rfl rfl (fun _ => ?_)
  refine al_val (ov_not rfl rfl) ?_
  refine al_val (ov_assign rfl rfl) ?_
  refine al_nil ?_
  refine aq_then ?_
  refine aw_cond rfl (fun hb4 => ?_) (fun hb4 => ?_)
  · replace h := bif_t hb4 h
    refine aw_seq ?_
    refine aw_region ?_
    refine al_val (ov_assign rfl rfl) ?_
    refine al_nil ?_
    refine aq_then ?_
    refine aw_ret ?_
    refine aq_block_ret ?_
    refine aq_then_ret ?_
    obtain rfl := Option.some.inj h
    exact fn_ret () [] [] rfl rfl rfl rfl (res1 rfl rfl) rfl rfl rfl (by decide)
  · replace h := bif_f hb4 h
    obtain ⟨kk6, hkk6, h⟩ := lt_some h
    refine aw_seq_join (ι := Bool) (fun i => (memOf w0 Z0 [] [] [])) (fun i => (tab [(8, (Value.bool i))])) (fun i => kk6 i = some r) ?_ ?_
    · rintro j5b8 h
      have h : kk6 j5b8 = some r := h
      rw [hkk6] at h
      dsimp only at h
      clear hkk6
      refine aw_show (m := (memOf w0 Z0 [] [] [])) (S := (tab [(8, (Value.bool j5b8))])) ?_
      refine aw_cond rfl (fun hb7 => ?_) (fun hb7 => ?_)
      · replace h := bif_t hb7 h
        refine aw_seq ?_
        refine aw_region ?_
        refine al_val (ov_assign rfl rfl) ?_
        refine al_nil ?_
        refine aq_then ?_
        refine aw_ret ?_
        refine aq_block_ret ?_
        refine aq_then_ret ?_
        obtain rfl := Option.some.inj h
        exact fn_ret () [] [] rfl rfl rfl rfl (res1 rfl rfl) rfl rfl rfl (by decide)
      · replace h := bif_f hb7 h
        refine aw_skip ?_
        refine aq_block ?_
        refine aq_then ?_
        refine aw_seq ?_
        refine aw_region ?_
        refine al_val (ov_assign rfl rfl) ?_
        refine al_nil ?_
        refine aq_then ?_
        refine aw_ret ?_
        obtain rfl := Option.some.inj h
        exact fn_ret () [] [] rfl rfl rfl rfl (res1 rfl rfl) rfl rfl rfl (by decide)
    · clear hkk6
      refine aw_region ?_
      refine al_val (ov_fieldA (p := 9) rfl Tryd.underlying84 rfl sz3 rfl rfl rfl) ?_
      refine al_val (ov_load (i := 0) (v := (Value.int .i64 a0.Pack)) rfl rfl Tryd.underlying3 sz3 rfl rfl rfl rfl) ?_
      obtain ⟨r9, hc8, h⟩ := opt_some h
      refine al_call (vs := [(Value.int .i64 a0.Pack)]) (f_index_inRange_ok fu a0.Pack hc8) [] [] [0] pre_nil rfl (by simp) (by decide) (.inl rfl) rfl Tryd.func147 rfl rfl rfl (fun _ => ?_)
      refine al_val (ov_not rfl rfl) ?_
      refine al_val (ov_move rfl rfl) ?_
      refine al_caseB 13 rfl (fun hb10 => ?_) (fun hb10 => ?_)
      · replace h := bif_t hb10 h
        refine al_skip ?_
        refine al_skip ?_
        refine al_skip ?_
        refine al_skip ?_
        refine al_val (ov_pick_t rfl rfl rfl) ?_
        refine al_val (ov_move rfl rfl) ?_
        refine al_skip ?_
        refine al_skip ?_
        refine al_skip ?_
        refine al_skip ?_
        refine al_val (ov_pick_t rfl rfl rfl) ?_
        refine al_val (ov_assign rfl rfl) ?_
        refine al_nil ?_
        exact aq_join true h (fun w a hm hs => norm hm hs [] [] [(8, (Value.bool true))] (by decide) ⟨rfl, trivial⟩)
      · replace h := bif_f hb10 h
        refine al_val (ov_fieldA (p := 10) rfl Tryd.underlying84 rfl sz3 rfl rfl rfl) ?_
        refine al_val (ov_load (i := 0) (v := (Value.int .i64 a0.At)) rfl rfl Tryd.underlying3 sz3 rfl rfl rfl rfl) ?_
        obtain ⟨r12, hc11, h⟩ := opt_some h
        refine al_call (vs := [(Value.int .i64 a0.At)]) (f_index_inRange_ok fu a0.At hc11) [] [] [0] pre_nil rfl (by simp) (by decide) (.inl rfl) rfl Tryd.func147 rfl rfl rfl (fun _ => ?_)
        refine al_val (ov_not rfl rfl) ?_
        refine al_val (ov_pick_f rfl rfl rfl) ?_
        refine al_val (ov_move rfl rfl) ?_
        refine al_caseB 19 rfl (fun hb13 => ?_) (fun hb13 => ?_)
        · replace h := bif_t hb13 h
          refine al_skip ?_
          refine al_skip ?_
          refine al_skip ?_
          refine al_skip ?_
          refine al_val (ov_pick_t rfl rfl rfl) ?_
          refine al_val (ov_assign rfl rfl) ?_
          refine al_nil ?_
          exact aq_join true h (fun w a hm hs => norm hm hs [] [] [(8, (Value.bool true))] (by decide) ⟨rfl, trivial⟩)
        · replace h := bif_f hb13 h
          refine al_val (ov_fieldA (p := 11) rfl Tryd.underlying84 rfl sz3 rfl rfl rfl) ?_
          refine al_val (ov_load (i := 0) (v := (Value.int .i64 a0.Len)) rfl rfl Tryd.underlying3 sz3 rfl rfl rfl rfl) ?_
          obtain ⟨r15, hc14, h⟩ := opt_some h
          refine al_call (vs := [(Value.int .i64 a0.Len)]) (f_index_inRange_ok fu a0.Len hc14) [] [] [0] pre_nil rfl (by simp) (by decide) (.inl rfl) rfl Tryd.func147 rfl rfl rfl (fun _ => ?_)
          refine al_val (ov_not rfl rfl) ?_
          refine al_val (ov_pick_f rfl rfl rfl) ?_
          refine al_val (ov_assign rfl rfl) ?_
          refine al_nil ?_
          exact aq_join (!r15) h (fun w a hm hs => norm hm hs [] [] [(8, (Value.bool (!r15)))] (by decide) ⟨rfl, trivial⟩)
def f_bytes_Compare (fu : Nat) (a0 : (List UInt8)) (a1 : (List UInt8)) : Option Int := (some (Lib.compareBytes a0 a1))
set_option maxRecDepth 100000 in
theorem f_bytes_Compare_ok (fu : Nat) (v0_0 : Value) (a0 : (List UInt8)) (v1_0 : Value) (a1 : (List UInt8)) {r : Int} (h : f_bytes_Compare fu a0 a1 = some r) : FnOk Tryd.prog 148 [v0_0, v1_0] [(fDat (tyList tyU8) [v0_0] a0), (fDat (tyList tyU8) [v1_0] a1)] [] (fun (i : Unit) => { val := (Value.int .i64 r) }) := by
  unfold f_bytes_Compare at h
  refine fn_enter Tryd.func148 rfl Tryd.ntmps148 rfl (fun w0 Z0 => ?_)
  refine aw_seq ?_
  refine aw_region ?_
  refine al_val (ov_assign rfl rfl) ?_
  refine al_nil ?_
  refine aq_then ?_
  refine aw_seq ?_
  refine aw_region ?_
  refine al_val (ov_move rfl rfl) ?_
  refine al_val (ov_move rfl rfl) ?_
  refine al_val (v := (Value.int .i64 (Lib.compareBytes a0 a1))) (ov_bytesCmp 0 1 rfl rfl rfl rfl Tryd.func166 rfl rfl rfl rfl rfl) ?_
  refine al_val (ov_assign rfl rfl) ?_
  refine al_nil ?_
  refine aq_then ?_
  refine aw_ret ?_
  obtain rfl := Option.some.inj h
  exact fn_ret () [] [] rfl rfl rfl rfl (res1 rfl rfl) rfl rfl rfl (by decide)
def f_index_Compare (fu : Nat) (a0 : A8u8) (a1 : A8u8) : Option Int := (opt (f_bytes_Compare fu (lA8u8 a0) (lA8u8 a1)) fun (r6 : Int) => (some r6))
set_option maxRecDepth 100000 in
theorem f_index_Compare_ok (fu : Nat) (a0 : A8u8) (a1 : A8u8) {r : Int} (h : f_index_Compare fu a0 a1 = some r) : FnOk Tryd.prog 127 [(ag (cA8u8 a0)), (ag (cA8u8 a1))] [] [] (fun (i : Unit) => { val := (Value.int .i64 r) }) := by
  unfold f_index_Compare at h
  refine fn_enter Tryd.func127 rfl Tryd.ntmps127 rfl (fun w0 Z0 => ?_)
  refine aw_seq ?_
  refine aw_region ?_
  refine al_box (vs := (cA8u8 a0)) rfl (cv_rfl rfl) rfl (fun g1 => ?_)
  refine al_box (vs := (cA8u8 a1)) rfl (cv_rfl rfl) rfl (fun g2 => ?_)
  refine al_val (ov_assign rfl rfl) ?_
  refine al_nil ?_
  refine aq_then ?_
  refine aw_seq ?_
  refine aw_freezeB 1 (a0) rfl rfl (fun _ _ => mkA8u8 rfl) ?_
  refine aw_freezeB 0 (a1) rfl rfl (fun _ _ => mkA8u8 rfl) ?_
  obtain ⟨r6, hc5, h⟩ := opt_some h
  refine aw_region_draw 3 [(5, (fun s3 => (fDat (tyList tyU8) [s3] (lA8u8 a0)))), (6, (fun s4 => (fDat (tyList tyU8) [s4] (lA8u8 a1)))), (7, (fun u => fEq u (Value.int .i64 r6)))] (tab [(2, (ptr g1 0)), (3, (ptr g2 0)), (4, (Value.int .i64 (0 : Int)))]) mixed (by kernel_rfl) rfl rfl rfl (fun a hs => hs.tab _ (allT_mem ⟨rfl, rfl, rfl, trivial⟩)) ⟨⟨rfl, ld_of (of_sliceP 1 lrepA8u8 rfl rfl rfl rfl Tryd.underlying49 sz5 rfl)⟩, ⟨rfl, ld_of (of_sliceP 0 lrepA8u8 rfl rfl rfl rfl Tryd.underlying49 sz5 rfl)⟩, ⟨rfl, ld_fact (j := 0) rfl rfl (fun s3 => ld_fact (j := 1) rfl rfl (fun s4 => ld_callV (vs := [s3, s4]) (f_bytes_Compare_ok fu s3 (lA8u8 a0) s4 (lA8u8 a1) hc5) [] (pre_fz 1 rfl (pre_fz 0 rfl pre_nil)) rfl Tryd.func148 rfl rfl rfl))⟩, trivial⟩ ?_
  refine tl_eq 2 rfl ?_
  refine tl_done ?_
  refine al_val (ov_assign rfl rfl) ?_
  refine al_nil ?_
  refine aq_then ?_
  refine aw_ret ?_
  obtain rfl := Option.some.inj h
  exact fn_ret () [] [] rfl rfl rfl rfl (res1 rfl rfl) rfl rfl rfl (by decide)
def f_index_Check_L6 (a0 : (List S_api_Place)) (kk3 : (Unit → Option Int)) (fu : Nat) : Nat → Int → Option Int
  | 0, _ => none
  | k5 + 1, l4i11 => (bif (decide (l4i11 < (a0.length : Int))) then (opt (at? a0 l4i11) fun (u8 : S_api_Place) => (opt (f_index_place fu u8) fun (r13 : Int) => (bif (r13 != (0 : Int)) then (some r13) else (lt (fun (j15b34 : Bool) => (bif j15b34 then (some (4 : Int)) else (f_index_Check_L6 a0 kk3 fu k5 (IntKind.i64.wrap (l4i11 + (1 : Int)))))) fun (kk16 : Bool → Option Int) => (bif (decide (l4i11 > (0 : Int))) then (opt (at? a0 (IntKind.i64.wrap (l4i11 - (1 : Int)))) fun (u19 : S_api_Place) => (opt (f_index_Compare fu u8.ID u19.ID) fun (r24 : Int) => (kk16 (decide (r24 ≤ (0 : Int)))))) else (kk16 false)))))) else (kk3 ()))
def f_index_Check (fu : Nat) (a0 : (List S_api_Place)) : Option Int := (bif (decide ((a0.length : Int) > (400 : Int))) then (some (2 : Int)) else (lt (fun (_ : Unit) => (some (0 : Int))) fun (kk3 : Unit → Option Int) => (f_index_Check_L6 a0 kk3 fu fu (0 : Int))))
set_option maxRecDepth 100000 in
theorem f_index_Check_ok (fu : Nat) (v0_0 : Value) (a0 : (List S_api_Place)) {r : Int} (h : f_index_Check fu a0 = some r) : FnOk Tryd.prog 93 [v0_0] [(fDat (tyList tyS_api_Place) [v0_0] a0)] [] (fun (i : Unit) => { val := (Value.int .i64 r) }) := by
  unfold f_index_Check at h
  refine fn_enter Tryd.func93 rfl Tryd.ntmps93 rfl (fun w0 Z0 => ?_)
  refine aw_seq ?_
  refine aw_region ?_
  refine al_val (ov_assign rfl rfl) ?_
  refine al_nil ?_
  refine aq_then ?_
  refine aw_seq ?_
  refine aw_seq ?_
  refine aw_region ?_
  refine al_val (ov_move rfl rfl) ?_
  refine al_val (ov_lenD 0 rfl rfl Tryd.underlying76 rfl) ?_
  refine al_val (ov_int rfl rfl rfl rfl) ?_
  refine al_nil ?_
  refine aq_then ?_
  refine aw_cond rfl (fun hb1 => ?_) (fun hb1 => ?_)
  · replace h := bif_t hb1 h
    refine aw_seq ?_
    refine aw_region ?_
    refine al_val (ov_assign rfl rfl) ?_
    refine al_nil ?_
    refine aq_then ?_
    refine aw_ret ?_
    refine aq_then_ret ?_
    obtain rfl := Option.some.inj h
    exact fn_ret () [] [] rfl rfl rfl rfl (res1 rfl rfl) rfl rfl rfl (by decide)
  · replace h := bif_f hb1 h
    refine aw_skip ?_
    refine aq_then ?_
    obtain ⟨kk3, hkk3, h⟩ := lt_some h
    refine aw_seq_join (ι := Unit) (fun i => (memOf w0 Z0 [] [] [(fDat (tyList tyS_api_Place) [v0_0] a0)])) (fun i => (tab [])) (fun i => kk3 () = some r) ?_ ?_
    · rintro _ h
      have h : kk3 () = some r := h
      rw [hkk3] at h
      dsimp only at h
      clear hkk3
      refine aw_show (m := (memOf w0 Z0 [] [] [(fDat (tyList tyS_api_Place) [v0_0] a0)])) (S := (tab [])) ?_
      refine aw_seq ?_
      refine aw_region ?_
      refine al_val (ov_assign rfl rfl) ?_
      refine al_nil ?_
      refine aq_then ?_
      refine aw_ret ?_
      obtain rfl := Option.some.inj h
      exact fn_ret () [] [] rfl rfl rfl rfl (res1 rfl rfl) rfl rfl rfl (by decide)
    · clear hkk3
      refine aw_seq ?_
      refine aw_region ?_
      refine al_val (ov_move rfl rfl) ?_
      refine al_val (ov_lenD 0 rfl rfl Tryd.underlying76 rfl) ?_
      refine al_val (ov_move rfl rfl) ?_
      refine al_nil ?_
      refine aq_then ?_
      refine aw_block ?_
      refine aw_state (aw_loop (ι := Int) (fun i => (memOf w0 Z0 [] [] [(fDat (tyList tyS_api_Place) [v0_0] a0)])) (fun i => (tab [(0, v0_0), (9, v0_0), (10, (Value.int .i64 (a0.length : Int))), (11, (Value.int .i64 i))])) (fun q i => f_index_Check_L6 a0 kk3 fu q i = some r) ?_ fu (0 : Int) h) (fun w a hm hs => norm hm hs [] [0] [(0, v0_0), (9, v0_0), (10, (Value.int .i64 (a0.length : Int))), (11, (Value.int .i64 (0 : Int)))] (by decide) ⟨rfl, rfl, rfl, rfl, trivial⟩)
      clear h
      rintro k5 l4i11 h
      have h : f_index_Check_L6 a0 kk3 fu k5 l4i11 = some r := h
      obtain _ | k5 := k5
      · rw [f_index_Check_L6] at h; cases h
      rw [f_index_Check_L6] at h
      refine aw_show (m := (memOf w0 Z0 [] [] [(fDat (tyList tyS_api_Place) [v0_0] a0)])) (S := (tab [(0, v0_0), (9, v0_0), (10, (Value.int .i64 (a0.length : Int))), (11, (Value.int .i64 l4i11))])) ?_
      refine aw_seq ?_
      refine aw_region ?_
      refine al_val (ov_int rfl rfl rfl rfl) ?_
      refine al_nil ?_
      refine aq_then ?_
      refine aw_seq ?_
      refine aw_cond rfl (fun hb7 => ?_) (fun hb7 => ?_)
      · replace h := bif_t hb7 h
        refine aw_skip ?_
        refine aq_then ?_
        refine aw_seq ?_
        refine aw_block ?_
        refine aw_seq ?_
        refine aw_region ?_
        refine al_val (ov_move rfl rfl) ?_
        obtain ⟨u8, hu9, h⟩ := opt_some h
        refine al_idxD 0 hu9 rfl rfl rfl Tryd.underlying76 sz84 rfl (fun p10 => ?_)
        refine al_val (ov_loadP (ds := ((cA8u8 u8.ID) ++ [(Value.int .i64 u8.Kind), (Value.int .i64 u8.Pack), (Value.int .i64 u8.At), (Value.int .i64 u8.Len)])) 0 rfl encS_api_Place rfl Tryd.underlying84 sz84 rfl rfl rfl) ?_
        refine al_alloc (zs := ((cA8u8 (A8u8.mk (0 : UInt8) (0 : UInt8) (0 : UInt8) (0 : UInt8) (0 : UInt8) (0 : UInt8) (0 : UInt8) (0 : UInt8))) ++ [(Value.int .i64 (0 : Int)), (Value.int .i64 (0 : Int)), (Value.int .i64 (0 : Int)), (Value.int .i64 (0 : Int))])) (zeroOf_to to84) rfl rfl (fun g11 => ?_)
        refine al_val (ov_assign rfl rfl) ?_
        refine al_store (i := 0) (vs := ((cA8u8 u8.ID) ++ [(Value.int .i64 u8.Kind), (Value.int .i64 u8.Pack), (Value.int .i64 u8.At), (Value.int .i64 u8.Len)])) (cs' := ((cA8u8 u8.ID) ++ [(Value.int .i64 u8.Kind), (Value.int .i64 u8.Pack), (Value.int .i64 u8.At), (Value.int .i64 u8.Len)])) rfl rfl rfl sz84 (cv_rfl rfl) rfl (co_app (oneA8u8 u8.ID) (co_val rfl (co_val rfl (co_val rfl (co_val rfl co_nil))))) (Nat.le_of_ble_eq_true rfl) rfl rfl ?_
        refine al_nil ?_
        refine aq_then ?_
        refine aw_seq ?_
        refine aw_seq ?_
        refine aw_region ?_
        refine al_val (ov_load (i := 0) (v := (ag ((cA8u8 u8.ID) ++ [(Value.int .i64 u8.Kind), (Value.int .i64 u8.Pack), (Value.int .i64 u8.At), (Value.int .i64 u8.Len)]))) rfl rfl Tryd.underlying84 sz84 rfl rfl rfl rfl) ?_
        obtain ⟨r13, hc12, h⟩ := opt_some h
        refine al_call (vs := [(ag ((cA8u8 u8.ID) ++ [(Value.int .i64 u8.Kind), (Value.int .i64 u8.Pack), (Value.int .i64 u8.At), (Value.int .i64 u8.Len)]))]) (f_index_place_ok fu u8 hc12) [] [] [0] pre_nil rfl (by simp) (by decide) (.inl rfl) rfl Tryd.func126 rfl rfl rfl (fun _ => ?_)
        refine al_val (ov_assign rfl rfl) ?_
        refine al_nil ?_
        refine aq_then ?_
        refine aw_seq ?_
        refine aw_region ?_
        refine al_val (ov_move rfl rfl) ?_
        refine al_val (ov_int rfl rfl rfl rfl) ?_
        refine al_nil ?_
        refine aq_then ?_
        refine aw_cond rfl (fun hb14 => ?_) (fun hb14 => ?_)
        · replace h := bif_t hb14 h
          refine aw_seq ?_
          refine aw_region ?_
          refine al_val (ov_move rfl rfl) ?_
          refine al_val (ov_assign rfl rfl) ?_
          refine al_nil ?_
          refine aq_then ?_
          refine aw_ret ?_
          refine aq_then_ret ?_
          refine aq_block_ret ?_
          refine aq_then_ret ?_
          refine aq_then_ret ?_
          refine aq_block_ret ?_
          refine aq_then_ret ?_
          obtain rfl := Option.some.inj h
          exact fn_ret () [] [] rfl rfl rfl rfl (res1 rfl rfl) rfl rfl rfl (by decide)
        · replace h := bif_f hb14 h
          refine aw_skip ?_
          refine aq_then ?_
          obtain ⟨kk16, hkk16, h⟩ := lt_some h
          refine aw_seq_join (ι := Bool) (fun i => (memOf w0 Z0 [] [] [(fDat (tyList tyS_api_Place) [v0_0] a0), (fPtr tyS_api_Place p10 u8)])) (fun i => (tab [(0, v0_0), (9, v0_0), (10, (Value.int .i64 (a0.length : Int))), (11, (Value.int .i64 l4i11)), (34, (Value.bool i))])) (fun i => kk16 i = some r) ?_ ?_
          · rintro j15b34 h
            have h : kk16 j15b34 = some r := h
            rw [hkk16] at h
            dsimp only at h
            clear hkk16
            refine aw_show (m := (memOf w0 Z0 [] [] [(fDat (tyList tyS_api_Place) [v0_0] a0), (fPtr tyS_api_Place p10 u8)])) (S := (tab [(0, v0_0), (9, v0_0), (10, (Value.int .i64 (a0.length : Int))), (11, (Value.int .i64 l4i11)), (34, (Value.bool j15b34))])) ?_
            refine aw_cond rfl (fun hb17 => ?_) (fun hb17 => ?_)
            · replace h := bif_t hb17 h
              refine aw_seq ?_
              refine aw_region ?_
              refine al_val (ov_assign rfl rfl) ?_
              refine al_nil ?_
              refine aq_then ?_
              refine aw_ret ?_
              refine aq_block_ret ?_
              refine aq_then_ret ?_
              refine aq_then_ret ?_
              refine aq_block_ret ?_
              refine aq_then_ret ?_
              obtain rfl := Option.some.inj h
              exact fn_ret () [] [] rfl rfl rfl rfl (res1 rfl rfl) rfl rfl rfl (by decide)
            · replace h := bif_f hb17 h
              refine aw_skip ?_
              refine aq_block ?_
              refine aq_then ?_
              refine aw_region ?_
              refine al_val (ov_int rfl rfl rfl rfl) ?_
              refine al_val (ov_move rfl rfl) ?_
              refine al_nil ?_
              exact aq_again k5 (IntKind.i64.wrap (l4i11 + (1 : Int))) (Nat.lt_succ_self _) h (fun w a hm hs => norm hm hs [] [0] [(0, v0_0), (9, v0_0), (10, (Value.int .i64 (a0.length : Int))), (11, (Value.int .i64 (IntKind.i64.wrap (l4i11 + (1 : Int)))))] (by decide) ⟨rfl, rfl, rfl, rfl, trivial⟩)
          · clear hkk16
            rcases Bool.eq_false_or_eq_true (decide (l4i11 > (0 : Int))) with hb18 | hb18
            · replace h := bif_t hb18 h
              obtain ⟨u19, hu20, h⟩ := opt_some h
              obtain ⟨r24, hc23, h⟩ := opt_some h
              refine aw_region_draw 13 [(21, (fun u => fEq u (Value.int .i64 l4i11))), (22, (fun u => fEq u (Value.bool true))), (23, (fun u => fEq u (Value.bool true))), (24, (fun u => fEq u (ptr g11 0))), (25, (fun u => fEq u (ag (cA8u8 u8.ID)))), (26, (fun u => fEq u v0_0)), (27, (fun u => fEq u (Value.int .i64 l4i11))), (28, (fun u => fEq u (Value.int .i64 (IntKind.i64.wrap (l4i11 - (1 : Int)))))), (29, (fun p21 => (fPtr tyS_api_Place p21 u19))), (30, (fun p22 => (fPtr tyA8u8 p22 u19.ID))), (31, (fun u => fEq u (ag (cA8u8 u19.ID)))), (32, (fun u => fEq u (Value.int .i64 r24))), (33, (fun u => fEq u (Value.bool (decide (r24 ≤ (0 : Int))))))] (tab [(0, v0_0), (3, (Value.int .i64 l4i11)), (4, (ptr g11 0)), (9, v0_0), (10, (Value.int .i64 (a0.length : Int))), (11, (Value.int .i64 l4i11))]) mixed (by kernel_rfl) rfl rfl rfl (fun a hs => hs.tab _ (allT_mem ⟨rfl, rfl, rfl, rfl, rfl, rfl, trivial⟩)) ⟨⟨rfl, ld_val (ov_move rfl rfl)⟩, ⟨rfl, ld_eq (j := 0) rfl rfl (ld_val (ov_cast (by first | rw [hb18] | rfl) (ov_int rfl rfl rfl rfl)))⟩, ⟨rfl, ld_eq (j := 1) rfl rfl (ld_val (ov_cast (by first | rw [hb18] | rfl) (ov_move rfl rfl)))⟩, ⟨rfl, ld_eq (j := 2) rfl rfl (ld_val (ov_fieldA (p := 0) rfl Tryd.underlying84 rfl sz49 rfl rfl rfl))⟩, ⟨rfl, ld_eq (j := 2) rfl rfl (ld_eq (j := 3) rfl rfl (ld_val (ov_load (i := 0) (v := (ag (cA8u8 u8.ID))) rfl rfl Tryd.underlying49 sz49 rfl rfl rfl rfl)))⟩, ⟨rfl, ld_eq (j := 2) rfl rfl (ld_val (ov_move rfl rfl))⟩, ⟨rfl, ld_eq (j := 2) rfl rfl (ld_val (ov_move rfl rfl))⟩, ⟨rfl, ld_eq (j := 2) rfl rfl (ld_eq (j := 6) rfl rfl (ld_val (ov_int rfl rfl rfl rfl)))⟩, ⟨rfl, ld_eq (j := 2) rfl rfl (ld_eq (j := 5) rfl rfl (ld_eq (j := 7) rfl rfl (ld_of (of_idxD 1 hu20 rfl rfl rfl Tryd.underlying76 sz84 rfl))))⟩, ⟨rfl, ld_eq (j := 2) rfl rfl (ld_fact (j := 8) rfl rfl (fun p21 => ld_of (of_fieldD (pr := fun (y : S_api_Place) => y.ID) 0 rfl subS_api_Place_0 rfl Tryd.underlying84 rfl sz49 rfl rfl)))⟩, ⟨rfl, ld_eq (j := 2) rfl rfl (ld_fact (j := 9) rfl rfl (fun p22 => ld_val (ov_loadP (ds := (cA8u8 u19.ID)) 0 rfl encA8u8 rfl Tryd.underlying49 sz49 rfl rfl rfl)))⟩, ⟨rfl, ld_eq (j := 2) rfl rfl (ld_eq (j := 4) rfl rfl (ld_eq (j := 10) rfl rfl (ld_callV (vs := [(ag (cA8u8 u8.ID)), (ag (cA8u8 u19.ID))]) (f_index_Compare_ok fu u8.ID u19.ID hc23) [] pre_nil rfl Tryd.func127 rfl rfl rfl)))⟩, ⟨rfl, ld_eq (j := 2) rfl rfl (ld_eq (j := 11) rfl rfl (ld_val (ov_int rfl rfl rfl rfl)))⟩, trivial⟩ ?_
              refine tl_eq 2 rfl ?_
              refine tl_eq 12 rfl ?_
              refine tl_done ?_
              refine al_val (ov_pick_t rfl rfl rfl) ?_
              refine al_nil ?_
              exact aq_join (decide (r24 ≤ (0 : Int))) h (fun w a hm hs => norm hm hs [] [1, 0] [(0, v0_0), (9, v0_0), (10, (Value.int .i64 (a0.length : Int))), (11, (Value.int .i64 l4i11)), (34, (Value.bool (decide (r24 ≤ (0 : Int)))))] (by decide) ⟨rfl, rfl, rfl, rfl, rfl, trivial⟩)
            · replace h := bif_f hb18 h
              refine aw_region_draw 13 [(21, (fun u => fEq u (Value.int .i64 l4i11))), (22, (fun u => fEq u (Value.bool false))), (23, (fun u => fEq u (Value.bool false))), (24, (fun u => fEq u undef)), (25, (fun u => fEq u undef)), (26, (fun u => fEq u undef)), (27, (fun u => fEq u undef)), (28, (fun u => fEq u undef)), (29, (fun u => fEq u undef)), (30, (fun u => fEq u undef)), (31, (fun u => fEq u undef)), (32, (fun u => fEq u undef)), (33, (fun u => fEq u undef))] (tab [(0, v0_0), (3, (Value.int .i64 l4i11)), (4, (ptr g11 0)), (9, v0_0), (10, (Value.int .i64 (a0.length : Int))), (11, (Value.int .i64 l4i11))]) mixed (by kernel_rfl) rfl rfl rfl (fun a hs => hs.tab _ (allT_mem ⟨rfl, rfl, rfl, rfl, rfl, rfl, trivial⟩)) ⟨⟨rfl, ld_val (ov_move rfl rfl)⟩, ⟨rfl, ld_eq (j := 0) rfl rfl (ld_val (ov_cast (by first | rw [hb18] | rfl) (ov_int rfl rfl rfl rfl)))⟩, ⟨rfl, ld_eq (j := 1) rfl rfl (ld_val (ov_cast (by first | rw [hb18] | rfl) (ov_move rfl rfl)))⟩, ⟨rfl, ld_eq (j := 2) rfl rfl (ld_skip)⟩, ⟨rfl, ld_eq (j := 2) rfl rfl (ld_skip)⟩, ⟨rfl, ld_eq (j := 2) rfl rfl (ld_skip)⟩, ⟨rfl, ld_eq (j := 2) rfl rfl (ld_skip)⟩, ⟨rfl, ld_eq (j := 2) rfl rfl (ld_skip)⟩, ⟨rfl, ld_eq (j := 2) rfl rfl (ld_skip)⟩, ⟨rfl, ld_eq (j := 2) rfl rfl (ld_skip)⟩, ⟨rfl, ld_eq (j := 2) rfl rfl (ld_skip)⟩, ⟨rfl, ld_eq (j := 2) rfl rfl (ld_skip)⟩, ⟨rfl, ld_eq (j := 2) rfl rfl (ld_skip)⟩, trivial⟩ ?_
              refine tl_eq 2 rfl ?_
              refine tl_eq 12 rfl ?_
              refine tl_done ?_
              refine al_val (ov_pick_f rfl rfl rfl) ?_
              refine al_nil ?_
              exact aq_join false h (fun w a hm hs => norm hm hs [] [1, 0] [(0, v0_0), (9, v0_0), (10, (Value.int .i64 (a0.length : Int))), (11, (Value.int .i64 l4i11)), (34, (Value.bool false))] (by decide) ⟨rfl, rfl, rfl, rfl, rfl, trivial⟩)
      · replace h := bif_f hb7 h
        refine aw_exit ?_
        refine aq_then_exit ?_
        refine aq_then_exit ?_
        refine aq_block_exit ?_
        exact aq_join () h (fun w a hm hs => norm hm hs [] [0] [] (by decide) trivial)
-- STUCK (encoding/binary.bigEndian).AppendUint64: binary.go:222: call: append to data
def f_strings_TrimLeft (fu : Nat) (a0 a1 : List UInt8) : Option (List UInt8) := match a1 with | [c] => req (c.toNat < 128) (some (Lib.trimLeftB a0 c)) | _ => none
theorem f_strings_TrimLeft_ok (fu : Nat) (a0 a1 : List UInt8) {r : List UInt8} (h : f_strings_TrimLeft fu a0 a1 = some r) : FnOk Tryd.prog 129 [(str a0), (str a1)] [] [] (fun (i : Unit) => { val := (str r) }) := by
  unfold f_strings_TrimLeft at h
  split at h
  · rename_i c
    obtain ⟨hc, h⟩ := req_some h
    obtain rfl := Option.some.inj h
    refine fnok_pure fun w => ?_
    exact (Tryd.strings_TrimLeft_one ⟨a0.toArray⟩ c hc w).mono fun e w' h9 => ⟨by simpa [str] using h9.1, by rw [h9.2]; exact Below.refl _ _⟩
  · cases h
def f_binary_BEAppendUint64_nil (fu : Nat) (a0 : Unit) (a2 : Int) : Option (List UInt8) := req (0 ≤ a2 ∧ a2 < 18446744073709551616) (some (Lib.beBytes 8 a2.toNat))
theorem f_binary_BEAppendUint64_nil_ok (fu : Nat) (a0 : Unit) (a2 : Int) {r : List UInt8} (h : f_binary_BEAppendUint64_nil fu a0 a2 = some r) : FnOk Tryd.prog 128 [(ag []), (Value.slice none 0 0), (Value.int .u64 a2)] [] [] (fun (i : Value) => { val := i, own := [(oRow i 5 tyU8 r)] }) := by
  unfold f_binary_BEAppendUint64_nil at h
  obtain ⟨hc, h⟩ := req_some h
  obtain rfl := Option.some.inj h
  obtain ⟨n, rfl⟩ : ∃ n : Nat, a2 = n := ⟨a2.toNat, by omega⟩
  refine fnok_own fun w => ?_
  refine (Tryd.binary_BE_AppendUint64 w.heap.size 0 n (by omega) (.slice none 0 0) [] w ⟨rfl, .inl ⟨rfl, rfl⟩⟩ (Nat.le_refl _) (by omega)).mono fun ex w' h9 => ?_
  obtain ⟨v, h1, h2, h3⟩ := h9
  refine ⟨v, _, h1, ?_, fun Z => u8_row _, h3⟩
  rw [Lib.beBytes_length]
  show World.ownsRow _ _ _ 1 _ _ _
  simpa using h2
def f_num_digits (fu : Nat) (a0 : Int) : Option (List UInt8) := (opt (f_binary_BEAppendUint64_nil fu () a0) fun (r2 : (List UInt8)) => (opt (f_strings_TrimLeft fu r2 ([0] : List UInt8)) fun (r5 : (List UInt8)) => (some r5)))
set_option maxRecDepth 100000 in
theorem f_num_digits_ok (fu : Nat) (a0 : Int) {r : (List UInt8)} (h : f_num_digits fu a0 = some r) : FnOk Tryd.prog 95 [(Value.int .u64 a0)] [] [] (fun (i : Unit) => { val := (str r) }) := by
  unfold f_num_digits at h
  refine fn_enter Tryd.func95 rfl Tryd.ntmps95 rfl (fun w0 Z0 => ?_)
  refine aw_seq ?_
  refine aw_region ?_
  refine al_val (ov_assign rfl rfl) ?_
  refine al_nil ?_
  refine aq_then ?_
  refine aw_seq ?_
  refine aw_region ?_
  refine al_val (ov_load0 Tryd.underlying128 sz128 rfl rfl rfl) ?_
  refine al_val (ov_move rfl rfl) ?_
  obtain ⟨r2, hc1, h⟩ := opt_some h
  refine al_call (vs := [(ag []), (Value.slice none 0 0), (Value.int .u64 a0)]) (f_binary_BEAppendUint64_nil_ok fu () a0 hc1) [] [] [] pre_nil rfl (by simp) (by decide) (.inl rfl) rfl Tryd.func128 rfl rfl rfl (fun v3 => ?_)
  refine al_val (ov_toStrR 0 rfl rfl Tryd.underlying89 Tryd.underlying5 Tryd.underlying9 rfl) ?_
  refine al_val (ov_assign rfl rfl) ?_
  refine al_nil ?_
  refine aq_then ?_
  refine aw_seq ?_
  refine aw_region ?_
  refine al_val (ov_move rfl rfl) ?_
  obtain ⟨r5, hc4, h⟩ := opt_some h
  refine al_call (vs := [(str r2), (str ([0] : List UInt8))]) (f_strings_TrimLeft_ok fu r2 ([0] : List UInt8) hc4) [] [] [0] pre_nil rfl (by simp) (by decide) (.inl rfl) rfl Tryd.func129 rfl rfl rfl (fun _ => ?_)
  refine al_val (ov_assign rfl rfl) ?_
  refine al_nil ?_
  refine aq_then ?_
  refine aw_ret ?_
  obtain rfl := Option.some.inj h
  exact fn_ret () [] [] rfl rfl rfl rfl (res1 rfl rfl) rfl rfl rfl (by decide)
def f_num_Put (fu : Nat) (a0 : Int) : Option (List UInt8) := (opt (f_num_digits fu a0) fun (r2 : (List UInt8)) => (req (0 ≤ (IntKind.u8.wrap (r2.length : Int)) ∧ (IntKind.u8.wrap (r2.length : Int)) ≤ 255) (req (([(UInt8.ofNat ((IntKind.u8.wrap (r2.length : Int))).toNat)]).length + r2.length ≤ 9223372036854775807) (some (([(UInt8.ofNat ((IntKind.u8.wrap (r2.length : Int))).toNat)]) ++ r2)))))
set_option maxRecDepth 100000 in
theorem f_num_Put_ok (fu : Nat) (a0 : Int) {r : (List UInt8)} (h : f_num_Put fu a0 = some r) : FnOk Tryd.prog 54 [(Value.int .u64 a0)] [] [] (fun (i : Unit) => { val := (str r) }) := by
  unfold f_num_Put at h
  refine fn_enter Tryd.func54 rfl Tryd.ntmps54 rfl (fun w0 Z0 => ?_)
  refine aw_seq ?_
  refine aw_region ?_
  refine al_val (ov_assign rfl rfl) ?_
  refine al_nil ?_
  refine aq_then ?_
  refine aw_seq ?_
  refine aw_region ?_
  refine al_val (ov_move rfl rfl) ?_
  obtain ⟨r2, hc1, h⟩ := opt_some h
  refine al_call (vs := [(Value.int .u64 a0)]) (f_num_digits_ok fu a0 hc1) [] [] [] pre_nil rfl (by simp) (by decide) (.inl rfl) rfl Tryd.func95 rfl rfl rfl (fun _ => ?_)
  refine al_val (ov_assign rfl rfl) ?_
  refine al_nil ?_
  refine aq_then ?_
  refine aw_seq ?_
  refine aw_region ?_
  refine al_val (ov_move rfl rfl) ?_
  refine al_val (ov_strLen Tryd.underlying9 rfl rfl) ?_
  refine al_val (ov_convInt (by rw [Tryd.underlying3]; rfl) Tryd.underlying5 rfl rfl) ?_
  obtain ⟨hc4, h⟩ := req_some h
  refine al_buildSlice (τ := tyU8) (e := 5) (k := 1) (sz := 0) (by_ := 0) (z := undef) (cs := [(Value.int .u8 (IntKind.u8.wrap (r2.length : Int)))]) (xs := [(UInt8.ofNat ((IntKind.u8.wrap (r2.length : Int))).toNat)]) rfl (by decide) (fun w a hm hs => ⟨([(Value.int .u8 (IntKind.u8.wrap (r2.length : Int)))]).toArray, rfl, by simp only [List.map_toArray, List.map_cons, List.map_nil, hs.ev (x := .tmp 8) rfl]; exact run_bs [(Value.int .u8 (IntKind.u8.wrap (r2.length : Int)))] [(Value.int .u8 (IntKind.u8.wrap (r2.length : Int)))] Tryd.underlying89 to5 rfl rfl (bs_cons (l := [(Value.int .u8 (IntKind.u8.wrap (r2.length : Int)))]) (cs := []) (cv_rfl rfl) rfl bs_nil) hm⟩) (fun hm => ⟨_, _, rfl, (fun _ => u8_rep hc4) hm, rfl⟩) rfl (fun v3 => ?_)
  refine al_val (ov_toStrR 0 rfl rfl Tryd.underlying89 Tryd.underlying5 Tryd.underlying9 rfl) ?_
  refine al_val (ov_move rfl rfl) ?_
  obtain ⟨hc5, h⟩ := req_some h
  refine al_val (ov_strAdd hc5 rfl rfl rfl) ?_
  refine al_val (ov_assign rfl rfl) ?_
  refine al_nil ?_
  refine aq_then ?_
  refine aw_ret ?_
  obtain rfl := Option.some.inj h
  exact fn_ret () [] [] rfl rfl rfl rfl (res1 rfl rfl) rfl rfl rfl (by decide)
def f_index_Text_L10 (a0 : (List S_api_Place)) (kk7 : ((List UInt8) → Option ((List UInt8) × Int))) (fu : Nat) : Nat → (List UInt8) → Int → Option ((List UInt8) × Int)
  | 0, _, _ => none
  | k9 + 1, l8s5, l8i19 => (bif (decide (l8i19 < (a0.length : Int))) then (opt (at? a0 l8i19) fun (u12 : S_api_Place) => (req (0 ≤ (IntKind.u8.wrap u12.Kind) ∧ (IntKind.u8.wrap u12.Kind) ≤ 255) (req ((lA8u8 u12.ID).length + ([(UInt8.ofNat ((IntKind.u8.wrap u12.Kind)).toNat)]).length ≤ 9223372036854775807) (opt (f_num_Put fu (IntKind.u64.wrap u12.Pack)) fun (r24 : (List UInt8)) => (req (((lA8u8 u12.ID) ++ ([(UInt8.ofNat ((IntKind.u8.wrap u12.Kind)).toNat)])).length + r24.length ≤ 9223372036854775807) (opt (f_num_Put fu (IntKind.u64.wrap u12.At)) fun (r28 : (List UInt8)) => (req ((((lA8u8 u12.ID) ++ ([(UInt8.ofNat ((IntKind.u8.wrap u12.Kind)).toNat)])) ++ r24).length + r28.length ≤ 9223372036854775807) (opt (f_num_Put fu (IntKind.u64.wrap u12.Len)) fun (r32 : (List UInt8)) => (req (((((lA8u8 u12.ID) ++ ([(UInt8.ofNat ((IntKind.u8.wrap u12.Kind)).toNat)])) ++ r24) ++ r28).length + r32.length ≤ 9223372036854775807) (req (l8s5.length + (((((lA8u8 u12.ID) ++ ([(UInt8.ofNat ((IntKind.u8.wrap u12.Kind)).toNat)])) ++ r24) ++ r28) ++ r32).length ≤ 9223372036854775807) (f_index_Text_L10 a0 kk7 fu k9 (l8s5 ++ (((((lA8u8 u12.ID) ++ ([(UInt8.ofNat ((IntKind.u8.wrap u12.Kind)).toNat)])) ++ r24) ++ r28) ++ r32)) (IntKind.i64.wrap (l8i19 + (1 : Int)))))))))))))) else (kk7 l8s5))
def f_index_Text (fu : Nat) (a0 : (List S_api_Place)) : Option ((List UInt8) × Int) := (opt (f_index_Check fu a0) fun (r2 : Int) => (bif (r2 != (0 : Int)) then (some (([] : List UInt8), r2)) else (opt (f_num_Put fu (IntKind.u64.wrap (a0.length : Int))) fun (r5 : (List UInt8)) => (lt (fun (j6s5 : (List UInt8)) => (some (j6s5, (0 : Int)))) fun (kk7 : (List UInt8) → Option ((List UInt8) × Int)) => (f_index_Text_L10 a0 kk7 fu fu r5 (0 : Int))))))
set_option maxRecDepth 100000 in
theorem f_index_Text_ok (fu : Nat) (v0_0 : Value) (a0 : (List S_api_Place)) {r : ((List UInt8) × Int)} (h : f_index_Text fu a0 = some r) : FnOk Tryd.prog 48 [v0_0] [(fDat (tyList tyS_api_Place) [v0_0] a0)] [] (fun (i : Unit) => { val := (Value.tuple #[(str r.1), (Value.int .i64 r.2)]) }) := by
  unfold f_index_Text at h
  refine fn_enter Tryd.func48 rfl Tryd.ntmps48 rfl (fun w0 Z0 => ?_)
  refine aw_seq ?_
  refine aw_region ?_
  refine al_val (ov_assign rfl rfl) ?_
  refine al_val (ov_assign rfl rfl) ?_
  refine al_nil ?_
  refine aq_then ?_
  refine aw_seq ?_
  refine aw_seq ?_
  refine aw_region ?_
  refine al_val (ov_move rfl rfl) ?_
  obtain ⟨r2, hc1, h⟩ := opt_some h
  refine al_call (vs := [v0_0]) (f_index_Check_ok fu v0_0 a0 hc1) [] [] [] (pre_fz 0 rfl pre_nil) rfl (by simp) (by decide) (.inl rfl) rfl Tryd.func93 rfl rfl rfl (fun _ => ?_)
  refine al_val (ov_assign rfl rfl) ?_
  refine al_nil ?_
  refine aq_then ?_
  refine aw_seq ?_
  refine aw_region ?_
  refine al_val (ov_move rfl rfl) ?_
  refine al_val (ov_int rfl rfl rfl rfl) ?_
  refine al_nil ?_
  refine aq_then ?_
  refine aw_cond rfl (fun hb3 => ?_) (fun hb3 => ?_)
  · replace h := bif_t hb3 h
    refine aw_seq ?_
    refine aw_region ?_
    refine al_val (ov_move rfl rfl) ?_
    refine al_val (ov_assign rfl rfl) ?_
    refine al_val (ov_assign rfl rfl) ?_
    refine al_nil ?_
    refine aq_then ?_
    refine aw_ret ?_
    refine aq_then_ret ?_
    obtain rfl := Option.some.inj h
    exact fn_ret () [] [] rfl rfl rfl rfl (res2 rfl rfl rfl) rfl rfl rfl (by decide)
  · replace h := bif_f hb3 h
    refine aw_skip ?_
    refine aq_then ?_
    refine aw_seq ?_
    refine aw_region ?_
    refine al_val (ov_move rfl rfl) ?_
    refine al_val (ov_lenD 0 rfl rfl Tryd.underlying76 rfl) ?_
    refine al_val (ov_convInt (by rw [Tryd.underlying3]; rfl) Tryd.underlying87 rfl rfl) ?_
    obtain ⟨r5, hc4, h⟩ := opt_some h
    refine al_call (vs := [(Value.int .u64 (IntKind.u64.wrap (a0.length : Int)))]) (f_num_Put_ok fu (IntKind.u64.wrap (a0.length : Int)) hc4) [] [] [] pre_nil rfl (by simp) (by decide) (.inl rfl) rfl Tryd.func54 rfl rfl rfl (fun _ => ?_)
    refine al_val (ov_assign rfl rfl) ?_
    refine al_nil ?_
    refine aq_then ?_
    obtain ⟨kk7, hkk7, h⟩ := lt_some h
    refine aw_seq_join (ι := (List UInt8)) (fun i => (memOf w0 Z0 [] [] [(fDat (tyList tyS_api_Place) [v0_0] a0)])) (fun i => (tab [(5, (str i))])) (fun i => kk7 i = some r) ?_ ?_
    · rintro j6s5 h
      have h : kk7 j6s5 = some r := h
      rw [hkk7] at h
      dsimp only at h
      clear hkk7
      refine aw_show (m := (memOf w0 Z0 [] [] [(fDat (tyList tyS_api_Place) [v0_0] a0)])) (S := (tab [(5, (str j6s5))])) ?_
      refine aw_seq ?_
      refine aw_region ?_
      refine al_val (ov_move rfl rfl) ?_
      refine al_val (ov_assign rfl rfl) ?_
      refine al_val (ov_assign rfl rfl) ?_
      refine al_nil ?_
      refine aq_then ?_
      refine aw_ret ?_
      obtain rfl := Option.some.inj h
      exact fn_ret () [] [] rfl rfl rfl rfl (res2 rfl rfl rfl) rfl rfl rfl (by decide)
    · clear hkk7
      refine aw_seq ?_
      refine aw_region ?_
      refine al_val (ov_move rfl rfl) ?_
      refine al_val (ov_lenD 0 rfl rfl Tryd.underlying76 rfl) ?_
      refine al_val (ov_move rfl rfl) ?_
      refine al_nil ?_
      refine aq_then ?_
      refine aw_block ?_
      refine aw_state (aw_loop (ι := (List UInt8) × Int) (fun i => (memOf w0 Z0 [] [] [(fDat (tyList tyS_api_Place) [v0_0] a0)])) (fun i => (tab [(5, (str i.1)), (17, v0_0), (18, (Value.int .i64 (a0.length : Int))), (19, (Value.int .i64 i.2))])) (fun q i => f_index_Text_L10 a0 kk7 fu q i.1 i.2 = some r) ?_ fu (r5, (0 : Int)) h) (fun w a hm hs => norm hm hs [] [0] [(5, (str r5)), (17, v0_0), (18, (Value.int .i64 (a0.length : Int))), (19, (Value.int .i64 (0 : Int)))] (by decide) ⟨rfl, rfl, rfl, rfl, trivial⟩)
      clear h
      rintro k9 ⟨l8s5, l8i19⟩ h
      have h : f_index_Text_L10 a0 kk7 fu k9 l8s5 l8i19 = some r := h
      obtain _ | k9 := k9
      · rw [f_index_Text_L10] at h; cases h
      rw [f_index_Text_L10] at h
      refine aw_show (m := (memOf w0 Z0 [] [] [(fDat (tyList tyS_api_Place) [v0_0] a0)])) (S := (tab [(5, (str l8s5)), (17, v0_0), (18, (Value.int .i64 (a0.length : Int))), (19, (Value.int .i64 l8i19))])) ?_
      refine aw_seq ?_
      refine aw_region ?_
      refine al_val (ov_int rfl rfl rfl rfl) ?_
      refine al_nil ?_
      refine aq_then ?_
      refine aw_seq ?_
      refine aw_cond rfl (fun hb11 => ?_) (fun hb11 => ?_)
      · replace h := bif_t hb11 h
        refine aw_skip ?_
        refine aq_then ?_
        refine aw_seq ?_
        refine aw_block ?_
        refine aw_seq ?_
        refine aw_region ?_
        obtain ⟨u12, hu13, h⟩ := opt_some h
        refine al_idxD 0 hu13 rfl rfl rfl Tryd.underlying76 sz84 rfl (fun p14 => ?_)
        refine al_val (ov_loadP (ds := ((cA8u8 u12.ID) ++ [(Value.int .i64 u12.Kind), (Value.int .i64 u12.Pack), (Value.int .i64 u12.At), (Value.int .i64 u12.Len)])) 0 rfl encS_api_Place rfl Tryd.underlying84 sz84 rfl rfl rfl) ?_
        refine al_alloc (zs := ((cA8u8 (A8u8.mk (0 : UInt8) (0 : UInt8) (0 : UInt8) (0 : UInt8) (0 : UInt8) (0 : UInt8) (0 : UInt8) (0 : UInt8))) ++ [(Value.int .i64 (0 : Int)), (Value.int .i64 (0 : Int)), (Value.int .i64 (0 : Int)), (Value.int .i64 (0 : Int))])) (zeroOf_to to84) rfl rfl (fun g15 => ?_)
        refine al_store (i := 0) (vs := ((cA8u8 u12.ID) ++ [(Value.int .i64 u12.Kind), (Value.int .i64 u12.Pack), (Value.int .i64 u12.At), (Value.int .i64 u12.Len)])) (cs' := ((cA8u8 u12.ID) ++ [(Value.int .i64 u12.Kind), (Value.int .i64 u12.Pack), (Value.int .i64 u12.At), (Value.int .i64 u12.Len)])) rfl rfl rfl sz84 (cv_rfl rfl) rfl (co_app (oneA8u8 u12.ID) (co_val rfl (co_val rfl (co_val rfl (co_val rfl co_nil))))) (Nat.le_of_ble_eq_true rfl) rfl rfl ?_
        refine al_nil ?_
        refine aq_then ?_
        refine aw_freezeB 0 (u12) rfl rfl (fun _ _ => mkS_api_Place rfl) ?_
        obtain ⟨hc20, h⟩ := req_some h
        obtain ⟨hc21, h⟩ := req_some h
        obtain ⟨r24, hc23, h⟩ := opt_some h
        obtain ⟨hc25, h⟩ := req_some h
        obtain ⟨r28, hc27, h⟩ := opt_some h
        obtain ⟨hc29, h⟩ := req_some h
        obtain ⟨r32, hc31, h⟩ := opt_some h
        obtain ⟨hc33, h⟩ := req_some h
        obtain ⟨hc34, h⟩ := req_some h
        refine aw_region_draw 26 [(23, (fun u => fEq u (str l8s5))), (24, (fun p16 => (fPtr tyA8u8 p16 u12.ID))), (25, (fun s17 => (fDat (tyList tyU8) [s17] (lA8u8 u12.ID)))), (26, (fun u => fEq u (str (lA8u8 u12.ID)))), (27, (fun p18 => (fPtr (tyInt .i64) p18 u12.Kind))), (28, (fun u => fEq u (Value.int .i64 u12.Kind))), (29, (fun u => fEq u (Value.int .u8 (IntKind.u8.wrap u12.Kind)))), (30, (fun v19 => (fDat (tyList tyU8) [v19] [(UInt8.ofNat ((IntKind.u8.wrap u12.Kind)).toNat)]))), (31, (fun u => fEq u (str [(UInt8.ofNat ((IntKind.u8.wrap u12.Kind)).toNat)]))), (32, (fun u => fEq u (str ((lA8u8 u12.ID) ++ ([(UInt8.ofNat ((IntKind.u8.wrap u12.Kind)).toNat)]))))), (33, (fun p22 => (fPtr (tyInt .i64) p22 u12.Pack))), (34, (fun u => fEq u (Value.int .i64 u12.Pack))), (35, (fun u => fEq u (Value.int .u64 (IntKind.u64.wrap u12.Pack)))), (36, (fun u => fEq u (str r24))), (37, (fun u => fEq u (str (((lA8u8 u12.ID) ++ ([(UInt8.ofNat ((IntKind.u8.wrap u12.Kind)).toNat)])) ++ r24)))), (38, (fun p26 => (fPtr (tyInt .i64) p26 u12.At))), (39, (fun u => fEq u (Value.int .i64 u12.At))), (40, (fun u => fEq u (Value.int .u64 (IntKind.u64.wrap u12.At)))), (41, (fun u => fEq u (str r28))), (42, (fun u => fEq u (str ((((lA8u8 u12.ID) ++ ([(UInt8.ofNat ((IntKind.u8.wrap u12.Kind)).toNat)])) ++ r24) ++ r28)))), (43, (fun p30 => (fPtr (tyInt .i64) p30 u12.Len))), (44, (fun u => fEq u (Value.int .i64 u12.Len))), (45, (fun u => fEq u (Value.int .u64 (IntKind.u64.wrap u12.Len)))), (46, (fun u => fEq u (str r32))), (47, (fun u => fEq u (str (((((lA8u8 u12.ID) ++ ([(UInt8.ofNat ((IntKind.u8.wrap u12.Kind)).toNat)])) ++ r24) ++ r28) ++ r32)))), (48, (fun u => fEq u (str (l8s5 ++ (((((lA8u8 u12.ID) ++ ([(UInt8.ofNat ((IntKind.u8.wrap u12.Kind)).toNat)])) ++ r24) ++ r28) ++ r32)))))] (tab [(5, (str l8s5)), (7, (ptr g15 0)), (17, v0_0), (18, (Value.int .i64 (a0.length : Int))), (19, (Value.int .i64 l8i19))]) mixed (by kernel_rfl) rfl rfl rfl (fun a hs => hs.tab _ (allT_mem ⟨rfl, rfl, rfl, rfl, rfl, trivial⟩)) ⟨⟨rfl, ld_val (ov_move rfl rfl)⟩, ⟨rfl, ld_of (of_fieldD (pr := fun (y : S_api_Place) => y.ID) 0 rfl subS_api_Place_0 rfl Tryd.underlying84 rfl sz49 rfl rfl)⟩, ⟨rfl, ld_fact (j := 1) rfl rfl (fun p16 => ld_of (of_sliceP 0 lrepA8u8 rfl rfl rfl rfl Tryd.underlying49 sz5 rfl))⟩, ⟨rfl, ld_fact (j := 2) rfl rfl (fun s17 => ld_val (ov_toStr 0 rfl rfl Tryd.underlying89 Tryd.underlying5 Tryd.underlying9 rfl))⟩, ⟨rfl, ld_of (of_fieldD (pr := fun (y : S_api_Place) => y.Kind) 0 rfl subS_api_Place_1 rfl Tryd.underlying84 rfl sz3 rfl rfl)⟩, ⟨rfl, ld_fact (j := 4) rfl rfl (fun p18 => ld_val (ov_loadP (ds := [(Value.int .i64 u12.Kind)]) 0 rfl (fun h => h) rfl Tryd.underlying3 sz3 rfl rfl rfl))⟩, ⟨rfl, ld_eq (j := 5) rfl rfl (ld_val (ov_convInt (by rw [Tryd.underlying3]; rfl) Tryd.underlying5 rfl rfl))⟩, ⟨rfl, ld_eq (j := 6) rfl rfl (ld_buildSlice (τ := tyU8) (e := 5) (k := 1) (cs := [(Value.int .u8 (IntKind.u8.wrap u12.Kind))]) (xs := [(UInt8.ofNat ((IntKind.u8.wrap u12.Kind)).toNat)]) rfl (by decide) rfl (fun w a hm hs => ⟨([(Value.int .u8 (IntKind.u8.wrap u12.Kind))]).toArray, rfl, by simp only [List.map_toArray, List.map_cons, List.map_nil, hs.ev (x := .tmp 29) rfl]; exact run_bs [(Value.int .u8 (IntKind.u8.wrap u12.Kind))] [(Value.int .u8 (IntKind.u8.wrap u12.Kind))] Tryd.underlying89 to5 rfl rfl (bs_cons (l := [(Value.int .u8 (IntKind.u8.wrap u12.Kind))]) (cs := []) (cv_rfl rfl) rfl bs_nil) hm⟩) (fun hm => ⟨_, _, rfl, (fun _ => u8_rep hc20) hm, rfl⟩) rfl)⟩, ⟨rfl, ld_fact (j := 7) rfl rfl (fun v19 => ld_val (ov_toStr 0 rfl rfl Tryd.underlying89 Tryd.underlying5 Tryd.underlying9 rfl))⟩, ⟨rfl, ld_eq (j := 3) rfl rfl (ld_eq (j := 8) rfl rfl (ld_val (ov_strAdd hc21 rfl rfl rfl)))⟩, ⟨rfl, ld_of (of_fieldD (pr := fun (y : S_api_Place) => y.Pack) 0 rfl subS_api_Place_2 rfl Tryd.underlying84 rfl sz3 rfl rfl)⟩, ⟨rfl, ld_fact (j := 10) rfl rfl (fun p22 => ld_val (ov_loadP (ds := [(Value.int .i64 u12.Pack)]) 0 rfl (fun h => h) rfl Tryd.underlying3 sz3 rfl rfl rfl))⟩, ⟨rfl, ld_eq (j := 11) rfl rfl (ld_val (ov_convInt (by rw [Tryd.underlying3]; rfl) Tryd.underlying87 rfl rfl))⟩, ⟨rfl, ld_eq (j := 12) rfl rfl (ld_callV (vs := [(Value.int .u64 (IntKind.u64.wrap u12.Pack))]) (f_num_Put_ok fu (IntKind.u64.wrap u12.Pack) hc23) [] pre_nil rfl Tryd.func54 rfl rfl rfl)⟩, ⟨rfl, ld_eq (j := 9) rfl rfl (ld_eq (j := 13) rfl rfl (ld_val (ov_strAdd hc25 rfl rfl rfl)))⟩, ⟨rfl, ld_of (of_fieldD (pr := fun (y : S_api_Place) => y.At) 0 rfl subS_api_Place_3 rfl Tryd.underlying84 rfl sz3 rfl rfl)⟩, ⟨rfl, ld_fact (j := 15) rfl rfl (fun p26 => ld_val (ov_loadP (ds := [(Value.int .i64 u12.At)]) 0 rfl (fun h => h) rfl Tryd.underlying3 sz3 rfl rfl rfl))⟩, ⟨rfl, ld_eq (j := 16) rfl rfl (ld_val (ov_convInt (by rw [Tryd.underlying3]; rfl) Tryd.underlying87 rfl rfl))⟩, ⟨rfl, ld_eq (j := 17) rfl rfl (ld_callV (vs := [(Value.int .u64 (IntKind.u64.wrap u12.At))]) (f_num_Put_ok fu (IntKind.u64.wrap u12.At) hc27) [] pre_nil rfl Tryd.func54 rfl rfl rfl)⟩, ⟨rfl, ld_eq (j := 14) rfl rfl (ld_eq (j := 18) rfl rfl (ld_val (ov_strAdd hc29 rfl rfl rfl)))⟩, ⟨rfl, ld_of (of_fieldD (pr := fun (y : S_api_Place) => y.Len) 0 rfl subS_api_Place_4 rfl Tryd.underlying84 rfl sz3 rfl rfl)⟩, ⟨rfl, ld_fact (j := 20) rfl rfl (fun p30 => ld_val (ov_loadP (ds := [(Value.int .i64 u12.Len)]) 0 rfl (fun h => h) rfl Tryd.underlying3 sz3 rfl rfl rfl))⟩, ⟨rfl, ld_eq (j := 21) rfl rfl (ld_val (ov_convInt (by rw [Tryd.underlying3]; rfl) Tryd.underlying87 rfl rfl))⟩, ⟨rfl, ld_eq (j := 22) rfl rfl (ld_callV (vs := [(Value.int .u64 (IntKind.u64.wrap u12.Len))]) (f_num_Put_ok fu (IntKind.u64.wrap u12.Len) hc31) [] pre_nil rfl Tryd.func54 rfl rfl rfl)⟩, ⟨rfl, ld_eq (j := 19) rfl rfl (ld_eq (j := 23) rfl rfl (ld_val (ov_strAdd hc33 rfl rfl rfl)))⟩, ⟨rfl, ld_eq (j := 0) rfl rfl (ld_eq (j := 24) rfl rfl (ld_val (ov_strAdd hc34 rfl rfl rfl)))⟩, trivial⟩ ?_
        refine tl_eq 25 rfl ?_
        refine tl_done ?_
        refine al_val (ov_assign rfl rfl) ?_
        refine al_nil ?_
        refine aq_block ?_
        refine aq_then ?_
        refine aw_region ?_
        refine al_val (ov_int rfl rfl rfl rfl) ?_
        refine al_val (ov_move rfl rfl) ?_
        refine al_nil ?_
        exact aq_again k9 ((l8s5 ++ (((((lA8u8 u12.ID) ++ ([(UInt8.ofNat ((IntKind.u8.wrap u12.Kind)).toNat)])) ++ r24) ++ r28) ++ r32)), (IntKind.i64.wrap (l8i19 + (1 : Int)))) (Nat.lt_succ_self _) h (fun w a hm hs => norm hm hs [] [2] [(5, (str (l8s5 ++ (((((lA8u8 u12.ID) ++ ([(UInt8.ofNat ((IntKind.u8.wrap u12.Kind)).toNat)])) ++ r24) ++ r28) ++ r32)))), (17, v0_0), (18, (Value.int .i64 (a0.length : Int))), (19, (Value.int .i64 (IntKind.i64.wrap (l8i19 + (1 : Int)))))] (by decide) ⟨rfl, rfl, rfl, rfl, trivial⟩)
      · replace h := bif_f hb11 h
        refine aw_exit ?_
        refine aq_then_exit ?_
        refine aq_then_exit ?_
        refine aq_block_exit ?_
        exact aq_join l8s5 h (fun w a hm hs => norm hm hs [] [0] [(5, (str l8s5))] (by decide) ⟨rfl, trivial⟩)
def f_lumref_kindOK (fu : Nat) (a0 : Int) : Option Bool := (lt (fun (j1b2 : Bool) => (some j1b2)) fun (kk2 : Bool → Option Bool) => (bif (a0 == (1 : Int)) then (kk2 true) else (bif (a0 == (2 : Int)) then (kk2 true) else (kk2 (a0 == (3 : Int))))))
set_option maxRecDepth 100000 in
theorem f_lumref_kindOK_ok (fu : Nat) (a0 : Int) {r : Bool} (h : f_lumref_kindOK fu a0 = some r) : FnOk Tryd.prog 112 [(Value.int .i64 a0)] [] [] (fun (i : Unit) => { val := (Value.bool r) }) := by
  unfold f_lumref_kindOK at h
  refine fn_enter Tryd.func112 rfl Tryd.ntmps112 rfl (fun w0 Z0 => ?_)
  refine aw_seq ?_
  refine aw_region ?_
  refine al_val (ov_assign rfl rfl) ?_
  refine al_nil ?_
  refine aq_then ?_
  obtain ⟨kk2, hkk2, h⟩ := lt_some h
  refine aw_seq_join (ι := Bool) (fun i => (memOf w0 Z0 [] [] [])) (fun i => (tab [(2, (Value.bool i))])) (fun i => kk2 i = some r) ?_ ?_
  · rintro j1b2 h
    have h : kk2 j1b2 = some r := h
    rw [hkk2] at h
    dsimp only at h
    clear hkk2
    refine aw_show (m := (memOf w0 Z0 [] [] [])) (S := (tab [(2, (Value.bool j1b2))])) ?_
    refine aw_ret ?_
    obtain rfl := Option.some.inj h
    exact fn_ret () [] [] rfl rfl rfl rfl (res1 rfl rfl) rfl rfl rfl (by decide)
  · clear hkk2
    refine aw_region ?_
    refine al_val (ov_move rfl rfl) ?_
    refine al_val (ov_int rfl rfl rfl rfl) ?_
    refine al_val (ov_move rfl rfl) ?_
    refine al_caseB 5 rfl (fun hb3 => ?_) (fun hb3 => ?_)
    · replace h := bif_t hb3 h
      refine al_skip ?_
      refine al_skip ?_
      refine al_val (ov_pick_t rfl rfl rfl) ?_
      refine al_val (ov_move rfl rfl) ?_
      refine al_skip ?_
      refine al_skip ?_
      refine al_val (ov_pick_t rfl rfl rfl) ?_
      refine al_val (ov_assign rfl rfl) ?_
      refine al_nil ?_
      exact aq_join true h (fun w a hm hs => norm hm hs [] [] [(2, (Value.bool true))] (by decide) ⟨rfl, trivial⟩)
    · replace h := bif_f hb3 h
      refine al_val (ov_move rfl rfl) ?_
      refine al_val (ov_int rfl rfl rfl rfl) ?_
      refine al_val (ov_pick_f rfl rfl rfl) ?_
      refine al_val (ov_move rfl rfl) ?_
      refine al_caseB 9 rfl (fun hb4 => ?_) (fun hb4 => ?_)
      · replace h := bif_t hb4 h
        refine al_skip ?_
        refine al_skip ?_
        refine al_val (ov_pick_t rfl rfl rfl) ?_
        refine al_val (ov_assign rfl rfl) ?_
        refine al_nil ?_
        exact aq_join true h (fun w a hm hs => norm hm hs [] [] [(2, (Value.bool true))] (by decide) ⟨rfl, trivial⟩)
      · replace h := bif_f hb4 h
        refine al_val (ov_move rfl rfl) ?_
        refine al_val (ov_int rfl rfl rfl rfl) ?_
        refine al_val (ov_pick_f rfl rfl rfl) ?_
        refine al_val (ov_assign rfl rfl) ?_
        refine al_nil ?_
        exact aq_join (a0 == (3 : Int)) h (fun w a hm hs => norm hm hs [] [] [(2, (Value.bool (a0 == (3 : Int))))] (by decide) ⟨rfl, trivial⟩)
def f_lumref_placeErr (fu : Nat) (a0 : S_api_Place) : Option Int := (opt (f_lumref_kindOK fu a0.Kind) fun (r3 : Bool) => (bif (!r3) then (some (5 : Int)) else (lt (fun (j5b24 : Bool) => (bif j5b24 then (some (1 : Int)) else (some (0 : Int)))) fun (kk6 : Bool → Option Int) => (bif (decide ((if a0.Len < (if a0.At < a0.Pack then a0.At else a0.Pack) then a0.Len else (if a0.At < a0.Pack then a0.At else a0.Pack)) < (0 : Int))) then (kk6 true) else (kk6 (decide ((if a0.Len > (if a0.At > a0.Pack then a0.At else a0.Pack) then a0.Len else (if a0.At > a0.Pack then a0.At else a0.Pack)) > (1099511627776 : Int))))))))
set_option maxRecDepth 100000 in
theorem f_lumref_placeErr_ok (fu : Nat) (a0 : S_api_Place) {r : Int} (h : f_lumref_placeErr fu a0 = some r) : FnOk Tryd.prog 94 [(ag ((cA8u8 a0.ID) ++ [(Value.int .i64 a0.Kind), (Value.int .i64 a0.Pack), (Value.int .i64 a0.At), (Value.int .i64 a0.Len)]))] [] [] (fun (i : Unit) => { val := (Value.int .i64 r) }) := by
  unfold f_lumref_placeErr at h
  refine fn_enter Tryd.func94 rfl Tryd.ntmps94 rfl (fun w0 Z0 => ?_)
  refine aw_seq ?_
  refine aw_region ?_
  refine al_box (vs := ((cA8u8 a0.ID) ++ [(Value.int .i64 a0.Kind), (Value.int .i64 a0.Pack), (Value.int .i64 a0.At), (Value.int .i64 a0.Len)])) rfl (cv_rfl rfl) rfl (fun g1 => ?_)
  refine al_val (ov_assign rfl rfl) ?_
  refine al_nil ?_
  refine aq_then ?_
  refine aw_seq ?_
  refine aw_seq ?_
  refine aw_region ?_
  refine al_val (ov_fieldA (p := 8) rfl Tryd.underlying84 rfl sz3 rfl rfl rfl) ?_
  refine al_val (ov_load (i := 0) (v := (Value.int .i64 a0.Kind)) rfl rfl Tryd.underlying3 sz3 rfl rfl rfl rfl) ?_
  obtain ⟨r3, hc2, h⟩ := opt_some h
  refine al_call (vs := [(Value.int .i64 a0.Kind)]) (f_lumref_kindOK_ok fu a0.Kind hc2) [] [] [0] pre_nil rfl (by simp) (by decide) (.inl rfl) rfl Tryd.func112 rfl rfl rfl (fun _ => ?_)
  refine al_val (ov_not rfl rfl) ?_
  refine al_nil ?_
  refine aq_then ?_
  refine aw_cond rfl (fun hb4 => ?_) (fun hb4 => ?_)
  · replace h := bif_t hb4 h
    refine aw_seq ?_
    refine aw_region ?_
    refine al_val (ov_assign rfl rfl) ?_
    refine al_nil ?_
    refine aq_then ?_
    refine aw_ret ?_
    refine aq_then_ret ?_
    obtain rfl := Option.some.inj h
    exact fn_ret () [] [] rfl rfl rfl rfl (res1 rfl rfl) rfl rfl rfl (by decide)
  · replace h := bif_f hb4 h
    refine aw_skip ?_
    refine aq_then ?_
    refine aw_seq ?_
    obtain ⟨kk6, hkk6, h⟩ := lt_some h
    refine aw_seq_join (ι := Bool) (fun i => (memOf w0 Z0 [] [] [])) (fun i => (tab [(24, (Value.bool i))])) (fun i => kk6 i = some r) ?_ ?_
    · rintro j5b24 h
      have h : kk6 j5b24 = some r := h
      rw [hkk6] at h
      dsimp only at h
      clear hkk6
      refine aw_show (m := (memOf w0 Z0 [] [] [])) (S := (tab [(24, (Value.bool j5b24))])) ?_
      refine aw_cond rfl (fun hb7 => ?_) (fun hb7 => ?_)
      · replace h := bif_t hb7 h
        refine aw_seq ?_
        refine aw_region ?_
        refine al_val (ov_assign rfl rfl) ?_
        refine al_nil ?_
        refine aq_then ?_
        refine aw_ret ?_
        refine aq_then_ret ?_
        obtain rfl := Option.some.inj h
        exact fn_ret () [] [] rfl rfl rfl rfl (res1 rfl rfl) rfl rfl rfl (by decide)
      · replace h := bif_f hb7 h
        refine aw_skip ?_
        refine aq_then ?_
        refine aw_seq ?_
        refine aw_region ?_
        refine al_val (ov_assign rfl rfl) ?_
        refine al_nil ?_
        refine aq_then ?_
        refine aw_ret ?_
        obtain rfl := Option.some.inj h
        exact fn_ret () [] [] rfl rfl rfl rfl (res1 rfl rfl) rfl rfl rfl (by decide)
    · clear hkk6
      refine aw_region ?_
      refine al_val (ov_fieldA (p := 9) rfl Tryd.underlying84 rfl sz3 rfl rfl rfl) ?_
      refine al_val (ov_load (i := 0) (v := (Value.int .i64 a0.Pack)) rfl rfl Tryd.underlying3 sz3 rfl rfl rfl rfl) ?_
      refine al_val (ov_fieldA (p := 10) rfl Tryd.underlying84 rfl sz3 rfl rfl rfl) ?_
      refine al_val (ov_load (i := 0) (v := (Value.int .i64 a0.At)) rfl rfl Tryd.underlying3 sz3 rfl rfl rfl rfl) ?_
      refine al_val (ov_fieldA (p := 11) rfl Tryd.underlying84 rfl sz3 rfl rfl rfl) ?_
      refine al_val (ov_load (i := 0) (v := (Value.int .i64 a0.Len)) rfl rfl Tryd.underlying3 sz3 rfl rfl rfl rfl) ?_
      refine al_val (ov_min3 rfl rfl rfl rfl) ?_
      refine al_val (ov_int rfl rfl rfl rfl) ?_
      refine al_val (ov_move rfl rfl) ?_
      refine al_caseB 15 rfl (fun hb8 => ?_) (fun hb8 => ?_)
      · replace h := bif_t hb8 h
        refine al_skip ?_
        refine al_skip ?_
        refine al_skip ?_
        refine al_skip ?_
        refine al_skip ?_
        refine al_skip ?_
        refine al_skip ?_
        refine al_skip ?_
        refine al_val (ov_pick_t rfl rfl rfl) ?_
        refine al_nil ?_
        exact aq_join true h (fun w a hm hs => norm hm hs [] [] [(24, (Value.bool true))] (by decide) ⟨rfl, trivial⟩)
      · replace h := bif_f hb8 h
        refine al_val (ov_fieldA (p := 9) rfl Tryd.underlying84 rfl sz3 rfl rfl rfl) ?_
        refine al_val (ov_load (i := 0) (v := (Value.int .i64 a0.Pack)) rfl rfl Tryd.underlying3 sz3 rfl rfl rfl rfl) ?_
        refine al_val (ov_fieldA (p := 10) rfl Tryd.underlying84 rfl sz3 rfl rfl rfl) ?_
        refine al_val (ov_load (i := 0) (v := (Value.int .i64 a0.At)) rfl rfl Tryd.underlying3 sz3 rfl rfl rfl rfl) ?_
        refine al_val (ov_fieldA (p := 11) rfl Tryd.underlying84 rfl sz3 rfl rfl rfl) ?_
        refine al_val (ov_load (i := 0) (v := (Value.int .i64 a0.Len)) rfl rfl Tryd.underlying3 sz3 rfl rfl rfl rfl) ?_
        refine al_val (ov_max3 rfl rfl rfl rfl) ?_
        refine al_val (ov_int rfl rfl rfl rfl) ?_
        refine al_val (ov_pick_f rfl rfl rfl) ?_
        refine al_nil ?_
        exact aq_join (decide ((if a0.Len > (if a0.At > a0.Pack then a0.At else a0.Pack) then a0.Len else (if a0.At > a0.Pack then a0.At else a0.Pack)) > (1099511627776 : Int))) h (fun w a hm hs => norm hm hs [] [] [(24, (Value.bool (decide ((if a0.Len > (if a0.At > a0.Pack then a0.At else a0.Pack) then a0.Len else (if a0.At > a0.Pack then a0.At else a0.Pack)) > (1099511627776 : Int)))))] (by decide) ⟨rfl, trivial⟩)
def f_lumref_Index_L6 (a0 : (List S_api_Place)) (kk3 : (Unit → Option Int)) (fu : Nat) : Nat → Int → Option Int
  | 0, _ => none
  | k5 + 1, l4i11 => (bif (decide (l4i11 < (a0.length : Int))) then (opt (at? a0 l4i11) fun (u8 : S_api_Place) => (opt (f_lumref_placeErr fu u8) fun (r13 : Int) => (bif (r13 != (0 : Int)) then (some r13) else (lt (fun (j15b35 : Bool) => (bif j15b35 then (some (4 : Int)) else (f_lumref_Index_L6 a0 kk3 fu k5 (IntKind.i64.wrap (l4i11 + (1 : Int)))))) fun (kk16 : Bool → Option Int) => (bif (decide (l4i11 > (0 : Int))) then (opt (at? a0 (IntKind.i64.wrap (l4i11 - (1 : Int)))) fun (u19 : S_api_Place) => (kk16 (!Op.bytesLess (lA8u8 u19.ID) (lA8u8 u8.ID)))) else (kk16 false)))))) else (kk3 ()))
def f_lumref_Index (fu : Nat) (a0 : (List S_api_Place)) : Option Int := (bif (decide ((a0.length : Int) > (400 : Int))) then (some (2 : Int)) else (lt (fun (_ : Unit) => (some (0 : Int))) fun (kk3 : Unit → Option Int) => (f_lumref_Index_L6 a0 kk3 fu fu (0 : Int))))
set_option maxRecDepth 100000 in
theorem f_lumref_Index_ok (fu : Nat) (v0_0 : Value) (a0 : (List S_api_Place)) {r : Int} (h : f_lumref_Index fu a0 = some r) : FnOk Tryd.prog 49 [v0_0] [(fDat (tyList tyS_api_Place) [v0_0] a0)] [] (fun (i : Unit) => { val := (Value.int .i64 r) }) := by
  unfold f_lumref_Index at h
  refine fn_enter Tryd.func49 rfl Tryd.ntmps49 rfl (fun w0 Z0 => ?_)
  refine aw_seq ?_
  refine aw_region ?_
  refine al_val (ov_assign rfl rfl) ?_
  refine al_nil ?_
  refine aq_then ?_
  refine aw_seq ?_
  refine aw_seq ?_
  refine aw_region ?_
  refine al_val (ov_move rfl rfl) ?_
  refine al_val (ov_lenD 0 rfl rfl Tryd.underlying76 rfl) ?_
  refine al_val (ov_int rfl rfl rfl rfl) ?_
  refine al_nil ?_
  refine aq_then ?_
  refine aw_cond rfl (fun hb1 => ?_) (fun hb1 => ?_)
  · replace h := bif_t hb1 h
    refine aw_seq ?_
    refine aw_region ?_
    refine al_val (ov_assign rfl rfl) ?_
    refine al_nil ?_
    refine aq_then ?_
    refine aw_ret ?_
    refine aq_then_ret ?_
    obtain rfl := Option.some.inj h
    exact fn_ret () [] [] rfl rfl rfl rfl (res1 rfl rfl) rfl rfl rfl (by decide)
  · replace h := bif_f hb1 h
    refine aw_skip ?_
    refine aq_then ?_
    obtain ⟨kk3, hkk3, h⟩ := lt_some h
    refine aw_seq_join (ι := Unit) (fun i => (memOf w0 Z0 [] [] [(fDat (tyList tyS_api_Place) [v0_0] a0)])) (fun i => (tab [])) (fun i => kk3 () = some r) ?_ ?_
    · rintro _ h
      have h : kk3 () = some r := h
      rw [hkk3] at h
      dsimp only at h
      clear hkk3
      refine aw_show (m := (memOf w0 Z0 [] [] [(fDat (tyList tyS_api_Place) [v0_0] a0)])) (S := (tab [])) ?_
      refine aw_seq ?_
      refine aw_region ?_
      refine al_val (ov_assign rfl rfl) ?_
      refine al_nil ?_
      refine aq_then ?_
      refine aw_ret ?_
      obtain rfl := Option.some.inj h
      exact fn_ret () [] [] rfl rfl rfl rfl (res1 rfl rfl) rfl rfl rfl (by decide)
    · clear hkk3
      refine aw_seq ?_
      refine aw_region ?_
      refine al_val (ov_move rfl rfl) ?_
      refine al_val (ov_lenD 0 rfl rfl Tryd.underlying76 rfl) ?_
      refine al_val (ov_move rfl rfl) ?_
      refine al_nil ?_
      refine aq_then ?_
      refine aw_block ?_
      refine aw_state (aw_loop (ι := Int) (fun i => (memOf w0 Z0 [] [] [(fDat (tyList tyS_api_Place) [v0_0] a0)])) (fun i => (tab [(0, v0_0), (9, v0_0), (10, (Value.int .i64 (a0.length : Int))), (11, (Value.int .i64 i))])) (fun q i => f_lumref_Index_L6 a0 kk3 fu q i = some r) ?_ fu (0 : Int) h) (fun w a hm hs => norm hm hs [] [0] [(0, v0_0), (9, v0_0), (10, (Value.int .i64 (a0.length : Int))), (11, (Value.int .i64 (0 : Int)))] (by decide) ⟨rfl, rfl, rfl, rfl, trivial⟩)
      clear h
      rintro k5 l4i11 h
      have h : f_lumref_Index_L6 a0 kk3 fu k5 l4i11 = some r := h
      obtain _ | k5 := k5
      · rw [f_lumref_Index_L6] at h; cases h
      rw [f_lumref_Index_L6] at h
      refine aw_show (m := (memOf w0 Z0 [] [] [(fDat (tyList tyS_api_Place) [v0_0] a0)])) (S := (tab [(0, v0_0), (9, v0_0), (10, (Value.int .i64 (a0.length : Int))), (11, (Value.int .i64 l4i11))])) ?_
      refine aw_seq ?_
      refine aw_region ?_
      refine al_val (ov_int rfl rfl rfl rfl) ?_
      refine al_nil ?_
      refine aq_then ?_
      refine aw_seq ?_
      refine aw_cond rfl (fun hb7 => ?_) (fun hb7 => ?_)
      · replace h := bif_t hb7 h
        refine aw_skip ?_
        refine aq_then ?_
        refine aw_seq ?_
        refine aw_block ?_
        refine aw_seq ?_
        refine aw_region ?_
        refine al_val (ov_move rfl rfl) ?_
        obtain ⟨u8, hu9, h⟩ := opt_some h
        refine al_idxD 0 hu9 rfl rfl rfl Tryd.underlying76 sz84 rfl (fun p10 => ?_)
        refine al_val (ov_loadP (ds := ((cA8u8 u8.ID) ++ [(Value.int .i64 u8.Kind), (Value.int .i64 u8.Pack), (Value.int .i64 u8.At), (Value.int .i64 u8.Len)])) 0 rfl encS_api_Place rfl Tryd.underlying84 sz84 rfl rfl rfl) ?_
        refine al_alloc (zs := ((cA8u8 (A8u8.mk (0 : UInt8) (0 : UInt8) (0 : UInt8) (0 : UInt8) (0 : UInt8) (0 : UInt8) (0 : UInt8) (0 : UInt8))) ++ [(Value.int .i64 (0 : Int)), (Value.int .i64 (0 : Int)), (Value.int .i64 (0 : Int)), (Value.int .i64 (0 : Int))])) (zeroOf_to to84) rfl rfl (fun g11 => ?_)
        refine al_val (ov_assign rfl rfl) ?_
        refine al_store (i := 0) (vs := ((cA8u8 u8.ID) ++ [(Value.int .i64 u8.Kind), (Value.int .i64 u8.Pack), (Value.int .i64 u8.At), (Value.int .i64 u8.Len)])) (cs' := ((cA8u8 u8.ID) ++ [(Value.int .i64 u8.Kind), (Value.int .i64 u8.Pack), (Value.int .i64 u8.At), (Value.int .i64 u8.Len)])) rfl rfl rfl sz84 (cv_rfl rfl) rfl (co_app (oneA8u8 u8.ID) (co_val rfl (co_val rfl (co_val rfl (co_val rfl co_nil))))) (Nat.le_of_ble_eq_true rfl) rfl rfl ?_
        refine al_nil ?_
        refine aq_then ?_
        refine aw_seq ?_
        refine aw_seq ?_
        refine aw_region ?_
        refine al_val (ov_load (i := 0) (v := (ag ((cA8u8 u8.ID) ++ [(Value.int .i64 u8.Kind), (Value.int .i64 u8.Pack), (Value.int .i64 u8.At), (Value.int .i64 u8.Len)]))) rfl rfl Tryd.underlying84 sz84 rfl rfl rfl rfl) ?_
        obtain ⟨r13, hc12, h⟩ := opt_some h
        refine al_call (vs := [(ag ((cA8u8 u8.ID) ++ [(Value.int .i64 u8.Kind), (Value.int .i64 u8.Pack), (Value.int .i64 u8.At), (Value.int .i64 u8.Len)]))]) (f_lumref_placeErr_ok fu u8 hc12) [] [] [0] pre_nil rfl (by simp) (by decide) (.inl rfl) rfl Tryd.func94 rfl rfl rfl (fun _ => ?_)
        refine al_val (ov_assign rfl rfl) ?_
        refine al_nil ?_
        refine aq_then ?_
        refine aw_seq ?_
        refine aw_region ?_
        refine al_val (ov_move rfl rfl) ?_
        refine al_val (ov_int rfl rfl rfl rfl) ?_
        refine al_nil ?_
        refine aq_then ?_
        refine aw_cond rfl (fun hb14 => ?_) (fun hb14 => ?_)
        · replace h := bif_t hb14 h
          refine aw_seq ?_
          refine aw_region ?_
          refine al_val (ov_move rfl rfl) ?_
          refine al_val (ov_assign rfl rfl) ?_
          refine al_nil ?_
          refine aq_then ?_
          refine aw_ret ?_
          refine aq_then_ret ?_
          refine aq_block_ret ?_
          refine aq_then_ret ?_
          refine aq_then_ret ?_
          refine aq_block_ret ?_
          refine aq_then_ret ?_
          obtain rfl := Option.some.inj h
          exact fn_ret () [] [] rfl rfl rfl rfl (res1 rfl rfl) rfl rfl rfl (by decide)
        · replace h := bif_f hb14 h
          refine aw_skip ?_
          refine aq_then ?_
          obtain ⟨kk16, hkk16, h⟩ := lt_some h
          refine aw_seq_join (ι := Bool) (fun i => (memOf w0 Z0 [] [] [(fDat (tyList tyS_api_Place) [v0_0] a0), (fPtr tyS_api_Place p10 u8)])) (fun i => (tab [(0, v0_0), (9, v0_0), (10, (Value.int .i64 (a0.length : Int))), (11, (Value.int .i64 l4i11)), (35, (Value.bool i))])) (fun i => kk16 i = some r) ?_ ?_
          · rintro j15b35 h
            have h : kk16 j15b35 = some r := h
            rw [hkk16] at h
            dsimp only at h
            clear hkk16
            refine aw_show (m := (memOf w0 Z0 [] [] [(fDat (tyList tyS_api_Place) [v0_0] a0), (fPtr tyS_api_Place p10 u8)])) (S := (tab [(0, v0_0), (9, v0_0), (10, (Value.int .i64 (a0.length : Int))), (11, (Value.int .i64 l4i11)), (35, (Value.bool j15b35))])) ?_
            refine aw_cond rfl (fun hb17 => ?_) (fun hb17 => ?_)
            · replace h := bif_t hb17 h
              refine aw_seq ?_
              refine aw_region ?_
              refine al_val (ov_assign rfl rfl) ?_
              refine al_nil ?_
              refine aq_then ?_
              refine aw_ret ?_
              refine aq_block_ret ?_
              refine aq_then_ret ?_
              refine aq_then_ret ?_
              refine aq_block_ret ?_
              refine aq_then_ret ?_
              obtain rfl := Option.some.inj h
              exact fn_ret () [] [] rfl rfl rfl rfl (res1 rfl rfl) rfl rfl rfl (by decide)
            · replace h := bif_f hb17 h
              refine aw_skip ?_
              refine aq_block ?_
              refine aq_then ?_
              refine aw_region ?_
              refine al_val (ov_int rfl rfl rfl rfl) ?_
              refine al_val (ov_move rfl rfl) ?_
              refine al_nil ?_
              exact aq_again k5 (IntKind.i64.wrap (l4i11 + (1 : Int))) (Nat.lt_succ_self _) h (fun w a hm hs => norm hm hs [] [0] [(0, v0_0), (9, v0_0), (10, (Value.int .i64 (a0.length : Int))), (11, (Value.int .i64 (IntKind.i64.wrap (l4i11 + (1 : Int)))))] (by decide) ⟨rfl, rfl, rfl, rfl, trivial⟩)
          · clear hkk16
            refine aw_freezeB 0 (u8) rfl rfl (fun _ _ => mkS_api_Place rfl) ?_
            rcases Bool.eq_false_or_eq_true (decide (l4i11 > (0 : Int))) with hb18 | hb18
            · replace h := bif_t hb18 h
              obtain ⟨u19, hu20, h⟩ := opt_some h
              refine aw_region_draw 14 [(21, (fun u => fEq u (Value.int .i64 l4i11))), (22, (fun u => fEq u (Value.bool true))), (23, (fun u => fEq u (Value.bool true))), (24, (fun u => fEq u v0_0)), (25, (fun u => fEq u (Value.int .i64 l4i11))), (26, (fun u => fEq u (Value.int .i64 (IntKind.i64.wrap (l4i11 - (1 : Int)))))), (27, (fun p21 => (fPtr tyS_api_Place p21 u19))), (28, (fun p22 => (fPtr tyA8u8 p22 u19.ID))), (29, (fun s23 => (fDat (tyList tyU8) [s23] (lA8u8 u19.ID)))), (30, (fun u => fEq u (str (lA8u8 u19.ID)))), (31, (fun p24 => (fPtr tyA8u8 p24 u8.ID))), (32, (fun s25 => (fDat (tyList tyU8) [s25] (lA8u8 u8.ID)))), (33, (fun u => fEq u (str (lA8u8 u8.ID)))), (34, (fun u => fEq u (Value.bool (!Op.bytesLess (lA8u8 u19.ID) (lA8u8 u8.ID)))))] (tab [(0, v0_0), (3, (Value.int .i64 l4i11)), (4, (ptr g11 0)), (9, v0_0), (10, (Value.int .i64 (a0.length : Int))), (11, (Value.int .i64 l4i11))]) mixed (by kernel_rfl) rfl rfl rfl (fun a hs => hs.tab _ (allT_mem ⟨rfl, rfl, rfl, rfl, rfl, rfl, trivial⟩)) ⟨⟨rfl, ld_val (ov_move rfl rfl)⟩, ⟨rfl, ld_eq (j := 0) rfl rfl (ld_val (ov_cast (by first | rw [hb18] | rfl) (ov_int rfl rfl rfl rfl)))⟩, ⟨rfl, ld_eq (j := 1) rfl rfl (ld_val (ov_cast (by first | rw [hb18] | rfl) (ov_move rfl rfl)))⟩, ⟨rfl, ld_eq (j := 2) rfl rfl (ld_val (ov_move rfl rfl))⟩, ⟨rfl, ld_eq (j := 2) rfl rfl (ld_val (ov_move rfl rfl))⟩, ⟨rfl, ld_eq (j := 2) rfl rfl (ld_eq (j := 4) rfl rfl (ld_val (ov_int rfl rfl rfl rfl)))⟩, ⟨rfl, ld_eq (j := 2) rfl rfl (ld_eq (j := 3) rfl rfl (ld_eq (j := 5) rfl rfl (ld_of (of_idxD 2 hu20 rfl rfl rfl Tryd.underlying76 sz84 rfl))))⟩, ⟨rfl, ld_eq (j := 2) rfl rfl (ld_fact (j := 6) rfl rfl (fun p21 => ld_of (of_fieldD (pr := fun (y : S_api_Place) => y.ID) 0 rfl subS_api_Place_0 rfl Tryd.underlying84 rfl sz49 rfl rfl)))⟩, ⟨rfl, ld_eq (j := 2) rfl rfl (ld_fact (j := 7) rfl rfl (fun p22 => ld_of (of_sliceP 0 lrepA8u8 rfl rfl rfl rfl Tryd.underlying49 sz5 rfl)))⟩, ⟨rfl, ld_eq (j := 2) rfl rfl (ld_fact (j := 8) rfl rfl (fun s23 => ld_val (ov_toStr 0 rfl rfl Tryd.underlying89 Tryd.underlying5 Tryd.underlying9 rfl)))⟩, ⟨rfl, ld_eq (j := 2) rfl rfl (ld_of (of_fieldD (pr := fun (y : S_api_Place) => y.ID) 0 rfl subS_api_Place_0 rfl Tryd.underlying84 rfl sz49 rfl rfl))⟩, ⟨rfl, ld_eq (j := 2) rfl rfl (ld_fact (j := 10) rfl rfl (fun p24 => ld_of (of_sliceP 0 lrepA8u8 rfl rfl rfl rfl Tryd.underlying49 sz5 rfl)))⟩, ⟨rfl, ld_eq (j := 2) rfl rfl (ld_fact (j := 11) rfl rfl (fun s25 => ld_val (ov_toStr 0 rfl rfl Tryd.underlying89 Tryd.underlying5 Tryd.underlying9 rfl)))⟩, ⟨rfl, ld_eq (j := 2) rfl rfl (ld_eq (j := 9) rfl rfl (ld_eq (j := 12) rfl rfl (ld_val (ov_strCmp rfl rfl rfl rfl))))⟩, trivial⟩ ?_
              refine tl_eq 2 rfl ?_
              refine tl_eq 13 rfl ?_
              refine tl_done ?_
              refine al_val (ov_pick_t rfl rfl rfl) ?_
              refine al_nil ?_
              exact aq_join (!Op.bytesLess (lA8u8 u19.ID) (lA8u8 u8.ID)) h (fun w a hm hs => norm hm hs [] [2, 1] [(0, v0_0), (9, v0_0), (10, (Value.int .i64 (a0.length : Int))), (11, (Value.int .i64 l4i11)), (35, (Value.bool (!Op.bytesLess (lA8u8 u19.ID) (lA8u8 u8.ID))))] (by decide) ⟨rfl, rfl, rfl, rfl, rfl, trivial⟩)
            · replace h := bif_f hb18 h
              refine aw_region_draw 14 [(21, (fun u => fEq u (Value.int .i64 l4i11))), (22, (fun u => fEq u (Value.bool false))), (23, (fun u => fEq u (Value.bool false))), (24, (fun u => fEq u undef)), (25, (fun u => fEq u undef)), (26, (fun u => fEq u undef)), (27, (fun u => fEq u undef)), (28, (fun u => fEq u undef)), (29, (fun u => fEq u undef)), (30, (fun u => fEq u undef)), (31, (fun u => fEq u undef)), (32, (fun u => fEq u undef)), (33, (fun u => fEq u undef)), (34, (fun u => fEq u undef))] (tab [(0, v0_0), (3, (Value.int .i64 l4i11)), (4, (ptr g11 0)), (9, v0_0), (10, (Value.int .i64 (a0.length : Int))), (11, (Value.int .i64 l4i11))]) mixed (by kernel_rfl) rfl rfl rfl (fun a hs => hs.tab _ (allT_mem ⟨rfl, rfl, rfl, rfl, rfl, rfl, trivial⟩)) ⟨⟨rfl, ld_val (ov_move rfl rfl)⟩, ⟨rfl, ld_eq (j := 0) rfl rfl (ld_val (ov_cast (by first | rw [hb18] | rfl) (ov_int rfl rfl rfl rfl)))⟩, ⟨rfl, ld_eq (j := 1) rfl rfl (ld_val (ov_cast (by first | rw [hb18] | rfl) (ov_move rfl rfl)))⟩, ⟨rfl, ld_eq (j := 2) rfl rfl (ld_skip)⟩, ⟨rfl, ld_eq (j := 2) rfl rfl (ld_skip)⟩, ⟨rfl, ld_eq (j := 2) rfl rfl (ld_skip)⟩, ⟨rfl, ld_eq (j := 2) rfl rfl (ld_skip)⟩, ⟨rfl, ld_eq (j := 2) rfl rfl (ld_skip)⟩, ⟨rfl, ld_eq (j := 2) rfl rfl (ld_skip)⟩, ⟨rfl, ld_eq (j := 2) rfl rfl (ld_skip)⟩, ⟨rfl, ld_eq (j := 2) rfl rfl (ld_skip)⟩, ⟨rfl, ld_eq (j := 2) rfl rfl (ld_skip)⟩, ⟨rfl, ld_eq (j := 2) rfl rfl (ld_skip)⟩, ⟨rfl, ld_eq (j := 2) rfl rfl (ld_skip)⟩, trivial⟩ ?_
              refine tl_eq 2 rfl ?_
              refine tl_eq 13 rfl ?_
              refine tl_done ?_
              refine al_val (ov_pick_f rfl rfl rfl) ?_
              refine al_nil ?_
              exact aq_join false h (fun w a hm hs => norm hm hs [] [2, 1] [(0, v0_0), (9, v0_0), (10, (Value.int .i64 (a0.length : Int))), (11, (Value.int .i64 l4i11)), (35, (Value.bool false))] (by decide) ⟨rfl, rfl, rfl, rfl, rfl, trivial⟩)
      · replace h := bif_f hb7 h
        refine aw_exit ?_
        refine aq_then_exit ?_
        refine aq_then_exit ?_
        refine aq_block_exit ?_
        exact aq_join () h (fun w a hm hs => norm hm hs [] [0] [] (by decide) trivial)
def f_lumref_digits : Nat → Int → Option (List UInt8)
  | 0, _ => none
  | fu + 1, a0 => (bif (a0 == (0 : Int)) then (some ([] : List UInt8)) else (opt (f_lumref_digits fu (IntKind.u64.wrap ((a0).tdiv (256 : Int)))) fun (r3 : (List UInt8)) => (req (0 ≤ (IntKind.u8.wrap ((a0).tmod (256 : Int))) ∧ (IntKind.u8.wrap ((a0).tmod (256 : Int))) ≤ 255) (req (r3.length + ([(UInt8.ofNat ((IntKind.u8.wrap ((a0).tmod (256 : Int)))).toNat)]).length ≤ 9223372036854775807) (some (r3 ++ ([(UInt8.ofNat ((IntKind.u8.wrap ((a0).tmod (256 : Int)))).toNat)])))))))
set_option maxRecDepth 100000 in
theorem f_lumref_digits_ok (fu : Nat) (a0 : Int) {r : (List UInt8)} (h : f_lumref_digits fu a0 = some r) : FnOk Tryd.prog 98 [(Value.int .u64 a0)] [] [] (fun (i : Unit) => { val := (str r) }) := by
  cases fu with
  | zero => rw [f_lumref_digits] at h; cases h
  | succ fu =>
    rw [f_lumref_digits] at h
    refine fn_enter Tryd.func98 rfl Tryd.ntmps98 rfl (fun w0 Z0 => ?_)
    refine aw_seq ?_
    refine aw_region ?_
    refine al_val (ov_assign rfl rfl) ?_
    refine al_nil ?_
    refine aq_then ?_
    refine aw_seq ?_
    refine aw_seq ?_
    refine aw_region ?_
    refine al_val (ov_move rfl rfl) ?_
    refine al_val (ov_int rfl rfl rfl rfl) ?_
    refine al_nil ?_
    refine aq_then ?_
    refine aw_cond rfl (fun hb1 => ?_) (fun hb1 => ?_)
    · replace h := bif_t hb1 h
      refine aw_seq ?_
      refine aw_region ?_
      refine al_val (ov_assign rfl rfl) ?_
      refine al_nil ?_
      refine aq_then ?_
      refine aw_ret ?_
      refine aq_then_ret ?_
      obtain rfl := Option.some.inj h
      exact fn_ret () [] [] rfl rfl rfl rfl (res1 rfl rfl) rfl rfl rfl (by decide)
    · replace h := bif_f hb1 h
      refine aw_skip ?_
      refine aq_then ?_
      refine aw_seq ?_
      obtain ⟨r3, hc2, h⟩ := opt_some h
      obtain ⟨hc5, h⟩ := req_some h
      obtain ⟨hc6, h⟩ := req_some h
      refine aw_region_draw 9 [(5, (fun u => fEq u (Value.int .u64 a0))), (6, (fun u => fEq u (Value.int .u64 (IntKind.u64.wrap ((a0).tdiv (256 : Int)))))), (7, (fun u => fEq u (str r3))), (8, (fun u => fEq u (Value.int .u64 a0))), (9, (fun u => fEq u (Value.int .u64 ((a0).tmod (256 : Int))))), (10, (fun u => fEq u (Value.int .u8 (IntKind.u8.wrap ((a0).tmod (256 : Int)))))), (11, (fun v4 => (fDat (tyList tyU8) [v4] [(UInt8.ofNat ((IntKind.u8.wrap ((a0).tmod (256 : Int)))).toNat)]))), (12, (fun u => fEq u (str [(UInt8.ofNat ((IntKind.u8.wrap ((a0).tmod (256 : Int)))).toNat)]))), (13, (fun u => fEq u (str (r3 ++ ([(UInt8.ofNat ((IntKind.u8.wrap ((a0).tmod (256 : Int)))).toNat)])))))] (tab [(0, (Value.int .u64 a0)), (2, (str ([] : List UInt8)))]) mixed (by kernel_rfl) rfl rfl rfl (fun a hs => hs.tab _ (allT_mem ⟨rfl, rfl, trivial⟩)) ⟨⟨rfl, ld_val (ov_move rfl rfl)⟩, ⟨rfl, ld_eq (j := 0) rfl rfl (ld_val (ov_quo (by decide) rfl rfl rfl))⟩, ⟨rfl, ld_eq (j := 1) rfl rfl (ld_callV (vs := [(Value.int .u64 (IntKind.u64.wrap ((a0).tdiv (256 : Int))))]) (f_lumref_digits_ok fu (IntKind.u64.wrap ((a0).tdiv (256 : Int))) hc2) [] pre_nil rfl Tryd.func98 rfl rfl rfl)⟩, ⟨rfl, ld_val (ov_move rfl rfl)⟩, ⟨rfl, ld_eq (j := 3) rfl rfl (ld_val (ov_rem (by decide) rfl rfl rfl))⟩, ⟨rfl, ld_eq (j := 4) rfl rfl (ld_val (ov_convInt (by rw [Tryd.underlying87]; rfl) Tryd.underlying5 rfl rfl))⟩, ⟨rfl, ld_eq (j := 5) rfl rfl (ld_buildSlice (τ := tyU8) (e := 5) (k := 1) (cs := [(Value.int .u8 (IntKind.u8.wrap ((a0).tmod (256 : Int))))]) (xs := [(UInt8.ofNat ((IntKind.u8.wrap ((a0).tmod (256 : Int)))).toNat)]) rfl (by decide) rfl (fun w a hm hs => ⟨([(Value.int .u8 (IntKind.u8.wrap ((a0).tmod (256 : Int))))]).toArray, rfl, by simp only [List.map_toArray, List.map_cons, List.map_nil, hs.ev (x := .tmp 10) rfl]; exact run_bs [(Value.int .u8 (IntKind.u8.wrap ((a0).tmod (256 : Int))))] [(Value.int .u8 (IntKind.u8.wrap ((a0).tmod (256 : Int))))] Tryd.underlying89 to5 rfl rfl (bs_cons (l := [(Value.int .u8 (IntKind.u8.wrap ((a0).tmod (256 : Int))))]) (cs := []) (cv_rfl rfl) rfl bs_nil) hm⟩) (fun hm => ⟨_, _, rfl, (fun _ => u8_rep hc5) hm, rfl⟩) rfl)⟩, ⟨rfl, ld_fact (j := 6) rfl rfl (fun v4 => ld_val (ov_toStr 0 rfl rfl Tryd.underlying89 Tryd.underlying5 Tryd.underlying9 rfl))⟩, ⟨rfl, ld_eq (j := 2) rfl rfl (ld_eq (j := 7) rfl rfl (ld_val (ov_strAdd hc6 rfl rfl rfl)))⟩, trivial⟩ ?_
      refine tl_eq 8 rfl ?_
      refine tl_done ?_
      refine al_val (ov_assign rfl rfl) ?_
      refine al_nil ?_
      refine aq_then ?_
      refine aw_ret ?_
      obtain rfl := Option.some.inj h
      exact fn_ret () [] [] rfl rfl rfl rfl (res1 rfl rfl) rfl rfl rfl (by decide)
def f_lumref_Put (fu : Nat) (a0 : Int) : Option (List UInt8) := (opt (f_lumref_digits fu a0) fun (r2 : (List UInt8)) => (req (0 ≤ (IntKind.u8.wrap (r2.length : Int)) ∧ (IntKind.u8.wrap (r2.length : Int)) ≤ 255) (req (([(UInt8.ofNat ((IntKind.u8.wrap (r2.length : Int))).toNat)]).length + r2.length ≤ 9223372036854775807) (some (([(UInt8.ofNat ((IntKind.u8.wrap (r2.length : Int))).toNat)]) ++ r2)))))
set_option maxRecDepth 100000 in
theorem f_lumref_Put_ok (fu : Nat) (a0 : Int) {r : (List UInt8)} (h : f_lumref_Put fu a0 = some r) : FnOk Tryd.prog 56 [(Value.int .u64 a0)] [] [] (fun (i : Unit) => { val := (str r) }) := by
  unfold f_lumref_Put at h
  refine fn_enter Tryd.func56 rfl Tryd.ntmps56 rfl (fun w0 Z0 => ?_)
  refine aw_seq ?_
  refine aw_region ?_
  refine al_val (ov_assign rfl rfl) ?_
  refine al_nil ?_
  refine aq_then ?_
  refine aw_seq ?_
  refine aw_region ?_
  refine al_val (ov_move rfl rfl) ?_
  obtain ⟨r2, hc1, h⟩ := opt_some h
  refine al_call (vs := [(Value.int .u64 a0)]) (f_lumref_digits_ok fu a0 hc1) [] [] [] pre_nil rfl (by simp) (by decide) (.inl rfl) rfl Tryd.func98 rfl rfl rfl (fun _ => ?_)
  refine al_val (ov_assign rfl rfl) ?_
  refine al_nil ?_
  refine aq_then ?_
  refine aw_seq ?_
  refine aw_region ?_
  refine al_val (ov_move rfl rfl) ?_
  refine al_val (ov_strLen Tryd.underlying9 rfl rfl) ?_
  refine al_val (ov_convInt (by rw [Tryd.underlying3]; rfl) Tryd.underlying5 rfl rfl) ?_
  obtain ⟨hc4, h⟩ := req_some h
  refine al_buildSlice (τ := tyU8) (e := 5) (k := 1) (sz := 0) (by_ := 0) (z := undef) (cs := [(Value.int .u8 (IntKind.u8.wrap (r2.length : Int)))]) (xs := [(UInt8.ofNat ((IntKind.u8.wrap (r2.length : Int))).toNat)]) rfl (by decide) (fun w a hm hs => ⟨([(Value.int .u8 (IntKind.u8.wrap (r2.length : Int)))]).toArray, rfl, by simp only [List.map_toArray, List.map_cons, List.map_nil, hs.ev (x := .tmp 8) rfl]; exact run_bs [(Value.int .u8 (IntKind.u8.wrap (r2.length : Int)))] [(Value.int .u8 (IntKind.u8.wrap (r2.length : Int)))] Tryd.underlying89 to5 rfl rfl (bs_cons (l := [(Value.int .u8 (IntKind.u8.wrap (r2.length : Int)))]) (cs := []) (cv_rfl rfl) rfl bs_nil) hm⟩) (fun hm => ⟨_, _, rfl, (fun _ => u8_rep hc4) hm, rfl⟩) rfl (fun v3 => ?_)
  refine al_val (ov_toStrR 0 rfl rfl Tryd.underlying89 Tryd.underlying5 Tryd.underlying9 rfl) ?_
  refine al_val (ov_move rfl rfl) ?_
  obtain ⟨hc5, h⟩ := req_some h
  refine al_val (ov_strAdd hc5 rfl rfl rfl) ?_
  refine al_val (ov_assign rfl rfl) ?_
  refine al_nil ?_
  refine aq_then ?_
  refine aw_ret ?_
  obtain rfl := Option.some.inj h
  exact fn_ret () [] [] rfl rfl rfl rfl (res1 rfl rfl) rfl rfl rfl (by decide)
def f_lumref_IndexText_L7 (a0 : (List S_api_Place)) (kk4 : ((List UInt8) → Option (List UInt8))) (fu : Nat) : Nat → (List UInt8) → Int → Option (List UInt8)
  | 0, _, _ => none
  | k6 + 1, l5s3, l5i12 => (bif (decide (l5i12 < (a0.length : Int))) then (opt (at? a0 l5i12) fun (u9 : S_api_Place) => (req (0 ≤ (IntKind.u8.wrap u9.Kind) ∧ (IntKind.u8.wrap u9.Kind) ≤ 255) (req ((lA8u8 u9.ID).length + ([(UInt8.ofNat ((IntKind.u8.wrap u9.Kind)).toNat)]).length ≤ 9223372036854775807) (opt (f_lumref_Put fu (IntKind.u64.wrap u9.Pack)) fun (r21 : (List UInt8)) => (req (((lA8u8 u9.ID) ++ ([(UInt8.ofNat ((IntKind.u8.wrap u9.Kind)).toNat)])).length + r21.length ≤ 9223372036854775807) (opt (f_lumref_Put fu (IntKind.u64.wrap u9.At)) fun (r25 : (List UInt8)) => (req ((((lA8u8 u9.ID) ++ ([(UInt8.ofNat ((IntKind.u8.wrap u9.Kind)).toNat)])) ++ r21).length + r25.length ≤ 9223372036854775807) (opt (f_lumref_Put fu (IntKind.u64.wrap u9.Len)) fun (r29 : (List UInt8)) => (req (((((lA8u8 u9.ID) ++ ([(UInt8.ofNat ((IntKind.u8.wrap u9.Kind)).toNat)])) ++ r21) ++ r25).length + r29.length ≤ 9223372036854775807) (req (l5s3.length + (((((lA8u8 u9.ID) ++ ([(UInt8.ofNat ((IntKind.u8.wrap u9.Kind)).toNat)])) ++ r21) ++ r25) ++ r29).length ≤ 9223372036854775807) (f_lumref_IndexText_L7 a0 kk4 fu k6 (l5s3 ++ (((((lA8u8 u9.ID) ++ ([(UInt8.ofNat ((IntKind.u8.wrap u9.Kind)).toNat)])) ++ r21) ++ r25) ++ r29)) (IntKind.i64.wrap (l5i12 + (1 : Int)))))))))))))) else (kk4 l5s3))
def f_lumref_IndexText (fu : Nat) (a0 : (List S_api_Place)) : Option (List UInt8) := (opt (f_lumref_Put fu (IntKind.u64.wrap (a0.length : Int))) fun (r2 : (List UInt8)) => (lt (fun (j3s3 : (List UInt8)) => (some j3s3)) fun (kk4 : (List UInt8) → Option (List UInt8)) => (f_lumref_IndexText_L7 a0 kk4 fu fu r2 (0 : Int))))
set_option maxRecDepth 100000 in
theorem f_lumref_IndexText_ok (fu : Nat) (v0_0 : Value) (a0 : (List S_api_Place)) {r : (List UInt8)} (h : f_lumref_IndexText fu a0 = some r) : FnOk Tryd.prog 50 [v0_0] [(fDat (tyList tyS_api_Place) [v0_0] a0)] [] (fun (i : Unit) => { val := (str r) }) := by
  unfold f_lumref_IndexText at h
  refine fn_enter Tryd.func50 rfl Tryd.ntmps50 rfl (fun w0 Z0 => ?_)
  refine aw_seq ?_
  refine aw_region ?_
  refine al_val (ov_assign rfl rfl) ?_
  refine al_nil ?_
  refine aq_then ?_
  refine aw_seq ?_
  refine aw_region ?_
  refine al_val (ov_move rfl rfl) ?_
  refine al_val (ov_lenD 0 rfl rfl Tryd.underlying76 rfl) ?_
  refine al_val (ov_convInt (by rw [Tryd.underlying3]; rfl) Tryd.underlying87 rfl rfl) ?_
  obtain ⟨r2, hc1, h⟩ := opt_some h
  refine al_call (vs := [(Value.int .u64 (IntKind.u64.wrap (a0.length : Int)))]) (f_lumref_Put_ok fu (IntKind.u64.wrap (a0.length : Int)) hc1) [] [] [] pre_nil rfl (by simp) (by decide) (.inl rfl) rfl Tryd.func56 rfl rfl rfl (fun _ => ?_)
  refine al_val (ov_assign rfl rfl) ?_
  refine al_nil ?_
  refine aq_then ?_
  obtain ⟨kk4, hkk4, h⟩ := lt_some h
  refine aw_seq_join (ι := (List UInt8)) (fun i => (memOf w0 Z0 [] [] [(fDat (tyList tyS_api_Place) [v0_0] a0)])) (fun i => (tab [(3, (str i))])) (fun i => kk4 i = some r) ?_ ?_
  · rintro j3s3 h
    have h : kk4 j3s3 = some r := h
    rw [hkk4] at h
    dsimp only at h
    clear hkk4
    refine aw_show (m := (memOf w0 Z0 [] [] [(fDat (tyList tyS_api_Place) [v0_0] a0)])) (S := (tab [(3, (str j3s3))])) ?_
    refine aw_seq ?_
    refine aw_region ?_
    refine al_val (ov_move rfl rfl) ?_
    refine al_val (ov_assign rfl rfl) ?_
    refine al_nil ?_
    refine aq_then ?_
    refine aw_ret ?_
    obtain rfl := Option.some.inj h
    exact fn_ret () [] [] rfl rfl rfl rfl (res1 rfl rfl) rfl rfl rfl (by decide)
  · clear hkk4
    refine aw_seq ?_
    refine aw_region ?_
    refine al_val (ov_move rfl rfl) ?_
    refine al_val (ov_lenD 0 rfl rfl Tryd.underlying76 rfl) ?_
    refine al_val (ov_move rfl rfl) ?_
    refine al_nil ?_
    refine aq_then ?_
    refine aw_block ?_
    refine aw_state (aw_loop (ι := (List UInt8) × Int) (fun i => (memOf w0 Z0 [] [] [(fDat (tyList tyS_api_Place) [v0_0] a0)])) (fun i => (tab [(3, (str i.1)), (10, v0_0), (11, (Value.int .i64 (a0.length : Int))), (12, (Value.int .i64 i.2))])) (fun q i => f_lumref_IndexText_L7 a0 kk4 fu q i.1 i.2 = some r) ?_ fu (r2, (0 : Int)) h) (fun w a hm hs => norm hm hs [] [0] [(3, (str r2)), (10, v0_0), (11, (Value.int .i64 (a0.length : Int))), (12, (Value.int .i64 (0 : Int)))] (by decide) ⟨rfl, rfl, rfl, rfl, trivial⟩)
    clear h
    rintro k6 ⟨l5s3, l5i12⟩ h
    have h : f_lumref_IndexText_L7 a0 kk4 fu k6 l5s3 l5i12 = some r := h
    obtain _ | k6 := k6
    · rw [f_lumref_IndexText_L7] at h; cases h
    rw [f_lumref_IndexText_L7] at h
    refine aw_show (m := (memOf w0 Z0 [] [] [(fDat (tyList tyS_api_Place) [v0_0] a0)])) (S := (tab [(3, (str l5s3)), (10, v0_0), (11, (Value.int .i64 (a0.length : Int))), (12, (Value.int .i64 l5i12))])) ?_
    refine aw_seq ?_
    refine aw_region ?_
    refine al_val (ov_int rfl rfl rfl rfl) ?_
    refine al_nil ?_
    refine aq_then ?_
    refine aw_seq ?_
    refine aw_cond rfl (fun hb8 => ?_) (fun hb8 => ?_)
    · replace h := bif_t hb8 h
      refine aw_skip ?_
      refine aq_then ?_
      refine aw_seq ?_
      refine aw_block ?_
      refine aw_seq ?_
      refine aw_region ?_
      obtain ⟨u9, hu10, h⟩ := opt_some h
      refine al_idxD 0 hu10 rfl rfl rfl Tryd.underlying76 sz84 rfl (fun p11 => ?_)
      refine al_val (ov_loadP (ds := ((cA8u8 u9.ID) ++ [(Value.int .i64 u9.Kind), (Value.int .i64 u9.Pack), (Value.int .i64 u9.At), (Value.int .i64 u9.Len)])) 0 rfl encS_api_Place rfl Tryd.underlying84 sz84 rfl rfl rfl) ?_
      refine al_alloc (zs := ((cA8u8 (A8u8.mk (0 : UInt8) (0 : UInt8) (0 : UInt8) (0 : UInt8) (0 : UInt8) (0 : UInt8) (0 : UInt8) (0 : UInt8))) ++ [(Value.int .i64 (0 : Int)), (Value.int .i64 (0 : Int)), (Value.int .i64 (0 : Int)), (Value.int .i64 (0 : Int))])) (zeroOf_to to84) rfl rfl (fun g12 => ?_)
      refine al_store (i := 0) (vs := ((cA8u8 u9.ID) ++ [(Value.int .i64 u9.Kind), (Value.int .i64 u9.Pack), (Value.int .i64 u9.At), (Value.int .i64 u9.Len)])) (cs' := ((cA8u8 u9.ID) ++ [(Value.int .i64 u9.Kind), (Value.int .i64 u9.Pack), (Value.int .i64 u9.At), (Value.int .i64 u9.Len)])) rfl rfl rfl sz84 (cv_rfl rfl) rfl (co_app (oneA8u8 u9.ID) (co_val rfl (co_val rfl (co_val rfl (co_val rfl co_nil))))) (Nat.le_of_ble_eq_true rfl) rfl rfl ?_
      refine al_nil ?_
      refine aq_then ?_
      refine aw_freezeB 0 (u9) rfl rfl (fun _ _ => mkS_api_Place rfl) ?_
      obtain ⟨hc17, h⟩ := req_some h
      obtain ⟨hc18, h⟩ := req_some h
      obtain ⟨r21, hc20, h⟩ := opt_some h
      obtain ⟨hc22, h⟩ := req_some h
      obtain ⟨r25, hc24, h⟩ := opt_some h
      obtain ⟨hc26, h⟩ := req_some h
      obtain ⟨r29, hc28, h⟩ := opt_some h
      obtain ⟨hc30, h⟩ := req_some h
      obtain ⟨hc31, h⟩ := req_some h
      refine aw_region_draw 26 [(16, (fun u => fEq u (str l5s3))), (17, (fun p13 => (fPtr tyA8u8 p13 u9.ID))), (18, (fun s14 => (fDat (tyList tyU8) [s14] (lA8u8 u9.ID)))), (19, (fun u => fEq u (str (lA8u8 u9.ID)))), (20, (fun p15 => (fPtr (tyInt .i64) p15 u9.Kind))), (21, (fun u => fEq u (Value.int .i64 u9.Kind))), (22, (fun u => fEq u (Value.int .u8 (IntKind.u8.wrap u9.Kind)))), (23, (fun v16 => (fDat (tyList tyU8) [v16] [(UInt8.ofNat ((IntKind.u8.wrap u9.Kind)).toNat)]))), (24, (fun u => fEq u (str [(UInt8.ofNat ((IntKind.u8.wrap u9.Kind)).toNat)]))), (25, (fun u => fEq u (str ((lA8u8 u9.ID) ++ ([(UInt8.ofNat ((IntKind.u8.wrap u9.Kind)).toNat)]))))), (26, (fun p19 => (fPtr (tyInt .i64) p19 u9.Pack))), (27, (fun u => fEq u (Value.int .i64 u9.Pack))), (28, (fun u => fEq u (Value.int .u64 (IntKind.u64.wrap u9.Pack)))), (29, (fun u => fEq u (str r21))), (30, (fun u => fEq u (str (((lA8u8 u9.ID) ++ ([(UInt8.ofNat ((IntKind.u8.wrap u9.Kind)).toNat)])) ++ r21)))), (31, (fun p23 => (fPtr (tyInt .i64) p23 u9.At))), (32, (fun u => fEq u (Value.int .i64 u9.At))), (33, (fun u => fEq u (Value.int .u64 (IntKind.u64.wrap u9.At)))), (34, (fun u => fEq u (str r25))), (35, (fun u => fEq u (str ((((lA8u8 u9.ID) ++ ([(UInt8.ofNat ((IntKind.u8.wrap u9.Kind)).toNat)])) ++ r21) ++ r25)))), (36, (fun p27 => (fPtr (tyInt .i64) p27 u9.Len))), (37, (fun u => fEq u (Value.int .i64 u9.Len))), (38, (fun u => fEq u (Value.int .u64 (IntKind.u64.wrap u9.Len)))), (39, (fun u => fEq u (str r29))), (40, (fun u => fEq u (str (((((lA8u8 u9.ID) ++ ([(UInt8.ofNat ((IntKind.u8.wrap u9.Kind)).toNat)])) ++ r21) ++ r25) ++ r29)))), (41, (fun u => fEq u (str (l5s3 ++ (((((lA8u8 u9.ID) ++ ([(UInt8.ofNat ((IntKind.u8.wrap u9.Kind)).toNat)])) ++ r21) ++ r25) ++ r29)))))] (tab [(3, (str l5s3)), (5, (ptr g12 0)), (10, v0_0), (11, (Value.int .i64 (a0.length : Int))), (12, (Value.int .i64 l5i12))]) mixed (by kernel_rfl) rfl rfl rfl (fun a hs => hs.tab _ (allT_mem ⟨rfl, rfl, rfl, rfl, rfl, trivial⟩)) ⟨⟨rfl, ld_val (ov_move rfl rfl)⟩, ⟨rfl, ld_of (of_fieldD (pr := fun (y : S_api_Place) => y.ID) 0 rfl subS_api_Place_0 rfl Tryd.underlying84 rfl sz49 rfl rfl)⟩, ⟨rfl, ld_fact (j := 1) rfl rfl (fun p13 => ld_of (of_sliceP 0 lrepA8u8 rfl rfl rfl rfl Tryd.underlying49 sz5 rfl))⟩, ⟨rfl, ld_fact (j := 2) rfl rfl (fun s14 => ld_val (ov_toStr 0 rfl rfl Tryd.underlying89 Tryd.underlying5 Tryd.underlying9 rfl))⟩, ⟨rfl, ld_of (of_fieldD (pr := fun (y : S_api_Place) => y.Kind) 0 rfl subS_api_Place_1 rfl Tryd.underlying84 rfl sz3 rfl rfl)⟩, ⟨rfl, ld_fact (j := 4) rfl rfl (fun p15 => ld_val (ov_loadP (ds := [(Value.int .i64 u9.Kind)]) 0 rfl (fun h => h) rfl Tryd.underlying3 sz3 rfl rfl rfl))⟩, ⟨rfl, ld_eq (j := 5) rfl rfl (ld_val (ov_convInt (by rw [Tryd.underlying3]; rfl) Tryd.underlying5 rfl rfl))⟩, ⟨rfl, ld_eq (j := 6) rfl rfl (ld_buildSlice (τ := tyU8) (e := 5) (k := 1) (cs := [(Value.int .u8 (IntKind.u8.wrap u9.Kind))]) (xs := [(UInt8.ofNat ((IntKind.u8.wrap u9.Kind)).toNat)]) rfl (by decide) rfl (fun w a hm hs => ⟨([(Value.int .u8 (IntKind.u8.wrap u9.Kind))]).toArray, rfl, by simp only [List.map_toArray, List.map_cons, List.map_nil, hs.ev (x := .tmp 22) rfl]; exact run_bs [(Value.int .u8 (IntKind.u8.wrap u9.Kind))] [(Value.int .u8 (IntKind.u8.wrap u9.Kind))] Tryd.underlying89 to5 rfl rfl (bs_cons (l := [(Value.int .u8 (IntKind.u8.wrap u9.Kind))]) (cs := []) (cv_rfl rfl) rfl bs_nil) hm⟩) (fun hm => ⟨_, _, rfl, (fun _ => u8_rep hc17) hm, rfl⟩) rfl)⟩, ⟨rfl, ld_fact (j := 7) rfl rfl (fun v16 => ld_val (ov_toStr 0 rfl rfl Tryd.underlying89 Tryd.underlying5 Tryd.underlying9 rfl))⟩, ⟨rfl, ld_eq (j := 3) rfl rfl (ld_eq (j := 8) rfl rfl (ld_val (ov_strAdd hc18 rfl rfl rfl)))⟩, ⟨rfl, ld_of (of_fieldD (pr := fun (y : S_api_Place) => y.Pack) 0 rfl subS_api_Place_2 rfl Tryd.underlying84 rfl sz3 rfl rfl)⟩, ⟨rfl, ld_fact (j := 10) rfl rfl (fun p19 => ld_val (ov_loadP (ds := [(Value.int .i64 u9.Pack)]) 0 rfl (fun h => h) rfl Tryd.underlying3 sz3 rfl rfl rfl))⟩, ⟨rfl, ld_eq (j := 11) rfl rfl (ld_val (ov_convInt (by rw [Tryd.underlying3]; rfl) Tryd.underlying87 rfl rfl))⟩, ⟨rfl, ld_eq (j := 12) rfl rfl (ld_callV (vs := [(Value.int .u64 (IntKind.u64.wrap u9.Pack))]) (f_lumref_Put_ok fu (IntKind.u64.wrap u9.Pack) hc20) [] pre_nil rfl Tryd.func56 rfl rfl rfl)⟩, ⟨rfl, ld_eq (j := 9) rfl rfl (ld_eq (j := 13) rfl rfl (ld_val (ov_strAdd hc22 rfl rfl rfl)))⟩, ⟨rfl, ld_of (of_fieldD (pr := fun (y : S_api_Place) => y.At) 0 rfl subS_api_Place_3 rfl Tryd.underlying84 rfl sz3 rfl rfl)⟩, ⟨rfl, ld_fact (j := 15) rfl rfl (fun p23 => ld_val (ov_loadP (ds := [(Value.int .i64 u9.At)]) 0 rfl (fun h => h) rfl Tryd.underlying3 sz3 rfl rfl rfl))⟩, ⟨rfl, ld_eq (j := 16) rfl rfl (ld_val (ov_convInt (by rw [Tryd.underlying3]; rfl) Tryd.underlying87 rfl rfl))⟩, ⟨rfl, ld_eq (j := 17) rfl rfl (ld_callV (vs := [(Value.int .u64 (IntKind.u64.wrap u9.At))]) (f_lumref_Put_ok fu (IntKind.u64.wrap u9.At) hc24) [] pre_nil rfl Tryd.func56 rfl rfl rfl)⟩, ⟨rfl, ld_eq (j := 14) rfl rfl (ld_eq (j := 18) rfl rfl (ld_val (ov_strAdd hc26 rfl rfl rfl)))⟩, ⟨rfl, ld_of (of_fieldD (pr := fun (y : S_api_Place) => y.Len) 0 rfl subS_api_Place_4 rfl Tryd.underlying84 rfl sz3 rfl rfl)⟩, ⟨rfl, ld_fact (j := 20) rfl rfl (fun p27 => ld_val (ov_loadP (ds := [(Value.int .i64 u9.Len)]) 0 rfl (fun h => h) rfl Tryd.underlying3 sz3 rfl rfl rfl))⟩, ⟨rfl, ld_eq (j := 21) rfl rfl (ld_val (ov_convInt (by rw [Tryd.underlying3]; rfl) Tryd.underlying87 rfl rfl))⟩, ⟨rfl, ld_eq (j := 22) rfl rfl (ld_callV (vs := [(Value.int .u64 (IntKind.u64.wrap u9.Len))]) (f_lumref_Put_ok fu (IntKind.u64.wrap u9.Len) hc28) [] pre_nil rfl Tryd.func56 rfl rfl rfl)⟩, ⟨rfl, ld_eq (j := 19) rfl rfl (ld_eq (j := 23) rfl rfl (ld_val (ov_strAdd hc30 rfl rfl rfl)))⟩, ⟨rfl, ld_eq (j := 0) rfl rfl (ld_eq (j := 24) rfl rfl (ld_val (ov_strAdd hc31 rfl rfl rfl)))⟩, trivial⟩ ?_
      refine tl_eq 25 rfl ?_
      refine tl_done ?_
      refine al_val (ov_assign rfl rfl) ?_
      refine al_nil ?_
      refine aq_block ?_
      refine aq_then ?_
      refine aw_region ?_
      refine al_val (ov_int rfl rfl rfl rfl) ?_
      refine al_val (ov_move rfl rfl) ?_
      refine al_nil ?_
      exact aq_again k6 ((l5s3 ++ (((((lA8u8 u9.ID) ++ ([(UInt8.ofNat ((IntKind.u8.wrap u9.Kind)).toNat)])) ++ r21) ++ r25) ++ r29)), (IntKind.i64.wrap (l5i12 + (1 : Int)))) (Nat.lt_succ_self _) h (fun w a hm hs => norm hm hs [] [2] [(3, (str (l5s3 ++ (((((lA8u8 u9.ID) ++ ([(UInt8.ofNat ((IntKind.u8.wrap u9.Kind)).toNat)])) ++ r21) ++ r25) ++ r29)))), (10, v0_0), (11, (Value.int .i64 (a0.length : Int))), (12, (Value.int .i64 (IntKind.i64.wrap (l5i12 + (1 : Int)))))] (by decide) ⟨rfl, rfl, rfl, rfl, trivial⟩)
    · replace h := bif_f hb8 h
      refine aw_exit ?_
      refine aq_then_exit ?_
      refine aq_then_exit ?_
      refine aq_block_exit ?_
      exact aq_join l5s3 h (fun w a hm hs => norm hm hs [] [0] [(3, (str l5s3))] (by decide) ⟨rfl, trivial⟩)
def f_num_value_L5 (a0 : (List UInt8)) (kk2 : (Int → Option Int)) : Nat → Int → Int → Option Int
  | 0, _, _ => none
  | k4 + 1, l3i3, l3i7 => (bif (decide (l3i7 < (a0.length : Int))) then (req (0 ≤ l3i7 ∧ l3i7 < (a0.length : Int)) (f_num_value_L5 a0 kk2 k4 (bits .or .u64 (IntKind.u64.wrap (l3i3 * 2 ^ min ((8 : Int)).toNat (IntKind.bits .u64))) (IntKind.u64.wrap (En.bAt a0 l3i7))) (IntKind.i64.wrap (l3i7 + (1 : Int))))) else (kk2 l3i3))
def f_num_value (fu : Nat) (a0 : (List UInt8)) : Option Int := (lt (fun (j1i3 : Int) => (some j1i3)) fun (kk2 : Int → Option Int) => (f_num_value_L5 a0 kk2 fu (0 : Int) (0 : Int)))
set_option maxRecDepth 100000 in
theorem f_num_value_ok (fu : Nat) (a0 : (List UInt8)) {r : Int} (h : f_num_value fu a0 = some r) : FnOk Tryd.prog 101 [(str a0)] [] [] (fun (i : Unit) => { val := (Value.int .u64 r) }) := by
  unfold f_num_value at h
  refine fn_enter Tryd.func101 rfl Tryd.ntmps101 rfl (fun w0 Z0 => ?_)
  refine aw_seq ?_
  refine aw_region ?_
  refine al_val (ov_assign rfl rfl) ?_
  refine al_nil ?_
  refine aq_then ?_
  refine aw_seq ?_
  refine aw_region ?_
  refine al_val (ov_assign rfl rfl) ?_
  refine al_nil ?_
  refine aq_then ?_
  obtain ⟨kk2, hkk2, h⟩ := lt_some h
  refine aw_seq_join (ι := Int) (fun i => (memOf w0 Z0 [] [] [])) (fun i => (tab [(3, (Value.int .u64 i))])) (fun i => kk2 i = some r) ?_ ?_
  · rintro j1i3 h
    have h : kk2 j1i3 = some r := h
    rw [hkk2] at h
    dsimp only at h
    clear hkk2
    refine aw_show (m := (memOf w0 Z0 [] [] [])) (S := (tab [(3, (Value.int .u64 j1i3))])) ?_
    refine aw_seq ?_
    refine aw_region ?_
    refine al_val (ov_move rfl rfl) ?_
    refine al_val (ov_assign rfl rfl) ?_
    refine al_nil ?_
    refine aq_then ?_
    refine aw_ret ?_
    obtain rfl := Option.some.inj h
    exact fn_ret () [] [] rfl rfl rfl rfl (res1 rfl rfl) rfl rfl rfl (by decide)
  · clear hkk2
    refine aw_seq ?_
    refine aw_region ?_
    refine al_val (ov_move rfl rfl) ?_
    refine al_val (ov_strLen Tryd.underlying9 rfl rfl) ?_
    refine al_val (ov_move rfl rfl) ?_
    refine al_nil ?_
    refine aq_then ?_
    refine aw_block ?_
    refine aw_state (aw_loop (ι := Int × Int) (fun i => (memOf w0 Z0 [] [] [])) (fun i => (tab [(0, (str a0)), (3, (Value.int .u64 i.1)), (6, (Value.int .i64 (a0.length : Int))), (7, (Value.int .i64 i.2))])) (fun q i => f_num_value_L5 a0 kk2 q i.1 i.2 = some r) ?_ fu ((0 : Int), (0 : Int)) h) (fun w a hm hs => norm hm hs [] [] [(0, (str a0)), (3, (Value.int .u64 (0 : Int))), (6, (Value.int .i64 (a0.length : Int))), (7, (Value.int .i64 (0 : Int)))] (by decide) ⟨rfl, rfl, rfl, rfl, trivial⟩)
    clear h
    rintro k4 ⟨l3i3, l3i7⟩ h
    have h : f_num_value_L5 a0 kk2 k4 l3i3 l3i7 = some r := h
    obtain _ | k4 := k4
    · rw [f_num_value_L5] at h; cases h
    rw [f_num_value_L5] at h
    refine aw_show (m := (memOf w0 Z0 [] [] [])) (S := (tab [(0, (str a0)), (3, (Value.int .u64 l3i3)), (6, (Value.int .i64 (a0.length : Int))), (7, (Value.int .i64 l3i7))])) ?_
    refine aw_seq ?_
    refine aw_region ?_
    refine al_val (ov_int rfl rfl rfl rfl) ?_
    refine al_nil ?_
    refine aq_then ?_
    refine aw_seq ?_
    refine aw_cond rfl (fun hb6 => ?_) (fun hb6 => ?_)
    · replace h := bif_t hb6 h
      refine aw_skip ?_
      refine aq_then ?_
      refine aw_seq ?_
      refine aw_block ?_
      refine aw_seq ?_
      refine aw_region ?_
      refine al_val (ov_move rfl rfl) ?_
      refine al_val (ov_assign rfl rfl) ?_
      refine al_nil ?_
      refine aq_then ?_
      refine aw_region ?_
      refine al_val (ov_move rfl rfl) ?_
      refine al_val (ov_shl (by decide) rfl rfl rfl) ?_
      refine al_val (ov_move rfl rfl) ?_
      refine al_val (ov_move rfl rfl) ?_
      obtain ⟨hc7, h⟩ := req_some h
      refine al_val (ov_strIdx hc7.1 hc7.2 Tryd.underlying9 rfl rfl rfl) ?_
      refine al_val (ov_convInt (by rw [Tryd.underlying5]; rfl) Tryd.underlying87 rfl rfl) ?_
      refine al_val (ov_int rfl rfl rfl rfl) ?_
      refine al_val (ov_assign rfl rfl) ?_
      refine al_nil ?_
      refine aq_block ?_
      refine aq_then ?_
      refine aw_region ?_
      refine al_val (ov_int rfl rfl rfl rfl) ?_
      refine al_val (ov_move rfl rfl) ?_
      refine al_nil ?_
      exact aq_again k4 ((bits .or .u64 (IntKind.u64.wrap (l3i3 * 2 ^ min ((8 : Int)).toNat (IntKind.bits .u64))) (IntKind.u64.wrap (En.bAt a0 l3i7))), (IntKind.i64.wrap (l3i7 + (1 : Int)))) (Nat.lt_succ_self _) h (fun w a hm hs => norm hm hs [] [] [(0, (str a0)), (3, (Value.int .u64 (bits .or .u64 (IntKind.u64.wrap (l3i3 * 2 ^ min ((8 : Int)).toNat (IntKind.bits .u64))) (IntKind.u64.wrap (En.bAt a0 l3i7))))), (6, (Value.int .i64 (a0.length : Int))), (7, (Value.int .i64 (IntKind.i64.wrap (l3i7 + (1 : Int)))))] (by decide) ⟨rfl, rfl, rfl, rfl, trivial⟩)
    · replace h := bif_f hb6 h
      refine aw_exit ?_
      refine aq_then_exit ?_
      refine aq_then_exit ?_
      refine aq_block_exit ?_
      exact aq_join l3i3 h (fun w a hm hs => norm hm hs [] [] [(3, (Value.int .u64 l3i3))] (by decide) ⟨rfl, trivial⟩)
def f_num_Get (fu : Nat) (a0 : (List UInt8)) : Option (Int × Int × Int) := (bif (a0 == ([] : List UInt8)) then (some ((0 : Int), (0 : Int), (3 : Int))) else (req (0 ≤ (0 : Int) ∧ (0 : Int) < (a0.length : Int)) (bif (decide ((IntKind.i64.wrap (En.bAt a0 (0 : Int))) > (8 : Int))) then (some ((0 : Int), (0 : Int), (4 : Int))) else (bif (decide ((a0.length : Int) < (IntKind.i64.wrap ((1 : Int) + (IntKind.i64.wrap (En.bAt a0 (0 : Int))))))) then (some ((0 : Int), (0 : Int), (3 : Int))) else (lt (fun (j5b20 : Bool) => (bif j5b20 then (some ((0 : Int), (0 : Int), (4 : Int))) else (req (0 ≤ (1 : Int) ∧ (1 : Int) ≤ (IntKind.i64.wrap ((1 : Int) + (IntKind.i64.wrap (En.bAt a0 (0 : Int))))) ∧ (IntKind.i64.wrap ((1 : Int) + (IntKind.i64.wrap (En.bAt a0 (0 : Int))))) ≤ (a0.length : Int)) (opt (f_num_value fu (cut a0 (1 : Int) (IntKind.i64.wrap ((1 : Int) + (IntKind.i64.wrap (En.bAt a0 (0 : Int))))))) fun (r10 : Int) => (some (r10, (IntKind.i64.wrap ((1 : Int) + (IntKind.i64.wrap (En.bAt a0 (0 : Int))))), (0 : Int))))))) fun (kk6 : Bool → Option (Int × Int × Int)) => (bif (decide ((IntKind.i64.wrap (En.bAt a0 (0 : Int))) > (0 : Int))) then (req (0 ≤ (1 : Int) ∧ (1 : Int) < (a0.length : Int)) (kk6 ((En.bAt a0 (1 : Int)) == (0 : Int)))) else (kk6 false)))))))
set_option maxRecDepth 100000 in
theorem f_num_Get_ok (fu : Nat) (a0 : (List UInt8)) {r : (Int × Int × Int)} (h : f_num_Get fu a0 = some r) : FnOk Tryd.prog 58 [(str a0)] [] [] (fun (i : Unit) => { val := (Value.tuple #[(Value.int .u64 r.1), (Value.int .i64 r.2.1), (Value.int .i64 r.2.2)]) }) := by
  unfold f_num_Get at h
  refine fn_enter Tryd.func58 rfl Tryd.ntmps58 rfl (fun w0 Z0 => ?_)
  refine aw_seq ?_
  refine aw_region ?_
  refine al_val (ov_assign rfl rfl) ?_
  refine al_val (ov_assign rfl rfl) ?_
  refine al_val (ov_assign rfl rfl) ?_
  refine al_nil ?_
  refine aq_then ?_
  refine aw_seq ?_
  refine aw_seq ?_
  refine aw_region ?_
  refine al_val (ov_move rfl rfl) ?_
  refine al_val (ov_strCmp rfl rfl rfl rfl) ?_
  refine al_nil ?_
  refine aq_then ?_
  refine aw_cond rfl (fun hb1 => ?_) (fun hb1 => ?_)
  · replace h := bif_t hb1 h
    refine aw_seq ?_
    refine aw_region ?_
    refine al_val (ov_assign rfl rfl) ?_
    refine al_val (ov_assign rfl rfl) ?_
    refine al_val (ov_assign rfl rfl) ?_
    refine al_nil ?_
    refine aq_then ?_
    refine aw_ret ?_
    refine aq_then_ret ?_
    obtain rfl := Option.some.inj h
    exact fn_ret () [] [] rfl rfl rfl rfl (res3 rfl rfl rfl rfl) rfl rfl rfl (by decide)
  · replace h := bif_f hb1 h
    refine aw_skip ?_
    refine aq_then ?_
    refine aw_seq ?_
    refine aw_region ?_
    refine al_val (ov_move rfl rfl) ?_
    obtain ⟨hc2, h⟩ := req_some h
    refine al_val (ov_strIdx hc2.1 hc2.2 Tryd.underlying9 rfl rfl rfl) ?_
    refine al_val (ov_convInt (by rw [Tryd.underlying5]; rfl) Tryd.underlying3 rfl rfl) ?_
    refine al_val (ov_assign rfl rfl) ?_
    refine al_nil ?_
    refine aq_then ?_
    refine aw_seq ?_
    refine aw_block ?_
    refine aw_seq ?_
    refine aw_region ?_
    refine al_val (ov_move rfl rfl) ?_
    refine al_val (ov_int rfl rfl rfl rfl) ?_
    refine al_val (ov_assign rfl rfl) ?_
    refine al_nil ?_
    refine aq_then ?_
    refine aw_cond rfl (fun hb3 => ?_) (fun hb3 => ?_)
    · replace h := bif_t hb3 h
      refine aw_seq ?_
      refine aw_region ?_
      refine al_val (ov_assign rfl rfl) ?_
      refine al_val (ov_assign rfl rfl) ?_
      refine al_val (ov_assign rfl rfl) ?_
      refine al_nil ?_
      refine aq_then ?_
      refine aw_ret ?_
      refine aq_block_ret ?_
      refine aq_then_ret ?_
      obtain rfl := Option.some.inj h
      exact fn_ret () [] [] rfl rfl rfl rfl (res3 rfl rfl rfl rfl) rfl rfl rfl (by decide)
    · replace h := bif_f hb3 h
      refine aw_seq ?_
      refine aw_region ?_
      refine al_val (ov_move rfl rfl) ?_
      refine al_val (ov_strLen Tryd.underlying9 rfl rfl) ?_
      refine al_val (ov_move rfl rfl) ?_
      refine al_val (ov_int rfl rfl rfl rfl) ?_
      refine al_val (ov_int rfl rfl rfl rfl) ?_
      refine al_val (ov_assign rfl rfl) ?_
      refine al_nil ?_
      refine aq_then ?_
      refine aw_cond rfl (fun hb4 => ?_) (fun hb4 => ?_)
      · replace h := bif_t hb4 h
        refine aw_seq ?_
        refine aw_region ?_
        refine al_val (ov_assign rfl rfl) ?_
        refine al_val (ov_assign rfl rfl) ?_
        refine al_val (ov_assign rfl rfl) ?_
        refine al_nil ?_
        refine aq_then ?_
        refine aw_ret ?_
        refine aq_block_ret ?_
        refine aq_then_ret ?_
        obtain rfl := Option.some.inj h
        exact fn_ret () [] [] rfl rfl rfl rfl (res3 rfl rfl rfl rfl) rfl rfl rfl (by decide)
      · replace h := bif_f hb4 h
        obtain ⟨kk6, hkk6, h⟩ := lt_some h
        refine aw_seq_join (ι := Bool) (fun i => (memOf w0 Z0 [] [] [])) (fun i => (tab [(0, (str a0)), (5, (Value.int .i64 (IntKind.i64.wrap (En.bAt a0 (0 : Int))))), (20, (Value.bool i))])) (fun i => kk6 i = some r) ?_ ?_
        · rintro j5b20 h
          have h : kk6 j5b20 = some r := h
          rw [hkk6] at h
          dsimp only at h
          clear hkk6
          refine aw_show (m := (memOf w0 Z0 [] [] [])) (S := (tab [(0, (str a0)), (5, (Value.int .i64 (IntKind.i64.wrap (En.bAt a0 (0 : Int))))), (20, (Value.bool j5b20))])) ?_
          refine aw_cond rfl (fun hb7 => ?_) (fun hb7 => ?_)
          · replace h := bif_t hb7 h
            refine aw_seq ?_
            refine aw_region ?_
            refine al_val (ov_assign rfl rfl) ?_
            refine al_val (ov_assign rfl rfl) ?_
            refine al_val (ov_assign rfl rfl) ?_
            refine al_nil ?_
            refine aq_then ?_
            refine aw_ret ?_
            refine aq_block_ret ?_
            refine aq_then_ret ?_
            obtain rfl := Option.some.inj h
            exact fn_ret () [] [] rfl rfl rfl rfl (res3 rfl rfl rfl rfl) rfl rfl rfl (by decide)
          · replace h := bif_f hb7 h
            refine aw_skip ?_
            refine aq_block ?_
            refine aq_then ?_
            refine aw_seq ?_
            refine aw_region ?_
            refine al_val (ov_move rfl rfl) ?_
            refine al_val (ov_move rfl rfl) ?_
            refine al_val (ov_int rfl rfl rfl rfl) ?_
            obtain ⟨hc8, h⟩ := req_some h
            refine al_val (ov_strCut hc8.1 hc8.2.1 hc8.2.2 Tryd.underlying9 rfl rfl rfl rfl) ?_
            obtain ⟨r10, hc9, h⟩ := opt_some h
            refine al_call (vs := [(str (cut a0 (1 : Int) (IntKind.i64.wrap ((1 : Int) + (IntKind.i64.wrap (En.bAt a0 (0 : Int)))))))]) (f_num_value_ok fu (cut a0 (1 : Int) (IntKind.i64.wrap ((1 : Int) + (IntKind.i64.wrap (En.bAt a0 (0 : Int)))))) hc9) [] [] [] pre_nil rfl (by simp) (by decide) (.inl rfl) rfl Tryd.func101 rfl rfl rfl (fun _ => ?_)
            refine al_val (ov_move rfl rfl) ?_
            refine al_val (ov_int rfl rfl rfl rfl) ?_
            refine al_val (ov_assign rfl rfl) ?_
            refine al_val (ov_assign rfl rfl) ?_
            refine al_val (ov_assign rfl rfl) ?_
            refine al_nil ?_
            refine aq_then ?_
            refine aw_ret ?_
            obtain rfl := Option.some.inj h
            exact fn_ret () [] [] rfl rfl rfl rfl (res3 rfl rfl rfl rfl) rfl rfl rfl (by decide)
        · clear hkk6
          refine aw_region ?_
          refine al_val (ov_move rfl rfl) ?_
          refine al_val (ov_int rfl rfl rfl rfl) ?_
          refine al_val (ov_move rfl rfl) ?_
          refine al_caseB 23 rfl (fun hb11 => ?_) (fun hb11 => ?_)
          · replace h := bif_t hb11 h
            refine al_val (ov_move rfl rfl) ?_
            obtain ⟨hc12, h⟩ := req_some h
            refine al_val (ov_strIdx hc12.1 hc12.2 Tryd.underlying9 rfl rfl rfl) ?_
            refine al_val (ov_int rfl rfl rfl rfl) ?_
            refine al_val (ov_pick_t rfl rfl rfl) ?_
            refine al_val (ov_assign rfl rfl) ?_
            refine al_nil ?_
            exact aq_join ((En.bAt a0 (1 : Int)) == (0 : Int)) h (fun w a hm hs => norm hm hs [] [] [(0, (str a0)), (5, (Value.int .i64 (IntKind.i64.wrap (En.bAt a0 (0 : Int))))), (20, (Value.bool ((En.bAt a0 (1 : Int)) == (0 : Int))))] (by decide) ⟨rfl, rfl, rfl, trivial⟩)
          · replace h := bif_f hb11 h
            refine al_skip ?_
            refine al_skip ?_
            refine al_skip ?_
            refine al_val (ov_pick_f rfl rfl rfl) ?_
            refine al_val (ov_assign rfl rfl) ?_
            refine al_nil ?_
            exact aq_join false h (fun w a hm hs => norm hm hs [] [] [(0, (str a0)), (5, (Value.int .i64 (IntKind.i64.wrap (En.bAt a0 (0 : Int))))), (20, (Value.bool false))] (by decide) ⟨rfl, rfl, rfl, trivial⟩)
def f_index_Read_L14 (r2 : (Int × Int × Int)) (kk7 : ((List UInt8) → (List S_api_Place) → Option ((List S_api_Place) × Int))) (fu : Nat) : Nat → (List UInt8) → (List S_api_Place) → Int → Option ((List S_api_Place) × Int)
  | 0, _, _, _ => none
  | k13 + 1, l12s0, l12x7, l12i32 => (lt (fun (l12s0 : (List UInt8)) (l12x7 : (List S_api_Place)) (l12i32 : Int) => (f_index_Read_L14 r2 kk7 fu k13 l12s0 l12x7 l12i32)) fun (kk15 : (List UInt8) → (List S_api_Place) → Int → Option ((List S_api_Place) × Int)) => (bif (decide (l12i32 < r2.1)) then (lt (fun (j17s0 : (List UInt8)) (j17x7 : (List S_api_Place)) => (kk15 j17s0 j17x7 (IntKind.u64.wrap (l12i32 + (1 : Int))))) fun (kk18 : (List UInt8) → (List S_api_Place) → Option ((List S_api_Place) × Int)) => (bif (decide ((l12s0.length : Int) < (9 : Int))) then (some (([] : List S_api_Place), (3 : Int))) else (req (0 ≤ (8 : Int) ∧ (8 : Int) ≤ (l12s0.length : Int)) (req ((l12s0.take ((8 : Int)).toNat).length ≤ 9223372036854775807) (req (8 ≤ (l12s0.take ((8 : Int)).toNat).length) (req (0 ≤ (8 : Int) ∧ (8 : Int) < (l12s0.length : Int)) (req (0 ≤ (9 : Int) ∧ (9 : Int) ≤ (l12s0.length : Int)) (lt (fun (j28s0 : (List UInt8)) (j28i8_2 : Int) (j28i8_3 : Int) (j28i8_4 : Int) => (req (((l12x7.length + ([(S_api_Place.mk (ofA8u8 (l12s0.take ((8 : Int)).toNat)) (IntKind.i64.wrap (En.bAt l12s0 (8 : Int))) j28i8_2 j28i8_3 j28i8_4)]).length) * 40 : Nat) ≤ 140737488355328 ∧ l12x7.length + ([(S_api_Place.mk (ofA8u8 (l12s0.take ((8 : Int)).toNat)) (IntKind.i64.wrap (En.bAt l12s0 (8 : Int))) j28i8_2 j28i8_3 j28i8_4)]).length ≤ 9223372036854775807) (kk18 j28s0 (l12x7 ++ ([(S_api_Place.mk (ofA8u8 (l12s0.take ((8 : Int)).toNat)) (IntKind.i64.wrap (En.bAt l12s0 (8 : Int))) j28i8_2 j28i8_3 j28i8_4)]))))) fun (kk29 : (List UInt8) → Int → Int → Int → Option ((List S_api_Place) × Int)) => (opt (f_num_Get fu (l12s0.drop ((9 : Int)).toNat)) fun (r35 : (Int × Int × Int)) => (bif (r35.2.2 != (0 : Int)) then (some (([] : List S_api_Place), r35.2.2)) else (bif (decide (r35.1 > (1099511627776 : Int))) then (some (([] : List S_api_Place), (2 : Int))) else (req (0 ≤ r35.2.1 ∧ r35.2.1 ≤ ((l12s0.drop ((9 : Int)).toNat).length : Int)) (opt (f_num_Get fu ((l12s0.drop ((9 : Int)).toNat).drop (r35.2.1).toNat)) fun (r40 : (Int × Int × Int)) => (bif (r40.2.2 != (0 : Int)) then (some (([] : List S_api_Place), r40.2.2)) else (bif (decide (r40.1 > (1099511627776 : Int))) then (some (([] : List S_api_Place), (2 : Int))) else (req (0 ≤ r40.2.1 ∧ r40.2.1 ≤ (((l12s0.drop ((9 : Int)).toNat).drop (r35.2.1).toNat).length : Int)) (opt (f_num_Get fu (((l12s0.drop ((9 : Int)).toNat).drop (r35.2.1).toNat).drop (r40.2.1).toNat)) fun (r45 : (Int × Int × Int)) => (bif (r45.2.2 != (0 : Int)) then (some (([] : List S_api_Place), r45.2.2)) else (bif (decide (r45.1 > (1099511627776 : Int))) then (some (([] : List S_api_Place), (2 : Int))) else (req (0 ≤ r45.2.1 ∧ r45.2.1 ≤ ((((l12s0.drop ((9 : Int)).toNat).drop (r35.2.1).toNat).drop (r40.2.1).toNat).length : Int)) (kk29 ((((l12s0.drop ((9 : Int)).toNat).drop (r35.2.1).toNat).drop (r40.2.1).toNat).drop (r45.2.1).toNat) (IntKind.i64.wrap r35.1) (IntKind.i64.wrap r40.1) (IntKind.i64.wrap r45.1)))))))))))))))))))))) else (kk7 l12s0 l12x7)))
def f_index_Read (fu : Nat) (a0 : (List UInt8)) : Option ((List S_api_Place) × Int) := (opt (f_num_Get fu a0) fun (r2 : (Int × Int × Int)) => (bif (r2.2.2 != (0 : Int)) then (some (([] : List S_api_Place), r2.2.2)) else (bif (decide (r2.1 > (400 : Int))) then (some (([] : List S_api_Place), (2 : Int))) else (req (0 ≤ r2.2.1 ∧ r2.2.1 ≤ (a0.length : Int)) (lt (fun (j6s0 : (List UInt8)) (j6x7 : (List S_api_Place)) => (bif (!(j6s0 == ([] : List UInt8))) then (some (([] : List S_api_Place), (4 : Int))) else (opt (f_index_Check fu j6x7) fun (r10 : Int) => (bif (r10 != (0 : Int)) then (some (([] : List S_api_Place), r10)) else (some (j6x7, (0 : Int))))))) fun (kk7 : (List UInt8) → (List S_api_Place) → Option ((List S_api_Place) × Int)) => (f_index_Read_L14 r2 kk7 fu fu (a0.drop (r2.2.1).toNat) ([] : List S_api_Place) (0 : Int)))))))
set_option maxRecDepth 100000 in
theorem f_index_Read_ok (fu : Nat) (a0 : (List UInt8)) {r : ((List S_api_Place) × Int)} (h : f_index_Read fu a0 = some r) : FnOk Tryd.prog 51 [(str a0)] [] [] (fun (i : Value) => { val := (Value.tuple #[i, (Value.int .i64 r.2)]), own := [(oRow i 84 tyS_api_Place r.1)] }) := by
  unfold f_index_Read at h
  refine fn_enter Tryd.func51 rfl Tryd.ntmps51 rfl (fun w0 Z0 => ?_)
  refine aw_seq ?_
  refine aw_region ?_
  refine al_val (ov_assign rfl rfl) ?_
  refine al_val (ov_assign rfl rfl) ?_
  refine al_nil ?_
  refine aq_then ?_
  refine aw_seq ?_
  refine aw_region ?_
  refine al_val (ov_move rfl rfl) ?_
  obtain ⟨r2, hc1, h⟩ := opt_some h
  refine al_call (vs := [(str a0)]) (f_num_Get_ok fu a0 hc1) [] [] [] pre_nil rfl (by simp) (by decide) (.inl rfl) rfl Tryd.func58 rfl rfl rfl (fun _ => ?_)
  refine al_val (ov_move rfl rfl) ?_
  refine al_val (ov_extract rfl rfl rfl) ?_
  refine al_val (ov_extract rfl rfl rfl) ?_
  refine al_val (ov_extract rfl rfl rfl) ?_
  refine al_val (ov_assign rfl rfl) ?_
  refine al_val (ov_assign rfl rfl) ?_
  refine al_val (ov_assign rfl rfl) ?_
  refine al_nil ?_
  refine aq_then ?_
  refine aw_seq ?_
  refine aw_block ?_
  refine aw_seq ?_
  refine aw_region ?_
  refine al_val (ov_move rfl rfl) ?_
  refine al_val (ov_int rfl rfl rfl rfl) ?_
  refine al_val (ov_assign rfl rfl) ?_
  refine al_nil ?_
  refine aq_then ?_
  refine aw_cond rfl (fun hb3 => ?_) (fun hb3 => ?_)
  · replace h := bif_t hb3 h
    refine aw_seq ?_
    refine aw_region ?_
    refine al_val (ov_move rfl rfl) ?_
    refine al_val (ov_assign rfl rfl) ?_
    refine al_val (ov_assign rfl rfl) ?_
    refine al_nil ?_
    refine aq_then ?_
    refine aw_ret ?_
    refine aq_block_ret ?_
    refine aq_then_ret ?_
    refine aq_nilR 84 tyS_api_Place ?_
    obtain rfl := Option.some.inj h
    exact fn_ret (Value.slice none 0 0) [0] [] rfl rfl rfl rfl (res2 rfl rfl rfl) rfl rfl rfl (by decide)
  · replace h := bif_f hb3 h
    refine aw_seq ?_
    refine aw_region ?_
    refine al_val (ov_move rfl rfl) ?_
    refine al_val (ov_int rfl rfl rfl rfl) ?_
    refine al_val (ov_assign rfl rfl) ?_
    refine al_nil ?_
    refine aq_then ?_
    refine aw_cond rfl (fun hb4 => ?_) (fun hb4 => ?_)
    · replace h := bif_t hb4 h
      refine aw_seq ?_
      refine aw_region ?_
      refine al_val (ov_assign rfl rfl) ?_
      refine al_val (ov_assign rfl rfl) ?_
      refine al_nil ?_
      refine aq_then ?_
      refine aw_ret ?_
      refine aq_block_ret ?_
      refine aq_then_ret ?_
      refine aq_nilR 84 tyS_api_Place ?_
      obtain rfl := Option.some.inj h
      exact fn_ret (Value.slice none 0 0) [0] [] rfl rfl rfl rfl (res2 rfl rfl rfl) rfl rfl rfl (by decide)
    · replace h := bif_f hb4 h
      refine aw_skip ?_
      refine aq_block ?_
      refine aq_then ?_
      refine aw_seq ?_
      refine aw_region ?_
      refine al_val (ov_move rfl rfl) ?_
      refine al_val (ov_move rfl rfl) ?_
      obtain ⟨hc5, h⟩ := req_some h
      refine al_val (ov_strFrom hc5.1 hc5.2 Tryd.underlying9 rfl rfl rfl) ?_
      refine al_val (ov_assign rfl rfl) ?_
      refine al_nil ?_
      refine aq_then ?_
      refine aw_seq ?_
      refine aw_region ?_
      refine al_val (ov_assign rfl rfl) ?_
      refine al_nil ?_
      refine aq_then ?_
      obtain ⟨kk7, hkk7, h⟩ := lt_some h
      refine aw_seq_join (ι := (List UInt8) × Value × (List S_api_Place)) (fun i => (memOf w0 Z0 [] [(oRow i.2.1 84 tyS_api_Place i.2.2)] [])) (fun i => (tab [(0, (str i.1)), (7, i.2.1)])) (fun i => kk7 i.1 i.2.2 = some r) ?_ ?_
      · rintro ⟨j6s0, j6v7, j6x7⟩ h
        have h : kk7 j6s0 j6x7 = some r := h
        rw [hkk7] at h
        dsimp only at h
        clear hkk7
        refine aw_show (m := (memOf w0 Z0 [] [(oRow j6v7 84 tyS_api_Place j6x7)] [])) (S := (tab [(0, (str j6s0)), (7, j6v7)])) ?_
        refine aw_seq ?_
        refine aw_seq ?_
        refine aw_region ?_
        refine al_val (ov_move rfl rfl) ?_
        refine al_val (ov_strCmp rfl rfl rfl rfl) ?_
        refine al_nil ?_
        refine aq_then ?_
        refine aw_cond rfl (fun hb8 => ?_) (fun hb8 => ?_)
        · replace h := bif_t hb8 h
          refine aw_seq ?_
          refine aw_region ?_
          refine al_val (ov_assign rfl rfl) ?_
          refine al_val (ov_assign rfl rfl) ?_
          refine al_nil ?_
          refine aq_then ?_
          refine aw_ret ?_
          refine aq_then_ret ?_
          refine aq_nilR 84 tyS_api_Place ?_
          obtain rfl := Option.some.inj h
          exact fn_ret (Value.slice none 0 0) [0] [] rfl rfl rfl rfl (res2 rfl rfl rfl) rfl rfl rfl (by decide)
        · replace h := bif_f hb8 h
          refine aw_skip ?_
          refine aq_then ?_
          refine aw_seq ?_
          refine aw_seq ?_
          refine aw_region ?_
          refine al_val (ov_move rfl rfl) ?_
          obtain ⟨r10, hc9, h⟩ := opt_some h
          refine al_call (vs := [j6v7]) (f_index_Check_ok fu j6v7 j6x7 hc9) [0] [] [0] (pre_own 0 rfl rfl pre_nil) rfl (by simp) (by decide) (.inr flat_res0) rfl Tryd.func93 rfl rfl rfl (fun _ => ?_)
          refine al_val (ov_assign rfl rfl) ?_
          refine al_nil ?_
          refine aq_then ?_
          refine aw_seq ?_
          refine aw_region ?_
          refine al_val (ov_move rfl rfl) ?_
          refine al_val (ov_int rfl rfl rfl rfl) ?_
          refine al_nil ?_
          refine aq_then ?_
          refine aw_cond rfl (fun hb11 => ?_) (fun hb11 => ?_)
          · replace h := bif_t hb11 h
            refine aw_seq ?_
            refine aw_region ?_
            refine al_val (ov_move rfl rfl) ?_
            refine al_val (ov_assign rfl rfl) ?_
            refine al_val (ov_assign rfl rfl) ?_
            refine al_nil ?_
            refine aq_then ?_
            refine aw_ret ?_
            refine aq_then_ret ?_
            refine aq_nilR 84 tyS_api_Place ?_
            obtain rfl := Option.some.inj h
            exact fn_ret (Value.slice none 0 0) [0] [] rfl rfl rfl rfl (res2 rfl rfl rfl) rfl rfl rfl (by decide)
          · replace h := bif_f hb11 h
            refine aw_skip ?_
            refine aq_then ?_
            refine aw_seq ?_
            refine aw_region ?_
            refine al_val (ov_move rfl rfl) ?_
            refine al_val (ov_assign rfl rfl) ?_
            refine al_val (ov_assign rfl rfl) ?_
            refine al_nil ?_
            refine aq_then ?_
            refine aw_ret ?_
            obtain rfl := Option.some.inj h
            exact fn_ret j6v7 [0] [] rfl rfl rfl rfl (res2 rfl rfl rfl) rfl rfl rfl (by decide)
      · clear hkk7
        refine aw_seq ?_
        refine aw_region ?_
        refine al_val (ov_move rfl rfl) ?_
        refine al_val (ov_move rfl rfl) ?_
        refine al_nil ?_
        refine aq_then ?_
        refine aw_block ?_
        refine aw_nilR 84 tyS_api_Place ?_
        refine aw_state (aw_loop (ι := (List UInt8) × Value × (List S_api_Place) × Int) (fun i => (memOf w0 Z0 [] [(oRow i.2.1 84 tyS_api_Place i.2.2.1)] [])) (fun i => (tab [(0, (str i.1)), (7, i.2.1), (31, (Value.int .u64 r2.1)), (32, (Value.int .u64 i.2.2.2))])) (fun q i => f_index_Read_L14 r2 kk7 fu q i.1 i.2.2.1 i.2.2.2 = some r) ?_ fu ((a0.drop (r2.2.1).toNat), (Value.slice none 0 0), ([] : List S_api_Place), (0 : Int)) h) (fun w a hm hs => norm hm hs [0] [] [(0, (str (a0.drop (r2.2.1).toNat))), (7, (Value.slice none 0 0)), (31, (Value.int .u64 r2.1)), (32, (Value.int .u64 (0 : Int)))] (by decide) ⟨rfl, rfl, rfl, rfl, trivial⟩)
        clear h
        rintro k13 ⟨l12s0, l12v7, l12x7, l12i32⟩ h
        have h : f_index_Read_L14 r2 kk7 fu k13 l12s0 l12x7 l12i32 = some r := h
        obtain _ | k13 := k13
        · rw [f_index_Read_L14] at h; cases h
        rw [f_index_Read_L14] at h
        refine aw_show (m := (memOf w0 Z0 [] [(oRow l12v7 84 tyS_api_Place l12x7)] [])) (S := (tab [(0, (str l12s0)), (7, l12v7), (31, (Value.int .u64 r2.1)), (32, (Value.int .u64 l12i32))])) ?_
        obtain ⟨kk15, hkk15, h⟩ := lt_some h
        refine aw_body_join (ι := (List UInt8) × Value × (List S_api_Place) × Int) (fun i => (memOf w0 Z0 [] [(oRow i.2.1 84 tyS_api_Place i.2.2.1)] [])) (fun i => (tab [(0, (str i.1)), (7, i.2.1), (31, (Value.int .u64 r2.1)), (32, (Value.int .u64 i.2.2.2))])) (fun i => kk15 i.1 i.2.2.1 i.2.2.2 = some r) (fun i h => aq_again k13 i (Nat.lt_succ_self _) (by rw [hkk15] at h; exact h) (fun w a hm hs => ⟨hm, hs⟩)) ?_
        clear hkk15
        refine aw_seq ?_
        refine aw_region ?_
        refine al_val (ov_int rfl rfl rfl rfl) ?_
        refine al_nil ?_
        refine aq_then ?_
        refine aw_seq ?_
        refine aw_cond rfl (fun hb16 => ?_) (fun hb16 => ?_)
        · replace h := bif_t hb16 h
          refine aw_skip ?_
          refine aq_then ?_
          obtain ⟨kk18, hkk18, h⟩ := lt_some h
          refine aw_seq_join (ι := (List UInt8) × Value × (List S_api_Place)) (fun i => (memOf w0 Z0 [] [(oRow i.2.1 84 tyS_api_Place i.2.2)] [])) (fun i => (tab [(0, (str i.1)), (7, i.2.1), (31, (Value.int .u64 r2.1)), (32, (Value.int .u64 l12i32))])) (fun i => kk18 i.1 i.2.2 = some r) ?_ ?_
          · rintro ⟨j17s0, j17v7, j17x7⟩ h
            have h : kk18 j17s0 j17x7 = some r := h
            rw [hkk18] at h
            dsimp only at h
            clear hkk18
            refine aw_show (m := (memOf w0 Z0 [] [(oRow j17v7 84 tyS_api_Place j17x7)] [])) (S := (tab [(0, (str j17s0)), (7, j17v7), (31, (Value.int .u64 r2.1)), (32, (Value.int .u64 l12i32))])) ?_
            refine aw_region ?_
            refine al_val (ov_int rfl rfl rfl rfl) ?_
            refine al_val (ov_move rfl rfl) ?_
            refine al_nil ?_
            exact aq_join (j17s0, j17v7, j17x7, (IntKind.u64.wrap (l12i32 + (1 : Int)))) h (fun w a hm hs => norm hm hs [0] [] [(0, (str j17s0)), (7, j17v7), (31, (Value.int .u64 r2.1)), (32, (Value.int .u64 (IntKind.u64.wrap (l12i32 + (1 : Int)))))] (by decide) ⟨rfl, rfl, rfl, rfl, trivial⟩)
          · clear hkk18
            refine aw_block ?_
            refine aw_seq ?_
            refine aw_seq ?_
            refine aw_region ?_
            refine al_val (ov_move rfl rfl) ?_
            refine al_val (ov_strLen Tryd.underlying9 rfl rfl) ?_
            refine al_val (ov_int rfl rfl rfl rfl) ?_
            refine al_nil ?_
            refine aq_then ?_
            refine aw_cond rfl (fun hb19 => ?_) (fun hb19 => ?_)
            · replace h := bif_t hb19 h
              refine aw_seq ?_
              refine aw_region ?_
              refine al_val (ov_assign rfl rfl) ?_
              refine al_val (ov_assign rfl rfl) ?_
              refine al_nil ?_
              refine aq_then ?_
              refine aw_ret ?_
              refine aq_then_ret ?_
              refine aq_block_ret ?_
              refine aq_then_ret ?_
              refine aq_then_ret ?_
              refine aq_block_ret ?_
              refine aq_then_ret ?_
              refine aq_nilR 84 tyS_api_Place ?_
              obtain rfl := Option.some.inj h
              exact fn_ret (Value.slice none 0 0) [0] [] rfl rfl rfl rfl (res2 rfl rfl rfl) rfl rfl rfl (by decide)
            · replace h := bif_f hb19 h
              refine aw_skip ?_
              refine aq_then ?_
              refine aw_seq ?_
              obtain ⟨hc20, h⟩ := req_some h
              obtain ⟨hc21, h⟩ := req_some h
              obtain ⟨hc24, h⟩ := req_some h
              obtain ⟨hc25, h⟩ := req_some h
              refine aw_region_open [⟨0, 37, Unit, fun _ => { val := (str l12s0) }⟩, ⟨1, 38, Unit, fun _ => { val := (str (l12s0.take ((8 : Int)).toNat)) }⟩, ⟨2, 39, Value, fun (i : Value) => { val := i, fz := [(fDat (tyList tyU8) [i] (l12s0.take ((8 : Int)).toNat))] }⟩, ⟨3, 40, Value, fun (i : Value) => { val := i, fz := [(fPtr tyA8u8 i (ofA8u8 (l12s0.take ((8 : Int)).toNat)))] }⟩, ⟨4, 41, Unit, fun _ => { val := (ag (cA8u8 (ofA8u8 (l12s0.take ((8 : Int)).toNat)))) }⟩, ⟨5, 42, Unit, fun _ => { val := (str l12s0) }⟩, ⟨6, 43, Unit, fun _ => { val := (Value.int .u8 (En.bAt l12s0 (8 : Int))) }⟩, ⟨7, 44, Unit, fun _ => { val := (Value.int .i64 (IntKind.i64.wrap (En.bAt l12s0 (8 : Int)))) }⟩, ⟨8, 45, Unit, fun _ => { val := (ag ((cA8u8 (ofA8u8 (l12s0.take ((8 : Int)).toNat))) ++ [(Value.int .i64 (IntKind.i64.wrap (En.bAt l12s0 (8 : Int)))), (Value.int .i64 (0 : Int)), (Value.int .i64 (0 : Int)), (Value.int .i64 (0 : Int))])) }⟩, ⟨9, 8, Nat, fun (i : Nat) => { val := (ptr i 0), own := [(oBox i 84 ((cA8u8 (A8u8.mk (0 : UInt8) (0 : UInt8) (0 : UInt8) (0 : UInt8) (0 : UInt8) (0 : UInt8) (0 : UInt8) (0 : UInt8))) ++ [(Value.int .i64 (0 : Int)), (Value.int .i64 (0 : Int)), (Value.int .i64 (0 : Int)), (Value.int .i64 (0 : Int))]))] }⟩] (tab [(0, (str l12s0)), (7, l12v7), (31, (Value.int .u64 r2.1)), (32, (Value.int .u64 l12i32))]) mixed (fun a hs => hs.tab _ (allT_mem ⟨rfl, rfl, rfl, rfl, trivial⟩)) ?_
              refine ta_show (m := (memOf w0 Z0 [] [(oRow l12v7 84 tyS_api_Place l12x7)] [])) (S := (tab [(0, (str l12s0)), (7, l12v7), (31, (Value.int .u64 r2.1)), (32, (Value.int .u64 l12i32))])) ?_
              refine ta_step 10 _ [0, 1, 2, 3, 4, 5, 6, 7, 8, 9] [37, 38, 39, 40, 41, 42, 43, 44, 45, 8] [0, 1, 2, 3, 4, 5, 6, 7, 8, 9] [] [⟨0, 37, Unit, fun _ => { val := (str l12s0) }⟩, ⟨1, 38, Unit, fun _ => { val := (str (l12s0.take ((8 : Int)).toNat)) }⟩, ⟨2, 39, Value, fun (i : Value) => { val := i, fz := [(fDat (tyList tyU8) [i] (l12s0.take ((8 : Int)).toNat))] }⟩, ⟨3, 40, Value, fun (i : Value) => { val := i, fz := [(fPtr tyA8u8 i (ofA8u8 (l12s0.take ((8 : Int)).toNat)))] }⟩, ⟨4, 41, Unit, fun _ => { val := (ag (cA8u8 (ofA8u8 (l12s0.take ((8 : Int)).toNat)))) }⟩, ⟨5, 42, Unit, fun _ => { val := (str l12s0) }⟩, ⟨6, 43, Unit, fun _ => { val := (Value.int .u8 (En.bAt l12s0 (8 : Int))) }⟩, ⟨7, 44, Unit, fun _ => { val := (Value.int .i64 (IntKind.i64.wrap (En.bAt l12s0 (8 : Int)))) }⟩, ⟨8, 45, Unit, fun _ => { val := (ag ((cA8u8 (ofA8u8 (l12s0.take ((8 : Int)).toNat))) ++ [(Value.int .i64 (IntKind.i64.wrap (En.bAt l12s0 (8 : Int)))), (Value.int .i64 (0 : Int)), (Value.int .i64 (0 : Int)), (Value.int .i64 (0 : Int))])) }⟩, ⟨9, 8, Nat, fun (i : Nat) => { val := (ptr i 0), own := [(oBox i 84 ((cA8u8 (A8u8.mk (0 : UInt8) (0 : UInt8) (0 : UInt8) (0 : UInt8) (0 : UInt8) (0 : UInt8) (0 : UInt8) (0 : UInt8))) ++ [(Value.int .i64 (0 : Int)), (Value.int .i64 (0 : Int)), (Value.int .i64 (0 : Int)), (Value.int .i64 (0 : Int))]))] }⟩] [] rfl rfl rfl (by kernel_rfl) rfl rfl rfl ⟨⟨_, rfl, [], rfl, by
    intro X_ Y_ F_ K_ hK_
    refine al_show (m := Mem.plus (memOf w0 Z0 [] [(oRow l12v7 84 tyS_api_Place l12x7)] []) X_ Y_) (S := over (tab [(0, (str l12s0)), (7, l12v7), (31, (Value.int .u64 r2.1)), (32, (Value.int .u64 l12i32))]) F_) ?_
    refine al_val (ov_move rfl rfl) ?_
    refine al_nil ?_
    exact fr_fin hK_ ()⟩, ⟨_, rfl, [0], rfl, by
    intro _
    intro X_ Y_ F_ K_ hK_
    refine al_show (m := Mem.plus (memOf w0 Z0 [] [(oRow l12v7 84 tyS_api_Place l12x7)] []) X_ Y_) (S := over (put (tab [(0, (str l12s0)), (7, l12v7), (31, (Value.int .u64 r2.1)), (32, (Value.int .u64 l12i32))]) 37 (str l12s0)) F_) ?_
    refine al_val (ov_strTo hc20.1 hc20.2 Tryd.underlying9 rfl rfl rfl) ?_
    refine al_nil ?_
    exact fr_fin hK_ ()⟩, ⟨_, rfl, [1], rfl, by
    intro _
    intro X_ Y_ F_ K_ hK_
    refine al_show (m := Mem.plus (memOf w0 Z0 [] [(oRow l12v7 84 tyS_api_Place l12x7)] []) X_ Y_) (S := over (put (tab [(0, (str l12s0)), (7, l12v7), (31, (Value.int .u64 r2.1)), (32, (Value.int .u64 l12i32))]) 38 (str (l12s0.take ((8 : Int)).toNat))) F_) ?_
    refine al_bytes hc21 rfl Tryd.underlying9 Tryd.underlying89 Tryd.underlying5 rfl (fun s22 => ?_)
    refine al_nil ?_
    exact fr_fin hK_ s22⟩, ⟨_, rfl, [2], rfl, by
    intro s22
    intro X_ Y_ F_ K_ hK_
    refine al_show (m := Mem.plus (memOf w0 Z0 [] [(oRow l12v7 84 tyS_api_Place l12x7)] [(fDat (tyList tyU8) [s22] (l12s0.take ((8 : Int)).toNat))]) X_ Y_) (S := over (put (tab [(0, (str l12s0)), (7, l12v7), (31, (Value.int .u64 r2.1)), (32, (Value.int .u64 l12i32))]) 39 s22) F_) ?_
    refine al_s2ap (τA := tyA8u8) (x := (ofA8u8 (l12s0.take ((8 : Int)).toNat))) 0 8 hc24 rfl (fun h9 => oflA8u8 hc24 h9) rfl rfl Tryd.underlying49 rfl (fun p23 => ?_)
    refine al_nil ?_
    exact fr_fin hK_ p23⟩, ⟨_, rfl, [3], rfl, by
    intro p23
    intro X_ Y_ F_ K_ hK_
    refine al_show (m := Mem.plus (memOf w0 Z0 [] [(oRow l12v7 84 tyS_api_Place l12x7)] [(fPtr tyA8u8 p23 (ofA8u8 (l12s0.take ((8 : Int)).toNat)))]) X_ Y_) (S := over (put (tab [(0, (str l12s0)), (7, l12v7), (31, (Value.int .u64 r2.1)), (32, (Value.int .u64 l12i32))]) 40 p23) F_) ?_
    refine al_val (ov_loadP (ds := (cA8u8 (ofA8u8 (l12s0.take ((8 : Int)).toNat)))) 0 rfl encA8u8 rfl Tryd.underlying49 sz49 rfl rfl rfl) ?_
    refine al_nil ?_
    exact fr_fin hK_ ()⟩, ⟨_, rfl, [], rfl, by
    intro X_ Y_ F_ K_ hK_
    refine al_show (m := Mem.plus (memOf w0 Z0 [] [(oRow l12v7 84 tyS_api_Place l12x7)] []) X_ Y_) (S := over (tab [(0, (str l12s0)), (7, l12v7), (31, (Value.int .u64 r2.1)), (32, (Value.int .u64 l12i32))]) F_) ?_
    refine al_val (ov_move rfl rfl) ?_
    refine al_nil ?_
    exact fr_fin hK_ ()⟩, ⟨_, rfl, [5], rfl, by
    intro _
    intro X_ Y_ F_ K_ hK_
    refine al_show (m := Mem.plus (memOf w0 Z0 [] [(oRow l12v7 84 tyS_api_Place l12x7)] []) X_ Y_) (S := over (put (tab [(0, (str l12s0)), (7, l12v7), (31, (Value.int .u64 r2.1)), (32, (Value.int .u64 l12i32))]) 42 (str l12s0)) F_) ?_
    refine al_val (ov_strIdx hc25.1 hc25.2 Tryd.underlying9 rfl rfl rfl) ?_
    refine al_nil ?_
    exact fr_fin hK_ ()⟩, ⟨_, rfl, [6], rfl, by
    intro _
    intro X_ Y_ F_ K_ hK_
    refine al_show (m := Mem.plus (memOf w0 Z0 [] [(oRow l12v7 84 tyS_api_Place l12x7)] []) X_ Y_) (S := over (put (tab [(0, (str l12s0)), (7, l12v7), (31, (Value.int .u64 r2.1)), (32, (Value.int .u64 l12i32))]) 43 (Value.int .u8 (En.bAt l12s0 (8 : Int)))) F_) ?_
    refine al_val (ov_convInt (by rw [Tryd.underlying5]; rfl) Tryd.underlying3 rfl rfl) ?_
    refine al_nil ?_
    exact fr_fin hK_ ()⟩, ⟨_, rfl, [4, 7], rfl, by
    intro _
    intro _
    intro X_ Y_ F_ K_ hK_
    refine al_show (m := Mem.plus (memOf w0 Z0 [] [(oRow l12v7 84 tyS_api_Place l12x7)] []) X_ Y_) (S := over (put (put (tab [(0, (str l12s0)), (7, l12v7), (31, (Value.int .u64 r2.1)), (32, (Value.int .u64 l12i32))]) 41 (ag (cA8u8 (ofA8u8 (l12s0.take ((8 : Int)).toNat))))) 44 (Value.int .i64 (IntKind.i64.wrap (En.bAt l12s0 (8 : Int))))) F_) ?_
    refine al_val (ov_build (cells := (((cA8u8 (ofA8u8 (l12s0.take ((8 : Int)).toNat))) ++ [(Value.int .i64 (IntKind.i64.wrap (En.bAt l12s0 (8 : Int)))), (Value.int .i64 (0 : Int)), (Value.int .i64 (0 : Int)), (Value.int .i64 (0 : Int))])).toArray) (cs := ((cA8u8 (ofA8u8 (l12s0.take ((8 : Int)).toNat))) ++ [(Value.int .i64 (IntKind.i64.wrap (En.bAt l12s0 (8 : Int)))), (Value.int .i64 (0 : Int)), (Value.int .i64 (0 : Int)), (Value.int .i64 (0 : Int))])) rfl (fun w a hm hs => by simp only [List.map_toArray, List.map_cons, List.map_nil, List.toList_toArray, hs.ev (x := .tmp 41) rfl, hs.ev (x := .tmp 44) rfl]; kernel_rfl)) ?_
    refine al_nil ?_
    exact fr_fin hK_ ()⟩, ⟨_, rfl, [], rfl, by
    intro X_ Y_ F_ K_ hK_
    refine al_show (m := Mem.plus (memOf w0 Z0 [] [(oRow l12v7 84 tyS_api_Place l12x7)] []) X_ Y_) (S := over (tab [(0, (str l12s0)), (7, l12v7), (31, (Value.int .u64 r2.1)), (32, (Value.int .u64 l12i32))]) F_) ?_
    refine al_alloc (zs := ((cA8u8 (A8u8.mk (0 : UInt8) (0 : UInt8) (0 : UInt8) (0 : UInt8) (0 : UInt8) (0 : UInt8) (0 : UInt8) (0 : UInt8))) ++ [(Value.int .i64 (0 : Int)), (Value.int .i64 (0 : Int)), (Value.int .i64 (0 : Int)), (Value.int .i64 (0 : Int))])) (zeroOf_to to84) rfl rfl (fun g26 => ?_)
    refine al_nil ?_
    exact fr_fin hK_ g26⟩, trivial⟩ ?_
              intro _
              intro _
              intro s22
              intro p23
              intro _
              intro _
              intro _
              intro _
              intro _
              intro g26
              intro X_ Y_ F_ K_ hK_
              refine al_show (m := Mem.plus (memOf w0 Z0 [] [(oBox g26 84 ((cA8u8 (A8u8.mk (0 : UInt8) (0 : UInt8) (0 : UInt8) (0 : UInt8) (0 : UInt8) (0 : UInt8) (0 : UInt8) (0 : UInt8))) ++ [(Value.int .i64 (0 : Int)), (Value.int .i64 (0 : Int)), (Value.int .i64 (0 : Int)), (Value.int .i64 (0 : Int))])), (oRow l12v7 84 tyS_api_Place l12x7)] [(fPtr tyA8u8 p23 (ofA8u8 (l12s0.take ((8 : Int)).toNat))), (fDat (tyList tyU8) [s22] (l12s0.take ((8 : Int)).toNat))]) X_ Y_) (S := over (put (put (put (put (put (put (put (put (put (put (tab [(0, (str l12s0)), (7, l12v7), (31, (Value.int .u64 r2.1)), (32, (Value.int .u64 l12i32))]) 37 (str l12s0)) 38 (str (l12s0.take ((8 : Int)).toNat))) 39 s22) 40 p23) 41 (ag (cA8u8 (ofA8u8 (l12s0.take ((8 : Int)).toNat))))) 42 (str l12s0)) 43 (Value.int .u8 (En.bAt l12s0 (8 : Int)))) 44 (Value.int .i64 (IntKind.i64.wrap (En.bAt l12s0 (8 : Int))))) 45 (ag ((cA8u8 (ofA8u8 (l12s0.take ((8 : Int)).toNat))) ++ [(Value.int .i64 (IntKind.i64.wrap (En.bAt l12s0 (8 : Int)))), (Value.int .i64 (0 : Int)), (Value.int .i64 (0 : Int)), (Value.int .i64 (0 : Int))]))) 8 (ptr g26 0)) F_) ?_
              refine al_store (i := 0) (vs := ((cA8u8 (ofA8u8 (l12s0.take ((8 : Int)).toNat))) ++ [(Value.int .i64 (IntKind.i64.wrap (En.bAt l12s0 (8 : Int)))), (Value.int .i64 (0 : Int)), (Value.int .i64 (0 : Int)), (Value.int .i64 (0 : Int))])) (cs' := ((cA8u8 (ofA8u8 (l12s0.take ((8 : Int)).toNat))) ++ [(Value.int .i64 (IntKind.i64.wrap (En.bAt l12s0 (8 : Int)))), (Value.int .i64 (0 : Int)), (Value.int .i64 (0 : Int)), (Value.int .i64 (0 : Int))])) rfl rfl rfl sz84 (cv_rfl rfl) rfl (co_app (oneA8u8 (ofA8u8 (l12s0.take ((8 : Int)).toNat))) (co_val rfl (co_val rfl (co_val rfl (co_val rfl co_nil))))) (Nat.le_of_ble_eq_true rfl) rfl rfl ?_
              refine al_nil ?_
              refine aq_show (m := Mem.plus (memOf w0 Z0 [] [(oBox g26 84 ((cA8u8 (ofA8u8 (l12s0.take ((8 : Int)).toNat))) ++ [(Value.int .i64 (IntKind.i64.wrap (En.bAt l12s0 (8 : Int)))), (Value.int .i64 (0 : Int)), (Value.int .i64 (0 : Int)), (Value.int .i64 (0 : Int))])), (oRow l12v7 84 tyS_api_Place l12x7)] [(fPtr tyA8u8 p23 (ofA8u8 (l12s0.take ((8 : Int)).toNat))), (fDat (tyList tyU8) [s22] (l12s0.take ((8 : Int)).toNat))]) X_ Y_) ?_
              refine aq_next hK_ [0, 1] [] [(0, (str l12s0)), (7, l12v7), (8, (ptr g26 0)), (31, (Value.int .u64 r2.1)), (32, (Value.int .u64 l12i32))] [] [] rfl rfl (by decide) rfl ⟨rfl, rfl, rfl, rfl, rfl, trivial⟩ trivial ?_
              clear hK_ K_ F_ X_ Y_
              refine ta_show (m := (memOf w0 Z0 [] [(oBox g26 84 ((cA8u8 (ofA8u8 (l12s0.take ((8 : Int)).toNat))) ++ [(Value.int .i64 (IntKind.i64.wrap (En.bAt l12s0 (8 : Int)))), (Value.int .i64 (0 : Int)), (Value.int .i64 (0 : Int)), (Value.int .i64 (0 : Int))])), (oRow l12v7 84 tyS_api_Place l12x7)] [])) (S := (tab [(0, (str l12s0)), (7, l12v7), (8, (ptr g26 0)), (31, (Value.int .u64 r2.1)), (32, (Value.int .u64 l12i32))])) ?_
              refine ta_end [] [] rfl rfl (by kernel_rfl) rfl trivial ?_
              refine aq_show (m := (memOf w0 Z0 [] [(oBox g26 84 ((cA8u8 (ofA8u8 (l12s0.take ((8 : Int)).toNat))) ++ [(Value.int .i64 (IntKind.i64.wrap (En.bAt l12s0 (8 : Int)))), (Value.int .i64 (0 : Int)), (Value.int .i64 (0 : Int)), (Value.int .i64 (0 : Int))])), (oRow l12v7 84 tyS_api_Place l12x7)] [])) (S := (tab [(0, (str l12s0)), (7, l12v7), (8, (ptr g26 0)), (31, (Value.int .u64 r2.1)), (32, (Value.int .u64 l12i32))])) ?_
              refine aq_then ?_
              refine aw_seq ?_
              refine aw_region ?_
              refine al_val (ov_move rfl rfl) ?_
              obtain ⟨hc27, h⟩ := req_some h
              refine al_val (ov_strFrom hc27.1 hc27.2 Tryd.underlying9 rfl rfl rfl) ?_
              refine al_val (ov_assign rfl rfl) ?_
              refine al_nil ?_
              refine aq_then ?_
              obtain ⟨kk29, hkk29, h⟩ := lt_some h
              refine aw_seq_join (ι := (List UInt8) × Int × Int × Int) (fun i => (memOf w0 Z0 [] [(oRow l12v7 84 tyS_api_Place l12x7), (oBox g26 84 ((cA8u8 (ofA8u8 (l12s0.take ((8 : Int)).toNat))) ++ [(Value.int .i64 (IntKind.i64.wrap (En.bAt l12s0 (8 : Int)))), (Value.int .i64 i.2.1), (Value.int .i64 i.2.2.1), (Value.int .i64 i.2.2.2)]))] [])) (fun i => (tab [(0, (str i.1)), (7, l12v7), (8, (ptr g26 0)), (31, (Value.int .u64 r2.1)), (32, (Value.int .u64 l12i32))])) (fun i => kk29 i.1 i.2.1 i.2.2.1 i.2.2.2 = some r) ?_ ?_
              · rintro ⟨j28s0, j28i8_2, j28i8_3, j28i8_4⟩ h
                have h : kk29 j28s0 j28i8_2 j28i8_3 j28i8_4 = some r := h
                rw [hkk29] at h
                dsimp only at h
                clear hkk29
                refine aw_show (m := (memOf w0 Z0 [] [(oRow l12v7 84 tyS_api_Place l12x7), (oBox g26 84 ((cA8u8 (ofA8u8 (l12s0.take ((8 : Int)).toNat))) ++ [(Value.int .i64 (IntKind.i64.wrap (En.bAt l12s0 (8 : Int)))), (Value.int .i64 j28i8_2), (Value.int .i64 j28i8_3), (Value.int .i64 j28i8_4)]))] [])) (S := (tab [(0, (str j28s0)), (7, l12v7), (8, (ptr g26 0)), (31, (Value.int .u64 r2.1)), (32, (Value.int .u64 l12i32))])) ?_
                refine aw_region ?_
                refine al_val (ov_move rfl rfl) ?_
                refine al_val (ov_load (i := 1) (v := (ag ((cA8u8 (ofA8u8 (l12s0.take ((8 : Int)).toNat))) ++ [(Value.int .i64 (IntKind.i64.wrap (En.bAt l12s0 (8 : Int)))), (Value.int .i64 j28i8_2), (Value.int .i64 j28i8_3), (Value.int .i64 j28i8_4)]))) rfl rfl Tryd.underlying84 sz84 rfl rfl rfl rfl) ?_
                refine al_buildSlice (τ := tyS_api_Place) (e := 84) (k := 1) (sz := 0) (by_ := 0) (z := undef) (cs := ((cA8u8 (ofA8u8 (l12s0.take ((8 : Int)).toNat))) ++ [(Value.int .i64 (IntKind.i64.wrap (En.bAt l12s0 (8 : Int)))), (Value.int .i64 j28i8_2), (Value.int .i64 j28i8_3), (Value.int .i64 j28i8_4)])) (xs := [(S_api_Place.mk (ofA8u8 (l12s0.take ((8 : Int)).toNat)) (IntKind.i64.wrap (En.bAt l12s0 (8 : Int))) j28i8_2 j28i8_3 j28i8_4)]) rfl (by decide) (fun w a hm hs => ⟨(((cA8u8 (ofA8u8 (l12s0.take ((8 : Int)).toNat))) ++ [(Value.int .i64 (IntKind.i64.wrap (En.bAt l12s0 (8 : Int)))), (Value.int .i64 j28i8_2), (Value.int .i64 j28i8_3), (Value.int .i64 j28i8_4)])).toArray, rfl, by simp only [List.map_toArray, List.map_cons, List.map_nil, hs.ev (x := .tmp 79) rfl]; exact run_bs [(ag ((cA8u8 (ofA8u8 (l12s0.take ((8 : Int)).toNat))) ++ [(Value.int .i64 (IntKind.i64.wrap (En.bAt l12s0 (8 : Int)))), (Value.int .i64 j28i8_2), (Value.int .i64 j28i8_3), (Value.int .i64 j28i8_4)]))] ((cA8u8 (ofA8u8 (l12s0.take ((8 : Int)).toNat))) ++ [(Value.int .i64 (IntKind.i64.wrap (En.bAt l12s0 (8 : Int)))), (Value.int .i64 j28i8_2), (Value.int .i64 j28i8_3), (Value.int .i64 j28i8_4)]) Tryd.underlying76 to84 rfl rfl (bs_cons (l := ((cA8u8 (ofA8u8 (l12s0.take ((8 : Int)).toNat))) ++ [(Value.int .i64 (IntKind.i64.wrap (En.bAt l12s0 (8 : Int)))), (Value.int .i64 j28i8_2), (Value.int .i64 j28i8_3), (Value.int .i64 j28i8_4)])) (cs := []) (cv_rfl rfl) rfl bs_nil) hm⟩) (fun hm => ⟨((cA8u8 (ofA8u8 (l12s0.take ((8 : Int)).toNat))) ++ [(Value.int .i64 (IntKind.i64.wrap (En.bAt l12s0 (8 : Int)))), (Value.int .i64 j28i8_2), (Value.int .i64 j28i8_3), (Value.int .i64 j28i8_4)]), [], rfl, mkS_api_Place rfl, rfl⟩) rfl (fun v30 => ?_)
                obtain ⟨hc31, h⟩ := req_some h
                refine al_append 1 hc31.1 hc31.2 rfl (src_own (i := 1) 0 rfl) rfl rfl Tryd.underlying76 to84 rfl rfl rfl (fun v32 => ?_)
                refine al_val (ov_assign rfl rfl) ?_
                refine al_nil ?_
                refine aq_block ?_
                exact aq_join (j28s0, v32, (l12x7 ++ ([(S_api_Place.mk (ofA8u8 (l12s0.take ((8 : Int)).toNat)) (IntKind.i64.wrap (En.bAt l12s0 (8 : Int))) j28i8_2 j28i8_3 j28i8_4)]))) h (fun w a hm hs => norm hm hs [1] [] [(0, (str j28s0)), (7, v32), (31, (Value.int .u64 r2.1)), (32, (Value.int .u64 l12i32))] (by decide) ⟨rfl, rfl, rfl, rfl, trivial⟩)
              · clear hkk29
                refine aw_seq ?_
                refine aw_region ?_
                refine al_val (ov_fieldA (p := 9) rfl Tryd.underlying84 rfl sz3 rfl rfl rfl) ?_
                refine al_val (ov_fieldA (p := 10) rfl Tryd.underlying84 rfl sz3 rfl rfl rfl) ?_
                refine al_val (ov_fieldA (p := 11) rfl Tryd.underlying84 rfl sz3 rfl rfl rfl) ?_
                refine al_buildBox (e := 124) (k := 3) (cs := [(ptr g26 9), (ptr g26 10), (ptr g26 11)]) (fun w a hm hs => ⟨([(ptr g26 9), (ptr g26 10), (ptr g26 11)]).toArray, rfl, by simp only [List.map_toArray, List.map_cons, List.map_nil, hs.ev (x := .tmp 48) rfl, hs.ev (x := .tmp 49) rfl, hs.ev (x := .tmp 50) rfl]; exact run_bs [(ptr g26 9), (ptr g26 10), (ptr g26 11)] [(ptr g26 9), (ptr g26 10), (ptr g26 11)] Tryd.underlying125 to124 rfl rfl (bs_cons (l := [(ptr g26 9)]) (cs := [(ptr g26 10), (ptr g26 11)]) (cv_rfl rfl) rfl (bs_cons (l := [(ptr g26 10)]) (cs := [(ptr g26 11)]) (cv_rfl rfl) rfl (bs_cons (l := [(ptr g26 11)]) (cs := []) (cv_rfl rfl) rfl bs_nil))) hm⟩) rfl (fun g33 => ?_)
                refine al_val (v := (Value.int .i64 (3 : Int))) (ov_lenSbx rfl Tryd.underlying125 rfl) ?_
                refine al_val (ov_move rfl rfl) ?_
                refine al_nil ?_
                refine aq_then ?_
                refine aw_block ?_
                refine aw_rounds 9 ?_
                refine aw_seq ?_
                refine aw_region ?_
                refine al_val (v := (Value.bool true)) (ov_int rfl rfl rfl rfl) ?_
                refine al_nil ?_
                refine aq_then ?_
                refine aw_seq ?_
                refine aw_cond_t rfl ?_
                refine aw_skip ?_
                refine aq_then ?_
                refine aw_seq ?_
                refine aw_block ?_
                refine aw_seq ?_
                refine aw_region ?_
                refine al_val (ov_idxSbx (k := 0) (by decide) (by decide) rfl rfl Tryd.underlying125 sz124 rfl rfl) ?_
                refine al_val (ov_load (i := 0) (v := (ptr g26 9)) rfl rfl Tryd.underlying124 sz124 rfl rfl rfl rfl) ?_
                refine al_val (ov_assign rfl rfl) ?_
                refine al_nil ?_
                refine aq_then ?_
                refine aw_seq ?_
                refine aw_region ?_
                refine al_val (ov_move rfl rfl) ?_
                obtain ⟨r35, hc34, h⟩ := opt_some h
                refine al_call (vs := [(str (l12s0.drop ((9 : Int)).toNat))]) (f_num_Get_ok fu (l12s0.drop ((9 : Int)).toNat) hc34) [] [] [0, 1, 2] pre_nil rfl (by simp) (by decide) (.inl rfl) rfl Tryd.func58 rfl rfl rfl (fun _ => ?_)
                refine al_val (ov_move rfl rfl) ?_
                refine al_val (ov_extract rfl rfl rfl) ?_
                refine al_val (ov_extract rfl rfl rfl) ?_
                refine al_val (ov_extract rfl rfl rfl) ?_
                refine al_val (ov_assign rfl rfl) ?_
                refine al_val (ov_assign rfl rfl) ?_
                refine al_val (ov_assign rfl rfl) ?_
                refine al_nil ?_
                refine aq_then ?_
                refine aw_seq ?_
                refine aw_block ?_
                refine aw_seq ?_
                refine aw_region ?_
                refine al_val (ov_move rfl rfl) ?_
                refine al_val (ov_int rfl rfl rfl rfl) ?_
                refine al_val (ov_assign rfl rfl) ?_
                refine al_nil ?_
                refine aq_then ?_
                refine aw_cond rfl (fun hb36 => ?_) (fun hb36 => ?_)
                · replace h := bif_t hb36 h
                  refine aw_seq ?_
                  refine aw_region ?_
                  refine al_val (ov_move rfl rfl) ?_
                  refine al_val (ov_assign rfl rfl) ?_
                  refine al_val (ov_assign rfl rfl) ?_
                  refine al_nil ?_
                  refine aq_then ?_
                  refine aw_ret ?_
                  refine aq_block_ret ?_
                  refine aq_then_ret ?_
                  refine aq_block_ret ?_
                  refine aq_then_ret ?_
                  refine aq_then_ret ?_
                  refine aq_block_ret ?_
                  refine aq_then_ret ?_
                  refine aq_block_ret ?_
                  refine aq_then_ret ?_
                  refine aq_then_ret ?_
                  refine aq_block_ret ?_
                  refine aq_then_ret ?_
                  refine aq_nilR 84 tyS_api_Place ?_
                  obtain rfl := Option.some.inj h
                  exact fn_ret (Value.slice none 0 0) [0] [] rfl rfl rfl rfl (res2 rfl rfl rfl) rfl rfl rfl (by decide)
                · replace h := bif_f hb36 h
                  refine aw_seq ?_
                  refine aw_region ?_
                  refine al_val (ov_move rfl rfl) ?_
                  refine al_val (ov_int rfl rfl rfl rfl) ?_
                  refine al_val (ov_assign rfl rfl) ?_
                  refine al_nil ?_
                  refine aq_then ?_
                  refine aw_cond rfl (fun hb37 => ?_) (fun hb37 => ?_)
                  · replace h := bif_t hb37 h
                    refine aw_seq ?_
                    refine aw_region ?_
                    refine al_val (ov_assign rfl rfl) ?_
                    refine al_val (ov_assign rfl rfl) ?_
                    refine al_nil ?_
                    refine aq_then ?_
                    refine aw_ret ?_
                    refine aq_block_ret ?_
                    refine aq_then_ret ?_
                    refine aq_block_ret ?_
                    refine aq_then_ret ?_
                    refine aq_then_ret ?_
                    refine aq_block_ret ?_
                    refine aq_then_ret ?_
                    refine aq_block_ret ?_
                    refine aq_then_ret ?_
                    refine aq_then_ret ?_
                    refine aq_block_ret ?_
                    refine aq_then_ret ?_
                    refine aq_nilR 84 tyS_api_Place ?_
                    obtain rfl := Option.some.inj h
                    exact fn_ret (Value.slice none 0 0) [0] [] rfl rfl rfl rfl (res2 rfl rfl rfl) rfl rfl rfl (by decide)
                  · replace h := bif_f hb37 h
                    refine aw_skip ?_
                    refine aq_block ?_
                    refine aq_then ?_
                    obtain ⟨hc38, h⟩ := req_some h
                    refine aw_region_open [⟨0, 70, Unit, fun _ => { val := (ptr g26 9) }⟩, ⟨1, 71, Unit, fun _ => { val := (Value.int .u64 r35.1) }⟩, ⟨2, 72, Unit, fun _ => { val := (Value.int .i64 (IntKind.i64.wrap r35.1)) }⟩, ⟨3, 73, Unit, fun _ => { val := (str (l12s0.drop ((9 : Int)).toNat)) }⟩, ⟨4, 74, Unit, fun _ => { val := (Value.int .i64 r35.2.1) }⟩, ⟨5, 75, Unit, fun _ => { val := (str ((l12s0.drop ((9 : Int)).toNat).drop (r35.2.1).toNat)) }⟩, ⟨6, 76, Unit, fun _ => { val := (ptr g26 9) }⟩] (tab [(0, (str (l12s0.drop ((9 : Int)).toNat))), (7, l12v7), (8, (ptr g26 0)), (10, (ptr g26 9)), (11, (Value.int .u64 r35.1)), (12, (Value.int .i64 r35.2.1)), (31, (Value.int .u64 r2.1)), (32, (Value.int .u64 l12i32)), (51, (sbx g33 0 3)), (52, (Value.int .i64 (3 : Int))), (53, (Value.int .i64 (0 : Int)))]) mixed (fun a hs => hs.tab _ (allT_mem ⟨rfl, rfl, rfl, rfl, rfl, rfl, rfl, rfl, rfl, rfl, rfl, trivial⟩)) ?_
                    refine ta_show (m := (memOf w0 Z0 [] [(oBox g33 124 [(ptr g26 9), (ptr g26 10), (ptr g26 11)]), (oBox g26 84 ((cA8u8 (ofA8u8 (l12s0.take ((8 : Int)).toNat))) ++ [(Value.int .i64 (IntKind.i64.wrap (En.bAt l12s0 (8 : Int)))), (Value.int .i64 (0 : Int)), (Value.int .i64 (0 : Int)), (Value.int .i64 (0 : Int))])), (oRow l12v7 84 tyS_api_Place l12x7)] [])) (S := (tab [(0, (str (l12s0.drop ((9 : Int)).toNat))), (7, l12v7), (8, (ptr g26 0)), (10, (ptr g26 9)), (11, (Value.int .u64 r35.1)), (12, (Value.int .i64 r35.2.1)), (31, (Value.int .u64 r2.1)), (32, (Value.int .u64 l12i32)), (51, (sbx g33 0 3)), (52, (Value.int .i64 (3 : Int))), (53, (Value.int .i64 (0 : Int)))])) ?_
                    refine ta_step 7 _ [0, 1, 2, 3, 4, 5, 6] [70, 71, 72, 73, 74, 75, 76] [0, 1, 2, 6] [] [⟨0, 70, Unit, fun _ => { val := (ptr g26 9) }⟩, ⟨1, 71, Unit, fun _ => { val := (Value.int .u64 r35.1) }⟩, ⟨2, 72, Unit, fun _ => { val := (Value.int .i64 (IntKind.i64.wrap r35.1)) }⟩, ⟨6, 76, Unit, fun _ => { val := (ptr g26 9) }⟩] [⟨3, 73, Unit, fun _ => { val := (str (l12s0.drop ((9 : Int)).toNat)) }⟩, ⟨4, 74, Unit, fun _ => { val := (Value.int .i64 r35.2.1) }⟩, ⟨5, 75, Unit, fun _ => { val := (str ((l12s0.drop ((9 : Int)).toNat).drop (r35.2.1).toNat)) }⟩] rfl rfl rfl (by kernel_rfl) rfl rfl rfl ⟨⟨_, rfl, [], rfl, by
    intro X_ Y_ F_ K_ hK_
    refine al_show (m := Mem.plus (memOf w0 Z0 [] [(oBox g33 124 [(ptr g26 9), (ptr g26 10), (ptr g26 11)]), (oBox g26 84 ((cA8u8 (ofA8u8 (l12s0.take ((8 : Int)).toNat))) ++ [(Value.int .i64 (IntKind.i64.wrap (En.bAt l12s0 (8 : Int)))), (Value.int .i64 (0 : Int)), (Value.int .i64 (0 : Int)), (Value.int .i64 (0 : Int))])), (oRow l12v7 84 tyS_api_Place l12x7)] []) X_ Y_) (S := over (tab [(0, (str (l12s0.drop ((9 : Int)).toNat))), (7, l12v7), (8, (ptr g26 0)), (10, (ptr g26 9)), (11, (Value.int .u64 r35.1)), (12, (Value.int .i64 r35.2.1)), (31, (Value.int .u64 r2.1)), (32, (Value.int .u64 l12i32)), (51, (sbx g33 0 3)), (52, (Value.int .i64 (3 : Int))), (53, (Value.int .i64 (0 : Int)))]) F_) ?_
    refine al_val (ov_move rfl rfl) ?_
    refine al_nil ?_
    exact fr_fin hK_ ()⟩, ⟨_, rfl, [], rfl, by
    intro X_ Y_ F_ K_ hK_
    refine al_show (m := Mem.plus (memOf w0 Z0 [] [(oBox g33 124 [(ptr g26 9), (ptr g26 10), (ptr g26 11)]), (oBox g26 84 ((cA8u8 (ofA8u8 (l12s0.take ((8 : Int)).toNat))) ++ [(Value.int .i64 (IntKind.i64.wrap (En.bAt l12s0 (8 : Int)))), (Value.int .i64 (0 : Int)), (Value.int .i64 (0 : Int)), (Value.int .i64 (0 : Int))])), (oRow l12v7 84 tyS_api_Place l12x7)] []) X_ Y_) (S := over (tab [(0, (str (l12s0.drop ((9 : Int)).toNat))), (7, l12v7), (8, (ptr g26 0)), (10, (ptr g26 9)), (11, (Value.int .u64 r35.1)), (12, (Value.int .i64 r35.2.1)), (31, (Value.int .u64 r2.1)), (32, (Value.int .u64 l12i32)), (51, (sbx g33 0 3)), (52, (Value.int .i64 (3 : Int))), (53, (Value.int .i64 (0 : Int)))]) F_) ?_
    refine al_val (ov_move rfl rfl) ?_
    refine al_nil ?_
    exact fr_fin hK_ ()⟩, ⟨_, rfl, [1], rfl, by
    intro _
    intro X_ Y_ F_ K_ hK_
    refine al_show (m := Mem.plus (memOf w0 Z0 [] [(oBox g33 124 [(ptr g26 9), (ptr g26 10), (ptr g26 11)]), (oBox g26 84 ((cA8u8 (ofA8u8 (l12s0.take ((8 : Int)).toNat))) ++ [(Value.int .i64 (IntKind.i64.wrap (En.bAt l12s0 (8 : Int)))), (Value.int .i64 (0 : Int)), (Value.int .i64 (0 : Int)), (Value.int .i64 (0 : Int))])), (oRow l12v7 84 tyS_api_Place l12x7)] []) X_ Y_) (S := over (put (tab [(0, (str (l12s0.drop ((9 : Int)).toNat))), (7, l12v7), (8, (ptr g26 0)), (10, (ptr g26 9)), (11, (Value.int .u64 r35.1)), (12, (Value.int .i64 r35.2.1)), (31, (Value.int .u64 r2.1)), (32, (Value.int .u64 l12i32)), (51, (sbx g33 0 3)), (52, (Value.int .i64 (3 : Int))), (53, (Value.int .i64 (0 : Int)))]) 71 (Value.int .u64 r35.1)) F_) ?_
    refine al_val (ov_convInt (by rw [Tryd.underlying87]; rfl) Tryd.underlying3 rfl rfl) ?_
    refine al_nil ?_
    exact fr_fin hK_ ()⟩, ⟨_, rfl, [], rfl, by
    intro X_ Y_ F_ K_ hK_
    refine al_show (m := Mem.plus (memOf w0 Z0 [] [(oBox g33 124 [(ptr g26 9), (ptr g26 10), (ptr g26 11)]), (oBox g26 84 ((cA8u8 (ofA8u8 (l12s0.take ((8 : Int)).toNat))) ++ [(Value.int .i64 (IntKind.i64.wrap (En.bAt l12s0 (8 : Int)))), (Value.int .i64 (0 : Int)), (Value.int .i64 (0 : Int)), (Value.int .i64 (0 : Int))])), (oRow l12v7 84 tyS_api_Place l12x7)] []) X_ Y_) (S := over (tab [(0, (str (l12s0.drop ((9 : Int)).toNat))), (7, l12v7), (8, (ptr g26 0)), (10, (ptr g26 9)), (11, (Value.int .u64 r35.1)), (12, (Value.int .i64 r35.2.1)), (31, (Value.int .u64 r2.1)), (32, (Value.int .u64 l12i32)), (51, (sbx g33 0 3)), (52, (Value.int .i64 (3 : Int))), (53, (Value.int .i64 (0 : Int)))]) F_) ?_
    refine al_val (ov_move rfl rfl) ?_
    refine al_nil ?_
    exact fr_fin hK_ ()⟩, ⟨_, rfl, [], rfl, by
    intro X_ Y_ F_ K_ hK_
    refine al_show (m := Mem.plus (memOf w0 Z0 [] [(oBox g33 124 [(ptr g26 9), (ptr g26 10), (ptr g26 11)]), (oBox g26 84 ((cA8u8 (ofA8u8 (l12s0.take ((8 : Int)).toNat))) ++ [(Value.int .i64 (IntKind.i64.wrap (En.bAt l12s0 (8 : Int)))), (Value.int .i64 (0 : Int)), (Value.int .i64 (0 : Int)), (Value.int .i64 (0 : Int))])), (oRow l12v7 84 tyS_api_Place l12x7)] []) X_ Y_) (S := over (tab [(0, (str (l12s0.drop ((9 : Int)).toNat))), (7, l12v7), (8, (ptr g26 0)), (10, (ptr g26 9)), (11, (Value.int .u64 r35.1)), (12, (Value.int .i64 r35.2.1)), (31, (Value.int .u64 r2.1)), (32, (Value.int .u64 l12i32)), (51, (sbx g33 0 3)), (52, (Value.int .i64 (3 : Int))), (53, (Value.int .i64 (0 : Int)))]) F_) ?_
    refine al_val (ov_move rfl rfl) ?_
    refine al_nil ?_
    exact fr_fin hK_ ()⟩, ⟨_, rfl, [3, 4], rfl, by
    intro _
    intro _
    intro X_ Y_ F_ K_ hK_
    refine al_show (m := Mem.plus (memOf w0 Z0 [] [(oBox g33 124 [(ptr g26 9), (ptr g26 10), (ptr g26 11)]), (oBox g26 84 ((cA8u8 (ofA8u8 (l12s0.take ((8 : Int)).toNat))) ++ [(Value.int .i64 (IntKind.i64.wrap (En.bAt l12s0 (8 : Int)))), (Value.int .i64 (0 : Int)), (Value.int .i64 (0 : Int)), (Value.int .i64 (0 : Int))])), (oRow l12v7 84 tyS_api_Place l12x7)] []) X_ Y_) (S := over (put (put (tab [(0, (str (l12s0.drop ((9 : Int)).toNat))), (7, l12v7), (8, (ptr g26 0)), (10, (ptr g26 9)), (11, (Value.int .u64 r35.1)), (12, (Value.int .i64 r35.2.1)), (31, (Value.int .u64 r2.1)), (32, (Value.int .u64 l12i32)), (51, (sbx g33 0 3)), (52, (Value.int .i64 (3 : Int))), (53, (Value.int .i64 (0 : Int)))]) 73 (str (l12s0.drop ((9 : Int)).toNat))) 74 (Value.int .i64 r35.2.1)) F_) ?_
    refine al_val (ov_strFrom hc38.1 hc38.2 Tryd.underlying9 rfl rfl rfl) ?_
    refine al_nil ?_
    exact fr_fin hK_ ()⟩, ⟨_, rfl, [0, 1, 2], rfl, by
    intro _
    intro _
    intro _
    intro X_ Y_ F_ K_ hK_
    refine al_show (m := Mem.plus (memOf w0 Z0 [] [(oBox g33 124 [(ptr g26 9), (ptr g26 10), (ptr g26 11)]), (oBox g26 84 ((cA8u8 (ofA8u8 (l12s0.take ((8 : Int)).toNat))) ++ [(Value.int .i64 (IntKind.i64.wrap (En.bAt l12s0 (8 : Int)))), (Value.int .i64 (0 : Int)), (Value.int .i64 (0 : Int)), (Value.int .i64 (0 : Int))])), (oRow l12v7 84 tyS_api_Place l12x7)] []) X_ Y_) (S := over (put (put (put (tab [(0, (str (l12s0.drop ((9 : Int)).toNat))), (7, l12v7), (8, (ptr g26 0)), (10, (ptr g26 9)), (11, (Value.int .u64 r35.1)), (12, (Value.int .i64 r35.2.1)), (31, (Value.int .u64 r2.1)), (32, (Value.int .u64 l12i32)), (51, (sbx g33 0 3)), (52, (Value.int .i64 (3 : Int))), (53, (Value.int .i64 (0 : Int)))]) 70 (ptr g26 9)) 71 (Value.int .u64 r35.1)) 72 (Value.int .i64 (IntKind.i64.wrap r35.1))) F_) ?_
    refine al_val (ov_nilCheck rfl rfl) ?_
    refine al_nil ?_
    exact fr_fin hK_ ()⟩, trivial⟩ ?_
                    intro _
                    intro _
                    intro _
                    intro _
                    intro X_ Y_ F_ K_ hK_
                    refine al_show (m := Mem.plus (memOf w0 Z0 [] [(oBox g33 124 [(ptr g26 9), (ptr g26 10), (ptr g26 11)]), (oBox g26 84 ((cA8u8 (ofA8u8 (l12s0.take ((8 : Int)).toNat))) ++ [(Value.int .i64 (IntKind.i64.wrap (En.bAt l12s0 (8 : Int)))), (Value.int .i64 (0 : Int)), (Value.int .i64 (0 : Int)), (Value.int .i64 (0 : Int))])), (oRow l12v7 84 tyS_api_Place l12x7)] []) X_ Y_) (S := over (put (put (put (put (tab [(0, (str (l12s0.drop ((9 : Int)).toNat))), (7, l12v7), (8, (ptr g26 0)), (10, (ptr g26 9)), (11, (Value.int .u64 r35.1)), (12, (Value.int .i64 r35.2.1)), (31, (Value.int .u64 r2.1)), (32, (Value.int .u64 l12i32)), (51, (sbx g33 0 3)), (52, (Value.int .i64 (3 : Int))), (53, (Value.int .i64 (0 : Int)))]) 70 (ptr g26 9)) 71 (Value.int .u64 r35.1)) 72 (Value.int .i64 (IntKind.i64.wrap r35.1))) 76 (ptr g26 9)) F_) ?_
                    refine al_store (i := 1) (vs := [(Value.int .i64 (IntKind.i64.wrap r35.1))]) (cs' := ((cA8u8 (ofA8u8 (l12s0.take ((8 : Int)).toNat))) ++ [(Value.int .i64 (IntKind.i64.wrap (En.bAt l12s0 (8 : Int)))), (Value.int .i64 (IntKind.i64.wrap r35.1)), (Value.int .i64 (0 : Int)), (Value.int .i64 (0 : Int))])) rfl rfl rfl sz3 (cv_rfl rfl) rfl (co_val rfl co_nil) (Nat.le_of_ble_eq_true rfl) rfl rfl ?_
                    refine al_nil ?_
                    refine aq_show (m := Mem.plus (memOf w0 Z0 [] [(oBox g33 124 [(ptr g26 9), (ptr g26 10), (ptr g26 11)]), (oBox g26 84 ((cA8u8 (ofA8u8 (l12s0.take ((8 : Int)).toNat))) ++ [(Value.int .i64 (IntKind.i64.wrap (En.bAt l12s0 (8 : Int)))), (Value.int .i64 (IntKind.i64.wrap r35.1)), (Value.int .i64 (0 : Int)), (Value.int .i64 (0 : Int))])), (oRow l12v7 84 tyS_api_Place l12x7)] []) X_ Y_) ?_
                    refine aq_next hK_ [0, 1, 2] [] [(0, (str (l12s0.drop ((9 : Int)).toNat))), (7, l12v7), (8, (ptr g26 0)), (12, (Value.int .i64 r35.2.1)), (31, (Value.int .u64 r2.1)), (32, (Value.int .u64 l12i32)), (51, (sbx g33 0 3)), (52, (Value.int .i64 (3 : Int))), (53, (Value.int .i64 (0 : Int)))] [73, 74, 75] [] rfl rfl (by decide) rfl ⟨rfl, rfl, rfl, rfl, rfl, rfl, rfl, rfl, rfl, trivial⟩ ⟨rfl, rfl, rfl, trivial⟩ ?_
                    clear hK_ K_ F_ X_ Y_
                    refine ta_show (m := (memOf w0 Z0 [] [(oBox g33 124 [(ptr g26 9), (ptr g26 10), (ptr g26 11)]), (oBox g26 84 ((cA8u8 (ofA8u8 (l12s0.take ((8 : Int)).toNat))) ++ [(Value.int .i64 (IntKind.i64.wrap (En.bAt l12s0 (8 : Int)))), (Value.int .i64 (IntKind.i64.wrap r35.1)), (Value.int .i64 (0 : Int)), (Value.int .i64 (0 : Int))])), (oRow l12v7 84 tyS_api_Place l12x7)] [])) (S := (tab [(0, (str (l12s0.drop ((9 : Int)).toNat))), (7, l12v7), (8, (ptr g26 0)), (12, (Value.int .i64 r35.2.1)), (31, (Value.int .u64 r2.1)), (32, (Value.int .u64 l12i32)), (51, (sbx g33 0 3)), (52, (Value.int .i64 (3 : Int))), (53, (Value.int .i64 (0 : Int)))])) ?_
                    refine ta_step 8 _ [3, 4, 5] [73, 74, 75] [3, 4, 5] [] [⟨3, 73, Unit, fun _ => { val := (str (l12s0.drop ((9 : Int)).toNat)) }⟩, ⟨4, 74, Unit, fun _ => { val := (Value.int .i64 r35.2.1) }⟩, ⟨5, 75, Unit, fun _ => { val := (str ((l12s0.drop ((9 : Int)).toNat).drop (r35.2.1).toNat)) }⟩] [] rfl rfl rfl (by kernel_rfl) rfl rfl rfl ⟨⟨_, rfl, [], rfl, by
    intro X_ Y_ F_ K_ hK_
    refine al_show (m := Mem.plus (memOf w0 Z0 [] [(oBox g33 124 [(ptr g26 9), (ptr g26 10), (ptr g26 11)]), (oBox g26 84 ((cA8u8 (ofA8u8 (l12s0.take ((8 : Int)).toNat))) ++ [(Value.int .i64 (IntKind.i64.wrap (En.bAt l12s0 (8 : Int)))), (Value.int .i64 (IntKind.i64.wrap r35.1)), (Value.int .i64 (0 : Int)), (Value.int .i64 (0 : Int))])), (oRow l12v7 84 tyS_api_Place l12x7)] []) X_ Y_) (S := over (tab [(0, (str (l12s0.drop ((9 : Int)).toNat))), (7, l12v7), (8, (ptr g26 0)), (12, (Value.int .i64 r35.2.1)), (31, (Value.int .u64 r2.1)), (32, (Value.int .u64 l12i32)), (51, (sbx g33 0 3)), (52, (Value.int .i64 (3 : Int))), (53, (Value.int .i64 (0 : Int)))]) F_) ?_
    refine al_val (ov_move rfl rfl) ?_
    refine al_nil ?_
    exact fr_fin hK_ ()⟩, ⟨_, rfl, [], rfl, by
    intro X_ Y_ F_ K_ hK_
    refine al_show (m := Mem.plus (memOf w0 Z0 [] [(oBox g33 124 [(ptr g26 9), (ptr g26 10), (ptr g26 11)]), (oBox g26 84 ((cA8u8 (ofA8u8 (l12s0.take ((8 : Int)).toNat))) ++ [(Value.int .i64 (IntKind.i64.wrap (En.bAt l12s0 (8 : Int)))), (Value.int .i64 (IntKind.i64.wrap r35.1)), (Value.int .i64 (0 : Int)), (Value.int .i64 (0 : Int))])), (oRow l12v7 84 tyS_api_Place l12x7)] []) X_ Y_) (S := over (tab [(0, (str (l12s0.drop ((9 : Int)).toNat))), (7, l12v7), (8, (ptr g26 0)), (12, (Value.int .i64 r35.2.1)), (31, (Value.int .u64 r2.1)), (32, (Value.int .u64 l12i32)), (51, (sbx g33 0 3)), (52, (Value.int .i64 (3 : Int))), (53, (Value.int .i64 (0 : Int)))]) F_) ?_
    refine al_val (ov_move rfl rfl) ?_
    refine al_nil ?_
    exact fr_fin hK_ ()⟩, ⟨_, rfl, [0, 1], rfl, by
    intro _
    intro _
    intro X_ Y_ F_ K_ hK_
    refine al_show (m := Mem.plus (memOf w0 Z0 [] [(oBox g33 124 [(ptr g26 9), (ptr g26 10), (ptr g26 11)]), (oBox g26 84 ((cA8u8 (ofA8u8 (l12s0.take ((8 : Int)).toNat))) ++ [(Value.int .i64 (IntKind.i64.wrap (En.bAt l12s0 (8 : Int)))), (Value.int .i64 (IntKind.i64.wrap r35.1)), (Value.int .i64 (0 : Int)), (Value.int .i64 (0 : Int))])), (oRow l12v7 84 tyS_api_Place l12x7)] []) X_ Y_) (S := over (put (put (tab [(0, (str (l12s0.drop ((9 : Int)).toNat))), (7, l12v7), (8, (ptr g26 0)), (12, (Value.int .i64 r35.2.1)), (31, (Value.int .u64 r2.1)), (32, (Value.int .u64 l12i32)), (51, (sbx g33 0 3)), (52, (Value.int .i64 (3 : Int))), (53, (Value.int .i64 (0 : Int)))]) 73 (str (l12s0.drop ((9 : Int)).toNat))) 74 (Value.int .i64 r35.2.1)) F_) ?_
    refine al_val (ov_strFrom hc38.1 hc38.2 Tryd.underlying9 rfl rfl rfl) ?_
    refine al_nil ?_
    exact fr_fin hK_ ()⟩, trivial⟩ ?_
                    intro _
                    intro _
                    intro _
                    intro X_ Y_ F_ K_ hK_
                    refine al_show (m := Mem.plus (memOf w0 Z0 [] [(oBox g33 124 [(ptr g26 9), (ptr g26 10), (ptr g26 11)]), (oBox g26 84 ((cA8u8 (ofA8u8 (l12s0.take ((8 : Int)).toNat))) ++ [(Value.int .i64 (IntKind.i64.wrap (En.bAt l12s0 (8 : Int)))), (Value.int .i64 (IntKind.i64.wrap r35.1)), (Value.int .i64 (0 : Int)), (Value.int .i64 (0 : Int))])), (oRow l12v7 84 tyS_api_Place l12x7)] []) X_ Y_) (S := over (put (put (put (tab [(0, (str (l12s0.drop ((9 : Int)).toNat))), (7, l12v7), (8, (ptr g26 0)), (12, (Value.int .i64 r35.2.1)), (31, (Value.int .u64 r2.1)), (32, (Value.int .u64 l12i32)), (51, (sbx g33 0 3)), (52, (Value.int .i64 (3 : Int))), (53, (Value.int .i64 (0 : Int)))]) 73 (str (l12s0.drop ((9 : Int)).toNat))) 74 (Value.int .i64 r35.2.1)) 75 (str ((l12s0.drop ((9 : Int)).toNat).drop (r35.2.1).toNat))) F_) ?_
                    refine al_val (ov_assign rfl rfl) ?_
                    refine al_nil ?_
                    refine aq_show (m := Mem.plus (memOf w0 Z0 [] [(oBox g33 124 [(ptr g26 9), (ptr g26 10), (ptr g26 11)]), (oBox g26 84 ((cA8u8 (ofA8u8 (l12s0.take ((8 : Int)).toNat))) ++ [(Value.int .i64 (IntKind.i64.wrap (En.bAt l12s0 (8 : Int)))), (Value.int .i64 (IntKind.i64.wrap r35.1)), (Value.int .i64 (0 : Int)), (Value.int .i64 (0 : Int))])), (oRow l12v7 84 tyS_api_Place l12x7)] []) X_ Y_) ?_
                    refine aq_next hK_ [0, 1, 2] [] [(0, (str ((l12s0.drop ((9 : Int)).toNat).drop (r35.2.1).toNat))), (7, l12v7), (8, (ptr g26 0)), (31, (Value.int .u64 r2.1)), (32, (Value.int .u64 l12i32)), (51, (sbx g33 0 3)), (52, (Value.int .i64 (3 : Int))), (53, (Value.int .i64 (0 : Int)))] [] [] rfl rfl (by decide) rfl ⟨rfl, rfl, rfl, rfl, rfl, rfl, rfl, rfl, trivial⟩ trivial ?_
                    clear hK_ K_ F_ X_ Y_
                    refine ta_show (m := (memOf w0 Z0 [] [(oBox g33 124 [(ptr g26 9), (ptr g26 10), (ptr g26 11)]), (oBox g26 84 ((cA8u8 (ofA8u8 (l12s0.take ((8 : Int)).toNat))) ++ [(Value.int .i64 (IntKind.i64.wrap (En.bAt l12s0 (8 : Int)))), (Value.int .i64 (IntKind.i64.wrap r35.1)), (Value.int .i64 (0 : Int)), (Value.int .i64 (0 : Int))])), (oRow l12v7 84 tyS_api_Place l12x7)] [])) (S := (tab [(0, (str ((l12s0.drop ((9 : Int)).toNat).drop (r35.2.1).toNat))), (7, l12v7), (8, (ptr g26 0)), (31, (Value.int .u64 r2.1)), (32, (Value.int .u64 l12i32)), (51, (sbx g33 0 3)), (52, (Value.int .i64 (3 : Int))), (53, (Value.int .i64 (0 : Int)))])) ?_
                    refine ta_end [] [] rfl rfl (by kernel_rfl) rfl trivial ?_
                    refine aq_show (m := (memOf w0 Z0 [] [(oBox g33 124 [(ptr g26 9), (ptr g26 10), (ptr g26 11)]), (oBox g26 84 ((cA8u8 (ofA8u8 (l12s0.take ((8 : Int)).toNat))) ++ [(Value.int .i64 (IntKind.i64.wrap (En.bAt l12s0 (8 : Int)))), (Value.int .i64 (IntKind.i64.wrap r35.1)), (Value.int .i64 (0 : Int)), (Value.int .i64 (0 : Int))])), (oRow l12v7 84 tyS_api_Place l12x7)] [])) (S := (tab [(0, (str ((l12s0.drop ((9 : Int)).toNat).drop (r35.2.1).toNat))), (7, l12v7), (8, (ptr g26 0)), (31, (Value.int .u64 r2.1)), (32, (Value.int .u64 l12i32)), (51, (sbx g33 0 3)), (52, (Value.int .i64 (3 : Int))), (53, (Value.int .i64 (0 : Int)))])) ?_
                    refine aq_block ?_
                    refine aq_then ?_
                    refine aw_region ?_
                    refine al_val (v := (Value.int .i64 (1 : Int))) (ov_int rfl rfl rfl rfl) ?_
                    refine al_val (ov_move rfl rfl) ?_
                    refine al_nil ?_
                    refine aq_round ?_
                    refine aw_seq ?_
                    refine aw_region ?_
                    refine al_val (v := (Value.bool true)) (ov_int rfl rfl rfl rfl) ?_
                    refine al_nil ?_
                    refine aq_then ?_
                    refine aw_seq ?_
                    refine aw_cond_t rfl ?_
                    refine aw_skip ?_
                    refine aq_then ?_
                    refine aw_seq ?_
                    refine aw_block ?_
                    refine aw_seq ?_
                    refine aw_region ?_
                    refine al_val (ov_idxSbx (k := 1) (by decide) (by decide) rfl rfl Tryd.underlying125 sz124 rfl rfl) ?_
                    refine al_val (ov_load (i := 0) (v := (ptr g26 10)) rfl rfl Tryd.underlying124 sz124 rfl rfl rfl rfl) ?_
                    refine al_val (ov_assign rfl rfl) ?_
                    refine al_nil ?_
                    refine aq_then ?_
                    refine aw_seq ?_
                    refine aw_region ?_
                    refine al_val (ov_move rfl rfl) ?_
                    obtain ⟨r40, hc39, h⟩ := opt_some h
                    refine al_call (vs := [(str ((l12s0.drop ((9 : Int)).toNat).drop (r35.2.1).toNat))]) (f_num_Get_ok fu ((l12s0.drop ((9 : Int)).toNat).drop (r35.2.1).toNat) hc39) [] [] [0, 1, 2] pre_nil rfl (by simp) (by decide) (.inl rfl) rfl Tryd.func58 rfl rfl rfl (fun _ => ?_)
                    refine al_val (ov_move rfl rfl) ?_
                    refine al_val (ov_extract rfl rfl rfl) ?_
                    refine al_val (ov_extract rfl rfl rfl) ?_
                    refine al_val (ov_extract rfl rfl rfl) ?_
                    refine al_val (ov_assign rfl rfl) ?_
                    refine al_val (ov_assign rfl rfl) ?_
                    refine al_val (ov_assign rfl rfl) ?_
                    refine al_nil ?_
                    refine aq_then ?_
                    refine aw_seq ?_
                    refine aw_block ?_
                    refine aw_seq ?_
                    refine aw_region ?_
                    refine al_val (ov_move rfl rfl) ?_
                    refine al_val (ov_int rfl rfl rfl rfl) ?_
                    refine al_val (ov_assign rfl rfl) ?_
                    refine al_nil ?_
                    refine aq_then ?_
                    refine aw_cond rfl (fun hb41 => ?_) (fun hb41 => ?_)
                    · replace h := bif_t hb41 h
                      refine aw_seq ?_
                      refine aw_region ?_
                      refine al_val (ov_move rfl rfl) ?_
                      refine al_val (ov_assign rfl rfl) ?_
                      refine al_val (ov_assign rfl rfl) ?_
                      refine al_nil ?_
                      refine aq_then ?_
                      refine aw_ret ?_
                      refine aq_block_ret ?_
                      refine aq_then_ret ?_
                      refine aq_block_ret ?_
                      refine aq_then_ret ?_
                      refine aq_then_ret ?_
                      refine aq_block_ret ?_
                      refine aq_then_ret ?_
                      refine aq_block_ret ?_
                      refine aq_then_ret ?_
                      refine aq_then_ret ?_
                      refine aq_block_ret ?_
                      refine aq_then_ret ?_
                      refine aq_nilR 84 tyS_api_Place ?_
                      obtain rfl := Option.some.inj h
                      exact fn_ret (Value.slice none 0 0) [0] [] rfl rfl rfl rfl (res2 rfl rfl rfl) rfl rfl rfl (by decide)
                    · replace h := bif_f hb41 h
                      refine aw_seq ?_
                      refine aw_region ?_
                      refine al_val (ov_move rfl rfl) ?_
                      refine al_val (ov_int rfl rfl rfl rfl) ?_
                      refine al_val (ov_assign rfl rfl) ?_
                      refine al_nil ?_
                      refine aq_then ?_
                      refine aw_cond rfl (fun hb42 => ?_) (fun hb42 => ?_)
                      · replace h := bif_t hb42 h
                        refine aw_seq ?_
                        refine aw_region ?_
                        refine al_val (ov_assign rfl rfl) ?_
                        refine al_val (ov_assign rfl rfl) ?_
                        refine al_nil ?_
                        refine aq_then ?_
                        refine aw_ret ?_
                        refine aq_block_ret ?_
                        refine aq_then_ret ?_
                        refine aq_block_ret ?_
                        refine aq_then_ret ?_
                        refine aq_then_ret ?_
                        refine aq_block_ret ?_
                        refine aq_then_ret ?_
                        refine aq_block_ret ?_
                        refine aq_then_ret ?_
                        refine aq_then_ret ?_
                        refine aq_block_ret ?_
                        refine aq_then_ret ?_
                        refine aq_nilR 84 tyS_api_Place ?_
                        obtain rfl := Option.some.inj h
                        exact fn_ret (Value.slice none 0 0) [0] [] rfl rfl rfl rfl (res2 rfl rfl rfl) rfl rfl rfl (by decide)
                      · replace h := bif_f hb42 h
                        refine aw_skip ?_
                        refine aq_block ?_
                        refine aq_then ?_
                        obtain ⟨hc43, h⟩ := req_some h
                        refine aw_region_open [⟨0, 70, Unit, fun _ => { val := (ptr g26 10) }⟩, ⟨1, 71, Unit, fun _ => { val := (Value.int .u64 r40.1) }⟩, ⟨2, 72, Unit, fun _ => { val := (Value.int .i64 (IntKind.i64.wrap r40.1)) }⟩, ⟨3, 73, Unit, fun _ => { val := (str ((l12s0.drop ((9 : Int)).toNat).drop (r35.2.1).toNat)) }⟩, ⟨4, 74, Unit, fun _ => { val := (Value.int .i64 r40.2.1) }⟩, ⟨5, 75, Unit, fun _ => { val := (str (((l12s0.drop ((9 : Int)).toNat).drop (r35.2.1).toNat).drop (r40.2.1).toNat)) }⟩, ⟨6, 76, Unit, fun _ => { val := (ptr g26 10) }⟩] (tab [(0, (str ((l12s0.drop ((9 : Int)).toNat).drop (r35.2.1).toNat))), (7, l12v7), (8, (ptr g26 0)), (10, (ptr g26 10)), (11, (Value.int .u64 r40.1)), (12, (Value.int .i64 r40.2.1)), (31, (Value.int .u64 r2.1)), (32, (Value.int .u64 l12i32)), (51, (sbx g33 0 3)), (52, (Value.int .i64 (3 : Int))), (53, (Value.int .i64 (1 : Int)))]) mixed (fun a hs => hs.tab _ (allT_mem ⟨rfl, rfl, rfl, rfl, rfl, rfl, rfl, rfl, rfl, rfl, rfl, trivial⟩)) ?_
                        refine ta_show (m := (memOf w0 Z0 [] [(oBox g33 124 [(ptr g26 9), (ptr g26 10), (ptr g26 11)]), (oBox g26 84 ((cA8u8 (ofA8u8 (l12s0.take ((8 : Int)).toNat))) ++ [(Value.int .i64 (IntKind.i64.wrap (En.bAt l12s0 (8 : Int)))), (Value.int .i64 (IntKind.i64.wrap r35.1)), (Value.int .i64 (0 : Int)), (Value.int .i64 (0 : Int))])), (oRow l12v7 84 tyS_api_Place l12x7)] [])) (S := (tab [(0, (str ((l12s0.drop ((9 : Int)).toNat).drop (r35.2.1).toNat))), (7, l12v7), (8, (ptr g26 0)), (10, (ptr g26 10)), (11, (Value.int .u64 r40.1)), (12, (Value.int .i64 r40.2.1)), (31, (Value.int .u64 r2.1)), (32, (Value.int .u64 l12i32)), (51, (sbx g33 0 3)), (52, (Value.int .i64 (3 : Int))), (53, (Value.int .i64 (1 : Int)))])) ?_
                        refine ta_step 7 _ [0, 1, 2, 3, 4, 5, 6] [70, 71, 72, 73, 74, 75, 76] [0, 1, 2, 6] [] [⟨0, 70, Unit, fun _ => { val := (ptr g26 10) }⟩, ⟨1, 71, Unit, fun _ => { val := (Value.int .u64 r40.1) }⟩, ⟨2, 72, Unit, fun _ => { val := (Value.int .i64 (IntKind.i64.wrap r40.1)) }⟩, ⟨6, 76, Unit, fun _ => { val := (ptr g26 10) }⟩] [⟨3, 73, Unit, fun _ => { val := (str ((l12s0.drop ((9 : Int)).toNat).drop (r35.2.1).toNat)) }⟩, ⟨4, 74, Unit, fun _ => { val := (Value.int .i64 r40.2.1) }⟩, ⟨5, 75, Unit, fun _ => { val := (str (((l12s0.drop ((9 : Int)).toNat).drop (r35.2.1).toNat).drop (r40.2.1).toNat)) }⟩] rfl rfl rfl (by kernel_rfl) rfl rfl rfl ⟨⟨_, rfl, [], rfl, by
    intro X_ Y_ F_ K_ hK_
    refine al_show (m := Mem.plus (memOf w0 Z0 [] [(oBox g33 124 [(ptr g26 9), (ptr g26 10), (ptr g26 11)]), (oBox g26 84 ((cA8u8 (ofA8u8 (l12s0.take ((8 : Int)).toNat))) ++ [(Value.int .i64 (IntKind.i64.wrap (En.bAt l12s0 (8 : Int)))), (Value.int .i64 (IntKind.i64.wrap r35.1)), (Value.int .i64 (0 : Int)), (Value.int .i64 (0 : Int))])), (oRow l12v7 84 tyS_api_Place l12x7)] []) X_ Y_) (S := over (tab [(0, (str ((l12s0.drop ((9 : Int)).toNat).drop (r35.2.1).toNat))), (7, l12v7), (8, (ptr g26 0)), (10, (ptr g26 10)), (11, (Value.int .u64 r40.1)), (12, (Value.int .i64 r40.2.1)), (31, (Value.int .u64 r2.1)), (32, (Value.int .u64 l12i32)), (51, (sbx g33 0 3)), (52, (Value.int .i64 (3 : Int))), (53, (Value.int .i64 (1 : Int)))]) F_) ?_
    refine al_val (ov_move rfl rfl) ?_
    refine al_nil ?_
    exact fr_fin hK_ ()⟩, ⟨_, rfl, [], rfl, by
    intro X_ Y_ F_ K_ hK_
    refine al_show (m := Mem.plus (memOf w0 Z0 [] [(oBox g33 124 [(ptr g26 9), (ptr g26 10), (ptr g26 11)]), (oBox g26 84 ((cA8u8 (ofA8u8 (l12s0.take ((8 : Int)).toNat))) ++ [(Value.int .i64 (IntKind.i64.wrap (En.bAt l12s0 (8 : Int)))), (Value.int .i64 (IntKind.i64.wrap r35.1)), (Value.int .i64 (0 : Int)), (Value.int .i64 (0 : Int))])), (oRow l12v7 84 tyS_api_Place l12x7)] []) X_ Y_) (S := over (tab [(0, (str ((l12s0.drop ((9 : Int)).toNat).drop (r35.2.1).toNat))), (7, l12v7), (8, (ptr g26 0)), (10, (ptr g26 10)), (11, (Value.int .u64 r40.1)), (12, (Value.int .i64 r40.2.1)), (31, (Value.int .u64 r2.1)), (32, (Value.int .u64 l12i32)), (51, (sbx g33 0 3)), (52, (Value.int .i64 (3 : Int))), (53, (Value.int .i64 (1 : Int)))]) F_) ?_
    refine al_val (ov_move rfl rfl) ?_
    refine al_nil ?_
    exact fr_fin hK_ ()⟩, ⟨_, rfl, [1], rfl, by
    intro _
    intro X_ Y_ F_ K_ hK_
    refine al_show (m := Mem.plus (memOf w0 Z0 [] [(oBox g33 124 [(ptr g26 9), (ptr g26 10), (ptr g26 11)]), (oBox g26 84 ((cA8u8 (ofA8u8 (l12s0.take ((8 : Int)).toNat))) ++ [(Value.int .i64 (IntKind.i64.wrap (En.bAt l12s0 (8 : Int)))), (Value.int .i64 (IntKind.i64.wrap r35.1)), (Value.int .i64 (0 : Int)), (Value.int .i64 (0 : Int))])), (oRow l12v7 84 tyS_api_Place l12x7)] []) X_ Y_) (S := over (put (tab [(0, (str ((l12s0.drop ((9 : Int)).toNat).drop (r35.2.1).toNat))), (7, l12v7), (8, (ptr g26 0)), (10, (ptr g26 10)), (11, (Value.int .u64 r40.1)), (12, (Value.int .i64 r40.2.1)), (31, (Value.int .u64 r2.1)), (32, (Value.int .u64 l12i32)), (51, (sbx g33 0 3)), (52, (Value.int .i64 (3 : Int))), (53, (Value.int .i64 (1 : Int)))]) 71 (Value.int .u64 r40.1)) F_) ?_
    refine al_val (ov_convInt (by rw [Tryd.underlying87]; rfl) Tryd.underlying3 rfl rfl) ?_
    refine al_nil ?_
    exact fr_fin hK_ ()⟩, ⟨_, rfl, [], rfl, by
    intro X_ Y_ F_ K_ hK_
    refine al_show (m := Mem.plus (memOf w0 Z0 [] [(oBox g33 124 [(ptr g26 9), (ptr g26 10), (ptr g26 11)]), (oBox g26 84 ((cA8u8 (ofA8u8 (l12s0.take ((8 : Int)).toNat))) ++ [(Value.int .i64 (IntKind.i64.wrap (En.bAt l12s0 (8 : Int)))), (Value.int .i64 (IntKind.i64.wrap r35.1)), (Value.int .i64 (0 : Int)), (Value.int .i64 (0 : Int))])), (oRow l12v7 84 tyS_api_Place l12x7)] []) X_ Y_) (S := over (tab [(0, (str ((l12s0.drop ((9 : Int)).toNat).drop (r35.2.1).toNat))), (7, l12v7), (8, (ptr g26 0)), (10, (ptr g26 10)), (11, (Value.int .u64 r40.1)), (12, (Value.int .i64 r40.2.1)), (31, (Value.int .u64 r2.1)), (32, (Value.int .u64 l12i32)), (51, (sbx g33 0 3)), (52, (Value.int .i64 (3 : Int))), (53, (Value.int .i64 (1 : Int)))]) F_) ?_
    refine al_val (ov_move rfl rfl) ?_
    refine al_nil ?_
    exact fr_fin hK_ ()⟩, ⟨_, rfl, [], rfl, by
    intro X_ Y_ F_ K_ hK_
    refine al_show (m := Mem.plus (memOf w0 Z0 [] [(oBox g33 124 [(ptr g26 9), (ptr g26 10), (ptr g26 11)]), (oBox g26 84 ((cA8u8 (ofA8u8 (l12s0.take ((8 : Int)).toNat))) ++ [(Value.int .i64 (IntKind.i64.wrap (En.bAt l12s0 (8 : Int)))), (Value.int .i64 (IntKind.i64.wrap r35.1)), (Value.int .i64 (0 : Int)), (Value.int .i64 (0 : Int))])), (oRow l12v7 84 tyS_api_Place l12x7)] []) X_ Y_) (S := over (tab [(0, (str ((l12s0.drop ((9 : Int)).toNat).drop (r35.2.1).toNat))), (7, l12v7), (8, (ptr g26 0)), (10, (ptr g26 10)), (11, (Value.int .u64 r40.1)), (12, (Value.int .i64 r40.2.1)), (31, (Value.int .u64 r2.1)), (32, (Value.int .u64 l12i32)), (51, (sbx g33 0 3)), (52, (Value.int .i64 (3 : Int))), (53, (Value.int .i64 (1 : Int)))]) F_) ?_
    refine al_val (ov_move rfl rfl) ?_
    refine al_nil ?_
    exact fr_fin hK_ ()⟩, ⟨_, rfl, [3, 4], rfl, by
    intro _
    intro _
    intro X_ Y_ F_ K_ hK_
    refine al_show (m := Mem.plus (memOf w0 Z0 [] [(oBox g33 124 [(ptr g26 9), (ptr g26 10), (ptr g26 11)]), (oBox g26 84 ((cA8u8 (ofA8u8 (l12s0.take ((8 : Int)).toNat))) ++ [(Value.int .i64 (IntKind.i64.wrap (En.bAt l12s0 (8 : Int)))), (Value.int .i64 (IntKind.i64.wrap r35.1)), (Value.int .i64 (0 : Int)), (Value.int .i64 (0 : Int))])), (oRow l12v7 84 tyS_api_Place l12x7)] []) X_ Y_) (S := over (put (put (tab [(0, (str ((l12s0.drop ((9 : Int)).toNat).drop (r35.2.1).toNat))), (7, l12v7), (8, (ptr g26 0)), (10, (ptr g26 10)), (11, (Value.int .u64 r40.1)), (12, (Value.int .i64 r40.2.1)), (31, (Value.int .u64 r2.1)), (32, (Value.int .u64 l12i32)), (51, (sbx g33 0 3)), (52, (Value.int .i64 (3 : Int))), (53, (Value.int .i64 (1 : Int)))]) 73 (str ((l12s0.drop ((9 : Int)).toNat).drop (r35.2.1).toNat))) 74 (Value.int .i64 r40.2.1)) F_) ?_
    refine al_val (ov_strFrom hc43.1 hc43.2 Tryd.underlying9 rfl rfl rfl) ?_
    refine al_nil ?_
    exact fr_fin hK_ ()⟩, ⟨_, rfl, [0, 1, 2], rfl, by
    intro _
    intro _
    intro _
    intro X_ Y_ F_ K_ hK_
    refine al_show (m := Mem.plus (memOf w0 Z0 [] [(oBox g33 124 [(ptr g26 9), (ptr g26 10), (ptr g26 11)]), (oBox g26 84 ((cA8u8 (ofA8u8 (l12s0.take ((8 : Int)).toNat))) ++ [(Value.int .i64 (IntKind.i64.wrap (En.bAt l12s0 (8 : Int)))), (Value.int .i64 (IntKind.i64.wrap r35.1)), (Value.int .i64 (0 : Int)), (Value.int .i64 (0 : Int))])), (oRow l12v7 84 tyS_api_Place l12x7)] []) X_ Y_) (S := over (put (put (put (tab [(0, (str ((l12s0.drop ((9 : Int)).toNat).drop (r35.2.1).toNat))), (7, l12v7), (8, (ptr g26 0)), (10, (ptr g26 10)), (11, (Value.int .u64 r40.1)), (12, (Value.int .i64 r40.2.1)), (31, (Value.int .u64 r2.1)), (32, (Value.int .u64 l12i32)), (51, (sbx g33 0 3)), (52, (Value.int .i64 (3 : Int))), (53, (Value.int .i64 (1 : Int)))]) 70 (ptr g26 10)) 71 (Value.int .u64 r40.1)) 72 (Value.int .i64 (IntKind.i64.wrap r40.1))) F_) ?_
    refine al_val (ov_nilCheck rfl rfl) ?_
    refine al_nil ?_
    exact fr_fin hK_ ()⟩, trivial⟩ ?_
                        intro _
                        intro _
                        intro _
                        intro _
                        intro X_ Y_ F_ K_ hK_
                        refine al_show (m := Mem.plus (memOf w0 Z0 [] [(oBox g33 124 [(ptr g26 9), (ptr g26 10), (ptr g26 11)]), (oBox g26 84 ((cA8u8 (ofA8u8 (l12s0.take ((8 : Int)).toNat))) ++ [(Value.int .i64 (IntKind.i64.wrap (En.bAt l12s0 (8 : Int)))), (Value.int .i64 (IntKind.i64.wrap r35.1)), (Value.int .i64 (0 : Int)), (Value.int .i64 (0 : Int))])), (oRow l12v7 84 tyS_api_Place l12x7)] []) X_ Y_) (S := over (put (put (put (put (tab [(0, (str ((l12s0.drop ((9 : Int)).toNat).drop (r35.2.1).toNat))), (7, l12v7), (8, (ptr g26 0)), (10, (ptr g26 10)), (11, (Value.int .u64 r40.1)), (12, (Value.int .i64 r40.2.1)), (31, (Value.int .u64 r2.1)), (32, (Value.int .u64 l12i32)), (51, (sbx g33 0 3)), (52, (Value.int .i64 (3 : Int))), (53, (Value.int .i64 (1 : Int)))]) 70 (ptr g26 10)) 71 (Value.int .u64 r40.1)) 72 (Value.int .i64 (IntKind.i64.wrap r40.1))) 76 (ptr g26 10)) F_) ?_
                        refine al_store (i := 1) (vs := [(Value.int .i64 (IntKind.i64.wrap r40.1))]) (cs' := ((cA8u8 (ofA8u8 (l12s0.take ((8 : Int)).toNat))) ++ [(Value.int .i64 (IntKind.i64.wrap (En.bAt l12s0 (8 : Int)))), (Value.int .i64 (IntKind.i64.wrap r35.1)), (Value.int .i64 (IntKind.i64.wrap r40.1)), (Value.int .i64 (0 : Int))])) rfl rfl rfl sz3 (cv_rfl rfl) rfl (co_val rfl co_nil) (Nat.le_of_ble_eq_true rfl) rfl rfl ?_
                        refine al_nil ?_
                        refine aq_show (m := Mem.plus (memOf w0 Z0 [] [(oBox g33 124 [(ptr g26 9), (ptr g26 10), (ptr g26 11)]), (oBox g26 84 ((cA8u8 (ofA8u8 (l12s0.take ((8 : Int)).toNat))) ++ [(Value.int .i64 (IntKind.i64.wrap (En.bAt l12s0 (8 : Int)))), (Value.int .i64 (IntKind.i64.wrap r35.1)), (Value.int .i64 (IntKind.i64.wrap r40.1)), (Value.int .i64 (0 : Int))])), (oRow l12v7 84 tyS_api_Place l12x7)] []) X_ Y_) ?_
                        refine aq_next hK_ [0, 1, 2] [] [(0, (str ((l12s0.drop ((9 : Int)).toNat).drop (r35.2.1).toNat))), (7, l12v7), (8, (ptr g26 0)), (12, (Value.int .i64 r40.2.1)), (31, (Value.int .u64 r2.1)), (32, (Value.int .u64 l12i32)), (51, (sbx g33 0 3)), (52, (Value.int .i64 (3 : Int))), (53, (Value.int .i64 (1 : Int)))] [73, 74, 75] [] rfl rfl (by decide) rfl ⟨rfl, rfl, rfl, rfl, rfl, rfl, rfl, rfl, rfl, trivial⟩ ⟨rfl, rfl, rfl, trivial⟩ ?_
                        clear hK_ K_ F_ X_ Y_
                        refine ta_show (m := (memOf w0 Z0 [] [(oBox g33 124 [(ptr g26 9), (ptr g26 10), (ptr g26 11)]), (oBox g26 84 ((cA8u8 (ofA8u8 (l12s0.take ((8 : Int)).toNat))) ++ [(Value.int .i64 (IntKind.i64.wrap (En.bAt l12s0 (8 : Int)))), (Value.int .i64 (IntKind.i64.wrap r35.1)), (Value.int .i64 (IntKind.i64.wrap r40.1)), (Value.int .i64 (0 : Int))])), (oRow l12v7 84 tyS_api_Place l12x7)] [])) (S := (tab [(0, (str ((l12s0.drop ((9 : Int)).toNat).drop (r35.2.1).toNat))), (7, l12v7), (8, (ptr g26 0)), (12, (Value.int .i64 r40.2.1)), (31, (Value.int .u64 r2.1)), (32, (Value.int .u64 l12i32)), (51, (sbx g33 0 3)), (52, (Value.int .i64 (3 : Int))), (53, (Value.int .i64 (1 : Int)))])) ?_
                        refine ta_step 8 _ [3, 4, 5] [73, 74, 75] [3, 4, 5] [] [⟨3, 73, Unit, fun _ => { val := (str ((l12s0.drop ((9 : Int)).toNat).drop (r35.2.1).toNat)) }⟩, ⟨4, 74, Unit, fun _ => { val := (Value.int .i64 r40.2.1) }⟩, ⟨5, 75, Unit, fun _ => { val := (str (((l12s0.drop ((9 : Int)).toNat).drop (r35.2.1).toNat).drop (r40.2.1).toNat)) }⟩] [] rfl rfl rfl (by kernel_rfl) rfl rfl rfl ⟨⟨_, rfl, [], rfl, by
    intro X_ Y_ F_ K_ hK_
    refine al_show (m := Mem.plus (memOf w0 Z0 [] [(oBox g33 124 [(ptr g26 9), (ptr g26 10), (ptr g26 11)]), (oBox g26 84 ((cA8u8 (ofA8u8 (l12s0.take ((8 : Int)).toNat))) ++ [(Value.int .i64 (IntKind.i64.wrap (En.bAt l12s0 (8 : Int)))), (Value.int .i64 (IntKind.i64.wrap r35.1)), (Value.int .i64 (IntKind.i64.wrap r40.1)), (Value.int .i64 (0 : Int))])), (oRow l12v7 84 tyS_api_Place l12x7)] []) X_ Y_) (S := over (tab [(0, (str ((l12s0.drop ((9 : Int)).toNat).drop (r35.2.1).toNat))), (7, l12v7), (8, (ptr g26 0)), (12, (Value.int .i64 r40.2.1)), (31, (Value.int .u64 r2.1)), (32, (Value.int .u64 l12i32)), (51, (sbx g33 0 3)), (52, (Value.int .i64 (3 : Int))), (53, (Value.int .i64 (1 : Int)))]) F_) ?_
    refine al_val (ov_move rfl rfl) ?_
    refine al_nil ?_
    exact fr_fin hK_ ()⟩, ⟨_, rfl, [], rfl, by
    intro X_ Y_ F_ K_ hK_
    refine al_show (m := Mem.plus (memOf w0 Z0 [] [(oBox g33 124 [(ptr g26 9), (ptr g26 10), (ptr g26 11)]), (oBox g26 84 ((cA8u8 (ofA8u8 (l12s0.take ((8 : Int)).toNat))) ++ [(Value.int .i64 (IntKind.i64.wrap (En.bAt l12s0 (8 : Int)))), (Value.int .i64 (IntKind.i64.wrap r35.1)), (Value.int .i64 (IntKind.i64.wrap r40.1)), (Value.int .i64 (0 : Int))])), (oRow l12v7 84 tyS_api_Place l12x7)] []) X_ Y_) (S := over (tab [(0, (str ((l12s0.drop ((9 : Int)).toNat).drop (r35.2.1).toNat))), (7, l12v7), (8, (ptr g26 0)), (12, (Value.int .i64 r40.2.1)), (31, (Value.int .u64 r2.1)), (32, (Value.int .u64 l12i32)), (51, (sbx g33 0 3)), (52, (Value.int .i64 (3 : Int))), (53, (Value.int .i64 (1 : Int)))]) F_) ?_
    refine al_val (ov_move rfl rfl) ?_
    refine al_nil ?_
    exact fr_fin hK_ ()⟩, ⟨_, rfl, [0, 1], rfl, by
    intro _
    intro _
    intro X_ Y_ F_ K_ hK_
    refine al_show (m := Mem.plus (memOf w0 Z0 [] [(oBox g33 124 [(ptr g26 9), (ptr g26 10), (ptr g26 11)]), (oBox g26 84 ((cA8u8 (ofA8u8 (l12s0.take ((8 : Int)).toNat))) ++ [(Value.int .i64 (IntKind.i64.wrap (En.bAt l12s0 (8 : Int)))), (Value.int .i64 (IntKind.i64.wrap r35.1)), (Value.int .i64 (IntKind.i64.wrap r40.1)), (Value.int .i64 (0 : Int))])), (oRow l12v7 84 tyS_api_Place l12x7)] []) X_ Y_) (S := over (put (put (tab [(0, (str ((l12s0.drop ((9 : Int)).toNat).drop (r35.2.1).toNat))), (7, l12v7), (8, (ptr g26 0)), (12, (Value.int .i64 r40.2.1)), (31, (Value.int .u64 r2.1)), (32, (Value.int .u64 l12i32)), (51, (sbx g33 0 3)), (52, (Value.int .i64 (3 : Int))), (53, (Value.int .i64 (1 : Int)))]) 73 (str ((l12s0.drop ((9 : Int)).toNat).drop (r35.2.1).toNat))) 74 (Value.int .i64 r40.2.1)) F_) ?_
    refine al_val (ov_strFrom hc43.1 hc43.2 Tryd.underlying9 rfl rfl rfl) ?_
    refine al_nil ?_
    exact fr_fin hK_ ()⟩, trivial⟩ ?_
                        intro _
                        intro _
                        intro _
                        intro X_ Y_ F_ K_ hK_
                        refine al_show (m := Mem.plus (memOf w0 Z0 [] [(oBox g33 124 [(ptr g26 9), (ptr g26 10), (ptr g26 11)]), (oBox g26 84 ((cA8u8 (ofA8u8 (l12s0.take ((8 : Int)).toNat))) ++ [(Value.int .i64 (IntKind.i64.wrap (En.bAt l12s0 (8 : Int)))), (Value.int .i64 (IntKind.i64.wrap r35.1)), (Value.int .i64 (IntKind.i64.wrap r40.1)), (Value.int .i64 (0 : Int))])), (oRow l12v7 84 tyS_api_Place l12x7)] []) X_ Y_) (S := over (put (put (put (tab [(0, (str ((l12s0.drop ((9 : Int)).toNat).drop (r35.2.1).toNat))), (7, l12v7), (8, (ptr g26 0)), (12, (Value.int .i64 r40.2.1)), (31, (Value.int .u64 r2.1)), (32, (Value.int .u64 l12i32)), (51, (sbx g33 0 3)), (52, (Value.int .i64 (3 : Int))), (53, (Value.int .i64 (1 : Int)))]) 73 (str ((l12s0.drop ((9 : Int)).toNat).drop (r35.2.1).toNat))) 74 (Value.int .i64 r40.2.1)) 75 (str (((l12s0.drop ((9 : Int)).toNat).drop (r35.2.1).toNat).drop (r40.2.1).toNat))) F_) ?_
                        refine al_val (ov_assign rfl rfl) ?_
                        refine al_nil ?_
                        refine aq_show (m := Mem.plus (memOf w0 Z0 [] [(oBox g33 124 [(ptr g26 9), (ptr g26 10), (ptr g26 11)]), (oBox g26 84 ((cA8u8 (ofA8u8 (l12s0.take ((8 : Int)).toNat))) ++ [(Value.int .i64 (IntKind.i64.wrap (En.bAt l12s0 (8 : Int)))), (Value.int .i64 (IntKind.i64.wrap r35.1)), (Value.int .i64 (IntKind.i64.wrap r40.1)), (Value.int .i64 (0 : Int))])), (oRow l12v7 84 tyS_api_Place l12x7)] []) X_ Y_) ?_
                        refine aq_next hK_ [0, 1, 2] [] [(0, (str (((l12s0.drop ((9 : Int)).toNat).drop (r35.2.1).toNat).drop (r40.2.1).toNat))), (7, l12v7), (8, (ptr g26 0)), (31, (Value.int .u64 r2.1)), (32, (Value.int .u64 l12i32)), (51, (sbx g33 0 3)), (52, (Value.int .i64 (3 : Int))), (53, (Value.int .i64 (1 : Int)))] [] [] rfl rfl (by decide) rfl ⟨rfl, rfl, rfl, rfl, rfl, rfl, rfl, rfl, trivial⟩ trivial ?_
                        clear hK_ K_ F_ X_ Y_
                        refine ta_show (m := (memOf w0 Z0 [] [(oBox g33 124 [(ptr g26 9), (ptr g26 10), (ptr g26 11)]), (oBox g26 84 ((cA8u8 (ofA8u8 (l12s0.take ((8 : Int)).toNat))) ++ [(Value.int .i64 (IntKind.i64.wrap (En.bAt l12s0 (8 : Int)))), (Value.int .i64 (IntKind.i64.wrap r35.1)), (Value.int .i64 (IntKind.i64.wrap r40.1)), (Value.int .i64 (0 : Int))])), (oRow l12v7 84 tyS_api_Place l12x7)] [])) (S := (tab [(0, (str (((l12s0.drop ((9 : Int)).toNat).drop (r35.2.1).toNat).drop (r40.2.1).toNat))), (7, l12v7), (8, (ptr g26 0)), (31, (Value.int .u64 r2.1)), (32, (Value.int .u64 l12i32)), (51, (sbx g33 0 3)), (52, (Value.int .i64 (3 : Int))), (53, (Value.int .i64 (1 : Int)))])) ?_
                        refine ta_end [] [] rfl rfl (by kernel_rfl) rfl trivial ?_
                        refine aq_show (m := (memOf w0 Z0 [] [(oBox g33 124 [(ptr g26 9), (ptr g26 10), (ptr g26 11)]), (oBox g26 84 ((cA8u8 (ofA8u8 (l12s0.take ((8 : Int)).toNat))) ++ [(Value.int .i64 (IntKind.i64.wrap (En.bAt l12s0 (8 : Int)))), (Value.int .i64 (IntKind.i64.wrap r35.1)), (Value.int .i64 (IntKind.i64.wrap r40.1)), (Value.int .i64 (0 : Int))])), (oRow l12v7 84 tyS_api_Place l12x7)] [])) (S := (tab [(0, (str (((l12s0.drop ((9 : Int)).toNat).drop (r35.2.1).toNat).drop (r40.2.1).toNat))), (7, l12v7), (8, (ptr g26 0)), (31, (Value.int .u64 r2.1)), (32, (Value.int .u64 l12i32)), (51, (sbx g33 0 3)), (52, (Value.int .i64 (3 : Int))), (53, (Value.int .i64 (1 : Int)))])) ?_
                        refine aq_block ?_
                        refine aq_then ?_
                        refine aw_region ?_
                        refine al_val (v := (Value.int .i64 (2 : Int))) (ov_int rfl rfl rfl rfl) ?_
                        refine al_val (ov_move rfl rfl) ?_
                        refine al_nil ?_
                        refine aq_round ?_
                        refine aw_seq ?_
                        refine aw_region ?_
                        refine al_val (v := (Value.bool true)) (ov_int rfl rfl rfl rfl) ?_
                        refine al_nil ?_
                        refine aq_then ?_
                        refine aw_seq ?_
                        refine aw_cond_t rfl ?_
                        refine aw_skip ?_
                        refine aq_then ?_
                        refine aw_seq ?_
                        refine aw_block ?_
                        refine aw_seq ?_
                        refine aw_region ?_
                        refine al_val (ov_idxSbx (k := 2) (by decide) (by decide) rfl rfl Tryd.underlying125 sz124 rfl rfl) ?_
                        refine al_val (ov_load (i := 0) (v := (ptr g26 11)) rfl rfl Tryd.underlying124 sz124 rfl rfl rfl rfl) ?_
                        refine al_val (ov_assign rfl rfl) ?_
                        refine al_nil ?_
                        refine aq_then ?_
                        refine aw_seq ?_
                        refine aw_region ?_
                        refine al_val (ov_move rfl rfl) ?_
                        obtain ⟨r45, hc44, h⟩ := opt_some h
                        refine al_call (vs := [(str (((l12s0.drop ((9 : Int)).toNat).drop (r35.2.1).toNat).drop (r40.2.1).toNat))]) (f_num_Get_ok fu (((l12s0.drop ((9 : Int)).toNat).drop (r35.2.1).toNat).drop (r40.2.1).toNat) hc44) [] [] [0, 1, 2] pre_nil rfl (by simp) (by decide) (.inl rfl) rfl Tryd.func58 rfl rfl rfl (fun _ => ?_)
                        refine al_val (ov_move rfl rfl) ?_
                        refine al_val (ov_extract rfl rfl rfl) ?_
                        refine al_val (ov_extract rfl rfl rfl) ?_
                        refine al_val (ov_extract rfl rfl rfl) ?_
                        refine al_val (ov_assign rfl rfl) ?_
                        refine al_val (ov_assign rfl rfl) ?_
                        refine al_val (ov_assign rfl rfl) ?_
                        refine al_nil ?_
                        refine aq_then ?_
                        refine aw_seq ?_
                        refine aw_block ?_
                        refine aw_seq ?_
                        refine aw_region ?_
                        refine al_val (ov_move rfl rfl) ?_
                        refine al_val (ov_int rfl rfl rfl rfl) ?_
                        refine al_val (ov_assign rfl rfl) ?_
                        refine al_nil ?_
                        refine aq_then ?_
                        refine aw_cond rfl (fun hb46 => ?_) (fun hb46 => ?_)
                        · replace h := bif_t hb46 h
                          refine aw_seq ?_
                          refine aw_region ?_
                          refine al_val (ov_move rfl rfl) ?_
                          refine al_val (ov_assign rfl rfl) ?_
                          refine al_val (ov_assign rfl rfl) ?_
                          refine al_nil ?_
                          refine aq_then ?_
                          refine aw_ret ?_
                          refine aq_block_ret ?_
                          refine aq_then_ret ?_
                          refine aq_block_ret ?_
                          refine aq_then_ret ?_
                          refine aq_then_ret ?_
                          refine aq_block_ret ?_
                          refine aq_then_ret ?_
                          refine aq_block_ret ?_
                          refine aq_then_ret ?_
                          refine aq_then_ret ?_
                          refine aq_block_ret ?_
                          refine aq_then_ret ?_
                          refine aq_nilR 84 tyS_api_Place ?_
                          obtain rfl := Option.some.inj h
                          exact fn_ret (Value.slice none 0 0) [0] [] rfl rfl rfl rfl (res2 rfl rfl rfl) rfl rfl rfl (by decide)
                        · replace h := bif_f hb46 h
                          refine aw_seq ?_
                          refine aw_region ?_
                          refine al_val (ov_move rfl rfl) ?_
                          refine al_val (ov_int rfl rfl rfl rfl) ?_
                          refine al_val (ov_assign rfl rfl) ?_
                          refine al_nil ?_
                          refine aq_then ?_
                          refine aw_cond rfl (fun hb47 => ?_) (fun hb47 => ?_)
                          · replace h := bif_t hb47 h
                            refine aw_seq ?_
                            refine aw_region ?_
                            refine al_val (ov_assign rfl rfl) ?_
                            refine al_val (ov_assign rfl rfl) ?_
                            refine al_nil ?_
                            refine aq_then ?_
                            refine aw_ret ?_
                            refine aq_block_ret ?_
                            refine aq_then_ret ?_
                            refine aq_block_ret ?_
                            refine aq_then_ret ?_
                            refine aq_then_ret ?_
                            refine aq_block_ret ?_
                            refine aq_then_ret ?_
                            refine aq_block_ret ?_
                            refine aq_then_ret ?_
                            refine aq_then_ret ?_
                            refine aq_block_ret ?_
                            refine aq_then_ret ?_
                            refine aq_nilR 84 tyS_api_Place ?_
                            obtain rfl := Option.some.inj h
                            exact fn_ret (Value.slice none 0 0) [0] [] rfl rfl rfl rfl (res2 rfl rfl rfl) rfl rfl rfl (by decide)
                          · replace h := bif_f hb47 h
                            refine aw_skip ?_
                            refine aq_block ?_
                            refine aq_then ?_
                            obtain ⟨hc48, h⟩ := req_some h
                            refine aw_region_open [⟨0, 70, Unit, fun _ => { val := (ptr g26 11) }⟩, ⟨1, 71, Unit, fun _ => { val := (Value.int .u64 r45.1) }⟩, ⟨2, 72, Unit, fun _ => { val := (Value.int .i64 (IntKind.i64.wrap r45.1)) }⟩, ⟨3, 73, Unit, fun _ => { val := (str (((l12s0.drop ((9 : Int)).toNat).drop (r35.2.1).toNat).drop (r40.2.1).toNat)) }⟩, ⟨4, 74, Unit, fun _ => { val := (Value.int .i64 r45.2.1) }⟩, ⟨5, 75, Unit, fun _ => { val := (str ((((l12s0.drop ((9 : Int)).toNat).drop (r35.2.1).toNat).drop (r40.2.1).toNat).drop (r45.2.1).toNat)) }⟩, ⟨6, 76, Unit, fun _ => { val := (ptr g26 11) }⟩] (tab [(0, (str (((l12s0.drop ((9 : Int)).toNat).drop (r35.2.1).toNat).drop (r40.2.1).toNat))), (7, l12v7), (8, (ptr g26 0)), (10, (ptr g26 11)), (11, (Value.int .u64 r45.1)), (12, (Value.int .i64 r45.2.1)), (31, (Value.int .u64 r2.1)), (32, (Value.int .u64 l12i32)), (51, (sbx g33 0 3)), (52, (Value.int .i64 (3 : Int))), (53, (Value.int .i64 (2 : Int)))]) mixed (fun a hs => hs.tab _ (allT_mem ⟨rfl, rfl, rfl, rfl, rfl, rfl, rfl, rfl, rfl, rfl, rfl, trivial⟩)) ?_
                            refine ta_show (m := (memOf w0 Z0 [] [(oBox g33 124 [(ptr g26 9), (ptr g26 10), (ptr g26 11)]), (oBox g26 84 ((cA8u8 (ofA8u8 (l12s0.take ((8 : Int)).toNat))) ++ [(Value.int .i64 (IntKind.i64.wrap (En.bAt l12s0 (8 : Int)))), (Value.int .i64 (IntKind.i64.wrap r35.1)), (Value.int .i64 (IntKind.i64.wrap r40.1)), (Value.int .i64 (0 : Int))])), (oRow l12v7 84 tyS_api_Place l12x7)] [])) (S := (tab [(0, (str (((l12s0.drop ((9 : Int)).toNat).drop (r35.2.1).toNat).drop (r40.2.1).toNat))), (7, l12v7), (8, (ptr g26 0)), (10, (ptr g26 11)), (11, (Value.int .u64 r45.1)), (12, (Value.int .i64 r45.2.1)), (31, (Value.int .u64 r2.1)), (32, (Value.int .u64 l12i32)), (51, (sbx g33 0 3)), (52, (Value.int .i64 (3 : Int))), (53, (Value.int .i64 (2 : Int)))])) ?_
                            refine ta_step 7 _ [0, 1, 2, 3, 4, 5, 6] [70, 71, 72, 73, 74, 75, 76] [0, 1, 2, 6] [] [⟨0, 70, Unit, fun _ => { val := (ptr g26 11) }⟩, ⟨1, 71, Unit, fun _ => { val := (Value.int .u64 r45.1) }⟩, ⟨2, 72, Unit, fun _ => { val := (Value.int .i64 (IntKind.i64.wrap r45.1)) }⟩, ⟨6, 76, Unit, fun _ => { val := (ptr g26 11) }⟩] [⟨3, 73, Unit, fun _ => { val := (str (((l12s0.drop ((9 : Int)).toNat).drop (r35.2.1).toNat).drop (r40.2.1).toNat)) }⟩, ⟨4, 74, Unit, fun _ => { val := (Value.int .i64 r45.2.1) }⟩, ⟨5, 75, Unit, fun _ => { val := (str ((((l12s0.drop ((9 : Int)).toNat).drop (r35.2.1).toNat).drop (r40.2.1).toNat).drop (r45.2.1).toNat)) }⟩] rfl rfl rfl (by kernel_rfl) rfl rfl rfl ⟨⟨_, rfl, [], rfl, by
    intro X_ Y_ F_ K_ hK_
    refine al_show (m := Mem.plus (memOf w0 Z0 [] [(oBox g33 124 [(ptr g26 9), (ptr g26 10), (ptr g26 11)]), (oBox g26 84 ((cA8u8 (ofA8u8 (l12s0.take ((8 : Int)).toNat))) ++ [(Value.int .i64 (IntKind.i64.wrap (En.bAt l12s0 (8 : Int)))), (Value.int .i64 (IntKind.i64.wrap r35.1)), (Value.int .i64 (IntKind.i64.wrap r40.1)), (Value.int .i64 (0 : Int))])), (oRow l12v7 84 tyS_api_Place l12x7)] []) X_ Y_) (S := over (tab [(0, (str (((l12s0.drop ((9 : Int)).toNat).drop (r35.2.1).toNat).drop (r40.2.1).toNat))), (7, l12v7), (8, (ptr g26 0)), (10, (ptr g26 11)), (11, (Value.int .u64 r45.1)), (12, (Value.int .i64 r45.2.1)), (31, (Value.int .u64 r2.1)), (32, (Value.int .u64 l12i32)), (51, (sbx g33 0 3)), (52, (Value.int .i64 (3 : Int))), (53, (Value.int .i64 (2 : Int)))]) F_) ?_
    refine al_val (ov_move rfl rfl) ?_
    refine al_nil ?_
    exact fr_fin hK_ ()⟩, ⟨_, rfl, [], rfl, by
    intro X_ Y_ F_ K_ hK_
    refine al_show (m := Mem.plus (memOf w0 Z0 [] [(oBox g33 124 [(ptr g26 9), (ptr g26 10), (ptr g26 11)]), (oBox g26 84 ((cA8u8 (ofA8u8 (l12s0.take ((8 : Int)).toNat))) ++ [(Value.int .i64 (IntKind.i64.wrap (En.bAt l12s0 (8 : Int)))), (Value.int .i64 (IntKind.i64.wrap r35.1)), (Value.int .i64 (IntKind.i64.wrap r40.1)), (Value.int .i64 (0 : Int))])), (oRow l12v7 84 tyS_api_Place l12x7)] []) X_ Y_) (S := over (tab [(0, (str (((l12s0.drop ((9 : Int)).toNat).drop (r35.2.1).toNat).drop (r40.2.1).toNat))), (7, l12v7), (8, (ptr g26 0)), (10, (ptr g26 11)), (11, (Value.int .u64 r45.1)), (12, (Value.int .i64 r45.2.1)), (31, (Value.int .u64 r2.1)), (32, (Value.int .u64 l12i32)), (51, (sbx g33 0 3)), (52, (Value.int .i64 (3 : Int))), (53, (Value.int .i64 (2 : Int)))]) F_) ?_
    refine al_val (ov_move rfl rfl) ?_
    refine al_nil ?_
    exact fr_fin hK_ ()⟩, ⟨_, rfl, [1], rfl, by
    intro _
    intro X_ Y_ F_ K_ hK_
    refine al_show (m := Mem.plus (memOf w0 Z0 [] [(oBox g33 124 [(ptr g26 9), (ptr g26 10), (ptr g26 11)]), (oBox g26 84 ((cA8u8 (ofA8u8 (l12s0.take ((8 : Int)).toNat))) ++ [(Value.int .i64 (IntKind.i64.wrap (En.bAt l12s0 (8 : Int)))), (Value.int .i64 (IntKind.i64.wrap r35.1)), (Value.int .i64 (IntKind.i64.wrap r40.1)), (Value.int .i64 (0 : Int))])), (oRow l12v7 84 tyS_api_Place l12x7)] []) X_ Y_) (S := over (put (tab [(0, (str (((l12s0.drop ((9 : Int)).toNat).drop (r35.2.1).toNat).drop (r40.2.1).toNat))), (7, l12v7), (8, (ptr g26 0)), (10, (ptr g26 11)), (11, (Value.int .u64 r45.1)), (12, (Value.int .i64 r45.2.1)), (31, (Value.int .u64 r2.1)), (32, (Value.int .u64 l12i32)), (51, (sbx g33 0 3)), (52, (Value.int .i64 (3 : Int))), (53, (Value.int .i64 (2 : Int)))]) 71 (Value.int .u64 r45.1)) F_) ?_
    refine al_val (ov_convInt (by rw [Tryd.underlying87]; rfl) Tryd.underlying3 rfl rfl) ?_
    refine al_nil ?_
    exact fr_fin hK_ ()⟩, ⟨_, rfl, [], rfl, by
    intro X_ Y_ F_ K_ hK_
    refine al_show (m := Mem.plus (memOf w0 Z0 [] [(oBox g33 124 [(ptr g26 9), (ptr g26 10), (ptr g26 11)]), (oBox g26 84 ((cA8u8 (ofA8u8 (l12s0.take ((8 : Int)).toNat))) ++ [(Value.int .i64 (IntKind.i64.wrap (En.bAt l12s0 (8 : Int)))), (Value.int .i64 (IntKind.i64.wrap r35.1)), (Value.int .i64 (IntKind.i64.wrap r40.1)), (Value.int .i64 (0 : Int))])), (oRow l12v7 84 tyS_api_Place l12x7)] []) X_ Y_) (S := over (tab [(0, (str (((l12s0.drop ((9 : Int)).toNat).drop (r35.2.1).toNat).drop (r40.2.1).toNat))), (7, l12v7), (8, (ptr g26 0)), (10, (ptr g26 11)), (11, (Value.int .u64 r45.1)), (12, (Value.int .i64 r45.2.1)), (31, (Value.int .u64 r2.1)), (32, (Value.int .u64 l12i32)), (51, (sbx g33 0 3)), (52, (Value.int .i64 (3 : Int))), (53, (Value.int .i64 (2 : Int)))]) F_) ?_
    refine al_val (ov_move rfl rfl) ?_
    refine al_nil ?_
    exact fr_fin hK_ ()⟩, ⟨_, rfl, [], rfl, by
    intro X_ Y_ F_ K_ hK_
    refine al_show (m := Mem.plus (memOf w0 Z0 [] [(oBox g33 124 [(ptr g26 9), (ptr g26 10), (ptr g26 11)]), (oBox g26 84 ((cA8u8 (ofA8u8 (l12s0.take ((8 : Int)).toNat))) ++ [(Value.int .i64 (IntKind.i64.wrap (En.bAt l12s0 (8 : Int)))), (Value.int .i64 (IntKind.i64.wrap r35.1)), (Value.int .i64 (IntKind.i64.wrap r40.1)), (Value.int .i64 (0 : Int))])), (oRow l12v7 84 tyS_api_Place l12x7)] []) X_ Y_) (S := over (tab [(0, (str (((l12s0.drop ((9 : Int)).toNat).drop (r35.2.1).toNat).drop (r40.2.1).toNat))), (7, l12v7), (8, (ptr g26 0)), (10, (ptr g26 11)), (11, (Value.int .u64 r45.1)), (12, (Value.int .i64 r45.2.1)), (31, (Value.int .u64 r2.1)), (32, (Value.int .u64 l12i32)), (51, (sbx g33 0 3)), (52, (Value.int .i64 (3 : Int))), (53, (Value.int .i64 (2 : Int)))]) F_) ?_
    refine al_val (ov_move rfl rfl) ?_
    refine al_nil ?_
    exact fr_fin hK_ ()⟩, ⟨_, rfl, [3, 4], rfl, by
    intro _
    intro _
    intro X_ Y_ F_ K_ hK_
    refine al_show (m := Mem.plus (memOf w0 Z0 [] [(oBox g33 124 [(ptr g26 9), (ptr g26 10), (ptr g26 11)]), (oBox g26 84 ((cA8u8 (ofA8u8 (l12s0.take ((8 : Int)).toNat))) ++ [(Value.int .i64 (IntKind.i64.wrap (En.bAt l12s0 (8 : Int)))), (Value.int .i64 (IntKind.i64.wrap r35.1)), (Value.int .i64 (IntKind.i64.wrap r40.1)), (Value.int .i64 (0 : Int))])), (oRow l12v7 84 tyS_api_Place l12x7)] []) X_ Y_) (S := over (put (put (tab [(0, (str (((l12s0.drop ((9 : Int)).toNat).drop (r35.2.1).toNat).drop (r40.2.1).toNat))), (7, l12v7), (8, (ptr g26 0)), (10, (ptr g26 11)), (11, (Value.int .u64 r45.1)), (12, (Value.int .i64 r45.2.1)), (31, (Value.int .u64 r2.1)), (32, (Value.int .u64 l12i32)), (51, (sbx g33 0 3)), (52, (Value.int .i64 (3 : Int))), (53, (Value.int .i64 (2 : Int)))]) 73 (str (((l12s0.drop ((9 : Int)).toNat).drop (r35.2.1).toNat).drop (r40.2.1).toNat))) 74 (Value.int .i64 r45.2.1)) F_) ?_
    refine al_val (ov_strFrom hc48.1 hc48.2 Tryd.underlying9 rfl rfl rfl) ?_
    refine al_nil ?_
    exact fr_fin hK_ ()⟩, ⟨_, rfl, [0, 1, 2], rfl, by
    intro _
    intro _
    intro _
    intro X_ Y_ F_ K_ hK_
    refine al_show (m := Mem.plus (memOf w0 Z0 [] [(oBox g33 124 [(ptr g26 9), (ptr g26 10), (ptr g26 11)]), (oBox g26 84 ((cA8u8 (ofA8u8 (l12s0.take ((8 : Int)).toNat))) ++ [(Value.int .i64 (IntKind.i64.wrap (En.bAt l12s0 (8 : Int)))), (Value.int .i64 (IntKind.i64.wrap r35.1)), (Value.int .i64 (IntKind.i64.wrap r40.1)), (Value.int .i64 (0 : Int))])), (oRow l12v7 84 tyS_api_Place l12x7)] []) X_ Y_) (S := over (put (put (put (tab [(0, (str (((l12s0.drop ((9 : Int)).toNat).drop (r35.2.1).toNat).drop (r40.2.1).toNat))), (7, l12v7), (8, (ptr g26 0)), (10, (ptr g26 11)), (11, (Value.int .u64 r45.1)), (12, (Value.int .i64 r45.2.1)), (31, (Value.int .u64 r2.1)), (32, (Value.int .u64 l12i32)), (51, (sbx g33 0 3)), (52, (Value.int .i64 (3 : Int))), (53, (Value.int .i64 (2 : Int)))]) 70 (ptr g26 11)) 71 (Value.int .u64 r45.1)) 72 (Value.int .i64 (IntKind.i64.wrap r45.1))) F_) ?_
    refine al_val (ov_nilCheck rfl rfl) ?_
    refine al_nil ?_
    exact fr_fin hK_ ()⟩, trivial⟩ ?_
                            intro _
                            intro _
                            intro _
                            intro _
                            intro X_ Y_ F_ K_ hK_
                            refine al_show (m := Mem.plus (memOf w0 Z0 [] [(oBox g33 124 [(ptr g26 9), (ptr g26 10), (ptr g26 11)]), (oBox g26 84 ((cA8u8 (ofA8u8 (l12s0.take ((8 : Int)).toNat))) ++ [(Value.int .i64 (IntKind.i64.wrap (En.bAt l12s0 (8 : Int)))), (Value.int .i64 (IntKind.i64.wrap r35.1)), (Value.int .i64 (IntKind.i64.wrap r40.1)), (Value.int .i64 (0 : Int))])), (oRow l12v7 84 tyS_api_Place l12x7)] []) X_ Y_) (S := over (put (put (put (put (tab [(0, (str (((l12s0.drop ((9 : Int)).toNat).drop (r35.2.1).toNat).drop (r40.2.1).toNat))), (7, l12v7), (8, (ptr g26 0)), (10, (ptr g26 11)), (11, (Value.int .u64 r45.1)), (12, (Value.int .i64 r45.2.1)), (31, (Value.int .u64 r2.1)), (32, (Value.int .u64 l12i32)), (51, (sbx g33 0 3)), (52, (Value.int .i64 (3 : Int))), (53, (Value.int .i64 (2 : Int)))]) 70 (ptr g26 11)) 71 (Value.int .u64 r45.1)) 72 (Value.int .i64 (IntKind.i64.wrap r45.1))) 76 (ptr g26 11)) F_) ?_
                            refine al_store (i := 1) (vs := [(Value.int .i64 (IntKind.i64.wrap r45.1))]) (cs' := ((cA8u8 (ofA8u8 (l12s0.take ((8 : Int)).toNat))) ++ [(Value.int .i64 (IntKind.i64.wrap (En.bAt l12s0 (8 : Int)))), (Value.int .i64 (IntKind.i64.wrap r35.1)), (Value.int .i64 (IntKind.i64.wrap r40.1)), (Value.int .i64 (IntKind.i64.wrap r45.1))])) rfl rfl rfl sz3 (cv_rfl rfl) rfl (co_val rfl co_nil) (Nat.le_of_ble_eq_true rfl) rfl rfl ?_
                            refine al_nil ?_
                            refine aq_show (m := Mem.plus (memOf w0 Z0 [] [(oBox g33 124 [(ptr g26 9), (ptr g26 10), (ptr g26 11)]), (oBox g26 84 ((cA8u8 (ofA8u8 (l12s0.take ((8 : Int)).toNat))) ++ [(Value.int .i64 (IntKind.i64.wrap (En.bAt l12s0 (8 : Int)))), (Value.int .i64 (IntKind.i64.wrap r35.1)), (Value.int .i64 (IntKind.i64.wrap r40.1)), (Value.int .i64 (IntKind.i64.wrap r45.1))])), (oRow l12v7 84 tyS_api_Place l12x7)] []) X_ Y_) ?_
                            refine aq_next hK_ [0, 1, 2] [] [(0, (str (((l12s0.drop ((9 : Int)).toNat).drop (r35.2.1).toNat).drop (r40.2.1).toNat))), (7, l12v7), (8, (ptr g26 0)), (12, (Value.int .i64 r45.2.1)), (31, (Value.int .u64 r2.1)), (32, (Value.int .u64 l12i32)), (51, (sbx g33 0 3)), (52, (Value.int .i64 (3 : Int))), (53, (Value.int .i64 (2 : Int)))] [73, 74, 75] [] rfl rfl (by decide) rfl ⟨rfl, rfl, rfl, rfl, rfl, rfl, rfl, rfl, rfl, trivial⟩ ⟨rfl, rfl, rfl, trivial⟩ ?_
                            clear hK_ K_ F_ X_ Y_
                            refine ta_show (m := (memOf w0 Z0 [] [(oBox g33 124 [(ptr g26 9), (ptr g26 10), (ptr g26 11)]), (oBox g26 84 ((cA8u8 (ofA8u8 (l12s0.take ((8 : Int)).toNat))) ++ [(Value.int .i64 (IntKind.i64.wrap (En.bAt l12s0 (8 : Int)))), (Value.int .i64 (IntKind.i64.wrap r35.1)), (Value.int .i64 (IntKind.i64.wrap r40.1)), (Value.int .i64 (IntKind.i64.wrap r45.1))])), (oRow l12v7 84 tyS_api_Place l12x7)] [])) (S := (tab [(0, (str (((l12s0.drop ((9 : Int)).toNat).drop (r35.2.1).toNat).drop (r40.2.1).toNat))), (7, l12v7), (8, (ptr g26 0)), (12, (Value.int .i64 r45.2.1)), (31, (Value.int .u64 r2.1)), (32, (Value.int .u64 l12i32)), (51, (sbx g33 0 3)), (52, (Value.int .i64 (3 : Int))), (53, (Value.int .i64 (2 : Int)))])) ?_
                            refine ta_step 8 _ [3, 4, 5] [73, 74, 75] [3, 4, 5] [] [⟨3, 73, Unit, fun _ => { val := (str (((l12s0.drop ((9 : Int)).toNat).drop (r35.2.1).toNat).drop (r40.2.1).toNat)) }⟩, ⟨4, 74, Unit, fun _ => { val := (Value.int .i64 r45.2.1) }⟩, ⟨5, 75, Unit, fun _ => { val := (str ((((l12s0.drop ((9 : Int)).toNat).drop (r35.2.1).toNat).drop (r40.2.1).toNat).drop (r45.2.1).toNat)) }⟩] [] rfl rfl rfl (by kernel_rfl) rfl rfl rfl ⟨⟨_, rfl, [], rfl, by
    intro X_ Y_ F_ K_ hK_
    refine al_show (m := Mem.plus (memOf w0 Z0 [] [(oBox g33 124 [(ptr g26 9), (ptr g26 10), (ptr g26 11)]), (oBox g26 84 ((cA8u8 (ofA8u8 (l12s0.take ((8 : Int)).toNat))) ++ [(Value.int .i64 (IntKind.i64.wrap (En.bAt l12s0 (8 : Int)))), (Value.int .i64 (IntKind.i64.wrap r35.1)), (Value.int .i64 (IntKind.i64.wrap r40.1)), (Value.int .i64 (IntKind.i64.wrap r45.1))])), (oRow l12v7 84 tyS_api_Place l12x7)] []) X_ Y_) (S := over (tab [(0, (str (((l12s0.drop ((9 : Int)).toNat).drop (r35.2.1).toNat).drop (r40.2.1).toNat))), (7, l12v7), (8, (ptr g26 0)), (12, (Value.int .i64 r45.2.1)), (31, (Value.int .u64 r2.1)), (32, (Value.int .u64 l12i32)), (51, (sbx g33 0 3)), (52, (Value.int .i64 (3 : Int))), (53, (Value.int .i64 (2 : Int)))]) F_) ?_
    refine al_val (ov_move rfl rfl) ?_
    refine al_nil ?_
    exact fr_fin hK_ ()⟩, ⟨_, rfl, [], rfl, by
    intro X_ Y_ F_ K_ hK_
    refine al_show (m := Mem.plus (memOf w0 Z0 [] [(oBox g33 124 [(ptr g26 9), (ptr g26 10), (ptr g26 11)]), (oBox g26 84 ((cA8u8 (ofA8u8 (l12s0.take ((8 : Int)).toNat))) ++ [(Value.int .i64 (IntKind.i64.wrap (En.bAt l12s0 (8 : Int)))), (Value.int .i64 (IntKind.i64.wrap r35.1)), (Value.int .i64 (IntKind.i64.wrap r40.1)), (Value.int .i64 (IntKind.i64.wrap r45.1))])), (oRow l12v7 84 tyS_api_Place l12x7)] []) X_ Y_) (S := over (tab [(0, (str (((l12s0.drop ((9 : Int)).toNat).drop (r35.2.1).toNat).drop (r40.2.1).toNat))), (7, l12v7), (8, (ptr g26 0)), (12, (Value.int .i64 r45.2.1)), (31, (Value.int .u64 r2.1)), (32, (Value.int .u64 l12i32)), (51, (sbx g33 0 3)), (52, (Value.int .i64 (3 : Int))), (53, (Value.int .i64 (2 : Int)))]) F_) ?_
    refine al_val (ov_move rfl rfl) ?_
    refine al_nil ?_
    exact fr_fin hK_ ()⟩, ⟨_, rfl, [0, 1], rfl, by
    intro _
    intro _
    intro X_ Y_ F_ K_ hK_
    refine al_show (m := Mem.plus (memOf w0 Z0 [] [(oBox g33 124 [(ptr g26 9), (ptr g26 10), (ptr g26 11)]), (oBox g26 84 ((cA8u8 (ofA8u8 (l12s0.take ((8 : Int)).toNat))) ++ [(Value.int .i64 (IntKind.i64.wrap (En.bAt l12s0 (8 : Int)))), (Value.int .i64 (IntKind.i64.wrap r35.1)), (Value.int .i64 (IntKind.i64.wrap r40.1)), (Value.int .i64 (IntKind.i64.wrap r45.1))])), (oRow l12v7 84 tyS_api_Place l12x7)] []) X_ Y_) (S := over (put (put (tab [(0, (str (((l12s0.drop ((9 : Int)).toNat).drop (r35.2.1).toNat).drop (r40.2.1).toNat))), (7, l12v7), (8, (ptr g26 0)), (12, (Value.int .i64 r45.2.1)), (31, (Value.int .u64 r2.1)), (32, (Value.int .u64 l12i32)), (51, (sbx g33 0 3)), (52, (Value.int .i64 (3 : Int))), (53, (Value.int .i64 (2 : Int)))]) 73 (str (((l12s0.drop ((9 : Int)).toNat).drop (r35.2.1).toNat).drop (r40.2.1).toNat))) 74 (Value.int .i64 r45.2.1)) F_) ?_
    refine al_val (ov_strFrom hc48.1 hc48.2 Tryd.underlying9 rfl rfl rfl) ?_
    refine al_nil ?_
    exact fr_fin hK_ ()⟩, trivial⟩ ?_
                            intro _
                            intro _
                            intro _
                            intro X_ Y_ F_ K_ hK_
                            refine al_show (m := Mem.plus (memOf w0 Z0 [] [(oBox g33 124 [(ptr g26 9), (ptr g26 10), (ptr g26 11)]), (oBox g26 84 ((cA8u8 (ofA8u8 (l12s0.take ((8 : Int)).toNat))) ++ [(Value.int .i64 (IntKind.i64.wrap (En.bAt l12s0 (8 : Int)))), (Value.int .i64 (IntKind.i64.wrap r35.1)), (Value.int .i64 (IntKind.i64.wrap r40.1)), (Value.int .i64 (IntKind.i64.wrap r45.1))])), (oRow l12v7 84 tyS_api_Place l12x7)] []) X_ Y_) (S := over (put (put (put (tab [(0, (str (((l12s0.drop ((9 : Int)).toNat).drop (r35.2.1).toNat).drop (r40.2.1).toNat))), (7, l12v7), (8, (ptr g26 0)), (12, (Value.int .i64 r45.2.1)), (31, (Value.int .u64 r2.1)), (32, (Value.int .u64 l12i32)), (51, (sbx g33 0 3)), (52, (Value.int .i64 (3 : Int))), (53, (Value.int .i64 (2 : Int)))]) 73 (str (((l12s0.drop ((9 : Int)).toNat).drop (r35.2.1).toNat).drop (r40.2.1).toNat))) 74 (Value.int .i64 r45.2.1)) 75 (str ((((l12s0.drop ((9 : Int)).toNat).drop (r35.2.1).toNat).drop (r40.2.1).toNat).drop (r45.2.1).toNat))) F_) ?_
                            refine al_val (ov_assign rfl rfl) ?_
                            refine al_nil ?_
                            refine aq_show (m := Mem.plus (memOf w0 Z0 [] [(oBox g33 124 [(ptr g26 9), (ptr g26 10), (ptr g26 11)]), (oBox g26 84 ((cA8u8 (ofA8u8 (l12s0.take ((8 : Int)).toNat))) ++ [(Value.int .i64 (IntKind.i64.wrap (En.bAt l12s0 (8 : Int)))), (Value.int .i64 (IntKind.i64.wrap r35.1)), (Value.int .i64 (IntKind.i64.wrap r40.1)), (Value.int .i64 (IntKind.i64.wrap r45.1))])), (oRow l12v7 84 tyS_api_Place l12x7)] []) X_ Y_) ?_
                            refine aq_next hK_ [0, 1, 2] [] [(0, (str ((((l12s0.drop ((9 : Int)).toNat).drop (r35.2.1).toNat).drop (r40.2.1).toNat).drop (r45.2.1).toNat))), (7, l12v7), (8, (ptr g26 0)), (31, (Value.int .u64 r2.1)), (32, (Value.int .u64 l12i32)), (51, (sbx g33 0 3)), (52, (Value.int .i64 (3 : Int))), (53, (Value.int .i64 (2 : Int)))] [] [] rfl rfl (by decide) rfl ⟨rfl, rfl, rfl, rfl, rfl, rfl, rfl, rfl, trivial⟩ trivial ?_
                            clear hK_ K_ F_ X_ Y_
                            refine ta_show (m := (memOf w0 Z0 [] [(oBox g33 124 [(ptr g26 9), (ptr g26 10), (ptr g26 11)]), (oBox g26 84 ((cA8u8 (ofA8u8 (l12s0.take ((8 : Int)).toNat))) ++ [(Value.int .i64 (IntKind.i64.wrap (En.bAt l12s0 (8 : Int)))), (Value.int .i64 (IntKind.i64.wrap r35.1)), (Value.int .i64 (IntKind.i64.wrap r40.1)), (Value.int .i64 (IntKind.i64.wrap r45.1))])), (oRow l12v7 84 tyS_api_Place l12x7)] [])) (S := (tab [(0, (str ((((l12s0.drop ((9 : Int)).toNat).drop (r35.2.1).toNat).drop (r40.2.1).toNat).drop (r45.2.1).toNat))), (7, l12v7), (8, (ptr g26 0)), (31, (Value.int .u64 r2.1)), (32, (Value.int .u64 l12i32)), (51, (sbx g33 0 3)), (52, (Value.int .i64 (3 : Int))), (53, (Value.int .i64 (2 : Int)))])) ?_
                            refine ta_end [] [] rfl rfl (by kernel_rfl) rfl trivial ?_
                            refine aq_show (m := (memOf w0 Z0 [] [(oBox g33 124 [(ptr g26 9), (ptr g26 10), (ptr g26 11)]), (oBox g26 84 ((cA8u8 (ofA8u8 (l12s0.take ((8 : Int)).toNat))) ++ [(Value.int .i64 (IntKind.i64.wrap (En.bAt l12s0 (8 : Int)))), (Value.int .i64 (IntKind.i64.wrap r35.1)), (Value.int .i64 (IntKind.i64.wrap r40.1)), (Value.int .i64 (IntKind.i64.wrap r45.1))])), (oRow l12v7 84 tyS_api_Place l12x7)] [])) (S := (tab [(0, (str ((((l12s0.drop ((9 : Int)).toNat).drop (r35.2.1).toNat).drop (r40.2.1).toNat).drop (r45.2.1).toNat))), (7, l12v7), (8, (ptr g26 0)), (31, (Value.int .u64 r2.1)), (32, (Value.int .u64 l12i32)), (51, (sbx g33 0 3)), (52, (Value.int .i64 (3 : Int))), (53, (Value.int .i64 (2 : Int)))])) ?_
                            refine aq_block ?_
                            refine aq_then ?_
                            refine aw_region ?_
                            refine al_val (v := (Value.int .i64 (3 : Int))) (ov_int rfl rfl rfl rfl) ?_
                            refine al_val (ov_move rfl rfl) ?_
                            refine al_nil ?_
                            refine aq_round ?_
                            refine aw_seq ?_
                            refine aw_region ?_
                            refine al_val (v := (Value.bool false)) (ov_int rfl rfl rfl rfl) ?_
                            refine al_nil ?_
                            refine aq_then ?_
                            refine aw_seq ?_
                            refine aw_cond_f rfl ?_
                            refine aw_exit ?_
                            refine aq_then_exit ?_
                            refine aq_then_exit ?_
                            refine aq_block_exit ?_
                            exact aq_join (((((l12s0.drop ((9 : Int)).toNat).drop (r35.2.1).toNat).drop (r40.2.1).toNat).drop (r45.2.1).toNat), (IntKind.i64.wrap r35.1), (IntKind.i64.wrap r40.1), (IntKind.i64.wrap r45.1)) h (fun w a hm hs => norm hm hs [2, 1] [] [(0, (str ((((l12s0.drop ((9 : Int)).toNat).drop (r35.2.1).toNat).drop (r40.2.1).toNat).drop (r45.2.1).toNat))), (7, l12v7), (8, (ptr g26 0)), (31, (Value.int .u64 r2.1)), (32, (Value.int .u64 l12i32))] (by decide) ⟨rfl, rfl, rfl, rfl, rfl, trivial⟩)
        · replace h := bif_f hb16 h
          refine aw_exit ?_
          refine aq_then_exit ?_
          refine aq_then_exit ?_
          refine aq_block_exit ?_
          exact aq_join (l12s0, l12v7, l12x7) h (fun w a hm hs => norm hm hs [0] [] [(0, (str l12s0)), (7, l12v7)] (by decide) ⟨rfl, rfl, trivial⟩)
def f_stringslite_HasPrefix (fu : Nat) (a0 : (List UInt8)) (a1 : (List UInt8)) : Option Bool := (lt (fun (j1b4 : Bool) => (some j1b4)) fun (kk2 : Bool → Option Bool) => (bif (decide ((a0.length : Int) ≥ (a1.length : Int))) then (req (0 ≤ (a1.length : Int) ∧ (a1.length : Int) ≤ (a0.length : Int)) (kk2 ((a0.take ((a1.length : Int)).toNat) == a1))) else (kk2 false)))
set_option maxRecDepth 100000 in
theorem f_stringslite_HasPrefix_ok (fu : Nat) (a0 : (List UInt8)) (a1 : (List UInt8)) {r : Bool} (h : f_stringslite_HasPrefix fu a0 a1 = some r) : FnOk Tryd.prog 134 [(str a0), (str a1)] [] [] (fun (i : Unit) => { val := (Value.bool r) }) := by
  unfold f_stringslite_HasPrefix at h
  refine fn_enter Tryd.func134 rfl Tryd.ntmps134 rfl (fun w0 Z0 => ?_)
  refine aw_seq ?_
  refine aw_region ?_
  refine al_val (ov_assign rfl rfl) ?_
  refine al_nil ?_
  refine aq_then ?_
  obtain ⟨kk2, hkk2, h⟩ := lt_some h
  refine aw_seq_join (ι := Bool) (fun i => (memOf w0 Z0 [] [] [])) (fun i => (tab [(4, (Value.bool i))])) (fun i => kk2 i = some r) ?_ ?_
  · rintro j1b4 h
    have h : kk2 j1b4 = some r := h
    rw [hkk2] at h
    dsimp only at h
    clear hkk2
    refine aw_show (m := (memOf w0 Z0 [] [] [])) (S := (tab [(4, (Value.bool j1b4))])) ?_
    refine aw_ret ?_
    obtain rfl := Option.some.inj h
    exact fn_ret () [] [] rfl rfl rfl rfl (res1 rfl rfl) rfl rfl rfl (by decide)
  · clear hkk2
    refine aw_region ?_
    refine al_val (ov_move rfl rfl) ?_
    refine al_val (ov_strLen Tryd.underlying9 rfl rfl) ?_
    refine al_val (ov_move rfl rfl) ?_
    refine al_val (ov_strLen Tryd.underlying9 rfl rfl) ?_
    refine al_val (ov_int rfl rfl rfl rfl) ?_
    refine al_val (ov_move rfl rfl) ?_
    refine al_caseB 10 rfl (fun hb3 => ?_) (fun hb3 => ?_)
    · replace h := bif_t hb3 h
      refine al_val (ov_move rfl rfl) ?_
      refine al_val (ov_move rfl rfl) ?_
      refine al_val (ov_strLen Tryd.underlying9 rfl rfl) ?_
      obtain ⟨hc4, h⟩ := req_some h
      refine al_val (ov_strTo hc4.1 hc4.2 Tryd.underlying9 rfl rfl rfl) ?_
      refine al_val (ov_move rfl rfl) ?_
      refine al_val (ov_strCmp rfl rfl rfl rfl) ?_
      refine al_val (ov_pick_t rfl rfl rfl) ?_
      refine al_val (ov_assign rfl rfl) ?_
      refine al_nil ?_
      exact aq_join ((a0.take ((a1.length : Int)).toNat) == a1) h (fun w a hm hs => norm hm hs [] [] [(4, (Value.bool ((a0.take ((a1.length : Int)).toNat) == a1)))] (by decide) ⟨rfl, trivial⟩)
    · replace h := bif_f hb3 h
      refine al_skip ?_
      refine al_skip ?_
      refine al_skip ?_
      refine al_skip ?_
      refine al_skip ?_
      refine al_skip ?_
      refine al_val (ov_pick_f rfl rfl rfl) ?_
      refine al_val (ov_assign rfl rfl) ?_
      refine al_nil ?_
      exact aq_join false h (fun w a hm hs => norm hm hs [] [] [(4, (Value.bool false))] (by decide) ⟨rfl, trivial⟩)
def f_strings_HasPrefix (fu : Nat) (a0 : (List UInt8)) (a1 : (List UInt8)) : Option Bool := (opt (f_stringslite_HasPrefix fu a0 a1) fun (r2 : Bool) => (some r2))
set_option maxRecDepth 100000 in
theorem f_strings_HasPrefix_ok (fu : Nat) (a0 : (List UInt8)) (a1 : (List UInt8)) {r : Bool} (h : f_strings_HasPrefix fu a0 a1 = some r) : FnOk Tryd.prog 102 [(str a0), (str a1)] [] [] (fun (i : Unit) => { val := (Value.bool r) }) := by
  unfold f_strings_HasPrefix at h
  refine fn_enter Tryd.func102 rfl Tryd.ntmps102 rfl (fun w0 Z0 => ?_)
  refine aw_seq ?_
  refine aw_region ?_
  refine al_val (ov_assign rfl rfl) ?_
  refine al_nil ?_
  refine aq_then ?_
  refine aw_seq ?_
  refine aw_region ?_
  refine al_val (ov_move rfl rfl) ?_
  refine al_val (ov_move rfl rfl) ?_
  obtain ⟨r2, hc1, h⟩ := opt_some h
  refine al_call (vs := [(str a0), (str a1)]) (f_stringslite_HasPrefix_ok fu a0 a1 hc1) [] [] [] pre_nil rfl (by simp) (by decide) (.inl rfl) rfl Tryd.func134 rfl rfl rfl (fun _ => ?_)
  refine al_val (ov_assign rfl rfl) ?_
  refine al_nil ?_
  refine aq_then ?_
  refine aw_ret ?_
  obtain rfl := Option.some.inj h
  exact fn_ret () [] [] rfl rfl rfl rfl (res1 rfl rfl) rfl rfl rfl (by decide)
def f_lumref_number : Nat → (List UInt8) → Option Int
  | 0, _ => none
  | fu + 1, a0 => (bif (a0 == ([] : List UInt8)) then (some (0 : Int)) else (req (0 ≤ (IntKind.i64.wrap ((a0.length : Int) - (1 : Int))) ∧ (IntKind.i64.wrap ((a0.length : Int) - (1 : Int))) ≤ (a0.length : Int)) (opt (f_lumref_number fu (a0.take ((IntKind.i64.wrap ((a0.length : Int) - (1 : Int)))).toNat)) fun (r4 : Int) => (req (0 ≤ (IntKind.i64.wrap ((a0.length : Int) - (1 : Int))) ∧ (IntKind.i64.wrap ((a0.length : Int) - (1 : Int))) < (a0.length : Int)) (some (IntKind.u64.wrap ((IntKind.u64.wrap ((256 : Int) * r4)) + (IntKind.u64.wrap (En.bAt a0 (IntKind.i64.wrap ((a0.length : Int) - (1 : Int))))))))))))
set_option maxRecDepth 100000 in
theorem f_lumref_number_ok (fu : Nat) (a0 : (List UInt8)) {r : Int} (h : f_lumref_number fu a0 = some r) : FnOk Tryd.prog 103 [(str a0)] [] [] (fun (i : Unit) => { val := (Value.int .u64 r) }) := by
  cases fu with
  | zero => rw [f_lumref_number] at h; cases h
  | succ fu =>
    rw [f_lumref_number] at h
    refine fn_enter Tryd.func103 rfl Tryd.ntmps103 rfl (fun w0 Z0 => ?_)
    refine aw_seq ?_
    refine aw_region ?_
    refine al_val (ov_assign rfl rfl) ?_
    refine al_nil ?_
    refine aq_then ?_
    refine aw_seq ?_
    refine aw_seq ?_
    refine aw_region ?_
    refine al_val (ov_move rfl rfl) ?_
    refine al_val (ov_strCmp rfl rfl rfl rfl) ?_
    refine al_nil ?_
    refine aq_then ?_
    refine aw_cond rfl (fun hb1 => ?_) (fun hb1 => ?_)
    · replace h := bif_t hb1 h
      refine aw_seq ?_
      refine aw_region ?_
      refine al_val (ov_assign rfl rfl) ?_
      refine al_nil ?_
      refine aq_then ?_
      refine aw_ret ?_
      refine aq_then_ret ?_
      obtain rfl := Option.some.inj h
      exact fn_ret () [] [] rfl rfl rfl rfl (res1 rfl rfl) rfl rfl rfl (by decide)
    · replace h := bif_f hb1 h
      refine aw_skip ?_
      refine aq_then ?_
      refine aw_seq ?_
      obtain ⟨hc2, h⟩ := req_some h
      obtain ⟨r4, hc3, h⟩ := opt_some h
      obtain ⟨hc5, h⟩ := req_some h
      refine aw_region_draw 14 [(5, (fun u => fEq u (str a0))), (6, (fun u => fEq u (str a0))), (7, (fun u => fEq u (Value.int .i64 (a0.length : Int)))), (8, (fun u => fEq u (Value.int .i64 (IntKind.i64.wrap ((a0.length : Int) - (1 : Int)))))), (9, (fun u => fEq u (str (a0.take ((IntKind.i64.wrap ((a0.length : Int) - (1 : Int)))).toNat)))), (10, (fun u => fEq u (Value.int .u64 r4))), (11, (fun u => fEq u (Value.int .u64 (IntKind.u64.wrap ((256 : Int) * r4))))), (12, (fun u => fEq u (str a0))), (13, (fun u => fEq u (str a0))), (14, (fun u => fEq u (Value.int .i64 (a0.length : Int)))), (15, (fun u => fEq u (Value.int .i64 (IntKind.i64.wrap ((a0.length : Int) - (1 : Int)))))), (16, (fun u => fEq u (Value.int .u8 (En.bAt a0 (IntKind.i64.wrap ((a0.length : Int) - (1 : Int))))))), (17, (fun u => fEq u (Value.int .u64 (IntKind.u64.wrap (En.bAt a0 (IntKind.i64.wrap ((a0.length : Int) - (1 : Int)))))))), (18, (fun u => fEq u (Value.int .u64 (IntKind.u64.wrap ((IntKind.u64.wrap ((256 : Int) * r4)) + (IntKind.u64.wrap (En.bAt a0 (IntKind.i64.wrap ((a0.length : Int) - (1 : Int))))))))))] (tab [(0, (str a0)), (2, (Value.int .u64 (0 : Int)))]) mixed (by kernel_rfl) rfl rfl rfl (fun a hs => hs.tab _ (allT_mem ⟨rfl, rfl, trivial⟩)) ⟨⟨rfl, ld_val (ov_move rfl rfl)⟩, ⟨rfl, ld_val (ov_move rfl rfl)⟩, ⟨rfl, ld_eq (j := 1) rfl rfl (ld_val (ov_strLen Tryd.underlying9 rfl rfl))⟩, ⟨rfl, ld_eq (j := 2) rfl rfl (ld_val (ov_int rfl rfl rfl rfl))⟩, ⟨rfl, ld_eq (j := 0) rfl rfl (ld_eq (j := 3) rfl rfl (ld_val (ov_strTo hc2.1 hc2.2 Tryd.underlying9 rfl rfl rfl)))⟩, ⟨rfl, ld_eq (j := 4) rfl rfl (ld_callV (vs := [(str (a0.take ((IntKind.i64.wrap ((a0.length : Int) - (1 : Int)))).toNat))]) (f_lumref_number_ok fu (a0.take ((IntKind.i64.wrap ((a0.length : Int) - (1 : Int)))).toNat) hc3) [] pre_nil rfl Tryd.func103 rfl rfl rfl)⟩, ⟨rfl, ld_eq (j := 5) rfl rfl (ld_val (ov_int rfl rfl rfl rfl))⟩, ⟨rfl, ld_val (ov_move rfl rfl)⟩, ⟨rfl, ld_val (ov_move rfl rfl)⟩, ⟨rfl, ld_eq (j := 8) rfl rfl (ld_val (ov_strLen Tryd.underlying9 rfl rfl))⟩, ⟨rfl, ld_eq (j := 9) rfl rfl (ld_val (ov_int rfl rfl rfl rfl))⟩, ⟨rfl, ld_eq (j := 7) rfl rfl (ld_eq (j := 10) rfl rfl (ld_val (ov_strIdx hc5.1 hc5.2 Tryd.underlying9 rfl rfl rfl)))⟩, ⟨rfl, ld_eq (j := 11) rfl rfl (ld_val (ov_convInt (by rw [Tryd.underlying5]; rfl) Tryd.underlying87 rfl rfl))⟩, ⟨rfl, ld_eq (j := 6) rfl rfl (ld_eq (j := 12) rfl rfl (ld_val (ov_int rfl rfl rfl rfl)))⟩, trivial⟩ ?_
      refine tl_eq 13 rfl ?_
      refine tl_done ?_
      refine al_val (ov_assign rfl rfl) ?_
      refine al_nil ?_
      refine aq_then ?_
      refine aw_ret ?_
      obtain rfl := Option.some.inj h
      exact fn_ret () [] [] rfl rfl rfl rfl (res1 rfl rfl) rfl rfl rfl (by decide)
def f_lumref_Get (fu : Nat) (a0 : (List UInt8)) : Option (Int × Int × Int) := (bif ((a0.length : Int) == (0 : Int)) then (some ((0 : Int), (0 : Int), (3 : Int))) else (req (0 ≤ (0 : Int) ∧ (0 : Int) < (a0.length : Int)) (bif (decide ((En.bAt a0 (0 : Int)) > (8 : Int))) then (some ((0 : Int), (0 : Int), (4 : Int))) else (req (0 ≤ (0 : Int) ∧ (0 : Int) < (a0.length : Int)) (bif (decide ((a0.length : Int) < (IntKind.i64.wrap ((1 : Int) + (IntKind.i64.wrap (En.bAt a0 (0 : Int))))))) then (some ((0 : Int), (0 : Int), (3 : Int))) else (req (0 ≤ (1 : Int) ∧ (1 : Int) ≤ (IntKind.i64.wrap ((1 : Int) + (IntKind.i64.wrap (En.bAt a0 (0 : Int))))) ∧ (IntKind.i64.wrap ((1 : Int) + (IntKind.i64.wrap (En.bAt a0 (0 : Int))))) ≤ (a0.length : Int)) (opt (f_strings_HasPrefix fu (cut a0 (1 : Int) (IntKind.i64.wrap ((1 : Int) + (IntKind.i64.wrap (En.bAt a0 (0 : Int)))))) ([0] : List UInt8)) fun (r8 : Bool) => (bif r8 then (some ((0 : Int), (0 : Int), (4 : Int))) else (req (0 ≤ (1 : Int) ∧ (1 : Int) ≤ (IntKind.i64.wrap ((1 : Int) + (IntKind.i64.wrap (En.bAt a0 (0 : Int))))) ∧ (IntKind.i64.wrap ((1 : Int) + (IntKind.i64.wrap (En.bAt a0 (0 : Int))))) ≤ (a0.length : Int)) (opt (f_lumref_number fu (cut a0 (1 : Int) (IntKind.i64.wrap ((1 : Int) + (IntKind.i64.wrap (En.bAt a0 (0 : Int))))))) fun (r12 : Int) => (some (r12, (IntKind.i64.wrap ((1 : Int) + (IntKind.i64.wrap (En.bAt a0 (0 : Int))))), (0 : Int)))))))))))))
set_option maxRecDepth 100000 in
theorem f_lumref_Get_ok (fu : Nat) (a0 : (List UInt8)) {r : (Int × Int × Int)} (h : f_lumref_Get fu a0 = some r) : FnOk Tryd.prog 59 [(str a0)] [] [] (fun (i : Unit) => { val := (Value.tuple #[(Value.int .u64 r.1), (Value.int .i64 r.2.1), (Value.int .i64 r.2.2)]) }) := by
  unfold f_lumref_Get at h
  refine fn_enter Tryd.func59 rfl Tryd.ntmps59 rfl (fun w0 Z0 => ?_)
  refine aw_seq ?_
  refine aw_region ?_
  refine al_val (ov_assign rfl rfl) ?_
  refine al_val (ov_assign rfl rfl) ?_
  refine al_val (ov_assign rfl rfl) ?_
  refine al_nil ?_
  refine aq_then ?_
  refine aw_seq ?_
  refine aw_seq ?_
  refine aw_region ?_
  refine al_val (ov_move rfl rfl) ?_
  refine al_val (ov_strLen Tryd.underlying9 rfl rfl) ?_
  refine al_val (ov_int rfl rfl rfl rfl) ?_
  refine al_nil ?_
  refine aq_then ?_
  refine aw_cond rfl (fun hb1 => ?_) (fun hb1 => ?_)
  · replace h := bif_t hb1 h
    refine aw_seq ?_
    refine aw_region ?_
    refine al_val (ov_assign rfl rfl) ?_
    refine al_val (ov_assign rfl rfl) ?_
    refine al_val (ov_assign rfl rfl) ?_
    refine al_nil ?_
    refine aq_then ?_
    refine aw_ret ?_
    refine aq_then_ret ?_
    obtain rfl := Option.some.inj h
    exact fn_ret () [] [] rfl rfl rfl rfl (res3 rfl rfl rfl rfl) rfl rfl rfl (by decide)
  · replace h := bif_f hb1 h
    refine aw_skip ?_
    refine aq_then ?_
    refine aw_seq ?_
    refine aw_seq ?_
    refine aw_region ?_
    refine al_val (ov_move rfl rfl) ?_
    obtain ⟨hc2, h⟩ := req_some h
    refine al_val (ov_strIdx hc2.1 hc2.2 Tryd.underlying9 rfl rfl rfl) ?_
    refine al_val (ov_int rfl rfl rfl rfl) ?_
    refine al_nil ?_
    refine aq_then ?_
    refine aw_cond rfl (fun hb3 => ?_) (fun hb3 => ?_)
    · replace h := bif_t hb3 h
      refine aw_seq ?_
      refine aw_region ?_
      refine al_val (ov_assign rfl rfl) ?_
      refine al_val (ov_assign rfl rfl) ?_
      refine al_val (ov_assign rfl rfl) ?_
      refine al_nil ?_
      refine aq_then ?_
      refine aw_ret ?_
      refine aq_then_ret ?_
      obtain rfl := Option.some.inj h
      exact fn_ret () [] [] rfl rfl rfl rfl (res3 rfl rfl rfl rfl) rfl rfl rfl (by decide)
    · replace h := bif_f hb3 h
      refine aw_skip ?_
      refine aq_then ?_
      refine aw_seq ?_
      refine aw_region ?_
      refine al_val (ov_move rfl rfl) ?_
      obtain ⟨hc4, h⟩ := req_some h
      refine al_val (ov_strIdx hc4.1 hc4.2 Tryd.underlying9 rfl rfl rfl) ?_
      refine al_val (ov_convInt (by rw [Tryd.underlying5]; rfl) Tryd.underlying3 rfl rfl) ?_
      refine al_val (ov_int rfl rfl rfl rfl) ?_
      refine al_val (ov_assign rfl rfl) ?_
      refine al_nil ?_
      refine aq_then ?_
      refine aw_seq ?_
      refine aw_seq ?_
      refine aw_region ?_
      refine al_val (ov_move rfl rfl) ?_
      refine al_val (ov_strLen Tryd.underlying9 rfl rfl) ?_
      refine al_val (ov_move rfl rfl) ?_
      refine al_val (ov_int rfl rfl rfl rfl) ?_
      refine al_nil ?_
      refine aq_then ?_
      refine aw_cond rfl (fun hb5 => ?_) (fun hb5 => ?_)
      · replace h := bif_t hb5 h
        refine aw_seq ?_
        refine aw_region ?_
        refine al_val (ov_assign rfl rfl) ?_
        refine al_val (ov_assign rfl rfl) ?_
        refine al_val (ov_assign rfl rfl) ?_
        refine al_nil ?_
        refine aq_then ?_
        refine aw_ret ?_
        refine aq_then_ret ?_
        obtain rfl := Option.some.inj h
        exact fn_ret () [] [] rfl rfl rfl rfl (res3 rfl rfl rfl rfl) rfl rfl rfl (by decide)
      · replace h := bif_f hb5 h
        refine aw_skip ?_
        refine aq_then ?_
        refine aw_seq ?_
        refine aw_seq ?_
        refine aw_region ?_
        refine al_val (ov_move rfl rfl) ?_
        refine al_val (ov_move rfl rfl) ?_
        obtain ⟨hc6, h⟩ := req_some h
        refine al_val (ov_strCut hc6.1 hc6.2.1 hc6.2.2 Tryd.underlying9 rfl rfl rfl rfl) ?_
        obtain ⟨r8, hc7, h⟩ := opt_some h
        refine al_call (vs := [(str (cut a0 (1 : Int) (IntKind.i64.wrap ((1 : Int) + (IntKind.i64.wrap (En.bAt a0 (0 : Int))))))), (str ([0] : List UInt8))]) (f_strings_HasPrefix_ok fu (cut a0 (1 : Int) (IntKind.i64.wrap ((1 : Int) + (IntKind.i64.wrap (En.bAt a0 (0 : Int)))))) ([0] : List UInt8) hc7) [] [] [] pre_nil rfl (by simp) (by decide) (.inl rfl) rfl Tryd.func102 rfl rfl rfl (fun _ => ?_)
        refine al_nil ?_
        refine aq_then ?_
        refine aw_cond rfl (fun hb9 => ?_) (fun hb9 => ?_)
        · replace h := bif_t hb9 h
          refine aw_seq ?_
          refine aw_region ?_
          refine al_val (ov_assign rfl rfl) ?_
          refine al_val (ov_assign rfl rfl) ?_
          refine al_val (ov_assign rfl rfl) ?_
          refine al_nil ?_
          refine aq_then ?_
          refine aw_ret ?_
          refine aq_then_ret ?_
          obtain rfl := Option.some.inj h
          exact fn_ret () [] [] rfl rfl rfl rfl (res3 rfl rfl rfl rfl) rfl rfl rfl (by decide)
        · replace h := bif_f hb9 h
          refine aw_skip ?_
          refine aq_then ?_
          refine aw_seq ?_
          refine aw_region ?_
          refine al_val (ov_move rfl rfl) ?_
          refine al_val (ov_move rfl rfl) ?_
          obtain ⟨hc10, h⟩ := req_some h
          refine al_val (ov_strCut hc10.1 hc10.2.1 hc10.2.2 Tryd.underlying9 rfl rfl rfl rfl) ?_
          obtain ⟨r12, hc11, h⟩ := opt_some h
          refine al_call (vs := [(str (cut a0 (1 : Int) (IntKind.i64.wrap ((1 : Int) + (IntKind.i64.wrap (En.bAt a0 (0 : Int)))))))]) (f_lumref_number_ok fu (cut a0 (1 : Int) (IntKind.i64.wrap ((1 : Int) + (IntKind.i64.wrap (En.bAt a0 (0 : Int)))))) hc11) [] [] [] pre_nil rfl (by simp) (by decide) (.inl rfl) rfl Tryd.func103 rfl rfl rfl (fun _ => ?_)
          refine al_val (ov_move rfl rfl) ?_
          refine al_val (ov_assign rfl rfl) ?_
          refine al_val (ov_assign rfl rfl) ?_
          refine al_val (ov_assign rfl rfl) ?_
          refine al_nil ?_
          refine aq_then ?_
          refine aw_ret ?_
          obtain rfl := Option.some.inj h
          exact fn_ret () [] [] rfl rfl rfl rfl (res3 rfl rfl rfl rfl) rfl rfl rfl (by decide)
def f_lumref_IndexRead_L31 (kk25 : ((List UInt8) → A3u64 → Option ((List S_api_Place) × Int))) (fu : Nat) : Nat → (List UInt8) → A3u64 → Int → Option ((List S_api_Place) × Int)
  | 0, _, _, _ => none
  | k30 + 1, l29s0, l29A9_0, l29i45 => (bif (decide (l29i45 < (3 : Int))) then (opt (f_lumref_Get fu l29s0) fun (r34 : (Int × Int × Int)) => (bif (r34.2.2 != (0 : Int)) then (some (([] : List S_api_Place), r34.2.2)) else (bif (decide (r34.1 > (1099511627776 : Int))) then (some (([] : List S_api_Place), (2 : Int))) else (opt (at? (lA3u64 l29A9_0) l29i45) fun (u37 : Int) => (req (0 ≤ r34.2.1 ∧ r34.2.1 ≤ (l29s0.length : Int)) (f_lumref_IndexRead_L31 kk25 fu k30 (l29s0.drop (r34.2.1).toNat) (setA3u64 l29A9_0 l29i45 r34.1) (IntKind.i64.wrap (l29i45 + (1 : Int))))))))) else (kk25 l29s0 l29A9_0))
def f_lumref_IndexRead_L14 (r2 : (Int × Int × Int)) (kk7 : ((List UInt8) → (List S_api_Place) → Option ((List S_api_Place) × Int))) (fu : Nat) : Nat → (List UInt8) → (List S_api_Place) → Int → Option ((List S_api_Place) × Int)
  | 0, _, _, _ => none
  | k13 + 1, l12s0, l12x7, l12i30 => (lt (fun (l12s0 : (List UInt8)) (l12x7 : (List S_api_Place)) (l12i30 : Int) => (f_lumref_IndexRead_L14 r2 kk7 fu k13 l12s0 l12x7 l12i30)) fun (kk15 : (List UInt8) → (List S_api_Place) → Int → Option ((List S_api_Place) × Int)) => (bif (decide (l12i30 < r2.1)) then (lt (fun (j17s0 : (List UInt8)) (j17x7 : (List S_api_Place)) => (kk15 j17s0 j17x7 (IntKind.u64.wrap (l12i30 + (1 : Int))))) fun (kk18 : (List UInt8) → (List S_api_Place) → Option ((List S_api_Place) × Int)) => (bif (decide ((l12s0.length : Int) < (9 : Int))) then (some (([] : List S_api_Place), (3 : Int))) else (req (0 ≤ (8 : Int) ∧ (8 : Int) < (l12s0.length : Int)) (req (0 ≤ (9 : Int) ∧ (9 : Int) ≤ (l12s0.length : Int)) (lt (fun (j24s0 : (List UInt8)) (j24A9_0 : A3u64) => (req (((l12x7.length + ([(S_api_Place.mk (cpA8u8 (A8u8.mk (0 : UInt8) (0 : UInt8) (0 : UInt8) (0 : UInt8) (0 : UInt8) (0 : UInt8) (0 : UInt8) (0 : UInt8)) l12s0) (IntKind.i64.wrap (En.bAt l12s0 (8 : Int))) (IntKind.i64.wrap j24A9_0.e0) (IntKind.i64.wrap j24A9_0.e1) (IntKind.i64.wrap j24A9_0.e2))]).length) * 40 : Nat) ≤ 140737488355328 ∧ l12x7.length + ([(S_api_Place.mk (cpA8u8 (A8u8.mk (0 : UInt8) (0 : UInt8) (0 : UInt8) (0 : UInt8) (0 : UInt8) (0 : UInt8) (0 : UInt8) (0 : UInt8)) l12s0) (IntKind.i64.wrap (En.bAt l12s0 (8 : Int))) (IntKind.i64.wrap j24A9_0.e0) (IntKind.i64.wrap j24A9_0.e1) (IntKind.i64.wrap j24A9_0.e2))]).length ≤ 9223372036854775807) (kk18 j24s0 (l12x7 ++ ([(S_api_Place.mk (cpA8u8 (A8u8.mk (0 : UInt8) (0 : UInt8) (0 : UInt8) (0 : UInt8) (0 : UInt8) (0 : UInt8) (0 : UInt8) (0 : UInt8)) l12s0) (IntKind.i64.wrap (En.bAt l12s0 (8 : Int))) (IntKind.i64.wrap j24A9_0.e0) (IntKind.i64.wrap j24A9_0.e1) (IntKind.i64.wrap j24A9_0.e2))]))))) fun (kk25 : (List UInt8) → A3u64 → Option ((List S_api_Place) × Int)) => (f_lumref_IndexRead_L31 kk25 fu fu (l12s0.drop ((9 : Int)).toNat) (A3u64.mk (0 : Int) (0 : Int) (0 : Int)) (0 : Int))))))) else (kk7 l12s0 l12x7)))
def f_lumref_IndexRead (fu : Nat) (a0 : (List UInt8)) : Option ((List S_api_Place) × Int) := (opt (f_lumref_Get fu a0) fun (r2 : (Int × Int × Int)) => (bif (r2.2.2 != (0 : Int)) then (some (([] : List S_api_Place), r2.2.2)) else (bif (decide (r2.1 > (400 : Int))) then (some (([] : List S_api_Place), (2 : Int))) else (req (0 ≤ r2.2.1 ∧ r2.2.1 ≤ (a0.length : Int)) (lt (fun (j6s0 : (List UInt8)) (j6x7 : (List S_api_Place)) => (bif (decide ((j6s0.length : Int) > (0 : Int))) then (some (([] : List S_api_Place), (4 : Int))) else (opt (f_lumref_Index fu j6x7) fun (r10 : Int) => (bif (r10 != (0 : Int)) then (some (([] : List S_api_Place), r10)) else (some (j6x7, (0 : Int))))))) fun (kk7 : (List UInt8) → (List S_api_Place) → Option ((List S_api_Place) × Int)) => (f_lumref_IndexRead_L14 r2 kk7 fu fu (a0.drop (r2.2.1).toNat) ([] : List S_api_Place) (0 : Int)))))))
end Go.Proofs.YtjbgahmcobcojaaDoor
