/- Walks by program. No condition. -/
import Derived.Test.YtjbgahmcobcojaaDoorEn21
import Derived.Test.YtjbgahmcobcojaaDoorChecked
import Derived.Test.YtjbgahmcobcojaaDoorEnU
import Derived.Test.YtjbgahmcobcojaaDoorShTrim
import Derived.Test.YtjbgahmcobcojaaDoorShBEApp
import Derived.Test.YtjbgahmcobcojaaDoorEnM
import Derived.Test.YtjbgahmcobcojaaDoorShBEPut
import Derived.Test.YtjbgahmcobcojaaDoorShRepeat
import Derived.Test.YtjbgahmcobcojaaDoorEnB
namespace Go.Proofs.YtjbgahmcobcojaaDoor
open Go.RowKit YtjbgahmcobcojaaDoor.En
set_option linter.unusedVariables false
set_option linter.unusedSimpArgs false
structure A8u8 where
  e0 : UInt8
  e1 : UInt8
  e2 : UInt8
  e3 : UInt8
  e4 : UInt8
  e5 : UInt8
  e6 : UInt8
  e7 : UInt8
  deriving DecidableEq
def tyA8u8 : Ty A8u8 := tyVia (fun x => (x.e0, (x.e1, (x.e2, (x.e3, (x.e4, (x.e5, (x.e6, x.e7)))))))) (tyPair tyU8 (tyPair tyU8 (tyPair tyU8 (tyPair tyU8 (tyPair tyU8 (tyPair tyU8 (tyPair tyU8 tyU8)))))))
theorem subA8u8_0 : Sub tyA8u8 0 tyU8 (fun x => x.e0) := Sub.via (Sub.fst (Sub.whole _))
theorem subA8u8_1 : Sub tyA8u8 1 tyU8 (fun x => x.e1) := Sub.via (Sub.snd (Sub.fst (Sub.whole _)))
theorem subA8u8_2 : Sub tyA8u8 2 tyU8 (fun x => x.e2) := Sub.via (Sub.snd (Sub.snd (Sub.fst (Sub.whole _))))
theorem subA8u8_3 : Sub tyA8u8 3 tyU8 (fun x => x.e3) := Sub.via (Sub.snd (Sub.snd (Sub.snd (Sub.fst (Sub.whole _)))))
theorem subA8u8_4 : Sub tyA8u8 4 tyU8 (fun x => x.e4) := Sub.via (Sub.snd (Sub.snd (Sub.snd (Sub.snd (Sub.fst (Sub.whole _))))))
theorem subA8u8_5 : Sub tyA8u8 5 tyU8 (fun x => x.e5) := Sub.via (Sub.snd (Sub.snd (Sub.snd (Sub.snd (Sub.snd (Sub.fst (Sub.whole _)))))))
theorem subA8u8_6 : Sub tyA8u8 6 tyU8 (fun x => x.e6) := Sub.via (Sub.snd (Sub.snd (Sub.snd (Sub.snd (Sub.snd (Sub.snd (Sub.fst (Sub.whole _))))))))
theorem subA8u8_7 : Sub tyA8u8 7 tyU8 (fun x => x.e7) := Sub.via (Sub.snd (Sub.snd (Sub.snd (Sub.snd (Sub.snd (Sub.snd (Sub.snd (Sub.whole _))))))))
def cA8u8 (x : A8u8) : List Value := [(Value.int .u8 (x.e0.toNat : Int)), (Value.int .u8 (x.e1.toNat : Int)), (Value.int .u8 (x.e2.toNat : Int)), (Value.int .u8 (x.e3.toNat : Int)), (Value.int .u8 (x.e4.toNat : Int)), (Value.int .u8 (x.e5.toNat : Int)), (Value.int .u8 (x.e6.toNat : Int)), (Value.int .u8 (x.e7.toNat : Int))]
def lA8u8 (x : A8u8) : List UInt8 := [x.e0, x.e1, x.e2, x.e3, x.e4, x.e5, x.e6, x.e7]
def vA8u8 (y : UInt8) : Value := (Value.int .u8 (y.toNat : Int))
def setA8u8 (x : A8u8) (j : Int) (y : UInt8) : A8u8 := ⟨if j = 0 then y else x.e0, if j = 1 then y else x.e1, if j = 2 then y else x.e2, if j = 3 then y else x.e3, if j = 4 then y else x.e4, if j = 5 then y else x.e5, if j = 6 then y else x.e6, if j = 7 then y else x.e7⟩
theorem oneA8u8 (x : A8u8) : ∀ u ∈ cA8u8 x, u.oneCell' = true := ones_map (enc := vA8u8) (xs := lA8u8 x) (fun _ => rfl)
theorem lenA8u8 (x : A8u8) : (lA8u8 x).length = 8 := rfl
theorem lsetA8u8 {x : A8u8} {j : Int} {y : UInt8} (h0 : 0 ≤ j) (h1 : j < 8) : lA8u8 (setA8u8 x j y) = (lA8u8 x).set j.toNat y := by
  obtain ⟨q, rfl⟩ : ∃ q : Nat, j = q := ⟨j.toNat, by omega⟩
  match q, h1 with
  | 0, _ => rfl
  | 1, _ => rfl
  | 2, _ => rfl
  | 3, _ => rfl
  | 4, _ => rfl
  | 5, _ => rfl
  | 6, _ => rfl
  | 7, _ => rfl
  | n + 8, h => omega
theorem csetA8u8 {x : A8u8} {j : Int} {y : UInt8} (h0 : 0 ≤ j) (h1 : j < 8) (pre post : List Value) : pre ++ (cA8u8 (setA8u8 x j y) ++ post) = (pre ++ (cA8u8 x ++ post)).set (pre.length + j.toNat) (vA8u8 y) := by
  have h : cA8u8 (setA8u8 x j y) = (cA8u8 x).set j.toNat (vA8u8 y) := by
    have e : ∀ z : A8u8, cA8u8 z = (lA8u8 z).map vA8u8 := fun _ => rfl
    rw [e, e, lsetA8u8 h0 h1, List.map_set]
  rw [h, List.set_append_right _ _ (by omega), Nat.add_sub_cancel_left, List.set_append_left _ _ (by show j.toNat < 8; omega)]
theorem flatA8u8 : FlatTy tyA8u8 := flat_via (flat_pair flat_enc (flat_pair flat_enc (flat_pair flat_enc (flat_pair flat_enc (flat_pair flat_enc (flat_pair flat_enc (flat_pair flat_enc flat_enc)))))))
theorem encA8u8 {Z w cs} {x : A8u8} (h : tyA8u8.rep Z w cs x) : cs = (cA8u8 x) := by
  obtain ⟨c0, d0, rfl, p0, q0⟩ := h
  obtain ⟨c1, d1, rfl, p1, q1⟩ := q0
  obtain ⟨c2, d2, rfl, p2, q2⟩ := q1
  obtain ⟨c3, d3, rfl, p3, q3⟩ := q2
  obtain ⟨c4, d4, rfl, p4, q4⟩ := q3
  obtain ⟨c5, d5, rfl, p5, q5⟩ := q4
  obtain ⟨c6, d6, rfl, p6, q6⟩ := q5
  rw [show _ = _ from p0]
  rw [show _ = _ from p1]
  rw [show _ = _ from p2]
  rw [show _ = _ from p3]
  rw [show _ = _ from p4]
  rw [show _ = _ from p5]
  rw [show _ = _ from p6]
  rw [show _ = _ from q6]
  rfl
theorem mkA8u8 {Z w cs} {x : A8u8} (h : cs = (cA8u8 x)) : tyA8u8.rep Z w cs x := by
  subst h
  exact ⟨_, _, (List.take_append_drop 1 _).symm, rfl, ⟨_, _, (List.take_append_drop 1 _).symm, rfl, ⟨_, _, (List.take_append_drop 1 _).symm, rfl, ⟨_, _, (List.take_append_drop 1 _).symm, rfl, ⟨_, _, (List.take_append_drop 1 _).symm, rfl, ⟨_, _, (List.take_append_drop 1 _).symm, rfl, ⟨_, _, (List.take_append_drop 1 _).symm, rfl, rfl⟩⟩⟩⟩⟩⟩⟩
theorem lrepA8u8 {Z w cs} {x : A8u8} (h : tyA8u8.rep Z w cs x) : RepL tyU8 Z w cs (lA8u8 x) := by
  rw [encA8u8 h]
  exact ⟨[_], _, rfl, rfl, ⟨[_], _, rfl, rfl, ⟨[_], _, rfl, rfl, ⟨[_], _, rfl, rfl, ⟨[_], _, rfl, rfl, ⟨[_], _, rfl, rfl, ⟨[_], _, rfl, rfl, ⟨[_], _, rfl, rfl, rfl⟩⟩⟩⟩⟩⟩⟩⟩
structure S_api_Snap where
  Name : (List UInt8)
  Time : Int
  Root : A8u8
  deriving DecidableEq
def tyS_api_Snap : Ty S_api_Snap := tyVia (fun x => (x.Name, (x.Time, x.Root))) (tyPair tyStr (tyPair (tyInt .i64) tyA8u8))
theorem subS_api_Snap_0 : Sub tyS_api_Snap 0 tyStr (fun x => x.Name) := Sub.via (Sub.fst (Sub.whole _))
theorem subS_api_Snap_1 : Sub tyS_api_Snap 1 (tyInt .i64) (fun x => x.Time) := Sub.via (Sub.snd (Sub.fst (Sub.whole _)))
theorem subS_api_Snap_2 : Sub tyS_api_Snap 2 tyA8u8 (fun x => x.Root) := Sub.via (Sub.snd (Sub.snd (Sub.whole _)))
theorem flatS_api_Snap : FlatTy tyS_api_Snap := flat_via (flat_pair flat_enc (flat_pair flat_enc flatA8u8))
theorem encS_api_Snap {Z w cs} {x : S_api_Snap} (h : tyS_api_Snap.rep Z w cs x) : cs = ([(str x.Name), (Value.int .i64 x.Time)] ++ (cA8u8 x.Root)) := by
  obtain ⟨c0, d0, rfl, p0, q0⟩ := h
  obtain ⟨c1, d1, rfl, p1, q1⟩ := q0
  rw [show _ = _ from p0]
  rw [show _ = _ from p1]
  rw [encA8u8 q1]
  rfl
theorem mkS_api_Snap {Z w cs} {x : S_api_Snap} (h : cs = ([(str x.Name), (Value.int .i64 x.Time)] ++ (cA8u8 x.Root))) : tyS_api_Snap.rep Z w cs x := by
  subst h
  exact ⟨_, _, (List.take_append_drop 1 _).symm, rfl, ⟨_, _, (List.take_append_drop 1 _).symm, rfl, (mkA8u8 rfl)⟩⟩
structure S_api_Head where
  Next : Int
  Packs : (List Int)
  Snaps : (List S_api_Snap)
  deriving DecidableEq
def tyS_api_Head : Ty S_api_Head := tyVia (fun x => (x.Next, (x.Packs, x.Snaps))) (tyPair (tyInt .i64) (tyPair (tyList (tyInt .i64)) (tyList tyS_api_Snap)))
theorem subS_api_Head_0 : Sub tyS_api_Head 0 (tyInt .i64) (fun x => x.Next) := Sub.via (Sub.fst (Sub.whole _))
theorem subS_api_Head_1 : Sub tyS_api_Head 1 (tyList (tyInt .i64)) (fun x => x.Packs) := Sub.via (Sub.snd (Sub.fst (Sub.whole _)))
theorem subS_api_Head_2 : Sub tyS_api_Head 2 (tyList tyS_api_Snap) (fun x => x.Snaps) := Sub.via (Sub.snd (Sub.snd (Sub.whole _)))
theorem encnS_api_Head {cs} {x : S_api_Head} : ∀ Z w, (fDat tyS_api_Head cs x).p Z w → ∃ j : Value × Value, cs = [(Value.int .i64 x.Next), j.1, j.2] ∧ ∀ g ∈ [(fDat (tyList (tyInt .i64)) [j.1] x.Packs), (fDat (tyList tyS_api_Snap) [j.2] x.Snaps)], g.p Z w := by
  intro Z w h
  obtain ⟨c0, d0, rfl, p0, q0⟩ := h
  obtain ⟨c1, d1, rfl, p1, q1⟩ := q0
  obtain rfl : c0 = [(Value.int .i64 x.Next)] := p0
  obtain ⟨v1, rfl⟩ := one_of p1
  obtain ⟨v2, rfl⟩ := one_of q1
  exact ⟨(v1, v2), rfl, (fall_cons p1 (fall_cons q1 fall_nil))⟩
theorem mknS_api_Head {Z w cs} {x : S_api_Head} {v0 v1 : Value} (hc : cs = [(Value.int .i64 x.Next), v0, v1]) (h0 : (tyList (tyInt .i64)).rep Z w [v0] x.Packs) (h1 : (tyList tyS_api_Snap).rep Z w [v1] x.Snaps) : tyS_api_Head.rep Z w cs x := by
  subst hc
  exact ⟨_, _, (List.take_append_drop 1 _).symm, rfl, ⟨_, _, (List.take_append_drop 1 _).symm, h0, h1⟩⟩
structure S_room_reader where
  s : (List UInt8)
  bad : Bool
  deriving DecidableEq
def tyS_room_reader : Ty S_room_reader := tyVia (fun x => (x.s, x.bad)) (tyPair tyStr tyBool)
theorem subS_room_reader_0 : Sub tyS_room_reader 0 tyStr (fun x => x.s) := Sub.via (Sub.fst (Sub.whole _))
theorem subS_room_reader_1 : Sub tyS_room_reader 1 tyBool (fun x => x.bad) := Sub.via (Sub.snd (Sub.whole _))
theorem flatS_room_reader : FlatTy tyS_room_reader := flat_via (flat_pair flat_enc flat_enc)
theorem encS_room_reader {Z w cs} {x : S_room_reader} (h : tyS_room_reader.rep Z w cs x) : cs = [(str x.s), (Value.bool x.bad)] := by
  obtain ⟨c0, d0, rfl, p0, q0⟩ := h
  rw [show _ = _ from p0]
  rw [show _ = _ from q0]
  rfl
theorem mkS_room_reader {Z w cs} {x : S_room_reader} (h : cs = [(str x.s), (Value.bool x.bad)]) : tyS_room_reader.rep Z w cs x := by
  subst h
  exact ⟨_, _, (List.take_append_drop 1 _).symm, rfl, rfl⟩
def ofA8u8 (l : List UInt8) : A8u8 := match l.take 8 with | [e0, e1, e2, e3, e4, e5, e6, e7] => ⟨e0, e1, e2, e3, e4, e5, e6, e7⟩ | _ => ⟨0, 0, 0, 0, 0, 0, 0, 0⟩
theorem oflA8u8 {l : List UInt8} (hl : 8 ≤ l.length) {Z w cs} (hr : RepL tyU8 Z w cs (l.take 8)) : tyA8u8.rep Z w cs (ofA8u8 l) := by
  unfold ofA8u8
  have h8 : (l.take 8).length = 8 := by rw [List.length_take]; omega
  generalize l.take 8 = m at hr h8
  match m, h8, hr with
  | [e0, e1, e2, e3, e4, e5, e6, e7], _, hr => exact mkA8u8 (by rw [u8_cells hr]; rfl)
theorem coftA8u8 (l : List UInt8) (hl : l.length = 8) : cA8u8 (ofA8u8 l) = Lib.byteCells l := by
  match l, hl with
  | [e0, e1, e2, e3, e4, e5, e6, e7], _ => rfl
def cpA8u8 (x : A8u8) (l : List UInt8) : A8u8 := ofA8u8 (l.take 8 ++ (lA8u8 x).drop (l.take 8).length)
theorem ccpA8u8 (x : A8u8) (l : List UInt8) : cA8u8 (cpA8u8 x l) = Lib.byteCells (l.take 8) ++ (cA8u8 x).drop (l.take 8).length := by
  have h1 : (l.take 8).length ≤ 8 := by rw [List.length_take]; omega
  unfold cpA8u8
  rw [coftA8u8 _ (by rw [List.length_append, List.length_drop, lenA8u8]; omega)]
  unfold Lib.byteCells
  rw [List.map_append, List.map_drop]
  rfl
theorem cpcA8u8 (x : A8u8) (l : List UInt8) (pre post : List Value) : (pre ++ (cA8u8 x ++ post)).take pre.length ++ Lib.byteCells (l.take 8) ++ (pre ++ (cA8u8 x ++ post)).drop (pre.length + (l.take 8).length) = pre ++ (cA8u8 (cpA8u8 x l) ++ post) := by
  have h1 : (l.take 8).length ≤ (cA8u8 x).length := by rw [List.length_take]; exact Nat.min_le_left _ _
  rw [ccpA8u8, List.take_left, List.drop_append, List.drop_of_length_le (by omega), Nat.add_sub_cancel_left, List.drop_append_of_le_length h1]
  simp
theorem sz3 : szOf Tryd.prog 3 = some 1 := by kernel_rfl
theorem to3 : tyOf Tryd.prog 3 = some (1, 8, some (Value.int .i64 (0 : Int))) := by kernel_rfl
theorem sz4 : szOf Tryd.prog 4 = some 1 := by kernel_rfl
theorem to4 : tyOf Tryd.prog 4 = some (1, 1, some (Value.bool false)) := by kernel_rfl
theorem sz5 : szOf Tryd.prog 5 = some 1 := by kernel_rfl
theorem to5 : tyOf Tryd.prog 5 = some (1, 1, some (Value.int .u8 (0 : Int))) := by kernel_rfl
theorem sz9 : szOf Tryd.prog 9 = some 1 := by kernel_rfl
theorem to9 : tyOf Tryd.prog 9 = some (1, 16, some (str ([] : List UInt8))) := by kernel_rfl
theorem sz48 : szOf Tryd.prog 48 = some 8 := by kernel_rfl
theorem to48 : tyOf Tryd.prog 48 = some (8, 8, some (ag [(Value.int .u8 (0 : Int)), (Value.int .u8 (0 : Int)), (Value.int .u8 (0 : Int)), (Value.int .u8 (0 : Int)), (Value.int .u8 (0 : Int)), (Value.int .u8 (0 : Int)), (Value.int .u8 (0 : Int)), (Value.int .u8 (0 : Int))])) := by kernel_rfl
theorem sz49 : szOf Tryd.prog 49 = some 8 := by kernel_rfl
theorem to49 : tyOf Tryd.prog 49 = some (8, 8, some (ag [(Value.int .u8 (0 : Int)), (Value.int .u8 (0 : Int)), (Value.int .u8 (0 : Int)), (Value.int .u8 (0 : Int)), (Value.int .u8 (0 : Int)), (Value.int .u8 (0 : Int)), (Value.int .u8 (0 : Int)), (Value.int .u8 (0 : Int))])) := by kernel_rfl
theorem sz59 : szOf Tryd.prog 59 = some 1 := by kernel_rfl
theorem to59 : tyOf Tryd.prog 59 = some (1, 24, some (Value.slice none 0 0)) := by kernel_rfl
theorem sz60 : szOf Tryd.prog 60 = some 1 := by kernel_rfl
theorem to60 : tyOf Tryd.prog 60 = some (1, 24, some (Value.slice none 0 0)) := by kernel_rfl
theorem sz62 : szOf Tryd.prog 62 = some 3 := by kernel_rfl
theorem to62 : tyOf Tryd.prog 62 = some (3, 56, some (ag [(Value.int .i64 (0 : Int)), (Value.slice none 0 0), (Value.slice none 0 0)])) := by kernel_rfl
theorem sz104 : szOf Tryd.prog 104 = some 10 := by kernel_rfl
theorem to104 : tyOf Tryd.prog 104 = some (10, 32, some (ag [(str ([] : List UInt8)), (Value.int .i64 (0 : Int)), (Value.int .u8 (0 : Int)), (Value.int .u8 (0 : Int)), (Value.int .u8 (0 : Int)), (Value.int .u8 (0 : Int)), (Value.int .u8 (0 : Int)), (Value.int .u8 (0 : Int)), (Value.int .u8 (0 : Int)), (Value.int .u8 (0 : Int))])) := by kernel_rfl
theorem sz128 : szOf Tryd.prog 128 = some 0 := by kernel_rfl
theorem to128 : tyOf Tryd.prog 128 = some (0, 0, some (ag [])) := by kernel_rfl
theorem sz186 : szOf Tryd.prog 186 = some 0 := by kernel_rfl
theorem to186 : tyOf Tryd.prog 186 = some (0, 0, some (ag [])) := by kernel_rfl
theorem mixed : Tryd.prog.follows .mixedOrders = true := by kernel_rfl
theorem eg49 : Tryd.prog.eqGuardType Tryd.prog.depth 49 = false := by kernel_rfl
theorem kt49 : Tryd.prog.keyTypeAt 20 49 = true := by kernel_rfl
theorem lv49 : leaves Tryd.prog 20 49 = some [5, 5, 5, 5, 5, 5, 5, 5] := by kernel_rfl
theorem injA8u8 {x y : A8u8} : (x == y) = true ↔ (cA8u8 x) = (cA8u8 y) := by
  rw [beq_iff_eq]
  constructor
  · rintro rfl; rfl
  · intro h
    obtain ⟨⟩ := x
    obtain ⟨⟩ := y
    simp only [A8u8.mk.injEq, cA8u8, str, List.cons_append, List.nil_append, List.cons.injEq, Value.int.injEq, Value.bool.injEq, Value.string.injEq, ByteArray.mk.injEq, Array.mk.injEq, Int.natCast_inj, UInt8.toNat_inj, true_and, and_true] at h ⊢
    first | exact h | simpa [and_assoc] using h
theorem extA8u8 (x y : A8u8) : x = y ↔ x.e0 = y.e0 ∧ x.e1 = y.e1 ∧ x.e2 = y.e2 ∧ x.e3 = y.e3 ∧ x.e4 = y.e4 ∧ x.e5 = y.e5 ∧ x.e6 = y.e6 ∧ x.e7 = y.e7 := by
  constructor
  · rintro rfl; simp
  · intro h
    obtain ⟨⟩ := x
    obtain ⟨⟩ := y
    simpa using h
theorem eg104 : Tryd.prog.eqGuardType Tryd.prog.depth 104 = false := by kernel_rfl
theorem kt104 : Tryd.prog.keyTypeAt 20 104 = true := by kernel_rfl
theorem lv104 : leaves Tryd.prog 20 104 = some [9, 3, 5, 5, 5, 5, 5, 5, 5, 5] := by kernel_rfl
theorem injS_api_Snap {x y : S_api_Snap} : (x == y) = true ↔ ([(str x.Name), (Value.int .i64 x.Time)] ++ (cA8u8 x.Root)) = ([(str y.Name), (Value.int .i64 y.Time)] ++ (cA8u8 y.Root)) := by
  rw [beq_iff_eq]
  constructor
  · rintro rfl; rfl
  · intro h
    obtain ⟨⟩ := x
    obtain ⟨⟩ := y
    simp only [A8u8.mk.injEq, S_api_Snap.mk.injEq, cA8u8, extA8u8, str, List.cons_append, List.nil_append, List.cons.injEq, Value.int.injEq, Value.bool.injEq, Value.string.injEq, ByteArray.mk.injEq, Array.mk.injEq, Int.natCast_inj, UInt8.toNat_inj, true_and, and_true] at h ⊢
    first | exact h | simpa [and_assoc] using h
theorem kd9 : Go.Maps.Keyed Tryd.prog 9 := Go.Maps.string_keyed Tryd.underlying9
def okA8u8 (x : A8u8) : Prop := (True) ∧ (True) ∧ (True) ∧ (True) ∧ (True) ∧ (True) ∧ (True) ∧ (True)
set_option maxRecDepth 100000 in
theorem opnA8u8 {H : Type} : Opn H Tryd.prog 49 tyA8u8 okA8u8 := opn_array (fun x => (x.e0, (x.e1, (x.e2, (x.e3, (x.e4, (x.e5, (x.e6, x.e7)))))))) (fun y => A8u8.mk y.1 y.2.1 y.2.2.1 y.2.2.2.1 y.2.2.2.2.1 y.2.2.2.2.2.1 y.2.2.2.2.2.2.1 y.2.2.2.2.2.2.2) (fun _ => rfl) Tryd.underlying49 sz49 (fields_cons sz5 (opn_u8 Tryd.underlying5) (fields_cons sz5 (opn_u8 Tryd.underlying5) (fields_cons sz5 (opn_u8 Tryd.underlying5) (fields_cons sz5 (opn_u8 Tryd.underlying5) (fields_cons sz5 (opn_u8 Tryd.underlying5) (fields_cons sz5 (opn_u8 Tryd.underlying5) (fields_cons sz5 (opn_u8 Tryd.underlying5) (fields_one sz5 (opn_u8 Tryd.underlying5)))))))))
def okS_api_Snap (x : S_api_Snap) : Prop := (x.Name.length ≤ 9223372036854775807) ∧ ((Lit.int .i64 x.Time).wf = true) ∧ (okA8u8 x.Root)
set_option maxRecDepth 100000 in
theorem opnS_api_Snap {H : Type} : Opn H Tryd.prog 104 tyS_api_Snap okS_api_Snap := opn_struct (fun x => (x.Name, (x.Time, x.Root))) (fun y => S_api_Snap.mk y.1 y.2.1 y.2.2) (fun _ => rfl) Tryd.underlying104 sz104 (fields_cons sz9 (opn_str Tryd.underlying9) (fields_cons sz3 (opn_int Tryd.underlying3) (fields_one sz49 opnA8u8)))
def okS_api_Head (x : S_api_Head) : Prop := ((Lit.int .i64 x.Next).wf = true) ∧ (okL (fun y => (Lit.int .i64 y).wf = true) x.Packs) ∧ (okL (fun y => okS_api_Snap y) x.Snaps)
set_option maxRecDepth 100000 in
theorem opnS_api_Head {H : Type} : Opn H Tryd.prog 62 tyS_api_Head okS_api_Head := opn_struct (fun x => (x.Next, (x.Packs, x.Snaps))) (fun y => S_api_Head.mk y.1 y.2.1 y.2.2) (fun _ => rfl) Tryd.underlying62 sz62 (fields_cons sz3 (opn_int Tryd.underlying3) (fields_cons sz59 (opn_list Tryd.underlying59 sz3 rfl (opn_int Tryd.underlying3)) (fields_one sz60 (opn_list Tryd.underlying60 sz104 rfl opnS_api_Snap))))
def okbA8u8 (N : Nat) (x : A8u8) : Prop := (True) ∧ (True) ∧ (True) ∧ (True) ∧ (True) ∧ (True) ∧ (True) ∧ (True)
set_option maxRecDepth 100000 in
theorem opbA8u8 {H : Type} : Opb H Tryd.prog 49 tyA8u8 okbA8u8 := opb_array (fun x => (x.e0, (x.e1, (x.e2, (x.e3, (x.e4, (x.e5, (x.e6, x.e7)))))))) (fun y => A8u8.mk y.1 y.2.1 y.2.2.1 y.2.2.2.1 y.2.2.2.2.1 y.2.2.2.2.2.1 y.2.2.2.2.2.2.1 y.2.2.2.2.2.2.2) (fun _ => rfl) Tryd.underlying49 sz49 (fieldsb_cons sz5 (opb_of (opn_u8 Tryd.underlying5)) (fieldsb_cons sz5 (opb_of (opn_u8 Tryd.underlying5)) (fieldsb_cons sz5 (opb_of (opn_u8 Tryd.underlying5)) (fieldsb_cons sz5 (opb_of (opn_u8 Tryd.underlying5)) (fieldsb_cons sz5 (opb_of (opn_u8 Tryd.underlying5)) (fieldsb_cons sz5 (opb_of (opn_u8 Tryd.underlying5)) (fieldsb_cons sz5 (opb_of (opn_u8 Tryd.underlying5)) (fieldsb_one sz5 (opb_of (opn_u8 Tryd.underlying5))))))))))
def okbS_api_Snap (N : Nat) (x : S_api_Snap) : Prop := ((x.Name.length ≤ 9223372036854775807 ∧ x.Name.length ≤ N)) ∧ ((Lit.int .i64 x.Time).wf = true) ∧ (okbA8u8 N x.Root)
set_option maxRecDepth 100000 in
theorem opbS_api_Snap {H : Type} : Opb H Tryd.prog 104 tyS_api_Snap okbS_api_Snap := opb_struct (fun x => (x.Name, (x.Time, x.Root))) (fun y => S_api_Snap.mk y.1 y.2.1 y.2.2) (fun _ => rfl) Tryd.underlying104 sz104 (fieldsb_cons sz9 (opb_str Tryd.underlying9) (fieldsb_cons sz3 (opb_of (opn_int Tryd.underlying3)) (fieldsb_one sz49 opbA8u8)))
def okbS_api_Head (N : Nat) (x : S_api_Head) : Prop := ((Lit.int .i64 x.Next).wf = true) ∧ (okB (fun N y => (Lit.int .i64 y).wf = true) N x.Packs) ∧ (okB (fun N y => okbS_api_Snap N y) N x.Snaps)
set_option maxRecDepth 100000 in
theorem opbS_api_Head {H : Type} : Opb H Tryd.prog 62 tyS_api_Head okbS_api_Head := opb_struct (fun x => (x.Next, (x.Packs, x.Snaps))) (fun y => S_api_Head.mk y.1 y.2.1 y.2.2) (fun _ => rfl) Tryd.underlying62 sz62 (fieldsb_cons sz3 (opb_of (opn_int Tryd.underlying3)) (fieldsb_cons sz59 (opb_list Tryd.underlying59 sz3 rfl (opb_of (opn_int Tryd.underlying3))) (fieldsb_one sz60 (opb_list Tryd.underlying60 sz104 rfl opbS_api_Snap))))
theorem f_put8_ok {g off t : Nat} {a2 : Int} {cs cs' : List Value} (hc : 0 ≤ a2 ∧ a2 < 18446744073709551616) (hfit : off + 8 ≤ cs.length) (hcs : cs.take off ++ Lib.byteCells ((Lib.beBytes 8 a2.toNat).take 8) ++ cs.drop (off + ((Lib.beBytes 8 a2.toNat).take 8).length) = cs') :
    FnOk Tryd.prog 96 [(ag []), (sbx g off 8), (Value.int .u64 a2)] [] [oBox g t cs] (fun _ : Unit => { val := .tuple #[], own := [oBox g t cs'] }) := by
  obtain ⟨n, rfl⟩ : ∃ n : Nat, a2 = n := ⟨a2.toNat, by omega⟩
  have hl : (Lib.beBytes 8 n).length = 8 := Lib.beBytes_length 8 n
  have hcs' : cs.take off ++ Lib.byteCells (Lib.beBytes 8 n) ++ cs.drop (off + 8) = cs' := by
    have e : (Lib.beBytes 8 ((n : Int).toNat)).take 8 = Lib.beBytes 8 n := by rw [Int.toNat_natCast, List.take_of_length_le (by omega)]
    rw [e, hl] at hcs; exact hcs
  exact fnok_put8 hl hfit hcs' (fun x0 x1 x2 x3 x4 x5 x6 x7 w c0 c1 c2 c3 c4 c5 c6 c7 f0 f1 f2 f3 f4 f5 f6 f7 => Tryd.binary_BE_PutUint64 g off 8 8 n (by omega) x0 x1 x2 x3 x4 x5 x6 x7 w (by omega) c0 c1 c2 c3 c4 c5 c6 c7 f0 f1 f2 f3 f4 f5 f6 f7)
def f_lumref_char_L20 (a0 : (List UInt8)) (j4i5 : Int) (kk8 : (Int → Option (Int × Int))) : Nat → Int → Int → Option (Int × Int)
  | 0, _, _ => none
  | k19 + 1, l18i4, l18i53 => (bif (decide (l18i53 < ((cut a0 (1 : Int) j4i5).length : Int))) then (opt (at? (cut a0 (1 : Int) j4i5) l18i53) fun (u22 : UInt8) => (lt (fun (j25b62 : Bool) => (bif j25b62 then (some ((0 : Int), (0 : Int))) else (f_lumref_char_L20 a0 j4i5 kk8 k19 (IntKind.i64.wrap ((IntKind.i64.wrap ((IntKind.i64.wrap ((64 : Int) * l18i4)) + (IntKind.i64.wrap (u22.toNat : Int)))) - (128 : Int))) (IntKind.i64.wrap (l18i53 + (1 : Int)))))) fun (kk26 : Bool → Option (Int × Int)) => (bif (decide ((u22.toNat : Int) < (128 : Int))) then (kk26 true) else (kk26 (decide ((u22.toNat : Int) > (191 : Int))))))) else (kk8 l18i4))
def f_lumref_char (fu : Nat) (a0 : (List UInt8)) : Option (Int × Int) := (bif (a0 == ([] : List UInt8)) then (some ((0 : Int), (0 : Int))) else (req (0 ≤ (0 : Int) ∧ (0 : Int) < (a0.length : Int)) (bif (decide ((IntKind.i64.wrap (En.bAt a0 (0 : Int))) < (128 : Int))) then (some ((IntKind.i64.wrap (En.bAt a0 (0 : Int))), (1 : Int))) else (lt (fun (j4i4 : Int) (j4i5 : Int) (j4i6 : Int) => (bif (decide ((a0.length : Int) < j4i5)) then (some ((0 : Int), (0 : Int))) else (lt (fun (j7i4 : Int) => (lt (fun (j9b84 : Bool) => (bif j9b84 then (some ((0 : Int), (0 : Int))) else (some (j7i4, j4i5)))) fun (kk10 : Bool → Option (Int × Int)) => (bif (decide (j7i4 < j4i6)) then (kk10 true) else (bif (decide (j7i4 > (1114111 : Int))) then (kk10 true) else (bif (decide (j7i4 ≥ (55296 : Int))) then (kk10 (decide (j7i4 < (57344 : Int)))) else (kk10 false)))))) fun (kk8 : Int → Option (Int × Int)) => (req (0 ≤ (1 : Int) ∧ (1 : Int) ≤ j4i5 ∧ j4i5 ≤ (a0.length : Int)) (req ((cut a0 (1 : Int) j4i5).length ≤ 9223372036854775807) (f_lumref_char_L20 a0 j4i5 kk8 fu j4i4 (0 : Int))))))) fun (kk5 : Int → Int → Int → Option (Int × Int)) => (lt (fun (j29b17 : Bool) => (bif j29b17 then (kk5 (IntKind.i64.wrap ((IntKind.i64.wrap (En.bAt a0 (0 : Int))) - (192 : Int))) (2 : Int) (128 : Int)) else (lt (fun (j32b26 : Bool) => (bif j32b26 then (kk5 (IntKind.i64.wrap ((IntKind.i64.wrap (En.bAt a0 (0 : Int))) - (224 : Int))) (3 : Int) (2048 : Int)) else (lt (fun (j35b35 : Bool) => (bif j35b35 then (kk5 (IntKind.i64.wrap ((IntKind.i64.wrap (En.bAt a0 (0 : Int))) - (240 : Int))) (4 : Int) (65536 : Int)) else (some ((0 : Int), (0 : Int))))) fun (kk36 : Bool → Option (Int × Int)) => (bif (decide ((IntKind.i64.wrap (En.bAt a0 (0 : Int))) ≥ (240 : Int))) then (kk36 (decide ((IntKind.i64.wrap (En.bAt a0 (0 : Int))) < (245 : Int)))) else (kk36 false))))) fun (kk33 : Bool → Option (Int × Int)) => (bif (decide ((IntKind.i64.wrap (En.bAt a0 (0 : Int))) ≥ (224 : Int))) then (kk33 (decide ((IntKind.i64.wrap (En.bAt a0 (0 : Int))) < (240 : Int)))) else (kk33 false))))) fun (kk30 : Bool → Option (Int × Int)) => (bif (decide ((IntKind.i64.wrap (En.bAt a0 (0 : Int))) ≥ (194 : Int))) then (kk30 (decide ((IntKind.i64.wrap (En.bAt a0 (0 : Int))) < (224 : Int)))) else (kk30 false)))))))
set_option maxRecDepth 100000 in
theorem f_lumref_char_ok (fu : Nat) (a0 : (List UInt8)) {r : (Int × Int)} (h : f_lumref_char fu a0 = some r) : FnOk Tryd.prog 125 [(str a0)] [] [] (fun (i : Unit) => { val := (Value.tuple #[(Value.int .i64 r.1), (Value.int .i64 r.2)]) }) := by
  unfold f_lumref_char at h
  refine fn_enter Tryd.func125 rfl Tryd.ntmps125 rfl (fun w0 Z0 => ?_)
  refine aw_seq ?_
  refine aw_region ?_
  refine al_val (ov_assign rfl rfl) ?_
  refine al_val (ov_assign rfl rfl) ?_
  refine al_nil ?_
  refine aq_then ?_
  refine aw_seq ?_
  refine aw_seq ?_
  refine aw_region ?_
  refine al_val (ov_move rfl rfl) ?_
  refine al_val (ov_strCmp rfl rfl rfl rfl) ?_
  refine al_nil ?_
  refine aq_then ?_
  refine aw_cond rfl (fun hb1 => ?_) (fun hb1 => ?_)
  · replace h := bif_t hb1 h
    refine aw_seq ?_
    refine aw_region ?_
    refine al_val (ov_assign rfl rfl) ?_
    refine al_val (ov_assign rfl rfl) ?_
    refine al_nil ?_
    refine aq_then ?_
    refine aw_ret ?_
    refine aq_then_ret ?_
    obtain rfl := Option.some.inj h
    exact fn_ret () [] [] rfl rfl rfl rfl (res2 rfl rfl rfl) rfl rfl rfl (by decide)
  · replace h := bif_f hb1 h
    refine aw_skip ?_
    refine aq_then ?_
    refine aw_seq ?_
    refine aw_region ?_
    refine al_val (ov_move rfl rfl) ?_
    obtain ⟨hc2, h⟩ := req_some h
    refine al_val (ov_strIdx hc2.1 hc2.2 Tryd.underlying9 rfl rfl rfl) ?_
    refine al_val (ov_convInt (by rw [Tryd.underlying5]; rfl) Tryd.underlying3 rfl rfl) ?_
    refine al_val (ov_assign rfl rfl) ?_
    refine al_nil ?_
    refine aq_then ?_
    refine aw_seq ?_
    refine aw_seq ?_
    refine aw_region ?_
    refine al_val (ov_move rfl rfl) ?_
    refine al_val (ov_int rfl rfl rfl rfl) ?_
    refine al_nil ?_
    refine aq_then ?_
    refine aw_cond rfl (fun hb3 => ?_) (fun hb3 => ?_)
    · replace h := bif_t hb3 h
      refine aw_seq ?_
      refine aw_region ?_
      refine al_val (ov_move rfl rfl) ?_
      refine al_val (ov_assign rfl rfl) ?_
      refine al_val (ov_assign rfl rfl) ?_
      refine al_nil ?_
      refine aq_then ?_
      refine aw_ret ?_
      refine aq_then_ret ?_
      obtain rfl := Option.some.inj h
      exact fn_ret () [] [] rfl rfl rfl rfl (res2 rfl rfl rfl) rfl rfl rfl (by decide)
    · replace h := bif_f hb3 h
      refine aw_skip ?_
      refine aq_then ?_
      refine aw_seq ?_
      refine aw_region ?_
      refine al_val (ov_assign rfl rfl) ?_
      refine al_val (ov_assign rfl rfl) ?_
      refine al_nil ?_
      refine aq_then ?_
      obtain ⟨kk5, hkk5, h⟩ := lt_some h
      refine aw_seq_join (ι := Int × Int × Int) (fun i => (memOf w0 Z0 [] [] [])) (fun i => (tab [(0, (str a0)), (4, (Value.int .i64 i.1)), (5, (Value.int .i64 i.2.1)), (6, (Value.int .i64 i.2.2))])) (fun i => kk5 i.1 i.2.1 i.2.2 = some r) ?_ ?_
      · rintro ⟨j4i4, j4i5, j4i6⟩ h
        have h : kk5 j4i4 j4i5 j4i6 = some r := h
        rw [hkk5] at h
        dsimp only at h
        clear hkk5
        refine aw_show (m := (memOf w0 Z0 [] [] [])) (S := (tab [(0, (str a0)), (4, (Value.int .i64 j4i4)), (5, (Value.int .i64 j4i5)), (6, (Value.int .i64 j4i6))])) ?_
        refine aw_seq ?_
        refine aw_seq ?_
        refine aw_region ?_
        refine al_val (ov_move rfl rfl) ?_
        refine al_val (ov_strLen Tryd.underlying9 rfl rfl) ?_
        refine al_val (ov_move rfl rfl) ?_
        refine al_val (ov_int rfl rfl rfl rfl) ?_
        refine al_nil ?_
        refine aq_then ?_
        refine aw_cond rfl (fun hb6 => ?_) (fun hb6 => ?_)
        · replace h := bif_t hb6 h
          refine aw_seq ?_
          refine aw_region ?_
          refine al_val (ov_assign rfl rfl) ?_
          refine al_val (ov_assign rfl rfl) ?_
          refine al_nil ?_
          refine aq_then ?_
          refine aw_ret ?_
          refine aq_then_ret ?_
          obtain rfl := Option.some.inj h
          exact fn_ret () [] [] rfl rfl rfl rfl (res2 rfl rfl rfl) rfl rfl rfl (by decide)
        · replace h := bif_f hb6 h
          refine aw_skip ?_
          refine aq_then ?_
          obtain ⟨kk8, hkk8, h⟩ := lt_some h
          refine aw_seq_join (ι := Int) (fun i => (memOf w0 Z0 [] [] [])) (fun i => (tab [(4, (Value.int .i64 i)), (5, (Value.int .i64 j4i5)), (6, (Value.int .i64 j4i6))])) (fun i => kk8 i = some r) ?_ ?_
          · rintro j7i4 h
            have h : kk8 j7i4 = some r := h
            rw [hkk8] at h
            dsimp only at h
            clear hkk8
            refine aw_show (m := (memOf w0 Z0 [] [] [])) (S := (tab [(4, (Value.int .i64 j7i4)), (5, (Value.int .i64 j4i5)), (6, (Value.int .i64 j4i6))])) ?_
            refine aw_seq ?_
            obtain ⟨kk10, hkk10, h⟩ := lt_some h
            refine aw_seq_join (ι := Bool) (fun i => (memOf w0 Z0 [] [] [])) (fun i => (tab [(4, (Value.int .i64 j7i4)), (5, (Value.int .i64 j4i5)), (84, (Value.bool i))])) (fun i => kk10 i = some r) ?_ ?_
            · rintro j9b84 h
              have h : kk10 j9b84 = some r := h
              rw [hkk10] at h
              dsimp only at h
              clear hkk10
              refine aw_show (m := (memOf w0 Z0 [] [] [])) (S := (tab [(4, (Value.int .i64 j7i4)), (5, (Value.int .i64 j4i5)), (84, (Value.bool j9b84))])) ?_
              refine aw_cond rfl (fun hb11 => ?_) (fun hb11 => ?_)
              · replace h := bif_t hb11 h
                refine aw_seq ?_
                refine aw_region ?_
                refine al_val (ov_assign rfl rfl) ?_
                refine al_val (ov_assign rfl rfl) ?_
                refine al_nil ?_
                refine aq_then ?_
                refine aw_ret ?_
                refine aq_then_ret ?_
                obtain rfl := Option.some.inj h
                exact fn_ret () [] [] rfl rfl rfl rfl (res2 rfl rfl rfl) rfl rfl rfl (by decide)
              · replace h := bif_f hb11 h
                refine aw_skip ?_
                refine aq_then ?_
                refine aw_seq ?_
                refine aw_region ?_
                refine al_val (ov_move rfl rfl) ?_
                refine al_val (ov_move rfl rfl) ?_
                refine al_val (ov_assign rfl rfl) ?_
                refine al_val (ov_assign rfl rfl) ?_
                refine al_nil ?_
                refine aq_then ?_
                refine aw_ret ?_
                obtain rfl := Option.some.inj h
                exact fn_ret () [] [] rfl rfl rfl rfl (res2 rfl rfl rfl) rfl rfl rfl (by decide)
            · clear hkk10
              refine aw_region ?_
              refine al_val (ov_move rfl rfl) ?_
              refine al_val (ov_move rfl rfl) ?_
              refine al_val (ov_int rfl rfl rfl rfl) ?_
              refine al_val (ov_move rfl rfl) ?_
              refine al_caseB 73 rfl (fun hb12 => ?_) (fun hb12 => ?_)
              · replace h := bif_t hb12 h
                refine al_skip ?_
                refine al_skip ?_
                refine al_val (ov_pick_t rfl rfl rfl) ?_
                refine al_val (ov_move rfl rfl) ?_
                refine al_skip ?_
                refine al_skip ?_
                refine al_skip ?_
                refine al_skip ?_
                refine al_skip ?_
                refine al_skip ?_
                refine al_val (ov_pick_t rfl rfl rfl) ?_
                refine al_nil ?_
                exact aq_join true h (fun w a hm hs => norm hm hs [] [] [(4, (Value.int .i64 j7i4)), (5, (Value.int .i64 j4i5)), (84, (Value.bool true))] (by decide) ⟨rfl, rfl, rfl, trivial⟩)
              · replace h := bif_f hb12 h
                refine al_val (ov_move rfl rfl) ?_
                refine al_val (ov_int rfl rfl rfl rfl) ?_
                refine al_val (ov_pick_f rfl rfl rfl) ?_
                refine al_val (ov_move rfl rfl) ?_
                refine al_caseB 77 rfl (fun hb13 => ?_) (fun hb13 => ?_)
                · replace h := bif_t hb13 h
                  refine al_skip ?_
                  refine al_skip ?_
                  refine al_skip ?_
                  refine al_skip ?_
                  refine al_skip ?_
                  refine al_skip ?_
                  refine al_val (ov_pick_t rfl rfl rfl) ?_
                  refine al_nil ?_
                  exact aq_join true h (fun w a hm hs => norm hm hs [] [] [(4, (Value.int .i64 j7i4)), (5, (Value.int .i64 j4i5)), (84, (Value.bool true))] (by decide) ⟨rfl, rfl, rfl, trivial⟩)
                · replace h := bif_f hb13 h
                  refine al_val (ov_move rfl rfl) ?_
                  refine al_val (ov_int rfl rfl rfl rfl) ?_
                  refine al_val (ov_move rfl rfl) ?_
                  refine al_caseB 80 rfl (fun hb14 => ?_) (fun hb14 => ?_)
                  · replace h := bif_t hb14 h
                    refine al_val (ov_move rfl rfl) ?_
                    refine al_val (ov_int rfl rfl rfl rfl) ?_
                    refine al_val (ov_pick_t rfl rfl rfl) ?_
                    refine al_val (ov_pick_f rfl rfl rfl) ?_
                    refine al_nil ?_
                    exact aq_join (decide (j7i4 < (57344 : Int))) h (fun w a hm hs => norm hm hs [] [] [(4, (Value.int .i64 j7i4)), (5, (Value.int .i64 j4i5)), (84, (Value.bool (decide (j7i4 < (57344 : Int)))))] (by decide) ⟨rfl, rfl, rfl, trivial⟩)
                  · replace h := bif_f hb14 h
                    refine al_skip ?_
                    refine al_skip ?_
                    refine al_val (ov_pick_f rfl rfl rfl) ?_
                    refine al_val (ov_pick_f rfl rfl rfl) ?_
                    refine al_nil ?_
                    exact aq_join false h (fun w a hm hs => norm hm hs [] [] [(4, (Value.int .i64 j7i4)), (5, (Value.int .i64 j4i5)), (84, (Value.bool false))] (by decide) ⟨rfl, rfl, rfl, trivial⟩)
          · clear hkk8
            refine aw_seq ?_
            refine aw_region ?_
            refine al_val (ov_move rfl rfl) ?_
            refine al_val (ov_move rfl rfl) ?_
            obtain ⟨hc15, h⟩ := req_some h
            refine al_val (ov_strCut hc15.1 hc15.2.1 hc15.2.2 Tryd.underlying9 rfl rfl rfl rfl) ?_
            obtain ⟨hc16, h⟩ := req_some h
            refine al_bytes hc16 rfl Tryd.underlying9 Tryd.underlying89 Tryd.underlying5 rfl (fun s17 => ?_)
            refine al_val (ov_lenD 0 rfl rfl Tryd.underlying89 rfl) ?_
            refine al_val (ov_move rfl rfl) ?_
            refine al_nil ?_
            refine aq_then ?_
            refine aw_block ?_
            refine aw_state (aw_loop (ι := Int × Int) (fun i => (memOf w0 Z0 [] [] [(fDat (tyList tyU8) [s17] (cut a0 (1 : Int) j4i5))])) (fun i => (tab [(4, (Value.int .i64 i.1)), (5, (Value.int .i64 j4i5)), (6, (Value.int .i64 j4i6)), (51, s17), (52, (Value.int .i64 ((cut a0 (1 : Int) j4i5).length : Int))), (53, (Value.int .i64 i.2))])) (fun q i => f_lumref_char_L20 a0 j4i5 kk8 q i.1 i.2 = some r) ?_ fu (j4i4, (0 : Int)) h) (fun w a hm hs => norm hm hs [] [0] [(4, (Value.int .i64 j4i4)), (5, (Value.int .i64 j4i5)), (6, (Value.int .i64 j4i6)), (51, s17), (52, (Value.int .i64 ((cut a0 (1 : Int) j4i5).length : Int))), (53, (Value.int .i64 (0 : Int)))] (by decide) ⟨rfl, rfl, rfl, rfl, rfl, rfl, trivial⟩)
            clear h
            rintro k19 ⟨l18i4, l18i53⟩ h
            have h : f_lumref_char_L20 a0 j4i5 kk8 k19 l18i4 l18i53 = some r := h
            obtain _ | k19 := k19
            · rw [f_lumref_char_L20] at h; cases h
            rw [f_lumref_char_L20] at h
            refine aw_show (m := (memOf w0 Z0 [] [] [(fDat (tyList tyU8) [s17] (cut a0 (1 : Int) j4i5))])) (S := (tab [(4, (Value.int .i64 l18i4)), (5, (Value.int .i64 j4i5)), (6, (Value.int .i64 j4i6)), (51, s17), (52, (Value.int .i64 ((cut a0 (1 : Int) j4i5).length : Int))), (53, (Value.int .i64 l18i53))])) ?_
            refine aw_seq ?_
            refine aw_region ?_
            refine al_val (ov_int rfl rfl rfl rfl) ?_
            refine al_nil ?_
            refine aq_then ?_
            refine aw_seq ?_
            refine aw_cond rfl (fun hb21 => ?_) (fun hb21 => ?_)
            · replace h := bif_t hb21 h
              refine aw_skip ?_
              refine aq_then ?_
              refine aw_seq ?_
              refine aw_block ?_
              refine aw_seq ?_
              refine aw_region ?_
              obtain ⟨u22, hu23, h⟩ := opt_some h
              refine al_idxD 0 hu23 rfl rfl rfl Tryd.underlying89 sz5 rfl (fun p24 => ?_)
              refine al_val (ov_loadP (ds := [(Value.int .u8 (u22.toNat : Int))]) 0 rfl (fun h => h) rfl Tryd.underlying5 sz5 rfl rfl rfl) ?_
              refine al_val (ov_assign rfl rfl) ?_
              refine al_nil ?_
              refine aq_then ?_
              refine aw_seq ?_
              obtain ⟨kk26, hkk26, h⟩ := lt_some h
              refine aw_seq_join (ι := Bool) (fun i => (memOf w0 Z0 [] [] [(fDat (tyList tyU8) [s17] (cut a0 (1 : Int) j4i5)), (fPtr tyU8 p24 u22)])) (fun i => (tab [(4, (Value.int .i64 l18i4)), (5, (Value.int .i64 j4i5)), (6, (Value.int .i64 j4i6)), (8, (Value.int .u8 (u22.toNat : Int))), (51, s17), (52, (Value.int .i64 ((cut a0 (1 : Int) j4i5).length : Int))), (53, (Value.int .i64 l18i53)), (62, (Value.bool i))])) (fun i => kk26 i = some r) ?_ ?_
              · rintro j25b62 h
                have h : kk26 j25b62 = some r := h
                rw [hkk26] at h
                dsimp only at h
                clear hkk26
                refine aw_show (m := (memOf w0 Z0 [] [] [(fDat (tyList tyU8) [s17] (cut a0 (1 : Int) j4i5)), (fPtr tyU8 p24 u22)])) (S := (tab [(4, (Value.int .i64 l18i4)), (5, (Value.int .i64 j4i5)), (6, (Value.int .i64 j4i6)), (8, (Value.int .u8 (u22.toNat : Int))), (51, s17), (52, (Value.int .i64 ((cut a0 (1 : Int) j4i5).length : Int))), (53, (Value.int .i64 l18i53)), (62, (Value.bool j25b62))])) ?_
                refine aw_cond rfl (fun hb27 => ?_) (fun hb27 => ?_)
                · replace h := bif_t hb27 h
                  refine aw_seq ?_
                  refine aw_region ?_
                  refine al_val (ov_assign rfl rfl) ?_
                  refine al_val (ov_assign rfl rfl) ?_
                  refine al_nil ?_
                  refine aq_then ?_
                  refine aw_ret ?_
                  refine aq_then_ret ?_
                  refine aq_block_ret ?_
                  refine aq_then_ret ?_
                  refine aq_then_ret ?_
                  refine aq_block_ret ?_
                  refine aq_then_ret ?_
                  obtain rfl := Option.some.inj h
                  exact fn_ret () [] [] rfl rfl rfl rfl (res2 rfl rfl rfl) rfl rfl rfl (by decide)
                · replace h := bif_f hb27 h
                  refine aw_skip ?_
                  refine aq_then ?_
                  refine aw_region ?_
                  refine al_val (ov_move rfl rfl) ?_
                  refine al_val (ov_int rfl rfl rfl rfl) ?_
                  refine al_val (ov_move rfl rfl) ?_
                  refine al_val (ov_convInt (by rw [Tryd.underlying5]; rfl) Tryd.underlying3 rfl rfl) ?_
                  refine al_val (ov_int rfl rfl rfl rfl) ?_
                  refine al_val (ov_int rfl rfl rfl rfl) ?_
                  refine al_val (ov_assign rfl rfl) ?_
                  refine al_nil ?_
                  refine aq_block ?_
                  refine aq_then ?_
                  refine aw_region ?_
                  refine al_val (ov_int rfl rfl rfl rfl) ?_
                  refine al_val (ov_move rfl rfl) ?_
                  refine al_nil ?_
                  exact aq_again k19 ((IntKind.i64.wrap ((IntKind.i64.wrap ((IntKind.i64.wrap ((64 : Int) * l18i4)) + (IntKind.i64.wrap (u22.toNat : Int)))) - (128 : Int))), (IntKind.i64.wrap (l18i53 + (1 : Int)))) (Nat.lt_succ_self _) h (fun w a hm hs => norm hm hs [] [0] [(4, (Value.int .i64 (IntKind.i64.wrap ((IntKind.i64.wrap ((IntKind.i64.wrap ((64 : Int) * l18i4)) + (IntKind.i64.wrap (u22.toNat : Int)))) - (128 : Int))))), (5, (Value.int .i64 j4i5)), (6, (Value.int .i64 j4i6)), (51, s17), (52, (Value.int .i64 ((cut a0 (1 : Int) j4i5).length : Int))), (53, (Value.int .i64 (IntKind.i64.wrap (l18i53 + (1 : Int)))))] (by decide) ⟨rfl, rfl, rfl, rfl, rfl, rfl, trivial⟩)
              · clear hkk26
                refine aw_region ?_
                refine al_val (ov_move rfl rfl) ?_
                refine al_val (ov_int rfl rfl rfl rfl) ?_
                refine al_val (ov_move rfl rfl) ?_
                refine al_caseB 59 rfl (fun hb28 => ?_) (fun hb28 => ?_)
                · replace h := bif_t hb28 h
                  refine al_skip ?_
                  refine al_skip ?_
                  refine al_val (ov_pick_t rfl rfl rfl) ?_
                  refine al_nil ?_
                  exact aq_join true h (fun w a hm hs => norm hm hs [] [1, 0] [(4, (Value.int .i64 l18i4)), (5, (Value.int .i64 j4i5)), (6, (Value.int .i64 j4i6)), (8, (Value.int .u8 (u22.toNat : Int))), (51, s17), (52, (Value.int .i64 ((cut a0 (1 : Int) j4i5).length : Int))), (53, (Value.int .i64 l18i53)), (62, (Value.bool true))] (by decide) ⟨rfl, rfl, rfl, rfl, rfl, rfl, rfl, rfl, trivial⟩)
                · replace h := bif_f hb28 h
                  refine al_val (ov_move rfl rfl) ?_
                  refine al_val (ov_int rfl rfl rfl rfl) ?_
                  refine al_val (ov_pick_f rfl rfl rfl) ?_
                  refine al_nil ?_
                  exact aq_join (decide ((u22.toNat : Int) > (191 : Int))) h (fun w a hm hs => norm hm hs [] [1, 0] [(4, (Value.int .i64 l18i4)), (5, (Value.int .i64 j4i5)), (6, (Value.int .i64 j4i6)), (8, (Value.int .u8 (u22.toNat : Int))), (51, s17), (52, (Value.int .i64 ((cut a0 (1 : Int) j4i5).length : Int))), (53, (Value.int .i64 l18i53)), (62, (Value.bool (decide ((u22.toNat : Int) > (191 : Int)))))] (by decide) ⟨rfl, rfl, rfl, rfl, rfl, rfl, rfl, rfl, trivial⟩)
            · replace h := bif_f hb21 h
              refine aw_exit ?_
              refine aq_then_exit ?_
              refine aq_then_exit ?_
              refine aq_block_exit ?_
              exact aq_join l18i4 h (fun w a hm hs => norm hm hs [] [] [(4, (Value.int .i64 l18i4)), (5, (Value.int .i64 j4i5)), (6, (Value.int .i64 j4i6))] (by decide) ⟨rfl, rfl, rfl, trivial⟩)
      · clear hkk5
        refine aw_block ?_
        obtain ⟨kk30, hkk30, h⟩ := lt_some h
        refine aw_seq_join (ι := Bool) (fun i => (memOf w0 Z0 [] [] [])) (fun i => (tab [(0, (str a0)), (4, (Value.int .i64 (IntKind.i64.wrap (En.bAt a0 (0 : Int))))), (17, (Value.bool i))])) (fun i => kk30 i = some r) ?_ ?_
        · rintro j29b17 h
          have h : kk30 j29b17 = some r := h
          rw [hkk30] at h
          dsimp only at h
          clear hkk30
          refine aw_show (m := (memOf w0 Z0 [] [] [])) (S := (tab [(0, (str a0)), (4, (Value.int .i64 (IntKind.i64.wrap (En.bAt a0 (0 : Int))))), (17, (Value.bool j29b17))])) ?_
          refine aw_cond rfl (fun hb31 => ?_) (fun hb31 => ?_)
          · replace h := bif_t hb31 h
            refine aw_region ?_
            refine al_val (ov_move rfl rfl) ?_
            refine al_val (ov_int rfl rfl rfl rfl) ?_
            refine al_val (ov_assign rfl rfl) ?_
            refine al_val (ov_assign rfl rfl) ?_
            refine al_val (ov_assign rfl rfl) ?_
            refine al_nil ?_
            refine aq_block ?_
            exact aq_join ((IntKind.i64.wrap ((IntKind.i64.wrap (En.bAt a0 (0 : Int))) - (192 : Int))), (2 : Int), (128 : Int)) h (fun w a hm hs => norm hm hs [] [] [(0, (str a0)), (4, (Value.int .i64 (IntKind.i64.wrap ((IntKind.i64.wrap (En.bAt a0 (0 : Int))) - (192 : Int))))), (5, (Value.int .i64 (2 : Int))), (6, (Value.int .i64 (128 : Int)))] (by decide) ⟨rfl, rfl, rfl, rfl, trivial⟩)
          · replace h := bif_f hb31 h
            obtain ⟨kk33, hkk33, h⟩ := lt_some h
            refine aw_seq_join (ι := Bool) (fun i => (memOf w0 Z0 [] [] [])) (fun i => (tab [(0, (str a0)), (4, (Value.int .i64 (IntKind.i64.wrap (En.bAt a0 (0 : Int))))), (26, (Value.bool i))])) (fun i => kk33 i = some r) ?_ ?_
            · rintro j32b26 h
              have h : kk33 j32b26 = some r := h
              rw [hkk33] at h
              dsimp only at h
              clear hkk33
              refine aw_show (m := (memOf w0 Z0 [] [] [])) (S := (tab [(0, (str a0)), (4, (Value.int .i64 (IntKind.i64.wrap (En.bAt a0 (0 : Int))))), (26, (Value.bool j32b26))])) ?_
              refine aw_cond rfl (fun hb34 => ?_) (fun hb34 => ?_)
              · replace h := bif_t hb34 h
                refine aw_region ?_
                refine al_val (ov_move rfl rfl) ?_
                refine al_val (ov_int rfl rfl rfl rfl) ?_
                refine al_val (ov_assign rfl rfl) ?_
                refine al_val (ov_assign rfl rfl) ?_
                refine al_val (ov_assign rfl rfl) ?_
                refine al_nil ?_
                refine aq_block ?_
                exact aq_join ((IntKind.i64.wrap ((IntKind.i64.wrap (En.bAt a0 (0 : Int))) - (224 : Int))), (3 : Int), (2048 : Int)) h (fun w a hm hs => norm hm hs [] [] [(0, (str a0)), (4, (Value.int .i64 (IntKind.i64.wrap ((IntKind.i64.wrap (En.bAt a0 (0 : Int))) - (224 : Int))))), (5, (Value.int .i64 (3 : Int))), (6, (Value.int .i64 (2048 : Int)))] (by decide) ⟨rfl, rfl, rfl, rfl, trivial⟩)
              · replace h := bif_f hb34 h
                obtain ⟨kk36, hkk36, h⟩ := lt_some h
                refine aw_seq_join (ι := Bool) (fun i => (memOf w0 Z0 [] [] [])) (fun i => (tab [(0, (str a0)), (4, (Value.int .i64 (IntKind.i64.wrap (En.bAt a0 (0 : Int))))), (35, (Value.bool i))])) (fun i => kk36 i = some r) ?_ ?_
                · rintro j35b35 h
                  have h : kk36 j35b35 = some r := h
                  rw [hkk36] at h
                  dsimp only at h
                  clear hkk36
                  refine aw_show (m := (memOf w0 Z0 [] [] [])) (S := (tab [(0, (str a0)), (4, (Value.int .i64 (IntKind.i64.wrap (En.bAt a0 (0 : Int))))), (35, (Value.bool j35b35))])) ?_
                  refine aw_cond rfl (fun hb37 => ?_) (fun hb37 => ?_)
                  · replace h := bif_t hb37 h
                    refine aw_region ?_
                    refine al_val (ov_move rfl rfl) ?_
                    refine al_val (ov_int rfl rfl rfl rfl) ?_
                    refine al_val (ov_assign rfl rfl) ?_
                    refine al_val (ov_assign rfl rfl) ?_
                    refine al_val (ov_assign rfl rfl) ?_
                    refine al_nil ?_
                    refine aq_block ?_
                    exact aq_join ((IntKind.i64.wrap ((IntKind.i64.wrap (En.bAt a0 (0 : Int))) - (240 : Int))), (4 : Int), (65536 : Int)) h (fun w a hm hs => norm hm hs [] [] [(0, (str a0)), (4, (Value.int .i64 (IntKind.i64.wrap ((IntKind.i64.wrap (En.bAt a0 (0 : Int))) - (240 : Int))))), (5, (Value.int .i64 (4 : Int))), (6, (Value.int .i64 (65536 : Int)))] (by decide) ⟨rfl, rfl, rfl, rfl, trivial⟩)
                  · replace h := bif_f hb37 h
                    refine aw_seq ?_
                    refine aw_region ?_
                    refine al_val (ov_assign rfl rfl) ?_
                    refine al_val (ov_assign rfl rfl) ?_
                    refine al_nil ?_
                    refine aq_then ?_
                    refine aw_ret ?_
                    refine aq_block_ret ?_
                    refine aq_then_ret ?_
                    obtain rfl := Option.some.inj h
                    exact fn_ret () [] [] rfl rfl rfl rfl (res2 rfl rfl rfl) rfl rfl rfl (by decide)
                · clear hkk36
                  refine aw_region ?_
                  refine al_val (ov_move rfl rfl) ?_
                  refine al_val (ov_int rfl rfl rfl rfl) ?_
                  refine al_val (ov_move rfl rfl) ?_
                  refine al_caseB 38 rfl (fun hb38 => ?_) (fun hb38 => ?_)
                  · replace h := bif_t hb38 h
                    refine al_val (ov_move rfl rfl) ?_
                    refine al_val (ov_int rfl rfl rfl rfl) ?_
                    refine al_val (ov_pick_t rfl rfl rfl) ?_
                    refine al_val (ov_assign rfl rfl) ?_
                    refine al_nil ?_
                    exact aq_join (decide ((IntKind.i64.wrap (En.bAt a0 (0 : Int))) < (245 : Int))) h (fun w a hm hs => norm hm hs [] [] [(0, (str a0)), (4, (Value.int .i64 (IntKind.i64.wrap (En.bAt a0 (0 : Int))))), (35, (Value.bool (decide ((IntKind.i64.wrap (En.bAt a0 (0 : Int))) < (245 : Int)))))] (by decide) ⟨rfl, rfl, rfl, trivial⟩)
                  · replace h := bif_f hb38 h
                    refine al_skip ?_
                    refine al_skip ?_
                    refine al_val (ov_pick_f rfl rfl rfl) ?_
                    refine al_val (ov_assign rfl rfl) ?_
                    refine al_nil ?_
                    exact aq_join false h (fun w a hm hs => norm hm hs [] [] [(0, (str a0)), (4, (Value.int .i64 (IntKind.i64.wrap (En.bAt a0 (0 : Int))))), (35, (Value.bool false))] (by decide) ⟨rfl, rfl, rfl, trivial⟩)
            · clear hkk33
              refine aw_region ?_
              refine al_val (ov_move rfl rfl) ?_
              refine al_val (ov_int rfl rfl rfl rfl) ?_
              refine al_val (ov_move rfl rfl) ?_
              refine al_caseB 29 rfl (fun hb39 => ?_) (fun hb39 => ?_)
              · replace h := bif_t hb39 h
                refine al_val (ov_move rfl rfl) ?_
                refine al_val (ov_int rfl rfl rfl rfl) ?_
                refine al_val (ov_pick_t rfl rfl rfl) ?_
                refine al_val (ov_assign rfl rfl) ?_
                refine al_nil ?_
                exact aq_join (decide ((IntKind.i64.wrap (En.bAt a0 (0 : Int))) < (240 : Int))) h (fun w a hm hs => norm hm hs [] [] [(0, (str a0)), (4, (Value.int .i64 (IntKind.i64.wrap (En.bAt a0 (0 : Int))))), (26, (Value.bool (decide ((IntKind.i64.wrap (En.bAt a0 (0 : Int))) < (240 : Int)))))] (by decide) ⟨rfl, rfl, rfl, trivial⟩)
              · replace h := bif_f hb39 h
                refine al_skip ?_
                refine al_skip ?_
                refine al_val (ov_pick_f rfl rfl rfl) ?_
                refine al_val (ov_assign rfl rfl) ?_
                refine al_nil ?_
                exact aq_join false h (fun w a hm hs => norm hm hs [] [] [(0, (str a0)), (4, (Value.int .i64 (IntKind.i64.wrap (En.bAt a0 (0 : Int))))), (26, (Value.bool false))] (by decide) ⟨rfl, rfl, rfl, trivial⟩)
        · clear hkk30
          refine aw_region ?_
          refine al_val (ov_move rfl rfl) ?_
          refine al_val (ov_int rfl rfl rfl rfl) ?_
          refine al_val (ov_move rfl rfl) ?_
          refine al_caseB 20 rfl (fun hb40 => ?_) (fun hb40 => ?_)
          · replace h := bif_t hb40 h
            refine al_val (ov_move rfl rfl) ?_
            refine al_val (ov_int rfl rfl rfl rfl) ?_
            refine al_val (ov_pick_t rfl rfl rfl) ?_
            refine al_val (ov_assign rfl rfl) ?_
            refine al_nil ?_
            exact aq_join (decide ((IntKind.i64.wrap (En.bAt a0 (0 : Int))) < (224 : Int))) h (fun w a hm hs => norm hm hs [] [] [(0, (str a0)), (4, (Value.int .i64 (IntKind.i64.wrap (En.bAt a0 (0 : Int))))), (17, (Value.bool (decide ((IntKind.i64.wrap (En.bAt a0 (0 : Int))) < (224 : Int)))))] (by decide) ⟨rfl, rfl, rfl, trivial⟩)
          · replace h := bif_f hb40 h
            refine al_skip ?_
            refine al_skip ?_
            refine al_val (ov_pick_f rfl rfl rfl) ?_
            refine al_val (ov_assign rfl rfl) ?_
            refine al_nil ?_
            exact aq_join false h (fun w a hm hs => norm hm hs [] [] [(0, (str a0)), (4, (Value.int .i64 (IntKind.i64.wrap (En.bAt a0 (0 : Int))))), (17, (Value.bool false))] (by decide) ⟨rfl, rfl, rfl, trivial⟩)
def f_lumref_Chars_L5 (kk2 : ((List Int) → Option ((List Int) × Bool))) (fu : Nat) : Nat → (List UInt8) → (List Int) → Option ((List Int) × Bool)
  | 0, _, _ => none
  | k4 + 1, l3s0, l3x4 => (bif (!(l3s0 == ([] : List UInt8))) then (opt (f_lumref_char fu l3s0) fun (r8 : (Int × Int)) => (bif (r8.2 == (0 : Int)) then (some (([] : List Int), false)) else (req (((l3x4.length + ([r8.1]).length) * 8 : Nat) ≤ 140737488355328 ∧ l3x4.length + ([r8.1]).length ≤ 9223372036854775807) (req (0 ≤ r8.2 ∧ r8.2 ≤ (l3s0.length : Int)) (f_lumref_Chars_L5 kk2 fu k4 (l3s0.drop (r8.2).toNat) (l3x4 ++ ([r8.1]))))))) else (kk2 l3x4))
def f_lumref_Chars (fu : Nat) (a0 : (List UInt8)) : Option ((List Int) × Bool) := (lt (fun (j1x4 : (List Int)) => (some (j1x4, true))) fun (kk2 : (List Int) → Option ((List Int) × Bool)) => (f_lumref_Chars_L5 kk2 fu fu a0 ([] : List Int)))
set_option maxRecDepth 100000 in
theorem f_lumref_Chars_ok (fu : Nat) (a0 : (List UInt8)) {r : ((List Int) × Bool)} (h : f_lumref_Chars fu a0 = some r) : FnOk Tryd.prog 92 [(str a0)] [] [] (fun (i : Value) => { val := (Value.tuple #[i, (Value.bool r.2)]), own := [(oRow i 3 (tyInt .i64) r.1)] }) := by
  unfold f_lumref_Chars at h
  refine fn_enter Tryd.func92 rfl Tryd.ntmps92 rfl (fun w0 Z0 => ?_)
  refine aw_seq ?_
  refine aw_region ?_
  refine al_val (ov_assign rfl rfl) ?_
  refine al_val (ov_assign rfl rfl) ?_
  refine al_nil ?_
  refine aq_then ?_
  refine aw_seq ?_
  refine aw_region ?_
  refine al_val (ov_assign rfl rfl) ?_
  refine al_nil ?_
  refine aq_then ?_
  obtain ⟨kk2, hkk2, h⟩ := lt_some h
  refine aw_seq_join (ι := Value × (List Int)) (fun i => (memOf w0 Z0 [] [(oRow i.1 3 (tyInt .i64) i.2)] [])) (fun i => (tab [(4, i.1)])) (fun i => kk2 i.2 = some r) ?_ ?_
  · rintro ⟨j1v4, j1x4⟩ h
    have h : kk2 j1x4 = some r := h
    rw [hkk2] at h
    dsimp only at h
    clear hkk2
    refine aw_show (m := (memOf w0 Z0 [] [(oRow j1v4 3 (tyInt .i64) j1x4)] [])) (S := (tab [(4, j1v4)])) ?_
    refine aw_seq ?_
    refine aw_region ?_
    refine al_val (ov_move rfl rfl) ?_
    refine al_val (ov_assign rfl rfl) ?_
    refine al_val (ov_assign rfl rfl) ?_
    refine al_nil ?_
    refine aq_then ?_
    refine aw_ret ?_
    obtain rfl := Option.some.inj h
    exact fn_ret j1v4 [0] [] rfl rfl rfl rfl (res2 rfl rfl rfl) rfl rfl rfl (by decide)
  · clear hkk2
    refine aw_block ?_
    refine aw_nilR 3 (tyInt .i64) ?_
    refine aw_state (aw_loop (ι := (List UInt8) × Value × (List Int)) (fun i => (memOf w0 Z0 [] [(oRow i.2.1 3 (tyInt .i64) i.2.2)] [])) (fun i => (tab [(0, (str i.1)), (4, i.2.1)])) (fun q i => f_lumref_Chars_L5 kk2 fu q i.1 i.2.2 = some r) ?_ fu (a0, (Value.slice none 0 0), ([] : List Int)) h) (fun w a hm hs => norm hm hs [0] [] [(0, (str a0)), (4, (Value.slice none 0 0))] (by decide) ⟨rfl, rfl, trivial⟩)
    clear h
    rintro k4 ⟨l3s0, l3v4, l3x4⟩ h
    have h : f_lumref_Chars_L5 kk2 fu k4 l3s0 l3x4 = some r := h
    obtain _ | k4 := k4
    · rw [f_lumref_Chars_L5] at h; cases h
    rw [f_lumref_Chars_L5] at h
    refine aw_show (m := (memOf w0 Z0 [] [(oRow l3v4 3 (tyInt .i64) l3x4)] [])) (S := (tab [(0, (str l3s0)), (4, l3v4)])) ?_
    refine aw_seq ?_
    refine aw_seq ?_
    refine aw_region ?_
    refine al_val (ov_move rfl rfl) ?_
    refine al_val (ov_strCmp rfl rfl rfl rfl) ?_
    refine al_nil ?_
    refine aq_then ?_
    refine aw_cond rfl (fun hb6 => ?_) (fun hb6 => ?_)
    · replace h := bif_t hb6 h
      refine aw_skip ?_
      refine aq_then ?_
      refine aw_block ?_
      refine aw_seq ?_
      refine aw_region ?_
      refine al_val (ov_move rfl rfl) ?_
      obtain ⟨r8, hc7, h⟩ := opt_some h
      refine al_call (vs := [(str l3s0)]) (f_lumref_char_ok fu l3s0 hc7) [] [] [0] pre_nil rfl (by simp) (by decide) (.inl rfl) rfl Tryd.func125 rfl rfl rfl (fun _ => ?_)
      refine al_val (ov_move rfl rfl) ?_
      refine al_val (ov_extract rfl rfl rfl) ?_
      refine al_val (ov_extract rfl rfl rfl) ?_
      refine al_val (ov_assign rfl rfl) ?_
      refine al_val (ov_assign rfl rfl) ?_
      refine al_nil ?_
      refine aq_then ?_
      refine aw_seq ?_
      refine aw_seq ?_
      refine aw_region ?_
      refine al_val (ov_move rfl rfl) ?_
      refine al_val (ov_int rfl rfl rfl rfl) ?_
      refine al_nil ?_
      refine aq_then ?_
      refine aw_cond rfl (fun hb9 => ?_) (fun hb9 => ?_)
      · replace h := bif_t hb9 h
        refine aw_seq ?_
        refine aw_region ?_
        refine al_val (ov_assign rfl rfl) ?_
        refine al_val (ov_assign rfl rfl) ?_
        refine al_nil ?_
        refine aq_then ?_
        refine aw_ret ?_
        refine aq_then_ret ?_
        refine aq_block_ret ?_
        refine aq_then_ret ?_
        refine aq_block_ret ?_
        refine aq_then_ret ?_
        refine aq_nilR 3 (tyInt .i64) ?_
        obtain rfl := Option.some.inj h
        exact fn_ret (Value.slice none 0 0) [0] [] rfl rfl rfl rfl (res2 rfl rfl rfl) rfl rfl rfl (by decide)
      · replace h := bif_f hb9 h
        refine aw_skip ?_
        refine aq_then ?_
        refine aw_seq ?_
        refine aw_region ?_
        refine al_val (ov_move rfl rfl) ?_
        refine al_val (ov_move rfl rfl) ?_
        refine al_buildSlice (τ := (tyInt .i64)) (e := 3) (k := 1) (sz := 0) (by_ := 0) (z := undef) (cs := [(Value.int .i64 r8.1)]) (xs := [r8.1]) rfl (by decide) (fun w a hm hs => ⟨([(Value.int .i64 r8.1)]).toArray, rfl, by simp only [List.map_toArray, List.map_cons, List.map_nil, hs.ev (x := .tmp 17) rfl]; exact run_bs [(Value.int .i64 r8.1)] [(Value.int .i64 r8.1)] Tryd.underlying59 to3 rfl rfl (bs_cons (l := [(Value.int .i64 r8.1)]) (cs := []) (cv_rfl rfl) rfl bs_nil) hm⟩) (fun hm => ⟨_, _, rfl, (fun _ => rfl) hm, rfl⟩) rfl (fun v10 => ?_)
        obtain ⟨hc11, h⟩ := req_some h
        refine al_append 1 hc11.1 hc11.2 rfl (src_own (i := 1) 0 rfl) rfl rfl Tryd.underlying59 to3 rfl rfl rfl (fun v12 => ?_)
        refine al_val (ov_assign rfl rfl) ?_
        refine al_nil ?_
        refine aq_then ?_
        refine aw_region ?_
        refine al_val (ov_move rfl rfl) ?_
        refine al_val (ov_move rfl rfl) ?_
        obtain ⟨hc13, h⟩ := req_some h
        refine al_val (ov_strFrom hc13.1 hc13.2 Tryd.underlying9 rfl rfl rfl) ?_
        refine al_val (ov_assign rfl rfl) ?_
        refine al_nil ?_
        refine aq_block ?_
        exact aq_again k4 ((l3s0.drop (r8.2).toNat), v12, (l3x4 ++ ([r8.1]))) (Nat.lt_succ_self _) h (fun w a hm hs => norm hm hs [1] [] [(0, (str (l3s0.drop (r8.2).toNat))), (4, v12)] (by decide) ⟨rfl, rfl, trivial⟩)
    · replace h := bif_f hb6 h
      refine aw_exit ?_
      refine aq_then_exit ?_
      refine aq_then_exit ?_
      refine aq_block_exit ?_
      exact aq_join (l3v4, l3x4) h (fun w a hm hs => norm hm hs [0] [] [(4, l3v4)] (by decide) ⟨rfl, trivial⟩)
def f_lumref_Name_L12 (r2 : ((List Int) × Bool)) (kk8 : (Unit → Option Int)) : Nat → Int → Option Int
  | 0, _ => none
  | k11 + 1, l10i29 => (bif (decide (l10i29 < (r2.1.length : Int))) then (opt (at? r2.1 l10i29) fun (u14 : Int) => (lt (fun (j18b42 : Bool) => (bif j18b42 then (some (8 : Int)) else (f_lumref_Name_L12 r2 kk8 k11 (IntKind.i64.wrap (l10i29 + (1 : Int)))))) fun (kk19 : Bool → Option Int) => (bif (u14 == (47 : Int)) then (kk19 true) else (bif (decide (u14 < (32 : Int))) then (kk19 true) else (kk19 (u14 == (127 : Int))))))) else (kk8 ()))
def f_lumref_Name (fu : Nat) (a0 : (List UInt8)) : Option Int := (opt (f_lumref_Chars fu a0) fun (r2 : ((List Int) × Bool)) => (lt (fun (j4b26 : Bool) => (bif j4b26 then (some (8 : Int)) else (lt (fun (_ : Unit) => (bif (decide ((r2.1.length : Int) > (24 : Int))) then (some (2 : Int)) else (some (0 : Int)))) fun (kk8 : Unit → Option Int) => (f_lumref_Name_L12 r2 kk8 fu (0 : Int))))) fun (kk5 : Bool → Option Int) => (bif (!r2.2) then (kk5 true) else (bif ((r2.1.length : Int) == (0 : Int)) then (kk5 true) else (bif (a0 == ([46] : List UInt8)) then (kk5 true) else (kk5 (a0 == ([46, 46] : List UInt8))))))))
set_option maxRecDepth 100000 in
theorem f_lumref_Name_ok (fu : Nat) (a0 : (List UInt8)) {r : Int} (h : f_lumref_Name fu a0 = some r) : FnOk Tryd.prog 47 [(str a0)] [] [] (fun (i : Unit) => { val := (Value.int .i64 r) }) := by
  unfold f_lumref_Name at h
  refine fn_enter Tryd.func47 rfl Tryd.ntmps47 rfl (fun w0 Z0 => ?_)
  refine aw_seq ?_
  refine aw_region ?_
  refine al_val (ov_assign rfl rfl) ?_
  refine al_nil ?_
  refine aq_then ?_
  refine aw_seq ?_
  refine aw_region ?_
  refine al_val (ov_move rfl rfl) ?_
  obtain ⟨r2, hc1, h⟩ := opt_some h
  refine al_call (vs := [(str a0)]) (f_lumref_Chars_ok fu a0 hc1) [] [] [] pre_nil rfl (by simp) (by decide) (.inl rfl) rfl Tryd.func92 rfl rfl rfl (fun v3 => ?_)
  refine al_val (ov_move rfl rfl) ?_
  refine al_val (ov_extract rfl rfl rfl) ?_
  refine al_val (ov_extract rfl rfl rfl) ?_
  refine al_val (ov_assign rfl rfl) ?_
  refine al_val (ov_assign rfl rfl) ?_
  refine al_nil ?_
  refine aq_then ?_
  refine aw_seq ?_
  obtain ⟨kk5, hkk5, h⟩ := lt_some h
  refine aw_seq_join (ι := Bool) (fun i => (memOf w0 Z0 [] [(oRow v3 3 (tyInt .i64) r2.1)] [])) (fun i => (tab [(3, v3), (26, (Value.bool i))])) (fun i => kk5 i = some r) ?_ ?_
  · rintro j4b26 h
    have h : kk5 j4b26 = some r := h
    rw [hkk5] at h
    dsimp only at h
    clear hkk5
    refine aw_show (m := (memOf w0 Z0 [] [(oRow v3 3 (tyInt .i64) r2.1)] [])) (S := (tab [(3, v3), (26, (Value.bool j4b26))])) ?_
    refine aw_cond rfl (fun hb6 => ?_) (fun hb6 => ?_)
    · replace h := bif_t hb6 h
      refine aw_seq ?_
      refine aw_region ?_
      refine al_val (ov_assign rfl rfl) ?_
      refine al_nil ?_
      refine aq_then ?_
      refine aw_ret ?_
      refine aq_then_ret ?_
      obtain rfl := Option.some.inj h
      exact fn_ret () [] [] rfl rfl rfl rfl (res1 rfl rfl) rfl rfl rfl (by decide)
    · replace h := bif_f hb6 h
      refine aw_skip ?_
      refine aq_then ?_
      obtain ⟨kk8, hkk8, h⟩ := lt_some h
      refine aw_seq_join (ι := Unit) (fun i => (memOf w0 Z0 [] [(oRow v3 3 (tyInt .i64) r2.1)] [])) (fun i => (tab [(3, v3)])) (fun i => kk8 () = some r) ?_ ?_
      · rintro _ h
        have h : kk8 () = some r := h
        rw [hkk8] at h
        dsimp only at h
        clear hkk8
        refine aw_show (m := (memOf w0 Z0 [] [(oRow v3 3 (tyInt .i64) r2.1)] [])) (S := (tab [(3, v3)])) ?_
        refine aw_seq ?_
        refine aw_seq ?_
        refine aw_region ?_
        refine al_val (ov_move rfl rfl) ?_
        refine al_val (ov_lenR 0 rfl rfl Tryd.underlying59 rfl) ?_
        refine al_val (ov_int rfl rfl rfl rfl) ?_
        refine al_nil ?_
        refine aq_then ?_
        refine aw_cond rfl (fun hb9 => ?_) (fun hb9 => ?_)
        · replace h := bif_t hb9 h
          refine aw_seq ?_
          refine aw_region ?_
          refine al_val (ov_assign rfl rfl) ?_
          refine al_nil ?_
          refine aq_then ?_
          refine aw_ret ?_
          refine aq_then_ret ?_
          obtain rfl := Option.some.inj h
          exact fn_ret () [] [] rfl rfl rfl rfl (res1 rfl rfl) rfl rfl rfl (by decide)
        · replace h := bif_f hb9 h
          refine aw_skip ?_
          refine aq_then ?_
          refine aw_seq ?_
          refine aw_region ?_
          refine al_val (ov_assign rfl rfl) ?_
          refine al_nil ?_
          refine aq_then ?_
          refine aw_ret ?_
          obtain rfl := Option.some.inj h
          exact fn_ret () [] [] rfl rfl rfl rfl (res1 rfl rfl) rfl rfl rfl (by decide)
      · clear hkk8
        refine aw_seq ?_
        refine aw_region ?_
        refine al_val (ov_move rfl rfl) ?_
        refine al_val (ov_lenR 0 rfl rfl Tryd.underlying59 rfl) ?_
        refine al_val (ov_move rfl rfl) ?_
        refine al_nil ?_
        refine aq_then ?_
        refine aw_block ?_
        refine aw_state (aw_loop (ι := Int) (fun i => (memOf w0 Z0 [] [(oRow v3 3 (tyInt .i64) r2.1)] [])) (fun i => (tab [(3, v3), (27, v3), (28, (Value.int .i64 (r2.1.length : Int))), (29, (Value.int .i64 i))])) (fun q i => f_lumref_Name_L12 r2 kk8 q i = some r) ?_ fu (0 : Int) h) (fun w a hm hs => norm hm hs [0] [] [(3, v3), (27, v3), (28, (Value.int .i64 (r2.1.length : Int))), (29, (Value.int .i64 (0 : Int)))] (by decide) ⟨rfl, rfl, rfl, rfl, trivial⟩)
        clear h
        rintro k11 l10i29 h
        have h : f_lumref_Name_L12 r2 kk8 k11 l10i29 = some r := h
        obtain _ | k11 := k11
        · rw [f_lumref_Name_L12] at h; cases h
        rw [f_lumref_Name_L12] at h
        refine aw_show (m := (memOf w0 Z0 [] [(oRow v3 3 (tyInt .i64) r2.1)] [])) (S := (tab [(3, v3), (27, v3), (28, (Value.int .i64 (r2.1.length : Int))), (29, (Value.int .i64 l10i29))])) ?_
        refine aw_seq ?_
        refine aw_region ?_
        refine al_val (ov_int rfl rfl rfl rfl) ?_
        refine al_nil ?_
        refine aq_then ?_
        refine aw_seq ?_
        refine aw_cond rfl (fun hb13 => ?_) (fun hb13 => ?_)
        · replace h := bif_t hb13 h
          refine aw_skip ?_
          refine aq_then ?_
          refine aw_seq ?_
          refine aw_block ?_
          refine aw_seq ?_
          refine aw_region ?_
          obtain ⟨u14, hu15, h⟩ := opt_some h
          refine al_idxR 0 (at_some hu15).1 (at_some hu15).2.1 rfl rfl rfl Tryd.underlying59 sz3 rfl (fun p16 hp17 => ?_)
          refine al_val (ov_loadR (ds := [(Value.int .i64 u14)]) 0 rfl hp17 (at_some hu15).2.2 (fun h => h) rfl Tryd.underlying3 sz3 rfl rfl rfl) ?_
          refine al_val (ov_assign rfl rfl) ?_
          refine al_nil ?_
          refine aq_then ?_
          obtain ⟨kk19, hkk19, h⟩ := lt_some h
          refine aw_seq_join (ι := Bool) (fun i => (memOf w0 Z0 [] [(oRow v3 3 (tyInt .i64) r2.1)] [])) (fun i => (tab [(3, v3), (27, v3), (28, (Value.int .i64 (r2.1.length : Int))), (29, (Value.int .i64 l10i29)), (42, (Value.bool i))])) (fun i => kk19 i = some r) ?_ ?_
          · rintro j18b42 h
            have h : kk19 j18b42 = some r := h
            rw [hkk19] at h
            dsimp only at h
            clear hkk19
            refine aw_show (m := (memOf w0 Z0 [] [(oRow v3 3 (tyInt .i64) r2.1)] [])) (S := (tab [(3, v3), (27, v3), (28, (Value.int .i64 (r2.1.length : Int))), (29, (Value.int .i64 l10i29)), (42, (Value.bool j18b42))])) ?_
            refine aw_cond rfl (fun hb20 => ?_) (fun hb20 => ?_)
            · replace h := bif_t hb20 h
              refine aw_seq ?_
              refine aw_region ?_
              refine al_val (ov_assign rfl rfl) ?_
              refine al_nil ?_
              refine aq_then ?_
              refine aw_ret ?_
              refine aq_block_ret ?_
              refine aq_then_ret ?_
              refine aq_then_ret ?_
              refine aq_block_ret ?_
              refine aq_then_ret ?_
              obtain rfl := Option.some.inj h
              exact fn_ret () [] [] rfl rfl rfl rfl (res1 rfl rfl) rfl rfl rfl (by decide)
            · replace h := bif_f hb20 h
              refine aw_skip ?_
              refine aq_block ?_
              refine aq_then ?_
              refine aw_region ?_
              refine al_val (ov_int rfl rfl rfl rfl) ?_
              refine al_val (ov_move rfl rfl) ?_
              refine al_nil ?_
              exact aq_again k11 (IntKind.i64.wrap (l10i29 + (1 : Int))) (Nat.lt_succ_self _) h (fun w a hm hs => norm hm hs [0] [] [(3, v3), (27, v3), (28, (Value.int .i64 (r2.1.length : Int))), (29, (Value.int .i64 (IntKind.i64.wrap (l10i29 + (1 : Int)))))] (by decide) ⟨rfl, rfl, rfl, rfl, trivial⟩)
          · clear hkk19
            refine aw_region ?_
            refine al_val (ov_move rfl rfl) ?_
            refine al_val (ov_int rfl rfl rfl rfl) ?_
            refine al_val (ov_move rfl rfl) ?_
            refine al_caseB 35 rfl (fun hb21 => ?_) (fun hb21 => ?_)
            · replace h := bif_t hb21 h
              refine al_skip ?_
              refine al_skip ?_
              refine al_val (ov_pick_t rfl rfl rfl) ?_
              refine al_val (ov_move rfl rfl) ?_
              refine al_skip ?_
              refine al_skip ?_
              refine al_val (ov_pick_t rfl rfl rfl) ?_
              refine al_nil ?_
              exact aq_join true h (fun w a hm hs => norm hm hs [0] [] [(3, v3), (27, v3), (28, (Value.int .i64 (r2.1.length : Int))), (29, (Value.int .i64 l10i29)), (42, (Value.bool true))] (by decide) ⟨rfl, rfl, rfl, rfl, rfl, trivial⟩)
            · replace h := bif_f hb21 h
              refine al_val (ov_move rfl rfl) ?_
              refine al_val (ov_int rfl rfl rfl rfl) ?_
              refine al_val (ov_pick_f rfl rfl rfl) ?_
              refine al_val (ov_move rfl rfl) ?_
              refine al_caseB 39 rfl (fun hb22 => ?_) (fun hb22 => ?_)
              · replace h := bif_t hb22 h
                refine al_skip ?_
                refine al_skip ?_
                refine al_val (ov_pick_t rfl rfl rfl) ?_
                refine al_nil ?_
                exact aq_join true h (fun w a hm hs => norm hm hs [0] [] [(3, v3), (27, v3), (28, (Value.int .i64 (r2.1.length : Int))), (29, (Value.int .i64 l10i29)), (42, (Value.bool true))] (by decide) ⟨rfl, rfl, rfl, rfl, rfl, trivial⟩)
              · replace h := bif_f hb22 h
                refine al_val (ov_move rfl rfl) ?_
                refine al_val (ov_int rfl rfl rfl rfl) ?_
                refine al_val (ov_pick_f rfl rfl rfl) ?_
                refine al_nil ?_
                exact aq_join (u14 == (127 : Int)) h (fun w a hm hs => norm hm hs [0] [] [(3, v3), (27, v3), (28, (Value.int .i64 (r2.1.length : Int))), (29, (Value.int .i64 l10i29)), (42, (Value.bool (u14 == (127 : Int))))] (by decide) ⟨rfl, rfl, rfl, rfl, rfl, trivial⟩)
        · replace h := bif_f hb13 h
          refine aw_exit ?_
          refine aq_then_exit ?_
          refine aq_then_exit ?_
          refine aq_block_exit ?_
          exact aq_join () h (fun w a hm hs => norm hm hs [0] [] [(3, v3)] (by decide) ⟨rfl, trivial⟩)
  · clear hkk5
    refine aw_region ?_
    refine al_val (ov_move rfl rfl) ?_
    refine al_val (ov_not rfl rfl) ?_
    refine al_val (ov_move rfl rfl) ?_
    refine al_caseB 14 rfl (fun hb23 => ?_) (fun hb23 => ?_)
    · replace h := bif_t hb23 h
      refine al_skip ?_
      refine al_skip ?_
      refine al_skip ?_
      refine al_val (ov_pick_t rfl rfl rfl) ?_
      refine al_val (ov_move rfl rfl) ?_
      refine al_skip ?_
      refine al_skip ?_
      refine al_val (ov_pick_t rfl rfl rfl) ?_
      refine al_val (ov_move rfl rfl) ?_
      refine al_skip ?_
      refine al_skip ?_
      refine al_val (ov_pick_t rfl rfl rfl) ?_
      refine al_nil ?_
      exact aq_join true h (fun w a hm hs => norm hm hs [0] [] [(3, v3), (26, (Value.bool true))] (by decide) ⟨rfl, rfl, trivial⟩)
    · replace h := bif_f hb23 h
      refine al_val (ov_move rfl rfl) ?_
      refine al_val (ov_lenR 0 rfl rfl Tryd.underlying59 rfl) ?_
      refine al_val (ov_int rfl rfl rfl rfl) ?_
      refine al_val (ov_pick_f rfl rfl rfl) ?_
      refine al_val (ov_move rfl rfl) ?_
      refine al_caseB 19 rfl (fun hb24 => ?_) (fun hb24 => ?_)
      · replace h := bif_t hb24 h
        refine al_skip ?_
        refine al_skip ?_
        refine al_val (ov_pick_t rfl rfl rfl) ?_
        refine al_val (ov_move rfl rfl) ?_
        refine al_skip ?_
        refine al_skip ?_
        refine al_val (ov_pick_t rfl rfl rfl) ?_
        refine al_nil ?_
        exact aq_join true h (fun w a hm hs => norm hm hs [0] [] [(3, v3), (26, (Value.bool true))] (by decide) ⟨rfl, rfl, trivial⟩)
      · replace h := bif_f hb24 h
        refine al_val (ov_move rfl rfl) ?_
        refine al_val (ov_strCmp rfl rfl rfl rfl) ?_
        refine al_val (ov_pick_f rfl rfl rfl) ?_
        refine al_val (ov_move rfl rfl) ?_
        refine al_caseB 23 rfl (fun hb25 => ?_) (fun hb25 => ?_)
        · replace h := bif_t hb25 h
          refine al_skip ?_
          refine al_skip ?_
          refine al_val (ov_pick_t rfl rfl rfl) ?_
          refine al_nil ?_
          exact aq_join true h (fun w a hm hs => norm hm hs [0] [] [(3, v3), (26, (Value.bool true))] (by decide) ⟨rfl, rfl, trivial⟩)
        · replace h := bif_f hb25 h
          refine al_val (ov_move rfl rfl) ?_
          refine al_val (ov_strCmp rfl rfl rfl rfl) ?_
          refine al_val (ov_pick_f rfl rfl rfl) ?_
          refine al_nil ?_
          exact aq_join (a0 == ([46, 46] : List UInt8)) h (fun w a hm hs => norm hm hs [0] [] [(3, v3), (26, (Value.bool (a0 == ([46, 46] : List UInt8))))] (by decide) ⟨rfl, rfl, trivial⟩)
def f_lumref_HeadErr_L28 (a0 : S_api_Head) (l13i94 : Int) (kk19 : (Unit → Option Int)) (u20 : S_api_Snap) : Nat → Int → Option Int
  | 0, _ => none
  | k27 + 1, l26i104 => (bif (decide (l26i104 < ((a0.Snaps.take (l13i94).toNat).length : Int))) then (opt (at? (a0.Snaps.take (l13i94).toNat) l26i104) fun (u30 : S_api_Snap) => (bif (u20.Name == u30.Name) then (some (4 : Int)) else (f_lumref_HeadErr_L28 a0 l13i94 kk19 u20 k27 (IntKind.i64.wrap (l26i104 + (1 : Int)))))) else (kk19 ()))
def f_lumref_HeadErr_L15 (a0 : S_api_Head) (kk12 : (Unit → Option Int)) (fu : Nat) : Nat → Int → Option Int
  | 0, _ => none
  | k14 + 1, l13i94 => (lt (fun (l13i94 : Int) => (f_lumref_HeadErr_L15 a0 kk12 fu k14 l13i94)) fun (kk16 : Int → Option Int) => (bif (decide (l13i94 < (a0.Snaps.length : Int))) then (lt (fun (_ : Unit) => (kk16 (IntKind.i64.wrap (l13i94 + (1 : Int))))) fun (kk19 : Unit → Option Int) => (opt (at? a0.Snaps l13i94) fun (u20 : S_api_Snap) => (req (0 ≤ l13i94 ∧ l13i94 ≤ (a0.Snaps.length : Int)) (f_lumref_HeadErr_L28 a0 l13i94 kk19 u20 fu (0 : Int))))) else (kk12 ())))
def f_lumref_HeadErr_L37 (a0 : S_api_Head) (kk10 : (Unit → Option Int)) : Nat → Int → Option Int
  | 0, _ => none
  | k36 + 1, l35i67 => (bif (decide (l35i67 < (a0.Packs.length : Int))) then (opt (at? a0.Packs l35i67) fun (u39 : Int) => (lt (fun (j42b89 : Bool) => (bif j42b89 then (some (4 : Int)) else (f_lumref_HeadErr_L37 a0 kk10 k36 (IntKind.i64.wrap (l35i67 + (1 : Int)))))) fun (kk43 : Bool → Option Int) => (bif (decide (u39 ≥ a0.Next)) then (kk43 true) else (bif (decide (l35i67 > (0 : Int))) then (opt (at? a0.Packs (IntKind.i64.wrap (l35i67 - (1 : Int)))) fun (u47 : Int) => (kk43 (decide (u39 ≤ u47)))) else (kk43 false))))) else (kk10 ()))
def f_lumref_HeadErr_L52 (a0 : S_api_Head) (kk8 : (Unit → Option Int)) (fu : Nat) : Nat → Int → Option Int
  | 0, _ => none
  | k51 + 1, l50i45 => (bif (decide (l50i45 < (a0.Snaps.length : Int))) then (opt (at? a0.Snaps l50i45) fun (u54 : S_api_Snap) => (opt (f_lumref_Name fu u54.Name) fun (r59 : Int) => (bif (r59 != (0 : Int)) then (some r59) else (lt (fun (j61b62 : Bool) => (bif j61b62 then (some (1 : Int)) else (f_lumref_HeadErr_L52 a0 kk8 fu k51 (IntKind.i64.wrap (l50i45 + (1 : Int)))))) fun (kk62 : Bool → Option Int) => (bif (decide (u54.Time < (0 : Int))) then (kk62 true) else (kk62 (decide (u54.Time > (4223371679 : Int))))))))) else (kk8 ()))
def f_lumref_HeadErr_L70 (a0 : S_api_Head) (kk6 : (Unit → Option Int)) : Nat → Int → Option Int
  | 0, _ => none
  | k69 + 1, l68i31 => (bif (decide (l68i31 < ((([a0.Next]) ++ a0.Packs).length : Int))) then (opt (at? (([a0.Next]) ++ a0.Packs) l68i31) fun (u72 : Int) => (lt (fun (j76b40 : Bool) => (bif j76b40 then (some (1 : Int)) else (f_lumref_HeadErr_L70 a0 kk6 k69 (IntKind.i64.wrap (l68i31 + (1 : Int)))))) fun (kk77 : Bool → Option Int) => (bif (decide (u72 < (0 : Int))) then (kk77 true) else (kk77 (decide (u72 > (65536 : Int))))))) else (kk6 ()))
def f_lumref_HeadErr (fu : Nat) (a0 : S_api_Head) : Option Int := (lt (fun (j2b23 : Bool) => (bif j2b23 then (some (2 : Int)) else (lt (fun (_ : Unit) => (lt (fun (_ : Unit) => (lt (fun (_ : Unit) => (lt (fun (_ : Unit) => (some (0 : Int))) fun (kk12 : Unit → Option Int) => (f_lumref_HeadErr_L15 a0 kk12 fu fu (0 : Int)))) fun (kk10 : Unit → Option Int) => (f_lumref_HeadErr_L37 a0 kk10 fu (0 : Int)))) fun (kk8 : Unit → Option Int) => (f_lumref_HeadErr_L52 a0 kk8 fu fu (0 : Int)))) fun (kk6 : Unit → Option Int) => (req (((([a0.Next]).length + a0.Packs.length) * 8 : Nat) ≤ 140737488355328 ∧ ([a0.Next]).length + a0.Packs.length ≤ 9223372036854775807) (f_lumref_HeadErr_L70 a0 kk6 fu (0 : Int)))))) fun (kk3 : Bool → Option Int) => (bif (decide ((a0.Packs.length : Int) > (100 : Int))) then (kk3 true) else (kk3 (decide ((a0.Snaps.length : Int) > (20 : Int))))))
set_option maxRecDepth 100000 in
theorem f_lumref_HeadErr_ok (fu : Nat) (v0_1 : Value) (v0_2 : Value) (a0 : S_api_Head) {r : Int} (h : f_lumref_HeadErr fu a0 = some r) : FnOk Tryd.prog 32 [(ag [(Value.int .i64 a0.Next), v0_1, v0_2])] [(fDat (tyList (tyInt .i64)) [v0_1] a0.Packs), (fDat (tyList tyS_api_Snap) [v0_2] a0.Snaps)] [] (fun (i : Unit) => { val := (Value.int .i64 r) }) := by
  unfold f_lumref_HeadErr at h
  refine fn_enter Tryd.func32 rfl Tryd.ntmps32 rfl (fun w0 Z0 => ?_)
  refine aw_seq ?_
  refine aw_region ?_
  refine al_box (vs := [(Value.int .i64 a0.Next), v0_1, v0_2]) rfl (cv_rfl rfl) rfl (fun g1 => ?_)
  refine al_val (ov_assign rfl rfl) ?_
  refine al_nil ?_
  refine aq_then ?_
  refine aw_seq ?_
  obtain ⟨kk3, hkk3, h⟩ := lt_some h
  refine aw_seq_join (ι := Bool) (fun i => (memOf w0 Z0 [] [(oBox g1 62 [(Value.int .i64 a0.Next), v0_1, v0_2])] [(fDat (tyList (tyInt .i64)) [v0_1] a0.Packs), (fDat (tyList tyS_api_Snap) [v0_2] a0.Snaps)])) (fun i => (tab [(1, (ptr g1 0)), (23, (Value.bool i))])) (fun i => kk3 i = some r) ?_ ?_
  · rintro j2b23 h
    have h : kk3 j2b23 = some r := h
    rw [hkk3] at h
    dsimp only at h
    clear hkk3
    refine aw_show (m := (memOf w0 Z0 [] [(oBox g1 62 [(Value.int .i64 a0.Next), v0_1, v0_2])] [(fDat (tyList (tyInt .i64)) [v0_1] a0.Packs), (fDat (tyList tyS_api_Snap) [v0_2] a0.Snaps)])) (S := (tab [(1, (ptr g1 0)), (23, (Value.bool j2b23))])) ?_
    refine aw_cond rfl (fun hb4 => ?_) (fun hb4 => ?_)
    · replace h := bif_t hb4 h
      refine aw_seq ?_
      refine aw_region ?_
      refine al_val (ov_assign rfl rfl) ?_
      refine al_nil ?_
      refine aq_then ?_
      refine aw_ret ?_
      refine aq_then_ret ?_
      obtain rfl := Option.some.inj h
      exact fn_ret () [] [] rfl rfl rfl rfl (res1 rfl rfl) rfl rfl rfl (by decide)
    · replace h := bif_f hb4 h
      refine aw_skip ?_
      refine aq_then ?_
      obtain ⟨kk6, hkk6, h⟩ := lt_some h
      refine aw_seq_join (ι := Unit) (fun i => (memOf w0 Z0 [] [(oBox g1 62 [(Value.int .i64 a0.Next), v0_1, v0_2])] [(fDat (tyList (tyInt .i64)) [v0_1] a0.Packs), (fDat (tyList tyS_api_Snap) [v0_2] a0.Snaps)])) (fun i => (tab [(1, (ptr g1 0))])) (fun i => kk6 () = some r) ?_ ?_
      · rintro _ h
        have h : kk6 () = some r := h
        rw [hkk6] at h
        dsimp only at h
        clear hkk6
        refine aw_show (m := (memOf w0 Z0 [] [(oBox g1 62 [(Value.int .i64 a0.Next), v0_1, v0_2])] [(fDat (tyList (tyInt .i64)) [v0_1] a0.Packs), (fDat (tyList tyS_api_Snap) [v0_2] a0.Snaps)])) (S := (tab [(1, (ptr g1 0))])) ?_
        obtain ⟨kk8, hkk8, h⟩ := lt_some h
        refine aw_seq_join (ι := Unit) (fun i => (memOf w0 Z0 [] [(oBox g1 62 [(Value.int .i64 a0.Next), v0_1, v0_2])] [(fDat (tyList (tyInt .i64)) [v0_1] a0.Packs), (fDat (tyList tyS_api_Snap) [v0_2] a0.Snaps)])) (fun i => (tab [(1, (ptr g1 0))])) (fun i => kk8 () = some r) ?_ ?_
        · rintro _ h
          have h : kk8 () = some r := h
          rw [hkk8] at h
          dsimp only at h
          clear hkk8
          refine aw_show (m := (memOf w0 Z0 [] [(oBox g1 62 [(Value.int .i64 a0.Next), v0_1, v0_2])] [(fDat (tyList (tyInt .i64)) [v0_1] a0.Packs), (fDat (tyList tyS_api_Snap) [v0_2] a0.Snaps)])) (S := (tab [(1, (ptr g1 0))])) ?_
          obtain ⟨kk10, hkk10, h⟩ := lt_some h
          refine aw_seq_join (ι := Unit) (fun i => (memOf w0 Z0 [] [(oBox g1 62 [(Value.int .i64 a0.Next), v0_1, v0_2])] [(fDat (tyList (tyInt .i64)) [v0_1] a0.Packs), (fDat (tyList tyS_api_Snap) [v0_2] a0.Snaps)])) (fun i => (tab [(1, (ptr g1 0))])) (fun i => kk10 () = some r) ?_ ?_
          · rintro _ h
            have h : kk10 () = some r := h
            rw [hkk10] at h
            dsimp only at h
            clear hkk10
            refine aw_show (m := (memOf w0 Z0 [] [(oBox g1 62 [(Value.int .i64 a0.Next), v0_1, v0_2])] [(fDat (tyList (tyInt .i64)) [v0_1] a0.Packs), (fDat (tyList tyS_api_Snap) [v0_2] a0.Snaps)])) (S := (tab [(1, (ptr g1 0))])) ?_
            obtain ⟨kk12, hkk12, h⟩ := lt_some h
            refine aw_seq_join (ι := Unit) (fun i => (memOf w0 Z0 [] [] [(fDat (tyList (tyInt .i64)) [v0_1] a0.Packs), (fDat (tyList tyS_api_Snap) [v0_2] a0.Snaps)])) (fun i => (tab [])) (fun i => kk12 () = some r) ?_ ?_
            · rintro _ h
              have h : kk12 () = some r := h
              rw [hkk12] at h
              dsimp only at h
              clear hkk12
              refine aw_show (m := (memOf w0 Z0 [] [] [(fDat (tyList (tyInt .i64)) [v0_1] a0.Packs), (fDat (tyList tyS_api_Snap) [v0_2] a0.Snaps)])) (S := (tab [])) ?_
              refine aw_seq ?_
              refine aw_region ?_
              refine al_val (ov_assign rfl rfl) ?_
              refine al_nil ?_
              refine aq_then ?_
              refine aw_ret ?_
              obtain rfl := Option.some.inj h
              exact fn_ret () [] [] rfl rfl rfl rfl (res1 rfl rfl) rfl rfl rfl (by decide)
            · clear hkk12
              refine aw_seq ?_
              refine aw_region ?_
              refine al_val (ov_fieldA (p := 2) rfl Tryd.underlying62 rfl sz60 rfl rfl rfl) ?_
              refine al_val (ov_load (i := 0) (v := v0_2) rfl rfl Tryd.underlying60 sz60 rfl rfl rfl rfl) ?_
              refine al_val (ov_lenD 1 rfl rfl Tryd.underlying60 rfl) ?_
              refine al_val (ov_move rfl rfl) ?_
              refine al_nil ?_
              refine aq_then ?_
              refine aw_block ?_
              refine aw_state (aw_loop (ι := Int) (fun i => (memOf w0 Z0 [] [(oBox g1 62 [(Value.int .i64 a0.Next), v0_1, v0_2])] [(fDat (tyList (tyInt .i64)) [v0_1] a0.Packs), (fDat (tyList tyS_api_Snap) [v0_2] a0.Snaps)])) (fun i => (tab [(1, (ptr g1 0)), (92, v0_2), (93, (Value.int .i64 (a0.Snaps.length : Int))), (94, (Value.int .i64 i))])) (fun q i => f_lumref_HeadErr_L15 a0 kk12 fu q i = some r) ?_ fu (0 : Int) h) (fun w a hm hs => norm hm hs [0] [0, 1] [(1, (ptr g1 0)), (92, v0_2), (93, (Value.int .i64 (a0.Snaps.length : Int))), (94, (Value.int .i64 (0 : Int)))] (by decide) ⟨rfl, rfl, rfl, rfl, trivial⟩)
              clear h
              rintro k14 l13i94 h
              have h : f_lumref_HeadErr_L15 a0 kk12 fu k14 l13i94 = some r := h
              obtain _ | k14 := k14
              · rw [f_lumref_HeadErr_L15] at h; cases h
              rw [f_lumref_HeadErr_L15] at h
              refine aw_show (m := (memOf w0 Z0 [] [(oBox g1 62 [(Value.int .i64 a0.Next), v0_1, v0_2])] [(fDat (tyList (tyInt .i64)) [v0_1] a0.Packs), (fDat (tyList tyS_api_Snap) [v0_2] a0.Snaps)])) (S := (tab [(1, (ptr g1 0)), (92, v0_2), (93, (Value.int .i64 (a0.Snaps.length : Int))), (94, (Value.int .i64 l13i94))])) ?_
              obtain ⟨kk16, hkk16, h⟩ := lt_some h
              refine aw_body_join (ι := Int) (fun i => (memOf w0 Z0 [] [(oBox g1 62 [(Value.int .i64 a0.Next), v0_1, v0_2])] [(fDat (tyList (tyInt .i64)) [v0_1] a0.Packs), (fDat (tyList tyS_api_Snap) [v0_2] a0.Snaps)])) (fun i => (tab [(1, (ptr g1 0)), (92, v0_2), (93, (Value.int .i64 (a0.Snaps.length : Int))), (94, (Value.int .i64 i))])) (fun i => kk16 i = some r) (fun i h => aq_again k14 i (Nat.lt_succ_self _) (by rw [hkk16] at h; exact h) (fun w a hm hs => ⟨hm, hs⟩)) ?_
              clear hkk16
              refine aw_seq ?_
              refine aw_region ?_
              refine al_val (ov_int rfl rfl rfl rfl) ?_
              refine al_nil ?_
              refine aq_then ?_
              refine aw_seq ?_
              refine aw_cond rfl (fun hb17 => ?_) (fun hb17 => ?_)
              · replace h := bif_t hb17 h
                refine aw_skip ?_
                refine aq_then ?_
                obtain ⟨kk19, hkk19, h⟩ := lt_some h
                refine aw_seq_join (ι := Unit) (fun i => (memOf w0 Z0 [] [(oBox g1 62 [(Value.int .i64 a0.Next), v0_1, v0_2])] [(fDat (tyList (tyInt .i64)) [v0_1] a0.Packs), (fDat (tyList tyS_api_Snap) [v0_2] a0.Snaps)])) (fun i => (tab [(1, (ptr g1 0)), (92, v0_2), (93, (Value.int .i64 (a0.Snaps.length : Int))), (94, (Value.int .i64 l13i94))])) (fun i => kk19 () = some r) ?_ ?_
                · rintro _ h
                  have h : kk19 () = some r := h
                  rw [hkk19] at h
                  dsimp only at h
                  clear hkk19
                  refine aw_show (m := (memOf w0 Z0 [] [(oBox g1 62 [(Value.int .i64 a0.Next), v0_1, v0_2])] [(fDat (tyList (tyInt .i64)) [v0_1] a0.Packs), (fDat (tyList tyS_api_Snap) [v0_2] a0.Snaps)])) (S := (tab [(1, (ptr g1 0)), (92, v0_2), (93, (Value.int .i64 (a0.Snaps.length : Int))), (94, (Value.int .i64 l13i94))])) ?_
                  refine aw_region ?_
                  refine al_val (ov_int rfl rfl rfl rfl) ?_
                  refine al_val (ov_move rfl rfl) ?_
                  refine al_nil ?_
                  exact aq_join (IntKind.i64.wrap (l13i94 + (1 : Int))) h (fun w a hm hs => norm hm hs [0] [0, 1] [(1, (ptr g1 0)), (92, v0_2), (93, (Value.int .i64 (a0.Snaps.length : Int))), (94, (Value.int .i64 (IntKind.i64.wrap (l13i94 + (1 : Int)))))] (by decide) ⟨rfl, rfl, rfl, rfl, trivial⟩)
                · clear hkk19
                  refine aw_block ?_
                  refine aw_seq ?_
                  refine aw_region ?_
                  refine al_val (ov_move rfl rfl) ?_
                  obtain ⟨u20, hu21, h⟩ := opt_some h
                  refine al_idxD 1 hu21 rfl rfl rfl Tryd.underlying60 sz104 rfl (fun p22 => ?_)
                  refine al_val (ov_loadP (ds := ([(str u20.Name), (Value.int .i64 u20.Time)] ++ (cA8u8 u20.Root))) 0 rfl encS_api_Snap rfl Tryd.underlying104 sz104 rfl rfl rfl) ?_
                  refine al_alloc (zs := ([(str ([] : List UInt8)), (Value.int .i64 (0 : Int))] ++ (cA8u8 (A8u8.mk (0 : UInt8) (0 : UInt8) (0 : UInt8) (0 : UInt8) (0 : UInt8) (0 : UInt8) (0 : UInt8) (0 : UInt8))))) (zeroOf_to to104) rfl rfl (fun g23 => ?_)
                  refine al_val (ov_assign rfl rfl) ?_
                  refine al_store (i := 0) (vs := ([(str u20.Name), (Value.int .i64 u20.Time)] ++ (cA8u8 u20.Root))) (cs' := ([(str u20.Name), (Value.int .i64 u20.Time)] ++ (cA8u8 u20.Root))) rfl rfl rfl sz104 (cv_rfl rfl) rfl (co_val rfl (co_val rfl (co_all (oneA8u8 u20.Root)))) (Nat.le_of_ble_eq_true rfl) rfl rfl ?_
                  refine al_nil ?_
                  refine aq_then ?_
                  refine aw_seq ?_
                  refine aw_region ?_
                  refine al_val (ov_fieldA (p := 2) rfl Tryd.underlying62 rfl sz60 rfl rfl rfl) ?_
                  refine al_val (ov_load (i := 1) (v := v0_2) rfl rfl Tryd.underlying60 sz60 rfl rfl rfl rfl) ?_
                  refine al_val (ov_move rfl rfl) ?_
                  obtain ⟨hc24, h⟩ := req_some h
                  refine al_sliceDT 2 hc24.1 hc24.2 rfl rfl rfl Tryd.underlying60 sz104 rfl (fun s25 => ?_)
                  refine al_val (ov_lenD 0 rfl rfl Tryd.underlying60 rfl) ?_
                  refine al_val (ov_move rfl rfl) ?_
                  refine al_nil ?_
                  refine aq_then ?_
                  refine aw_block ?_
                  refine aw_state (aw_loop (ι := Int) (fun i => (memOf w0 Z0 [] [(oBox g1 62 [(Value.int .i64 a0.Next), v0_1, v0_2]), (oBox g23 104 ([(str u20.Name), (Value.int .i64 u20.Time)] ++ (cA8u8 u20.Root)))] [(fDat (tyList (tyInt .i64)) [v0_1] a0.Packs), (fDat (tyList tyS_api_Snap) [v0_2] a0.Snaps), (fDat (tyList tyS_api_Snap) [s25] (a0.Snaps.take (l13i94).toNat)), (fPtr tyS_api_Snap p22 u20)])) (fun i => (tab [(1, (ptr g1 0)), (11, (ptr g23 0)), (92, v0_2), (93, (Value.int .i64 (a0.Snaps.length : Int))), (94, (Value.int .i64 l13i94)), (102, s25), (103, (Value.int .i64 ((a0.Snaps.take (l13i94).toNat).length : Int))), (104, (Value.int .i64 i))])) (fun q i => f_lumref_HeadErr_L28 a0 l13i94 kk19 u20 q i = some r) ?_ fu (0 : Int) h) (fun w a hm hs => norm hm hs [1, 0] [2, 3, 0, 1] [(1, (ptr g1 0)), (11, (ptr g23 0)), (92, v0_2), (93, (Value.int .i64 (a0.Snaps.length : Int))), (94, (Value.int .i64 l13i94)), (102, s25), (103, (Value.int .i64 ((a0.Snaps.take (l13i94).toNat).length : Int))), (104, (Value.int .i64 (0 : Int)))] (by decide) ⟨rfl, rfl, rfl, rfl, rfl, rfl, rfl, rfl, trivial⟩)
                  clear h
                  rintro k27 l26i104 h
                  have h : f_lumref_HeadErr_L28 a0 l13i94 kk19 u20 k27 l26i104 = some r := h
                  obtain _ | k27 := k27
                  · rw [f_lumref_HeadErr_L28] at h; cases h
                  rw [f_lumref_HeadErr_L28] at h
                  refine aw_show (m := (memOf w0 Z0 [] [(oBox g1 62 [(Value.int .i64 a0.Next), v0_1, v0_2]), (oBox g23 104 ([(str u20.Name), (Value.int .i64 u20.Time)] ++ (cA8u8 u20.Root)))] [(fDat (tyList (tyInt .i64)) [v0_1] a0.Packs), (fDat (tyList tyS_api_Snap) [v0_2] a0.Snaps), (fDat (tyList tyS_api_Snap) [s25] (a0.Snaps.take (l13i94).toNat)), (fPtr tyS_api_Snap p22 u20)])) (S := (tab [(1, (ptr g1 0)), (11, (ptr g23 0)), (92, v0_2), (93, (Value.int .i64 (a0.Snaps.length : Int))), (94, (Value.int .i64 l13i94)), (102, s25), (103, (Value.int .i64 ((a0.Snaps.take (l13i94).toNat).length : Int))), (104, (Value.int .i64 l26i104))])) ?_
                  refine aw_seq ?_
                  refine aw_region ?_
                  refine al_val (ov_int rfl rfl rfl rfl) ?_
                  refine al_nil ?_
                  refine aq_then ?_
                  refine aw_seq ?_
                  refine aw_cond rfl (fun hb29 => ?_) (fun hb29 => ?_)
                  · replace h := bif_t hb29 h
                    refine aw_skip ?_
                    refine aq_then ?_
                    refine aw_seq ?_
                    refine aw_block ?_
                    refine aw_seq ?_
                    refine aw_region ?_
                    obtain ⟨u30, hu31, h⟩ := opt_some h
                    refine al_idxD 2 hu31 rfl rfl rfl Tryd.underlying60 sz104 rfl (fun p32 => ?_)
                    refine al_val (ov_loadP (ds := ([(str u30.Name), (Value.int .i64 u30.Time)] ++ (cA8u8 u30.Root))) 0 rfl encS_api_Snap rfl Tryd.underlying104 sz104 rfl rfl rfl) ?_
                    refine al_alloc (zs := ([(str ([] : List UInt8)), (Value.int .i64 (0 : Int))] ++ (cA8u8 (A8u8.mk (0 : UInt8) (0 : UInt8) (0 : UInt8) (0 : UInt8) (0 : UInt8) (0 : UInt8) (0 : UInt8) (0 : UInt8))))) (zeroOf_to to104) rfl rfl (fun g33 => ?_)
                    refine al_store (i := 0) (vs := ([(str u30.Name), (Value.int .i64 u30.Time)] ++ (cA8u8 u30.Root))) (cs' := ([(str u30.Name), (Value.int .i64 u30.Time)] ++ (cA8u8 u30.Root))) rfl rfl rfl sz104 (cv_rfl rfl) rfl (co_val rfl (co_val rfl (co_all (oneA8u8 u30.Root)))) (Nat.le_of_ble_eq_true rfl) rfl rfl ?_
                    refine al_nil ?_
                    refine aq_then ?_
                    refine aw_seq ?_
                    refine aw_region ?_
                    refine al_val (ov_fieldA (p := 0) rfl Tryd.underlying104 rfl sz9 rfl rfl rfl) ?_
                    refine al_val (ov_load (i := 2) (v := (str u20.Name)) rfl rfl Tryd.underlying9 sz9 rfl rfl rfl rfl) ?_
                    refine al_val (ov_fieldA (p := 0) rfl Tryd.underlying104 rfl sz9 rfl rfl rfl) ?_
                    refine al_val (ov_load (i := 0) (v := (str u30.Name)) rfl rfl Tryd.underlying9 sz9 rfl rfl rfl rfl) ?_
                    refine al_val (ov_strCmp rfl rfl rfl rfl) ?_
                    refine al_nil ?_
                    refine aq_then ?_
                    refine aw_cond rfl (fun hb34 => ?_) (fun hb34 => ?_)
                    · replace h := bif_t hb34 h
                      refine aw_seq ?_
                      refine aw_region ?_
                      refine al_val (ov_assign rfl rfl) ?_
                      refine al_nil ?_
                      refine aq_then ?_
                      refine aw_ret ?_
                      refine aq_block_ret ?_
                      refine aq_then_ret ?_
                      refine aq_then_ret ?_
                      refine aq_block_ret ?_
                      refine aq_block_ret ?_
                      refine aq_then_ret ?_
                      refine aq_then_ret ?_
                      refine aq_block_ret ?_
                      refine aq_then_ret ?_
                      obtain rfl := Option.some.inj h
                      exact fn_ret () [] [] rfl rfl rfl rfl (res1 rfl rfl) rfl rfl rfl (by decide)
                    · replace h := bif_f hb34 h
                      refine aw_skip ?_
                      refine aq_block ?_
                      refine aq_then ?_
                      refine aw_region ?_
                      refine al_val (ov_int rfl rfl rfl rfl) ?_
                      refine al_val (ov_move rfl rfl) ?_
                      refine al_nil ?_
                      exact aq_again k27 (IntKind.i64.wrap (l26i104 + (1 : Int))) (Nat.lt_succ_self _) h (fun w a hm hs => norm hm hs [1, 2] [1, 2, 3, 4] [(1, (ptr g1 0)), (11, (ptr g23 0)), (92, v0_2), (93, (Value.int .i64 (a0.Snaps.length : Int))), (94, (Value.int .i64 l13i94)), (102, s25), (103, (Value.int .i64 ((a0.Snaps.take (l13i94).toNat).length : Int))), (104, (Value.int .i64 (IntKind.i64.wrap (l26i104 + (1 : Int)))))] (by decide) ⟨rfl, rfl, rfl, rfl, rfl, rfl, rfl, rfl, trivial⟩)
                  · replace h := bif_f hb29 h
                    refine aw_exit ?_
                    refine aq_then_exit ?_
                    refine aq_then_exit ?_
                    refine aq_block_exit ?_
                    refine aq_block ?_
                    exact aq_join () h (fun w a hm hs => norm hm hs [0] [0, 1] [(1, (ptr g1 0)), (92, v0_2), (93, (Value.int .i64 (a0.Snaps.length : Int))), (94, (Value.int .i64 l13i94))] (by decide) ⟨rfl, rfl, rfl, rfl, trivial⟩)
              · replace h := bif_f hb17 h
                refine aw_exit ?_
                refine aq_then_exit ?_
                refine aq_then_exit ?_
                refine aq_block_exit ?_
                exact aq_join () h (fun w a hm hs => norm hm hs [] [0, 1] [] (by decide) trivial)
          · clear hkk10
            refine aw_seq ?_
            refine aw_region ?_
            refine al_val (ov_fieldA (p := 1) rfl Tryd.underlying62 rfl sz59 rfl rfl rfl) ?_
            refine al_val (ov_load (i := 0) (v := v0_1) rfl rfl Tryd.underlying59 sz59 rfl rfl rfl rfl) ?_
            refine al_val (ov_lenD 0 rfl rfl Tryd.underlying59 rfl) ?_
            refine al_val (ov_move rfl rfl) ?_
            refine al_nil ?_
            refine aq_then ?_
            refine aw_block ?_
            refine aw_state (aw_loop (ι := Int) (fun i => (memOf w0 Z0 [] [(oBox g1 62 [(Value.int .i64 a0.Next), v0_1, v0_2])] [(fDat (tyList (tyInt .i64)) [v0_1] a0.Packs), (fDat (tyList tyS_api_Snap) [v0_2] a0.Snaps)])) (fun i => (tab [(1, (ptr g1 0)), (65, v0_1), (66, (Value.int .i64 (a0.Packs.length : Int))), (67, (Value.int .i64 i))])) (fun q i => f_lumref_HeadErr_L37 a0 kk10 q i = some r) ?_ fu (0 : Int) h) (fun w a hm hs => norm hm hs [0] [0, 1] [(1, (ptr g1 0)), (65, v0_1), (66, (Value.int .i64 (a0.Packs.length : Int))), (67, (Value.int .i64 (0 : Int)))] (by decide) ⟨rfl, rfl, rfl, rfl, trivial⟩)
            clear h
            rintro k36 l35i67 h
            have h : f_lumref_HeadErr_L37 a0 kk10 k36 l35i67 = some r := h
            obtain _ | k36 := k36
            · rw [f_lumref_HeadErr_L37] at h; cases h
            rw [f_lumref_HeadErr_L37] at h
            refine aw_show (m := (memOf w0 Z0 [] [(oBox g1 62 [(Value.int .i64 a0.Next), v0_1, v0_2])] [(fDat (tyList (tyInt .i64)) [v0_1] a0.Packs), (fDat (tyList tyS_api_Snap) [v0_2] a0.Snaps)])) (S := (tab [(1, (ptr g1 0)), (65, v0_1), (66, (Value.int .i64 (a0.Packs.length : Int))), (67, (Value.int .i64 l35i67))])) ?_
            refine aw_seq ?_
            refine aw_region ?_
            refine al_val (ov_int rfl rfl rfl rfl) ?_
            refine al_nil ?_
            refine aq_then ?_
            refine aw_seq ?_
            refine aw_cond rfl (fun hb38 => ?_) (fun hb38 => ?_)
            · replace h := bif_t hb38 h
              refine aw_skip ?_
              refine aq_then ?_
              refine aw_seq ?_
              refine aw_block ?_
              refine aw_seq ?_
              refine aw_region ?_
              refine al_val (ov_move rfl rfl) ?_
              obtain ⟨u39, hu40, h⟩ := opt_some h
              refine al_idxD 0 hu40 rfl rfl rfl Tryd.underlying59 sz3 rfl (fun p41 => ?_)
              refine al_val (ov_loadP (ds := [(Value.int .i64 u39)]) 0 rfl (fun h => h) rfl Tryd.underlying3 sz3 rfl rfl rfl) ?_
              refine al_val (ov_assign rfl rfl) ?_
              refine al_val (ov_assign rfl rfl) ?_
              refine al_nil ?_
              refine aq_then ?_
              obtain ⟨kk43, hkk43, h⟩ := lt_some h
              refine aw_seq_join (ι := Bool) (fun i => (memOf w0 Z0 [] [(oBox g1 62 [(Value.int .i64 a0.Next), v0_1, v0_2])] [(fDat (tyList (tyInt .i64)) [v0_1] a0.Packs), (fDat (tyList tyS_api_Snap) [v0_2] a0.Snaps), (fPtr (tyInt .i64) p41 u39)])) (fun i => (tab [(1, (ptr g1 0)), (65, v0_1), (66, (Value.int .i64 (a0.Packs.length : Int))), (67, (Value.int .i64 l35i67)), (89, (Value.bool i))])) (fun i => kk43 i = some r) ?_ ?_
              · rintro j42b89 h
                have h : kk43 j42b89 = some r := h
                rw [hkk43] at h
                dsimp only at h
                clear hkk43
                refine aw_show (m := (memOf w0 Z0 [] [(oBox g1 62 [(Value.int .i64 a0.Next), v0_1, v0_2])] [(fDat (tyList (tyInt .i64)) [v0_1] a0.Packs), (fDat (tyList tyS_api_Snap) [v0_2] a0.Snaps), (fPtr (tyInt .i64) p41 u39)])) (S := (tab [(1, (ptr g1 0)), (65, v0_1), (66, (Value.int .i64 (a0.Packs.length : Int))), (67, (Value.int .i64 l35i67)), (89, (Value.bool j42b89))])) ?_
                refine aw_cond rfl (fun hb44 => ?_) (fun hb44 => ?_)
                · replace h := bif_t hb44 h
                  refine aw_seq ?_
                  refine aw_region ?_
                  refine al_val (ov_assign rfl rfl) ?_
                  refine al_nil ?_
                  refine aq_then ?_
                  refine aw_ret ?_
                  refine aq_block_ret ?_
                  refine aq_then_ret ?_
                  refine aq_then_ret ?_
                  refine aq_block_ret ?_
                  refine aq_then_ret ?_
                  obtain rfl := Option.some.inj h
                  exact fn_ret () [] [] rfl rfl rfl rfl (res1 rfl rfl) rfl rfl rfl (by decide)
                · replace h := bif_f hb44 h
                  refine aw_skip ?_
                  refine aq_block ?_
                  refine aq_then ?_
                  refine aw_region ?_
                  refine al_val (ov_int rfl rfl rfl rfl) ?_
                  refine al_val (ov_move rfl rfl) ?_
                  refine al_nil ?_
                  exact aq_again k36 (IntKind.i64.wrap (l35i67 + (1 : Int))) (Nat.lt_succ_self _) h (fun w a hm hs => norm hm hs [0] [0, 1] [(1, (ptr g1 0)), (65, v0_1), (66, (Value.int .i64 (a0.Packs.length : Int))), (67, (Value.int .i64 (IntKind.i64.wrap (l35i67 + (1 : Int)))))] (by decide) ⟨rfl, rfl, rfl, rfl, trivial⟩)
              · clear hkk43
                refine aw_region ?_
                refine al_val (ov_move rfl rfl) ?_
                refine al_val (ov_fieldA (p := 0) rfl Tryd.underlying62 rfl sz3 rfl rfl rfl) ?_
                refine al_val (ov_load (i := 0) (v := (Value.int .i64 a0.Next)) rfl rfl Tryd.underlying3 sz3 rfl rfl rfl rfl) ?_
                refine al_val (ov_int rfl rfl rfl rfl) ?_
                refine al_val (ov_move rfl rfl) ?_
                refine al_caseB 76 rfl (fun hb45 => ?_) (fun hb45 => ?_)
                · replace h := bif_t hb45 h
                  refine al_skip ?_
                  refine al_skip ?_
                  refine al_skip ?_
                  refine al_skip ?_
                  refine al_skip ?_
                  refine al_skip ?_
                  refine al_skip ?_
                  refine al_skip ?_
                  refine al_skip ?_
                  refine al_skip ?_
                  refine al_skip ?_
                  refine al_skip ?_
                  refine al_val (ov_pick_t rfl rfl rfl) ?_
                  refine al_nil ?_
                  exact aq_join true h (fun w a hm hs => norm hm hs [0] [1, 2, 0] [(1, (ptr g1 0)), (65, v0_1), (66, (Value.int .i64 (a0.Packs.length : Int))), (67, (Value.int .i64 l35i67)), (89, (Value.bool true))] (by decide) ⟨rfl, rfl, rfl, rfl, rfl, trivial⟩)
                · replace h := bif_f hb45 h
                  refine al_val (ov_move rfl rfl) ?_
                  refine al_val (ov_int rfl rfl rfl rfl) ?_
                  refine al_val (ov_move rfl rfl) ?_
                  refine al_caseB 79 rfl (fun hb46 => ?_) (fun hb46 => ?_)
                  · replace h := bif_t hb46 h
                    refine al_val (ov_move rfl rfl) ?_
                    refine al_val (ov_fieldA (p := 1) rfl Tryd.underlying62 rfl sz59 rfl rfl rfl) ?_
                    refine al_val (ov_load (i := 0) (v := v0_1) rfl rfl Tryd.underlying59 sz59 rfl rfl rfl rfl) ?_
                    refine al_val (ov_move rfl rfl) ?_
                    refine al_val (ov_int rfl rfl rfl rfl) ?_
                    obtain ⟨u47, hu48, h⟩ := opt_some h
                    refine al_idxD 1 hu48 rfl rfl rfl Tryd.underlying59 sz3 rfl (fun p49 => ?_)
                    refine al_val (ov_loadP (ds := [(Value.int .i64 u47)]) 0 rfl (fun h => h) rfl Tryd.underlying3 sz3 rfl rfl rfl) ?_
                    refine al_val (ov_int rfl rfl rfl rfl) ?_
                    refine al_val (ov_pick_t rfl rfl rfl) ?_
                    refine al_val (ov_pick_f rfl rfl rfl) ?_
                    refine al_nil ?_
                    exact aq_join (decide (u39 ≤ u47)) h (fun w a hm hs => norm hm hs [0] [2, 3, 1] [(1, (ptr g1 0)), (65, v0_1), (66, (Value.int .i64 (a0.Packs.length : Int))), (67, (Value.int .i64 l35i67)), (89, (Value.bool (decide (u39 ≤ u47))))] (by decide) ⟨rfl, rfl, rfl, rfl, rfl, trivial⟩)
                  · replace h := bif_f hb46 h
                    refine al_skip ?_
                    refine al_skip ?_
                    refine al_skip ?_
                    refine al_skip ?_
                    refine al_skip ?_
                    refine al_skip ?_
                    refine al_skip ?_
                    refine al_skip ?_
                    refine al_val (ov_pick_f rfl rfl rfl) ?_
                    refine al_val (ov_pick_f rfl rfl rfl) ?_
                    refine al_nil ?_
                    exact aq_join false h (fun w a hm hs => norm hm hs [0] [1, 2, 0] [(1, (ptr g1 0)), (65, v0_1), (66, (Value.int .i64 (a0.Packs.length : Int))), (67, (Value.int .i64 l35i67)), (89, (Value.bool false))] (by decide) ⟨rfl, rfl, rfl, rfl, rfl, trivial⟩)
            · replace h := bif_f hb38 h
              refine aw_exit ?_
              refine aq_then_exit ?_
              refine aq_then_exit ?_
              refine aq_block_exit ?_
              exact aq_join () h (fun w a hm hs => norm hm hs [0] [0, 1] [(1, (ptr g1 0))] (by decide) ⟨rfl, trivial⟩)
        · clear hkk8
          refine aw_seq ?_
          refine aw_region ?_
          refine al_val (ov_fieldA (p := 2) rfl Tryd.underlying62 rfl sz60 rfl rfl rfl) ?_
          refine al_val (ov_load (i := 0) (v := v0_2) rfl rfl Tryd.underlying60 sz60 rfl rfl rfl rfl) ?_
          refine al_val (ov_lenD 1 rfl rfl Tryd.underlying60 rfl) ?_
          refine al_val (ov_move rfl rfl) ?_
          refine al_nil ?_
          refine aq_then ?_
          refine aw_block ?_
          refine aw_state (aw_loop (ι := Int) (fun i => (memOf w0 Z0 [] [(oBox g1 62 [(Value.int .i64 a0.Next), v0_1, v0_2])] [(fDat (tyList (tyInt .i64)) [v0_1] a0.Packs), (fDat (tyList tyS_api_Snap) [v0_2] a0.Snaps)])) (fun i => (tab [(1, (ptr g1 0)), (43, v0_2), (44, (Value.int .i64 (a0.Snaps.length : Int))), (45, (Value.int .i64 i))])) (fun q i => f_lumref_HeadErr_L52 a0 kk8 fu q i = some r) ?_ fu (0 : Int) h) (fun w a hm hs => norm hm hs [0] [0, 1] [(1, (ptr g1 0)), (43, v0_2), (44, (Value.int .i64 (a0.Snaps.length : Int))), (45, (Value.int .i64 (0 : Int)))] (by decide) ⟨rfl, rfl, rfl, rfl, trivial⟩)
          clear h
          rintro k51 l50i45 h
          have h : f_lumref_HeadErr_L52 a0 kk8 fu k51 l50i45 = some r := h
          obtain _ | k51 := k51
          · rw [f_lumref_HeadErr_L52] at h; cases h
          rw [f_lumref_HeadErr_L52] at h
          refine aw_show (m := (memOf w0 Z0 [] [(oBox g1 62 [(Value.int .i64 a0.Next), v0_1, v0_2])] [(fDat (tyList (tyInt .i64)) [v0_1] a0.Packs), (fDat (tyList tyS_api_Snap) [v0_2] a0.Snaps)])) (S := (tab [(1, (ptr g1 0)), (43, v0_2), (44, (Value.int .i64 (a0.Snaps.length : Int))), (45, (Value.int .i64 l50i45))])) ?_
          refine aw_seq ?_
          refine aw_region ?_
          refine al_val (ov_int rfl rfl rfl rfl) ?_
          refine al_nil ?_
          refine aq_then ?_
          refine aw_seq ?_
          refine aw_cond rfl (fun hb53 => ?_) (fun hb53 => ?_)
          · replace h := bif_t hb53 h
            refine aw_skip ?_
            refine aq_then ?_
            refine aw_seq ?_
            refine aw_block ?_
            refine aw_seq ?_
            refine aw_region ?_
            obtain ⟨u54, hu55, h⟩ := opt_some h
            refine al_idxD 1 hu55 rfl rfl rfl Tryd.underlying60 sz104 rfl (fun p56 => ?_)
            refine al_val (ov_loadP (ds := ([(str u54.Name), (Value.int .i64 u54.Time)] ++ (cA8u8 u54.Root))) 0 rfl encS_api_Snap rfl Tryd.underlying104 sz104 rfl rfl rfl) ?_
            refine al_alloc (zs := ([(str ([] : List UInt8)), (Value.int .i64 (0 : Int))] ++ (cA8u8 (A8u8.mk (0 : UInt8) (0 : UInt8) (0 : UInt8) (0 : UInt8) (0 : UInt8) (0 : UInt8) (0 : UInt8) (0 : UInt8))))) (zeroOf_to to104) rfl rfl (fun g57 => ?_)
            refine al_store (i := 0) (vs := ([(str u54.Name), (Value.int .i64 u54.Time)] ++ (cA8u8 u54.Root))) (cs' := ([(str u54.Name), (Value.int .i64 u54.Time)] ++ (cA8u8 u54.Root))) rfl rfl rfl sz104 (cv_rfl rfl) rfl (co_val rfl (co_val rfl (co_all (oneA8u8 u54.Root)))) (Nat.le_of_ble_eq_true rfl) rfl rfl ?_
            refine al_nil ?_
            refine aq_then ?_
            refine aw_seq ?_
            refine aw_seq ?_
            refine aw_region ?_
            refine al_val (ov_fieldA (p := 0) rfl Tryd.underlying104 rfl sz9 rfl rfl rfl) ?_
            refine al_val (ov_load (i := 0) (v := (str u54.Name)) rfl rfl Tryd.underlying9 sz9 rfl rfl rfl rfl) ?_
            obtain ⟨r59, hc58, h⟩ := opt_some h
            refine al_call (vs := [(str u54.Name)]) (f_lumref_Name_ok fu u54.Name hc58) [] [] [0, 1] pre_nil rfl (by simp) (by decide) (.inl rfl) rfl Tryd.func47 rfl rfl rfl (fun _ => ?_)
            refine al_val (ov_assign rfl rfl) ?_
            refine al_nil ?_
            refine aq_then ?_
            refine aw_seq ?_
            refine aw_region ?_
            refine al_val (ov_move rfl rfl) ?_
            refine al_val (ov_int rfl rfl rfl rfl) ?_
            refine al_nil ?_
            refine aq_then ?_
            refine aw_cond rfl (fun hb60 => ?_) (fun hb60 => ?_)
            · replace h := bif_t hb60 h
              refine aw_seq ?_
              refine aw_region ?_
              refine al_val (ov_move rfl rfl) ?_
              refine al_val (ov_assign rfl rfl) ?_
              refine al_nil ?_
              refine aq_then ?_
              refine aw_ret ?_
              refine aq_then_ret ?_
              refine aq_block_ret ?_
              refine aq_then_ret ?_
              refine aq_then_ret ?_
              refine aq_block_ret ?_
              refine aq_then_ret ?_
              obtain rfl := Option.some.inj h
              exact fn_ret () [] [] rfl rfl rfl rfl (res1 rfl rfl) rfl rfl rfl (by decide)
            · replace h := bif_f hb60 h
              refine aw_skip ?_
              refine aq_then ?_
              obtain ⟨kk62, hkk62, h⟩ := lt_some h
              refine aw_seq_join (ι := Bool) (fun i => (memOf w0 Z0 [] [(oBox g1 62 [(Value.int .i64 a0.Next), v0_1, v0_2])] [(fDat (tyList (tyInt .i64)) [v0_1] a0.Packs), (fDat (tyList tyS_api_Snap) [v0_2] a0.Snaps), (fPtr tyS_api_Snap p56 u54)])) (fun i => (tab [(1, (ptr g1 0)), (43, v0_2), (44, (Value.int .i64 (a0.Snaps.length : Int))), (45, (Value.int .i64 l50i45)), (62, (Value.bool i))])) (fun i => kk62 i = some r) ?_ ?_
              · rintro j61b62 h
                have h : kk62 j61b62 = some r := h
                rw [hkk62] at h
                dsimp only at h
                clear hkk62
                refine aw_show (m := (memOf w0 Z0 [] [(oBox g1 62 [(Value.int .i64 a0.Next), v0_1, v0_2])] [(fDat (tyList (tyInt .i64)) [v0_1] a0.Packs), (fDat (tyList tyS_api_Snap) [v0_2] a0.Snaps), (fPtr tyS_api_Snap p56 u54)])) (S := (tab [(1, (ptr g1 0)), (43, v0_2), (44, (Value.int .i64 (a0.Snaps.length : Int))), (45, (Value.int .i64 l50i45)), (62, (Value.bool j61b62))])) ?_
                refine aw_cond rfl (fun hb63 => ?_) (fun hb63 => ?_)
                · replace h := bif_t hb63 h
                  refine aw_seq ?_
                  refine aw_region ?_
                  refine al_val (ov_assign rfl rfl) ?_
                  refine al_nil ?_
                  refine aq_then ?_
                  refine aw_ret ?_
                  refine aq_block_ret ?_
                  refine aq_then_ret ?_
                  refine aq_then_ret ?_
                  refine aq_block_ret ?_
                  refine aq_then_ret ?_
                  obtain rfl := Option.some.inj h
                  exact fn_ret () [] [] rfl rfl rfl rfl (res1 rfl rfl) rfl rfl rfl (by decide)
                · replace h := bif_f hb63 h
                  refine aw_skip ?_
                  refine aq_block ?_
                  refine aq_then ?_
                  refine aw_region ?_
                  refine al_val (ov_int rfl rfl rfl rfl) ?_
                  refine al_val (ov_move rfl rfl) ?_
                  refine al_nil ?_
                  exact aq_again k51 (IntKind.i64.wrap (l50i45 + (1 : Int))) (Nat.lt_succ_self _) h (fun w a hm hs => norm hm hs [0] [0, 1] [(1, (ptr g1 0)), (43, v0_2), (44, (Value.int .i64 (a0.Snaps.length : Int))), (45, (Value.int .i64 (IntKind.i64.wrap (l50i45 + (1 : Int)))))] (by decide) ⟨rfl, rfl, rfl, rfl, trivial⟩)
              · clear hkk62
                refine aw_region ?_
                refine al_val (ov_fieldA (p := 1) rfl Tryd.underlying104 rfl sz3 rfl rfl rfl) ?_
                refine al_val (ov_load (i := 0) (v := (Value.int .i64 u54.Time)) rfl rfl Tryd.underlying3 sz3 rfl rfl rfl rfl) ?_
                refine al_val (ov_int rfl rfl rfl rfl) ?_
                refine al_val (ov_move rfl rfl) ?_
                refine al_caseB 58 rfl (fun hb64 => ?_) (fun hb64 => ?_)
                · replace h := bif_t hb64 h
                  refine al_skip ?_
                  refine al_skip ?_
                  refine al_skip ?_
                  refine al_val (ov_pick_t rfl rfl rfl) ?_
                  refine al_nil ?_
                  exact aq_join true h (fun w a hm hs => norm hm hs [1] [1, 2, 0] [(1, (ptr g1 0)), (43, v0_2), (44, (Value.int .i64 (a0.Snaps.length : Int))), (45, (Value.int .i64 l50i45)), (62, (Value.bool true))] (by decide) ⟨rfl, rfl, rfl, rfl, rfl, trivial⟩)
                · replace h := bif_f hb64 h
                  refine al_val (ov_fieldA (p := 1) rfl Tryd.underlying104 rfl sz3 rfl rfl rfl) ?_
                  refine al_val (ov_load (i := 0) (v := (Value.int .i64 u54.Time)) rfl rfl Tryd.underlying3 sz3 rfl rfl rfl rfl) ?_
                  refine al_val (ov_int rfl rfl rfl rfl) ?_
                  refine al_val (ov_pick_f rfl rfl rfl) ?_
                  refine al_nil ?_
                  exact aq_join (decide (u54.Time > (4223371679 : Int))) h (fun w a hm hs => norm hm hs [1] [1, 2, 0] [(1, (ptr g1 0)), (43, v0_2), (44, (Value.int .i64 (a0.Snaps.length : Int))), (45, (Value.int .i64 l50i45)), (62, (Value.bool (decide (u54.Time > (4223371679 : Int)))))] (by decide) ⟨rfl, rfl, rfl, rfl, rfl, trivial⟩)
          · replace h := bif_f hb53 h
            refine aw_exit ?_
            refine aq_then_exit ?_
            refine aq_then_exit ?_
            refine aq_block_exit ?_
            exact aq_join () h (fun w a hm hs => norm hm hs [0] [0, 1] [(1, (ptr g1 0))] (by decide) ⟨rfl, trivial⟩)
      · clear hkk6
        refine aw_seq ?_
        refine aw_region ?_
        refine al_val (ov_fieldA (p := 0) rfl Tryd.underlying62 rfl sz3 rfl rfl rfl) ?_
        refine al_val (ov_load (i := 0) (v := (Value.int .i64 a0.Next)) rfl rfl Tryd.underlying3 sz3 rfl rfl rfl rfl) ?_
        refine al_buildSlice (τ := (tyInt .i64)) (e := 3) (k := 1) (sz := 0) (by_ := 0) (z := undef) (cs := [(Value.int .i64 a0.Next)]) (xs := [a0.Next]) rfl (by decide) (fun w a hm hs => ⟨([(Value.int .i64 a0.Next)]).toArray, rfl, by simp only [List.map_toArray, List.map_cons, List.map_nil, hs.ev (x := .tmp 25) rfl]; exact run_bs [(Value.int .i64 a0.Next)] [(Value.int .i64 a0.Next)] Tryd.underlying59 to3 rfl rfl (bs_cons (l := [(Value.int .i64 a0.Next)]) (cs := []) (cv_rfl rfl) rfl bs_nil) hm⟩) (fun hm => ⟨_, _, rfl, (fun _ => rfl) hm, rfl⟩) rfl (fun v65 => ?_)
        refine al_val (ov_fieldA (p := 1) rfl Tryd.underlying62 rfl sz59 rfl rfl rfl) ?_
        refine al_val (ov_load (i := 1) (v := v0_1) rfl rfl Tryd.underlying59 sz59 rfl rfl rfl rfl) ?_
        obtain ⟨hc66, h⟩ := req_some h
        refine al_append 0 hc66.1 hc66.2 rfl (src_dat (i := 0) 0 rfl) rfl rfl Tryd.underlying59 to3 rfl rfl rfl (fun v67 => ?_)
        refine al_val (ov_lenR 0 rfl rfl Tryd.underlying59 rfl) ?_
        refine al_val (ov_move rfl rfl) ?_
        refine al_nil ?_
        refine aq_then ?_
        refine aw_block ?_
        refine aw_state (aw_loop (ι := Int) (fun i => (memOf w0 Z0 [] [(oBox g1 62 [(Value.int .i64 a0.Next), v0_1, v0_2]), (oRow v67 3 (tyInt .i64) (([a0.Next]) ++ a0.Packs))] [(fDat (tyList (tyInt .i64)) [v0_1] a0.Packs), (fDat (tyList tyS_api_Snap) [v0_2] a0.Snaps)])) (fun i => (tab [(1, (ptr g1 0)), (29, v67), (30, (Value.int .i64 ((([a0.Next]) ++ a0.Packs).length : Int))), (31, (Value.int .i64 i))])) (fun q i => f_lumref_HeadErr_L70 a0 kk6 q i = some r) ?_ fu (0 : Int) h) (fun w a hm hs => norm hm hs [1, 0] [0, 1] [(1, (ptr g1 0)), (29, v67), (30, (Value.int .i64 ((([a0.Next]) ++ a0.Packs).length : Int))), (31, (Value.int .i64 (0 : Int)))] (by decide) ⟨rfl, rfl, rfl, rfl, trivial⟩)
        clear h
        rintro k69 l68i31 h
        have h : f_lumref_HeadErr_L70 a0 kk6 k69 l68i31 = some r := h
        obtain _ | k69 := k69
        · rw [f_lumref_HeadErr_L70] at h; cases h
        rw [f_lumref_HeadErr_L70] at h
        refine aw_show (m := (memOf w0 Z0 [] [(oBox g1 62 [(Value.int .i64 a0.Next), v0_1, v0_2]), (oRow v67 3 (tyInt .i64) (([a0.Next]) ++ a0.Packs))] [(fDat (tyList (tyInt .i64)) [v0_1] a0.Packs), (fDat (tyList tyS_api_Snap) [v0_2] a0.Snaps)])) (S := (tab [(1, (ptr g1 0)), (29, v67), (30, (Value.int .i64 ((([a0.Next]) ++ a0.Packs).length : Int))), (31, (Value.int .i64 l68i31))])) ?_
        refine aw_seq ?_
        refine aw_region ?_
        refine al_val (ov_int rfl rfl rfl rfl) ?_
        refine al_nil ?_
        refine aq_then ?_
        refine aw_seq ?_
        refine aw_cond rfl (fun hb71 => ?_) (fun hb71 => ?_)
        · replace h := bif_t hb71 h
          refine aw_skip ?_
          refine aq_then ?_
          refine aw_seq ?_
          refine aw_block ?_
          refine aw_seq ?_
          refine aw_region ?_
          obtain ⟨u72, hu73, h⟩ := opt_some h
          refine al_idxR 1 (at_some hu73).1 (at_some hu73).2.1 rfl rfl rfl Tryd.underlying59 sz3 rfl (fun p74 hp75 => ?_)
          refine al_val (ov_loadR (ds := [(Value.int .i64 u72)]) 1 rfl hp75 (at_some hu73).2.2 (fun h => h) rfl Tryd.underlying3 sz3 rfl rfl rfl) ?_
          refine al_val (ov_assign rfl rfl) ?_
          refine al_nil ?_
          refine aq_then ?_
          obtain ⟨kk77, hkk77, h⟩ := lt_some h
          refine aw_seq_join (ι := Bool) (fun i => (memOf w0 Z0 [] [(oBox g1 62 [(Value.int .i64 a0.Next), v0_1, v0_2]), (oRow v67 3 (tyInt .i64) (([a0.Next]) ++ a0.Packs))] [(fDat (tyList (tyInt .i64)) [v0_1] a0.Packs), (fDat (tyList tyS_api_Snap) [v0_2] a0.Snaps)])) (fun i => (tab [(1, (ptr g1 0)), (29, v67), (30, (Value.int .i64 ((([a0.Next]) ++ a0.Packs).length : Int))), (31, (Value.int .i64 l68i31)), (40, (Value.bool i))])) (fun i => kk77 i = some r) ?_ ?_
          · rintro j76b40 h
            have h : kk77 j76b40 = some r := h
            rw [hkk77] at h
            dsimp only at h
            clear hkk77
            refine aw_show (m := (memOf w0 Z0 [] [(oBox g1 62 [(Value.int .i64 a0.Next), v0_1, v0_2]), (oRow v67 3 (tyInt .i64) (([a0.Next]) ++ a0.Packs))] [(fDat (tyList (tyInt .i64)) [v0_1] a0.Packs), (fDat (tyList tyS_api_Snap) [v0_2] a0.Snaps)])) (S := (tab [(1, (ptr g1 0)), (29, v67), (30, (Value.int .i64 ((([a0.Next]) ++ a0.Packs).length : Int))), (31, (Value.int .i64 l68i31)), (40, (Value.bool j76b40))])) ?_
            refine aw_cond rfl (fun hb78 => ?_) (fun hb78 => ?_)
            · replace h := bif_t hb78 h
              refine aw_seq ?_
              refine aw_region ?_
              refine al_val (ov_assign rfl rfl) ?_
              refine al_nil ?_
              refine aq_then ?_
              refine aw_ret ?_
              refine aq_block_ret ?_
              refine aq_then_ret ?_
              refine aq_then_ret ?_
              refine aq_block_ret ?_
              refine aq_then_ret ?_
              obtain rfl := Option.some.inj h
              exact fn_ret () [] [] rfl rfl rfl rfl (res1 rfl rfl) rfl rfl rfl (by decide)
            · replace h := bif_f hb78 h
              refine aw_skip ?_
              refine aq_block ?_
              refine aq_then ?_
              refine aw_region ?_
              refine al_val (ov_int rfl rfl rfl rfl) ?_
              refine al_val (ov_move rfl rfl) ?_
              refine al_nil ?_
              exact aq_again k69 (IntKind.i64.wrap (l68i31 + (1 : Int))) (Nat.lt_succ_self _) h (fun w a hm hs => norm hm hs [0, 1] [0, 1] [(1, (ptr g1 0)), (29, v67), (30, (Value.int .i64 ((([a0.Next]) ++ a0.Packs).length : Int))), (31, (Value.int .i64 (IntKind.i64.wrap (l68i31 + (1 : Int)))))] (by decide) ⟨rfl, rfl, rfl, rfl, trivial⟩)
          · clear hkk77
            refine aw_region ?_
            refine al_val (ov_move rfl rfl) ?_
            refine al_val (ov_int rfl rfl rfl rfl) ?_
            refine al_val (ov_move rfl rfl) ?_
            refine al_caseB 37 rfl (fun hb79 => ?_) (fun hb79 => ?_)
            · replace h := bif_t hb79 h
              refine al_skip ?_
              refine al_skip ?_
              refine al_val (ov_pick_t rfl rfl rfl) ?_
              refine al_nil ?_
              exact aq_join true h (fun w a hm hs => norm hm hs [0, 1] [0, 1] [(1, (ptr g1 0)), (29, v67), (30, (Value.int .i64 ((([a0.Next]) ++ a0.Packs).length : Int))), (31, (Value.int .i64 l68i31)), (40, (Value.bool true))] (by decide) ⟨rfl, rfl, rfl, rfl, rfl, trivial⟩)
            · replace h := bif_f hb79 h
              refine al_val (ov_move rfl rfl) ?_
              refine al_val (ov_int rfl rfl rfl rfl) ?_
              refine al_val (ov_pick_f rfl rfl rfl) ?_
              refine al_nil ?_
              exact aq_join (decide (u72 > (65536 : Int))) h (fun w a hm hs => norm hm hs [0, 1] [0, 1] [(1, (ptr g1 0)), (29, v67), (30, (Value.int .i64 ((([a0.Next]) ++ a0.Packs).length : Int))), (31, (Value.int .i64 l68i31)), (40, (Value.bool (decide (u72 > (65536 : Int)))))] (by decide) ⟨rfl, rfl, rfl, rfl, rfl, trivial⟩)
        · replace h := bif_f hb71 h
          refine aw_exit ?_
          refine aq_then_exit ?_
          refine aq_then_exit ?_
          refine aq_block_exit ?_
          exact aq_join () h (fun w a hm hs => norm hm hs [0] [0, 1] [(1, (ptr g1 0))] (by decide) ⟨rfl, trivial⟩)
  · clear hkk3
    refine aw_region ?_
    refine al_val (ov_fieldA (p := 1) rfl Tryd.underlying62 rfl sz59 rfl rfl rfl) ?_
    refine al_val (ov_load (i := 0) (v := v0_1) rfl rfl Tryd.underlying59 sz59 rfl rfl rfl rfl) ?_
    refine al_val (ov_lenD 0 rfl rfl Tryd.underlying59 rfl) ?_
    refine al_val (ov_int rfl rfl rfl rfl) ?_
    refine al_val (ov_move rfl rfl) ?_
    refine al_caseB 18 rfl (fun hb80 => ?_) (fun hb80 => ?_)
    · replace h := bif_t hb80 h
      refine al_skip ?_
      refine al_skip ?_
      refine al_skip ?_
      refine al_skip ?_
      refine al_val (ov_pick_t rfl rfl rfl) ?_
      refine al_nil ?_
      exact aq_join true h (fun w a hm hs => norm hm hs [0] [0, 1] [(1, (ptr g1 0)), (23, (Value.bool true))] (by decide) ⟨rfl, rfl, trivial⟩)
    · replace h := bif_f hb80 h
      refine al_val (ov_fieldA (p := 2) rfl Tryd.underlying62 rfl sz60 rfl rfl rfl) ?_
      refine al_val (ov_load (i := 0) (v := v0_2) rfl rfl Tryd.underlying60 sz60 rfl rfl rfl rfl) ?_
      refine al_val (ov_lenD 1 rfl rfl Tryd.underlying60 rfl) ?_
      refine al_val (ov_int rfl rfl rfl rfl) ?_
      refine al_val (ov_pick_f rfl rfl rfl) ?_
      refine al_nil ?_
      exact aq_join (decide ((a0.Snaps.length : Int) > (20 : Int))) h (fun w a hm hs => norm hm hs [0] [0, 1] [(1, (ptr g1 0)), (23, (Value.bool (decide ((a0.Snaps.length : Int) > (20 : Int)))))] (by decide) ⟨rfl, rfl, trivial⟩)
def f_room_check_1 (fu : Nat) (a0 : Int) : Option Bool := (lt (fun (j1b2 : Bool) => (some j1b2)) fun (kk2 : Bool → Option Bool) => (bif (decide (a0 ≥ (0 : Int))) then (kk2 (decide (a0 ≤ (65536 : Int)))) else (kk2 false)))
set_option maxRecDepth 100000 in
theorem f_room_check_1_ok (fu : Nat) (a0 : Int) {r : Bool} (h : f_room_check_1 fu a0 = some r) : FnOk Tryd.prog 116 [(Value.int .i64 a0)] [] [] (fun (i : Unit) => { val := (Value.bool r) }) := by
  unfold f_room_check_1 at h
  refine fn_enter Tryd.func116 rfl Tryd.ntmps116 rfl (fun w0 Z0 => ?_)
  refine aw_seq ?_
  refine aw_region ?_
  refine al_val (ov_assign rfl rfl) ?_
  refine al_nil ?_
  refine aq_then ?_
  obtain ⟨kk2, hkk2, h⟩ := lt_some h
  refine aw_seq_join (ι := Bool) (fun i => (memOf w0 Z0 [] [] [])) (fun i => (tab [(2, (Value.bool i))])) (fun i => kk2 i = some r) ?_ ?_
  · rintro j1b2 h
    have h : kk2 j1b2 = some r := h
    rw [hkk2] at h
    dsimp only at h
    clear hkk2
    refine aw_show (m := (memOf w0 Z0 [] [] [])) (S := (tab [(2, (Value.bool j1b2))])) ?_
    refine aw_ret ?_
    obtain rfl := Option.some.inj h
    exact fn_ret () [] [] rfl rfl rfl rfl (res1 rfl rfl) rfl rfl rfl (by decide)
  · clear hkk2
    refine aw_region ?_
    refine al_val (ov_move rfl rfl) ?_
    refine al_val (ov_int rfl rfl rfl rfl) ?_
    refine al_val (ov_move rfl rfl) ?_
    refine al_caseB 5 rfl (fun hb3 => ?_) (fun hb3 => ?_)
    · replace h := bif_t hb3 h
      refine al_val (ov_move rfl rfl) ?_
      refine al_val (ov_int rfl rfl rfl rfl) ?_
      refine al_val (ov_pick_t rfl rfl rfl) ?_
      refine al_val (ov_assign rfl rfl) ?_
      refine al_nil ?_
      exact aq_join (decide (a0 ≤ (65536 : Int))) h (fun w a hm hs => norm hm hs [] [] [(2, (Value.bool (decide (a0 ≤ (65536 : Int)))))] (by decide) ⟨rfl, trivial⟩)
    · replace h := bif_f hb3 h
      refine al_skip ?_
      refine al_skip ?_
      refine al_val (ov_pick_f rfl rfl rfl) ?_
      refine al_val (ov_assign rfl rfl) ?_
      refine al_nil ?_
      exact aq_join false h (fun w a hm hs => norm hm hs [] [] [(2, (Value.bool false))] (by decide) ⟨rfl, trivial⟩)
def f_names_Check_L10 (a0 : (List UInt8)) (kk5 : (Int → Option Int)) : Nat → Int → Int → Option Int
  | 0, _, _ => none
  | k9 + 1, l8i3, l8xp22 => (bif (decide (l8xp22.toNat < a0.length)) then (lt (fun (j12b35 : Bool) => (bif j12b35 then (some (8 : Int)) else (f_names_Check_L10 a0 kk5 k9 (IntKind.i64.wrap (l8i3 + (1 : Int))) ((l8xp22.toNat + (dec a0 l8xp22.toNat).2 : Nat) : Int)))) fun (kk13 : Bool → Option Int) => (bif ((((dec a0 l8xp22.toNat).1 : Nat) : Int) == (47 : Int)) then (kk13 true) else (bif (decide ((((dec a0 l8xp22.toNat).1 : Nat) : Int) < (32 : Int))) then (kk13 true) else (kk13 ((((dec a0 l8xp22.toNat).1 : Nat) : Int) == (127 : Int)))))) else (kk5 l8i3))
def f_names_Check (fu : Nat) (a0 : (List UInt8)) : Option Int := (lt (fun (j1b20 : Bool) => (bif j1b20 then (some (8 : Int)) else (lt (fun (j4i3 : Int) => (bif (decide (j4i3 > (24 : Int))) then (some (2 : Int)) else (some (0 : Int)))) fun (kk5 : Int → Option Int) => (f_names_Check_L10 a0 kk5 fu (0 : Int) (0 : Int))))) fun (kk2 : Bool → Option Int) => (bif (a0 == ([] : List UInt8)) then (kk2 true) else (bif (a0 == ([46] : List UInt8)) then (kk2 true) else (bif (a0 == ([46, 46] : List UInt8)) then (kk2 true) else (opt (f_utf8_ValidString fu a0) fun (r21 : Bool) => (kk2 (!r21)))))))
set_option maxRecDepth 100000 in
theorem f_names_Check_ok (fu : Nat) (a0 : (List UInt8)) {r : Int} (h : f_names_Check fu a0 = some r) : FnOk Tryd.prog 46 [(str a0)] [uTabs] [] (fun (i : Unit) => { val := (Value.int .i64 r) }) := by
  unfold f_names_Check at h
  refine fn_enter Tryd.func46 rfl Tryd.ntmps46 rfl (fun w0 Z0 => ?_)
  refine aw_seq ?_
  refine aw_region ?_
  refine al_val (ov_assign rfl rfl) ?_
  refine al_nil ?_
  refine aq_then ?_
  refine aw_seq ?_
  obtain ⟨kk2, hkk2, h⟩ := lt_some h
  refine aw_seq_join (ι := Bool) (fun i => (memOf w0 Z0 [] [] [uTabs])) (fun i => (tab [(0, (str a0)), (20, (Value.bool i))])) (fun i => kk2 i = some r) ?_ ?_
  · rintro j1b20 h
    have h : kk2 j1b20 = some r := h
    rw [hkk2] at h
    dsimp only at h
    clear hkk2
    refine aw_show (m := (memOf w0 Z0 [] [] [uTabs])) (S := (tab [(0, (str a0)), (20, (Value.bool j1b20))])) ?_
    refine aw_cond rfl (fun hb3 => ?_) (fun hb3 => ?_)
    · replace h := bif_t hb3 h
      refine aw_seq ?_
      refine aw_region ?_
      refine al_val (ov_assign rfl rfl) ?_
      refine al_nil ?_
      refine aq_then ?_
      refine aw_ret ?_
      refine aq_then_ret ?_
      obtain rfl := Option.some.inj h
      exact fn_ret () [] [] rfl rfl rfl rfl (res1 rfl rfl) rfl rfl rfl (by decide)
    · replace h := bif_f hb3 h
      refine aw_skip ?_
      refine aq_then ?_
      refine aw_seq ?_
      refine aw_region ?_
      refine al_val (ov_assign rfl rfl) ?_
      refine al_nil ?_
      refine aq_then ?_
      obtain ⟨kk5, hkk5, h⟩ := lt_some h
      refine aw_seq_join (ι := Int) (fun i => (memOf w0 Z0 [] [] [uTabs])) (fun i => (tab [(3, (Value.int .i64 i))])) (fun i => kk5 i = some r) ?_ ?_
      · rintro j4i3 h
        have h : kk5 j4i3 = some r := h
        rw [hkk5] at h
        dsimp only at h
        clear hkk5
        refine aw_show (m := (memOf w0 Z0 [] [] [uTabs])) (S := (tab [(3, (Value.int .i64 j4i3))])) ?_
        refine aw_seq ?_
        refine aw_seq ?_
        refine aw_region ?_
        refine al_val (ov_move rfl rfl) ?_
        refine al_val (ov_int rfl rfl rfl rfl) ?_
        refine al_nil ?_
        refine aq_then ?_
        refine aw_cond rfl (fun hb6 => ?_) (fun hb6 => ?_)
        · replace h := bif_t hb6 h
          refine aw_seq ?_
          refine aw_region ?_
          refine al_val (ov_assign rfl rfl) ?_
          refine al_nil ?_
          refine aq_then ?_
          refine aw_ret ?_
          refine aq_then_ret ?_
          obtain rfl := Option.some.inj h
          exact fn_ret () [] [] rfl rfl rfl rfl (res1 rfl rfl) rfl rfl rfl (by decide)
        · replace h := bif_f hb6 h
          refine aw_skip ?_
          refine aq_then ?_
          refine aw_seq ?_
          refine aw_region ?_
          refine al_val (ov_assign rfl rfl) ?_
          refine al_nil ?_
          refine aq_then ?_
          refine aw_ret ?_
          obtain rfl := Option.some.inj h
          exact fn_ret () [] [] rfl rfl rfl rfl (res1 rfl rfl) rfl rfl rfl (by decide)
      · clear hkk5
        refine aw_seq ?_
        refine aw_region ?_
        refine al_val (ov_move rfl rfl) ?_
        refine al_range rfl Tryd.underlying9 rfl (fun g7 => ?_)
        refine al_nil ?_
        refine aq_then ?_
        refine aw_block ?_
        refine aw_state (aw_loop (ι := Int × Int) (fun i => (memOf w0 Z0 [] [(oIter g7 a0 i.2)] [uTabs])) (fun i => (tab [(3, (Value.int .i64 i.1)), (22, (ptr g7 0))])) (fun q i => f_names_Check_L10 a0 kk5 q i.1 i.2 = some r) ?_ fu ((0 : Int), (0 : Int)) h) (fun w a hm hs => norm hm hs [0] [0] [(3, (Value.int .i64 (0 : Int))), (22, (ptr g7 0))] (by decide) ⟨rfl, rfl, trivial⟩)
        clear h
        rintro k9 ⟨l8i3, l8xp22⟩ h
        have h : f_names_Check_L10 a0 kk5 k9 l8i3 l8xp22 = some r := h
        obtain _ | k9 := k9
        · rw [f_names_Check_L10] at h; cases h
        rw [f_names_Check_L10] at h
        refine aw_show (m := (memOf w0 Z0 [] [(oIter g7 a0 l8xp22)] [uTabs])) (S := (tab [(3, (Value.int .i64 l8i3)), (22, (ptr g7 0))])) ?_
        refine aw_seq ?_
        refine aw_region ?_
        refine al_next 0 rfl rfl rfl (fun hn11 => ?_) (fun hn11 => ?_)
        · replace h := bif_t (decide_eq_true hn11) h
          refine al_val (ov_extract rfl rfl rfl) ?_
          refine al_nil ?_
          refine aq_then ?_
          refine aw_seq ?_
          refine aw_cond_t rfl ?_
          refine aw_skip ?_
          refine aq_then ?_
          refine aw_block ?_
          refine aw_seq ?_
          refine aw_region ?_
          refine al_val (ov_extract rfl rfl rfl) ?_
          refine al_val (ov_assign rfl rfl) ?_
          refine al_nil ?_
          refine aq_then ?_
          refine aw_seq ?_
          obtain ⟨kk13, hkk13, h⟩ := lt_some h
          refine aw_seq_join (ι := Bool) (fun i => (memOf w0 Z0 [] [(oIter g7 a0 ((l8xp22.toNat + (dec a0 l8xp22.toNat).2 : Nat) : Int))] [uTabs])) (fun i => (tab [(3, (Value.int .i64 l8i3)), (22, (ptr g7 0)), (35, (Value.bool i))])) (fun i => kk13 i = some r) ?_ ?_
          · rintro j12b35 h
            have h : kk13 j12b35 = some r := h
            rw [hkk13] at h
            dsimp only at h
            clear hkk13
            refine aw_show (m := (memOf w0 Z0 [] [(oIter g7 a0 ((l8xp22.toNat + (dec a0 l8xp22.toNat).2 : Nat) : Int))] [uTabs])) (S := (tab [(3, (Value.int .i64 l8i3)), (22, (ptr g7 0)), (35, (Value.bool j12b35))])) ?_
            refine aw_cond rfl (fun hb14 => ?_) (fun hb14 => ?_)
            · replace h := bif_t hb14 h
              refine aw_seq ?_
              refine aw_region ?_
              refine al_val (ov_assign rfl rfl) ?_
              refine al_nil ?_
              refine aq_then ?_
              refine aw_ret ?_
              refine aq_then_ret ?_
              refine aq_block_ret ?_
              refine aq_then_ret ?_
              refine aq_block_ret ?_
              refine aq_then_ret ?_
              obtain rfl := Option.some.inj h
              exact fn_ret () [] [] rfl rfl rfl rfl (res1 rfl rfl) rfl rfl rfl (by decide)
            · replace h := bif_f hb14 h
              refine aw_skip ?_
              refine aq_then ?_
              refine aw_region ?_
              refine al_val (ov_move rfl rfl) ?_
              refine al_val (ov_int rfl rfl rfl rfl) ?_
              refine al_val (ov_assign rfl rfl) ?_
              refine al_nil ?_
              refine aq_block ?_
              exact aq_again k9 ((IntKind.i64.wrap (l8i3 + (1 : Int))), ((l8xp22.toNat + (dec a0 l8xp22.toNat).2 : Nat) : Int)) (Nat.lt_succ_self _) h (fun w a hm hs => norm hm hs [0] [0] [(3, (Value.int .i64 (IntKind.i64.wrap (l8i3 + (1 : Int))))), (22, (ptr g7 0))] (by decide) ⟨rfl, rfl, trivial⟩)
          · clear hkk13
            refine aw_region ?_
            refine al_val (ov_move rfl rfl) ?_
            refine al_val (ov_int rfl rfl rfl rfl) ?_
            refine al_val (ov_move rfl rfl) ?_
            refine al_caseB 28 rfl (fun hb15 => ?_) (fun hb15 => ?_)
            · replace h := bif_t hb15 h
              refine al_skip ?_
              refine al_skip ?_
              refine al_val (ov_pick_t rfl rfl rfl) ?_
              refine al_val (ov_move rfl rfl) ?_
              refine al_skip ?_
              refine al_skip ?_
              refine al_val (ov_pick_t rfl rfl rfl) ?_
              refine al_nil ?_
              exact aq_join true h (fun w a hm hs => norm hm hs [0] [0] [(3, (Value.int .i64 l8i3)), (22, (ptr g7 0)), (35, (Value.bool true))] (by decide) ⟨rfl, rfl, rfl, trivial⟩)
            · replace h := bif_f hb15 h
              refine al_val (ov_move rfl rfl) ?_
              refine al_val (ov_int rfl rfl rfl rfl) ?_
              refine al_val (ov_pick_f rfl rfl rfl) ?_
              refine al_val (ov_move rfl rfl) ?_
              refine al_caseB 32 rfl (fun hb16 => ?_) (fun hb16 => ?_)
              · replace h := bif_t hb16 h
                refine al_skip ?_
                refine al_skip ?_
                refine al_val (ov_pick_t rfl rfl rfl) ?_
                refine al_nil ?_
                exact aq_join true h (fun w a hm hs => norm hm hs [0] [0] [(3, (Value.int .i64 l8i3)), (22, (ptr g7 0)), (35, (Value.bool true))] (by decide) ⟨rfl, rfl, rfl, trivial⟩)
              · replace h := bif_f hb16 h
                refine al_val (ov_move rfl rfl) ?_
                refine al_val (ov_int rfl rfl rfl rfl) ?_
                refine al_val (ov_pick_f rfl rfl rfl) ?_
                refine al_nil ?_
                exact aq_join ((((dec a0 l8xp22.toNat).1 : Nat) : Int) == (127 : Int)) h (fun w a hm hs => norm hm hs [0] [0] [(3, (Value.int .i64 l8i3)), (22, (ptr g7 0)), (35, (Value.bool ((((dec a0 l8xp22.toNat).1 : Nat) : Int) == (127 : Int))))] (by decide) ⟨rfl, rfl, rfl, trivial⟩)
        · replace h := bif_f (decide_eq_false hn11) h
          refine al_val (ov_extract rfl rfl rfl) ?_
          refine al_nil ?_
          refine aq_then ?_
          refine aw_seq ?_
          refine aw_cond_f rfl ?_
          refine aw_exit ?_
          refine aq_then_exit ?_
          refine aq_then_exit ?_
          refine aq_block_exit ?_
          exact aq_join l8i3 h (fun w a hm hs => norm hm hs [] [0] [(3, (Value.int .i64 l8i3))] (by decide) ⟨rfl, trivial⟩)
  · clear hkk2
    refine aw_region ?_
    refine al_val (ov_move rfl rfl) ?_
    refine al_val (ov_strCmp rfl rfl rfl rfl) ?_
    refine al_val (ov_move rfl rfl) ?_
    refine al_caseB 8 rfl (fun hb17 => ?_) (fun hb17 => ?_)
    · replace h := bif_t hb17 h
      refine al_skip ?_
      refine al_skip ?_
      refine al_val (ov_pick_t rfl rfl rfl) ?_
      refine al_val (ov_move rfl rfl) ?_
      refine al_skip ?_
      refine al_skip ?_
      refine al_val (ov_pick_t rfl rfl rfl) ?_
      refine al_val (ov_move rfl rfl) ?_
      refine al_skip ?_
      refine al_skip ?_
      refine al_skip ?_
      refine al_val (ov_pick_t rfl rfl rfl) ?_
      refine al_nil ?_
      exact aq_join true h (fun w a hm hs => norm hm hs [] [0] [(0, (str a0)), (20, (Value.bool true))] (by decide) ⟨rfl, rfl, trivial⟩)
    · replace h := bif_f hb17 h
      refine al_val (ov_move rfl rfl) ?_
      refine al_val (ov_strCmp rfl rfl rfl rfl) ?_
      refine al_val (ov_pick_f rfl rfl rfl) ?_
      refine al_val (ov_move rfl rfl) ?_
      refine al_caseB 12 rfl (fun hb18 => ?_) (fun hb18 => ?_)
      · replace h := bif_t hb18 h
        refine al_skip ?_
        refine al_skip ?_
        refine al_val (ov_pick_t rfl rfl rfl) ?_
        refine al_val (ov_move rfl rfl) ?_
        refine al_skip ?_
        refine al_skip ?_
        refine al_skip ?_
        refine al_val (ov_pick_t rfl rfl rfl) ?_
        refine al_nil ?_
        exact aq_join true h (fun w a hm hs => norm hm hs [] [0] [(0, (str a0)), (20, (Value.bool true))] (by decide) ⟨rfl, rfl, trivial⟩)
      · replace h := bif_f hb18 h
        refine al_val (ov_move rfl rfl) ?_
        refine al_val (ov_strCmp rfl rfl rfl rfl) ?_
        refine al_val (ov_pick_f rfl rfl rfl) ?_
        refine al_val (ov_move rfl rfl) ?_
        refine al_caseB 16 rfl (fun hb19 => ?_) (fun hb19 => ?_)
        · replace h := bif_t hb19 h
          refine al_skip ?_
          refine al_skip ?_
          refine al_skip ?_
          refine al_val (ov_pick_t rfl rfl rfl) ?_
          refine al_nil ?_
          exact aq_join true h (fun w a hm hs => norm hm hs [] [0] [(0, (str a0)), (20, (Value.bool true))] (by decide) ⟨rfl, rfl, trivial⟩)
        · replace h := bif_f hb19 h
          refine al_val (ov_move rfl rfl) ?_
          obtain ⟨r21, hc20, h⟩ := opt_some h
          refine al_call (vs := [(str a0)]) (f_utf8_ValidString_ok fu a0 hc20) [] [] [] (pre_fz 0 rfl pre_nil) rfl (by simp) (by decide) (.inl rfl) rfl Tryd.func91 rfl rfl rfl (fun _ => ?_)
          refine al_val (ov_not rfl rfl) ?_
          refine al_val (ov_pick_f rfl rfl rfl) ?_
          refine al_nil ?_
          exact aq_join (!r21) h (fun w a hm hs => norm hm hs [] [0] [(0, (str a0)), (20, (Value.bool (!r21)))] (by decide) ⟨rfl, rfl, trivial⟩)
def f_room_check_L19 (a0 : S_api_Head) (kk16 : (Unit → Option Int)) : Nat → (List ((List UInt8) × Bool)) → Int → Option Int
  | 0, _, _ => none
  | k18 + 1, l17xm12, l17i86 => (bif (decide (l17i86 < (a0.Snaps.length : Int))) then (opt (at? a0.Snaps l17i86) fun (u21 : S_api_Snap) => (req (u21.Name.length ≤ 9223372036854775807) (bif ((gget l17xm12 u21.Name).getD false) then (some (4 : Int)) else (req (u21.Name.length ≤ 9223372036854775807) (f_room_check_L19 a0 kk16 k18 (gset l17xm12 u21.Name true) (IntKind.i64.wrap (l17i86 + (1 : Int)))))))) else (kk16 ()))
def f_room_check_L30 (a0 : S_api_Head) (kk13 : (Unit → Option Int)) : Nat → Int → Int → Option Int
  | 0, _, _ => none
  | k29 + 1, l28i9, l28i67 => (bif (decide (l28i67 < (a0.Packs.length : Int))) then (opt (at? a0.Packs l28i67) fun (u32 : Int) => (lt (fun (j35b79 : Bool) => (bif j35b79 then (some (4 : Int)) else (f_room_check_L30 a0 kk13 k29 u32 (IntKind.i64.wrap (l28i67 + (1 : Int)))))) fun (kk36 : Bool → Option Int) => (bif (decide (u32 ≤ l28i9)) then (kk36 true) else (kk36 (decide (u32 ≥ a0.Next)))))) else (kk13 ()))
def f_room_check_L41 (a0 : S_api_Head) (kk11 : (Unit → Option Int)) (fu : Nat) : Nat → Int → Option Int
  | 0, _ => none
  | k40 + 1, l39i45 => (bif (decide (l39i45 < (a0.Snaps.length : Int))) then (opt (at? a0.Snaps l39i45) fun (u43 : S_api_Snap) => (opt (f_names_Check fu u43.Name) fun (r48 : Int) => (bif (r48 != (0 : Int)) then (some r48) else (lt (fun (j50b62 : Bool) => (bif j50b62 then (some (1 : Int)) else (f_room_check_L41 a0 kk11 fu k40 (IntKind.i64.wrap (l39i45 + (1 : Int)))))) fun (kk51 : Bool → Option Int) => (bif (decide (u43.Time < (0 : Int))) then (kk51 true) else (kk51 (decide (u43.Time > (4223371679 : Int))))))))) else (kk11 ()))
def f_room_check_L56 (a0 : S_api_Head) (kk9 : (Unit → Option Int)) (fu : Nat) : Nat → Int → Option Int
  | 0, _ => none
  | k55 + 1, l54i33 => (bif (decide (l54i33 < (a0.Packs.length : Int))) then (opt (at? a0.Packs l54i33) fun (u58 : Int) => (opt (f_room_check_1 fu u58) fun (r62 : Bool) => (bif (!r62) then (some (1 : Int)) else (f_room_check_L56 a0 kk9 fu k55 (IntKind.i64.wrap (l54i33 + (1 : Int))))))) else (kk9 ()))
def f_room_check (fu : Nat) (a0 : S_api_Head) : Option Int := (lt (fun (j2b24 : Bool) => (bif j2b24 then (some (2 : Int)) else (opt (f_room_check_1 fu a0.Next) fun (r6 : Bool) => (bif (!r6) then (some (1 : Int)) else (lt (fun (_ : Unit) => (lt (fun (_ : Unit) => (lt (fun (_ : Unit) => (lt (fun (_ : Unit) => (some (0 : Int))) fun (kk16 : Unit → Option Int) => (f_room_check_L19 a0 kk16 fu ([] : List ((List UInt8) × Bool)) (0 : Int)))) fun (kk13 : Unit → Option Int) => (f_room_check_L30 a0 kk13 fu (-1 : Int) (0 : Int)))) fun (kk11 : Unit → Option Int) => (f_room_check_L41 a0 kk11 fu fu (0 : Int)))) fun (kk9 : Unit → Option Int) => (f_room_check_L56 a0 kk9 fu fu (0 : Int))))))) fun (kk3 : Bool → Option Int) => (bif (decide ((a0.Packs.length : Int) > (100 : Int))) then (kk3 true) else (kk3 (decide ((a0.Snaps.length : Int) > (20 : Int))))))
set_option maxRecDepth 100000 in
theorem f_room_check_ok (fu : Nat) (v0_1 : Value) (v0_2 : Value) (a0 : S_api_Head) {r : Int} (h : f_room_check fu a0 = some r) : FnOk Tryd.prog 76 [(ag [(Value.int .i64 a0.Next), v0_1, v0_2])] [(fDat (tyList (tyInt .i64)) [v0_1] a0.Packs), (fDat (tyList tyS_api_Snap) [v0_2] a0.Snaps), uTabs] [] (fun (i : Unit) => { val := (Value.int .i64 r) }) := by
  unfold f_room_check at h
  refine fn_enter Tryd.func76 rfl Tryd.ntmps76 rfl (fun w0 Z0 => ?_)
  refine aw_seq ?_
  refine aw_region ?_
  refine al_box (vs := [(Value.int .i64 a0.Next), v0_1, v0_2]) rfl (cv_rfl rfl) rfl (fun g1 => ?_)
  refine al_val (ov_assign rfl rfl) ?_
  refine al_nil ?_
  refine aq_then ?_
  refine aw_seq ?_
  obtain ⟨kk3, hkk3, h⟩ := lt_some h
  refine aw_seq_join (ι := Bool) (fun i => (memOf w0 Z0 [] [(oBox g1 62 [(Value.int .i64 a0.Next), v0_1, v0_2])] [(fDat (tyList (tyInt .i64)) [v0_1] a0.Packs), (fDat (tyList tyS_api_Snap) [v0_2] a0.Snaps), uTabs])) (fun i => (tab [(1, (ptr g1 0)), (24, (Value.bool i))])) (fun i => kk3 i = some r) ?_ ?_
  · rintro j2b24 h
    have h : kk3 j2b24 = some r := h
    rw [hkk3] at h
    dsimp only at h
    clear hkk3
    refine aw_show (m := (memOf w0 Z0 [] [(oBox g1 62 [(Value.int .i64 a0.Next), v0_1, v0_2])] [(fDat (tyList (tyInt .i64)) [v0_1] a0.Packs), (fDat (tyList tyS_api_Snap) [v0_2] a0.Snaps), uTabs])) (S := (tab [(1, (ptr g1 0)), (24, (Value.bool j2b24))])) ?_
    refine aw_cond rfl (fun hb4 => ?_) (fun hb4 => ?_)
    · replace h := bif_t hb4 h
      refine aw_seq ?_
      refine aw_region ?_
      refine al_val (ov_assign rfl rfl) ?_
      refine al_nil ?_
      refine aq_then ?_
      refine aw_ret ?_
      refine aq_then_ret ?_
      obtain rfl := Option.some.inj h
      exact fn_ret () [] [] rfl rfl rfl rfl (res1 rfl rfl) rfl rfl rfl (by decide)
    · replace h := bif_f hb4 h
      refine aw_skip ?_
      refine aq_then ?_
      refine aw_seq ?_
      refine aw_region ?_
      refine al_val (ov_assign rfl rfl) ?_
      refine al_nil ?_
      refine aq_then ?_
      refine aw_seq ?_
      refine aw_seq ?_
      refine aw_region ?_
      refine al_val (ov_move rfl rfl) ?_
      refine al_val (ov_fieldA (p := 0) rfl Tryd.underlying62 rfl sz3 rfl rfl rfl) ?_
      refine al_val (ov_load (i := 0) (v := (Value.int .i64 a0.Next)) rfl rfl Tryd.underlying3 sz3 rfl rfl rfl rfl) ?_
      obtain ⟨r6, hc5, h⟩ := opt_some h
      refine al_callF (vs := [(Value.int .i64 a0.Next)]) (caps := []) (f_room_check_1_ok fu a0.Next hc5) rfl [] [] [0] pre_nil rfl (by simp) (by decide) (.inl rfl) rfl rfl Tryd.func116 rfl rfl rfl (fun _ => ?_)
      refine al_val (ov_not rfl rfl) ?_
      refine al_nil ?_
      refine aq_then ?_
      refine aw_cond rfl (fun hb7 => ?_) (fun hb7 => ?_)
      · replace h := bif_t hb7 h
        refine aw_seq ?_
        refine aw_region ?_
        refine al_val (ov_assign rfl rfl) ?_
        refine al_nil ?_
        refine aq_then ?_
        refine aw_ret ?_
        refine aq_then_ret ?_
        obtain rfl := Option.some.inj h
        exact fn_ret () [] [] rfl rfl rfl rfl (res1 rfl rfl) rfl rfl rfl (by decide)
      · replace h := bif_f hb7 h
        refine aw_skip ?_
        refine aq_then ?_
        obtain ⟨kk9, hkk9, h⟩ := lt_some h
        refine aw_seq_join (ι := Unit) (fun i => (memOf w0 Z0 [] [(oBox g1 62 [(Value.int .i64 a0.Next), v0_1, v0_2])] [(fDat (tyList (tyInt .i64)) [v0_1] a0.Packs), (fDat (tyList tyS_api_Snap) [v0_2] a0.Snaps), uTabs])) (fun i => (tab [(1, (ptr g1 0))])) (fun i => kk9 () = some r) ?_ ?_
        · rintro _ h
          have h : kk9 () = some r := h
          rw [hkk9] at h
          dsimp only at h
          clear hkk9
          refine aw_show (m := (memOf w0 Z0 [] [(oBox g1 62 [(Value.int .i64 a0.Next), v0_1, v0_2])] [(fDat (tyList (tyInt .i64)) [v0_1] a0.Packs), (fDat (tyList tyS_api_Snap) [v0_2] a0.Snaps), uTabs])) (S := (tab [(1, (ptr g1 0))])) ?_
          obtain ⟨kk11, hkk11, h⟩ := lt_some h
          refine aw_seq_join (ι := Unit) (fun i => (memOf w0 Z0 [] [(oBox g1 62 [(Value.int .i64 a0.Next), v0_1, v0_2])] [(fDat (tyList (tyInt .i64)) [v0_1] a0.Packs), (fDat (tyList tyS_api_Snap) [v0_2] a0.Snaps), uTabs])) (fun i => (tab [(1, (ptr g1 0))])) (fun i => kk11 () = some r) ?_ ?_
          · rintro _ h
            have h : kk11 () = some r := h
            rw [hkk11] at h
            dsimp only at h
            clear hkk11
            refine aw_show (m := (memOf w0 Z0 [] [(oBox g1 62 [(Value.int .i64 a0.Next), v0_1, v0_2])] [(fDat (tyList (tyInt .i64)) [v0_1] a0.Packs), (fDat (tyList tyS_api_Snap) [v0_2] a0.Snaps), uTabs])) (S := (tab [(1, (ptr g1 0))])) ?_
            refine aw_seq ?_
            refine aw_region ?_
            refine al_val (ov_assign rfl rfl) ?_
            refine al_nil ?_
            refine aq_then ?_
            obtain ⟨kk13, hkk13, h⟩ := lt_some h
            refine aw_seq_join (ι := Unit) (fun i => (memOf w0 Z0 [] [(oBox g1 62 [(Value.int .i64 a0.Next), v0_1, v0_2])] [(fDat (tyList (tyInt .i64)) [v0_1] a0.Packs), (fDat (tyList tyS_api_Snap) [v0_2] a0.Snaps), uTabs])) (fun i => (tab [(1, (ptr g1 0))])) (fun i => kk13 () = some r) ?_ ?_
            · rintro _ h
              have h : kk13 () = some r := h
              rw [hkk13] at h
              dsimp only at h
              clear hkk13
              refine aw_show (m := (memOf w0 Z0 [] [(oBox g1 62 [(Value.int .i64 a0.Next), v0_1, v0_2])] [(fDat (tyList (tyInt .i64)) [v0_1] a0.Packs), (fDat (tyList tyS_api_Snap) [v0_2] a0.Snaps), uTabs])) (S := (tab [(1, (ptr g1 0))])) ?_
              refine aw_seq ?_
              refine aw_region ?_
              refine al_makeMapK (ν := Bool) 9 str (fun x : Bool => Value.bool x) rfl (fun g14 => ?_)
              refine al_val (ov_assign rfl rfl) ?_
              refine al_nil ?_
              refine aq_then ?_
              obtain ⟨kk16, hkk16, h⟩ := lt_some h
              refine aw_seq_join (ι := Unit) (fun i => (memOf w0 Z0 [] [] [(fDat (tyList (tyInt .i64)) [v0_1] a0.Packs), (fDat (tyList tyS_api_Snap) [v0_2] a0.Snaps), uTabs])) (fun i => (tab [])) (fun i => kk16 () = some r) ?_ ?_
              · rintro _ h
                have h : kk16 () = some r := h
                rw [hkk16] at h
                dsimp only at h
                clear hkk16
                refine aw_show (m := (memOf w0 Z0 [] [] [(fDat (tyList (tyInt .i64)) [v0_1] a0.Packs), (fDat (tyList tyS_api_Snap) [v0_2] a0.Snaps), uTabs])) (S := (tab [])) ?_
                refine aw_seq ?_
                refine aw_region ?_
                refine al_val (ov_assign rfl rfl) ?_
                refine al_nil ?_
                refine aq_then ?_
                refine aw_ret ?_
                obtain rfl := Option.some.inj h
                exact fn_ret () [] [] rfl rfl rfl rfl (res1 rfl rfl) rfl rfl rfl (by decide)
              · clear hkk16
                refine aw_seq ?_
                refine aw_region ?_
                refine al_val (ov_fieldA (p := 2) rfl Tryd.underlying62 rfl sz60 rfl rfl rfl) ?_
                refine al_val (ov_load (i := 1) (v := v0_2) rfl rfl Tryd.underlying60 sz60 rfl rfl rfl rfl) ?_
                refine al_val (ov_lenD 1 rfl rfl Tryd.underlying60 rfl) ?_
                refine al_val (ov_move rfl rfl) ?_
                refine al_nil ?_
                refine aq_then ?_
                refine aw_block ?_
                refine aw_state (aw_loop (ι := (List ((List UInt8) × Bool)) × Int) (fun i => (memOf w0 Z0 [] [(oMapK Tryd.prog 9 g14 str (fun x : Bool => Value.bool x) i.1)] [(fDat (tyList tyS_api_Snap) [v0_2] a0.Snaps), (fDat (tyList (tyInt .i64)) [v0_1] a0.Packs), uTabs])) (fun i => (tab [(12, (Value.map (some g14))), (84, v0_2), (85, (Value.int .i64 (a0.Snaps.length : Int))), (86, (Value.int .i64 i.2))])) (fun q i => f_room_check_L19 a0 kk16 q i.1 i.2 = some r) ?_ fu (([] : List ((List UInt8) × Bool)), (0 : Int)) h) (fun w a hm hs => norm hm hs [0] [1, 0, 2] [(12, (Value.map (some g14))), (84, v0_2), (85, (Value.int .i64 (a0.Snaps.length : Int))), (86, (Value.int .i64 (0 : Int)))] (by decide) ⟨rfl, rfl, rfl, rfl, trivial⟩)
                clear h
                rintro k18 ⟨l17xm12, l17i86⟩ h
                have h : f_room_check_L19 a0 kk16 k18 l17xm12 l17i86 = some r := h
                obtain _ | k18 := k18
                · rw [f_room_check_L19] at h; cases h
                rw [f_room_check_L19] at h
                refine aw_show (m := (memOf w0 Z0 [] [(oMapK Tryd.prog 9 g14 str (fun x : Bool => Value.bool x) l17xm12)] [(fDat (tyList tyS_api_Snap) [v0_2] a0.Snaps), (fDat (tyList (tyInt .i64)) [v0_1] a0.Packs), uTabs])) (S := (tab [(12, (Value.map (some g14))), (84, v0_2), (85, (Value.int .i64 (a0.Snaps.length : Int))), (86, (Value.int .i64 l17i86))])) ?_
                refine aw_seq ?_
                refine aw_region ?_
                refine al_val (ov_int rfl rfl rfl rfl) ?_
                refine al_nil ?_
                refine aq_then ?_
                refine aw_seq ?_
                refine aw_cond rfl (fun hb20 => ?_) (fun hb20 => ?_)
                · replace h := bif_t hb20 h
                  refine aw_skip ?_
                  refine aq_then ?_
                  refine aw_seq ?_
                  refine aw_block ?_
                  refine aw_seq ?_
                  refine aw_region ?_
                  obtain ⟨u21, hu22, h⟩ := opt_some h
                  refine al_idxD 0 hu22 rfl rfl rfl Tryd.underlying60 sz104 rfl (fun p23 => ?_)
                  refine al_val (ov_loadP (ds := ([(str u21.Name), (Value.int .i64 u21.Time)] ++ (cA8u8 u21.Root))) 0 rfl encS_api_Snap rfl Tryd.underlying104 sz104 rfl rfl rfl) ?_
                  refine al_alloc (zs := ([(str ([] : List UInt8)), (Value.int .i64 (0 : Int))] ++ (cA8u8 (A8u8.mk (0 : UInt8) (0 : UInt8) (0 : UInt8) (0 : UInt8) (0 : UInt8) (0 : UInt8) (0 : UInt8) (0 : UInt8))))) (zeroOf_to to104) rfl rfl (fun g24 => ?_)
                  refine al_store (i := 0) (vs := ([(str u21.Name), (Value.int .i64 u21.Time)] ++ (cA8u8 u21.Root))) (cs' := ([(str u21.Name), (Value.int .i64 u21.Time)] ++ (cA8u8 u21.Root))) rfl rfl rfl sz104 (cv_rfl rfl) rfl (co_val rfl (co_val rfl (co_all (oneA8u8 u21.Root)))) (Nat.le_of_ble_eq_true rfl) rfl rfl ?_
                  refine al_nil ?_
                  refine aq_then ?_
                  refine aw_seq ?_
                  refine aw_seq ?_
                  refine aw_region ?_
                  refine al_val (ov_move rfl rfl) ?_
                  refine al_val (ov_fieldA (p := 0) rfl Tryd.underlying104 rfl sz9 rfl rfl rfl) ?_
                  refine al_val (ov_load (i := 0) (v := (str u21.Name)) rfl rfl Tryd.underlying9 sz9 rfl rfl rfl rfl) ?_
                  obtain ⟨hc25, h⟩ := req_some h
                  refine al_val (v := (Value.bool ((gget l17xm12 u21.Name).getD false))) (ov_lookupK (k := u21.Name) (z := false) 1 kd9 str_inj (key_str Tryd.underlying9 hc25) rfl rfl rfl Tryd.underlying144 (zeroOf_to to4) rfl) ?_
                  refine al_nil ?_
                  refine aq_then ?_
                  refine aw_cond rfl (fun hb26 => ?_) (fun hb26 => ?_)
                  · replace h := bif_t hb26 h
                    refine aw_seq ?_
                    refine aw_region ?_
                    refine al_val (ov_assign rfl rfl) ?_
                    refine al_nil ?_
                    refine aq_then ?_
                    refine aw_ret ?_
                    refine aq_then_ret ?_
                    refine aq_block_ret ?_
                    refine aq_then_ret ?_
                    refine aq_then_ret ?_
                    refine aq_block_ret ?_
                    refine aq_then_ret ?_
                    obtain rfl := Option.some.inj h
                    exact fn_ret () [] [] rfl rfl rfl rfl (res1 rfl rfl) rfl rfl rfl (by decide)
                  · replace h := bif_f hb26 h
                    refine aw_skip ?_
                    refine aq_then ?_
                    refine aw_region ?_
                    refine al_val (ov_move rfl rfl) ?_
                    refine al_val (ov_fieldA (p := 0) rfl Tryd.underlying104 rfl sz9 rfl rfl rfl) ?_
                    refine al_val (ov_load (i := 0) (v := (str u21.Name)) rfl rfl Tryd.underlying9 sz9 rfl rfl rfl rfl) ?_
                    obtain ⟨hc27, h⟩ := req_some h
                    refine al_mapSetK (k := u21.Name) (v := true) 1 kd9 str_inj (key_str Tryd.underlying9 hc27) rfl rfl rfl rfl Tryd.underlying144 rfl ?_
                    refine al_nil ?_
                    refine aq_block ?_
                    refine aq_then ?_
                    refine aw_region ?_
                    refine al_val (ov_int rfl rfl rfl rfl) ?_
                    refine al_val (ov_move rfl rfl) ?_
                    refine al_nil ?_
                    exact aq_again k18 ((gset l17xm12 u21.Name true), (IntKind.i64.wrap (l17i86 + (1 : Int)))) (Nat.lt_succ_self _) h (fun w a hm hs => norm hm hs [1] [1, 2, 3] [(12, (Value.map (some g14))), (84, v0_2), (85, (Value.int .i64 (a0.Snaps.length : Int))), (86, (Value.int .i64 (IntKind.i64.wrap (l17i86 + (1 : Int)))))] (by decide) ⟨rfl, rfl, rfl, rfl, trivial⟩)
                · replace h := bif_f hb20 h
                  refine aw_exit ?_
                  refine aq_then_exit ?_
                  refine aq_then_exit ?_
                  refine aq_block_exit ?_
                  exact aq_join () h (fun w a hm hs => norm hm hs [] [1, 0, 2] [] (by decide) trivial)
            · clear hkk13
              refine aw_seq ?_
              refine aw_region ?_
              refine al_val (ov_fieldA (p := 1) rfl Tryd.underlying62 rfl sz59 rfl rfl rfl) ?_
              refine al_val (ov_load (i := 0) (v := v0_1) rfl rfl Tryd.underlying59 sz59 rfl rfl rfl rfl) ?_
              refine al_val (ov_lenD 0 rfl rfl Tryd.underlying59 rfl) ?_
              refine al_val (ov_move rfl rfl) ?_
              refine al_nil ?_
              refine aq_then ?_
              refine aw_block ?_
              refine aw_state (aw_loop (ι := Int × Int) (fun i => (memOf w0 Z0 [] [(oBox g1 62 [(Value.int .i64 a0.Next), v0_1, v0_2])] [(fDat (tyList (tyInt .i64)) [v0_1] a0.Packs), (fDat (tyList tyS_api_Snap) [v0_2] a0.Snaps), uTabs])) (fun i => (tab [(1, (ptr g1 0)), (9, (Value.int .i64 i.1)), (65, v0_1), (66, (Value.int .i64 (a0.Packs.length : Int))), (67, (Value.int .i64 i.2))])) (fun q i => f_room_check_L30 a0 kk13 q i.1 i.2 = some r) ?_ fu ((-1 : Int), (0 : Int)) h) (fun w a hm hs => norm hm hs [0] [0, 1, 2] [(1, (ptr g1 0)), (9, (Value.int .i64 (-1 : Int))), (65, v0_1), (66, (Value.int .i64 (a0.Packs.length : Int))), (67, (Value.int .i64 (0 : Int)))] (by decide) ⟨rfl, rfl, rfl, rfl, rfl, trivial⟩)
              clear h
              rintro k29 ⟨l28i9, l28i67⟩ h
              have h : f_room_check_L30 a0 kk13 k29 l28i9 l28i67 = some r := h
              obtain _ | k29 := k29
              · rw [f_room_check_L30] at h; cases h
              rw [f_room_check_L30] at h
              refine aw_show (m := (memOf w0 Z0 [] [(oBox g1 62 [(Value.int .i64 a0.Next), v0_1, v0_2])] [(fDat (tyList (tyInt .i64)) [v0_1] a0.Packs), (fDat (tyList tyS_api_Snap) [v0_2] a0.Snaps), uTabs])) (S := (tab [(1, (ptr g1 0)), (9, (Value.int .i64 l28i9)), (65, v0_1), (66, (Value.int .i64 (a0.Packs.length : Int))), (67, (Value.int .i64 l28i67))])) ?_
              refine aw_seq ?_
              refine aw_region ?_
              refine al_val (ov_int rfl rfl rfl rfl) ?_
              refine al_nil ?_
              refine aq_then ?_
              refine aw_seq ?_
              refine aw_cond rfl (fun hb31 => ?_) (fun hb31 => ?_)
              · replace h := bif_t hb31 h
                refine aw_skip ?_
                refine aq_then ?_
                refine aw_seq ?_
                refine aw_block ?_
                refine aw_seq ?_
                refine aw_region ?_
                obtain ⟨u32, hu33, h⟩ := opt_some h
                refine al_idxD 0 hu33 rfl rfl rfl Tryd.underlying59 sz3 rfl (fun p34 => ?_)
                refine al_val (ov_loadP (ds := [(Value.int .i64 u32)]) 0 rfl (fun h => h) rfl Tryd.underlying3 sz3 rfl rfl rfl) ?_
                refine al_val (ov_assign rfl rfl) ?_
                refine al_nil ?_
                refine aq_then ?_
                refine aw_seq ?_
                obtain ⟨kk36, hkk36, h⟩ := lt_some h
                refine aw_seq_join (ι := Bool) (fun i => (memOf w0 Z0 [] [(oBox g1 62 [(Value.int .i64 a0.Next), v0_1, v0_2])] [(fDat (tyList (tyInt .i64)) [v0_1] a0.Packs), (fDat (tyList tyS_api_Snap) [v0_2] a0.Snaps), (fPtr (tyInt .i64) p34 u32), uTabs])) (fun i => (tab [(1, (ptr g1 0)), (11, (Value.int .i64 u32)), (65, v0_1), (66, (Value.int .i64 (a0.Packs.length : Int))), (67, (Value.int .i64 l28i67)), (79, (Value.bool i))])) (fun i => kk36 i = some r) ?_ ?_
                · rintro j35b79 h
                  have h : kk36 j35b79 = some r := h
                  rw [hkk36] at h
                  dsimp only at h
                  clear hkk36
                  refine aw_show (m := (memOf w0 Z0 [] [(oBox g1 62 [(Value.int .i64 a0.Next), v0_1, v0_2])] [(fDat (tyList (tyInt .i64)) [v0_1] a0.Packs), (fDat (tyList tyS_api_Snap) [v0_2] a0.Snaps), (fPtr (tyInt .i64) p34 u32), uTabs])) (S := (tab [(1, (ptr g1 0)), (11, (Value.int .i64 u32)), (65, v0_1), (66, (Value.int .i64 (a0.Packs.length : Int))), (67, (Value.int .i64 l28i67)), (79, (Value.bool j35b79))])) ?_
                  refine aw_cond rfl (fun hb37 => ?_) (fun hb37 => ?_)
                  · replace h := bif_t hb37 h
                    refine aw_seq ?_
                    refine aw_region ?_
                    refine al_val (ov_assign rfl rfl) ?_
                    refine al_nil ?_
                    refine aq_then ?_
                    refine aw_ret ?_
                    refine aq_then_ret ?_
                    refine aq_block_ret ?_
                    refine aq_then_ret ?_
                    refine aq_then_ret ?_
                    refine aq_block_ret ?_
                    refine aq_then_ret ?_
                    obtain rfl := Option.some.inj h
                    exact fn_ret () [] [] rfl rfl rfl rfl (res1 rfl rfl) rfl rfl rfl (by decide)
                  · replace h := bif_f hb37 h
                    refine aw_skip ?_
                    refine aq_then ?_
                    refine aw_region ?_
                    refine al_val (ov_move rfl rfl) ?_
                    refine al_val (ov_assign rfl rfl) ?_
                    refine al_nil ?_
                    refine aq_block ?_
                    refine aq_then ?_
                    refine aw_region ?_
                    refine al_val (ov_int rfl rfl rfl rfl) ?_
                    refine al_val (ov_move rfl rfl) ?_
                    refine al_nil ?_
                    exact aq_again k29 (u32, (IntKind.i64.wrap (l28i67 + (1 : Int)))) (Nat.lt_succ_self _) h (fun w a hm hs => norm hm hs [0] [0, 1, 3] [(1, (ptr g1 0)), (9, (Value.int .i64 u32)), (65, v0_1), (66, (Value.int .i64 (a0.Packs.length : Int))), (67, (Value.int .i64 (IntKind.i64.wrap (l28i67 + (1 : Int)))))] (by decide) ⟨rfl, rfl, rfl, rfl, rfl, trivial⟩)
                · clear hkk36
                  refine aw_region ?_
                  refine al_val (ov_move rfl rfl) ?_
                  refine al_val (ov_move rfl rfl) ?_
                  refine al_val (ov_int rfl rfl rfl rfl) ?_
                  refine al_val (ov_move rfl rfl) ?_
                  refine al_caseB 74 rfl (fun hb38 => ?_) (fun hb38 => ?_)
                  · replace h := bif_t hb38 h
                    refine al_skip ?_
                    refine al_skip ?_
                    refine al_skip ?_
                    refine al_skip ?_
                    refine al_val (ov_pick_t rfl rfl rfl) ?_
                    refine al_nil ?_
                    exact aq_join true h (fun w a hm hs => norm hm hs [0] [1, 2, 0, 3] [(1, (ptr g1 0)), (11, (Value.int .i64 u32)), (65, v0_1), (66, (Value.int .i64 (a0.Packs.length : Int))), (67, (Value.int .i64 l28i67)), (79, (Value.bool true))] (by decide) ⟨rfl, rfl, rfl, rfl, rfl, rfl, trivial⟩)
                  · replace h := bif_f hb38 h
                    refine al_val (ov_move rfl rfl) ?_
                    refine al_val (ov_fieldA (p := 0) rfl Tryd.underlying62 rfl sz3 rfl rfl rfl) ?_
                    refine al_val (ov_load (i := 0) (v := (Value.int .i64 a0.Next)) rfl rfl Tryd.underlying3 sz3 rfl rfl rfl rfl) ?_
                    refine al_val (ov_int rfl rfl rfl rfl) ?_
                    refine al_val (ov_pick_f rfl rfl rfl) ?_
                    refine al_nil ?_
                    exact aq_join (decide (u32 ≥ a0.Next)) h (fun w a hm hs => norm hm hs [0] [1, 2, 0, 3] [(1, (ptr g1 0)), (11, (Value.int .i64 u32)), (65, v0_1), (66, (Value.int .i64 (a0.Packs.length : Int))), (67, (Value.int .i64 l28i67)), (79, (Value.bool (decide (u32 ≥ a0.Next))))] (by decide) ⟨rfl, rfl, rfl, rfl, rfl, rfl, trivial⟩)
              · replace h := bif_f hb31 h
                refine aw_exit ?_
                refine aq_then_exit ?_
                refine aq_then_exit ?_
                refine aq_block_exit ?_
                exact aq_join () h (fun w a hm hs => norm hm hs [0] [0, 1, 2] [(1, (ptr g1 0))] (by decide) ⟨rfl, trivial⟩)
          · clear hkk11
            refine aw_seq ?_
            refine aw_region ?_
            refine al_val (ov_fieldA (p := 2) rfl Tryd.underlying62 rfl sz60 rfl rfl rfl) ?_
            refine al_val (ov_load (i := 0) (v := v0_2) rfl rfl Tryd.underlying60 sz60 rfl rfl rfl rfl) ?_
            refine al_val (ov_lenD 1 rfl rfl Tryd.underlying60 rfl) ?_
            refine al_val (ov_move rfl rfl) ?_
            refine al_nil ?_
            refine aq_then ?_
            refine aw_block ?_
            refine aw_state (aw_loop (ι := Int) (fun i => (memOf w0 Z0 [] [(oBox g1 62 [(Value.int .i64 a0.Next), v0_1, v0_2])] [(fDat (tyList (tyInt .i64)) [v0_1] a0.Packs), (fDat (tyList tyS_api_Snap) [v0_2] a0.Snaps), uTabs])) (fun i => (tab [(1, (ptr g1 0)), (43, v0_2), (44, (Value.int .i64 (a0.Snaps.length : Int))), (45, (Value.int .i64 i))])) (fun q i => f_room_check_L41 a0 kk11 fu q i = some r) ?_ fu (0 : Int) h) (fun w a hm hs => norm hm hs [0] [0, 1, 2] [(1, (ptr g1 0)), (43, v0_2), (44, (Value.int .i64 (a0.Snaps.length : Int))), (45, (Value.int .i64 (0 : Int)))] (by decide) ⟨rfl, rfl, rfl, rfl, trivial⟩)
            clear h
            rintro k40 l39i45 h
            have h : f_room_check_L41 a0 kk11 fu k40 l39i45 = some r := h
            obtain _ | k40 := k40
            · rw [f_room_check_L41] at h; cases h
            rw [f_room_check_L41] at h
            refine aw_show (m := (memOf w0 Z0 [] [(oBox g1 62 [(Value.int .i64 a0.Next), v0_1, v0_2])] [(fDat (tyList (tyInt .i64)) [v0_1] a0.Packs), (fDat (tyList tyS_api_Snap) [v0_2] a0.Snaps), uTabs])) (S := (tab [(1, (ptr g1 0)), (43, v0_2), (44, (Value.int .i64 (a0.Snaps.length : Int))), (45, (Value.int .i64 l39i45))])) ?_
            refine aw_seq ?_
            refine aw_region ?_
            refine al_val (ov_int rfl rfl rfl rfl) ?_
            refine al_nil ?_
            refine aq_then ?_
            refine aw_seq ?_
            refine aw_cond rfl (fun hb42 => ?_) (fun hb42 => ?_)
            · replace h := bif_t hb42 h
              refine aw_skip ?_
              refine aq_then ?_
              refine aw_seq ?_
              refine aw_block ?_
              refine aw_seq ?_
              refine aw_region ?_
              obtain ⟨u43, hu44, h⟩ := opt_some h
              refine al_idxD 1 hu44 rfl rfl rfl Tryd.underlying60 sz104 rfl (fun p45 => ?_)
              refine al_val (ov_loadP (ds := ([(str u43.Name), (Value.int .i64 u43.Time)] ++ (cA8u8 u43.Root))) 0 rfl encS_api_Snap rfl Tryd.underlying104 sz104 rfl rfl rfl) ?_
              refine al_alloc (zs := ([(str ([] : List UInt8)), (Value.int .i64 (0 : Int))] ++ (cA8u8 (A8u8.mk (0 : UInt8) (0 : UInt8) (0 : UInt8) (0 : UInt8) (0 : UInt8) (0 : UInt8) (0 : UInt8) (0 : UInt8))))) (zeroOf_to to104) rfl rfl (fun g46 => ?_)
              refine al_store (i := 0) (vs := ([(str u43.Name), (Value.int .i64 u43.Time)] ++ (cA8u8 u43.Root))) (cs' := ([(str u43.Name), (Value.int .i64 u43.Time)] ++ (cA8u8 u43.Root))) rfl rfl rfl sz104 (cv_rfl rfl) rfl (co_val rfl (co_val rfl (co_all (oneA8u8 u43.Root)))) (Nat.le_of_ble_eq_true rfl) rfl rfl ?_
              refine al_nil ?_
              refine aq_then ?_
              refine aw_seq ?_
              refine aw_seq ?_
              refine aw_region ?_
              refine al_val (ov_fieldA (p := 0) rfl Tryd.underlying104 rfl sz9 rfl rfl rfl) ?_
              refine al_val (ov_load (i := 0) (v := (str u43.Name)) rfl rfl Tryd.underlying9 sz9 rfl rfl rfl rfl) ?_
              obtain ⟨r48, hc47, h⟩ := opt_some h
              refine al_call (vs := [(str u43.Name)]) (f_names_Check_ok fu u43.Name hc47) [] [] [0, 1] (pre_fz 3 rfl pre_nil) rfl (by simp) (by decide) (.inl rfl) rfl Tryd.func46 rfl rfl rfl (fun _ => ?_)
              refine al_val (ov_assign rfl rfl) ?_
              refine al_nil ?_
              refine aq_then ?_
              refine aw_seq ?_
              refine aw_region ?_
              refine al_val (ov_move rfl rfl) ?_
              refine al_val (ov_int rfl rfl rfl rfl) ?_
              refine al_nil ?_
              refine aq_then ?_
              refine aw_cond rfl (fun hb49 => ?_) (fun hb49 => ?_)
              · replace h := bif_t hb49 h
                refine aw_seq ?_
                refine aw_region ?_
                refine al_val (ov_move rfl rfl) ?_
                refine al_val (ov_assign rfl rfl) ?_
                refine al_nil ?_
                refine aq_then ?_
                refine aw_ret ?_
                refine aq_then_ret ?_
                refine aq_block_ret ?_
                refine aq_then_ret ?_
                refine aq_then_ret ?_
                refine aq_block_ret ?_
                refine aq_then_ret ?_
                obtain rfl := Option.some.inj h
                exact fn_ret () [] [] rfl rfl rfl rfl (res1 rfl rfl) rfl rfl rfl (by decide)
              · replace h := bif_f hb49 h
                refine aw_skip ?_
                refine aq_then ?_
                obtain ⟨kk51, hkk51, h⟩ := lt_some h
                refine aw_seq_join (ι := Bool) (fun i => (memOf w0 Z0 [] [(oBox g1 62 [(Value.int .i64 a0.Next), v0_1, v0_2])] [(fDat (tyList (tyInt .i64)) [v0_1] a0.Packs), (fDat (tyList tyS_api_Snap) [v0_2] a0.Snaps), (fPtr tyS_api_Snap p45 u43), uTabs])) (fun i => (tab [(1, (ptr g1 0)), (43, v0_2), (44, (Value.int .i64 (a0.Snaps.length : Int))), (45, (Value.int .i64 l39i45)), (62, (Value.bool i))])) (fun i => kk51 i = some r) ?_ ?_
                · rintro j50b62 h
                  have h : kk51 j50b62 = some r := h
                  rw [hkk51] at h
                  dsimp only at h
                  clear hkk51
                  refine aw_show (m := (memOf w0 Z0 [] [(oBox g1 62 [(Value.int .i64 a0.Next), v0_1, v0_2])] [(fDat (tyList (tyInt .i64)) [v0_1] a0.Packs), (fDat (tyList tyS_api_Snap) [v0_2] a0.Snaps), (fPtr tyS_api_Snap p45 u43), uTabs])) (S := (tab [(1, (ptr g1 0)), (43, v0_2), (44, (Value.int .i64 (a0.Snaps.length : Int))), (45, (Value.int .i64 l39i45)), (62, (Value.bool j50b62))])) ?_
                  refine aw_cond rfl (fun hb52 => ?_) (fun hb52 => ?_)
                  · replace h := bif_t hb52 h
                    refine aw_seq ?_
                    refine aw_region ?_
                    refine al_val (ov_assign rfl rfl) ?_
                    refine al_nil ?_
                    refine aq_then ?_
                    refine aw_ret ?_
                    refine aq_block_ret ?_
                    refine aq_then_ret ?_
                    refine aq_then_ret ?_
                    refine aq_block_ret ?_
                    refine aq_then_ret ?_
                    obtain rfl := Option.some.inj h
                    exact fn_ret () [] [] rfl rfl rfl rfl (res1 rfl rfl) rfl rfl rfl (by decide)
                  · replace h := bif_f hb52 h
                    refine aw_skip ?_
                    refine aq_block ?_
                    refine aq_then ?_
                    refine aw_region ?_
                    refine al_val (ov_int rfl rfl rfl rfl) ?_
                    refine al_val (ov_move rfl rfl) ?_
                    refine al_nil ?_
                    exact aq_again k40 (IntKind.i64.wrap (l39i45 + (1 : Int))) (Nat.lt_succ_self _) h (fun w a hm hs => norm hm hs [0] [0, 1, 3] [(1, (ptr g1 0)), (43, v0_2), (44, (Value.int .i64 (a0.Snaps.length : Int))), (45, (Value.int .i64 (IntKind.i64.wrap (l39i45 + (1 : Int)))))] (by decide) ⟨rfl, rfl, rfl, rfl, trivial⟩)
                · clear hkk51
                  refine aw_region ?_
                  refine al_val (ov_fieldA (p := 1) rfl Tryd.underlying104 rfl sz3 rfl rfl rfl) ?_
                  refine al_val (ov_load (i := 0) (v := (Value.int .i64 u43.Time)) rfl rfl Tryd.underlying3 sz3 rfl rfl rfl rfl) ?_
                  refine al_val (ov_int rfl rfl rfl rfl) ?_
                  refine al_val (ov_move rfl rfl) ?_
                  refine al_caseB 58 rfl (fun hb53 => ?_) (fun hb53 => ?_)
                  · replace h := bif_t hb53 h
                    refine al_skip ?_
                    refine al_skip ?_
                    refine al_skip ?_
                    refine al_val (ov_pick_t rfl rfl rfl) ?_
                    refine al_nil ?_
                    exact aq_join true h (fun w a hm hs => norm hm hs [1] [1, 2, 0, 3] [(1, (ptr g1 0)), (43, v0_2), (44, (Value.int .i64 (a0.Snaps.length : Int))), (45, (Value.int .i64 l39i45)), (62, (Value.bool true))] (by decide) ⟨rfl, rfl, rfl, rfl, rfl, trivial⟩)
                  · replace h := bif_f hb53 h
                    refine al_val (ov_fieldA (p := 1) rfl Tryd.underlying104 rfl sz3 rfl rfl rfl) ?_
                    refine al_val (ov_load (i := 0) (v := (Value.int .i64 u43.Time)) rfl rfl Tryd.underlying3 sz3 rfl rfl rfl rfl) ?_
                    refine al_val (ov_int rfl rfl rfl rfl) ?_
                    refine al_val (ov_pick_f rfl rfl rfl) ?_
                    refine al_nil ?_
                    exact aq_join (decide (u43.Time > (4223371679 : Int))) h (fun w a hm hs => norm hm hs [1] [1, 2, 0, 3] [(1, (ptr g1 0)), (43, v0_2), (44, (Value.int .i64 (a0.Snaps.length : Int))), (45, (Value.int .i64 l39i45)), (62, (Value.bool (decide (u43.Time > (4223371679 : Int)))))] (by decide) ⟨rfl, rfl, rfl, rfl, rfl, trivial⟩)
            · replace h := bif_f hb42 h
              refine aw_exit ?_
              refine aq_then_exit ?_
              refine aq_then_exit ?_
              refine aq_block_exit ?_
              exact aq_join () h (fun w a hm hs => norm hm hs [0] [0, 1, 2] [(1, (ptr g1 0))] (by decide) ⟨rfl, trivial⟩)
        · clear hkk9
          refine aw_seq ?_
          refine aw_region ?_
          refine al_val (ov_fieldA (p := 1) rfl Tryd.underlying62 rfl sz59 rfl rfl rfl) ?_
          refine al_val (ov_load (i := 0) (v := v0_1) rfl rfl Tryd.underlying59 sz59 rfl rfl rfl rfl) ?_
          refine al_val (ov_lenD 0 rfl rfl Tryd.underlying59 rfl) ?_
          refine al_val (ov_move rfl rfl) ?_
          refine al_nil ?_
          refine aq_then ?_
          refine aw_block ?_
          refine aw_state (aw_loop (ι := Int) (fun i => (memOf w0 Z0 [] [(oBox g1 62 [(Value.int .i64 a0.Next), v0_1, v0_2])] [(fDat (tyList (tyInt .i64)) [v0_1] a0.Packs), (fDat (tyList tyS_api_Snap) [v0_2] a0.Snaps), uTabs])) (fun i => (tab [(1, (ptr g1 0)), (3, (Value.func (.func 116) #[] #[])), (31, v0_1), (32, (Value.int .i64 (a0.Packs.length : Int))), (33, (Value.int .i64 i))])) (fun q i => f_room_check_L56 a0 kk9 fu q i = some r) ?_ fu (0 : Int) h) (fun w a hm hs => norm hm hs [0] [0, 1, 2] [(1, (ptr g1 0)), (3, (Value.func (.func 116) #[] #[])), (31, v0_1), (32, (Value.int .i64 (a0.Packs.length : Int))), (33, (Value.int .i64 (0 : Int)))] (by decide) ⟨rfl, rfl, rfl, rfl, rfl, trivial⟩)
          clear h
          rintro k55 l54i33 h
          have h : f_room_check_L56 a0 kk9 fu k55 l54i33 = some r := h
          obtain _ | k55 := k55
          · rw [f_room_check_L56] at h; cases h
          rw [f_room_check_L56] at h
          refine aw_show (m := (memOf w0 Z0 [] [(oBox g1 62 [(Value.int .i64 a0.Next), v0_1, v0_2])] [(fDat (tyList (tyInt .i64)) [v0_1] a0.Packs), (fDat (tyList tyS_api_Snap) [v0_2] a0.Snaps), uTabs])) (S := (tab [(1, (ptr g1 0)), (3, (Value.func (.func 116) #[] #[])), (31, v0_1), (32, (Value.int .i64 (a0.Packs.length : Int))), (33, (Value.int .i64 l54i33))])) ?_
          refine aw_seq ?_
          refine aw_region ?_
          refine al_val (ov_int rfl rfl rfl rfl) ?_
          refine al_nil ?_
          refine aq_then ?_
          refine aw_seq ?_
          refine aw_cond rfl (fun hb57 => ?_) (fun hb57 => ?_)
          · replace h := bif_t hb57 h
            refine aw_skip ?_
            refine aq_then ?_
            refine aw_seq ?_
            refine aw_block ?_
            refine aw_seq ?_
            refine aw_region ?_
            obtain ⟨u58, hu59, h⟩ := opt_some h
            refine al_idxD 0 hu59 rfl rfl rfl Tryd.underlying59 sz3 rfl (fun p60 => ?_)
            refine al_val (ov_loadP (ds := [(Value.int .i64 u58)]) 0 rfl (fun h => h) rfl Tryd.underlying3 sz3 rfl rfl rfl) ?_
            refine al_val (ov_assign rfl rfl) ?_
            refine al_nil ?_
            refine aq_then ?_
            refine aw_seq ?_
            refine aw_region ?_
            refine al_val (ov_move rfl rfl) ?_
            refine al_val (ov_move rfl rfl) ?_
            obtain ⟨r62, hc61, h⟩ := opt_some h
            refine al_callF (vs := [(Value.int .i64 u58)]) (caps := []) (f_room_check_1_ok fu u58 hc61) rfl [] [] [0] pre_nil rfl (by simp) (by decide) (.inl rfl) rfl rfl Tryd.func116 rfl rfl rfl (fun _ => ?_)
            refine al_val (ov_not rfl rfl) ?_
            refine al_nil ?_
            refine aq_then ?_
            refine aw_cond rfl (fun hb63 => ?_) (fun hb63 => ?_)
            · replace h := bif_t hb63 h
              refine aw_seq ?_
              refine aw_region ?_
              refine al_val (ov_assign rfl rfl) ?_
              refine al_nil ?_
              refine aq_then ?_
              refine aw_ret ?_
              refine aq_block_ret ?_
              refine aq_then_ret ?_
              refine aq_then_ret ?_
              refine aq_block_ret ?_
              refine aq_then_ret ?_
              obtain rfl := Option.some.inj h
              exact fn_ret () [] [] rfl rfl rfl rfl (res1 rfl rfl) rfl rfl rfl (by decide)
            · replace h := bif_f hb63 h
              refine aw_skip ?_
              refine aq_block ?_
              refine aq_then ?_
              refine aw_region ?_
              refine al_val (ov_int rfl rfl rfl rfl) ?_
              refine al_val (ov_move rfl rfl) ?_
              refine al_nil ?_
              exact aq_again k55 (IntKind.i64.wrap (l54i33 + (1 : Int))) (Nat.lt_succ_self _) h (fun w a hm hs => norm hm hs [0] [1, 2, 3] [(1, (ptr g1 0)), (3, (Value.func (.func 116) #[] #[])), (31, v0_1), (32, (Value.int .i64 (a0.Packs.length : Int))), (33, (Value.int .i64 (IntKind.i64.wrap (l54i33 + (1 : Int)))))] (by decide) ⟨rfl, rfl, rfl, rfl, rfl, trivial⟩)
          · replace h := bif_f hb57 h
            refine aw_exit ?_
            refine aq_then_exit ?_
            refine aq_then_exit ?_
            refine aq_block_exit ?_
            exact aq_join () h (fun w a hm hs => norm hm hs [0] [0, 1, 2] [(1, (ptr g1 0))] (by decide) ⟨rfl, trivial⟩)
  · clear hkk3
    refine aw_region ?_
    refine al_val (ov_fieldA (p := 1) rfl Tryd.underlying62 rfl sz59 rfl rfl rfl) ?_
    refine al_val (ov_load (i := 0) (v := v0_1) rfl rfl Tryd.underlying59 sz59 rfl rfl rfl rfl) ?_
    refine al_val (ov_lenD 0 rfl rfl Tryd.underlying59 rfl) ?_
    refine al_val (ov_int rfl rfl rfl rfl) ?_
    refine al_val (ov_move rfl rfl) ?_
    refine al_caseB 19 rfl (fun hb64 => ?_) (fun hb64 => ?_)
    · replace h := bif_t hb64 h
      refine al_skip ?_
      refine al_skip ?_
      refine al_skip ?_
      refine al_skip ?_
      refine al_val (ov_pick_t rfl rfl rfl) ?_
      refine al_nil ?_
      exact aq_join true h (fun w a hm hs => norm hm hs [0] [0, 1, 2] [(1, (ptr g1 0)), (24, (Value.bool true))] (by decide) ⟨rfl, rfl, trivial⟩)
    · replace h := bif_f hb64 h
      refine al_val (ov_fieldA (p := 2) rfl Tryd.underlying62 rfl sz60 rfl rfl rfl) ?_
      refine al_val (ov_load (i := 0) (v := v0_2) rfl rfl Tryd.underlying60 sz60 rfl rfl rfl rfl) ?_
      refine al_val (ov_lenD 1 rfl rfl Tryd.underlying60 rfl) ?_
      refine al_val (ov_int rfl rfl rfl rfl) ?_
      refine al_val (ov_pick_f rfl rfl rfl) ?_
      refine al_nil ?_
      exact aq_join (decide ((a0.Snaps.length : Int) > (20 : Int))) h (fun w a hm hs => norm hm hs [0] [0, 1, 2] [(1, (ptr g1 0)), (24, (Value.bool (decide ((a0.Snaps.length : Int) > (20 : Int)))))] (by decide) ⟨rfl, rfl, trivial⟩)
-- STUCK (encoding/binary.bigEndian).AppendUint64: binary.go:222: call: append to data
def f_strings_TrimLeft (fu : Nat) (a0 a1 : List UInt8) : Option (List UInt8) := match a1 with | [c] => req (c.toNat < 128) (some (Lib.trimLeftB a0 c)) | _ => none
theorem f_strings_TrimLeft_ok (fu : Nat) (a0 a1 : List UInt8) {r : List UInt8} (h : f_strings_TrimLeft fu a0 a1 = some r) : FnOk Tryd.prog 129 [(str a0), (str a1)] [] [] (fun (i : Unit) => { val := (str r) }) := by
  unfold f_strings_TrimLeft at h
  split at h
  · rename_i c
    obtain ⟨hc, h⟩ := req_some h
    obtain rfl := Option.some.inj h
    refine fnok_pure fun w => ?_
    exact (Tryd.strings_TrimLeft_one ⟨a0.toArray⟩ c hc w).mono fun e w' h9 => ⟨by simpa [str] using h9.1, by rw [h9.2]; exact Below.refl _ _⟩
  · cases h
def f_binary_BEAppendUint64_nil (fu : Nat) (a0 : Unit) (a2 : Int) : Option (List UInt8) := req (0 ≤ a2 ∧ a2 < 18446744073709551616) (some (Lib.beBytes 8 a2.toNat))
theorem f_binary_BEAppendUint64_nil_ok (fu : Nat) (a0 : Unit) (a2 : Int) {r : List UInt8} (h : f_binary_BEAppendUint64_nil fu a0 a2 = some r) : FnOk Tryd.prog 128 [(ag []), (Value.slice none 0 0), (Value.int .u64 a2)] [] [] (fun (i : Value) => { val := i, own := [(oRow i 5 tyU8 r)] }) := by
  unfold f_binary_BEAppendUint64_nil at h
  obtain ⟨hc, h⟩ := req_some h
  obtain rfl := Option.some.inj h
  obtain ⟨n, rfl⟩ : ∃ n : Nat, a2 = n := ⟨a2.toNat, by omega⟩
  refine fnok_own fun w => ?_
  refine (Tryd.binary_BE_AppendUint64 w.heap.size 0 n (by omega) (.slice none 0 0) [] w ⟨rfl, .inl ⟨rfl, rfl⟩⟩ (Nat.le_refl _) (by omega)).mono fun ex w' h9 => ?_
  obtain ⟨v, h1, h2, h3⟩ := h9
  refine ⟨v, _, h1, ?_, fun Z => u8_row _, h3⟩
  rw [Lib.beBytes_length]
  show World.ownsRow _ _ _ 1 _ _ _
  simpa using h2
def f_num_digits (fu : Nat) (a0 : Int) : Option (List UInt8) := (opt (f_binary_BEAppendUint64_nil fu () a0) fun (r2 : (List UInt8)) => (opt (f_strings_TrimLeft fu r2 ([0] : List UInt8)) fun (r5 : (List UInt8)) => (some r5)))
set_option maxRecDepth 100000 in
theorem f_num_digits_ok (fu : Nat) (a0 : Int) {r : (List UInt8)} (h : f_num_digits fu a0 = some r) : FnOk Tryd.prog 95 [(Value.int .u64 a0)] [] [] (fun (i : Unit) => { val := (str r) }) := by
  unfold f_num_digits at h
  refine fn_enter Tryd.func95 rfl Tryd.ntmps95 rfl (fun w0 Z0 => ?_)
  refine aw_seq ?_
  refine aw_region ?_
  refine al_val (ov_assign rfl rfl) ?_
  refine al_nil ?_
  refine aq_then ?_
  refine aw_seq ?_
  refine aw_region ?_
  refine al_val (ov_load0 Tryd.underlying128 sz128 rfl rfl rfl) ?_
  refine al_val (ov_move rfl rfl) ?_
  obtain ⟨r2, hc1, h⟩ := opt_some h
  refine al_call (vs := [(ag []), (Value.slice none 0 0), (Value.int .u64 a0)]) (f_binary_BEAppendUint64_nil_ok fu () a0 hc1) [] [] [] pre_nil rfl (by simp) (by decide) (.inl rfl) rfl Tryd.func128 rfl rfl rfl (fun v3 => ?_)
  refine al_val (ov_toStrR 0 rfl rfl Tryd.underlying89 Tryd.underlying5 Tryd.underlying9 rfl) ?_
  refine al_val (ov_assign rfl rfl) ?_
  refine al_nil ?_
  refine aq_then ?_
  refine aw_seq ?_
  refine aw_region ?_
  refine al_val (ov_move rfl rfl) ?_
  obtain ⟨r5, hc4, h⟩ := opt_some h
  refine al_call (vs := [(str r2), (str ([0] : List UInt8))]) (f_strings_TrimLeft_ok fu r2 ([0] : List UInt8) hc4) [] [] [0] pre_nil rfl (by simp) (by decide) (.inl rfl) rfl Tryd.func129 rfl rfl rfl (fun _ => ?_)
  refine al_val (ov_assign rfl rfl) ?_
  refine al_nil ?_
  refine aq_then ?_
  refine aw_ret ?_
  obtain rfl := Option.some.inj h
  exact fn_ret () [] [] rfl rfl rfl rfl (res1 rfl rfl) rfl rfl rfl (by decide)
def f_num_Put (fu : Nat) (a0 : Int) : Option (List UInt8) := (opt (f_num_digits fu a0) fun (r2 : (List UInt8)) => (req (0 ≤ (IntKind.u8.wrap (r2.length : Int)) ∧ (IntKind.u8.wrap (r2.length : Int)) ≤ 255) (req (([(UInt8.ofNat ((IntKind.u8.wrap (r2.length : Int))).toNat)]).length + r2.length ≤ 9223372036854775807) (some (([(UInt8.ofNat ((IntKind.u8.wrap (r2.length : Int))).toNat)]) ++ r2)))))
set_option maxRecDepth 100000 in
theorem f_num_Put_ok (fu : Nat) (a0 : Int) {r : (List UInt8)} (h : f_num_Put fu a0 = some r) : FnOk Tryd.prog 54 [(Value.int .u64 a0)] [] [] (fun (i : Unit) => { val := (str r) }) := by
  unfold f_num_Put at h
  refine fn_enter Tryd.func54 rfl Tryd.ntmps54 rfl (fun w0 Z0 => ?_)
  refine aw_seq ?_
  refine aw_region ?_
  refine al_val (ov_assign rfl rfl) ?_
  refine al_nil ?_
  refine aq_then ?_
  refine aw_seq ?_
  refine aw_region ?_
  refine al_val (ov_move rfl rfl) ?_
  obtain ⟨r2, hc1, h⟩ := opt_some h
  refine al_call (vs := [(Value.int .u64 a0)]) (f_num_digits_ok fu a0 hc1) [] [] [] pre_nil rfl (by simp) (by decide) (.inl rfl) rfl Tryd.func95 rfl rfl rfl (fun _ => ?_)
  refine al_val (ov_assign rfl rfl) ?_
  refine al_nil ?_
  refine aq_then ?_
  refine aw_seq ?_
  refine aw_region ?_
  refine al_val (ov_move rfl rfl) ?_
  refine al_val (ov_strLen Tryd.underlying9 rfl rfl) ?_
  refine al_val (ov_convInt (by rw [Tryd.underlying3]; rfl) Tryd.underlying5 rfl rfl) ?_
  obtain ⟨hc4, h⟩ := req_some h
  refine al_buildSlice (τ := tyU8) (e := 5) (k := 1) (sz := 0) (by_ := 0) (z := undef) (cs := [(Value.int .u8 (IntKind.u8.wrap (r2.length : Int)))]) (xs := [(UInt8.ofNat ((IntKind.u8.wrap (r2.length : Int))).toNat)]) rfl (by decide) (fun w a hm hs => ⟨([(Value.int .u8 (IntKind.u8.wrap (r2.length : Int)))]).toArray, rfl, by simp only [List.map_toArray, List.map_cons, List.map_nil, hs.ev (x := .tmp 8) rfl]; exact run_bs [(Value.int .u8 (IntKind.u8.wrap (r2.length : Int)))] [(Value.int .u8 (IntKind.u8.wrap (r2.length : Int)))] Tryd.underlying89 to5 rfl rfl (bs_cons (l := [(Value.int .u8 (IntKind.u8.wrap (r2.length : Int)))]) (cs := []) (cv_rfl rfl) rfl bs_nil) hm⟩) (fun hm => ⟨_, _, rfl, (fun _ => u8_rep hc4) hm, rfl⟩) rfl (fun v3 => ?_)
  refine al_val (ov_toStrR 0 rfl rfl Tryd.underlying89 Tryd.underlying5 Tryd.underlying9 rfl) ?_
  refine al_val (ov_move rfl rfl) ?_
  obtain ⟨hc5, h⟩ := req_some h
  refine al_val (ov_strAdd hc5 rfl rfl rfl) ?_
  refine al_val (ov_assign rfl rfl) ?_
  refine al_nil ?_
  refine aq_then ?_
  refine aw_ret ?_
  obtain rfl := Option.some.inj h
  exact fn_ret () [] [] rfl rfl rfl rfl (res1 rfl rfl) rfl rfl rfl (by decide)
def f_room_Write_1 (fu : Nat) (a0 : Int) : Option (List UInt8) := (opt (f_num_Put fu (IntKind.u64.wrap a0)) fun (r2 : (List UInt8)) => (some r2))
set_option maxRecDepth 100000 in
theorem f_room_Write_1_ok (fu : Nat) (a0 : Int) {r : (List UInt8)} (h : f_room_Write_1 fu a0 = some r) : FnOk Tryd.prog 77 [(Value.int .i64 a0)] [] [] (fun (i : Unit) => { val := (str r) }) := by
  unfold f_room_Write_1 at h
  refine fn_enter Tryd.func77 rfl Tryd.ntmps77 rfl (fun w0 Z0 => ?_)
  refine aw_seq ?_
  refine aw_region ?_
  refine al_val (ov_assign rfl rfl) ?_
  refine al_nil ?_
  refine aq_then ?_
  refine aw_seq ?_
  refine aw_region ?_
  refine al_val (ov_move rfl rfl) ?_
  refine al_val (ov_convInt (by rw [Tryd.underlying3]; rfl) Tryd.underlying87 rfl rfl) ?_
  obtain ⟨r2, hc1, h⟩ := opt_some h
  refine al_call (vs := [(Value.int .u64 (IntKind.u64.wrap a0))]) (f_num_Put_ok fu (IntKind.u64.wrap a0) hc1) [] [] [] pre_nil rfl (by simp) (by decide) (.inl rfl) rfl Tryd.func54 rfl rfl rfl (fun _ => ?_)
  refine al_val (ov_assign rfl rfl) ?_
  refine al_nil ?_
  refine aq_then ?_
  refine aw_ret ?_
  obtain rfl := Option.some.inj h
  exact fn_ret () [] [] rfl rfl rfl rfl (res1 rfl rfl) rfl rfl rfl (by decide)
def f_num_PutText (fu : Nat) (a0 : (List UInt8)) : Option ((List UInt8) × Int) := (bif (decide ((a0.length : Int) > (1024 : Int))) then (some (([] : List UInt8), (2 : Int))) else (opt (f_strings_ReplaceAll fu a0 ([0] : List UInt8) ([0, 255] : List UInt8)) fun (r3 : (List UInt8)) => (req (r3.length + ([0, 0] : List UInt8).length ≤ 9223372036854775807) (some ((r3 ++ ([0, 0] : List UInt8)), (0 : Int))))))
set_option maxRecDepth 100000 in
theorem f_num_PutText_ok (fu : Nat) (a0 : (List UInt8)) {r : ((List UInt8) × Int)} (h : f_num_PutText fu a0 = some r) : FnOk Tryd.prog 62 [(str a0)] [uMax] [] (fun (i : Unit) => { val := (Value.tuple #[(str r.1), (Value.int .i64 r.2)]) }) := by
  unfold f_num_PutText at h
  refine fn_enter Tryd.func62 rfl Tryd.ntmps62 rfl (fun w0 Z0 => ?_)
  refine aw_seq ?_
  refine aw_region ?_
  refine al_val (ov_assign rfl rfl) ?_
  refine al_val (ov_assign rfl rfl) ?_
  refine al_nil ?_
  refine aq_then ?_
  refine aw_seq ?_
  refine aw_seq ?_
  refine aw_region ?_
  refine al_val (ov_move rfl rfl) ?_
  refine al_val (ov_strLen Tryd.underlying9 rfl rfl) ?_
  refine al_val (ov_int rfl rfl rfl rfl) ?_
  refine al_nil ?_
  refine aq_then ?_
  refine aw_cond rfl (fun hb1 => ?_) (fun hb1 => ?_)
  · replace h := bif_t hb1 h
    refine aw_seq ?_
    refine aw_region ?_
    refine al_val (ov_assign rfl rfl) ?_
    refine al_val (ov_assign rfl rfl) ?_
    refine al_nil ?_
    refine aq_then ?_
    refine aw_ret ?_
    refine aq_then_ret ?_
    obtain rfl := Option.some.inj h
    exact fn_ret () [] [] rfl rfl rfl rfl (res2 rfl rfl rfl) rfl rfl rfl (by decide)
  · replace h := bif_f hb1 h
    refine aw_skip ?_
    refine aq_then ?_
    refine aw_seq ?_
    refine aw_region ?_
    refine al_val (ov_move rfl rfl) ?_
    obtain ⟨r3, hc2, h⟩ := opt_some h
    refine al_call (vs := [(str a0), (str ([0] : List UInt8)), (str ([0, 255] : List UInt8))]) (f_strings_ReplaceAll_ok fu a0 ([0] : List UInt8) ([0, 255] : List UInt8) hc2) [] [] [] (pre_fz 0 rfl pre_nil) rfl (by simp) (by decide) (.inl rfl) rfl Tryd.func104 rfl rfl rfl (fun _ => ?_)
    obtain ⟨hc4, h⟩ := req_some h
    refine al_val (ov_strAdd hc4 rfl rfl rfl) ?_
    refine al_val (ov_assign rfl rfl) ?_
    refine al_val (ov_assign rfl rfl) ?_
    refine al_nil ?_
    refine aq_then ?_
    refine aw_ret ?_
    obtain rfl := Option.some.inj h
    exact fn_ret () [] [] rfl rfl rfl rfl (res2 rfl rfl rfl) rfl rfl rfl (by decide)
def f__binary_littleEndian__Uint64 (fu : Nat) (a0 : Unit) (a1 : (List UInt8)) : Option Int := (opt (at? a1 (7 : Int)) fun (u2 : UInt8) => (opt (at? a1 (0 : Int)) fun (u5 : UInt8) => (opt (at? a1 (1 : Int)) fun (u8 : UInt8) => (opt (at? a1 (2 : Int)) fun (u11 : UInt8) => (opt (at? a1 (3 : Int)) fun (u14 : UInt8) => (opt (at? a1 (4 : Int)) fun (u17 : UInt8) => (opt (at? a1 (5 : Int)) fun (u20 : UInt8) => (opt (at? a1 (6 : Int)) fun (u23 : UInt8) => (opt (at? a1 (7 : Int)) fun (u26 : UInt8) => (some (bits .or .u64 (bits .or .u64 (bits .or .u64 (bits .or .u64 (bits .or .u64 (bits .or .u64 (bits .or .u64 (IntKind.u64.wrap (u5.toNat : Int)) (IntKind.u64.wrap ((IntKind.u64.wrap (u8.toNat : Int)) * 2 ^ min ((8 : Int)).toNat (IntKind.bits .u64)))) (IntKind.u64.wrap ((IntKind.u64.wrap (u11.toNat : Int)) * 2 ^ min ((16 : Int)).toNat (IntKind.bits .u64)))) (IntKind.u64.wrap ((IntKind.u64.wrap (u14.toNat : Int)) * 2 ^ min ((24 : Int)).toNat (IntKind.bits .u64)))) (IntKind.u64.wrap ((IntKind.u64.wrap (u17.toNat : Int)) * 2 ^ min ((32 : Int)).toNat (IntKind.bits .u64)))) (IntKind.u64.wrap ((IntKind.u64.wrap (u20.toNat : Int)) * 2 ^ min ((40 : Int)).toNat (IntKind.bits .u64)))) (IntKind.u64.wrap ((IntKind.u64.wrap (u23.toNat : Int)) * 2 ^ min ((48 : Int)).toNat (IntKind.bits .u64)))) (IntKind.u64.wrap ((IntKind.u64.wrap (u26.toNat : Int)) * 2 ^ min ((56 : Int)).toNat (IntKind.bits .u64))))))))))))))
set_option maxRecDepth 100000 in
theorem f__binary_littleEndian__Uint64_ok (fu : Nat) (a0 : Unit) (v1_0 : Value) (a1 : (List UInt8)) {r : Int} (h : f__binary_littleEndian__Uint64 fu a0 a1 = some r) : FnOk Tryd.prog 154 [(ag []), v1_0] [(fDat (tyList tyU8) [v1_0] a1)] [] (fun (i : Unit) => { val := (Value.int .u64 r) }) := by
  unfold f__binary_littleEndian__Uint64 at h
  refine fn_enter Tryd.func154 rfl Tryd.ntmps154 rfl (fun w0 Z0 => ?_)
  refine aw_seq ?_
  refine aw_region ?_
  refine al_box (vs := []) rfl (cv_rfl rfl) rfl (fun g1 => ?_)
  refine al_val (ov_assign rfl rfl) ?_
  refine al_nil ?_
  refine aq_then ?_
  refine aw_seq ?_
  refine aw_region ?_
  refine al_val (ov_move rfl rfl) ?_
  obtain ⟨u2, hu3, h⟩ := opt_some h
  refine al_idxD 0 hu3 rfl rfl rfl Tryd.underlying89 sz5 rfl (fun p4 => ?_)
  refine al_val (ov_loadP (ds := [(Value.int .u8 (u2.toNat : Int))]) 0 rfl (fun h => h) rfl Tryd.underlying5 sz5 rfl rfl rfl) ?_
  refine al_nil ?_
  refine aq_then ?_
  refine aw_seq ?_
  obtain ⟨u5, hu6, h⟩ := opt_some h
  obtain ⟨u8, hu9, h⟩ := opt_some h
  obtain ⟨u11, hu12, h⟩ := opt_some h
  obtain ⟨u14, hu15, h⟩ := opt_some h
  obtain ⟨u17, hu18, h⟩ := opt_some h
  obtain ⟨u20, hu21, h⟩ := opt_some h
  obtain ⟨u23, hu24, h⟩ := opt_some h
  obtain ⟨u26, hu27, h⟩ := opt_some h
  refine aw_region_draw 46 [(8, (fun u => fEq u v1_0)), (9, (fun p7 => (fPtr tyU8 p7 u5))), (10, (fun u => fEq u (Value.int .u8 (u5.toNat : Int)))), (11, (fun u => fEq u (Value.int .u64 (IntKind.u64.wrap (u5.toNat : Int))))), (12, (fun u => fEq u v1_0)), (13, (fun p10 => (fPtr tyU8 p10 u8))), (14, (fun u => fEq u (Value.int .u8 (u8.toNat : Int)))), (15, (fun u => fEq u (Value.int .u64 (IntKind.u64.wrap (u8.toNat : Int))))), (16, (fun u => fEq u (Value.int .u64 (IntKind.u64.wrap ((IntKind.u64.wrap (u8.toNat : Int)) * 2 ^ min ((8 : Int)).toNat (IntKind.bits .u64)))))), (17, (fun u => fEq u (Value.int .u64 (bits .or .u64 (IntKind.u64.wrap (u5.toNat : Int)) (IntKind.u64.wrap ((IntKind.u64.wrap (u8.toNat : Int)) * 2 ^ min ((8 : Int)).toNat (IntKind.bits .u64))))))), (18, (fun u => fEq u v1_0)), (19, (fun p13 => (fPtr tyU8 p13 u11))), (20, (fun u => fEq u (Value.int .u8 (u11.toNat : Int)))), (21, (fun u => fEq u (Value.int .u64 (IntKind.u64.wrap (u11.toNat : Int))))), (22, (fun u => fEq u (Value.int .u64 (IntKind.u64.wrap ((IntKind.u64.wrap (u11.toNat : Int)) * 2 ^ min ((16 : Int)).toNat (IntKind.bits .u64)))))), (23, (fun u => fEq u (Value.int .u64 (bits .or .u64 (bits .or .u64 (IntKind.u64.wrap (u5.toNat : Int)) (IntKind.u64.wrap ((IntKind.u64.wrap (u8.toNat : Int)) * 2 ^ min ((8 : Int)).toNat (IntKind.bits .u64)))) (IntKind.u64.wrap ((IntKind.u64.wrap (u11.toNat : Int)) * 2 ^ min ((16 : Int)).toNat (IntKind.bits .u64))))))), (24, (fun u => fEq u v1_0)), (25, (fun p16 => (fPtr tyU8 p16 u14))), (26, (fun u => fEq u (Value.int .u8 (u14.toNat : Int)))), (27, (fun u => fEq u (Value.int .u64 (IntKind.u64.wrap (u14.toNat : Int))))), (28, (fun u => fEq u (Value.int .u64 (IntKind.u64.wrap ((IntKind.u64.wrap (u14.toNat : Int)) * 2 ^ min ((24 : Int)).toNat (IntKind.bits .u64)))))), (29, (fun u => fEq u (Value.int .u64 (bits .or .u64 (bits .or .u64 (bits .or .u64 (IntKind.u64.wrap (u5.toNat : Int)) (IntKind.u64.wrap ((IntKind.u64.wrap (u8.toNat : Int)) * 2 ^ min ((8 : Int)).toNat (IntKind.bits .u64)))) (IntKind.u64.wrap ((IntKind.u64.wrap (u11.toNat : Int)) * 2 ^ min ((16 : Int)).toNat (IntKind.bits .u64)))) (IntKind.u64.wrap ((IntKind.u64.wrap (u14.toNat : Int)) * 2 ^ min ((24 : Int)).toNat (IntKind.bits .u64))))))), (30, (fun u => fEq u v1_0)), (31, (fun p19 => (fPtr tyU8 p19 u17))), (32, (fun u => fEq u (Value.int .u8 (u17.toNat : Int)))), (33, (fun u => fEq u (Value.int .u64 (IntKind.u64.wrap (u17.toNat : Int))))), (34, (fun u => fEq u (Value.int .u64 (IntKind.u64.wrap ((IntKind.u64.wrap (u17.toNat : Int)) * 2 ^ min ((32 : Int)).toNat (IntKind.bits .u64)))))), (35, (fun u => fEq u (Value.int .u64 (bits .or .u64 (bits .or .u64 (bits .or .u64 (bits .or .u64 (IntKind.u64.wrap (u5.toNat : Int)) (IntKind.u64.wrap ((IntKind.u64.wrap (u8.toNat : Int)) * 2 ^ min ((8 : Int)).toNat (IntKind.bits .u64)))) (IntKind.u64.wrap ((IntKind.u64.wrap (u11.toNat : Int)) * 2 ^ min ((16 : Int)).toNat (IntKind.bits .u64)))) (IntKind.u64.wrap ((IntKind.u64.wrap (u14.toNat : Int)) * 2 ^ min ((24 : Int)).toNat (IntKind.bits .u64)))) (IntKind.u64.wrap ((IntKind.u64.wrap (u17.toNat : Int)) * 2 ^ min ((32 : Int)).toNat (IntKind.bits .u64))))))), (36, (fun u => fEq u v1_0)), (37, (fun p22 => (fPtr tyU8 p22 u20))), (38, (fun u => fEq u (Value.int .u8 (u20.toNat : Int)))), (39, (fun u => fEq u (Value.int .u64 (IntKind.u64.wrap (u20.toNat : Int))))), (40, (fun u => fEq u (Value.int .u64 (IntKind.u64.wrap ((IntKind.u64.wrap (u20.toNat : Int)) * 2 ^ min ((40 : Int)).toNat (IntKind.bits .u64)))))), (41, (fun u => fEq u (Value.int .u64 (bits .or .u64 (bits .or .u64 (bits .or .u64 (bits .or .u64 (bits .or .u64 (IntKind.u64.wrap (u5.toNat : Int)) (IntKind.u64.wrap ((IntKind.u64.wrap (u8.toNat : Int)) * 2 ^ min ((8 : Int)).toNat (IntKind.bits .u64)))) (IntKind.u64.wrap ((IntKind.u64.wrap (u11.toNat : Int)) * 2 ^ min ((16 : Int)).toNat (IntKind.bits .u64)))) (IntKind.u64.wrap ((IntKind.u64.wrap (u14.toNat : Int)) * 2 ^ min ((24 : Int)).toNat (IntKind.bits .u64)))) (IntKind.u64.wrap ((IntKind.u64.wrap (u17.toNat : Int)) * 2 ^ min ((32 : Int)).toNat (IntKind.bits .u64)))) (IntKind.u64.wrap ((IntKind.u64.wrap (u20.toNat : Int)) * 2 ^ min ((40 : Int)).toNat (IntKind.bits .u64))))))), (42, (fun u => fEq u v1_0)), (43, (fun p25 => (fPtr tyU8 p25 u23))), (44, (fun u => fEq u (Value.int .u8 (u23.toNat : Int)))), (45, (fun u => fEq u (Value.int .u64 (IntKind.u64.wrap (u23.toNat : Int))))), (46, (fun u => fEq u (Value.int .u64 (IntKind.u64.wrap ((IntKind.u64.wrap (u23.toNat : Int)) * 2 ^ min ((48 : Int)).toNat (IntKind.bits .u64)))))), (47, (fun u => fEq u (Value.int .u64 (bits .or .u64 (bits .or .u64 (bits .or .u64 (bits .or .u64 (bits .or .u64 (bits .or .u64 (IntKind.u64.wrap (u5.toNat : Int)) (IntKind.u64.wrap ((IntKind.u64.wrap (u8.toNat : Int)) * 2 ^ min ((8 : Int)).toNat (IntKind.bits .u64)))) (IntKind.u64.wrap ((IntKind.u64.wrap (u11.toNat : Int)) * 2 ^ min ((16 : Int)).toNat (IntKind.bits .u64)))) (IntKind.u64.wrap ((IntKind.u64.wrap (u14.toNat : Int)) * 2 ^ min ((24 : Int)).toNat (IntKind.bits .u64)))) (IntKind.u64.wrap ((IntKind.u64.wrap (u17.toNat : Int)) * 2 ^ min ((32 : Int)).toNat (IntKind.bits .u64)))) (IntKind.u64.wrap ((IntKind.u64.wrap (u20.toNat : Int)) * 2 ^ min ((40 : Int)).toNat (IntKind.bits .u64)))) (IntKind.u64.wrap ((IntKind.u64.wrap (u23.toNat : Int)) * 2 ^ min ((48 : Int)).toNat (IntKind.bits .u64))))))), (48, (fun u => fEq u v1_0)), (49, (fun p28 => (fPtr tyU8 p28 u26))), (50, (fun u => fEq u (Value.int .u8 (u26.toNat : Int)))), (51, (fun u => fEq u (Value.int .u64 (IntKind.u64.wrap (u26.toNat : Int))))), (52, (fun u => fEq u (Value.int .u64 (IntKind.u64.wrap ((IntKind.u64.wrap (u26.toNat : Int)) * 2 ^ min ((56 : Int)).toNat (IntKind.bits .u64)))))), (53, (fun u => fEq u (Value.int .u64 (bits .or .u64 (bits .or .u64 (bits .or .u64 (bits .or .u64 (bits .or .u64 (bits .or .u64 (bits .or .u64 (IntKind.u64.wrap (u5.toNat : Int)) (IntKind.u64.wrap ((IntKind.u64.wrap (u8.toNat : Int)) * 2 ^ min ((8 : Int)).toNat (IntKind.bits .u64)))) (IntKind.u64.wrap ((IntKind.u64.wrap (u11.toNat : Int)) * 2 ^ min ((16 : Int)).toNat (IntKind.bits .u64)))) (IntKind.u64.wrap ((IntKind.u64.wrap (u14.toNat : Int)) * 2 ^ min ((24 : Int)).toNat (IntKind.bits .u64)))) (IntKind.u64.wrap ((IntKind.u64.wrap (u17.toNat : Int)) * 2 ^ min ((32 : Int)).toNat (IntKind.bits .u64)))) (IntKind.u64.wrap ((IntKind.u64.wrap (u20.toNat : Int)) * 2 ^ min ((40 : Int)).toNat (IntKind.bits .u64)))) (IntKind.u64.wrap ((IntKind.u64.wrap (u23.toNat : Int)) * 2 ^ min ((48 : Int)).toNat (IntKind.bits .u64)))) (IntKind.u64.wrap ((IntKind.u64.wrap (u26.toNat : Int)) * 2 ^ min ((56 : Int)).toNat (IntKind.bits .u64)))))))] (tab [(1, v1_0), (4, (Value.int .u64 (0 : Int)))]) mixed (by kernel_rfl) rfl rfl rfl (fun a hs => hs.tab _ (allT_mem ⟨rfl, rfl, trivial⟩)) ⟨⟨rfl, ld_val (ov_move rfl rfl)⟩, ⟨rfl, ld_eq (j := 0) rfl rfl (ld_of (of_idxD 1 hu6 rfl rfl rfl Tryd.underlying89 sz5 rfl))⟩, ⟨rfl, ld_fact (j := 1) rfl rfl (fun p7 => ld_val (ov_loadP (ds := [(Value.int .u8 (u5.toNat : Int))]) 0 rfl (fun h => h) rfl Tryd.underlying5 sz5 rfl rfl rfl))⟩, ⟨rfl, ld_eq (j := 2) rfl rfl (ld_val (ov_convInt (by rw [Tryd.underlying5]; rfl) Tryd.underlying87 rfl rfl))⟩, ⟨rfl, ld_val (ov_move rfl rfl)⟩, ⟨rfl, ld_eq (j := 4) rfl rfl (ld_of (of_idxD 1 hu9 rfl rfl rfl Tryd.underlying89 sz5 rfl))⟩, ⟨rfl, ld_fact (j := 5) rfl rfl (fun p10 => ld_val (ov_loadP (ds := [(Value.int .u8 (u8.toNat : Int))]) 0 rfl (fun h => h) rfl Tryd.underlying5 sz5 rfl rfl rfl))⟩, ⟨rfl, ld_eq (j := 6) rfl rfl (ld_val (ov_convInt (by rw [Tryd.underlying5]; rfl) Tryd.underlying87 rfl rfl))⟩, ⟨rfl, ld_eq (j := 7) rfl rfl (ld_val (ov_shl (by decide) rfl rfl rfl))⟩, ⟨rfl, ld_eq (j := 3) rfl rfl (ld_eq (j := 8) rfl rfl (ld_val (ov_int rfl rfl rfl rfl)))⟩, ⟨rfl, ld_val (ov_move rfl rfl)⟩, ⟨rfl, ld_eq (j := 10) rfl rfl (ld_of (of_idxD 1 hu12 rfl rfl rfl Tryd.underlying89 sz5 rfl))⟩, ⟨rfl, ld_fact (j := 11) rfl rfl (fun p13 => ld_val (ov_loadP (ds := [(Value.int .u8 (u11.toNat : Int))]) 0 rfl (fun h => h) rfl Tryd.underlying5 sz5 rfl rfl rfl))⟩, ⟨rfl, ld_eq (j := 12) rfl rfl (ld_val (ov_convInt (by rw [Tryd.underlying5]; rfl) Tryd.underlying87 rfl rfl))⟩, ⟨rfl, ld_eq (j := 13) rfl rfl (ld_val (ov_shl (by decide) rfl rfl rfl))⟩, ⟨rfl, ld_eq (j := 9) rfl rfl (ld_eq (j := 14) rfl rfl (ld_val (ov_int rfl rfl rfl rfl)))⟩, ⟨rfl, ld_val (ov_move rfl rfl)⟩, ⟨rfl, ld_eq (j := 16) rfl rfl (ld_of (of_idxD 1 hu15 rfl rfl rfl Tryd.underlying89 sz5 rfl))⟩, ⟨rfl, ld_fact (j := 17) rfl rfl (fun p16 => ld_val (ov_loadP (ds := [(Value.int .u8 (u14.toNat : Int))]) 0 rfl (fun h => h) rfl Tryd.underlying5 sz5 rfl rfl rfl))⟩, ⟨rfl, ld_eq (j := 18) rfl rfl (ld_val (ov_convInt (by rw [Tryd.underlying5]; rfl) Tryd.underlying87 rfl rfl))⟩, ⟨rfl, ld_eq (j := 19) rfl rfl (ld_val (ov_shl (by decide) rfl rfl rfl))⟩, ⟨rfl, ld_eq (j := 15) rfl rfl (ld_eq (j := 20) rfl rfl (ld_val (ov_int rfl rfl rfl rfl)))⟩, ⟨rfl, ld_val (ov_move rfl rfl)⟩, ⟨rfl, ld_eq (j := 22) rfl rfl (ld_of (of_idxD 1 hu18 rfl rfl rfl Tryd.underlying89 sz5 rfl))⟩, ⟨rfl, ld_fact (j := 23) rfl rfl (fun p19 => ld_val (ov_loadP (ds := [(Value.int .u8 (u17.toNat : Int))]) 0 rfl (fun h => h) rfl Tryd.underlying5 sz5 rfl rfl rfl))⟩, ⟨rfl, ld_eq (j := 24) rfl rfl (ld_val (ov_convInt (by rw [Tryd.underlying5]; rfl) Tryd.underlying87 rfl rfl))⟩, ⟨rfl, ld_eq (j := 25) rfl rfl (ld_val (ov_shl (by decide) rfl rfl rfl))⟩, ⟨rfl, ld_eq (j := 21) rfl rfl (ld_eq (j := 26) rfl rfl (ld_val (ov_int rfl rfl rfl rfl)))⟩, ⟨rfl, ld_val (ov_move rfl rfl)⟩, ⟨rfl, ld_eq (j := 28) rfl rfl (ld_of (of_idxD 1 hu21 rfl rfl rfl Tryd.underlying89 sz5 rfl))⟩, ⟨rfl, ld_fact (j := 29) rfl rfl (fun p22 => ld_val (ov_loadP (ds := [(Value.int .u8 (u20.toNat : Int))]) 0 rfl (fun h => h) rfl Tryd.underlying5 sz5 rfl rfl rfl))⟩, ⟨rfl, ld_eq (j := 30) rfl rfl (ld_val (ov_convInt (by rw [Tryd.underlying5]; rfl) Tryd.underlying87 rfl rfl))⟩, ⟨rfl, ld_eq (j := 31) rfl rfl (ld_val (ov_shl (by decide) rfl rfl rfl))⟩, ⟨rfl, ld_eq (j := 27) rfl rfl (ld_eq (j := 32) rfl rfl (ld_val (ov_int rfl rfl rfl rfl)))⟩, ⟨rfl, ld_val (ov_move rfl rfl)⟩, ⟨rfl, ld_eq (j := 34) rfl rfl (ld_of (of_idxD 1 hu24 rfl rfl rfl Tryd.underlying89 sz5 rfl))⟩, ⟨rfl, ld_fact (j := 35) rfl rfl (fun p25 => ld_val (ov_loadP (ds := [(Value.int .u8 (u23.toNat : Int))]) 0 rfl (fun h => h) rfl Tryd.underlying5 sz5 rfl rfl rfl))⟩, ⟨rfl, ld_eq (j := 36) rfl rfl (ld_val (ov_convInt (by rw [Tryd.underlying5]; rfl) Tryd.underlying87 rfl rfl))⟩, ⟨rfl, ld_eq (j := 37) rfl rfl (ld_val (ov_shl (by decide) rfl rfl rfl))⟩, ⟨rfl, ld_eq (j := 33) rfl rfl (ld_eq (j := 38) rfl rfl (ld_val (ov_int rfl rfl rfl rfl)))⟩, ⟨rfl, ld_val (ov_move rfl rfl)⟩, ⟨rfl, ld_eq (j := 40) rfl rfl (ld_of (of_idxD 1 hu27 rfl rfl rfl Tryd.underlying89 sz5 rfl))⟩, ⟨rfl, ld_fact (j := 41) rfl rfl (fun p28 => ld_val (ov_loadP (ds := [(Value.int .u8 (u26.toNat : Int))]) 0 rfl (fun h => h) rfl Tryd.underlying5 sz5 rfl rfl rfl))⟩, ⟨rfl, ld_eq (j := 42) rfl rfl (ld_val (ov_convInt (by rw [Tryd.underlying5]; rfl) Tryd.underlying87 rfl rfl))⟩, ⟨rfl, ld_eq (j := 43) rfl rfl (ld_val (ov_shl (by decide) rfl rfl rfl))⟩, ⟨rfl, ld_eq (j := 39) rfl rfl (ld_eq (j := 44) rfl rfl (ld_val (ov_int rfl rfl rfl rfl)))⟩, trivial⟩ ?_
  refine tl_eq 45 rfl ?_
  refine tl_done ?_
  refine al_val (ov_assign rfl rfl) ?_
  refine al_nil ?_
  refine aq_then ?_
  refine aw_ret ?_
  obtain rfl := Option.some.inj h
  exact fn_ret () [] [] rfl rfl rfl rfl (res1 rfl rfl) rfl rfl rfl (by decide)
def f_mix_Step (fu : Nat) (a0 : Int) (a1 : Int) : Option Int := (some (bits .xor .u64 (IntKind.u64.wrap ((bits .xor .u64 (IntKind.u64.wrap ((bits .xor .u64 a0 a1) * (11400714819323198485 : Int))) (((IntKind.u64.wrap ((bits .xor .u64 a0 a1) * (11400714819323198485 : Int)))).fdiv (2 ^ min ((29 : Int)).toNat (IntKind.bits .u64)))) * (13787848793156543929 : Int))) (((IntKind.u64.wrap ((bits .xor .u64 (IntKind.u64.wrap ((bits .xor .u64 a0 a1) * (11400714819323198485 : Int))) (((IntKind.u64.wrap ((bits .xor .u64 a0 a1) * (11400714819323198485 : Int)))).fdiv (2 ^ min ((29 : Int)).toNat (IntKind.bits .u64)))) * (13787848793156543929 : Int)))).fdiv (2 ^ min ((32 : Int)).toNat (IntKind.bits .u64)))))
set_option maxRecDepth 100000 in
theorem f_mix_Step_ok (fu : Nat) (a0 : Int) (a1 : Int) {r : Int} (h : f_mix_Step fu a0 a1 = some r) : FnOk Tryd.prog 153 [(Value.int .u64 a0), (Value.int .u64 a1)] [] [] (fun (i : Unit) => { val := (Value.int .u64 r) }) := by
  unfold f_mix_Step at h
  refine fn_enter Tryd.func153 rfl Tryd.ntmps153 rfl (fun w0 Z0 => ?_)
  refine aw_seq ?_
  refine aw_region ?_
  refine al_val (ov_assign rfl rfl) ?_
  refine al_nil ?_
  refine aq_then ?_
  refine aw_seq ?_
  refine aw_region ?_
  refine al_val (ov_move rfl rfl) ?_
  refine al_val (ov_move rfl rfl) ?_
  refine al_val (ov_int rfl rfl rfl rfl) ?_
  refine al_val (ov_int rfl rfl rfl rfl) ?_
  refine al_val (ov_assign rfl rfl) ?_
  refine al_nil ?_
  refine aq_then ?_
  refine aw_seq ?_
  refine aw_region ?_
  refine al_val (ov_move rfl rfl) ?_
  refine al_val (ov_move rfl rfl) ?_
  refine al_val (ov_shr (by decide) rfl rfl rfl) ?_
  refine al_val (ov_int rfl rfl rfl rfl) ?_
  refine al_val (ov_int rfl rfl rfl rfl) ?_
  refine al_val (ov_assign rfl rfl) ?_
  refine al_nil ?_
  refine aq_then ?_
  refine aw_seq ?_
  refine aw_region ?_
  refine al_val (ov_move rfl rfl) ?_
  refine al_val (ov_move rfl rfl) ?_
  refine al_val (ov_shr (by decide) rfl rfl rfl) ?_
  refine al_val (ov_int rfl rfl rfl rfl) ?_
  refine al_val (ov_assign rfl rfl) ?_
  refine al_nil ?_
  refine aq_then ?_
  refine aw_ret ?_
  obtain rfl := Option.some.inj h
  exact fn_ret () [] [] rfl rfl rfl rfl (res1 rfl rfl) rfl rfl rfl (by decide)
def f_mix_sum_L7 (a1 : Int) (kk2 : (Int → Option Int)) (fu : Nat) : Nat → (List UInt8) → Int → Option Int
  | 0, _, _ => none
  | k6 + 1, l5s0, l5i5 => (bif (!(l5s0 == ([] : List UInt8))) then (req (0 ≤ ((Nat.min l5s0.length 8 : Nat) : Int) ∧ ((Nat.min l5s0.length 8 : Nat) : Int) ≤ (l5s0.length : Int)) (opt (f__binary_littleEndian__Uint64 fu () (lA8u8 (cpA8u8 (A8u8.mk (0 : UInt8) (0 : UInt8) (0 : UInt8) (0 : UInt8) (0 : UInt8) (0 : UInt8) (0 : UInt8) (0 : UInt8)) l5s0))) fun (r13 : Int) => (opt (f_mix_Step fu l5i5 r13) fun (r15 : Int) => (f_mix_sum_L7 a1 kk2 fu k6 (l5s0.drop (((Nat.min l5s0.length 8 : Nat) : Int)).toNat) (bits .and .u64 r15 a1))))) else (kk2 l5i5))
def f_mix_sum (fu : Nat) (a0 : (List UInt8)) (a1 : Int) : Option Int := (lt (fun (j1i5 : Int) => (opt (f_mix_Step fu j1i5 (IntKind.u64.wrap (a0.length : Int))) fun (r4 : Int) => (some (bits .and .u64 r4 a1)))) fun (kk2 : Int → Option Int) => (f_mix_sum_L7 a1 kk2 fu fu a0 (0 : Int)))
set_option maxRecDepth 100000 in
theorem f_mix_sum_ok (fu : Nat) (a0 : (List UInt8)) (a1 : Int) {r : Int} (h : f_mix_sum fu a0 a1 = some r) : FnOk Tryd.prog 130 [(str a0), (Value.int .u64 a1)] [] [] (fun (i : Unit) => { val := (Value.int .u64 r) }) := by
  unfold f_mix_sum at h
  refine fn_enter Tryd.func130 rfl Tryd.ntmps130 rfl (fun w0 Z0 => ?_)
  refine aw_seq ?_
  refine aw_region ?_
  refine al_val (ov_assign rfl rfl) ?_
  refine al_nil ?_
  refine aq_then ?_
  refine aw_seq ?_
  refine aw_region ?_
  refine al_val (ov_move rfl rfl) ?_
  refine al_val (ov_strLen Tryd.underlying9 rfl rfl) ?_
  refine al_val (ov_convInt (by rw [Tryd.underlying3]; rfl) Tryd.underlying87 rfl rfl) ?_
  refine al_val (ov_assign rfl rfl) ?_
  refine al_val (ov_assign rfl rfl) ?_
  refine al_nil ?_
  refine aq_then ?_
  obtain ⟨kk2, hkk2, h⟩ := lt_some h
  refine aw_seq_join (ι := Int) (fun i => (memOf w0 Z0 [] [] [])) (fun i => (tab [(1, (Value.int .u64 a1)), (5, (Value.int .u64 i)), (6, (Value.int .u64 (IntKind.u64.wrap (a0.length : Int))))])) (fun i => kk2 i = some r) ?_ ?_
  · rintro j1i5 h
    have h : kk2 j1i5 = some r := h
    rw [hkk2] at h
    dsimp only at h
    clear hkk2
    refine aw_show (m := (memOf w0 Z0 [] [] [])) (S := (tab [(1, (Value.int .u64 a1)), (5, (Value.int .u64 j1i5)), (6, (Value.int .u64 (IntKind.u64.wrap (a0.length : Int))))])) ?_
    refine aw_seq ?_
    refine aw_region ?_
    refine al_val (ov_move rfl rfl) ?_
    refine al_val (ov_move rfl rfl) ?_
    obtain ⟨r4, hc3, h⟩ := opt_some h
    refine al_call (vs := [(Value.int .u64 j1i5), (Value.int .u64 (IntKind.u64.wrap (a0.length : Int)))]) (f_mix_Step_ok fu j1i5 (IntKind.u64.wrap (a0.length : Int)) hc3) [] [] [] pre_nil rfl (by simp) (by decide) (.inl rfl) rfl Tryd.func153 rfl rfl rfl (fun _ => ?_)
    refine al_val (ov_move rfl rfl) ?_
    refine al_val (ov_int rfl rfl rfl rfl) ?_
    refine al_val (ov_assign rfl rfl) ?_
    refine al_nil ?_
    refine aq_then ?_
    refine aw_ret ?_
    obtain rfl := Option.some.inj h
    exact fn_ret () [] [] rfl rfl rfl rfl (res1 rfl rfl) rfl rfl rfl (by decide)
  · clear hkk2
    refine aw_block ?_
    refine aw_state (aw_loop (ι := (List UInt8) × Int) (fun i => (memOf w0 Z0 [] [] [])) (fun i => (tab [(0, (str i.1)), (1, (Value.int .u64 a1)), (5, (Value.int .u64 i.2)), (6, (Value.int .u64 (IntKind.u64.wrap (a0.length : Int))))])) (fun q i => f_mix_sum_L7 a1 kk2 fu q i.1 i.2 = some r) ?_ fu (a0, (0 : Int)) h) (fun w a hm hs => norm hm hs [] [] [(0, (str a0)), (1, (Value.int .u64 a1)), (5, (Value.int .u64 (0 : Int))), (6, (Value.int .u64 (IntKind.u64.wrap (a0.length : Int))))] (by decide) ⟨rfl, rfl, rfl, rfl, trivial⟩)
    clear h
    rintro k6 ⟨l5s0, l5i5⟩ h
    have h : f_mix_sum_L7 a1 kk2 fu k6 l5s0 l5i5 = some r := h
    obtain _ | k6 := k6
    · rw [f_mix_sum_L7] at h; cases h
    rw [f_mix_sum_L7] at h
    refine aw_show (m := (memOf w0 Z0 [] [] [])) (S := (tab [(0, (str l5s0)), (1, (Value.int .u64 a1)), (5, (Value.int .u64 l5i5)), (6, (Value.int .u64 (IntKind.u64.wrap (a0.length : Int))))])) ?_
    refine aw_seq ?_
    refine aw_seq ?_
    refine aw_region ?_
    refine al_val (ov_move rfl rfl) ?_
    refine al_val (ov_strCmp rfl rfl rfl rfl) ?_
    refine al_nil ?_
    refine aq_then ?_
    refine aw_cond rfl (fun hb8 => ?_) (fun hb8 => ?_)
    · replace h := bif_t hb8 h
      refine aw_skip ?_
      refine aq_then ?_
      refine aw_block ?_
      refine aw_seq ?_
      refine aw_region ?_
      refine al_alloc (zs := (cA8u8 (A8u8.mk (0 : UInt8) (0 : UInt8) (0 : UInt8) (0 : UInt8) (0 : UInt8) (0 : UInt8) (0 : UInt8) (0 : UInt8)))) (zeroOf_to to48) rfl rfl (fun g9 => ?_)
      refine al_nil ?_
      refine aq_then ?_
      refine aw_seq ?_
      refine aw_region ?_
      refine al_val (ov_move rfl rfl) ?_
      refine al_val (ov_sliceBox (i := 0) rfl rfl Tryd.underlying48 sz5 rfl) ?_
      refine al_val (ov_move rfl rfl) ?_
      refine al_copyS (i := 0) (cs := (cA8u8 (A8u8.mk (0 : UInt8) (0 : UInt8) (0 : UInt8) (0 : UInt8) (0 : UInt8) (0 : UInt8) (0 : UInt8) (0 : UInt8)))) (cs' := (cA8u8 (cpA8u8 (A8u8.mk (0 : UInt8) (0 : UInt8) (0 : UInt8) (0 : UInt8) (0 : UInt8) (0 : UInt8) (0 : UInt8) (0 : UInt8)) l5s0))) rfl rfl rfl Tryd.underlying89 sz5 rfl (cpcA8u8 (A8u8.mk (0 : UInt8) (0 : UInt8) (0 : UInt8) (0 : UInt8) (0 : UInt8) (0 : UInt8) (0 : UInt8) (0 : UInt8)) l5s0 [] []) rfl ?_
      obtain ⟨hc10, h⟩ := req_some h
      refine al_val (ov_strFrom hc10.1 hc10.2 Tryd.underlying9 rfl rfl rfl) ?_
      refine al_val (ov_assign rfl rfl) ?_
      refine al_nil ?_
      refine aq_then ?_
      refine aw_freezeB 0 ((cpA8u8 (A8u8.mk (0 : UInt8) (0 : UInt8) (0 : UInt8) (0 : UInt8) (0 : UInt8) (0 : UInt8) (0 : UInt8) (0 : UInt8)) l5s0)) rfl rfl (fun _ _ => mkA8u8 rfl) ?_
      obtain ⟨r13, hc12, h⟩ := opt_some h
      obtain ⟨r15, hc14, h⟩ := opt_some h
      refine aw_region_draw 7 [(18, (fun u => fEq u (Value.int .u64 l5i5))), (19, (fun u => fEq u (ag []))), (20, (fun s11 => (fDat (tyList tyU8) [s11] (lA8u8 (cpA8u8 (A8u8.mk (0 : UInt8) (0 : UInt8) (0 : UInt8) (0 : UInt8) (0 : UInt8) (0 : UInt8) (0 : UInt8) (0 : UInt8)) l5s0))))), (21, (fun u => fEq u (Value.int .u64 r13))), (22, (fun u => fEq u (Value.int .u64 r15))), (23, (fun u => fEq u (Value.int .u64 a1))), (24, (fun u => fEq u (Value.int .u64 (bits .and .u64 r15 a1))))] (tab [(0, (str (l5s0.drop (((Nat.min l5s0.length 8 : Nat) : Int)).toNat))), (1, (Value.int .u64 a1)), (5, (Value.int .u64 l5i5)), (6, (Value.int .u64 (IntKind.u64.wrap (a0.length : Int)))), (7, (ptr g9 0))]) mixed (by kernel_rfl) rfl rfl rfl (fun a hs => hs.tab _ (allT_mem ⟨rfl, rfl, rfl, rfl, rfl, trivial⟩)) ⟨⟨rfl, ld_val (ov_move rfl rfl)⟩, ⟨rfl, ld_val (ov_load0 Tryd.underlying186 sz186 rfl rfl rfl)⟩, ⟨rfl, ld_of (of_sliceP 0 lrepA8u8 rfl rfl rfl rfl Tryd.underlying48 sz5 rfl)⟩, ⟨rfl, ld_eq (j := 1) rfl rfl (ld_fact (j := 2) rfl rfl (fun s11 => ld_callV (vs := [(ag []), s11]) (f__binary_littleEndian__Uint64_ok fu () s11 (lA8u8 (cpA8u8 (A8u8.mk (0 : UInt8) (0 : UInt8) (0 : UInt8) (0 : UInt8) (0 : UInt8) (0 : UInt8) (0 : UInt8) (0 : UInt8)) l5s0)) hc12) [] (pre_fz 0 rfl pre_nil) rfl Tryd.func154 rfl rfl rfl))⟩, ⟨rfl, ld_eq (j := 0) rfl rfl (ld_eq (j := 3) rfl rfl (ld_callV (vs := [(Value.int .u64 l5i5), (Value.int .u64 r13)]) (f_mix_Step_ok fu l5i5 r13 hc14) [] pre_nil rfl Tryd.func153 rfl rfl rfl))⟩, ⟨rfl, ld_val (ov_move rfl rfl)⟩, ⟨rfl, ld_eq (j := 4) rfl rfl (ld_eq (j := 5) rfl rfl (ld_val (ov_int rfl rfl rfl rfl)))⟩, trivial⟩ ?_
      refine tl_eq 6 rfl ?_
      refine tl_done ?_
      refine al_val (ov_assign rfl rfl) ?_
      refine al_nil ?_
      refine aq_block ?_
      exact aq_again k6 ((l5s0.drop (((Nat.min l5s0.length 8 : Nat) : Int)).toNat), (bits .and .u64 r15 a1)) (Nat.lt_succ_self _) h (fun w a hm hs => norm hm hs [] [] [(0, (str (l5s0.drop (((Nat.min l5s0.length 8 : Nat) : Int)).toNat))), (1, (Value.int .u64 a1)), (5, (Value.int .u64 (bits .and .u64 r15 a1))), (6, (Value.int .u64 (IntKind.u64.wrap (a0.length : Int))))] (by decide) ⟨rfl, rfl, rfl, rfl, trivial⟩)
    · replace h := bif_f hb8 h
      refine aw_exit ?_
      refine aq_then_exit ?_
      refine aq_then_exit ?_
      refine aq_block_exit ?_
      exact aq_join l5i5 h (fun w a hm hs => norm hm hs [] [] [(1, (Value.int .u64 a1)), (5, (Value.int .u64 l5i5)), (6, (Value.int .u64 (IntKind.u64.wrap (a0.length : Int))))] (by decide) ⟨rfl, rfl, rfl, trivial⟩)
def f_mix_Sum (fu : Nat) (a0 : (List UInt8)) : Option Int := (opt (f_mix_sum fu a0 (18446744073709551615 : Int)) fun (r2 : Int) => (some r2))
set_option maxRecDepth 100000 in
theorem f_mix_Sum_ok (fu : Nat) (a0 : (List UInt8)) {r : Int} (h : f_mix_Sum fu a0 = some r) : FnOk Tryd.prog 97 [(str a0)] [] [] (fun (i : Unit) => { val := (Value.int .u64 r) }) := by
  unfold f_mix_Sum at h
  refine fn_enter Tryd.func97 rfl Tryd.ntmps97 rfl (fun w0 Z0 => ?_)
  refine aw_seq ?_
  refine aw_region ?_
  refine al_val (ov_assign rfl rfl) ?_
  refine al_nil ?_
  refine aq_then ?_
  refine aw_seq ?_
  refine aw_region ?_
  refine al_val (ov_move rfl rfl) ?_
  obtain ⟨r2, hc1, h⟩ := opt_some h
  refine al_call (vs := [(str a0), (Value.int .u64 (18446744073709551615 : Int))]) (f_mix_sum_ok fu a0 (18446744073709551615 : Int) hc1) [] [] [] pre_nil rfl (by simp) (by decide) (.inl rfl) rfl Tryd.func130 rfl rfl rfl (fun _ => ?_)
  refine al_val (ov_assign rfl rfl) ?_
  refine al_nil ?_
  refine aq_then ?_
  refine aw_ret ?_
  obtain rfl := Option.some.inj h
  exact fn_ret () [] [] rfl rfl rfl rfl (res1 rfl rfl) rfl rfl rfl (by decide)
-- STUCK (encoding/binary.bigEndian).PutUint64: binary.go:210: store: store to ('o', 'p7')
def f_mix_ID (fu : Nat) (a0 : (List UInt8)) : Option A8u8 := (opt (f_mix_Sum fu a0) fun (r4 : Int) => (req (0 ≤ r4 ∧ r4 < 18446744073709551616) (some (cpA8u8 (A8u8.mk (0 : UInt8) (0 : UInt8) (0 : UInt8) (0 : UInt8) (0 : UInt8) (0 : UInt8) (0 : UInt8) (0 : UInt8)) (Lib.beBytes 8 (r4).toNat)))))
set_option maxRecDepth 100000 in
theorem f_mix_ID_ok (fu : Nat) (a0 : (List UInt8)) {r : A8u8} (h : f_mix_ID fu a0 = some r) : FnOk Tryd.prog 55 [(str a0)] [] [] (fun (i : Unit) => { val := (ag (cA8u8 r)) }) := by
  unfold f_mix_ID at h
  refine fn_enter Tryd.func55 rfl Tryd.ntmps55 rfl (fun w0 Z0 => ?_)
  refine aw_seq ?_
  refine aw_region ?_
  refine al_alloc (zs := (cA8u8 (A8u8.mk (0 : UInt8) (0 : UInt8) (0 : UInt8) (0 : UInt8) (0 : UInt8) (0 : UInt8) (0 : UInt8) (0 : UInt8)))) (zeroOf_to to49) rfl rfl (fun g1 => ?_)
  refine al_nil ?_
  refine aq_then ?_
  refine aw_seq ?_
  refine aw_region ?_
  refine al_alloc (zs := (cA8u8 (A8u8.mk (0 : UInt8) (0 : UInt8) (0 : UInt8) (0 : UInt8) (0 : UInt8) (0 : UInt8) (0 : UInt8) (0 : UInt8)))) (zeroOf_to to49) rfl rfl (fun g2 => ?_)
  refine al_nil ?_
  refine aq_then ?_
  refine aw_seq ?_
  obtain ⟨r4, hc3, h⟩ := opt_some h
  refine aw_region_draw 4 [(4, (fun u => fEq u (ag []))), (5, (fun u => fEq u (sbx g2 0 8))), (6, (fun u => fEq u (str a0))), (7, (fun u => fEq u (Value.int .u64 r4)))] (tab [(0, (str a0)), (2, (ptr g1 0)), (3, (ptr g2 0))]) mixed (by kernel_rfl) rfl rfl rfl (fun a hs => hs.tab _ (allT_mem ⟨rfl, rfl, rfl, trivial⟩)) ⟨⟨rfl, ld_val (ov_load0 Tryd.underlying128 sz128 rfl rfl rfl)⟩, ⟨rfl, ld_val (ov_sliceBox (i := 0) rfl rfl Tryd.underlying49 sz5 rfl)⟩, ⟨rfl, ld_val (ov_move rfl rfl)⟩, ⟨rfl, ld_eq (j := 2) rfl rfl (ld_callV (vs := [(str a0)]) (f_mix_Sum_ok fu a0 hc3) [] pre_nil rfl Tryd.func97 rfl rfl rfl)⟩, trivial⟩ ?_
  refine tl_eq 0 rfl ?_
  refine tl_eq 1 rfl ?_
  refine tl_eq 3 rfl ?_
  refine tl_done ?_
  obtain ⟨hc5, h⟩ := req_some h
  refine al_call (vs := [(ag []), (sbx g2 0 8), (Value.int .u64 r4)]) (f_put8_ok (g := g2) (off := 0) (t := 49) (a2 := r4) (cs := (cA8u8 (A8u8.mk (0 : UInt8) (0 : UInt8) (0 : UInt8) (0 : UInt8) (0 : UInt8) (0 : UInt8) (0 : UInt8) (0 : UInt8)))) (cs' := (cA8u8 (cpA8u8 (A8u8.mk (0 : UInt8) (0 : UInt8) (0 : UInt8) (0 : UInt8) (0 : UInt8) (0 : UInt8) (0 : UInt8) (0 : UInt8)) (Lib.beBytes 8 (r4).toNat)))) hc5 (Nat.le_of_ble_eq_true rfl) (cpcA8u8 (A8u8.mk (0 : UInt8) (0 : UInt8) (0 : UInt8) (0 : UInt8) (0 : UInt8) (0 : UInt8) (0 : UInt8) (0 : UInt8)) (Lib.beBytes 8 (r4).toNat) [] [])) [] [0] [1] pre_nil rfl (by simp) (by decide) (.inl rfl) rfl Tryd.func96 rfl rfl rfl (fun _ => ?_)
  refine al_nil ?_
  refine aq_then ?_
  refine aw_seq ?_
  refine aw_region ?_
  refine al_val (ov_load (i := 0) (v := (ag (cA8u8 (cpA8u8 (A8u8.mk (0 : UInt8) (0 : UInt8) (0 : UInt8) (0 : UInt8) (0 : UInt8) (0 : UInt8) (0 : UInt8) (0 : UInt8)) (Lib.beBytes 8 (r4).toNat))))) rfl rfl Tryd.underlying49 sz49 rfl rfl rfl rfl) ?_
  refine al_store (i := 1) (vs := (cA8u8 (cpA8u8 (A8u8.mk (0 : UInt8) (0 : UInt8) (0 : UInt8) (0 : UInt8) (0 : UInt8) (0 : UInt8) (0 : UInt8) (0 : UInt8)) (Lib.beBytes 8 (r4).toNat)))) (cs' := (cA8u8 (cpA8u8 (A8u8.mk (0 : UInt8) (0 : UInt8) (0 : UInt8) (0 : UInt8) (0 : UInt8) (0 : UInt8) (0 : UInt8) (0 : UInt8)) (Lib.beBytes 8 (r4).toNat)))) rfl rfl rfl sz49 (cv_rfl rfl) rfl (co_all (oneA8u8 (cpA8u8 (A8u8.mk (0 : UInt8) (0 : UInt8) (0 : UInt8) (0 : UInt8) (0 : UInt8) (0 : UInt8) (0 : UInt8) (0 : UInt8)) (Lib.beBytes 8 (r4).toNat)))) (Nat.le_of_ble_eq_true rfl) rfl rfl ?_
  refine al_nil ?_
  refine aq_then ?_
  refine aw_ret ?_
  obtain rfl := Option.some.inj h
  exact fn_ret () [] [] rfl rfl rfl rfl (resC rfl (resB (i := 1) rfl rfl Tryd.underlying49 sz49 rfl rfl rfl (resN)) rfl) rfl rfl rfl (by decide)
def f_journal_Frame (fu : Nat) (a0 : (List UInt8)) : Option ((List UInt8) × Int) := (bif (decide ((a0.length : Int) > (4096 : Int))) then (some (([] : List UInt8), (2 : Int))) else (opt (f_num_Put fu (IntKind.u64.wrap (a0.length : Int))) fun (r3 : (List UInt8)) => (req (r3.length + a0.length ≤ 9223372036854775807) (opt (f_mix_ID fu (r3 ++ a0)) fun (r6 : A8u8) => (req ((r3 ++ a0).length + (lA8u8 r6).length ≤ 9223372036854775807) (some (((r3 ++ a0) ++ (lA8u8 r6)), (0 : Int))))))))
set_option maxRecDepth 100000 in
theorem f_journal_Frame_ok (fu : Nat) (a0 : (List UInt8)) {r : ((List UInt8) × Int)} (h : f_journal_Frame fu a0 = some r) : FnOk Tryd.prog 10 [(str a0)] [] [] (fun (i : Unit) => { val := (Value.tuple #[(str r.1), (Value.int .i64 r.2)]) }) := by
  unfold f_journal_Frame at h
  refine fn_enter Tryd.func10 rfl Tryd.ntmps10 rfl (fun w0 Z0 => ?_)
  refine aw_seq ?_
  refine aw_region ?_
  refine al_val (ov_assign rfl rfl) ?_
  refine al_val (ov_assign rfl rfl) ?_
  refine al_nil ?_
  refine aq_then ?_
  refine aw_seq ?_
  refine aw_seq ?_
  refine aw_region ?_
  refine al_val (ov_move rfl rfl) ?_
  refine al_val (ov_strLen Tryd.underlying9 rfl rfl) ?_
  refine al_val (ov_int rfl rfl rfl rfl) ?_
  refine al_nil ?_
  refine aq_then ?_
  refine aw_cond rfl (fun hb1 => ?_) (fun hb1 => ?_)
  · replace h := bif_t hb1 h
    refine aw_seq ?_
    refine aw_region ?_
    refine al_val (ov_assign rfl rfl) ?_
    refine al_val (ov_assign rfl rfl) ?_
    refine al_nil ?_
    refine aq_then ?_
    refine aw_ret ?_
    refine aq_then_ret ?_
    obtain rfl := Option.some.inj h
    exact fn_ret () [] [] rfl rfl rfl rfl (res2 rfl rfl rfl) rfl rfl rfl (by decide)
  · replace h := bif_f hb1 h
    refine aw_skip ?_
    refine aq_then ?_
    refine aw_seq ?_
    refine aw_region ?_
    refine al_val (ov_move rfl rfl) ?_
    refine al_val (ov_strLen Tryd.underlying9 rfl rfl) ?_
    refine al_val (ov_convInt (by rw [Tryd.underlying3]; rfl) Tryd.underlying87 rfl rfl) ?_
    obtain ⟨r3, hc2, h⟩ := opt_some h
    refine al_call (vs := [(Value.int .u64 (IntKind.u64.wrap (a0.length : Int)))]) (f_num_Put_ok fu (IntKind.u64.wrap (a0.length : Int)) hc2) [] [] [] pre_nil rfl (by simp) (by decide) (.inl rfl) rfl Tryd.func54 rfl rfl rfl (fun _ => ?_)
    refine al_val (ov_move rfl rfl) ?_
    obtain ⟨hc4, h⟩ := req_some h
    refine al_val (ov_strAdd hc4 rfl rfl rfl) ?_
    refine al_val (ov_assign rfl rfl) ?_
    refine al_nil ?_
    refine aq_then ?_
    refine aw_seq ?_
    refine aw_region ?_
    refine al_val (ov_move rfl rfl) ?_
    obtain ⟨r6, hc5, h⟩ := opt_some h
    refine al_call (vs := [(str (r3 ++ a0))]) (f_mix_ID_ok fu (r3 ++ a0) hc5) [] [] [] pre_nil rfl (by simp) (by decide) (.inl rfl) rfl Tryd.func55 rfl rfl rfl (fun _ => ?_)
    refine al_alloc (zs := (cA8u8 (A8u8.mk (0 : UInt8) (0 : UInt8) (0 : UInt8) (0 : UInt8) (0 : UInt8) (0 : UInt8) (0 : UInt8) (0 : UInt8)))) (zeroOf_to to49) rfl rfl (fun g7 => ?_)
    refine al_store (i := 0) (vs := (cA8u8 r6)) (cs' := (cA8u8 r6)) rfl rfl rfl sz49 (cv_rfl rfl) rfl (co_all (oneA8u8 r6)) (Nat.le_of_ble_eq_true rfl) rfl rfl ?_
    refine al_nil ?_
    refine aq_then ?_
    refine aw_seq ?_
    refine aw_freezeB 0 (r6) rfl rfl (fun _ _ => mkA8u8 rfl) ?_
    refine aw_region ?_
    refine al_val (ov_move rfl rfl) ?_
    refine al_of (of_sliceP 0 lrepA8u8 rfl rfl rfl rfl Tryd.underlying49 sz5 rfl) (fun s8 => ?_)
    refine al_val (ov_toStr 0 rfl rfl Tryd.underlying89 Tryd.underlying5 Tryd.underlying9 rfl) ?_
    obtain ⟨hc9, h⟩ := req_some h
    refine al_val (ov_strAdd hc9 rfl rfl rfl) ?_
    refine al_val (ov_assign rfl rfl) ?_
    refine al_val (ov_assign rfl rfl) ?_
    refine al_nil ?_
    refine aq_then ?_
    refine aw_ret ?_
    obtain rfl := Option.some.inj h
    exact fn_ret () [] [] rfl rfl rfl rfl (res2 rfl rfl rfl) rfl rfl rfl (by decide)
def f_room_Write_L21 (a0 : S_api_Head) (kk16 : ((List UInt8) → Option ((List UInt8) × Int))) (fu : Nat) : Nat → (List UInt8) → Int → Option ((List UInt8) × Int)
  | 0, _, _ => none
  | k20 + 1, l19s6, l19i51 => (bif (decide (l19i51 < (a0.Snaps.length : Int))) then (opt (at? a0.Snaps l19i51) fun (u23 : S_api_Snap) => (opt (f_num_PutText fu u23.Name) fun (r28 : ((List UInt8) × Int)) => (opt (f_room_Write_1 fu u23.Time) fun (r31 : (List UInt8)) => (req (r28.1.length + r31.length ≤ 9223372036854775807) (req ((r28.1 ++ r31).length + (lA8u8 u23.Root).length ≤ 9223372036854775807) (req (l19s6.length + ((r28.1 ++ r31) ++ (lA8u8 u23.Root)).length ≤ 9223372036854775807) (f_room_Write_L21 a0 kk16 fu k20 (l19s6 ++ ((r28.1 ++ r31) ++ (lA8u8 u23.Root))) (IntKind.i64.wrap (l19i51 + (1 : Int)))))))))) else (kk16 l19s6))
def f_room_Write_L39 (a0 : S_api_Head) (kk11 : ((List UInt8) → Option ((List UInt8) × Int))) (fu : Nat) : Nat → (List UInt8) → Int → Option ((List UInt8) × Int)
  | 0, _, _ => none
  | k38 + 1, l37s6, l37i31 => (bif (decide (l37i31 < (a0.Packs.length : Int))) then (opt (at? a0.Packs l37i31) fun (u41 : Int) => (opt (f_room_Write_1 fu u41) fun (r45 : (List UInt8)) => (req (l37s6.length + r45.length ≤ 9223372036854775807) (f_room_Write_L39 a0 kk11 fu k38 (l37s6 ++ r45) (IntKind.i64.wrap (l37i31 + (1 : Int))))))) else (kk11 l37s6))
def f_room_Write (fu : Nat) (a0 : S_api_Head) : Option ((List UInt8) × Int) := (opt (f_room_check fu a0) fun (r3 : Int) => (bif (r3 != (0 : Int)) then (some (([] : List UInt8), r3)) else (opt (f_room_Write_1 fu a0.Next) fun (r6 : (List UInt8)) => (opt (f_room_Write_1 fu (a0.Packs.length : Int)) fun (r8 : (List UInt8)) => (req (r6.length + r8.length ≤ 9223372036854775807) (lt (fun (j10s6 : (List UInt8)) => (opt (f_room_Write_1 fu (a0.Snaps.length : Int)) fun (r13 : (List UInt8)) => (req (j10s6.length + r13.length ≤ 9223372036854775807) (lt (fun (j15s6 : (List UInt8)) => (opt (f_journal_Frame fu j15s6) fun (r18 : ((List UInt8) × Int)) => (some (r18.1, r18.2)))) fun (kk16 : (List UInt8) → Option ((List UInt8) × Int)) => (f_room_Write_L21 a0 kk16 fu fu (j10s6 ++ r13) (0 : Int)))))) fun (kk11 : (List UInt8) → Option ((List UInt8) × Int)) => (f_room_Write_L39 a0 kk11 fu fu (r6 ++ r8) (0 : Int))))))))
set_option maxRecDepth 100000 in
theorem f_room_Write_ok (fu : Nat) (v0_1 : Value) (v0_2 : Value) (a0 : S_api_Head) {r : ((List UInt8) × Int)} (h : f_room_Write fu a0 = some r) : FnOk Tryd.prog 33 [(ag [(Value.int .i64 a0.Next), v0_1, v0_2])] [(fDat (tyList (tyInt .i64)) [v0_1] a0.Packs), (fDat (tyList tyS_api_Snap) [v0_2] a0.Snaps), uMax, uTabs] [] (fun (i : Unit) => { val := (Value.tuple #[(str r.1), (Value.int .i64 r.2)]) }) := by
  unfold f_room_Write at h
  refine fn_enter Tryd.func33 rfl Tryd.ntmps33 rfl (fun w0 Z0 => ?_)
  refine aw_seq ?_
  refine aw_region ?_
  refine al_box (vs := [(Value.int .i64 a0.Next), v0_1, v0_2]) rfl (cv_rfl rfl) rfl (fun g1 => ?_)
  refine al_val (ov_assign rfl rfl) ?_
  refine al_val (ov_assign rfl rfl) ?_
  refine al_nil ?_
  refine aq_then ?_
  refine aw_seq ?_
  refine aw_seq ?_
  refine aw_region ?_
  refine al_val (ov_load (i := 0) (v := (ag [(Value.int .i64 a0.Next), v0_1, v0_2])) rfl rfl Tryd.underlying62 sz62 rfl rfl rfl rfl) ?_
  obtain ⟨r3, hc2, h⟩ := opt_some h
  refine al_call (vs := [(ag [(Value.int .i64 a0.Next), v0_1, v0_2])]) (f_room_check_ok fu v0_1 v0_2 a0 hc2) [] [] [0] (pre_fz 0 rfl (pre_fz 1 rfl (pre_fz 3 rfl pre_nil))) rfl (by simp) (by decide) (.inl rfl) rfl Tryd.func76 rfl rfl rfl (fun _ => ?_)
  refine al_val (ov_assign rfl rfl) ?_
  refine al_nil ?_
  refine aq_then ?_
  refine aw_seq ?_
  refine aw_region ?_
  refine al_val (ov_move rfl rfl) ?_
  refine al_val (ov_int rfl rfl rfl rfl) ?_
  refine al_nil ?_
  refine aq_then ?_
  refine aw_cond rfl (fun hb4 => ?_) (fun hb4 => ?_)
  · replace h := bif_t hb4 h
    refine aw_seq ?_
    refine aw_region ?_
    refine al_val (ov_move rfl rfl) ?_
    refine al_val (ov_assign rfl rfl) ?_
    refine al_val (ov_assign rfl rfl) ?_
    refine al_nil ?_
    refine aq_then ?_
    refine aw_ret ?_
    refine aq_then_ret ?_
    obtain rfl := Option.some.inj h
    exact fn_ret () [] [] rfl rfl rfl rfl (res2 rfl rfl rfl) rfl rfl rfl (by decide)
  · replace h := bif_f hb4 h
    refine aw_skip ?_
    refine aq_then ?_
    refine aw_seq ?_
    refine aw_region ?_
    refine al_val (ov_assign rfl rfl) ?_
    refine al_nil ?_
    refine aq_then ?_
    refine aw_seq ?_
    obtain ⟨r6, hc5, h⟩ := opt_some h
    obtain ⟨r8, hc7, h⟩ := opt_some h
    obtain ⟨hc9, h⟩ := req_some h
    refine aw_region_draw 10 [(18, (fun u => fEq u (Value.func (.func 77) #[] #[]))), (19, (fun u => fEq u (ptr g1 0))), (20, (fun u => fEq u (Value.int .i64 a0.Next))), (21, (fun u => fEq u (str r6))), (22, (fun u => fEq u (Value.func (.func 77) #[] #[]))), (23, (fun u => fEq u (ptr g1 1))), (24, (fun u => fEq u v0_1)), (25, (fun u => fEq u (Value.int .i64 (a0.Packs.length : Int)))), (26, (fun u => fEq u (str r8))), (27, (fun u => fEq u (str (r6 ++ r8))))] (tab [(1, (ptr g1 0)), (5, (Value.func (.func 77) #[] #[]))]) mixed (by kernel_rfl) rfl rfl rfl (fun a hs => hs.tab _ (allT_mem ⟨rfl, rfl, trivial⟩)) ⟨⟨rfl, ld_val (ov_move rfl rfl)⟩, ⟨rfl, ld_val (ov_fieldA (p := 0) rfl Tryd.underlying62 rfl sz3 rfl rfl rfl)⟩, ⟨rfl, ld_eq (j := 1) rfl rfl (ld_val (ov_load (i := 0) (v := (Value.int .i64 a0.Next)) rfl rfl Tryd.underlying3 sz3 rfl rfl rfl rfl))⟩, ⟨rfl, ld_eq (j := 0) rfl rfl (ld_eq (j := 2) rfl rfl (ld_callF (vs := [(Value.int .i64 a0.Next)]) (caps := []) (f_room_Write_1_ok fu a0.Next hc5) rfl [] pre_nil rfl rfl Tryd.func77 rfl rfl rfl))⟩, ⟨rfl, ld_val (ov_move rfl rfl)⟩, ⟨rfl, ld_val (ov_fieldA (p := 1) rfl Tryd.underlying62 rfl sz59 rfl rfl rfl)⟩, ⟨rfl, ld_eq (j := 5) rfl rfl (ld_val (ov_load (i := 0) (v := v0_1) rfl rfl Tryd.underlying59 sz59 rfl rfl rfl rfl))⟩, ⟨rfl, ld_eq (j := 6) rfl rfl (ld_val (ov_lenD 0 rfl rfl Tryd.underlying59 rfl))⟩, ⟨rfl, ld_eq (j := 4) rfl rfl (ld_eq (j := 7) rfl rfl (ld_callF (vs := [(Value.int .i64 (a0.Packs.length : Int))]) (caps := []) (f_room_Write_1_ok fu (a0.Packs.length : Int) hc7) rfl [] pre_nil rfl rfl Tryd.func77 rfl rfl rfl))⟩, ⟨rfl, ld_eq (j := 3) rfl rfl (ld_eq (j := 8) rfl rfl (ld_val (ov_strAdd hc9 rfl rfl rfl)))⟩, trivial⟩ ?_
    refine tl_eq 9 rfl ?_
    refine tl_done ?_
    refine al_val (ov_assign rfl rfl) ?_
    refine al_nil ?_
    refine aq_then ?_
    obtain ⟨kk11, hkk11, h⟩ := lt_some h
    refine aw_seq_join (ι := (List UInt8)) (fun i => (memOf w0 Z0 [] [(oBox g1 62 [(Value.int .i64 a0.Next), v0_1, v0_2])] [(fDat (tyList (tyInt .i64)) [v0_1] a0.Packs), (fDat (tyList tyS_api_Snap) [v0_2] a0.Snaps), uMax, uTabs])) (fun i => (tab [(1, (ptr g1 0)), (5, (Value.func (.func 77) #[] #[])), (6, (str i))])) (fun i => kk11 i = some r) ?_ ?_
    · rintro j10s6 h
      have h : kk11 j10s6 = some r := h
      rw [hkk11] at h
      dsimp only at h
      clear hkk11
      refine aw_show (m := (memOf w0 Z0 [] [(oBox g1 62 [(Value.int .i64 a0.Next), v0_1, v0_2])] [(fDat (tyList (tyInt .i64)) [v0_1] a0.Packs), (fDat (tyList tyS_api_Snap) [v0_2] a0.Snaps), uMax, uTabs])) (S := (tab [(1, (ptr g1 0)), (5, (Value.func (.func 77) #[] #[])), (6, (str j10s6))])) ?_
      refine aw_seq ?_
      refine aw_region ?_
      refine al_val (ov_move rfl rfl) ?_
      refine al_val (ov_move rfl rfl) ?_
      refine al_val (ov_fieldA (p := 2) rfl Tryd.underlying62 rfl sz60 rfl rfl rfl) ?_
      refine al_val (ov_load (i := 0) (v := v0_2) rfl rfl Tryd.underlying60 sz60 rfl rfl rfl rfl) ?_
      refine al_val (ov_lenD 1 rfl rfl Tryd.underlying60 rfl) ?_
      obtain ⟨r13, hc12, h⟩ := opt_some h
      refine al_callF (vs := [(Value.int .i64 (a0.Snaps.length : Int))]) (caps := []) (f_room_Write_1_ok fu (a0.Snaps.length : Int) hc12) rfl [] [] [0] pre_nil rfl (by simp) (by decide) (.inl rfl) rfl rfl Tryd.func77 rfl rfl rfl (fun _ => ?_)
      obtain ⟨hc14, h⟩ := req_some h
      refine al_val (ov_strAdd hc14 rfl rfl rfl) ?_
      refine al_val (ov_assign rfl rfl) ?_
      refine al_nil ?_
      refine aq_then ?_
      obtain ⟨kk16, hkk16, h⟩ := lt_some h
      refine aw_seq_join (ι := (List UInt8)) (fun i => (memOf w0 Z0 [] [] [(fDat (tyList (tyInt .i64)) [v0_1] a0.Packs), (fDat (tyList tyS_api_Snap) [v0_2] a0.Snaps), uMax, uTabs])) (fun i => (tab [(6, (str i))])) (fun i => kk16 i = some r) ?_ ?_
      · rintro j15s6 h
        have h : kk16 j15s6 = some r := h
        rw [hkk16] at h
        dsimp only at h
        clear hkk16
        refine aw_show (m := (memOf w0 Z0 [] [] [(fDat (tyList (tyInt .i64)) [v0_1] a0.Packs), (fDat (tyList tyS_api_Snap) [v0_2] a0.Snaps), uMax, uTabs])) (S := (tab [(6, (str j15s6))])) ?_
        refine aw_seq ?_
        refine aw_region ?_
        refine al_val (ov_move rfl rfl) ?_
        obtain ⟨r18, hc17, h⟩ := opt_some h
        refine al_call (vs := [(str j15s6)]) (f_journal_Frame_ok fu j15s6 hc17) [] [] [] pre_nil rfl (by simp) (by decide) (.inl rfl) rfl Tryd.func10 rfl rfl rfl (fun _ => ?_)
        refine al_val (ov_extract rfl rfl rfl) ?_
        refine al_val (ov_extract rfl rfl rfl) ?_
        refine al_val (ov_assign rfl rfl) ?_
        refine al_val (ov_assign rfl rfl) ?_
        refine al_nil ?_
        refine aq_then ?_
        refine aw_ret ?_
        obtain rfl := Option.some.inj h
        exact fn_ret () [] [] rfl rfl rfl rfl (res2 rfl rfl rfl) rfl rfl rfl (by decide)
      · clear hkk16
        refine aw_seq ?_
        refine aw_region ?_
        refine al_val (ov_fieldA (p := 2) rfl Tryd.underlying62 rfl sz60 rfl rfl rfl) ?_
        refine al_val (ov_load (i := 0) (v := v0_2) rfl rfl Tryd.underlying60 sz60 rfl rfl rfl rfl) ?_
        refine al_val (ov_lenD 1 rfl rfl Tryd.underlying60 rfl) ?_
        refine al_val (ov_move rfl rfl) ?_
        refine al_nil ?_
        refine aq_then ?_
        refine aw_block ?_
        refine aw_state (aw_loop (ι := (List UInt8) × Int) (fun i => (memOf w0 Z0 [] [] [(fDat (tyList tyS_api_Snap) [v0_2] a0.Snaps), (fDat (tyList (tyInt .i64)) [v0_1] a0.Packs), uMax, uTabs])) (fun i => (tab [(5, (Value.func (.func 77) #[] #[])), (6, (str i.1)), (49, v0_2), (50, (Value.int .i64 (a0.Snaps.length : Int))), (51, (Value.int .i64 i.2))])) (fun q i => f_room_Write_L21 a0 kk16 fu q i.1 i.2 = some r) ?_ fu ((j10s6 ++ r13), (0 : Int)) h) (fun w a hm hs => norm hm hs [] [1, 0, 2, 3] [(5, (Value.func (.func 77) #[] #[])), (6, (str (j10s6 ++ r13))), (49, v0_2), (50, (Value.int .i64 (a0.Snaps.length : Int))), (51, (Value.int .i64 (0 : Int)))] (by decide) ⟨rfl, rfl, rfl, rfl, rfl, trivial⟩)
        clear h
        rintro k20 ⟨l19s6, l19i51⟩ h
        have h : f_room_Write_L21 a0 kk16 fu k20 l19s6 l19i51 = some r := h
        obtain _ | k20 := k20
        · rw [f_room_Write_L21] at h; cases h
        rw [f_room_Write_L21] at h
        refine aw_show (m := (memOf w0 Z0 [] [] [(fDat (tyList tyS_api_Snap) [v0_2] a0.Snaps), (fDat (tyList (tyInt .i64)) [v0_1] a0.Packs), uMax, uTabs])) (S := (tab [(5, (Value.func (.func 77) #[] #[])), (6, (str l19s6)), (49, v0_2), (50, (Value.int .i64 (a0.Snaps.length : Int))), (51, (Value.int .i64 l19i51))])) ?_
        refine aw_seq ?_
        refine aw_region ?_
        refine al_val (ov_int rfl rfl rfl rfl) ?_
        refine al_nil ?_
        refine aq_then ?_
        refine aw_seq ?_
        refine aw_cond rfl (fun hb22 => ?_) (fun hb22 => ?_)
        · replace h := bif_t hb22 h
          refine aw_skip ?_
          refine aq_then ?_
          refine aw_seq ?_
          refine aw_block ?_
          refine aw_seq ?_
          refine aw_region ?_
          obtain ⟨u23, hu24, h⟩ := opt_some h
          refine al_idxD 0 hu24 rfl rfl rfl Tryd.underlying60 sz104 rfl (fun p25 => ?_)
          refine al_val (ov_loadP (ds := ([(str u23.Name), (Value.int .i64 u23.Time)] ++ (cA8u8 u23.Root))) 0 rfl encS_api_Snap rfl Tryd.underlying104 sz104 rfl rfl rfl) ?_
          refine al_alloc (zs := ([(str ([] : List UInt8)), (Value.int .i64 (0 : Int))] ++ (cA8u8 (A8u8.mk (0 : UInt8) (0 : UInt8) (0 : UInt8) (0 : UInt8) (0 : UInt8) (0 : UInt8) (0 : UInt8) (0 : UInt8))))) (zeroOf_to to104) rfl rfl (fun g26 => ?_)
          refine al_store (i := 0) (vs := ([(str u23.Name), (Value.int .i64 u23.Time)] ++ (cA8u8 u23.Root))) (cs' := ([(str u23.Name), (Value.int .i64 u23.Time)] ++ (cA8u8 u23.Root))) rfl rfl rfl sz104 (cv_rfl rfl) rfl (co_val rfl (co_val rfl (co_all (oneA8u8 u23.Root)))) (Nat.le_of_ble_eq_true rfl) rfl rfl ?_
          refine al_nil ?_
          refine aq_then ?_
          refine aw_seq ?_
          refine aw_region ?_
          refine al_val (ov_fieldA (p := 0) rfl Tryd.underlying104 rfl sz9 rfl rfl rfl) ?_
          refine al_val (ov_load (i := 0) (v := (str u23.Name)) rfl rfl Tryd.underlying9 sz9 rfl rfl rfl rfl) ?_
          obtain ⟨r28, hc27, h⟩ := opt_some h
          refine al_call (vs := [(str u23.Name)]) (f_num_PutText_ok fu u23.Name hc27) [] [] [0] (pre_fz 3 rfl pre_nil) rfl (by simp) (by decide) (.inl rfl) rfl Tryd.func62 rfl rfl rfl (fun _ => ?_)
          refine al_val (ov_move rfl rfl) ?_
          refine al_val (ov_extract rfl rfl rfl) ?_
          refine al_val (ov_extract rfl rfl rfl) ?_
          refine al_val (ov_assign rfl rfl) ?_
          refine al_val (ov_assign rfl rfl) ?_
          refine al_nil ?_
          refine aq_then ?_
          refine aw_freezeB 0 (u23) rfl rfl (fun _ _ => mkS_api_Snap rfl) ?_
          obtain ⟨r31, hc30, h⟩ := opt_some h
          obtain ⟨hc32, h⟩ := req_some h
          obtain ⟨hc35, h⟩ := req_some h
          obtain ⟨hc36, h⟩ := req_some h
          refine aw_region_draw 12 [(61, (fun u => fEq u (str l19s6))), (62, (fun u => fEq u (str r28.1))), (63, (fun u => fEq u (Value.func (.func 77) #[] #[]))), (64, (fun p29 => (fPtr (tyInt .i64) p29 u23.Time))), (65, (fun u => fEq u (Value.int .i64 u23.Time))), (66, (fun u => fEq u (str r31))), (67, (fun u => fEq u (str (r28.1 ++ r31)))), (68, (fun p33 => (fPtr tyA8u8 p33 u23.Root))), (69, (fun s34 => (fDat (tyList tyU8) [s34] (lA8u8 u23.Root)))), (70, (fun u => fEq u (str (lA8u8 u23.Root)))), (71, (fun u => fEq u (str ((r28.1 ++ r31) ++ (lA8u8 u23.Root))))), (72, (fun u => fEq u (str (l19s6 ++ ((r28.1 ++ r31) ++ (lA8u8 u23.Root))))))] (tab [(5, (Value.func (.func 77) #[] #[])), (6, (str l19s6)), (10, (ptr g26 0)), (11, (str r28.1)), (49, v0_2), (50, (Value.int .i64 (a0.Snaps.length : Int))), (51, (Value.int .i64 l19i51))]) mixed (by kernel_rfl) rfl rfl rfl (fun a hs => hs.tab _ (allT_mem ⟨rfl, rfl, rfl, rfl, rfl, rfl, rfl, trivial⟩)) ⟨⟨rfl, ld_val (ov_move rfl rfl)⟩, ⟨rfl, ld_val (ov_move rfl rfl)⟩, ⟨rfl, ld_val (ov_move rfl rfl)⟩, ⟨rfl, ld_of (of_fieldD (pr := fun (y : S_api_Snap) => y.Time) 0 rfl subS_api_Snap_1 rfl Tryd.underlying104 rfl sz3 rfl rfl)⟩, ⟨rfl, ld_fact (j := 3) rfl rfl (fun p29 => ld_val (ov_loadP (ds := [(Value.int .i64 u23.Time)]) 0 rfl (fun h => h) rfl Tryd.underlying3 sz3 rfl rfl rfl))⟩, ⟨rfl, ld_eq (j := 2) rfl rfl (ld_eq (j := 4) rfl rfl (ld_callF (vs := [(Value.int .i64 u23.Time)]) (caps := []) (f_room_Write_1_ok fu u23.Time hc30) rfl [] pre_nil rfl rfl Tryd.func77 rfl rfl rfl))⟩, ⟨rfl, ld_eq (j := 1) rfl rfl (ld_eq (j := 5) rfl rfl (ld_val (ov_strAdd hc32 rfl rfl rfl)))⟩, ⟨rfl, ld_of (of_fieldD (pr := fun (y : S_api_Snap) => y.Root) 0 rfl subS_api_Snap_2 rfl Tryd.underlying104 rfl sz49 rfl rfl)⟩, ⟨rfl, ld_fact (j := 7) rfl rfl (fun p33 => ld_of (of_sliceP 0 lrepA8u8 rfl rfl rfl rfl Tryd.underlying49 sz5 rfl))⟩, ⟨rfl, ld_fact (j := 8) rfl rfl (fun s34 => ld_val (ov_toStr 0 rfl rfl Tryd.underlying89 Tryd.underlying5 Tryd.underlying9 rfl))⟩, ⟨rfl, ld_eq (j := 6) rfl rfl (ld_eq (j := 9) rfl rfl (ld_val (ov_strAdd hc35 rfl rfl rfl)))⟩, ⟨rfl, ld_eq (j := 0) rfl rfl (ld_eq (j := 10) rfl rfl (ld_val (ov_strAdd hc36 rfl rfl rfl)))⟩, trivial⟩ ?_
          refine tl_eq 11 rfl ?_
          refine tl_done ?_
          refine al_val (ov_assign rfl rfl) ?_
          refine al_nil ?_
          refine aq_block ?_
          refine aq_then ?_
          refine aw_region ?_
          refine al_val (ov_int rfl rfl rfl rfl) ?_
          refine al_val (ov_move rfl rfl) ?_
          refine al_nil ?_
          exact aq_again k20 ((l19s6 ++ ((r28.1 ++ r31) ++ (lA8u8 u23.Root))), (IntKind.i64.wrap (l19i51 + (1 : Int)))) (Nat.lt_succ_self _) h (fun w a hm hs => norm hm hs [] [2, 3, 4, 5] [(5, (Value.func (.func 77) #[] #[])), (6, (str (l19s6 ++ ((r28.1 ++ r31) ++ (lA8u8 u23.Root))))), (49, v0_2), (50, (Value.int .i64 (a0.Snaps.length : Int))), (51, (Value.int .i64 (IntKind.i64.wrap (l19i51 + (1 : Int)))))] (by decide) ⟨rfl, rfl, rfl, rfl, rfl, trivial⟩)
        · replace h := bif_f hb22 h
          refine aw_exit ?_
          refine aq_then_exit ?_
          refine aq_then_exit ?_
          refine aq_block_exit ?_
          exact aq_join l19s6 h (fun w a hm hs => norm hm hs [] [1, 0, 2, 3] [(6, (str l19s6))] (by decide) ⟨rfl, trivial⟩)
    · clear hkk11
      refine aw_seq ?_
      refine aw_region ?_
      refine al_val (ov_fieldA (p := 1) rfl Tryd.underlying62 rfl sz59 rfl rfl rfl) ?_
      refine al_val (ov_load (i := 0) (v := v0_1) rfl rfl Tryd.underlying59 sz59 rfl rfl rfl rfl) ?_
      refine al_val (ov_lenD 0 rfl rfl Tryd.underlying59 rfl) ?_
      refine al_val (ov_move rfl rfl) ?_
      refine al_nil ?_
      refine aq_then ?_
      refine aw_block ?_
      refine aw_state (aw_loop (ι := (List UInt8) × Int) (fun i => (memOf w0 Z0 [] [(oBox g1 62 [(Value.int .i64 a0.Next), v0_1, v0_2])] [(fDat (tyList (tyInt .i64)) [v0_1] a0.Packs), (fDat (tyList tyS_api_Snap) [v0_2] a0.Snaps), uMax, uTabs])) (fun i => (tab [(1, (ptr g1 0)), (5, (Value.func (.func 77) #[] #[])), (6, (str i.1)), (29, v0_1), (30, (Value.int .i64 (a0.Packs.length : Int))), (31, (Value.int .i64 i.2))])) (fun q i => f_room_Write_L39 a0 kk11 fu q i.1 i.2 = some r) ?_ fu ((r6 ++ r8), (0 : Int)) h) (fun w a hm hs => norm hm hs [0] [0, 1, 2, 3] [(1, (ptr g1 0)), (5, (Value.func (.func 77) #[] #[])), (6, (str (r6 ++ r8))), (29, v0_1), (30, (Value.int .i64 (a0.Packs.length : Int))), (31, (Value.int .i64 (0 : Int)))] (by decide) ⟨rfl, rfl, rfl, rfl, rfl, rfl, trivial⟩)
      clear h
      rintro k38 ⟨l37s6, l37i31⟩ h
      have h : f_room_Write_L39 a0 kk11 fu k38 l37s6 l37i31 = some r := h
      obtain _ | k38 := k38
      · rw [f_room_Write_L39] at h; cases h
      rw [f_room_Write_L39] at h
      refine aw_show (m := (memOf w0 Z0 [] [(oBox g1 62 [(Value.int .i64 a0.Next), v0_1, v0_2])] [(fDat (tyList (tyInt .i64)) [v0_1] a0.Packs), (fDat (tyList tyS_api_Snap) [v0_2] a0.Snaps), uMax, uTabs])) (S := (tab [(1, (ptr g1 0)), (5, (Value.func (.func 77) #[] #[])), (6, (str l37s6)), (29, v0_1), (30, (Value.int .i64 (a0.Packs.length : Int))), (31, (Value.int .i64 l37i31))])) ?_
      refine aw_seq ?_
      refine aw_region ?_
      refine al_val (ov_int rfl rfl rfl rfl) ?_
      refine al_nil ?_
      refine aq_then ?_
      refine aw_seq ?_
      refine aw_cond rfl (fun hb40 => ?_) (fun hb40 => ?_)
      · replace h := bif_t hb40 h
        refine aw_skip ?_
        refine aq_then ?_
        refine aw_seq ?_
        refine aw_block ?_
        refine aw_seq ?_
        refine aw_region ?_
        obtain ⟨u41, hu42, h⟩ := opt_some h
        refine al_idxD 0 hu42 rfl rfl rfl Tryd.underlying59 sz3 rfl (fun p43 => ?_)
        refine al_val (ov_loadP (ds := [(Value.int .i64 u41)]) 0 rfl (fun h => h) rfl Tryd.underlying3 sz3 rfl rfl rfl) ?_
        refine al_val (ov_assign rfl rfl) ?_
        refine al_nil ?_
        refine aq_then ?_
        refine aw_region ?_
        refine al_val (ov_move rfl rfl) ?_
        refine al_val (ov_move rfl rfl) ?_
        refine al_val (ov_move rfl rfl) ?_
        obtain ⟨r45, hc44, h⟩ := opt_some h
        refine al_callF (vs := [(Value.int .i64 u41)]) (caps := []) (f_room_Write_1_ok fu u41 hc44) rfl [] [] [0] pre_nil rfl (by simp) (by decide) (.inl rfl) rfl rfl Tryd.func77 rfl rfl rfl (fun _ => ?_)
        obtain ⟨hc46, h⟩ := req_some h
        refine al_val (ov_strAdd hc46 rfl rfl rfl) ?_
        refine al_val (ov_assign rfl rfl) ?_
        refine al_nil ?_
        refine aq_block ?_
        refine aq_then ?_
        refine aw_region ?_
        refine al_val (ov_int rfl rfl rfl rfl) ?_
        refine al_val (ov_move rfl rfl) ?_
        refine al_nil ?_
        exact aq_again k38 ((l37s6 ++ r45), (IntKind.i64.wrap (l37i31 + (1 : Int)))) (Nat.lt_succ_self _) h (fun w a hm hs => norm hm hs [0] [1, 2, 3, 4] [(1, (ptr g1 0)), (5, (Value.func (.func 77) #[] #[])), (6, (str (l37s6 ++ r45))), (29, v0_1), (30, (Value.int .i64 (a0.Packs.length : Int))), (31, (Value.int .i64 (IntKind.i64.wrap (l37i31 + (1 : Int)))))] (by decide) ⟨rfl, rfl, rfl, rfl, rfl, rfl, trivial⟩)
      · replace h := bif_f hb40 h
        refine aw_exit ?_
        refine aq_then_exit ?_
        refine aq_then_exit ?_
        refine aq_block_exit ?_
        exact aq_join l37s6 h (fun w a hm hs => norm hm hs [0] [0, 1, 2, 3] [(1, (ptr g1 0)), (5, (Value.func (.func 77) #[] #[])), (6, (str l37s6))] (by decide) ⟨rfl, rfl, rfl, trivial⟩)
def f_lumref_digits : Nat → Int → Option (List UInt8)
  | 0, _ => none
  | fu + 1, a0 => (bif (a0 == (0 : Int)) then (some ([] : List UInt8)) else (opt (f_lumref_digits fu (IntKind.u64.wrap ((a0).tdiv (256 : Int)))) fun (r3 : (List UInt8)) => (req (0 ≤ (IntKind.u8.wrap ((a0).tmod (256 : Int))) ∧ (IntKind.u8.wrap ((a0).tmod (256 : Int))) ≤ 255) (req (r3.length + ([(UInt8.ofNat ((IntKind.u8.wrap ((a0).tmod (256 : Int)))).toNat)]).length ≤ 9223372036854775807) (some (r3 ++ ([(UInt8.ofNat ((IntKind.u8.wrap ((a0).tmod (256 : Int)))).toNat)])))))))
set_option maxRecDepth 100000 in
theorem f_lumref_digits_ok (fu : Nat) (a0 : Int) {r : (List UInt8)} (h : f_lumref_digits fu a0 = some r) : FnOk Tryd.prog 98 [(Value.int .u64 a0)] [] [] (fun (i : Unit) => { val := (str r) }) := by
  cases fu with
  | zero => rw [f_lumref_digits] at h; cases h
  | succ fu =>
    rw [f_lumref_digits] at h
    refine fn_enter Tryd.func98 rfl Tryd.ntmps98 rfl (fun w0 Z0 => ?_)
    refine aw_seq ?_
    refine aw_region ?_
    refine al_val (ov_assign rfl rfl) ?_
    refine al_nil ?_
    refine aq_then ?_
    refine aw_seq ?_
    refine aw_seq ?_
    refine aw_region ?_
    refine al_val (ov_move rfl rfl) ?_
    refine al_val (ov_int rfl rfl rfl rfl) ?_
    refine al_nil ?_
    refine aq_then ?_
    refine aw_cond rfl (fun hb1 => ?_) (fun hb1 => ?_)
    · replace h := bif_t hb1 h
      refine aw_seq ?_
      refine aw_region ?_
      refine al_val (ov_assign rfl rfl) ?_
      refine al_nil ?_
      refine aq_then ?_
      refine aw_ret ?_
      refine aq_then_ret ?_
      obtain rfl := Option.some.inj h
      exact fn_ret () [] [] rfl rfl rfl rfl (res1 rfl rfl) rfl rfl rfl (by decide)
    · replace h := bif_f hb1 h
      refine aw_skip ?_
      refine aq_then ?_
      refine aw_seq ?_
      obtain ⟨r3, hc2, h⟩ := opt_some h
      obtain ⟨hc5, h⟩ := req_some h
      obtain ⟨hc6, h⟩ := req_some h
      refine aw_region_draw 9 [(5, (fun u => fEq u (Value.int .u64 a0))), (6, (fun u => fEq u (Value.int .u64 (IntKind.u64.wrap ((a0).tdiv (256 : Int)))))), (7, (fun u => fEq u (str r3))), (8, (fun u => fEq u (Value.int .u64 a0))), (9, (fun u => fEq u (Value.int .u64 ((a0).tmod (256 : Int))))), (10, (fun u => fEq u (Value.int .u8 (IntKind.u8.wrap ((a0).tmod (256 : Int)))))), (11, (fun v4 => (fDat (tyList tyU8) [v4] [(UInt8.ofNat ((IntKind.u8.wrap ((a0).tmod (256 : Int)))).toNat)]))), (12, (fun u => fEq u (str [(UInt8.ofNat ((IntKind.u8.wrap ((a0).tmod (256 : Int)))).toNat)]))), (13, (fun u => fEq u (str (r3 ++ ([(UInt8.ofNat ((IntKind.u8.wrap ((a0).tmod (256 : Int)))).toNat)])))))] (tab [(0, (Value.int .u64 a0)), (2, (str ([] : List UInt8)))]) mixed (by kernel_rfl) rfl rfl rfl (fun a hs => hs.tab _ (allT_mem ⟨rfl, rfl, trivial⟩)) ⟨⟨rfl, ld_val (ov_move rfl rfl)⟩, ⟨rfl, ld_eq (j := 0) rfl rfl (ld_val (ov_quo (by decide) rfl rfl rfl))⟩, ⟨rfl, ld_eq (j := 1) rfl rfl (ld_callV (vs := [(Value.int .u64 (IntKind.u64.wrap ((a0).tdiv (256 : Int))))]) (f_lumref_digits_ok fu (IntKind.u64.wrap ((a0).tdiv (256 : Int))) hc2) [] pre_nil rfl Tryd.func98 rfl rfl rfl)⟩, ⟨rfl, ld_val (ov_move rfl rfl)⟩, ⟨rfl, ld_eq (j := 3) rfl rfl (ld_val (ov_rem (by decide) rfl rfl rfl))⟩, ⟨rfl, ld_eq (j := 4) rfl rfl (ld_val (ov_convInt (by rw [Tryd.underlying87]; rfl) Tryd.underlying5 rfl rfl))⟩, ⟨rfl, ld_eq (j := 5) rfl rfl (ld_buildSlice (τ := tyU8) (e := 5) (k := 1) (cs := [(Value.int .u8 (IntKind.u8.wrap ((a0).tmod (256 : Int))))]) (xs := [(UInt8.ofNat ((IntKind.u8.wrap ((a0).tmod (256 : Int)))).toNat)]) rfl (by decide) rfl (fun w a hm hs => ⟨([(Value.int .u8 (IntKind.u8.wrap ((a0).tmod (256 : Int))))]).toArray, rfl, by simp only [List.map_toArray, List.map_cons, List.map_nil, hs.ev (x := .tmp 10) rfl]; exact run_bs [(Value.int .u8 (IntKind.u8.wrap ((a0).tmod (256 : Int))))] [(Value.int .u8 (IntKind.u8.wrap ((a0).tmod (256 : Int))))] Tryd.underlying89 to5 rfl rfl (bs_cons (l := [(Value.int .u8 (IntKind.u8.wrap ((a0).tmod (256 : Int))))]) (cs := []) (cv_rfl rfl) rfl bs_nil) hm⟩) (fun hm => ⟨_, _, rfl, (fun _ => u8_rep hc5) hm, rfl⟩) rfl)⟩, ⟨rfl, ld_fact (j := 6) rfl rfl (fun v4 => ld_val (ov_toStr 0 rfl rfl Tryd.underlying89 Tryd.underlying5 Tryd.underlying9 rfl))⟩, ⟨rfl, ld_eq (j := 2) rfl rfl (ld_eq (j := 7) rfl rfl (ld_val (ov_strAdd hc6 rfl rfl rfl)))⟩, trivial⟩ ?_
      refine tl_eq 8 rfl ?_
      refine tl_done ?_
      refine al_val (ov_assign rfl rfl) ?_
      refine al_nil ?_
      refine aq_then ?_
      refine aw_ret ?_
      obtain rfl := Option.some.inj h
      exact fn_ret () [] [] rfl rfl rfl rfl (res1 rfl rfl) rfl rfl rfl (by decide)
def f_lumref_Put (fu : Nat) (a0 : Int) : Option (List UInt8) := (opt (f_lumref_digits fu a0) fun (r2 : (List UInt8)) => (req (0 ≤ (IntKind.u8.wrap (r2.length : Int)) ∧ (IntKind.u8.wrap (r2.length : Int)) ≤ 255) (req (([(UInt8.ofNat ((IntKind.u8.wrap (r2.length : Int))).toNat)]).length + r2.length ≤ 9223372036854775807) (some (([(UInt8.ofNat ((IntKind.u8.wrap (r2.length : Int))).toNat)]) ++ r2)))))
set_option maxRecDepth 100000 in
theorem f_lumref_Put_ok (fu : Nat) (a0 : Int) {r : (List UInt8)} (h : f_lumref_Put fu a0 = some r) : FnOk Tryd.prog 56 [(Value.int .u64 a0)] [] [] (fun (i : Unit) => { val := (str r) }) := by
  unfold f_lumref_Put at h
  refine fn_enter Tryd.func56 rfl Tryd.ntmps56 rfl (fun w0 Z0 => ?_)
  refine aw_seq ?_
  refine aw_region ?_
  refine al_val (ov_assign rfl rfl) ?_
  refine al_nil ?_
  refine aq_then ?_
  refine aw_seq ?_
  refine aw_region ?_
  refine al_val (ov_move rfl rfl) ?_
  obtain ⟨r2, hc1, h⟩ := opt_some h
  refine al_call (vs := [(Value.int .u64 a0)]) (f_lumref_digits_ok fu a0 hc1) [] [] [] pre_nil rfl (by simp) (by decide) (.inl rfl) rfl Tryd.func98 rfl rfl rfl (fun _ => ?_)
  refine al_val (ov_assign rfl rfl) ?_
  refine al_nil ?_
  refine aq_then ?_
  refine aw_seq ?_
  refine aw_region ?_
  refine al_val (ov_move rfl rfl) ?_
  refine al_val (ov_strLen Tryd.underlying9 rfl rfl) ?_
  refine al_val (ov_convInt (by rw [Tryd.underlying3]; rfl) Tryd.underlying5 rfl rfl) ?_
  obtain ⟨hc4, h⟩ := req_some h
  refine al_buildSlice (τ := tyU8) (e := 5) (k := 1) (sz := 0) (by_ := 0) (z := undef) (cs := [(Value.int .u8 (IntKind.u8.wrap (r2.length : Int)))]) (xs := [(UInt8.ofNat ((IntKind.u8.wrap (r2.length : Int))).toNat)]) rfl (by decide) (fun w a hm hs => ⟨([(Value.int .u8 (IntKind.u8.wrap (r2.length : Int)))]).toArray, rfl, by simp only [List.map_toArray, List.map_cons, List.map_nil, hs.ev (x := .tmp 8) rfl]; exact run_bs [(Value.int .u8 (IntKind.u8.wrap (r2.length : Int)))] [(Value.int .u8 (IntKind.u8.wrap (r2.length : Int)))] Tryd.underlying89 to5 rfl rfl (bs_cons (l := [(Value.int .u8 (IntKind.u8.wrap (r2.length : Int)))]) (cs := []) (cv_rfl rfl) rfl bs_nil) hm⟩) (fun hm => ⟨_, _, rfl, (fun _ => u8_rep hc4) hm, rfl⟩) rfl (fun v3 => ?_)
  refine al_val (ov_toStrR 0 rfl rfl Tryd.underlying89 Tryd.underlying5 Tryd.underlying9 rfl) ?_
  refine al_val (ov_move rfl rfl) ?_
  obtain ⟨hc5, h⟩ := req_some h
  refine al_val (ov_strAdd hc5 rfl rfl rfl) ?_
  refine al_val (ov_assign rfl rfl) ?_
  refine al_nil ?_
  refine aq_then ?_
  refine aw_ret ?_
  obtain rfl := Option.some.inj h
  exact fn_ret () [] [] rfl rfl rfl rfl (res1 rfl rfl) rfl rfl rfl (by decide)
def f_lumref_PutText (fu : Nat) (a0 : (List UInt8)) : Option ((List UInt8) × Int) := (bif (decide ((a0.length : Int) > (1024 : Int))) then (some (([] : List UInt8), (2 : Int))) else (opt (f_strings_ReplaceAll fu a0 ([0] : List UInt8) ([0, 255] : List UInt8)) fun (r3 : (List UInt8)) => (req (r3.length + ([0, 0] : List UInt8).length ≤ 9223372036854775807) (some ((r3 ++ ([0, 0] : List UInt8)), (0 : Int))))))
set_option maxRecDepth 100000 in
theorem f_lumref_PutText_ok (fu : Nat) (a0 : (List UInt8)) {r : ((List UInt8) × Int)} (h : f_lumref_PutText fu a0 = some r) : FnOk Tryd.prog 64 [(str a0)] [uMax] [] (fun (i : Unit) => { val := (Value.tuple #[(str r.1), (Value.int .i64 r.2)]) }) := by
  unfold f_lumref_PutText at h
  refine fn_enter Tryd.func64 rfl Tryd.ntmps64 rfl (fun w0 Z0 => ?_)
  refine aw_seq ?_
  refine aw_region ?_
  refine al_val (ov_assign rfl rfl) ?_
  refine al_val (ov_assign rfl rfl) ?_
  refine al_nil ?_
  refine aq_then ?_
  refine aw_seq ?_
  refine aw_seq ?_
  refine aw_region ?_
  refine al_val (ov_move rfl rfl) ?_
  refine al_val (ov_strLen Tryd.underlying9 rfl rfl) ?_
  refine al_val (ov_int rfl rfl rfl rfl) ?_
  refine al_nil ?_
  refine aq_then ?_
  refine aw_cond rfl (fun hb1 => ?_) (fun hb1 => ?_)
  · replace h := bif_t hb1 h
    refine aw_seq ?_
    refine aw_region ?_
    refine al_val (ov_assign rfl rfl) ?_
    refine al_val (ov_assign rfl rfl) ?_
    refine al_nil ?_
    refine aq_then ?_
    refine aw_ret ?_
    refine aq_then_ret ?_
    obtain rfl := Option.some.inj h
    exact fn_ret () [] [] rfl rfl rfl rfl (res2 rfl rfl rfl) rfl rfl rfl (by decide)
  · replace h := bif_f hb1 h
    refine aw_skip ?_
    refine aq_then ?_
    refine aw_seq ?_
    refine aw_region ?_
    refine al_val (ov_move rfl rfl) ?_
    obtain ⟨r3, hc2, h⟩ := opt_some h
    refine al_call (vs := [(str a0), (str ([0] : List UInt8)), (str ([0, 255] : List UInt8))]) (f_strings_ReplaceAll_ok fu a0 ([0] : List UInt8) ([0, 255] : List UInt8) hc2) [] [] [] (pre_fz 0 rfl pre_nil) rfl (by simp) (by decide) (.inl rfl) rfl Tryd.func104 rfl rfl rfl (fun _ => ?_)
    obtain ⟨hc4, h⟩ := req_some h
    refine al_val (ov_strAdd hc4 rfl rfl rfl) ?_
    refine al_val (ov_assign rfl rfl) ?_
    refine al_val (ov_assign rfl rfl) ?_
    refine al_nil ?_
    refine aq_then ?_
    refine aw_ret ?_
    obtain rfl := Option.some.inj h
    exact fn_ret () [] [] rfl rfl rfl rfl (res2 rfl rfl rfl) rfl rfl rfl (by decide)
def f_lumref_Narrow_1 (fu : Nat) (a0 : Int) (a1 : Int) : Option Int := (bif (a1 == (64 : Int)) then (some a0) else (req (0 ≤ a1) (req ((IntKind.u64.wrap ((1 : Int) * 2 ^ min (a1).toNat (IntKind.bits .u64))) ≠ 0) (some ((a0).tmod (IntKind.u64.wrap ((1 : Int) * 2 ^ min (a1).toNat (IntKind.bits .u64))))))))
set_option maxRecDepth 100000 in
theorem f_lumref_Narrow_1_ok (fu : Nat) (a0 : Int) (c1 : Value) (a1 : Int) {r : Int} (h : f_lumref_Narrow_1 fu a0 a1 = some r) : FnOk Tryd.prog 132 [(Value.int .u64 a0), c1] [(fPtr (tyInt .i64) c1 a1)] [] (fun (i : Unit) => { val := (Value.int .u64 r) }) := by
  unfold f_lumref_Narrow_1 at h
  refine fn_enter Tryd.func132 rfl Tryd.ntmps132 rfl (fun w0 Z0 => ?_)
  refine aw_seq ?_
  refine aw_region ?_
  refine al_val (ov_assign rfl rfl) ?_
  refine al_nil ?_
  refine aq_then ?_
  refine aw_seq ?_
  refine aw_seq ?_
  refine aw_region ?_
  refine al_val (ov_loadP (ds := [(Value.int .i64 a1)]) 0 rfl (fun h => h) rfl Tryd.underlying3 sz3 rfl rfl rfl) ?_
  refine al_val (ov_int rfl rfl rfl rfl) ?_
  refine al_nil ?_
  refine aq_then ?_
  refine aw_cond rfl (fun hb1 => ?_) (fun hb1 => ?_)
  · replace h := bif_t hb1 h
    refine aw_seq ?_
    refine aw_region ?_
    refine al_val (ov_move rfl rfl) ?_
    refine al_val (ov_assign rfl rfl) ?_
    refine al_nil ?_
    refine aq_then ?_
    refine aw_ret ?_
    refine aq_then_ret ?_
    obtain rfl := Option.some.inj h
    exact fn_ret () [] [] rfl rfl rfl rfl (res1 rfl rfl) rfl rfl rfl (by decide)
  · replace h := bif_f hb1 h
    refine aw_skip ?_
    refine aq_then ?_
    refine aw_seq ?_
    refine aw_region ?_
    refine al_val (ov_move rfl rfl) ?_
    refine al_val (ov_loadP (ds := [(Value.int .i64 a1)]) 0 rfl (fun h => h) rfl Tryd.underlying3 sz3 rfl rfl rfl) ?_
    obtain ⟨hc2, h⟩ := req_some h
    refine al_val (ov_shl hc2 rfl rfl rfl) ?_
    obtain ⟨hc3, h⟩ := req_some h
    refine al_val (ov_rem hc3 rfl rfl rfl) ?_
    refine al_val (ov_assign rfl rfl) ?_
    refine al_nil ?_
    refine aq_then ?_
    refine aw_ret ?_
    obtain rfl := Option.some.inj h
    exact fn_ret () [] [] rfl rfl rfl rfl (res1 rfl rfl) rfl rfl rfl (by decide)
def f_strings_Repeat (fu : Nat) (a0 : List UInt8) (a1 : Int) : Option (List UInt8) := req (0 ≤ a1 ∧ a1 ≤ 9223372036854775807 ∧ a0.length * a1.toNat ≤ 140737488355328) (some (Lib.repeatL a0 a1.toNat))
theorem f_strings_Repeat_ok (fu : Nat) (a0 : List UInt8) (a1 : Int) {r : List UInt8} (h : f_strings_Repeat fu a0 a1 = some r) : FnOk Tryd.prog 131 [(str a0), (Value.int .i64 a1)] [] [] (fun (i : Unit) => { val := (str r) }) := by
  unfold f_strings_Repeat at h
  obtain ⟨hc, h⟩ := req_some h
  obtain rfl := Option.some.inj h
  obtain ⟨n, rfl⟩ : ∃ n : Nat, a1 = n := ⟨a1.toNat, by omega⟩
  refine fnok_pure fun w => ?_
  exact (Tryd.strings_Repeat ⟨a0.toArray⟩ n w (by omega) (by simpa [ByteArray.size] using hc.2.2)).mono fun e w' h9 => by simpa [str] using h9
def f_lumref_product_L5 (a0 : Int) (a1 : Int) (kk2 : (Int → Option Int)) : Nat → Int → Int → Option Int
  | 0, _, _ => none
  | k4 + 1, l3i5, l3i7 => (bif (decide (l3i7 < (64 : Int))) then (lt (fun (j7i5 : Int) => (f_lumref_product_L5 a0 a1 kk2 k4 j7i5 (IntKind.i64.wrap (l3i7 + (1 : Int))))) fun (kk8 : Int → Option Int) => (req (0 ≤ l3i7) (bif ((bits .and .u64 ((a1).fdiv (2 ^ min (l3i7).toNat (IntKind.bits .u64))) (1 : Int)) == (1 : Int)) then (req (0 ≤ l3i7) (kk8 (IntKind.u64.wrap (l3i5 + (IntKind.u64.wrap (a0 * 2 ^ min (l3i7).toNat (IntKind.bits .u64))))))) else (kk8 l3i5)))) else (kk2 l3i5))
def f_lumref_product (fu : Nat) (a0 : Int) (a1 : Int) : Option Int := (lt (fun (j1i5 : Int) => (some j1i5)) fun (kk2 : Int → Option Int) => (f_lumref_product_L5 a0 a1 kk2 fu (0 : Int) (0 : Int)))
set_option maxRecDepth 100000 in
theorem f_lumref_product_ok (fu : Nat) (a0 : Int) (a1 : Int) {r : Int} (h : f_lumref_product fu a0 a1 = some r) : FnOk Tryd.prog 157 [(Value.int .u64 a0), (Value.int .u64 a1)] [] [] (fun (i : Unit) => { val := (Value.int .u64 r) }) := by
  unfold f_lumref_product at h
  refine fn_enter Tryd.func157 rfl Tryd.ntmps157 rfl (fun w0 Z0 => ?_)
  refine aw_seq ?_
  refine aw_region ?_
  refine al_val (ov_assign rfl rfl) ?_
  refine al_nil ?_
  refine aq_then ?_
  refine aw_seq ?_
  refine aw_region ?_
  refine al_val (ov_assign rfl rfl) ?_
  refine al_nil ?_
  refine aq_then ?_
  obtain ⟨kk2, hkk2, h⟩ := lt_some h
  refine aw_seq_join (ι := Int) (fun i => (memOf w0 Z0 [] [] [])) (fun i => (tab [(5, (Value.int .u64 i))])) (fun i => kk2 i = some r) ?_ ?_
  · rintro j1i5 h
    have h : kk2 j1i5 = some r := h
    rw [hkk2] at h
    dsimp only at h
    clear hkk2
    refine aw_show (m := (memOf w0 Z0 [] [] [])) (S := (tab [(5, (Value.int .u64 j1i5))])) ?_
    refine aw_seq ?_
    refine aw_region ?_
    refine al_val (ov_move rfl rfl) ?_
    refine al_val (ov_assign rfl rfl) ?_
    refine al_nil ?_
    refine aq_then ?_
    refine aw_ret ?_
    obtain rfl := Option.some.inj h
    exact fn_ret () [] [] rfl rfl rfl rfl (res1 rfl rfl) rfl rfl rfl (by decide)
  · clear hkk2
    refine aw_seq ?_
    refine aw_region ?_
    refine al_val (ov_move rfl rfl) ?_
    refine al_nil ?_
    refine aq_then ?_
    refine aw_block ?_
    refine aw_state (aw_loop (ι := Int × Int) (fun i => (memOf w0 Z0 [] [] [])) (fun i => (tab [(0, (Value.int .u64 a0)), (1, (Value.int .u64 a1)), (5, (Value.int .u64 i.1)), (7, (Value.int .i64 i.2))])) (fun q i => f_lumref_product_L5 a0 a1 kk2 q i.1 i.2 = some r) ?_ fu ((0 : Int), (0 : Int)) h) (fun w a hm hs => norm hm hs [] [] [(0, (Value.int .u64 a0)), (1, (Value.int .u64 a1)), (5, (Value.int .u64 (0 : Int))), (7, (Value.int .i64 (0 : Int)))] (by decide) ⟨rfl, rfl, rfl, rfl, trivial⟩)
    clear h
    rintro k4 ⟨l3i5, l3i7⟩ h
    have h : f_lumref_product_L5 a0 a1 kk2 k4 l3i5 l3i7 = some r := h
    obtain _ | k4 := k4
    · rw [f_lumref_product_L5] at h; cases h
    rw [f_lumref_product_L5] at h
    refine aw_show (m := (memOf w0 Z0 [] [] [])) (S := (tab [(0, (Value.int .u64 a0)), (1, (Value.int .u64 a1)), (5, (Value.int .u64 l3i5)), (7, (Value.int .i64 l3i7))])) ?_
    refine aw_seq ?_
    refine aw_region ?_
    refine al_val (ov_int rfl rfl rfl rfl) ?_
    refine al_nil ?_
    refine aq_then ?_
    refine aw_seq ?_
    refine aw_cond rfl (fun hb6 => ?_) (fun hb6 => ?_)
    · replace h := bif_t hb6 h
      refine aw_skip ?_
      refine aq_then ?_
      obtain ⟨kk8, hkk8, h⟩ := lt_some h
      refine aw_seq_join (ι := Int) (fun i => (memOf w0 Z0 [] [] [])) (fun i => (tab [(0, (Value.int .u64 a0)), (1, (Value.int .u64 a1)), (5, (Value.int .u64 i)), (7, (Value.int .i64 l3i7))])) (fun i => kk8 i = some r) ?_ ?_
      · rintro j7i5 h
        have h : kk8 j7i5 = some r := h
        rw [hkk8] at h
        dsimp only at h
        clear hkk8
        refine aw_show (m := (memOf w0 Z0 [] [] [])) (S := (tab [(0, (Value.int .u64 a0)), (1, (Value.int .u64 a1)), (5, (Value.int .u64 j7i5)), (7, (Value.int .i64 l3i7))])) ?_
        refine aw_region ?_
        refine al_val (ov_int rfl rfl rfl rfl) ?_
        refine al_val (ov_move rfl rfl) ?_
        refine al_nil ?_
        exact aq_again k4 (j7i5, (IntKind.i64.wrap (l3i7 + (1 : Int)))) (Nat.lt_succ_self _) h (fun w a hm hs => norm hm hs [] [] [(0, (Value.int .u64 a0)), (1, (Value.int .u64 a1)), (5, (Value.int .u64 j7i5)), (7, (Value.int .i64 (IntKind.i64.wrap (l3i7 + (1 : Int)))))] (by decide) ⟨rfl, rfl, rfl, rfl, trivial⟩)
      · clear hkk8
        refine aw_block ?_
        refine aw_seq ?_
        refine aw_region ?_
        refine al_val (ov_move rfl rfl) ?_
        refine al_val (ov_assign rfl rfl) ?_
        refine al_nil ?_
        refine aq_then ?_
        refine aw_seq ?_
        refine aw_region ?_
        refine al_val (ov_move rfl rfl) ?_
        refine al_val (ov_move rfl rfl) ?_
        obtain ⟨hc9, h⟩ := req_some h
        refine al_val (ov_shr hc9 rfl rfl rfl) ?_
        refine al_val (ov_int rfl rfl rfl rfl) ?_
        refine al_val (ov_int rfl rfl rfl rfl) ?_
        refine al_nil ?_
        refine aq_then ?_
        refine aw_cond rfl (fun hb10 => ?_) (fun hb10 => ?_)
        · replace h := bif_t hb10 h
          refine aw_region ?_
          refine al_val (ov_move rfl rfl) ?_
          refine al_val (ov_move rfl rfl) ?_
          refine al_val (ov_move rfl rfl) ?_
          obtain ⟨hc11, h⟩ := req_some h
          refine al_val (ov_shl hc11 rfl rfl rfl) ?_
          refine al_val (ov_int rfl rfl rfl rfl) ?_
          refine al_val (ov_assign rfl rfl) ?_
          refine al_nil ?_
          refine aq_block ?_
          exact aq_join (IntKind.u64.wrap (l3i5 + (IntKind.u64.wrap (a0 * 2 ^ min (l3i7).toNat (IntKind.bits .u64))))) h (fun w a hm hs => norm hm hs [] [] [(0, (Value.int .u64 a0)), (1, (Value.int .u64 a1)), (5, (Value.int .u64 (IntKind.u64.wrap (l3i5 + (IntKind.u64.wrap (a0 * 2 ^ min (l3i7).toNat (IntKind.bits .u64))))))), (7, (Value.int .i64 l3i7))] (by decide) ⟨rfl, rfl, rfl, rfl, trivial⟩)
        · replace h := bif_f hb10 h
          refine aw_skip ?_
          refine aq_block ?_
          exact aq_join l3i5 h (fun w a hm hs => norm hm hs [] [] [(0, (Value.int .u64 a0)), (1, (Value.int .u64 a1)), (5, (Value.int .u64 l3i5)), (7, (Value.int .i64 l3i7))] (by decide) ⟨rfl, rfl, rfl, rfl, trivial⟩)
    · replace h := bif_f hb6 h
      refine aw_exit ?_
      refine aq_then_exit ?_
      refine aq_then_exit ?_
      refine aq_block_exit ?_
      exact aq_join l3i5 h (fun w a hm hs => norm hm hs [] [] [(5, (Value.int .u64 l3i5))] (by decide) ⟨rfl, trivial⟩)
def f_lumref_Step (fu : Nat) (a0 : Int) (a1 : Int) : Option Int := (opt (f_lumref_product fu (bits .xor .u64 a0 a1) (11400714819323198485 : Int)) fun (r2 : Int) => (opt (f_lumref_product fu (bits .xor .u64 r2 (IntKind.u64.wrap ((r2).tdiv (536870912 : Int)))) (13787848793156543929 : Int)) fun (r4 : Int) => (some (bits .xor .u64 r4 (IntKind.u64.wrap ((r4).tdiv (4294967296 : Int)))))))
set_option maxRecDepth 100000 in
theorem f_lumref_Step_ok (fu : Nat) (a0 : Int) (a1 : Int) {r : Int} (h : f_lumref_Step fu a0 a1 = some r) : FnOk Tryd.prog 133 [(Value.int .u64 a0), (Value.int .u64 a1)] [] [] (fun (i : Unit) => { val := (Value.int .u64 r) }) := by
  unfold f_lumref_Step at h
  refine fn_enter Tryd.func133 rfl Tryd.ntmps133 rfl (fun w0 Z0 => ?_)
  refine aw_seq ?_
  refine aw_region ?_
  refine al_val (ov_assign rfl rfl) ?_
  refine al_nil ?_
  refine aq_then ?_
  refine aw_seq ?_
  refine aw_region ?_
  refine al_val (ov_move rfl rfl) ?_
  refine al_val (ov_move rfl rfl) ?_
  refine al_val (ov_int rfl rfl rfl rfl) ?_
  obtain ⟨r2, hc1, h⟩ := opt_some h
  refine al_call (vs := [(Value.int .u64 (bits .xor .u64 a0 a1)), (Value.int .u64 (11400714819323198485 : Int))]) (f_lumref_product_ok fu (bits .xor .u64 a0 a1) (11400714819323198485 : Int) hc1) [] [] [] pre_nil rfl (by simp) (by decide) (.inl rfl) rfl Tryd.func157 rfl rfl rfl (fun _ => ?_)
  refine al_val (ov_assign rfl rfl) ?_
  refine al_nil ?_
  refine aq_then ?_
  refine aw_seq ?_
  refine aw_region ?_
  refine al_val (ov_move rfl rfl) ?_
  refine al_val (ov_move rfl rfl) ?_
  refine al_val (ov_quo (by decide) rfl rfl rfl) ?_
  refine al_val (ov_int rfl rfl rfl rfl) ?_
  refine al_val (ov_assign rfl rfl) ?_
  refine al_nil ?_
  refine aq_then ?_
  refine aw_seq ?_
  refine aw_region ?_
  refine al_val (ov_move rfl rfl) ?_
  obtain ⟨r4, hc3, h⟩ := opt_some h
  refine al_call (vs := [(Value.int .u64 (bits .xor .u64 r2 (IntKind.u64.wrap ((r2).tdiv (536870912 : Int))))), (Value.int .u64 (13787848793156543929 : Int))]) (f_lumref_product_ok fu (bits .xor .u64 r2 (IntKind.u64.wrap ((r2).tdiv (536870912 : Int)))) (13787848793156543929 : Int) hc3) [] [] [] pre_nil rfl (by simp) (by decide) (.inl rfl) rfl Tryd.func157 rfl rfl rfl (fun _ => ?_)
  refine al_val (ov_assign rfl rfl) ?_
  refine al_nil ?_
  refine aq_then ?_
  refine aw_seq ?_
  refine aw_region ?_
  refine al_val (ov_move rfl rfl) ?_
  refine al_val (ov_move rfl rfl) ?_
  refine al_val (ov_quo (by decide) rfl rfl rfl) ?_
  refine al_val (ov_int rfl rfl rfl rfl) ?_
  refine al_val (ov_assign rfl rfl) ?_
  refine al_nil ?_
  refine aq_then ?_
  refine aw_ret ?_
  obtain rfl := Option.some.inj h
  exact fn_ret () [] [] rfl rfl rfl rfl (res1 rfl rfl) rfl rfl rfl (by decide)
def f_lumref_Narrow_L27 (l11s7 : (List UInt8)) (kk20 : (Int → Option Int)) : Nat → Int → Int → Option Int
  | 0, _, _ => none
  | k26 + 1, l25i8, l25i9 => (bif (decide (l25i9 ≥ (0 : Int))) then (req (0 ≤ l25i9 ∧ l25i9 < (l11s7.length : Int)) (f_lumref_Narrow_L27 l11s7 kk20 k26 (IntKind.u64.wrap ((IntKind.u64.wrap ((256 : Int) * l25i8)) + (IntKind.u64.wrap (En.bAt l11s7 l25i9)))) (IntKind.i64.wrap (l25i9 - (1 : Int))))) else (kk20 l25i8))
def f_lumref_Narrow_L13 (a0 : Int) (kk6 : (Int → Option Int)) (fu : Nat) : Nat → Int → (List UInt8) → Option Int
  | 0, _, _ => none
  | k12 + 1, l11i5, l11s7 => (lt (fun (l11i5 : Int) (l11s7 : (List UInt8)) => (f_lumref_Narrow_L13 a0 kk6 fu k12 l11i5 l11s7)) fun (kk14 : Int → (List UInt8) → Option Int) => (bif (!(l11s7 == ([] : List UInt8))) then (lt (fun (j16i5 : Int) => (req (0 ≤ (8 : Int) ∧ (8 : Int) ≤ (l11s7.length : Int)) (kk14 j16i5 (l11s7.drop ((8 : Int)).toNat)))) fun (kk17 : Int → Option Int) => (lt (fun (j19i8 : Int) => (opt (f_lumref_Step fu l11i5 j19i8) fun (r22 : Int) => (opt (f_lumref_Narrow_1 fu r22 a0) fun (r24 : Int) => (kk17 r24)))) fun (kk20 : Int → Option Int) => (f_lumref_Narrow_L27 l11s7 kk20 fu (0 : Int) (7 : Int)))) else (kk6 l11i5)))
def f_lumref_Narrow (fu : Nat) (a0 : Int) (a1 : (List UInt8)) : Option Int := (opt (f_strings_Repeat fu ([0] : List UInt8) (((IntKind.i64.wrap ((8 : Int) - (((a1.length : Int)).tmod (8 : Int))))).tmod (8 : Int))) fun (r3 : (List UInt8)) => (req (a1.length + r3.length ≤ 9223372036854775807) (lt (fun (j5i5 : Int) => (opt (f_lumref_Step fu j5i5 (IntKind.u64.wrap (a1.length : Int))) fun (r8 : Int) => (opt (f_lumref_Narrow_1 fu r8 a0) fun (r10 : Int) => (some r10)))) fun (kk6 : Int → Option Int) => (f_lumref_Narrow_L13 a0 kk6 fu fu (0 : Int) (a1 ++ r3)))))
end Go.Proofs.YtjbgahmcobcojaaDoor
