/- What WalkPlants leans on, part 3. No condition. -/
import Derived.Test.YtiioclkiapbjnaaGreatDoorQWalkPlantsb
import Derived.Test.YtiioclkiapbjnaaGreatDoorChecked
namespace Go.Proofs.YtiioclkiapbjnaaGreatDoor
open Go.RowKit YtiioclkiapbjnaaGreatDoor.En
set_option linter.unusedVariables false
set_option linter.unusedSimpArgs false
open Go.Value (int bool)
structure S_api_Cut where
  Min : Int
  Max : Int
  Bits : Int
  deriving DecidableEq
def tyS_api_Cut : Ty S_api_Cut := tyVia (fun x => (x.Min, (x.Max, x.Bits))) (tyPair (tyInt .i64) (tyPair (tyInt .i64) (tyInt .i64)))
theorem encS_api_Cut {Z w cs} {x : S_api_Cut} (h : tyS_api_Cut.rep Z w cs x) : cs = [(int .i64 x.Min), (int .i64 x.Max), (int .i64 x.Bits)] := by
  obtain ⟨c0, d0, rfl, p0, q0⟩ := h
  obtain ⟨c1, d1, rfl, p1, q1⟩ := q0
  rw [show _ = _ from p0]
  rw [show _ = _ from p1]
  rw [show _ = _ from q1]
  rfl
structure S_api_Way where
  Fixed : Int
  Cut : S_api_Cut
  deriving DecidableEq
def tyS_api_Way : Ty S_api_Way := tyVia (fun x => (x.Fixed, x.Cut)) (tyPair (tyInt .i64) tyS_api_Cut)
theorem encS_api_Way {Z w cs} {x : S_api_Way} (h : tyS_api_Way.rep Z w cs x) : cs = [(int .i64 x.Fixed), (int .i64 x.Cut.Min), (int .i64 x.Cut.Max), (int .i64 x.Cut.Bits)] := by
  obtain ⟨c0, d0, rfl, p0, q0⟩ := h
  rw [show _ = _ from p0]
  rw [encS_api_Cut q0]
  rfl
structure S_api_Item where
  Path : (List UInt8)
  Kind : Int
  Mode : Int
  Time : Int
  Bytes : (List UInt8)
  deriving DecidableEq
def tyS_api_Item : Ty S_api_Item := tyVia (fun x => (x.Path, (x.Kind, (x.Mode, (x.Time, x.Bytes))))) (tyPair tyStr (tyPair (tyInt .i64) (tyPair (tyInt .i64) (tyPair (tyInt .i64) tyStr))))
theorem subS_api_Item_0 : Sub tyS_api_Item 0 tyStr (fun x => x.Path) := Sub.via (Sub.fst (Sub.whole _))
theorem encS_api_Item {Z w cs} {x : S_api_Item} (h : tyS_api_Item.rep Z w cs x) : cs = [(str x.Path), (int .i64 x.Kind), (int .i64 x.Mode), (int .i64 x.Time), (str x.Bytes)] := by
  obtain ⟨c0, d0, rfl, p0, q0⟩ := h
  obtain ⟨c1, d1, rfl, p1, q1⟩ := q0
  obtain ⟨c2, d2, rfl, p2, q2⟩ := q1
  obtain ⟨c3, d3, rfl, p3, q3⟩ := q2
  rw [show _ = _ from p0]
  rw [show _ = _ from p1]
  rw [show _ = _ from p2]
  rw [show _ = _ from p3]
  rw [show _ = _ from q3]
  rfl
theorem mkS_api_Item {Z w cs} {x : S_api_Item} (h : cs = [(str x.Path), (int .i64 x.Kind), (int .i64 x.Mode), (int .i64 x.Time), (str x.Bytes)]) : tyS_api_Item.rep Z w cs x := by
  subst h
  exact ⟨_, _, (List.take_append_drop 1 _).symm, rfl, ⟨_, _, (List.take_append_drop 1 _).symm, rfl, ⟨_, _, (List.take_append_drop 1 _).symm, rfl, ⟨_, _, (List.take_append_drop 1 _).symm, rfl, rfl⟩⟩⟩⟩
structure A16u8 where
  e0 : UInt8
  e1 : UInt8
  e2 : UInt8
  e3 : UInt8
  e4 : UInt8
  e5 : UInt8
  e6 : UInt8
  e7 : UInt8
  e8 : UInt8
  e9 : UInt8
  e10 : UInt8
  e11 : UInt8
  e12 : UInt8
  e13 : UInt8
  e14 : UInt8
  e15 : UInt8
  deriving DecidableEq
abbrev zA16u8 : A16u8 := A16u8.mk (0 : UInt8) (0 : UInt8) (0 : UInt8) (0 : UInt8) (0 : UInt8) (0 : UInt8) (0 : UInt8) (0 : UInt8) (0 : UInt8) (0 : UInt8) (0 : UInt8) (0 : UInt8) (0 : UInt8) (0 : UInt8) (0 : UInt8) (0 : UInt8)
def cA16u8 (x : A16u8) : List Value := [(int .u8 (x.e0.toNat : Int)), (int .u8 (x.e1.toNat : Int)), (int .u8 (x.e2.toNat : Int)), (int .u8 (x.e3.toNat : Int)), (int .u8 (x.e4.toNat : Int)), (int .u8 (x.e5.toNat : Int)), (int .u8 (x.e6.toNat : Int)), (int .u8 (x.e7.toNat : Int)), (int .u8 (x.e8.toNat : Int)), (int .u8 (x.e9.toNat : Int)), (int .u8 (x.e10.toNat : Int)), (int .u8 (x.e11.toNat : Int)), (int .u8 (x.e12.toNat : Int)), (int .u8 (x.e13.toNat : Int)), (int .u8 (x.e14.toNat : Int)), (int .u8 (x.e15.toNat : Int))]
def lA16u8 (x : A16u8) : List UInt8 := [x.e0, x.e1, x.e2, x.e3, x.e4, x.e5, x.e6, x.e7, x.e8, x.e9, x.e10, x.e11, x.e12, x.e13, x.e14, x.e15]
def vA16u8 (y : UInt8) : Value := (int .u8 (y.toNat : Int))
def setA16u8 (x : A16u8) (j : Int) (y : UInt8) : A16u8 := ⟨if j = 0 then y else x.e0, if j = 1 then y else x.e1, if j = 2 then y else x.e2, if j = 3 then y else x.e3, if j = 4 then y else x.e4, if j = 5 then y else x.e5, if j = 6 then y else x.e6, if j = 7 then y else x.e7, if j = 8 then y else x.e8, if j = 9 then y else x.e9, if j = 10 then y else x.e10, if j = 11 then y else x.e11, if j = 12 then y else x.e12, if j = 13 then y else x.e13, if j = 14 then y else x.e14, if j = 15 then y else x.e15⟩
theorem oneA16u8 (x : A16u8) : ∀ u ∈ cA16u8 x, u.oneCell' = true := ones_map (enc := vA16u8) (xs := lA16u8 x) (fun _ => rfl)
theorem lsetA16u8 {x : A16u8} {j : Int} {y : UInt8} (h0 : 0 ≤ j) (h1 : j < 16) : lA16u8 (setA16u8 x j y) = (lA16u8 x).set j.toNat y := by
  obtain ⟨q, rfl⟩ : ∃ q : Nat, j = q := ⟨j.toNat, by omega⟩
  match q, h1 with
  | 0, _ => rfl
  | 1, _ => rfl
  | 2, _ => rfl
  | 3, _ => rfl
  | 4, _ => rfl
  | 5, _ => rfl
  | 6, _ => rfl
  | 7, _ => rfl
  | 8, _ => rfl
  | 9, _ => rfl
  | 10, _ => rfl
  | 11, _ => rfl
  | 12, _ => rfl
  | 13, _ => rfl
  | 14, _ => rfl
  | 15, _ => rfl
  | n + 16, h => omega
theorem csetA16u8 {x : A16u8} {j : Int} {y : UInt8} (h0 : 0 ≤ j) (h1 : j < 16) (pre post : List Value) : pre ++ (cA16u8 (setA16u8 x j y) ++ post) = (pre ++ (cA16u8 x ++ post)).set (pre.length + j.toNat) (vA16u8 y) := by
  have h : cA16u8 (setA16u8 x j y) = (cA16u8 x).set j.toNat (vA16u8 y) := by
    have e : ∀ z : A16u8, cA16u8 z = (lA16u8 z).map vA16u8 := fun _ => rfl
    rw [e, e, lsetA16u8 h0 h1, List.map_set]
  rw [h, List.set_append_right _ _ (by omega), Nat.add_sub_cancel_left, List.set_append_left _ _ (by show j.toNat < 16; omega)]
structure S_api_Roll where
  Win : A16u8
  At : Int
  Sum : Int
  deriving DecidableEq
structure A8u8 where
  e0 : UInt8
  e1 : UInt8
  e2 : UInt8
  e3 : UInt8
  e4 : UInt8
  e5 : UInt8
  e6 : UInt8
  e7 : UInt8
  deriving DecidableEq
abbrev zA8u8 : A8u8 := A8u8.mk (0 : UInt8) (0 : UInt8) (0 : UInt8) (0 : UInt8) (0 : UInt8) (0 : UInt8) (0 : UInt8) (0 : UInt8)
def tyA8u8 : Ty A8u8 := tyVia (fun x => (x.e0, (x.e1, (x.e2, (x.e3, (x.e4, (x.e5, (x.e6, x.e7)))))))) (tyPair tyU8 (tyPair tyU8 (tyPair tyU8 (tyPair tyU8 (tyPair tyU8 (tyPair tyU8 (tyPair tyU8 tyU8)))))))
def cA8u8 (x : A8u8) : List Value := [(int .u8 (x.e0.toNat : Int)), (int .u8 (x.e1.toNat : Int)), (int .u8 (x.e2.toNat : Int)), (int .u8 (x.e3.toNat : Int)), (int .u8 (x.e4.toNat : Int)), (int .u8 (x.e5.toNat : Int)), (int .u8 (x.e6.toNat : Int)), (int .u8 (x.e7.toNat : Int))]
def lA8u8 (x : A8u8) : List UInt8 := [x.e0, x.e1, x.e2, x.e3, x.e4, x.e5, x.e6, x.e7]
def vA8u8 (y : UInt8) : Value := (int .u8 (y.toNat : Int))
theorem oneA8u8 (x : A8u8) : ∀ u ∈ cA8u8 x, u.oneCell' = true := ones_map (enc := vA8u8) (xs := lA8u8 x) (fun _ => rfl)
theorem lenA8u8 (x : A8u8) : (lA8u8 x).length = 8 := rfl
theorem encA8u8 {Z w cs} {x : A8u8} (h : tyA8u8.rep Z w cs x) : cs = (cA8u8 x) := by
  obtain ⟨c0, d0, rfl, p0, q0⟩ := h
  obtain ⟨c1, d1, rfl, p1, q1⟩ := q0
  obtain ⟨c2, d2, rfl, p2, q2⟩ := q1
  obtain ⟨c3, d3, rfl, p3, q3⟩ := q2
  obtain ⟨c4, d4, rfl, p4, q4⟩ := q3
  obtain ⟨c5, d5, rfl, p5, q5⟩ := q4
  obtain ⟨c6, d6, rfl, p6, q6⟩ := q5
  rw [show _ = _ from p0]
  rw [show _ = _ from p1]
  rw [show _ = _ from p2]
  rw [show _ = _ from p3]
  rw [show _ = _ from p4]
  rw [show _ = _ from p5]
  rw [show _ = _ from p6]
  rw [show _ = _ from q6]
  rfl
theorem mkA8u8 {Z w cs} {x : A8u8} (h : cs = (cA8u8 x)) : tyA8u8.rep Z w cs x := by
  subst h
  exact ⟨_, _, (List.take_append_drop 1 _).symm, rfl, ⟨_, _, (List.take_append_drop 1 _).symm, rfl, ⟨_, _, (List.take_append_drop 1 _).symm, rfl, ⟨_, _, (List.take_append_drop 1 _).symm, rfl, ⟨_, _, (List.take_append_drop 1 _).symm, rfl, ⟨_, _, (List.take_append_drop 1 _).symm, rfl, ⟨_, _, (List.take_append_drop 1 _).symm, rfl, rfl⟩⟩⟩⟩⟩⟩⟩
theorem lrepA8u8 {Z w cs} {x : A8u8} (h : tyA8u8.rep Z w cs x) : RepL tyU8 Z w cs (lA8u8 x) := by
  rw [encA8u8 h]
  exact ⟨[_], _, rfl, rfl, ⟨[_], _, rfl, rfl, ⟨[_], _, rfl, rfl, ⟨[_], _, rfl, rfl, ⟨[_], _, rfl, rfl, ⟨[_], _, rfl, rfl, ⟨[_], _, rfl, rfl, ⟨[_], _, rfl, rfl, rfl⟩⟩⟩⟩⟩⟩⟩⟩
structure S_api_Blob where
  Kind : Int
  Bytes : (List UInt8)
  deriving DecidableEq
def tyS_api_Blob : Ty S_api_Blob := tyVia (fun x => (x.Kind, x.Bytes)) (tyPair (tyInt .i64) tyStr)
theorem encS_api_Blob {Z w cs} {x : S_api_Blob} (h : tyS_api_Blob.rep Z w cs x) : cs = [(int .i64 x.Kind), (str x.Bytes)] := by
  obtain ⟨c0, d0, rfl, p0, q0⟩ := h
  rw [show _ = _ from p0]
  rw [show _ = _ from q0]
  rfl
theorem mkS_api_Blob {Z w cs} {x : S_api_Blob} (h : cs = [(int .i64 x.Kind), (str x.Bytes)]) : tyS_api_Blob.rep Z w cs x := by
  subst h
  exact ⟨_, _, (List.take_append_drop 1 _).symm, rfl, rfl⟩
structure S_api_Node where
  Name : (List UInt8)
  Kind : Int
  Mode : Int
  Time : Int
  Size : Int
  Parts : (List A8u8)
  Link : (List UInt8)
  deriving DecidableEq
def tyS_api_Node : Ty S_api_Node := tyVia (fun x => (x.Name, (x.Kind, (x.Mode, (x.Time, (x.Size, (x.Parts, x.Link))))))) (tyPair tyStr (tyPair (tyInt .i64) (tyPair (tyInt .i64) (tyPair (tyInt .i64) (tyPair (tyInt .i64) (tyPair (tyList tyA8u8) tyStr))))))
theorem subS_api_Node_0 : Sub tyS_api_Node 0 tyStr (fun x => x.Name) := Sub.via (Sub.fst (Sub.whole _))
def tyhS_api_Node : Ty (Value × S_api_Node) := tyVia (fun y => (y.2.Name, (y.2.Kind, (y.2.Mode, (y.2.Time, (y.2.Size, (y.1, y.2.Link))))))) (tyPair tyStr (tyPair (tyInt .i64) (tyPair (tyInt .i64) (tyPair (tyInt .i64) (tyPair (tyInt .i64) (tyPair tySl tyStr))))))
theorem encnS_api_Node {cs} {x : S_api_Node} : ∀ Z w, (fDat tyS_api_Node cs x).p Z w → ∃ j : Value, cs = [(str x.Name), (int .i64 x.Kind), (int .i64 x.Mode), (int .i64 x.Time), (int .i64 x.Size), j, (str x.Link)] ∧ ∀ g ∈ [(fDat (tyList tyA8u8) [j] x.Parts)], g.p Z w := by
  intro Z w h
  obtain ⟨c0, d0, rfl, p0, q0⟩ := h
  obtain ⟨c1, d1, rfl, p1, q1⟩ := q0
  obtain ⟨c2, d2, rfl, p2, q2⟩ := q1
  obtain ⟨c3, d3, rfl, p3, q3⟩ := q2
  obtain ⟨c4, d4, rfl, p4, q4⟩ := q3
  obtain ⟨c5, d5, rfl, p5, q5⟩ := q4
  obtain rfl : c0 = [(str x.Name)] := p0
  obtain rfl : c1 = [(int .i64 x.Kind)] := p1
  obtain rfl : c2 = [(int .i64 x.Mode)] := p2
  obtain rfl : c3 = [(int .i64 x.Time)] := p3
  obtain rfl : c4 = [(int .i64 x.Size)] := p4
  obtain ⟨v5, rfl⟩ := one_of p5
  obtain rfl : d5 = [(str x.Link)] := q5
  exact ⟨v5, rfl, (fall_cons p5 fall_nil)⟩
theorem mkhS_api_Node {Z w cs} {x : S_api_Node} {u : Value} (hc : cs = [(str x.Name), (int .i64 x.Kind), (int .i64 x.Mode), (int .i64 x.Time), (int .i64 x.Size), u, (str x.Link)]) (hu : ∃ A n c, u = .slice A n c) : tyhS_api_Node.rep Z w cs (u, x) := by
  subst hc
  exact ⟨_, _, (List.take_append_drop 1 _).symm, rfl, ⟨_, _, (List.take_append_drop 1 _).symm, rfl, ⟨_, _, (List.take_append_drop 1 _).symm, rfl, ⟨_, _, (List.take_append_drop 1 _).symm, rfl, ⟨_, _, (List.take_append_drop 1 _).symm, rfl, ⟨_, _, (List.take_append_drop 1 _).symm, ⟨rfl, hu⟩, rfl⟩⟩⟩⟩⟩⟩
theorem shS_api_Node {Z Z' w cs u} {x : S_api_Node} (h : tyhS_api_Node.rep Z w cs (u, x)) (hk : (tyList tyA8u8).rep Z' w [u] x.Parts) : tyS_api_Node.rep Z' w cs x := by
  obtain ⟨c0, d0, rfl, p0, q0⟩ := h
  obtain ⟨c1, d1, rfl, p1, q1⟩ := q0
  obtain ⟨c2, d2, rfl, p2, q2⟩ := q1
  obtain ⟨c3, d3, rfl, p3, q3⟩ := q2
  obtain ⟨c4, d4, rfl, p4, q4⟩ := q3
  obtain ⟨c5, d5, rfl, p5, q5⟩ := q4
  obtain ⟨rfl, _⟩ := p5
  exact ⟨_, _, rfl, p0, ⟨_, _, rfl, p1, ⟨_, _, rfl, p2, ⟨_, _, rfl, p3, ⟨_, _, rfl, p4, ⟨_, _, rfl, hk, q5⟩⟩⟩⟩⟩⟩
structure D_walk_planter where
  way : S_api_Way
  kids : (List ((List UInt8) × (List S_api_Item)))
  out : (List S_api_Blob)
  seen : (List (A8u8 × S_api_Blob))
  e : Int
def ofA8u8 (l : List UInt8) : A8u8 := match l.take 8 with | [e0, e1, e2, e3, e4, e5, e6, e7] => ⟨e0, e1, e2, e3, e4, e5, e6, e7⟩ | _ => ⟨0, 0, 0, 0, 0, 0, 0, 0⟩
theorem oflA8u8 {l : List UInt8} (hl : 8 ≤ l.length) {Z w cs} (hr : RepL tyU8 Z w cs (l.take 8)) : tyA8u8.rep Z w cs (ofA8u8 l) := by
  unfold ofA8u8
  have h8 : (l.take 8).length = 8 := by rw [List.length_take]; omega
  generalize l.take 8 = m at hr h8
  match m, h8, hr with
  | [e0, e1, e2, e3, e4, e5, e6, e7], _, hr => exact mkA8u8 (by rw [u8_cells hr]; rfl)
theorem coftA8u8 (l : List UInt8) (hl : l.length = 8) : cA8u8 (ofA8u8 l) = Lib.byteCells l := by
  match l, hl with
  | [e0, e1, e2, e3, e4, e5, e6, e7], _ => rfl
def cpA8u8 (x : A8u8) (l : List UInt8) : A8u8 := ofA8u8 (l.take 8 ++ (lA8u8 x).drop (l.take 8).length)
theorem ccpA8u8 (x : A8u8) (l : List UInt8) : cA8u8 (cpA8u8 x l) = Lib.byteCells (l.take 8) ++ (cA8u8 x).drop (l.take 8).length := by
  have h1 : (l.take 8).length ≤ 8 := by rw [List.length_take]; omega
  unfold cpA8u8
  rw [coftA8u8 _ (by rw [List.length_append, List.length_drop, lenA8u8]; omega)]
  unfold Lib.byteCells
  rw [List.map_append, List.map_drop]
  rfl
theorem cpcA8u8 (x : A8u8) (l : List UInt8) (pre post : List Value) : (pre ++ (cA8u8 x ++ post)).take pre.length ++ Lib.byteCells (l.take 8) ++ (pre ++ (cA8u8 x ++ post)).drop (pre.length + (l.take 8).length) = pre ++ (cA8u8 (cpA8u8 x l) ++ post) := by
  have h1 : (l.take 8).length ≤ (cA8u8 x).length := by rw [List.length_take]; exact Nat.min_le_left _ _
  rw [ccpA8u8, List.take_left, List.drop_append, List.drop_of_length_le (by omega), Nat.add_sub_cancel_left, List.drop_append_of_le_length h1]
  simp
theorem sz3 : szOf Tryz.prog 3 = some 1 := by kernel_rfl
theorem to3 : tyOf Tryz.prog 3 = some (1, 8, some (int .i64 (0 : Int))) := by kernel_rfl
theorem to4 : tyOf Tryz.prog 4 = some (1, 1, some (bool false)) := by kernel_rfl
theorem sz5 : szOf Tryz.prog 5 = some 1 := by kernel_rfl
theorem to5 : tyOf Tryz.prog 5 = some (1, 1, some (int .u8 (0 : Int))) := by kernel_rfl
theorem sz9 : szOf Tryz.prog 9 = some 1 := by kernel_rfl
theorem to9 : tyOf Tryz.prog 9 = some (1, 16, some (str ([] : List UInt8))) := by kernel_rfl
theorem sz23 : szOf Tryz.prog 23 = some 3 := by kernel_rfl
theorem sz25 : szOf Tryz.prog 25 = some 4 := by kernel_rfl
theorem to26 : tyOf Tryz.prog 26 = some (1, 24, some (Value.slice none 0 0)) := by kernel_rfl
theorem sz27 : szOf Tryz.prog 27 = some 1 := by kernel_rfl
theorem to28 : tyOf Tryz.prog 28 = some (8, 8, some (ag [(int .u8 (0 : Int)), (int .u8 (0 : Int)), (int .u8 (0 : Int)), (int .u8 (0 : Int)), (int .u8 (0 : Int)), (int .u8 (0 : Int)), (int .u8 (0 : Int)), (int .u8 (0 : Int))])) := by kernel_rfl
theorem sz29 : szOf Tryz.prog 29 = some 8 := by kernel_rfl
theorem to29 : tyOf Tryz.prog 29 = some (8, 8, some (ag [(int .u8 (0 : Int)), (int .u8 (0 : Int)), (int .u8 (0 : Int)), (int .u8 (0 : Int)), (int .u8 (0 : Int)), (int .u8 (0 : Int)), (int .u8 (0 : Int)), (int .u8 (0 : Int))])) := by kernel_rfl
theorem sz30 : szOf Tryz.prog 30 = some 1 := by kernel_rfl
theorem sz37 : szOf Tryz.prog 37 = some 2 := by kernel_rfl
theorem to37 : tyOf Tryz.prog 37 = some (2, 24, some (ag [(int .i64 (0 : Int)), (str ([] : List UInt8))])) := by kernel_rfl
theorem sz40 : szOf Tryz.prog 40 = some 1 := by kernel_rfl
theorem sz41 : szOf Tryz.prog 41 = some 1 := by kernel_rfl
theorem sz45 : szOf Tryz.prog 45 = some 5 := by kernel_rfl
theorem to45 : tyOf Tryz.prog 45 = some (5, 56, some (ag [(str ([] : List UInt8)), (int .i64 (0 : Int)), (int .i64 (0 : Int)), (int .i64 (0 : Int)), (str ([] : List UInt8))])) := by kernel_rfl
theorem sz62 : szOf Tryz.prog 62 = some 1 := by kernel_rfl
theorem sz64 : szOf Tryz.prog 64 = some 7 := by kernel_rfl
theorem to64 : tyOf Tryz.prog 64 = some (7, 88, some (ag [(str ([] : List UInt8)), (int .i64 (0 : Int)), (int .i64 (0 : Int)), (int .i64 (0 : Int)), (int .i64 (0 : Int)), (Value.slice none 0 0), (str ([] : List UInt8))])) := by kernel_rfl
theorem sz93 : szOf Tryz.prog 93 = some 1 := by kernel_rfl
theorem sz105 : szOf Tryz.prog 105 = some 0 := by kernel_rfl
theorem sz148 : szOf Tryz.prog 148 = some 16 := by kernel_rfl
theorem sz150 : szOf Tryz.prog 150 = some 18 := by kernel_rfl
theorem to150 : tyOf Tryz.prog 150 = some (18, 32, some (ag [(int .u8 (0 : Int)), (int .u8 (0 : Int)), (int .u8 (0 : Int)), (int .u8 (0 : Int)), (int .u8 (0 : Int)), (int .u8 (0 : Int)), (int .u8 (0 : Int)), (int .u8 (0 : Int)), (int .u8 (0 : Int)), (int .u8 (0 : Int)), (int .u8 (0 : Int)), (int .u8 (0 : Int)), (int .u8 (0 : Int)), (int .u8 (0 : Int)), (int .u8 (0 : Int)), (int .u8 (0 : Int)), (int .i64 (0 : Int)), (int .u32 (0 : Int))])) := by kernel_rfl
theorem sz153 : szOf Tryz.prog 153 = some 0 := by kernel_rfl
theorem mixed : Tryz.prog.follows .mixedOrders = true := by kernel_rfl
theorem eg29 : Tryz.prog.eqGuardType Tryz.prog.depth 29 = false := by kernel_rfl
theorem kt29 : Tryz.prog.keyTypeAt 20 29 = true := by kernel_rfl
theorem lv29 : leaves Tryz.prog 20 29 = some [5, 5, 5, 5, 5, 5, 5, 5] := by kernel_rfl
theorem injA8u8 {x y : A8u8} : (x == y) = true ↔ (cA8u8 x) = (cA8u8 y) := by
  rw [beq_iff_eq]
  constructor
  · rintro rfl; rfl
  · intro h
    obtain ⟨⟩ := x
    obtain ⟨⟩ := y
    simp only [A8u8.mk.injEq, cA8u8, str, List.cons_append, List.nil_append, List.cons.injEq, Value.int.injEq, Value.bool.injEq, Value.string.injEq, ByteArray.mk.injEq, Array.mk.injEq, Int.natCast_inj, UInt8.toNat_inj, true_and, and_true] at h ⊢
    first | exact h | simpa [and_assoc] using h
theorem eg37 : Tryz.prog.eqGuardType Tryz.prog.depth 37 = false := by kernel_rfl
theorem kt37 : Tryz.prog.keyTypeAt 20 37 = true := by kernel_rfl
theorem lv37 : leaves Tryz.prog 20 37 = some [3, 9] := by kernel_rfl
theorem injS_api_Blob {x y : S_api_Blob} : (x == y) = true ↔ [(int .i64 x.Kind), (str x.Bytes)] = [(int .i64 y.Kind), (str y.Bytes)] := by
  rw [beq_iff_eq]
  constructor
  · rintro rfl; rfl
  · intro h
    obtain ⟨⟩ := x
    obtain ⟨⟩ := y
    simp only [S_api_Blob.mk.injEq, str, List.cons_append, List.nil_append, List.cons.injEq, Value.int.injEq, Value.bool.injEq, Value.string.injEq, ByteArray.mk.injEq, Array.mk.injEq, Int.natCast_inj, UInt8.toNat_inj, true_and, and_true] at h ⊢
    first | exact h | simpa [and_assoc] using h
theorem kd9 : Go.Maps.Keyed Tryz.prog 9 := Go.Maps.string_keyed Tryz.underlying9
theorem kd29 : Go.Maps.Keyed Tryz.prog 29 := Go.Maps.Keyed.of_law (Go.deep_law_laid (by kernel_rfl) (m := 20) (by decide) (Nat.le_of_ble_eq_true (by kernel_rfl)) (by kernel_rfl) (by kernel_rfl))
theorem kw29 (x : A8u8) : ∃ t, keyOf Tryz.prog 29 (ag (cA8u8 x)) = some t := key_wide (ls := [5, 5, 5, 5, 5, 5, 5, 5]) (by kernel_rfl) (by kernel_rfl) (by kernel_rfl) (by kernel_rfl) (fit_cons (fit_u8 Tryz.underlying5) (fit_cons (fit_u8 Tryz.underlying5) (fit_cons (fit_u8 Tryz.underlying5) (fit_cons (fit_u8 Tryz.underlying5) (fit_cons (fit_u8 Tryz.underlying5) (fit_cons (fit_u8 Tryz.underlying5) (fit_cons (fit_u8 Tryz.underlying5) (fit_cons (fit_u8 Tryz.underlying5) fit_nil))))))))
theorem ki29 (a b : A8u8) (h : (fun x : A8u8 => ag (cA8u8 x)) a = (fun x : A8u8 => ag (cA8u8 x)) b) : a = b := eq_of_beq (injA8u8.2 (ag_inj h))
def okS_api_Cut (x : S_api_Cut) : Prop := ((Lit.int .i64 x.Min).wf = true) ∧ ((Lit.int .i64 x.Max).wf = true) ∧ ((Lit.int .i64 x.Bits).wf = true)
set_option maxRecDepth 100000 in
theorem opnS_api_Cut {H : Type} : Opn H Tryz.prog 23 tyS_api_Cut okS_api_Cut := opn_struct (fun x => (x.Min, (x.Max, x.Bits))) (fun y => S_api_Cut.mk y.1 y.2.1 y.2.2) (fun _ => rfl) Tryz.underlying23 sz23 (fields_cons sz3 (opn_int Tryz.underlying3) (fields_cons sz3 (opn_int Tryz.underlying3) (fields_one sz3 (opn_int Tryz.underlying3))))
def okS_api_Way (x : S_api_Way) : Prop := ((Lit.int .i64 x.Fixed).wf = true) ∧ (okS_api_Cut x.Cut)
set_option maxRecDepth 100000 in
theorem opnS_api_Way {H : Type} : Opn H Tryz.prog 25 tyS_api_Way okS_api_Way := opn_struct (fun x => (x.Fixed, x.Cut)) (fun y => S_api_Way.mk y.1 y.2) (fun _ => rfl) Tryz.underlying25 sz25 (fields_cons sz3 (opn_int Tryz.underlying3) (fields_one sz23 opnS_api_Cut))
def okS_api_Item (x : S_api_Item) : Prop := (x.Path.length ≤ 9223372036854775807) ∧ ((Lit.int .i64 x.Kind).wf = true) ∧ ((Lit.int .i64 x.Mode).wf = true) ∧ ((Lit.int .i64 x.Time).wf = true) ∧ (x.Bytes.length ≤ 9223372036854775807)
set_option maxRecDepth 100000 in
theorem opnS_api_Item {H : Type} : Opn H Tryz.prog 45 tyS_api_Item okS_api_Item := opn_struct (fun x => (x.Path, (x.Kind, (x.Mode, (x.Time, x.Bytes))))) (fun y => S_api_Item.mk y.1 y.2.1 y.2.2.1 y.2.2.2.1 y.2.2.2.2) (fun _ => rfl) Tryz.underlying45 sz45 (fields_cons sz9 (opn_str Tryz.underlying9) (fields_cons sz3 (opn_int Tryz.underlying3) (fields_cons sz3 (opn_int Tryz.underlying3) (fields_cons sz3 (opn_int Tryz.underlying3) (fields_one sz9 (opn_str Tryz.underlying9))))))
def okbS_api_Item (N : Nat) (x : S_api_Item) : Prop := ((x.Path.length ≤ 9223372036854775807 ∧ x.Path.length ≤ N)) ∧ ((Lit.int .i64 x.Kind).wf = true) ∧ ((Lit.int .i64 x.Mode).wf = true) ∧ ((Lit.int .i64 x.Time).wf = true) ∧ ((x.Bytes.length ≤ 9223372036854775807 ∧ x.Bytes.length ≤ N))
set_option maxRecDepth 100000 in
theorem opbS_api_Item {H : Type} : Opb H Tryz.prog 45 tyS_api_Item okbS_api_Item := opb_struct (fun x => (x.Path, (x.Kind, (x.Mode, (x.Time, x.Bytes))))) (fun y => S_api_Item.mk y.1 y.2.1 y.2.2.1 y.2.2.2.1 y.2.2.2.2) (fun _ => rfl) Tryz.underlying45 sz45 (fieldsb_cons sz9 (opb_str Tryz.underlying9) (fieldsb_cons sz3 (opb_of (opn_int Tryz.underlying3)) (fieldsb_cons sz3 (opb_of (opn_int Tryz.underlying3)) (fieldsb_cons sz3 (opb_of (opn_int Tryz.underlying3)) (fieldsb_one sz9 (opb_str Tryz.underlying9))))))
theorem f_put8_ok {g off t : Nat} {a2 : Int} {cs cs' : List Value} (hc : 0 ≤ a2 ∧ a2 < 18446744073709551616) (hfit : off + 8 ≤ cs.length) (hcs : cs.take off ++ Lib.byteCells ((Lib.beBytes 8 a2.toNat).take 8) ++ cs.drop (off + ((Lib.beBytes 8 a2.toNat).take 8).length) = cs') :
    FnOk Tryz.prog 80 [(ag []), (sbx g off 8), (uq a2)] [] [oBox g t cs] (fun _ : Unit => { val := .tuple #[], own := [oBox g t cs'] }) := by
  obtain ⟨n, rfl⟩ : ∃ n : Nat, a2 = n := ⟨a2.toNat, by omega⟩
  have hl : (Lib.beBytes 8 n).length = 8 := Lib.beBytes_length 8 n
  have hcs' : cs.take off ++ Lib.byteCells (Lib.beBytes 8 n) ++ cs.drop (off + 8) = cs' := by
    have e : (Lib.beBytes 8 ((n : Int).toNat)).take 8 = Lib.beBytes 8 n := by rw [Int.toNat_natCast, List.take_of_length_le (by omega)]
    rw [e, hl] at hcs; exact hcs
  exact fnok_put8 hl hfit hcs' (fun x0 x1 x2 x3 x4 x5 x6 x7 w c0 c1 c2 c3 c4 c5 c6 c7 f0 f1 f2 f3 f4 f5 f6 f7 => Tryz.binary_BE_PutUint64 g off 8 8 n (by omega) x0 x1 x2 x3 x4 x5 x6 x7 w (by omega) c0 c1 c2 c3 c4 c5 c6 c7 f0 f1 f2 f3 f4 f5 f6 f7)
def f_chunk_Check (fu : Nat) (a0 : S_api_Cut) : Option Int := (lt (fun (j2b27 : Bool) => (bif j2b27 then (some (1 : Int)) else (some (0 : Int)))) fun (kk3 : Bool → Option Int) => (bif (decide (a0.Min < (16 : Int))) then (kk3 true) else (bif (decide (a0.Max < a0.Min)) then (kk3 true) else (bif (decide (a0.Max > (1024 : Int))) then (kk3 true) else (bif (decide (a0.Bits < (1 : Int))) then (kk3 true) else (kk3 (decide (a0.Bits > (12 : Int)))))))))
set_option maxHeartbeats 2000000 in
set_option maxRecDepth 100000 in
theorem f_chunk_Check_ok (fu : Nat) (a0 : S_api_Cut) {r : Int} (h : f_chunk_Check fu a0 = some r) : FnOk Tryz.prog 20 [(ag [(int .i64 a0.Min), (int .i64 a0.Max), (int .i64 a0.Bits)])] [] [] (fun (i : Unit) => { val := (int .i64 r) }) := by
 unfold f_chunk_Check at h
 refine fn_enter Tryz.func20 rfl Tryz.ntmps20 rfl (fun w0 Z0 => ?_)
 refine aw_sr ?_
 refine al_box (vs := [(iq a0.Min), (iq a0.Max), (iq a0.Bits)]) rfl (cv_rfl rfl) rfl (fun g1 => ?_)
 refine an_ ?_
 refine aw_seq ?_
 obtain ⟨kk3, hkk3, h⟩ := lt_some h
 refine aw_seq_join (ι := Bool) (fun i => (memOf w0 Z0 [] [] [])) (fun i => (tab [(27, (bool i))])) (fun i => kk3 i = some r) ?_ ?_
 rintro j2b27 h
 have h : kk3 j2b27 = some r := h
 rw [hkk3] at h
 dsimp only at h
 clear hkk3
 refine aw_show (m := (memOf w0 Z0 [] [] [])) (S := _) ?_
 refine aw_cond rfl (fun hb4 => ?_) (fun hb4 => ?_)
 replace h := bif_t hb4 h
 refine aw_sr ?_
 refine an_ ?_
 refine aw_ret ?_
 refine aq_then_ret ?_
 cases h
 exact fr1_
 replace h := bif_f hb4 h
 refine aw_skip ?_
 refine aq_tr ?_
 refine an_ ?_
 refine aw_ret ?_
 cases h
 exact fr1_
 clear hkk3
 refine aw_region ?_
 refine al_val (ov_fieldA (p := 0) rfl Tryz.underlying23 rfl sz3 rfl rfl rfl) ?_
 refine al_val (ov_load (i := 0) (v := (iq a0.Min)) rfl rfl Tryz.underlying3 sz3 rfl rfl rfl rfl) ?_
 refine in_ ?_
 refine mv_ ?_
 refine al_caseB 6 rfl (fun hb5 => ?_) (fun hb5 => ?_)
 replace h := bif_t hb5 h
 iterate 5 refine al_skip ?_
 refine al_val (ov_pick_t rfl rfl rfl) ?_
 refine mv_ ?_
 iterate 3 refine al_skip ?_
 refine al_val (ov_pick_t rfl rfl rfl) ?_
 refine mv_ ?_
 iterate 3 refine al_skip ?_
 refine al_val (ov_pick_t rfl rfl rfl) ?_
 refine mv_ ?_
 iterate 3 refine al_skip ?_
 refine al_val (ov_pick_t rfl rfl rfl) ?_
 refine al_nil ?_
 exact aq_join true h (nm_ [] [] (by decide) ⟨rfl, trivial⟩)
 replace h := bif_f hb5 h
 refine al_val (ov_fieldA (p := 1) rfl Tryz.underlying23 rfl sz3 rfl rfl rfl) ?_
 refine al_val (ov_load (i := 0) (v := (iq a0.Max)) rfl rfl Tryz.underlying3 sz3 rfl rfl rfl rfl) ?_
 refine al_val (ov_fieldA (p := 0) rfl Tryz.underlying23 rfl sz3 rfl rfl rfl) ?_
 refine al_val (ov_load (i := 0) (v := (iq a0.Min)) rfl rfl Tryz.underlying3 sz3 rfl rfl rfl rfl) ?_
 refine in_ ?_
 refine al_val (ov_pick_f rfl rfl rfl) ?_
 refine mv_ ?_
 refine al_caseB 13 rfl (fun hb6 => ?_) (fun hb6 => ?_)
 replace h := bif_t hb6 h
 iterate 3 refine al_skip ?_
 refine al_val (ov_pick_t rfl rfl rfl) ?_
 refine mv_ ?_
 iterate 3 refine al_skip ?_
 refine al_val (ov_pick_t rfl rfl rfl) ?_
 refine mv_ ?_
 iterate 3 refine al_skip ?_
 refine al_val (ov_pick_t rfl rfl rfl) ?_
 refine al_nil ?_
 exact aq_join true h (nm_ [] [] (by decide) ⟨rfl, trivial⟩)
 replace h := bif_f hb6 h
 refine al_val (ov_fieldA (p := 1) rfl Tryz.underlying23 rfl sz3 rfl rfl rfl) ?_
 refine al_val (ov_load (i := 0) (v := (iq a0.Max)) rfl rfl Tryz.underlying3 sz3 rfl rfl rfl rfl) ?_
 refine in_ ?_
 refine al_val (ov_pick_f rfl rfl rfl) ?_
 refine mv_ ?_
 refine al_caseB 18 rfl (fun hb7 => ?_) (fun hb7 => ?_)
 replace h := bif_t hb7 h
 iterate 3 refine al_skip ?_
 refine al_val (ov_pick_t rfl rfl rfl) ?_
 refine mv_ ?_
 iterate 3 refine al_skip ?_
 refine al_val (ov_pick_t rfl rfl rfl) ?_
 refine al_nil ?_
 exact aq_join true h (nm_ [] [] (by decide) ⟨rfl, trivial⟩)
 replace h := bif_f hb7 h
 refine al_val (ov_fieldA (p := 2) rfl Tryz.underlying23 rfl sz3 rfl rfl rfl) ?_
 refine al_val (ov_load (i := 0) (v := (iq a0.Bits)) rfl rfl Tryz.underlying3 sz3 rfl rfl rfl rfl) ?_
 refine in_ ?_
 refine al_val (ov_pick_f rfl rfl rfl) ?_
 refine mv_ ?_
 refine al_caseB 23 rfl (fun hb8 => ?_) (fun hb8 => ?_)
 replace h := bif_t hb8 h
 iterate 3 refine al_skip ?_
 refine al_val (ov_pick_t rfl rfl rfl) ?_
 refine al_nil ?_
 exact aq_join true h (nm_ [] [] (by decide) ⟨rfl, trivial⟩)
 replace h := bif_f hb8 h
 refine al_val (ov_fieldA (p := 2) rfl Tryz.underlying23 rfl sz3 rfl rfl rfl) ?_
 refine al_val (ov_load (i := 0) (v := (iq a0.Bits)) rfl rfl Tryz.underlying3 sz3 rfl rfl rfl rfl) ?_
 refine in_ ?_
 refine al_val (ov_pick_f rfl rfl rfl) ?_
 refine al_nil ?_
 exact aq_join (decide (a0.Bits > (12 : Int))) h (nm_ [] [] (by decide) ⟨rfl, trivial⟩)
def f_walk_WayOK (fu : Nat) (a0 : S_api_Way) : Option Int := (bif (a0.Fixed == (0 : Int)) then (opt (f_chunk_Check fu a0.Cut) fun (r4 : Int) => (some r4)) else (lt (fun (j5b16 : Bool) => (bif j5b16 then (some (1 : Int)) else (some (0 : Int)))) fun (kk6 : Bool → Option Int) => (bif (decide (a0.Fixed < (16 : Int))) then (kk6 true) else (kk6 (decide (a0.Fixed > (1024 : Int)))))))
set_option maxHeartbeats 2000000 in
set_option maxRecDepth 100000 in
theorem f_walk_WayOK_ok (fu : Nat) (a0 : S_api_Way) {r : Int} (h : f_walk_WayOK fu a0 = some r) : FnOk Tryz.prog 8 [(ag [(int .i64 a0.Fixed), (int .i64 a0.Cut.Min), (int .i64 a0.Cut.Max), (int .i64 a0.Cut.Bits)])] [] [] (fun (i : Unit) => { val := (int .i64 r) }) := by
 unfold f_walk_WayOK at h
 refine fn_enter Tryz.func8 rfl Tryz.ntmps8 rfl (fun w0 Z0 => ?_)
 refine aw_sr ?_
 refine al_box (vs := [(iq a0.Fixed), (iq a0.Cut.Min), (iq a0.Cut.Max), (iq a0.Cut.Bits)]) rfl (cv_rfl rfl) rfl (fun g1 => ?_)
 refine an_ ?_
 refine aw_seq ?_
 refine aw_sr ?_
 refine al_val (ov_fieldA (p := 0) rfl Tryz.underlying25 rfl sz3 rfl rfl rfl) ?_
 refine al_val (ov_load (i := 0) (v := (iq a0.Fixed)) rfl rfl Tryz.underlying3 sz3 rfl rfl rfl rfl) ?_
 refine im_ ?_
 refine aw_cond rfl (fun hb2 => ?_) (fun hb2 => ?_)
 replace h := bif_t hb2 h
 refine aw_sr ?_
 refine al_val (ov_fieldA (p := 1) rfl Tryz.underlying25 rfl sz23 rfl rfl rfl) ?_
 refine al_val (ov_load (i := 0) (v := (ag [(iq a0.Cut.Min), (iq a0.Cut.Max), (iq a0.Cut.Bits)])) rfl rfl Tryz.underlying23 sz23 rfl rfl rfl rfl) ?_
 obtain ⟨r4, hc3, h⟩ := opt_some h
 refine al_call (vs := [(ag [(iq a0.Cut.Min), (iq a0.Cut.Max), (iq a0.Cut.Bits)])]) (f_chunk_Check_ok fu a0.Cut hc3) [] [] [0] pre_nil rfl (by simp) (by decide) (.inl rfl) rfl Tryz.func20 rfl rfl rfl (fun _ => ?_)
 refine an_ ?_
 refine aw_ret ?_
 refine aq_then_ret ?_
 cases h
 exact fr1_
 replace h := bif_f hb2 h
 refine aw_skip ?_
 refine aq_then ?_
 refine aw_seq ?_
 obtain ⟨kk6, hkk6, h⟩ := lt_some h
 refine aw_seq_join (ι := Bool) (fun i => (memOf w0 Z0 [] [] [])) (fun i => (tab [(16, (bool i))])) (fun i => kk6 i = some r) ?_ ?_
 rintro j5b16 h
 have h : kk6 j5b16 = some r := h
 rw [hkk6] at h
 dsimp only at h
 clear hkk6
 refine aw_show (m := (memOf w0 Z0 [] [] [])) (S := _) ?_
 refine aw_cond rfl (fun hb7 => ?_) (fun hb7 => ?_)
 replace h := bif_t hb7 h
 refine aw_sr ?_
 refine an_ ?_
 refine aw_ret ?_
 refine aq_then_ret ?_
 cases h
 exact fr1_
 replace h := bif_f hb7 h
 refine aw_skip ?_
 refine aq_tr ?_
 refine an_ ?_
 refine aw_ret ?_
 cases h
 exact fr1_
 clear hkk6
 refine aw_region ?_
 refine al_val (ov_fieldA (p := 0) rfl Tryz.underlying25 rfl sz3 rfl rfl rfl) ?_
 refine al_val (ov_load (i := 0) (v := (iq a0.Fixed)) rfl rfl Tryz.underlying3 sz3 rfl rfl rfl rfl) ?_
 refine in_ ?_
 refine mv_ ?_
 refine al_caseB 12 rfl (fun hb8 => ?_) (fun hb8 => ?_)
 replace h := bif_t hb8 h
 iterate 3 refine al_skip ?_
 refine al_val (ov_pick_t rfl rfl rfl) ?_
 refine al_nil ?_
 exact aq_join true h (nm_ [] [] (by decide) ⟨rfl, trivial⟩)
 replace h := bif_f hb8 h
 refine al_val (ov_fieldA (p := 0) rfl Tryz.underlying25 rfl sz3 rfl rfl rfl) ?_
 refine al_val (ov_load (i := 0) (v := (iq a0.Fixed)) rfl rfl Tryz.underlying3 sz3 rfl rfl rfl rfl) ?_
 refine in_ ?_
 refine al_val (ov_pick_f rfl rfl rfl) ?_
 refine al_nil ?_
 exact aq_join (decide (a0.Fixed > (1024 : Int))) h (nm_ [] [] (by decide) ⟨rfl, trivial⟩)
def f_stringslite_HasPrefix (fu : Nat) (a0 : (List UInt8)) (a1 : (List UInt8)) : Option Bool := (lt (fun (j1b4 : Bool) => (some j1b4)) fun (kk2 : Bool → Option Bool) => (bif (decide ((a0.length : Int) ≥ (a1.length : Int))) then (req (0 ≤ (a1.length : Int) ∧ (a1.length : Int) ≤ (a0.length : Int)) (kk2 ((a0.take ((a1.length : Int)).toNat) == a1))) else (kk2 false)))
set_option maxHeartbeats 2000000 in
set_option maxRecDepth 100000 in
theorem f_stringslite_HasPrefix_ok (fu : Nat) (a0 : (List UInt8)) (a1 : (List UInt8)) {r : Bool} (h : f_stringslite_HasPrefix fu a0 a1 = some r) : FnOk Tryz.prog 89 [(str a0), (str a1)] [] [] (fun (i : Unit) => { val := (bool r) }) := by
 unfold f_stringslite_HasPrefix at h
 refine fn_enter Tryz.func89 rfl Tryz.ntmps89 rfl (fun w0 Z0 => ?_)
 refine aw_sr ?_
 refine an_ ?_
 obtain ⟨kk2, hkk2, h⟩ := lt_some h
 refine aw_seq_join (ι := Bool) (fun i => (memOf w0 Z0 [] [] [])) (fun i => (tab [(4, (bool i))])) (fun i => kk2 i = some r) ?_ ?_
 rintro j1b4 h
 have h : kk2 j1b4 = some r := h
 rw [hkk2] at h
 dsimp only at h
 clear hkk2
 refine aw_show (m := (memOf w0 Z0 [] [] [])) (S := _) ?_
 refine aw_ret ?_
 cases h
 exact fr1_
 clear hkk2
 refine aw_region ?_
 refine mv_ ?_
 refine al_val (ov_strLen Tryz.underlying9 rfl rfl) ?_
 refine mv_ ?_
 refine al_val (ov_strLen Tryz.underlying9 rfl rfl) ?_
 refine in_ ?_
 refine mv_ ?_
 refine al_caseB 10 rfl (fun hb3 => ?_) (fun hb3 => ?_)
 replace h := bif_t hb3 h
 refine mv_ ?_
 refine mv_ ?_
 refine al_val (ov_strLen Tryz.underlying9 rfl rfl) ?_
 obtain ⟨hc4, h⟩ := req_some h
 refine al_val (ov_strTo hc4.1 hc4.2 Tryz.underlying9 rfl rfl rfl) ?_
 refine mv_ ?_
 refine al_val (ov_strCmp rfl rfl rfl rfl) ?_
 refine al_val (ov_pick_t rfl rfl rfl) ?_
 refine as_ ?_
 refine al_nil ?_
 exact aq_join ((a0.take ((a1.length : Int)).toNat) == a1) h (nm_ [] [] (by decide) ⟨rfl, trivial⟩)
 replace h := bif_f hb3 h
 iterate 6 refine al_skip ?_
 refine al_val (ov_pick_f rfl rfl rfl) ?_
 refine as_ ?_
 refine al_nil ?_
 exact aq_join false h (nm_ [] [] (by decide) ⟨rfl, trivial⟩)
def f_stringslite_CutPrefix (fu : Nat) (a0 : (List UInt8)) (a1 : (List UInt8)) : Option ((List UInt8) × Bool) := (opt (f_stringslite_HasPrefix fu a0 a1) fun (r2 : Bool) => (bif (!r2) then (some (a0, false)) else (req (0 ≤ (a1.length : Int) ∧ (a1.length : Int) ≤ (a0.length : Int)) (some ((a0.drop ((a1.length : Int)).toNat), true)))))
set_option maxHeartbeats 2000000 in
set_option maxRecDepth 100000 in
theorem f_stringslite_CutPrefix_ok (fu : Nat) (a0 : (List UInt8)) (a1 : (List UInt8)) {r : ((List UInt8) × Bool)} (h : f_stringslite_CutPrefix fu a0 a1 = some r) : FnOk Tryz.prog 74 [(str a0), (str a1)] [] [] (fun (i : Unit) => { val := (Value.tuple #[(str r.1), (bool r.2)]) }) := by
 unfold f_stringslite_CutPrefix at h
 refine fn_enter Tryz.func74 rfl Tryz.ntmps74 rfl (fun w0 Z0 => ?_)
 refine aw_sr ?_
 refine as_ ?_
 refine an_ ?_
 refine aw_seq ?_
 refine sm_ ?_
 refine mv_ ?_
 obtain ⟨r2, hc1, h⟩ := opt_some h
 refine al_call (vs := [(str a0), (str a1)]) (f_stringslite_HasPrefix_ok fu a0 a1 hc1) [] [] [] pre_nil rfl (by simp) (by decide) (.inl rfl) rfl Tryz.func89 rfl rfl rfl (fun _ => ?_)
 refine al_val (ov_not rfl rfl) ?_
 refine al_nt ?_
 refine aw_cond rfl (fun hb3 => ?_) (fun hb3 => ?_)
 replace h := bif_t hb3 h
 refine sm_ ?_
 refine as_ ?_
 refine an_ ?_
 refine aw_ret ?_
 refine aq_then_ret ?_
 cases h
 exact fr2_
 replace h := bif_f hb3 h
 refine aw_skip ?_
 refine aq_tr ?_
 refine mv_ ?_
 refine mv_ ?_
 refine al_val (ov_strLen Tryz.underlying9 rfl rfl) ?_
 obtain ⟨hc4, h⟩ := req_some h
 refine al_val (ov_strFrom hc4.1 hc4.2 Tryz.underlying9 rfl rfl rfl) ?_
 refine as_ ?_
 refine an_ ?_
 refine aw_ret ?_
 cases h
 exact fr2_
def f_strings_CutPrefix (fu : Nat) (a0 : (List UInt8)) (a1 : (List UInt8)) : Option ((List UInt8) × Bool) := (opt (f_stringslite_CutPrefix fu a0 a1) fun (r2 : ((List UInt8) × Bool)) => (some (r2.1, r2.2)))
set_option maxRecDepth 100000 in
theorem f_strings_CutPrefix_ok (fu : Nat) (a0 : (List UInt8)) (a1 : (List UInt8)) {r : ((List UInt8) × Bool)} (h : f_strings_CutPrefix fu a0 a1 = some r) : FnOk Tryz.prog 53 [(str a0), (str a1)] [] [] (fun (i : Unit) => { val := (Value.tuple #[(str r.1), (bool r.2)]) }) := by
 unfold f_strings_CutPrefix at h
 refine fn_enter Tryz.func53 rfl Tryz.ntmps53 rfl (fun w0 Z0 => ?_)
 refine aw_sr ?_
 refine as_ ?_
 refine an_ ?_
 refine sm_ ?_
 refine mv_ ?_
 obtain ⟨r2, hc1, h⟩ := opt_some h
 refine al_call (vs := [(str a0), (str a1)]) (f_stringslite_CutPrefix_ok fu a0 a1 hc1) [] [] [] pre_nil rfl (by simp) (by decide) (.inl rfl) rfl Tryz.func74 rfl rfl rfl (fun _ => ?_)
 refine al_ex rfl rfl rfl ?_
 refine al_ex rfl rfl rfl ?_
 refine as_ ?_
 refine an_ ?_
 refine aw_ret ?_
 cases h
 exact fr2_
def f_names_Check_L10 (a0 : (List UInt8)) (kk5 : (Int → Option Int)) : Nat → Int → Int → Option Int
  | 0, _, _ => none
  | k9 + 1, l8i3, l8xp22 => (bif (decide (l8xp22.toNat < a0.length)) then (lt (fun (j12b35 : Bool) => (bif j12b35 then (some (8 : Int)) else (f_names_Check_L10 a0 kk5 k9 (IntKind.i64.wrap (l8i3 + (1 : Int))) ((l8xp22.toNat + (dec a0 l8xp22.toNat).2 : Nat) : Int)))) fun (kk13 : Bool → Option Int) => (bif ((((dec a0 l8xp22.toNat).1 : Nat) : Int) == (47 : Int)) then (kk13 true) else (bif (decide ((((dec a0 l8xp22.toNat).1 : Nat) : Int) < (32 : Int))) then (kk13 true) else (kk13 ((((dec a0 l8xp22.toNat).1 : Nat) : Int) == (127 : Int)))))) else (kk5 l8i3))
def f_names_Check (fu : Nat) (a0 : (List UInt8)) : Option Int := (lt (fun (j1b20 : Bool) => (bif j1b20 then (some (8 : Int)) else (lt (fun (j4i3 : Int) => (bif (decide (j4i3 > (24 : Int))) then (some (2 : Int)) else (some (0 : Int)))) fun (kk5 : Int → Option Int) => (f_names_Check_L10 a0 kk5 fu (0 : Int) (0 : Int))))) fun (kk2 : Bool → Option Int) => (bif (a0 == ([] : List UInt8)) then (kk2 true) else (bif (a0 == ([46] : List UInt8)) then (kk2 true) else (bif (a0 == ([46, 46] : List UInt8)) then (kk2 true) else (opt (f_utf8_ValidString fu a0) fun (r21 : Bool) => (kk2 (!r21)))))))
set_option maxHeartbeats 2000000 in
set_option maxRecDepth 100000 in
theorem f_names_Check_ok (fu : Nat) (a0 : (List UInt8)) {r : Int} (h : f_names_Check fu a0 = some r) : FnOk Tryz.prog 62 [(str a0)] [uTabs] [] (fun (i : Unit) => { val := (int .i64 r) }) := by
 unfold f_names_Check at h
 refine fn_enter Tryz.func62 rfl Tryz.ntmps62 rfl (fun w0 Z0 => ?_)
 refine aw_sr ?_
 refine an_ ?_
 refine aw_seq ?_
 obtain ⟨kk2, hkk2, h⟩ := lt_some h
 refine aw_seq_join (ι := Bool) (fun i => (memOf w0 Z0 [] [] [uTabs])) (fun i => (tab [(0, (str a0)), (20, (bool i))])) (fun i => kk2 i = some r) ?_ ?_
 rintro j1b20 h
 have h : kk2 j1b20 = some r := h
 rw [hkk2] at h
 dsimp only at h
 clear hkk2
 refine aw_show (m := (memOf w0 Z0 [] [] [uTabs])) (S := _) ?_
 refine aw_cond rfl (fun hb3 => ?_) (fun hb3 => ?_)
 replace h := bif_t hb3 h
 refine aw_sr ?_
 refine an_ ?_
 refine aw_ret ?_
 refine aq_then_ret ?_
 cases h
 exact fr1_
 replace h := bif_f hb3 h
 refine aw_skip ?_
 refine aq_tr ?_
 refine an_ ?_
 obtain ⟨kk5, hkk5, h⟩ := lt_some h
 refine aw_seq_join (ι := Int) (fun i => (memOf w0 Z0 [] [] [uTabs])) (fun i => (tab [(3, (iq i))])) (fun i => kk5 i = some r) ?_ ?_
 rintro j4i3 h
 have h : kk5 j4i3 = some r := h
 rw [hkk5] at h
 dsimp only at h
 clear hkk5
 refine aw_show (m := (memOf w0 Z0 [] [] [uTabs])) (S := _) ?_
 refine aw_seq ?_
 refine sm_ ?_
 refine im_ ?_
 refine aw_cond rfl (fun hb6 => ?_) (fun hb6 => ?_)
 replace h := bif_t hb6 h
 refine aw_sr ?_
 refine an_ ?_
 refine aw_ret ?_
 refine aq_then_ret ?_
 cases h
 exact fr1_
 replace h := bif_f hb6 h
 refine aw_skip ?_
 refine aq_tr ?_
 refine an_ ?_
 refine aw_ret ?_
 cases h
 exact fr1_
 clear hkk5
 refine sm_ ?_
 refine al_range rfl Tryz.underlying9 rfl (fun g7 => ?_)
 refine al_nt ?_
 refine aw_block ?_
 refine aw_state (aw_loop (ι := Int × Int) (fun i => (memOf w0 Z0 [] [(oIter g7 a0 i.2)] [uTabs])) (fun i => (tab [(3, (iq i.1)), (22, (pq g7))])) (fun q i => f_names_Check_L10 a0 kk5 q i.1 i.2 = some r) ?_ fu ((0 : Int), (0 : Int)) h) (nm_ [0] [0] (by decide) ⟨rfl, rfl, trivial⟩)
 clear h
 rintro k9 ⟨l8i3, l8xp22⟩ h
 have h : f_names_Check_L10 a0 kk5 k9 l8i3 l8xp22 = some r := h
 obtain _ | k9 := k9
 rw [f_names_Check_L10] at h; cases h
 rw [f_names_Check_L10] at h
 refine aw_show (m := (memOf w0 Z0 [] [(oIter g7 a0 l8xp22)] [uTabs])) (S := _) ?_
 refine aw_sr ?_
 refine al_next 0 rfl rfl rfl (fun hn11 => ?_) (fun hn11 => ?_)
 replace h := bif_t (decide_eq_true hn11) h
 refine al_ex rfl rfl rfl ?_
 refine al_nt ?_
 refine aw_seq ?_
 refine aw_cond_t rfl ?_
 refine aw_skip ?_
 refine aq_then ?_
 refine aw_block ?_
 refine aw_sr ?_
 refine al_ex rfl rfl rfl ?_
 refine an_ ?_
 refine aw_seq ?_
 obtain ⟨kk13, hkk13, h⟩ := lt_some h
 refine aw_seq_join (ι := Bool) (fun i => (memOf w0 Z0 [] [(oIter g7 a0 ((l8xp22.toNat + (dec a0 l8xp22.toNat).2 : Nat) : Int))] [uTabs])) (fun i => (tab [(3, (iq l8i3)), (22, (pq g7)), (35, (bool i))])) (fun i => kk13 i = some r) ?_ ?_
 rintro j12b35 h
 have h : kk13 j12b35 = some r := h
 rw [hkk13] at h
 dsimp only at h
 clear hkk13
 refine aw_show (m := (memOf w0 Z0 [] [(oIter g7 a0 ((l8xp22.toNat + (dec a0 l8xp22.toNat).2 : Nat) : Int))] [uTabs])) (S := _) ?_
 refine aw_cond rfl (fun hb14 => ?_) (fun hb14 => ?_)
 replace h := bif_t hb14 h
 refine aw_sr ?_
 refine an_ ?_
 refine aw_ret ?_
 refine aq_then_ret ?_
 refine aq_block_ret ?_
 refine aq_then_ret ?_
 refine aq_block_ret ?_
 refine aq_then_ret ?_
 cases h
 exact fr1_
 replace h := bif_f hb14 h
 refine aw_skip ?_
 refine aq_then ?_
 refine aw_region ?_
 refine mv_ ?_
 refine in_ ?_
 refine as_ ?_
 refine al_nil ?_
 refine aq_block ?_
 exact aq_again k9 ((wq (l8i3 + (1 : Int))), ((l8xp22.toNat + (dec a0 l8xp22.toNat).2 : Nat) : Int)) (Nat.lt_succ_self _) h (nm_ [0] [0] (by decide) ⟨rfl, rfl, trivial⟩)
 clear hkk13
 refine aw_region ?_
 refine mv_ ?_
 refine in_ ?_
 refine mv_ ?_
 refine al_caseB 28 rfl (fun hb15 => ?_) (fun hb15 => ?_)
 replace h := bif_t hb15 h
 refine al_skip ?_
 refine al_skip ?_
 refine al_val (ov_pick_t rfl rfl rfl) ?_
 refine mv_ ?_
 refine al_skip ?_
 refine al_skip ?_
 refine al_val (ov_pick_t rfl rfl rfl) ?_
 refine al_nil ?_
 exact aq_join true h (nm_ [0] [0] (by decide) ⟨rfl, rfl, rfl, trivial⟩)
 replace h := bif_f hb15 h
 refine mv_ ?_
 refine in_ ?_
 refine al_val (ov_pick_f rfl rfl rfl) ?_
 refine mv_ ?_
 refine al_caseB 32 rfl (fun hb16 => ?_) (fun hb16 => ?_)
 replace h := bif_t hb16 h
 refine al_skip ?_
 refine al_skip ?_
 refine al_val (ov_pick_t rfl rfl rfl) ?_
 refine al_nil ?_
 exact aq_join true h (nm_ [0] [0] (by decide) ⟨rfl, rfl, rfl, trivial⟩)
 replace h := bif_f hb16 h
 refine mv_ ?_
 refine in_ ?_
 refine al_val (ov_pick_f rfl rfl rfl) ?_
 refine al_nil ?_
 exact aq_join ((((dec a0 l8xp22.toNat).1 : Nat) : Int) == (127 : Int)) h (nm_ [0] [0] (by decide) ⟨rfl, rfl, rfl, trivial⟩)
 replace h := bif_f (decide_eq_false hn11) h
 refine al_ex rfl rfl rfl ?_
 refine al_nt ?_
 refine aw_seq ?_
 refine aw_cond_f rfl ?_
 refine aw_exit ?_
 refine aq_then_exit ?_
 refine aq_then_exit ?_
 refine aq_block_exit ?_
 exact aq_join l8i3 h (nm_ [] [0] (by decide) ⟨rfl, trivial⟩)
 clear hkk2
 refine aw_region ?_
 refine mv_ ?_
 refine al_val (ov_strCmp rfl rfl rfl rfl) ?_
 refine mv_ ?_
 refine al_caseB 8 rfl (fun hb17 => ?_) (fun hb17 => ?_)
 replace h := bif_t hb17 h
 refine al_skip ?_
 refine al_skip ?_
 refine al_val (ov_pick_t rfl rfl rfl) ?_
 refine mv_ ?_
 refine al_skip ?_
 refine al_skip ?_
 refine al_val (ov_pick_t rfl rfl rfl) ?_
 refine mv_ ?_
 iterate 3 refine al_skip ?_
 refine al_val (ov_pick_t rfl rfl rfl) ?_
 refine al_nil ?_
 exact aq_join true h (nm_ [] [0] (by decide) ⟨rfl, rfl, trivial⟩)
 replace h := bif_f hb17 h
 refine mv_ ?_
 refine al_val (ov_strCmp rfl rfl rfl rfl) ?_
 refine al_val (ov_pick_f rfl rfl rfl) ?_
 refine mv_ ?_
 refine al_caseB 12 rfl (fun hb18 => ?_) (fun hb18 => ?_)
 replace h := bif_t hb18 h
 refine al_skip ?_
 refine al_skip ?_
 refine al_val (ov_pick_t rfl rfl rfl) ?_
 refine mv_ ?_
 iterate 3 refine al_skip ?_
 refine al_val (ov_pick_t rfl rfl rfl) ?_
 refine al_nil ?_
 exact aq_join true h (nm_ [] [0] (by decide) ⟨rfl, rfl, trivial⟩)
 replace h := bif_f hb18 h
 refine mv_ ?_
 refine al_val (ov_strCmp rfl rfl rfl rfl) ?_
 refine al_val (ov_pick_f rfl rfl rfl) ?_
 refine mv_ ?_
 refine al_caseB 16 rfl (fun hb19 => ?_) (fun hb19 => ?_)
 replace h := bif_t hb19 h
 iterate 3 refine al_skip ?_
 refine al_val (ov_pick_t rfl rfl rfl) ?_
 refine al_nil ?_
 exact aq_join true h (nm_ [] [0] (by decide) ⟨rfl, rfl, trivial⟩)
 replace h := bif_f hb19 h
 refine mv_ ?_
 obtain ⟨r21, hc20, h⟩ := opt_some h
 refine al_call (vs := [(str a0)]) (f_utf8_ValidString_ok fu a0 hc20) [] [] [] (pre_fz 0 rfl pre_nil) rfl (by simp) (by decide) (.inl rfl) rfl Tryz.func82 rfl rfl rfl (fun _ => ?_)
 refine al_val (ov_not rfl rfl) ?_
 refine al_val (ov_pick_f rfl rfl rfl) ?_
 refine al_nil ?_
 exact aq_join (!r21) h (nm_ [] [0] (by decide) ⟨rfl, rfl, trivial⟩)
def f_names_checkAll_L5 (a0 : (List (List UInt8))) (kk2 : (Unit → Option Int)) (fu : Nat) : Nat → Int → Option Int
  | 0, _ => none
  | k4 + 1, l3i8 => (bif (decide (l3i8 < (a0.length : Int))) then (opt (at? a0 l3i8) fun (u7 : (List UInt8)) => (bif (decide (l3i8 ≥ (8 : Int))) then (some (14 : Int)) else (opt (f_names_Check fu u7) fun (r12 : Int) => (bif (r12 != (0 : Int)) then (some r12) else (f_names_checkAll_L5 a0 kk2 fu k4 (IntKind.i64.wrap (l3i8 + (1 : Int)))))))) else (kk2 ()))
def f_names_checkAll (fu : Nat) (a0 : (List (List UInt8))) : Option Int := (lt (fun (_ : Unit) => (some (0 : Int))) fun (kk2 : Unit → Option Int) => (f_names_checkAll_L5 a0 kk2 fu fu (0 : Int)))
set_option maxHeartbeats 2000000 in
set_option maxRecDepth 100000 in
theorem f_names_checkAll_ok (fu : Nat) (v0_0 : Value) (a0 : (List (List UInt8))) {r : Int} (h : f_names_checkAll fu a0 = some r) : FnOk Tryz.prog 55 [v0_0] [(fDat (tyList tyStr) [v0_0] a0), uTabs] [] (fun (i : Unit) => { val := (int .i64 r) }) := by
 unfold f_names_checkAll at h
 refine fn_enter Tryz.func55 rfl Tryz.ntmps55 rfl (fun w0 Z0 => ?_)
 refine aw_sr ?_
 refine an_ ?_
 obtain ⟨kk2, hkk2, h⟩ := lt_some h
 refine aw_seq_join (ι := Unit) (fun i => (memOf w0 Z0 [] [] [(fDat (tyList tyStr) [v0_0] a0), uTabs])) (fun i => (tab [])) (fun i => kk2 () = some r) ?_ ?_
 rintro _ h
 have h : kk2 () = some r := h
 rw [hkk2] at h
 dsimp only at h
 clear hkk2
 refine aw_show (m := (memOf w0 Z0 [] [] [(fDat (tyList tyStr) [v0_0] a0), uTabs])) (S := _) ?_
 refine aw_sr ?_
 refine an_ ?_
 refine aw_ret ?_
 cases h
 exact fr1_
 clear hkk2
 refine sm_ ?_
 refine al_val (ov_lenD 0 rfl rfl Tryz.underlying54 rfl) ?_
 refine mv_ ?_
 refine al_nt ?_
 refine aw_block ?_
 refine aw_state (aw_loop (ι := Int) (fun i => (memOf w0 Z0 [] [] [(fDat (tyList tyStr) [v0_0] a0), uTabs])) (fun i => (tab [(6, v0_0), (7, (iq (a0.length : Int))), (8, (iq i))])) (fun q i => f_names_checkAll_L5 a0 kk2 fu q i = some r) ?_ fu (0 : Int) h) (nm_ [] [0, 1] (by decide) ⟨rfl, rfl, rfl, trivial⟩)
 clear h
 rintro k4 l3i8 h
 have h : f_names_checkAll_L5 a0 kk2 fu k4 l3i8 = some r := h
 obtain _ | k4 := k4
 rw [f_names_checkAll_L5] at h; cases h
 rw [f_names_checkAll_L5] at h
 refine aw_show (m := (memOf w0 Z0 [] [] [(fDat (tyList tyStr) [v0_0] a0), uTabs])) (S := _) ?_
 refine aw_sr ?_
 refine im_ ?_
 refine aw_seq ?_
 refine aw_cond rfl (fun hb6 => ?_) (fun hb6 => ?_)
 replace h := bif_t hb6 h
 refine aw_skip ?_
 refine aq_then ?_
 refine aw_seq ?_
 refine aw_block ?_
 refine sm_ ?_
 obtain ⟨u7, hu8, h⟩ := opt_some h
 refine al_idxD 0 hu8 rfl rfl rfl Tryz.underlying54 sz9 rfl (fun p9 => ?_)
 refine al_val (ov_loadP (ds := [(str u7)]) 0 rfl (fun h => h) rfl Tryz.underlying9 sz9 rfl rfl rfl) ?_
 refine as_ ?_
 refine an_ ?_
 refine aw_seq ?_
 refine sm_ ?_
 refine im_ ?_
 refine aw_cond rfl (fun hb10 => ?_) (fun hb10 => ?_)
 replace h := bif_t hb10 h
 refine aw_sr ?_
 refine an_ ?_
 refine aw_ret ?_
 refine aq_then_ret ?_
 refine aq_block_ret ?_
 refine aq_then_ret ?_
 refine aq_then_ret ?_
 refine aq_block_ret ?_
 refine aq_then_ret ?_
 cases h
 exact fr1_
 replace h := bif_f hb10 h
 refine aw_skip ?_
 refine aq_tr ?_
 refine mv_ ?_
 obtain ⟨r12, hc11, h⟩ := opt_some h
 refine al_call (vs := [(str u7)]) (f_names_Check_ok fu u7 hc11) [] [] [] (pre_fz 2 rfl pre_nil) rfl (by simp) (by decide) (.inl rfl) rfl Tryz.func62 rfl rfl rfl (fun _ => ?_)
 refine an_ ?_
 refine sm_ ?_
 refine im_ ?_
 refine aw_cond rfl (fun hb13 => ?_) (fun hb13 => ?_)
 replace h := bif_t hb13 h
 refine sm_ ?_
 refine an_ ?_
 refine aw_ret ?_
 refine aq_block_ret ?_
 refine aq_then_ret ?_
 refine aq_then_ret ?_
 refine aq_block_ret ?_
 refine aq_then_ret ?_
 cases h
 exact fr1_
 replace h := bif_f hb13 h
 refine aw_skip ?_
 refine aq_block ?_
 refine aq_then ?_
 refine aw_region ?_
 refine in_ ?_
 refine mv_ ?_
 refine al_nil ?_
 exact aq_again k4 (wq (l3i8 + (1 : Int))) (Nat.lt_succ_self _) h (nm_ [] [1, 2] (by decide) ⟨rfl, rfl, rfl, trivial⟩)
 replace h := bif_f hb6 h
 refine aw_exit ?_
 refine aq_then_exit ?_
 refine aq_then_exit ?_
 refine aq_block_exit ?_
 exact aq_join () h (nm_ [] [0, 1] (by decide) trivial)
def f_names_Split (fu : Nat) (a0 : (List UInt8)) : Option ((List (List UInt8)) × Int) := (opt (f_strings_CutPrefix fu a0 ([47] : List UInt8)) fun (r2 : ((List UInt8) × Bool)) => (bif (!r2.2) then (some (([] : List (List UInt8)), (8 : Int))) else (bif (r2.1 == ([] : List UInt8)) then (some (([] : List (List UInt8)), (0 : Int))) else (opt (f_strings_Split fu r2.1 ([47] : List UInt8)) fun (r6 : (List (List UInt8))) => (opt (f_names_checkAll fu r6) fun (r9 : Int) => (bif (r9 != (0 : Int)) then (some (([] : List (List UInt8)), r9)) else (some (r6, (0 : Int)))))))))
set_option maxHeartbeats 2000000 in
set_option maxRecDepth 100000 in
theorem f_names_Split_ok (fu : Nat) (a0 : (List UInt8)) {r : ((List (List UInt8)) × Int)} (h : f_names_Split fu a0 = some r) : FnOk Tryz.prog 30 [(str a0)] [uMax, uTabs] [] (fun (i : Value) => { val := (Value.tuple #[i, (int .i64 r.2)]), own := [(oRow i 9 tyStr r.1)] }) := by
 unfold f_names_Split at h
 refine fn_enter Tryz.func30 rfl Tryz.ntmps30 rfl (fun w0 Z0 => ?_)
 refine aw_sr ?_
 refine as_ ?_
 refine an_ ?_
 refine sm_ ?_
 obtain ⟨r2, hc1, h⟩ := opt_some h
 refine al_call (vs := [(str a0), (str ([47] : List UInt8))]) (f_strings_CutPrefix_ok fu a0 ([47] : List UInt8) hc1) [] [] [] pre_nil rfl (by simp) (by decide) (.inl rfl) rfl Tryz.func53 rfl rfl rfl (fun _ => ?_)
 refine mv_ ?_
 refine al_ex rfl rfl rfl ?_
 refine al_ex rfl rfl rfl ?_
 refine as_ ?_
 refine an_ ?_
 refine aw_seq ?_
 refine sm_ ?_
 refine al_val (ov_not rfl rfl) ?_
 refine al_nt ?_
 refine aw_cond rfl (fun hb3 => ?_) (fun hb3 => ?_)
 replace h := bif_t hb3 h
 refine aw_sr ?_
 refine as_ ?_
 refine an_ ?_
 refine aw_ret ?_
 refine aq_then_ret ?_
 refine aq_nilR 9 tyStr ?_
 cases h
 exact fn_ret nS [0] [] rfl rfl rfl rfl (res2 rfl rfl rfl) rfl rfl rfl (by decide)
 replace h := bif_f hb3 h
 refine aw_skip ?_
 refine aq_then ?_
 refine aw_seq ?_
 refine sm_ ?_
 refine al_val (ov_strCmp rfl rfl rfl rfl) ?_
 refine al_nt ?_
 refine aw_cond rfl (fun hb4 => ?_) (fun hb4 => ?_)
 replace h := bif_t hb4 h
 refine aw_sr ?_
 refine as_ ?_
 refine an_ ?_
 refine aw_ret ?_
 refine aq_then_ret ?_
 refine aq_nilR 9 tyStr ?_
 cases h
 exact fn_ret nS [0] [] rfl rfl rfl rfl (res2 rfl rfl rfl) rfl rfl rfl (by decide)
 replace h := bif_f hb4 h
 refine aw_skip ?_
 refine aq_tr ?_
 refine mv_ ?_
 obtain ⟨r6, hc5, h⟩ := opt_some h
 refine al_call (vs := [(str r2.1), (str ([47] : List UInt8))]) (f_strings_Split_ok fu r2.1 ([47] : List UInt8) hc5) [] [] [] (pre_fz 0 rfl pre_nil) rfl (by simp) (by decide) (.inl rfl) rfl Tryz.func54 rfl rfl rfl (fun v7 => ?_)
 refine an_ ?_
 refine aw_seq ?_
 refine sm_ ?_
 obtain ⟨r9, hc8, h⟩ := opt_some h
 refine al_call (vs := [v7]) (f_names_checkAll_ok fu v7 r6 hc8) [0] [] [0] (pre_own 0 rfl rfl (pre_fz 1 rfl pre_nil)) rfl (by simp) (by decide) (.inr flat_res0) rfl Tryz.func55 rfl rfl rfl (fun _ => ?_)
 refine an_ ?_
 refine sm_ ?_
 refine im_ ?_
 refine aw_cond rfl (fun hb10 => ?_) (fun hb10 => ?_)
 replace h := bif_t hb10 h
 refine sm_ ?_
 refine as_ ?_
 refine an_ ?_
 refine aw_ret ?_
 refine aq_then_ret ?_
 refine aq_nilR 9 tyStr ?_
 cases h
 exact fn_ret nS [0] [] rfl rfl rfl rfl (res2 rfl rfl rfl) rfl rfl rfl (by decide)
 replace h := bif_f hb10 h
 refine aw_skip ?_
 refine aq_tr ?_
 refine mv_ ?_
 refine as_ ?_
 refine an_ ?_
 refine aw_ret ?_
 cases h
 exact fn_ret v7 [0] [] rfl rfl rfl rfl (res2 rfl rfl rfl) rfl rfl rfl (by decide)
def f_tree_Known (fu : Nat) (a0 : Int) : Option Bool := (lt (fun (j1b2 : Bool) => (some j1b2)) fun (kk2 : Bool → Option Bool) => (bif (decide (a0 ≥ (1 : Int))) then (kk2 (decide (a0 ≤ (3 : Int)))) else (kk2 false)))
set_option maxHeartbeats 2000000 in
set_option maxRecDepth 100000 in
theorem f_tree_Known_ok (fu : Nat) (a0 : Int) {r : Bool} (h : f_tree_Known fu a0 = some r) : FnOk Tryz.prog 31 [(int .i64 a0)] [] [] (fun (i : Unit) => { val := (bool r) }) := by
 unfold f_tree_Known at h
 refine fn_enter Tryz.func31 rfl Tryz.ntmps31 rfl (fun w0 Z0 => ?_)
 refine aw_sr ?_
 refine an_ ?_
 obtain ⟨kk2, hkk2, h⟩ := lt_some h
 refine aw_seq_join (ι := Bool) (fun i => (memOf w0 Z0 [] [] [])) (fun i => (tab [(2, (bool i))])) (fun i => kk2 i = some r) ?_ ?_
 rintro j1b2 h
 have h : kk2 j1b2 = some r := h
 rw [hkk2] at h
 dsimp only at h
 clear hkk2
 refine aw_show (m := (memOf w0 Z0 [] [] [])) (S := _) ?_
 refine aw_ret ?_
 cases h
 exact fr1_
 clear hkk2
 refine aw_region ?_
 refine mv_ ?_
 refine in_ ?_
 refine mv_ ?_
 refine al_caseB 5 rfl (fun hb3 => ?_) (fun hb3 => ?_)
 replace h := bif_t hb3 h
 refine mv_ ?_
 refine in_ ?_
 refine al_val (ov_pick_t rfl rfl rfl) ?_
 refine as_ ?_
 refine al_nil ?_
 exact aq_join (decide (a0 ≤ (3 : Int))) h (nm_ [] [] (by decide) ⟨rfl, trivial⟩)
 replace h := bif_f hb3 h
 refine al_skip ?_
 refine al_skip ?_
 refine al_val (ov_pick_f rfl rfl rfl) ?_
 refine as_ ?_
 refine al_nil ?_
 exact aq_join false h (nm_ [] [] (by decide) ⟨rfl, trivial⟩)
def f_walk_item (fu : Nat) (a0 : S_api_Item) : Option Int := (opt (f_names_Split fu a0.Path) fun (r3 : ((List (List UInt8)) × Int)) => (bif (r3.2 != (0 : Int)) then (some r3.2) else (bif ((r3.1.length : Int) == (0 : Int)) then (some (8 : Int)) else (opt (f_tree_Known fu a0.Kind) fun (r8 : Bool) => (bif (!r8) then (some (5 : Int)) else (lt (fun (j10b24 : Bool) => (bif j10b24 then (some (1 : Int)) else (lt (fun (j13b33 : Bool) => (bif j13b33 then (some (2 : Int)) else (lt (fun (j16b60 : Bool) => (bif j16b60 then (some (4 : Int)) else (some (0 : Int)))) fun (kk17 : Bool → Option Int) => (bif (a0.Kind == (3 : Int)) then (kk17 (a0.Bytes == ([] : List UInt8))) else (kk17 false))))) fun (kk14 : Bool → Option Int) => (lt (fun (j20b33 : Bool) => (bif j20b33 then (kk14 j20b33) else (lt (fun (j23b33 : Bool) => (bif j23b33 then (kk14 j23b33) else (bif (a0.Kind == (3 : Int)) then (kk14 (decide ((a0.Bytes.length : Int) > (1024 : Int)))) else (kk14 false)))) fun (kk24 : Bool → Option Int) => (bif (a0.Kind == (2 : Int)) then (kk24 (!(a0.Bytes == ([] : List UInt8)))) else (kk24 false))))) fun (kk21 : Bool → Option Int) => (bif (a0.Kind == (1 : Int)) then (kk21 (decide ((a0.Bytes.length : Int) > (4096 : Int)))) else (kk21 false)))))) fun (kk11 : Bool → Option Int) => (bif (decide (a0.Mode < (0 : Int))) then (kk11 true) else (kk11 (decide (a0.Mode > (511 : Int)))))))))))
set_option maxRecDepth 100000 in
set_option maxHeartbeats 2000000 in
set_option maxHeartbeats 2000000 in
theorem f_walk_item_ok (fu : Nat) (a0 : S_api_Item) {r : Int} (h : f_walk_item fu a0 = some r) : FnOk Tryz.prog 14 [(ag [(str a0.Path), (int .i64 a0.Kind), (int .i64 a0.Mode), (int .i64 a0.Time), (str a0.Bytes)])] [uMax, uTabs] [] (fun (i : Unit) => { val := (int .i64 r) }) := by
 unfold f_walk_item at h
 refine fn_enter Tryz.func14 rfl Tryz.ntmps14 rfl (fun w0 Z0 => ?_)
 refine aw_sr ?_
 refine al_box (vs := [(str a0.Path), (iq a0.Kind), (iq a0.Mode), (iq a0.Time), (str a0.Bytes)]) rfl (cv_rfl rfl) rfl (fun g1 => ?_)
 refine an_ ?_
 refine aw_sr ?_
 refine al_val (ov_fieldA (p := 0) rfl Tryz.underlying45 rfl sz9 rfl rfl rfl) ?_
 refine al_val (ov_load (i := 0) (v := (str a0.Path)) rfl rfl Tryz.underlying9 sz9 rfl rfl rfl rfl) ?_
 obtain ⟨r3, hc2, h⟩ := opt_some h
 refine al_call (vs := [(str a0.Path)]) (f_names_Split_ok fu a0.Path hc2) [] [] [0] (pre_fz 0 rfl (pre_fz 1 rfl pre_nil)) rfl (by simp) (by decide) (.inl rfl) rfl Tryz.func30 rfl rfl rfl (fun v4 => ?_)
 refine mv_ ?_
 refine al_ex rfl rfl rfl ?_
 refine al_ex rfl rfl rfl ?_
 refine as_ ?_
 refine an_ ?_
 refine aw_seq ?_
 refine aw_block ?_
 refine sm_ ?_
 refine in_ ?_
 refine an_ ?_
 refine aw_cond rfl (fun hb5 => ?_) (fun hb5 => ?_)
 replace h := bif_t hb5 h
 refine sm_ ?_
 refine an_ ?_
 refine aw_ret ?_
 refine aq_block_ret ?_
 refine aq_then_ret ?_
 cases h
 exact fr1_
 replace h := bif_f hb5 h
 refine sm_ ?_
 refine al_val (ov_lenR 0 rfl rfl Tryz.underlying54 rfl) ?_
 refine in_ ?_
 refine an_ ?_
 refine aw_cond rfl (fun hb6 => ?_) (fun hb6 => ?_)
 replace h := bif_t hb6 h
 refine aw_sr ?_
 refine an_ ?_
 refine aw_ret ?_
 refine aq_block_ret ?_
 refine aq_then_ret ?_
 cases h
 exact fr1_
 replace h := bif_f hb6 h
 refine aw_sr ?_
 refine al_val (ov_fieldA (p := 1) rfl Tryz.underlying45 rfl sz3 rfl rfl rfl) ?_
 refine al_val (ov_load (i := 1) (v := (iq a0.Kind)) rfl rfl Tryz.underlying3 sz3 rfl rfl rfl rfl) ?_
 obtain ⟨r8, hc7, h⟩ := opt_some h
 refine al_call (vs := [(iq a0.Kind)]) (f_tree_Known_ok fu a0.Kind hc7) [] [] [0, 1] pre_nil rfl (by simp) (by decide) (.inl rfl) rfl Tryz.func31 rfl rfl rfl (fun _ => ?_)
 refine al_val (ov_not rfl rfl) ?_
 refine an_ ?_
 refine aw_cond rfl (fun hb9 => ?_) (fun hb9 => ?_)
 replace h := bif_t hb9 h
 refine aw_sr ?_
 refine an_ ?_
 refine aw_ret ?_
 refine aq_block_ret ?_
 refine aq_then_ret ?_
 cases h
 exact fr1_
 replace h := bif_f hb9 h
 obtain ⟨kk11, hkk11, h⟩ := lt_some h
 refine aw_seq_join (ι := Bool) (fun i => (memOf w0 Z0 [] [(oBox g1 45 [(str a0.Path), (iq a0.Kind), (iq a0.Mode), (iq a0.Time), (str a0.Bytes)])] [uMax, uTabs])) (fun i => (tab [(1, (pq g1)), (24, (bool i))])) (fun i => kk11 i = some r) ?_ ?_
 rintro j10b24 h
 have h : kk11 j10b24 = some r := h
 rw [hkk11] at h
 dsimp only at h
 clear hkk11
 refine aw_show (m := (memOf w0 Z0 [] [(oBox g1 45 [(str a0.Path), (iq a0.Kind), (iq a0.Mode), (iq a0.Time), (str a0.Bytes)])] [uMax, uTabs])) (S := _) ?_
 refine aw_cond rfl (fun hb12 => ?_) (fun hb12 => ?_)
 replace h := bif_t hb12 h
 refine aw_sr ?_
 refine an_ ?_
 refine aw_ret ?_
 refine aq_block_ret ?_
 refine aq_then_ret ?_
 cases h
 exact fr1_
 replace h := bif_f hb12 h
 obtain ⟨kk14, hkk14, h⟩ := lt_some h
 refine aw_seq_join (ι := Bool) (fun i => (memOf w0 Z0 [] [(oBox g1 45 [(str a0.Path), (iq a0.Kind), (iq a0.Mode), (iq a0.Time), (str a0.Bytes)])] [uMax, uTabs])) (fun i => (tab [(1, (pq g1)), (33, (bool i))])) (fun i => kk14 i = some r) ?_ ?_
 rintro j13b33 h
 have h : kk14 j13b33 = some r := h
 rw [hkk14] at h
 dsimp only at h
 clear hkk14
 refine aw_show (m := (memOf w0 Z0 [] [(oBox g1 45 [(str a0.Path), (iq a0.Kind), (iq a0.Mode), (iq a0.Time), (str a0.Bytes)])] [uMax, uTabs])) (S := _) ?_
 refine aw_cond rfl (fun hb15 => ?_) (fun hb15 => ?_)
 replace h := bif_t hb15 h
 refine aw_sr ?_
 refine an_ ?_
 refine aw_ret ?_
 refine aq_block_ret ?_
 refine aq_then_ret ?_
 cases h
 exact fr1_
 replace h := bif_f hb15 h
 obtain ⟨kk17, hkk17, h⟩ := lt_some h
 refine aw_seq_join (ι := Bool) (fun i => (memOf w0 Z0 [] [] [uMax, uTabs])) (fun i => (tab [(60, (bool i))])) (fun i => kk17 i = some r) ?_ ?_
 rintro j16b60 h
 have h : kk17 j16b60 = some r := h
 rw [hkk17] at h
 dsimp only at h
 clear hkk17
 refine aw_show (m := (memOf w0 Z0 [] [] [uMax, uTabs])) (S := _) ?_
 refine aw_cond rfl (fun hb18 => ?_) (fun hb18 => ?_)
 replace h := bif_t hb18 h
 refine aw_sr ?_
 refine an_ ?_
 refine aw_ret ?_
 refine aq_block_ret ?_
 refine aq_then_ret ?_
 cases h
 exact fr1_
 replace h := bif_f hb18 h
 refine aw_skip ?_
 refine aq_block ?_
 refine aq_tr ?_
 refine an_ ?_
 refine aw_ret ?_
 cases h
 exact fr1_
 clear hkk17
 refine aw_region ?_
 refine al_val (ov_fieldA (p := 1) rfl Tryz.underlying45 rfl sz3 rfl rfl rfl) ?_
 refine al_val (ov_load (i := 0) (v := (iq a0.Kind)) rfl rfl Tryz.underlying3 sz3 rfl rfl rfl rfl) ?_
 refine in_ ?_
 refine mv_ ?_
 refine al_caseB 64 rfl (fun hb19 => ?_) (fun hb19 => ?_)
 replace h := bif_t hb19 h
 refine al_val (ov_fieldA (p := 4) rfl Tryz.underlying45 rfl sz9 rfl rfl rfl) ?_
 refine al_val (ov_load (i := 0) (v := (str a0.Bytes)) rfl rfl Tryz.underlying9 sz9 rfl rfl rfl rfl) ?_
 refine al_val (ov_strCmp rfl rfl rfl rfl) ?_
 refine al_val (ov_pick_t rfl rfl rfl) ?_
 refine as_ ?_
 refine al_nil ?_
 exact aq_join (a0.Bytes == ([] : List UInt8)) h (nm_ [] [0, 1] (by decide) ⟨rfl, trivial⟩)
 replace h := bif_f hb19 h
 iterate 3 refine al_skip ?_
 refine al_val (ov_pick_f rfl rfl rfl) ?_
 refine as_ ?_
 refine al_nil ?_
 exact aq_join false h (nm_ [] [0, 1] (by decide) ⟨rfl, trivial⟩)
 clear hkk14
 obtain ⟨kk21, hkk21, h⟩ := lt_some h
 refine aw_seq_join (ι := Bool) (fun i => (memOf w0 Z0 [] [(oBox g1 45 [(str a0.Path), (iq a0.Kind), (iq a0.Mode), (iq a0.Time), (str a0.Bytes)])] [uMax, uTabs])) (fun i => (tab [(1, (pq g1)), (33, (bool i))])) (fun i => kk21 i = some r) ?_ ?_
 rintro j20b33 h
 have h : kk21 j20b33 = some r := h
 rw [hkk21] at h
 dsimp only at h
 clear hkk21
 refine aw_show (m := (memOf w0 Z0 [] [(oBox g1 45 [(str a0.Path), (iq a0.Kind), (iq a0.Mode), (iq a0.Time), (str a0.Bytes)])] [uMax, uTabs])) (S := _) ?_
 refine aw_cond rfl (fun hb22 => ?_) (fun hb22 => ?_)
 replace h := bif_t hb22 h
 refine aw_skip ?_
 exact aq_join j20b33 h (nm_ [0] [0, 1] (by decide) ⟨rfl, rfl, trivial⟩)
 replace h := bif_f hb22 h
 obtain ⟨kk24, hkk24, h⟩ := lt_some h
 refine aw_seq_join (ι := Bool) (fun i => (memOf w0 Z0 [] [(oBox g1 45 [(str a0.Path), (iq a0.Kind), (iq a0.Mode), (iq a0.Time), (str a0.Bytes)])] [uMax, uTabs])) (fun i => (tab [(1, (pq g1)), (33, (bool i))])) (fun i => kk24 i = some r) ?_ ?_
 rintro j23b33 h
 have h : kk24 j23b33 = some r := h
 rw [hkk24] at h
 dsimp only at h
 clear hkk24
 refine aw_show (m := (memOf w0 Z0 [] [(oBox g1 45 [(str a0.Path), (iq a0.Kind), (iq a0.Mode), (iq a0.Time), (str a0.Bytes)])] [uMax, uTabs])) (S := _) ?_
 refine aw_cond rfl (fun hb25 => ?_) (fun hb25 => ?_)
 replace h := bif_t hb25 h
 refine aw_skip ?_
 exact aq_join j23b33 h (nm_ [0] [0, 1] (by decide) ⟨rfl, rfl, trivial⟩)
 replace h := bif_f hb25 h
 refine aw_region ?_
 refine al_val (ov_fieldA (p := 1) rfl Tryz.underlying45 rfl sz3 rfl rfl rfl) ?_
 refine al_val (ov_load (i := 0) (v := (iq a0.Kind)) rfl rfl Tryz.underlying3 sz3 rfl rfl rfl rfl) ?_
 refine in_ ?_
 refine mv_ ?_
 refine al_caseB 54 rfl (fun hb26 => ?_) (fun hb26 => ?_)
 replace h := bif_t hb26 h
 refine al_val (ov_fieldA (p := 4) rfl Tryz.underlying45 rfl sz9 rfl rfl rfl) ?_
 refine al_val (ov_load (i := 0) (v := (str a0.Bytes)) rfl rfl Tryz.underlying9 sz9 rfl rfl rfl rfl) ?_
 refine al_val (ov_strLen Tryz.underlying9 rfl rfl) ?_
 refine in_ ?_
 refine al_val (ov_pick_t rfl rfl rfl) ?_
 refine as_ ?_
 refine al_nil ?_
 exact aq_join (decide ((a0.Bytes.length : Int) > (1024 : Int))) h (nm_ [0] [0, 1] (by decide) ⟨rfl, rfl, trivial⟩)
 replace h := bif_f hb26 h
 iterate 4 refine al_skip ?_
 refine al_val (ov_pick_f rfl rfl rfl) ?_
 refine as_ ?_
 refine al_nil ?_
 exact aq_join false h (nm_ [0] [0, 1] (by decide) ⟨rfl, rfl, trivial⟩)
 clear hkk24
 refine aw_region ?_
 refine al_val (ov_fieldA (p := 1) rfl Tryz.underlying45 rfl sz3 rfl rfl rfl) ?_
 refine al_val (ov_load (i := 0) (v := (iq a0.Kind)) rfl rfl Tryz.underlying3 sz3 rfl rfl rfl rfl) ?_
 refine in_ ?_
 refine mv_ ?_
 refine al_caseB 46 rfl (fun hb27 => ?_) (fun hb27 => ?_)
 replace h := bif_t hb27 h
 refine al_val (ov_fieldA (p := 4) rfl Tryz.underlying45 rfl sz9 rfl rfl rfl) ?_
 refine al_val (ov_load (i := 0) (v := (str a0.Bytes)) rfl rfl Tryz.underlying9 sz9 rfl rfl rfl rfl) ?_
 refine al_val (ov_strCmp rfl rfl rfl rfl) ?_
 refine al_val (ov_pick_t rfl rfl rfl) ?_
 refine as_ ?_
 refine al_nil ?_
 exact aq_join (!(a0.Bytes == ([] : List UInt8))) h (nm_ [0] [0, 1] (by decide) ⟨rfl, rfl, trivial⟩)
 replace h := bif_f hb27 h
 iterate 3 refine al_skip ?_
 refine al_val (ov_pick_f rfl rfl rfl) ?_
 refine as_ ?_
 refine al_nil ?_
 exact aq_join false h (nm_ [0] [0, 1] (by decide) ⟨rfl, rfl, trivial⟩)
 clear hkk21
 refine aw_region ?_
 refine al_val (ov_fieldA (p := 1) rfl Tryz.underlying45 rfl sz3 rfl rfl rfl) ?_
 refine al_val (ov_load (i := 0) (v := (iq a0.Kind)) rfl rfl Tryz.underlying3 sz3 rfl rfl rfl rfl) ?_
 refine in_ ?_
 refine mv_ ?_
 refine al_caseB 37 rfl (fun hb28 => ?_) (fun hb28 => ?_)
 replace h := bif_t hb28 h
 refine al_val (ov_fieldA (p := 4) rfl Tryz.underlying45 rfl sz9 rfl rfl rfl) ?_
 refine al_val (ov_load (i := 0) (v := (str a0.Bytes)) rfl rfl Tryz.underlying9 sz9 rfl rfl rfl rfl) ?_
 refine al_val (ov_strLen Tryz.underlying9 rfl rfl) ?_
 refine in_ ?_
 refine al_val (ov_pick_t rfl rfl rfl) ?_
 refine as_ ?_
 refine al_nil ?_
 exact aq_join (decide ((a0.Bytes.length : Int) > (4096 : Int))) h (nm_ [0] [0, 1] (by decide) ⟨rfl, rfl, trivial⟩)
 replace h := bif_f hb28 h
 iterate 4 refine al_skip ?_
 refine al_val (ov_pick_f rfl rfl rfl) ?_
 refine as_ ?_
 refine al_nil ?_
 exact aq_join false h (nm_ [0] [0, 1] (by decide) ⟨rfl, rfl, trivial⟩)
 clear hkk11
 refine aw_region ?_
 refine al_val (ov_fieldA (p := 2) rfl Tryz.underlying45 rfl sz3 rfl rfl rfl) ?_
 refine al_val (ov_load (i := 1) (v := (iq a0.Mode)) rfl rfl Tryz.underlying3 sz3 rfl rfl rfl rfl) ?_
 refine in_ ?_
 refine mv_ ?_
 refine al_caseB 28 rfl (fun hb29 => ?_) (fun hb29 => ?_)
 replace h := bif_t hb29 h
 iterate 3 refine al_skip ?_
 refine al_val (ov_pick_t rfl rfl rfl) ?_
 refine as_ ?_
 refine al_nil ?_
 exact aq_join true h (nm_ [1] [0, 1] (by decide) ⟨rfl, rfl, trivial⟩)
 replace h := bif_f hb29 h
 refine al_val (ov_fieldA (p := 2) rfl Tryz.underlying45 rfl sz3 rfl rfl rfl) ?_
 refine al_val (ov_load (i := 1) (v := (iq a0.Mode)) rfl rfl Tryz.underlying3 sz3 rfl rfl rfl rfl) ?_
 refine in_ ?_
 refine al_val (ov_pick_f rfl rfl rfl) ?_
 refine as_ ?_
 refine al_nil ?_
 exact aq_join (decide (a0.Mode > (511 : Int))) h (nm_ [1] [0, 1] (by decide) ⟨rfl, rfl, trivial⟩)
def f_cmp_isNaN_string_ (fu : Nat) (a0 : (List UInt8)) : Option Bool := (some (!(a0 == a0)))
set_option maxRecDepth 100000 in
theorem f_cmp_isNaN_string__ok (fu : Nat) (a0 : (List UInt8)) {r : Bool} (h : f_cmp_isNaN_string_ fu a0 = some r) : FnOk Tryz.prog 76 [(str a0)] [] [] (fun (i : Unit) => { val := (bool r) }) := by
 unfold f_cmp_isNaN_string_ at h
 refine fn_enter Tryz.func76 rfl Tryz.ntmps76 rfl (fun w0 Z0 => ?_)
 refine aw_sr ?_
 refine an_ ?_
 refine sm_ ?_
 refine mv_ ?_
 refine al_val (ov_strCmp rfl rfl rfl rfl) ?_
 refine an_ ?_
 refine aw_ret ?_
 cases h
 exact fr1_
def f_cmp_Compare_string_ (fu : Nat) (a0 : (List UInt8)) (a1 : (List UInt8)) : Option Int := (opt (f_cmp_isNaN_string_ fu a0) fun (r2 : Bool) => (opt (f_cmp_isNaN_string_ fu a1) fun (r4 : Bool) => (bif r2 then (bif r4 then (some (0 : Int)) else (some (-1 : Int))) else (bif r4 then (some (1 : Int)) else (bif (Op.bytesLess a0 a1) then (some (-1 : Int)) else (bif (!(Op.bytesLess a0 a1 || a0 == a1)) then (some (1 : Int)) else (some (0 : Int))))))))
set_option maxHeartbeats 2000000 in
set_option maxRecDepth 100000 in
theorem f_cmp_Compare_string__ok (fu : Nat) (a0 : (List UInt8)) (a1 : (List UInt8)) {r : Int} (h : f_cmp_Compare_string_ fu a0 a1 = some r) : FnOk Tryz.prog 56 [(str a0), (str a1)] [] [] (fun (i : Unit) => { val := (int .i64 r) }) := by
 unfold f_cmp_Compare_string_ at h
 refine fn_enter Tryz.func56 rfl Tryz.ntmps56 rfl (fun w0 Z0 => ?_)
 refine aw_sr ?_
 refine an_ ?_
 refine sm_ ?_
 obtain ⟨r2, hc1, h⟩ := opt_some h
 refine al_call (vs := [(str a0)]) (f_cmp_isNaN_string__ok fu a0 hc1) [] [] [] pre_nil rfl (by simp) (by decide) (.inl rfl) rfl Tryz.func76 rfl rfl rfl (fun _ => ?_)
 refine an_ ?_
 refine sm_ ?_
 obtain ⟨r4, hc3, h⟩ := opt_some h
 refine al_call (vs := [(str a1)]) (f_cmp_isNaN_string__ok fu a1 hc3) [] [] [] pre_nil rfl (by simp) (by decide) (.inl rfl) rfl Tryz.func76 rfl rfl rfl (fun _ => ?_)
 refine an_ ?_
 refine aw_seq ?_
 refine sm_ ?_
 refine al_nt ?_
 refine aw_cond rfl (fun hb5 => ?_) (fun hb5 => ?_)
 replace h := bif_t hb5 h
 refine aw_seq ?_
 refine sm_ ?_
 refine al_nt ?_
 refine aw_cond rfl (fun hb6 => ?_) (fun hb6 => ?_)
 replace h := bif_t hb6 h
 refine aw_sr ?_
 refine an_ ?_
 refine aw_ret ?_
 refine aq_then_ret ?_
 refine aq_then_ret ?_
 cases h
 exact fr1_
 replace h := bif_f hb6 h
 refine aw_skip ?_
 refine aq_tr ?_
 refine an_ ?_
 refine aw_ret ?_
 refine aq_then_ret ?_
 cases h
 exact fr1_
 replace h := bif_f hb5 h
 refine aw_skip ?_
 refine aq_then ?_
 refine aw_seq ?_
 refine sm_ ?_
 refine al_nt ?_
 refine aw_cond rfl (fun hb7 => ?_) (fun hb7 => ?_)
 replace h := bif_t hb7 h
 refine aw_sr ?_
 refine an_ ?_
 refine aw_ret ?_
 refine aq_then_ret ?_
 cases h
 exact fr1_
 replace h := bif_f hb7 h
 refine aw_skip ?_
 refine aq_then ?_
 refine aw_seq ?_
 refine sm_ ?_
 refine mv_ ?_
 refine al_val (ov_strCmp rfl rfl rfl rfl) ?_
 refine al_nt ?_
 refine aw_cond rfl (fun hb8 => ?_) (fun hb8 => ?_)
 replace h := bif_t hb8 h
 refine aw_sr ?_
 refine an_ ?_
 refine aw_ret ?_
 refine aq_then_ret ?_
 cases h
 exact fr1_
 replace h := bif_f hb8 h
 refine aw_skip ?_
 refine aq_then ?_
 refine aw_seq ?_
 refine sm_ ?_
 refine mv_ ?_
 refine al_val (ov_strCmp rfl rfl rfl rfl) ?_
 refine al_nt ?_
 refine aw_cond rfl (fun hb9 => ?_) (fun hb9 => ?_)
 replace h := bif_t hb9 h
 refine aw_sr ?_
 refine an_ ?_
 refine aw_ret ?_
 refine aq_then_ret ?_
 cases h
 exact fr1_
 replace h := bif_f hb9 h
 refine aw_skip ?_
 refine aq_tr ?_
 refine an_ ?_
 refine aw_ret ?_
 cases h
 exact fr1_
def f_slices_Compare___string_string__L6 (a0 : (List (List UInt8))) (a1 : (List (List UInt8))) (kk2 : (Unit → Option Int)) (fu : Nat) : Nat → Int → Option Int
  | 0, _ => none
  | k5 + 1, l4i11 => (bif (decide (l4i11 < (a0.length : Int))) then (opt (at? a0 l4i11) fun (u8 : (List UInt8)) => (bif (decide (l4i11 ≥ (a1.length : Int))) then (some (1 : Int)) else (opt (at? a1 l4i11) fun (u12 : (List UInt8)) => (opt (f_cmp_Compare_string_ fu u8 u12) fun (r16 : Int) => (bif (r16 != (0 : Int)) then (some r16) else (f_slices_Compare___string_string__L6 a0 a1 kk2 fu k5 (IntKind.i64.wrap (l4i11 + (1 : Int))))))))) else (kk2 ()))
def f_slices_Compare___string_string_ (fu : Nat) (a0 : (List (List UInt8))) (a1 : (List (List UInt8))) : Option Int := (lt (fun (_ : Unit) => (bif (decide ((a0.length : Int) < (a1.length : Int))) then (some (-1 : Int)) else (some (0 : Int)))) fun (kk2 : Unit → Option Int) => (f_slices_Compare___string_string__L6 a0 a1 kk2 fu fu (0 : Int)))
set_option maxHeartbeats 2000000 in
set_option maxRecDepth 100000 in
theorem f_slices_Compare___string_string__ok (fu : Nat) (v0_0 : Value) (a0 : (List (List UInt8))) (v1_0 : Value) (a1 : (List (List UInt8))) {r : Int} (h : f_slices_Compare___string_string_ fu a0 a1 = some r) : FnOk Tryz.prog 32 [v0_0, v1_0] [(fDat (tyList tyStr) [v0_0] a0), (fDat (tyList tyStr) [v1_0] a1)] [] (fun (i : Unit) => { val := (int .i64 r) }) := by
 unfold f_slices_Compare___string_string_ at h
 refine fn_enter Tryz.func32 rfl Tryz.ntmps32 rfl (fun w0 Z0 => ?_)
 refine aw_sr ?_
 refine an_ ?_
 obtain ⟨kk2, hkk2, h⟩ := lt_some h
 refine aw_seq_join (ι := Unit) (fun i => (memOf w0 Z0 [] [] [(fDat (tyList tyStr) [v0_0] a0), (fDat (tyList tyStr) [v1_0] a1)])) (fun i => (tab [(0, v0_0), (1, v1_0)])) (fun i => kk2 () = some r) ?_ ?_
 rintro _ h
 have h : kk2 () = some r := h
 rw [hkk2] at h
 dsimp only at h
 clear hkk2
 refine aw_show (m := (memOf w0 Z0 [] [] [(fDat (tyList tyStr) [v0_0] a0), (fDat (tyList tyStr) [v1_0] a1)])) (S := _) ?_
 refine aw_seq ?_
 refine sm_ ?_
 refine al_val (ov_lenD 0 rfl rfl Tryz.underlying54 rfl) ?_
 refine mv_ ?_
 refine al_val (ov_lenD 1 rfl rfl Tryz.underlying54 rfl) ?_
 refine im_ ?_
 refine aw_cond rfl (fun hb3 => ?_) (fun hb3 => ?_)
 replace h := bif_t hb3 h
 refine aw_sr ?_
 refine an_ ?_
 refine aw_ret ?_
 refine aq_then_ret ?_
 cases h
 exact fr1_
 replace h := bif_f hb3 h
 refine aw_skip ?_
 refine aq_tr ?_
 refine an_ ?_
 refine aw_ret ?_
 cases h
 exact fr1_
 clear hkk2
 refine sm_ ?_
 refine al_val (ov_lenD 0 rfl rfl Tryz.underlying54 rfl) ?_
 refine mv_ ?_
 refine al_nt ?_
 refine aw_block ?_
 refine aw_state (aw_loop (ι := Int) (fun i => (memOf w0 Z0 [] [] [(fDat (tyList tyStr) [v0_0] a0), (fDat (tyList tyStr) [v1_0] a1)])) (fun i => (tab [(0, v0_0), (1, v1_0), (9, v0_0), (10, (iq (a0.length : Int))), (11, (iq i))])) (fun q i => f_slices_Compare___string_string__L6 a0 a1 kk2 fu q i = some r) ?_ fu (0 : Int) h) (nm_ [] [0, 1] (by decide) ⟨rfl, rfl, rfl, rfl, rfl, trivial⟩)
 clear h
 rintro k5 l4i11 h
 have h : f_slices_Compare___string_string__L6 a0 a1 kk2 fu k5 l4i11 = some r := h
 obtain _ | k5 := k5
 rw [f_slices_Compare___string_string__L6] at h; cases h
 rw [f_slices_Compare___string_string__L6] at h
 refine aw_show (m := (memOf w0 Z0 [] [] [(fDat (tyList tyStr) [v0_0] a0), (fDat (tyList tyStr) [v1_0] a1)])) (S := _) ?_
 refine aw_sr ?_
 refine im_ ?_
 refine aw_seq ?_
 refine aw_cond rfl (fun hb7 => ?_) (fun hb7 => ?_)
 replace h := bif_t hb7 h
 refine aw_skip ?_
 refine aq_then ?_
 refine aw_seq ?_
 refine aw_block ?_
 refine sm_ ?_
 obtain ⟨u8, hu9, h⟩ := opt_some h
 refine al_idxD 0 hu9 rfl rfl rfl Tryz.underlying54 sz9 rfl (fun p10 => ?_)
 refine al_val (ov_loadP (ds := [(str u8)]) 0 rfl (fun h => h) rfl Tryz.underlying9 sz9 rfl rfl rfl) ?_
 refine as_ ?_
 refine an_ ?_
 refine aw_seq ?_
 refine sm_ ?_
 refine mv_ ?_
 refine al_val (ov_lenD 2 rfl rfl Tryz.underlying54 rfl) ?_
 refine im_ ?_
 refine aw_cond rfl (fun hb11 => ?_) (fun hb11 => ?_)
 replace h := bif_t hb11 h
 refine aw_sr ?_
 refine an_ ?_
 refine aw_ret ?_
 refine aq_then_ret ?_
 refine aq_block_ret ?_
 refine aq_then_ret ?_
 refine aq_then_ret ?_
 refine aq_block_ret ?_
 refine aq_then_ret ?_
 cases h
 exact fr1_
 replace h := bif_f hb11 h
 refine aw_skip ?_
 refine aq_tr ?_
 refine mv_ ?_
 refine mv_ ?_
 obtain ⟨u12, hu13, h⟩ := opt_some h
 refine al_idxD 2 hu13 rfl rfl rfl Tryz.underlying54 sz9 rfl (fun p14 => ?_)
 refine al_val (ov_loadP (ds := [(str u12)]) 0 rfl (fun h => h) rfl Tryz.underlying9 sz9 rfl rfl rfl) ?_
 refine an_ ?_
 refine sm_ ?_
 refine mv_ ?_
 obtain ⟨r16, hc15, h⟩ := opt_some h
 refine al_call (vs := [(str u8), (str u12)]) (f_cmp_Compare_string__ok fu u8 u12 hc15) [] [] [] pre_nil rfl (by simp) (by decide) (.inl rfl) rfl Tryz.func56 rfl rfl rfl (fun _ => ?_)
 refine an_ ?_
 refine sm_ ?_
 refine im_ ?_
 refine aw_cond rfl (fun hb17 => ?_) (fun hb17 => ?_)
 replace h := bif_t hb17 h
 refine sm_ ?_
 refine an_ ?_
 refine aw_ret ?_
 refine aq_block_ret ?_
 refine aq_then_ret ?_
 refine aq_then_ret ?_
 refine aq_block_ret ?_
 refine aq_then_ret ?_
 cases h
 exact fr1_
 replace h := bif_f hb17 h
 refine aw_skip ?_
 refine aq_block ?_
 refine aq_then ?_
 refine aw_region ?_
 refine in_ ?_
 refine mv_ ?_
 refine al_nil ?_
 exact aq_again k5 (wq (l4i11 + (1 : Int))) (Nat.lt_succ_self _) h (nm_ [] [2, 3] (by decide) ⟨rfl, rfl, rfl, rfl, rfl, trivial⟩)
 replace h := bif_f hb7 h
 refine aw_exit ?_
 refine aq_then_exit ?_
 refine aq_then_exit ?_
 refine aq_block_exit ?_
 exact aq_join () h (nm_ [] [0, 1] (by decide) ⟨rfl, rfl, trivial⟩)
def f_names_Compare (fu : Nat) (a0 : (List UInt8)) (a1 : (List UInt8)) : Option Int := (opt (f_names_Split fu a0) fun (r2 : ((List (List UInt8)) × Int)) => (opt (f_names_Split fu a1) fun (r5 : ((List (List UInt8)) × Int)) => (opt (f_slices_Compare___string_string_ fu r2.1 r5.1) fun (r8 : Int) => (some r8))))
set_option maxHeartbeats 2000000 in
set_option maxRecDepth 100000 in
theorem f_names_Compare_ok (fu : Nat) (a0 : (List UInt8)) (a1 : (List UInt8)) {r : Int} (h : f_names_Compare fu a0 a1 = some r) : FnOk Tryz.prog 15 [(str a0), (str a1)] [uMax, uTabs] [] (fun (i : Unit) => { val := (int .i64 r) }) := by
 unfold f_names_Compare at h
 refine fn_enter Tryz.func15 rfl Tryz.ntmps15 rfl (fun w0 Z0 => ?_)
 refine aw_sr ?_
 refine an_ ?_
 refine sm_ ?_
 obtain ⟨r2, hc1, h⟩ := opt_some h
 refine al_call (vs := [(str a0)]) (f_names_Split_ok fu a0 hc1) [] [] [] (pre_fz 0 rfl (pre_fz 1 rfl pre_nil)) rfl (by simp) (by decide) (.inl rfl) rfl Tryz.func30 rfl rfl rfl (fun v3 => ?_)
 refine mv_ ?_
 refine al_ex rfl rfl rfl ?_
 refine al_ex rfl rfl rfl ?_
 refine as_ ?_
 refine an_ ?_
 refine sm_ ?_
 obtain ⟨r5, hc4, h⟩ := opt_some h
 refine al_call (vs := [(str a1)]) (f_names_Split_ok fu a1 hc4) [] [] [0] (pre_fz 0 rfl (pre_fz 1 rfl pre_nil)) rfl (by simp) (by decide) (.inl rfl) rfl Tryz.func30 rfl rfl rfl (fun v6 => ?_)
 refine mv_ ?_
 refine al_ex rfl rfl rfl ?_
 refine al_ex rfl rfl rfl ?_
 refine as_ ?_
 refine an_ ?_
 refine sm_ ?_
 refine mv_ ?_
 obtain ⟨r8, hc7, h⟩ := opt_some h
 refine al_call (vs := [v3, v6]) (f_slices_Compare___string_string__ok fu v3 r2.1 v6 r5.1 hc7) [0, 1] [] [0, 1] (pre_own 1 rfl rfl (pre_own 0 rfl rfl pre_nil)) rfl (by simp) (by decide) (.inr flat_res0) rfl Tryz.func32 rfl rfl rfl (fun _ => ?_)
 refine an_ ?_
 refine aw_ret ?_
 cases h
 exact fr1_
def f_bytealg_LastIndexByteString_L5 (a0 : (List UInt8)) (a1 : Int) (kk2 : (Unit → Option Int)) : Nat → Int → Option Int
  | 0, _ => none
  | k4 + 1, l3i5 => (bif (decide (l3i5 ≥ (0 : Int))) then (req (0 ≤ l3i5 ∧ l3i5 < (a0.length : Int)) (bif ((En.bAt a0 l3i5) == a1) then (some l3i5) else (f_bytealg_LastIndexByteString_L5 a0 a1 kk2 k4 (IntKind.i64.wrap (l3i5 - (1 : Int)))))) else (kk2 ()))
def f_bytealg_LastIndexByteString (fu : Nat) (a0 : (List UInt8)) (a1 : Int) : Option Int := (lt (fun (_ : Unit) => (some (-1 : Int))) fun (kk2 : Unit → Option Int) => (f_bytealg_LastIndexByteString_L5 a0 a1 kk2 fu (IntKind.i64.wrap ((a0.length : Int) - (1 : Int)))))
set_option maxHeartbeats 2000000 in
set_option maxRecDepth 100000 in
theorem f_bytealg_LastIndexByteString_ok (fu : Nat) (a0 : (List UInt8)) (a1 : Int) {r : Int} (h : f_bytealg_LastIndexByteString fu a0 a1 = some r) : FnOk Tryz.prog 36 [(str a0), (int .u8 a1)] [] [] (fun (i : Unit) => { val := (int .i64 r) }) := by
 unfold f_bytealg_LastIndexByteString at h
 refine fn_enter Tryz.func36 rfl Tryz.ntmps36 rfl (fun w0 Z0 => ?_)
 refine aw_sr ?_
 refine an_ ?_
 obtain ⟨kk2, hkk2, h⟩ := lt_some h
 refine aw_seq_join (ι := Unit) (fun i => (memOf w0 Z0 [] [] [])) (fun i => (tab [])) (fun i => kk2 () = some r) ?_ ?_
 rintro _ h
 have h : kk2 () = some r := h
 rw [hkk2] at h
 dsimp only at h
 clear hkk2
 refine aw_show (m := (memOf w0 Z0 [] [] [])) (S := _) ?_
 refine aw_sr ?_
 refine an_ ?_
 refine aw_ret ?_
 cases h
 exact fr1_
 clear hkk2
 refine sm_ ?_
 refine al_val (ov_strLen Tryz.underlying9 rfl rfl) ?_
 refine in_ ?_
 refine an_ ?_
 refine aw_block ?_
 refine aw_state (aw_loop (ι := Int) (fun i => (memOf w0 Z0 [] [] [])) (fun i => (tab [(0, (str a0)), (1, (i8 a1)), (5, (iq i))])) (fun q i => f_bytealg_LastIndexByteString_L5 a0 a1 kk2 q i = some r) ?_ fu (wq ((a0.length : Int) - (1 : Int))) h) (nm_ [] [] (by decide) ⟨rfl, rfl, rfl, trivial⟩)
 clear h
 rintro k4 l3i5 h
 have h : f_bytealg_LastIndexByteString_L5 a0 a1 kk2 k4 l3i5 = some r := h
 obtain _ | k4 := k4
 rw [f_bytealg_LastIndexByteString_L5] at h; cases h
 rw [f_bytealg_LastIndexByteString_L5] at h
 refine aw_show (m := (memOf w0 Z0 [] [] [])) (S := _) ?_
 refine aw_seq ?_
 refine sm_ ?_
 refine im_ ?_
 refine aw_cond rfl (fun hb6 => ?_) (fun hb6 => ?_)
 replace h := bif_t hb6 h
 refine aw_skip ?_
 refine aq_then ?_
 refine aw_seq ?_
 refine aw_block ?_
 refine sm_ ?_
 refine mv_ ?_
 obtain ⟨hc7, h⟩ := req_some h
 refine al_val (ov_strIdx hc7.1 hc7.2 Tryz.underlying9 rfl rfl rfl) ?_
 refine mv_ ?_
 refine im_ ?_
 refine aw_cond rfl (fun hb8 => ?_) (fun hb8 => ?_)
 replace h := bif_t hb8 h
 refine sm_ ?_
 refine an_ ?_
 refine aw_ret ?_
 refine aq_block_ret ?_
 refine aq_then_ret ?_
 refine aq_then_ret ?_
 refine aq_block_ret ?_
 refine aq_then_ret ?_
 cases h
 exact fr1_
 replace h := bif_f hb8 h
 refine aw_skip ?_
 refine aq_block ?_
 refine aq_then ?_
 refine aw_region ?_
 refine mv_ ?_
 refine in_ ?_
 refine as_ ?_
 refine al_nil ?_
 exact aq_again k4 (wq (l3i5 - (1 : Int))) (Nat.lt_succ_self _) h (nm_ [] [] (by decide) ⟨rfl, rfl, rfl, trivial⟩)
 replace h := bif_f hb6 h
 refine aw_exit ?_
 refine aq_then_exit ?_
 refine aq_then_exit ?_
 refine aq_block_exit ?_
 exact aq_join () h (nm_ [] [] (by decide) trivial)
def f_strings_LastIndexByte (fu : Nat) (a0 : (List UInt8)) (a1 : Int) : Option Int := (opt (f_bytealg_LastIndexByteString fu a0 a1) fun (r2 : Int) => (some r2))
set_option maxRecDepth 100000 in
theorem f_strings_LastIndexByte_ok (fu : Nat) (a0 : (List UInt8)) (a1 : Int) {r : Int} (h : f_strings_LastIndexByte fu a0 a1 = some r) : FnOk Tryz.prog 22 [(str a0), (int .u8 a1)] [] [] (fun (i : Unit) => { val := (int .i64 r) }) := by
 unfold f_strings_LastIndexByte at h
 refine fn_enter Tryz.func22 rfl Tryz.ntmps22 rfl (fun w0 Z0 => ?_)
 refine aw_sr ?_
 refine an_ ?_
 refine sm_ ?_
 refine mv_ ?_
 obtain ⟨r2, hc1, h⟩ := opt_some h
 refine al_call (vs := [(str a0), (i8 a1)]) (f_bytealg_LastIndexByteString_ok fu a0 a1 hc1) [] [] [] pre_nil rfl (by simp) (by decide) (.inl rfl) rfl Tryz.func36 rfl rfl rfl (fun _ => ?_)
 refine an_ ?_
 refine aw_ret ?_
 cases h
 exact fr1_
def f_walk_Parent (fu : Nat) (a0 : (List UInt8)) : Option (List UInt8) := (opt (f_strings_LastIndexByte fu a0 (47 : Int)) fun (r2 : Int) => (req (0 ≤ r2 ∧ r2 ≤ (a0.length : Int)) (some (a0.take (r2).toNat))))
set_option maxRecDepth 100000 in
theorem f_walk_Parent_ok (fu : Nat) (a0 : (List UInt8)) {r : (List UInt8)} (h : f_walk_Parent fu a0 = some r) : FnOk Tryz.prog 11 [(str a0)] [] [] (fun (i : Unit) => { val := (str r) }) := by
 unfold f_walk_Parent at h
 refine fn_enter Tryz.func11 rfl Tryz.ntmps11 rfl (fun w0 Z0 => ?_)
 refine aw_sr ?_
 refine an_ ?_
 refine sm_ ?_
 refine mv_ ?_
 obtain ⟨r2, hc1, h⟩ := opt_some h
 refine al_call (vs := [(str a0), (i8 (47 : Int))]) (f_strings_LastIndexByte_ok fu a0 (47 : Int) hc1) [] [] [] pre_nil rfl (by simp) (by decide) (.inl rfl) rfl Tryz.func22 rfl rfl rfl (fun _ => ?_)
 obtain ⟨hc3, h⟩ := req_some h
 refine al_val (ov_strTo hc3.1 hc3.2 Tryz.underlying9 rfl rfl rfl) ?_
 refine an_ ?_
 refine aw_ret ?_
 cases h
 exact fr1_
def f_walk_Check_L8 (a0 : (List S_api_Item)) (kk5 : (Unit → Option Int)) (fu : Nat) : Nat → (List ((List UInt8) × Bool)) → Int → Option Int
  | 0, _, _ => none
  | k7 + 1, l6xm3, l6i14 => (bif (decide (l6i14 < (a0.length : Int))) then (opt (at? a0 l6i14) fun (u10 : S_api_Item) => (opt (f_walk_item fu u10) fun (r15 : Int) => (bif (r15 != (0 : Int)) then (some r15) else (lt (fun (j17b37 : Bool) => (bif j17b37 then (some (4 : Int)) else (opt (f_walk_Parent fu u10.Path) fun (r21 : (List UInt8)) => (req (r21.length ≤ 9223372036854775807) (bif (!((gget l6xm3 r21).getD false)) then (some (9 : Int)) else (req (u10.Path.length ≤ 9223372036854775807) (f_walk_Check_L8 a0 kk5 fu k7 (gset l6xm3 u10.Path (u10.Kind == (2 : Int))) (IntKind.i64.wrap (l6i14 + (1 : Int)))))))))) fun (kk18 : Bool → Option Int) => (bif (decide (l6i14 > (0 : Int))) then (opt (at? a0 (IntKind.i64.wrap (l6i14 - (1 : Int)))) fun (u26 : S_api_Item) => (opt (f_names_Compare fu u26.Path u10.Path) fun (r31 : Int) => (kk18 (decide (r31 ≥ (0 : Int)))))) else (kk18 false)))))) else (kk5 ()))
def f_walk_Check (fu : Nat) (a0 : (List S_api_Item)) : Option Int := (bif (decide ((a0.length : Int) > (100 : Int))) then (some (2 : Int)) else (req (([] : List UInt8).length ≤ 9223372036854775807) (lt (fun (_ : Unit) => (some (0 : Int))) fun (kk5 : Unit → Option Int) => (f_walk_Check_L8 a0 kk5 fu fu (gset ([] : List ((List UInt8) × Bool)) ([] : List UInt8) true) (0 : Int)))))
set_option maxHeartbeats 2000000 in
set_option maxRecDepth 100000 in
theorem f_walk_Check_ok (fu : Nat) (v0_0 : Value) (a0 : (List S_api_Item)) {r : Int} (h : f_walk_Check fu a0 = some r) : FnOk Tryz.prog 6 [v0_0] [(fDat (tyList tyS_api_Item) [v0_0] a0), uMax, uTabs] [] (fun (i : Unit) => { val := (int .i64 r) }) := by
 unfold f_walk_Check at h
 refine fn_enter Tryz.func6 rfl Tryz.ntmps6 rfl (fun w0 Z0 => ?_)
 refine aw_sr ?_
 refine an_ ?_
 refine aw_seq ?_
 refine sm_ ?_
 refine al_val (ov_lenD 0 rfl rfl Tryz.underlying26 rfl) ?_
 refine im_ ?_
 refine aw_cond rfl (fun hb1 => ?_) (fun hb1 => ?_)
 replace h := bif_t hb1 h
 refine aw_sr ?_
 refine an_ ?_
 refine aw_ret ?_
 refine aq_then_ret ?_
 cases h
 exact fr1_
 replace h := bif_f hb1 h
 refine aw_skip ?_
 refine aq_tr ?_
 refine al_makeMapK (ν := Bool) 9 str (fun x : Bool => bool x) rfl (fun g2 => ?_)
 obtain ⟨hc3, h⟩ := req_some h
 refine al_insertK (ek := str) (ew := (fun x : Bool => bool x)) (k := ([] : List UInt8)) (v := true) 0 kd9 str_inj (key_str Tryz.underlying9 hc3) rfl rfl rfl rfl Tryz.underlying49 rfl ?_
 refine mv_ ?_
 refine an_ ?_
 obtain ⟨kk5, hkk5, h⟩ := lt_some h
 refine aw_seq_join (ι := Unit) (fun i => (memOf w0 Z0 [] [] [(fDat (tyList tyS_api_Item) [v0_0] a0), uMax, uTabs])) (fun i => (tab [])) (fun i => kk5 () = some r) ?_ ?_
 rintro _ h
 have h : kk5 () = some r := h
 rw [hkk5] at h
 dsimp only at h
 clear hkk5
 refine aw_show (m := (memOf w0 Z0 [] [] [(fDat (tyList tyS_api_Item) [v0_0] a0), uMax, uTabs])) (S := _) ?_
 refine aw_sr ?_
 refine an_ ?_
 refine aw_ret ?_
 cases h
 exact fr1_
 clear hkk5
 refine sm_ ?_
 refine al_val (ov_lenD 0 rfl rfl Tryz.underlying26 rfl) ?_
 refine mv_ ?_
 refine al_nt ?_
 refine aw_block ?_
 refine aw_state (aw_loop (ι := (List ((List UInt8) × Bool)) × Int) (fun i => (memOf w0 Z0 [] [(oMapK Tryz.prog 9 g2 str (fun x : Bool => bool x) i.1)] [(fDat (tyList tyS_api_Item) [v0_0] a0), uMax, uTabs])) (fun i => (tab [(0, v0_0), (3, (Value.map (some g2))), (12, v0_0), (13, (iq (a0.length : Int))), (14, (iq i.2))])) (fun q i => f_walk_Check_L8 a0 kk5 fu q i.1 i.2 = some r) ?_ fu ((gset ([] : List ((List UInt8) × Bool)) ([] : List UInt8) true), (0 : Int)) h) (nm_ [0] [0, 1, 2] (by decide) ⟨rfl, rfl, rfl, rfl, rfl, trivial⟩)
 clear h
 rintro k7 ⟨l6xm3, l6i14⟩ h
 have h : f_walk_Check_L8 a0 kk5 fu k7 l6xm3 l6i14 = some r := h
 obtain _ | k7 := k7
 rw [f_walk_Check_L8] at h; cases h
 rw [f_walk_Check_L8] at h
 refine aw_show (m := (memOf w0 Z0 [] [(oMapK Tryz.prog 9 g2 str (fun x : Bool => bool x) l6xm3)] [(fDat (tyList tyS_api_Item) [v0_0] a0), uMax, uTabs])) (S := _) ?_
 refine aw_sr ?_
 refine im_ ?_
 refine aw_seq ?_
 refine aw_cond rfl (fun hb9 => ?_) (fun hb9 => ?_)
 replace h := bif_t hb9 h
 refine aw_skip ?_
 refine aq_then ?_
 refine aw_seq ?_
 refine aw_block ?_
 refine sm_ ?_
 obtain ⟨u10, hu11, h⟩ := opt_some h
 refine al_idxD 0 hu11 rfl rfl rfl Tryz.underlying26 sz45 rfl (fun p12 => ?_)
 refine al_val (ov_loadP (ds := [(str u10.Path), (iq u10.Kind), (iq u10.Mode), (iq u10.Time), (str u10.Bytes)]) 0 rfl encS_api_Item rfl Tryz.underlying45 sz45 rfl rfl rfl) ?_
 refine al_alloc (zs := [(str ([] : List UInt8)), (iq (0 : Int)), (iq (0 : Int)), (iq (0 : Int)), (str ([] : List UInt8))]) (zeroOf_to to45) rfl rfl (fun g13 => ?_)
 refine as_ ?_
 refine al_store (i := 0) (vs := [(str u10.Path), (iq u10.Kind), (iq u10.Mode), (iq u10.Time), (str u10.Bytes)]) (cs' := [(str u10.Path), (iq u10.Kind), (iq u10.Mode), (iq u10.Time), (str u10.Bytes)]) rfl rfl rfl sz45 (cv_rfl rfl) rfl (co_val rfl (co_val rfl (co_val rfl (co_val rfl (co_val rfl co_nil))))) (Nat.le_of_ble_eq_true rfl) rfl rfl ?_
 refine al_nt ?_
 refine aw_seq ?_
 refine aw_sr ?_
 refine al_val (ov_load (i := 0) (v := (ag [(str u10.Path), (iq u10.Kind), (iq u10.Mode), (iq u10.Time), (str u10.Bytes)])) rfl rfl Tryz.underlying45 sz45 rfl rfl rfl rfl) ?_
 obtain ⟨r15, hc14, h⟩ := opt_some h
 refine al_call (vs := [(ag [(str u10.Path), (iq u10.Kind), (iq u10.Mode), (iq u10.Time), (str u10.Bytes)])]) (f_walk_item_ok fu u10 hc14) [] [] [0, 1] (pre_fz 2 rfl (pre_fz 3 rfl pre_nil)) rfl (by simp) (by decide) (.inl rfl) rfl Tryz.func14 rfl rfl rfl (fun _ => ?_)
 refine an_ ?_
 refine sm_ ?_
 refine im_ ?_
 refine aw_cond rfl (fun hb16 => ?_) (fun hb16 => ?_)
 replace h := bif_t hb16 h
 refine sm_ ?_
 refine an_ ?_
 refine aw_ret ?_
 refine aq_then_ret ?_
 refine aq_block_ret ?_
 refine aq_then_ret ?_
 refine aq_then_ret ?_
 refine aq_block_ret ?_
 refine aq_then_ret ?_
 cases h
 exact fr1_
 replace h := bif_f hb16 h
 refine aw_skip ?_
 refine aq_then ?_
 refine aw_seq ?_
 obtain ⟨kk18, hkk18, h⟩ := lt_some h
 refine aw_seq_join (ι := Bool) (fun i => (memOf w0 Z0 [] [(oMapK Tryz.prog 9 g2 str (fun x : Bool => bool x) l6xm3), (oBox g13 45 [(str u10.Path), (iq u10.Kind), (iq u10.Mode), (iq u10.Time), (str u10.Bytes)])] [(fDat (tyList tyS_api_Item) [v0_0] a0), (fPtr tyS_api_Item p12 u10), uMax, uTabs])) (fun i => (tab [(0, v0_0), (3, (Value.map (some g2))), (5, (pq g13)), (12, v0_0), (13, (iq (a0.length : Int))), (14, (iq l6i14)), (37, (bool i))])) (fun i => kk18 i = some r) ?_ ?_
 rintro j17b37 h
 have h : kk18 j17b37 = some r := h
 rw [hkk18] at h
 dsimp only at h
 clear hkk18
 refine aw_show (m := (memOf w0 Z0 [] [(oMapK Tryz.prog 9 g2 str (fun x : Bool => bool x) l6xm3), (oBox g13 45 [(str u10.Path), (iq u10.Kind), (iq u10.Mode), (iq u10.Time), (str u10.Bytes)])] [(fDat (tyList tyS_api_Item) [v0_0] a0), (fPtr tyS_api_Item p12 u10), uMax, uTabs])) (S := _) ?_
 refine aw_cond rfl (fun hb19 => ?_) (fun hb19 => ?_)
 replace h := bif_t hb19 h
 refine aw_sr ?_
 refine an_ ?_
 refine aw_ret ?_
 refine aq_then_ret ?_
 refine aq_block_ret ?_
 refine aq_then_ret ?_
 refine aq_then_ret ?_
 refine aq_block_ret ?_
 refine aq_then_ret ?_
 cases h
 exact fr1_
 replace h := bif_f hb19 h
 refine aw_skip ?_
 refine aq_then ?_
 refine aw_seq ?_
 refine sm_ ?_
 refine al_val (ov_fieldA (p := 0) rfl Tryz.underlying45 rfl sz9 rfl rfl rfl) ?_
 refine al_val (ov_load (i := 1) (v := (str u10.Path)) rfl rfl Tryz.underlying9 sz9 rfl rfl rfl rfl) ?_
 obtain ⟨r21, hc20, h⟩ := opt_some h
 refine al_call (vs := [(str u10.Path)]) (f_walk_Parent_ok fu u10.Path hc20) [] [] [0, 1] pre_nil rfl (by simp) (by decide) (.inl rfl) rfl Tryz.func11 rfl rfl rfl (fun _ => ?_)
 obtain ⟨hc22, h⟩ := req_some h
 refine al_val (v := (bool ((gget l6xm3 r21).getD false))) (ov_lookupK (k := r21) (ek := str) (ew := (fun x : Bool => bool x)) (z := false) 0 kd9 str_inj (key_str Tryz.underlying9 hc22) rfl rfl rfl Tryz.underlying49 (zeroOf_to to4) rfl) ?_
 refine al_val (ov_not rfl rfl) ?_
 refine al_nt ?_
 refine aw_cond rfl (fun hb23 => ?_) (fun hb23 => ?_)
 replace h := bif_t hb23 h
 refine aw_sr ?_
 refine an_ ?_
 refine aw_ret ?_
 refine aq_then_ret ?_
 refine aq_block_ret ?_
 refine aq_then_ret ?_
 refine aq_then_ret ?_
 refine aq_block_ret ?_
 refine aq_then_ret ?_
 cases h
 exact fr1_
 replace h := bif_f hb23 h
 refine aw_skip ?_
 refine aq_then ?_
 refine aw_region ?_
 refine mv_ ?_
 refine al_val (ov_fieldA (p := 0) rfl Tryz.underlying45 rfl sz9 rfl rfl rfl) ?_
 refine al_val (ov_load (i := 1) (v := (str u10.Path)) rfl rfl Tryz.underlying9 sz9 rfl rfl rfl rfl) ?_
 refine al_val (ov_fieldA (p := 1) rfl Tryz.underlying45 rfl sz3 rfl rfl rfl) ?_
 refine al_val (ov_load (i := 1) (v := (iq u10.Kind)) rfl rfl Tryz.underlying3 sz3 rfl rfl rfl rfl) ?_
 refine in_ ?_
 obtain ⟨hc24, h⟩ := req_some h
 refine al_mapSetK (ek := str) (ew := (fun x : Bool => bool x)) (k := u10.Path) (v := (u10.Kind == (2 : Int))) 0 kd9 str_inj (key_str Tryz.underlying9 hc24) rfl rfl rfl rfl Tryz.underlying49 rfl ?_
 refine al_nil ?_
 refine aq_block ?_
 refine aq_then ?_
 refine aw_region ?_
 refine in_ ?_
 refine mv_ ?_
 refine al_nil ?_
 exact aq_again k7 ((gset l6xm3 u10.Path (u10.Kind == (2 : Int))), (wq (l6i14 + (1 : Int)))) (Nat.lt_succ_self _) h (nm_ [0] [0, 2, 3] (by decide) ⟨rfl, rfl, rfl, rfl, rfl, trivial⟩)
 clear hkk18
 rcases Bool.eq_false_or_eq_true (decide (l6i14 > (0 : Int))) with hb25 | hb25
 replace h := bif_t hb25 h
 obtain ⟨u26, hu27, h⟩ := opt_some h
 obtain ⟨r31, hc30, h⟩ := opt_some h
 refine aw_region_draw 13 [(24, (fE (iq l6i14))), (25, (fE (bool true))), (26, (fE (bool true))), (27, (fE v0_0)), (28, (fE (iq l6i14))), (29, (fE (iq (wq (l6i14 - (1 : Int)))))), (30, (fun p28 => (fPtr tyS_api_Item p28 u26))), (31, (fun p29 => (fPtr tyStr p29 u26.Path))), (32, (fE (str u26.Path))), (33, (fE (pq g13))), (34, (fE (str u10.Path))), (35, (fE (iq r31))), (36, (fE (bool (decide (r31 ≥ (0 : Int))))))] (tab [(0, v0_0), (3, (Value.map (some g2))), (4, (iq l6i14)), (5, (pq g13)), (12, v0_0), (13, (iq (a0.length : Int))), (14, (iq l6i14))]) mixed (by kernel_rfl) rfl rfl rfl (fun a hs => hs.tab _ (allT_mem ⟨rfl, rfl, rfl, rfl, rfl, rfl, rfl, trivial⟩)) ⟨⟨rfl, ld_val (ov_move rfl rfl)⟩, ⟨rfl, ld_eq (j := 0) rfl rfl (ld_val (ov_cast (by first | rw [hb25] | rfl) (ov_int rfl rfl rfl rfl)))⟩, ⟨rfl, ld_eq (j := 1) rfl rfl (ld_val (ov_cast (by first | rw [hb25] | rfl) (ov_move rfl rfl)))⟩, ⟨rfl, ld_eq (j := 2) rfl rfl (ld_val (ov_move rfl rfl))⟩, ⟨rfl, ld_eq (j := 2) rfl rfl (ld_val (ov_move rfl rfl))⟩, ⟨rfl, ld_eq (j := 2) rfl rfl (ld_eq (j := 4) rfl rfl (ld_val (ov_int rfl rfl rfl rfl)))⟩, ⟨rfl, ld_eq (j := 2) rfl rfl (ld_eq (j := 3) rfl rfl (ld_eq (j := 5) rfl rfl (ld_of (of_idxD 1 hu27 rfl rfl rfl Tryz.underlying26 sz45 rfl))))⟩, ⟨rfl, ld_eq (j := 2) rfl rfl (ld_fact (j := 6) rfl rfl (fun p28 => ld_of (of_fieldD (pr := fun (y : S_api_Item) => y.Path) 0 rfl subS_api_Item_0 rfl Tryz.underlying45 rfl sz9 rfl rfl)))⟩, ⟨rfl, ld_eq (j := 2) rfl rfl (ld_fact (j := 7) rfl rfl (fun p29 => ld_val (ov_loadP (ds := [(str u26.Path)]) 0 rfl (fun h => h) rfl Tryz.underlying9 sz9 rfl rfl rfl)))⟩, ⟨rfl, ld_eq (j := 2) rfl rfl (ld_val (ov_fieldA (p := 0) rfl Tryz.underlying45 rfl sz9 rfl rfl rfl))⟩, ⟨rfl, ld_eq (j := 2) rfl rfl (ld_eq (j := 9) rfl rfl (ld_val (ov_load (i := 0) (v := (str u10.Path)) rfl rfl Tryz.underlying9 sz9 rfl rfl rfl rfl)))⟩, ⟨rfl, ld_eq (j := 2) rfl rfl (ld_eq (j := 8) rfl rfl (ld_eq (j := 10) rfl rfl (ld_callV (vs := [(str u26.Path), (str u10.Path)]) (f_names_Compare_ok fu u26.Path u10.Path hc30) [] (pre_fz 2 rfl (pre_fz 3 rfl pre_nil)) rfl Tryz.func15 rfl rfl rfl)))⟩, ⟨rfl, ld_eq (j := 2) rfl rfl (ld_eq (j := 11) rfl rfl (ld_val (ov_int rfl rfl rfl rfl)))⟩, trivial⟩ ?_
 refine tl_eq 2 rfl ?_
 refine tl_eq 12 rfl ?_
 refine tl_done ?_
 refine al_val (ov_pick_t rfl rfl rfl) ?_
 refine al_nil ?_
 exact aq_join (decide (r31 ≥ (0 : Int))) h (nm_ [1, 0] [1, 0, 2, 3] (by decide) ⟨rfl, rfl, rfl, rfl, rfl, rfl, rfl, trivial⟩)
 replace h := bif_f hb25 h
 refine aw_region_draw 13 [(24, (fE (iq l6i14))), (25, (fE (bool false))), (26, (fE (bool false))), (27, (fE undef)), (28, (fE undef)), (29, (fE undef)), (30, (fE undef)), (31, (fE undef)), (32, (fE undef)), (33, (fE undef)), (34, (fE undef)), (35, (fE undef)), (36, (fE undef))] (tab [(0, v0_0), (3, (Value.map (some g2))), (4, (iq l6i14)), (5, (pq g13)), (12, v0_0), (13, (iq (a0.length : Int))), (14, (iq l6i14))]) mixed (by kernel_rfl) rfl rfl rfl (fun a hs => hs.tab _ (allT_mem ⟨rfl, rfl, rfl, rfl, rfl, rfl, rfl, trivial⟩)) ⟨⟨rfl, ld_val (ov_move rfl rfl)⟩, ⟨rfl, ld_eq (j := 0) rfl rfl (ld_val (ov_cast (by first | rw [hb25] | rfl) (ov_int rfl rfl rfl rfl)))⟩, ⟨rfl, ld_eq (j := 1) rfl rfl (ld_val (ov_cast (by first | rw [hb25] | rfl) (ov_move rfl rfl)))⟩, ⟨rfl, ld_eq (j := 2) rfl rfl (ld_skip)⟩, ⟨rfl, ld_eq (j := 2) rfl rfl (ld_skip)⟩, ⟨rfl, ld_eq (j := 2) rfl rfl (ld_skip)⟩, ⟨rfl, ld_eq (j := 2) rfl rfl (ld_skip)⟩, ⟨rfl, ld_eq (j := 2) rfl rfl (ld_skip)⟩, ⟨rfl, ld_eq (j := 2) rfl rfl (ld_skip)⟩, ⟨rfl, ld_eq (j := 2) rfl rfl (ld_skip)⟩, ⟨rfl, ld_eq (j := 2) rfl rfl (ld_skip)⟩, ⟨rfl, ld_eq (j := 2) rfl rfl (ld_skip)⟩, ⟨rfl, ld_eq (j := 2) rfl rfl (ld_skip)⟩, trivial⟩ ?_
 refine tl_eq 2 rfl ?_
 refine tl_eq 12 rfl ?_
 refine tl_done ?_
 refine al_val (ov_pick_f rfl rfl rfl) ?_
 refine al_nil ?_
 exact aq_join false h (nm_ [1, 0] [1, 0, 2, 3] (by decide) ⟨rfl, rfl, rfl, rfl, rfl, rfl, rfl, trivial⟩)
 replace h := bif_f hb9 h
 refine aw_exit ?_
 refine aq_then_exit ?_
 refine aq_then_exit ?_
 refine aq_block_exit ?_
 exact aq_join () h (nm_ [] [0, 1, 2] (by decide) trivial)
def f_roll_reduce_L5 (kk2 : (Int → Option Int)) : Nat → Int → Int → Option Int
  | 0, _, _ => none
  | k4 + 1, l3i0, l3i3 => (bif (decide (l3i3 ≥ (31 : Int))) then (lt (fun (j7i0 : Int) => (f_roll_reduce_L5 kk2 k4 j7i0 (IntKind.i64.wrap (l3i3 - (1 : Int))))) fun (kk8 : Int → Option Int) => (req (0 ≤ l3i3) (bif ((bits .and .u64 ((l3i0).fdiv (2 ^ min (l3i3).toNat (IntKind.bits .u64))) (1 : Int)) == (1 : Int)) then (req (0 ≤ (IntKind.i64.wrap (l3i3 - (31 : Int)))) (kk8 (bits .xor .u64 l3i0 (IntKind.u64.wrap ((2147483657 : Int) * 2 ^ min ((IntKind.i64.wrap (l3i3 - (31 : Int)))).toNat (IntKind.bits .u64)))))) else (kk8 l3i0)))) else (kk2 l3i0))
def f_roll_reduce (fu : Nat) (a0 : Int) : Option Int := (lt (fun (j1i0 : Int) => (some (IntKind.u32.wrap j1i0))) fun (kk2 : Int → Option Int) => (f_roll_reduce_L5 kk2 fu a0 (63 : Int)))
set_option maxHeartbeats 2000000 in
set_option maxRecDepth 100000 in
theorem f_roll_reduce_ok (fu : Nat) (a0 : Int) {r : Int} (h : f_roll_reduce fu a0 = some r) : FnOk Tryz.prog 137 [(int .u64 a0)] [] [] (fun (i : Unit) => { val := (int .u32 r) }) := by
 unfold f_roll_reduce at h
 refine fn_enter Tryz.func137 rfl Tryz.ntmps137 rfl (fun w0 Z0 => ?_)
 refine aw_sr ?_
 refine an_ ?_
 obtain ⟨kk2, hkk2, h⟩ := lt_some h
 refine aw_seq_join (ι := Int) (fun i => (memOf w0 Z0 [] [] [])) (fun i => (tab [(0, (uq i))])) (fun i => kk2 i = some r) ?_ ?_
 rintro j1i0 h
 have h : kk2 j1i0 = some r := h
 rw [hkk2] at h
 dsimp only at h
 clear hkk2
 refine aw_show (m := (memOf w0 Z0 [] [] [])) (S := _) ?_
 refine sm_ ?_
 refine al_val (ov_convInt (by rw [Tryz.underlying81]; rfl) Tryz.underlying93 rfl rfl) ?_
 refine an_ ?_
 refine aw_ret ?_
 cases h
 exact fr1_
 clear hkk2
 refine aw_sr ?_
 refine an_ ?_
 refine aw_block ?_
 refine aw_state (aw_loop (ι := Int × Int) (fun i => (memOf w0 Z0 [] [] [])) (fun i => (tab [(0, (uq i.1)), (3, (iq i.2))])) (fun q i => f_roll_reduce_L5 kk2 q i.1 i.2 = some r) ?_ fu (a0, (63 : Int)) h) (nm_ [] [] (by decide) ⟨rfl, rfl, trivial⟩)
 clear h
 rintro k4 ⟨l3i0, l3i3⟩ h
 have h : f_roll_reduce_L5 kk2 k4 l3i0 l3i3 = some r := h
 obtain _ | k4 := k4
 rw [f_roll_reduce_L5] at h; cases h
 rw [f_roll_reduce_L5] at h
 refine aw_show (m := (memOf w0 Z0 [] [] [])) (S := _) ?_
 refine aw_seq ?_
 refine sm_ ?_
 refine im_ ?_
 refine aw_cond rfl (fun hb6 => ?_) (fun hb6 => ?_)
 replace h := bif_t hb6 h
 refine aw_skip ?_
 refine aq_then ?_
 obtain ⟨kk8, hkk8, h⟩ := lt_some h
 refine aw_seq_join (ι := Int) (fun i => (memOf w0 Z0 [] [] [])) (fun i => (tab [(0, (uq i)), (3, (iq l3i3))])) (fun i => kk8 i = some r) ?_ ?_
 rintro j7i0 h
 have h : kk8 j7i0 = some r := h
 rw [hkk8] at h
 dsimp only at h
 clear hkk8
 refine aw_show (m := (memOf w0 Z0 [] [] [])) (S := _) ?_
 refine aw_region ?_
 refine mv_ ?_
 refine in_ ?_
 refine as_ ?_
 refine al_nil ?_
 exact aq_again k4 (j7i0, (wq (l3i3 - (1 : Int)))) (Nat.lt_succ_self _) h (nm_ [] [] (by decide) ⟨rfl, rfl, trivial⟩)
 clear hkk8
 refine aw_block ?_
 refine sm_ ?_
 refine mv_ ?_
 obtain ⟨hc9, h⟩ := req_some h
 refine al_val (ov_shr hc9 rfl rfl rfl) ?_
 refine in_ ?_
 refine im_ ?_
 refine aw_cond rfl (fun hb10 => ?_) (fun hb10 => ?_)
 replace h := bif_t hb10 h
 refine aw_region ?_
 refine mv_ ?_
 refine mv_ ?_
 refine in_ ?_
 obtain ⟨hc11, h⟩ := req_some h
 refine al_val (ov_shl hc11 rfl rfl rfl) ?_
 refine in_ ?_
 refine as_ ?_
 refine al_nil ?_
 refine aq_block ?_
 exact aq_join (bits .xor .u64 l3i0 (wu ((2147483657 : Int) * 2 ^ min ((wq (l3i3 - (31 : Int)))).toNat (IntKind.bits .u64)))) h (nm_ [] [] (by decide) ⟨rfl, rfl, trivial⟩)
 replace h := bif_f hb10 h
 refine aw_skip ?_
 refine aq_block ?_
 exact aq_join l3i0 h (nm_ [] [] (by decide) ⟨rfl, rfl, trivial⟩)
 replace h := bif_f hb6 h
 refine aw_exit ?_
 refine aq_then_exit ?_
 refine aq_then_exit ?_
 refine aq_block_exit ?_
 exact aq_join l3i0 h (nm_ [] [] (by decide) ⟨rfl, trivial⟩)
def f_roll_shift (fu : Nat) (a0 : Int) : Option Int := (opt (f_roll_reduce fu (IntKind.u64.wrap ((IntKind.u64.wrap a0) * 2 ^ min ((8 : Int)).toNat (IntKind.bits .u64)))) fun (r2 : Int) => (some r2))
set_option maxRecDepth 100000 in
theorem f_roll_shift_ok (fu : Nat) (a0 : Int) {r : Int} (h : f_roll_shift fu a0 = some r) : FnOk Tryz.prog 130 [(int .u32 a0)] [] [] (fun (i : Unit) => { val := (int .u32 r) }) := by
 unfold f_roll_shift at h
 refine fn_enter Tryz.func130 rfl Tryz.ntmps130 rfl (fun w0 Z0 => ?_)
 refine aw_sr ?_
 refine an_ ?_
 refine sm_ ?_
 refine al_val (ov_convInt (by rw [Tryz.underlying93]; rfl) Tryz.underlying81 rfl rfl) ?_
 refine al_val (ov_shl (by decide) rfl rfl rfl) ?_
 obtain ⟨r2, hc1, h⟩ := opt_some h
 refine al_call (vs := [(uq (wu ((wu a0) * 2 ^ min ((8 : Int)).toNat (IntKind.bits .u64))))]) (f_roll_reduce_ok fu (wu ((wu a0) * 2 ^ min ((8 : Int)).toNat (IntKind.bits .u64))) hc1) [] [] [] pre_nil rfl (by simp) (by decide) (.inl rfl) rfl Tryz.func137 rfl rfl rfl (fun _ => ?_)
 refine an_ ?_
 refine aw_ret ?_
 cases h
 exact fr1_
def f_roll_last_L5 (kk2 : (Int → Option Int)) (fu : Nat) : Nat → Int → Int → Option Int
  | 0, _, _ => none
  | k4 + 1, l3i3, l3i6 => (bif (decide (l3i6 < (15 : Int))) then (opt (f_roll_shift fu l3i3) fun (r8 : Int) => (f_roll_last_L5 kk2 fu k4 r8 (IntKind.i64.wrap (l3i6 + (1 : Int))))) else (kk2 l3i3))
def f_roll_last (fu : Nat) (a0 : Int) : Option Int := (lt (fun (j1i3 : Int) => (some j1i3)) fun (kk2 : Int → Option Int) => (f_roll_last_L5 kk2 fu fu (IntKind.u32.wrap a0) (0 : Int)))
set_option maxHeartbeats 2000000 in
set_option maxRecDepth 100000 in
theorem f_roll_last_ok (fu : Nat) (a0 : Int) {r : Int} (h : f_roll_last fu a0 = some r) : FnOk Tryz.prog 129 [(int .u8 a0)] [] [] (fun (i : Unit) => { val := (int .u32 r) }) := by
 unfold f_roll_last at h
 refine fn_enter Tryz.func129 rfl Tryz.ntmps129 rfl (fun w0 Z0 => ?_)
 refine aw_sr ?_
 refine an_ ?_
 refine sm_ ?_
 refine al_val (ov_convInt (by rw [Tryz.underlying5]; rfl) Tryz.underlying93 rfl rfl) ?_
 refine an_ ?_
 obtain ⟨kk2, hkk2, h⟩ := lt_some h
 refine aw_seq_join (ι := Int) (fun i => (memOf w0 Z0 [] [] [])) (fun i => (tab [(3, (int .u32 i))])) (fun i => kk2 i = some r) ?_ ?_
 rintro j1i3 h
 have h : kk2 j1i3 = some r := h
 rw [hkk2] at h
 dsimp only at h
 clear hkk2
 refine aw_show (m := (memOf w0 Z0 [] [] [])) (S := _) ?_
 refine sm_ ?_
 refine an_ ?_
 refine aw_ret ?_
 cases h
 exact fr1_
 clear hkk2
 refine sm_ ?_
 refine al_nt ?_
 refine aw_block ?_
 refine aw_state (aw_loop (ι := Int × Int) (fun i => (memOf w0 Z0 [] [] [])) (fun i => (tab [(3, (int .u32 i.1)), (6, (iq i.2))])) (fun q i => f_roll_last_L5 kk2 fu q i.1 i.2 = some r) ?_ fu ((IntKind.u32.wrap a0), (0 : Int)) h) (nm_ [] [] (by decide) ⟨rfl, rfl, trivial⟩)
 clear h
 rintro k4 ⟨l3i3, l3i6⟩ h
 have h : f_roll_last_L5 kk2 fu k4 l3i3 l3i6 = some r := h
 obtain _ | k4 := k4
 rw [f_roll_last_L5] at h; cases h
 rw [f_roll_last_L5] at h
 refine aw_show (m := (memOf w0 Z0 [] [] [])) (S := _) ?_
 refine aw_sr ?_
 refine im_ ?_
 refine aw_seq ?_
 refine aw_cond rfl (fun hb6 => ?_) (fun hb6 => ?_)
 replace h := bif_t hb6 h
 refine aw_skip ?_
 refine aq_then ?_
 refine aw_seq ?_
 refine aw_block ?_
 refine aw_region ?_
 refine mv_ ?_
 obtain ⟨r8, hc7, h⟩ := opt_some h
 refine al_call (vs := [(int .u32 l3i3)]) (f_roll_shift_ok fu l3i3 hc7) [] [] [] pre_nil rfl (by simp) (by decide) (.inl rfl) rfl Tryz.func130 rfl rfl rfl (fun _ => ?_)
 refine as_ ?_
 refine al_nil ?_
 refine aq_block ?_
 refine aq_then ?_
 refine aw_region ?_
 refine in_ ?_
 refine mv_ ?_
 refine al_nil ?_
 exact aq_again k4 (r8, (wq (l3i6 + (1 : Int)))) (Nat.lt_succ_self _) h (nm_ [] [] (by decide) ⟨rfl, rfl, trivial⟩)
 replace h := bif_f hb6 h
 refine aw_exit ?_
 refine aq_then_exit ?_
 refine aq_then_exit ?_
 refine aq_block_exit ?_
 exact aq_join l3i3 h (nm_ [] [] (by decide) ⟨rfl, trivial⟩)
def f_roll_Push (fu : Nat) (a0 : S_api_Roll) (a1 : Int) : Option (S_api_Roll × Int) := (lt (fun (j3b20 : Bool) => (bif j3b20 then (some ((S_api_Roll.mk zA16u8 (0 : Int) (0 : Int)), (1 : Int))) else (lt (fun (j6i2_2 : Int) => (opt (f_roll_shift fu j6i2_2) fun (r9 : Int) => (opt (at? (lA16u8 a0.Win) a0.At) fun (u10 : UInt8) => (req (0 ≤ a1 ∧ a1 ≤ 255) (some ((S_api_Roll.mk (setA16u8 a0.Win a0.At (UInt8.ofNat (a1).toNat)) (((IntKind.i64.wrap (a0.At + (1 : Int)))).tmod (16 : Int)) (bits .xor .u32 r9 (IntKind.u32.wrap a1))), (0 : Int))))))) fun (kk7 : Int → Option (S_api_Roll × Int)) => (opt (at? (lA16u8 a0.Win) a0.At) fun (u13 : UInt8) => (bif ((u13.toNat : Int) != (0 : Int)) then (opt (f_roll_last fu (u13.toNat : Int)) fun (r17 : Int) => (kk7 (bits .xor .u32 a0.Sum r17))) else (kk7 a0.Sum)))))) fun (kk4 : Bool → Option (S_api_Roll × Int)) => (bif (decide (a0.At < (0 : Int))) then (kk4 true) else (bif (decide (a0.At ≥ (16 : Int))) then (kk4 true) else (kk4 ((bits .and .u32 a0.Sum (2147483648 : Int)) != (0 : Int))))))
abbrev mm1 (w0 : World) (Z0 : Nat → Prop) (a0 : S_api_Roll) (g1 : Nat) (g2 : Nat) : Mem := memOf w0 Z0 [] [(oBox g1 150 ((cA16u8 a0.Win) ++ [(int .i64 a0.At), (int .u32 a0.Sum)])), (oBox g2 150 ((cA16u8 zA16u8) ++ [(int .i64 (0 : Int)), (int .u32 (0 : Int))]))] []
abbrev mm2 (w0 : World) (Z0 : Nat → Prop) (a0 : S_api_Roll) (g1 : Nat) (g2 : Nat) (j6i2_2 : Int) : Mem := memOf w0 Z0 [] [(oBox g1 150 ((cA16u8 a0.Win) ++ [(int .i64 a0.At), (int .u32 j6i2_2)])), (oBox g2 150 ((cA16u8 zA16u8) ++ [(int .i64 (0 : Int)), (int .u32 (0 : Int))]))] []
set_option maxHeartbeats 2000000 in
set_option maxRecDepth 100000 in
theorem f_roll_Push_ok (fu : Nat) (a0 : S_api_Roll) (a1 : Int) {r : (S_api_Roll × Int)} (h : f_roll_Push fu a0 a1 = some r) : FnOk Tryz.prog 113 [(ag ((cA16u8 a0.Win) ++ [(int .i64 a0.At), (int .u32 a0.Sum)])), (int .u8 a1)] [] [] (fun (i : Unit) => { val := (Value.tuple #[(ag ((cA16u8 r.1.Win) ++ [(int .i64 r.1.At), (int .u32 r.1.Sum)])), (int .i64 r.2)]) }) := by
 unfold f_roll_Push at h
 refine fn_enter Tryz.func113 rfl Tryz.ntmps113 rfl (fun w0 Z0 => ?_)
 refine aw_sr ?_
 refine al_box (vs := ((cA16u8 a0.Win) ++ [(iq a0.At), (int .u32 a0.Sum)])) rfl (cv_rfl rfl) rfl (fun g1 => ?_)
 refine al_alloc (zs := ((cA16u8 zA16u8) ++ [(iq (0 : Int)), (int .u32 (0 : Int))])) (zeroOf_to to150) rfl rfl (fun g2 => ?_)
 refine an_ ?_
 refine aw_seq ?_
 obtain ⟨kk4, hkk4, h⟩ := lt_some h
 refine aw_seq_join (ι := Bool) (fun i => (mm1 w0 Z0 a0 g1 g2)) (fun i => (tab [(1, (i8 a1)), (2, (pq g1)), (4, (pq g2)), (20, (bool i))])) (fun i => kk4 i = some r) ?_ ?_
 rintro j3b20 h
 have h : kk4 j3b20 = some r := h
 rw [hkk4] at h
 dsimp only at h
 clear hkk4
 refine aw_show (m := (mm1 w0 Z0 a0 g1 g2)) (S := _) ?_
 refine aw_cond rfl (fun hb5 => ?_) (fun hb5 => ?_)
 replace h := bif_t hb5 h
 refine aw_sr ?_
 refine al_val (ov_build (cells := (((cA16u8 zA16u8) ++ [(iq (0 : Int)), (int .u32 (0 : Int))]) : List Value).toArray) (cs := ((cA16u8 zA16u8) ++ [(iq (0 : Int)), (int .u32 (0 : Int))])) rfl (fun w a hm hs => by simp only [List.map_toArray, List.map_cons, List.map_nil, List.toList_toArray]; kernel_rfl)) ?_
 refine al_store (i := 1) (vs := ((cA16u8 zA16u8) ++ [(iq (0 : Int)), (int .u32 (0 : Int))])) (cs' := ((cA16u8 zA16u8) ++ [(iq (0 : Int)), (int .u32 (0 : Int))])) rfl rfl rfl sz150 (cv_rfl rfl) rfl (co_app (oneA16u8 zA16u8) (co_val rfl (co_val rfl co_nil))) (Nat.le_of_ble_eq_true rfl) rfl rfl ?_
 refine an_ ?_
 refine aw_ret ?_
 refine aq_then_ret ?_
 cases h
 exact fn_ret () [] [] rfl rfl rfl rfl (resC rfl (resB (i := 1) rfl rfl Tryz.underlying150 sz150 rfl rfl rfl (resT rfl (resN))) rfl) rfl rfl rfl (by decide)
 replace h := bif_f hb5 h
 refine aw_skip ?_
 refine aq_then ?_
 obtain ⟨kk7, hkk7, h⟩ := lt_some h
 refine aw_seq_join (ι := Int) (fun i => (mm2 w0 Z0 a0 g1 g2 i)) (fun i => (tab [(1, (i8 a1)), (2, (pq g1)), (4, (pq g2))])) (fun i => kk7 i = some r) ?_ ?_
 rintro j6i2_2 h
 have h : kk7 j6i2_2 = some r := h
 rw [hkk7] at h
 dsimp only at h
 clear hkk7
 refine aw_show (m := (mm2 w0 Z0 a0 g1 g2 j6i2_2)) (S := _) ?_
 refine aw_sr ?_
 refine al_val (ov_fieldA (p := 17) rfl Tryz.underlying150 rfl sz93 rfl rfl rfl) ?_
 refine al_val (ov_load (i := 0) (v := (int .u32 j6i2_2)) rfl rfl Tryz.underlying93 sz93 rfl rfl rfl rfl) ?_
 obtain ⟨r9, hc8, h⟩ := opt_some h
 refine al_call (vs := [(int .u32 j6i2_2)]) (f_roll_shift_ok fu j6i2_2 hc8) [] [] [0, 1] pre_nil rfl (by simp) (by decide) (.inl rfl) rfl Tryz.func130 rfl rfl rfl (fun _ => ?_)
 refine mv_ ?_
 refine al_val (ov_convInt (by rw [Tryz.underlying5]; rfl) Tryz.underlying93 rfl rfl) ?_
 refine in_ ?_
 refine al_val (ov_fieldA (p := 17) rfl Tryz.underlying150 rfl sz93 rfl rfl rfl) ?_
 refine al_store (i := 0) (vs := [(int .u32 (bits .xor .u32 r9 (IntKind.u32.wrap a1)))]) (cs' := ((cA16u8 a0.Win) ++ [(iq a0.At), (int .u32 (bits .xor .u32 r9 (IntKind.u32.wrap a1)))])) rfl rfl rfl sz93 (cv_rfl rfl) rfl (co_val rfl co_nil) (Nat.le_of_ble_eq_true rfl) rfl rfl ?_
 refine al_nt ?_
 refine aw_sr ?_
 refine al_val (ov_fieldA (p := 16) rfl Tryz.underlying150 rfl sz3 rfl rfl rfl) ?_
 refine al_val (ov_load (i := 0) (v := (iq a0.At)) rfl rfl Tryz.underlying3 sz3 rfl rfl rfl rfl) ?_
 refine mv_ ?_
 refine al_val (ov_fieldA (p := 0) rfl Tryz.underlying150 rfl sz148 rfl rfl rfl) ?_
 obtain ⟨u10, hu11, h⟩ := opt_some h
 refine al_val (ov_idxArrV hu11 rfl rfl rfl Tryz.underlying148 sz5 rfl) ?_
 obtain ⟨hc12, h⟩ := req_some h
 refine al_storeV (cs := ((cA16u8 a0.Win) ++ [(iq a0.At), (int .u32 (bits .xor .u32 r9 (IntKind.u32.wrap a1)))])) (cs' := ((cA16u8 (setA16u8 a0.Win a0.At (UInt8.ofNat (a1).toNat))) ++ [(iq a0.At), (int .u32 (bits .xor .u32 r9 (IntKind.u32.wrap a1)))])) 0 rfl rfl rfl sz5 rfl (by have h1 := (at_some hu11).2.1; have h0 := (at_some hu11).1; have h2 : ((lA16u8 a0.Win).length : Int) = 16 := rfl; show 0 + (a0.At).toNat < 18; omega) (by (try unfold i8); rw [u8_val hc12]; exact csetA16u8 (at_some hu11).1 (at_some hu11).2.1 [] [(iq a0.At), (int .u32 (bits .xor .u32 r9 (IntKind.u32.wrap a1)))]) rfl ?_
 refine al_nt ?_
 refine aw_sr ?_
 refine al_val (ov_fieldA (p := 16) rfl Tryz.underlying150 rfl sz3 rfl rfl rfl) ?_
 refine al_val (ov_load (i := 0) (v := (iq a0.At)) rfl rfl Tryz.underlying3 sz3 rfl rfl rfl rfl) ?_
 refine in_ ?_
 refine al_val (ov_rem (by decide) rfl rfl rfl) ?_
 refine al_val (ov_fieldA (p := 16) rfl Tryz.underlying150 rfl sz3 rfl rfl rfl) ?_
 refine al_store (i := 0) (vs := [(iq (((wq (a0.At + (1 : Int)))).tmod (16 : Int)))]) (cs' := ((cA16u8 (setA16u8 a0.Win a0.At (UInt8.ofNat (a1).toNat))) ++ [(iq (((wq (a0.At + (1 : Int)))).tmod (16 : Int))), (int .u32 (bits .xor .u32 r9 (IntKind.u32.wrap a1)))])) rfl rfl rfl sz3 (cv_rfl rfl) rfl (co_val rfl co_nil) (Nat.le_of_ble_eq_true rfl) rfl rfl ?_
 refine al_nt ?_
 refine aw_sr ?_
 refine al_val (ov_load (i := 0) (v := (ag ((cA16u8 (setA16u8 a0.Win a0.At (UInt8.ofNat (a1).toNat))) ++ [(iq (((wq (a0.At + (1 : Int)))).tmod (16 : Int))), (int .u32 (bits .xor .u32 r9 (IntKind.u32.wrap a1)))]))) rfl rfl Tryz.underlying150 sz150 rfl rfl rfl rfl) ?_
 refine al_store (i := 1) (vs := ((cA16u8 (setA16u8 a0.Win a0.At (UInt8.ofNat (a1).toNat))) ++ [(iq (((wq (a0.At + (1 : Int)))).tmod (16 : Int))), (int .u32 (bits .xor .u32 r9 (IntKind.u32.wrap a1)))])) (cs' := ((cA16u8 (setA16u8 a0.Win a0.At (UInt8.ofNat (a1).toNat))) ++ [(iq (((wq (a0.At + (1 : Int)))).tmod (16 : Int))), (int .u32 (bits .xor .u32 r9 (IntKind.u32.wrap a1)))])) rfl rfl rfl sz150 (cv_rfl rfl) rfl (co_app (oneA16u8 (setA16u8 a0.Win a0.At (UInt8.ofNat (a1).toNat))) (co_val rfl (co_val rfl co_nil))) (Nat.le_of_ble_eq_true rfl) rfl rfl ?_
 refine an_ ?_
 refine aw_ret ?_
 cases h
 exact fn_ret () [] [] rfl rfl rfl rfl (resC rfl (resB (i := 1) rfl rfl Tryz.underlying150 sz150 rfl rfl rfl (resT rfl (resN))) rfl) rfl rfl rfl (by decide)
 clear hkk7
 refine aw_sr ?_
 refine al_val (ov_fieldA (p := 16) rfl Tryz.underlying150 rfl sz3 rfl rfl rfl) ?_
 refine al_val (ov_load (i := 0) (v := (iq a0.At)) rfl rfl Tryz.underlying3 sz3 rfl rfl rfl rfl) ?_
 refine al_val (ov_fieldA (p := 0) rfl Tryz.underlying150 rfl sz148 rfl rfl rfl) ?_
 obtain ⟨u13, hu14, h⟩ := opt_some h
 refine al_val (ov_idxArrV hu14 rfl rfl rfl Tryz.underlying148 sz5 rfl) ?_
 refine al_val (v := (i8 (u13.toNat : Int))) (ov_loadV (enc := vA16u8) (xs := lA16u8 a0.Win) 0 rfl rfl Tryz.underlying5 sz5 rfl rfl hu14 rfl) ?_
 refine an_ ?_
 refine sm_ ?_
 refine im_ ?_
 refine aw_cond rfl (fun hb15 => ?_) (fun hb15 => ?_)
 replace h := bif_t hb15 h
 obtain ⟨r17, hc16, h⟩ := opt_some h
 refine aw_region_draw 6 [(29, (fE (ptr g1 17))), (30, (fE (int .u32 a0.Sum))), (31, (fE (i8 (u13.toNat : Int)))), (32, (fE (int .u32 r17))), (33, (fE (int .u32 (bits .xor .u32 a0.Sum r17)))), (34, (fE (ptr g1 17)))] (tab [(1, (i8 a1)), (2, (pq g1)), (4, (pq g2)), (6, (i8 (u13.toNat : Int)))]) mixed (by kernel_rfl) rfl rfl rfl (fun a hs => hs.tab _ (allT_mem ⟨rfl, rfl, rfl, rfl, trivial⟩)) ⟨⟨rfl, ld_val (ov_fieldA (p := 17) rfl Tryz.underlying150 rfl sz93 rfl rfl rfl)⟩, ⟨rfl, ld_eq (j := 0) rfl rfl (ld_val (ov_load (i := 0) (v := (int .u32 a0.Sum)) rfl rfl Tryz.underlying93 sz93 rfl rfl rfl rfl))⟩, ⟨rfl, ld_val (ov_move rfl rfl)⟩, ⟨rfl, ld_eq (j := 2) rfl rfl (ld_callV (vs := [(i8 (u13.toNat : Int))]) (f_roll_last_ok fu (u13.toNat : Int) hc16) [] pre_nil rfl Tryz.func129 rfl rfl rfl)⟩, ⟨rfl, ld_eq (j := 1) rfl rfl (ld_eq (j := 3) rfl rfl (ld_val (ov_int rfl rfl rfl rfl)))⟩, ⟨rfl, ld_val (ov_fieldA (p := 17) rfl Tryz.underlying150 rfl sz93 rfl rfl rfl)⟩, trivial⟩ ?_
 refine tl_eq 4 rfl ?_
 refine tl_eq 5 rfl ?_
 refine tl_done ?_
 refine al_store (i := 0) (vs := [(int .u32 (bits .xor .u32 a0.Sum r17))]) (cs' := ((cA16u8 a0.Win) ++ [(iq a0.At), (int .u32 (bits .xor .u32 a0.Sum r17))])) rfl rfl rfl sz93 (cv_rfl rfl) rfl (co_val rfl co_nil) (Nat.le_of_ble_eq_true rfl) rfl rfl ?_
 refine al_nil ?_
 exact aq_join (bits .xor .u32 a0.Sum r17) h (nm_ [0, 1] [] (by decide) ⟨rfl, rfl, rfl, trivial⟩)
 replace h := bif_f hb15 h
 refine aw_skip ?_
 exact aq_join a0.Sum h (nm_ [0, 1] [] (by decide) ⟨rfl, rfl, rfl, trivial⟩)
 clear hkk4
 refine aw_region ?_
 refine al_val (ov_fieldA (p := 16) rfl Tryz.underlying150 rfl sz3 rfl rfl rfl) ?_
 refine al_val (ov_load (i := 1) (v := (iq a0.At)) rfl rfl Tryz.underlying3 sz3 rfl rfl rfl rfl) ?_
 refine in_ ?_
 refine mv_ ?_
 refine al_caseB 10 rfl (fun hb18 => ?_) (fun hb18 => ?_)
 replace h := bif_t hb18 h
 iterate 3 refine al_skip ?_
 refine al_val (ov_pick_t rfl rfl rfl) ?_
 refine mv_ ?_
 iterate 4 refine al_skip ?_
 refine al_val (ov_pick_t rfl rfl rfl) ?_
 refine al_nil ?_
 exact aq_join true h (nm_ [1, 0] [] (by decide) ⟨rfl, rfl, rfl, rfl, trivial⟩)
 replace h := bif_f hb18 h
 refine al_val (ov_fieldA (p := 16) rfl Tryz.underlying150 rfl sz3 rfl rfl rfl) ?_
 refine al_val (ov_load (i := 1) (v := (iq a0.At)) rfl rfl Tryz.underlying3 sz3 rfl rfl rfl rfl) ?_
 refine in_ ?_
 refine al_val (ov_pick_f rfl rfl rfl) ?_
 refine mv_ ?_
 refine al_caseB 15 rfl (fun hb19 => ?_) (fun hb19 => ?_)
 replace h := bif_t hb19 h
 iterate 4 refine al_skip ?_
 refine al_val (ov_pick_t rfl rfl rfl) ?_
 refine al_nil ?_
 exact aq_join true h (nm_ [1, 0] [] (by decide) ⟨rfl, rfl, rfl, rfl, trivial⟩)
 replace h := bif_f hb19 h
 refine al_val (ov_fieldA (p := 17) rfl Tryz.underlying150 rfl sz93 rfl rfl rfl) ?_
 refine al_val (ov_load (i := 1) (v := (int .u32 a0.Sum)) rfl rfl Tryz.underlying93 sz93 rfl rfl rfl rfl) ?_
 refine in_ ?_
 refine in_ ?_
 refine al_val (ov_pick_f rfl rfl rfl) ?_
 refine al_nil ?_
 exact aq_join ((bits .and .u32 a0.Sum (2147483648 : Int)) != (0 : Int)) h (nm_ [1, 0] [] (by decide) ⟨rfl, rfl, rfl, rfl, trivial⟩)
def f_chunk_end_L7 (a0 : S_api_Cut) (a1 : (List UInt8)) (kk4 : (Unit → Option Int)) (fu : Nat) : Nat → A16u8 → Int → Int → Int → Option Int
  | 0, _, _, _, _ => none
  | k6 + 1, l5A5_0, l5i5_1, l5i5_2, l5i10 => (bif (decide (l5i10 < (a1.length : Int))) then (req (0 ≤ l5i10 ∧ l5i10 < (a1.length : Int)) (opt (f_roll_Push fu (S_api_Roll.mk l5A5_0 l5i5_1 l5i5_2) (En.bAt a1 l5i10)) fun (r11 : (S_api_Roll × Int)) => (lt (fun (j12b42 : Bool) => (bif j12b42 then (some (IntKind.i64.wrap (l5i10 + (1 : Int)))) else (f_chunk_end_L7 a0 a1 kk4 fu k6 r11.1.Win r11.1.At r11.1.Sum (IntKind.i64.wrap (l5i10 + (1 : Int)))))) fun (kk13 : Bool → Option Int) => (bif ((IntKind.i64.wrap (l5i10 + (1 : Int))) == a0.Max) then (kk13 true) else (bif (decide ((IntKind.i64.wrap (l5i10 + (1 : Int))) ≥ a0.Min)) then (req (0 ≤ a0.Bits) (kk13 ((bits .and .u32 r11.1.Sum (IntKind.u32.wrap ((IntKind.u32.wrap ((1 : Int) * 2 ^ min (a0.Bits).toNat (IntKind.bits .u32))) - (1 : Int)))) == (0 : Int)))) else (kk13 false)))))) else (kk4 ()))
def f_chunk_end (fu : Nat) (a0 : S_api_Cut) (a1 : (List UInt8)) : Option Int := (lt (fun (_ : Unit) => (some (0 : Int))) fun (kk4 : Unit → Option Int) => (f_chunk_end_L7 a0 a1 kk4 fu fu zA16u8 (0 : Int) (0 : Int) (0 : Int)))
abbrev mm3 (w0 : World) (Z0 : Nat → Prop) (a0 : S_api_Cut) (g1 : Nat) (g2 : Nat) (l5A5_0 : A16u8) (l5i5_1 : Int) (l5i5_2 : Int) : Mem := memOf w0 Z0 [] [(oBox g1 23 [(int .i64 a0.Min), (int .i64 a0.Max), (int .i64 a0.Bits)]), (oBox g2 150 ((cA16u8 l5A5_0) ++ [(int .i64 l5i5_1), (int .u32 l5i5_2)]))] []
abbrev mm4 (w0 : World) (Z0 : Nat → Prop) (a0 : S_api_Cut) (g1 : Nat) (g2 : Nat) (r11 : (S_api_Roll × Int)) : Mem := memOf w0 Z0 [] [(oBox g1 23 [(int .i64 a0.Min), (int .i64 a0.Max), (int .i64 a0.Bits)]), (oBox g2 150 ((cA16u8 r11.1.Win) ++ [(int .i64 r11.1.At), (int .u32 r11.1.Sum)]))] []
set_option maxHeartbeats 2000000 in
set_option maxRecDepth 100000 in
theorem f_chunk_end_ok (fu : Nat) (a0 : S_api_Cut) (a1 : (List UInt8)) {r : Int} (h : f_chunk_end fu a0 a1 = some r) : FnOk Tryz.prog 95 [(ag [(int .i64 a0.Min), (int .i64 a0.Max), (int .i64 a0.Bits)]), (str a1)] [] [] (fun (i : Unit) => { val := (int .i64 r) }) := by
 unfold f_chunk_end at h
 refine fn_enter Tryz.func95 rfl Tryz.ntmps95 rfl (fun w0 Z0 => ?_)
 refine aw_sr ?_
 refine al_box (vs := [(iq a0.Min), (iq a0.Max), (iq a0.Bits)]) rfl (cv_rfl rfl) rfl (fun g1 => ?_)
 refine an_ ?_
 refine aw_sr ?_
 refine al_alloc (zs := ((cA16u8 zA16u8) ++ [(iq (0 : Int)), (int .u32 (0 : Int))])) (zeroOf_to to150) rfl rfl (fun g2 => ?_)
 refine al_nt ?_
 obtain ⟨kk4, hkk4, h⟩ := lt_some h
 refine aw_seq_join (ι := Unit) (fun i => (memOf w0 Z0 [] [] [])) (fun i => (tab [])) (fun i => kk4 () = some r) ?_ ?_
 rintro _ h
 have h : kk4 () = some r := h
 rw [hkk4] at h
 dsimp only at h
 clear hkk4
 refine aw_show (m := (memOf w0 Z0 [] [] [])) (S := _) ?_
 refine aw_sr ?_
 refine an_ ?_
 refine aw_ret ?_
 cases h
 exact fr1_
 clear hkk4
 refine sm_ ?_
 refine al_val (ov_strLen Tryz.underlying9 rfl rfl) ?_
 refine mv_ ?_
 refine al_nt ?_
 refine aw_block ?_
 refine aw_state (aw_loop (ι := A16u8 × Int × Int × Int) (fun i => (mm3 w0 Z0 a0 g1 g2 i.1 i.2.1 i.2.2.1)) (fun i => (tab [(1, (str a1)), (2, (pq g1)), (5, (pq g2)), (9, (iq (a1.length : Int))), (10, (iq i.2.2.2))])) (fun q i => f_chunk_end_L7 a0 a1 kk4 fu q i.1 i.2.1 i.2.2.1 i.2.2.2 = some r) ?_ fu (zA16u8, (0 : Int), (0 : Int), (0 : Int)) h) (nm_ [1, 0] [] (by decide) ⟨rfl, rfl, rfl, rfl, rfl, trivial⟩)
 clear h
 rintro k6 ⟨l5A5_0, l5i5_1, l5i5_2, l5i10⟩ h
 have h : f_chunk_end_L7 a0 a1 kk4 fu k6 l5A5_0 l5i5_1 l5i5_2 l5i10 = some r := h
 obtain _ | k6 := k6
 rw [f_chunk_end_L7] at h; cases h
 rw [f_chunk_end_L7] at h
 refine aw_show (m := (mm3 w0 Z0 a0 g1 g2 l5A5_0 l5i5_1 l5i5_2)) (S := _) ?_
 refine aw_sr ?_
 refine im_ ?_
 refine aw_seq ?_
 refine aw_cond rfl (fun hb8 => ?_) (fun hb8 => ?_)
 replace h := bif_t hb8 h
 refine aw_skip ?_
 refine aq_then ?_
 refine aw_seq ?_
 refine aw_block ?_
 refine sm_ ?_
 refine an_ ?_
 refine aw_seq ?_
 obtain ⟨hc9, h⟩ := req_some h
 refine aw_region_open [(sp_ 0 14 (ag ((cA16u8 l5A5_0) ++ [(iq l5i5_1), (int .u32 l5i5_2)]))), (sp_ 1 15 (str a1)), (sp_ 2 16 (iq l5i10)), (sp_ 3 17 (i8 (En.bAt a1 l5i10)))] (tab [(1, (str a1)), (2, (pq g1)), (5, (pq g2)), (6, (iq l5i10)), (9, (iq (a1.length : Int))), (10, (iq l5i10))]) mixed (fun a hs => hs.tab _ (allT_mem ⟨rfl, rfl, rfl, rfl, rfl, rfl, trivial⟩)) ?_
 refine ta_show (m := (mm3 w0 Z0 a0 g1 g2 l5A5_0 l5i5_1 l5i5_2)) (S := _) ?_
 refine ta_step 4 _ [0, 1, 2, 3] [14, 15, 16, 17] [0, 1, 2, 3] [5, 6, 7] [(sp_ 0 14 (ag ((cA16u8 l5A5_0) ++ [(iq l5i5_1), (int .u32 l5i5_2)]))), (sp_ 1 15 (str a1)), (sp_ 2 16 (iq l5i10)), (sp_ 3 17 (i8 (En.bAt a1 l5i10)))] [] rfl rfl rfl (by kernel_rfl) rfl rfl rfl ⟨⟨_, rfl, [], rfl, by
  intro X_ Y_ F_ K_ hK_
  refine sh_ (mm3 w0 Z0 a0 g1 g2 l5A5_0 l5i5_1 l5i5_2) X_ Y_ ?_
  refine al_val (ov_load (i := 1) (v := (ag ((cA16u8 l5A5_0) ++ [(iq l5i5_1), (int .u32 l5i5_2)]))) rfl rfl Tryz.underlying150 sz150 rfl rfl rfl rfl) ?_
  refine al_nil ?_
  exact fr_fin hK_ ()⟩, ⟨_, rfl, [], rfl, by
  intro X_ Y_ F_ K_ hK_
  refine sh_ (mm3 w0 Z0 a0 g1 g2 l5A5_0 l5i5_1 l5i5_2) X_ Y_ ?_
  refine mv_ ?_
  refine al_nil ?_
  exact fr_fin hK_ ()⟩, ⟨_, rfl, [], rfl, by
  intro X_ Y_ F_ K_ hK_
  refine sh_ (mm3 w0 Z0 a0 g1 g2 l5A5_0 l5i5_1 l5i5_2) X_ Y_ ?_
  refine mv_ ?_
  refine al_nil ?_
  exact fr_fin hK_ ()⟩, ⟨_, rfl, [1, 2], rfl, by
  intro _
  intro _
  intro X_ Y_ F_ K_ hK_
  refine sh_ (mm3 w0 Z0 a0 g1 g2 l5A5_0 l5i5_1 l5i5_2) X_ Y_ ?_
  refine al_val (ov_strIdx hc9.1 hc9.2 Tryz.underlying9 rfl rfl rfl) ?_
  refine al_nil ?_
  exact fr_fin hK_ ()⟩, trivial⟩ ?_
 intro _
 intro _
 intro _
 intro _
 intro X_ Y_ F_ K_ hK_
 refine sh_ (mm3 w0 Z0 a0 g1 g2 l5A5_0 l5i5_1 l5i5_2) X_ Y_ ?_
 obtain ⟨r11, hc10, h⟩ := opt_some h
 refine al_callX (vs := [(ag ((cA16u8 l5A5_0) ++ [(iq l5i5_1), (int .u32 l5i5_2)])), (i8 (En.bAt a1 l5i10))]) (f_roll_Push_ok fu (S_api_Roll.mk l5A5_0 l5i5_1 l5i5_2) (En.bAt a1 l5i10) hc10) [] [] [0, 1] pre_nil rfl (by simp) (by decide) rfl (.inl rfl) rfl Tryz.func113 rfl rfl rfl (fun _ => ?_)
 refine al_nil ?_
 refine aq_show (m := Mem.plus (mm3 w0 Z0 a0 g1 g2 l5A5_0 l5i5_1 l5i5_2) X_ Y_) ?_
 refine aq_next hK_ [0, 1] [] [(1, (str a1)), (2, (pq g1)), (5, (pq g2)), (6, (iq l5i10)), (9, (iq (a1.length : Int))), (10, (iq l5i10)), (18, (Value.tuple #[(ag ((cA16u8 r11.1.Win) ++ [(iq r11.1.At), (int .u32 r11.1.Sum)])), (iq r11.2)]))] [] [(sp_ 5 13 (Value.tuple #[(ag ((cA16u8 r11.1.Win) ++ [(iq r11.1.At), (int .u32 r11.1.Sum)])), (iq r11.2)])), (sp_ 6 19 (ag ((cA16u8 r11.1.Win) ++ [(iq r11.1.At), (int .u32 r11.1.Sum)]))), (sp_ 7 20 (iq r11.2))] rfl rfl (by decide) rfl ⟨rfl, rfl, rfl, rfl, rfl, rfl, rfl, trivial⟩ trivial ?_
 clear hK_ K_ F_ X_ Y_
 refine ta_show (m := (mm3 w0 Z0 a0 g1 g2 l5A5_0 l5i5_1 l5i5_2)) (S := _) ?_
 refine ta_step 8 _ [5, 6, 7] [13, 19, 20] [5, 6] [] [(sp_ 5 13 (Value.tuple #[(ag ((cA16u8 r11.1.Win) ++ [(iq r11.1.At), (int .u32 r11.1.Sum)])), (iq r11.2)])), (sp_ 6 19 (ag ((cA16u8 r11.1.Win) ++ [(iq r11.1.At), (int .u32 r11.1.Sum)])))] [(sp_ 7 20 (iq r11.2))] rfl rfl rfl (by kernel_rfl) rfl rfl rfl ⟨⟨_, rfl, [], rfl, by
  intro X_ Y_ F_ K_ hK_
  refine sh_ (mm3 w0 Z0 a0 g1 g2 l5A5_0 l5i5_1 l5i5_2) X_ Y_ ?_
  refine mv_ ?_
  refine al_nil ?_
  exact fr_fin hK_ ()⟩, ⟨_, rfl, [0], rfl, by
  intro _
  intro X_ Y_ F_ K_ hK_
  refine sh_ (mm3 w0 Z0 a0 g1 g2 l5A5_0 l5i5_1 l5i5_2) X_ Y_ ?_
  refine al_ex rfl rfl rfl ?_
  refine al_nil ?_
  exact fr_fin hK_ ()⟩, ⟨_, rfl, [0], rfl, by
  intro _
  intro X_ Y_ F_ K_ hK_
  refine sh_ (mm3 w0 Z0 a0 g1 g2 l5A5_0 l5i5_1 l5i5_2) X_ Y_ ?_
  refine al_ex rfl rfl rfl ?_
  refine al_nil ?_
  exact fr_fin hK_ ()⟩, trivial⟩ ?_
 intro _
 intro _
 intro X_ Y_ F_ K_ hK_
 refine sh_ (mm3 w0 Z0 a0 g1 g2 l5A5_0 l5i5_1 l5i5_2) X_ Y_ ?_
 refine al_store (i := 1) (vs := ((cA16u8 r11.1.Win) ++ [(iq r11.1.At), (int .u32 r11.1.Sum)])) (cs' := ((cA16u8 r11.1.Win) ++ [(iq r11.1.At), (int .u32 r11.1.Sum)])) rfl rfl rfl sz150 (cv_rfl rfl) rfl (co_app (oneA16u8 r11.1.Win) (co_val rfl (co_val rfl co_nil))) (Nat.le_of_ble_eq_true rfl) rfl rfl ?_
 refine al_nil ?_
 refine aq_show (m := Mem.plus (mm4 w0 Z0 a0 g1 g2 r11) X_ Y_) ?_
 refine aq_next hK_ [0, 1] [] [(1, (str a1)), (2, (pq g1)), (5, (pq g2)), (6, (iq l5i10)), (9, (iq (a1.length : Int))), (10, (iq l5i10)), (13, (Value.tuple #[(ag ((cA16u8 r11.1.Win) ++ [(iq r11.1.At), (int .u32 r11.1.Sum)])), (iq r11.2)]))] [20] [] rfl rfl (by decide) rfl ⟨rfl, rfl, rfl, rfl, rfl, rfl, rfl, trivial⟩ ⟨rfl, trivial⟩ ?_
 clear hK_ K_ F_ X_ Y_
 refine ta_show (m := (mm4 w0 Z0 a0 g1 g2 r11)) (S := _) ?_
 refine ta_end [7] [20] rfl rfl (by kernel_rfl) rfl ⟨⟨_, rfl, [], rfl, by
  intro X_ Y_ F_ K_ hK_
  refine sh_ (mm4 w0 Z0 a0 g1 g2 r11) X_ Y_ ?_
  refine al_ex rfl rfl rfl ?_
  refine al_nil ?_
  exact fr_fin hK_ ()⟩, trivial⟩ ?_
 intro _
 refine aq_show (m := (mm4 w0 Z0 a0 g1 g2 r11)) (S := (put (tab [(1, (str a1)), (2, (pq g1)), (5, (pq g2)), (6, (iq l5i10)), (9, (iq (a1.length : Int))), (10, (iq l5i10)), (13, (Value.tuple #[(ag ((cA16u8 r11.1.Win) ++ [(iq r11.1.At), (int .u32 r11.1.Sum)])), (iq r11.2)]))]) 20 (iq r11.2))) ?_
 refine aq_tr ?_
 refine mv_ ?_
 refine in_ ?_
 refine an_ ?_
 obtain ⟨kk13, hkk13, h⟩ := lt_some h
 refine aw_seq_join (ι := Bool) (fun i => (mm4 w0 Z0 a0 g1 g2 r11)) (fun i => (tab [(1, (str a1)), (2, (pq g1)), (5, (pq g2)), (7, (iq (wq (l5i10 + (1 : Int))))), (9, (iq (a1.length : Int))), (10, (iq l5i10)), (42, (bool i))])) (fun i => kk13 i = some r) ?_ ?_
 rintro j12b42 h
 have h : kk13 j12b42 = some r := h
 rw [hkk13] at h
 dsimp only at h
 clear hkk13
 refine aw_show (m := (mm4 w0 Z0 a0 g1 g2 r11)) (S := _) ?_
 refine aw_cond rfl (fun hb14 => ?_) (fun hb14 => ?_)
 replace h := bif_t hb14 h
 refine sm_ ?_
 refine an_ ?_
 refine aw_ret ?_
 refine aq_block_ret ?_
 refine aq_then_ret ?_
 refine aq_then_ret ?_
 refine aq_block_ret ?_
 refine aq_then_ret ?_
 cases h
 exact fr1_
 replace h := bif_f hb14 h
 refine aw_skip ?_
 refine aq_block ?_
 refine aq_then ?_
 refine aw_region ?_
 refine in_ ?_
 refine mv_ ?_
 refine al_nil ?_
 exact aq_again k6 (r11.1.Win, r11.1.At, r11.1.Sum, (wq (l5i10 + (1 : Int)))) (Nat.lt_succ_self _) h (nm_ [0, 1] [] (by decide) ⟨rfl, rfl, rfl, rfl, rfl, trivial⟩)
 clear hkk13
 rcases Bool.eq_false_or_eq_true ((wq (l5i10 + (1 : Int))) == a0.Max) with hb15 | hb15
 replace h := bif_t hb15 h
 refine aw_region_draw 19 [(23, (fE (iq (wq (l5i10 + (1 : Int)))))), (24, (fE (ptr g1 1))), (25, (fE (iq a0.Max))), (26, (fE (bool true))), (27, (fE (bool true))), (28, (fE undef)), (29, (fE undef)), (30, (fE undef)), (31, (fE undef)), (32, (fE undef)), (33, (fE undef)), (34, (fE undef)), (35, (fE undef)), (36, (fE undef)), (37, (fE undef)), (38, (fE undef)), (39, (fE undef)), (40, (fE undef)), (41, (fE undef))] (tab [(1, (str a1)), (2, (pq g1)), (5, (pq g2)), (7, (iq (wq (l5i10 + (1 : Int))))), (9, (iq (a1.length : Int))), (10, (iq l5i10))]) mixed (by kernel_rfl) rfl rfl rfl (fun a hs => hs.tab _ (allT_mem ⟨rfl, rfl, rfl, rfl, rfl, rfl, trivial⟩)) ⟨⟨rfl, ld_val (ov_move rfl rfl)⟩, ⟨rfl, ld_val (ov_fieldA (p := 1) rfl Tryz.underlying23 rfl sz3 rfl rfl rfl)⟩, ⟨rfl, ld_eq (j := 1) rfl rfl (ld_val (ov_load (i := 0) (v := (iq a0.Max)) rfl rfl Tryz.underlying3 sz3 rfl rfl rfl rfl))⟩, ⟨rfl, ld_eq (j := 0) rfl rfl (ld_eq (j := 2) rfl rfl (ld_val (ov_cast (by first | rw [hb15] | rfl) (ov_int rfl rfl rfl rfl))))⟩, ⟨rfl, ld_eq (j := 3) rfl rfl (ld_val (ov_cast (by first | rw [hb15] | rfl) (ov_move rfl rfl)))⟩, ⟨rfl, ld_eq (j := 4) rfl rfl (ld_skip)⟩, ⟨rfl, ld_eq (j := 4) rfl rfl (ld_skip)⟩, ⟨rfl, ld_eq (j := 4) rfl rfl (ld_skip)⟩, ⟨rfl, ld_eq (j := 4) rfl rfl (ld_skip)⟩, ⟨rfl, ld_eq (j := 4) rfl rfl (ld_skip)⟩, ⟨rfl, ld_eq (j := 9) rfl rfl (ld_skip)⟩, ⟨rfl, ld_eq (j := 9) rfl rfl (ld_skip)⟩, ⟨rfl, ld_eq (j := 9) rfl rfl (ld_skip)⟩, ⟨rfl, ld_eq (j := 9) rfl rfl (ld_skip)⟩, ⟨rfl, ld_eq (j := 9) rfl rfl (ld_skip)⟩, ⟨rfl, ld_eq (j := 9) rfl rfl (ld_skip)⟩, ⟨rfl, ld_eq (j := 9) rfl rfl (ld_skip)⟩, ⟨rfl, ld_eq (j := 9) rfl rfl (ld_skip)⟩, ⟨rfl, ld_eq (j := 4) rfl rfl (ld_skip)⟩, trivial⟩ ?_
 refine tl_eq 4 rfl ?_
 refine tl_eq 18 rfl ?_
 refine tl_done ?_
 refine al_val (ov_pick_t rfl rfl rfl) ?_
 refine al_nil ?_
 exact aq_join true h (nm_ [0, 1] [] (by decide) ⟨rfl, rfl, rfl, rfl, rfl, rfl, rfl, trivial⟩)
 replace h := bif_f hb15 h
 rcases Bool.eq_false_or_eq_true (decide ((wq (l5i10 + (1 : Int))) ≥ a0.Min)) with hb16 | hb16
 replace h := bif_t hb16 h
 obtain ⟨hc17, h⟩ := req_some h
 refine aw_region_draw 19 [(23, (fE (iq (wq (l5i10 + (1 : Int)))))), (24, (fE (ptr g1 1))), (25, (fE (iq a0.Max))), (26, (fE (bool false))), (27, (fE (bool false))), (28, (fE (iq (wq (l5i10 + (1 : Int)))))), (29, (fE (pq g1))), (30, (fE (iq a0.Min))), (31, (fE (bool true))), (32, (fE (bool true))), (33, (fE (ptr g2 17))), (34, (fE (int .u32 r11.1.Sum))), (35, (fE (ptr g1 2))), (36, (fE (iq a0.Bits))), (37, (fE (int .u32 (IntKind.u32.wrap ((1 : Int) * 2 ^ min (a0.Bits).toNat (IntKind.bits .u32)))))), (38, (fE (int .u32 (IntKind.u32.wrap ((IntKind.u32.wrap ((1 : Int) * 2 ^ min (a0.Bits).toNat (IntKind.bits .u32))) - (1 : Int)))))), (39, (fE (int .u32 (bits .and .u32 r11.1.Sum (IntKind.u32.wrap ((IntKind.u32.wrap ((1 : Int) * 2 ^ min (a0.Bits).toNat (IntKind.bits .u32))) - (1 : Int))))))), (40, (fE (bool ((bits .and .u32 r11.1.Sum (IntKind.u32.wrap ((IntKind.u32.wrap ((1 : Int) * 2 ^ min (a0.Bits).toNat (IntKind.bits .u32))) - (1 : Int)))) == (0 : Int))))), (41, (fE (bool ((bits .and .u32 r11.1.Sum (IntKind.u32.wrap ((IntKind.u32.wrap ((1 : Int) * 2 ^ min (a0.Bits).toNat (IntKind.bits .u32))) - (1 : Int)))) == (0 : Int)))))] (tab [(1, (str a1)), (2, (pq g1)), (5, (pq g2)), (7, (iq (wq (l5i10 + (1 : Int))))), (9, (iq (a1.length : Int))), (10, (iq l5i10))]) mixed (by kernel_rfl) rfl rfl rfl (fun a hs => hs.tab _ (allT_mem ⟨rfl, rfl, rfl, rfl, rfl, rfl, trivial⟩)) ⟨⟨rfl, ld_val (ov_move rfl rfl)⟩, ⟨rfl, ld_val (ov_fieldA (p := 1) rfl Tryz.underlying23 rfl sz3 rfl rfl rfl)⟩, ⟨rfl, ld_eq (j := 1) rfl rfl (ld_val (ov_load (i := 0) (v := (iq a0.Max)) rfl rfl Tryz.underlying3 sz3 rfl rfl rfl rfl))⟩, ⟨rfl, ld_eq (j := 0) rfl rfl (ld_eq (j := 2) rfl rfl (ld_val (ov_cast (by first | rw [hb15] | rfl) (ov_int rfl rfl rfl rfl))))⟩, ⟨rfl, ld_eq (j := 3) rfl rfl (ld_val (ov_cast (by first | rw [hb15] | rfl) (ov_move rfl rfl)))⟩, ⟨rfl, ld_eq (j := 4) rfl rfl (ld_val (ov_move rfl rfl))⟩, ⟨rfl, ld_eq (j := 4) rfl rfl (ld_val (ov_fieldA (p := 0) rfl Tryz.underlying23 rfl sz3 rfl rfl rfl))⟩, ⟨rfl, ld_eq (j := 4) rfl rfl (ld_eq (j := 6) rfl rfl (ld_val (ov_load (i := 0) (v := (iq a0.Min)) rfl rfl Tryz.underlying3 sz3 rfl rfl rfl rfl)))⟩, ⟨rfl, ld_eq (j := 4) rfl rfl (ld_eq (j := 5) rfl rfl (ld_eq (j := 7) rfl rfl (ld_val (ov_cast (by first | rw [hb16] | rfl) (ov_int rfl rfl rfl rfl)))))⟩, ⟨rfl, ld_eq (j := 4) rfl rfl (ld_eq (j := 8) rfl rfl (ld_val (ov_cast (by first | rw [hb16] | rfl) (ov_move rfl rfl))))⟩, ⟨rfl, ld_eq (j := 9) rfl rfl (ld_val (ov_fieldA (p := 17) rfl Tryz.underlying150 rfl sz93 rfl rfl rfl))⟩, ⟨rfl, ld_eq (j := 9) rfl rfl (ld_eq (j := 10) rfl rfl (ld_val (ov_load (i := 1) (v := (int .u32 r11.1.Sum)) rfl rfl Tryz.underlying93 sz93 rfl rfl rfl rfl)))⟩, ⟨rfl, ld_eq (j := 9) rfl rfl (ld_val (ov_fieldA (p := 2) rfl Tryz.underlying23 rfl sz3 rfl rfl rfl))⟩, ⟨rfl, ld_eq (j := 9) rfl rfl (ld_eq (j := 12) rfl rfl (ld_val (ov_load (i := 0) (v := (iq a0.Bits)) rfl rfl Tryz.underlying3 sz3 rfl rfl rfl rfl)))⟩, ⟨rfl, ld_eq (j := 9) rfl rfl (ld_eq (j := 13) rfl rfl (ld_val (ov_shl hc17 rfl rfl rfl)))⟩, ⟨rfl, ld_eq (j := 9) rfl rfl (ld_eq (j := 14) rfl rfl (ld_val (ov_int rfl rfl rfl rfl)))⟩, ⟨rfl, ld_eq (j := 9) rfl rfl (ld_eq (j := 11) rfl rfl (ld_eq (j := 15) rfl rfl (ld_val (ov_int rfl rfl rfl rfl))))⟩, ⟨rfl, ld_eq (j := 9) rfl rfl (ld_eq (j := 16) rfl rfl (ld_val (ov_int rfl rfl rfl rfl)))⟩, ⟨rfl, ld_eq (j := 4) rfl rfl (ld_eq (j := 9) rfl rfl (ld_eq (j := 17) rfl rfl (ld_val (ov_pick_t rfl rfl rfl))))⟩, trivial⟩ ?_
 refine tl_eq 4 rfl ?_
 refine tl_eq 18 rfl ?_
 refine tl_done ?_
 refine al_val (ov_pick_f rfl rfl rfl) ?_
 refine al_nil ?_
 exact aq_join ((bits .and .u32 r11.1.Sum (IntKind.u32.wrap ((IntKind.u32.wrap ((1 : Int) * 2 ^ min (a0.Bits).toNat (IntKind.bits .u32))) - (1 : Int)))) == (0 : Int)) h (nm_ [0, 1] [] (by decide) ⟨rfl, rfl, rfl, rfl, rfl, rfl, rfl, trivial⟩)
 replace h := bif_f hb16 h
 refine aw_region_draw 19 [(23, (fE (iq (wq (l5i10 + (1 : Int)))))), (24, (fE (ptr g1 1))), (25, (fE (iq a0.Max))), (26, (fE (bool false))), (27, (fE (bool false))), (28, (fE (iq (wq (l5i10 + (1 : Int)))))), (29, (fE (pq g1))), (30, (fE (iq a0.Min))), (31, (fE (bool false))), (32, (fE (bool false))), (33, (fE undef)), (34, (fE undef)), (35, (fE undef)), (36, (fE undef)), (37, (fE undef)), (38, (fE undef)), (39, (fE undef)), (40, (fE undef)), (41, (fE (bool false)))] (tab [(1, (str a1)), (2, (pq g1)), (5, (pq g2)), (7, (iq (wq (l5i10 + (1 : Int))))), (9, (iq (a1.length : Int))), (10, (iq l5i10))]) mixed (by kernel_rfl) rfl rfl rfl (fun a hs => hs.tab _ (allT_mem ⟨rfl, rfl, rfl, rfl, rfl, rfl, trivial⟩)) ⟨⟨rfl, ld_val (ov_move rfl rfl)⟩, ⟨rfl, ld_val (ov_fieldA (p := 1) rfl Tryz.underlying23 rfl sz3 rfl rfl rfl)⟩, ⟨rfl, ld_eq (j := 1) rfl rfl (ld_val (ov_load (i := 0) (v := (iq a0.Max)) rfl rfl Tryz.underlying3 sz3 rfl rfl rfl rfl))⟩, ⟨rfl, ld_eq (j := 0) rfl rfl (ld_eq (j := 2) rfl rfl (ld_val (ov_cast (by first | rw [hb15] | rfl) (ov_int rfl rfl rfl rfl))))⟩, ⟨rfl, ld_eq (j := 3) rfl rfl (ld_val (ov_cast (by first | rw [hb15] | rfl) (ov_move rfl rfl)))⟩, ⟨rfl, ld_eq (j := 4) rfl rfl (ld_val (ov_move rfl rfl))⟩, ⟨rfl, ld_eq (j := 4) rfl rfl (ld_val (ov_fieldA (p := 0) rfl Tryz.underlying23 rfl sz3 rfl rfl rfl))⟩, ⟨rfl, ld_eq (j := 4) rfl rfl (ld_eq (j := 6) rfl rfl (ld_val (ov_load (i := 0) (v := (iq a0.Min)) rfl rfl Tryz.underlying3 sz3 rfl rfl rfl rfl)))⟩, ⟨rfl, ld_eq (j := 4) rfl rfl (ld_eq (j := 5) rfl rfl (ld_eq (j := 7) rfl rfl (ld_val (ov_cast (by first | rw [hb16] | rfl) (ov_int rfl rfl rfl rfl)))))⟩, ⟨rfl, ld_eq (j := 4) rfl rfl (ld_eq (j := 8) rfl rfl (ld_val (ov_cast (by first | rw [hb16] | rfl) (ov_move rfl rfl))))⟩, ⟨rfl, ld_eq (j := 9) rfl rfl (ld_skip)⟩, ⟨rfl, ld_eq (j := 9) rfl rfl (ld_skip)⟩, ⟨rfl, ld_eq (j := 9) rfl rfl (ld_skip)⟩, ⟨rfl, ld_eq (j := 9) rfl rfl (ld_skip)⟩, ⟨rfl, ld_eq (j := 9) rfl rfl (ld_skip)⟩, ⟨rfl, ld_eq (j := 9) rfl rfl (ld_skip)⟩, ⟨rfl, ld_eq (j := 9) rfl rfl (ld_skip)⟩, ⟨rfl, ld_eq (j := 9) rfl rfl (ld_skip)⟩, ⟨rfl, ld_eq (j := 4) rfl rfl (ld_eq (j := 9) rfl rfl (ld_eq (j := 17) rfl rfl (ld_val (ov_pick_f rfl rfl rfl))))⟩, trivial⟩ ?_
 refine tl_eq 4 rfl ?_
 refine tl_eq 18 rfl ?_
 refine tl_done ?_
 refine al_val (ov_pick_f rfl rfl rfl) ?_
 refine al_nil ?_
 exact aq_join false h (nm_ [0, 1] [] (by decide) ⟨rfl, rfl, rfl, rfl, rfl, rfl, rfl, trivial⟩)
 replace h := bif_f hb8 h
 refine aw_exit ?_
 refine aq_then_exit ?_
 refine aq_then_exit ?_
 refine aq_block_exit ?_
 exact aq_join () h (nm_ [] [] (by decide) trivial)
def f_chunk_pieces_L4 (a0 : S_api_Cut) (fu : Nat) : Nat → (List UInt8) → (List (List UInt8)) → Option ((List (List UInt8)) × (List UInt8))
  | 0, _, _ => none
  | k3 + 1, l2s1, l2x6 => (opt (f_chunk_end fu a0 l2s1) fun (r6 : Int) => (bif (r6 == (0 : Int)) then (some (l2x6, l2s1)) else (req (0 ≤ r6 ∧ r6 ≤ (l2s1.length : Int)) (req (((l2x6.length + ([(l2s1.take (r6).toNat)]).length) * 16 : Nat) ≤ 140737488355328 ∧ l2x6.length + ([(l2s1.take (r6).toNat)]).length ≤ 9223372036854775807) (req (0 ≤ r6 ∧ r6 ≤ (l2s1.length : Int)) (f_chunk_pieces_L4 a0 fu k3 (l2s1.drop (r6).toNat) (l2x6 ++ ([(l2s1.take (r6).toNat)]))))))))
def f_chunk_pieces (fu : Nat) (a0 : S_api_Cut) (a1 : (List UInt8)) : Option ((List (List UInt8)) × (List UInt8)) := (f_chunk_pieces_L4 a0 fu fu a1 ([] : List (List UInt8)))
set_option maxHeartbeats 2000000 in
set_option maxRecDepth 100000 in
theorem f_chunk_pieces_ok (fu : Nat) (a0 : S_api_Cut) (a1 : (List UInt8)) {r : ((List (List UInt8)) × (List UInt8))} (h : f_chunk_pieces fu a0 a1 = some r) : FnOk Tryz.prog 79 [(ag [(int .i64 a0.Min), (int .i64 a0.Max), (int .i64 a0.Bits)]), (str a1)] [] [] (fun (i : Value) => { val := (Value.tuple #[i, (str r.2)]), own := [(oRow i 9 tyStr r.1)] }) := by
 unfold f_chunk_pieces at h
 refine fn_enter Tryz.func79 rfl Tryz.ntmps79 rfl (fun w0 Z0 => ?_)
 refine aw_sr ?_
 refine al_box (vs := [(iq a0.Min), (iq a0.Max), (iq a0.Bits)]) rfl (cv_rfl rfl) rfl (fun g1 => ?_)
 refine as_ ?_
 refine an_ ?_
 refine aw_sr ?_
 refine an_ ?_
 refine aw_block ?_
 refine aw_nilR 9 tyStr ?_
 refine aw_state (aw_loop (ι := (List UInt8) × Value × (List (List UInt8))) (fun i => (memOf w0 Z0 [] [(oBox g1 23 [(iq a0.Min), (iq a0.Max), (iq a0.Bits)]), (oRow i.2.1 9 tyStr i.2.2)] [])) (fun i => (tab [(1, (str i.1)), (2, (pq g1)), (6, i.2.1)])) (fun q i => f_chunk_pieces_L4 a0 fu q i.1 i.2.2 = some r) ?_ fu (a1, nS, ([] : List (List UInt8))) h) (nm_ [1, 0] [] (by decide) ⟨rfl, rfl, rfl, trivial⟩)
 clear h
 rintro k3 ⟨l2s1, l2v6, l2x6⟩ h
 have h : f_chunk_pieces_L4 a0 fu k3 l2s1 l2x6 = some r := h
 obtain _ | k3 := k3
 rw [f_chunk_pieces_L4] at h; cases h
 rw [f_chunk_pieces_L4] at h
 refine aw_show (m := (memOf w0 Z0 [] [(oBox g1 23 [(iq a0.Min), (iq a0.Max), (iq a0.Bits)]), (oRow l2v6 9 tyStr l2x6)] [])) (S := _) ?_
 refine aw_block ?_
 refine aw_sr ?_
 refine al_val (ov_load (i := 0) (v := (ag [(iq a0.Min), (iq a0.Max), (iq a0.Bits)])) rfl rfl Tryz.underlying23 sz23 rfl rfl rfl rfl) ?_
 refine mv_ ?_
 obtain ⟨r6, hc5, h⟩ := opt_some h
 refine al_call (vs := [(ag [(iq a0.Min), (iq a0.Max), (iq a0.Bits)]), (str l2s1)]) (f_chunk_end_ok fu a0 l2s1 hc5) [] [] [0, 1] pre_nil rfl (by simp) (by decide) (.inl rfl) rfl Tryz.func95 rfl rfl rfl (fun _ => ?_)
 refine an_ ?_
 refine aw_seq ?_
 refine sm_ ?_
 refine im_ ?_
 refine aw_cond rfl (fun hb7 => ?_) (fun hb7 => ?_)
 replace h := bif_t hb7 h
 refine sm_ ?_
 refine mv_ ?_
 refine as_ ?_
 refine an_ ?_
 refine aw_ret ?_
 refine aq_then_ret ?_
 refine aq_block_ret ?_
 refine aq_then_ret ?_
 refine aq_block_ret ?_
 cases h
 exact fn_ret l2v6 [1] [] rfl rfl rfl rfl (res2 rfl rfl rfl) rfl rfl rfl (by decide)
 replace h := bif_f hb7 h
 refine aw_skip ?_
 refine aq_tr ?_
 refine mv_ ?_
 refine mv_ ?_
 refine mv_ ?_
 obtain ⟨hc8, h⟩ := req_some h
 refine al_val (ov_strTo hc8.1 hc8.2 Tryz.underlying9 rfl rfl rfl) ?_
 refine al_buildSlice (τ := tyStr) (e := 9) (k := 1) (sz := 0) (by_ := 0) (z := undef) (cs := [(str (l2s1.take (r6).toNat))]) (xs := [(l2s1.take (r6).toNat)]) rfl (by decide) (fun w a hm hs => ⟨([(str (l2s1.take (r6).toNat))]).toArray, rfl, by simp only [List.map_toArray, List.map_cons, List.map_nil, hs.ev (x := .tmp 18) rfl]; exact run_bs [(str (l2s1.take (r6).toNat))] [(str (l2s1.take (r6).toNat))] Tryz.underlying54 to9 rfl rfl (bs_cons (l := [(str (l2s1.take (r6).toNat))]) (cs := []) (cv_rfl rfl) rfl bs_nil) hm⟩) (fun hm => ⟨_, _, rfl, (fun _ => rfl) hm, rfl⟩) rfl (fun v9 => ?_)
 obtain ⟨hc10, h⟩ := req_some h
 refine al_append 2 hc10.1 hc10.2 rfl (src_own (i := 2) 0 rfl) rfl rfl Tryz.underlying54 to9 rfl rfl rfl (fun v11 => ?_)
 refine an_ ?_
 refine aw_region ?_
 refine mv_ ?_
 refine mv_ ?_
 obtain ⟨hc12, h⟩ := req_some h
 refine al_val (ov_strFrom hc12.1 hc12.2 Tryz.underlying9 rfl rfl rfl) ?_
 refine as_ ?_
 refine al_nil ?_
 refine aq_block ?_
 exact aq_again k3 ((l2s1.drop (r6).toNat), v11, (l2x6 ++ ([(l2s1.take (r6).toNat)]))) (Nat.lt_succ_self _) h (nm_ [1, 2] [] (by decide) ⟨rfl, rfl, rfl, trivial⟩)
def f_chunk_Feed (fu : Nat) (a0 : S_api_Cut) (a1 : (List UInt8)) (a2 : (List UInt8)) : Option ((List (List UInt8)) × (List UInt8) × Int) := (opt (f_chunk_Check fu a0) fun (r3 : Int) => (bif (r3 != (0 : Int)) then (some (([] : List (List UInt8)), ([] : List UInt8), r3)) else (bif (decide ((IntKind.i64.wrap ((a1.length : Int) + (a2.length : Int))) > (4096 : Int))) then (some (([] : List (List UInt8)), ([] : List UInt8), (2 : Int))) else (req (a1.length + a2.length ≤ 9223372036854775807) (opt (f_chunk_pieces fu a0 (a1 ++ a2)) fun (r8 : ((List (List UInt8)) × (List UInt8))) => (some (r8.1, r8.2, (0 : Int))))))))
set_option maxHeartbeats 2000000 in
set_option maxRecDepth 100000 in
theorem f_chunk_Feed_ok (fu : Nat) (a0 : S_api_Cut) (a1 : (List UInt8)) (a2 : (List UInt8)) {r : ((List (List UInt8)) × (List UInt8) × Int)} (h : f_chunk_Feed fu a0 a1 a2 = some r) : FnOk Tryz.prog 59 [(ag [(int .i64 a0.Min), (int .i64 a0.Max), (int .i64 a0.Bits)]), (str a1), (str a2)] [] [] (fun (i : Value) => { val := (Value.tuple #[i, (str r.2.1), (int .i64 r.2.2)]), own := [(oRow i 9 tyStr r.1)] }) := by
 unfold f_chunk_Feed at h
 refine fn_enter Tryz.func59 rfl Tryz.ntmps59 rfl (fun w0 Z0 => ?_)
 refine aw_sr ?_
 refine al_box (vs := [(iq a0.Min), (iq a0.Max), (iq a0.Bits)]) rfl (cv_rfl rfl) rfl (fun g1 => ?_)
 refine as_ ?_
 refine as_ ?_
 refine an_ ?_
 refine aw_seq ?_
 refine aw_sr ?_
 refine al_val (ov_load (i := 0) (v := (ag [(iq a0.Min), (iq a0.Max), (iq a0.Bits)])) rfl rfl Tryz.underlying23 sz23 rfl rfl rfl rfl) ?_
 obtain ⟨r3, hc2, h⟩ := opt_some h
 refine al_call (vs := [(ag [(iq a0.Min), (iq a0.Max), (iq a0.Bits)])]) (f_chunk_Check_ok fu a0 hc2) [] [] [0] pre_nil rfl (by simp) (by decide) (.inl rfl) rfl Tryz.func20 rfl rfl rfl (fun _ => ?_)
 refine an_ ?_
 refine sm_ ?_
 refine im_ ?_
 refine aw_cond rfl (fun hb4 => ?_) (fun hb4 => ?_)
 replace h := bif_t hb4 h
 refine sm_ ?_
 refine as_ ?_
 refine as_ ?_
 refine an_ ?_
 refine aw_ret ?_
 refine aq_then_ret ?_
 refine aq_nilR 9 tyStr ?_
 cases h
 exact fn_ret nS [0] [] rfl rfl rfl rfl (res3 rfl rfl rfl rfl) rfl rfl rfl (by decide)
 replace h := bif_f hb4 h
 refine aw_skip ?_
 refine aq_then ?_
 refine aw_seq ?_
 refine sm_ ?_
 refine al_val (ov_strLen Tryz.underlying9 rfl rfl) ?_
 refine mv_ ?_
 refine al_val (ov_strLen Tryz.underlying9 rfl rfl) ?_
 refine in_ ?_
 refine im_ ?_
 refine aw_cond rfl (fun hb5 => ?_) (fun hb5 => ?_)
 replace h := bif_t hb5 h
 refine aw_sr ?_
 refine as_ ?_
 refine as_ ?_
 refine an_ ?_
 refine aw_ret ?_
 refine aq_then_ret ?_
 refine aq_nilR 9 tyStr ?_
 cases h
 exact fn_ret nS [0] [] rfl rfl rfl rfl (res3 rfl rfl rfl rfl) rfl rfl rfl (by decide)
 replace h := bif_f hb5 h
 refine aw_skip ?_
 refine aq_tr ?_
 refine al_val (ov_load (i := 0) (v := (ag [(iq a0.Min), (iq a0.Max), (iq a0.Bits)])) rfl rfl Tryz.underlying23 sz23 rfl rfl rfl rfl) ?_
 refine mv_ ?_
 refine mv_ ?_
 obtain ⟨hc6, h⟩ := req_some h
 refine al_val (ov_strAdd hc6 rfl rfl rfl) ?_
 obtain ⟨r8, hc7, h⟩ := opt_some h
 refine al_call (vs := [(ag [(iq a0.Min), (iq a0.Max), (iq a0.Bits)]), (str (a1 ++ a2))]) (f_chunk_pieces_ok fu a0 (a1 ++ a2) hc7) [] [] [0] pre_nil rfl (by simp) (by decide) (.inl rfl) rfl Tryz.func79 rfl rfl rfl (fun v9 => ?_)
 refine mv_ ?_
 refine al_ex rfl rfl rfl ?_
 refine al_ex rfl rfl rfl ?_
 refine as_ ?_
 refine an_ ?_
 refine sm_ ?_
 refine mv_ ?_
 refine as_ ?_
 refine as_ ?_
 refine an_ ?_
 refine aw_ret ?_
 cases h
 exact fn_ret v9 [0] [] rfl rfl rfl rfl (res3 rfl rfl rfl rfl) rfl rfl rfl (by decide)
def f_chunk_Cut (fu : Nat) (a0 : S_api_Cut) (a1 : (List UInt8)) : Option ((List (List UInt8)) × Int) := (opt (f_chunk_Feed fu a0 ([] : List UInt8) a1) fun (r3 : ((List (List UInt8)) × (List UInt8) × Int)) => (lt (fun (j5x6 : (List (List UInt8))) => (some (j5x6, r3.2.2))) fun (kk6 : (List (List UInt8)) → Option ((List (List UInt8)) × Int)) => (lt (fun (j7b21 : Bool) => (bif j7b21 then (req (((r3.1.length + ([r3.2.1]).length) * 16 : Nat) ≤ 140737488355328 ∧ r3.1.length + ([r3.2.1]).length ≤ 9223372036854775807) (kk6 (r3.1 ++ ([r3.2.1])))) else (kk6 r3.1))) fun (kk8 : Bool → Option ((List (List UInt8)) × Int)) => (bif (r3.2.2 == (0 : Int)) then (kk8 (!(r3.2.1 == ([] : List UInt8)))) else (kk8 false)))))
set_option maxHeartbeats 2000000 in
set_option maxRecDepth 100000 in
theorem f_chunk_Cut_ok (fu : Nat) (a0 : S_api_Cut) (a1 : (List UInt8)) {r : ((List (List UInt8)) × Int)} (h : f_chunk_Cut fu a0 a1 = some r) : FnOk Tryz.prog 37 [(ag [(int .i64 a0.Min), (int .i64 a0.Max), (int .i64 a0.Bits)]), (str a1)] [] [] (fun (i : Value) => { val := (Value.tuple #[i, (int .i64 r.2)]), own := [(oRow i 9 tyStr r.1)] }) := by
 unfold f_chunk_Cut at h
 refine fn_enter Tryz.func37 rfl Tryz.ntmps37 rfl (fun w0 Z0 => ?_)
 refine aw_sr ?_
 refine al_box (vs := [(iq a0.Min), (iq a0.Max), (iq a0.Bits)]) rfl (cv_rfl rfl) rfl (fun g1 => ?_)
 refine as_ ?_
 refine an_ ?_
 refine aw_sr ?_
 refine al_val (ov_load (i := 0) (v := (ag [(iq a0.Min), (iq a0.Max), (iq a0.Bits)])) rfl rfl Tryz.underlying23 sz23 rfl rfl rfl rfl) ?_
 refine mv_ ?_
 obtain ⟨r3, hc2, h⟩ := opt_some h
 refine al_call (vs := [(ag [(iq a0.Min), (iq a0.Max), (iq a0.Bits)]), (str ([] : List UInt8)), (str a1)]) (f_chunk_Feed_ok fu a0 ([] : List UInt8) a1 hc2) [] [] [0] pre_nil rfl (by simp) (by decide) (.inl rfl) rfl Tryz.func59 rfl rfl rfl (fun v4 => ?_)
 refine mv_ ?_
 refine al_ex rfl rfl rfl ?_
 refine al_ex rfl rfl rfl ?_
 refine al_ex rfl rfl rfl ?_
 refine as_ ?_
 refine as_ ?_
 refine an_ ?_
 obtain ⟨kk6, hkk6, h⟩ := lt_some h
 refine aw_seq_join (ι := Value × (List (List UInt8))) (fun i => (memOf w0 Z0 [] [(oRow i.1 9 tyStr i.2)] [])) (fun i => (tab [(6, i.1), (8, (iq r3.2.2))])) (fun i => kk6 i.2 = some r) ?_ ?_
 rintro ⟨j5v6, j5x6⟩ h
 have h : kk6 j5x6 = some r := h
 rw [hkk6] at h
 dsimp only at h
 clear hkk6
 refine aw_show (m := (memOf w0 Z0 [] [(oRow j5v6 9 tyStr j5x6)] [])) (S := _) ?_
 refine sm_ ?_
 refine mv_ ?_
 refine as_ ?_
 refine an_ ?_
 refine aw_ret ?_
 cases h
 exact fn_ret j5v6 [0] [] rfl rfl rfl rfl (res2 rfl rfl rfl) rfl rfl rfl (by decide)
 clear hkk6
 obtain ⟨kk8, hkk8, h⟩ := lt_some h
 refine aw_seq_join (ι := Bool) (fun i => (memOf w0 Z0 [] [(oRow v4 9 tyStr r3.1)] [])) (fun i => (tab [(6, v4), (7, (str r3.2.1)), (8, (iq r3.2.2)), (21, (bool i))])) (fun i => kk8 i = some r) ?_ ?_
 rintro j7b21 h
 have h : kk8 j7b21 = some r := h
 rw [hkk8] at h
 dsimp only at h
 clear hkk8
 refine aw_show (m := (memOf w0 Z0 [] [(oRow v4 9 tyStr r3.1)] [])) (S := _) ?_
 refine aw_cond rfl (fun hb9 => ?_) (fun hb9 => ?_)
 replace h := bif_t hb9 h
 refine aw_region ?_
 refine mv_ ?_
 refine mv_ ?_
 refine al_buildSlice (τ := tyStr) (e := 9) (k := 1) (sz := 0) (by_ := 0) (z := undef) (cs := [(str r3.2.1)]) (xs := [r3.2.1]) rfl (by decide) (fun w a hm hs => ⟨([(str r3.2.1)]).toArray, rfl, by simp only [List.map_toArray, List.map_cons, List.map_nil, hs.ev (x := .tmp 23) rfl]; exact run_bs [(str r3.2.1)] [(str r3.2.1)] Tryz.underlying54 to9 rfl rfl (bs_cons (l := [(str r3.2.1)]) (cs := []) (cv_rfl rfl) rfl bs_nil) hm⟩) (fun hm => ⟨_, _, rfl, (fun _ => rfl) hm, rfl⟩) rfl (fun v10 => ?_)
 obtain ⟨hc11, h⟩ := req_some h
 refine al_append 1 hc11.1 hc11.2 rfl (src_own (i := 1) 0 rfl) rfl rfl Tryz.underlying54 to9 rfl rfl rfl (fun v12 => ?_)
 refine as_ ?_
 refine al_nil ?_
 exact aq_join (v12, (r3.1 ++ ([r3.2.1]))) h (nm_ [1] [] (by decide) ⟨rfl, rfl, trivial⟩)
 replace h := bif_f hb9 h
 refine aw_skip ?_
 exact aq_join (v4, r3.1) h (nm_ [0] [] (by decide) ⟨rfl, rfl, trivial⟩)
 clear hkk8
 refine aw_region ?_
 refine mv_ ?_
 refine in_ ?_
 refine mv_ ?_
 refine al_caseB 18 rfl (fun hb13 => ?_) (fun hb13 => ?_)
 replace h := bif_t hb13 h
 refine mv_ ?_
 refine al_val (ov_strCmp rfl rfl rfl rfl) ?_
 refine al_val (ov_pick_t rfl rfl rfl) ?_
 refine al_nil ?_
 exact aq_join (!(r3.2.1 == ([] : List UInt8))) h (nm_ [0] [] (by decide) ⟨rfl, rfl, rfl, rfl, trivial⟩)
 replace h := bif_f hb13 h
 refine al_skip ?_
 refine al_skip ?_
 refine al_val (ov_pick_f rfl rfl rfl) ?_
 refine al_nil ?_
 exact aq_join false h (nm_ [0] [] (by decide) ⟨rfl, rfl, rfl, rfl, trivial⟩)
def f_chunk_Fixed_L9 (a0 : Int) (kk6 : ((List (List UInt8)) → Option ((List (List UInt8)) × Int))) : Nat → (List UInt8) → (List (List UInt8)) → Option ((List (List UInt8)) × Int)
  | 0, _, _ => none
  | k8 + 1, l7s1, l7x6 => (bif (decide ((l7s1.length : Int) > (0 : Int))) then (req (0 ≤ (if (l7s1.length : Int) < a0 then (l7s1.length : Int) else a0) ∧ (if (l7s1.length : Int) < a0 then (l7s1.length : Int) else a0) ≤ (l7s1.length : Int)) (req (((l7x6.length + ([(l7s1.take ((if (l7s1.length : Int) < a0 then (l7s1.length : Int) else a0)).toNat)]).length) * 16 : Nat) ≤ 140737488355328 ∧ l7x6.length + ([(l7s1.take ((if (l7s1.length : Int) < a0 then (l7s1.length : Int) else a0)).toNat)]).length ≤ 9223372036854775807) (req (0 ≤ (if (l7s1.length : Int) < a0 then (l7s1.length : Int) else a0) ∧ (if (l7s1.length : Int) < a0 then (l7s1.length : Int) else a0) ≤ (l7s1.length : Int)) (f_chunk_Fixed_L9 a0 kk6 k8 (l7s1.drop ((if (l7s1.length : Int) < a0 then (l7s1.length : Int) else a0)).toNat) (l7x6 ++ ([(l7s1.take ((if (l7s1.length : Int) < a0 then (l7s1.length : Int) else a0)).toNat)])))))) else (kk6 l7x6))
def f_chunk_Fixed (fu : Nat) (a0 : Int) (a1 : (List UInt8)) : Option ((List (List UInt8)) × Int) := (lt (fun (j1b13 : Bool) => (bif j1b13 then (some (([] : List (List UInt8)), (1 : Int))) else (bif (decide ((a1.length : Int) > (4096 : Int))) then (some (([] : List (List UInt8)), (2 : Int))) else (lt (fun (j5x6 : (List (List UInt8))) => (some (j5x6, (0 : Int)))) fun (kk6 : (List (List UInt8)) → Option ((List (List UInt8)) × Int)) => (f_chunk_Fixed_L9 a0 kk6 fu a1 ([] : List (List UInt8))))))) fun (kk2 : Bool → Option ((List (List UInt8)) × Int)) => (bif (decide (a0 < (1 : Int))) then (kk2 true) else (kk2 (decide (a0 > (1024 : Int))))))
set_option maxHeartbeats 2000000 in
set_option maxRecDepth 100000 in
theorem f_chunk_Fixed_ok (fu : Nat) (a0 : Int) (a1 : (List UInt8)) {r : ((List (List UInt8)) × Int)} (h : f_chunk_Fixed fu a0 a1 = some r) : FnOk Tryz.prog 38 [(int .i64 a0), (str a1)] [] [] (fun (i : Value) => { val := (Value.tuple #[i, (int .i64 r.2)]), own := [(oRow i 9 tyStr r.1)] }) := by
 unfold f_chunk_Fixed at h
 refine fn_enter Tryz.func38 rfl Tryz.ntmps38 rfl (fun w0 Z0 => ?_)
 refine aw_sr ?_
 refine as_ ?_
 refine an_ ?_
 refine aw_seq ?_
 obtain ⟨kk2, hkk2, h⟩ := lt_some h
 refine aw_seq_join (ι := Bool) (fun i => (memOf w0 Z0 [] [] [])) (fun i => (tab [(0, (iq a0)), (1, (str a1)), (13, (bool i))])) (fun i => kk2 i = some r) ?_ ?_
 rintro j1b13 h
 have h : kk2 j1b13 = some r := h
 rw [hkk2] at h
 dsimp only at h
 clear hkk2
 refine aw_show (m := (memOf w0 Z0 [] [] [])) (S := _) ?_
 refine aw_cond rfl (fun hb3 => ?_) (fun hb3 => ?_)
 replace h := bif_t hb3 h
 refine aw_sr ?_
 refine as_ ?_
 refine an_ ?_
 refine aw_ret ?_
 refine aq_then_ret ?_
 refine aq_nilR 9 tyStr ?_
 cases h
 exact fn_ret nS [0] [] rfl rfl rfl rfl (res2 rfl rfl rfl) rfl rfl rfl (by decide)
 replace h := bif_f hb3 h
 refine aw_skip ?_
 refine aq_then ?_
 refine aw_seq ?_
 refine sm_ ?_
 refine al_val (ov_strLen Tryz.underlying9 rfl rfl) ?_
 refine im_ ?_
 refine aw_cond rfl (fun hb4 => ?_) (fun hb4 => ?_)
 replace h := bif_t hb4 h
 refine aw_sr ?_
 refine as_ ?_
 refine an_ ?_
 refine aw_ret ?_
 refine aq_then_ret ?_
 refine aq_nilR 9 tyStr ?_
 cases h
 exact fn_ret nS [0] [] rfl rfl rfl rfl (res2 rfl rfl rfl) rfl rfl rfl (by decide)
 replace h := bif_f hb4 h
 refine aw_skip ?_
 refine aq_tr ?_
 refine an_ ?_
 obtain ⟨kk6, hkk6, h⟩ := lt_some h
 refine aw_seq_join (ι := Value × (List (List UInt8))) (fun i => (memOf w0 Z0 [] [(oRow i.1 9 tyStr i.2)] [])) (fun i => (tab [(6, i.1)])) (fun i => kk6 i.2 = some r) ?_ ?_
 rintro ⟨j5v6, j5x6⟩ h
 have h : kk6 j5x6 = some r := h
 rw [hkk6] at h
 dsimp only at h
 clear hkk6
 refine aw_show (m := (memOf w0 Z0 [] [(oRow j5v6 9 tyStr j5x6)] [])) (S := _) ?_
 refine sm_ ?_
 refine as_ ?_
 refine an_ ?_
 refine aw_ret ?_
 cases h
 exact fn_ret j5v6 [0] [] rfl rfl rfl rfl (res2 rfl rfl rfl) rfl rfl rfl (by decide)
 clear hkk6
 refine aw_block ?_
 refine aw_nilR 9 tyStr ?_
 refine aw_state (aw_loop (ι := (List UInt8) × Value × (List (List UInt8))) (fun i => (memOf w0 Z0 [] [(oRow i.2.1 9 tyStr i.2.2)] [])) (fun i => (tab [(0, (iq a0)), (1, (str i.1)), (6, i.2.1)])) (fun q i => f_chunk_Fixed_L9 a0 kk6 q i.1 i.2.2 = some r) ?_ fu (a1, nS, ([] : List (List UInt8))) h) (nm_ [0] [] (by decide) ⟨rfl, rfl, rfl, trivial⟩)
 clear h
 rintro k8 ⟨l7s1, l7v6, l7x6⟩ h
 have h : f_chunk_Fixed_L9 a0 kk6 k8 l7s1 l7x6 = some r := h
 obtain _ | k8 := k8
 rw [f_chunk_Fixed_L9] at h; cases h
 rw [f_chunk_Fixed_L9] at h
 refine aw_show (m := (memOf w0 Z0 [] [(oRow l7v6 9 tyStr l7x6)] [])) (S := _) ?_
 refine aw_seq ?_
 refine sm_ ?_
 refine al_val (ov_strLen Tryz.underlying9 rfl rfl) ?_
 refine im_ ?_
 refine aw_cond rfl (fun hb10 => ?_) (fun hb10 => ?_)
 replace h := bif_t hb10 h
 refine aw_skip ?_
 refine aq_then ?_
 refine aw_block ?_
 refine sm_ ?_
 refine mv_ ?_
 refine al_val (ov_strLen Tryz.underlying9 rfl rfl) ?_
 refine al_val (ov_min rfl rfl rfl) ?_
 refine an_ ?_
 refine sm_ ?_
 refine mv_ ?_
 refine mv_ ?_
 obtain ⟨hc11, h⟩ := req_some h
 refine al_val (ov_strTo hc11.1 hc11.2 Tryz.underlying9 rfl rfl rfl) ?_
 refine al_buildSlice (τ := tyStr) (e := 9) (k := 1) (sz := 0) (by_ := 0) (z := undef) (cs := [(str (l7s1.take ((if (l7s1.length : Int) < a0 then (l7s1.length : Int) else a0)).toNat))]) (xs := [(l7s1.take ((if (l7s1.length : Int) < a0 then (l7s1.length : Int) else a0)).toNat)]) rfl (by decide) (fun w a hm hs => ⟨([(str (l7s1.take ((if (l7s1.length : Int) < a0 then (l7s1.length : Int) else a0)).toNat))]).toArray, rfl, by simp only [List.map_toArray, List.map_cons, List.map_nil, hs.ev (x := .tmp 27) rfl]; exact run_bs [(str (l7s1.take ((if (l7s1.length : Int) < a0 then (l7s1.length : Int) else a0)).toNat))] [(str (l7s1.take ((if (l7s1.length : Int) < a0 then (l7s1.length : Int) else a0)).toNat))] Tryz.underlying54 to9 rfl rfl (bs_cons (l := [(str (l7s1.take ((if (l7s1.length : Int) < a0 then (l7s1.length : Int) else a0)).toNat))]) (cs := []) (cv_rfl rfl) rfl bs_nil) hm⟩) (fun hm => ⟨_, _, rfl, (fun _ => rfl) hm, rfl⟩) rfl (fun v12 => ?_)
 obtain ⟨hc13, h⟩ := req_some h
 refine al_append 1 hc13.1 hc13.2 rfl (src_own (i := 1) 0 rfl) rfl rfl Tryz.underlying54 to9 rfl rfl rfl (fun v14 => ?_)
 refine an_ ?_
 refine aw_region ?_
 refine mv_ ?_
 refine mv_ ?_
 obtain ⟨hc15, h⟩ := req_some h
 refine al_val (ov_strFrom hc15.1 hc15.2 Tryz.underlying9 rfl rfl rfl) ?_
 refine as_ ?_
 refine al_nil ?_
 refine aq_block ?_
 exact aq_again k8 ((l7s1.drop ((if (l7s1.length : Int) < a0 then (l7s1.length : Int) else a0)).toNat), v14, (l7x6 ++ ([(l7s1.take ((if (l7s1.length : Int) < a0 then (l7s1.length : Int) else a0)).toNat)]))) (Nat.lt_succ_self _) h (nm_ [1] [] (by decide) ⟨rfl, rfl, rfl, trivial⟩)
 replace h := bif_f hb10 h
 refine aw_exit ?_
 refine aq_then_exit ?_
 refine aq_then_exit ?_
 refine aq_block_exit ?_
 exact aq_join (l7v6, l7x6) h (nm_ [0] [] (by decide) ⟨rfl, trivial⟩)
 clear hkk2
 refine aw_region ?_
 refine mv_ ?_
 refine in_ ?_
 refine mv_ ?_
 refine al_caseB 10 rfl (fun hb16 => ?_) (fun hb16 => ?_)
 replace h := bif_t hb16 h
 refine al_skip ?_
 refine al_skip ?_
 refine al_val (ov_pick_t rfl rfl rfl) ?_
 refine al_nil ?_
 exact aq_join true h (nm_ [] [] (by decide) ⟨rfl, rfl, rfl, trivial⟩)
 replace h := bif_f hb16 h
 refine mv_ ?_
 refine in_ ?_
 refine al_val (ov_pick_f rfl rfl rfl) ?_
 refine al_nil ?_
 exact aq_join (decide (a0 > (1024 : Int))) h (nm_ [] [] (by decide) ⟨rfl, rfl, rfl, trivial⟩)
 -- STUCK (*lumberroom/walk.planter).pieces: lty ['pointer', 43]
def f_pack_Known (fu : Nat) (a0 : Int) : Option Bool := (lt (fun (j1b2 : Bool) => (some j1b2)) fun (kk2 : Bool → Option Bool) => (bif (decide (a0 ≥ (1 : Int))) then (kk2 (decide (a0 ≤ (3 : Int)))) else (kk2 false)))
set_option maxHeartbeats 2000000 in
set_option maxRecDepth 100000 in
theorem f_pack_Known_ok (fu : Nat) (a0 : Int) {r : Bool} (h : f_pack_Known fu a0 = some r) : FnOk Tryz.prog 60 [(int .i64 a0)] [] [] (fun (i : Unit) => { val := (bool r) }) := by
 unfold f_pack_Known at h
 refine fn_enter Tryz.func60 rfl Tryz.ntmps60 rfl (fun w0 Z0 => ?_)
 refine aw_sr ?_
 refine an_ ?_
 obtain ⟨kk2, hkk2, h⟩ := lt_some h
 refine aw_seq_join (ι := Bool) (fun i => (memOf w0 Z0 [] [] [])) (fun i => (tab [(2, (bool i))])) (fun i => kk2 i = some r) ?_ ?_
 rintro j1b2 h
 have h : kk2 j1b2 = some r := h
 rw [hkk2] at h
 dsimp only at h
 clear hkk2
 refine aw_show (m := (memOf w0 Z0 [] [] [])) (S := _) ?_
 refine aw_ret ?_
 cases h
 exact fr1_
 clear hkk2
 refine aw_region ?_
 refine mv_ ?_
 refine in_ ?_
 refine mv_ ?_
 refine al_caseB 5 rfl (fun hb3 => ?_) (fun hb3 => ?_)
 replace h := bif_t hb3 h
 refine mv_ ?_
 refine in_ ?_
 refine al_val (ov_pick_t rfl rfl rfl) ?_
 refine as_ ?_
 refine al_nil ?_
 exact aq_join (decide (a0 ≤ (3 : Int))) h (nm_ [] [] (by decide) ⟨rfl, trivial⟩)
 replace h := bif_f hb3 h
 refine al_skip ?_
 refine al_skip ?_
 refine al_val (ov_pick_f rfl rfl rfl) ?_
 refine as_ ?_
 refine al_nil ?_
 exact aq_join false h (nm_ [] [] (by decide) ⟨rfl, trivial⟩)
def f__binary_littleEndian__Uint64 (fu : Nat) (a0 : Unit) (a1 : (List UInt8)) : Option Int := (opt (at? a1 (7 : Int)) fun (u2 : UInt8) => (opt (at? a1 (0 : Int)) fun (u5 : UInt8) => (opt (at? a1 (1 : Int)) fun (u8 : UInt8) => (opt (at? a1 (2 : Int)) fun (u11 : UInt8) => (opt (at? a1 (3 : Int)) fun (u14 : UInt8) => (opt (at? a1 (4 : Int)) fun (u17 : UInt8) => (opt (at? a1 (5 : Int)) fun (u20 : UInt8) => (opt (at? a1 (6 : Int)) fun (u23 : UInt8) => (opt (at? a1 (7 : Int)) fun (u26 : UInt8) => (some (bits .or .u64 (bits .or .u64 (bits .or .u64 (bits .or .u64 (bits .or .u64 (bits .or .u64 (bits .or .u64 (IntKind.u64.wrap (u5.toNat : Int)) (IntKind.u64.wrap ((IntKind.u64.wrap (u8.toNat : Int)) * 2 ^ min ((8 : Int)).toNat (IntKind.bits .u64)))) (IntKind.u64.wrap ((IntKind.u64.wrap (u11.toNat : Int)) * 2 ^ min ((16 : Int)).toNat (IntKind.bits .u64)))) (IntKind.u64.wrap ((IntKind.u64.wrap (u14.toNat : Int)) * 2 ^ min ((24 : Int)).toNat (IntKind.bits .u64)))) (IntKind.u64.wrap ((IntKind.u64.wrap (u17.toNat : Int)) * 2 ^ min ((32 : Int)).toNat (IntKind.bits .u64)))) (IntKind.u64.wrap ((IntKind.u64.wrap (u20.toNat : Int)) * 2 ^ min ((40 : Int)).toNat (IntKind.bits .u64)))) (IntKind.u64.wrap ((IntKind.u64.wrap (u23.toNat : Int)) * 2 ^ min ((48 : Int)).toNat (IntKind.bits .u64)))) (IntKind.u64.wrap ((IntKind.u64.wrap (u26.toNat : Int)) * 2 ^ min ((56 : Int)).toNat (IntKind.bits .u64))))))))))))))
set_option maxHeartbeats 2000000 in
set_option maxRecDepth 100000 in
theorem f__binary_littleEndian__Uint64_ok (fu : Nat) (a0 : Unit) (v1_0 : Value) (a1 : (List UInt8)) {r : Int} (h : f__binary_littleEndian__Uint64 fu a0 a1 = some r) : FnOk Tryz.prog 115 [(ag []), v1_0] [(fDat (tyList tyU8) [v1_0] a1)] [] (fun (i : Unit) => { val := (int .u64 r) }) := by
 unfold f__binary_littleEndian__Uint64 at h
 refine fn_enter Tryz.func115 rfl Tryz.ntmps115 rfl (fun w0 Z0 => ?_)
 refine aw_sr ?_
 refine al_box (vs := []) rfl (cv_rfl rfl) rfl (fun g1 => ?_)
 refine an_ ?_
 refine sm_ ?_
 obtain ⟨u2, hu3, h⟩ := opt_some h
 refine al_idxD 0 hu3 rfl rfl rfl Tryz.underlying84 sz5 rfl (fun p4 => ?_)
 refine al_val (ov_loadP (ds := [(i8 (u2.toNat : Int))]) 0 rfl (fun h => h) rfl Tryz.underlying5 sz5 rfl rfl rfl) ?_
 refine al_nt ?_
 refine aw_seq ?_
 obtain ⟨u5, hu6, h⟩ := opt_some h
 obtain ⟨u8, hu9, h⟩ := opt_some h
 obtain ⟨u11, hu12, h⟩ := opt_some h
 obtain ⟨u14, hu15, h⟩ := opt_some h
 obtain ⟨u17, hu18, h⟩ := opt_some h
 obtain ⟨u20, hu21, h⟩ := opt_some h
 obtain ⟨u23, hu24, h⟩ := opt_some h
 obtain ⟨u26, hu27, h⟩ := opt_some h
 refine aw_region_draw 46 [(8, (fE v1_0)), (9, (fun p7 => (fPtr tyU8 p7 u5))), (10, (fE (i8 (u5.toNat : Int)))), (11, (fE (uq (wu (u5.toNat : Int))))), (12, (fE v1_0)), (13, (fun p10 => (fPtr tyU8 p10 u8))), (14, (fE (i8 (u8.toNat : Int)))), (15, (fE (uq (wu (u8.toNat : Int))))), (16, (fE (uq (wu ((wu (u8.toNat : Int)) * 2 ^ min ((8 : Int)).toNat (IntKind.bits .u64)))))), (17, (fE (uq (bits .or .u64 (wu (u5.toNat : Int)) (wu ((wu (u8.toNat : Int)) * 2 ^ min ((8 : Int)).toNat (IntKind.bits .u64))))))), (18, (fE v1_0)), (19, (fun p13 => (fPtr tyU8 p13 u11))), (20, (fE (i8 (u11.toNat : Int)))), (21, (fE (uq (wu (u11.toNat : Int))))), (22, (fE (uq (wu ((wu (u11.toNat : Int)) * 2 ^ min ((16 : Int)).toNat (IntKind.bits .u64)))))), (23, (fE (uq (bits .or .u64 (bits .or .u64 (wu (u5.toNat : Int)) (wu ((wu (u8.toNat : Int)) * 2 ^ min ((8 : Int)).toNat (IntKind.bits .u64)))) (wu ((wu (u11.toNat : Int)) * 2 ^ min ((16 : Int)).toNat (IntKind.bits .u64))))))), (24, (fE v1_0)), (25, (fun p16 => (fPtr tyU8 p16 u14))), (26, (fE (i8 (u14.toNat : Int)))), (27, (fE (uq (wu (u14.toNat : Int))))), (28, (fE (uq (wu ((wu (u14.toNat : Int)) * 2 ^ min ((24 : Int)).toNat (IntKind.bits .u64)))))), (29, (fE (uq (bits .or .u64 (bits .or .u64 (bits .or .u64 (wu (u5.toNat : Int)) (wu ((wu (u8.toNat : Int)) * 2 ^ min ((8 : Int)).toNat (IntKind.bits .u64)))) (wu ((wu (u11.toNat : Int)) * 2 ^ min ((16 : Int)).toNat (IntKind.bits .u64)))) (wu ((wu (u14.toNat : Int)) * 2 ^ min ((24 : Int)).toNat (IntKind.bits .u64))))))), (30, (fE v1_0)), (31, (fun p19 => (fPtr tyU8 p19 u17))), (32, (fE (i8 (u17.toNat : Int)))), (33, (fE (uq (wu (u17.toNat : Int))))), (34, (fE (uq (wu ((wu (u17.toNat : Int)) * 2 ^ min ((32 : Int)).toNat (IntKind.bits .u64)))))), (35, (fE (uq (bits .or .u64 (bits .or .u64 (bits .or .u64 (bits .or .u64 (wu (u5.toNat : Int)) (wu ((wu (u8.toNat : Int)) * 2 ^ min ((8 : Int)).toNat (IntKind.bits .u64)))) (wu ((wu (u11.toNat : Int)) * 2 ^ min ((16 : Int)).toNat (IntKind.bits .u64)))) (wu ((wu (u14.toNat : Int)) * 2 ^ min ((24 : Int)).toNat (IntKind.bits .u64)))) (wu ((wu (u17.toNat : Int)) * 2 ^ min ((32 : Int)).toNat (IntKind.bits .u64))))))), (36, (fE v1_0)), (37, (fun p22 => (fPtr tyU8 p22 u20))), (38, (fE (i8 (u20.toNat : Int)))), (39, (fE (uq (wu (u20.toNat : Int))))), (40, (fE (uq (wu ((wu (u20.toNat : Int)) * 2 ^ min ((40 : Int)).toNat (IntKind.bits .u64)))))), (41, (fE (uq (bits .or .u64 (bits .or .u64 (bits .or .u64 (bits .or .u64 (bits .or .u64 (wu (u5.toNat : Int)) (wu ((wu (u8.toNat : Int)) * 2 ^ min ((8 : Int)).toNat (IntKind.bits .u64)))) (wu ((wu (u11.toNat : Int)) * 2 ^ min ((16 : Int)).toNat (IntKind.bits .u64)))) (wu ((wu (u14.toNat : Int)) * 2 ^ min ((24 : Int)).toNat (IntKind.bits .u64)))) (wu ((wu (u17.toNat : Int)) * 2 ^ min ((32 : Int)).toNat (IntKind.bits .u64)))) (wu ((wu (u20.toNat : Int)) * 2 ^ min ((40 : Int)).toNat (IntKind.bits .u64))))))), (42, (fE v1_0)), (43, (fun p25 => (fPtr tyU8 p25 u23))), (44, (fE (i8 (u23.toNat : Int)))), (45, (fE (uq (wu (u23.toNat : Int))))), (46, (fE (uq (wu ((wu (u23.toNat : Int)) * 2 ^ min ((48 : Int)).toNat (IntKind.bits .u64)))))), (47, (fE (uq (bits .or .u64 (bits .or .u64 (bits .or .u64 (bits .or .u64 (bits .or .u64 (bits .or .u64 (wu (u5.toNat : Int)) (wu ((wu (u8.toNat : Int)) * 2 ^ min ((8 : Int)).toNat (IntKind.bits .u64)))) (wu ((wu (u11.toNat : Int)) * 2 ^ min ((16 : Int)).toNat (IntKind.bits .u64)))) (wu ((wu (u14.toNat : Int)) * 2 ^ min ((24 : Int)).toNat (IntKind.bits .u64)))) (wu ((wu (u17.toNat : Int)) * 2 ^ min ((32 : Int)).toNat (IntKind.bits .u64)))) (wu ((wu (u20.toNat : Int)) * 2 ^ min ((40 : Int)).toNat (IntKind.bits .u64)))) (wu ((wu (u23.toNat : Int)) * 2 ^ min ((48 : Int)).toNat (IntKind.bits .u64))))))), (48, (fE v1_0)), (49, (fun p28 => (fPtr tyU8 p28 u26))), (50, (fE (i8 (u26.toNat : Int)))), (51, (fE (uq (wu (u26.toNat : Int))))), (52, (fE (uq (wu ((wu (u26.toNat : Int)) * 2 ^ min ((56 : Int)).toNat (IntKind.bits .u64)))))), (53, (fE (uq (bits .or .u64 (bits .or .u64 (bits .or .u64 (bits .or .u64 (bits .or .u64 (bits .or .u64 (bits .or .u64 (wu (u5.toNat : Int)) (wu ((wu (u8.toNat : Int)) * 2 ^ min ((8 : Int)).toNat (IntKind.bits .u64)))) (wu ((wu (u11.toNat : Int)) * 2 ^ min ((16 : Int)).toNat (IntKind.bits .u64)))) (wu ((wu (u14.toNat : Int)) * 2 ^ min ((24 : Int)).toNat (IntKind.bits .u64)))) (wu ((wu (u17.toNat : Int)) * 2 ^ min ((32 : Int)).toNat (IntKind.bits .u64)))) (wu ((wu (u20.toNat : Int)) * 2 ^ min ((40 : Int)).toNat (IntKind.bits .u64)))) (wu ((wu (u23.toNat : Int)) * 2 ^ min ((48 : Int)).toNat (IntKind.bits .u64)))) (wu ((wu (u26.toNat : Int)) * 2 ^ min ((56 : Int)).toNat (IntKind.bits .u64)))))))] (tab [(1, v1_0), (4, (uq (0 : Int)))]) mixed (by kernel_rfl) rfl rfl rfl (fun a hs => hs.tab _ (allT_mem ⟨rfl, rfl, trivial⟩)) ⟨⟨rfl, ld_val (ov_move rfl rfl)⟩, ⟨rfl, ld_eq (j := 0) rfl rfl (ld_of (of_idxD 1 hu6 rfl rfl rfl Tryz.underlying84 sz5 rfl))⟩, ⟨rfl, ld_fact (j := 1) rfl rfl (fun p7 => ld_val (ov_loadP (ds := [(i8 (u5.toNat : Int))]) 0 rfl (fun h => h) rfl Tryz.underlying5 sz5 rfl rfl rfl))⟩, ⟨rfl, ld_eq (j := 2) rfl rfl (ld_val (ov_convInt (by rw [Tryz.underlying5]; rfl) Tryz.underlying81 rfl rfl))⟩, ⟨rfl, ld_val (ov_move rfl rfl)⟩, ⟨rfl, ld_eq (j := 4) rfl rfl (ld_of (of_idxD 1 hu9 rfl rfl rfl Tryz.underlying84 sz5 rfl))⟩, ⟨rfl, ld_fact (j := 5) rfl rfl (fun p10 => ld_val (ov_loadP (ds := [(i8 (u8.toNat : Int))]) 0 rfl (fun h => h) rfl Tryz.underlying5 sz5 rfl rfl rfl))⟩, ⟨rfl, ld_eq (j := 6) rfl rfl (ld_val (ov_convInt (by rw [Tryz.underlying5]; rfl) Tryz.underlying81 rfl rfl))⟩, ⟨rfl, ld_eq (j := 7) rfl rfl (ld_val (ov_shl (by decide) rfl rfl rfl))⟩, ⟨rfl, ld_eq (j := 3) rfl rfl (ld_eq (j := 8) rfl rfl (ld_val (ov_int rfl rfl rfl rfl)))⟩, ⟨rfl, ld_val (ov_move rfl rfl)⟩, ⟨rfl, ld_eq (j := 10) rfl rfl (ld_of (of_idxD 1 hu12 rfl rfl rfl Tryz.underlying84 sz5 rfl))⟩, ⟨rfl, ld_fact (j := 11) rfl rfl (fun p13 => ld_val (ov_loadP (ds := [(i8 (u11.toNat : Int))]) 0 rfl (fun h => h) rfl Tryz.underlying5 sz5 rfl rfl rfl))⟩, ⟨rfl, ld_eq (j := 12) rfl rfl (ld_val (ov_convInt (by rw [Tryz.underlying5]; rfl) Tryz.underlying81 rfl rfl))⟩, ⟨rfl, ld_eq (j := 13) rfl rfl (ld_val (ov_shl (by decide) rfl rfl rfl))⟩, ⟨rfl, ld_eq (j := 9) rfl rfl (ld_eq (j := 14) rfl rfl (ld_val (ov_int rfl rfl rfl rfl)))⟩, ⟨rfl, ld_val (ov_move rfl rfl)⟩, ⟨rfl, ld_eq (j := 16) rfl rfl (ld_of (of_idxD 1 hu15 rfl rfl rfl Tryz.underlying84 sz5 rfl))⟩, ⟨rfl, ld_fact (j := 17) rfl rfl (fun p16 => ld_val (ov_loadP (ds := [(i8 (u14.toNat : Int))]) 0 rfl (fun h => h) rfl Tryz.underlying5 sz5 rfl rfl rfl))⟩, ⟨rfl, ld_eq (j := 18) rfl rfl (ld_val (ov_convInt (by rw [Tryz.underlying5]; rfl) Tryz.underlying81 rfl rfl))⟩, ⟨rfl, ld_eq (j := 19) rfl rfl (ld_val (ov_shl (by decide) rfl rfl rfl))⟩, ⟨rfl, ld_eq (j := 15) rfl rfl (ld_eq (j := 20) rfl rfl (ld_val (ov_int rfl rfl rfl rfl)))⟩, ⟨rfl, ld_val (ov_move rfl rfl)⟩, ⟨rfl, ld_eq (j := 22) rfl rfl (ld_of (of_idxD 1 hu18 rfl rfl rfl Tryz.underlying84 sz5 rfl))⟩, ⟨rfl, ld_fact (j := 23) rfl rfl (fun p19 => ld_val (ov_loadP (ds := [(i8 (u17.toNat : Int))]) 0 rfl (fun h => h) rfl Tryz.underlying5 sz5 rfl rfl rfl))⟩, ⟨rfl, ld_eq (j := 24) rfl rfl (ld_val (ov_convInt (by rw [Tryz.underlying5]; rfl) Tryz.underlying81 rfl rfl))⟩, ⟨rfl, ld_eq (j := 25) rfl rfl (ld_val (ov_shl (by decide) rfl rfl rfl))⟩, ⟨rfl, ld_eq (j := 21) rfl rfl (ld_eq (j := 26) rfl rfl (ld_val (ov_int rfl rfl rfl rfl)))⟩, ⟨rfl, ld_val (ov_move rfl rfl)⟩, ⟨rfl, ld_eq (j := 28) rfl rfl (ld_of (of_idxD 1 hu21 rfl rfl rfl Tryz.underlying84 sz5 rfl))⟩, ⟨rfl, ld_fact (j := 29) rfl rfl (fun p22 => ld_val (ov_loadP (ds := [(i8 (u20.toNat : Int))]) 0 rfl (fun h => h) rfl Tryz.underlying5 sz5 rfl rfl rfl))⟩, ⟨rfl, ld_eq (j := 30) rfl rfl (ld_val (ov_convInt (by rw [Tryz.underlying5]; rfl) Tryz.underlying81 rfl rfl))⟩, ⟨rfl, ld_eq (j := 31) rfl rfl (ld_val (ov_shl (by decide) rfl rfl rfl))⟩, ⟨rfl, ld_eq (j := 27) rfl rfl (ld_eq (j := 32) rfl rfl (ld_val (ov_int rfl rfl rfl rfl)))⟩, ⟨rfl, ld_val (ov_move rfl rfl)⟩, ⟨rfl, ld_eq (j := 34) rfl rfl (ld_of (of_idxD 1 hu24 rfl rfl rfl Tryz.underlying84 sz5 rfl))⟩, ⟨rfl, ld_fact (j := 35) rfl rfl (fun p25 => ld_val (ov_loadP (ds := [(i8 (u23.toNat : Int))]) 0 rfl (fun h => h) rfl Tryz.underlying5 sz5 rfl rfl rfl))⟩, ⟨rfl, ld_eq (j := 36) rfl rfl (ld_val (ov_convInt (by rw [Tryz.underlying5]; rfl) Tryz.underlying81 rfl rfl))⟩, ⟨rfl, ld_eq (j := 37) rfl rfl (ld_val (ov_shl (by decide) rfl rfl rfl))⟩, ⟨rfl, ld_eq (j := 33) rfl rfl (ld_eq (j := 38) rfl rfl (ld_val (ov_int rfl rfl rfl rfl)))⟩, ⟨rfl, ld_val (ov_move rfl rfl)⟩, ⟨rfl, ld_eq (j := 40) rfl rfl (ld_of (of_idxD 1 hu27 rfl rfl rfl Tryz.underlying84 sz5 rfl))⟩, ⟨rfl, ld_fact (j := 41) rfl rfl (fun p28 => ld_val (ov_loadP (ds := [(i8 (u26.toNat : Int))]) 0 rfl (fun h => h) rfl Tryz.underlying5 sz5 rfl rfl rfl))⟩, ⟨rfl, ld_eq (j := 42) rfl rfl (ld_val (ov_convInt (by rw [Tryz.underlying5]; rfl) Tryz.underlying81 rfl rfl))⟩, ⟨rfl, ld_eq (j := 43) rfl rfl (ld_val (ov_shl (by decide) rfl rfl rfl))⟩, ⟨rfl, ld_eq (j := 39) rfl rfl (ld_eq (j := 44) rfl rfl (ld_val (ov_int rfl rfl rfl rfl)))⟩, trivial⟩ ?_
 refine tl_eq 45 rfl ?_
 refine tl_done ?_
 refine an_ ?_
 refine aw_ret ?_
 cases h
 exact fr1_
def f_mix_Step (fu : Nat) (a0 : Int) (a1 : Int) : Option Int := (some (bits .xor .u64 (IntKind.u64.wrap ((bits .xor .u64 (IntKind.u64.wrap ((bits .xor .u64 a0 a1) * (11400714819323198485 : Int))) (((IntKind.u64.wrap ((bits .xor .u64 a0 a1) * (11400714819323198485 : Int)))).fdiv (2 ^ min ((29 : Int)).toNat (IntKind.bits .u64)))) * (13787848793156543929 : Int))) (((IntKind.u64.wrap ((bits .xor .u64 (IntKind.u64.wrap ((bits .xor .u64 a0 a1) * (11400714819323198485 : Int))) (((IntKind.u64.wrap ((bits .xor .u64 a0 a1) * (11400714819323198485 : Int)))).fdiv (2 ^ min ((29 : Int)).toNat (IntKind.bits .u64)))) * (13787848793156543929 : Int)))).fdiv (2 ^ min ((32 : Int)).toNat (IntKind.bits .u64)))))
set_option maxHeartbeats 2000000 in
set_option maxRecDepth 100000 in
theorem f_mix_Step_ok (fu : Nat) (a0 : Int) (a1 : Int) {r : Int} (h : f_mix_Step fu a0 a1 = some r) : FnOk Tryz.prog 114 [(int .u64 a0), (int .u64 a1)] [] [] (fun (i : Unit) => { val := (int .u64 r) }) := by
 unfold f_mix_Step at h
 refine fn_enter Tryz.func114 rfl Tryz.ntmps114 rfl (fun w0 Z0 => ?_)
 refine aw_sr ?_
 refine an_ ?_
 refine sm_ ?_
 refine mv_ ?_
 refine in_ ?_
 refine in_ ?_
 refine an_ ?_
 refine sm_ ?_
 refine mv_ ?_
 refine al_val (ov_shr (by decide) rfl rfl rfl) ?_
 refine in_ ?_
 refine in_ ?_
 refine an_ ?_
 refine sm_ ?_
 refine mv_ ?_
 refine al_val (ov_shr (by decide) rfl rfl rfl) ?_
 refine in_ ?_
 refine an_ ?_
 refine aw_ret ?_
 cases h
 exact fr1_
def f_mix_sum_L7 (a1 : Int) (kk2 : (Int → Option Int)) (fu : Nat) : Nat → (List UInt8) → Int → Option Int
  | 0, _, _ => none
  | k6 + 1, l5s0, l5i5 => (bif (!(l5s0 == ([] : List UInt8))) then (req (0 ≤ ((Nat.min l5s0.length 8 : Nat) : Int) ∧ ((Nat.min l5s0.length 8 : Nat) : Int) ≤ (l5s0.length : Int)) (opt (f__binary_littleEndian__Uint64 fu () (lA8u8 (cpA8u8 zA8u8 l5s0))) fun (r13 : Int) => (opt (f_mix_Step fu l5i5 r13) fun (r15 : Int) => (f_mix_sum_L7 a1 kk2 fu k6 (l5s0.drop (((Nat.min l5s0.length 8 : Nat) : Int)).toNat) (bits .and .u64 r15 a1))))) else (kk2 l5i5))
def f_mix_sum (fu : Nat) (a0 : (List UInt8)) (a1 : Int) : Option Int := (lt (fun (j1i5 : Int) => (opt (f_mix_Step fu j1i5 (IntKind.u64.wrap (a0.length : Int))) fun (r4 : Int) => (some (bits .and .u64 r4 a1)))) fun (kk2 : Int → Option Int) => (f_mix_sum_L7 a1 kk2 fu fu a0 (0 : Int)))
set_option maxHeartbeats 2000000 in
set_option maxRecDepth 100000 in
theorem f_mix_sum_ok (fu : Nat) (a0 : (List UInt8)) (a1 : Int) {r : Int} (h : f_mix_sum fu a0 a1 = some r) : FnOk Tryz.prog 96 [(str a0), (int .u64 a1)] [] [] (fun (i : Unit) => { val := (int .u64 r) }) := by
 unfold f_mix_sum at h
 refine fn_enter Tryz.func96 rfl Tryz.ntmps96 rfl (fun w0 Z0 => ?_)
 refine aw_sr ?_
 refine an_ ?_
 refine sm_ ?_
 refine al_val (ov_strLen Tryz.underlying9 rfl rfl) ?_
 refine al_val (ov_convInt (by rw [Tryz.underlying3]; rfl) Tryz.underlying81 rfl rfl) ?_
 refine as_ ?_
 refine an_ ?_
 obtain ⟨kk2, hkk2, h⟩ := lt_some h
 refine aw_seq_join (ι := Int) (fun i => (memOf w0 Z0 [] [] [])) (fun i => (tab [(1, (uq a1)), (5, (uq i)), (6, (uq (wu (a0.length : Int))))])) (fun i => kk2 i = some r) ?_ ?_
 rintro j1i5 h
 have h : kk2 j1i5 = some r := h
 rw [hkk2] at h
 dsimp only at h
 clear hkk2
 refine aw_show (m := (memOf w0 Z0 [] [] [])) (S := _) ?_
 refine sm_ ?_
 refine mv_ ?_
 obtain ⟨r4, hc3, h⟩ := opt_some h
 refine al_call (vs := [(uq j1i5), (uq (wu (a0.length : Int)))]) (f_mix_Step_ok fu j1i5 (wu (a0.length : Int)) hc3) [] [] [] pre_nil rfl (by simp) (by decide) (.inl rfl) rfl Tryz.func114 rfl rfl rfl (fun _ => ?_)
 refine mv_ ?_
 refine in_ ?_
 refine an_ ?_
 refine aw_ret ?_
 cases h
 exact fr1_
 clear hkk2
 refine aw_block ?_
 refine aw_state (aw_loop (ι := (List UInt8) × Int) (fun i => (memOf w0 Z0 [] [] [])) (fun i => (tab [(0, (str i.1)), (1, (uq a1)), (5, (uq i.2)), (6, (uq (wu (a0.length : Int))))])) (fun q i => f_mix_sum_L7 a1 kk2 fu q i.1 i.2 = some r) ?_ fu (a0, (0 : Int)) h) (nm_ [] [] (by decide) ⟨rfl, rfl, rfl, rfl, trivial⟩)
 clear h
 rintro k6 ⟨l5s0, l5i5⟩ h
 have h : f_mix_sum_L7 a1 kk2 fu k6 l5s0 l5i5 = some r := h
 obtain _ | k6 := k6
 rw [f_mix_sum_L7] at h; cases h
 rw [f_mix_sum_L7] at h
 refine aw_show (m := (memOf w0 Z0 [] [] [])) (S := _) ?_
 refine aw_seq ?_
 refine sm_ ?_
 refine al_val (ov_strCmp rfl rfl rfl rfl) ?_
 refine al_nt ?_
 refine aw_cond rfl (fun hb8 => ?_) (fun hb8 => ?_)
 replace h := bif_t hb8 h
 refine aw_skip ?_
 refine aq_then ?_
 refine aw_block ?_
 refine aw_sr ?_
 refine al_alloc (zs := (cA8u8 zA8u8)) (zeroOf_to to28) rfl rfl (fun g9 => ?_)
 refine al_nt ?_
 refine sm_ ?_
 refine al_val (ov_sliceBox (i := 0) rfl rfl Tryz.underlying28 sz5 rfl) ?_
 refine mv_ ?_
 refine al_copyS (i := 0) (cs := (cA8u8 zA8u8)) (cs' := (cA8u8 (cpA8u8 zA8u8 l5s0))) rfl rfl rfl Tryz.underlying84 sz5 rfl (cpcA8u8 zA8u8 l5s0 [] []) rfl ?_
 obtain ⟨hc10, h⟩ := req_some h
 refine al_val (ov_strFrom hc10.1 hc10.2 Tryz.underlying9 rfl rfl rfl) ?_
 refine an_ ?_
 refine aw_freezeB (τ := tyA8u8) 0 ((cpA8u8 zA8u8 l5s0)) rfl rfl (fun _ _ => mkA8u8 rfl) ?_
 obtain ⟨r13, hc12, h⟩ := opt_some h
 obtain ⟨r15, hc14, h⟩ := opt_some h
 refine aw_region_draw 7 [(18, (fE (uq l5i5))), (19, (fE (ag []))), (20, (fun s11 => (fDat (tyList tyU8) [s11] (lA8u8 (cpA8u8 zA8u8 l5s0))))), (21, (fE (uq r13))), (22, (fE (uq r15))), (23, (fE (uq a1))), (24, (fE (uq (bits .and .u64 r15 a1))))] (tab [(0, (str (l5s0.drop (((Nat.min l5s0.length 8 : Nat) : Int)).toNat))), (1, (uq a1)), (5, (uq l5i5)), (6, (uq (wu (a0.length : Int)))), (7, (pq g9))]) mixed (by kernel_rfl) rfl rfl rfl (fun a hs => hs.tab _ (allT_mem ⟨rfl, rfl, rfl, rfl, rfl, trivial⟩)) ⟨⟨rfl, ld_val (ov_move rfl rfl)⟩, ⟨rfl, ld_val (ov_load0 Tryz.underlying153 sz153 rfl rfl rfl)⟩, ⟨rfl, ld_of (of_sliceP 0 lrepA8u8 rfl rfl rfl rfl Tryz.underlying28 sz5 rfl)⟩, ⟨rfl, ld_eq (j := 1) rfl rfl (ld_fact (j := 2) rfl rfl (fun s11 => ld_callV (vs := [(ag []), s11]) (f__binary_littleEndian__Uint64_ok fu () s11 (lA8u8 (cpA8u8 zA8u8 l5s0)) hc12) [] (pre_fz 0 rfl pre_nil) rfl Tryz.func115 rfl rfl rfl))⟩, ⟨rfl, ld_eq (j := 0) rfl rfl (ld_eq (j := 3) rfl rfl (ld_callV (vs := [(uq l5i5), (uq r13)]) (f_mix_Step_ok fu l5i5 r13 hc14) [] pre_nil rfl Tryz.func114 rfl rfl rfl))⟩, ⟨rfl, ld_val (ov_move rfl rfl)⟩, ⟨rfl, ld_eq (j := 4) rfl rfl (ld_eq (j := 5) rfl rfl (ld_val (ov_int rfl rfl rfl rfl)))⟩, trivial⟩ ?_
 refine tl_eq 6 rfl ?_
 refine tl_done ?_
 refine as_ ?_
 refine al_nil ?_
 refine aq_block ?_
 exact aq_again k6 ((l5s0.drop (((Nat.min l5s0.length 8 : Nat) : Int)).toNat), (bits .and .u64 r15 a1)) (Nat.lt_succ_self _) h (nm_ [] [] (by decide) ⟨rfl, rfl, rfl, rfl, trivial⟩)
 replace h := bif_f hb8 h
 refine aw_exit ?_
 refine aq_then_exit ?_
 refine aq_then_exit ?_
 refine aq_block_exit ?_
 exact aq_join l5i5 h (nm_ [] [] (by decide) ⟨rfl, rfl, rfl, trivial⟩)
def f_mix_Sum (fu : Nat) (a0 : (List UInt8)) : Option Int := (opt (f_mix_sum fu a0 (18446744073709551615 : Int)) fun (r2 : Int) => (some r2))
set_option maxRecDepth 100000 in
theorem f_mix_Sum_ok (fu : Nat) (a0 : (List UInt8)) {r : Int} (h : f_mix_Sum fu a0 = some r) : FnOk Tryz.prog 81 [(str a0)] [] [] (fun (i : Unit) => { val := (int .u64 r) }) := by
 unfold f_mix_Sum at h
 refine fn_enter Tryz.func81 rfl Tryz.ntmps81 rfl (fun w0 Z0 => ?_)
 refine aw_sr ?_
 refine an_ ?_
 refine sm_ ?_
 obtain ⟨r2, hc1, h⟩ := opt_some h
 refine al_call (vs := [(str a0), (uq (18446744073709551615 : Int))]) (f_mix_sum_ok fu a0 (18446744073709551615 : Int) hc1) [] [] [] pre_nil rfl (by simp) (by decide) (.inl rfl) rfl Tryz.func96 rfl rfl rfl (fun _ => ?_)
 refine an_ ?_
 refine aw_ret ?_
 cases h
 exact fr1_
 -- STUCK (encoding/binary.bigEndian).PutUint64: IndexError string index out of range at par:867
def f_mix_ID (fu : Nat) (a0 : (List UInt8)) : Option A8u8 := (opt (f_mix_Sum fu a0) fun (r4 : Int) => (req (0 ≤ r4 ∧ r4 < 18446744073709551616) (some (cpA8u8 zA8u8 (Lib.beBytes 8 (r4).toNat)))))
set_option maxRecDepth 100000 in
theorem f_mix_ID_ok (fu : Nat) (a0 : (List UInt8)) {r : A8u8} (h : f_mix_ID fu a0 = some r) : FnOk Tryz.prog 61 [(str a0)] [] [] (fun (i : Unit) => { val := (ag (cA8u8 r)) }) := by
 unfold f_mix_ID at h
 refine fn_enter Tryz.func61 rfl Tryz.ntmps61 rfl (fun w0 Z0 => ?_)
 refine aw_sr ?_
 refine al_alloc (zs := (cA8u8 zA8u8)) (zeroOf_to to29) rfl rfl (fun g1 => ?_)
 refine al_nt ?_
 refine aw_sr ?_
 refine al_alloc (zs := (cA8u8 zA8u8)) (zeroOf_to to29) rfl rfl (fun g2 => ?_)
 refine al_nt ?_
 refine aw_seq ?_
 obtain ⟨r4, hc3, h⟩ := opt_some h
 refine aw_region_draw 4 [(4, (fE (ag []))), (5, (fE (sbx g2 0 8))), (6, (fE (str a0))), (7, (fE (uq r4)))] (tab [(0, (str a0)), (2, (pq g1)), (3, (pq g2))]) mixed (by kernel_rfl) rfl rfl rfl (fun a hs => hs.tab _ (allT_mem ⟨rfl, rfl, rfl, trivial⟩)) ⟨⟨rfl, ld_val (ov_load0 Tryz.underlying105 sz105 rfl rfl rfl)⟩, ⟨rfl, ld_val (ov_sliceBox (i := 0) rfl rfl Tryz.underlying29 sz5 rfl)⟩, ⟨rfl, ld_val (ov_move rfl rfl)⟩, ⟨rfl, ld_eq (j := 2) rfl rfl (ld_callV (vs := [(str a0)]) (f_mix_Sum_ok fu a0 hc3) [] pre_nil rfl Tryz.func81 rfl rfl rfl)⟩, trivial⟩ ?_
 refine tl_eq 0 rfl ?_
 refine tl_eq 1 rfl ?_
 refine tl_eq 3 rfl ?_
 refine tl_done ?_
 obtain ⟨hc5, h⟩ := req_some h
 refine al_call (vs := [(ag []), (sbx g2 0 8), (uq r4)]) (f_put8_ok (g := g2) (off := 0) (t := 29) (a2 := r4) (cs := (cA8u8 zA8u8)) (cs' := (cA8u8 (cpA8u8 zA8u8 (Lib.beBytes 8 (r4).toNat)))) hc5 (Nat.le_of_ble_eq_true rfl) (cpcA8u8 zA8u8 (Lib.beBytes 8 (r4).toNat) [] [])) [] [0] [1] pre_nil rfl (by simp) (by decide) (.inl rfl) rfl Tryz.func80 rfl rfl rfl (fun _ => ?_)
 refine al_nt ?_
 refine aw_sr ?_
 refine al_val (ov_load (i := 0) (v := (ag (cA8u8 (cpA8u8 zA8u8 (Lib.beBytes 8 (r4).toNat))))) rfl rfl Tryz.underlying29 sz29 rfl rfl rfl rfl) ?_
 refine al_store (i := 1) (vs := (cA8u8 (cpA8u8 zA8u8 (Lib.beBytes 8 (r4).toNat)))) (cs' := (cA8u8 (cpA8u8 zA8u8 (Lib.beBytes 8 (r4).toNat)))) rfl rfl rfl sz29 (cv_rfl rfl) rfl (co_all (oneA8u8 (cpA8u8 zA8u8 (Lib.beBytes 8 (r4).toNat)))) (Nat.le_of_ble_eq_true rfl) rfl rfl ?_
 refine nr_ ?_
 cases h
 exact fn_ret () [] [] rfl rfl rfl rfl (resC rfl (resB (i := 1) rfl rfl Tryz.underlying29 sz29 rfl rfl rfl (resN)) rfl) rfl rfl rfl (by decide)
def f_pack_ID (fu : Nat) (a0 : S_api_Blob) : Option (A8u8 × Int) := (opt (f_pack_Known fu a0.Kind) fun (r4 : Bool) => (bif (!r4) then (some (zA8u8, (5 : Int))) else (bif (decide ((a0.Bytes.length : Int) > (4096 : Int))) then (some (zA8u8, (2 : Int))) else (req (0 ≤ (IntKind.u8.wrap a0.Kind) ∧ (IntKind.u8.wrap a0.Kind) ≤ 255) (req (([(UInt8.ofNat ((IntKind.u8.wrap a0.Kind)).toNat)]).length + a0.Bytes.length ≤ 9223372036854775807) (opt (f_mix_ID fu (([(UInt8.ofNat ((IntKind.u8.wrap a0.Kind)).toNat)]) ++ a0.Bytes)) fun (r11 : A8u8) => (some (r11, (0 : Int)))))))))
set_option maxHeartbeats 2000000 in
set_option maxRecDepth 100000 in
theorem f_pack_ID_ok (fu : Nat) (a0 : S_api_Blob) {r : (A8u8 × Int)} (h : f_pack_ID fu a0 = some r) : FnOk Tryz.prog 39 [(ag [(int .i64 a0.Kind), (str a0.Bytes)])] [] [] (fun (i : Unit) => { val := (Value.tuple #[(ag (cA8u8 r.1)), (int .i64 r.2)]) }) := by
 unfold f_pack_ID at h
 refine fn_enter Tryz.func39 rfl Tryz.ntmps39 rfl (fun w0 Z0 => ?_)
 refine aw_sr ?_
 refine al_box (vs := [(iq a0.Kind), (str a0.Bytes)]) rfl (cv_rfl rfl) rfl (fun g1 => ?_)
 refine al_alloc (zs := (cA8u8 zA8u8)) (zeroOf_to to29) rfl rfl (fun g2 => ?_)
 refine an_ ?_
 refine aw_seq ?_
 refine aw_block ?_
 refine aw_sr ?_
 refine al_val (ov_fieldA (p := 0) rfl Tryz.underlying37 rfl sz3 rfl rfl rfl) ?_
 refine al_val (ov_load (i := 1) (v := (iq a0.Kind)) rfl rfl Tryz.underlying3 sz3 rfl rfl rfl rfl) ?_
 obtain ⟨r4, hc3, h⟩ := opt_some h
 refine al_call (vs := [(iq a0.Kind)]) (f_pack_Known_ok fu a0.Kind hc3) [] [] [0, 1] pre_nil rfl (by simp) (by decide) (.inl rfl) rfl Tryz.func60 rfl rfl rfl (fun _ => ?_)
 refine al_val (ov_not rfl rfl) ?_
 refine an_ ?_
 refine aw_cond rfl (fun hb5 => ?_) (fun hb5 => ?_)
 replace h := bif_t hb5 h
 refine aw_sr ?_
 refine al_val (ov_build (cells := ((cA8u8 zA8u8) : List Value).toArray) (cs := (cA8u8 zA8u8)) rfl (fun w a hm hs => by simp only [List.map_toArray, List.map_cons, List.map_nil, List.toList_toArray]; kernel_rfl)) ?_
 refine al_store (i := 0) (vs := (cA8u8 zA8u8)) (cs' := (cA8u8 zA8u8)) rfl rfl rfl sz29 (cv_rfl rfl) rfl (co_all (oneA8u8 zA8u8)) (Nat.le_of_ble_eq_true rfl) rfl rfl ?_
 refine an_ ?_
 refine aw_ret ?_
 refine aq_block_ret ?_
 refine aq_then_ret ?_
 cases h
 exact fn_ret () [] [] rfl rfl rfl rfl (resC rfl (resB (i := 0) rfl rfl Tryz.underlying29 sz29 rfl rfl rfl (resT rfl (resN))) rfl) rfl rfl rfl (by decide)
 replace h := bif_f hb5 h
 refine aw_sr ?_
 refine al_val (ov_fieldA (p := 1) rfl Tryz.underlying37 rfl sz9 rfl rfl rfl) ?_
 refine al_val (ov_load (i := 1) (v := (str a0.Bytes)) rfl rfl Tryz.underlying9 sz9 rfl rfl rfl rfl) ?_
 refine al_val (ov_strLen Tryz.underlying9 rfl rfl) ?_
 refine in_ ?_
 refine an_ ?_
 refine aw_cond rfl (fun hb6 => ?_) (fun hb6 => ?_)
 replace h := bif_t hb6 h
 refine aw_sr ?_
 refine al_val (ov_build (cells := ((cA8u8 zA8u8) : List Value).toArray) (cs := (cA8u8 zA8u8)) rfl (fun w a hm hs => by simp only [List.map_toArray, List.map_cons, List.map_nil, List.toList_toArray]; kernel_rfl)) ?_
 refine al_store (i := 0) (vs := (cA8u8 zA8u8)) (cs' := (cA8u8 zA8u8)) rfl rfl rfl sz29 (cv_rfl rfl) rfl (co_all (oneA8u8 zA8u8)) (Nat.le_of_ble_eq_true rfl) rfl rfl ?_
 refine an_ ?_
 refine aw_ret ?_
 refine aq_block_ret ?_
 refine aq_then_ret ?_
 cases h
 exact fn_ret () [] [] rfl rfl rfl rfl (resC rfl (resB (i := 0) rfl rfl Tryz.underlying29 sz29 rfl rfl rfl (resT rfl (resN))) rfl) rfl rfl rfl (by decide)
 replace h := bif_f hb6 h
 refine aw_skip ?_
 refine aq_block ?_
 refine aq_tr ?_
 refine al_val (ov_fieldA (p := 0) rfl Tryz.underlying37 rfl sz3 rfl rfl rfl) ?_
 refine al_val (ov_load (i := 1) (v := (iq a0.Kind)) rfl rfl Tryz.underlying3 sz3 rfl rfl rfl rfl) ?_
 refine al_val (ov_convInt (by rw [Tryz.underlying3]; rfl) Tryz.underlying5 rfl rfl) ?_
 obtain ⟨hc8, h⟩ := req_some h
 refine al_buildSlice (τ := tyU8) (e := 5) (k := 1) (sz := 0) (by_ := 0) (z := undef) (cs := [(i8 (w8 a0.Kind))]) (xs := [(UInt8.ofNat ((w8 a0.Kind)).toNat)]) rfl (by decide) (fun w a hm hs => ⟨([(i8 (w8 a0.Kind))]).toArray, rfl, by simp only [List.map_toArray, List.map_cons, List.map_nil, hs.ev (x := .tmp 18) rfl]; exact run_bs [(i8 (w8 a0.Kind))] [(i8 (w8 a0.Kind))] Tryz.underlying84 to5 rfl rfl (bs_cons (l := [(i8 (w8 a0.Kind))]) (cs := []) (cv_rfl rfl) rfl bs_nil) hm⟩) (fun hm => ⟨_, _, rfl, (fun _ => u8_rep hc8) hm, rfl⟩) rfl (fun v7 => ?_)
 refine al_val (ov_toStrR 0 rfl rfl Tryz.underlying84 Tryz.underlying5 Tryz.underlying9 rfl) ?_
 refine al_val (ov_fieldA (p := 1) rfl Tryz.underlying37 rfl sz9 rfl rfl rfl) ?_
 refine al_val (ov_load (i := 2) (v := (str a0.Bytes)) rfl rfl Tryz.underlying9 sz9 rfl rfl rfl rfl) ?_
 obtain ⟨hc9, h⟩ := req_some h
 refine al_val (ov_strAdd hc9 rfl rfl rfl) ?_
 obtain ⟨r11, hc10, h⟩ := opt_some h
 refine al_call (vs := [(str (([(UInt8.ofNat ((w8 a0.Kind)).toNat)]) ++ a0.Bytes))]) (f_mix_ID_ok fu (([(UInt8.ofNat ((w8 a0.Kind)).toNat)]) ++ a0.Bytes) hc10) [] [] [0, 1, 2] pre_nil rfl (by simp) (by decide) (.inl rfl) rfl Tryz.func61 rfl rfl rfl (fun _ => ?_)
 refine al_store (i := 1) (vs := (cA8u8 r11)) (cs' := (cA8u8 r11)) rfl rfl rfl sz29 (cv_rfl rfl) rfl (co_all (oneA8u8 r11)) (Nat.le_of_ble_eq_true rfl) rfl rfl ?_
 refine an_ ?_
 refine aw_ret ?_
 cases h
 exact fn_ret () [] [] rfl rfl rfl rfl (resC rfl (resB (i := 1) rfl rfl Tryz.underlying29 sz29 rfl rfl rfl (resT rfl (resN))) rfl) rfl rfl rfl (by decide)
 -- STUCK (*lumberroom/walk.planter).put: lty ['pointer', 43]
def f_tree_formed (fu : Nat) (a0 : S_api_Node) : Option Bool := (bif (a0.Kind == (1 : Int)) then (some (a0.Link == ([] : List UInt8))) else (bif (a0.Kind == (2 : Int)) then (lt (fun (j4b2 : Bool) => (some j4b2)) fun (kk5 : Bool → Option Bool) => (bif ((a0.Parts.length : Int) == (1 : Int)) then (bif (a0.Size == (0 : Int)) then (kk5 (a0.Link == ([] : List UInt8))) else (kk5 false)) else (kk5 false))) else (lt (fun (j8b2 : Bool) => (some j8b2)) fun (kk9 : Bool → Option Bool) => (bif (!(a0.Link == ([] : List UInt8))) then (bif (a0.Size == (0 : Int)) then (kk9 ((a0.Parts.length : Int) == (0 : Int))) else (kk9 false)) else (kk9 false)))))
set_option maxHeartbeats 2000000 in
set_option maxRecDepth 100000 in
theorem f_tree_formed_ok (fu : Nat) (v0_5 : Value) (a0 : S_api_Node) {r : Bool} (h : f_tree_formed fu a0 = some r) : FnOk Tryz.prog 63 [(ag [(str a0.Name), (int .i64 a0.Kind), (int .i64 a0.Mode), (int .i64 a0.Time), (int .i64 a0.Size), v0_5, (str a0.Link)])] [(fDat (tyList tyA8u8) [v0_5] a0.Parts)] [] (fun (i : Unit) => { val := (bool r) }) := by
 unfold f_tree_formed at h
 refine fn_enter Tryz.func63 rfl Tryz.ntmps63 rfl (fun w0 Z0 => ?_)
 refine aw_sr ?_
 refine al_box (vs := [(str a0.Name), (iq a0.Kind), (iq a0.Mode), (iq a0.Time), (iq a0.Size), v0_5, (str a0.Link)]) rfl (cv_rfl rfl) rfl (fun g1 => ?_)
 refine an_ ?_
 refine aw_seq ?_
 refine aw_sr ?_
 refine al_val (ov_fieldA (p := 1) rfl Tryz.underlying64 rfl sz3 rfl rfl rfl) ?_
 refine al_val (ov_load (i := 0) (v := (iq a0.Kind)) rfl rfl Tryz.underlying3 sz3 rfl rfl rfl rfl) ?_
 refine al_nt ?_
 refine aw_block ?_
 refine aw_sr ?_
 refine in_ ?_
 refine an_ ?_
 refine aw_cond rfl (fun hb2 => ?_) (fun hb2 => ?_)
 replace h := bif_t hb2 h
 refine aw_sr ?_
 refine al_val (ov_fieldA (p := 6) rfl Tryz.underlying64 rfl sz9 rfl rfl rfl) ?_
 refine al_val (ov_load (i := 0) (v := (str a0.Link)) rfl rfl Tryz.underlying9 sz9 rfl rfl rfl rfl) ?_
 refine al_val (ov_strCmp rfl rfl rfl rfl) ?_
 refine an_ ?_
 refine aw_ret ?_
 refine aq_block_ret ?_
 refine aq_then_ret ?_
 cases h
 exact fr1_
 replace h := bif_f hb2 h
 refine aw_sr ?_
 refine in_ ?_
 refine an_ ?_
 refine aw_cond rfl (fun hb3 => ?_) (fun hb3 => ?_)
 replace h := bif_t hb3 h
 obtain ⟨kk5, hkk5, h⟩ := lt_some h
 refine aw_seq_join (ι := Bool) (fun i => (memOf w0 Z0 [] [] [(fDat (tyList tyA8u8) [v0_5] a0.Parts)])) (fun i => (tab [(2, (bool i))])) (fun i => kk5 i = some r) ?_ ?_
 rintro j4b2 h
 have h : kk5 j4b2 = some r := h
 rw [hkk5] at h
 dsimp only at h
 clear hkk5
 refine aw_show (m := (memOf w0 Z0 [] [] [(fDat (tyList tyA8u8) [v0_5] a0.Parts)])) (S := _) ?_
 refine aw_ret ?_
 refine aq_block_ret ?_
 refine aq_then_ret ?_
 cases h
 exact fr1_
 clear hkk5
 refine aw_region ?_
 refine al_val (ov_fieldA (p := 5) rfl Tryz.underlying64 rfl sz62 rfl rfl rfl) ?_
 refine al_val (ov_load (i := 0) (v := v0_5) rfl rfl Tryz.underlying62 sz62 rfl rfl rfl rfl) ?_
 refine al_val (ov_lenD 0 rfl rfl Tryz.underlying62 rfl) ?_
 refine in_ ?_
 refine mv_ ?_
 refine al_caseB 16 rfl (fun hb6 => ?_) (fun hb6 => ?_)
 replace h := bif_t hb6 h
 refine al_val (ov_fieldA (p := 4) rfl Tryz.underlying64 rfl sz3 rfl rfl rfl) ?_
 refine al_val (ov_load (i := 0) (v := (iq a0.Size)) rfl rfl Tryz.underlying3 sz3 rfl rfl rfl rfl) ?_
 refine in_ ?_
 refine al_val (ov_pick_t rfl rfl rfl) ?_
 refine mv_ ?_
 refine al_caseB 21 rfl (fun hb7 => ?_) (fun hb7 => ?_)
 replace h := bif_t hb7 h
 refine al_val (ov_fieldA (p := 6) rfl Tryz.underlying64 rfl sz9 rfl rfl rfl) ?_
 refine al_val (ov_load (i := 0) (v := (str a0.Link)) rfl rfl Tryz.underlying9 sz9 rfl rfl rfl rfl) ?_
 refine al_val (ov_strCmp rfl rfl rfl rfl) ?_
 refine al_val (ov_pick_t rfl rfl rfl) ?_
 refine as_ ?_
 refine al_nil ?_
 exact aq_join (a0.Link == ([] : List UInt8)) h (nm_ [] [0] (by decide) ⟨rfl, trivial⟩)
 replace h := bif_f hb7 h
 iterate 3 refine al_skip ?_
 refine al_val (ov_pick_f rfl rfl rfl) ?_
 refine as_ ?_
 refine al_nil ?_
 exact aq_join false h (nm_ [] [0] (by decide) ⟨rfl, trivial⟩)
 replace h := bif_f hb6 h
 iterate 3 refine al_skip ?_
 refine al_val (ov_pick_f rfl rfl rfl) ?_
 refine mv_ ?_
 iterate 3 refine al_skip ?_
 refine al_val (ov_pick_f rfl rfl rfl) ?_
 refine as_ ?_
 refine al_nil ?_
 exact aq_join false h (nm_ [] [0] (by decide) ⟨rfl, trivial⟩)
 replace h := bif_f hb3 h
 refine aw_skip ?_
 refine aq_block ?_
 refine aq_then ?_
 obtain ⟨kk9, hkk9, h⟩ := lt_some h
 refine aw_seq_join (ι := Bool) (fun i => (memOf w0 Z0 [] [] [(fDat (tyList tyA8u8) [v0_5] a0.Parts)])) (fun i => (tab [(2, (bool i))])) (fun i => kk9 i = some r) ?_ ?_
 rintro j8b2 h
 have h : kk9 j8b2 = some r := h
 rw [hkk9] at h
 dsimp only at h
 clear hkk9
 refine aw_show (m := (memOf w0 Z0 [] [] [(fDat (tyList tyA8u8) [v0_5] a0.Parts)])) (S := _) ?_
 refine aw_ret ?_
 cases h
 exact fr1_
 clear hkk9
 refine aw_region ?_
 refine al_val (ov_fieldA (p := 6) rfl Tryz.underlying64 rfl sz9 rfl rfl rfl) ?_
 refine al_val (ov_load (i := 0) (v := (str a0.Link)) rfl rfl Tryz.underlying9 sz9 rfl rfl rfl rfl) ?_
 refine al_val (ov_strCmp rfl rfl rfl rfl) ?_
 refine mv_ ?_
 refine al_caseB 29 rfl (fun hb10 => ?_) (fun hb10 => ?_)
 replace h := bif_t hb10 h
 refine al_val (ov_fieldA (p := 4) rfl Tryz.underlying64 rfl sz3 rfl rfl rfl) ?_
 refine al_val (ov_load (i := 0) (v := (iq a0.Size)) rfl rfl Tryz.underlying3 sz3 rfl rfl rfl rfl) ?_
 refine in_ ?_
 refine al_val (ov_pick_t rfl rfl rfl) ?_
 refine mv_ ?_
 refine al_caseB 34 rfl (fun hb11 => ?_) (fun hb11 => ?_)
 replace h := bif_t hb11 h
 refine al_val (ov_fieldA (p := 5) rfl Tryz.underlying64 rfl sz62 rfl rfl rfl) ?_
 refine al_val (ov_load (i := 0) (v := v0_5) rfl rfl Tryz.underlying62 sz62 rfl rfl rfl rfl) ?_
 refine al_val (ov_lenD 0 rfl rfl Tryz.underlying62 rfl) ?_
 refine in_ ?_
 refine al_val (ov_pick_t rfl rfl rfl) ?_
 refine as_ ?_
 refine al_nil ?_
 exact aq_join ((a0.Parts.length : Int) == (0 : Int)) h (nm_ [] [0] (by decide) ⟨rfl, trivial⟩)
 replace h := bif_f hb11 h
 iterate 4 refine al_skip ?_
 refine al_val (ov_pick_f rfl rfl rfl) ?_
 refine as_ ?_
 refine al_nil ?_
 exact aq_join false h (nm_ [] [0] (by decide) ⟨rfl, trivial⟩)
 replace h := bif_f hb10 h
 iterate 3 refine al_skip ?_
 refine al_val (ov_pick_f rfl rfl rfl) ?_
 refine mv_ ?_
 iterate 4 refine al_skip ?_
 refine al_val (ov_pick_f rfl rfl rfl) ?_
 refine as_ ?_
 refine al_nil ?_
 exact aq_join false h (nm_ [] [0] (by decide) ⟨rfl, trivial⟩)
def f_tree_Check_L6 (a0 : (List S_api_Node)) (kk3 : (Unit → Option Int)) (fu : Nat) : Nat → Int → Option Int
  | 0, _ => none
  | k5 + 1, l4i11 => (bif (decide (l4i11 < (a0.length : Int))) then (opt (at? a0 l4i11) fun (u8 : S_api_Node) => (opt (f_names_Check fu u8.Name) fun (r15 : Int) => (bif (r15 != (0 : Int)) then (some r15) else (lt (fun (j17b22 : Bool) => (bif j17b22 then (some (1 : Int)) else (opt (f_tree_Known fu u8.Kind) fun (r21 : Bool) => (bif (!r21) then (some (5 : Int)) else (opt (f_tree_formed fu u8) fun (r24 : Bool) => (bif (!r24) then (some (4 : Int)) else (bif (decide ((u8.Link.length : Int) > (1024 : Int))) then (some (2 : Int)) else (lt (fun (j27b61 : Bool) => (bif j27b61 then (some (4 : Int)) else (f_tree_Check_L6 a0 kk3 fu k5 (IntKind.i64.wrap (l4i11 + (1 : Int)))))) fun (kk28 : Bool → Option Int) => (bif (decide (l4i11 > (0 : Int))) then (opt (at? a0 (IntKind.i64.wrap (l4i11 - (1 : Int)))) fun (u31 : S_api_Node) => (kk28 (Op.bytesLess u8.Name u31.Name || u8.Name == u31.Name))) else (kk28 false)))))))))) fun (kk18 : Bool → Option Int) => (bif (decide (u8.Mode < (0 : Int))) then (kk18 true) else (bif (decide (u8.Mode > (511 : Int))) then (kk18 true) else (bif (decide (u8.Size < (0 : Int))) then (kk18 true) else (bif (decide (u8.Size > (4096 : Int))) then (kk18 true) else (kk18 (decide ((u8.Parts.length : Int) > (300 : Int)))))))))))) else (kk3 ()))
def f_tree_Check (fu : Nat) (a0 : (List S_api_Node)) : Option Int := (bif (decide ((a0.length : Int) > (64 : Int))) then (some (2 : Int)) else (lt (fun (_ : Unit) => (some (0 : Int))) fun (kk3 : Unit → Option Int) => (f_tree_Check_L6 a0 kk3 fu fu (0 : Int))))
abbrev mm5 (w0 : World) (Z0 : Nat → Prop) (a0 : (List S_api_Node)) (g13 : Nat) (p10 : Value) (s11 : Value) (u8 : S_api_Node) (v0_0 : Value) : Mem := memOf w0 Z0 [] [(oBox g13 64 [(str u8.Name), (int .i64 u8.Kind), (int .i64 u8.Mode), (int .i64 u8.Time), (int .i64 u8.Size), s11, (str u8.Link)])] [(fDat (tyList tyS_api_Node) [v0_0] a0), (fDat (tyList tyA8u8) [s11] u8.Parts), (fDat tyS_api_Node [(str u8.Name), (int .i64 u8.Kind), (int .i64 u8.Mode), (int .i64 u8.Time), (int .i64 u8.Size), s11, (str u8.Link)] u8), (fPtr tyS_api_Node p10 u8), uTabs]
abbrev mm6 (w0 : World) (Z0 : Nat → Prop) (a0 : (List S_api_Node)) (p10 : Value) (s11 : Value) (u8 : S_api_Node) (v0_0 : Value) : Mem := memOf w0 Z0 [] [] [(fDat (tyList tyS_api_Node) [v0_0] a0), (fDat (tyList tyA8u8) [s11] u8.Parts), (fDat tyS_api_Node [(str u8.Name), (int .i64 u8.Kind), (int .i64 u8.Mode), (int .i64 u8.Time), (int .i64 u8.Size), s11, (str u8.Link)] u8), (fPtr tyS_api_Node p10 u8), uTabs]
end Go.Proofs.YtiioclkiapbjnaaGreatDoor
