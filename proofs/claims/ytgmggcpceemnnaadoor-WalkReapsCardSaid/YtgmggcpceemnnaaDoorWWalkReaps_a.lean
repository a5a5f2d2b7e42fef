/- Walks by program. No condition. -/
import Derived.Test.YtgmggcpceemnnaaDoorEn21
import Derived.Test.YtgmggcpceemnnaaDoorChecked
import Derived.Test.YtgmggcpceemnnaaDoorShBEPut
import Derived.Test.YtgmggcpceemnnaaDoorEn23
import Derived.Test.YtgmggcpceemnnaaDoorEnU
import Derived.Test.YtgmggcpceemnnaaDoorEn25
import Derived.Test.YtgmggcpceemnnaaDoorShRepeat
import Derived.Test.YtgmggcpceemnnaaDoorEnJ
namespace Go.Proofs.YtgmggcpceemnnaaDoor
open Go.RowKit YtgmggcpceemnnaaDoor.En
set_option linter.unusedVariables false
set_option linter.unusedSimpArgs false
open Go.Value (int bool)
structure A8u8 where
  e0 : UInt8
  e1 : UInt8
  e2 : UInt8
  e3 : UInt8
  e4 : UInt8
  e5 : UInt8
  e6 : UInt8
  e7 : UInt8
  deriving DecidableEq
def tyA8u8 : Ty A8u8 := tyVia (fun x => (x.e0, (x.e1, (x.e2, (x.e3, (x.e4, (x.e5, (x.e6, x.e7)))))))) (tyPair tyU8 (tyPair tyU8 (tyPair tyU8 (tyPair tyU8 (tyPair tyU8 (tyPair tyU8 (tyPair tyU8 tyU8)))))))
theorem subA8u8_0 : Sub tyA8u8 0 tyU8 (fun x => x.e0) := Sub.via (Sub.fst (Sub.whole _))
theorem subA8u8_1 : Sub tyA8u8 1 tyU8 (fun x => x.e1) := Sub.via (Sub.snd (Sub.fst (Sub.whole _)))
theorem subA8u8_2 : Sub tyA8u8 2 tyU8 (fun x => x.e2) := Sub.via (Sub.snd (Sub.snd (Sub.fst (Sub.whole _))))
theorem subA8u8_3 : Sub tyA8u8 3 tyU8 (fun x => x.e3) := Sub.via (Sub.snd (Sub.snd (Sub.snd (Sub.fst (Sub.whole _)))))
theorem subA8u8_4 : Sub tyA8u8 4 tyU8 (fun x => x.e4) := Sub.via (Sub.snd (Sub.snd (Sub.snd (Sub.snd (Sub.fst (Sub.whole _))))))
theorem subA8u8_5 : Sub tyA8u8 5 tyU8 (fun x => x.e5) := Sub.via (Sub.snd (Sub.snd (Sub.snd (Sub.snd (Sub.snd (Sub.fst (Sub.whole _)))))))
theorem subA8u8_6 : Sub tyA8u8 6 tyU8 (fun x => x.e6) := Sub.via (Sub.snd (Sub.snd (Sub.snd (Sub.snd (Sub.snd (Sub.snd (Sub.fst (Sub.whole _))))))))
theorem subA8u8_7 : Sub tyA8u8 7 tyU8 (fun x => x.e7) := Sub.via (Sub.snd (Sub.snd (Sub.snd (Sub.snd (Sub.snd (Sub.snd (Sub.snd (Sub.whole _))))))))
def cA8u8 (x : A8u8) : List Value := [(int .u8 (x.e0.toNat : Int)), (int .u8 (x.e1.toNat : Int)), (int .u8 (x.e2.toNat : Int)), (int .u8 (x.e3.toNat : Int)), (int .u8 (x.e4.toNat : Int)), (int .u8 (x.e5.toNat : Int)), (int .u8 (x.e6.toNat : Int)), (int .u8 (x.e7.toNat : Int))]
def lA8u8 (x : A8u8) : List UInt8 := [x.e0, x.e1, x.e2, x.e3, x.e4, x.e5, x.e6, x.e7]
def vA8u8 (y : UInt8) : Value := (int .u8 (y.toNat : Int))
def setA8u8 (x : A8u8) (j : Int) (y : UInt8) : A8u8 := ⟨if j = 0 then y else x.e0, if j = 1 then y else x.e1, if j = 2 then y else x.e2, if j = 3 then y else x.e3, if j = 4 then y else x.e4, if j = 5 then y else x.e5, if j = 6 then y else x.e6, if j = 7 then y else x.e7⟩
theorem oneA8u8 (x : A8u8) : ∀ u ∈ cA8u8 x, u.oneCell' = true := ones_map (enc := vA8u8) (xs := lA8u8 x) (fun _ => rfl)
theorem lenA8u8 (x : A8u8) : (lA8u8 x).length = 8 := rfl
theorem lsetA8u8 {x : A8u8} {j : Int} {y : UInt8} (h0 : 0 ≤ j) (h1 : j < 8) : lA8u8 (setA8u8 x j y) = (lA8u8 x).set j.toNat y := by
  obtain ⟨q, rfl⟩ : ∃ q : Nat, j = q := ⟨j.toNat, by omega⟩
  match q, h1 with
  | 0, _ => rfl
  | 1, _ => rfl
  | 2, _ => rfl
  | 3, _ => rfl
  | 4, _ => rfl
  | 5, _ => rfl
  | 6, _ => rfl
  | 7, _ => rfl
  | n + 8, h => omega
theorem csetA8u8 {x : A8u8} {j : Int} {y : UInt8} (h0 : 0 ≤ j) (h1 : j < 8) (pre post : List Value) : pre ++ (cA8u8 (setA8u8 x j y) ++ post) = (pre ++ (cA8u8 x ++ post)).set (pre.length + j.toNat) (vA8u8 y) := by
  have h : cA8u8 (setA8u8 x j y) = (cA8u8 x).set j.toNat (vA8u8 y) := by
    have e : ∀ z : A8u8, cA8u8 z = (lA8u8 z).map vA8u8 := fun _ => rfl
    rw [e, e, lsetA8u8 h0 h1, List.map_set]
  rw [h, List.set_append_right _ _ (by omega), Nat.add_sub_cancel_left, List.set_append_left _ _ (by show j.toNat < 8; omega)]
theorem flatA8u8 : FlatTy tyA8u8 := flat_via (flat_pair flat_enc (flat_pair flat_enc (flat_pair flat_enc (flat_pair flat_enc (flat_pair flat_enc (flat_pair flat_enc (flat_pair flat_enc flat_enc)))))))
theorem encA8u8 {Z w cs} {x : A8u8} (h : tyA8u8.rep Z w cs x) : cs = (cA8u8 x) := by
  obtain ⟨c0, d0, rfl, p0, q0⟩ := h
  obtain ⟨c1, d1, rfl, p1, q1⟩ := q0
  obtain ⟨c2, d2, rfl, p2, q2⟩ := q1
  obtain ⟨c3, d3, rfl, p3, q3⟩ := q2
  obtain ⟨c4, d4, rfl, p4, q4⟩ := q3
  obtain ⟨c5, d5, rfl, p5, q5⟩ := q4
  obtain ⟨c6, d6, rfl, p6, q6⟩ := q5
  rw [show _ = _ from p0]
  rw [show _ = _ from p1]
  rw [show _ = _ from p2]
  rw [show _ = _ from p3]
  rw [show _ = _ from p4]
  rw [show _ = _ from p5]
  rw [show _ = _ from p6]
  rw [show _ = _ from q6]
  rfl
theorem mkA8u8 {Z w cs} {x : A8u8} (h : cs = (cA8u8 x)) : tyA8u8.rep Z w cs x := by
  subst h
  exact ⟨_, _, (List.take_append_drop 1 _).symm, rfl, ⟨_, _, (List.take_append_drop 1 _).symm, rfl, ⟨_, _, (List.take_append_drop 1 _).symm, rfl, ⟨_, _, (List.take_append_drop 1 _).symm, rfl, ⟨_, _, (List.take_append_drop 1 _).symm, rfl, ⟨_, _, (List.take_append_drop 1 _).symm, rfl, ⟨_, _, (List.take_append_drop 1 _).symm, rfl, rfl⟩⟩⟩⟩⟩⟩⟩
theorem lrepA8u8 {Z w cs} {x : A8u8} (h : tyA8u8.rep Z w cs x) : RepL tyU8 Z w cs (lA8u8 x) := by
  rw [encA8u8 h]
  exact ⟨[_], _, rfl, rfl, ⟨[_], _, rfl, rfl, ⟨[_], _, rfl, rfl, ⟨[_], _, rfl, rfl, ⟨[_], _, rfl, rfl, ⟨[_], _, rfl, rfl, ⟨[_], _, rfl, rfl, ⟨[_], _, rfl, rfl, rfl⟩⟩⟩⟩⟩⟩⟩⟩
structure S_api_Blob where
  Kind : Int
  Bytes : (List UInt8)
  deriving DecidableEq
def tyS_api_Blob : Ty S_api_Blob := tyVia (fun x => (x.Kind, x.Bytes)) (tyPair (tyInt .i64) tyStr)
theorem subS_api_Blob_0 : Sub tyS_api_Blob 0 (tyInt .i64) (fun x => x.Kind) := Sub.via (Sub.fst (Sub.whole _))
theorem subS_api_Blob_1 : Sub tyS_api_Blob 1 tyStr (fun x => x.Bytes) := Sub.via (Sub.snd (Sub.whole _))
theorem flatS_api_Blob : FlatTy tyS_api_Blob := flat_via (flat_pair flat_enc flat_enc)
theorem encS_api_Blob {Z w cs} {x : S_api_Blob} (h : tyS_api_Blob.rep Z w cs x) : cs = [(int .i64 x.Kind), (str x.Bytes)] := by
  obtain ⟨c0, d0, rfl, p0, q0⟩ := h
  rw [show _ = _ from p0]
  rw [show _ = _ from q0]
  rfl
theorem mkS_api_Blob {Z w cs} {x : S_api_Blob} (h : cs = [(int .i64 x.Kind), (str x.Bytes)]) : tyS_api_Blob.rep Z w cs x := by
  subst h
  exact ⟨_, _, (List.take_append_drop 1 _).symm, rfl, rfl⟩
structure S_api_Node where
  Name : (List UInt8)
  Kind : Int
  Mode : Int
  Time : Int
  Size : Int
  Parts : (List A8u8)
  Link : (List UInt8)
  deriving DecidableEq
def tyS_api_Node : Ty S_api_Node := tyVia (fun x => (x.Name, (x.Kind, (x.Mode, (x.Time, (x.Size, (x.Parts, x.Link))))))) (tyPair tyStr (tyPair (tyInt .i64) (tyPair (tyInt .i64) (tyPair (tyInt .i64) (tyPair (tyInt .i64) (tyPair (tyList tyA8u8) tyStr))))))
theorem subS_api_Node_0 : Sub tyS_api_Node 0 tyStr (fun x => x.Name) := Sub.via (Sub.fst (Sub.whole _))
theorem subS_api_Node_1 : Sub tyS_api_Node 1 (tyInt .i64) (fun x => x.Kind) := Sub.via (Sub.snd (Sub.fst (Sub.whole _)))
theorem subS_api_Node_2 : Sub tyS_api_Node 2 (tyInt .i64) (fun x => x.Mode) := Sub.via (Sub.snd (Sub.snd (Sub.fst (Sub.whole _))))
theorem subS_api_Node_3 : Sub tyS_api_Node 3 (tyInt .i64) (fun x => x.Time) := Sub.via (Sub.snd (Sub.snd (Sub.snd (Sub.fst (Sub.whole _)))))
theorem subS_api_Node_4 : Sub tyS_api_Node 4 (tyInt .i64) (fun x => x.Size) := Sub.via (Sub.snd (Sub.snd (Sub.snd (Sub.snd (Sub.fst (Sub.whole _))))))
theorem subS_api_Node_5 : Sub tyS_api_Node 5 (tyList tyA8u8) (fun x => x.Parts) := Sub.via (Sub.snd (Sub.snd (Sub.snd (Sub.snd (Sub.snd (Sub.fst (Sub.whole _)))))))
theorem subS_api_Node_6 : Sub tyS_api_Node 6 tyStr (fun x => x.Link) := Sub.via (Sub.snd (Sub.snd (Sub.snd (Sub.snd (Sub.snd (Sub.snd (Sub.whole _)))))))
theorem encnS_api_Node {cs} {x : S_api_Node} : ∀ Z w, (fDat tyS_api_Node cs x).p Z w → ∃ j : Value, cs = [(str x.Name), (int .i64 x.Kind), (int .i64 x.Mode), (int .i64 x.Time), (int .i64 x.Size), j, (str x.Link)] ∧ ∀ g ∈ [(fDat (tyList tyA8u8) [j] x.Parts)], g.p Z w := by
  intro Z w h
  obtain ⟨c0, d0, rfl, p0, q0⟩ := h
  obtain ⟨c1, d1, rfl, p1, q1⟩ := q0
  obtain ⟨c2, d2, rfl, p2, q2⟩ := q1
  obtain ⟨c3, d3, rfl, p3, q3⟩ := q2
  obtain ⟨c4, d4, rfl, p4, q4⟩ := q3
  obtain ⟨c5, d5, rfl, p5, q5⟩ := q4
  obtain rfl : c0 = [(str x.Name)] := p0
  obtain rfl : c1 = [(int .i64 x.Kind)] := p1
  obtain rfl : c2 = [(int .i64 x.Mode)] := p2
  obtain rfl : c3 = [(int .i64 x.Time)] := p3
  obtain rfl : c4 = [(int .i64 x.Size)] := p4
  obtain ⟨v5, rfl⟩ := one_of p5
  obtain rfl : d5 = [(str x.Link)] := q5
  exact ⟨v5, rfl, (fall_cons p5 fall_nil)⟩
theorem mknS_api_Node {Z w cs} {x : S_api_Node} {v0 : Value} (hc : cs = [(str x.Name), (int .i64 x.Kind), (int .i64 x.Mode), (int .i64 x.Time), (int .i64 x.Size), v0, (str x.Link)]) (h0 : (tyList tyA8u8).rep Z w [v0] x.Parts) : tyS_api_Node.rep Z w cs x := by
  subst hc
  exact ⟨_, _, (List.take_append_drop 1 _).symm, rfl, ⟨_, _, (List.take_append_drop 1 _).symm, rfl, ⟨_, _, (List.take_append_drop 1 _).symm, rfl, ⟨_, _, (List.take_append_drop 1 _).symm, rfl, ⟨_, _, (List.take_append_drop 1 _).symm, rfl, ⟨_, _, (List.take_append_drop 1 _).symm, h0, rfl⟩⟩⟩⟩⟩⟩
structure S_tree_reader where
  s : (List UInt8)
  e : Int
  deriving DecidableEq
def tyS_tree_reader : Ty S_tree_reader := tyVia (fun x => (x.s, x.e)) (tyPair tyStr (tyInt .i64))
theorem subS_tree_reader_0 : Sub tyS_tree_reader 0 tyStr (fun x => x.s) := Sub.via (Sub.fst (Sub.whole _))
theorem subS_tree_reader_1 : Sub tyS_tree_reader 1 (tyInt .i64) (fun x => x.e) := Sub.via (Sub.snd (Sub.whole _))
theorem flatS_tree_reader : FlatTy tyS_tree_reader := flat_via (flat_pair flat_enc flat_enc)
theorem encS_tree_reader {Z w cs} {x : S_tree_reader} (h : tyS_tree_reader.rep Z w cs x) : cs = [(str x.s), (int .i64 x.e)] := by
  obtain ⟨c0, d0, rfl, p0, q0⟩ := h
  rw [show _ = _ from p0]
  rw [show _ = _ from q0]
  rfl
theorem mkS_tree_reader {Z w cs} {x : S_tree_reader} (h : cs = [(str x.s), (int .i64 x.e)]) : tyS_tree_reader.rep Z w cs x := by
  subst h
  exact ⟨_, _, (List.take_append_drop 1 _).symm, rfl, rfl⟩
structure S_api_Item where
  Path : (List UInt8)
  Kind : Int
  Mode : Int
  Time : Int
  Bytes : (List UInt8)
  deriving DecidableEq
def tyS_api_Item : Ty S_api_Item := tyVia (fun x => (x.Path, (x.Kind, (x.Mode, (x.Time, x.Bytes))))) (tyPair tyStr (tyPair (tyInt .i64) (tyPair (tyInt .i64) (tyPair (tyInt .i64) tyStr))))
theorem subS_api_Item_0 : Sub tyS_api_Item 0 tyStr (fun x => x.Path) := Sub.via (Sub.fst (Sub.whole _))
theorem subS_api_Item_1 : Sub tyS_api_Item 1 (tyInt .i64) (fun x => x.Kind) := Sub.via (Sub.snd (Sub.fst (Sub.whole _)))
theorem subS_api_Item_2 : Sub tyS_api_Item 2 (tyInt .i64) (fun x => x.Mode) := Sub.via (Sub.snd (Sub.snd (Sub.fst (Sub.whole _))))
theorem subS_api_Item_3 : Sub tyS_api_Item 3 (tyInt .i64) (fun x => x.Time) := Sub.via (Sub.snd (Sub.snd (Sub.snd (Sub.fst (Sub.whole _)))))
theorem subS_api_Item_4 : Sub tyS_api_Item 4 tyStr (fun x => x.Bytes) := Sub.via (Sub.snd (Sub.snd (Sub.snd (Sub.snd (Sub.whole _)))))
theorem flatS_api_Item : FlatTy tyS_api_Item := flat_via (flat_pair flat_enc (flat_pair flat_enc (flat_pair flat_enc (flat_pair flat_enc flat_enc))))
theorem encS_api_Item {Z w cs} {x : S_api_Item} (h : tyS_api_Item.rep Z w cs x) : cs = [(str x.Path), (int .i64 x.Kind), (int .i64 x.Mode), (int .i64 x.Time), (str x.Bytes)] := by
  obtain ⟨c0, d0, rfl, p0, q0⟩ := h
  obtain ⟨c1, d1, rfl, p1, q1⟩ := q0
  obtain ⟨c2, d2, rfl, p2, q2⟩ := q1
  obtain ⟨c3, d3, rfl, p3, q3⟩ := q2
  rw [show _ = _ from p0]
  rw [show _ = _ from p1]
  rw [show _ = _ from p2]
  rw [show _ = _ from p3]
  rw [show _ = _ from q3]
  rfl
theorem mkS_api_Item {Z w cs} {x : S_api_Item} (h : cs = [(str x.Path), (int .i64 x.Kind), (int .i64 x.Mode), (int .i64 x.Time), (str x.Bytes)]) : tyS_api_Item.rep Z w cs x := by
  subst h
  exact ⟨_, _, (List.take_append_drop 1 _).symm, rfl, ⟨_, _, (List.take_append_drop 1 _).symm, rfl, ⟨_, _, (List.take_append_drop 1 _).symm, rfl, ⟨_, _, (List.take_append_drop 1 _).symm, rfl, rfl⟩⟩⟩⟩
structure D_walk_reaper where
  blobs : (List (A8u8 × S_api_Blob))
  out : (List S_api_Item)
def ofA8u8 (l : List UInt8) : A8u8 := match l.take 8 with | [e0, e1, e2, e3, e4, e5, e6, e7] => ⟨e0, e1, e2, e3, e4, e5, e6, e7⟩ | _ => ⟨0, 0, 0, 0, 0, 0, 0, 0⟩
theorem oflA8u8 {l : List UInt8} (hl : 8 ≤ l.length) {Z w cs} (hr : RepL tyU8 Z w cs (l.take 8)) : tyA8u8.rep Z w cs (ofA8u8 l) := by
  unfold ofA8u8
  have h8 : (l.take 8).length = 8 := by rw [List.length_take]; omega
  generalize l.take 8 = m at hr h8
  match m, h8, hr with
  | [e0, e1, e2, e3, e4, e5, e6, e7], _, hr => exact mkA8u8 (by rw [u8_cells hr]; rfl)
theorem coftA8u8 (l : List UInt8) (hl : l.length = 8) : cA8u8 (ofA8u8 l) = Lib.byteCells l := by
  match l, hl with
  | [e0, e1, e2, e3, e4, e5, e6, e7], _ => rfl
def cpA8u8 (x : A8u8) (l : List UInt8) : A8u8 := ofA8u8 (l.take 8 ++ (lA8u8 x).drop (l.take 8).length)
theorem ccpA8u8 (x : A8u8) (l : List UInt8) : cA8u8 (cpA8u8 x l) = Lib.byteCells (l.take 8) ++ (cA8u8 x).drop (l.take 8).length := by
  have h1 : (l.take 8).length ≤ 8 := by rw [List.length_take]; omega
  unfold cpA8u8
  rw [coftA8u8 _ (by rw [List.length_append, List.length_drop, lenA8u8]; omega)]
  unfold Lib.byteCells
  rw [List.map_append, List.map_drop]
  rfl
theorem cpcA8u8 (x : A8u8) (l : List UInt8) (pre post : List Value) : (pre ++ (cA8u8 x ++ post)).take pre.length ++ Lib.byteCells (l.take 8) ++ (pre ++ (cA8u8 x ++ post)).drop (pre.length + (l.take 8).length) = pre ++ (cA8u8 (cpA8u8 x l) ++ post) := by
  have h1 : (l.take 8).length ≤ (cA8u8 x).length := by rw [List.length_take]; exact Nat.min_le_left _ _
  rw [ccpA8u8, List.take_left, List.drop_append, List.drop_of_length_le (by omega), Nat.add_sub_cancel_left, List.drop_append_of_le_length h1]
  simp
theorem sz3 : szOf Tryd.prog 3 = some 1 := by kernel_rfl
theorem to3 : tyOf Tryd.prog 3 = some (1, 8, some (int .i64 (0 : Int))) := by kernel_rfl
theorem sz5 : szOf Tryd.prog 5 = some 1 := by kernel_rfl
theorem to5 : tyOf Tryd.prog 5 = some (1, 1, some (int .u8 (0 : Int))) := by kernel_rfl
theorem sz9 : szOf Tryd.prog 9 = some 1 := by kernel_rfl
theorem to9 : tyOf Tryd.prog 9 = some (1, 16, some (str ([] : List UInt8))) := by kernel_rfl
theorem sz23 : szOf Tryd.prog 23 = some 1 := by kernel_rfl
theorem to23 : tyOf Tryd.prog 23 = some (1, 8, some (int .i64 (0 : Int))) := by kernel_rfl
theorem sz27 : szOf Tryd.prog 27 = some 1 := by kernel_rfl
theorem to27 : tyOf Tryd.prog 27 = some (1, 24, some (Value.slice none 0 0)) := by kernel_rfl
theorem sz34 : szOf Tryd.prog 34 = some 2 := by kernel_rfl
theorem to34 : tyOf Tryd.prog 34 = some (2, 24, some (ag [(int .i64 (0 : Int)), (str ([] : List UInt8))])) := by kernel_rfl
theorem sz36 : szOf Tryd.prog 36 = some 1 := by kernel_rfl
theorem to36 : tyOf Tryd.prog 36 = some (1, 24, some (Value.slice none 0 0)) := by kernel_rfl
theorem sz42 : szOf Tryd.prog 42 = some 5 := by kernel_rfl
theorem to42 : tyOf Tryd.prog 42 = some (5, 56, some (ag [(str ([] : List UInt8)), (int .i64 (0 : Int)), (int .i64 (0 : Int)), (int .i64 (0 : Int)), (str ([] : List UInt8))])) := by kernel_rfl
theorem sz46 : szOf Tryd.prog 46 = some 8 := by kernel_rfl
theorem to46 : tyOf Tryd.prog 46 = some (8, 8, some (ag [(int .u8 (0 : Int)), (int .u8 (0 : Int)), (int .u8 (0 : Int)), (int .u8 (0 : Int)), (int .u8 (0 : Int)), (int .u8 (0 : Int)), (int .u8 (0 : Int)), (int .u8 (0 : Int))])) := by kernel_rfl
theorem sz47 : szOf Tryd.prog 47 = some 8 := by kernel_rfl
theorem to47 : tyOf Tryd.prog 47 = some (8, 8, some (ag [(int .u8 (0 : Int)), (int .u8 (0 : Int)), (int .u8 (0 : Int)), (int .u8 (0 : Int)), (int .u8 (0 : Int)), (int .u8 (0 : Int)), (int .u8 (0 : Int)), (int .u8 (0 : Int))])) := by kernel_rfl
theorem sz76 : szOf Tryd.prog 76 = some 1 := by kernel_rfl
theorem to76 : tyOf Tryd.prog 76 = some (1, 8, some (Value.map none)) := by kernel_rfl
theorem sz168 : szOf Tryd.prog 168 = some 7 := by kernel_rfl
theorem to168 : tyOf Tryd.prog 168 = some (7, 88, some (ag [(str ([] : List UInt8)), (int .i64 (0 : Int)), (int .i64 (0 : Int)), (int .i64 (0 : Int)), (int .i64 (0 : Int)), (Value.slice none 0 0), (str ([] : List UInt8))])) := by kernel_rfl
theorem sz207 : szOf Tryd.prog 207 = some 0 := by kernel_rfl
theorem to207 : tyOf Tryd.prog 207 = some (0, 0, some (ag [])) := by kernel_rfl
theorem sz300 : szOf Tryd.prog 300 = some 0 := by kernel_rfl
theorem to300 : tyOf Tryd.prog 300 = some (0, 0, some (ag [])) := by kernel_rfl
theorem mixed : Tryd.prog.follows .mixedOrders = true := by kernel_rfl
theorem eg34 : Tryd.prog.eqGuardType Tryd.prog.depth 34 = false := by kernel_rfl
theorem kt34 : Tryd.prog.keyTypeAt 20 34 = true := by kernel_rfl
theorem lv34 : leaves Tryd.prog 20 34 = some [3, 9] := by kernel_rfl
theorem injS_api_Blob {x y : S_api_Blob} : (x == y) = true ↔ [(int .i64 x.Kind), (str x.Bytes)] = [(int .i64 y.Kind), (str y.Bytes)] := by
  rw [beq_iff_eq]
  constructor
  · rintro rfl; rfl
  · intro h
    obtain ⟨⟩ := x
    obtain ⟨⟩ := y
    simp only [S_api_Blob.mk.injEq, str, List.cons_append, List.nil_append, List.cons.injEq, Value.int.injEq, Value.bool.injEq, Value.string.injEq, ByteArray.mk.injEq, Array.mk.injEq, Int.natCast_inj, UInt8.toNat_inj, true_and, and_true] at h ⊢
    first | exact h | simpa [and_assoc] using h
theorem eg42 : Tryd.prog.eqGuardType Tryd.prog.depth 42 = false := by kernel_rfl
theorem kt42 : Tryd.prog.keyTypeAt 20 42 = true := by kernel_rfl
theorem lv42 : leaves Tryd.prog 20 42 = some [9, 3, 3, 3, 9] := by kernel_rfl
theorem injS_api_Item {x y : S_api_Item} : (x == y) = true ↔ [(str x.Path), (int .i64 x.Kind), (int .i64 x.Mode), (int .i64 x.Time), (str x.Bytes)] = [(str y.Path), (int .i64 y.Kind), (int .i64 y.Mode), (int .i64 y.Time), (str y.Bytes)] := by
  rw [beq_iff_eq]
  constructor
  · rintro rfl; rfl
  · intro h
    obtain ⟨⟩ := x
    obtain ⟨⟩ := y
    simp only [S_api_Item.mk.injEq, str, List.cons_append, List.nil_append, List.cons.injEq, Value.int.injEq, Value.bool.injEq, Value.string.injEq, ByteArray.mk.injEq, Array.mk.injEq, Int.natCast_inj, UInt8.toNat_inj, true_and, and_true] at h ⊢
    first | exact h | simpa [and_assoc] using h
theorem eg47 : Tryd.prog.eqGuardType Tryd.prog.depth 47 = false := by kernel_rfl
theorem kt47 : Tryd.prog.keyTypeAt 20 47 = true := by kernel_rfl
theorem lv47 : leaves Tryd.prog 20 47 = some [5, 5, 5, 5, 5, 5, 5, 5] := by kernel_rfl
theorem injA8u8 {x y : A8u8} : (x == y) = true ↔ (cA8u8 x) = (cA8u8 y) := by
  rw [beq_iff_eq]
  constructor
  · rintro rfl; rfl
  · intro h
    obtain ⟨⟩ := x
    obtain ⟨⟩ := y
    simp only [A8u8.mk.injEq, cA8u8, str, List.cons_append, List.nil_append, List.cons.injEq, Value.int.injEq, Value.bool.injEq, Value.string.injEq, ByteArray.mk.injEq, Array.mk.injEq, Int.natCast_inj, UInt8.toNat_inj, true_and, and_true] at h ⊢
    first | exact h | simpa [and_assoc] using h
theorem kd47 : Go.Maps.Keyed Tryd.prog 47 := Go.Maps.Keyed.of_law (Go.deep_law_laid (by kernel_rfl) (m := 20) (by decide) (Nat.le_of_ble_eq_true (by kernel_rfl)) (by kernel_rfl) (by kernel_rfl))
theorem kw47 (x : A8u8) : ∃ t, keyOf Tryd.prog 47 (ag (cA8u8 x)) = some t := key_wide (ls := [5, 5, 5, 5, 5, 5, 5, 5]) (by kernel_rfl) (by kernel_rfl) (by kernel_rfl) (by kernel_rfl) (fit_cons (fit_u8 Tryd.underlying5) (fit_cons (fit_u8 Tryd.underlying5) (fit_cons (fit_u8 Tryd.underlying5) (fit_cons (fit_u8 Tryd.underlying5) (fit_cons (fit_u8 Tryd.underlying5) (fit_cons (fit_u8 Tryd.underlying5) (fit_cons (fit_u8 Tryd.underlying5) (fit_cons (fit_u8 Tryd.underlying5) fit_nil))))))))
theorem ki47 (a b : A8u8) (h : (fun x : A8u8 => ag (cA8u8 x)) a = (fun x : A8u8 => ag (cA8u8 x)) b) : a = b := eq_of_beq (injA8u8.2 (ag_inj h))
def okS_api_Blob (x : S_api_Blob) : Prop := ((Lit.int .i64 x.Kind).wf = true) ∧ (x.Bytes.length ≤ 9223372036854775807)
set_option maxRecDepth 100000 in
theorem opnS_api_Blob {H : Type} : Opn H Tryd.prog 34 tyS_api_Blob okS_api_Blob := opn_struct (fun x => (x.Kind, x.Bytes)) (fun y => S_api_Blob.mk y.1 y.2) (fun _ => rfl) Tryd.underlying34 sz34 (fields_cons sz3 (opn_int Tryd.underlying3) (fields_one sz9 (opn_str Tryd.underlying9)))
def okA8u8 (x : A8u8) : Prop := (True) ∧ (True) ∧ (True) ∧ (True) ∧ (True) ∧ (True) ∧ (True) ∧ (True)
set_option maxRecDepth 100000 in
theorem opnA8u8 {H : Type} : Opn H Tryd.prog 47 tyA8u8 okA8u8 := opn_array (fun x => (x.e0, (x.e1, (x.e2, (x.e3, (x.e4, (x.e5, (x.e6, x.e7)))))))) (fun y => A8u8.mk y.1 y.2.1 y.2.2.1 y.2.2.2.1 y.2.2.2.2.1 y.2.2.2.2.2.1 y.2.2.2.2.2.2.1 y.2.2.2.2.2.2.2) (fun _ => rfl) Tryd.underlying47 sz47 (fields_cons sz5 (opn_u8 Tryd.underlying5) (fields_cons sz5 (opn_u8 Tryd.underlying5) (fields_cons sz5 (opn_u8 Tryd.underlying5) (fields_cons sz5 (opn_u8 Tryd.underlying5) (fields_cons sz5 (opn_u8 Tryd.underlying5) (fields_cons sz5 (opn_u8 Tryd.underlying5) (fields_cons sz5 (opn_u8 Tryd.underlying5) (fields_one sz5 (opn_u8 Tryd.underlying5)))))))))
theorem f_put8_ok {g off t : Nat} {a2 : Int} {cs cs' : List Value} (hc : 0 ≤ a2 ∧ a2 < 18446744073709551616) (hfit : off + 8 ≤ cs.length) (hcs : cs.take off ++ Lib.byteCells ((Lib.beBytes 8 a2.toNat).take 8) ++ cs.drop (off + ((Lib.beBytes 8 a2.toNat).take 8).length) = cs') :
    FnOk Tryd.prog 135 [(ag []), (sbx g off 8), (int .u64 a2)] [] [oBox g t cs] (fun _ : Unit => { val := .tuple #[], own := [oBox g t cs'] }) := by
  obtain ⟨n, rfl⟩ : ∃ n : Nat, a2 = n := ⟨a2.toNat, by omega⟩
  have hl : (Lib.beBytes 8 n).length = 8 := Lib.beBytes_length 8 n
  have hcs' : cs.take off ++ Lib.byteCells (Lib.beBytes 8 n) ++ cs.drop (off + 8) = cs' := by
    have e : (Lib.beBytes 8 ((n : Int).toNat)).take 8 = Lib.beBytes 8 n := by rw [Int.toNat_natCast, List.take_of_length_le (by omega)]
    rw [e, hl] at hcs; exact hcs
  exact fnok_put8 hl hfit hcs' (fun x0 x1 x2 x3 x4 x5 x6 x7 w c0 c1 c2 c3 c4 c5 c6 c7 f0 f1 f2 f3 f4 f5 f6 f7 => Tryd.binary_BE_PutUint64 g off 8 8 n (by omega) x0 x1 x2 x3 x4 x5 x6 x7 w (by omega) c0 c1 c2 c3 c4 c5 c6 c7 f0 f1 f2 f3 f4 f5 f6 f7)
def f_pack_Known (fu : Nat) (a0 : Int) : Option Bool := (lt (fun (j1b2 : Bool) => (some j1b2)) fun (kk2 : Bool → Option Bool) => (bif (decide (a0 ≥ (1 : Int))) then (kk2 (decide (a0 ≤ (3 : Int)))) else (kk2 false)))
set_option maxRecDepth 100000 in
theorem f_pack_Known_ok (fu : Nat) (a0 : Int) {r : Bool} (h : f_pack_Known fu a0 = some r) : FnOk Tryd.prog 76 [(int .i64 a0)] [] [] (fun (i : Unit) => { val := (bool r) }) := by
 unfold f_pack_Known at h
 refine fn_enter Tryd.func76 rfl Tryd.ntmps76 rfl (fun w0 Z0 => ?_)
 refine aw_sr ?_
 refine al_as rfl rfl ?_
 refine al_nt ?_
 obtain ⟨kk2, hkk2, h⟩ := lt_some h
 refine aw_seq_join (ι := Bool) (fun i => (memOf w0 Z0 [] [] [])) (fun i => (tab [(2, (bool i))])) (fun i => kk2 i = some r) ?_ ?_
 ·rintro j1b2 h
  have h : kk2 j1b2 = some r := h
  rw [hkk2] at h
  dsimp only at h
  clear hkk2
  refine aw_show (m := (memOf w0 Z0 [] [] [])) (S := (tab [(2, (bool j1b2))])) ?_
  refine aw_ret ?_
  obtain rfl := Option.some.inj h
  exact fn_ret () [] [] rfl rfl rfl rfl (res1 rfl rfl) rfl rfl rfl (by decide)
 ·clear hkk2
  refine aw_region ?_
  refine al_mv rfl rfl ?_
  refine al_in rfl rfl rfl rfl ?_
  refine al_mv rfl rfl ?_
  refine al_caseB 5 rfl (fun hb3 => ?_) (fun hb3 => ?_)
  ·replace h := bif_t hb3 h
   refine al_mv rfl rfl ?_
   refine al_in rfl rfl rfl rfl ?_
   refine al_val (ov_pick_t rfl rfl rfl) ?_
   refine al_as rfl rfl ?_
   refine al_nil ?_
   exact aq_join (decide (a0 ≤ (3 : Int))) h (fun w a hm hs => norm hm hs [] [] [(2, (bool (decide (a0 ≤ (3 : Int)))))] (by decide) ⟨rfl, trivial⟩)
  ·replace h := bif_f hb3 h
   refine al_skip ?_
   refine al_skip ?_
   refine al_val (ov_pick_f rfl rfl rfl) ?_
   refine al_as rfl rfl ?_
   refine al_nil ?_
   exact aq_join false h (fun w a hm hs => norm hm hs [] [] [(2, (bool false))] (by decide) ⟨rfl, trivial⟩)
def f__binary_littleEndian__Uint64 (fu : Nat) (a0 : Unit) (a1 : (List UInt8)) : Option Int := (opt (at? a1 (7 : Int)) fun (u2 : UInt8) => (opt (at? a1 (0 : Int)) fun (u5 : UInt8) => (opt (at? a1 (1 : Int)) fun (u8 : UInt8) => (opt (at? a1 (2 : Int)) fun (u11 : UInt8) => (opt (at? a1 (3 : Int)) fun (u14 : UInt8) => (opt (at? a1 (4 : Int)) fun (u17 : UInt8) => (opt (at? a1 (5 : Int)) fun (u20 : UInt8) => (opt (at? a1 (6 : Int)) fun (u23 : UInt8) => (opt (at? a1 (7 : Int)) fun (u26 : UInt8) => (some (bits .or .u64 (bits .or .u64 (bits .or .u64 (bits .or .u64 (bits .or .u64 (bits .or .u64 (bits .or .u64 (IntKind.u64.wrap (u5.toNat : Int)) (IntKind.u64.wrap ((IntKind.u64.wrap (u8.toNat : Int)) * 2 ^ min ((8 : Int)).toNat (IntKind.bits .u64)))) (IntKind.u64.wrap ((IntKind.u64.wrap (u11.toNat : Int)) * 2 ^ min ((16 : Int)).toNat (IntKind.bits .u64)))) (IntKind.u64.wrap ((IntKind.u64.wrap (u14.toNat : Int)) * 2 ^ min ((24 : Int)).toNat (IntKind.bits .u64)))) (IntKind.u64.wrap ((IntKind.u64.wrap (u17.toNat : Int)) * 2 ^ min ((32 : Int)).toNat (IntKind.bits .u64)))) (IntKind.u64.wrap ((IntKind.u64.wrap (u20.toNat : Int)) * 2 ^ min ((40 : Int)).toNat (IntKind.bits .u64)))) (IntKind.u64.wrap ((IntKind.u64.wrap (u23.toNat : Int)) * 2 ^ min ((48 : Int)).toNat (IntKind.bits .u64)))) (IntKind.u64.wrap ((IntKind.u64.wrap (u26.toNat : Int)) * 2 ^ min ((56 : Int)).toNat (IntKind.bits .u64))))))))))))))
set_option maxRecDepth 100000 in
theorem f__binary_littleEndian__Uint64_ok (fu : Nat) (a0 : Unit) (v1_0 : Value) (a1 : (List UInt8)) {r : Int} (h : f__binary_littleEndian__Uint64 fu a0 a1 = some r) : FnOk Tryd.prog 220 [(ag []), v1_0] [(fDat (tyList tyU8) [v1_0] a1)] [] (fun (i : Unit) => { val := (int .u64 r) }) := by
 unfold f__binary_littleEndian__Uint64 at h
 refine fn_enter Tryd.func220 rfl Tryd.ntmps220 rfl (fun w0 Z0 => ?_)
 refine aw_sr ?_
 refine al_box (vs := []) rfl (cv_rfl rfl) rfl (fun g1 => ?_)
 refine al_as rfl rfl ?_
 refine al_nt ?_
 refine aw_sr ?_
 refine al_mv rfl rfl ?_
 obtain ⟨u2, hu3, h⟩ := opt_some h
 refine al_idxD 0 hu3 rfl rfl rfl Tryd.underlying113 sz5 rfl (fun p4 => ?_)
 refine al_val (ov_loadP (ds := [(int .u8 (u2.toNat : Int))]) 0 rfl (fun h => h) rfl Tryd.underlying5 sz5 rfl rfl rfl) ?_
 refine al_nt ?_
 refine aw_seq ?_
 obtain ⟨u5, hu6, h⟩ := opt_some h
 obtain ⟨u8, hu9, h⟩ := opt_some h
 obtain ⟨u11, hu12, h⟩ := opt_some h
 obtain ⟨u14, hu15, h⟩ := opt_some h
 obtain ⟨u17, hu18, h⟩ := opt_some h
 obtain ⟨u20, hu21, h⟩ := opt_some h
 obtain ⟨u23, hu24, h⟩ := opt_some h
 obtain ⟨u26, hu27, h⟩ := opt_some h
 refine aw_region_draw 46 [(8, (fun u => fEq u v1_0)), (9, (fun p7 => (fPtr tyU8 p7 u5))), (10, (fun u => fEq u (int .u8 (u5.toNat : Int)))), (11, (fun u => fEq u (int .u64 (IntKind.u64.wrap (u5.toNat : Int))))), (12, (fun u => fEq u v1_0)), (13, (fun p10 => (fPtr tyU8 p10 u8))), (14, (fun u => fEq u (int .u8 (u8.toNat : Int)))), (15, (fun u => fEq u (int .u64 (IntKind.u64.wrap (u8.toNat : Int))))), (16, (fun u => fEq u (int .u64 (IntKind.u64.wrap ((IntKind.u64.wrap (u8.toNat : Int)) * 2 ^ min ((8 : Int)).toNat (IntKind.bits .u64)))))), (17, (fun u => fEq u (int .u64 (bits .or .u64 (IntKind.u64.wrap (u5.toNat : Int)) (IntKind.u64.wrap ((IntKind.u64.wrap (u8.toNat : Int)) * 2 ^ min ((8 : Int)).toNat (IntKind.bits .u64))))))), (18, (fun u => fEq u v1_0)), (19, (fun p13 => (fPtr tyU8 p13 u11))), (20, (fun u => fEq u (int .u8 (u11.toNat : Int)))), (21, (fun u => fEq u (int .u64 (IntKind.u64.wrap (u11.toNat : Int))))), (22, (fun u => fEq u (int .u64 (IntKind.u64.wrap ((IntKind.u64.wrap (u11.toNat : Int)) * 2 ^ min ((16 : Int)).toNat (IntKind.bits .u64)))))), (23, (fun u => fEq u (int .u64 (bits .or .u64 (bits .or .u64 (IntKind.u64.wrap (u5.toNat : Int)) (IntKind.u64.wrap ((IntKind.u64.wrap (u8.toNat : Int)) * 2 ^ min ((8 : Int)).toNat (IntKind.bits .u64)))) (IntKind.u64.wrap ((IntKind.u64.wrap (u11.toNat : Int)) * 2 ^ min ((16 : Int)).toNat (IntKind.bits .u64))))))), (24, (fun u => fEq u v1_0)), (25, (fun p16 => (fPtr tyU8 p16 u14))), (26, (fun u => fEq u (int .u8 (u14.toNat : Int)))), (27, (fun u => fEq u (int .u64 (IntKind.u64.wrap (u14.toNat : Int))))), (28, (fun u => fEq u (int .u64 (IntKind.u64.wrap ((IntKind.u64.wrap (u14.toNat : Int)) * 2 ^ min ((24 : Int)).toNat (IntKind.bits .u64)))))), (29, (fun u => fEq u (int .u64 (bits .or .u64 (bits .or .u64 (bits .or .u64 (IntKind.u64.wrap (u5.toNat : Int)) (IntKind.u64.wrap ((IntKind.u64.wrap (u8.toNat : Int)) * 2 ^ min ((8 : Int)).toNat (IntKind.bits .u64)))) (IntKind.u64.wrap ((IntKind.u64.wrap (u11.toNat : Int)) * 2 ^ min ((16 : Int)).toNat (IntKind.bits .u64)))) (IntKind.u64.wrap ((IntKind.u64.wrap (u14.toNat : Int)) * 2 ^ min ((24 : Int)).toNat (IntKind.bits .u64))))))), (30, (fun u => fEq u v1_0)), (31, (fun p19 => (fPtr tyU8 p19 u17))), (32, (fun u => fEq u (int .u8 (u17.toNat : Int)))), (33, (fun u => fEq u (int .u64 (IntKind.u64.wrap (u17.toNat : Int))))), (34, (fun u => fEq u (int .u64 (IntKind.u64.wrap ((IntKind.u64.wrap (u17.toNat : Int)) * 2 ^ min ((32 : Int)).toNat (IntKind.bits .u64)))))), (35, (fun u => fEq u (int .u64 (bits .or .u64 (bits .or .u64 (bits .or .u64 (bits .or .u64 (IntKind.u64.wrap (u5.toNat : Int)) (IntKind.u64.wrap ((IntKind.u64.wrap (u8.toNat : Int)) * 2 ^ min ((8 : Int)).toNat (IntKind.bits .u64)))) (IntKind.u64.wrap ((IntKind.u64.wrap (u11.toNat : Int)) * 2 ^ min ((16 : Int)).toNat (IntKind.bits .u64)))) (IntKind.u64.wrap ((IntKind.u64.wrap (u14.toNat : Int)) * 2 ^ min ((24 : Int)).toNat (IntKind.bits .u64)))) (IntKind.u64.wrap ((IntKind.u64.wrap (u17.toNat : Int)) * 2 ^ min ((32 : Int)).toNat (IntKind.bits .u64))))))), (36, (fun u => fEq u v1_0)), (37, (fun p22 => (fPtr tyU8 p22 u20))), (38, (fun u => fEq u (int .u8 (u20.toNat : Int)))), (39, (fun u => fEq u (int .u64 (IntKind.u64.wrap (u20.toNat : Int))))), (40, (fun u => fEq u (int .u64 (IntKind.u64.wrap ((IntKind.u64.wrap (u20.toNat : Int)) * 2 ^ min ((40 : Int)).toNat (IntKind.bits .u64)))))), (41, (fun u => fEq u (int .u64 (bits .or .u64 (bits .or .u64 (bits .or .u64 (bits .or .u64 (bits .or .u64 (IntKind.u64.wrap (u5.toNat : Int)) (IntKind.u64.wrap ((IntKind.u64.wrap (u8.toNat : Int)) * 2 ^ min ((8 : Int)).toNat (IntKind.bits .u64)))) (IntKind.u64.wrap ((IntKind.u64.wrap (u11.toNat : Int)) * 2 ^ min ((16 : Int)).toNat (IntKind.bits .u64)))) (IntKind.u64.wrap ((IntKind.u64.wrap (u14.toNat : Int)) * 2 ^ min ((24 : Int)).toNat (IntKind.bits .u64)))) (IntKind.u64.wrap ((IntKind.u64.wrap (u17.toNat : Int)) * 2 ^ min ((32 : Int)).toNat (IntKind.bits .u64)))) (IntKind.u64.wrap ((IntKind.u64.wrap (u20.toNat : Int)) * 2 ^ min ((40 : Int)).toNat (IntKind.bits .u64))))))), (42, (fun u => fEq u v1_0)), (43, (fun p25 => (fPtr tyU8 p25 u23))), (44, (fun u => fEq u (int .u8 (u23.toNat : Int)))), (45, (fun u => fEq u (int .u64 (IntKind.u64.wrap (u23.toNat : Int))))), (46, (fun u => fEq u (int .u64 (IntKind.u64.wrap ((IntKind.u64.wrap (u23.toNat : Int)) * 2 ^ min ((48 : Int)).toNat (IntKind.bits .u64)))))), (47, (fun u => fEq u (int .u64 (bits .or .u64 (bits .or .u64 (bits .or .u64 (bits .or .u64 (bits .or .u64 (bits .or .u64 (IntKind.u64.wrap (u5.toNat : Int)) (IntKind.u64.wrap ((IntKind.u64.wrap (u8.toNat : Int)) * 2 ^ min ((8 : Int)).toNat (IntKind.bits .u64)))) (IntKind.u64.wrap ((IntKind.u64.wrap (u11.toNat : Int)) * 2 ^ min ((16 : Int)).toNat (IntKind.bits .u64)))) (IntKind.u64.wrap ((IntKind.u64.wrap (u14.toNat : Int)) * 2 ^ min ((24 : Int)).toNat (IntKind.bits .u64)))) (IntKind.u64.wrap ((IntKind.u64.wrap (u17.toNat : Int)) * 2 ^ min ((32 : Int)).toNat (IntKind.bits .u64)))) (IntKind.u64.wrap ((IntKind.u64.wrap (u20.toNat : Int)) * 2 ^ min ((40 : Int)).toNat (IntKind.bits .u64)))) (IntKind.u64.wrap ((IntKind.u64.wrap (u23.toNat : Int)) * 2 ^ min ((48 : Int)).toNat (IntKind.bits .u64))))))), (48, (fun u => fEq u v1_0)), (49, (fun p28 => (fPtr tyU8 p28 u26))), (50, (fun u => fEq u (int .u8 (u26.toNat : Int)))), (51, (fun u => fEq u (int .u64 (IntKind.u64.wrap (u26.toNat : Int))))), (52, (fun u => fEq u (int .u64 (IntKind.u64.wrap ((IntKind.u64.wrap (u26.toNat : Int)) * 2 ^ min ((56 : Int)).toNat (IntKind.bits .u64)))))), (53, (fun u => fEq u (int .u64 (bits .or .u64 (bits .or .u64 (bits .or .u64 (bits .or .u64 (bits .or .u64 (bits .or .u64 (bits .or .u64 (IntKind.u64.wrap (u5.toNat : Int)) (IntKind.u64.wrap ((IntKind.u64.wrap (u8.toNat : Int)) * 2 ^ min ((8 : Int)).toNat (IntKind.bits .u64)))) (IntKind.u64.wrap ((IntKind.u64.wrap (u11.toNat : Int)) * 2 ^ min ((16 : Int)).toNat (IntKind.bits .u64)))) (IntKind.u64.wrap ((IntKind.u64.wrap (u14.toNat : Int)) * 2 ^ min ((24 : Int)).toNat (IntKind.bits .u64)))) (IntKind.u64.wrap ((IntKind.u64.wrap (u17.toNat : Int)) * 2 ^ min ((32 : Int)).toNat (IntKind.bits .u64)))) (IntKind.u64.wrap ((IntKind.u64.wrap (u20.toNat : Int)) * 2 ^ min ((40 : Int)).toNat (IntKind.bits .u64)))) (IntKind.u64.wrap ((IntKind.u64.wrap (u23.toNat : Int)) * 2 ^ min ((48 : Int)).toNat (IntKind.bits .u64)))) (IntKind.u64.wrap ((IntKind.u64.wrap (u26.toNat : Int)) * 2 ^ min ((56 : Int)).toNat (IntKind.bits .u64)))))))] (tab [(1, v1_0), (4, (int .u64 (0 : Int)))]) mixed (by kernel_rfl) rfl rfl rfl (fun a hs => hs.tab _ (allT_mem ⟨rfl, rfl, trivial⟩)) ⟨⟨rfl, ld_val (ov_move rfl rfl)⟩, ⟨rfl, ld_eq (j := 0) rfl rfl (ld_of (of_idxD 1 hu6 rfl rfl rfl Tryd.underlying113 sz5 rfl))⟩, ⟨rfl, ld_fact (j := 1) rfl rfl (fun p7 => ld_val (ov_loadP (ds := [(int .u8 (u5.toNat : Int))]) 0 rfl (fun h => h) rfl Tryd.underlying5 sz5 rfl rfl rfl))⟩, ⟨rfl, ld_eq (j := 2) rfl rfl (ld_val (ov_convInt (by rw [Tryd.underlying5]; rfl) Tryd.underlying115 rfl rfl))⟩, ⟨rfl, ld_val (ov_move rfl rfl)⟩, ⟨rfl, ld_eq (j := 4) rfl rfl (ld_of (of_idxD 1 hu9 rfl rfl rfl Tryd.underlying113 sz5 rfl))⟩, ⟨rfl, ld_fact (j := 5) rfl rfl (fun p10 => ld_val (ov_loadP (ds := [(int .u8 (u8.toNat : Int))]) 0 rfl (fun h => h) rfl Tryd.underlying5 sz5 rfl rfl rfl))⟩, ⟨rfl, ld_eq (j := 6) rfl rfl (ld_val (ov_convInt (by rw [Tryd.underlying5]; rfl) Tryd.underlying115 rfl rfl))⟩, ⟨rfl, ld_eq (j := 7) rfl rfl (ld_val (ov_shl (by decide) rfl rfl rfl))⟩, ⟨rfl, ld_eq (j := 3) rfl rfl (ld_eq (j := 8) rfl rfl (ld_val (ov_int rfl rfl rfl rfl)))⟩, ⟨rfl, ld_val (ov_move rfl rfl)⟩, ⟨rfl, ld_eq (j := 10) rfl rfl (ld_of (of_idxD 1 hu12 rfl rfl rfl Tryd.underlying113 sz5 rfl))⟩, ⟨rfl, ld_fact (j := 11) rfl rfl (fun p13 => ld_val (ov_loadP (ds := [(int .u8 (u11.toNat : Int))]) 0 rfl (fun h => h) rfl Tryd.underlying5 sz5 rfl rfl rfl))⟩, ⟨rfl, ld_eq (j := 12) rfl rfl (ld_val (ov_convInt (by rw [Tryd.underlying5]; rfl) Tryd.underlying115 rfl rfl))⟩, ⟨rfl, ld_eq (j := 13) rfl rfl (ld_val (ov_shl (by decide) rfl rfl rfl))⟩, ⟨rfl, ld_eq (j := 9) rfl rfl (ld_eq (j := 14) rfl rfl (ld_val (ov_int rfl rfl rfl rfl)))⟩, ⟨rfl, ld_val (ov_move rfl rfl)⟩, ⟨rfl, ld_eq (j := 16) rfl rfl (ld_of (of_idxD 1 hu15 rfl rfl rfl Tryd.underlying113 sz5 rfl))⟩, ⟨rfl, ld_fact (j := 17) rfl rfl (fun p16 => ld_val (ov_loadP (ds := [(int .u8 (u14.toNat : Int))]) 0 rfl (fun h => h) rfl Tryd.underlying5 sz5 rfl rfl rfl))⟩, ⟨rfl, ld_eq (j := 18) rfl rfl (ld_val (ov_convInt (by rw [Tryd.underlying5]; rfl) Tryd.underlying115 rfl rfl))⟩, ⟨rfl, ld_eq (j := 19) rfl rfl (ld_val (ov_shl (by decide) rfl rfl rfl))⟩, ⟨rfl, ld_eq (j := 15) rfl rfl (ld_eq (j := 20) rfl rfl (ld_val (ov_int rfl rfl rfl rfl)))⟩, ⟨rfl, ld_val (ov_move rfl rfl)⟩, ⟨rfl, ld_eq (j := 22) rfl rfl (ld_of (of_idxD 1 hu18 rfl rfl rfl Tryd.underlying113 sz5 rfl))⟩, ⟨rfl, ld_fact (j := 23) rfl rfl (fun p19 => ld_val (ov_loadP (ds := [(int .u8 (u17.toNat : Int))]) 0 rfl (fun h => h) rfl Tryd.underlying5 sz5 rfl rfl rfl))⟩, ⟨rfl, ld_eq (j := 24) rfl rfl (ld_val (ov_convInt (by rw [Tryd.underlying5]; rfl) Tryd.underlying115 rfl rfl))⟩, ⟨rfl, ld_eq (j := 25) rfl rfl (ld_val (ov_shl (by decide) rfl rfl rfl))⟩, ⟨rfl, ld_eq (j := 21) rfl rfl (ld_eq (j := 26) rfl rfl (ld_val (ov_int rfl rfl rfl rfl)))⟩, ⟨rfl, ld_val (ov_move rfl rfl)⟩, ⟨rfl, ld_eq (j := 28) rfl rfl (ld_of (of_idxD 1 hu21 rfl rfl rfl Tryd.underlying113 sz5 rfl))⟩, ⟨rfl, ld_fact (j := 29) rfl rfl (fun p22 => ld_val (ov_loadP (ds := [(int .u8 (u20.toNat : Int))]) 0 rfl (fun h => h) rfl Tryd.underlying5 sz5 rfl rfl rfl))⟩, ⟨rfl, ld_eq (j := 30) rfl rfl (ld_val (ov_convInt (by rw [Tryd.underlying5]; rfl) Tryd.underlying115 rfl rfl))⟩, ⟨rfl, ld_eq (j := 31) rfl rfl (ld_val (ov_shl (by decide) rfl rfl rfl))⟩, ⟨rfl, ld_eq (j := 27) rfl rfl (ld_eq (j := 32) rfl rfl (ld_val (ov_int rfl rfl rfl rfl)))⟩, ⟨rfl, ld_val (ov_move rfl rfl)⟩, ⟨rfl, ld_eq (j := 34) rfl rfl (ld_of (of_idxD 1 hu24 rfl rfl rfl Tryd.underlying113 sz5 rfl))⟩, ⟨rfl, ld_fact (j := 35) rfl rfl (fun p25 => ld_val (ov_loadP (ds := [(int .u8 (u23.toNat : Int))]) 0 rfl (fun h => h) rfl Tryd.underlying5 sz5 rfl rfl rfl))⟩, ⟨rfl, ld_eq (j := 36) rfl rfl (ld_val (ov_convInt (by rw [Tryd.underlying5]; rfl) Tryd.underlying115 rfl rfl))⟩, ⟨rfl, ld_eq (j := 37) rfl rfl (ld_val (ov_shl (by decide) rfl rfl rfl))⟩, ⟨rfl, ld_eq (j := 33) rfl rfl (ld_eq (j := 38) rfl rfl (ld_val (ov_int rfl rfl rfl rfl)))⟩, ⟨rfl, ld_val (ov_move rfl rfl)⟩, ⟨rfl, ld_eq (j := 40) rfl rfl (ld_of (of_idxD 1 hu27 rfl rfl rfl Tryd.underlying113 sz5 rfl))⟩, ⟨rfl, ld_fact (j := 41) rfl rfl (fun p28 => ld_val (ov_loadP (ds := [(int .u8 (u26.toNat : Int))]) 0 rfl (fun h => h) rfl Tryd.underlying5 sz5 rfl rfl rfl))⟩, ⟨rfl, ld_eq (j := 42) rfl rfl (ld_val (ov_convInt (by rw [Tryd.underlying5]; rfl) Tryd.underlying115 rfl rfl))⟩, ⟨rfl, ld_eq (j := 43) rfl rfl (ld_val (ov_shl (by decide) rfl rfl rfl))⟩, ⟨rfl, ld_eq (j := 39) rfl rfl (ld_eq (j := 44) rfl rfl (ld_val (ov_int rfl rfl rfl rfl)))⟩, trivial⟩ ?_
 refine tl_eq 45 rfl ?_
 refine tl_done ?_
 refine al_as rfl rfl ?_
 refine al_nt ?_
 refine aw_ret ?_
 obtain rfl := Option.some.inj h
 exact fn_ret () [] [] rfl rfl rfl rfl (res1 rfl rfl) rfl rfl rfl (by decide)
def f_mix_Step (fu : Nat) (a0 : Int) (a1 : Int) : Option Int := (some (bits .xor .u64 (IntKind.u64.wrap ((bits .xor .u64 (IntKind.u64.wrap ((bits .xor .u64 a0 a1) * (11400714819323198485 : Int))) (((IntKind.u64.wrap ((bits .xor .u64 a0 a1) * (11400714819323198485 : Int)))).fdiv (2 ^ min ((29 : Int)).toNat (IntKind.bits .u64)))) * (13787848793156543929 : Int))) (((IntKind.u64.wrap ((bits .xor .u64 (IntKind.u64.wrap ((bits .xor .u64 a0 a1) * (11400714819323198485 : Int))) (((IntKind.u64.wrap ((bits .xor .u64 a0 a1) * (11400714819323198485 : Int)))).fdiv (2 ^ min ((29 : Int)).toNat (IntKind.bits .u64)))) * (13787848793156543929 : Int)))).fdiv (2 ^ min ((32 : Int)).toNat (IntKind.bits .u64)))))
set_option maxRecDepth 100000 in
theorem f_mix_Step_ok (fu : Nat) (a0 : Int) (a1 : Int) {r : Int} (h : f_mix_Step fu a0 a1 = some r) : FnOk Tryd.prog 219 [(int .u64 a0), (int .u64 a1)] [] [] (fun (i : Unit) => { val := (int .u64 r) }) := by
 unfold f_mix_Step at h
 refine fn_enter Tryd.func219 rfl Tryd.ntmps219 rfl (fun w0 Z0 => ?_)
 refine aw_sr ?_
 refine al_as rfl rfl ?_
 refine al_nt ?_
 refine aw_sr ?_
 refine al_mv rfl rfl ?_
 refine al_mv rfl rfl ?_
 refine al_in rfl rfl rfl rfl ?_
 refine al_in rfl rfl rfl rfl ?_
 refine al_as rfl rfl ?_
 refine al_nt ?_
 refine aw_sr ?_
 refine al_mv rfl rfl ?_
 refine al_mv rfl rfl ?_
 refine al_val (ov_shr (by decide) rfl rfl rfl) ?_
 refine al_in rfl rfl rfl rfl ?_
 refine al_in rfl rfl rfl rfl ?_
 refine al_as rfl rfl ?_
 refine al_nt ?_
 refine aw_sr ?_
 refine al_mv rfl rfl ?_
 refine al_mv rfl rfl ?_
 refine al_val (ov_shr (by decide) rfl rfl rfl) ?_
 refine al_in rfl rfl rfl rfl ?_
 refine al_as rfl rfl ?_
 refine al_nt ?_
 refine aw_ret ?_
 obtain rfl := Option.some.inj h
 exact fn_ret () [] [] rfl rfl rfl rfl (res1 rfl rfl) rfl rfl rfl (by decide)
def f_mix_sum_L7 (a1 : Int) (kk2 : (Int → Option Int)) (fu : Nat) : Nat → (List UInt8) → Int → Option Int
  | 0, _, _ => none
  | k6 + 1, l5s0, l5i5 => (bif (!(l5s0 == ([] : List UInt8))) then (req (0 ≤ ((Nat.min l5s0.length 8 : Nat) : Int) ∧ ((Nat.min l5s0.length 8 : Nat) : Int) ≤ (l5s0.length : Int)) (opt (f__binary_littleEndian__Uint64 fu () (lA8u8 (cpA8u8 (A8u8.mk (0 : UInt8) (0 : UInt8) (0 : UInt8) (0 : UInt8) (0 : UInt8) (0 : UInt8) (0 : UInt8) (0 : UInt8)) l5s0))) fun (r13 : Int) => (opt (f_mix_Step fu l5i5 r13) fun (r15 : Int) => (f_mix_sum_L7 a1 kk2 fu k6 (l5s0.drop (((Nat.min l5s0.length 8 : Nat) : Int)).toNat) (bits .and .u64 r15 a1))))) else (kk2 l5i5))
def f_mix_sum (fu : Nat) (a0 : (List UInt8)) (a1 : Int) : Option Int := (lt (fun (j1i5 : Int) => (opt (f_mix_Step fu j1i5 (IntKind.u64.wrap (a0.length : Int))) fun (r4 : Int) => (some (bits .and .u64 r4 a1)))) fun (kk2 : Int → Option Int) => (f_mix_sum_L7 a1 kk2 fu fu a0 (0 : Int)))
set_option maxRecDepth 100000 in
theorem f_mix_sum_ok (fu : Nat) (a0 : (List UInt8)) (a1 : Int) {r : Int} (h : f_mix_sum fu a0 a1 = some r) : FnOk Tryd.prog 186 [(str a0), (int .u64 a1)] [] [] (fun (i : Unit) => { val := (int .u64 r) }) := by
 unfold f_mix_sum at h
 refine fn_enter Tryd.func186 rfl Tryd.ntmps186 rfl (fun w0 Z0 => ?_)
 refine aw_sr ?_
 refine al_as rfl rfl ?_
 refine al_nt ?_
 refine aw_sr ?_
 refine al_mv rfl rfl ?_
 refine al_val (ov_strLen Tryd.underlying9 rfl rfl) ?_
 refine al_val (ov_convInt (by rw [Tryd.underlying3]; rfl) Tryd.underlying115 rfl rfl) ?_
 refine al_as rfl rfl ?_
 refine al_as rfl rfl ?_
 refine al_nt ?_
 obtain ⟨kk2, hkk2, h⟩ := lt_some h
 refine aw_seq_join (ι := Int) (fun i => (memOf w0 Z0 [] [] [])) (fun i => (tab [(1, (int .u64 a1)), (5, (int .u64 i)), (6, (int .u64 (IntKind.u64.wrap (a0.length : Int))))])) (fun i => kk2 i = some r) ?_ ?_
 ·rintro j1i5 h
  have h : kk2 j1i5 = some r := h
  rw [hkk2] at h
  dsimp only at h
  clear hkk2
  refine aw_show (m := (memOf w0 Z0 [] [] [])) (S := (tab [(1, (int .u64 a1)), (5, (int .u64 j1i5)), (6, (int .u64 (IntKind.u64.wrap (a0.length : Int))))])) ?_
  refine aw_sr ?_
  refine al_mv rfl rfl ?_
  refine al_mv rfl rfl ?_
  obtain ⟨r4, hc3, h⟩ := opt_some h
  refine al_call (vs := [(int .u64 j1i5), (int .u64 (IntKind.u64.wrap (a0.length : Int)))]) (f_mix_Step_ok fu j1i5 (IntKind.u64.wrap (a0.length : Int)) hc3) [] [] [] pre_nil rfl (by simp) (by decide) (.inl rfl) rfl Tryd.func219 rfl rfl rfl (fun _ => ?_)
  refine al_mv rfl rfl ?_
  refine al_in rfl rfl rfl rfl ?_
  refine al_as rfl rfl ?_
  refine al_nt ?_
  refine aw_ret ?_
  obtain rfl := Option.some.inj h
  exact fn_ret () [] [] rfl rfl rfl rfl (res1 rfl rfl) rfl rfl rfl (by decide)
 ·clear hkk2
  refine aw_block ?_
  refine aw_state (aw_loop (ι := (List UInt8) × Int) (fun i => (memOf w0 Z0 [] [] [])) (fun i => (tab [(0, (str i.1)), (1, (int .u64 a1)), (5, (int .u64 i.2)), (6, (int .u64 (IntKind.u64.wrap (a0.length : Int))))])) (fun q i => f_mix_sum_L7 a1 kk2 fu q i.1 i.2 = some r) ?_ fu (a0, (0 : Int)) h) (fun w a hm hs => norm hm hs [] [] [(0, (str a0)), (1, (int .u64 a1)), (5, (int .u64 (0 : Int))), (6, (int .u64 (IntKind.u64.wrap (a0.length : Int))))] (by decide) ⟨rfl, rfl, rfl, rfl, trivial⟩)
  clear h
  rintro k6 ⟨l5s0, l5i5⟩ h
  have h : f_mix_sum_L7 a1 kk2 fu k6 l5s0 l5i5 = some r := h
  obtain _ | k6 := k6
  · rw [f_mix_sum_L7] at h; cases h
  rw [f_mix_sum_L7] at h
  refine aw_show (m := (memOf w0 Z0 [] [] [])) (S := (tab [(0, (str l5s0)), (1, (int .u64 a1)), (5, (int .u64 l5i5)), (6, (int .u64 (IntKind.u64.wrap (a0.length : Int))))])) ?_
  refine aw_seq ?_
  refine aw_sr ?_
  refine al_mv rfl rfl ?_
  refine al_val (ov_strCmp rfl rfl rfl rfl) ?_
  refine al_nt ?_
  refine aw_cond rfl (fun hb8 => ?_) (fun hb8 => ?_)
  ·replace h := bif_t hb8 h
   refine aw_skip ?_
   refine aq_then ?_
   refine aw_block ?_
   refine aw_sr ?_
   refine al_alloc (zs := (cA8u8 (A8u8.mk (0 : UInt8) (0 : UInt8) (0 : UInt8) (0 : UInt8) (0 : UInt8) (0 : UInt8) (0 : UInt8) (0 : UInt8)))) (zeroOf_to to46) rfl rfl (fun g9 => ?_)
   refine al_nt ?_
   refine aw_sr ?_
   refine al_mv rfl rfl ?_
   refine al_val (ov_sliceBox (i := 0) rfl rfl Tryd.underlying46 sz5 rfl) ?_
   refine al_mv rfl rfl ?_
   refine al_copyS (i := 0) (cs := (cA8u8 (A8u8.mk (0 : UInt8) (0 : UInt8) (0 : UInt8) (0 : UInt8) (0 : UInt8) (0 : UInt8) (0 : UInt8) (0 : UInt8)))) (cs' := (cA8u8 (cpA8u8 (A8u8.mk (0 : UInt8) (0 : UInt8) (0 : UInt8) (0 : UInt8) (0 : UInt8) (0 : UInt8) (0 : UInt8) (0 : UInt8)) l5s0))) rfl rfl rfl Tryd.underlying113 sz5 rfl (cpcA8u8 (A8u8.mk (0 : UInt8) (0 : UInt8) (0 : UInt8) (0 : UInt8) (0 : UInt8) (0 : UInt8) (0 : UInt8) (0 : UInt8)) l5s0 [] []) rfl ?_
   obtain ⟨hc10, h⟩ := req_some h
   refine al_val (ov_strFrom hc10.1 hc10.2 Tryd.underlying9 rfl rfl rfl) ?_
   refine al_as rfl rfl ?_
   refine al_nt ?_
   refine aw_freezeB 0 ((cpA8u8 (A8u8.mk (0 : UInt8) (0 : UInt8) (0 : UInt8) (0 : UInt8) (0 : UInt8) (0 : UInt8) (0 : UInt8) (0 : UInt8)) l5s0)) rfl rfl (fun _ _ => mkA8u8 rfl) ?_
   obtain ⟨r13, hc12, h⟩ := opt_some h
   obtain ⟨r15, hc14, h⟩ := opt_some h
   refine aw_region_draw 7 [(18, (fun u => fEq u (int .u64 l5i5))), (19, (fun u => fEq u (ag []))), (20, (fun s11 => (fDat (tyList tyU8) [s11] (lA8u8 (cpA8u8 (A8u8.mk (0 : UInt8) (0 : UInt8) (0 : UInt8) (0 : UInt8) (0 : UInt8) (0 : UInt8) (0 : UInt8) (0 : UInt8)) l5s0))))), (21, (fun u => fEq u (int .u64 r13))), (22, (fun u => fEq u (int .u64 r15))), (23, (fun u => fEq u (int .u64 a1))), (24, (fun u => fEq u (int .u64 (bits .and .u64 r15 a1))))] (tab [(0, (str (l5s0.drop (((Nat.min l5s0.length 8 : Nat) : Int)).toNat))), (1, (int .u64 a1)), (5, (int .u64 l5i5)), (6, (int .u64 (IntKind.u64.wrap (a0.length : Int)))), (7, (ptr g9 0))]) mixed (by kernel_rfl) rfl rfl rfl (fun a hs => hs.tab _ (allT_mem ⟨rfl, rfl, rfl, rfl, rfl, trivial⟩)) ⟨⟨rfl, ld_val (ov_move rfl rfl)⟩, ⟨rfl, ld_val (ov_load0 Tryd.underlying300 sz300 rfl rfl rfl)⟩, ⟨rfl, ld_of (of_sliceP 0 lrepA8u8 rfl rfl rfl rfl Tryd.underlying46 sz5 rfl)⟩, ⟨rfl, ld_eq (j := 1) rfl rfl (ld_fact (j := 2) rfl rfl (fun s11 => ld_callV (vs := [(ag []), s11]) (f__binary_littleEndian__Uint64_ok fu () s11 (lA8u8 (cpA8u8 (A8u8.mk (0 : UInt8) (0 : UInt8) (0 : UInt8) (0 : UInt8) (0 : UInt8) (0 : UInt8) (0 : UInt8) (0 : UInt8)) l5s0)) hc12) [] (pre_fz 0 rfl pre_nil) rfl Tryd.func220 rfl rfl rfl))⟩, ⟨rfl, ld_eq (j := 0) rfl rfl (ld_eq (j := 3) rfl rfl (ld_callV (vs := [(int .u64 l5i5), (int .u64 r13)]) (f_mix_Step_ok fu l5i5 r13 hc14) [] pre_nil rfl Tryd.func219 rfl rfl rfl))⟩, ⟨rfl, ld_val (ov_move rfl rfl)⟩, ⟨rfl, ld_eq (j := 4) rfl rfl (ld_eq (j := 5) rfl rfl (ld_val (ov_int rfl rfl rfl rfl)))⟩, trivial⟩ ?_
   refine tl_eq 6 rfl ?_
   refine tl_done ?_
   refine al_as rfl rfl ?_
   refine al_nil ?_
   refine aq_block ?_
   exact aq_again k6 ((l5s0.drop (((Nat.min l5s0.length 8 : Nat) : Int)).toNat), (bits .and .u64 r15 a1)) (Nat.lt_succ_self _) h (fun w a hm hs => norm hm hs [] [] [(0, (str (l5s0.drop (((Nat.min l5s0.length 8 : Nat) : Int)).toNat))), (1, (int .u64 a1)), (5, (int .u64 (bits .and .u64 r15 a1))), (6, (int .u64 (IntKind.u64.wrap (a0.length : Int))))] (by decide) ⟨rfl, rfl, rfl, rfl, trivial⟩)
  ·replace h := bif_f hb8 h
   refine aw_exit ?_
   refine aq_then_exit ?_
   refine aq_then_exit ?_
   refine aq_block_exit ?_
   exact aq_join l5i5 h (fun w a hm hs => norm hm hs [] [] [(1, (int .u64 a1)), (5, (int .u64 l5i5)), (6, (int .u64 (IntKind.u64.wrap (a0.length : Int))))] (by decide) ⟨rfl, rfl, rfl, trivial⟩)
def f_mix_Sum (fu : Nat) (a0 : (List UInt8)) : Option Int := (opt (f_mix_sum fu a0 (18446744073709551615 : Int)) fun (r2 : Int) => (some r2))
set_option maxRecDepth 100000 in
theorem f_mix_Sum_ok (fu : Nat) (a0 : (List UInt8)) {r : Int} (h : f_mix_Sum fu a0 = some r) : FnOk Tryd.prog 136 [(str a0)] [] [] (fun (i : Unit) => { val := (int .u64 r) }) := by
 unfold f_mix_Sum at h
 refine fn_enter Tryd.func136 rfl Tryd.ntmps136 rfl (fun w0 Z0 => ?_)
 refine aw_sr ?_
 refine al_as rfl rfl ?_
 refine al_nt ?_
 refine aw_sr ?_
 refine al_mv rfl rfl ?_
 obtain ⟨r2, hc1, h⟩ := opt_some h
 refine al_call (vs := [(str a0), (int .u64 (18446744073709551615 : Int))]) (f_mix_sum_ok fu a0 (18446744073709551615 : Int) hc1) [] [] [] pre_nil rfl (by simp) (by decide) (.inl rfl) rfl Tryd.func186 rfl rfl rfl (fun _ => ?_)
 refine al_as rfl rfl ?_
 refine al_nt ?_
 refine aw_ret ?_
 obtain rfl := Option.some.inj h
 exact fn_ret () [] [] rfl rfl rfl rfl (res1 rfl rfl) rfl rfl rfl (by decide)
-- STUCK (encoding/binary.bigEndian).PutUint64: IndexError string index out of range at par:683
def f_mix_ID (fu : Nat) (a0 : (List UInt8)) : Option A8u8 := (opt (f_mix_Sum fu a0) fun (r4 : Int) => (req (0 ≤ r4 ∧ r4 < 18446744073709551616) (some (cpA8u8 (A8u8.mk (0 : UInt8) (0 : UInt8) (0 : UInt8) (0 : UInt8) (0 : UInt8) (0 : UInt8) (0 : UInt8) (0 : UInt8)) (Lib.beBytes 8 (r4).toNat)))))
set_option maxRecDepth 100000 in
theorem f_mix_ID_ok (fu : Nat) (a0 : (List UInt8)) {r : A8u8} (h : f_mix_ID fu a0 = some r) : FnOk Tryd.prog 77 [(str a0)] [] [] (fun (i : Unit) => { val := (ag (cA8u8 r)) }) := by
 unfold f_mix_ID at h
 refine fn_enter Tryd.func77 rfl Tryd.ntmps77 rfl (fun w0 Z0 => ?_)
 refine aw_sr ?_
 refine al_alloc (zs := (cA8u8 (A8u8.mk (0 : UInt8) (0 : UInt8) (0 : UInt8) (0 : UInt8) (0 : UInt8) (0 : UInt8) (0 : UInt8) (0 : UInt8)))) (zeroOf_to to47) rfl rfl (fun g1 => ?_)
 refine al_nt ?_
 refine aw_sr ?_
 refine al_alloc (zs := (cA8u8 (A8u8.mk (0 : UInt8) (0 : UInt8) (0 : UInt8) (0 : UInt8) (0 : UInt8) (0 : UInt8) (0 : UInt8) (0 : UInt8)))) (zeroOf_to to47) rfl rfl (fun g2 => ?_)
 refine al_nt ?_
 refine aw_seq ?_
 obtain ⟨r4, hc3, h⟩ := opt_some h
 refine aw_region_draw 4 [(4, (fun u => fEq u (ag []))), (5, (fun u => fEq u (sbx g2 0 8))), (6, (fun u => fEq u (str a0))), (7, (fun u => fEq u (int .u64 r4)))] (tab [(0, (str a0)), (2, (ptr g1 0)), (3, (ptr g2 0))]) mixed (by kernel_rfl) rfl rfl rfl (fun a hs => hs.tab _ (allT_mem ⟨rfl, rfl, rfl, trivial⟩)) ⟨⟨rfl, ld_val (ov_load0 Tryd.underlying207 sz207 rfl rfl rfl)⟩, ⟨rfl, ld_val (ov_sliceBox (i := 0) rfl rfl Tryd.underlying47 sz5 rfl)⟩, ⟨rfl, ld_val (ov_move rfl rfl)⟩, ⟨rfl, ld_eq (j := 2) rfl rfl (ld_callV (vs := [(str a0)]) (f_mix_Sum_ok fu a0 hc3) [] pre_nil rfl Tryd.func136 rfl rfl rfl)⟩, trivial⟩ ?_
 refine tl_eq 0 rfl ?_
 refine tl_eq 1 rfl ?_
 refine tl_eq 3 rfl ?_
 refine tl_done ?_
 obtain ⟨hc5, h⟩ := req_some h
 refine al_call (vs := [(ag []), (sbx g2 0 8), (int .u64 r4)]) (f_put8_ok (g := g2) (off := 0) (t := 47) (a2 := r4) (cs := (cA8u8 (A8u8.mk (0 : UInt8) (0 : UInt8) (0 : UInt8) (0 : UInt8) (0 : UInt8) (0 : UInt8) (0 : UInt8) (0 : UInt8)))) (cs' := (cA8u8 (cpA8u8 (A8u8.mk (0 : UInt8) (0 : UInt8) (0 : UInt8) (0 : UInt8) (0 : UInt8) (0 : UInt8) (0 : UInt8) (0 : UInt8)) (Lib.beBytes 8 (r4).toNat)))) hc5 (Nat.le_of_ble_eq_true rfl) (cpcA8u8 (A8u8.mk (0 : UInt8) (0 : UInt8) (0 : UInt8) (0 : UInt8) (0 : UInt8) (0 : UInt8) (0 : UInt8) (0 : UInt8)) (Lib.beBytes 8 (r4).toNat) [] [])) [] [0] [1] pre_nil rfl (by simp) (by decide) (.inl rfl) rfl Tryd.func135 rfl rfl rfl (fun _ => ?_)
 refine al_nt ?_
 refine aw_sr ?_
 refine al_val (ov_load (i := 0) (v := (ag (cA8u8 (cpA8u8 (A8u8.mk (0 : UInt8) (0 : UInt8) (0 : UInt8) (0 : UInt8) (0 : UInt8) (0 : UInt8) (0 : UInt8) (0 : UInt8)) (Lib.beBytes 8 (r4).toNat))))) rfl rfl Tryd.underlying47 sz47 rfl rfl rfl rfl) ?_
 refine al_store (i := 1) (vs := (cA8u8 (cpA8u8 (A8u8.mk (0 : UInt8) (0 : UInt8) (0 : UInt8) (0 : UInt8) (0 : UInt8) (0 : UInt8) (0 : UInt8) (0 : UInt8)) (Lib.beBytes 8 (r4).toNat)))) (cs' := (cA8u8 (cpA8u8 (A8u8.mk (0 : UInt8) (0 : UInt8) (0 : UInt8) (0 : UInt8) (0 : UInt8) (0 : UInt8) (0 : UInt8) (0 : UInt8)) (Lib.beBytes 8 (r4).toNat)))) rfl rfl rfl sz47 (cv_rfl rfl) rfl (co_all (oneA8u8 (cpA8u8 (A8u8.mk (0 : UInt8) (0 : UInt8) (0 : UInt8) (0 : UInt8) (0 : UInt8) (0 : UInt8) (0 : UInt8) (0 : UInt8)) (Lib.beBytes 8 (r4).toNat)))) (Nat.le_of_ble_eq_true rfl) rfl rfl ?_
 refine al_nt ?_
 refine aw_ret ?_
 obtain rfl := Option.some.inj h
 exact fn_ret () [] [] rfl rfl rfl rfl (resC rfl (resB (i := 1) rfl rfl Tryd.underlying47 sz47 rfl rfl rfl (resN)) rfl) rfl rfl rfl (by decide)
def f_pack_ID (fu : Nat) (a0 : S_api_Blob) : Option (A8u8 × Int) := (opt (f_pack_Known fu a0.Kind) fun (r4 : Bool) => (bif (!r4) then (some ((A8u8.mk (0 : UInt8) (0 : UInt8) (0 : UInt8) (0 : UInt8) (0 : UInt8) (0 : UInt8) (0 : UInt8) (0 : UInt8)), (5 : Int))) else (bif (decide ((a0.Bytes.length : Int) > (4096 : Int))) then (some ((A8u8.mk (0 : UInt8) (0 : UInt8) (0 : UInt8) (0 : UInt8) (0 : UInt8) (0 : UInt8) (0 : UInt8) (0 : UInt8)), (2 : Int))) else (req (0 ≤ (IntKind.u8.wrap a0.Kind) ∧ (IntKind.u8.wrap a0.Kind) ≤ 255) (req (([(UInt8.ofNat ((IntKind.u8.wrap a0.Kind)).toNat)]).length + a0.Bytes.length ≤ 9223372036854775807) (opt (f_mix_ID fu (([(UInt8.ofNat ((IntKind.u8.wrap a0.Kind)).toNat)]) ++ a0.Bytes)) fun (r11 : A8u8) => (some (r11, (0 : Int)))))))))
set_option maxRecDepth 100000 in
theorem f_pack_ID_ok (fu : Nat) (a0 : S_api_Blob) {r : (A8u8 × Int)} (h : f_pack_ID fu a0 = some r) : FnOk Tryd.prog 31 [(ag [(int .i64 a0.Kind), (str a0.Bytes)])] [] [] (fun (i : Unit) => { val := (Value.tuple #[(ag (cA8u8 r.1)), (int .i64 r.2)]) }) := by
 unfold f_pack_ID at h
 refine fn_enter Tryd.func31 rfl Tryd.ntmps31 rfl (fun w0 Z0 => ?_)
 refine aw_sr ?_
 refine al_box (vs := [(int .i64 a0.Kind), (str a0.Bytes)]) rfl (cv_rfl rfl) rfl (fun g1 => ?_)
 refine al_alloc (zs := (cA8u8 (A8u8.mk (0 : UInt8) (0 : UInt8) (0 : UInt8) (0 : UInt8) (0 : UInt8) (0 : UInt8) (0 : UInt8) (0 : UInt8)))) (zeroOf_to to47) rfl rfl (fun g2 => ?_)
 refine al_as rfl rfl ?_
 refine al_nt ?_
 refine aw_seq ?_
 refine aw_block ?_
 refine aw_sr ?_
 refine al_val (ov_fieldA (p := 0) rfl Tryd.underlying34 rfl sz3 rfl rfl rfl) ?_
 refine al_val (ov_load (i := 1) (v := (int .i64 a0.Kind)) rfl rfl Tryd.underlying3 sz3 rfl rfl rfl rfl) ?_
 obtain ⟨r4, hc3, h⟩ := opt_some h
 refine al_call (vs := [(int .i64 a0.Kind)]) (f_pack_Known_ok fu a0.Kind hc3) [] [] [0, 1] pre_nil rfl (by simp) (by decide) (.inl rfl) rfl Tryd.func76 rfl rfl rfl (fun _ => ?_)
 refine al_val (ov_not rfl rfl) ?_
 refine al_as rfl rfl ?_
 refine al_nt ?_
 refine aw_cond rfl (fun hb5 => ?_) (fun hb5 => ?_)
 ·replace h := bif_t hb5 h
  refine aw_sr ?_
  refine al_val (ov_build (cells := ((cA8u8 (A8u8.mk (0 : UInt8) (0 : UInt8) (0 : UInt8) (0 : UInt8) (0 : UInt8) (0 : UInt8) (0 : UInt8) (0 : UInt8)))).toArray) (cs := (cA8u8 (A8u8.mk (0 : UInt8) (0 : UInt8) (0 : UInt8) (0 : UInt8) (0 : UInt8) (0 : UInt8) (0 : UInt8) (0 : UInt8)))) rfl (fun w a hm hs => by simp only [List.map_toArray, List.map_cons, List.map_nil, List.toList_toArray]; kernel_rfl)) ?_
  refine al_store (i := 0) (vs := (cA8u8 (A8u8.mk (0 : UInt8) (0 : UInt8) (0 : UInt8) (0 : UInt8) (0 : UInt8) (0 : UInt8) (0 : UInt8) (0 : UInt8)))) (cs' := (cA8u8 (A8u8.mk (0 : UInt8) (0 : UInt8) (0 : UInt8) (0 : UInt8) (0 : UInt8) (0 : UInt8) (0 : UInt8) (0 : UInt8)))) rfl rfl rfl sz47 (cv_rfl rfl) rfl (co_all (oneA8u8 (A8u8.mk (0 : UInt8) (0 : UInt8) (0 : UInt8) (0 : UInt8) (0 : UInt8) (0 : UInt8) (0 : UInt8) (0 : UInt8)))) (Nat.le_of_ble_eq_true rfl) rfl rfl ?_
  refine al_as rfl rfl ?_
  refine al_nt ?_
  refine aw_ret ?_
  refine aq_block_ret ?_
  refine aq_then_ret ?_
  obtain rfl := Option.some.inj h
  exact fn_ret () [] [] rfl rfl rfl rfl (resC rfl (resB (i := 0) rfl rfl Tryd.underlying47 sz47 rfl rfl rfl (resT rfl (resN))) rfl) rfl rfl rfl (by decide)
 ·replace h := bif_f hb5 h
  refine aw_sr ?_
  refine al_val (ov_fieldA (p := 1) rfl Tryd.underlying34 rfl sz9 rfl rfl rfl) ?_
  refine al_val (ov_load (i := 1) (v := (str a0.Bytes)) rfl rfl Tryd.underlying9 sz9 rfl rfl rfl rfl) ?_
  refine al_val (ov_strLen Tryd.underlying9 rfl rfl) ?_
  refine al_in rfl rfl rfl rfl ?_
  refine al_as rfl rfl ?_
  refine al_nt ?_
  refine aw_cond rfl (fun hb6 => ?_) (fun hb6 => ?_)
  ·replace h := bif_t hb6 h
   refine aw_sr ?_
   refine al_val (ov_build (cells := ((cA8u8 (A8u8.mk (0 : UInt8) (0 : UInt8) (0 : UInt8) (0 : UInt8) (0 : UInt8) (0 : UInt8) (0 : UInt8) (0 : UInt8)))).toArray) (cs := (cA8u8 (A8u8.mk (0 : UInt8) (0 : UInt8) (0 : UInt8) (0 : UInt8) (0 : UInt8) (0 : UInt8) (0 : UInt8) (0 : UInt8)))) rfl (fun w a hm hs => by simp only [List.map_toArray, List.map_cons, List.map_nil, List.toList_toArray]; kernel_rfl)) ?_
   refine al_store (i := 0) (vs := (cA8u8 (A8u8.mk (0 : UInt8) (0 : UInt8) (0 : UInt8) (0 : UInt8) (0 : UInt8) (0 : UInt8) (0 : UInt8) (0 : UInt8)))) (cs' := (cA8u8 (A8u8.mk (0 : UInt8) (0 : UInt8) (0 : UInt8) (0 : UInt8) (0 : UInt8) (0 : UInt8) (0 : UInt8) (0 : UInt8)))) rfl rfl rfl sz47 (cv_rfl rfl) rfl (co_all (oneA8u8 (A8u8.mk (0 : UInt8) (0 : UInt8) (0 : UInt8) (0 : UInt8) (0 : UInt8) (0 : UInt8) (0 : UInt8) (0 : UInt8)))) (Nat.le_of_ble_eq_true rfl) rfl rfl ?_
   refine al_as rfl rfl ?_
   refine al_nt ?_
   refine aw_ret ?_
   refine aq_block_ret ?_
   refine aq_then_ret ?_
   obtain rfl := Option.some.inj h
   exact fn_ret () [] [] rfl rfl rfl rfl (resC rfl (resB (i := 0) rfl rfl Tryd.underlying47 sz47 rfl rfl rfl (resT rfl (resN))) rfl) rfl rfl rfl (by decide)
  ·replace h := bif_f hb6 h
   refine aw_skip ?_
   refine aq_block ?_
   refine aq_tr ?_
   refine al_val (ov_fieldA (p := 0) rfl Tryd.underlying34 rfl sz3 rfl rfl rfl) ?_
   refine al_val (ov_load (i := 1) (v := (int .i64 a0.Kind)) rfl rfl Tryd.underlying3 sz3 rfl rfl rfl rfl) ?_
   refine al_val (ov_convInt (by rw [Tryd.underlying3]; rfl) Tryd.underlying5 rfl rfl) ?_
   obtain ⟨hc8, h⟩ := req_some h
   refine al_buildSlice (τ := tyU8) (e := 5) (k := 1) (sz := 0) (by_ := 0) (z := undef) (cs := [(int .u8 (IntKind.u8.wrap a0.Kind))]) (xs := [(UInt8.ofNat ((IntKind.u8.wrap a0.Kind)).toNat)]) rfl (by decide) (fun w a hm hs => ⟨([(int .u8 (IntKind.u8.wrap a0.Kind))]).toArray, rfl, by simp only [List.map_toArray, List.map_cons, List.map_nil, hs.ev (x := .tmp 18) rfl]; exact run_bs [(int .u8 (IntKind.u8.wrap a0.Kind))] [(int .u8 (IntKind.u8.wrap a0.Kind))] Tryd.underlying113 to5 rfl rfl (bs_cons (l := [(int .u8 (IntKind.u8.wrap a0.Kind))]) (cs := []) (cv_rfl rfl) rfl bs_nil) hm⟩) (fun hm => ⟨_, _, rfl, (fun _ => u8_rep hc8) hm, rfl⟩) rfl (fun v7 => ?_)
   refine al_val (ov_toStrR 0 rfl rfl Tryd.underlying113 Tryd.underlying5 Tryd.underlying9 rfl) ?_
   refine al_val (ov_fieldA (p := 1) rfl Tryd.underlying34 rfl sz9 rfl rfl rfl) ?_
   refine al_val (ov_load (i := 2) (v := (str a0.Bytes)) rfl rfl Tryd.underlying9 sz9 rfl rfl rfl rfl) ?_
   obtain ⟨hc9, h⟩ := req_some h
   refine al_val (ov_strAdd hc9 rfl rfl rfl) ?_
   obtain ⟨r11, hc10, h⟩ := opt_some h
   refine al_call (vs := [(str (([(UInt8.ofNat ((IntKind.u8.wrap a0.Kind)).toNat)]) ++ a0.Bytes))]) (f_mix_ID_ok fu (([(UInt8.ofNat ((IntKind.u8.wrap a0.Kind)).toNat)]) ++ a0.Bytes) hc10) [] [] [0, 1, 2] pre_nil rfl (by simp) (by decide) (.inl rfl) rfl Tryd.func77 rfl rfl rfl (fun _ => ?_)
   refine al_store (i := 1) (vs := (cA8u8 r11)) (cs' := (cA8u8 r11)) rfl rfl rfl sz47 (cv_rfl rfl) rfl (co_all (oneA8u8 r11)) (Nat.le_of_ble_eq_true rfl) rfl rfl ?_
   refine al_as rfl rfl ?_
   refine al_nt ?_
   refine aw_ret ?_
   obtain rfl := Option.some.inj h
   exact fn_ret () [] [] rfl rfl rfl rfl (resC rfl (resB (i := 1) rfl rfl Tryd.underlying47 sz47 rfl rfl rfl (resT rfl (resN))) rfl) rfl rfl rfl (by decide)
def f_walk_Heap_L7 (a0 : (List S_api_Blob)) (kk4 : ((List (A8u8 × S_api_Blob)) → Option ((Option (List (A8u8 × S_api_Blob))) × Int))) (fu : Nat) : Nat → (List (A8u8 × S_api_Blob)) → Int → Option ((Option (List (A8u8 × S_api_Blob))) × Int)
  | 0, _, _ => none
  | k6 + 1, l5xm4, l5i17 => (bif (decide (l5i17 < (a0.length : Int))) then (opt (at? a0 l5i17) fun (u9 : S_api_Blob) => (opt (f_pack_ID fu u9) fun (r14 : (A8u8 × Int)) => (bif (r14.2 != (0 : Int)) then (some ((none : (Option (List (A8u8 × S_api_Blob)))), r14.2)) else (lt (fun (j18b40 : Bool) => (bif j18b40 then (some ((none : (Option (List (A8u8 × S_api_Blob)))), (11 : Int))) else (f_walk_Heap_L7 a0 kk4 fu k6 (gset l5xm4 r14.1 u9) (IntKind.i64.wrap (l5i17 + (1 : Int)))))) fun (kk19 : Bool → Option ((Option (List (A8u8 × S_api_Blob))) × Int)) => (bif (gget l5xm4 r14.1).isSome then (req ((Lit.int .i64 (((gget l5xm4 r14.1).getD (S_api_Blob.mk (0 : Int) ([] : (List UInt8)))).Kind)).wf = true) (req ((((gget l5xm4 r14.1).getD (S_api_Blob.mk (0 : Int) ([] : (List UInt8)))).Bytes).length ≤ 9223372036854775807) (req ((Lit.int .i64 u9.Kind).wf = true) (req (u9.Bytes.length ≤ 9223372036854775807) (kk19 (!((S_api_Blob.mk (((gget l5xm4 r14.1).getD (S_api_Blob.mk (0 : Int) ([] : (List UInt8)))).Kind) (((gget l5xm4 r14.1).getD (S_api_Blob.mk (0 : Int) ([] : (List UInt8)))).Bytes)) == u9))))))) else (kk19 false)))))) else (kk4 l5xm4))
def f_walk_Heap (fu : Nat) (a0 : (List S_api_Blob)) : Option ((Option (List (A8u8 × S_api_Blob))) × Int) := (bif (decide ((a0.length : Int) > (1000 : Int))) then (some ((none : (Option (List (A8u8 × S_api_Blob)))), (2 : Int))) else (lt (fun (j3xm4 : (List (A8u8 × S_api_Blob))) => (some ((some j3xm4), (0 : Int)))) fun (kk4 : (List (A8u8 × S_api_Blob)) → Option ((Option (List (A8u8 × S_api_Blob))) × Int)) => (f_walk_Heap_L7 a0 kk4 fu fu ([] : List (A8u8 × S_api_Blob)) (0 : Int))))
set_option maxRecDepth 100000 in
theorem f_walk_Heap_ok (fu : Nat) (v0_0 : Value) (a0 : (List S_api_Blob)) {r : ((Option (List (A8u8 × S_api_Blob))) × Int)} (h : f_walk_Heap fu a0 = some r) : FnOk Tryd.prog 43 [v0_0] [(fDat (tyList tyS_api_Blob) [v0_0] a0)] [] (fun (i : Value) => { val := (Value.tuple #[i, (int .i64 r.2)]), own := [(oMapM Tryd.prog 47 i (fun x : A8u8 => ag (cA8u8 x)) (fun x : S_api_Blob => ag [(int .i64 x.Kind), (str x.Bytes)]) r.1)] }) := by
 unfold f_walk_Heap at h
 refine fn_enter Tryd.func43 rfl Tryd.ntmps43 rfl (fun w0 Z0 => ?_)
 refine aw_sr ?_
 refine al_as rfl rfl ?_
 refine al_as rfl rfl ?_
 refine al_nt ?_
 refine aw_seq ?_
 refine aw_sr ?_
 refine al_mv rfl rfl ?_
 refine al_val (ov_lenD 0 rfl rfl Tryd.underlying28 rfl) ?_
 refine al_in rfl rfl rfl rfl ?_
 refine al_nt ?_
 refine aw_cond rfl (fun hb1 => ?_) (fun hb1 => ?_)
 ·replace h := bif_t hb1 h
  refine aw_sr ?_
  refine al_as rfl rfl ?_
  refine al_as rfl rfl ?_
  refine al_nt ?_
  refine aw_ret ?_
  refine aq_then_ret ?_
  refine aq_nilM (P := Tryd.prog) 47 (fun x : A8u8 => ag (cA8u8 x)) (fun x : S_api_Blob => ag [(int .i64 x.Kind), (str x.Bytes)]) ?_
  obtain rfl := Option.some.inj h
  exact fn_ret (Value.map none) [0] [] rfl rfl rfl rfl (res2 rfl rfl rfl) rfl rfl rfl (by decide)
 ·replace h := bif_f hb1 h
  refine aw_skip ?_
  refine aq_tr ?_
  refine al_makeMapK (ν := S_api_Blob) 47 (fun x : A8u8 => ag (cA8u8 x)) (fun x : S_api_Blob => ag [(int .i64 x.Kind), (str x.Bytes)]) rfl (fun g2 => ?_)
  refine al_as rfl rfl ?_
  refine al_nt ?_
  obtain ⟨kk4, hkk4, h⟩ := lt_some h
  refine aw_seq_join (ι := (List (A8u8 × S_api_Blob))) (fun i => (memOf w0 Z0 [] [(oMapK Tryd.prog 47 g2 (fun x : A8u8 => ag (cA8u8 x)) (fun x : S_api_Blob => ag [(int .i64 x.Kind), (str x.Bytes)]) i)] [(fDat (tyList tyS_api_Blob) [v0_0] a0)])) (fun i => (tab [(4, (Value.map (some g2)))])) (fun i => kk4 i = some r) ?_ ?_
  ·rintro j3xm4 h
   have h : kk4 j3xm4 = some r := h
   rw [hkk4] at h
   dsimp only at h
   clear hkk4
   refine aw_show (m := (memOf w0 Z0 [] [(oMapK Tryd.prog 47 g2 (fun x : A8u8 => ag (cA8u8 x)) (fun x : S_api_Blob => ag [(int .i64 x.Kind), (str x.Bytes)]) j3xm4)] [(fDat (tyList tyS_api_Blob) [v0_0] a0)])) (S := (tab [(4, (Value.map (some g2)))])) ?_
   refine aw_sr ?_
   refine al_mv rfl rfl ?_
   refine al_as rfl rfl ?_
   refine al_as rfl rfl ?_
   refine al_nt ?_
   refine aw_ret ?_
   refine aq_mapM 0 rfl ?_
   obtain rfl := Option.some.inj h
   exact fn_ret (Value.map (some g2)) [0] [] rfl rfl rfl rfl (res2 rfl rfl rfl) rfl rfl rfl (by decide)
  ·clear hkk4
   refine aw_sr ?_
   refine al_mv rfl rfl ?_
   refine al_val (ov_lenD 0 rfl rfl Tryd.underlying28 rfl) ?_
   refine al_mv rfl rfl ?_
   refine al_nt ?_
   refine aw_block ?_
   refine aw_state (aw_loop (ι := (List (A8u8 × S_api_Blob)) × Int) (fun i => (memOf w0 Z0 [] [(oMapK Tryd.prog 47 g2 (fun x : A8u8 => ag (cA8u8 x)) (fun x : S_api_Blob => ag [(int .i64 x.Kind), (str x.Bytes)]) i.1)] [(fDat (tyList tyS_api_Blob) [v0_0] a0)])) (fun i => (tab [(4, (Value.map (some g2))), (15, v0_0), (16, (int .i64 (a0.length : Int))), (17, (int .i64 i.2))])) (fun q i => f_walk_Heap_L7 a0 kk4 fu q i.1 i.2 = some r) ?_ fu (([] : List (A8u8 × S_api_Blob)), (0 : Int)) h) (fun w a hm hs => norm hm hs [0] [0] [(4, (Value.map (some g2))), (15, v0_0), (16, (int .i64 (a0.length : Int))), (17, (int .i64 (0 : Int)))] (by decide) ⟨rfl, rfl, rfl, rfl, trivial⟩)
   clear h
   rintro k6 ⟨l5xm4, l5i17⟩ h
   have h : f_walk_Heap_L7 a0 kk4 fu k6 l5xm4 l5i17 = some r := h
   obtain _ | k6 := k6
   · rw [f_walk_Heap_L7] at h; cases h
   rw [f_walk_Heap_L7] at h
   refine aw_show (m := (memOf w0 Z0 [] [(oMapK Tryd.prog 47 g2 (fun x : A8u8 => ag (cA8u8 x)) (fun x : S_api_Blob => ag [(int .i64 x.Kind), (str x.Bytes)]) l5xm4)] [(fDat (tyList tyS_api_Blob) [v0_0] a0)])) (S := (tab [(4, (Value.map (some g2))), (15, v0_0), (16, (int .i64 (a0.length : Int))), (17, (int .i64 l5i17))])) ?_
   refine aw_sr ?_
   refine al_in rfl rfl rfl rfl ?_
   refine al_nt ?_
   refine aw_seq ?_
   refine aw_cond rfl (fun hb8 => ?_) (fun hb8 => ?_)
   ·replace h := bif_t hb8 h
    refine aw_skip ?_
    refine aq_then ?_
    refine aw_seq ?_
    refine aw_block ?_
    refine aw_sr ?_
    obtain ⟨u9, hu10, h⟩ := opt_some h
    refine al_idxD 0 hu10 rfl rfl rfl Tryd.underlying28 sz34 rfl (fun p11 => ?_)
    refine al_val (ov_loadP (ds := [(int .i64 u9.Kind), (str u9.Bytes)]) 0 rfl encS_api_Blob rfl Tryd.underlying34 sz34 rfl rfl rfl) ?_
    refine al_alloc (zs := [(int .i64 (0 : Int)), (str ([] : List UInt8))]) (zeroOf_to to34) rfl rfl (fun g12 => ?_)
    refine al_store (i := 0) (vs := [(int .i64 u9.Kind), (str u9.Bytes)]) (cs' := [(int .i64 u9.Kind), (str u9.Bytes)]) rfl rfl rfl sz34 (cv_rfl rfl) rfl (co_val rfl (co_val rfl co_nil)) (Nat.le_of_ble_eq_true rfl) rfl rfl ?_
    refine al_nt ?_
    refine aw_sr ?_
    refine al_val (ov_load (i := 0) (v := (ag [(int .i64 u9.Kind), (str u9.Bytes)])) rfl rfl Tryd.underlying34 sz34 rfl rfl rfl rfl) ?_
    obtain ⟨r14, hc13, h⟩ := opt_some h
    refine al_call (vs := [(ag [(int .i64 u9.Kind), (str u9.Bytes)])]) (f_pack_ID_ok fu u9 hc13) [] [] [0, 1] pre_nil rfl (by simp) (by decide) (.inl rfl) rfl Tryd.func31 rfl rfl rfl (fun _ => ?_)
    refine al_mv rfl rfl ?_
    refine al_ex rfl rfl rfl ?_
    refine al_ex rfl rfl rfl ?_
    refine al_alloc (zs := (cA8u8 (A8u8.mk (0 : UInt8) (0 : UInt8) (0 : UInt8) (0 : UInt8) (0 : UInt8) (0 : UInt8) (0 : UInt8) (0 : UInt8)))) (zeroOf_to to47) rfl rfl (fun g15 => ?_)
    refine al_store (i := 0) (vs := (cA8u8 r14.1)) (cs' := (cA8u8 r14.1)) rfl rfl rfl sz47 (cv_rfl rfl) rfl (co_all (oneA8u8 r14.1)) (Nat.le_of_ble_eq_true rfl) rfl rfl ?_
    refine al_as rfl rfl ?_
    refine al_nt ?_
    refine aw_seq ?_
    refine aw_sr ?_
    refine al_mv rfl rfl ?_
    refine al_in rfl rfl rfl rfl ?_
    refine al_nt ?_
    refine aw_cond rfl (fun hb16 => ?_) (fun hb16 => ?_)
    ·replace h := bif_t hb16 h
     refine aw_sr ?_
     refine al_mv rfl rfl ?_
     refine al_as rfl rfl ?_
     refine al_as rfl rfl ?_
     refine al_nt ?_
     refine aw_ret ?_
     refine aq_then_ret ?_
     refine aq_block_ret ?_
     refine aq_then_ret ?_
     refine aq_then_ret ?_
     refine aq_block_ret ?_
     refine aq_then_ret ?_
     refine aq_nilM (P := Tryd.prog) 47 (fun x : A8u8 => ag (cA8u8 x)) (fun x : S_api_Blob => ag [(int .i64 x.Kind), (str x.Bytes)]) ?_
     obtain rfl := Option.some.inj h
     exact fn_ret (Value.map none) [0] [] rfl rfl rfl rfl (res2 rfl rfl rfl) rfl rfl rfl (by decide)
    ·replace h := bif_f hb16 h
     refine aw_skip ?_
     refine aq_then ?_
     refine aw_seq ?_
     refine aw_sr ?_
     refine al_mv rfl rfl ?_
     refine al_val (ov_load (i := 0) (v := (ag (cA8u8 r14.1))) rfl rfl Tryd.underlying47 sz47 rfl rfl rfl rfl) ?_
     refine al_val (v := (Value.tuple #[(ag [(int .i64 ((gget l5xm4 r14.1).getD (S_api_Blob.mk (0 : Int) ([] : (List UInt8)))).Kind), (str ((gget l5xm4 r14.1).getD (S_api_Blob.mk (0 : Int) ([] : (List UInt8)))).Bytes)]), (bool (gget l5xm4 r14.1).isSome)])) (ov_lookupOkK (k := r14.1) (ek := (fun x : A8u8 => ag (cA8u8 x))) (ew := (fun x : S_api_Blob => ag [(int .i64 x.Kind), (str x.Bytes)])) (z := (S_api_Blob.mk (0 : Int) ([] : (List UInt8)))) 2 kd47 ki47 (kw47 r14.1) rfl rfl rfl Tryd.underlying76 (zeroOf_to to34) rfl) ?_
     refine al_mv rfl rfl ?_
     refine al_ex rfl rfl rfl ?_
     refine al_ex rfl rfl rfl ?_
     refine al_alloc (zs := [(int .i64 (0 : Int)), (str ([] : List UInt8))]) (zeroOf_to to34) rfl rfl (fun g17 => ?_)
     refine al_store (i := 0) (vs := [(int .i64 ((gget l5xm4 r14.1).getD (S_api_Blob.mk (0 : Int) ([] : (List UInt8)))).Kind), (str ((gget l5xm4 r14.1).getD (S_api_Blob.mk (0 : Int) ([] : (List UInt8)))).Bytes)]) (cs' := [(int .i64 ((gget l5xm4 r14.1).getD (S_api_Blob.mk (0 : Int) ([] : (List UInt8)))).Kind), (str ((gget l5xm4 r14.1).getD (S_api_Blob.mk (0 : Int) ([] : (List UInt8)))).Bytes)]) rfl rfl rfl sz34 (cv_rfl rfl) rfl (co_val rfl (co_val rfl co_nil)) (Nat.le_of_ble_eq_true rfl) rfl rfl ?_
     refine al_as rfl rfl ?_
     refine al_nt ?_
     obtain ⟨kk19, hkk19, h⟩ := lt_some h
     refine aw_seq_join (ι := Bool) (fun i => (memOf w0 Z0 [] [(oMapK Tryd.prog 47 g2 (fun x : A8u8 => ag (cA8u8 x)) (fun x : S_api_Blob => ag [(int .i64 x.Kind), (str x.Bytes)]) l5xm4), (oBox g12 34 [(int .i64 u9.Kind), (str u9.Bytes)]), (oBox g15 47 (cA8u8 r14.1))] [(fDat (tyList tyS_api_Blob) [v0_0] a0), (fPtr tyS_api_Blob p11 u9)])) (fun i => (tab [(4, (Value.map (some g2))), (6, (ptr g12 0)), (7, (ptr g15 0)), (15, v0_0), (16, (int .i64 (a0.length : Int))), (17, (int .i64 l5i17)), (40, (bool i))])) (fun i => kk19 i = some r) ?_ ?_
     ·rintro j18b40 h
      have h : kk19 j18b40 = some r := h
      rw [hkk19] at h
      dsimp only at h
      clear hkk19
      refine aw_show (m := (memOf w0 Z0 [] [(oMapK Tryd.prog 47 g2 (fun x : A8u8 => ag (cA8u8 x)) (fun x : S_api_Blob => ag [(int .i64 x.Kind), (str x.Bytes)]) l5xm4), (oBox g12 34 [(int .i64 u9.Kind), (str u9.Bytes)]), (oBox g15 47 (cA8u8 r14.1))] [(fDat (tyList tyS_api_Blob) [v0_0] a0), (fPtr tyS_api_Blob p11 u9)])) (S := (tab [(4, (Value.map (some g2))), (6, (ptr g12 0)), (7, (ptr g15 0)), (15, v0_0), (16, (int .i64 (a0.length : Int))), (17, (int .i64 l5i17)), (40, (bool j18b40))])) ?_
      refine aw_cond rfl (fun hb20 => ?_) (fun hb20 => ?_)
      ·replace h := bif_t hb20 h
       refine aw_sr ?_
       refine al_as rfl rfl ?_
       refine al_as rfl rfl ?_
       refine al_nt ?_
       refine aw_ret ?_
       refine aq_then_ret ?_
       refine aq_block_ret ?_
       refine aq_then_ret ?_
       refine aq_then_ret ?_
       refine aq_block_ret ?_
       refine aq_then_ret ?_
       refine aq_nilM (P := Tryd.prog) 47 (fun x : A8u8 => ag (cA8u8 x)) (fun x : S_api_Blob => ag [(int .i64 x.Kind), (str x.Bytes)]) ?_
       obtain rfl := Option.some.inj h
       exact fn_ret (Value.map none) [0] [] rfl rfl rfl rfl (res2 rfl rfl rfl) rfl rfl rfl (by decide)
      ·replace h := bif_f hb20 h
       refine aw_skip ?_
       refine aq_then ?_
       refine aw_region ?_
       refine al_mv rfl rfl ?_
       refine al_val (ov_load (i := 2) (v := (ag (cA8u8 r14.1))) rfl rfl Tryd.underlying47 sz47 rfl rfl rfl rfl) ?_
       refine al_val (ov_load (i := 1) (v := (ag [(int .i64 u9.Kind), (str u9.Bytes)])) rfl rfl Tryd.underlying34 sz34 rfl rfl rfl rfl) ?_
       refine al_mapSetK (ek := (fun x : A8u8 => ag (cA8u8 x))) (ew := (fun x : S_api_Blob => ag [(int .i64 x.Kind), (str x.Bytes)])) (k := r14.1) (v := u9) 0 kd47 ki47 (kw47 r14.1) rfl rfl rfl rfl Tryd.underlying76 rfl ?_
       refine al_nil ?_
       refine aq_block ?_
       refine aq_then ?_
       refine aw_region ?_
       refine al_in rfl rfl rfl rfl ?_
       refine al_mv rfl rfl ?_
       refine al_nil ?_
       exact aq_again k6 ((gset l5xm4 r14.1 u9), (IntKind.i64.wrap (l5i17 + (1 : Int)))) (Nat.lt_succ_self _) h (fun w a hm hs => norm hm hs [0] [0] [(4, (Value.map (some g2))), (15, v0_0), (16, (int .i64 (a0.length : Int))), (17, (int .i64 (IntKind.i64.wrap (l5i17 + (1 : Int)))))] (by decide) ⟨rfl, rfl, rfl, rfl, trivial⟩)
     ·clear hkk19
      refine aw_region ?_
      refine al_mv rfl rfl ?_
      refine al_mv rfl rfl ?_
      refine al_caseB 36 rfl (fun hb21 => ?_) (fun hb21 => ?_)
      ·replace h := bif_t hb21 h
       refine al_val (ov_load (i := 0) (v := (ag [(int .i64 ((gget l5xm4 r14.1).getD (S_api_Blob.mk (0 : Int) ([] : (List UInt8)))).Kind), (str ((gget l5xm4 r14.1).getD (S_api_Blob.mk (0 : Int) ([] : (List UInt8)))).Bytes)])) rfl rfl Tryd.underlying34 sz34 rfl rfl rfl rfl) ?_
       refine al_val (ov_load (i := 2) (v := (ag [(int .i64 u9.Kind), (str u9.Bytes)])) rfl rfl Tryd.underlying34 sz34 rfl rfl rfl rfl) ?_
       obtain ⟨hc22, h⟩ := req_some h
       obtain ⟨hc23, h⟩ := req_some h
       obtain ⟨hc24, h⟩ := req_some h
       obtain ⟨hc25, h⟩ := req_some h
       refine al_val (ov_neqA (cs := [(int .i64 ((gget l5xm4 r14.1).getD (S_api_Blob.mk (0 : Int) ([] : (List UInt8)))).Kind), (str ((gget l5xm4 r14.1).getD (S_api_Blob.mk (0 : Int) ([] : (List UInt8)))).Bytes)]) (ds := [(int .i64 u9.Kind), (str u9.Bytes)]) (ls := [3, 9]) (p := ((S_api_Blob.mk (((gget l5xm4 r14.1).getD (S_api_Blob.mk (0 : Int) ([] : (List UInt8)))).Kind) (((gget l5xm4 r14.1).getD (S_api_Blob.mk (0 : Int) ([] : (List UInt8)))).Bytes)) == u9)) eg34 kt34 lv34 rfl rfl (by kernel_rfl) (by kernel_rfl) (fit_cons (fit_int Tryd.underlying3 hc22) (fit_cons (fit_str Tryd.underlying9 hc23) fit_nil)) (fit_cons (fit_int Tryd.underlying3 hc24) (fit_cons (fit_str Tryd.underlying9 hc25) fit_nil)) (injS_api_Blob (x := (S_api_Blob.mk (((gget l5xm4 r14.1).getD (S_api_Blob.mk (0 : Int) ([] : (List UInt8)))).Kind) (((gget l5xm4 r14.1).getD (S_api_Blob.mk (0 : Int) ([] : (List UInt8)))).Bytes))) (y := u9)) rfl) ?_
       refine al_val (ov_pick_t rfl rfl rfl) ?_
       refine al_nil ?_
       exact aq_join (!((S_api_Blob.mk (((gget l5xm4 r14.1).getD (S_api_Blob.mk (0 : Int) ([] : (List UInt8)))).Kind) (((gget l5xm4 r14.1).getD (S_api_Blob.mk (0 : Int) ([] : (List UInt8)))).Bytes)) == u9)) h (fun w a hm hs => norm hm hs [3, 2, 1] [1, 0] [(4, (Value.map (some g2))), (6, (ptr g12 0)), (7, (ptr g15 0)), (15, v0_0), (16, (int .i64 (a0.length : Int))), (17, (int .i64 l5i17)), (40, (bool (!((S_api_Blob.mk (((gget l5xm4 r14.1).getD (S_api_Blob.mk (0 : Int) ([] : (List UInt8)))).Kind) (((gget l5xm4 r14.1).getD (S_api_Blob.mk (0 : Int) ([] : (List UInt8)))).Bytes)) == u9))))] (by decide) ⟨rfl, rfl, rfl, rfl, rfl, rfl, rfl, trivial⟩)
      ·replace h := bif_f hb21 h
       refine al_skip ?_
       refine al_skip ?_
       refine al_skip ?_
       refine al_val (ov_pick_f rfl rfl rfl) ?_
       refine al_nil ?_
       exact aq_join false h (fun w a hm hs => norm hm hs [3, 2, 1] [1, 0] [(4, (Value.map (some g2))), (6, (ptr g12 0)), (7, (ptr g15 0)), (15, v0_0), (16, (int .i64 (a0.length : Int))), (17, (int .i64 l5i17)), (40, (bool false))] (by decide) ⟨rfl, rfl, rfl, rfl, rfl, rfl, rfl, trivial⟩)
   ·replace h := bif_f hb8 h
    refine aw_exit ?_
    refine aq_then_exit ?_
    refine aq_then_exit ?_
    refine aq_block_exit ?_
    exact aq_join l5xm4 h (fun w a hm hs => norm hm hs [0] [0] [(4, (Value.map (some g2)))] (by decide) ⟨rfl, trivial⟩)
-- STUCK (*lumberroom/walk.reaper).find: lty ['pointer', 103]
def f_num_value_L5 (a0 : (List UInt8)) (kk2 : (Int → Option Int)) : Nat → Int → Int → Option Int
  | 0, _, _ => none
  | k4 + 1, l3i3, l3i7 => (bif (decide (l3i7 < (a0.length : Int))) then (req (0 ≤ l3i7 ∧ l3i7 < (a0.length : Int)) (f_num_value_L5 a0 kk2 k4 (bits .or .u64 (IntKind.u64.wrap (l3i3 * 2 ^ min ((8 : Int)).toNat (IntKind.bits .u64))) (IntKind.u64.wrap (En.bAt a0 l3i7))) (IntKind.i64.wrap (l3i7 + (1 : Int))))) else (kk2 l3i3))
def f_num_value (fu : Nat) (a0 : (List UInt8)) : Option Int := (lt (fun (j1i3 : Int) => (some j1i3)) fun (kk2 : Int → Option Int) => (f_num_value_L5 a0 kk2 fu (0 : Int) (0 : Int)))
set_option maxRecDepth 100000 in
theorem f_num_value_ok (fu : Nat) (a0 : (List UInt8)) {r : Int} (h : f_num_value fu a0 = some r) : FnOk Tryd.prog 228 [(str a0)] [] [] (fun (i : Unit) => { val := (int .u64 r) }) := by
 unfold f_num_value at h
 refine fn_enter Tryd.func228 rfl Tryd.ntmps228 rfl (fun w0 Z0 => ?_)
 refine aw_sr ?_
 refine al_as rfl rfl ?_
 refine al_nt ?_
 refine aw_sr ?_
 refine al_as rfl rfl ?_
 refine al_nt ?_
 obtain ⟨kk2, hkk2, h⟩ := lt_some h
 refine aw_seq_join (ι := Int) (fun i => (memOf w0 Z0 [] [] [])) (fun i => (tab [(3, (int .u64 i))])) (fun i => kk2 i = some r) ?_ ?_
 ·rintro j1i3 h
  have h : kk2 j1i3 = some r := h
  rw [hkk2] at h
  dsimp only at h
  clear hkk2
  refine aw_show (m := (memOf w0 Z0 [] [] [])) (S := (tab [(3, (int .u64 j1i3))])) ?_
  refine aw_sr ?_
  refine al_mv rfl rfl ?_
  refine al_as rfl rfl ?_
  refine al_nt ?_
  refine aw_ret ?_
  obtain rfl := Option.some.inj h
  exact fn_ret () [] [] rfl rfl rfl rfl (res1 rfl rfl) rfl rfl rfl (by decide)
 ·clear hkk2
  refine aw_sr ?_
  refine al_mv rfl rfl ?_
  refine al_val (ov_strLen Tryd.underlying9 rfl rfl) ?_
  refine al_mv rfl rfl ?_
  refine al_nt ?_
  refine aw_block ?_
  refine aw_state (aw_loop (ι := Int × Int) (fun i => (memOf w0 Z0 [] [] [])) (fun i => (tab [(0, (str a0)), (3, (int .u64 i.1)), (6, (int .i64 (a0.length : Int))), (7, (int .i64 i.2))])) (fun q i => f_num_value_L5 a0 kk2 q i.1 i.2 = some r) ?_ fu ((0 : Int), (0 : Int)) h) (fun w a hm hs => norm hm hs [] [] [(0, (str a0)), (3, (int .u64 (0 : Int))), (6, (int .i64 (a0.length : Int))), (7, (int .i64 (0 : Int)))] (by decide) ⟨rfl, rfl, rfl, rfl, trivial⟩)
  clear h
  rintro k4 ⟨l3i3, l3i7⟩ h
  have h : f_num_value_L5 a0 kk2 k4 l3i3 l3i7 = some r := h
  obtain _ | k4 := k4
  · rw [f_num_value_L5] at h; cases h
  rw [f_num_value_L5] at h
  refine aw_show (m := (memOf w0 Z0 [] [] [])) (S := (tab [(0, (str a0)), (3, (int .u64 l3i3)), (6, (int .i64 (a0.length : Int))), (7, (int .i64 l3i7))])) ?_
  refine aw_sr ?_
  refine al_in rfl rfl rfl rfl ?_
  refine al_nt ?_
  refine aw_seq ?_
  refine aw_cond rfl (fun hb6 => ?_) (fun hb6 => ?_)
  ·replace h := bif_t hb6 h
   refine aw_skip ?_
   refine aq_then ?_
   refine aw_seq ?_
   refine aw_block ?_
   refine aw_sr ?_
   refine al_mv rfl rfl ?_
   refine al_as rfl rfl ?_
   refine al_nt ?_
   refine aw_region ?_
   refine al_mv rfl rfl ?_
   refine al_val (ov_shl (by decide) rfl rfl rfl) ?_
   refine al_mv rfl rfl ?_
   refine al_mv rfl rfl ?_
   obtain ⟨hc7, h⟩ := req_some h
   refine al_val (ov_strIdx hc7.1 hc7.2 Tryd.underlying9 rfl rfl rfl) ?_
   refine al_val (ov_convInt (by rw [Tryd.underlying5]; rfl) Tryd.underlying115 rfl rfl) ?_
   refine al_in rfl rfl rfl rfl ?_
   refine al_as rfl rfl ?_
   refine al_nil ?_
   refine aq_block ?_
   refine aq_then ?_
   refine aw_region ?_
   refine al_in rfl rfl rfl rfl ?_
   refine al_mv rfl rfl ?_
   refine al_nil ?_
   exact aq_again k4 ((bits .or .u64 (IntKind.u64.wrap (l3i3 * 2 ^ min ((8 : Int)).toNat (IntKind.bits .u64))) (IntKind.u64.wrap (En.bAt a0 l3i7))), (IntKind.i64.wrap (l3i7 + (1 : Int)))) (Nat.lt_succ_self _) h (fun w a hm hs => norm hm hs [] [] [(0, (str a0)), (3, (int .u64 (bits .or .u64 (IntKind.u64.wrap (l3i3 * 2 ^ min ((8 : Int)).toNat (IntKind.bits .u64))) (IntKind.u64.wrap (En.bAt a0 l3i7))))), (6, (int .i64 (a0.length : Int))), (7, (int .i64 (IntKind.i64.wrap (l3i7 + (1 : Int)))))] (by decide) ⟨rfl, rfl, rfl, rfl, trivial⟩)
  ·replace h := bif_f hb6 h
   refine aw_exit ?_
   refine aq_then_exit ?_
   refine aq_then_exit ?_
   refine aq_block_exit ?_
   exact aq_join l3i3 h (fun w a hm hs => norm hm hs [] [] [(3, (int .u64 l3i3))] (by decide) ⟨rfl, trivial⟩)
def f_num_Get (fu : Nat) (a0 : (List UInt8)) : Option (Int × Int × Int) := (bif (a0 == ([] : List UInt8)) then (some ((0 : Int), (0 : Int), (3 : Int))) else (req (0 ≤ (0 : Int) ∧ (0 : Int) < (a0.length : Int)) (bif (decide ((IntKind.i64.wrap (En.bAt a0 (0 : Int))) > (8 : Int))) then (some ((0 : Int), (0 : Int), (4 : Int))) else (bif (decide ((a0.length : Int) < (IntKind.i64.wrap ((1 : Int) + (IntKind.i64.wrap (En.bAt a0 (0 : Int))))))) then (some ((0 : Int), (0 : Int), (3 : Int))) else (lt (fun (j5b20 : Bool) => (bif j5b20 then (some ((0 : Int), (0 : Int), (4 : Int))) else (req (0 ≤ (1 : Int) ∧ (1 : Int) ≤ (IntKind.i64.wrap ((1 : Int) + (IntKind.i64.wrap (En.bAt a0 (0 : Int))))) ∧ (IntKind.i64.wrap ((1 : Int) + (IntKind.i64.wrap (En.bAt a0 (0 : Int))))) ≤ (a0.length : Int)) (opt (f_num_value fu (cut a0 (1 : Int) (IntKind.i64.wrap ((1 : Int) + (IntKind.i64.wrap (En.bAt a0 (0 : Int))))))) fun (r10 : Int) => (some (r10, (IntKind.i64.wrap ((1 : Int) + (IntKind.i64.wrap (En.bAt a0 (0 : Int))))), (0 : Int))))))) fun (kk6 : Bool → Option (Int × Int × Int)) => (bif (decide ((IntKind.i64.wrap (En.bAt a0 (0 : Int))) > (0 : Int))) then (req (0 ≤ (1 : Int) ∧ (1 : Int) < (a0.length : Int)) (kk6 ((En.bAt a0 (1 : Int)) == (0 : Int)))) else (kk6 false)))))))
set_option maxRecDepth 100000 in
theorem f_num_Get_ok (fu : Nat) (a0 : (List UInt8)) {r : (Int × Int × Int)} (h : f_num_Get fu a0 = some r) : FnOk Tryd.prog 201 [(str a0)] [] [] (fun (i : Unit) => { val := (Value.tuple #[(int .u64 r.1), (int .i64 r.2.1), (int .i64 r.2.2)]) }) := by
 unfold f_num_Get at h
 refine fn_enter Tryd.func201 rfl Tryd.ntmps201 rfl (fun w0 Z0 => ?_)
 refine aw_sr ?_
 refine al_as rfl rfl ?_
 refine al_as rfl rfl ?_
 refine al_as rfl rfl ?_
 refine al_nt ?_
 refine aw_seq ?_
 refine aw_sr ?_
 refine al_mv rfl rfl ?_
 refine al_val (ov_strCmp rfl rfl rfl rfl) ?_
 refine al_nt ?_
 refine aw_cond rfl (fun hb1 => ?_) (fun hb1 => ?_)
 ·replace h := bif_t hb1 h
  refine aw_sr ?_
  refine al_as rfl rfl ?_
  refine al_as rfl rfl ?_
  refine al_as rfl rfl ?_
  refine al_nt ?_
  refine aw_ret ?_
  refine aq_then_ret ?_
  obtain rfl := Option.some.inj h
  exact fn_ret () [] [] rfl rfl rfl rfl (res3 rfl rfl rfl rfl) rfl rfl rfl (by decide)
 ·replace h := bif_f hb1 h
  refine aw_skip ?_
  refine aq_tr ?_
  refine al_mv rfl rfl ?_
  obtain ⟨hc2, h⟩ := req_some h
  refine al_val (ov_strIdx hc2.1 hc2.2 Tryd.underlying9 rfl rfl rfl) ?_
  refine al_val (ov_convInt (by rw [Tryd.underlying5]; rfl) Tryd.underlying3 rfl rfl) ?_
  refine al_as rfl rfl ?_
  refine al_nt ?_
  refine aw_seq ?_
  refine aw_block ?_
  refine aw_sr ?_
  refine al_mv rfl rfl ?_
  refine al_in rfl rfl rfl rfl ?_
  refine al_as rfl rfl ?_
  refine al_nt ?_
  refine aw_cond rfl (fun hb3 => ?_) (fun hb3 => ?_)
  ·replace h := bif_t hb3 h
   refine aw_sr ?_
   refine al_as rfl rfl ?_
   refine al_as rfl rfl ?_
   refine al_as rfl rfl ?_
   refine al_nt ?_
   refine aw_ret ?_
   refine aq_block_ret ?_
   refine aq_then_ret ?_
   obtain rfl := Option.some.inj h
   exact fn_ret () [] [] rfl rfl rfl rfl (res3 rfl rfl rfl rfl) rfl rfl rfl (by decide)
  ·replace h := bif_f hb3 h
   refine aw_sr ?_
   refine al_mv rfl rfl ?_
   refine al_val (ov_strLen Tryd.underlying9 rfl rfl) ?_
   refine al_mv rfl rfl ?_
   refine al_in rfl rfl rfl rfl ?_
   refine al_in rfl rfl rfl rfl ?_
   refine al_as rfl rfl ?_
   refine al_nt ?_
   refine aw_cond rfl (fun hb4 => ?_) (fun hb4 => ?_)
   ·replace h := bif_t hb4 h
    refine aw_sr ?_
    refine al_as rfl rfl ?_
    refine al_as rfl rfl ?_
    refine al_as rfl rfl ?_
    refine al_nt ?_
    refine aw_ret ?_
    refine aq_block_ret ?_
    refine aq_then_ret ?_
    obtain rfl := Option.some.inj h
    exact fn_ret () [] [] rfl rfl rfl rfl (res3 rfl rfl rfl rfl) rfl rfl rfl (by decide)
   ·replace h := bif_f hb4 h
    obtain ⟨kk6, hkk6, h⟩ := lt_some h
    refine aw_seq_join (ι := Bool) (fun i => (memOf w0 Z0 [] [] [])) (fun i => (tab [(0, (str a0)), (5, (int .i64 (IntKind.i64.wrap (En.bAt a0 (0 : Int))))), (20, (bool i))])) (fun i => kk6 i = some r) ?_ ?_
    ·rintro j5b20 h
     have h : kk6 j5b20 = some r := h
     rw [hkk6] at h
     dsimp only at h
     clear hkk6
     refine aw_show (m := (memOf w0 Z0 [] [] [])) (S := (tab [(0, (str a0)), (5, (int .i64 (IntKind.i64.wrap (En.bAt a0 (0 : Int))))), (20, (bool j5b20))])) ?_
     refine aw_cond rfl (fun hb7 => ?_) (fun hb7 => ?_)
     ·replace h := bif_t hb7 h
      refine aw_sr ?_
      refine al_as rfl rfl ?_
      refine al_as rfl rfl ?_
      refine al_as rfl rfl ?_
      refine al_nt ?_
      refine aw_ret ?_
      refine aq_block_ret ?_
      refine aq_then_ret ?_
      obtain rfl := Option.some.inj h
      exact fn_ret () [] [] rfl rfl rfl rfl (res3 rfl rfl rfl rfl) rfl rfl rfl (by decide)
     ·replace h := bif_f hb7 h
      refine aw_skip ?_
      refine aq_block ?_
      refine aq_tr ?_
      refine al_mv rfl rfl ?_
      refine al_mv rfl rfl ?_
      refine al_in rfl rfl rfl rfl ?_
      obtain ⟨hc8, h⟩ := req_some h
      refine al_val (ov_strCut hc8.1 hc8.2.1 hc8.2.2 Tryd.underlying9 rfl rfl rfl rfl) ?_
      obtain ⟨r10, hc9, h⟩ := opt_some h
      refine al_call (vs := [(str (cut a0 (1 : Int) (IntKind.i64.wrap ((1 : Int) + (IntKind.i64.wrap (En.bAt a0 (0 : Int)))))))]) (f_num_value_ok fu (cut a0 (1 : Int) (IntKind.i64.wrap ((1 : Int) + (IntKind.i64.wrap (En.bAt a0 (0 : Int)))))) hc9) [] [] [] pre_nil rfl (by simp) (by decide) (.inl rfl) rfl Tryd.func228 rfl rfl rfl (fun _ => ?_)
      refine al_mv rfl rfl ?_
      refine al_in rfl rfl rfl rfl ?_
      refine al_as rfl rfl ?_
      refine al_as rfl rfl ?_
      refine al_as rfl rfl ?_
      refine al_nt ?_
      refine aw_ret ?_
      obtain rfl := Option.some.inj h
      exact fn_ret () [] [] rfl rfl rfl rfl (res3 rfl rfl rfl rfl) rfl rfl rfl (by decide)
    ·clear hkk6
     refine aw_region ?_
     refine al_mv rfl rfl ?_
     refine al_in rfl rfl rfl rfl ?_
     refine al_mv rfl rfl ?_
     refine al_caseB 23 rfl (fun hb11 => ?_) (fun hb11 => ?_)
     ·replace h := bif_t hb11 h
      refine al_mv rfl rfl ?_
      obtain ⟨hc12, h⟩ := req_some h
      refine al_val (ov_strIdx hc12.1 hc12.2 Tryd.underlying9 rfl rfl rfl) ?_
      refine al_in rfl rfl rfl rfl ?_
      refine al_val (ov_pick_t rfl rfl rfl) ?_
      refine al_as rfl rfl ?_
      refine al_nil ?_
      exact aq_join ((En.bAt a0 (1 : Int)) == (0 : Int)) h (fun w a hm hs => norm hm hs [] [] [(0, (str a0)), (5, (int .i64 (IntKind.i64.wrap (En.bAt a0 (0 : Int))))), (20, (bool ((En.bAt a0 (1 : Int)) == (0 : Int))))] (by decide) ⟨rfl, rfl, rfl, trivial⟩)
     ·replace h := bif_f hb11 h
      refine al_skip ?_
      refine al_skip ?_
      refine al_skip ?_
      refine al_val (ov_pick_f rfl rfl rfl) ?_
      refine al_as rfl rfl ?_
      refine al_nil ?_
      exact aq_join false h (fun w a hm hs => norm hm hs [] [] [(0, (str a0)), (5, (int .i64 (IntKind.i64.wrap (En.bAt a0 (0 : Int))))), (20, (bool false))] (by decide) ⟨rfl, rfl, rfl, trivial⟩)
-- STUCK (*lumberroom/tree.reader).fail: lty ['pointer', 244]
-- STUCK (*lumberroom/tree.reader).number: lty ['pointer', 244]
def f_num_GetText_L5 (a0 : (List UInt8)) (kk2 : (Unit → Option ((List UInt8) × Int × Int))) : Nat → (List UInt8) → Int → Option ((List UInt8) × Int × Int)
  | 0, _, _ => none
  | k4 + 1, l3x5, l3i6 => (bif (decide (l3i6 < (a0.length : Int))) then (lt (fun (j7x5 : (List UInt8)) (j7i6 : Int) => (bif (decide ((j7x5.length : Int) > (1024 : Int))) then (some (([] : List UInt8), (0 : Int), (2 : Int))) else (f_num_GetText_L5 a0 kk2 k4 j7x5 (IntKind.i64.wrap (j7i6 + (1 : Int)))))) fun (kk8 : (List UInt8) → Int → Option ((List UInt8) × Int × Int)) => (req (0 ≤ l3i6 ∧ l3i6 < (a0.length : Int)) (bif ((En.bAt a0 l3i6) == (0 : Int)) then (bif ((IntKind.i64.wrap (l3i6 + (1 : Int))) == (a0.length : Int)) then (kk2 ()) else (req (0 ≤ (IntKind.i64.wrap (l3i6 + (1 : Int))) ∧ (IntKind.i64.wrap (l3i6 + (1 : Int))) < (a0.length : Int)) (bif ((En.bAt a0 (IntKind.i64.wrap (l3i6 + (1 : Int)))) == (0 : Int)) then (some (l3x5, (IntKind.i64.wrap ((IntKind.i64.wrap (l3i6 + (1 : Int))) + (1 : Int))), (0 : Int))) else (bif ((En.bAt a0 (IntKind.i64.wrap (l3i6 + (1 : Int)))) == (255 : Int)) then (req (0 ≤ (0 : Int) ∧ (0 : Int) ≤ 255) (req (((l3x5.length + ([(UInt8.ofNat ((0 : Int)).toNat)]).length) * 1 : Nat) ≤ 140737488355328 ∧ l3x5.length + ([(UInt8.ofNat ((0 : Int)).toNat)]).length ≤ 9223372036854775807) (kk8 (l3x5 ++ ([(UInt8.ofNat ((0 : Int)).toNat)])) (IntKind.i64.wrap (l3i6 + (1 : Int)))))) else (some (([] : List UInt8), (0 : Int), (4 : Int))))))) else (req (0 ≤ l3i6 ∧ l3i6 < (a0.length : Int)) (req (0 ≤ (En.bAt a0 l3i6) ∧ (En.bAt a0 l3i6) ≤ 255) (req (((l3x5.length + ([(UInt8.ofNat ((En.bAt a0 l3i6)).toNat)]).length) * 1 : Nat) ≤ 140737488355328 ∧ l3x5.length + ([(UInt8.ofNat ((En.bAt a0 l3i6)).toNat)]).length ≤ 9223372036854775807) (kk8 (l3x5 ++ ([(UInt8.ofNat ((En.bAt a0 l3i6)).toNat)])) l3i6))))))) else (kk2 ()))
def f_num_GetText (fu : Nat) (a0 : (List UInt8)) : Option ((List UInt8) × Int × Int) := (lt (fun (_ : Unit) => (some (([] : List UInt8), (0 : Int), (3 : Int)))) fun (kk2 : Unit → Option ((List UInt8) × Int × Int)) => (f_num_GetText_L5 a0 kk2 fu ([] : List UInt8) (0 : Int)))
set_option maxRecDepth 100000 in
theorem f_num_GetText_ok (fu : Nat) (a0 : (List UInt8)) {r : ((List UInt8) × Int × Int)} (h : f_num_GetText fu a0 = some r) : FnOk Tryd.prog 229 [(str a0)] [] [] (fun (i : Unit) => { val := (Value.tuple #[(str r.1), (int .i64 r.2.1), (int .i64 r.2.2)]) }) := by
 unfold f_num_GetText at h
 refine fn_enter Tryd.func229 rfl Tryd.ntmps229 rfl (fun w0 Z0 => ?_)
 refine aw_sr ?_
 refine al_as rfl rfl ?_
 refine al_as rfl rfl ?_
 refine al_as rfl rfl ?_
 refine al_nt ?_
 refine aw_sr ?_
 refine al_as rfl rfl ?_
 refine al_nt ?_
 obtain ⟨kk2, hkk2, h⟩ := lt_some h
 refine aw_seq_join (ι := Unit) (fun i => (memOf w0 Z0 [] [] [])) (fun i => (tab [])) (fun i => kk2 () = some r) ?_ ?_
 ·rintro _ h
  have h : kk2 () = some r := h
  rw [hkk2] at h
  dsimp only at h
  clear hkk2
  refine aw_show (m := (memOf w0 Z0 [] [] [])) (S := (tab [])) ?_
  refine aw_sr ?_
  refine al_as rfl rfl ?_
  refine al_as rfl rfl ?_
  refine al_as rfl rfl ?_
  refine al_nt ?_
  refine aw_ret ?_
  obtain rfl := Option.some.inj h
  exact fn_ret () [] [] rfl rfl rfl rfl (res3 rfl rfl rfl rfl) rfl rfl rfl (by decide)
 ·clear hkk2
  refine aw_sr ?_
  refine al_as rfl rfl ?_
  refine al_nt ?_
  refine aw_block ?_
  refine aw_nilR 5 tyU8 ?_
  refine aw_state (aw_loop (ι := Value × (List UInt8) × Int) (fun i => (memOf w0 Z0 [] [(oRow i.1 5 tyU8 i.2.1)] [])) (fun i => (tab [(0, (str a0)), (5, i.1), (6, (int .i64 i.2.2))])) (fun q i => f_num_GetText_L5 a0 kk2 q i.2.1 i.2.2 = some r) ?_ fu ((Value.slice none 0 0), ([] : List UInt8), (0 : Int)) h) (fun w a hm hs => norm hm hs [0] [] [(0, (str a0)), (5, (Value.slice none 0 0)), (6, (int .i64 (0 : Int)))] (by decide) ⟨rfl, rfl, rfl, trivial⟩)
  clear h
  rintro k4 ⟨l3v5, l3x5, l3i6⟩ h
  have h : f_num_GetText_L5 a0 kk2 k4 l3x5 l3i6 = some r := h
  obtain _ | k4 := k4
  · rw [f_num_GetText_L5] at h; cases h
  rw [f_num_GetText_L5] at h
  refine aw_show (m := (memOf w0 Z0 [] [(oRow l3v5 5 tyU8 l3x5)] [])) (S := (tab [(0, (str a0)), (5, l3v5), (6, (int .i64 l3i6))])) ?_
  refine aw_seq ?_
  refine aw_sr ?_
  refine al_mv rfl rfl ?_
  refine al_mv rfl rfl ?_
  refine al_val (ov_strLen Tryd.underlying9 rfl rfl) ?_
  refine al_in rfl rfl rfl rfl ?_
  refine al_nt ?_
  refine aw_cond rfl (fun hb6 => ?_) (fun hb6 => ?_)
  ·replace h := bif_t hb6 h
   refine aw_skip ?_
   refine aq_then ?_
   refine aw_seq ?_
   refine aw_block ?_
   obtain ⟨kk8, hkk8, h⟩ := lt_some h
   refine aw_seq_join (ι := Value × (List UInt8) × Int) (fun i => (memOf w0 Z0 [] [(oRow i.1 5 tyU8 i.2.1)] [])) (fun i => (tab [(0, (str a0)), (5, i.1), (6, (int .i64 i.2.2))])) (fun i => kk8 i.2.1 i.2.2 = some r) ?_ ?_
   ·rintro ⟨j7v5, j7x5, j7i6⟩ h
    have h : kk8 j7x5 j7i6 = some r := h
    rw [hkk8] at h
    dsimp only at h
    clear hkk8
    refine aw_show (m := (memOf w0 Z0 [] [(oRow j7v5 5 tyU8 j7x5)] [])) (S := (tab [(0, (str a0)), (5, j7v5), (6, (int .i64 j7i6))])) ?_
    refine aw_sr ?_
    refine al_mv rfl rfl ?_
    refine al_val (ov_lenR 0 rfl rfl Tryd.underlying113 rfl) ?_
    refine al_in rfl rfl rfl rfl ?_
    refine al_nt ?_
    refine aw_cond rfl (fun hb9 => ?_) (fun hb9 => ?_)
    ·replace h := bif_t hb9 h
     refine aw_sr ?_
     refine al_as rfl rfl ?_
     refine al_as rfl rfl ?_
     refine al_as rfl rfl ?_
     refine al_nt ?_
     refine aw_ret ?_
     refine aq_block_ret ?_
     refine aq_then_ret ?_
     refine aq_then_ret ?_
     refine aq_block_ret ?_
     refine aq_then_ret ?_
     obtain rfl := Option.some.inj h
     exact fn_ret () [] [] rfl rfl rfl rfl (res3 rfl rfl rfl rfl) rfl rfl rfl (by decide)
    ·replace h := bif_f hb9 h
     refine aw_skip ?_
     refine aq_block ?_
     refine aq_then ?_
     refine aw_region ?_
     refine al_mv rfl rfl ?_
     refine al_in rfl rfl rfl rfl ?_
     refine al_as rfl rfl ?_
     refine al_nil ?_
     exact aq_again k4 (j7v5, j7x5, (IntKind.i64.wrap (j7i6 + (1 : Int)))) (Nat.lt_succ_self _) h (fun w a hm hs => norm hm hs [0] [] [(0, (str a0)), (5, j7v5), (6, (int .i64 (IntKind.i64.wrap (j7i6 + (1 : Int)))))] (by decide) ⟨rfl, rfl, rfl, trivial⟩)
   ·clear hkk8
    refine aw_sr ?_
    refine al_mv rfl rfl ?_
    refine al_mv rfl rfl ?_
    obtain ⟨hc10, h⟩ := req_some h
    refine al_val (ov_strIdx hc10.1 hc10.2 Tryd.underlying9 rfl rfl rfl) ?_
    refine al_in rfl rfl rfl rfl ?_
    refine al_nt ?_
    refine aw_cond rfl (fun hb11 => ?_) (fun hb11 => ?_)
    ·replace h := bif_t hb11 h
     refine aw_seq ?_
     refine aw_sr ?_
     refine al_mv rfl rfl ?_
     refine al_in rfl rfl rfl rfl ?_
     refine al_as rfl rfl ?_
     refine al_nt ?_
     refine aw_sr ?_
     refine al_mv rfl rfl ?_
     refine al_mv rfl rfl ?_
     refine al_val (ov_strLen Tryd.underlying9 rfl rfl) ?_
     refine al_in rfl rfl rfl rfl ?_
     refine al_nt ?_
     refine aw_cond rfl (fun hb12 => ?_) (fun hb12 => ?_)
     ·replace h := bif_t hb12 h
      refine aw_exit ?_
      refine aq_then_exit ?_
      refine aq_then_exit ?_
      refine aq_block_other rfl ?_
      refine aq_then_exit ?_
      refine aq_then_exit ?_
      refine aq_block_exit ?_
      exact aq_join () h (fun w a hm hs => norm hm hs [] [] [] (by decide) trivial)
     ·replace h := bif_f hb12 h
      refine aw_skip ?_
      refine aq_then ?_
      refine aw_seq ?_
      refine aw_sr ?_
      refine al_mv rfl rfl ?_
      refine al_mv rfl rfl ?_
      obtain ⟨hc13, h⟩ := req_some h
      refine al_val (ov_strIdx hc13.1 hc13.2 Tryd.underlying9 rfl rfl rfl) ?_
      refine al_nt ?_
      refine aw_block ?_
      refine aw_sr ?_
      refine al_in rfl rfl rfl rfl ?_
      refine al_as rfl rfl ?_
      refine al_nt ?_
      refine aw_cond rfl (fun hb14 => ?_) (fun hb14 => ?_)
      ·replace h := bif_t hb14 h
       refine aw_sr ?_
       refine al_mv rfl rfl ?_
       refine al_val (ov_toStrR 0 rfl rfl Tryd.underlying113 Tryd.underlying5 Tryd.underlying9 rfl) ?_
       refine al_mv rfl rfl ?_
       refine al_in rfl rfl rfl rfl ?_
       refine al_as rfl rfl ?_
       refine al_as rfl rfl ?_
       refine al_as rfl rfl ?_
       refine al_nt ?_
       refine aw_ret ?_
       refine aq_block_ret ?_
       refine aq_then_ret ?_
       refine aq_then_ret ?_
       refine aq_block_ret ?_
       refine aq_then_ret ?_
       refine aq_then_ret ?_
       refine aq_block_ret ?_
       refine aq_then_ret ?_
       obtain rfl := Option.some.inj h
       exact fn_ret () [] [] rfl rfl rfl rfl (res3 rfl rfl rfl rfl) rfl rfl rfl (by decide)
      ·replace h := bif_f hb14 h
       refine aw_sr ?_
       refine al_in rfl rfl rfl rfl ?_
       refine al_as rfl rfl ?_
       refine al_nt ?_
       refine aw_cond rfl (fun hb15 => ?_) (fun hb15 => ?_)
       ·replace h := bif_t hb15 h
        refine aw_skip ?_
        refine aq_block ?_
        refine aq_then ?_
        refine aw_region ?_
        refine al_mv rfl rfl ?_
        obtain ⟨hc17, h⟩ := req_some h
        refine al_buildSlice (τ := tyU8) (e := 5) (k := 1) (sz := 0) (by_ := 0) (z := undef) (cs := [(int .u8 (0 : Int))]) (xs := [(UInt8.ofNat ((0 : Int)).toNat)]) rfl (by decide) (fun w a hm hs => ⟨([(int .u8 (0 : Int))]).toArray, rfl, by simp only [List.map_toArray, List.map_cons, List.map_nil, hs.ev (x := .const (int .u8 (0 : Int))) rfl]; exact run_bs [(int .u8 (0 : Int))] [(int .u8 (0 : Int))] Tryd.underlying113 to5 rfl rfl (bs_cons (l := [(int .u8 (0 : Int))]) (cs := []) (cv_rfl rfl) rfl bs_nil) hm⟩) (fun hm => ⟨_, _, rfl, (fun _ => u8_rep hc17) hm, rfl⟩) rfl (fun v16 => ?_)
        obtain ⟨hc18, h⟩ := req_some h
        refine al_append 1 hc18.1 hc18.2 rfl (src_own (i := 1) 0 rfl) rfl rfl Tryd.underlying113 to5 rfl rfl rfl (fun v19 => ?_)
        refine al_as rfl rfl ?_
        refine al_nil ?_
        exact aq_join (v19, (l3x5 ++ ([(UInt8.ofNat ((0 : Int)).toNat)])), (IntKind.i64.wrap (l3i6 + (1 : Int)))) h (fun w a hm hs => norm hm hs [1] [] [(0, (str a0)), (5, v19), (6, (int .i64 (IntKind.i64.wrap (l3i6 + (1 : Int)))))] (by decide) ⟨rfl, rfl, rfl, trivial⟩)
       ·replace h := bif_f hb15 h
        refine aw_sr ?_
        refine al_as rfl rfl ?_
        refine al_as rfl rfl ?_
        refine al_as rfl rfl ?_
        refine al_nt ?_
        refine aw_ret ?_
        refine aq_block_ret ?_
        refine aq_then_ret ?_
        refine aq_then_ret ?_
        refine aq_block_ret ?_
        refine aq_then_ret ?_
        refine aq_then_ret ?_
        refine aq_block_ret ?_
        refine aq_then_ret ?_
        obtain rfl := Option.some.inj h
        exact fn_ret () [] [] rfl rfl rfl rfl (res3 rfl rfl rfl rfl) rfl rfl rfl (by decide)
    ·replace h := bif_f hb11 h
     refine aw_region ?_
     refine al_mv rfl rfl ?_
     refine al_mv rfl rfl ?_
     refine al_mv rfl rfl ?_
     obtain ⟨hc20, h⟩ := req_some h
     refine al_val (ov_strIdx hc20.1 hc20.2 Tryd.underlying9 rfl rfl rfl) ?_
     obtain ⟨hc22, h⟩ := req_some h
     refine al_buildSlice (τ := tyU8) (e := 5) (k := 1) (sz := 0) (by_ := 0) (z := undef) (cs := [(int .u8 (En.bAt a0 l3i6))]) (xs := [(UInt8.ofNat ((En.bAt a0 l3i6)).toNat)]) rfl (by decide) (fun w a hm hs => ⟨([(int .u8 (En.bAt a0 l3i6))]).toArray, rfl, by simp only [List.map_toArray, List.map_cons, List.map_nil, hs.ev (x := .tmp 40) rfl]; exact run_bs [(int .u8 (En.bAt a0 l3i6))] [(int .u8 (En.bAt a0 l3i6))] Tryd.underlying113 to5 rfl rfl (bs_cons (l := [(int .u8 (En.bAt a0 l3i6))]) (cs := []) (cv_rfl rfl) rfl bs_nil) hm⟩) (fun hm => ⟨_, _, rfl, (fun _ => u8_rep hc22) hm, rfl⟩) rfl (fun v21 => ?_)
     obtain ⟨hc23, h⟩ := req_some h
     refine al_append 1 hc23.1 hc23.2 rfl (src_own (i := 1) 0 rfl) rfl rfl Tryd.underlying113 to5 rfl rfl rfl (fun v24 => ?_)
     refine al_as rfl rfl ?_
     refine al_nil ?_
     exact aq_join (v24, (l3x5 ++ ([(UInt8.ofNat ((En.bAt a0 l3i6)).toNat)])), l3i6) h (fun w a hm hs => norm hm hs [1] [] [(0, (str a0)), (5, v24), (6, (int .i64 l3i6))] (by decide) ⟨rfl, rfl, rfl, trivial⟩)
  ·replace h := bif_f hb6 h
   refine aw_exit ?_
   refine aq_then_exit ?_
   refine aq_then_exit ?_
   refine aq_block_exit ?_
   exact aq_join () h (fun w a hm hs => norm hm hs [] [] [] (by decide) trivial)
-- STUCK (*lumberroom/tree.reader).text: lty ['pointer', 244]
-- STUCK (*lumberroom/tree.reader).bytes: lty ['pointer', 244]
def f_num_turned_L7 (a0 : (List UInt8)) (kk4 : ((List UInt8) → Option (List UInt8))) : Nat → (List UInt8) → Int → Option (List UInt8)
  | 0, _, _ => none
  | k6 + 1, l5x3, l5i9 => (bif (decide (l5i9 < (a0.length : Int))) then (opt (at? l5x3 l5i9) fun (u9 : UInt8) => (opt (at? l5x3 l5i9) fun (u13 : UInt8) => (req (0 ≤ (bits .xor .u8 (if IntKind.signed .u8 then -1 else IntKind.max .u8) (u9.toNat : Int)) ∧ (bits .xor .u8 (if IntKind.signed .u8 then -1 else IntKind.max .u8) (u9.toNat : Int)) ≤ 255) (f_num_turned_L7 a0 kk4 k6 (l5x3.set (l5i9).toNat (UInt8.ofNat ((bits .xor .u8 (if IntKind.signed .u8 then -1 else IntKind.max .u8) (u9.toNat : Int))).toNat)) (IntKind.i64.wrap (l5i9 + (1 : Int))))))) else (kk4 l5x3))
def f_num_turned (fu : Nat) (a0 : (List UInt8)) : Option (List UInt8) := (req (a0.length ≤ 9223372036854775807) (lt (fun (j3x3 : (List UInt8)) => (some j3x3)) fun (kk4 : (List UInt8) → Option (List UInt8)) => (f_num_turned_L7 a0 kk4 fu a0 (0 : Int))))
set_option maxRecDepth 100000 in
theorem f_num_turned_ok (fu : Nat) (a0 : (List UInt8)) {r : (List UInt8)} (h : f_num_turned fu a0 = some r) : FnOk Tryd.prog 240 [(str a0)] [] [] (fun (i : Unit) => { val := (str r) }) := by
 unfold f_num_turned at h
 refine fn_enter Tryd.func240 rfl Tryd.ntmps240 rfl (fun w0 Z0 => ?_)
 refine aw_sr ?_
 refine al_as rfl rfl ?_
 refine al_nt ?_
 refine aw_sr ?_
 refine al_mv rfl rfl ?_
 obtain ⟨hc1, h⟩ := req_some h
 refine al_bytesO hc1 rfl Tryd.underlying9 Tryd.underlying113 Tryd.underlying5 rfl (fun s2 => ?_)
 refine al_as rfl rfl ?_
 refine al_nt ?_
 obtain ⟨kk4, hkk4, h⟩ := lt_some h
 refine aw_seq_join (ι := (List UInt8)) (fun i => (memOf w0 Z0 [] [(oBy s2 5 i)] [])) (fun i => (tab [(3, s2)])) (fun i => kk4 i = some r) ?_ ?_
 ·rintro j3x3 h
  have h : kk4 j3x3 = some r := h
  rw [hkk4] at h
  dsimp only at h
  clear hkk4
  refine aw_show (m := (memOf w0 Z0 [] [(oBy s2 5 j3x3)] [])) (S := (tab [(3, s2)])) ?_
  refine aw_sr ?_
  refine al_mv rfl rfl ?_
  refine al_val (ov_toStrO 0 rfl rfl Tryd.underlying113 Tryd.underlying5 Tryd.underlying9 rfl) ?_
  refine al_as rfl rfl ?_
  refine al_nt ?_
  refine aw_ret ?_
  obtain rfl := Option.some.inj h
  exact fn_ret () [] [] rfl rfl rfl rfl (res1 rfl rfl) rfl rfl rfl (by decide)
 ·clear hkk4
  refine aw_sr ?_
  refine al_mv rfl rfl ?_
  refine al_val (ov_lenO 0 rfl rfl Tryd.underlying113 rfl) ?_
  refine al_mv rfl rfl ?_
  refine al_nt ?_
  refine aw_block ?_
  refine aw_state (aw_loop (ι := (List UInt8) × Int) (fun i => (memOf w0 Z0 [] [(oBy s2 5 i.1)] [])) (fun i => (tab [(3, s2), (8, (int .i64 (a0.length : Int))), (9, (int .i64 i.2))])) (fun q i => f_num_turned_L7 a0 kk4 q i.1 i.2 = some r) ?_ fu (a0, (0 : Int)) h) (fun w a hm hs => norm hm hs [0] [] [(3, s2), (8, (int .i64 (a0.length : Int))), (9, (int .i64 (0 : Int)))] (by decide) ⟨rfl, rfl, rfl, trivial⟩)
  clear h
  rintro k6 ⟨l5x3, l5i9⟩ h
  have h : f_num_turned_L7 a0 kk4 k6 l5x3 l5i9 = some r := h
  obtain _ | k6 := k6
  · rw [f_num_turned_L7] at h; cases h
  rw [f_num_turned_L7] at h
  refine aw_show (m := (memOf w0 Z0 [] [(oBy s2 5 l5x3)] [])) (S := (tab [(3, s2), (8, (int .i64 (a0.length : Int))), (9, (int .i64 l5i9))])) ?_
  refine aw_sr ?_
  refine al_in rfl rfl rfl rfl ?_
  refine al_nt ?_
  refine aw_seq ?_
  refine aw_cond rfl (fun hb8 => ?_) (fun hb8 => ?_)
  ·replace h := bif_t hb8 h
   refine aw_skip ?_
   refine aq_then ?_
   refine aw_seq ?_
   refine aw_block ?_
   refine aw_sr ?_
   refine al_mv rfl rfl ?_
   refine al_as rfl rfl ?_
   refine al_nt ?_
   refine aw_region ?_
   refine al_mv rfl rfl ?_
   refine al_mv rfl rfl ?_
   refine al_mv rfl rfl ?_
   refine al_mv rfl rfl ?_
   obtain ⟨u9, hu10, h⟩ := opt_some h
   refine al_idxO 0 (at_some hu10).1 (at_some hu10).2.1 rfl rfl rfl Tryd.underlying113 sz5 rfl (fun p11 hp12 => ?_)
   refine al_val (ov_loadO (ds := [(int .u8 (u9.toNat : Int))]) 0 rfl hp12 (at_some hu10).2.2 (fun h => h) rfl Tryd.underlying5 sz5 rfl rfl rfl) ?_
   refine al_val (ov_compl rfl rfl) ?_
   obtain ⟨u13, hu14, h⟩ := opt_some h
   refine al_idxO 0 (at_some hu14).1 (at_some hu14).2.1 rfl rfl rfl Tryd.underlying113 sz5 rfl (fun p15 hp16 => ?_)
   obtain ⟨hc17, h⟩ := req_some h
   refine al_storeO (k := (l5i9).toNat) (x := (UInt8.ofNat ((bits .xor .u8 (if IntKind.signed .u8 then -1 else IntKind.max .u8) (u9.toNat : Int))).toNat)) (vs := [(int .u8 (bits .xor .u8 (if IntKind.signed .u8 then -1 else IntKind.max .u8) (u9.toNat : Int)))]) 0 rfl hp16 (idx_lt hu14) rfl rfl (cv_rfl rfl) (fun _ => u8_rep hc17) sz5 rfl ?_
   refine al_nil ?_
   refine aq_block ?_
   refine aq_then ?_
   refine aw_region ?_
   refine al_in rfl rfl rfl rfl ?_
   refine al_mv rfl rfl ?_
   refine al_nil ?_
   exact aq_again k6 ((l5x3.set (l5i9).toNat (UInt8.ofNat ((bits .xor .u8 (if IntKind.signed .u8 then -1 else IntKind.max .u8) (u9.toNat : Int))).toNat)), (IntKind.i64.wrap (l5i9 + (1 : Int)))) (Nat.lt_succ_self _) h (fun w a hm hs => norm hm hs [0] [] [(3, s2), (8, (int .i64 (a0.length : Int))), (9, (int .i64 (IntKind.i64.wrap (l5i9 + (1 : Int)))))] (by decide) ⟨rfl, rfl, rfl, trivial⟩)
  ·replace h := bif_f hb8 h
   refine aw_exit ?_
   refine aq_then_exit ?_
   refine aq_then_exit ?_
   refine aq_block_exit ?_
   exact aq_join l5x3 h (fun w a hm hs => norm hm hs [0] [] [(3, s2)] (by decide) ⟨rfl, trivial⟩)
def f_num_GetInt (fu : Nat) (a0 : (List UInt8)) : Option (Int × Int × Int) := (bif (a0 == ([] : List UInt8)) then (some ((0 : Int), (0 : Int), (3 : Int))) else (req (0 ≤ (0 : Int) ∧ (0 : Int) < (a0.length : Int)) (req (0 ≤ (0 : Int) ∧ (0 : Int) < (a0.length : Int)) (lt (fun (j4i5 : Int) => (bif (decide (j4i5 > (8 : Int))) then (some ((0 : Int), (0 : Int), (4 : Int))) else (bif (decide ((a0.length : Int) < (IntKind.i64.wrap ((1 : Int) + j4i5)))) then (some ((0 : Int), (0 : Int), (3 : Int))) else (req (0 ≤ (1 : Int) ∧ (1 : Int) ≤ (IntKind.i64.wrap ((1 : Int) + j4i5)) ∧ (IntKind.i64.wrap ((1 : Int) + j4i5)) ≤ (a0.length : Int)) (lt (fun (j9s7 : (List UInt8)) => (opt (f_num_value fu j9s7) fun (r12 : Int) => (lt (fun (j13b51 : Bool) => (bif j13b51 then (some ((0 : Int), (0 : Int), (4 : Int))) else (bif (decide ((En.bAt a0 (0 : Int)) < (128 : Int))) then (some ((IntKind.i64.wrap ((-1 : Int) - (IntKind.i64.wrap r12))), (IntKind.i64.wrap ((1 : Int) + j4i5)), (0 : Int))) else (some ((IntKind.i64.wrap r12), (IntKind.i64.wrap ((1 : Int) + j4i5)), (0 : Int)))))) fun (kk14 : Bool → Option (Int × Int × Int)) => (bif (decide (j4i5 > (0 : Int))) then (req (0 ≤ (0 : Int) ∧ (0 : Int) < (j9s7.length : Int)) (bif ((En.bAt j9s7 (0 : Int)) == (0 : Int)) then (kk14 true) else (kk14 (decide (r12 > (9223372036854775807 : Int)))))) else (kk14 (decide (r12 > (9223372036854775807 : Int)))))))) fun (kk10 : (List UInt8) → Option (Int × Int × Int)) => (bif (decide ((En.bAt a0 (0 : Int)) < (128 : Int))) then (opt (f_num_turned fu (cut a0 (1 : Int) (IntKind.i64.wrap ((1 : Int) + j4i5)))) fun (r22 : (List UInt8)) => (kk10 r22)) else (kk10 (cut a0 (1 : Int) (IntKind.i64.wrap ((1 : Int) + j4i5)))))))))) fun (kk5 : Int → Option (Int × Int × Int)) => (bif (decide ((En.bAt a0 (0 : Int)) < (128 : Int))) then (req (0 ≤ (0 : Int) ∧ (0 : Int) < (a0.length : Int)) (kk5 (IntKind.i64.wrap ((127 : Int) - (IntKind.i64.wrap (En.bAt a0 (0 : Int))))))) else (kk5 (IntKind.i64.wrap ((IntKind.i64.wrap (En.bAt a0 (0 : Int))) - (128 : Int)))))))))
set_option maxRecDepth 100000 in
set_option maxHeartbeats 2000000 in
theorem f_num_GetInt_ok (fu : Nat) (a0 : (List UInt8)) {r : (Int × Int × Int)} (h : f_num_GetInt fu a0 = some r) : FnOk Tryd.prog 230 [(str a0)] [] [] (fun (i : Unit) => { val := (Value.tuple #[(int .i64 r.1), (int .i64 r.2.1), (int .i64 r.2.2)]) }) := by
 unfold f_num_GetInt at h
 refine fn_enter Tryd.func230 rfl Tryd.ntmps230 rfl (fun w0 Z0 => ?_)
 refine aw_sr ?_
 refine al_as rfl rfl ?_
 refine al_as rfl rfl ?_
 refine al_as rfl rfl ?_
 refine al_nt ?_
 refine aw_seq ?_
 refine aw_sr ?_
 refine al_mv rfl rfl ?_
 refine al_val (ov_strCmp rfl rfl rfl rfl) ?_
 refine al_nt ?_
 refine aw_cond rfl (fun hb1 => ?_) (fun hb1 => ?_)
 ·replace h := bif_t hb1 h
  refine aw_sr ?_
  refine al_as rfl rfl ?_
  refine al_as rfl rfl ?_
  refine al_as rfl rfl ?_
  refine al_nt ?_
  refine aw_ret ?_
  refine aq_then_ret ?_
  obtain rfl := Option.some.inj h
  exact fn_ret () [] [] rfl rfl rfl rfl (res3 rfl rfl rfl rfl) rfl rfl rfl (by decide)
 ·replace h := bif_f hb1 h
  refine aw_skip ?_
  refine aq_then ?_
  refine aw_seq ?_
  obtain ⟨hc2, h⟩ := req_some h
  obtain ⟨hc3, h⟩ := req_some h
  refine aw_region_draw 8 [(11, (fun u => fEq u (str a0))), (12, (fun u => fEq u (int .u8 (En.bAt a0 (0 : Int))))), (13, (fun u => fEq u (int .i64 (IntKind.i64.wrap (En.bAt a0 (0 : Int)))))), (14, (fun u => fEq u (int .i64 (IntKind.i64.wrap ((IntKind.i64.wrap (En.bAt a0 (0 : Int))) - (128 : Int)))))), (15, (fun u => fEq u (str a0))), (16, (fun u => fEq u (int .u8 (En.bAt a0 (0 : Int))))), (17, (fun u => fEq u (bool (decide ((En.bAt a0 (0 : Int)) < (128 : Int)))))), (5, (fun u => fEq u (int .i64 (IntKind.i64.wrap ((IntKind.i64.wrap (En.bAt a0 (0 : Int))) - (128 : Int))))))] (tab [(0, (str a0))]) mixed (by kernel_rfl) rfl rfl rfl (fun a hs => hs.tab _ (allT_mem ⟨rfl, trivial⟩)) ⟨⟨rfl, ld_val (ov_move rfl rfl)⟩, ⟨rfl, ld_eq (j := 0) rfl rfl (ld_val (ov_strIdx hc2.1 hc2.2 Tryd.underlying9 rfl rfl rfl))⟩, ⟨rfl, ld_eq (j := 1) rfl rfl (ld_val (ov_convInt (by rw [Tryd.underlying5]; rfl) Tryd.underlying3 rfl rfl))⟩, ⟨rfl, ld_eq (j := 2) rfl rfl (ld_val (ov_int rfl rfl rfl rfl))⟩, ⟨rfl, ld_val (ov_move rfl rfl)⟩, ⟨rfl, ld_eq (j := 4) rfl rfl (ld_val (ov_strIdx hc3.1 hc3.2 Tryd.underlying9 rfl rfl rfl))⟩, ⟨rfl, ld_eq (j := 5) rfl rfl (ld_val (ov_int rfl rfl rfl rfl))⟩, ⟨rfl, ld_eq (j := 3) rfl rfl (ld_val (ov_assign rfl rfl))⟩, trivial⟩ ?_
  refine tl_eq 6 rfl ?_
  refine tl_eq 7 rfl ?_
  refine tl_done ?_
  refine al_as rfl rfl ?_
  refine al_nt ?_
  obtain ⟨kk5, hkk5, h⟩ := lt_some h
  refine aw_seq_join (ι := Int) (fun i => (memOf w0 Z0 [] [] [])) (fun i => (tab [(0, (str a0)), (5, (int .i64 i)), (6, (bool (decide ((En.bAt a0 (0 : Int)) < (128 : Int)))))])) (fun i => kk5 i = some r) ?_ ?_
  ·rintro j4i5 h
   have h : kk5 j4i5 = some r := h
   rw [hkk5] at h
   dsimp only at h
   clear hkk5
   refine aw_show (m := (memOf w0 Z0 [] [] [])) (S := (tab [(0, (str a0)), (5, (int .i64 j4i5)), (6, (bool (decide ((En.bAt a0 (0 : Int)) < (128 : Int)))))])) ?_
   refine aw_seq ?_
   refine aw_block ?_
   refine aw_sr ?_
   refine al_mv rfl rfl ?_
   refine al_in rfl rfl rfl rfl ?_
   refine al_as rfl rfl ?_
   refine al_nt ?_
   refine aw_cond rfl (fun hb6 => ?_) (fun hb6 => ?_)
   ·replace h := bif_t hb6 h
    refine aw_sr ?_
    refine al_as rfl rfl ?_
    refine al_as rfl rfl ?_
    refine al_as rfl rfl ?_
    refine al_nt ?_
    refine aw_ret ?_
    refine aq_block_ret ?_
    refine aq_then_ret ?_
    obtain rfl := Option.some.inj h
    exact fn_ret () [] [] rfl rfl rfl rfl (res3 rfl rfl rfl rfl) rfl rfl rfl (by decide)
   ·replace h := bif_f hb6 h
    refine aw_sr ?_
    refine al_mv rfl rfl ?_
    refine al_val (ov_strLen Tryd.underlying9 rfl rfl) ?_
    refine al_mv rfl rfl ?_
    refine al_in rfl rfl rfl rfl ?_
    refine al_in rfl rfl rfl rfl ?_
    refine al_as rfl rfl ?_
    refine al_nt ?_
    refine aw_cond rfl (fun hb7 => ?_) (fun hb7 => ?_)
    ·replace h := bif_t hb7 h
     refine aw_sr ?_
     refine al_as rfl rfl ?_
     refine al_as rfl rfl ?_
     refine al_as rfl rfl ?_
     refine al_nt ?_
     refine aw_ret ?_
     refine aq_block_ret ?_
     refine aq_then_ret ?_
     obtain rfl := Option.some.inj h
     exact fn_ret () [] [] rfl rfl rfl rfl (res3 rfl rfl rfl rfl) rfl rfl rfl (by decide)
    ·replace h := bif_f hb7 h
     refine aw_skip ?_
     refine aq_block ?_
     refine aq_tr ?_
     refine al_mv rfl rfl ?_
     refine al_mv rfl rfl ?_
     refine al_in rfl rfl rfl rfl ?_
     obtain ⟨hc8, h⟩ := req_some h
     refine al_val (ov_strCut hc8.1 hc8.2.1 hc8.2.2 Tryd.underlying9 rfl rfl rfl rfl) ?_
     refine al_as rfl rfl ?_
     refine al_nt ?_
     obtain ⟨kk10, hkk10, h⟩ := lt_some h
     refine aw_seq_join (ι := (List UInt8)) (fun i => (memOf w0 Z0 [] [] [])) (fun i => (tab [(5, (int .i64 j4i5)), (6, (bool (decide ((En.bAt a0 (0 : Int)) < (128 : Int))))), (7, (str i))])) (fun i => kk10 i = some r) ?_ ?_
     ·rintro j9s7 h
      have h : kk10 j9s7 = some r := h
      rw [hkk10] at h
      dsimp only at h
      clear hkk10
      refine aw_show (m := (memOf w0 Z0 [] [] [])) (S := (tab [(5, (int .i64 j4i5)), (6, (bool (decide ((En.bAt a0 (0 : Int)) < (128 : Int))))), (7, (str j9s7))])) ?_
      refine aw_sr ?_
      refine al_mv rfl rfl ?_
      obtain ⟨r12, hc11, h⟩ := opt_some h
      refine al_call (vs := [(str j9s7)]) (f_num_value_ok fu j9s7 hc11) [] [] [] pre_nil rfl (by simp) (by decide) (.inl rfl) rfl Tryd.func228 rfl rfl rfl (fun _ => ?_)
      refine al_as rfl rfl ?_
      refine al_nt ?_
      refine aw_seq ?_
      obtain ⟨kk14, hkk14, h⟩ := lt_some h
      refine aw_seq_join (ι := Bool) (fun i => (memOf w0 Z0 [] [] [])) (fun i => (tab [(5, (int .i64 j4i5)), (6, (bool (decide ((En.bAt a0 (0 : Int)) < (128 : Int))))), (8, (int .u64 r12)), (51, (bool i))])) (fun i => kk14 i = some r) ?_ ?_
      ·rintro j13b51 h
       have h : kk14 j13b51 = some r := h
       rw [hkk14] at h
       dsimp only at h
       clear hkk14
       refine aw_show (m := (memOf w0 Z0 [] [] [])) (S := (tab [(5, (int .i64 j4i5)), (6, (bool (decide ((En.bAt a0 (0 : Int)) < (128 : Int))))), (8, (int .u64 r12)), (51, (bool j13b51))])) ?_
       refine aw_cond rfl (fun hb15 => ?_) (fun hb15 => ?_)
       ·replace h := bif_t hb15 h
        refine aw_sr ?_
        refine al_as rfl rfl ?_
        refine al_as rfl rfl ?_
        refine al_as rfl rfl ?_
        refine al_nt ?_
        refine aw_ret ?_
        refine aq_then_ret ?_
        obtain rfl := Option.some.inj h
        exact fn_ret () [] [] rfl rfl rfl rfl (res3 rfl rfl rfl rfl) rfl rfl rfl (by decide)
       ·replace h := bif_f hb15 h
        refine aw_skip ?_
        refine aq_then ?_
        refine aw_seq ?_
        refine aw_sr ?_
        refine al_mv rfl rfl ?_
        refine al_nt ?_
        refine aw_cond rfl (fun hb16 => ?_) (fun hb16 => ?_)
        ·replace h := bif_t hb16 h
         refine aw_sr ?_
         refine al_mv rfl rfl ?_
         refine al_val (ov_convInt (by rw [Tryd.underlying115]; rfl) Tryd.underlying3 rfl rfl) ?_
         refine al_in rfl rfl rfl rfl ?_
         refine al_mv rfl rfl ?_
         refine al_in rfl rfl rfl rfl ?_
         refine al_as rfl rfl ?_
         refine al_as rfl rfl ?_
         refine al_as rfl rfl ?_
         refine al_nt ?_
         refine aw_ret ?_
         refine aq_then_ret ?_
         obtain rfl := Option.some.inj h
         exact fn_ret () [] [] rfl rfl rfl rfl (res3 rfl rfl rfl rfl) rfl rfl rfl (by decide)
        ·replace h := bif_f hb16 h
         refine aw_skip ?_
         refine aq_tr ?_
         refine al_mv rfl rfl ?_
         refine al_val (ov_convInt (by rw [Tryd.underlying115]; rfl) Tryd.underlying3 rfl rfl) ?_
         refine al_mv rfl rfl ?_
         refine al_in rfl rfl rfl rfl ?_
         refine al_as rfl rfl ?_
         refine al_as rfl rfl ?_
         refine al_as rfl rfl ?_
         refine al_nt ?_
         refine aw_ret ?_
         obtain rfl := Option.some.inj h
         exact fn_ret () [] [] rfl rfl rfl rfl (res3 rfl rfl rfl rfl) rfl rfl rfl (by decide)
      ·clear hkk14
       refine aw_region ?_
       refine al_mv rfl rfl ?_
       refine al_in rfl rfl rfl rfl ?_
       refine al_mv rfl rfl ?_
       refine al_caseB 43 rfl (fun hb17 => ?_) (fun hb17 => ?_)
       ·replace h := bif_t hb17 h
        refine al_mv rfl rfl ?_
        obtain ⟨hc18, h⟩ := req_some h
        refine al_val (ov_strIdx hc18.1 hc18.2 Tryd.underlying9 rfl rfl rfl) ?_
        refine al_in rfl rfl rfl rfl ?_
        refine al_val (ov_pick_t rfl rfl rfl) ?_
        refine al_mv rfl rfl ?_
        refine al_caseB 48 rfl (fun hb19 => ?_) (fun hb19 => ?_)
        ·replace h := bif_t hb19 h
         refine al_skip ?_
         refine al_skip ?_
         refine al_val (ov_pick_t rfl rfl rfl) ?_
         refine al_nil ?_
         exact aq_join true h (fun w a hm hs => norm hm hs [] [] [(5, (int .i64 j4i5)), (6, (bool (decide ((En.bAt a0 (0 : Int)) < (128 : Int))))), (8, (int .u64 r12)), (51, (bool true))] (by decide) ⟨rfl, rfl, rfl, rfl, trivial⟩)
        ·replace h := bif_f hb19 h
         refine al_mv rfl rfl ?_
         refine al_in rfl rfl rfl rfl ?_
         refine al_val (ov_pick_f rfl rfl rfl) ?_
         refine al_nil ?_
         exact aq_join (decide (r12 > (9223372036854775807 : Int))) h (fun w a hm hs => norm hm hs [] [] [(5, (int .i64 j4i5)), (6, (bool (decide ((En.bAt a0 (0 : Int)) < (128 : Int))))), (8, (int .u64 r12)), (51, (bool (decide (r12 > (9223372036854775807 : Int)))))] (by decide) ⟨rfl, rfl, rfl, rfl, trivial⟩)
       ·replace h := bif_f hb17 h
        refine al_skip ?_
        refine al_skip ?_
        refine al_skip ?_
        refine al_val (ov_pick_f rfl rfl rfl) ?_
        refine al_mv rfl rfl ?_
        refine al_mv rfl rfl ?_
        refine al_in rfl rfl rfl rfl ?_
        refine al_val (ov_pick_f rfl rfl rfl) ?_
        refine al_nil ?_
        exact aq_join (decide (r12 > (9223372036854775807 : Int))) h (fun w a hm hs => norm hm hs [] [] [(5, (int .i64 j4i5)), (6, (bool (decide ((En.bAt a0 (0 : Int)) < (128 : Int))))), (8, (int .u64 r12)), (51, (bool (decide (r12 > (9223372036854775807 : Int)))))] (by decide) ⟨rfl, rfl, rfl, rfl, trivial⟩)
     ·clear hkk10
      refine aw_sr ?_
      refine al_mv rfl rfl ?_
      refine al_nt ?_
      refine aw_cond rfl (fun hb20 => ?_) (fun hb20 => ?_)
      ·replace h := bif_t hb20 h
       refine aw_region ?_
       refine al_mv rfl rfl ?_
       obtain ⟨r22, hc21, h⟩ := opt_some h
       refine al_call (vs := [(str (cut a0 (1 : Int) (IntKind.i64.wrap ((1 : Int) + j4i5))))]) (f_num_turned_ok fu (cut a0 (1 : Int) (IntKind.i64.wrap ((1 : Int) + j4i5))) hc21) [] [] [] pre_nil rfl (by simp) (by decide) (.inl rfl) rfl Tryd.func240 rfl rfl rfl (fun _ => ?_)
       refine al_as rfl rfl ?_
       refine al_nil ?_
       exact aq_join r22 h (fun w a hm hs => norm hm hs [] [] [(5, (int .i64 j4i5)), (6, (bool (decide ((En.bAt a0 (0 : Int)) < (128 : Int))))), (7, (str r22))] (by decide) ⟨rfl, rfl, rfl, trivial⟩)
      ·replace h := bif_f hb20 h
       refine aw_skip ?_
       exact aq_join (cut a0 (1 : Int) (IntKind.i64.wrap ((1 : Int) + j4i5))) h (fun w a hm hs => norm hm hs [] [] [(5, (int .i64 j4i5)), (6, (bool (decide ((En.bAt a0 (0 : Int)) < (128 : Int))))), (7, (str (cut a0 (1 : Int) (IntKind.i64.wrap ((1 : Int) + j4i5)))))] (by decide) ⟨rfl, rfl, rfl, trivial⟩)
  ·clear hkk5
   refine aw_sr ?_
   refine al_mv rfl rfl ?_
   refine al_nt ?_
   refine aw_cond rfl (fun hb23 => ?_) (fun hb23 => ?_)
   ·replace h := bif_t hb23 h
    refine aw_region ?_
    refine al_mv rfl rfl ?_
    obtain ⟨hc24, h⟩ := req_some h
    refine al_val (ov_strIdx hc24.1 hc24.2 Tryd.underlying9 rfl rfl rfl) ?_
    refine al_val (ov_convInt (by rw [Tryd.underlying5]; rfl) Tryd.underlying3 rfl rfl) ?_
    refine al_in rfl rfl rfl rfl ?_
    refine al_as rfl rfl ?_
    refine al_nil ?_
    exact aq_join (IntKind.i64.wrap ((127 : Int) - (IntKind.i64.wrap (En.bAt a0 (0 : Int))))) h (fun w a hm hs => norm hm hs [] [] [(0, (str a0)), (5, (int .i64 (IntKind.i64.wrap ((127 : Int) - (IntKind.i64.wrap (En.bAt a0 (0 : Int))))))), (6, (bool (decide ((En.bAt a0 (0 : Int)) < (128 : Int)))))] (by decide) ⟨rfl, rfl, rfl, trivial⟩)
   ·replace h := bif_f hb23 h
    refine aw_skip ?_
    exact aq_join (IntKind.i64.wrap ((IntKind.i64.wrap (En.bAt a0 (0 : Int))) - (128 : Int))) h (fun w a hm hs => norm hm hs [] [] [(0, (str a0)), (5, (int .i64 (IntKind.i64.wrap ((IntKind.i64.wrap (En.bAt a0 (0 : Int))) - (128 : Int))))), (6, (bool (decide ((En.bAt a0 (0 : Int)) < (128 : Int)))))] (by decide) ⟨rfl, rfl, rfl, trivial⟩)
-- STUCK (*lumberroom/tree.reader).integer: lty ['pointer', 244]
-- STUCK (*lumberroom/tree.reader).node: lty ['pointer', 244]
def f_names_Check_L10 (a0 : (List UInt8)) (kk5 : (Int → Option Int)) : Nat → Int → Int → Option Int
  | 0, _, _ => none
  | k9 + 1, l8i3, l8xp22 => (bif (decide (l8xp22.toNat < a0.length)) then (lt (fun (j12b35 : Bool) => (bif j12b35 then (some (8 : Int)) else (f_names_Check_L10 a0 kk5 k9 (IntKind.i64.wrap (l8i3 + (1 : Int))) ((l8xp22.toNat + (dec a0 l8xp22.toNat).2 : Nat) : Int)))) fun (kk13 : Bool → Option Int) => (bif ((((dec a0 l8xp22.toNat).1 : Nat) : Int) == (47 : Int)) then (kk13 true) else (bif (decide ((((dec a0 l8xp22.toNat).1 : Nat) : Int) < (32 : Int))) then (kk13 true) else (kk13 ((((dec a0 l8xp22.toNat).1 : Nat) : Int) == (127 : Int)))))) else (kk5 l8i3))
def f_names_Check (fu : Nat) (a0 : (List UInt8)) : Option Int := (lt (fun (j1b20 : Bool) => (bif j1b20 then (some (8 : Int)) else (lt (fun (j4i3 : Int) => (bif (decide (j4i3 > (24 : Int))) then (some (2 : Int)) else (some (0 : Int)))) fun (kk5 : Int → Option Int) => (f_names_Check_L10 a0 kk5 fu (0 : Int) (0 : Int))))) fun (kk2 : Bool → Option Int) => (bif (a0 == ([] : List UInt8)) then (kk2 true) else (bif (a0 == ([46] : List UInt8)) then (kk2 true) else (bif (a0 == ([46, 46] : List UInt8)) then (kk2 true) else (opt (f_utf8_ValidString fu a0) fun (r21 : Bool) => (kk2 (!r21)))))))
set_option maxRecDepth 100000 in
theorem f_names_Check_ok (fu : Nat) (a0 : (List UInt8)) {r : Int} (h : f_names_Check fu a0 = some r) : FnOk Tryd.prog 145 [(str a0)] [uTabs] [] (fun (i : Unit) => { val := (int .i64 r) }) := by
 unfold f_names_Check at h
 refine fn_enter Tryd.func145 rfl Tryd.ntmps145 rfl (fun w0 Z0 => ?_)
 refine aw_sr ?_
 refine al_as rfl rfl ?_
 refine al_nt ?_
 refine aw_seq ?_
 obtain ⟨kk2, hkk2, h⟩ := lt_some h
 refine aw_seq_join (ι := Bool) (fun i => (memOf w0 Z0 [] [] [uTabs])) (fun i => (tab [(0, (str a0)), (20, (bool i))])) (fun i => kk2 i = some r) ?_ ?_
 ·rintro j1b20 h
  have h : kk2 j1b20 = some r := h
  rw [hkk2] at h
  dsimp only at h
  clear hkk2
  refine aw_show (m := (memOf w0 Z0 [] [] [uTabs])) (S := (tab [(0, (str a0)), (20, (bool j1b20))])) ?_
  refine aw_cond rfl (fun hb3 => ?_) (fun hb3 => ?_)
  ·replace h := bif_t hb3 h
   refine aw_sr ?_
   refine al_as rfl rfl ?_
   refine al_nt ?_
   refine aw_ret ?_
   refine aq_then_ret ?_
   obtain rfl := Option.some.inj h
   exact fn_ret () [] [] rfl rfl rfl rfl (res1 rfl rfl) rfl rfl rfl (by decide)
  ·replace h := bif_f hb3 h
   refine aw_skip ?_
   refine aq_tr ?_
   refine al_as rfl rfl ?_
   refine al_nt ?_
   obtain ⟨kk5, hkk5, h⟩ := lt_some h
   refine aw_seq_join (ι := Int) (fun i => (memOf w0 Z0 [] [] [uTabs])) (fun i => (tab [(3, (int .i64 i))])) (fun i => kk5 i = some r) ?_ ?_
   ·rintro j4i3 h
    have h : kk5 j4i3 = some r := h
    rw [hkk5] at h
    dsimp only at h
    clear hkk5
    refine aw_show (m := (memOf w0 Z0 [] [] [uTabs])) (S := (tab [(3, (int .i64 j4i3))])) ?_
    refine aw_seq ?_
    refine aw_sr ?_
    refine al_mv rfl rfl ?_
    refine al_in rfl rfl rfl rfl ?_
    refine al_nt ?_
    refine aw_cond rfl (fun hb6 => ?_) (fun hb6 => ?_)
    ·replace h := bif_t hb6 h
     refine aw_sr ?_
     refine al_as rfl rfl ?_
     refine al_nt ?_
     refine aw_ret ?_
     refine aq_then_ret ?_
     obtain rfl := Option.some.inj h
     exact fn_ret () [] [] rfl rfl rfl rfl (res1 rfl rfl) rfl rfl rfl (by decide)
    ·replace h := bif_f hb6 h
     refine aw_skip ?_
     refine aq_tr ?_
     refine al_as rfl rfl ?_
     refine al_nt ?_
     refine aw_ret ?_
     obtain rfl := Option.some.inj h
     exact fn_ret () [] [] rfl rfl rfl rfl (res1 rfl rfl) rfl rfl rfl (by decide)
   ·clear hkk5
    refine aw_sr ?_
    refine al_mv rfl rfl ?_
    refine al_range rfl Tryd.underlying9 rfl (fun g7 => ?_)
    refine al_nt ?_
    refine aw_block ?_
    refine aw_state (aw_loop (ι := Int × Int) (fun i => (memOf w0 Z0 [] [(oIter g7 a0 i.2)] [uTabs])) (fun i => (tab [(3, (int .i64 i.1)), (22, (ptr g7 0))])) (fun q i => f_names_Check_L10 a0 kk5 q i.1 i.2 = some r) ?_ fu ((0 : Int), (0 : Int)) h) (fun w a hm hs => norm hm hs [0] [0] [(3, (int .i64 (0 : Int))), (22, (ptr g7 0))] (by decide) ⟨rfl, rfl, trivial⟩)
    clear h
    rintro k9 ⟨l8i3, l8xp22⟩ h
    have h : f_names_Check_L10 a0 kk5 k9 l8i3 l8xp22 = some r := h
    obtain _ | k9 := k9
    · rw [f_names_Check_L10] at h; cases h
    rw [f_names_Check_L10] at h
    refine aw_show (m := (memOf w0 Z0 [] [(oIter g7 a0 l8xp22)] [uTabs])) (S := (tab [(3, (int .i64 l8i3)), (22, (ptr g7 0))])) ?_
    refine aw_sr ?_
    refine al_next 0 rfl rfl rfl (fun hn11 => ?_) (fun hn11 => ?_)
    ·replace h := bif_t (decide_eq_true hn11) h
     refine al_ex rfl rfl rfl ?_
     refine al_nt ?_
     refine aw_seq ?_
     refine aw_cond_t rfl ?_
     refine aw_skip ?_
     refine aq_then ?_
     refine aw_block ?_
     refine aw_sr ?_
     refine al_ex rfl rfl rfl ?_
     refine al_as rfl rfl ?_
     refine al_nt ?_
     refine aw_seq ?_
     obtain ⟨kk13, hkk13, h⟩ := lt_some h
     refine aw_seq_join (ι := Bool) (fun i => (memOf w0 Z0 [] [(oIter g7 a0 ((l8xp22.toNat + (dec a0 l8xp22.toNat).2 : Nat) : Int))] [uTabs])) (fun i => (tab [(3, (int .i64 l8i3)), (22, (ptr g7 0)), (35, (bool i))])) (fun i => kk13 i = some r) ?_ ?_
     ·rintro j12b35 h
      have h : kk13 j12b35 = some r := h
      rw [hkk13] at h
      dsimp only at h
      clear hkk13
      refine aw_show (m := (memOf w0 Z0 [] [(oIter g7 a0 ((l8xp22.toNat + (dec a0 l8xp22.toNat).2 : Nat) : Int))] [uTabs])) (S := (tab [(3, (int .i64 l8i3)), (22, (ptr g7 0)), (35, (bool j12b35))])) ?_
      refine aw_cond rfl (fun hb14 => ?_) (fun hb14 => ?_)
      ·replace h := bif_t hb14 h
       refine aw_sr ?_
       refine al_as rfl rfl ?_
       refine al_nt ?_
       refine aw_ret ?_
       refine aq_then_ret ?_
       refine aq_block_ret ?_
       refine aq_then_ret ?_
       refine aq_block_ret ?_
       refine aq_then_ret ?_
       obtain rfl := Option.some.inj h
       exact fn_ret () [] [] rfl rfl rfl rfl (res1 rfl rfl) rfl rfl rfl (by decide)
      ·replace h := bif_f hb14 h
       refine aw_skip ?_
       refine aq_then ?_
       refine aw_region ?_
       refine al_mv rfl rfl ?_
       refine al_in rfl rfl rfl rfl ?_
       refine al_as rfl rfl ?_
       refine al_nil ?_
       refine aq_block ?_
       exact aq_again k9 ((IntKind.i64.wrap (l8i3 + (1 : Int))), ((l8xp22.toNat + (dec a0 l8xp22.toNat).2 : Nat) : Int)) (Nat.lt_succ_self _) h (fun w a hm hs => norm hm hs [0] [0] [(3, (int .i64 (IntKind.i64.wrap (l8i3 + (1 : Int))))), (22, (ptr g7 0))] (by decide) ⟨rfl, rfl, trivial⟩)
     ·clear hkk13
      refine aw_region ?_
      refine al_mv rfl rfl ?_
      refine al_in rfl rfl rfl rfl ?_
      refine al_mv rfl rfl ?_
      refine al_caseB 28 rfl (fun hb15 => ?_) (fun hb15 => ?_)
      ·replace h := bif_t hb15 h
       refine al_skip ?_
       refine al_skip ?_
       refine al_val (ov_pick_t rfl rfl rfl) ?_
       refine al_mv rfl rfl ?_
       refine al_skip ?_
       refine al_skip ?_
       refine al_val (ov_pick_t rfl rfl rfl) ?_
       refine al_nil ?_
       exact aq_join true h (fun w a hm hs => norm hm hs [0] [0] [(3, (int .i64 l8i3)), (22, (ptr g7 0)), (35, (bool true))] (by decide) ⟨rfl, rfl, rfl, trivial⟩)
      ·replace h := bif_f hb15 h
       refine al_mv rfl rfl ?_
       refine al_in rfl rfl rfl rfl ?_
       refine al_val (ov_pick_f rfl rfl rfl) ?_
       refine al_mv rfl rfl ?_
       refine al_caseB 32 rfl (fun hb16 => ?_) (fun hb16 => ?_)
       ·replace h := bif_t hb16 h
        refine al_skip ?_
        refine al_skip ?_
        refine al_val (ov_pick_t rfl rfl rfl) ?_
        refine al_nil ?_
        exact aq_join true h (fun w a hm hs => norm hm hs [0] [0] [(3, (int .i64 l8i3)), (22, (ptr g7 0)), (35, (bool true))] (by decide) ⟨rfl, rfl, rfl, trivial⟩)
       ·replace h := bif_f hb16 h
        refine al_mv rfl rfl ?_
        refine al_in rfl rfl rfl rfl ?_
        refine al_val (ov_pick_f rfl rfl rfl) ?_
        refine al_nil ?_
        exact aq_join ((((dec a0 l8xp22.toNat).1 : Nat) : Int) == (127 : Int)) h (fun w a hm hs => norm hm hs [0] [0] [(3, (int .i64 l8i3)), (22, (ptr g7 0)), (35, (bool ((((dec a0 l8xp22.toNat).1 : Nat) : Int) == (127 : Int))))] (by decide) ⟨rfl, rfl, rfl, trivial⟩)
    ·replace h := bif_f (decide_eq_false hn11) h
     refine al_ex rfl rfl rfl ?_
     refine al_nt ?_
     refine aw_seq ?_
     refine aw_cond_f rfl ?_
     refine aw_exit ?_
     refine aq_then_exit ?_
     refine aq_then_exit ?_
     refine aq_block_exit ?_
     exact aq_join l8i3 h (fun w a hm hs => norm hm hs [] [0] [(3, (int .i64 l8i3))] (by decide) ⟨rfl, trivial⟩)
 ·clear hkk2
  refine aw_region ?_
  refine al_mv rfl rfl ?_
  refine al_val (ov_strCmp rfl rfl rfl rfl) ?_
  refine al_mv rfl rfl ?_
  refine al_caseB 8 rfl (fun hb17 => ?_) (fun hb17 => ?_)
  ·replace h := bif_t hb17 h
   refine al_skip ?_
   refine al_skip ?_
   refine al_val (ov_pick_t rfl rfl rfl) ?_
   refine al_mv rfl rfl ?_
   refine al_skip ?_
   refine al_skip ?_
   refine al_val (ov_pick_t rfl rfl rfl) ?_
   refine al_mv rfl rfl ?_
   refine al_skip ?_
   refine al_skip ?_
   refine al_skip ?_
   refine al_val (ov_pick_t rfl rfl rfl) ?_
   refine al_nil ?_
   exact aq_join true h (fun w a hm hs => norm hm hs [] [0] [(0, (str a0)), (20, (bool true))] (by decide) ⟨rfl, rfl, trivial⟩)
  ·replace h := bif_f hb17 h
   refine al_mv rfl rfl ?_
   refine al_val (ov_strCmp rfl rfl rfl rfl) ?_
   refine al_val (ov_pick_f rfl rfl rfl) ?_
   refine al_mv rfl rfl ?_
   refine al_caseB 12 rfl (fun hb18 => ?_) (fun hb18 => ?_)
   ·replace h := bif_t hb18 h
    refine al_skip ?_
    refine al_skip ?_
    refine al_val (ov_pick_t rfl rfl rfl) ?_
    refine al_mv rfl rfl ?_
    refine al_skip ?_
    refine al_skip ?_
    refine al_skip ?_
    refine al_val (ov_pick_t rfl rfl rfl) ?_
    refine al_nil ?_
    exact aq_join true h (fun w a hm hs => norm hm hs [] [0] [(0, (str a0)), (20, (bool true))] (by decide) ⟨rfl, rfl, trivial⟩)
   ·replace h := bif_f hb18 h
    refine al_mv rfl rfl ?_
    refine al_val (ov_strCmp rfl rfl rfl rfl) ?_
    refine al_val (ov_pick_f rfl rfl rfl) ?_
    refine al_mv rfl rfl ?_
    refine al_caseB 16 rfl (fun hb19 => ?_) (fun hb19 => ?_)
    ·replace h := bif_t hb19 h
     refine al_skip ?_
     refine al_skip ?_
     refine al_skip ?_
     refine al_val (ov_pick_t rfl rfl rfl) ?_
     refine al_nil ?_
     exact aq_join true h (fun w a hm hs => norm hm hs [] [0] [(0, (str a0)), (20, (bool true))] (by decide) ⟨rfl, rfl, trivial⟩)
    ·replace h := bif_f hb19 h
     refine al_mv rfl rfl ?_
     obtain ⟨r21, hc20, h⟩ := opt_some h
     refine al_call (vs := [(str a0)]) (f_utf8_ValidString_ok fu a0 hc20) [] [] [] (pre_fz 0 rfl pre_nil) rfl (by simp) (by decide) (.inl rfl) rfl Tryd.func82 rfl rfl rfl (fun _ => ?_)
     refine al_val (ov_not rfl rfl) ?_
     refine al_val (ov_pick_f rfl rfl rfl) ?_
     refine al_nil ?_
     exact aq_join (!r21) h (fun w a hm hs => norm hm hs [] [0] [(0, (str a0)), (20, (bool (!r21)))] (by decide) ⟨rfl, rfl, trivial⟩)
def f_tree_Known (fu : Nat) (a0 : Int) : Option Bool := (lt (fun (j1b2 : Bool) => (some j1b2)) fun (kk2 : Bool → Option Bool) => (bif (decide (a0 ≥ (1 : Int))) then (kk2 (decide (a0 ≤ (3 : Int)))) else (kk2 false)))
set_option maxRecDepth 100000 in
theorem f_tree_Known_ok (fu : Nat) (a0 : Int) {r : Bool} (h : f_tree_Known fu a0 = some r) : FnOk Tryd.prog 160 [(int .i64 a0)] [] [] (fun (i : Unit) => { val := (bool r) }) := by
 unfold f_tree_Known at h
 refine fn_enter Tryd.func160 rfl Tryd.ntmps160 rfl (fun w0 Z0 => ?_)
 refine aw_sr ?_
 refine al_as rfl rfl ?_
 refine al_nt ?_
 obtain ⟨kk2, hkk2, h⟩ := lt_some h
 refine aw_seq_join (ι := Bool) (fun i => (memOf w0 Z0 [] [] [])) (fun i => (tab [(2, (bool i))])) (fun i => kk2 i = some r) ?_ ?_
 ·rintro j1b2 h
  have h : kk2 j1b2 = some r := h
  rw [hkk2] at h
  dsimp only at h
  clear hkk2
  refine aw_show (m := (memOf w0 Z0 [] [] [])) (S := (tab [(2, (bool j1b2))])) ?_
  refine aw_ret ?_
  obtain rfl := Option.some.inj h
  exact fn_ret () [] [] rfl rfl rfl rfl (res1 rfl rfl) rfl rfl rfl (by decide)
 ·clear hkk2
  refine aw_region ?_
  refine al_mv rfl rfl ?_
  refine al_in rfl rfl rfl rfl ?_
  refine al_mv rfl rfl ?_
  refine al_caseB 5 rfl (fun hb3 => ?_) (fun hb3 => ?_)
  ·replace h := bif_t hb3 h
   refine al_mv rfl rfl ?_
   refine al_in rfl rfl rfl rfl ?_
   refine al_val (ov_pick_t rfl rfl rfl) ?_
   refine al_as rfl rfl ?_
   refine al_nil ?_
   exact aq_join (decide (a0 ≤ (3 : Int))) h (fun w a hm hs => norm hm hs [] [] [(2, (bool (decide (a0 ≤ (3 : Int)))))] (by decide) ⟨rfl, trivial⟩)
  ·replace h := bif_f hb3 h
   refine al_skip ?_
   refine al_skip ?_
   refine al_val (ov_pick_f rfl rfl rfl) ?_
   refine al_as rfl rfl ?_
   refine al_nil ?_
   exact aq_join false h (fun w a hm hs => norm hm hs [] [] [(2, (bool false))] (by decide) ⟨rfl, trivial⟩)
def f_tree_formed (fu : Nat) (a0 : S_api_Node) : Option Bool := (bif (a0.Kind == (1 : Int)) then (some (a0.Link == ([] : List UInt8))) else (bif (a0.Kind == (2 : Int)) then (lt (fun (j4b2 : Bool) => (some j4b2)) fun (kk5 : Bool → Option Bool) => (bif ((a0.Parts.length : Int) == (1 : Int)) then (bif (a0.Size == (0 : Int)) then (kk5 (a0.Link == ([] : List UInt8))) else (kk5 false)) else (kk5 false))) else (lt (fun (j8b2 : Bool) => (some j8b2)) fun (kk9 : Bool → Option Bool) => (bif (!(a0.Link == ([] : List UInt8))) then (bif (a0.Size == (0 : Int)) then (kk9 ((a0.Parts.length : Int) == (0 : Int))) else (kk9 false)) else (kk9 false)))))
set_option maxRecDepth 100000 in
theorem f_tree_formed_ok (fu : Nat) (v0_5 : Value) (a0 : S_api_Node) {r : Bool} (h : f_tree_formed fu a0 = some r) : FnOk Tryd.prog 205 [(ag [(str a0.Name), (int .i64 a0.Kind), (int .i64 a0.Mode), (int .i64 a0.Time), (int .i64 a0.Size), v0_5, (str a0.Link)])] [(fDat (tyList tyA8u8) [v0_5] a0.Parts)] [] (fun (i : Unit) => { val := (bool r) }) := by
 unfold f_tree_formed at h
 refine fn_enter Tryd.func205 rfl Tryd.ntmps205 rfl (fun w0 Z0 => ?_)
 refine aw_sr ?_
 refine al_box (vs := [(str a0.Name), (int .i64 a0.Kind), (int .i64 a0.Mode), (int .i64 a0.Time), (int .i64 a0.Size), v0_5, (str a0.Link)]) rfl (cv_rfl rfl) rfl (fun g1 => ?_)
 refine al_as rfl rfl ?_
 refine al_nt ?_
 refine aw_seq ?_
 refine aw_sr ?_
 refine al_val (ov_fieldA (p := 1) rfl Tryd.underlying168 rfl sz3 rfl rfl rfl) ?_
 refine al_val (ov_load (i := 0) (v := (int .i64 a0.Kind)) rfl rfl Tryd.underlying3 sz3 rfl rfl rfl rfl) ?_
 refine al_nt ?_
 refine aw_block ?_
 refine aw_sr ?_
 refine al_in rfl rfl rfl rfl ?_
 refine al_as rfl rfl ?_
 refine al_nt ?_
 refine aw_cond rfl (fun hb2 => ?_) (fun hb2 => ?_)
 ·replace h := bif_t hb2 h
  refine aw_sr ?_
  refine al_val (ov_fieldA (p := 6) rfl Tryd.underlying168 rfl sz9 rfl rfl rfl) ?_
  refine al_val (ov_load (i := 0) (v := (str a0.Link)) rfl rfl Tryd.underlying9 sz9 rfl rfl rfl rfl) ?_
  refine al_val (ov_strCmp rfl rfl rfl rfl) ?_
  refine al_as rfl rfl ?_
  refine al_nt ?_
  refine aw_ret ?_
  refine aq_block_ret ?_
  refine aq_then_ret ?_
  obtain rfl := Option.some.inj h
  exact fn_ret () [] [] rfl rfl rfl rfl (res1 rfl rfl) rfl rfl rfl (by decide)
 ·replace h := bif_f hb2 h
  refine aw_sr ?_
  refine al_in rfl rfl rfl rfl ?_
  refine al_as rfl rfl ?_
  refine al_nt ?_
  refine aw_cond rfl (fun hb3 => ?_) (fun hb3 => ?_)
  ·replace h := bif_t hb3 h
   obtain ⟨kk5, hkk5, h⟩ := lt_some h
   refine aw_seq_join (ι := Bool) (fun i => (memOf w0 Z0 [] [] [(fDat (tyList tyA8u8) [v0_5] a0.Parts)])) (fun i => (tab [(2, (bool i))])) (fun i => kk5 i = some r) ?_ ?_
   ·rintro j4b2 h
    have h : kk5 j4b2 = some r := h
    rw [hkk5] at h
    dsimp only at h
    clear hkk5
    refine aw_show (m := (memOf w0 Z0 [] [] [(fDat (tyList tyA8u8) [v0_5] a0.Parts)])) (S := (tab [(2, (bool j4b2))])) ?_
    refine aw_ret ?_
    refine aq_block_ret ?_
    refine aq_then_ret ?_
    obtain rfl := Option.some.inj h
    exact fn_ret () [] [] rfl rfl rfl rfl (res1 rfl rfl) rfl rfl rfl (by decide)
   ·clear hkk5
    refine aw_region ?_
    refine al_val (ov_fieldA (p := 5) rfl Tryd.underlying168 rfl sz27 rfl rfl rfl) ?_
    refine al_val (ov_load (i := 0) (v := v0_5) rfl rfl Tryd.underlying27 sz27 rfl rfl rfl rfl) ?_
    refine al_val (ov_lenD 0 rfl rfl Tryd.underlying27 rfl) ?_
    refine al_in rfl rfl rfl rfl ?_
    refine al_mv rfl rfl ?_
    refine al_caseB 16 rfl (fun hb6 => ?_) (fun hb6 => ?_)
    ·replace h := bif_t hb6 h
     refine al_val (ov_fieldA (p := 4) rfl Tryd.underlying168 rfl sz3 rfl rfl rfl) ?_
     refine al_val (ov_load (i := 0) (v := (int .i64 a0.Size)) rfl rfl Tryd.underlying3 sz3 rfl rfl rfl rfl) ?_
     refine al_in rfl rfl rfl rfl ?_
     refine al_val (ov_pick_t rfl rfl rfl) ?_
     refine al_mv rfl rfl ?_
     refine al_caseB 21 rfl (fun hb7 => ?_) (fun hb7 => ?_)
     ·replace h := bif_t hb7 h
      refine al_val (ov_fieldA (p := 6) rfl Tryd.underlying168 rfl sz9 rfl rfl rfl) ?_
      refine al_val (ov_load (i := 0) (v := (str a0.Link)) rfl rfl Tryd.underlying9 sz9 rfl rfl rfl rfl) ?_
      refine al_val (ov_strCmp rfl rfl rfl rfl) ?_
      refine al_val (ov_pick_t rfl rfl rfl) ?_
      refine al_as rfl rfl ?_
      refine al_nil ?_
      exact aq_join (a0.Link == ([] : List UInt8)) h (fun w a hm hs => norm hm hs [] [0] [(2, (bool (a0.Link == ([] : List UInt8))))] (by decide) ⟨rfl, trivial⟩)
     ·replace h := bif_f hb7 h
      refine al_skip ?_
      refine al_skip ?_
      refine al_skip ?_
      refine al_val (ov_pick_f rfl rfl rfl) ?_
      refine al_as rfl rfl ?_
      refine al_nil ?_
      exact aq_join false h (fun w a hm hs => norm hm hs [] [0] [(2, (bool false))] (by decide) ⟨rfl, trivial⟩)
    ·replace h := bif_f hb6 h
     refine al_skip ?_
     refine al_skip ?_
     refine al_skip ?_
     refine al_val (ov_pick_f rfl rfl rfl) ?_
     refine al_mv rfl rfl ?_
     refine al_skip ?_
     refine al_skip ?_
     refine al_skip ?_
     refine al_val (ov_pick_f rfl rfl rfl) ?_
     refine al_as rfl rfl ?_
     refine al_nil ?_
     exact aq_join false h (fun w a hm hs => norm hm hs [] [0] [(2, (bool false))] (by decide) ⟨rfl, trivial⟩)
  ·replace h := bif_f hb3 h
   refine aw_skip ?_
   refine aq_block ?_
   refine aq_then ?_
   obtain ⟨kk9, hkk9, h⟩ := lt_some h
   refine aw_seq_join (ι := Bool) (fun i => (memOf w0 Z0 [] [] [(fDat (tyList tyA8u8) [v0_5] a0.Parts)])) (fun i => (tab [(2, (bool i))])) (fun i => kk9 i = some r) ?_ ?_
   ·rintro j8b2 h
    have h : kk9 j8b2 = some r := h
    rw [hkk9] at h
    dsimp only at h
    clear hkk9
    refine aw_show (m := (memOf w0 Z0 [] [] [(fDat (tyList tyA8u8) [v0_5] a0.Parts)])) (S := (tab [(2, (bool j8b2))])) ?_
    refine aw_ret ?_
    obtain rfl := Option.some.inj h
    exact fn_ret () [] [] rfl rfl rfl rfl (res1 rfl rfl) rfl rfl rfl (by decide)
   ·clear hkk9
    refine aw_region ?_
    refine al_val (ov_fieldA (p := 6) rfl Tryd.underlying168 rfl sz9 rfl rfl rfl) ?_
    refine al_val (ov_load (i := 0) (v := (str a0.Link)) rfl rfl Tryd.underlying9 sz9 rfl rfl rfl rfl) ?_
    refine al_val (ov_strCmp rfl rfl rfl rfl) ?_
    refine al_mv rfl rfl ?_
    refine al_caseB 29 rfl (fun hb10 => ?_) (fun hb10 => ?_)
    ·replace h := bif_t hb10 h
     refine al_val (ov_fieldA (p := 4) rfl Tryd.underlying168 rfl sz3 rfl rfl rfl) ?_
     refine al_val (ov_load (i := 0) (v := (int .i64 a0.Size)) rfl rfl Tryd.underlying3 sz3 rfl rfl rfl rfl) ?_
     refine al_in rfl rfl rfl rfl ?_
     refine al_val (ov_pick_t rfl rfl rfl) ?_
     refine al_mv rfl rfl ?_
     refine al_caseB 34 rfl (fun hb11 => ?_) (fun hb11 => ?_)
     ·replace h := bif_t hb11 h
      refine al_val (ov_fieldA (p := 5) rfl Tryd.underlying168 rfl sz27 rfl rfl rfl) ?_
      refine al_val (ov_load (i := 0) (v := v0_5) rfl rfl Tryd.underlying27 sz27 rfl rfl rfl rfl) ?_
      refine al_val (ov_lenD 0 rfl rfl Tryd.underlying27 rfl) ?_
      refine al_in rfl rfl rfl rfl ?_
      refine al_val (ov_pick_t rfl rfl rfl) ?_
      refine al_as rfl rfl ?_
      refine al_nil ?_
      exact aq_join ((a0.Parts.length : Int) == (0 : Int)) h (fun w a hm hs => norm hm hs [] [0] [(2, (bool ((a0.Parts.length : Int) == (0 : Int))))] (by decide) ⟨rfl, trivial⟩)
     ·replace h := bif_f hb11 h
      refine al_skip ?_
      refine al_skip ?_
      refine al_skip ?_
      refine al_skip ?_
      refine al_val (ov_pick_f rfl rfl rfl) ?_
      refine al_as rfl rfl ?_
      refine al_nil ?_
      exact aq_join false h (fun w a hm hs => norm hm hs [] [0] [(2, (bool false))] (by decide) ⟨rfl, trivial⟩)
    ·replace h := bif_f hb10 h
     refine al_skip ?_
     refine al_skip ?_
     refine al_skip ?_
     refine al_val (ov_pick_f rfl rfl rfl) ?_
     refine al_mv rfl rfl ?_
     refine al_skip ?_
     refine al_skip ?_
     refine al_skip ?_
     refine al_skip ?_
     refine al_val (ov_pick_f rfl rfl rfl) ?_
     refine al_as rfl rfl ?_
     refine al_nil ?_
     exact aq_join false h (fun w a hm hs => norm hm hs [] [0] [(2, (bool false))] (by decide) ⟨rfl, trivial⟩)
def f_tree_Check_L6 (a0 : (List S_api_Node)) (kk3 : (Unit → Option Int)) (fu : Nat) : Nat → Int → Option Int
  | 0, _ => none
  | k5 + 1, l4i11 => (bif (decide (l4i11 < (a0.length : Int))) then (opt (at? a0 l4i11) fun (u8 : S_api_Node) => (opt (f_names_Check fu u8.Name) fun (r15 : Int) => (bif (r15 != (0 : Int)) then (some r15) else (lt (fun (j17b22 : Bool) => (bif j17b22 then (some (1 : Int)) else (opt (f_tree_Known fu u8.Kind) fun (r21 : Bool) => (bif (!r21) then (some (5 : Int)) else (opt (f_tree_formed fu u8) fun (r24 : Bool) => (bif (!r24) then (some (4 : Int)) else (bif (decide ((u8.Link.length : Int) > (1024 : Int))) then (some (2 : Int)) else (lt (fun (j27b61 : Bool) => (bif j27b61 then (some (4 : Int)) else (f_tree_Check_L6 a0 kk3 fu k5 (IntKind.i64.wrap (l4i11 + (1 : Int)))))) fun (kk28 : Bool → Option Int) => (bif (decide (l4i11 > (0 : Int))) then (opt (at? a0 (IntKind.i64.wrap (l4i11 - (1 : Int)))) fun (u31 : S_api_Node) => (kk28 (Op.bytesLess u8.Name u31.Name || u8.Name == u31.Name))) else (kk28 false)))))))))) fun (kk18 : Bool → Option Int) => (bif (decide (u8.Mode < (0 : Int))) then (kk18 true) else (bif (decide (u8.Mode > (511 : Int))) then (kk18 true) else (bif (decide (u8.Size < (0 : Int))) then (kk18 true) else (bif (decide (u8.Size > (4096 : Int))) then (kk18 true) else (kk18 (decide ((u8.Parts.length : Int) > (300 : Int)))))))))))) else (kk3 ()))
def f_tree_Check (fu : Nat) (a0 : (List S_api_Node)) : Option Int := (bif (decide ((a0.length : Int) > (64 : Int))) then (some (2 : Int)) else (lt (fun (_ : Unit) => (some (0 : Int))) fun (kk3 : Unit → Option Int) => (f_tree_Check_L6 a0 kk3 fu fu (0 : Int))))
set_option maxRecDepth 100000 in
set_option maxHeartbeats 2000000 in
theorem f_tree_Check_ok (fu : Nat) (v0_0 : Value) (a0 : (List S_api_Node)) {r : Int} (h : f_tree_Check fu a0 = some r) : FnOk Tryd.prog 167 [v0_0] [(fDat (tyList tyS_api_Node) [v0_0] a0), uTabs] [] (fun (i : Unit) => { val := (int .i64 r) }) := by
 unfold f_tree_Check at h
 refine fn_enter Tryd.func167 rfl Tryd.ntmps167 rfl (fun w0 Z0 => ?_)
 refine aw_sr ?_
 refine al_as rfl rfl ?_
 refine al_nt ?_
 refine aw_seq ?_
 refine aw_sr ?_
 refine al_mv rfl rfl ?_
 refine al_val (ov_lenD 0 rfl rfl Tryd.underlying164 rfl) ?_
 refine al_in rfl rfl rfl rfl ?_
 refine al_nt ?_
 refine aw_cond rfl (fun hb1 => ?_) (fun hb1 => ?_)
 ·replace h := bif_t hb1 h
  refine aw_sr ?_
  refine al_as rfl rfl ?_
  refine al_nt ?_
  refine aw_ret ?_
  refine aq_then_ret ?_
  obtain rfl := Option.some.inj h
  exact fn_ret () [] [] rfl rfl rfl rfl (res1 rfl rfl) rfl rfl rfl (by decide)
 ·replace h := bif_f hb1 h
  refine aw_skip ?_
  refine aq_then ?_
  obtain ⟨kk3, hkk3, h⟩ := lt_some h
  refine aw_seq_join (ι := Unit) (fun i => (memOf w0 Z0 [] [] [(fDat (tyList tyS_api_Node) [v0_0] a0), uTabs])) (fun i => (tab [])) (fun i => kk3 () = some r) ?_ ?_
  ·rintro _ h
   have h : kk3 () = some r := h
   rw [hkk3] at h
   dsimp only at h
   clear hkk3
   refine aw_show (m := (memOf w0 Z0 [] [] [(fDat (tyList tyS_api_Node) [v0_0] a0), uTabs])) (S := (tab [])) ?_
   refine aw_sr ?_
   refine al_as rfl rfl ?_
   refine al_nt ?_
   refine aw_ret ?_
   obtain rfl := Option.some.inj h
   exact fn_ret () [] [] rfl rfl rfl rfl (res1 rfl rfl) rfl rfl rfl (by decide)
  ·clear hkk3
   refine aw_sr ?_
   refine al_mv rfl rfl ?_
   refine al_val (ov_lenD 0 rfl rfl Tryd.underlying164 rfl) ?_
   refine al_mv rfl rfl ?_
   refine al_nt ?_
   refine aw_block ?_
   refine aw_state (aw_loop (ι := Int) (fun i => (memOf w0 Z0 [] [] [(fDat (tyList tyS_api_Node) [v0_0] a0), uTabs])) (fun i => (tab [(0, v0_0), (9, v0_0), (10, (int .i64 (a0.length : Int))), (11, (int .i64 i))])) (fun q i => f_tree_Check_L6 a0 kk3 fu q i = some r) ?_ fu (0 : Int) h) (fun w a hm hs => norm hm hs [] [0, 1] [(0, v0_0), (9, v0_0), (10, (int .i64 (a0.length : Int))), (11, (int .i64 (0 : Int)))] (by decide) ⟨rfl, rfl, rfl, rfl, trivial⟩)
   clear h
   rintro k5 l4i11 h
   have h : f_tree_Check_L6 a0 kk3 fu k5 l4i11 = some r := h
   obtain _ | k5 := k5
   · rw [f_tree_Check_L6] at h; cases h
   rw [f_tree_Check_L6] at h
   refine aw_show (m := (memOf w0 Z0 [] [] [(fDat (tyList tyS_api_Node) [v0_0] a0), uTabs])) (S := (tab [(0, v0_0), (9, v0_0), (10, (int .i64 (a0.length : Int))), (11, (int .i64 l4i11))])) ?_
   refine aw_sr ?_
   refine al_in rfl rfl rfl rfl ?_
   refine al_nt ?_
   refine aw_seq ?_
   refine aw_cond rfl (fun hb7 => ?_) (fun hb7 => ?_)
   ·replace h := bif_t hb7 h
    refine aw_skip ?_
    refine aq_then ?_
    refine aw_seq ?_
    refine aw_block ?_
    refine aw_sr ?_
    refine al_mv rfl rfl ?_
    obtain ⟨u8, hu9, h⟩ := opt_some h
    refine al_idxD 0 hu9 rfl rfl rfl Tryd.underlying164 sz168 rfl (fun p10 => ?_)
    refine al_loadPA 0 rfl rfl Tryd.underlying168 sz168 rfl rfl (fun cs12 => ?_)
    refine al_use (ι := Value) 0 rfl (fun j => cs12 = [(str u8.Name), (int .i64 u8.Kind), (int .i64 u8.Mode), (int .i64 u8.Time), (int .i64 u8.Size), j, (str u8.Link)]) (fun j => [(fDat (tyList tyA8u8) [j] u8.Parts)]) encnS_api_Node (fun s11 hq => ?_)
    subst hq
    refine al_alloc (zs := [(str ([] : List UInt8)), (int .i64 (0 : Int)), (int .i64 (0 : Int)), (int .i64 (0 : Int)), (int .i64 (0 : Int)), (Value.slice none 0 0), (str ([] : List UInt8))]) (zeroOf_to to168) rfl rfl (fun g13 => ?_)
    refine al_as rfl rfl ?_
    refine al_store (i := 0) (vs := [(str u8.Name), (int .i64 u8.Kind), (int .i64 u8.Mode), (int .i64 u8.Time), (int .i64 u8.Size), s11, (str u8.Link)]) (cs' := [(str u8.Name), (int .i64 u8.Kind), (int .i64 u8.Mode), (int .i64 u8.Time), (int .i64 u8.Size), s11, (str u8.Link)]) rfl rfl rfl sz168 (cv_rfl rfl) rfl (co_val rfl (co_val rfl (co_val rfl (co_val rfl (co_val rfl (co_fz 0 rfl (co_val rfl co_nil))))))) (Nat.le_of_ble_eq_true rfl) rfl rfl ?_
    refine al_nt ?_
    refine aw_seq ?_
    refine aw_sr ?_
    refine al_val (ov_fieldA (p := 0) rfl Tryd.underlying168 rfl sz9 rfl rfl rfl) ?_
    refine al_val (ov_load (i := 0) (v := (str u8.Name)) rfl rfl Tryd.underlying9 sz9 rfl rfl rfl rfl) ?_
    obtain ⟨r15, hc14, h⟩ := opt_some h
    refine al_call (vs := [(str u8.Name)]) (f_names_Check_ok fu u8.Name hc14) [] [] [0] (pre_fz 4 rfl pre_nil) rfl (by simp) (by decide) (.inl rfl) rfl Tryd.func145 rfl rfl rfl (fun _ => ?_)
    refine al_as rfl rfl ?_
    refine al_nt ?_
    refine aw_sr ?_
    refine al_mv rfl rfl ?_
    refine al_in rfl rfl rfl rfl ?_
    refine al_nt ?_
    refine aw_cond rfl (fun hb16 => ?_) (fun hb16 => ?_)
    ·replace h := bif_t hb16 h
     refine aw_sr ?_
     refine al_mv rfl rfl ?_
     refine al_as rfl rfl ?_
     refine al_nt ?_
     refine aw_ret ?_
     refine aq_then_ret ?_
     refine aq_block_ret ?_
     refine aq_then_ret ?_
     refine aq_then_ret ?_
     refine aq_block_ret ?_
     refine aq_then_ret ?_
     obtain rfl := Option.some.inj h
     exact fn_ret () [] [] rfl rfl rfl rfl (res1 rfl rfl) rfl rfl rfl (by decide)
    ·replace h := bif_f hb16 h
     refine aw_skip ?_
     refine aq_then ?_
     refine aw_block ?_
     obtain ⟨kk18, hkk18, h⟩ := lt_some h
     refine aw_seq_join (ι := Bool) (fun i => (memOf w0 Z0 [] [(oBox g13 168 [(str u8.Name), (int .i64 u8.Kind), (int .i64 u8.Mode), (int .i64 u8.Time), (int .i64 u8.Size), s11, (str u8.Link)])] [(fDat (tyList tyS_api_Node) [v0_0] a0), (fDat (tyList tyA8u8) [s11] u8.Parts), (fDat tyS_api_Node [(str u8.Name), (int .i64 u8.Kind), (int .i64 u8.Mode), (int .i64 u8.Time), (int .i64 u8.Size), s11, (str u8.Link)] u8), (fPtr tyS_api_Node p10 u8), uTabs])) (fun i => (tab [(0, v0_0), (3, (int .i64 l4i11)), (4, (ptr g13 0)), (9, v0_0), (10, (int .i64 (a0.length : Int))), (11, (int .i64 l4i11)), (22, (bool i))])) (fun i => kk18 i = some r) ?_ ?_
     ·rintro j17b22 h
      have h : kk18 j17b22 = some r := h
      rw [hkk18] at h
      dsimp only at h
      clear hkk18
      refine aw_show (m := (memOf w0 Z0 [] [(oBox g13 168 [(str u8.Name), (int .i64 u8.Kind), (int .i64 u8.Mode), (int .i64 u8.Time), (int .i64 u8.Size), s11, (str u8.Link)])] [(fDat (tyList tyS_api_Node) [v0_0] a0), (fDat (tyList tyA8u8) [s11] u8.Parts), (fDat tyS_api_Node [(str u8.Name), (int .i64 u8.Kind), (int .i64 u8.Mode), (int .i64 u8.Time), (int .i64 u8.Size), s11, (str u8.Link)] u8), (fPtr tyS_api_Node p10 u8), uTabs])) (S := (tab [(0, v0_0), (3, (int .i64 l4i11)), (4, (ptr g13 0)), (9, v0_0), (10, (int .i64 (a0.length : Int))), (11, (int .i64 l4i11)), (22, (bool j17b22))])) ?_
      refine aw_cond rfl (fun hb19 => ?_) (fun hb19 => ?_)
      ·replace h := bif_t hb19 h
       refine aw_sr ?_
       refine al_as rfl rfl ?_
       refine al_nt ?_
       refine aw_ret ?_
       refine aq_block_ret ?_
       refine aq_block_ret ?_
       refine aq_then_ret ?_
       refine aq_then_ret ?_
       refine aq_block_ret ?_
       refine aq_then_ret ?_
       obtain rfl := Option.some.inj h
       exact fn_ret () [] [] rfl rfl rfl rfl (res1 rfl rfl) rfl rfl rfl (by decide)
      ·replace h := bif_f hb19 h
       refine aw_sr ?_
       refine al_val (ov_fieldA (p := 1) rfl Tryd.underlying168 rfl sz3 rfl rfl rfl) ?_
       refine al_val (ov_load (i := 0) (v := (int .i64 u8.Kind)) rfl rfl Tryd.underlying3 sz3 rfl rfl rfl rfl) ?_
       obtain ⟨r21, hc20, h⟩ := opt_some h
       refine al_call (vs := [(int .i64 u8.Kind)]) (f_tree_Known_ok fu u8.Kind hc20) [] [] [0] pre_nil rfl (by simp) (by decide) (.inl rfl) rfl Tryd.func160 rfl rfl rfl (fun _ => ?_)
       refine al_val (ov_not rfl rfl) ?_
       refine al_as rfl rfl ?_
       refine al_nt ?_
       refine aw_cond rfl (fun hb22 => ?_) (fun hb22 => ?_)
       ·replace h := bif_t hb22 h
        refine aw_sr ?_
        refine al_as rfl rfl ?_
        refine al_nt ?_
        refine aw_ret ?_
        refine aq_block_ret ?_
        refine aq_block_ret ?_
        refine aq_then_ret ?_
        refine aq_then_ret ?_
        refine aq_block_ret ?_
        refine aq_then_ret ?_
        obtain rfl := Option.some.inj h
        exact fn_ret () [] [] rfl rfl rfl rfl (res1 rfl rfl) rfl rfl rfl (by decide)
       ·replace h := bif_f hb22 h
        refine aw_sr ?_
        refine al_val (ov_load (i := 0) (v := (ag [(str u8.Name), (int .i64 u8.Kind), (int .i64 u8.Mode), (int .i64 u8.Time), (int .i64 u8.Size), s11, (str u8.Link)])) rfl rfl Tryd.underlying168 sz168 rfl rfl rfl rfl) ?_
        obtain ⟨r24, hc23, h⟩ := opt_some h
        refine al_call (vs := [(ag [(str u8.Name), (int .i64 u8.Kind), (int .i64 u8.Mode), (int .i64 u8.Time), (int .i64 u8.Size), s11, (str u8.Link)])]) (f_tree_formed_ok fu s11 u8 hc23) [] [] [0] (pre_fz 1 rfl pre_nil) rfl (by simp) (by decide) (.inl rfl) rfl Tryd.func205 rfl rfl rfl (fun _ => ?_)
        refine al_val (ov_not rfl rfl) ?_
        refine al_as rfl rfl ?_
        refine al_nt ?_
        refine aw_cond rfl (fun hb25 => ?_) (fun hb25 => ?_)
        ·replace h := bif_t hb25 h
         refine aw_sr ?_
         refine al_as rfl rfl ?_
         refine al_nt ?_
         refine aw_ret ?_
         refine aq_block_ret ?_
         refine aq_block_ret ?_
         refine aq_then_ret ?_
         refine aq_then_ret ?_
         refine aq_block_ret ?_
         refine aq_then_ret ?_
         obtain rfl := Option.some.inj h
         exact fn_ret () [] [] rfl rfl rfl rfl (res1 rfl rfl) rfl rfl rfl (by decide)
        ·replace h := bif_f hb25 h
         refine aw_sr ?_
         refine al_val (ov_fieldA (p := 6) rfl Tryd.underlying168 rfl sz9 rfl rfl rfl) ?_
         refine al_val (ov_load (i := 0) (v := (str u8.Link)) rfl rfl Tryd.underlying9 sz9 rfl rfl rfl rfl) ?_
         refine al_val (ov_strLen Tryd.underlying9 rfl rfl) ?_
         refine al_in rfl rfl rfl rfl ?_
         refine al_as rfl rfl ?_
         refine al_nt ?_
         refine aw_cond rfl (fun hb26 => ?_) (fun hb26 => ?_)
         ·replace h := bif_t hb26 h
          refine aw_sr ?_
          refine al_as rfl rfl ?_
          refine al_nt ?_
          refine aw_ret ?_
          refine aq_block_ret ?_
          refine aq_block_ret ?_
          refine aq_then_ret ?_
          refine aq_then_ret ?_
          refine aq_block_ret ?_
          refine aq_then_ret ?_
          obtain rfl := Option.some.inj h
          exact fn_ret () [] [] rfl rfl rfl rfl (res1 rfl rfl) rfl rfl rfl (by decide)
         ·replace h := bif_f hb26 h
          obtain ⟨kk28, hkk28, h⟩ := lt_some h
          refine aw_seq_join (ι := Bool) (fun i => (memOf w0 Z0 [] [] [(fDat (tyList tyS_api_Node) [v0_0] a0), (fDat (tyList tyA8u8) [s11] u8.Parts), (fDat tyS_api_Node [(str u8.Name), (int .i64 u8.Kind), (int .i64 u8.Mode), (int .i64 u8.Time), (int .i64 u8.Size), s11, (str u8.Link)] u8), (fPtr tyS_api_Node p10 u8), uTabs])) (fun i => (tab [(0, v0_0), (9, v0_0), (10, (int .i64 (a0.length : Int))), (11, (int .i64 l4i11)), (61, (bool i))])) (fun i => kk28 i = some r) ?_ ?_
          ·rintro j27b61 h
           have h : kk28 j27b61 = some r := h
           rw [hkk28] at h
           dsimp only at h
           clear hkk28
           refine aw_show (m := (memOf w0 Z0 [] [] [(fDat (tyList tyS_api_Node) [v0_0] a0), (fDat (tyList tyA8u8) [s11] u8.Parts), (fDat tyS_api_Node [(str u8.Name), (int .i64 u8.Kind), (int .i64 u8.Mode), (int .i64 u8.Time), (int .i64 u8.Size), s11, (str u8.Link)] u8), (fPtr tyS_api_Node p10 u8), uTabs])) (S := (tab [(0, v0_0), (9, v0_0), (10, (int .i64 (a0.length : Int))), (11, (int .i64 l4i11)), (61, (bool j27b61))])) ?_
           refine aw_cond rfl (fun hb29 => ?_) (fun hb29 => ?_)
           ·replace h := bif_t hb29 h
            refine aw_sr ?_
            refine al_as rfl rfl ?_
            refine al_nt ?_
            refine aw_ret ?_
            refine aq_block_ret ?_
            refine aq_block_ret ?_
            refine aq_then_ret ?_
            refine aq_then_ret ?_
            refine aq_block_ret ?_
            refine aq_then_ret ?_
            obtain rfl := Option.some.inj h
            exact fn_ret () [] [] rfl rfl rfl rfl (res1 rfl rfl) rfl rfl rfl (by decide)
           ·replace h := bif_f hb29 h
            refine aw_skip ?_
            refine aq_block ?_
            refine aq_block ?_
            refine aq_then ?_
            refine aw_region ?_
            refine al_in rfl rfl rfl rfl ?_
            refine al_mv rfl rfl ?_
            refine al_nil ?_
            exact aq_again k5 (IntKind.i64.wrap (l4i11 + (1 : Int))) (Nat.lt_succ_self _) h (fun w a hm hs => norm hm hs [] [0, 4] [(0, v0_0), (9, v0_0), (10, (int .i64 (a0.length : Int))), (11, (int .i64 (IntKind.i64.wrap (l4i11 + (1 : Int)))))] (by decide) ⟨rfl, rfl, rfl, rfl, trivial⟩)
          ·clear hkk28
           rcases Bool.eq_false_or_eq_true (decide (l4i11 > (0 : Int))) with hb30 | hb30
           ·replace h := bif_t hb30 h
            obtain ⟨u31, hu32, h⟩ := opt_some h
            refine aw_region_draw 13 [(62, (fun u => fEq u (int .i64 l4i11))), (63, (fun u => fEq u (bool true))), (64, (fun u => fEq u (bool true))), (65, (fun u => fEq u (ptr g13 0))), (66, (fun u => fEq u (str u8.Name))), (67, (fun u => fEq u v0_0)), (68, (fun u => fEq u (int .i64 l4i11))), (69, (fun u => fEq u (int .i64 (IntKind.i64.wrap (l4i11 - (1 : Int)))))), (70, (fun p33 => (fPtr tyS_api_Node p33 u31))), (71, (fun p34 => (fPtr tyStr p34 u31.Name))), (72, (fun u => fEq u (str u31.Name))), (73, (fun u => fEq u (bool (Op.bytesLess u8.Name u31.Name || u8.Name == u31.Name)))), (74, (fun u => fEq u (bool (Op.bytesLess u8.Name u31.Name || u8.Name == u31.Name))))] (tab [(0, v0_0), (3, (int .i64 l4i11)), (4, (ptr g13 0)), (9, v0_0), (10, (int .i64 (a0.length : Int))), (11, (int .i64 l4i11))]) mixed (by kernel_rfl) rfl rfl rfl (fun a hs => hs.tab _ (allT_mem ⟨rfl, rfl, rfl, rfl, rfl, rfl, trivial⟩)) ⟨⟨rfl, ld_val (ov_move rfl rfl)⟩, ⟨rfl, ld_eq (j := 0) rfl rfl (ld_val (ov_cast (by first | rw [hb30] | rfl) (ov_int rfl rfl rfl rfl)))⟩, ⟨rfl, ld_eq (j := 1) rfl rfl (ld_val (ov_cast (by first | rw [hb30] | rfl) (ov_move rfl rfl)))⟩, ⟨rfl, ld_eq (j := 2) rfl rfl (ld_val (ov_fieldA (p := 0) rfl Tryd.underlying168 rfl sz9 rfl rfl rfl))⟩, ⟨rfl, ld_eq (j := 2) rfl rfl (ld_eq (j := 3) rfl rfl (ld_val (ov_load (i := 0) (v := (str u8.Name)) rfl rfl Tryd.underlying9 sz9 rfl rfl rfl rfl)))⟩, ⟨rfl, ld_eq (j := 2) rfl rfl (ld_val (ov_move rfl rfl))⟩, ⟨rfl, ld_eq (j := 2) rfl rfl (ld_val (ov_move rfl rfl))⟩, ⟨rfl, ld_eq (j := 2) rfl rfl (ld_eq (j := 6) rfl rfl (ld_val (ov_int rfl rfl rfl rfl)))⟩, ⟨rfl, ld_eq (j := 2) rfl rfl (ld_eq (j := 5) rfl rfl (ld_eq (j := 7) rfl rfl (ld_of (of_idxD 0 hu32 rfl rfl rfl Tryd.underlying164 sz168 rfl))))⟩, ⟨rfl, ld_eq (j := 2) rfl rfl (ld_fact (j := 8) rfl rfl (fun p33 => ld_of (of_fieldD (pr := fun (y : S_api_Node) => y.Name) 0 rfl subS_api_Node_0 rfl Tryd.underlying168 rfl sz9 rfl rfl)))⟩, ⟨rfl, ld_eq (j := 2) rfl rfl (ld_fact (j := 9) rfl rfl (fun p34 => ld_val (ov_loadP (ds := [(str u31.Name)]) 0 rfl (fun h => h) rfl Tryd.underlying9 sz9 rfl rfl rfl)))⟩, ⟨rfl, ld_eq (j := 2) rfl rfl (ld_eq (j := 4) rfl rfl (ld_eq (j := 10) rfl rfl (ld_val (ov_strCmp rfl rfl rfl rfl))))⟩, ⟨rfl, ld_eq (j := 2) rfl rfl (ld_eq (j := 11) rfl rfl (ld_val (ov_pick_t rfl rfl rfl)))⟩, trivial⟩ ?_
            refine tl_eq 12 rfl ?_
            refine tl_done ?_
            refine al_as rfl rfl ?_
            refine al_nil ?_
            exact aq_join (Op.bytesLess u8.Name u31.Name || u8.Name == u31.Name) h (fun w a hm hs => norm hm hs [] [0, 1, 2, 3, 4] [(0, v0_0), (9, v0_0), (10, (int .i64 (a0.length : Int))), (11, (int .i64 l4i11)), (61, (bool (Op.bytesLess u8.Name u31.Name || u8.Name == u31.Name)))] (by decide) ⟨rfl, rfl, rfl, rfl, rfl, trivial⟩)
           ·replace h := bif_f hb30 h
            refine aw_region_draw 13 [(62, (fun u => fEq u (int .i64 l4i11))), (63, (fun u => fEq u (bool false))), (64, (fun u => fEq u (bool false))), (65, (fun u => fEq u undef)), (66, (fun u => fEq u undef)), (67, (fun u => fEq u undef)), (68, (fun u => fEq u undef)), (69, (fun u => fEq u undef)), (70, (fun u => fEq u undef)), (71, (fun u => fEq u undef)), (72, (fun u => fEq u undef)), (73, (fun u => fEq u undef)), (74, (fun u => fEq u (bool false)))] (tab [(0, v0_0), (3, (int .i64 l4i11)), (4, (ptr g13 0)), (9, v0_0), (10, (int .i64 (a0.length : Int))), (11, (int .i64 l4i11))]) mixed (by kernel_rfl) rfl rfl rfl (fun a hs => hs.tab _ (allT_mem ⟨rfl, rfl, rfl, rfl, rfl, rfl, trivial⟩)) ⟨⟨rfl, ld_val (ov_move rfl rfl)⟩, ⟨rfl, ld_eq (j := 0) rfl rfl (ld_val (ov_cast (by first | rw [hb30] | rfl) (ov_int rfl rfl rfl rfl)))⟩, ⟨rfl, ld_eq (j := 1) rfl rfl (ld_val (ov_cast (by first | rw [hb30] | rfl) (ov_move rfl rfl)))⟩, ⟨rfl, ld_eq (j := 2) rfl rfl (ld_skip)⟩, ⟨rfl, ld_eq (j := 2) rfl rfl (ld_skip)⟩, ⟨rfl, ld_eq (j := 2) rfl rfl (ld_skip)⟩, ⟨rfl, ld_eq (j := 2) rfl rfl (ld_skip)⟩, ⟨rfl, ld_eq (j := 2) rfl rfl (ld_skip)⟩, ⟨rfl, ld_eq (j := 2) rfl rfl (ld_skip)⟩, ⟨rfl, ld_eq (j := 2) rfl rfl (ld_skip)⟩, ⟨rfl, ld_eq (j := 2) rfl rfl (ld_skip)⟩, ⟨rfl, ld_eq (j := 2) rfl rfl (ld_skip)⟩, ⟨rfl, ld_eq (j := 2) rfl rfl (ld_eq (j := 11) rfl rfl (ld_val (ov_pick_f rfl rfl rfl)))⟩, trivial⟩ ?_
            refine tl_eq 12 rfl ?_
            refine tl_done ?_
            refine al_as rfl rfl ?_
            refine al_nil ?_
            exact aq_join false h (fun w a hm hs => norm hm hs [] [0, 1, 2, 3, 4] [(0, v0_0), (9, v0_0), (10, (int .i64 (a0.length : Int))), (11, (int .i64 l4i11)), (61, (bool false))] (by decide) ⟨rfl, rfl, rfl, rfl, rfl, trivial⟩)
     ·clear hkk18
      refine aw_region ?_
      refine al_val (ov_fieldA (p := 2) rfl Tryd.underlying168 rfl sz3 rfl rfl rfl) ?_
      refine al_val (ov_load (i := 0) (v := (int .i64 u8.Mode)) rfl rfl Tryd.underlying3 sz3 rfl rfl rfl rfl) ?_
      refine al_in rfl rfl rfl rfl ?_
      refine al_mv rfl rfl ?_
      refine al_caseB 26 rfl (fun hb35 => ?_) (fun hb35 => ?_)
      ·replace h := bif_t hb35 h
       refine al_skip ?_
       refine al_skip ?_
       refine al_skip ?_
       refine al_val (ov_pick_t rfl rfl rfl) ?_
       refine al_mv rfl rfl ?_
       refine al_skip ?_
       refine al_skip ?_
       refine al_skip ?_
       refine al_val (ov_pick_t rfl rfl rfl) ?_
       refine al_mv rfl rfl ?_
       refine al_skip ?_
       refine al_skip ?_
       refine al_skip ?_
       refine al_val (ov_pick_t rfl rfl rfl) ?_
       refine al_mv rfl rfl ?_
       refine al_skip ?_
       refine al_skip ?_
       refine al_skip ?_
       refine al_skip ?_
       refine al_val (ov_pick_t rfl rfl rfl) ?_
       refine al_as rfl rfl ?_
       refine al_nil ?_
       exact aq_join true h (fun w a hm hs => norm hm hs [0] [3, 0, 1, 2, 4] [(0, v0_0), (3, (int .i64 l4i11)), (4, (ptr g13 0)), (9, v0_0), (10, (int .i64 (a0.length : Int))), (11, (int .i64 l4i11)), (22, (bool true))] (by decide) ⟨rfl, rfl, rfl, rfl, rfl, rfl, rfl, trivial⟩)
      ·replace h := bif_f hb35 h
       refine al_val (ov_fieldA (p := 2) rfl Tryd.underlying168 rfl sz3 rfl rfl rfl) ?_
       refine al_val (ov_load (i := 0) (v := (int .i64 u8.Mode)) rfl rfl Tryd.underlying3 sz3 rfl rfl rfl rfl) ?_
       refine al_in rfl rfl rfl rfl ?_
       refine al_val (ov_pick_f rfl rfl rfl) ?_
       refine al_mv rfl rfl ?_
       refine al_caseB 31 rfl (fun hb36 => ?_) (fun hb36 => ?_)
       ·replace h := bif_t hb36 h
        refine al_skip ?_
        refine al_skip ?_
        refine al_skip ?_
        refine al_val (ov_pick_t rfl rfl rfl) ?_
        refine al_mv rfl rfl ?_
        refine al_skip ?_
        refine al_skip ?_
        refine al_skip ?_
        refine al_val (ov_pick_t rfl rfl rfl) ?_
        refine al_mv rfl rfl ?_
        refine al_skip ?_
        refine al_skip ?_
        refine al_skip ?_
        refine al_skip ?_
        refine al_val (ov_pick_t rfl rfl rfl) ?_
        refine al_as rfl rfl ?_
        refine al_nil ?_
        exact aq_join true h (fun w a hm hs => norm hm hs [0] [3, 0, 1, 2, 4] [(0, v0_0), (3, (int .i64 l4i11)), (4, (ptr g13 0)), (9, v0_0), (10, (int .i64 (a0.length : Int))), (11, (int .i64 l4i11)), (22, (bool true))] (by decide) ⟨rfl, rfl, rfl, rfl, rfl, rfl, rfl, trivial⟩)
       ·replace h := bif_f hb36 h
        refine al_val (ov_fieldA (p := 4) rfl Tryd.underlying168 rfl sz3 rfl rfl rfl) ?_
        refine al_val (ov_load (i := 0) (v := (int .i64 u8.Size)) rfl rfl Tryd.underlying3 sz3 rfl rfl rfl rfl) ?_
        refine al_in rfl rfl rfl rfl ?_
        refine al_val (ov_pick_f rfl rfl rfl) ?_
        refine al_mv rfl rfl ?_
        refine al_caseB 36 rfl (fun hb37 => ?_) (fun hb37 => ?_)
        ·replace h := bif_t hb37 h
         refine al_skip ?_
         refine al_skip ?_
         refine al_skip ?_
         refine al_val (ov_pick_t rfl rfl rfl) ?_
         refine al_mv rfl rfl ?_
         refine al_skip ?_
         refine al_skip ?_
         refine al_skip ?_
         refine al_skip ?_
         refine al_val (ov_pick_t rfl rfl rfl) ?_
         refine al_as rfl rfl ?_
         refine al_nil ?_
         exact aq_join true h (fun w a hm hs => norm hm hs [0] [3, 0, 1, 2, 4] [(0, v0_0), (3, (int .i64 l4i11)), (4, (ptr g13 0)), (9, v0_0), (10, (int .i64 (a0.length : Int))), (11, (int .i64 l4i11)), (22, (bool true))] (by decide) ⟨rfl, rfl, rfl, rfl, rfl, rfl, rfl, trivial⟩)
        ·replace h := bif_f hb37 h
         refine al_val (ov_fieldA (p := 4) rfl Tryd.underlying168 rfl sz3 rfl rfl rfl) ?_
         refine al_val (ov_load (i := 0) (v := (int .i64 u8.Size)) rfl rfl Tryd.underlying3 sz3 rfl rfl rfl rfl) ?_
         refine al_in rfl rfl rfl rfl ?_
         refine al_val (ov_pick_f rfl rfl rfl) ?_
         refine al_mv rfl rfl ?_
         refine al_caseB 41 rfl (fun hb38 => ?_) (fun hb38 => ?_)
         ·replace h := bif_t hb38 h
          refine al_skip ?_
          refine al_skip ?_
          refine al_skip ?_
          refine al_skip ?_
          refine al_val (ov_pick_t rfl rfl rfl) ?_
          refine al_as rfl rfl ?_
          refine al_nil ?_
          exact aq_join true h (fun w a hm hs => norm hm hs [0] [3, 0, 1, 2, 4] [(0, v0_0), (3, (int .i64 l4i11)), (4, (ptr g13 0)), (9, v0_0), (10, (int .i64 (a0.length : Int))), (11, (int .i64 l4i11)), (22, (bool true))] (by decide) ⟨rfl, rfl, rfl, rfl, rfl, rfl, rfl, trivial⟩)
         ·replace h := bif_f hb38 h
          refine al_val (ov_fieldA (p := 5) rfl Tryd.underlying168 rfl sz27 rfl rfl rfl) ?_
          refine al_val (ov_load (i := 0) (v := s11) rfl rfl Tryd.underlying27 sz27 rfl rfl rfl rfl) ?_
          refine al_val (ov_lenD 0 rfl rfl Tryd.underlying27 rfl) ?_
          refine al_in rfl rfl rfl rfl ?_
          refine al_val (ov_pick_f rfl rfl rfl) ?_
          refine al_as rfl rfl ?_
          refine al_nil ?_
          exact aq_join (decide ((u8.Parts.length : Int) > (300 : Int))) h (fun w a hm hs => norm hm hs [0] [3, 0, 1, 2, 4] [(0, v0_0), (3, (int .i64 l4i11)), (4, (ptr g13 0)), (9, v0_0), (10, (int .i64 (a0.length : Int))), (11, (int .i64 l4i11)), (22, (bool (decide ((u8.Parts.length : Int) > (300 : Int)))))] (by decide) ⟨rfl, rfl, rfl, rfl, rfl, rfl, rfl, trivial⟩)
   ·replace h := bif_f hb7 h
    refine aw_exit ?_
    refine aq_then_exit ?_
    refine aq_then_exit ?_
    refine aq_block_exit ?_
    exact aq_join () h (fun w a hm hs => norm hm hs [] [0, 1] [] (by decide) trivial)
def f___tree_reader__fail (fu : Nat) (a0 : S_tree_reader) (a1 : Int) : Option S_tree_reader := (bif (a0.e == (0 : Int)) then (some (S_tree_reader.mk a0.s a1)) else (some a0))
set_option maxRecDepth 100000 in
theorem f___tree_reader__fail_ok (fu : Nat) (bx0 : Nat) (a0 : S_tree_reader) (a1 : Int) {r : S_tree_reader} (h : f___tree_reader__fail fu a0 a1 = some r) : FnOk Tryd.prog 166 [(ptr bx0 0), (int .i64 a1)] [] [(oBox bx0 244 [(str a0.s), (int .i64 a0.e)])] (fun (i : Unit) => { val := (Value.tuple #[]), own := [(oBox bx0 244 [(str r.s), (int .i64 r.e)])] }) := by
 unfold f___tree_reader__fail at h
 refine fn_enter Tryd.func166 rfl Tryd.ntmps166 rfl (fun w0 Z0 => ?_)
 refine aw_sr ?_
 refine al_mv rfl rfl ?_
 refine al_val (ov_nilCheck rfl rfl) ?_
 refine al_val (ov_fieldA (p := 1) rfl Tryd.underlying244 rfl sz23 rfl rfl rfl) ?_
 refine al_val (ov_load (i := 0) (v := (int .i64 a0.e)) rfl rfl Tryd.underlying23 sz23 rfl rfl rfl rfl) ?_
 refine al_in rfl rfl rfl rfl ?_
 refine al_nt ?_
 refine aw_cond rfl (fun hb1 => ?_) (fun hb1 => ?_)
 ·replace h := bif_t hb1 h
  refine aw_region ?_
  refine al_mv rfl rfl ?_
  refine al_mv rfl rfl ?_
  refine al_val (ov_nilCheck rfl rfl) ?_
  refine al_val (ov_fieldA (p := 1) rfl Tryd.underlying244 rfl sz23 rfl rfl rfl) ?_
  refine al_store (i := 0) (vs := [(int .i64 a1)]) (cs' := [(str a0.s), (int .i64 a1)]) rfl rfl rfl sz23 (cv_rfl rfl) rfl (co_val rfl co_nil) (Nat.le_of_ble_eq_true rfl) rfl rfl ?_
  refine al_nil ?_
  refine fn_end ?_
  obtain rfl := Option.some.inj h
  exact fn_ret () [0] [] rfl rfl rfl rfl (resC rfl (resN) rfl) rfl rfl rfl (by decide)
 ·replace h := bif_f hb1 h
  refine aw_skip ?_
  refine fn_end ?_
  obtain rfl := Option.some.inj h
  exact fn_ret () [0] [] rfl rfl rfl rfl (resC rfl (resN) rfl) rfl rfl rfl (by decide)
def f___tree_reader__number (fu : Nat) (a0 : S_tree_reader) (a1 : Int) : Option (Int × S_tree_reader) := (opt (f_num_Get fu a0.s) fun (r2 : (Int × Int × Int)) => (opt (f___tree_reader__fail fu a0 r2.2.2) fun (r4 : S_tree_reader) => (lt (fun (j5s0_0 : (List UInt8)) (j5i0_1 : Int) => (bif (j5i0_1 != (0 : Int)) then (some ((0 : Int), (S_tree_reader.mk j5s0_0 j5i0_1))) else (req (0 ≤ r2.2.1 ∧ r2.2.1 ≤ (j5s0_0.length : Int)) (some ((IntKind.i64.wrap r2.1), (S_tree_reader.mk (j5s0_0.drop (r2.2.1).toNat) j5i0_1)))))) fun (kk6 : (List UInt8) → Int → Option (Int × S_tree_reader)) => (lt (fun (j9b29 : Bool) => (bif j9b29 then (opt (f___tree_reader__fail fu r4 (2 : Int)) fun (r13 : S_tree_reader) => (kk6 r13.s r13.e)) else (kk6 r4.s r4.e))) fun (kk10 : Bool → Option (Int × S_tree_reader)) => (bif (r4.e == (0 : Int)) then (kk10 (decide (r2.1 > a1))) else (kk10 false))))))
set_option maxRecDepth 100000 in
theorem f___tree_reader__number_ok (fu : Nat) (bx0 : Nat) (a0 : S_tree_reader) (a1 : Int) {r : (Int × S_tree_reader)} (h : f___tree_reader__number fu a0 a1 = some r) : FnOk Tryd.prog 164 [(ptr bx0 0), (int .u64 a1)] [] [(oBox bx0 244 [(str a0.s), (int .i64 a0.e)])] (fun (i : Unit) => { val := (int .i64 r.1), own := [(oBox bx0 244 [(str r.2.s), (int .i64 r.2.e)])] }) := by
 unfold f___tree_reader__number at h
 refine fn_enter Tryd.func164 rfl Tryd.ntmps164 rfl (fun w0 Z0 => ?_)
 refine aw_sr ?_
 refine al_as rfl rfl ?_
 refine al_nt ?_
 refine aw_sr ?_
 refine al_mv rfl rfl ?_
 refine al_val (ov_nilCheck rfl rfl) ?_
 refine al_val (ov_fieldA (p := 0) rfl Tryd.underlying244 rfl sz9 rfl rfl rfl) ?_
 refine al_val (ov_load (i := 0) (v := (str a0.s)) rfl rfl Tryd.underlying9 sz9 rfl rfl rfl rfl) ?_
 obtain ⟨r2, hc1, h⟩ := opt_some h
 refine al_call (vs := [(str a0.s)]) (f_num_Get_ok fu a0.s hc1) [] [] [0] pre_nil rfl (by simp) (by decide) (.inl rfl) rfl Tryd.func201 rfl rfl rfl (fun _ => ?_)
 refine al_mv rfl rfl ?_
 refine al_ex rfl rfl rfl ?_
 refine al_ex rfl rfl rfl ?_
 refine al_ex rfl rfl rfl ?_
 refine al_as rfl rfl ?_
 refine al_as rfl rfl ?_
 refine al_as rfl rfl ?_
 refine al_nt ?_
 refine aw_sr ?_
 refine al_mv rfl rfl ?_
 refine al_mv rfl rfl ?_
 obtain ⟨r4, hc3, h⟩ := opt_some h
 refine al_call (vs := [(ptr bx0 0), (int .i64 r2.2.2)]) (f___tree_reader__fail_ok fu bx0 a0 r2.2.2 hc3) [] [0] [] pre_nil rfl (by simp) (by decide) (.inl rfl) rfl Tryd.func166 rfl rfl rfl (fun _ => ?_)
 refine al_nt ?_
 obtain ⟨kk6, hkk6, h⟩ := lt_some h
 refine aw_seq_join (ι := (List UInt8) × Int) (fun i => (memOf w0 Z0 [(oBox bx0 244 [(str a0.s), (int .i64 a0.e)])] [(oBox bx0 244 [(str i.1), (int .i64 i.2)])] [])) (fun i => (tab [(0, (ptr bx0 0)), (5, (int .u64 r2.1)), (6, (int .i64 r2.2.1))])) (fun i => kk6 i.1 i.2 = some r) ?_ ?_
 ·rintro ⟨j5s0_0, j5i0_1⟩ h
  have h : kk6 j5s0_0 j5i0_1 = some r := h
  rw [hkk6] at h
  dsimp only at h
  clear hkk6
  refine aw_show (m := (memOf w0 Z0 [(oBox bx0 244 [(str a0.s), (int .i64 a0.e)])] [(oBox bx0 244 [(str j5s0_0), (int .i64 j5i0_1)])] [])) (S := (tab [(0, (ptr bx0 0)), (5, (int .u64 r2.1)), (6, (int .i64 r2.2.1))])) ?_
  refine aw_seq ?_
  refine aw_sr ?_
  refine al_mv rfl rfl ?_
  refine al_val (ov_nilCheck rfl rfl) ?_
  refine al_val (ov_fieldA (p := 1) rfl Tryd.underlying244 rfl sz23 rfl rfl rfl) ?_
  refine al_val (ov_load (i := 0) (v := (int .i64 j5i0_1)) rfl rfl Tryd.underlying23 sz23 rfl rfl rfl rfl) ?_
  refine al_in rfl rfl rfl rfl ?_
  refine al_nt ?_
  refine aw_cond rfl (fun hb7 => ?_) (fun hb7 => ?_)
  ·replace h := bif_t hb7 h
   refine aw_sr ?_
   refine al_as rfl rfl ?_
   refine al_nt ?_
   refine aw_ret ?_
   refine aq_then_ret ?_
   obtain rfl := Option.some.inj h
   exact fn_ret () [0] [] rfl rfl rfl rfl (res1 rfl rfl) rfl rfl rfl (by decide)
  ·replace h := bif_f hb7 h
   refine aw_skip ?_
   refine aq_tr ?_
   refine al_mv rfl rfl ?_
   refine al_mv rfl rfl ?_
   refine al_val (ov_nilCheck rfl rfl) ?_
   refine al_val (ov_fieldA (p := 0) rfl Tryd.underlying244 rfl sz9 rfl rfl rfl) ?_
   refine al_val (ov_load (i := 0) (v := (str j5s0_0)) rfl rfl Tryd.underlying9 sz9 rfl rfl rfl rfl) ?_
   refine al_mv rfl rfl ?_
   obtain ⟨hc8, h⟩ := req_some h
   refine al_val (ov_strFrom hc8.1 hc8.2 Tryd.underlying9 rfl rfl rfl) ?_
   refine al_val (ov_nilCheck rfl rfl) ?_
   refine al_val (ov_fieldA (p := 0) rfl Tryd.underlying244 rfl sz9 rfl rfl rfl) ?_
   refine al_store (i := 0) (vs := [(str (j5s0_0.drop (r2.2.1).toNat))]) (cs' := [(str (j5s0_0.drop (r2.2.1).toNat)), (int .i64 j5i0_1)]) rfl rfl rfl sz9 (cv_rfl rfl) rfl (co_val rfl co_nil) (Nat.le_of_ble_eq_true rfl) rfl rfl ?_
   refine al_nt ?_
   refine aw_sr ?_
   refine al_mv rfl rfl ?_
   refine al_val (ov_convInt (by rw [Tryd.underlying115]; rfl) Tryd.underlying3 rfl rfl) ?_
   refine al_as rfl rfl ?_
   refine al_nt ?_
   refine aw_ret ?_
   obtain rfl := Option.some.inj h
   exact fn_ret () [0] [] rfl rfl rfl rfl (res1 rfl rfl) rfl rfl rfl (by decide)
 ·clear hkk6
  obtain ⟨kk10, hkk10, h⟩ := lt_some h
  refine aw_seq_join (ι := Bool) (fun i => (memOf w0 Z0 [(oBox bx0 244 [(str a0.s), (int .i64 a0.e)])] [(oBox bx0 244 [(str r4.s), (int .i64 r4.e)])] [])) (fun i => (tab [(0, (ptr bx0 0)), (5, (int .u64 r2.1)), (6, (int .i64 r2.2.1)), (29, (bool i))])) (fun i => kk10 i = some r) ?_ ?_
  ·rintro j9b29 h
   have h : kk10 j9b29 = some r := h
   rw [hkk10] at h
   dsimp only at h
   clear hkk10
   refine aw_show (m := (memOf w0 Z0 [(oBox bx0 244 [(str a0.s), (int .i64 a0.e)])] [(oBox bx0 244 [(str r4.s), (int .i64 r4.e)])] [])) (S := (tab [(0, (ptr bx0 0)), (5, (int .u64 r2.1)), (6, (int .i64 r2.2.1)), (29, (bool j9b29))])) ?_
   refine aw_cond rfl (fun hb11 => ?_) (fun hb11 => ?_)
   ·replace h := bif_t hb11 h
    refine aw_region ?_
    refine al_mv rfl rfl ?_
    obtain ⟨r13, hc12, h⟩ := opt_some h
    refine al_call (vs := [(ptr bx0 0), (int .i64 (2 : Int))]) (f___tree_reader__fail_ok fu bx0 r4 (2 : Int) hc12) [] [0] [] pre_nil rfl (by simp) (by decide) (.inl rfl) rfl Tryd.func166 rfl rfl rfl (fun _ => ?_)
    refine al_nil ?_
    exact aq_join (r13.s, r13.e) h (fun w a hm hs => norm hm hs [0] [] [(0, (ptr bx0 0)), (5, (int .u64 r2.1)), (6, (int .i64 r2.2.1))] (by decide) ⟨rfl, rfl, rfl, trivial⟩)
   ·replace h := bif_f hb11 h
    refine aw_skip ?_
    exact aq_join (r4.s, r4.e) h (fun w a hm hs => norm hm hs [0] [] [(0, (ptr bx0 0)), (5, (int .u64 r2.1)), (6, (int .i64 r2.2.1))] (by decide) ⟨rfl, rfl, rfl, trivial⟩)
  ·clear hkk10
   refine aw_region ?_
   refine al_mv rfl rfl ?_
   refine al_val (ov_nilCheck rfl rfl) ?_
   refine al_val (ov_fieldA (p := 1) rfl Tryd.underlying244 rfl sz23 rfl rfl rfl) ?_
   refine al_val (ov_load (i := 0) (v := (int .i64 r4.e)) rfl rfl Tryd.underlying23 sz23 rfl rfl rfl rfl) ?_
   refine al_in rfl rfl rfl rfl ?_
   refine al_mv rfl rfl ?_
   refine al_caseB 25 rfl (fun hb14 => ?_) (fun hb14 => ?_)
   ·replace h := bif_t hb14 h
    refine al_mv rfl rfl ?_
    refine al_mv rfl rfl ?_
    refine al_in rfl rfl rfl rfl ?_
    refine al_val (ov_pick_t rfl rfl rfl) ?_
    refine al_nil ?_
    exact aq_join (decide (r2.1 > a1)) h (fun w a hm hs => norm hm hs [0] [] [(0, (ptr bx0 0)), (5, (int .u64 r2.1)), (6, (int .i64 r2.2.1)), (29, (bool (decide (r2.1 > a1))))] (by decide) ⟨rfl, rfl, rfl, rfl, trivial⟩)
   ·replace h := bif_f hb14 h
    refine al_skip ?_
    refine al_skip ?_
    refine al_skip ?_
    refine al_val (ov_pick_f rfl rfl rfl) ?_
    refine al_nil ?_
    exact aq_join false h (fun w a hm hs => norm hm hs [0] [] [(0, (ptr bx0 0)), (5, (int .u64 r2.1)), (6, (int .i64 r2.2.1)), (29, (bool false))] (by decide) ⟨rfl, rfl, rfl, rfl, trivial⟩)
def f___tree_reader__text (fu : Nat) (a0 : S_tree_reader) : Option ((List UInt8) × S_tree_reader) := (opt (f_num_GetText fu a0.s) fun (r2 : ((List UInt8) × Int × Int)) => (opt (f___tree_reader__fail fu a0 r2.2.2) fun (r4 : S_tree_reader) => (bif (r4.e != (0 : Int)) then (some (([] : List UInt8), r4)) else (req (0 ≤ r2.2.1 ∧ r2.2.1 ≤ (r4.s.length : Int)) (some (r2.1, (S_tree_reader.mk (r4.s.drop (r2.2.1).toNat) r4.e)))))))
set_option maxRecDepth 100000 in
theorem f___tree_reader__text_ok (fu : Nat) (bx0 : Nat) (a0 : S_tree_reader) {r : ((List UInt8) × S_tree_reader)} (h : f___tree_reader__text fu a0 = some r) : FnOk Tryd.prog 202 [(ptr bx0 0)] [] [(oBox bx0 244 [(str a0.s), (int .i64 a0.e)])] (fun (i : Unit) => { val := (str r.1), own := [(oBox bx0 244 [(str r.2.s), (int .i64 r.2.e)])] }) := by
 unfold f___tree_reader__text at h
 refine fn_enter Tryd.func202 rfl Tryd.ntmps202 rfl (fun w0 Z0 => ?_)
 refine aw_sr ?_
 refine al_as rfl rfl ?_
 refine al_nt ?_
 refine aw_sr ?_
 refine al_mv rfl rfl ?_
 refine al_val (ov_nilCheck rfl rfl) ?_
 refine al_val (ov_fieldA (p := 0) rfl Tryd.underlying244 rfl sz9 rfl rfl rfl) ?_
 refine al_val (ov_load (i := 0) (v := (str a0.s)) rfl rfl Tryd.underlying9 sz9 rfl rfl rfl rfl) ?_
 obtain ⟨r2, hc1, h⟩ := opt_some h
 refine al_call (vs := [(str a0.s)]) (f_num_GetText_ok fu a0.s hc1) [] [] [0] pre_nil rfl (by simp) (by decide) (.inl rfl) rfl Tryd.func229 rfl rfl rfl (fun _ => ?_)
 refine al_mv rfl rfl ?_
 refine al_ex rfl rfl rfl ?_
 refine al_ex rfl rfl rfl ?_
 refine al_ex rfl rfl rfl ?_
 refine al_as rfl rfl ?_
 refine al_as rfl rfl ?_
 refine al_as rfl rfl ?_
 refine al_nt ?_
 refine aw_sr ?_
 refine al_mv rfl rfl ?_
 refine al_mv rfl rfl ?_
 obtain ⟨r4, hc3, h⟩ := opt_some h
 refine al_call (vs := [(ptr bx0 0), (int .i64 r2.2.2)]) (f___tree_reader__fail_ok fu bx0 a0 r2.2.2 hc3) [] [0] [] pre_nil rfl (by simp) (by decide) (.inl rfl) rfl Tryd.func166 rfl rfl rfl (fun _ => ?_)
 refine al_nt ?_
 refine aw_seq ?_
 refine aw_sr ?_
 refine al_mv rfl rfl ?_
 refine al_val (ov_nilCheck rfl rfl) ?_
 refine al_val (ov_fieldA (p := 1) rfl Tryd.underlying244 rfl sz23 rfl rfl rfl) ?_
 refine al_val (ov_load (i := 0) (v := (int .i64 r4.e)) rfl rfl Tryd.underlying23 sz23 rfl rfl rfl rfl) ?_
 refine al_in rfl rfl rfl rfl ?_
 refine al_nt ?_
 refine aw_cond rfl (fun hb5 => ?_) (fun hb5 => ?_)
 ·replace h := bif_t hb5 h
  refine aw_sr ?_
  refine al_as rfl rfl ?_
  refine al_nt ?_
  refine aw_ret ?_
  refine aq_then_ret ?_
  obtain rfl := Option.some.inj h
  exact fn_ret () [0] [] rfl rfl rfl rfl (res1 rfl rfl) rfl rfl rfl (by decide)
 ·replace h := bif_f hb5 h
  refine aw_skip ?_
  refine aq_tr ?_
  refine al_mv rfl rfl ?_
  refine al_mv rfl rfl ?_
  refine al_val (ov_nilCheck rfl rfl) ?_
  refine al_val (ov_fieldA (p := 0) rfl Tryd.underlying244 rfl sz9 rfl rfl rfl) ?_
  refine al_val (ov_load (i := 0) (v := (str r4.s)) rfl rfl Tryd.underlying9 sz9 rfl rfl rfl rfl) ?_
  refine al_mv rfl rfl ?_
  obtain ⟨hc6, h⟩ := req_some h
  refine al_val (ov_strFrom hc6.1 hc6.2 Tryd.underlying9 rfl rfl rfl) ?_
  refine al_val (ov_nilCheck rfl rfl) ?_
  refine al_val (ov_fieldA (p := 0) rfl Tryd.underlying244 rfl sz9 rfl rfl rfl) ?_
  refine al_store (i := 0) (vs := [(str (r4.s.drop (r2.2.1).toNat))]) (cs' := [(str (r4.s.drop (r2.2.1).toNat)), (int .i64 r4.e)]) rfl rfl rfl sz9 (cv_rfl rfl) rfl (co_val rfl co_nil) (Nat.le_of_ble_eq_true rfl) rfl rfl ?_
  refine al_nt ?_
  refine aw_sr ?_
  refine al_mv rfl rfl ?_
  refine al_as rfl rfl ?_
  refine al_nt ?_
  refine aw_ret ?_
  obtain rfl := Option.some.inj h
  exact fn_ret () [0] [] rfl rfl rfl rfl (res1 rfl rfl) rfl rfl rfl (by decide)
def f___tree_reader__bytes (fu : Nat) (a0 : S_tree_reader) (a1 : Int) : Option ((List UInt8) × S_tree_reader) := (lt (fun (j1s0_0 : (List UInt8)) (j1i0_1 : Int) => (bif (j1i0_1 != (0 : Int)) then (req (0 ≤ a1 ∧ 1 * a1 ≤ 281474976710656 ∧ a1 ≤ 9223372036854775807) (some ((List.replicate (a1).toNat (0 : UInt8)), (S_tree_reader.mk j1s0_0 j1i0_1)))) else (req (0 ≤ a1 ∧ a1 ≤ (j1s0_0.length : Int)) (req ((j1s0_0.take (a1).toNat).length ≤ 9223372036854775807) (req (0 ≤ a1 ∧ a1 ≤ (j1s0_0.length : Int)) (some ((j1s0_0.take (a1).toNat), (S_tree_reader.mk (j1s0_0.drop (a1).toNat) j1i0_1)))))))) fun (kk2 : (List UInt8) → Int → Option ((List UInt8) × S_tree_reader)) => (bif (decide ((a0.s.length : Int) < a1)) then (opt (f___tree_reader__fail fu a0 (3 : Int)) fun (r12 : S_tree_reader) => (kk2 r12.s r12.e)) else (kk2 a0.s a0.e)))
set_option maxRecDepth 100000 in
theorem f___tree_reader__bytes_ok (fu : Nat) (bx0 : Nat) (a0 : S_tree_reader) (a1 : Int) {r : ((List UInt8) × S_tree_reader)} (h : f___tree_reader__bytes fu a0 a1 = some r) : FnOk Tryd.prog 203 [(ptr bx0 0), (int .i64 a1)] [] [(oBox bx0 244 [(str a0.s), (int .i64 a0.e)])] (fun (i : Value) => { val := i, own := [(oBox bx0 244 [(str r.2.s), (int .i64 r.2.e)])], fz := [(fDat (tyList tyU8) [i] r.1)] }) := by
 unfold f___tree_reader__bytes at h
 refine fn_enter Tryd.func203 rfl Tryd.ntmps203 rfl (fun w0 Z0 => ?_)
 refine aw_sr ?_
 refine al_as rfl rfl ?_
 refine al_nt ?_
 obtain ⟨kk2, hkk2, h⟩ := lt_some h
 refine aw_seq_join (ι := (List UInt8) × Int) (fun i => (memOf w0 Z0 [(oBox bx0 244 [(str a0.s), (int .i64 a0.e)])] [(oBox bx0 244 [(str i.1), (int .i64 i.2)])] [])) (fun i => (tab [(0, (ptr bx0 0)), (1, (int .i64 a1))])) (fun i => kk2 i.1 i.2 = some r) ?_ ?_
 ·rintro ⟨j1s0_0, j1i0_1⟩ h
  have h : kk2 j1s0_0 j1i0_1 = some r := h
  rw [hkk2] at h
  dsimp only at h
  clear hkk2
  refine aw_show (m := (memOf w0 Z0 [(oBox bx0 244 [(str a0.s), (int .i64 a0.e)])] [(oBox bx0 244 [(str j1s0_0), (int .i64 j1i0_1)])] [])) (S := (tab [(0, (ptr bx0 0)), (1, (int .i64 a1))])) ?_
  refine aw_seq ?_
  refine aw_sr ?_
  refine al_mv rfl rfl ?_
  refine al_val (ov_nilCheck rfl rfl) ?_
  refine al_val (ov_fieldA (p := 1) rfl Tryd.underlying244 rfl sz23 rfl rfl rfl) ?_
  refine al_val (ov_load (i := 0) (v := (int .i64 j1i0_1)) rfl rfl Tryd.underlying23 sz23 rfl rfl rfl rfl) ?_
  refine al_in rfl rfl rfl rfl ?_
  refine al_nt ?_
  refine aw_cond rfl (fun hb3 => ?_) (fun hb3 => ?_)
  ·replace h := bif_t hb3 h
   refine aw_sr ?_
   refine al_mv rfl rfl ?_
   obtain ⟨hc4, h⟩ := req_some h
   refine al_make (τ := tyU8) (x0 := 0) hc4.1 hc4.2.1 hc4.2.2 rfl rfl Tryd.underlying113 to5 (fun _ _ => rfl) rfl rfl (fun v5 => ?_)
   refine al_as rfl rfl ?_
   refine al_nt ?_
   refine aw_ret ?_
   refine aq_then_ret ?_
   refine aq_freezeX 0 [1] rfl rfl rfl ?_
   obtain rfl := Option.some.inj h
   exact fn_ret v5 [0] [0] rfl rfl rfl rfl (res1 rfl rfl) rfl rfl rfl (by decide)
  ·replace h := bif_f hb3 h
   refine aw_skip ?_
   refine aq_tr ?_
   refine al_mv rfl rfl ?_
   refine al_val (ov_nilCheck rfl rfl) ?_
   refine al_val (ov_fieldA (p := 0) rfl Tryd.underlying244 rfl sz9 rfl rfl rfl) ?_
   refine al_val (ov_load (i := 0) (v := (str j1s0_0)) rfl rfl Tryd.underlying9 sz9 rfl rfl rfl rfl) ?_
   refine al_mv rfl rfl ?_
   obtain ⟨hc6, h⟩ := req_some h
   refine al_val (ov_strTo hc6.1 hc6.2 Tryd.underlying9 rfl rfl rfl) ?_
   obtain ⟨hc7, h⟩ := req_some h
   refine al_bytes hc7 rfl Tryd.underlying9 Tryd.underlying113 Tryd.underlying5 rfl (fun s8 => ?_)
   refine al_as rfl rfl ?_
   refine al_nt ?_
   refine aw_sr ?_
   refine al_mv rfl rfl ?_
   refine al_mv rfl rfl ?_
   refine al_val (ov_nilCheck rfl rfl) ?_
   refine al_val (ov_fieldA (p := 0) rfl Tryd.underlying244 rfl sz9 rfl rfl rfl) ?_
   refine al_val (ov_load (i := 0) (v := (str j1s0_0)) rfl rfl Tryd.underlying9 sz9 rfl rfl rfl rfl) ?_
   refine al_mv rfl rfl ?_
   obtain ⟨hc9, h⟩ := req_some h
   refine al_val (ov_strFrom hc9.1 hc9.2 Tryd.underlying9 rfl rfl rfl) ?_
   refine al_val (ov_nilCheck rfl rfl) ?_
   refine al_val (ov_fieldA (p := 0) rfl Tryd.underlying244 rfl sz9 rfl rfl rfl) ?_
   refine al_store (i := 0) (vs := [(str (j1s0_0.drop (a1).toNat))]) (cs' := [(str (j1s0_0.drop (a1).toNat)), (int .i64 j1i0_1)]) rfl rfl rfl sz9 (cv_rfl rfl) rfl (co_val rfl co_nil) (Nat.le_of_ble_eq_true rfl) rfl rfl ?_
   refine al_nt ?_
   refine aw_sr ?_
   refine al_mv rfl rfl ?_
   refine al_as rfl rfl ?_
   refine al_nt ?_
   refine aw_ret ?_
   obtain rfl := Option.some.inj h
   exact fn_ret s8 [0] [0] rfl rfl rfl rfl (res1 rfl rfl) rfl rfl rfl (by decide)
 ·clear hkk2
  refine aw_sr ?_
  refine al_mv rfl rfl ?_
  refine al_val (ov_nilCheck rfl rfl) ?_
  refine al_val (ov_fieldA (p := 0) rfl Tryd.underlying244 rfl sz9 rfl rfl rfl) ?_
  refine al_val (ov_load (i := 0) (v := (str a0.s)) rfl rfl Tryd.underlying9 sz9 rfl rfl rfl rfl) ?_
  refine al_val (ov_strLen Tryd.underlying9 rfl rfl) ?_
  refine al_mv rfl rfl ?_
  refine al_in rfl rfl rfl rfl ?_
  refine al_nt ?_
  refine aw_cond rfl (fun hb10 => ?_) (fun hb10 => ?_)
  ·replace h := bif_t hb10 h
   refine aw_region ?_
   refine al_mv rfl rfl ?_
   obtain ⟨r12, hc11, h⟩ := opt_some h
   refine al_call (vs := [(ptr bx0 0), (int .i64 (3 : Int))]) (f___tree_reader__fail_ok fu bx0 a0 (3 : Int) hc11) [] [0] [] pre_nil rfl (by simp) (by decide) (.inl rfl) rfl Tryd.func166 rfl rfl rfl (fun _ => ?_)
   refine al_nil ?_
   exact aq_join (r12.s, r12.e) h (fun w a hm hs => norm hm hs [0] [] [(0, (ptr bx0 0)), (1, (int .i64 a1))] (by decide) ⟨rfl, rfl, trivial⟩)
  ·replace h := bif_f hb10 h
   refine aw_skip ?_
   exact aq_join (a0.s, a0.e) h (fun w a hm hs => norm hm hs [0] [] [(0, (ptr bx0 0)), (1, (int .i64 a1))] (by decide) ⟨rfl, rfl, trivial⟩)
def f___tree_reader__integer (fu : Nat) (a0 : S_tree_reader) : Option (Int × S_tree_reader) := (opt (f_num_GetInt fu a0.s) fun (r2 : (Int × Int × Int)) => (opt (f___tree_reader__fail fu a0 r2.2.2) fun (r4 : S_tree_reader) => (bif (r4.e != (0 : Int)) then (some ((0 : Int), r4)) else (req (0 ≤ r2.2.1 ∧ r2.2.1 ≤ (r4.s.length : Int)) (some (r2.1, (S_tree_reader.mk (r4.s.drop (r2.2.1).toNat) r4.e)))))))
set_option maxRecDepth 100000 in
theorem f___tree_reader__integer_ok (fu : Nat) (bx0 : Nat) (a0 : S_tree_reader) {r : (Int × S_tree_reader)} (h : f___tree_reader__integer fu a0 = some r) : FnOk Tryd.prog 204 [(ptr bx0 0)] [] [(oBox bx0 244 [(str a0.s), (int .i64 a0.e)])] (fun (i : Unit) => { val := (int .i64 r.1), own := [(oBox bx0 244 [(str r.2.s), (int .i64 r.2.e)])] }) := by
 unfold f___tree_reader__integer at h
 refine fn_enter Tryd.func204 rfl Tryd.ntmps204 rfl (fun w0 Z0 => ?_)
 refine aw_sr ?_
 refine al_as rfl rfl ?_
 refine al_nt ?_
 refine aw_sr ?_
 refine al_mv rfl rfl ?_
 refine al_val (ov_nilCheck rfl rfl) ?_
 refine al_val (ov_fieldA (p := 0) rfl Tryd.underlying244 rfl sz9 rfl rfl rfl) ?_
 refine al_val (ov_load (i := 0) (v := (str a0.s)) rfl rfl Tryd.underlying9 sz9 rfl rfl rfl rfl) ?_
 obtain ⟨r2, hc1, h⟩ := opt_some h
 refine al_call (vs := [(str a0.s)]) (f_num_GetInt_ok fu a0.s hc1) [] [] [0] pre_nil rfl (by simp) (by decide) (.inl rfl) rfl Tryd.func230 rfl rfl rfl (fun _ => ?_)
 refine al_mv rfl rfl ?_
 refine al_ex rfl rfl rfl ?_
 refine al_ex rfl rfl rfl ?_
 refine al_ex rfl rfl rfl ?_
 refine al_as rfl rfl ?_
 refine al_as rfl rfl ?_
 refine al_as rfl rfl ?_
 refine al_nt ?_
 refine aw_sr ?_
 refine al_mv rfl rfl ?_
 refine al_mv rfl rfl ?_
 obtain ⟨r4, hc3, h⟩ := opt_some h
 refine al_call (vs := [(ptr bx0 0), (int .i64 r2.2.2)]) (f___tree_reader__fail_ok fu bx0 a0 r2.2.2 hc3) [] [0] [] pre_nil rfl (by simp) (by decide) (.inl rfl) rfl Tryd.func166 rfl rfl rfl (fun _ => ?_)
 refine al_nt ?_
 refine aw_seq ?_
 refine aw_sr ?_
 refine al_mv rfl rfl ?_
 refine al_val (ov_nilCheck rfl rfl) ?_
 refine al_val (ov_fieldA (p := 1) rfl Tryd.underlying244 rfl sz23 rfl rfl rfl) ?_
 refine al_val (ov_load (i := 0) (v := (int .i64 r4.e)) rfl rfl Tryd.underlying23 sz23 rfl rfl rfl rfl) ?_
 refine al_in rfl rfl rfl rfl ?_
 refine al_nt ?_
 refine aw_cond rfl (fun hb5 => ?_) (fun hb5 => ?_)
 ·replace h := bif_t hb5 h
  refine aw_sr ?_
  refine al_as rfl rfl ?_
  refine al_nt ?_
  refine aw_ret ?_
  refine aq_then_ret ?_
  obtain rfl := Option.some.inj h
  exact fn_ret () [0] [] rfl rfl rfl rfl (res1 rfl rfl) rfl rfl rfl (by decide)
 ·replace h := bif_f hb5 h
  refine aw_skip ?_
  refine aq_tr ?_
  refine al_mv rfl rfl ?_
  refine al_mv rfl rfl ?_
  refine al_val (ov_nilCheck rfl rfl) ?_
  refine al_val (ov_fieldA (p := 0) rfl Tryd.underlying244 rfl sz9 rfl rfl rfl) ?_
  refine al_val (ov_load (i := 0) (v := (str r4.s)) rfl rfl Tryd.underlying9 sz9 rfl rfl rfl rfl) ?_
  refine al_mv rfl rfl ?_
  obtain ⟨hc6, h⟩ := req_some h
  refine al_val (ov_strFrom hc6.1 hc6.2 Tryd.underlying9 rfl rfl rfl) ?_
  refine al_val (ov_nilCheck rfl rfl) ?_
  refine al_val (ov_fieldA (p := 0) rfl Tryd.underlying244 rfl sz9 rfl rfl rfl) ?_
  refine al_store (i := 0) (vs := [(str (r4.s.drop (r2.2.1).toNat))]) (cs' := [(str (r4.s.drop (r2.2.1).toNat)), (int .i64 r4.e)]) rfl rfl rfl sz9 (cv_rfl rfl) rfl (co_val rfl co_nil) (Nat.le_of_ble_eq_true rfl) rfl rfl ?_
  refine al_nt ?_
  refine aw_sr ?_
  refine al_mv rfl rfl ?_
  refine al_as rfl rfl ?_
  refine al_nt ?_
  refine aw_ret ?_
  obtain rfl := Option.some.inj h
  exact fn_ret () [0] [] rfl rfl rfl rfl (res1 rfl rfl) rfl rfl rfl (by decide)
def f___tree_reader__node_L25 (kk18 : ((List UInt8) → Int → (List A8u8) → Option (S_api_Node × S_tree_reader))) (r22 : (Int × S_tree_reader)) (fu : Nat) : Nat → (List UInt8) → Int → (List A8u8) → Int → Option (S_api_Node × S_tree_reader)
  | 0, _, _, _, _ => none
  | k24 + 1, l23s0_0, l23i0_1, l23x3_5, l23i20 => (bif (decide (l23i20 < r22.1)) then (opt (f___tree_reader__bytes fu (S_tree_reader.mk l23s0_0 l23i0_1) (8 : Int)) fun (r28 : ((List UInt8) × S_tree_reader)) => (req (8 ≤ r28.1.length) (req (((l23x3_5.length + ([(ofA8u8 r28.1)]).length) * 8 : Nat) ≤ 140737488355328 ∧ l23x3_5.length + ([(ofA8u8 r28.1)]).length ≤ 9223372036854775807) (f___tree_reader__node_L25 kk18 r22 fu k24 r28.2.s r28.2.e (l23x3_5 ++ ([(ofA8u8 r28.1)])) (IntKind.i64.wrap (l23i20 + (1 : Int))))))) else (kk18 l23s0_0 l23i0_1 l23x3_5))
def f___tree_reader__node (fu : Nat) (a0 : S_tree_reader) : Option (S_api_Node × S_tree_reader) := (opt (f___tree_reader__text fu a0) fun (r4 : ((List UInt8) × S_tree_reader)) => (opt (f___tree_reader__bytes fu (S_tree_reader.mk r4.2.s r4.2.e) (1 : Int)) fun (r6 : ((List UInt8) × S_tree_reader)) => (opt (at? r6.1 (0 : Int)) fun (u8 : UInt8) => (opt (f___tree_reader__number fu (S_tree_reader.mk r6.2.s r6.2.e) (511 : Int)) fun (r12 : (Int × S_tree_reader)) => (opt (f___tree_reader__integer fu (S_tree_reader.mk r12.2.s r12.2.e)) fun (r14 : (Int × S_tree_reader)) => (opt (f___tree_reader__number fu (S_tree_reader.mk r14.2.s r14.2.e) (4096 : Int)) fun (r16 : (Int × S_tree_reader)) => (lt (fun (j17s0_0 : (List UInt8)) (j17i0_1 : Int) (j17x3_5 : (List A8u8)) => (opt (f___tree_reader__text fu (S_tree_reader.mk j17s0_0 j17i0_1)) fun (r20 : ((List UInt8) × S_tree_reader)) => (some ((S_api_Node.mk r4.1 (IntKind.i64.wrap (u8.toNat : Int)) r12.1 r14.1 r16.1 j17x3_5 r20.1), (S_tree_reader.mk r20.2.s r20.2.e))))) fun (kk18 : (List UInt8) → Int → (List A8u8) → Option (S_api_Node × S_tree_reader)) => (opt (f___tree_reader__number fu (S_tree_reader.mk r16.2.s r16.2.e) (300 : Int)) fun (r22 : (Int × S_tree_reader)) => (f___tree_reader__node_L25 kk18 r22 fu fu r22.2.s r22.2.e ([] : List A8u8) (0 : Int))))))))))
set_option maxRecDepth 100000 in
theorem f___tree_reader__node_ok (fu : Nat) (bx0 : Nat) (a0 : S_tree_reader) {r : (S_api_Node × S_tree_reader)} (h : f___tree_reader__node fu a0 = some r) : FnOk Tryd.prog 165 [(ptr bx0 0)] [] [(oBox bx0 244 [(str a0.s), (int .i64 a0.e)])] (fun (i : Value) => { val := (ag [(str r.1.Name), (int .i64 r.1.Kind), (int .i64 r.1.Mode), (int .i64 r.1.Time), (int .i64 r.1.Size), i, (str r.1.Link)]), own := [(oBox bx0 244 [(str r.2.s), (int .i64 r.2.e)])], fz := [(fDat (tyList tyA8u8) [i] r.1.Parts)] }) := by
 unfold f___tree_reader__node at h
 refine fn_enter Tryd.func165 rfl Tryd.ntmps165 rfl (fun w0 Z0 => ?_)
 refine aw_sr ?_
 refine al_alloc (zs := [(str ([] : List UInt8)), (int .i64 (0 : Int)), (int .i64 (0 : Int)), (int .i64 (0 : Int)), (int .i64 (0 : Int)), (Value.slice none 0 0), (str ([] : List UInt8))]) (zeroOf_to to168) rfl rfl (fun g1 => ?_)
 refine al_nt ?_
 refine aw_seq ?_
 refine aw_region_open [⟨0, 4, Unit, fun _ => { val := (ptr bx0 0) }⟩, ⟨2, 6, Unit, fun _ => { val := (ptr bx0 0) }⟩, ⟨7, 11, Unit, fun _ => { val := (ptr bx0 0) }⟩, ⟨9, 13, Unit, fun _ => { val := (ptr bx0 0) }⟩, ⟨11, 15, Unit, fun _ => { val := (ptr bx0 0) }⟩, ⟨14, 3, Nat, fun (i : Nat) => { val := (ptr i 0), own := [(oBox i 168 [(str ([] : List UInt8)), (int .i64 (0 : Int)), (int .i64 (0 : Int)), (int .i64 (0 : Int)), (int .i64 (0 : Int)), (Value.slice none 0 0), (str ([] : List UInt8))])] }⟩] (tab [(0, (ptr bx0 0)), (2, (ptr g1 0))]) mixed (fun a hs => hs.tab _ (allT_mem ⟨rfl, rfl, trivial⟩)) ?_
 refine ta_show (m := (memOf w0 Z0 [(oBox bx0 244 [(str a0.s), (int .i64 a0.e)])] [(oBox g1 168 [(str ([] : List UInt8)), (int .i64 (0 : Int)), (int .i64 (0 : Int)), (int .i64 (0 : Int)), (int .i64 (0 : Int)), (Value.slice none 0 0), (str ([] : List UInt8))]), (oBox bx0 244 [(str a0.s), (int .i64 a0.e)])] [])) (S := (tab [(0, (ptr bx0 0)), (2, (ptr g1 0))])) ?_
 refine ta_step 1 _ [0, 2, 7, 9, 11, 14] [4, 6, 11, 13, 15, 3] [0] [] [⟨0, 4, Unit, fun _ => { val := (ptr bx0 0) }⟩] [⟨2, 6, Unit, fun _ => { val := (ptr bx0 0) }⟩, ⟨7, 11, Unit, fun _ => { val := (ptr bx0 0) }⟩, ⟨9, 13, Unit, fun _ => { val := (ptr bx0 0) }⟩, ⟨11, 15, Unit, fun _ => { val := (ptr bx0 0) }⟩, ⟨14, 3, Nat, fun (i : Nat) => { val := (ptr i 0), own := [(oBox i 168 [(str ([] : List UInt8)), (int .i64 (0 : Int)), (int .i64 (0 : Int)), (int .i64 (0 : Int)), (int .i64 (0 : Int)), (Value.slice none 0 0), (str ([] : List UInt8))])] }⟩] rfl rfl rfl (by kernel_rfl) rfl rfl rfl ⟨⟨_, rfl, [], rfl, by
 intro X_ Y_ F_ K_ hK_
 refine al_show (m := Mem.plus (memOf w0 Z0 [(oBox bx0 244 [(str a0.s), (int .i64 a0.e)])] [(oBox g1 168 [(str ([] : List UInt8)), (int .i64 (0 : Int)), (int .i64 (0 : Int)), (int .i64 (0 : Int)), (int .i64 (0 : Int)), (Value.slice none 0 0), (str ([] : List UInt8))]), (oBox bx0 244 [(str a0.s), (int .i64 a0.e)])] []) X_ Y_) (S := over (tab [(0, (ptr bx0 0)), (2, (ptr g1 0))]) F_) ?_
 refine al_mv rfl rfl ?_
 refine al_nil ?_
 exact fr_fin hK_ ()⟩, ⟨_, rfl, [], rfl, by
 intro X_ Y_ F_ K_ hK_
 refine al_show (m := Mem.plus (memOf w0 Z0 [(oBox bx0 244 [(str a0.s), (int .i64 a0.e)])] [(oBox g1 168 [(str ([] : List UInt8)), (int .i64 (0 : Int)), (int .i64 (0 : Int)), (int .i64 (0 : Int)), (int .i64 (0 : Int)), (Value.slice none 0 0), (str ([] : List UInt8))]), (oBox bx0 244 [(str a0.s), (int .i64 a0.e)])] []) X_ Y_) (S := over (tab [(0, (ptr bx0 0)), (2, (ptr g1 0))]) F_) ?_
 refine al_mv rfl rfl ?_
 refine al_nil ?_
 exact fr_fin hK_ ()⟩, ⟨_, rfl, [], rfl, by
 intro X_ Y_ F_ K_ hK_
 refine al_show (m := Mem.plus (memOf w0 Z0 [(oBox bx0 244 [(str a0.s), (int .i64 a0.e)])] [(oBox g1 168 [(str ([] : List UInt8)), (int .i64 (0 : Int)), (int .i64 (0 : Int)), (int .i64 (0 : Int)), (int .i64 (0 : Int)), (Value.slice none 0 0), (str ([] : List UInt8))]), (oBox bx0 244 [(str a0.s), (int .i64 a0.e)])] []) X_ Y_) (S := over (tab [(0, (ptr bx0 0)), (2, (ptr g1 0))]) F_) ?_
 refine al_mv rfl rfl ?_
 refine al_nil ?_
 exact fr_fin hK_ ()⟩, ⟨_, rfl, [], rfl, by
 intro X_ Y_ F_ K_ hK_
 refine al_show (m := Mem.plus (memOf w0 Z0 [(oBox bx0 244 [(str a0.s), (int .i64 a0.e)])] [(oBox g1 168 [(str ([] : List UInt8)), (int .i64 (0 : Int)), (int .i64 (0 : Int)), (int .i64 (0 : Int)), (int .i64 (0 : Int)), (Value.slice none 0 0), (str ([] : List UInt8))]), (oBox bx0 244 [(str a0.s), (int .i64 a0.e)])] []) X_ Y_) (S := over (tab [(0, (ptr bx0 0)), (2, (ptr g1 0))]) F_) ?_
 refine al_mv rfl rfl ?_
 refine al_nil ?_
 exact fr_fin hK_ ()⟩, ⟨_, rfl, [], rfl, by
 intro X_ Y_ F_ K_ hK_
 refine al_show (m := Mem.plus (memOf w0 Z0 [(oBox bx0 244 [(str a0.s), (int .i64 a0.e)])] [(oBox g1 168 [(str ([] : List UInt8)), (int .i64 (0 : Int)), (int .i64 (0 : Int)), (int .i64 (0 : Int)), (int .i64 (0 : Int)), (Value.slice none 0 0), (str ([] : List UInt8))]), (oBox bx0 244 [(str a0.s), (int .i64 a0.e)])] []) X_ Y_) (S := over (tab [(0, (ptr bx0 0)), (2, (ptr g1 0))]) F_) ?_
 refine al_mv rfl rfl ?_
 refine al_nil ?_
 exact fr_fin hK_ ()⟩, ⟨_, rfl, [], rfl, by
 intro X_ Y_ F_ K_ hK_
 refine al_show (m := Mem.plus (memOf w0 Z0 [(oBox bx0 244 [(str a0.s), (int .i64 a0.e)])] [(oBox g1 168 [(str ([] : List UInt8)), (int .i64 (0 : Int)), (int .i64 (0 : Int)), (int .i64 (0 : Int)), (int .i64 (0 : Int)), (Value.slice none 0 0), (str ([] : List UInt8))]), (oBox bx0 244 [(str a0.s), (int .i64 a0.e)])] []) X_ Y_) (S := over (tab [(0, (ptr bx0 0)), (2, (ptr g1 0))]) F_) ?_
 refine al_alloc (zs := [(str ([] : List UInt8)), (int .i64 (0 : Int)), (int .i64 (0 : Int)), (int .i64 (0 : Int)), (int .i64 (0 : Int)), (Value.slice none 0 0), (str ([] : List UInt8))]) (zeroOf_to to168) rfl rfl (fun g2 => ?_)
 refine al_nil ?_
 exact fr_fin hK_ g2⟩, trivial⟩ ?_
 intro _
 intro X_ Y_ F_ K_ hK_
 refine al_show (m := Mem.plus (memOf w0 Z0 [(oBox bx0 244 [(str a0.s), (int .i64 a0.e)])] [(oBox g1 168 [(str ([] : List UInt8)), (int .i64 (0 : Int)), (int .i64 (0 : Int)), (int .i64 (0 : Int)), (int .i64 (0 : Int)), (Value.slice none 0 0), (str ([] : List UInt8))]), (oBox bx0 244 [(str a0.s), (int .i64 a0.e)])] []) X_ Y_) (S := over (put (tab [(0, (ptr bx0 0)), (2, (ptr g1 0))]) 4 (ptr bx0 0)) F_) ?_
 obtain ⟨r4, hc3, h⟩ := opt_some h
 refine al_callX (vs := [(ptr bx0 0)]) (f___tree_reader__text_ok fu bx0 a0 hc3) [] [1] [0] pre_nil rfl (by simp) (by decide) rfl (.inl rfl) rfl Tryd.func202 rfl rfl rfl (fun _ => ?_)
 refine al_nil ?_
 refine aq_show (m := Mem.plus (memOf w0 Z0 [(oBox bx0 244 [(str a0.s), (int .i64 a0.e)])] [(oBox bx0 244 [(str r4.2.s), (int .i64 r4.2.e)]), (oBox g1 168 [(str ([] : List UInt8)), (int .i64 (0 : Int)), (int .i64 (0 : Int)), (int .i64 (0 : Int)), (int .i64 (0 : Int)), (Value.slice none 0 0), (str ([] : List UInt8))])] []) X_ Y_) ?_
 refine aq_next hK_ [0, 1] [] [(0, (ptr bx0 0)), (2, (ptr g1 0)), (5, (str r4.1))] [6, 11, 13, 15, 3] [] rfl rfl (by decide) rfl ⟨rfl, rfl, rfl, trivial⟩ ⟨rfl, rfl, rfl, rfl, rfl, trivial⟩ ?_
 clear hK_ K_ F_ X_ Y_
 refine ta_show (m := (memOf w0 Z0 [(oBox bx0 244 [(str a0.s), (int .i64 a0.e)])] [(oBox bx0 244 [(str r4.2.s), (int .i64 r4.2.e)]), (oBox g1 168 [(str ([] : List UInt8)), (int .i64 (0 : Int)), (int .i64 (0 : Int)), (int .i64 (0 : Int)), (int .i64 (0 : Int)), (Value.slice none 0 0), (str ([] : List UInt8))])] [])) (S := (tab [(0, (ptr bx0 0)), (2, (ptr g1 0)), (5, (str r4.1))])) ?_
 refine ta_step 3 _ [2, 7, 9, 11, 14] [6, 11, 13, 15, 3] [2] [4, 5, 6] [⟨2, 6, Unit, fun _ => { val := (ptr bx0 0) }⟩] [⟨7, 11, Unit, fun _ => { val := (ptr bx0 0) }⟩, ⟨9, 13, Unit, fun _ => { val := (ptr bx0 0) }⟩, ⟨11, 15, Unit, fun _ => { val := (ptr bx0 0) }⟩, ⟨14, 3, Nat, fun (i : Nat) => { val := (ptr i 0), own := [(oBox i 168 [(str ([] : List UInt8)), (int .i64 (0 : Int)), (int .i64 (0 : Int)), (int .i64 (0 : Int)), (int .i64 (0 : Int)), (Value.slice none 0 0), (str ([] : List UInt8))])] }⟩] rfl rfl rfl (by kernel_rfl) rfl rfl rfl ⟨⟨_, rfl, [], rfl, by
 intro X_ Y_ F_ K_ hK_
 refine al_show (m := Mem.plus (memOf w0 Z0 [(oBox bx0 244 [(str a0.s), (int .i64 a0.e)])] [(oBox bx0 244 [(str r4.2.s), (int .i64 r4.2.e)]), (oBox g1 168 [(str ([] : List UInt8)), (int .i64 (0 : Int)), (int .i64 (0 : Int)), (int .i64 (0 : Int)), (int .i64 (0 : Int)), (Value.slice none 0 0), (str ([] : List UInt8))])] []) X_ Y_) (S := over (tab [(0, (ptr bx0 0)), (2, (ptr g1 0)), (5, (str r4.1))]) F_) ?_
 refine al_mv rfl rfl ?_
 refine al_nil ?_
 exact fr_fin hK_ ()⟩, ⟨_, rfl, [], rfl, by
 intro X_ Y_ F_ K_ hK_
 refine al_show (m := Mem.plus (memOf w0 Z0 [(oBox bx0 244 [(str a0.s), (int .i64 a0.e)])] [(oBox bx0 244 [(str r4.2.s), (int .i64 r4.2.e)]), (oBox g1 168 [(str ([] : List UInt8)), (int .i64 (0 : Int)), (int .i64 (0 : Int)), (int .i64 (0 : Int)), (int .i64 (0 : Int)), (Value.slice none 0 0), (str ([] : List UInt8))])] []) X_ Y_) (S := over (tab [(0, (ptr bx0 0)), (2, (ptr g1 0)), (5, (str r4.1))]) F_) ?_
 refine al_mv rfl rfl ?_
 refine al_nil ?_
 exact fr_fin hK_ ()⟩, ⟨_, rfl, [], rfl, by
 intro X_ Y_ F_ K_ hK_
 refine al_show (m := Mem.plus (memOf w0 Z0 [(oBox bx0 244 [(str a0.s), (int .i64 a0.e)])] [(oBox bx0 244 [(str r4.2.s), (int .i64 r4.2.e)]), (oBox g1 168 [(str ([] : List UInt8)), (int .i64 (0 : Int)), (int .i64 (0 : Int)), (int .i64 (0 : Int)), (int .i64 (0 : Int)), (Value.slice none 0 0), (str ([] : List UInt8))])] []) X_ Y_) (S := over (tab [(0, (ptr bx0 0)), (2, (ptr g1 0)), (5, (str r4.1))]) F_) ?_
 refine al_mv rfl rfl ?_
 refine al_nil ?_
 exact fr_fin hK_ ()⟩, ⟨_, rfl, [], rfl, by
 intro X_ Y_ F_ K_ hK_
 refine al_show (m := Mem.plus (memOf w0 Z0 [(oBox bx0 244 [(str a0.s), (int .i64 a0.e)])] [(oBox bx0 244 [(str r4.2.s), (int .i64 r4.2.e)]), (oBox g1 168 [(str ([] : List UInt8)), (int .i64 (0 : Int)), (int .i64 (0 : Int)), (int .i64 (0 : Int)), (int .i64 (0 : Int)), (Value.slice none 0 0), (str ([] : List UInt8))])] []) X_ Y_) (S := over (tab [(0, (ptr bx0 0)), (2, (ptr g1 0)), (5, (str r4.1))]) F_) ?_
 refine al_mv rfl rfl ?_
 refine al_nil ?_
 exact fr_fin hK_ ()⟩, ⟨_, rfl, [], rfl, by
 intro X_ Y_ F_ K_ hK_
 refine al_show (m := Mem.plus (memOf w0 Z0 [(oBox bx0 244 [(str a0.s), (int .i64 a0.e)])] [(oBox bx0 244 [(str r4.2.s), (int .i64 r4.2.e)]), (oBox g1 168 [(str ([] : List UInt8)), (int .i64 (0 : Int)), (int .i64 (0 : Int)), (int .i64 (0 : Int)), (int .i64 (0 : Int)), (Value.slice none 0 0), (str ([] : List UInt8))])] []) X_ Y_) (S := over (tab [(0, (ptr bx0 0)), (2, (ptr g1 0)), (5, (str r4.1))]) F_) ?_
 refine al_alloc (zs := [(str ([] : List UInt8)), (int .i64 (0 : Int)), (int .i64 (0 : Int)), (int .i64 (0 : Int)), (int .i64 (0 : Int)), (Value.slice none 0 0), (str ([] : List UInt8))]) (zeroOf_to to168) rfl rfl (fun g2 => ?_)
 refine al_nil ?_
 exact fr_fin hK_ g2⟩, trivial⟩ ?_
 intro _
 intro X_ Y_ F_ K_ hK_
 refine al_show (m := Mem.plus (memOf w0 Z0 [(oBox bx0 244 [(str a0.s), (int .i64 a0.e)])] [(oBox bx0 244 [(str r4.2.s), (int .i64 r4.2.e)]), (oBox g1 168 [(str ([] : List UInt8)), (int .i64 (0 : Int)), (int .i64 (0 : Int)), (int .i64 (0 : Int)), (int .i64 (0 : Int)), (Value.slice none 0 0), (str ([] : List UInt8))])] []) X_ Y_) (S := over (put (tab [(0, (ptr bx0 0)), (2, (ptr g1 0)), (5, (str r4.1))]) 6 (ptr bx0 0)) F_) ?_
 obtain ⟨r6, hc5, h⟩ := opt_some h
 refine al_callX (vs := [(ptr bx0 0), (int .i64 (1 : Int))]) (f___tree_reader__bytes_ok fu bx0 (S_tree_reader.mk r4.2.s r4.2.e) (1 : Int) hc5) [] [0] [1] pre_nil rfl (by simp) (by decide) rfl (.inl rfl) rfl Tryd.func203 rfl rfl rfl (fun v7 => ?_)
 refine al_nil ?_
 obtain ⟨u8, hu9, h⟩ := opt_some h
 refine aq_show (m := Mem.plus (memOf w0 Z0 [(oBox bx0 244 [(str a0.s), (int .i64 a0.e)])] [(oBox bx0 244 [(str r6.2.s), (int .i64 r6.2.e)]), (oBox g1 168 [(str ([] : List UInt8)), (int .i64 (0 : Int)), (int .i64 (0 : Int)), (int .i64 (0 : Int)), (int .i64 (0 : Int)), (Value.slice none 0 0), (str ([] : List UInt8))])] [(fDat (tyList tyU8) [v7] r6.1)]) X_ Y_) ?_
 refine aq_next hK_ [0, 1] [0] [(0, (ptr bx0 0)), (2, (ptr g1 0)), (5, (str r4.1)), (7, v7)] [11, 13, 15, 3] [⟨4, 8, Value, fun (i : Value) => { val := i, fz := [(fPtr tyU8 i u8)] }⟩, ⟨5, 9, Unit, fun _ => { val := (int .u8 (u8.toNat : Int)) }⟩, ⟨6, 10, Unit, fun _ => { val := (int .i64 (IntKind.i64.wrap (u8.toNat : Int))) }⟩] rfl rfl (by decide) rfl ⟨rfl, rfl, rfl, rfl, trivial⟩ ⟨rfl, rfl, rfl, rfl, trivial⟩ ?_
 clear hK_ K_ F_ X_ Y_
 refine ta_show (m := (memOf w0 Z0 [(oBox bx0 244 [(str a0.s), (int .i64 a0.e)])] [(oBox bx0 244 [(str r6.2.s), (int .i64 r6.2.e)]), (oBox g1 168 [(str ([] : List UInt8)), (int .i64 (0 : Int)), (int .i64 (0 : Int)), (int .i64 (0 : Int)), (int .i64 (0 : Int)), (Value.slice none 0 0), (str ([] : List UInt8))])] [(fDat (tyList tyU8) [v7] r6.1)])) (S := (tab [(0, (ptr bx0 0)), (2, (ptr g1 0)), (5, (str r4.1)), (7, v7)])) ?_
 refine ta_step 8 _ [7, 9, 11, 14, 4, 5, 6] [11, 13, 15, 3, 8, 9, 10] [7] [] [⟨7, 11, Unit, fun _ => { val := (ptr bx0 0) }⟩] [⟨9, 13, Unit, fun _ => { val := (ptr bx0 0) }⟩, ⟨11, 15, Unit, fun _ => { val := (ptr bx0 0) }⟩, ⟨14, 3, Nat, fun (i : Nat) => { val := (ptr i 0), own := [(oBox i 168 [(str ([] : List UInt8)), (int .i64 (0 : Int)), (int .i64 (0 : Int)), (int .i64 (0 : Int)), (int .i64 (0 : Int)), (Value.slice none 0 0), (str ([] : List UInt8))])] }⟩, ⟨4, 8, Value, fun (i : Value) => { val := i, fz := [(fPtr tyU8 i u8)] }⟩, ⟨5, 9, Unit, fun _ => { val := (int .u8 (u8.toNat : Int)) }⟩, ⟨6, 10, Unit, fun _ => { val := (int .i64 (IntKind.i64.wrap (u8.toNat : Int))) }⟩] rfl rfl rfl (by kernel_rfl) rfl rfl rfl ⟨⟨_, rfl, [], rfl, by
 intro X_ Y_ F_ K_ hK_
 refine al_show (m := Mem.plus (memOf w0 Z0 [(oBox bx0 244 [(str a0.s), (int .i64 a0.e)])] [(oBox bx0 244 [(str r6.2.s), (int .i64 r6.2.e)]), (oBox g1 168 [(str ([] : List UInt8)), (int .i64 (0 : Int)), (int .i64 (0 : Int)), (int .i64 (0 : Int)), (int .i64 (0 : Int)), (Value.slice none 0 0), (str ([] : List UInt8))])] [(fDat (tyList tyU8) [v7] r6.1)]) X_ Y_) (S := over (tab [(0, (ptr bx0 0)), (2, (ptr g1 0)), (5, (str r4.1)), (7, v7)]) F_) ?_
 refine al_mv rfl rfl ?_
 refine al_nil ?_
 exact fr_fin hK_ ()⟩, ⟨_, rfl, [], rfl, by
 intro X_ Y_ F_ K_ hK_
 refine al_show (m := Mem.plus (memOf w0 Z0 [(oBox bx0 244 [(str a0.s), (int .i64 a0.e)])] [(oBox bx0 244 [(str r6.2.s), (int .i64 r6.2.e)]), (oBox g1 168 [(str ([] : List UInt8)), (int .i64 (0 : Int)), (int .i64 (0 : Int)), (int .i64 (0 : Int)), (int .i64 (0 : Int)), (Value.slice none 0 0), (str ([] : List UInt8))])] [(fDat (tyList tyU8) [v7] r6.1)]) X_ Y_) (S := over (tab [(0, (ptr bx0 0)), (2, (ptr g1 0)), (5, (str r4.1)), (7, v7)]) F_) ?_
 refine al_mv rfl rfl ?_
 refine al_nil ?_
 exact fr_fin hK_ ()⟩, ⟨_, rfl, [], rfl, by
 intro X_ Y_ F_ K_ hK_
 refine al_show (m := Mem.plus (memOf w0 Z0 [(oBox bx0 244 [(str a0.s), (int .i64 a0.e)])] [(oBox bx0 244 [(str r6.2.s), (int .i64 r6.2.e)]), (oBox g1 168 [(str ([] : List UInt8)), (int .i64 (0 : Int)), (int .i64 (0 : Int)), (int .i64 (0 : Int)), (int .i64 (0 : Int)), (Value.slice none 0 0), (str ([] : List UInt8))])] [(fDat (tyList tyU8) [v7] r6.1)]) X_ Y_) (S := over (tab [(0, (ptr bx0 0)), (2, (ptr g1 0)), (5, (str r4.1)), (7, v7)]) F_) ?_
 refine al_mv rfl rfl ?_
 refine al_nil ?_
 exact fr_fin hK_ ()⟩, ⟨_, rfl, [], rfl, by
 intro X_ Y_ F_ K_ hK_
 refine al_show (m := Mem.plus (memOf w0 Z0 [(oBox bx0 244 [(str a0.s), (int .i64 a0.e)])] [(oBox bx0 244 [(str r6.2.s), (int .i64 r6.2.e)]), (oBox g1 168 [(str ([] : List UInt8)), (int .i64 (0 : Int)), (int .i64 (0 : Int)), (int .i64 (0 : Int)), (int .i64 (0 : Int)), (Value.slice none 0 0), (str ([] : List UInt8))])] [(fDat (tyList tyU8) [v7] r6.1)]) X_ Y_) (S := over (tab [(0, (ptr bx0 0)), (2, (ptr g1 0)), (5, (str r4.1)), (7, v7)]) F_) ?_
 refine al_alloc (zs := [(str ([] : List UInt8)), (int .i64 (0 : Int)), (int .i64 (0 : Int)), (int .i64 (0 : Int)), (int .i64 (0 : Int)), (Value.slice none 0 0), (str ([] : List UInt8))]) (zeroOf_to to168) rfl rfl (fun g2 => ?_)
 refine al_nil ?_
 exact fr_fin hK_ g2⟩, ⟨_, rfl, [], rfl, by
 intro X_ Y_ F_ K_ hK_
 refine al_show (m := Mem.plus (memOf w0 Z0 [(oBox bx0 244 [(str a0.s), (int .i64 a0.e)])] [(oBox bx0 244 [(str r6.2.s), (int .i64 r6.2.e)]), (oBox g1 168 [(str ([] : List UInt8)), (int .i64 (0 : Int)), (int .i64 (0 : Int)), (int .i64 (0 : Int)), (int .i64 (0 : Int)), (Value.slice none 0 0), (str ([] : List UInt8))])] [(fDat (tyList tyU8) [v7] r6.1)]) X_ Y_) (S := over (tab [(0, (ptr bx0 0)), (2, (ptr g1 0)), (5, (str r4.1)), (7, v7)]) F_) ?_
 refine al_idxD 0 hu9 rfl rfl rfl Tryd.underlying113 sz5 rfl (fun p10 => ?_)
 refine al_nil ?_
 exact fr_fin hK_ p10⟩, ⟨_, rfl, [4], rfl, by
 intro p10
 intro X_ Y_ F_ K_ hK_
 refine al_show (m := Mem.plus (memOf w0 Z0 [(oBox bx0 244 [(str a0.s), (int .i64 a0.e)])] [(oBox bx0 244 [(str r6.2.s), (int .i64 r6.2.e)]), (oBox g1 168 [(str ([] : List UInt8)), (int .i64 (0 : Int)), (int .i64 (0 : Int)), (int .i64 (0 : Int)), (int .i64 (0 : Int)), (Value.slice none 0 0), (str ([] : List UInt8))])] [(fPtr tyU8 p10 u8), (fDat (tyList tyU8) [v7] r6.1)]) X_ Y_) (S := over (put (tab [(0, (ptr bx0 0)), (2, (ptr g1 0)), (5, (str r4.1)), (7, v7)]) 8 p10) F_) ?_
 refine al_val (ov_loadP (ds := [(int .u8 (u8.toNat : Int))]) 0 rfl (fun h => h) rfl Tryd.underlying5 sz5 rfl rfl rfl) ?_
 refine al_nil ?_
 exact fr_fin hK_ ()⟩, ⟨_, rfl, [5], rfl, by
 intro _
 intro X_ Y_ F_ K_ hK_
 refine al_show (m := Mem.plus (memOf w0 Z0 [(oBox bx0 244 [(str a0.s), (int .i64 a0.e)])] [(oBox bx0 244 [(str r6.2.s), (int .i64 r6.2.e)]), (oBox g1 168 [(str ([] : List UInt8)), (int .i64 (0 : Int)), (int .i64 (0 : Int)), (int .i64 (0 : Int)), (int .i64 (0 : Int)), (Value.slice none 0 0), (str ([] : List UInt8))])] [(fDat (tyList tyU8) [v7] r6.1)]) X_ Y_) (S := over (put (tab [(0, (ptr bx0 0)), (2, (ptr g1 0)), (5, (str r4.1)), (7, v7)]) 9 (int .u8 (u8.toNat : Int))) F_) ?_
 refine al_val (ov_convInt (by rw [Tryd.underlying5]; rfl) Tryd.underlying3 rfl rfl) ?_
 refine al_nil ?_
 exact fr_fin hK_ ()⟩, trivial⟩ ?_
 intro _
 intro X_ Y_ F_ K_ hK_
 refine al_show (m := Mem.plus (memOf w0 Z0 [(oBox bx0 244 [(str a0.s), (int .i64 a0.e)])] [(oBox bx0 244 [(str r6.2.s), (int .i64 r6.2.e)]), (oBox g1 168 [(str ([] : List UInt8)), (int .i64 (0 : Int)), (int .i64 (0 : Int)), (int .i64 (0 : Int)), (int .i64 (0 : Int)), (Value.slice none 0 0), (str ([] : List UInt8))])] [(fDat (tyList tyU8) [v7] r6.1)]) X_ Y_) (S := over (put (tab [(0, (ptr bx0 0)), (2, (ptr g1 0)), (5, (str r4.1)), (7, v7)]) 11 (ptr bx0 0)) F_) ?_
 obtain ⟨r12, hc11, h⟩ := opt_some h
 refine al_callX (vs := [(ptr bx0 0), (int .u64 (511 : Int))]) (f___tree_reader__number_ok fu bx0 (S_tree_reader.mk r6.2.s r6.2.e) (511 : Int) hc11) [] [0] [1] pre_nil rfl (by simp) (by decide) rfl (.inl rfl) rfl Tryd.func164 rfl rfl rfl (fun _ => ?_)
 refine al_nil ?_
 refine aq_show (m := Mem.plus (memOf w0 Z0 [(oBox bx0 244 [(str a0.s), (int .i64 a0.e)])] [(oBox bx0 244 [(str r12.2.s), (int .i64 r12.2.e)]), (oBox g1 168 [(str ([] : List UInt8)), (int .i64 (0 : Int)), (int .i64 (0 : Int)), (int .i64 (0 : Int)), (int .i64 (0 : Int)), (Value.slice none 0 0), (str ([] : List UInt8))])] [(fDat (tyList tyU8) [v7] r6.1)]) X_ Y_) ?_
 refine aq_next hK_ [0, 1] [0] [(0, (ptr bx0 0)), (2, (ptr g1 0)), (5, (str r4.1)), (7, v7), (12, (int .i64 r12.1))] [13, 15, 3, 8, 9, 10] [] rfl rfl (by decide) rfl ⟨rfl, rfl, rfl, rfl, rfl, trivial⟩ ⟨rfl, rfl, rfl, rfl, rfl, rfl, trivial⟩ ?_
 clear hK_ K_ F_ X_ Y_
 refine ta_show (m := (memOf w0 Z0 [(oBox bx0 244 [(str a0.s), (int .i64 a0.e)])] [(oBox bx0 244 [(str r12.2.s), (int .i64 r12.2.e)]), (oBox g1 168 [(str ([] : List UInt8)), (int .i64 (0 : Int)), (int .i64 (0 : Int)), (int .i64 (0 : Int)), (int .i64 (0 : Int)), (Value.slice none 0 0), (str ([] : List UInt8))])] [(fDat (tyList tyU8) [v7] r6.1)])) (S := (tab [(0, (ptr bx0 0)), (2, (ptr g1 0)), (5, (str r4.1)), (7, v7), (12, (int .i64 r12.1))])) ?_
 refine ta_step 10 _ [9, 11, 14, 4, 5, 6] [13, 15, 3, 8, 9, 10] [9] [] [⟨9, 13, Unit, fun _ => { val := (ptr bx0 0) }⟩] [⟨11, 15, Unit, fun _ => { val := (ptr bx0 0) }⟩, ⟨14, 3, Nat, fun (i : Nat) => { val := (ptr i 0), own := [(oBox i 168 [(str ([] : List UInt8)), (int .i64 (0 : Int)), (int .i64 (0 : Int)), (int .i64 (0 : Int)), (int .i64 (0 : Int)), (Value.slice none 0 0), (str ([] : List UInt8))])] }⟩, ⟨4, 8, Value, fun (i : Value) => { val := i, fz := [(fPtr tyU8 i u8)] }⟩, ⟨5, 9, Unit, fun _ => { val := (int .u8 (u8.toNat : Int)) }⟩, ⟨6, 10, Unit, fun _ => { val := (int .i64 (IntKind.i64.wrap (u8.toNat : Int))) }⟩] rfl rfl rfl (by kernel_rfl) rfl rfl rfl ⟨⟨_, rfl, [], rfl, by
 intro X_ Y_ F_ K_ hK_
 refine al_show (m := Mem.plus (memOf w0 Z0 [(oBox bx0 244 [(str a0.s), (int .i64 a0.e)])] [(oBox bx0 244 [(str r12.2.s), (int .i64 r12.2.e)]), (oBox g1 168 [(str ([] : List UInt8)), (int .i64 (0 : Int)), (int .i64 (0 : Int)), (int .i64 (0 : Int)), (int .i64 (0 : Int)), (Value.slice none 0 0), (str ([] : List UInt8))])] [(fDat (tyList tyU8) [v7] r6.1)]) X_ Y_) (S := over (tab [(0, (ptr bx0 0)), (2, (ptr g1 0)), (5, (str r4.1)), (7, v7), (12, (int .i64 r12.1))]) F_) ?_
 refine al_mv rfl rfl ?_
 refine al_nil ?_
 exact fr_fin hK_ ()⟩, ⟨_, rfl, [], rfl, by
 intro X_ Y_ F_ K_ hK_
 refine al_show (m := Mem.plus (memOf w0 Z0 [(oBox bx0 244 [(str a0.s), (int .i64 a0.e)])] [(oBox bx0 244 [(str r12.2.s), (int .i64 r12.2.e)]), (oBox g1 168 [(str ([] : List UInt8)), (int .i64 (0 : Int)), (int .i64 (0 : Int)), (int .i64 (0 : Int)), (int .i64 (0 : Int)), (Value.slice none 0 0), (str ([] : List UInt8))])] [(fDat (tyList tyU8) [v7] r6.1)]) X_ Y_) (S := over (tab [(0, (ptr bx0 0)), (2, (ptr g1 0)), (5, (str r4.1)), (7, v7), (12, (int .i64 r12.1))]) F_) ?_
 refine al_mv rfl rfl ?_
 refine al_nil ?_
 exact fr_fin hK_ ()⟩, ⟨_, rfl, [], rfl, by
 intro X_ Y_ F_ K_ hK_
 refine al_show (m := Mem.plus (memOf w0 Z0 [(oBox bx0 244 [(str a0.s), (int .i64 a0.e)])] [(oBox bx0 244 [(str r12.2.s), (int .i64 r12.2.e)]), (oBox g1 168 [(str ([] : List UInt8)), (int .i64 (0 : Int)), (int .i64 (0 : Int)), (int .i64 (0 : Int)), (int .i64 (0 : Int)), (Value.slice none 0 0), (str ([] : List UInt8))])] [(fDat (tyList tyU8) [v7] r6.1)]) X_ Y_) (S := over (tab [(0, (ptr bx0 0)), (2, (ptr g1 0)), (5, (str r4.1)), (7, v7), (12, (int .i64 r12.1))]) F_) ?_
 refine al_alloc (zs := [(str ([] : List UInt8)), (int .i64 (0 : Int)), (int .i64 (0 : Int)), (int .i64 (0 : Int)), (int .i64 (0 : Int)), (Value.slice none 0 0), (str ([] : List UInt8))]) (zeroOf_to to168) rfl rfl (fun g2 => ?_)
 refine al_nil ?_
 exact fr_fin hK_ g2⟩, ⟨_, rfl, [], rfl, by
 intro X_ Y_ F_ K_ hK_
 refine al_show (m := Mem.plus (memOf w0 Z0 [(oBox bx0 244 [(str a0.s), (int .i64 a0.e)])] [(oBox bx0 244 [(str r12.2.s), (int .i64 r12.2.e)]), (oBox g1 168 [(str ([] : List UInt8)), (int .i64 (0 : Int)), (int .i64 (0 : Int)), (int .i64 (0 : Int)), (int .i64 (0 : Int)), (Value.slice none 0 0), (str ([] : List UInt8))])] [(fDat (tyList tyU8) [v7] r6.1)]) X_ Y_) (S := over (tab [(0, (ptr bx0 0)), (2, (ptr g1 0)), (5, (str r4.1)), (7, v7), (12, (int .i64 r12.1))]) F_) ?_
 refine al_idxD 0 hu9 rfl rfl rfl Tryd.underlying113 sz5 rfl (fun p10 => ?_)
 refine al_nil ?_
 exact fr_fin hK_ p10⟩, ⟨_, rfl, [3], rfl, by
 intro p10
 intro X_ Y_ F_ K_ hK_
 refine al_show (m := Mem.plus (memOf w0 Z0 [(oBox bx0 244 [(str a0.s), (int .i64 a0.e)])] [(oBox bx0 244 [(str r12.2.s), (int .i64 r12.2.e)]), (oBox g1 168 [(str ([] : List UInt8)), (int .i64 (0 : Int)), (int .i64 (0 : Int)), (int .i64 (0 : Int)), (int .i64 (0 : Int)), (Value.slice none 0 0), (str ([] : List UInt8))])] [(fPtr tyU8 p10 u8), (fDat (tyList tyU8) [v7] r6.1)]) X_ Y_) (S := over (put (tab [(0, (ptr bx0 0)), (2, (ptr g1 0)), (5, (str r4.1)), (7, v7), (12, (int .i64 r12.1))]) 8 p10) F_) ?_
 refine al_val (ov_loadP (ds := [(int .u8 (u8.toNat : Int))]) 0 rfl (fun h => h) rfl Tryd.underlying5 sz5 rfl rfl rfl) ?_
 refine al_nil ?_
 exact fr_fin hK_ ()⟩, ⟨_, rfl, [4], rfl, by
 intro _
 intro X_ Y_ F_ K_ hK_
 refine al_show (m := Mem.plus (memOf w0 Z0 [(oBox bx0 244 [(str a0.s), (int .i64 a0.e)])] [(oBox bx0 244 [(str r12.2.s), (int .i64 r12.2.e)]), (oBox g1 168 [(str ([] : List UInt8)), (int .i64 (0 : Int)), (int .i64 (0 : Int)), (int .i64 (0 : Int)), (int .i64 (0 : Int)), (Value.slice none 0 0), (str ([] : List UInt8))])] [(fDat (tyList tyU8) [v7] r6.1)]) X_ Y_) (S := over (put (tab [(0, (ptr bx0 0)), (2, (ptr g1 0)), (5, (str r4.1)), (7, v7), (12, (int .i64 r12.1))]) 9 (int .u8 (u8.toNat : Int))) F_) ?_
 refine al_val (ov_convInt (by rw [Tryd.underlying5]; rfl) Tryd.underlying3 rfl rfl) ?_
 refine al_nil ?_
 exact fr_fin hK_ ()⟩, trivial⟩ ?_
 intro _
 intro X_ Y_ F_ K_ hK_
 refine al_show (m := Mem.plus (memOf w0 Z0 [(oBox bx0 244 [(str a0.s), (int .i64 a0.e)])] [(oBox bx0 244 [(str r12.2.s), (int .i64 r12.2.e)]), (oBox g1 168 [(str ([] : List UInt8)), (int .i64 (0 : Int)), (int .i64 (0 : Int)), (int .i64 (0 : Int)), (int .i64 (0 : Int)), (Value.slice none 0 0), (str ([] : List UInt8))])] [(fDat (tyList tyU8) [v7] r6.1)]) X_ Y_) (S := over (put (tab [(0, (ptr bx0 0)), (2, (ptr g1 0)), (5, (str r4.1)), (7, v7), (12, (int .i64 r12.1))]) 13 (ptr bx0 0)) F_) ?_
 obtain ⟨r14, hc13, h⟩ := opt_some h
 refine al_callX (vs := [(ptr bx0 0)]) (f___tree_reader__integer_ok fu bx0 (S_tree_reader.mk r12.2.s r12.2.e) hc13) [] [0] [1] pre_nil rfl (by simp) (by decide) rfl (.inl rfl) rfl Tryd.func204 rfl rfl rfl (fun _ => ?_)
 refine al_nil ?_
 refine aq_show (m := Mem.plus (memOf w0 Z0 [(oBox bx0 244 [(str a0.s), (int .i64 a0.e)])] [(oBox bx0 244 [(str r14.2.s), (int .i64 r14.2.e)]), (oBox g1 168 [(str ([] : List UInt8)), (int .i64 (0 : Int)), (int .i64 (0 : Int)), (int .i64 (0 : Int)), (int .i64 (0 : Int)), (Value.slice none 0 0), (str ([] : List UInt8))])] [(fDat (tyList tyU8) [v7] r6.1)]) X_ Y_) ?_
 refine aq_next hK_ [0, 1] [0] [(0, (ptr bx0 0)), (2, (ptr g1 0)), (5, (str r4.1)), (7, v7), (12, (int .i64 r12.1)), (14, (int .i64 r14.1))] [15, 3, 8, 9, 10] [] rfl rfl (by decide) rfl ⟨rfl, rfl, rfl, rfl, rfl, rfl, trivial⟩ ⟨rfl, rfl, rfl, rfl, rfl, trivial⟩ ?_
 clear hK_ K_ F_ X_ Y_
 refine ta_show (m := (memOf w0 Z0 [(oBox bx0 244 [(str a0.s), (int .i64 a0.e)])] [(oBox bx0 244 [(str r14.2.s), (int .i64 r14.2.e)]), (oBox g1 168 [(str ([] : List UInt8)), (int .i64 (0 : Int)), (int .i64 (0 : Int)), (int .i64 (0 : Int)), (int .i64 (0 : Int)), (Value.slice none 0 0), (str ([] : List UInt8))])] [(fDat (tyList tyU8) [v7] r6.1)])) (S := (tab [(0, (ptr bx0 0)), (2, (ptr g1 0)), (5, (str r4.1)), (7, v7), (12, (int .i64 r12.1)), (14, (int .i64 r14.1))])) ?_
 refine ta_step 12 _ [11, 14, 4, 5, 6] [15, 3, 8, 9, 10] [11] [13] [⟨11, 15, Unit, fun _ => { val := (ptr bx0 0) }⟩] [⟨14, 3, Nat, fun (i : Nat) => { val := (ptr i 0), own := [(oBox i 168 [(str ([] : List UInt8)), (int .i64 (0 : Int)), (int .i64 (0 : Int)), (int .i64 (0 : Int)), (int .i64 (0 : Int)), (Value.slice none 0 0), (str ([] : List UInt8))])] }⟩, ⟨4, 8, Value, fun (i : Value) => { val := i, fz := [(fPtr tyU8 i u8)] }⟩, ⟨5, 9, Unit, fun _ => { val := (int .u8 (u8.toNat : Int)) }⟩, ⟨6, 10, Unit, fun _ => { val := (int .i64 (IntKind.i64.wrap (u8.toNat : Int))) }⟩] rfl rfl rfl (by kernel_rfl) rfl rfl rfl ⟨⟨_, rfl, [], rfl, by
 intro X_ Y_ F_ K_ hK_
 refine al_show (m := Mem.plus (memOf w0 Z0 [(oBox bx0 244 [(str a0.s), (int .i64 a0.e)])] [(oBox bx0 244 [(str r14.2.s), (int .i64 r14.2.e)]), (oBox g1 168 [(str ([] : List UInt8)), (int .i64 (0 : Int)), (int .i64 (0 : Int)), (int .i64 (0 : Int)), (int .i64 (0 : Int)), (Value.slice none 0 0), (str ([] : List UInt8))])] [(fDat (tyList tyU8) [v7] r6.1)]) X_ Y_) (S := over (tab [(0, (ptr bx0 0)), (2, (ptr g1 0)), (5, (str r4.1)), (7, v7), (12, (int .i64 r12.1)), (14, (int .i64 r14.1))]) F_) ?_
 refine al_mv rfl rfl ?_
 refine al_nil ?_
 exact fr_fin hK_ ()⟩, ⟨_, rfl, [], rfl, by
 intro X_ Y_ F_ K_ hK_
 refine al_show (m := Mem.plus (memOf w0 Z0 [(oBox bx0 244 [(str a0.s), (int .i64 a0.e)])] [(oBox bx0 244 [(str r14.2.s), (int .i64 r14.2.e)]), (oBox g1 168 [(str ([] : List UInt8)), (int .i64 (0 : Int)), (int .i64 (0 : Int)), (int .i64 (0 : Int)), (int .i64 (0 : Int)), (Value.slice none 0 0), (str ([] : List UInt8))])] [(fDat (tyList tyU8) [v7] r6.1)]) X_ Y_) (S := over (tab [(0, (ptr bx0 0)), (2, (ptr g1 0)), (5, (str r4.1)), (7, v7), (12, (int .i64 r12.1)), (14, (int .i64 r14.1))]) F_) ?_
 refine al_alloc (zs := [(str ([] : List UInt8)), (int .i64 (0 : Int)), (int .i64 (0 : Int)), (int .i64 (0 : Int)), (int .i64 (0 : Int)), (Value.slice none 0 0), (str ([] : List UInt8))]) (zeroOf_to to168) rfl rfl (fun g2 => ?_)
 refine al_nil ?_
 exact fr_fin hK_ g2⟩, ⟨_, rfl, [], rfl, by
 intro X_ Y_ F_ K_ hK_
 refine al_show (m := Mem.plus (memOf w0 Z0 [(oBox bx0 244 [(str a0.s), (int .i64 a0.e)])] [(oBox bx0 244 [(str r14.2.s), (int .i64 r14.2.e)]), (oBox g1 168 [(str ([] : List UInt8)), (int .i64 (0 : Int)), (int .i64 (0 : Int)), (int .i64 (0 : Int)), (int .i64 (0 : Int)), (Value.slice none 0 0), (str ([] : List UInt8))])] [(fDat (tyList tyU8) [v7] r6.1)]) X_ Y_) (S := over (tab [(0, (ptr bx0 0)), (2, (ptr g1 0)), (5, (str r4.1)), (7, v7), (12, (int .i64 r12.1)), (14, (int .i64 r14.1))]) F_) ?_
 refine al_idxD 0 hu9 rfl rfl rfl Tryd.underlying113 sz5 rfl (fun p10 => ?_)
 refine al_nil ?_
 exact fr_fin hK_ p10⟩, ⟨_, rfl, [2], rfl, by
 intro p10
 intro X_ Y_ F_ K_ hK_
 refine al_show (m := Mem.plus (memOf w0 Z0 [(oBox bx0 244 [(str a0.s), (int .i64 a0.e)])] [(oBox bx0 244 [(str r14.2.s), (int .i64 r14.2.e)]), (oBox g1 168 [(str ([] : List UInt8)), (int .i64 (0 : Int)), (int .i64 (0 : Int)), (int .i64 (0 : Int)), (int .i64 (0 : Int)), (Value.slice none 0 0), (str ([] : List UInt8))])] [(fPtr tyU8 p10 u8), (fDat (tyList tyU8) [v7] r6.1)]) X_ Y_) (S := over (put (tab [(0, (ptr bx0 0)), (2, (ptr g1 0)), (5, (str r4.1)), (7, v7), (12, (int .i64 r12.1)), (14, (int .i64 r14.1))]) 8 p10) F_) ?_
 refine al_val (ov_loadP (ds := [(int .u8 (u8.toNat : Int))]) 0 rfl (fun h => h) rfl Tryd.underlying5 sz5 rfl rfl rfl) ?_
 refine al_nil ?_
 exact fr_fin hK_ ()⟩, ⟨_, rfl, [3], rfl, by
 intro _
 intro X_ Y_ F_ K_ hK_
 refine al_show (m := Mem.plus (memOf w0 Z0 [(oBox bx0 244 [(str a0.s), (int .i64 a0.e)])] [(oBox bx0 244 [(str r14.2.s), (int .i64 r14.2.e)]), (oBox g1 168 [(str ([] : List UInt8)), (int .i64 (0 : Int)), (int .i64 (0 : Int)), (int .i64 (0 : Int)), (int .i64 (0 : Int)), (Value.slice none 0 0), (str ([] : List UInt8))])] [(fDat (tyList tyU8) [v7] r6.1)]) X_ Y_) (S := over (put (tab [(0, (ptr bx0 0)), (2, (ptr g1 0)), (5, (str r4.1)), (7, v7), (12, (int .i64 r12.1)), (14, (int .i64 r14.1))]) 9 (int .u8 (u8.toNat : Int))) F_) ?_
 refine al_val (ov_convInt (by rw [Tryd.underlying5]; rfl) Tryd.underlying3 rfl rfl) ?_
 refine al_nil ?_
 exact fr_fin hK_ ()⟩, trivial⟩ ?_
 intro _
 intro X_ Y_ F_ K_ hK_
 refine al_show (m := Mem.plus (memOf w0 Z0 [(oBox bx0 244 [(str a0.s), (int .i64 a0.e)])] [(oBox bx0 244 [(str r14.2.s), (int .i64 r14.2.e)]), (oBox g1 168 [(str ([] : List UInt8)), (int .i64 (0 : Int)), (int .i64 (0 : Int)), (int .i64 (0 : Int)), (int .i64 (0 : Int)), (Value.slice none 0 0), (str ([] : List UInt8))])] [(fDat (tyList tyU8) [v7] r6.1)]) X_ Y_) (S := over (put (tab [(0, (ptr bx0 0)), (2, (ptr g1 0)), (5, (str r4.1)), (7, v7), (12, (int .i64 r12.1)), (14, (int .i64 r14.1))]) 15 (ptr bx0 0)) F_) ?_
 obtain ⟨r16, hc15, h⟩ := opt_some h
 refine al_callX (vs := [(ptr bx0 0), (int .u64 (4096 : Int))]) (f___tree_reader__number_ok fu bx0 (S_tree_reader.mk r14.2.s r14.2.e) (4096 : Int) hc15) [] [0] [1] pre_nil rfl (by simp) (by decide) rfl (.inl rfl) rfl Tryd.func164 rfl rfl rfl (fun _ => ?_)
 refine al_nil ?_
 refine aq_show (m := Mem.plus (memOf w0 Z0 [(oBox bx0 244 [(str a0.s), (int .i64 a0.e)])] [(oBox bx0 244 [(str r16.2.s), (int .i64 r16.2.e)]), (oBox g1 168 [(str ([] : List UInt8)), (int .i64 (0 : Int)), (int .i64 (0 : Int)), (int .i64 (0 : Int)), (int .i64 (0 : Int)), (Value.slice none 0 0), (str ([] : List UInt8))])] [(fDat (tyList tyU8) [v7] r6.1)]) X_ Y_) ?_
 refine aq_next hK_ [0, 1] [0] [(0, (ptr bx0 0)), (2, (ptr g1 0)), (5, (str r4.1)), (7, v7), (12, (int .i64 r12.1)), (14, (int .i64 r14.1)), (16, (int .i64 r16.1))] [3, 8, 9, 10] [⟨13, 17, Unit, fun _ => { val := (ag [(str r4.1), (int .i64 (IntKind.i64.wrap (u8.toNat : Int))), (int .i64 r12.1), (int .i64 r14.1), (int .i64 r16.1), (Value.slice none 0 0), (str ([] : List UInt8))]) }⟩] rfl rfl (by decide) rfl ⟨rfl, rfl, rfl, rfl, rfl, rfl, rfl, trivial⟩ ⟨rfl, rfl, rfl, rfl, trivial⟩ ?_
 clear hK_ K_ F_ X_ Y_
 refine ta_show (m := (memOf w0 Z0 [(oBox bx0 244 [(str a0.s), (int .i64 a0.e)])] [(oBox bx0 244 [(str r16.2.s), (int .i64 r16.2.e)]), (oBox g1 168 [(str ([] : List UInt8)), (int .i64 (0 : Int)), (int .i64 (0 : Int)), (int .i64 (0 : Int)), (int .i64 (0 : Int)), (Value.slice none 0 0), (str ([] : List UInt8))])] [(fDat (tyList tyU8) [v7] r6.1)])) (S := (tab [(0, (ptr bx0 0)), (2, (ptr g1 0)), (5, (str r4.1)), (7, v7), (12, (int .i64 r12.1)), (14, (int .i64 r14.1)), (16, (int .i64 r16.1))])) ?_
 refine ta_step 15 _ [14, 4, 5, 6, 13] [3, 8, 9, 10, 17] [14, 4, 5, 6, 13] [] [⟨14, 3, Nat, fun (i : Nat) => { val := (ptr i 0), own := [(oBox i 168 [(str ([] : List UInt8)), (int .i64 (0 : Int)), (int .i64 (0 : Int)), (int .i64 (0 : Int)), (int .i64 (0 : Int)), (Value.slice none 0 0), (str ([] : List UInt8))])] }⟩, ⟨4, 8, Value, fun (i : Value) => { val := i, fz := [(fPtr tyU8 i u8)] }⟩, ⟨5, 9, Unit, fun _ => { val := (int .u8 (u8.toNat : Int)) }⟩, ⟨6, 10, Unit, fun _ => { val := (int .i64 (IntKind.i64.wrap (u8.toNat : Int))) }⟩, ⟨13, 17, Unit, fun _ => { val := (ag [(str r4.1), (int .i64 (IntKind.i64.wrap (u8.toNat : Int))), (int .i64 r12.1), (int .i64 r14.1), (int .i64 r16.1), (Value.slice none 0 0), (str ([] : List UInt8))]) }⟩] [] rfl rfl rfl (by kernel_rfl) rfl rfl rfl ⟨⟨_, rfl, [], rfl, by
 intro X_ Y_ F_ K_ hK_
 refine al_show (m := Mem.plus (memOf w0 Z0 [(oBox bx0 244 [(str a0.s), (int .i64 a0.e)])] [(oBox bx0 244 [(str r16.2.s), (int .i64 r16.2.e)]), (oBox g1 168 [(str ([] : List UInt8)), (int .i64 (0 : Int)), (int .i64 (0 : Int)), (int .i64 (0 : Int)), (int .i64 (0 : Int)), (Value.slice none 0 0), (str ([] : List UInt8))])] [(fDat (tyList tyU8) [v7] r6.1)]) X_ Y_) (S := over (tab [(0, (ptr bx0 0)), (2, (ptr g1 0)), (5, (str r4.1)), (7, v7), (12, (int .i64 r12.1)), (14, (int .i64 r14.1)), (16, (int .i64 r16.1))]) F_) ?_
 refine al_alloc (zs := [(str ([] : List UInt8)), (int .i64 (0 : Int)), (int .i64 (0 : Int)), (int .i64 (0 : Int)), (int .i64 (0 : Int)), (Value.slice none 0 0), (str ([] : List UInt8))]) (zeroOf_to to168) rfl rfl (fun g2 => ?_)
 refine al_nil ?_
 exact fr_fin hK_ g2⟩, ⟨_, rfl, [], rfl, by
 intro X_ Y_ F_ K_ hK_
 refine al_show (m := Mem.plus (memOf w0 Z0 [(oBox bx0 244 [(str a0.s), (int .i64 a0.e)])] [(oBox bx0 244 [(str r16.2.s), (int .i64 r16.2.e)]), (oBox g1 168 [(str ([] : List UInt8)), (int .i64 (0 : Int)), (int .i64 (0 : Int)), (int .i64 (0 : Int)), (int .i64 (0 : Int)), (Value.slice none 0 0), (str ([] : List UInt8))])] [(fDat (tyList tyU8) [v7] r6.1)]) X_ Y_) (S := over (tab [(0, (ptr bx0 0)), (2, (ptr g1 0)), (5, (str r4.1)), (7, v7), (12, (int .i64 r12.1)), (14, (int .i64 r14.1)), (16, (int .i64 r16.1))]) F_) ?_
 refine al_idxD 0 hu9 rfl rfl rfl Tryd.underlying113 sz5 rfl (fun p10 => ?_)
 refine al_nil ?_
 exact fr_fin hK_ p10⟩, ⟨_, rfl, [1], rfl, by
 intro p10
 intro X_ Y_ F_ K_ hK_
 refine al_show (m := Mem.plus (memOf w0 Z0 [(oBox bx0 244 [(str a0.s), (int .i64 a0.e)])] [(oBox bx0 244 [(str r16.2.s), (int .i64 r16.2.e)]), (oBox g1 168 [(str ([] : List UInt8)), (int .i64 (0 : Int)), (int .i64 (0 : Int)), (int .i64 (0 : Int)), (int .i64 (0 : Int)), (Value.slice none 0 0), (str ([] : List UInt8))])] [(fPtr tyU8 p10 u8), (fDat (tyList tyU8) [v7] r6.1)]) X_ Y_) (S := over (put (tab [(0, (ptr bx0 0)), (2, (ptr g1 0)), (5, (str r4.1)), (7, v7), (12, (int .i64 r12.1)), (14, (int .i64 r14.1)), (16, (int .i64 r16.1))]) 8 p10) F_) ?_
 refine al_val (ov_loadP (ds := [(int .u8 (u8.toNat : Int))]) 0 rfl (fun h => h) rfl Tryd.underlying5 sz5 rfl rfl rfl) ?_
 refine al_nil ?_
 exact fr_fin hK_ ()⟩, ⟨_, rfl, [2], rfl, by
 intro _
 intro X_ Y_ F_ K_ hK_
 refine al_show (m := Mem.plus (memOf w0 Z0 [(oBox bx0 244 [(str a0.s), (int .i64 a0.e)])] [(oBox bx0 244 [(str r16.2.s), (int .i64 r16.2.e)]), (oBox g1 168 [(str ([] : List UInt8)), (int .i64 (0 : Int)), (int .i64 (0 : Int)), (int .i64 (0 : Int)), (int .i64 (0 : Int)), (Value.slice none 0 0), (str ([] : List UInt8))])] [(fDat (tyList tyU8) [v7] r6.1)]) X_ Y_) (S := over (put (tab [(0, (ptr bx0 0)), (2, (ptr g1 0)), (5, (str r4.1)), (7, v7), (12, (int .i64 r12.1)), (14, (int .i64 r14.1)), (16, (int .i64 r16.1))]) 9 (int .u8 (u8.toNat : Int))) F_) ?_
 refine al_val (ov_convInt (by rw [Tryd.underlying5]; rfl) Tryd.underlying3 rfl rfl) ?_
 refine al_nil ?_
 exact fr_fin hK_ ()⟩, ⟨_, rfl, [3], rfl, by
 intro _
 intro X_ Y_ F_ K_ hK_
 refine al_show (m := Mem.plus (memOf w0 Z0 [(oBox bx0 244 [(str a0.s), (int .i64 a0.e)])] [(oBox bx0 244 [(str r16.2.s), (int .i64 r16.2.e)]), (oBox g1 168 [(str ([] : List UInt8)), (int .i64 (0 : Int)), (int .i64 (0 : Int)), (int .i64 (0 : Int)), (int .i64 (0 : Int)), (Value.slice none 0 0), (str ([] : List UInt8))])] [(fDat (tyList tyU8) [v7] r6.1)]) X_ Y_) (S := over (put (tab [(0, (ptr bx0 0)), (2, (ptr g1 0)), (5, (str r4.1)), (7, v7), (12, (int .i64 r12.1)), (14, (int .i64 r14.1)), (16, (int .i64 r16.1))]) 10 (int .i64 (IntKind.i64.wrap (u8.toNat : Int)))) F_) ?_
 refine al_val (ov_build (cells := ([(str r4.1), (int .i64 (IntKind.i64.wrap (u8.toNat : Int))), (int .i64 r12.1), (int .i64 r14.1), (int .i64 r16.1), (Value.slice none 0 0), (str ([] : List UInt8))]).toArray) (cs := [(str r4.1), (int .i64 (IntKind.i64.wrap (u8.toNat : Int))), (int .i64 r12.1), (int .i64 r14.1), (int .i64 r16.1), (Value.slice none 0 0), (str ([] : List UInt8))]) rfl (fun w a hm hs => by simp only [List.map_toArray, List.map_cons, List.map_nil, List.toList_toArray, hs.ev (x := .tmp 5) rfl, hs.ev (x := .tmp 10) rfl, hs.ev (x := .tmp 12) rfl, hs.ev (x := .tmp 14) rfl, hs.ev (x := .tmp 16) rfl]; kernel_rfl)) ?_
 refine al_nil ?_
 exact fr_fin hK_ ()⟩, trivial⟩ ?_
 intro g2
 intro p10
 intro _
 intro _
 intro _
 intro X_ Y_ F_ K_ hK_
 refine al_show (m := Mem.plus (memOf w0 Z0 [(oBox bx0 244 [(str a0.s), (int .i64 a0.e)])] [(oBox g2 168 [(str ([] : List UInt8)), (int .i64 (0 : Int)), (int .i64 (0 : Int)), (int .i64 (0 : Int)), (int .i64 (0 : Int)), (Value.slice none 0 0), (str ([] : List UInt8))]), (oBox bx0 244 [(str r16.2.s), (int .i64 r16.2.e)]), (oBox g1 168 [(str ([] : List UInt8)), (int .i64 (0 : Int)), (int .i64 (0 : Int)), (int .i64 (0 : Int)), (int .i64 (0 : Int)), (Value.slice none 0 0), (str ([] : List UInt8))])] [(fPtr tyU8 p10 u8), (fDat (tyList tyU8) [v7] r6.1)]) X_ Y_) (S := over (put (put (put (put (put (tab [(0, (ptr bx0 0)), (2, (ptr g1 0)), (5, (str r4.1)), (7, v7), (12, (int .i64 r12.1)), (14, (int .i64 r14.1)), (16, (int .i64 r16.1))]) 3 (ptr g2 0)) 8 p10) 9 (int .u8 (u8.toNat : Int))) 10 (int .i64 (IntKind.i64.wrap (u8.toNat : Int)))) 17 (ag [(str r4.1), (int .i64 (IntKind.i64.wrap (u8.toNat : Int))), (int .i64 r12.1), (int .i64 r14.1), (int .i64 r16.1), (Value.slice none 0 0), (str ([] : List UInt8))])) F_) ?_
 refine al_store (i := 0) (vs := [(str r4.1), (int .i64 (IntKind.i64.wrap (u8.toNat : Int))), (int .i64 r12.1), (int .i64 r14.1), (int .i64 r16.1), (Value.slice none 0 0), (str ([] : List UInt8))]) (cs' := [(str r4.1), (int .i64 (IntKind.i64.wrap (u8.toNat : Int))), (int .i64 r12.1), (int .i64 r14.1), (int .i64 r16.1), (Value.slice none 0 0), (str ([] : List UInt8))]) rfl rfl rfl sz168 (cv_rfl rfl) rfl (co_val rfl (co_val rfl (co_val rfl (co_val rfl (co_val rfl (co_val rfl (co_val rfl co_nil))))))) (Nat.le_of_ble_eq_true rfl) rfl rfl ?_
 refine al_nil ?_
 refine aq_show (m := Mem.plus (memOf w0 Z0 [(oBox bx0 244 [(str a0.s), (int .i64 a0.e)])] [(oBox g2 168 [(str r4.1), (int .i64 (IntKind.i64.wrap (u8.toNat : Int))), (int .i64 r12.1), (int .i64 r14.1), (int .i64 r16.1), (Value.slice none 0 0), (str ([] : List UInt8))]), (oBox bx0 244 [(str r16.2.s), (int .i64 r16.2.e)]), (oBox g1 168 [(str ([] : List UInt8)), (int .i64 (0 : Int)), (int .i64 (0 : Int)), (int .i64 (0 : Int)), (int .i64 (0 : Int)), (Value.slice none 0 0), (str ([] : List UInt8))])] [(fPtr tyU8 p10 u8), (fDat (tyList tyU8) [v7] r6.1)]) X_ Y_) ?_
 refine aq_next hK_ [0, 1, 2] [1] [(0, (ptr bx0 0)), (2, (ptr g1 0)), (3, (ptr g2 0))] [] [] rfl rfl (by decide) rfl ⟨rfl, rfl, rfl, trivial⟩ trivial ?_
 clear hK_ K_ F_ X_ Y_
 refine ta_show (m := (memOf w0 Z0 [(oBox bx0 244 [(str a0.s), (int .i64 a0.e)])] [(oBox g2 168 [(str r4.1), (int .i64 (IntKind.i64.wrap (u8.toNat : Int))), (int .i64 r12.1), (int .i64 r14.1), (int .i64 r16.1), (Value.slice none 0 0), (str ([] : List UInt8))]), (oBox bx0 244 [(str r16.2.s), (int .i64 r16.2.e)]), (oBox g1 168 [(str ([] : List UInt8)), (int .i64 (0 : Int)), (int .i64 (0 : Int)), (int .i64 (0 : Int)), (int .i64 (0 : Int)), (Value.slice none 0 0), (str ([] : List UInt8))])] [(fDat (tyList tyU8) [v7] r6.1)])) (S := (tab [(0, (ptr bx0 0)), (2, (ptr g1 0)), (3, (ptr g2 0))])) ?_
 refine ta_end [] [] rfl rfl (by kernel_rfl) rfl trivial ?_
 refine aq_show (m := (memOf w0 Z0 [(oBox bx0 244 [(str a0.s), (int .i64 a0.e)])] [(oBox g2 168 [(str r4.1), (int .i64 (IntKind.i64.wrap (u8.toNat : Int))), (int .i64 r12.1), (int .i64 r14.1), (int .i64 r16.1), (Value.slice none 0 0), (str ([] : List UInt8))]), (oBox bx0 244 [(str r16.2.s), (int .i64 r16.2.e)]), (oBox g1 168 [(str ([] : List UInt8)), (int .i64 (0 : Int)), (int .i64 (0 : Int)), (int .i64 (0 : Int)), (int .i64 (0 : Int)), (Value.slice none 0 0), (str ([] : List UInt8))])] [(fDat (tyList tyU8) [v7] r6.1)])) (S := (tab [(0, (ptr bx0 0)), (2, (ptr g1 0)), (3, (ptr g2 0))])) ?_
 refine aq_then ?_
 obtain ⟨kk18, hkk18, h⟩ := lt_some h
 refine aw_seq_join (ι := (List UInt8) × Int × Value × (List A8u8)) (fun i => (memOf w0 Z0 [(oBox bx0 244 [(str a0.s), (int .i64 a0.e)])] [(oBox bx0 244 [(str i.1), (int .i64 i.2.1)]), (oBox g1 168 [(str ([] : List UInt8)), (int .i64 (0 : Int)), (int .i64 (0 : Int)), (int .i64 (0 : Int)), (int .i64 (0 : Int)), (Value.slice none 0 0), (str ([] : List UInt8))]), (oRow i.2.2.1 47 tyA8u8 i.2.2.2), (oBox g2 168 [(str r4.1), (int .i64 (IntKind.i64.wrap (u8.toNat : Int))), (int .i64 r12.1), (int .i64 r14.1), (int .i64 r16.1), i.2.2.1, (str ([] : List UInt8))])] [(fDat (tyList tyU8) [v7] r6.1)])) (fun i => (tab [(0, (ptr bx0 0)), (2, (ptr g1 0)), (3, (ptr g2 0))])) (fun i => kk18 i.1 i.2.1 i.2.2.2 = some r) ?_ ?_
 ·rintro ⟨j17s0_0, j17i0_1, j17v3_5, j17x3_5⟩ h
  have h : kk18 j17s0_0 j17i0_1 j17x3_5 = some r := h
  rw [hkk18] at h
  dsimp only at h
  clear hkk18
  refine aw_show (m := (memOf w0 Z0 [(oBox bx0 244 [(str a0.s), (int .i64 a0.e)])] [(oBox bx0 244 [(str j17s0_0), (int .i64 j17i0_1)]), (oBox g1 168 [(str ([] : List UInt8)), (int .i64 (0 : Int)), (int .i64 (0 : Int)), (int .i64 (0 : Int)), (int .i64 (0 : Int)), (Value.slice none 0 0), (str ([] : List UInt8))]), (oRow j17v3_5 47 tyA8u8 j17x3_5), (oBox g2 168 [(str r4.1), (int .i64 (IntKind.i64.wrap (u8.toNat : Int))), (int .i64 r12.1), (int .i64 r14.1), (int .i64 r16.1), j17v3_5, (str ([] : List UInt8))])] [(fDat (tyList tyU8) [v7] r6.1)])) (S := (tab [(0, (ptr bx0 0)), (2, (ptr g1 0)), (3, (ptr g2 0))])) ?_
  refine aw_sr ?_
  refine al_mv rfl rfl ?_
  obtain ⟨r20, hc19, h⟩ := opt_some h
  refine al_call (vs := [(ptr bx0 0)]) (f___tree_reader__text_ok fu bx0 (S_tree_reader.mk j17s0_0 j17i0_1) hc19) [] [0] [1, 2, 3] pre_nil rfl (by simp) (by decide) (.inl rfl) rfl Tryd.func202 rfl rfl rfl (fun _ => ?_)
  refine al_val (ov_fieldA (p := 6) rfl Tryd.underlying168 rfl sz9 rfl rfl rfl) ?_
  refine al_store (i := 3) (vs := [(str r20.1)]) (cs' := [(str r4.1), (int .i64 (IntKind.i64.wrap (u8.toNat : Int))), (int .i64 r12.1), (int .i64 r14.1), (int .i64 r16.1), j17v3_5, (str r20.1)]) rfl rfl rfl sz9 (cv_rfl rfl) rfl (co_val rfl co_nil) (Nat.le_of_ble_eq_true rfl) rfl rfl ?_
  refine al_nt ?_
  refine aw_sr ?_
  refine al_val (ov_load (i := 3) (v := (ag [(str r4.1), (int .i64 (IntKind.i64.wrap (u8.toNat : Int))), (int .i64 r12.1), (int .i64 r14.1), (int .i64 r16.1), j17v3_5, (str r20.1)])) rfl rfl Tryd.underlying168 sz168 rfl rfl rfl rfl) ?_
  refine al_store (i := 1) (vs := [(str r4.1), (int .i64 (IntKind.i64.wrap (u8.toNat : Int))), (int .i64 r12.1), (int .i64 r14.1), (int .i64 r16.1), j17v3_5, (str r20.1)]) (cs' := [(str r4.1), (int .i64 (IntKind.i64.wrap (u8.toNat : Int))), (int .i64 r12.1), (int .i64 r14.1), (int .i64 r16.1), j17v3_5, (str r20.1)]) rfl rfl rfl sz168 (cv_rfl rfl) rfl (co_val rfl (co_val rfl (co_val rfl (co_val rfl (co_val rfl (co_own 2 rfl (co_val rfl co_nil))))))) (Nat.le_of_ble_eq_true rfl) rfl rfl ?_
  refine al_nt ?_
  refine aw_ret ?_
  refine aq_freezeX 2 [0] rfl rfl rfl ?_
  obtain rfl := Option.some.inj h
  exact fn_ret j17v3_5 [0] [0] rfl rfl rfl rfl (resC rfl (resB (i := 1) rfl rfl Tryd.underlying168 sz168 rfl rfl rfl (resN)) rfl) rfl rfl rfl (by decide)
 ·clear hkk18
  refine aw_sr ?_
  refine al_mv rfl rfl ?_
  obtain ⟨r22, hc21, h⟩ := opt_some h
  refine al_call (vs := [(ptr bx0 0), (int .u64 (300 : Int))]) (f___tree_reader__number_ok fu bx0 (S_tree_reader.mk r16.2.s r16.2.e) (300 : Int) hc21) [] [1] [0, 2] pre_nil rfl (by simp) (by decide) (.inl rfl) rfl Tryd.func164 rfl rfl rfl (fun _ => ?_)
  refine al_mv rfl rfl ?_
  refine al_nt ?_
  refine aw_block ?_
  refine aw_nilR 47 tyA8u8 ?_
  refine aw_state (aw_loop (ι := (List UInt8) × Int × Value × (List A8u8) × Int) (fun i => (memOf w0 Z0 [(oBox bx0 244 [(str a0.s), (int .i64 a0.e)])] [(oBox bx0 244 [(str i.1), (int .i64 i.2.1)]), (oBox g1 168 [(str ([] : List UInt8)), (int .i64 (0 : Int)), (int .i64 (0 : Int)), (int .i64 (0 : Int)), (int .i64 (0 : Int)), (Value.slice none 0 0), (str ([] : List UInt8))]), (oRow i.2.2.1 47 tyA8u8 i.2.2.2.1), (oBox g2 168 [(str r4.1), (int .i64 (IntKind.i64.wrap (u8.toNat : Int))), (int .i64 r12.1), (int .i64 r14.1), (int .i64 r16.1), i.2.2.1, (str ([] : List UInt8))])] [(fDat (tyList tyU8) [v7] r6.1)])) (fun i => (tab [(0, (ptr bx0 0)), (2, (ptr g1 0)), (3, (ptr g2 0)), (19, (int .i64 r22.1)), (20, (int .i64 i.2.2.2.2))])) (fun q i => f___tree_reader__node_L25 kk18 r22 fu q i.1 i.2.1 i.2.2.2.1 i.2.2.2.2 = some r) ?_ fu (r22.2.s, r22.2.e, (Value.slice none 0 0), ([] : List A8u8), (0 : Int)) h) (fun w a hm hs => norm hm hs [1, 3, 0, 2] [0] [(0, (ptr bx0 0)), (2, (ptr g1 0)), (3, (ptr g2 0)), (19, (int .i64 r22.1)), (20, (int .i64 (0 : Int)))] (by decide) ⟨rfl, rfl, rfl, rfl, rfl, trivial⟩)
  clear h
  rintro k24 ⟨l23s0_0, l23i0_1, l23v3_5, l23x3_5, l23i20⟩ h
  have h : f___tree_reader__node_L25 kk18 r22 fu k24 l23s0_0 l23i0_1 l23x3_5 l23i20 = some r := h
  obtain _ | k24 := k24
  · rw [f___tree_reader__node_L25] at h; cases h
  rw [f___tree_reader__node_L25] at h
  refine aw_show (m := (memOf w0 Z0 [(oBox bx0 244 [(str a0.s), (int .i64 a0.e)])] [(oBox bx0 244 [(str l23s0_0), (int .i64 l23i0_1)]), (oBox g1 168 [(str ([] : List UInt8)), (int .i64 (0 : Int)), (int .i64 (0 : Int)), (int .i64 (0 : Int)), (int .i64 (0 : Int)), (Value.slice none 0 0), (str ([] : List UInt8))]), (oRow l23v3_5 47 tyA8u8 l23x3_5), (oBox g2 168 [(str r4.1), (int .i64 (IntKind.i64.wrap (u8.toNat : Int))), (int .i64 r12.1), (int .i64 r14.1), (int .i64 r16.1), l23v3_5, (str ([] : List UInt8))])] [(fDat (tyList tyU8) [v7] r6.1)])) (S := (tab [(0, (ptr bx0 0)), (2, (ptr g1 0)), (3, (ptr g2 0)), (19, (int .i64 r22.1)), (20, (int .i64 l23i20))])) ?_
  refine aw_sr ?_
  refine al_in rfl rfl rfl rfl ?_
  refine al_nt ?_
  refine aw_seq ?_
  refine aw_cond rfl (fun hb26 => ?_) (fun hb26 => ?_)
  ·replace h := bif_t hb26 h
   refine aw_skip ?_
   refine aq_then ?_
   refine aw_seq ?_
   refine aw_block ?_
   refine aw_region_open [⟨0, 22, Unit, fun _ => { val := (ptr g2 5) }⟩, ⟨1, 23, Unit, fun _ => { val := l23v3_5 }⟩, ⟨2, 24, Unit, fun _ => { val := (ptr bx0 0) }⟩] (tab [(0, (ptr bx0 0)), (2, (ptr g1 0)), (3, (ptr g2 0)), (19, (int .i64 r22.1)), (20, (int .i64 l23i20))]) mixed (fun a hs => hs.tab _ (allT_mem ⟨rfl, rfl, rfl, rfl, rfl, trivial⟩)) ?_
   refine ta_show (m := (memOf w0 Z0 [(oBox bx0 244 [(str a0.s), (int .i64 a0.e)])] [(oBox bx0 244 [(str l23s0_0), (int .i64 l23i0_1)]), (oBox g1 168 [(str ([] : List UInt8)), (int .i64 (0 : Int)), (int .i64 (0 : Int)), (int .i64 (0 : Int)), (int .i64 (0 : Int)), (Value.slice none 0 0), (str ([] : List UInt8))]), (oRow l23v3_5 47 tyA8u8 l23x3_5), (oBox g2 168 [(str r4.1), (int .i64 (IntKind.i64.wrap (u8.toNat : Int))), (int .i64 r12.1), (int .i64 r14.1), (int .i64 r16.1), l23v3_5, (str ([] : List UInt8))])] [(fDat (tyList tyU8) [v7] r6.1)])) (S := (tab [(0, (ptr bx0 0)), (2, (ptr g1 0)), (3, (ptr g2 0)), (19, (int .i64 r22.1)), (20, (int .i64 l23i20))])) ?_
   refine ta_step 3 _ [0, 1, 2] [22, 23, 24] [2] [4, 5, 6] [⟨2, 24, Unit, fun _ => { val := (ptr bx0 0) }⟩] [⟨0, 22, Unit, fun _ => { val := (ptr g2 5) }⟩, ⟨1, 23, Unit, fun _ => { val := l23v3_5 }⟩] rfl rfl rfl (by kernel_rfl) rfl rfl rfl ⟨⟨_, rfl, [], rfl, by
 intro X_ Y_ F_ K_ hK_
 refine al_show (m := Mem.plus (memOf w0 Z0 [(oBox bx0 244 [(str a0.s), (int .i64 a0.e)])] [(oBox bx0 244 [(str l23s0_0), (int .i64 l23i0_1)]), (oBox g1 168 [(str ([] : List UInt8)), (int .i64 (0 : Int)), (int .i64 (0 : Int)), (int .i64 (0 : Int)), (int .i64 (0 : Int)), (Value.slice none 0 0), (str ([] : List UInt8))]), (oRow l23v3_5 47 tyA8u8 l23x3_5), (oBox g2 168 [(str r4.1), (int .i64 (IntKind.i64.wrap (u8.toNat : Int))), (int .i64 r12.1), (int .i64 r14.1), (int .i64 r16.1), l23v3_5, (str ([] : List UInt8))])] [(fDat (tyList tyU8) [v7] r6.1)]) X_ Y_) (S := over (tab [(0, (ptr bx0 0)), (2, (ptr g1 0)), (3, (ptr g2 0)), (19, (int .i64 r22.1)), (20, (int .i64 l23i20))]) F_) ?_
 refine al_val (ov_fieldA (p := 5) rfl Tryd.underlying168 rfl sz27 rfl rfl rfl) ?_
 refine al_nil ?_
 exact fr_fin hK_ ()⟩, ⟨_, rfl, [0], rfl, by
 intro _
 intro X_ Y_ F_ K_ hK_
 refine al_show (m := Mem.plus (memOf w0 Z0 [(oBox bx0 244 [(str a0.s), (int .i64 a0.e)])] [(oBox bx0 244 [(str l23s0_0), (int .i64 l23i0_1)]), (oBox g1 168 [(str ([] : List UInt8)), (int .i64 (0 : Int)), (int .i64 (0 : Int)), (int .i64 (0 : Int)), (int .i64 (0 : Int)), (Value.slice none 0 0), (str ([] : List UInt8))]), (oRow l23v3_5 47 tyA8u8 l23x3_5), (oBox g2 168 [(str r4.1), (int .i64 (IntKind.i64.wrap (u8.toNat : Int))), (int .i64 r12.1), (int .i64 r14.1), (int .i64 r16.1), l23v3_5, (str ([] : List UInt8))])] [(fDat (tyList tyU8) [v7] r6.1)]) X_ Y_) (S := over (put (tab [(0, (ptr bx0 0)), (2, (ptr g1 0)), (3, (ptr g2 0)), (19, (int .i64 r22.1)), (20, (int .i64 l23i20))]) 22 (ptr g2 5)) F_) ?_
 refine al_val (ov_load (i := 3) (v := l23v3_5) rfl rfl Tryd.underlying27 sz27 rfl rfl rfl rfl) ?_
 refine al_nil ?_
 exact fr_fin hK_ ()⟩, ⟨_, rfl, [], rfl, by
 intro X_ Y_ F_ K_ hK_
 refine al_show (m := Mem.plus (memOf w0 Z0 [(oBox bx0 244 [(str a0.s), (int .i64 a0.e)])] [(oBox bx0 244 [(str l23s0_0), (int .i64 l23i0_1)]), (oBox g1 168 [(str ([] : List UInt8)), (int .i64 (0 : Int)), (int .i64 (0 : Int)), (int .i64 (0 : Int)), (int .i64 (0 : Int)), (Value.slice none 0 0), (str ([] : List UInt8))]), (oRow l23v3_5 47 tyA8u8 l23x3_5), (oBox g2 168 [(str r4.1), (int .i64 (IntKind.i64.wrap (u8.toNat : Int))), (int .i64 r12.1), (int .i64 r14.1), (int .i64 r16.1), l23v3_5, (str ([] : List UInt8))])] [(fDat (tyList tyU8) [v7] r6.1)]) X_ Y_) (S := over (tab [(0, (ptr bx0 0)), (2, (ptr g1 0)), (3, (ptr g2 0)), (19, (int .i64 r22.1)), (20, (int .i64 l23i20))]) F_) ?_
 refine al_mv rfl rfl ?_
 refine al_nil ?_
 exact fr_fin hK_ ()⟩, trivial⟩ ?_
   intro _
   intro X_ Y_ F_ K_ hK_
   refine al_show (m := Mem.plus (memOf w0 Z0 [(oBox bx0 244 [(str a0.s), (int .i64 a0.e)])] [(oBox bx0 244 [(str l23s0_0), (int .i64 l23i0_1)]), (oBox g1 168 [(str ([] : List UInt8)), (int .i64 (0 : Int)), (int .i64 (0 : Int)), (int .i64 (0 : Int)), (int .i64 (0 : Int)), (Value.slice none 0 0), (str ([] : List UInt8))]), (oRow l23v3_5 47 tyA8u8 l23x3_5), (oBox g2 168 [(str r4.1), (int .i64 (IntKind.i64.wrap (u8.toNat : Int))), (int .i64 r12.1), (int .i64 r14.1), (int .i64 r16.1), l23v3_5, (str ([] : List UInt8))])] [(fDat (tyList tyU8) [v7] r6.1)]) X_ Y_) (S := over (put (tab [(0, (ptr bx0 0)), (2, (ptr g1 0)), (3, (ptr g2 0)), (19, (int .i64 r22.1)), (20, (int .i64 l23i20))]) 24 (ptr bx0 0)) F_) ?_
   obtain ⟨r28, hc27, h⟩ := opt_some h
   refine al_callX (vs := [(ptr bx0 0), (int .i64 (8 : Int))]) (f___tree_reader__bytes_ok fu bx0 (S_tree_reader.mk l23s0_0 l23i0_1) (8 : Int) hc27) [] [0] [1, 2, 3] pre_nil rfl (by simp) (by decide) rfl (.inl rfl) rfl Tryd.func203 rfl rfl rfl (fun v29 => ?_)
   refine al_nil ?_
   obtain ⟨hc31, h⟩ := req_some h
   refine aq_show (m := Mem.plus (memOf w0 Z0 [(oBox bx0 244 [(str a0.s), (int .i64 a0.e)])] [(oBox bx0 244 [(str r28.2.s), (int .i64 r28.2.e)]), (oBox g1 168 [(str ([] : List UInt8)), (int .i64 (0 : Int)), (int .i64 (0 : Int)), (int .i64 (0 : Int)), (int .i64 (0 : Int)), (Value.slice none 0 0), (str ([] : List UInt8))]), (oRow l23v3_5 47 tyA8u8 l23x3_5), (oBox g2 168 [(str r4.1), (int .i64 (IntKind.i64.wrap (u8.toNat : Int))), (int .i64 r12.1), (int .i64 r14.1), (int .i64 r16.1), l23v3_5, (str ([] : List UInt8))])] [(fDat (tyList tyU8) [v29] r28.1), (fDat (tyList tyU8) [v7] r6.1)]) X_ Y_) ?_
   refine aq_next hK_ [0, 1, 2, 3] [0, 1] [(0, (ptr bx0 0)), (2, (ptr g1 0)), (3, (ptr g2 0)), (19, (int .i64 r22.1)), (20, (int .i64 l23i20)), (25, v29)] [22, 23] [⟨4, 26, Value, fun (i : Value) => { val := i, fz := [(fPtr tyA8u8 i (ofA8u8 r28.1))] }⟩, ⟨5, 27, Unit, fun _ => { val := (ag (cA8u8 (ofA8u8 r28.1))) }⟩, ⟨6, 28, Value, fun (i : Value) => { val := i, own := [(oRow i 47 tyA8u8 [(ofA8u8 r28.1)])] }⟩] rfl rfl (by decide) rfl ⟨rfl, rfl, rfl, rfl, rfl, rfl, trivial⟩ ⟨rfl, rfl, trivial⟩ ?_
   clear hK_ K_ F_ X_ Y_
   refine ta_show (m := (memOf w0 Z0 [(oBox bx0 244 [(str a0.s), (int .i64 a0.e)])] [(oBox bx0 244 [(str r28.2.s), (int .i64 r28.2.e)]), (oBox g1 168 [(str ([] : List UInt8)), (int .i64 (0 : Int)), (int .i64 (0 : Int)), (int .i64 (0 : Int)), (int .i64 (0 : Int)), (Value.slice none 0 0), (str ([] : List UInt8))]), (oRow l23v3_5 47 tyA8u8 l23x3_5), (oBox g2 168 [(str r4.1), (int .i64 (IntKind.i64.wrap (u8.toNat : Int))), (int .i64 r12.1), (int .i64 r14.1), (int .i64 r16.1), l23v3_5, (str ([] : List UInt8))])] [(fDat (tyList tyU8) [v29] r28.1), (fDat (tyList tyU8) [v7] r6.1)])) (S := (tab [(0, (ptr bx0 0)), (2, (ptr g1 0)), (3, (ptr g2 0)), (19, (int .i64 r22.1)), (20, (int .i64 l23i20)), (25, v29)])) ?_
   refine ta_step 7 _ [0, 1, 4, 5, 6] [22, 23, 26, 27, 28] [0, 1, 4, 5, 6] [8] [⟨0, 22, Unit, fun _ => { val := (ptr g2 5) }⟩, ⟨1, 23, Unit, fun _ => { val := l23v3_5 }⟩, ⟨4, 26, Value, fun (i : Value) => { val := i, fz := [(fPtr tyA8u8 i (ofA8u8 r28.1))] }⟩, ⟨5, 27, Unit, fun _ => { val := (ag (cA8u8 (ofA8u8 r28.1))) }⟩, ⟨6, 28, Value, fun (i : Value) => { val := i, own := [(oRow i 47 tyA8u8 [(ofA8u8 r28.1)])] }⟩] [] rfl rfl rfl (by kernel_rfl) rfl rfl rfl ⟨⟨_, rfl, [], rfl, by
 intro X_ Y_ F_ K_ hK_
 refine al_show (m := Mem.plus (memOf w0 Z0 [(oBox bx0 244 [(str a0.s), (int .i64 a0.e)])] [(oBox bx0 244 [(str r28.2.s), (int .i64 r28.2.e)]), (oBox g1 168 [(str ([] : List UInt8)), (int .i64 (0 : Int)), (int .i64 (0 : Int)), (int .i64 (0 : Int)), (int .i64 (0 : Int)), (Value.slice none 0 0), (str ([] : List UInt8))]), (oRow l23v3_5 47 tyA8u8 l23x3_5), (oBox g2 168 [(str r4.1), (int .i64 (IntKind.i64.wrap (u8.toNat : Int))), (int .i64 r12.1), (int .i64 r14.1), (int .i64 r16.1), l23v3_5, (str ([] : List UInt8))])] [(fDat (tyList tyU8) [v29] r28.1), (fDat (tyList tyU8) [v7] r6.1)]) X_ Y_) (S := over (tab [(0, (ptr bx0 0)), (2, (ptr g1 0)), (3, (ptr g2 0)), (19, (int .i64 r22.1)), (20, (int .i64 l23i20)), (25, v29)]) F_) ?_
 refine al_val (ov_fieldA (p := 5) rfl Tryd.underlying168 rfl sz27 rfl rfl rfl) ?_
 refine al_nil ?_
 exact fr_fin hK_ ()⟩, ⟨_, rfl, [0], rfl, by
 intro _
 intro X_ Y_ F_ K_ hK_
 refine al_show (m := Mem.plus (memOf w0 Z0 [(oBox bx0 244 [(str a0.s), (int .i64 a0.e)])] [(oBox bx0 244 [(str r28.2.s), (int .i64 r28.2.e)]), (oBox g1 168 [(str ([] : List UInt8)), (int .i64 (0 : Int)), (int .i64 (0 : Int)), (int .i64 (0 : Int)), (int .i64 (0 : Int)), (Value.slice none 0 0), (str ([] : List UInt8))]), (oRow l23v3_5 47 tyA8u8 l23x3_5), (oBox g2 168 [(str r4.1), (int .i64 (IntKind.i64.wrap (u8.toNat : Int))), (int .i64 r12.1), (int .i64 r14.1), (int .i64 r16.1), l23v3_5, (str ([] : List UInt8))])] [(fDat (tyList tyU8) [v29] r28.1), (fDat (tyList tyU8) [v7] r6.1)]) X_ Y_) (S := over (put (tab [(0, (ptr bx0 0)), (2, (ptr g1 0)), (3, (ptr g2 0)), (19, (int .i64 r22.1)), (20, (int .i64 l23i20)), (25, v29)]) 22 (ptr g2 5)) F_) ?_
 refine al_val (ov_load (i := 3) (v := l23v3_5) rfl rfl Tryd.underlying27 sz27 rfl rfl rfl rfl) ?_
 refine al_nil ?_
 exact fr_fin hK_ ()⟩, ⟨_, rfl, [], rfl, by
 intro X_ Y_ F_ K_ hK_
 refine al_show (m := Mem.plus (memOf w0 Z0 [(oBox bx0 244 [(str a0.s), (int .i64 a0.e)])] [(oBox bx0 244 [(str r28.2.s), (int .i64 r28.2.e)]), (oBox g1 168 [(str ([] : List UInt8)), (int .i64 (0 : Int)), (int .i64 (0 : Int)), (int .i64 (0 : Int)), (int .i64 (0 : Int)), (Value.slice none 0 0), (str ([] : List UInt8))]), (oRow l23v3_5 47 tyA8u8 l23x3_5), (oBox g2 168 [(str r4.1), (int .i64 (IntKind.i64.wrap (u8.toNat : Int))), (int .i64 r12.1), (int .i64 r14.1), (int .i64 r16.1), l23v3_5, (str ([] : List UInt8))])] [(fDat (tyList tyU8) [v29] r28.1), (fDat (tyList tyU8) [v7] r6.1)]) X_ Y_) (S := over (tab [(0, (ptr bx0 0)), (2, (ptr g1 0)), (3, (ptr g2 0)), (19, (int .i64 r22.1)), (20, (int .i64 l23i20)), (25, v29)]) F_) ?_
 refine al_s2ap (τA := tyA8u8) (x := (ofA8u8 r28.1)) 0 8 hc31 rfl (fun h9 => oflA8u8 hc31 h9) rfl rfl Tryd.underlying47 rfl (fun p30 => ?_)
 refine al_nil ?_
 exact fr_fin hK_ p30⟩, ⟨_, rfl, [2], rfl, by
 intro p30
 intro X_ Y_ F_ K_ hK_
 refine al_show (m := Mem.plus (memOf w0 Z0 [(oBox bx0 244 [(str a0.s), (int .i64 a0.e)])] [(oBox bx0 244 [(str r28.2.s), (int .i64 r28.2.e)]), (oBox g1 168 [(str ([] : List UInt8)), (int .i64 (0 : Int)), (int .i64 (0 : Int)), (int .i64 (0 : Int)), (int .i64 (0 : Int)), (Value.slice none 0 0), (str ([] : List UInt8))]), (oRow l23v3_5 47 tyA8u8 l23x3_5), (oBox g2 168 [(str r4.1), (int .i64 (IntKind.i64.wrap (u8.toNat : Int))), (int .i64 r12.1), (int .i64 r14.1), (int .i64 r16.1), l23v3_5, (str ([] : List UInt8))])] [(fPtr tyA8u8 p30 (ofA8u8 r28.1)), (fDat (tyList tyU8) [v29] r28.1), (fDat (tyList tyU8) [v7] r6.1)]) X_ Y_) (S := over (put (tab [(0, (ptr bx0 0)), (2, (ptr g1 0)), (3, (ptr g2 0)), (19, (int .i64 r22.1)), (20, (int .i64 l23i20)), (25, v29)]) 26 p30) F_) ?_
 refine al_val (ov_loadP (ds := (cA8u8 (ofA8u8 r28.1))) 0 rfl encA8u8 rfl Tryd.underlying47 sz47 rfl rfl rfl) ?_
 refine al_nil ?_
 exact fr_fin hK_ ()⟩, ⟨_, rfl, [3], rfl, by
 intro _
 intro X_ Y_ F_ K_ hK_
 refine al_show (m := Mem.plus (memOf w0 Z0 [(oBox bx0 244 [(str a0.s), (int .i64 a0.e)])] [(oBox bx0 244 [(str r28.2.s), (int .i64 r28.2.e)]), (oBox g1 168 [(str ([] : List UInt8)), (int .i64 (0 : Int)), (int .i64 (0 : Int)), (int .i64 (0 : Int)), (int .i64 (0 : Int)), (Value.slice none 0 0), (str ([] : List UInt8))]), (oRow l23v3_5 47 tyA8u8 l23x3_5), (oBox g2 168 [(str r4.1), (int .i64 (IntKind.i64.wrap (u8.toNat : Int))), (int .i64 r12.1), (int .i64 r14.1), (int .i64 r16.1), l23v3_5, (str ([] : List UInt8))])] [(fDat (tyList tyU8) [v29] r28.1), (fDat (tyList tyU8) [v7] r6.1)]) X_ Y_) (S := over (put (tab [(0, (ptr bx0 0)), (2, (ptr g1 0)), (3, (ptr g2 0)), (19, (int .i64 r22.1)), (20, (int .i64 l23i20)), (25, v29)]) 27 (ag (cA8u8 (ofA8u8 r28.1)))) F_) ?_
 refine al_buildSlice (τ := tyA8u8) (e := 47) (k := 1) (sz := 0) (by_ := 0) (z := undef) (cs := (cA8u8 (ofA8u8 r28.1))) (xs := [(ofA8u8 r28.1)]) rfl (by decide) (fun w a hm hs => ⟨((cA8u8 (ofA8u8 r28.1))).toArray, rfl, by simp only [List.map_toArray, List.map_cons, List.map_nil, hs.ev (x := .tmp 27) rfl]; exact run_bs [(ag (cA8u8 (ofA8u8 r28.1)))] (cA8u8 (ofA8u8 r28.1)) Tryd.underlying27 to47 rfl rfl (bs_cons (l := (cA8u8 (ofA8u8 r28.1))) (cs := []) (cv_rfl rfl) rfl bs_nil) hm⟩) (fun hm => ⟨(cA8u8 (ofA8u8 r28.1)), [], rfl, mkA8u8 rfl, rfl⟩) rfl (fun v32 => ?_)
 refine al_nil ?_
 exact fr_fin hK_ v32⟩, trivial⟩ ?_
   intro _
   intro _
   intro p30
   intro _
   intro v32
   intro X_ Y_ F_ K_ hK_
   refine al_show (m := Mem.plus (memOf w0 Z0 [(oBox bx0 244 [(str a0.s), (int .i64 a0.e)])] [(oRow v32 47 tyA8u8 [(ofA8u8 r28.1)]), (oBox bx0 244 [(str r28.2.s), (int .i64 r28.2.e)]), (oBox g1 168 [(str ([] : List UInt8)), (int .i64 (0 : Int)), (int .i64 (0 : Int)), (int .i64 (0 : Int)), (int .i64 (0 : Int)), (Value.slice none 0 0), (str ([] : List UInt8))]), (oRow l23v3_5 47 tyA8u8 l23x3_5), (oBox g2 168 [(str r4.1), (int .i64 (IntKind.i64.wrap (u8.toNat : Int))), (int .i64 r12.1), (int .i64 r14.1), (int .i64 r16.1), l23v3_5, (str ([] : List UInt8))])] [(fPtr tyA8u8 p30 (ofA8u8 r28.1)), (fDat (tyList tyU8) [v29] r28.1), (fDat (tyList tyU8) [v7] r6.1)]) X_ Y_) (S := over (put (put (put (put (put (tab [(0, (ptr bx0 0)), (2, (ptr g1 0)), (3, (ptr g2 0)), (19, (int .i64 r22.1)), (20, (int .i64 l23i20)), (25, v29)]) 22 (ptr g2 5)) 23 l23v3_5) 26 p30) 27 (ag (cA8u8 (ofA8u8 r28.1)))) 28 v32) F_) ?_
   obtain ⟨hc33, h⟩ := req_some h
   refine al_append 3 hc33.1 hc33.2 rfl (src_own (i := 3) 0 rfl) rfl rfl Tryd.underlying27 to47 rfl rfl rfl (fun v34 => ?_)
   refine al_nil ?_
   refine aq_show (m := Mem.plus (memOf w0 Z0 [(oBox bx0 244 [(str a0.s), (int .i64 a0.e)])] [(oRow v32 47 tyA8u8 [(ofA8u8 r28.1)]), (oBox bx0 244 [(str r28.2.s), (int .i64 r28.2.e)]), (oBox g1 168 [(str ([] : List UInt8)), (int .i64 (0 : Int)), (int .i64 (0 : Int)), (int .i64 (0 : Int)), (int .i64 (0 : Int)), (Value.slice none 0 0), (str ([] : List UInt8))]), (oRow v34 47 tyA8u8 (l23x3_5 ++ ([(ofA8u8 r28.1)]))), (oBox g2 168 [(str r4.1), (int .i64 (IntKind.i64.wrap (u8.toNat : Int))), (int .i64 r12.1), (int .i64 r14.1), (int .i64 r16.1), l23v3_5, (str ([] : List UInt8))])] [(fPtr tyA8u8 p30 (ofA8u8 r28.1)), (fDat (tyList tyU8) [v29] r28.1), (fDat (tyList tyU8) [v7] r6.1)]) X_ Y_) ?_
   refine aq_next hK_ [0, 1, 2, 3, 4] [1, 2] [(0, (ptr bx0 0)), (2, (ptr g1 0)), (3, (ptr g2 0)), (19, (int .i64 r22.1)), (20, (int .i64 l23i20)), (29, v34)] [] [⟨8, 30, Unit, fun _ => { val := (ptr g2 5) }⟩] rfl rfl (by decide) rfl ⟨rfl, rfl, rfl, rfl, rfl, rfl, trivial⟩ trivial ?_
   clear hK_ K_ F_ X_ Y_
   refine ta_show (m := (memOf w0 Z0 [(oBox bx0 244 [(str a0.s), (int .i64 a0.e)])] [(oRow v32 47 tyA8u8 [(ofA8u8 r28.1)]), (oBox bx0 244 [(str r28.2.s), (int .i64 r28.2.e)]), (oBox g1 168 [(str ([] : List UInt8)), (int .i64 (0 : Int)), (int .i64 (0 : Int)), (int .i64 (0 : Int)), (int .i64 (0 : Int)), (Value.slice none 0 0), (str ([] : List UInt8))]), (oRow v34 47 tyA8u8 (l23x3_5 ++ ([(ofA8u8 r28.1)]))), (oBox g2 168 [(str r4.1), (int .i64 (IntKind.i64.wrap (u8.toNat : Int))), (int .i64 r12.1), (int .i64 r14.1), (int .i64 r16.1), l23v3_5, (str ([] : List UInt8))])] [(fDat (tyList tyU8) [v29] r28.1), (fDat (tyList tyU8) [v7] r6.1)])) (S := (tab [(0, (ptr bx0 0)), (2, (ptr g1 0)), (3, (ptr g2 0)), (19, (int .i64 r22.1)), (20, (int .i64 l23i20)), (29, v34)])) ?_
   refine ta_step 9 _ [8] [30] [8] [] [⟨8, 30, Unit, fun _ => { val := (ptr g2 5) }⟩] [] rfl rfl rfl (by kernel_rfl) rfl rfl rfl ⟨⟨_, rfl, [], rfl, by
 intro X_ Y_ F_ K_ hK_
 refine al_show (m := Mem.plus (memOf w0 Z0 [(oBox bx0 244 [(str a0.s), (int .i64 a0.e)])] [(oRow v32 47 tyA8u8 [(ofA8u8 r28.1)]), (oBox bx0 244 [(str r28.2.s), (int .i64 r28.2.e)]), (oBox g1 168 [(str ([] : List UInt8)), (int .i64 (0 : Int)), (int .i64 (0 : Int)), (int .i64 (0 : Int)), (int .i64 (0 : Int)), (Value.slice none 0 0), (str ([] : List UInt8))]), (oRow v34 47 tyA8u8 (l23x3_5 ++ ([(ofA8u8 r28.1)]))), (oBox g2 168 [(str r4.1), (int .i64 (IntKind.i64.wrap (u8.toNat : Int))), (int .i64 r12.1), (int .i64 r14.1), (int .i64 r16.1), l23v3_5, (str ([] : List UInt8))])] [(fDat (tyList tyU8) [v29] r28.1), (fDat (tyList tyU8) [v7] r6.1)]) X_ Y_) (S := over (tab [(0, (ptr bx0 0)), (2, (ptr g1 0)), (3, (ptr g2 0)), (19, (int .i64 r22.1)), (20, (int .i64 l23i20)), (29, v34)]) F_) ?_
 refine al_val (ov_fieldA (p := 5) rfl Tryd.underlying168 rfl sz27 rfl rfl rfl) ?_
 refine al_nil ?_
 exact fr_fin hK_ ()⟩, trivial⟩ ?_
   intro _
   intro X_ Y_ F_ K_ hK_
   refine al_show (m := Mem.plus (memOf w0 Z0 [(oBox bx0 244 [(str a0.s), (int .i64 a0.e)])] [(oRow v32 47 tyA8u8 [(ofA8u8 r28.1)]), (oBox bx0 244 [(str r28.2.s), (int .i64 r28.2.e)]), (oBox g1 168 [(str ([] : List UInt8)), (int .i64 (0 : Int)), (int .i64 (0 : Int)), (int .i64 (0 : Int)), (int .i64 (0 : Int)), (Value.slice none 0 0), (str ([] : List UInt8))]), (oRow v34 47 tyA8u8 (l23x3_5 ++ ([(ofA8u8 r28.1)]))), (oBox g2 168 [(str r4.1), (int .i64 (IntKind.i64.wrap (u8.toNat : Int))), (int .i64 r12.1), (int .i64 r14.1), (int .i64 r16.1), l23v3_5, (str ([] : List UInt8))])] [(fDat (tyList tyU8) [v29] r28.1), (fDat (tyList tyU8) [v7] r6.1)]) X_ Y_) (S := over (put (tab [(0, (ptr bx0 0)), (2, (ptr g1 0)), (3, (ptr g2 0)), (19, (int .i64 r22.1)), (20, (int .i64 l23i20)), (29, v34)]) 30 (ptr g2 5)) F_) ?_
   refine al_store (i := 4) (vs := [v34]) (cs' := [(str r4.1), (int .i64 (IntKind.i64.wrap (u8.toNat : Int))), (int .i64 r12.1), (int .i64 r14.1), (int .i64 r16.1), v34, (str ([] : List UInt8))]) rfl rfl rfl sz27 (cv_own 3 rfl) rfl (co_own 3 rfl co_nil) (Nat.le_of_ble_eq_true rfl) rfl rfl ?_
   refine al_nil ?_
   refine aq_show (m := Mem.plus (memOf w0 Z0 [(oBox bx0 244 [(str a0.s), (int .i64 a0.e)])] [(oRow v32 47 tyA8u8 [(ofA8u8 r28.1)]), (oBox bx0 244 [(str r28.2.s), (int .i64 r28.2.e)]), (oBox g1 168 [(str ([] : List UInt8)), (int .i64 (0 : Int)), (int .i64 (0 : Int)), (int .i64 (0 : Int)), (int .i64 (0 : Int)), (Value.slice none 0 0), (str ([] : List UInt8))]), (oRow v34 47 tyA8u8 (l23x3_5 ++ ([(ofA8u8 r28.1)]))), (oBox g2 168 [(str r4.1), (int .i64 (IntKind.i64.wrap (u8.toNat : Int))), (int .i64 r12.1), (int .i64 r14.1), (int .i64 r16.1), v34, (str ([] : List UInt8))])] [(fDat (tyList tyU8) [v29] r28.1), (fDat (tyList tyU8) [v7] r6.1)]) X_ Y_) ?_
   refine aq_next hK_ [0, 1, 2, 3, 4] [0, 1] [(0, (ptr bx0 0)), (2, (ptr g1 0)), (3, (ptr g2 0)), (19, (int .i64 r22.1)), (20, (int .i64 l23i20))] [] [] rfl rfl (by decide) rfl ⟨rfl, rfl, rfl, rfl, rfl, trivial⟩ trivial ?_
   clear hK_ K_ F_ X_ Y_
   refine ta_show (m := (memOf w0 Z0 [(oBox bx0 244 [(str a0.s), (int .i64 a0.e)])] [(oRow v32 47 tyA8u8 [(ofA8u8 r28.1)]), (oBox bx0 244 [(str r28.2.s), (int .i64 r28.2.e)]), (oBox g1 168 [(str ([] : List UInt8)), (int .i64 (0 : Int)), (int .i64 (0 : Int)), (int .i64 (0 : Int)), (int .i64 (0 : Int)), (Value.slice none 0 0), (str ([] : List UInt8))]), (oRow v34 47 tyA8u8 (l23x3_5 ++ ([(ofA8u8 r28.1)]))), (oBox g2 168 [(str r4.1), (int .i64 (IntKind.i64.wrap (u8.toNat : Int))), (int .i64 r12.1), (int .i64 r14.1), (int .i64 r16.1), v34, (str ([] : List UInt8))])] [(fDat (tyList tyU8) [v29] r28.1), (fDat (tyList tyU8) [v7] r6.1)])) (S := (tab [(0, (ptr bx0 0)), (2, (ptr g1 0)), (3, (ptr g2 0)), (19, (int .i64 r22.1)), (20, (int .i64 l23i20))])) ?_
   refine ta_end [] [] rfl rfl (by kernel_rfl) rfl trivial ?_
   refine aq_show (m := (memOf w0 Z0 [(oBox bx0 244 [(str a0.s), (int .i64 a0.e)])] [(oRow v32 47 tyA8u8 [(ofA8u8 r28.1)]), (oBox bx0 244 [(str r28.2.s), (int .i64 r28.2.e)]), (oBox g1 168 [(str ([] : List UInt8)), (int .i64 (0 : Int)), (int .i64 (0 : Int)), (int .i64 (0 : Int)), (int .i64 (0 : Int)), (Value.slice none 0 0), (str ([] : List UInt8))]), (oRow v34 47 tyA8u8 (l23x3_5 ++ ([(ofA8u8 r28.1)]))), (oBox g2 168 [(str r4.1), (int .i64 (IntKind.i64.wrap (u8.toNat : Int))), (int .i64 r12.1), (int .i64 r14.1), (int .i64 r16.1), v34, (str ([] : List UInt8))])] [(fDat (tyList tyU8) [v29] r28.1), (fDat (tyList tyU8) [v7] r6.1)])) (S := (tab [(0, (ptr bx0 0)), (2, (ptr g1 0)), (3, (ptr g2 0)), (19, (int .i64 r22.1)), (20, (int .i64 l23i20))])) ?_
   refine aq_block ?_
   refine aq_then ?_
   refine aw_region ?_
   refine al_in rfl rfl rfl rfl ?_
   refine al_mv rfl rfl ?_
   refine al_nil ?_
   exact aq_again k24 (r28.2.s, r28.2.e, v34, (l23x3_5 ++ ([(ofA8u8 r28.1)])), (IntKind.i64.wrap (l23i20 + (1 : Int)))) (Nat.lt_succ_self _) h (fun w a hm hs => norm hm hs [1, 2, 3, 4] [1] [(0, (ptr bx0 0)), (2, (ptr g1 0)), (3, (ptr g2 0)), (19, (int .i64 r22.1)), (20, (int .i64 (IntKind.i64.wrap (l23i20 + (1 : Int)))))] (by decide) ⟨rfl, rfl, rfl, rfl, rfl, trivial⟩)
  ·replace h := bif_f hb26 h
   refine aw_exit ?_
   refine aq_then_exit ?_
   refine aq_then_exit ?_
   refine aq_block_exit ?_
   exact aq_join (l23s0_0, l23i0_1, l23v3_5, l23x3_5) h (fun w a hm hs => norm hm hs [0, 1, 2, 3] [0] [(0, (ptr bx0 0)), (2, (ptr g1 0)), (3, (ptr g2 0))] (by decide) ⟨rfl, rfl, rfl, trivial⟩)
def f_tree_Read_L22 (kk4 : ((List UInt8) → Int → (List S_api_Node) → Option ((List S_api_Node) × Int))) (r19 : (Int × S_tree_reader)) (fu : Nat) : Nat → (List UInt8) → Int → (List S_api_Node) → Int → Option ((List S_api_Node) × Int)
  | 0, _, _, _, _ => none
  | k21 + 1, l20s4_0, l20i4_1, l20x5, l20i14 => (bif (decide (l20i14 < r19.1)) then (opt (f___tree_reader__node fu (S_tree_reader.mk l20s4_0 l20i4_1)) fun (r25 : (S_api_Node × S_tree_reader)) => (req (((l20x5.length + ([(S_api_Node.mk r25.1.Name r25.1.Kind r25.1.Mode r25.1.Time r25.1.Size r25.1.Parts r25.1.Link)]).length) * 88 : Nat) ≤ 140737488355328 ∧ l20x5.length + ([(S_api_Node.mk r25.1.Name r25.1.Kind r25.1.Mode r25.1.Time r25.1.Size r25.1.Parts r25.1.Link)]).length ≤ 9223372036854775807) (f_tree_Read_L22 kk4 r19 fu k21 r25.2.s r25.2.e (l20x5 ++ ([(S_api_Node.mk r25.1.Name r25.1.Kind r25.1.Mode r25.1.Time r25.1.Size r25.1.Parts r25.1.Link)])) (IntKind.i64.wrap (l20i14 + (1 : Int)))))) else (kk4 l20s4_0 l20i4_1 l20x5))
def f_tree_Read (fu : Nat) (a0 : (List UInt8)) : Option ((List S_api_Node) × Int) := (bif (decide ((a0.length : Int) > (4096 : Int))) then (some (([] : List S_api_Node), (2 : Int))) else (lt (fun (j3s4_0 : (List UInt8)) (j3i4_1 : Int) (j3x5 : (List S_api_Node)) => (lt (fun (j5s4_0 : (List UInt8)) (j5i4_1 : Int) => (lt (fun (j7s4_0 : (List UInt8)) (j7i4_1 : Int) => (bif (j7i4_1 != (0 : Int)) then (some (([] : List S_api_Node), j7i4_1)) else (some (j3x5, (0 : Int))))) fun (kk8 : (List UInt8) → Int → Option ((List S_api_Node) × Int)) => (bif (j5i4_1 == (0 : Int)) then (opt (f_tree_Check fu j3x5) fun (r12 : Int) => (opt (f___tree_reader__fail fu (S_tree_reader.mk j5s4_0 j5i4_1) r12) fun (r14 : S_tree_reader) => (kk8 r14.s r14.e))) else (kk8 j5s4_0 j5i4_1)))) fun (kk6 : (List UInt8) → Int → Option ((List S_api_Node) × Int)) => (bif (!(j3s4_0 == ([] : List UInt8))) then (opt (f___tree_reader__fail fu (S_tree_reader.mk j3s4_0 j3i4_1) (4 : Int)) fun (r17 : S_tree_reader) => (kk6 r17.s r17.e)) else (kk6 j3s4_0 j3i4_1)))) fun (kk4 : (List UInt8) → Int → (List S_api_Node) → Option ((List S_api_Node) × Int)) => (opt (f___tree_reader__number fu (S_tree_reader.mk a0 (0 : Int)) (64 : Int)) fun (r19 : (Int × S_tree_reader)) => (f_tree_Read_L22 kk4 r19 fu fu r19.2.s r19.2.e ([] : List S_api_Node) (0 : Int)))))
end Go.Proofs.YtgmggcpceemnnaaDoor
