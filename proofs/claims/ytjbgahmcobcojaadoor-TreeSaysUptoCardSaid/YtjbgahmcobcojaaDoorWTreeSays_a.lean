/- Walks by program. No condition. -/
import Derived.Test.YtjbgahmcobcojaaDoorEn19
import Derived.Test.YtjbgahmcobcojaaDoorChecked
import Derived.Test.YtjbgahmcobcojaaDoorEnU
import Derived.Test.YtjbgahmcobcojaaDoorShTrim
import Derived.Test.YtjbgahmcobcojaaDoorShBEApp
import Derived.Test.YtjbgahmcobcojaaDoorEnM
import Derived.Test.YtjbgahmcobcojaaDoorEnB
namespace Go.Proofs.YtjbgahmcobcojaaDoor
open Go.RowKit YtjbgahmcobcojaaDoor.En
set_option linter.unusedVariables false
set_option linter.unusedSimpArgs false
structure A8u8 where
  e0 : UInt8
  e1 : UInt8
  e2 : UInt8
  e3 : UInt8
  e4 : UInt8
  e5 : UInt8
  e6 : UInt8
  e7 : UInt8
  deriving DecidableEq
def tyA8u8 : Ty A8u8 := tyVia (fun x => (x.e0, (x.e1, (x.e2, (x.e3, (x.e4, (x.e5, (x.e6, x.e7)))))))) (tyPair tyU8 (tyPair tyU8 (tyPair tyU8 (tyPair tyU8 (tyPair tyU8 (tyPair tyU8 (tyPair tyU8 tyU8)))))))
theorem subA8u8_0 : Sub tyA8u8 0 tyU8 (fun x => x.e0) := Sub.via (Sub.fst (Sub.whole _))
theorem subA8u8_1 : Sub tyA8u8 1 tyU8 (fun x => x.e1) := Sub.via (Sub.snd (Sub.fst (Sub.whole _)))
theorem subA8u8_2 : Sub tyA8u8 2 tyU8 (fun x => x.e2) := Sub.via (Sub.snd (Sub.snd (Sub.fst (Sub.whole _))))
theorem subA8u8_3 : Sub tyA8u8 3 tyU8 (fun x => x.e3) := Sub.via (Sub.snd (Sub.snd (Sub.snd (Sub.fst (Sub.whole _)))))
theorem subA8u8_4 : Sub tyA8u8 4 tyU8 (fun x => x.e4) := Sub.via (Sub.snd (Sub.snd (Sub.snd (Sub.snd (Sub.fst (Sub.whole _))))))
theorem subA8u8_5 : Sub tyA8u8 5 tyU8 (fun x => x.e5) := Sub.via (Sub.snd (Sub.snd (Sub.snd (Sub.snd (Sub.snd (Sub.fst (Sub.whole _)))))))
theorem subA8u8_6 : Sub tyA8u8 6 tyU8 (fun x => x.e6) := Sub.via (Sub.snd (Sub.snd (Sub.snd (Sub.snd (Sub.snd (Sub.snd (Sub.fst (Sub.whole _))))))))
theorem subA8u8_7 : Sub tyA8u8 7 tyU8 (fun x => x.e7) := Sub.via (Sub.snd (Sub.snd (Sub.snd (Sub.snd (Sub.snd (Sub.snd (Sub.snd (Sub.whole _))))))))
def cA8u8 (x : A8u8) : List Value := [(Value.int .u8 (x.e0.toNat : Int)), (Value.int .u8 (x.e1.toNat : Int)), (Value.int .u8 (x.e2.toNat : Int)), (Value.int .u8 (x.e3.toNat : Int)), (Value.int .u8 (x.e4.toNat : Int)), (Value.int .u8 (x.e5.toNat : Int)), (Value.int .u8 (x.e6.toNat : Int)), (Value.int .u8 (x.e7.toNat : Int))]
def lA8u8 (x : A8u8) : List UInt8 := [x.e0, x.e1, x.e2, x.e3, x.e4, x.e5, x.e6, x.e7]
def vA8u8 (y : UInt8) : Value := (Value.int .u8 (y.toNat : Int))
def setA8u8 (x : A8u8) (j : Int) (y : UInt8) : A8u8 := ⟨if j = 0 then y else x.e0, if j = 1 then y else x.e1, if j = 2 then y else x.e2, if j = 3 then y else x.e3, if j = 4 then y else x.e4, if j = 5 then y else x.e5, if j = 6 then y else x.e6, if j = 7 then y else x.e7⟩
theorem oneA8u8 (x : A8u8) : ∀ u ∈ cA8u8 x, u.oneCell' = true := ones_map (enc := vA8u8) (xs := lA8u8 x) (fun _ => rfl)
theorem lenA8u8 (x : A8u8) : (lA8u8 x).length = 8 := rfl
theorem lsetA8u8 {x : A8u8} {j : Int} {y : UInt8} (h0 : 0 ≤ j) (h1 : j < 8) : lA8u8 (setA8u8 x j y) = (lA8u8 x).set j.toNat y := by
  obtain ⟨q, rfl⟩ : ∃ q : Nat, j = q := ⟨j.toNat, by omega⟩
  match q, h1 with
  | 0, _ => rfl
  | 1, _ => rfl
  | 2, _ => rfl
  | 3, _ => rfl
  | 4, _ => rfl
  | 5, _ => rfl
  | 6, _ => rfl
  | 7, _ => rfl
  | n + 8, h => omega
theorem csetA8u8 {x : A8u8} {j : Int} {y : UInt8} (h0 : 0 ≤ j) (h1 : j < 8) (pre post : List Value) : pre ++ (cA8u8 (setA8u8 x j y) ++ post) = (pre ++ (cA8u8 x ++ post)).set (pre.length + j.toNat) (vA8u8 y) := by
  have h : cA8u8 (setA8u8 x j y) = (cA8u8 x).set j.toNat (vA8u8 y) := by
    have e : ∀ z : A8u8, cA8u8 z = (lA8u8 z).map vA8u8 := fun _ => rfl
    rw [e, e, lsetA8u8 h0 h1, List.map_set]
  rw [h, List.set_append_right _ _ (by omega), Nat.add_sub_cancel_left, List.set_append_left _ _ (by show j.toNat < 8; omega)]
theorem flatA8u8 : FlatTy tyA8u8 := flat_via (flat_pair flat_enc (flat_pair flat_enc (flat_pair flat_enc (flat_pair flat_enc (flat_pair flat_enc (flat_pair flat_enc (flat_pair flat_enc flat_enc)))))))
theorem encA8u8 {Z w cs} {x : A8u8} (h : tyA8u8.rep Z w cs x) : cs = (cA8u8 x) := by
  obtain ⟨c0, d0, rfl, p0, q0⟩ := h
  obtain ⟨c1, d1, rfl, p1, q1⟩ := q0
  obtain ⟨c2, d2, rfl, p2, q2⟩ := q1
  obtain ⟨c3, d3, rfl, p3, q3⟩ := q2
  obtain ⟨c4, d4, rfl, p4, q4⟩ := q3
  obtain ⟨c5, d5, rfl, p5, q5⟩ := q4
  obtain ⟨c6, d6, rfl, p6, q6⟩ := q5
  rw [show _ = _ from p0]
  rw [show _ = _ from p1]
  rw [show _ = _ from p2]
  rw [show _ = _ from p3]
  rw [show _ = _ from p4]
  rw [show _ = _ from p5]
  rw [show _ = _ from p6]
  rw [show _ = _ from q6]
  rfl
theorem mkA8u8 {Z w cs} {x : A8u8} (h : cs = (cA8u8 x)) : tyA8u8.rep Z w cs x := by
  subst h
  exact ⟨_, _, (List.take_append_drop 1 _).symm, rfl, ⟨_, _, (List.take_append_drop 1 _).symm, rfl, ⟨_, _, (List.take_append_drop 1 _).symm, rfl, ⟨_, _, (List.take_append_drop 1 _).symm, rfl, ⟨_, _, (List.take_append_drop 1 _).symm, rfl, ⟨_, _, (List.take_append_drop 1 _).symm, rfl, ⟨_, _, (List.take_append_drop 1 _).symm, rfl, rfl⟩⟩⟩⟩⟩⟩⟩
theorem lrepA8u8 {Z w cs} {x : A8u8} (h : tyA8u8.rep Z w cs x) : RepL tyU8 Z w cs (lA8u8 x) := by
  rw [encA8u8 h]
  exact ⟨[_], _, rfl, rfl, ⟨[_], _, rfl, rfl, ⟨[_], _, rfl, rfl, ⟨[_], _, rfl, rfl, ⟨[_], _, rfl, rfl, ⟨[_], _, rfl, rfl, ⟨[_], _, rfl, rfl, ⟨[_], _, rfl, rfl, rfl⟩⟩⟩⟩⟩⟩⟩⟩
structure S_api_Node where
  Name : (List UInt8)
  Kind : Int
  Mode : Int
  Time : Int
  Size : Int
  Parts : (List A8u8)
  Link : (List UInt8)
  deriving DecidableEq
def tyS_api_Node : Ty S_api_Node := tyVia (fun x => (x.Name, (x.Kind, (x.Mode, (x.Time, (x.Size, (x.Parts, x.Link))))))) (tyPair tyStr (tyPair (tyInt .i64) (tyPair (tyInt .i64) (tyPair (tyInt .i64) (tyPair (tyInt .i64) (tyPair (tyList tyA8u8) tyStr))))))
theorem subS_api_Node_0 : Sub tyS_api_Node 0 tyStr (fun x => x.Name) := Sub.via (Sub.fst (Sub.whole _))
theorem subS_api_Node_1 : Sub tyS_api_Node 1 (tyInt .i64) (fun x => x.Kind) := Sub.via (Sub.snd (Sub.fst (Sub.whole _)))
theorem subS_api_Node_2 : Sub tyS_api_Node 2 (tyInt .i64) (fun x => x.Mode) := Sub.via (Sub.snd (Sub.snd (Sub.fst (Sub.whole _))))
theorem subS_api_Node_3 : Sub tyS_api_Node 3 (tyInt .i64) (fun x => x.Time) := Sub.via (Sub.snd (Sub.snd (Sub.snd (Sub.fst (Sub.whole _)))))
theorem subS_api_Node_4 : Sub tyS_api_Node 4 (tyInt .i64) (fun x => x.Size) := Sub.via (Sub.snd (Sub.snd (Sub.snd (Sub.snd (Sub.fst (Sub.whole _))))))
theorem subS_api_Node_5 : Sub tyS_api_Node 5 (tyList tyA8u8) (fun x => x.Parts) := Sub.via (Sub.snd (Sub.snd (Sub.snd (Sub.snd (Sub.snd (Sub.fst (Sub.whole _)))))))
theorem subS_api_Node_6 : Sub tyS_api_Node 6 tyStr (fun x => x.Link) := Sub.via (Sub.snd (Sub.snd (Sub.snd (Sub.snd (Sub.snd (Sub.snd (Sub.whole _)))))))
theorem encnS_api_Node {cs} {x : S_api_Node} : ∀ Z w, (fDat tyS_api_Node cs x).p Z w → ∃ j : Value, cs = [(str x.Name), (Value.int .i64 x.Kind), (Value.int .i64 x.Mode), (Value.int .i64 x.Time), (Value.int .i64 x.Size), j, (str x.Link)] ∧ ∀ g ∈ [(fDat (tyList tyA8u8) [j] x.Parts)], g.p Z w := by
  intro Z w h
  obtain ⟨c0, d0, rfl, p0, q0⟩ := h
  obtain ⟨c1, d1, rfl, p1, q1⟩ := q0
  obtain ⟨c2, d2, rfl, p2, q2⟩ := q1
  obtain ⟨c3, d3, rfl, p3, q3⟩ := q2
  obtain ⟨c4, d4, rfl, p4, q4⟩ := q3
  obtain ⟨c5, d5, rfl, p5, q5⟩ := q4
  obtain rfl : c0 = [(str x.Name)] := p0
  obtain rfl : c1 = [(Value.int .i64 x.Kind)] := p1
  obtain rfl : c2 = [(Value.int .i64 x.Mode)] := p2
  obtain rfl : c3 = [(Value.int .i64 x.Time)] := p3
  obtain rfl : c4 = [(Value.int .i64 x.Size)] := p4
  obtain ⟨v5, rfl⟩ := one_of p5
  obtain rfl : d5 = [(str x.Link)] := q5
  exact ⟨v5, rfl, (fall_cons p5 fall_nil)⟩
theorem mknS_api_Node {Z w cs} {x : S_api_Node} {v0 : Value} (hc : cs = [(str x.Name), (Value.int .i64 x.Kind), (Value.int .i64 x.Mode), (Value.int .i64 x.Time), (Value.int .i64 x.Size), v0, (str x.Link)]) (h0 : (tyList tyA8u8).rep Z w [v0] x.Parts) : tyS_api_Node.rep Z w cs x := by
  subst hc
  exact ⟨_, _, (List.take_append_drop 1 _).symm, rfl, ⟨_, _, (List.take_append_drop 1 _).symm, rfl, ⟨_, _, (List.take_append_drop 1 _).symm, rfl, ⟨_, _, (List.take_append_drop 1 _).symm, rfl, ⟨_, _, (List.take_append_drop 1 _).symm, rfl, ⟨_, _, (List.take_append_drop 1 _).symm, h0, rfl⟩⟩⟩⟩⟩⟩
theorem sz3 : szOf Tryd.prog 3 = some 1 := by kernel_rfl
theorem to3 : tyOf Tryd.prog 3 = some (1, 8, some (Value.int .i64 (0 : Int))) := by kernel_rfl
theorem sz5 : szOf Tryd.prog 5 = some 1 := by kernel_rfl
theorem to5 : tyOf Tryd.prog 5 = some (1, 1, some (Value.int .u8 (0 : Int))) := by kernel_rfl
theorem sz9 : szOf Tryd.prog 9 = some 1 := by kernel_rfl
theorem to9 : tyOf Tryd.prog 9 = some (1, 16, some (str ([] : List UInt8))) := by kernel_rfl
theorem sz38 : szOf Tryd.prog 38 = some 1 := by kernel_rfl
theorem to38 : tyOf Tryd.prog 38 = some (1, 24, some (Value.slice none 0 0)) := by kernel_rfl
theorem sz40 : szOf Tryd.prog 40 = some 7 := by kernel_rfl
theorem to40 : tyOf Tryd.prog 40 = some (7, 88, some (ag [(str ([] : List UInt8)), (Value.int .i64 (0 : Int)), (Value.int .i64 (0 : Int)), (Value.int .i64 (0 : Int)), (Value.int .i64 (0 : Int)), (Value.slice none 0 0), (str ([] : List UInt8))])) := by kernel_rfl
theorem sz49 : szOf Tryd.prog 49 = some 8 := by kernel_rfl
theorem to49 : tyOf Tryd.prog 49 = some (8, 8, some (ag [(Value.int .u8 (0 : Int)), (Value.int .u8 (0 : Int)), (Value.int .u8 (0 : Int)), (Value.int .u8 (0 : Int)), (Value.int .u8 (0 : Int)), (Value.int .u8 (0 : Int)), (Value.int .u8 (0 : Int)), (Value.int .u8 (0 : Int))])) := by kernel_rfl
theorem sz128 : szOf Tryd.prog 128 = some 0 := by kernel_rfl
theorem to128 : tyOf Tryd.prog 128 = some (0, 0, some (ag [])) := by kernel_rfl
theorem mixed : Tryd.prog.follows .mixedOrders = true := by kernel_rfl
def okA8u8 (x : A8u8) : Prop := (True) ∧ (True) ∧ (True) ∧ (True) ∧ (True) ∧ (True) ∧ (True) ∧ (True)
set_option maxRecDepth 100000 in
theorem opnA8u8 {H : Type} : Opn H Tryd.prog 49 tyA8u8 okA8u8 := opn_array (fun x => (x.e0, (x.e1, (x.e2, (x.e3, (x.e4, (x.e5, (x.e6, x.e7)))))))) (fun y => A8u8.mk y.1 y.2.1 y.2.2.1 y.2.2.2.1 y.2.2.2.2.1 y.2.2.2.2.2.1 y.2.2.2.2.2.2.1 y.2.2.2.2.2.2.2) (fun _ => rfl) Tryd.underlying49 sz49 (fields_cons sz5 (opn_u8 Tryd.underlying5) (fields_cons sz5 (opn_u8 Tryd.underlying5) (fields_cons sz5 (opn_u8 Tryd.underlying5) (fields_cons sz5 (opn_u8 Tryd.underlying5) (fields_cons sz5 (opn_u8 Tryd.underlying5) (fields_cons sz5 (opn_u8 Tryd.underlying5) (fields_cons sz5 (opn_u8 Tryd.underlying5) (fields_one sz5 (opn_u8 Tryd.underlying5)))))))))
def okS_api_Node (x : S_api_Node) : Prop := (x.Name.length ≤ 9223372036854775807) ∧ ((Lit.int .i64 x.Kind).wf = true) ∧ ((Lit.int .i64 x.Mode).wf = true) ∧ ((Lit.int .i64 x.Time).wf = true) ∧ ((Lit.int .i64 x.Size).wf = true) ∧ (okL (fun y => okA8u8 y) x.Parts) ∧ (x.Link.length ≤ 9223372036854775807)
set_option maxRecDepth 100000 in
theorem opnS_api_Node {H : Type} : Opn H Tryd.prog 40 tyS_api_Node okS_api_Node := opn_struct (fun x => (x.Name, (x.Kind, (x.Mode, (x.Time, (x.Size, (x.Parts, x.Link))))))) (fun y => S_api_Node.mk y.1 y.2.1 y.2.2.1 y.2.2.2.1 y.2.2.2.2.1 y.2.2.2.2.2.1 y.2.2.2.2.2.2) (fun _ => rfl) Tryd.underlying40 sz40 (fields_cons sz9 (opn_str Tryd.underlying9) (fields_cons sz3 (opn_int Tryd.underlying3) (fields_cons sz3 (opn_int Tryd.underlying3) (fields_cons sz3 (opn_int Tryd.underlying3) (fields_cons sz3 (opn_int Tryd.underlying3) (fields_cons sz38 (opn_list Tryd.underlying38 sz49 rfl opnA8u8) (fields_one sz9 (opn_str Tryd.underlying9))))))))
def okbA8u8 (N : Nat) (x : A8u8) : Prop := (True) ∧ (True) ∧ (True) ∧ (True) ∧ (True) ∧ (True) ∧ (True) ∧ (True)
set_option maxRecDepth 100000 in
theorem opbA8u8 {H : Type} : Opb H Tryd.prog 49 tyA8u8 okbA8u8 := opb_array (fun x => (x.e0, (x.e1, (x.e2, (x.e3, (x.e4, (x.e5, (x.e6, x.e7)))))))) (fun y => A8u8.mk y.1 y.2.1 y.2.2.1 y.2.2.2.1 y.2.2.2.2.1 y.2.2.2.2.2.1 y.2.2.2.2.2.2.1 y.2.2.2.2.2.2.2) (fun _ => rfl) Tryd.underlying49 sz49 (fieldsb_cons sz5 (opb_of (opn_u8 Tryd.underlying5)) (fieldsb_cons sz5 (opb_of (opn_u8 Tryd.underlying5)) (fieldsb_cons sz5 (opb_of (opn_u8 Tryd.underlying5)) (fieldsb_cons sz5 (opb_of (opn_u8 Tryd.underlying5)) (fieldsb_cons sz5 (opb_of (opn_u8 Tryd.underlying5)) (fieldsb_cons sz5 (opb_of (opn_u8 Tryd.underlying5)) (fieldsb_cons sz5 (opb_of (opn_u8 Tryd.underlying5)) (fieldsb_one sz5 (opb_of (opn_u8 Tryd.underlying5))))))))))
def okbS_api_Node (N : Nat) (x : S_api_Node) : Prop := ((x.Name.length ≤ 9223372036854775807 ∧ x.Name.length ≤ N)) ∧ ((Lit.int .i64 x.Kind).wf = true) ∧ ((Lit.int .i64 x.Mode).wf = true) ∧ ((Lit.int .i64 x.Time).wf = true) ∧ ((Lit.int .i64 x.Size).wf = true) ∧ (okB (fun N y => okbA8u8 N y) N x.Parts) ∧ ((x.Link.length ≤ 9223372036854775807 ∧ x.Link.length ≤ N))
set_option maxRecDepth 100000 in
theorem opbS_api_Node {H : Type} : Opb H Tryd.prog 40 tyS_api_Node okbS_api_Node := opb_struct (fun x => (x.Name, (x.Kind, (x.Mode, (x.Time, (x.Size, (x.Parts, x.Link))))))) (fun y => S_api_Node.mk y.1 y.2.1 y.2.2.1 y.2.2.2.1 y.2.2.2.2.1 y.2.2.2.2.2.1 y.2.2.2.2.2.2) (fun _ => rfl) Tryd.underlying40 sz40 (fieldsb_cons sz9 (opb_str Tryd.underlying9) (fieldsb_cons sz3 (opb_of (opn_int Tryd.underlying3)) (fieldsb_cons sz3 (opb_of (opn_int Tryd.underlying3)) (fieldsb_cons sz3 (opb_of (opn_int Tryd.underlying3)) (fieldsb_cons sz3 (opb_of (opn_int Tryd.underlying3)) (fieldsb_cons sz38 (opb_list Tryd.underlying38 sz49 rfl opbA8u8) (fieldsb_one sz9 (opb_str Tryd.underlying9))))))))
def f_lumref_char_L20 (a0 : (List UInt8)) (j4i5 : Int) (kk8 : (Int → Option (Int × Int))) : Nat → Int → Int → Option (Int × Int)
  | 0, _, _ => none
  | k19 + 1, l18i4, l18i53 => (bif (decide (l18i53 < ((cut a0 (1 : Int) j4i5).length : Int))) then (opt (at? (cut a0 (1 : Int) j4i5) l18i53) fun (u22 : UInt8) => (lt (fun (j25b62 : Bool) => (bif j25b62 then (some ((0 : Int), (0 : Int))) else (f_lumref_char_L20 a0 j4i5 kk8 k19 (IntKind.i64.wrap ((IntKind.i64.wrap ((IntKind.i64.wrap ((64 : Int) * l18i4)) + (IntKind.i64.wrap (u22.toNat : Int)))) - (128 : Int))) (IntKind.i64.wrap (l18i53 + (1 : Int)))))) fun (kk26 : Bool → Option (Int × Int)) => (bif (decide ((u22.toNat : Int) < (128 : Int))) then (kk26 true) else (kk26 (decide ((u22.toNat : Int) > (191 : Int))))))) else (kk8 l18i4))
def f_lumref_char (fu : Nat) (a0 : (List UInt8)) : Option (Int × Int) := (bif (a0 == ([] : List UInt8)) then (some ((0 : Int), (0 : Int))) else (req (0 ≤ (0 : Int) ∧ (0 : Int) < (a0.length : Int)) (bif (decide ((IntKind.i64.wrap (En.bAt a0 (0 : Int))) < (128 : Int))) then (some ((IntKind.i64.wrap (En.bAt a0 (0 : Int))), (1 : Int))) else (lt (fun (j4i4 : Int) (j4i5 : Int) (j4i6 : Int) => (bif (decide ((a0.length : Int) < j4i5)) then (some ((0 : Int), (0 : Int))) else (lt (fun (j7i4 : Int) => (lt (fun (j9b84 : Bool) => (bif j9b84 then (some ((0 : Int), (0 : Int))) else (some (j7i4, j4i5)))) fun (kk10 : Bool → Option (Int × Int)) => (bif (decide (j7i4 < j4i6)) then (kk10 true) else (bif (decide (j7i4 > (1114111 : Int))) then (kk10 true) else (bif (decide (j7i4 ≥ (55296 : Int))) then (kk10 (decide (j7i4 < (57344 : Int)))) else (kk10 false)))))) fun (kk8 : Int → Option (Int × Int)) => (req (0 ≤ (1 : Int) ∧ (1 : Int) ≤ j4i5 ∧ j4i5 ≤ (a0.length : Int)) (req ((cut a0 (1 : Int) j4i5).length ≤ 9223372036854775807) (f_lumref_char_L20 a0 j4i5 kk8 fu j4i4 (0 : Int))))))) fun (kk5 : Int → Int → Int → Option (Int × Int)) => (lt (fun (j29b17 : Bool) => (bif j29b17 then (kk5 (IntKind.i64.wrap ((IntKind.i64.wrap (En.bAt a0 (0 : Int))) - (192 : Int))) (2 : Int) (128 : Int)) else (lt (fun (j32b26 : Bool) => (bif j32b26 then (kk5 (IntKind.i64.wrap ((IntKind.i64.wrap (En.bAt a0 (0 : Int))) - (224 : Int))) (3 : Int) (2048 : Int)) else (lt (fun (j35b35 : Bool) => (bif j35b35 then (kk5 (IntKind.i64.wrap ((IntKind.i64.wrap (En.bAt a0 (0 : Int))) - (240 : Int))) (4 : Int) (65536 : Int)) else (some ((0 : Int), (0 : Int))))) fun (kk36 : Bool → Option (Int × Int)) => (bif (decide ((IntKind.i64.wrap (En.bAt a0 (0 : Int))) ≥ (240 : Int))) then (kk36 (decide ((IntKind.i64.wrap (En.bAt a0 (0 : Int))) < (245 : Int)))) else (kk36 false))))) fun (kk33 : Bool → Option (Int × Int)) => (bif (decide ((IntKind.i64.wrap (En.bAt a0 (0 : Int))) ≥ (224 : Int))) then (kk33 (decide ((IntKind.i64.wrap (En.bAt a0 (0 : Int))) < (240 : Int)))) else (kk33 false))))) fun (kk30 : Bool → Option (Int × Int)) => (bif (decide ((IntKind.i64.wrap (En.bAt a0 (0 : Int))) ≥ (194 : Int))) then (kk30 (decide ((IntKind.i64.wrap (En.bAt a0 (0 : Int))) < (224 : Int)))) else (kk30 false)))))))
set_option maxRecDepth 100000 in
theorem f_lumref_char_ok (fu : Nat) (a0 : (List UInt8)) {r : (Int × Int)} (h : f_lumref_char fu a0 = some r) : FnOk Tryd.prog 125 [(str a0)] [] [] (fun (i : Unit) => { val := (Value.tuple #[(Value.int .i64 r.1), (Value.int .i64 r.2)]) }) := by
  unfold f_lumref_char at h
  refine fn_enter Tryd.func125 rfl Tryd.ntmps125 rfl (fun w0 Z0 => ?_)
  refine aw_seq ?_
  refine aw_region ?_
  refine al_val (ov_assign rfl rfl) ?_
  refine al_val (ov_assign rfl rfl) ?_
  refine al_nil ?_
  refine aq_then ?_
  refine aw_seq ?_
  refine aw_seq ?_
  refine aw_region ?_
  refine al_val (ov_move rfl rfl) ?_
  refine al_val (ov_strCmp rfl rfl rfl rfl) ?_
  refine al_nil ?_
  refine aq_then ?_
  refine aw_cond rfl (fun hb1 => ?_) (fun hb1 => ?_)
  · replace h := bif_t hb1 h
    refine aw_seq ?_
    refine aw_region ?_
    refine al_val (ov_assign rfl rfl) ?_
    refine al_val (ov_assign rfl rfl) ?_
    refine al_nil ?_
    refine aq_then ?_
    refine aw_ret ?_
    refine aq_then_ret ?_
    obtain rfl := Option.some.inj h
    exact fn_ret () [] [] rfl rfl rfl rfl (res2 rfl rfl rfl) rfl rfl rfl (by decide)
  · replace h := bif_f hb1 h
    refine aw_skip ?_
    refine aq_then ?_
    refine aw_seq ?_
    refine aw_region ?_
    refine al_val (ov_move rfl rfl) ?_
    obtain ⟨hc2, h⟩ := req_some h
    refine al_val (ov_strIdx hc2.1 hc2.2 Tryd.underlying9 rfl rfl rfl) ?_
    refine al_val (ov_convInt (by rw [Tryd.underlying5]; rfl) Tryd.underlying3 rfl rfl) ?_
    refine al_val (ov_assign rfl rfl) ?_
    refine al_nil ?_
    refine aq_then ?_
    refine aw_seq ?_
    refine aw_seq ?_
    refine aw_region ?_
    refine al_val (ov_move rfl rfl) ?_
    refine al_val (ov_int rfl rfl rfl rfl) ?_
    refine al_nil ?_
    refine aq_then ?_
    refine aw_cond rfl (fun hb3 => ?_) (fun hb3 => ?_)
    · replace h := bif_t hb3 h
      refine aw_seq ?_
      refine aw_region ?_
      refine al_val (ov_move rfl rfl) ?_
      refine al_val (ov_assign rfl rfl) ?_
      refine al_val (ov_assign rfl rfl) ?_
      refine al_nil ?_
      refine aq_then ?_
      refine aw_ret ?_
      refine aq_then_ret ?_
      obtain rfl := Option.some.inj h
      exact fn_ret () [] [] rfl rfl rfl rfl (res2 rfl rfl rfl) rfl rfl rfl (by decide)
    · replace h := bif_f hb3 h
      refine aw_skip ?_
      refine aq_then ?_
      refine aw_seq ?_
      refine aw_region ?_
      refine al_val (ov_assign rfl rfl) ?_
      refine al_val (ov_assign rfl rfl) ?_
      refine al_nil ?_
      refine aq_then ?_
      obtain ⟨kk5, hkk5, h⟩ := lt_some h
      refine aw_seq_join (ι := Int × Int × Int) (fun i => (memOf w0 Z0 [] [] [])) (fun i => (tab [(0, (str a0)), (4, (Value.int .i64 i.1)), (5, (Value.int .i64 i.2.1)), (6, (Value.int .i64 i.2.2))])) (fun i => kk5 i.1 i.2.1 i.2.2 = some r) ?_ ?_
      · rintro ⟨j4i4, j4i5, j4i6⟩ h
        have h : kk5 j4i4 j4i5 j4i6 = some r := h
        rw [hkk5] at h
        dsimp only at h
        clear hkk5
        refine aw_show (m := (memOf w0 Z0 [] [] [])) (S := (tab [(0, (str a0)), (4, (Value.int .i64 j4i4)), (5, (Value.int .i64 j4i5)), (6, (Value.int .i64 j4i6))])) ?_
        refine aw_seq ?_
        refine aw_seq ?_
        refine aw_region ?_
        refine al_val (ov_move rfl rfl) ?_
        refine al_val (ov_strLen Tryd.underlying9 rfl rfl) ?_
        refine al_val (ov_move rfl rfl) ?_
        refine al_val (ov_int rfl rfl rfl rfl) ?_
        refine al_nil ?_
        refine aq_then ?_
        refine aw_cond rfl (fun hb6 => ?_) (fun hb6 => ?_)
        · replace h := bif_t hb6 h
          refine aw_seq ?_
          refine aw_region ?_
          refine al_val (ov_assign rfl rfl) ?_
          refine al_val (ov_assign rfl rfl) ?_
          refine al_nil ?_
          refine aq_then ?_
          refine aw_ret ?_
          refine aq_then_ret ?_
          obtain rfl := Option.some.inj h
          exact fn_ret () [] [] rfl rfl rfl rfl (res2 rfl rfl rfl) rfl rfl rfl (by decide)
        · replace h := bif_f hb6 h
          refine aw_skip ?_
          refine aq_then ?_
          obtain ⟨kk8, hkk8, h⟩ := lt_some h
          refine aw_seq_join (ι := Int) (fun i => (memOf w0 Z0 [] [] [])) (fun i => (tab [(4, (Value.int .i64 i)), (5, (Value.int .i64 j4i5)), (6, (Value.int .i64 j4i6))])) (fun i => kk8 i = some r) ?_ ?_
          · rintro j7i4 h
            have h : kk8 j7i4 = some r := h
            rw [hkk8] at h
            dsimp only at h
            clear hkk8
            refine aw_show (m := (memOf w0 Z0 [] [] [])) (S := (tab [(4, (Value.int .i64 j7i4)), (5, (Value.int .i64 j4i5)), (6, (Value.int .i64 j4i6))])) ?_
            refine aw_seq ?_
            obtain ⟨kk10, hkk10, h⟩ := lt_some h
            refine aw_seq_join (ι := Bool) (fun i => (memOf w0 Z0 [] [] [])) (fun i => (tab [(4, (Value.int .i64 j7i4)), (5, (Value.int .i64 j4i5)), (84, (Value.bool i))])) (fun i => kk10 i = some r) ?_ ?_
            · rintro j9b84 h
              have h : kk10 j9b84 = some r := h
              rw [hkk10] at h
              dsimp only at h
              clear hkk10
              refine aw_show (m := (memOf w0 Z0 [] [] [])) (S := (tab [(4, (Value.int .i64 j7i4)), (5, (Value.int .i64 j4i5)), (84, (Value.bool j9b84))])) ?_
              refine aw_cond rfl (fun hb11 => ?_) (fun hb11 => ?_)
              · replace h := bif_t hb11 h
                refine aw_seq ?_
                refine aw_region ?_
                refine al_val (ov_assign rfl rfl) ?_
                refine al_val (ov_assign rfl rfl) ?_
                refine al_nil ?_
                refine aq_then ?_
                refine aw_ret ?_
                refine aq_then_ret ?_
                obtain rfl := Option.some.inj h
                exact fn_ret () [] [] rfl rfl rfl rfl (res2 rfl rfl rfl) rfl rfl rfl (by decide)
              · replace h := bif_f hb11 h
                refine aw_skip ?_
                refine aq_then ?_
                refine aw_seq ?_
                refine aw_region ?_
                refine al_val (ov_move rfl rfl) ?_
                refine al_val (ov_move rfl rfl) ?_
                refine al_val (ov_assign rfl rfl) ?_
                refine al_val (ov_assign rfl rfl) ?_
                refine al_nil ?_
                refine aq_then ?_
                refine aw_ret ?_
                obtain rfl := Option.some.inj h
                exact fn_ret () [] [] rfl rfl rfl rfl (res2 rfl rfl rfl) rfl rfl rfl (by decide)
            · clear hkk10
              refine aw_region ?_
              refine al_val (ov_move rfl rfl) ?_
              refine al_val (ov_move rfl rfl) ?_
              refine al_val (ov_int rfl rfl rfl rfl) ?_
              refine al_val (ov_move rfl rfl) ?_
              refine al_caseB 73 rfl (fun hb12 => ?_) (fun hb12 => ?_)
              · replace h := bif_t hb12 h
                refine al_skip ?_
                refine al_skip ?_
                refine al_val (ov_pick_t rfl rfl rfl) ?_
                refine al_val (ov_move rfl rfl) ?_
                refine al_skip ?_
                refine al_skip ?_
                refine al_skip ?_
                refine al_skip ?_
                refine al_skip ?_
                refine al_skip ?_
                refine al_val (ov_pick_t rfl rfl rfl) ?_
                refine al_nil ?_
                exact aq_join true h (fun w a hm hs => norm hm hs [] [] [(4, (Value.int .i64 j7i4)), (5, (Value.int .i64 j4i5)), (84, (Value.bool true))] (by decide) ⟨rfl, rfl, rfl, trivial⟩)
              · replace h := bif_f hb12 h
                refine al_val (ov_move rfl rfl) ?_
                refine al_val (ov_int rfl rfl rfl rfl) ?_
                refine al_val (ov_pick_f rfl rfl rfl) ?_
                refine al_val (ov_move rfl rfl) ?_
                refine al_caseB 77 rfl (fun hb13 => ?_) (fun hb13 => ?_)
                · replace h := bif_t hb13 h
                  refine al_skip ?_
                  refine al_skip ?_
                  refine al_skip ?_
                  refine al_skip ?_
                  refine al_skip ?_
                  refine al_skip ?_
                  refine al_val (ov_pick_t rfl rfl rfl) ?_
                  refine al_nil ?_
                  exact aq_join true h (fun w a hm hs => norm hm hs [] [] [(4, (Value.int .i64 j7i4)), (5, (Value.int .i64 j4i5)), (84, (Value.bool true))] (by decide) ⟨rfl, rfl, rfl, trivial⟩)
                · replace h := bif_f hb13 h
                  refine al_val (ov_move rfl rfl) ?_
                  refine al_val (ov_int rfl rfl rfl rfl) ?_
                  refine al_val (ov_move rfl rfl) ?_
                  refine al_caseB 80 rfl (fun hb14 => ?_) (fun hb14 => ?_)
                  · replace h := bif_t hb14 h
                    refine al_val (ov_move rfl rfl) ?_
                    refine al_val (ov_int rfl rfl rfl rfl) ?_
                    refine al_val (ov_pick_t rfl rfl rfl) ?_
                    refine al_val (ov_pick_f rfl rfl rfl) ?_
                    refine al_nil ?_
                    exact aq_join (decide (j7i4 < (57344 : Int))) h (fun w a hm hs => norm hm hs [] [] [(4, (Value.int .i64 j7i4)), (5, (Value.int .i64 j4i5)), (84, (Value.bool (decide (j7i4 < (57344 : Int)))))] (by decide) ⟨rfl, rfl, rfl, trivial⟩)
                  · replace h := bif_f hb14 h
                    refine al_skip ?_
                    refine al_skip ?_
                    refine al_val (ov_pick_f rfl rfl rfl) ?_
                    refine al_val (ov_pick_f rfl rfl rfl) ?_
                    refine al_nil ?_
                    exact aq_join false h (fun w a hm hs => norm hm hs [] [] [(4, (Value.int .i64 j7i4)), (5, (Value.int .i64 j4i5)), (84, (Value.bool false))] (by decide) ⟨rfl, rfl, rfl, trivial⟩)
          · clear hkk8
            refine aw_seq ?_
            refine aw_region ?_
            refine al_val (ov_move rfl rfl) ?_
            refine al_val (ov_move rfl rfl) ?_
            obtain ⟨hc15, h⟩ := req_some h
            refine al_val (ov_strCut hc15.1 hc15.2.1 hc15.2.2 Tryd.underlying9 rfl rfl rfl rfl) ?_
            obtain ⟨hc16, h⟩ := req_some h
            refine al_bytes hc16 rfl Tryd.underlying9 Tryd.underlying89 Tryd.underlying5 rfl (fun s17 => ?_)
            refine al_val (ov_lenD 0 rfl rfl Tryd.underlying89 rfl) ?_
            refine al_val (ov_move rfl rfl) ?_
            refine al_nil ?_
            refine aq_then ?_
            refine aw_block ?_
            refine aw_state (aw_loop (ι := Int × Int) (fun i => (memOf w0 Z0 [] [] [(fDat (tyList tyU8) [s17] (cut a0 (1 : Int) j4i5))])) (fun i => (tab [(4, (Value.int .i64 i.1)), (5, (Value.int .i64 j4i5)), (6, (Value.int .i64 j4i6)), (51, s17), (52, (Value.int .i64 ((cut a0 (1 : Int) j4i5).length : Int))), (53, (Value.int .i64 i.2))])) (fun q i => f_lumref_char_L20 a0 j4i5 kk8 q i.1 i.2 = some r) ?_ fu (j4i4, (0 : Int)) h) (fun w a hm hs => norm hm hs [] [0] [(4, (Value.int .i64 j4i4)), (5, (Value.int .i64 j4i5)), (6, (Value.int .i64 j4i6)), (51, s17), (52, (Value.int .i64 ((cut a0 (1 : Int) j4i5).length : Int))), (53, (Value.int .i64 (0 : Int)))] (by decide) ⟨rfl, rfl, rfl, rfl, rfl, rfl, trivial⟩)
            clear h
            rintro k19 ⟨l18i4, l18i53⟩ h
            have h : f_lumref_char_L20 a0 j4i5 kk8 k19 l18i4 l18i53 = some r := h
            obtain _ | k19 := k19
            · rw [f_lumref_char_L20] at h; cases h
            rw [f_lumref_char_L20] at h
            refine aw_show (m := (memOf w0 Z0 [] [] [(fDat (tyList tyU8) [s17] (cut a0 (1 : Int) j4i5))])) (S := (tab [(4, (Value.int .i64 l18i4)), (5, (Value.int .i64 j4i5)), (6, (Value.int .i64 j4i6)), (51, s17), (52, (Value.int .i64 ((cut a0 (1 : Int) j4i5).length : Int))), (53, (Value.int .i64 l18i53))])) ?_
            refine aw_seq ?_
            refine aw_region ?_
            refine al_val (ov_int rfl rfl rfl rfl) ?_
            refine al_nil ?_
            refine aq_then ?_
            refine aw_seq ?_
            refine aw_cond rfl (fun hb21 => ?_) (fun hb21 => ?_)
            · replace h := bif_t hb21 h
              refine aw_skip ?_
              refine aq_then ?_
              refine aw_seq ?_
              refine aw_block ?_
              refine aw_seq ?_
              refine aw_region ?_
              obtain ⟨u22, hu23, h⟩ := opt_some h
              refine al_idxD 0 hu23 rfl rfl rfl Tryd.underlying89 sz5 rfl (fun p24 => ?_)
              refine al_val (ov_loadP (ds := [(Value.int .u8 (u22.toNat : Int))]) 0 rfl (fun h => h) rfl Tryd.underlying5 sz5 rfl rfl rfl) ?_
              refine al_val (ov_assign rfl rfl) ?_
              refine al_nil ?_
              refine aq_then ?_
              refine aw_seq ?_
              obtain ⟨kk26, hkk26, h⟩ := lt_some h
              refine aw_seq_join (ι := Bool) (fun i => (memOf w0 Z0 [] [] [(fDat (tyList tyU8) [s17] (cut a0 (1 : Int) j4i5)), (fPtr tyU8 p24 u22)])) (fun i => (tab [(4, (Value.int .i64 l18i4)), (5, (Value.int .i64 j4i5)), (6, (Value.int .i64 j4i6)), (8, (Value.int .u8 (u22.toNat : Int))), (51, s17), (52, (Value.int .i64 ((cut a0 (1 : Int) j4i5).length : Int))), (53, (Value.int .i64 l18i53)), (62, (Value.bool i))])) (fun i => kk26 i = some r) ?_ ?_
              · rintro j25b62 h
                have h : kk26 j25b62 = some r := h
                rw [hkk26] at h
                dsimp only at h
                clear hkk26
                refine aw_show (m := (memOf w0 Z0 [] [] [(fDat (tyList tyU8) [s17] (cut a0 (1 : Int) j4i5)), (fPtr tyU8 p24 u22)])) (S := (tab [(4, (Value.int .i64 l18i4)), (5, (Value.int .i64 j4i5)), (6, (Value.int .i64 j4i6)), (8, (Value.int .u8 (u22.toNat : Int))), (51, s17), (52, (Value.int .i64 ((cut a0 (1 : Int) j4i5).length : Int))), (53, (Value.int .i64 l18i53)), (62, (Value.bool j25b62))])) ?_
                refine aw_cond rfl (fun hb27 => ?_) (fun hb27 => ?_)
                · replace h := bif_t hb27 h
                  refine aw_seq ?_
                  refine aw_region ?_
                  refine al_val (ov_assign rfl rfl) ?_
                  refine al_val (ov_assign rfl rfl) ?_
                  refine al_nil ?_
                  refine aq_then ?_
                  refine aw_ret ?_
                  refine aq_then_ret ?_
                  refine aq_block_ret ?_
                  refine aq_then_ret ?_
                  refine aq_then_ret ?_
                  refine aq_block_ret ?_
                  refine aq_then_ret ?_
                  obtain rfl := Option.some.inj h
                  exact fn_ret () [] [] rfl rfl rfl rfl (res2 rfl rfl rfl) rfl rfl rfl (by decide)
                · replace h := bif_f hb27 h
                  refine aw_skip ?_
                  refine aq_then ?_
                  refine aw_region ?_
                  refine al_val (ov_move rfl rfl) ?_
                  refine al_val (ov_int rfl rfl rfl rfl) ?_
                  refine al_val (ov_move rfl rfl) ?_
                  refine al_val (ov_convInt (by rw [Tryd.underlying5]; rfl) Tryd.underlying3 rfl rfl) ?_
                  refine al_val (ov_int rfl rfl rfl rfl) ?_
                  refine al_val (ov_int rfl rfl rfl rfl) ?_
                  refine al_val (ov_assign rfl rfl) ?_
                  refine al_nil ?_
                  refine aq_block ?_
                  refine aq_then ?_
                  refine aw_region ?_
                  refine al_val (ov_int rfl rfl rfl rfl) ?_
                  refine al_val (ov_move rfl rfl) ?_
                  refine al_nil ?_
                  exact aq_again k19 ((IntKind.i64.wrap ((IntKind.i64.wrap ((IntKind.i64.wrap ((64 : Int) * l18i4)) + (IntKind.i64.wrap (u22.toNat : Int)))) - (128 : Int))), (IntKind.i64.wrap (l18i53 + (1 : Int)))) (Nat.lt_succ_self _) h (fun w a hm hs => norm hm hs [] [0] [(4, (Value.int .i64 (IntKind.i64.wrap ((IntKind.i64.wrap ((IntKind.i64.wrap ((64 : Int) * l18i4)) + (IntKind.i64.wrap (u22.toNat : Int)))) - (128 : Int))))), (5, (Value.int .i64 j4i5)), (6, (Value.int .i64 j4i6)), (51, s17), (52, (Value.int .i64 ((cut a0 (1 : Int) j4i5).length : Int))), (53, (Value.int .i64 (IntKind.i64.wrap (l18i53 + (1 : Int)))))] (by decide) ⟨rfl, rfl, rfl, rfl, rfl, rfl, trivial⟩)
              · clear hkk26
                refine aw_region ?_
                refine al_val (ov_move rfl rfl) ?_
                refine al_val (ov_int rfl rfl rfl rfl) ?_
                refine al_val (ov_move rfl rfl) ?_
                refine al_caseB 59 rfl (fun hb28 => ?_) (fun hb28 => ?_)
                · replace h := bif_t hb28 h
                  refine al_skip ?_
                  refine al_skip ?_
                  refine al_val (ov_pick_t rfl rfl rfl) ?_
                  refine al_nil ?_
                  exact aq_join true h (fun w a hm hs => norm hm hs [] [1, 0] [(4, (Value.int .i64 l18i4)), (5, (Value.int .i64 j4i5)), (6, (Value.int .i64 j4i6)), (8, (Value.int .u8 (u22.toNat : Int))), (51, s17), (52, (Value.int .i64 ((cut a0 (1 : Int) j4i5).length : Int))), (53, (Value.int .i64 l18i53)), (62, (Value.bool true))] (by decide) ⟨rfl, rfl, rfl, rfl, rfl, rfl, rfl, rfl, trivial⟩)
                · replace h := bif_f hb28 h
                  refine al_val (ov_move rfl rfl) ?_
                  refine al_val (ov_int rfl rfl rfl rfl) ?_
                  refine al_val (ov_pick_f rfl rfl rfl) ?_
                  refine al_nil ?_
                  exact aq_join (decide ((u22.toNat : Int) > (191 : Int))) h (fun w a hm hs => norm hm hs [] [1, 0] [(4, (Value.int .i64 l18i4)), (5, (Value.int .i64 j4i5)), (6, (Value.int .i64 j4i6)), (8, (Value.int .u8 (u22.toNat : Int))), (51, s17), (52, (Value.int .i64 ((cut a0 (1 : Int) j4i5).length : Int))), (53, (Value.int .i64 l18i53)), (62, (Value.bool (decide ((u22.toNat : Int) > (191 : Int)))))] (by decide) ⟨rfl, rfl, rfl, rfl, rfl, rfl, rfl, rfl, trivial⟩)
            · replace h := bif_f hb21 h
              refine aw_exit ?_
              refine aq_then_exit ?_
              refine aq_then_exit ?_
              refine aq_block_exit ?_
              exact aq_join l18i4 h (fun w a hm hs => norm hm hs [] [] [(4, (Value.int .i64 l18i4)), (5, (Value.int .i64 j4i5)), (6, (Value.int .i64 j4i6))] (by decide) ⟨rfl, rfl, rfl, trivial⟩)
      · clear hkk5
        refine aw_block ?_
        obtain ⟨kk30, hkk30, h⟩ := lt_some h
        refine aw_seq_join (ι := Bool) (fun i => (memOf w0 Z0 [] [] [])) (fun i => (tab [(0, (str a0)), (4, (Value.int .i64 (IntKind.i64.wrap (En.bAt a0 (0 : Int))))), (17, (Value.bool i))])) (fun i => kk30 i = some r) ?_ ?_
        · rintro j29b17 h
          have h : kk30 j29b17 = some r := h
          rw [hkk30] at h
          dsimp only at h
          clear hkk30
          refine aw_show (m := (memOf w0 Z0 [] [] [])) (S := (tab [(0, (str a0)), (4, (Value.int .i64 (IntKind.i64.wrap (En.bAt a0 (0 : Int))))), (17, (Value.bool j29b17))])) ?_
          refine aw_cond rfl (fun hb31 => ?_) (fun hb31 => ?_)
          · replace h := bif_t hb31 h
            refine aw_region ?_
            refine al_val (ov_move rfl rfl) ?_
            refine al_val (ov_int rfl rfl rfl rfl) ?_
            refine al_val (ov_assign rfl rfl) ?_
            refine al_val (ov_assign rfl rfl) ?_
            refine al_val (ov_assign rfl rfl) ?_
            refine al_nil ?_
            refine aq_block ?_
            exact aq_join ((IntKind.i64.wrap ((IntKind.i64.wrap (En.bAt a0 (0 : Int))) - (192 : Int))), (2 : Int), (128 : Int)) h (fun w a hm hs => norm hm hs [] [] [(0, (str a0)), (4, (Value.int .i64 (IntKind.i64.wrap ((IntKind.i64.wrap (En.bAt a0 (0 : Int))) - (192 : Int))))), (5, (Value.int .i64 (2 : Int))), (6, (Value.int .i64 (128 : Int)))] (by decide) ⟨rfl, rfl, rfl, rfl, trivial⟩)
          · replace h := bif_f hb31 h
            obtain ⟨kk33, hkk33, h⟩ := lt_some h
            refine aw_seq_join (ι := Bool) (fun i => (memOf w0 Z0 [] [] [])) (fun i => (tab [(0, (str a0)), (4, (Value.int .i64 (IntKind.i64.wrap (En.bAt a0 (0 : Int))))), (26, (Value.bool i))])) (fun i => kk33 i = some r) ?_ ?_
            · rintro j32b26 h
              have h : kk33 j32b26 = some r := h
              rw [hkk33] at h
              dsimp only at h
              clear hkk33
              refine aw_show (m := (memOf w0 Z0 [] [] [])) (S := (tab [(0, (str a0)), (4, (Value.int .i64 (IntKind.i64.wrap (En.bAt a0 (0 : Int))))), (26, (Value.bool j32b26))])) ?_
              refine aw_cond rfl (fun hb34 => ?_) (fun hb34 => ?_)
              · replace h := bif_t hb34 h
                refine aw_region ?_
                refine al_val (ov_move rfl rfl) ?_
                refine al_val (ov_int rfl rfl rfl rfl) ?_
                refine al_val (ov_assign rfl rfl) ?_
                refine al_val (ov_assign rfl rfl) ?_
                refine al_val (ov_assign rfl rfl) ?_
                refine al_nil ?_
                refine aq_block ?_
                exact aq_join ((IntKind.i64.wrap ((IntKind.i64.wrap (En.bAt a0 (0 : Int))) - (224 : Int))), (3 : Int), (2048 : Int)) h (fun w a hm hs => norm hm hs [] [] [(0, (str a0)), (4, (Value.int .i64 (IntKind.i64.wrap ((IntKind.i64.wrap (En.bAt a0 (0 : Int))) - (224 : Int))))), (5, (Value.int .i64 (3 : Int))), (6, (Value.int .i64 (2048 : Int)))] (by decide) ⟨rfl, rfl, rfl, rfl, trivial⟩)
              · replace h := bif_f hb34 h
                obtain ⟨kk36, hkk36, h⟩ := lt_some h
                refine aw_seq_join (ι := Bool) (fun i => (memOf w0 Z0 [] [] [])) (fun i => (tab [(0, (str a0)), (4, (Value.int .i64 (IntKind.i64.wrap (En.bAt a0 (0 : Int))))), (35, (Value.bool i))])) (fun i => kk36 i = some r) ?_ ?_
                · rintro j35b35 h
                  have h : kk36 j35b35 = some r := h
                  rw [hkk36] at h
                  dsimp only at h
                  clear hkk36
                  refine aw_show (m := (memOf w0 Z0 [] [] [])) (S := (tab [(0, (str a0)), (4, (Value.int .i64 (IntKind.i64.wrap (En.bAt a0 (0 : Int))))), (35, (Value.bool j35b35))])) ?_
                  refine aw_cond rfl (fun hb37 => ?_) (fun hb37 => ?_)
                  · replace h := bif_t hb37 h
                    refine aw_region ?_
                    refine al_val (ov_move rfl rfl) ?_
                    refine al_val (ov_int rfl rfl rfl rfl) ?_
                    refine al_val (ov_assign rfl rfl) ?_
                    refine al_val (ov_assign rfl rfl) ?_
                    refine al_val (ov_assign rfl rfl) ?_
                    refine al_nil ?_
                    refine aq_block ?_
                    exact aq_join ((IntKind.i64.wrap ((IntKind.i64.wrap (En.bAt a0 (0 : Int))) - (240 : Int))), (4 : Int), (65536 : Int)) h (fun w a hm hs => norm hm hs [] [] [(0, (str a0)), (4, (Value.int .i64 (IntKind.i64.wrap ((IntKind.i64.wrap (En.bAt a0 (0 : Int))) - (240 : Int))))), (5, (Value.int .i64 (4 : Int))), (6, (Value.int .i64 (65536 : Int)))] (by decide) ⟨rfl, rfl, rfl, rfl, trivial⟩)
                  · replace h := bif_f hb37 h
                    refine aw_seq ?_
                    refine aw_region ?_
                    refine al_val (ov_assign rfl rfl) ?_
                    refine al_val (ov_assign rfl rfl) ?_
                    refine al_nil ?_
                    refine aq_then ?_
                    refine aw_ret ?_
                    refine aq_block_ret ?_
                    refine aq_then_ret ?_
                    obtain rfl := Option.some.inj h
                    exact fn_ret () [] [] rfl rfl rfl rfl (res2 rfl rfl rfl) rfl rfl rfl (by decide)
                · clear hkk36
                  refine aw_region ?_
                  refine al_val (ov_move rfl rfl) ?_
                  refine al_val (ov_int rfl rfl rfl rfl) ?_
                  refine al_val (ov_move rfl rfl) ?_
                  refine al_caseB 38 rfl (fun hb38 => ?_) (fun hb38 => ?_)
                  · replace h := bif_t hb38 h
                    refine al_val (ov_move rfl rfl) ?_
                    refine al_val (ov_int rfl rfl rfl rfl) ?_
                    refine al_val (ov_pick_t rfl rfl rfl) ?_
                    refine al_val (ov_assign rfl rfl) ?_
                    refine al_nil ?_
                    exact aq_join (decide ((IntKind.i64.wrap (En.bAt a0 (0 : Int))) < (245 : Int))) h (fun w a hm hs => norm hm hs [] [] [(0, (str a0)), (4, (Value.int .i64 (IntKind.i64.wrap (En.bAt a0 (0 : Int))))), (35, (Value.bool (decide ((IntKind.i64.wrap (En.bAt a0 (0 : Int))) < (245 : Int)))))] (by decide) ⟨rfl, rfl, rfl, trivial⟩)
                  · replace h := bif_f hb38 h
                    refine al_skip ?_
                    refine al_skip ?_
                    refine al_val (ov_pick_f rfl rfl rfl) ?_
                    refine al_val (ov_assign rfl rfl) ?_
                    refine al_nil ?_
                    exact aq_join false h (fun w a hm hs => norm hm hs [] [] [(0, (str a0)), (4, (Value.int .i64 (IntKind.i64.wrap (En.bAt a0 (0 : Int))))), (35, (Value.bool false))] (by decide) ⟨rfl, rfl, rfl, trivial⟩)
            · clear hkk33
              refine aw_region ?_
              refine al_val (ov_move rfl rfl) ?_
              refine al_val (ov_int rfl rfl rfl rfl) ?_
              refine al_val (ov_move rfl rfl) ?_
              refine al_caseB 29 rfl (fun hb39 => ?_) (fun hb39 => ?_)
              · replace h := bif_t hb39 h
                refine al_val (ov_move rfl rfl) ?_
                refine al_val (ov_int rfl rfl rfl rfl) ?_
                refine al_val (ov_pick_t rfl rfl rfl) ?_
                refine al_val (ov_assign rfl rfl) ?_
                refine al_nil ?_
                exact aq_join (decide ((IntKind.i64.wrap (En.bAt a0 (0 : Int))) < (240 : Int))) h (fun w a hm hs => norm hm hs [] [] [(0, (str a0)), (4, (Value.int .i64 (IntKind.i64.wrap (En.bAt a0 (0 : Int))))), (26, (Value.bool (decide ((IntKind.i64.wrap (En.bAt a0 (0 : Int))) < (240 : Int)))))] (by decide) ⟨rfl, rfl, rfl, trivial⟩)
              · replace h := bif_f hb39 h
                refine al_skip ?_
                refine al_skip ?_
                refine al_val (ov_pick_f rfl rfl rfl) ?_
                refine al_val (ov_assign rfl rfl) ?_
                refine al_nil ?_
                exact aq_join false h (fun w a hm hs => norm hm hs [] [] [(0, (str a0)), (4, (Value.int .i64 (IntKind.i64.wrap (En.bAt a0 (0 : Int))))), (26, (Value.bool false))] (by decide) ⟨rfl, rfl, rfl, trivial⟩)
        · clear hkk30
          refine aw_region ?_
          refine al_val (ov_move rfl rfl) ?_
          refine al_val (ov_int rfl rfl rfl rfl) ?_
          refine al_val (ov_move rfl rfl) ?_
          refine al_caseB 20 rfl (fun hb40 => ?_) (fun hb40 => ?_)
          · replace h := bif_t hb40 h
            refine al_val (ov_move rfl rfl) ?_
            refine al_val (ov_int rfl rfl rfl rfl) ?_
            refine al_val (ov_pick_t rfl rfl rfl) ?_
            refine al_val (ov_assign rfl rfl) ?_
            refine al_nil ?_
            exact aq_join (decide ((IntKind.i64.wrap (En.bAt a0 (0 : Int))) < (224 : Int))) h (fun w a hm hs => norm hm hs [] [] [(0, (str a0)), (4, (Value.int .i64 (IntKind.i64.wrap (En.bAt a0 (0 : Int))))), (17, (Value.bool (decide ((IntKind.i64.wrap (En.bAt a0 (0 : Int))) < (224 : Int)))))] (by decide) ⟨rfl, rfl, rfl, trivial⟩)
          · replace h := bif_f hb40 h
            refine al_skip ?_
            refine al_skip ?_
            refine al_val (ov_pick_f rfl rfl rfl) ?_
            refine al_val (ov_assign rfl rfl) ?_
            refine al_nil ?_
            exact aq_join false h (fun w a hm hs => norm hm hs [] [] [(0, (str a0)), (4, (Value.int .i64 (IntKind.i64.wrap (En.bAt a0 (0 : Int))))), (17, (Value.bool false))] (by decide) ⟨rfl, rfl, rfl, trivial⟩)
def f_lumref_Chars_L5 (kk2 : ((List Int) → Option ((List Int) × Bool))) (fu : Nat) : Nat → (List UInt8) → (List Int) → Option ((List Int) × Bool)
  | 0, _, _ => none
  | k4 + 1, l3s0, l3x4 => (bif (!(l3s0 == ([] : List UInt8))) then (opt (f_lumref_char fu l3s0) fun (r8 : (Int × Int)) => (bif (r8.2 == (0 : Int)) then (some (([] : List Int), false)) else (req (((l3x4.length + ([r8.1]).length) * 8 : Nat) ≤ 140737488355328 ∧ l3x4.length + ([r8.1]).length ≤ 9223372036854775807) (req (0 ≤ r8.2 ∧ r8.2 ≤ (l3s0.length : Int)) (f_lumref_Chars_L5 kk2 fu k4 (l3s0.drop (r8.2).toNat) (l3x4 ++ ([r8.1]))))))) else (kk2 l3x4))
def f_lumref_Chars (fu : Nat) (a0 : (List UInt8)) : Option ((List Int) × Bool) := (lt (fun (j1x4 : (List Int)) => (some (j1x4, true))) fun (kk2 : (List Int) → Option ((List Int) × Bool)) => (f_lumref_Chars_L5 kk2 fu fu a0 ([] : List Int)))
set_option maxRecDepth 100000 in
theorem f_lumref_Chars_ok (fu : Nat) (a0 : (List UInt8)) {r : ((List Int) × Bool)} (h : f_lumref_Chars fu a0 = some r) : FnOk Tryd.prog 92 [(str a0)] [] [] (fun (i : Value) => { val := (Value.tuple #[i, (Value.bool r.2)]), own := [(oRow i 3 (tyInt .i64) r.1)] }) := by
  unfold f_lumref_Chars at h
  refine fn_enter Tryd.func92 rfl Tryd.ntmps92 rfl (fun w0 Z0 => ?_)
  refine aw_seq ?_
  refine aw_region ?_
  refine al_val (ov_assign rfl rfl) ?_
  refine al_val (ov_assign rfl rfl) ?_
  refine al_nil ?_
  refine aq_then ?_
  refine aw_seq ?_
  refine aw_region ?_
  refine al_val (ov_assign rfl rfl) ?_
  refine al_nil ?_
  refine aq_then ?_
  obtain ⟨kk2, hkk2, h⟩ := lt_some h
  refine aw_seq_join (ι := Value × (List Int)) (fun i => (memOf w0 Z0 [] [(oRow i.1 3 (tyInt .i64) i.2)] [])) (fun i => (tab [(4, i.1)])) (fun i => kk2 i.2 = some r) ?_ ?_
  · rintro ⟨j1v4, j1x4⟩ h
    have h : kk2 j1x4 = some r := h
    rw [hkk2] at h
    dsimp only at h
    clear hkk2
    refine aw_show (m := (memOf w0 Z0 [] [(oRow j1v4 3 (tyInt .i64) j1x4)] [])) (S := (tab [(4, j1v4)])) ?_
    refine aw_seq ?_
    refine aw_region ?_
    refine al_val (ov_move rfl rfl) ?_
    refine al_val (ov_assign rfl rfl) ?_
    refine al_val (ov_assign rfl rfl) ?_
    refine al_nil ?_
    refine aq_then ?_
    refine aw_ret ?_
    obtain rfl := Option.some.inj h
    exact fn_ret j1v4 [0] [] rfl rfl rfl rfl (res2 rfl rfl rfl) rfl rfl rfl (by decide)
  · clear hkk2
    refine aw_block ?_
    refine aw_nilR 3 (tyInt .i64) ?_
    refine aw_state (aw_loop (ι := (List UInt8) × Value × (List Int)) (fun i => (memOf w0 Z0 [] [(oRow i.2.1 3 (tyInt .i64) i.2.2)] [])) (fun i => (tab [(0, (str i.1)), (4, i.2.1)])) (fun q i => f_lumref_Chars_L5 kk2 fu q i.1 i.2.2 = some r) ?_ fu (a0, (Value.slice none 0 0), ([] : List Int)) h) (fun w a hm hs => norm hm hs [0] [] [(0, (str a0)), (4, (Value.slice none 0 0))] (by decide) ⟨rfl, rfl, trivial⟩)
    clear h
    rintro k4 ⟨l3s0, l3v4, l3x4⟩ h
    have h : f_lumref_Chars_L5 kk2 fu k4 l3s0 l3x4 = some r := h
    obtain _ | k4 := k4
    · rw [f_lumref_Chars_L5] at h; cases h
    rw [f_lumref_Chars_L5] at h
    refine aw_show (m := (memOf w0 Z0 [] [(oRow l3v4 3 (tyInt .i64) l3x4)] [])) (S := (tab [(0, (str l3s0)), (4, l3v4)])) ?_
    refine aw_seq ?_
    refine aw_seq ?_
    refine aw_region ?_
    refine al_val (ov_move rfl rfl) ?_
    refine al_val (ov_strCmp rfl rfl rfl rfl) ?_
    refine al_nil ?_
    refine aq_then ?_
    refine aw_cond rfl (fun hb6 => ?_) (fun hb6 => ?_)
    · replace h := bif_t hb6 h
      refine aw_skip ?_
      refine aq_then ?_
      refine aw_block ?_
      refine aw_seq ?_
      refine aw_region ?_
      refine al_val (ov_move rfl rfl) ?_
      obtain ⟨r8, hc7, h⟩ := opt_some h
      refine al_call (vs := [(str l3s0)]) (f_lumref_char_ok fu l3s0 hc7) [] [] [0] pre_nil rfl (by simp) (by decide) (.inl rfl) rfl Tryd.func125 rfl rfl rfl (fun _ => ?_)
      refine al_val (ov_move rfl rfl) ?_
      refine al_val (ov_extract rfl rfl rfl) ?_
      refine al_val (ov_extract rfl rfl rfl) ?_
      refine al_val (ov_assign rfl rfl) ?_
      refine al_val (ov_assign rfl rfl) ?_
      refine al_nil ?_
      refine aq_then ?_
      refine aw_seq ?_
      refine aw_seq ?_
      refine aw_region ?_
      refine al_val (ov_move rfl rfl) ?_
      refine al_val (ov_int rfl rfl rfl rfl) ?_
      refine al_nil ?_
      refine aq_then ?_
      refine aw_cond rfl (fun hb9 => ?_) (fun hb9 => ?_)
      · replace h := bif_t hb9 h
        refine aw_seq ?_
        refine aw_region ?_
        refine al_val (ov_assign rfl rfl) ?_
        refine al_val (ov_assign rfl rfl) ?_
        refine al_nil ?_
        refine aq_then ?_
        refine aw_ret ?_
        refine aq_then_ret ?_
        refine aq_block_ret ?_
        refine aq_then_ret ?_
        refine aq_block_ret ?_
        refine aq_then_ret ?_
        refine aq_nilR 3 (tyInt .i64) ?_
        obtain rfl := Option.some.inj h
        exact fn_ret (Value.slice none 0 0) [0] [] rfl rfl rfl rfl (res2 rfl rfl rfl) rfl rfl rfl (by decide)
      · replace h := bif_f hb9 h
        refine aw_skip ?_
        refine aq_then ?_
        refine aw_seq ?_
        refine aw_region ?_
        refine al_val (ov_move rfl rfl) ?_
        refine al_val (ov_move rfl rfl) ?_
        refine al_buildSlice (τ := (tyInt .i64)) (e := 3) (k := 1) (sz := 0) (by_ := 0) (z := undef) (cs := [(Value.int .i64 r8.1)]) (xs := [r8.1]) rfl (by decide) (fun w a hm hs => ⟨([(Value.int .i64 r8.1)]).toArray, rfl, by simp only [List.map_toArray, List.map_cons, List.map_nil, hs.ev (x := .tmp 17) rfl]; exact run_bs [(Value.int .i64 r8.1)] [(Value.int .i64 r8.1)] Tryd.underlying59 to3 rfl rfl (bs_cons (l := [(Value.int .i64 r8.1)]) (cs := []) (cv_rfl rfl) rfl bs_nil) hm⟩) (fun hm => ⟨_, _, rfl, (fun _ => rfl) hm, rfl⟩) rfl (fun v10 => ?_)
        obtain ⟨hc11, h⟩ := req_some h
        refine al_append 1 hc11.1 hc11.2 rfl (src_own (i := 1) 0 rfl) rfl rfl Tryd.underlying59 to3 rfl rfl rfl (fun v12 => ?_)
        refine al_val (ov_assign rfl rfl) ?_
        refine al_nil ?_
        refine aq_then ?_
        refine aw_region ?_
        refine al_val (ov_move rfl rfl) ?_
        refine al_val (ov_move rfl rfl) ?_
        obtain ⟨hc13, h⟩ := req_some h
        refine al_val (ov_strFrom hc13.1 hc13.2 Tryd.underlying9 rfl rfl rfl) ?_
        refine al_val (ov_assign rfl rfl) ?_
        refine al_nil ?_
        refine aq_block ?_
        exact aq_again k4 ((l3s0.drop (r8.2).toNat), v12, (l3x4 ++ ([r8.1]))) (Nat.lt_succ_self _) h (fun w a hm hs => norm hm hs [1] [] [(0, (str (l3s0.drop (r8.2).toNat))), (4, v12)] (by decide) ⟨rfl, rfl, trivial⟩)
    · replace h := bif_f hb6 h
      refine aw_exit ?_
      refine aq_then_exit ?_
      refine aq_then_exit ?_
      refine aq_block_exit ?_
      exact aq_join (l3v4, l3x4) h (fun w a hm hs => norm hm hs [0] [] [(4, l3v4)] (by decide) ⟨rfl, trivial⟩)
def f_lumref_Name_L12 (r2 : ((List Int) × Bool)) (kk8 : (Unit → Option Int)) : Nat → Int → Option Int
  | 0, _ => none
  | k11 + 1, l10i29 => (bif (decide (l10i29 < (r2.1.length : Int))) then (opt (at? r2.1 l10i29) fun (u14 : Int) => (lt (fun (j18b42 : Bool) => (bif j18b42 then (some (8 : Int)) else (f_lumref_Name_L12 r2 kk8 k11 (IntKind.i64.wrap (l10i29 + (1 : Int)))))) fun (kk19 : Bool → Option Int) => (bif (u14 == (47 : Int)) then (kk19 true) else (bif (decide (u14 < (32 : Int))) then (kk19 true) else (kk19 (u14 == (127 : Int))))))) else (kk8 ()))
def f_lumref_Name (fu : Nat) (a0 : (List UInt8)) : Option Int := (opt (f_lumref_Chars fu a0) fun (r2 : ((List Int) × Bool)) => (lt (fun (j4b26 : Bool) => (bif j4b26 then (some (8 : Int)) else (lt (fun (_ : Unit) => (bif (decide ((r2.1.length : Int) > (24 : Int))) then (some (2 : Int)) else (some (0 : Int)))) fun (kk8 : Unit → Option Int) => (f_lumref_Name_L12 r2 kk8 fu (0 : Int))))) fun (kk5 : Bool → Option Int) => (bif (!r2.2) then (kk5 true) else (bif ((r2.1.length : Int) == (0 : Int)) then (kk5 true) else (bif (a0 == ([46] : List UInt8)) then (kk5 true) else (kk5 (a0 == ([46, 46] : List UInt8))))))))
set_option maxRecDepth 100000 in
theorem f_lumref_Name_ok (fu : Nat) (a0 : (List UInt8)) {r : Int} (h : f_lumref_Name fu a0 = some r) : FnOk Tryd.prog 47 [(str a0)] [] [] (fun (i : Unit) => { val := (Value.int .i64 r) }) := by
  unfold f_lumref_Name at h
  refine fn_enter Tryd.func47 rfl Tryd.ntmps47 rfl (fun w0 Z0 => ?_)
  refine aw_seq ?_
  refine aw_region ?_
  refine al_val (ov_assign rfl rfl) ?_
  refine al_nil ?_
  refine aq_then ?_
  refine aw_seq ?_
  refine aw_region ?_
  refine al_val (ov_move rfl rfl) ?_
  obtain ⟨r2, hc1, h⟩ := opt_some h
  refine al_call (vs := [(str a0)]) (f_lumref_Chars_ok fu a0 hc1) [] [] [] pre_nil rfl (by simp) (by decide) (.inl rfl) rfl Tryd.func92 rfl rfl rfl (fun v3 => ?_)
  refine al_val (ov_move rfl rfl) ?_
  refine al_val (ov_extract rfl rfl rfl) ?_
  refine al_val (ov_extract rfl rfl rfl) ?_
  refine al_val (ov_assign rfl rfl) ?_
  refine al_val (ov_assign rfl rfl) ?_
  refine al_nil ?_
  refine aq_then ?_
  refine aw_seq ?_
  obtain ⟨kk5, hkk5, h⟩ := lt_some h
  refine aw_seq_join (ι := Bool) (fun i => (memOf w0 Z0 [] [(oRow v3 3 (tyInt .i64) r2.1)] [])) (fun i => (tab [(3, v3), (26, (Value.bool i))])) (fun i => kk5 i = some r) ?_ ?_
  · rintro j4b26 h
    have h : kk5 j4b26 = some r := h
    rw [hkk5] at h
    dsimp only at h
    clear hkk5
    refine aw_show (m := (memOf w0 Z0 [] [(oRow v3 3 (tyInt .i64) r2.1)] [])) (S := (tab [(3, v3), (26, (Value.bool j4b26))])) ?_
    refine aw_cond rfl (fun hb6 => ?_) (fun hb6 => ?_)
    · replace h := bif_t hb6 h
      refine aw_seq ?_
      refine aw_region ?_
      refine al_val (ov_assign rfl rfl) ?_
      refine al_nil ?_
      refine aq_then ?_
      refine aw_ret ?_
      refine aq_then_ret ?_
      obtain rfl := Option.some.inj h
      exact fn_ret () [] [] rfl rfl rfl rfl (res1 rfl rfl) rfl rfl rfl (by decide)
    · replace h := bif_f hb6 h
      refine aw_skip ?_
      refine aq_then ?_
      obtain ⟨kk8, hkk8, h⟩ := lt_some h
      refine aw_seq_join (ι := Unit) (fun i => (memOf w0 Z0 [] [(oRow v3 3 (tyInt .i64) r2.1)] [])) (fun i => (tab [(3, v3)])) (fun i => kk8 () = some r) ?_ ?_
      · rintro _ h
        have h : kk8 () = some r := h
        rw [hkk8] at h
        dsimp only at h
        clear hkk8
        refine aw_show (m := (memOf w0 Z0 [] [(oRow v3 3 (tyInt .i64) r2.1)] [])) (S := (tab [(3, v3)])) ?_
        refine aw_seq ?_
        refine aw_seq ?_
        refine aw_region ?_
        refine al_val (ov_move rfl rfl) ?_
        refine al_val (ov_lenR 0 rfl rfl Tryd.underlying59 rfl) ?_
        refine al_val (ov_int rfl rfl rfl rfl) ?_
        refine al_nil ?_
        refine aq_then ?_
        refine aw_cond rfl (fun hb9 => ?_) (fun hb9 => ?_)
        · replace h := bif_t hb9 h
          refine aw_seq ?_
          refine aw_region ?_
          refine al_val (ov_assign rfl rfl) ?_
          refine al_nil ?_
          refine aq_then ?_
          refine aw_ret ?_
          refine aq_then_ret ?_
          obtain rfl := Option.some.inj h
          exact fn_ret () [] [] rfl rfl rfl rfl (res1 rfl rfl) rfl rfl rfl (by decide)
        · replace h := bif_f hb9 h
          refine aw_skip ?_
          refine aq_then ?_
          refine aw_seq ?_
          refine aw_region ?_
          refine al_val (ov_assign rfl rfl) ?_
          refine al_nil ?_
          refine aq_then ?_
          refine aw_ret ?_
          obtain rfl := Option.some.inj h
          exact fn_ret () [] [] rfl rfl rfl rfl (res1 rfl rfl) rfl rfl rfl (by decide)
      · clear hkk8
        refine aw_seq ?_
        refine aw_region ?_
        refine al_val (ov_move rfl rfl) ?_
        refine al_val (ov_lenR 0 rfl rfl Tryd.underlying59 rfl) ?_
        refine al_val (ov_move rfl rfl) ?_
        refine al_nil ?_
        refine aq_then ?_
        refine aw_block ?_
        refine aw_state (aw_loop (ι := Int) (fun i => (memOf w0 Z0 [] [(oRow v3 3 (tyInt .i64) r2.1)] [])) (fun i => (tab [(3, v3), (27, v3), (28, (Value.int .i64 (r2.1.length : Int))), (29, (Value.int .i64 i))])) (fun q i => f_lumref_Name_L12 r2 kk8 q i = some r) ?_ fu (0 : Int) h) (fun w a hm hs => norm hm hs [0] [] [(3, v3), (27, v3), (28, (Value.int .i64 (r2.1.length : Int))), (29, (Value.int .i64 (0 : Int)))] (by decide) ⟨rfl, rfl, rfl, rfl, trivial⟩)
        clear h
        rintro k11 l10i29 h
        have h : f_lumref_Name_L12 r2 kk8 k11 l10i29 = some r := h
        obtain _ | k11 := k11
        · rw [f_lumref_Name_L12] at h; cases h
        rw [f_lumref_Name_L12] at h
        refine aw_show (m := (memOf w0 Z0 [] [(oRow v3 3 (tyInt .i64) r2.1)] [])) (S := (tab [(3, v3), (27, v3), (28, (Value.int .i64 (r2.1.length : Int))), (29, (Value.int .i64 l10i29))])) ?_
        refine aw_seq ?_
        refine aw_region ?_
        refine al_val (ov_int rfl rfl rfl rfl) ?_
        refine al_nil ?_
        refine aq_then ?_
        refine aw_seq ?_
        refine aw_cond rfl (fun hb13 => ?_) (fun hb13 => ?_)
        · replace h := bif_t hb13 h
          refine aw_skip ?_
          refine aq_then ?_
          refine aw_seq ?_
          refine aw_block ?_
          refine aw_seq ?_
          refine aw_region ?_
          obtain ⟨u14, hu15, h⟩ := opt_some h
          refine al_idxR 0 (at_some hu15).1 (at_some hu15).2.1 rfl rfl rfl Tryd.underlying59 sz3 rfl (fun p16 hp17 => ?_)
          refine al_val (ov_loadR (ds := [(Value.int .i64 u14)]) 0 rfl hp17 (at_some hu15).2.2 (fun h => h) rfl Tryd.underlying3 sz3 rfl rfl rfl) ?_
          refine al_val (ov_assign rfl rfl) ?_
          refine al_nil ?_
          refine aq_then ?_
          obtain ⟨kk19, hkk19, h⟩ := lt_some h
          refine aw_seq_join (ι := Bool) (fun i => (memOf w0 Z0 [] [(oRow v3 3 (tyInt .i64) r2.1)] [])) (fun i => (tab [(3, v3), (27, v3), (28, (Value.int .i64 (r2.1.length : Int))), (29, (Value.int .i64 l10i29)), (42, (Value.bool i))])) (fun i => kk19 i = some r) ?_ ?_
          · rintro j18b42 h
            have h : kk19 j18b42 = some r := h
            rw [hkk19] at h
            dsimp only at h
            clear hkk19
            refine aw_show (m := (memOf w0 Z0 [] [(oRow v3 3 (tyInt .i64) r2.1)] [])) (S := (tab [(3, v3), (27, v3), (28, (Value.int .i64 (r2.1.length : Int))), (29, (Value.int .i64 l10i29)), (42, (Value.bool j18b42))])) ?_
            refine aw_cond rfl (fun hb20 => ?_) (fun hb20 => ?_)
            · replace h := bif_t hb20 h
              refine aw_seq ?_
              refine aw_region ?_
              refine al_val (ov_assign rfl rfl) ?_
              refine al_nil ?_
              refine aq_then ?_
              refine aw_ret ?_
              refine aq_block_ret ?_
              refine aq_then_ret ?_
              refine aq_then_ret ?_
              refine aq_block_ret ?_
              refine aq_then_ret ?_
              obtain rfl := Option.some.inj h
              exact fn_ret () [] [] rfl rfl rfl rfl (res1 rfl rfl) rfl rfl rfl (by decide)
            · replace h := bif_f hb20 h
              refine aw_skip ?_
              refine aq_block ?_
              refine aq_then ?_
              refine aw_region ?_
              refine al_val (ov_int rfl rfl rfl rfl) ?_
              refine al_val (ov_move rfl rfl) ?_
              refine al_nil ?_
              exact aq_again k11 (IntKind.i64.wrap (l10i29 + (1 : Int))) (Nat.lt_succ_self _) h (fun w a hm hs => norm hm hs [0] [] [(3, v3), (27, v3), (28, (Value.int .i64 (r2.1.length : Int))), (29, (Value.int .i64 (IntKind.i64.wrap (l10i29 + (1 : Int)))))] (by decide) ⟨rfl, rfl, rfl, rfl, trivial⟩)
          · clear hkk19
            refine aw_region ?_
            refine al_val (ov_move rfl rfl) ?_
            refine al_val (ov_int rfl rfl rfl rfl) ?_
            refine al_val (ov_move rfl rfl) ?_
            refine al_caseB 35 rfl (fun hb21 => ?_) (fun hb21 => ?_)
            · replace h := bif_t hb21 h
              refine al_skip ?_
              refine al_skip ?_
              refine al_val (ov_pick_t rfl rfl rfl) ?_
              refine al_val (ov_move rfl rfl) ?_
              refine al_skip ?_
              refine al_skip ?_
              refine al_val (ov_pick_t rfl rfl rfl) ?_
              refine al_nil ?_
              exact aq_join true h (fun w a hm hs => norm hm hs [0] [] [(3, v3), (27, v3), (28, (Value.int .i64 (r2.1.length : Int))), (29, (Value.int .i64 l10i29)), (42, (Value.bool true))] (by decide) ⟨rfl, rfl, rfl, rfl, rfl, trivial⟩)
            · replace h := bif_f hb21 h
              refine al_val (ov_move rfl rfl) ?_
              refine al_val (ov_int rfl rfl rfl rfl) ?_
              refine al_val (ov_pick_f rfl rfl rfl) ?_
              refine al_val (ov_move rfl rfl) ?_
              refine al_caseB 39 rfl (fun hb22 => ?_) (fun hb22 => ?_)
              · replace h := bif_t hb22 h
                refine al_skip ?_
                refine al_skip ?_
                refine al_val (ov_pick_t rfl rfl rfl) ?_
                refine al_nil ?_
                exact aq_join true h (fun w a hm hs => norm hm hs [0] [] [(3, v3), (27, v3), (28, (Value.int .i64 (r2.1.length : Int))), (29, (Value.int .i64 l10i29)), (42, (Value.bool true))] (by decide) ⟨rfl, rfl, rfl, rfl, rfl, trivial⟩)
              · replace h := bif_f hb22 h
                refine al_val (ov_move rfl rfl) ?_
                refine al_val (ov_int rfl rfl rfl rfl) ?_
                refine al_val (ov_pick_f rfl rfl rfl) ?_
                refine al_nil ?_
                exact aq_join (u14 == (127 : Int)) h (fun w a hm hs => norm hm hs [0] [] [(3, v3), (27, v3), (28, (Value.int .i64 (r2.1.length : Int))), (29, (Value.int .i64 l10i29)), (42, (Value.bool (u14 == (127 : Int))))] (by decide) ⟨rfl, rfl, rfl, rfl, rfl, trivial⟩)
        · replace h := bif_f hb13 h
          refine aw_exit ?_
          refine aq_then_exit ?_
          refine aq_then_exit ?_
          refine aq_block_exit ?_
          exact aq_join () h (fun w a hm hs => norm hm hs [0] [] [(3, v3)] (by decide) ⟨rfl, trivial⟩)
  · clear hkk5
    refine aw_region ?_
    refine al_val (ov_move rfl rfl) ?_
    refine al_val (ov_not rfl rfl) ?_
    refine al_val (ov_move rfl rfl) ?_
    refine al_caseB 14 rfl (fun hb23 => ?_) (fun hb23 => ?_)
    · replace h := bif_t hb23 h
      refine al_skip ?_
      refine al_skip ?_
      refine al_skip ?_
      refine al_val (ov_pick_t rfl rfl rfl) ?_
      refine al_val (ov_move rfl rfl) ?_
      refine al_skip ?_
      refine al_skip ?_
      refine al_val (ov_pick_t rfl rfl rfl) ?_
      refine al_val (ov_move rfl rfl) ?_
      refine al_skip ?_
      refine al_skip ?_
      refine al_val (ov_pick_t rfl rfl rfl) ?_
      refine al_nil ?_
      exact aq_join true h (fun w a hm hs => norm hm hs [0] [] [(3, v3), (26, (Value.bool true))] (by decide) ⟨rfl, rfl, trivial⟩)
    · replace h := bif_f hb23 h
      refine al_val (ov_move rfl rfl) ?_
      refine al_val (ov_lenR 0 rfl rfl Tryd.underlying59 rfl) ?_
      refine al_val (ov_int rfl rfl rfl rfl) ?_
      refine al_val (ov_pick_f rfl rfl rfl) ?_
      refine al_val (ov_move rfl rfl) ?_
      refine al_caseB 19 rfl (fun hb24 => ?_) (fun hb24 => ?_)
      · replace h := bif_t hb24 h
        refine al_skip ?_
        refine al_skip ?_
        refine al_val (ov_pick_t rfl rfl rfl) ?_
        refine al_val (ov_move rfl rfl) ?_
        refine al_skip ?_
        refine al_skip ?_
        refine al_val (ov_pick_t rfl rfl rfl) ?_
        refine al_nil ?_
        exact aq_join true h (fun w a hm hs => norm hm hs [0] [] [(3, v3), (26, (Value.bool true))] (by decide) ⟨rfl, rfl, trivial⟩)
      · replace h := bif_f hb24 h
        refine al_val (ov_move rfl rfl) ?_
        refine al_val (ov_strCmp rfl rfl rfl rfl) ?_
        refine al_val (ov_pick_f rfl rfl rfl) ?_
        refine al_val (ov_move rfl rfl) ?_
        refine al_caseB 23 rfl (fun hb25 => ?_) (fun hb25 => ?_)
        · replace h := bif_t hb25 h
          refine al_skip ?_
          refine al_skip ?_
          refine al_val (ov_pick_t rfl rfl rfl) ?_
          refine al_nil ?_
          exact aq_join true h (fun w a hm hs => norm hm hs [0] [] [(3, v3), (26, (Value.bool true))] (by decide) ⟨rfl, rfl, trivial⟩)
        · replace h := bif_f hb25 h
          refine al_val (ov_move rfl rfl) ?_
          refine al_val (ov_strCmp rfl rfl rfl rfl) ?_
          refine al_val (ov_pick_f rfl rfl rfl) ?_
          refine al_nil ?_
          exact aq_join (a0 == ([46, 46] : List UInt8)) h (fun w a hm hs => norm hm hs [0] [] [(3, v3), (26, (Value.bool (a0 == ([46, 46] : List UInt8))))] (by decide) ⟨rfl, rfl, trivial⟩)
def f_lumref_nodeErr (fu : Nat) (a0 : S_api_Node) : Option Int := (opt (f_lumref_Name fu a0.Name) fun (r3 : Int) => (bif (r3 != (0 : Int)) then (some r3) else (lt (fun (j5b33 : Bool) => (bif j5b33 then (some (1 : Int)) else (lt (fun (j8b34 : Bool) => (bif j8b34 then (some (5 : Int)) else (lt (fun (j11b43 : Bool) => (bif j11b43 then (some (4 : Int)) else (bif (decide ((a0.Link.length : Int) > (1024 : Int))) then (some (2 : Int)) else (some (0 : Int))))) fun (kk12 : Bool → Option Int) => (lt (fun (j15b43 : Bool) => (bif j15b43 then (kk12 j15b43) else (lt (fun (j18b43 : Bool) => (bif j18b43 then (kk12 j18b43) else (lt (fun (j21b43 : Bool) => (bif j21b43 then (kk12 j21b43) else (bif (a0.Kind == (3 : Int)) then (bif ((a0.Parts.length : Int) != (0 : Int)) then (kk12 true) else (kk12 (a0.Link == ([] : List UInt8)))) else (kk12 false)))) fun (kk22 : Bool → Option Int) => (bif (a0.Kind == (2 : Int)) then (bif ((a0.Parts.length : Int) != (1 : Int)) then (kk22 true) else (kk22 (!(a0.Link == ([] : List UInt8))))) else (kk22 false))))) fun (kk19 : Bool → Option Int) => (bif (decide (a0.Kind > (1 : Int))) then (kk19 (a0.Size != (0 : Int))) else (kk19 false))))) fun (kk16 : Bool → Option Int) => (bif (a0.Kind == (1 : Int)) then (kk16 (!(a0.Link == ([] : List UInt8)))) else (kk16 false)))))) fun (kk9 : Bool → Option Int) => (bif (decide (a0.Kind < (1 : Int))) then (kk9 true) else (kk9 (decide (a0.Kind > (3 : Int)))))))) fun (kk6 : Bool → Option Int) => (bif (decide (a0.Mode < (0 : Int))) then (kk6 true) else (bif (decide (a0.Mode > (511 : Int))) then (kk6 true) else (bif (decide (a0.Size < (0 : Int))) then (kk6 true) else (bif (decide (a0.Size > (4096 : Int))) then (kk6 true) else (kk6 (decide ((a0.Parts.length : Int) > (300 : Int)))))))))))
set_option maxRecDepth 100000 in
theorem f_lumref_nodeErr_ok (fu : Nat) (v0_5 : Value) (a0 : S_api_Node) {r : Int} (h : f_lumref_nodeErr fu a0 = some r) : FnOk Tryd.prog 60 [(ag [(str a0.Name), (Value.int .i64 a0.Kind), (Value.int .i64 a0.Mode), (Value.int .i64 a0.Time), (Value.int .i64 a0.Size), v0_5, (str a0.Link)])] [(fDat (tyList tyA8u8) [v0_5] a0.Parts)] [] (fun (i : Unit) => { val := (Value.int .i64 r) }) := by
  unfold f_lumref_nodeErr at h
  refine fn_enter Tryd.func60 rfl Tryd.ntmps60 rfl (fun w0 Z0 => ?_)
  refine aw_seq ?_
  refine aw_region ?_
  refine al_box (vs := [(str a0.Name), (Value.int .i64 a0.Kind), (Value.int .i64 a0.Mode), (Value.int .i64 a0.Time), (Value.int .i64 a0.Size), v0_5, (str a0.Link)]) rfl (cv_rfl rfl) rfl (fun g1 => ?_)
  refine al_val (ov_assign rfl rfl) ?_
  refine al_nil ?_
  refine aq_then ?_
  refine aw_seq ?_
  refine aw_seq ?_
  refine aw_region ?_
  refine al_val (ov_fieldA (p := 0) rfl Tryd.underlying40 rfl sz9 rfl rfl rfl) ?_
  refine al_val (ov_load (i := 0) (v := (str a0.Name)) rfl rfl Tryd.underlying9 sz9 rfl rfl rfl rfl) ?_
  obtain ⟨r3, hc2, h⟩ := opt_some h
  refine al_call (vs := [(str a0.Name)]) (f_lumref_Name_ok fu a0.Name hc2) [] [] [0] pre_nil rfl (by simp) (by decide) (.inl rfl) rfl Tryd.func47 rfl rfl rfl (fun _ => ?_)
  refine al_val (ov_assign rfl rfl) ?_
  refine al_nil ?_
  refine aq_then ?_
  refine aw_seq ?_
  refine aw_region ?_
  refine al_val (ov_move rfl rfl) ?_
  refine al_val (ov_int rfl rfl rfl rfl) ?_
  refine al_nil ?_
  refine aq_then ?_
  refine aw_cond rfl (fun hb4 => ?_) (fun hb4 => ?_)
  · replace h := bif_t hb4 h
    refine aw_seq ?_
    refine aw_region ?_
    refine al_val (ov_move rfl rfl) ?_
    refine al_val (ov_assign rfl rfl) ?_
    refine al_nil ?_
    refine aq_then ?_
    refine aw_ret ?_
    refine aq_then_ret ?_
    obtain rfl := Option.some.inj h
    exact fn_ret () [] [] rfl rfl rfl rfl (res1 rfl rfl) rfl rfl rfl (by decide)
  · replace h := bif_f hb4 h
    refine aw_skip ?_
    refine aq_then ?_
    refine aw_seq ?_
    obtain ⟨kk6, hkk6, h⟩ := lt_some h
    refine aw_seq_join (ι := Bool) (fun i => (memOf w0 Z0 [] [(oBox g1 40 [(str a0.Name), (Value.int .i64 a0.Kind), (Value.int .i64 a0.Mode), (Value.int .i64 a0.Time), (Value.int .i64 a0.Size), v0_5, (str a0.Link)])] [(fDat (tyList tyA8u8) [v0_5] a0.Parts)])) (fun i => (tab [(1, (ptr g1 0)), (33, (Value.bool i))])) (fun i => kk6 i = some r) ?_ ?_
    · rintro j5b33 h
      have h : kk6 j5b33 = some r := h
      rw [hkk6] at h
      dsimp only at h
      clear hkk6
      refine aw_show (m := (memOf w0 Z0 [] [(oBox g1 40 [(str a0.Name), (Value.int .i64 a0.Kind), (Value.int .i64 a0.Mode), (Value.int .i64 a0.Time), (Value.int .i64 a0.Size), v0_5, (str a0.Link)])] [(fDat (tyList tyA8u8) [v0_5] a0.Parts)])) (S := (tab [(1, (ptr g1 0)), (33, (Value.bool j5b33))])) ?_
      refine aw_cond rfl (fun hb7 => ?_) (fun hb7 => ?_)
      · replace h := bif_t hb7 h
        refine aw_seq ?_
        refine aw_region ?_
        refine al_val (ov_assign rfl rfl) ?_
        refine al_nil ?_
        refine aq_then ?_
        refine aw_ret ?_
        refine aq_then_ret ?_
        obtain rfl := Option.some.inj h
        exact fn_ret () [] [] rfl rfl rfl rfl (res1 rfl rfl) rfl rfl rfl (by decide)
      · replace h := bif_f hb7 h
        refine aw_skip ?_
        refine aq_then ?_
        refine aw_seq ?_
        refine aw_block ?_
        obtain ⟨kk9, hkk9, h⟩ := lt_some h
        refine aw_seq_join (ι := Bool) (fun i => (memOf w0 Z0 [] [(oBox g1 40 [(str a0.Name), (Value.int .i64 a0.Kind), (Value.int .i64 a0.Mode), (Value.int .i64 a0.Time), (Value.int .i64 a0.Size), v0_5, (str a0.Link)])] [(fDat (tyList tyA8u8) [v0_5] a0.Parts)])) (fun i => (tab [(1, (ptr g1 0)), (34, (Value.bool i))])) (fun i => kk9 i = some r) ?_ ?_
        · rintro j8b34 h
          have h : kk9 j8b34 = some r := h
          rw [hkk9] at h
          dsimp only at h
          clear hkk9
          refine aw_show (m := (memOf w0 Z0 [] [(oBox g1 40 [(str a0.Name), (Value.int .i64 a0.Kind), (Value.int .i64 a0.Mode), (Value.int .i64 a0.Time), (Value.int .i64 a0.Size), v0_5, (str a0.Link)])] [(fDat (tyList tyA8u8) [v0_5] a0.Parts)])) (S := (tab [(1, (ptr g1 0)), (34, (Value.bool j8b34))])) ?_
          refine aw_cond rfl (fun hb10 => ?_) (fun hb10 => ?_)
          · replace h := bif_t hb10 h
            refine aw_seq ?_
            refine aw_region ?_
            refine al_val (ov_assign rfl rfl) ?_
            refine al_nil ?_
            refine aq_then ?_
            refine aw_ret ?_
            refine aq_block_ret ?_
            refine aq_then_ret ?_
            obtain rfl := Option.some.inj h
            exact fn_ret () [] [] rfl rfl rfl rfl (res1 rfl rfl) rfl rfl rfl (by decide)
          · replace h := bif_f hb10 h
            obtain ⟨kk12, hkk12, h⟩ := lt_some h
            refine aw_seq_join (ι := Bool) (fun i => (memOf w0 Z0 [] [(oBox g1 40 [(str a0.Name), (Value.int .i64 a0.Kind), (Value.int .i64 a0.Mode), (Value.int .i64 a0.Time), (Value.int .i64 a0.Size), v0_5, (str a0.Link)])] [(fDat (tyList tyA8u8) [v0_5] a0.Parts)])) (fun i => (tab [(1, (ptr g1 0)), (43, (Value.bool i))])) (fun i => kk12 i = some r) ?_ ?_
            · rintro j11b43 h
              have h : kk12 j11b43 = some r := h
              rw [hkk12] at h
              dsimp only at h
              clear hkk12
              refine aw_show (m := (memOf w0 Z0 [] [(oBox g1 40 [(str a0.Name), (Value.int .i64 a0.Kind), (Value.int .i64 a0.Mode), (Value.int .i64 a0.Time), (Value.int .i64 a0.Size), v0_5, (str a0.Link)])] [(fDat (tyList tyA8u8) [v0_5] a0.Parts)])) (S := (tab [(1, (ptr g1 0)), (43, (Value.bool j11b43))])) ?_
              refine aw_cond rfl (fun hb13 => ?_) (fun hb13 => ?_)
              · replace h := bif_t hb13 h
                refine aw_seq ?_
                refine aw_region ?_
                refine al_val (ov_assign rfl rfl) ?_
                refine al_nil ?_
                refine aq_then ?_
                refine aw_ret ?_
                refine aq_block_ret ?_
                refine aq_then_ret ?_
                obtain rfl := Option.some.inj h
                exact fn_ret () [] [] rfl rfl rfl rfl (res1 rfl rfl) rfl rfl rfl (by decide)
              · replace h := bif_f hb13 h
                refine aw_seq ?_
                refine aw_region ?_
                refine al_val (ov_fieldA (p := 6) rfl Tryd.underlying40 rfl sz9 rfl rfl rfl) ?_
                refine al_val (ov_load (i := 0) (v := (str a0.Link)) rfl rfl Tryd.underlying9 sz9 rfl rfl rfl rfl) ?_
                refine al_val (ov_strLen Tryd.underlying9 rfl rfl) ?_
                refine al_val (ov_int rfl rfl rfl rfl) ?_
                refine al_val (ov_assign rfl rfl) ?_
                refine al_nil ?_
                refine aq_then ?_
                refine aw_cond rfl (fun hb14 => ?_) (fun hb14 => ?_)
                · replace h := bif_t hb14 h
                  refine aw_seq ?_
                  refine aw_region ?_
                  refine al_val (ov_assign rfl rfl) ?_
                  refine al_nil ?_
                  refine aq_then ?_
                  refine aw_ret ?_
                  refine aq_block_ret ?_
                  refine aq_then_ret ?_
                  obtain rfl := Option.some.inj h
                  exact fn_ret () [] [] rfl rfl rfl rfl (res1 rfl rfl) rfl rfl rfl (by decide)
                · replace h := bif_f hb14 h
                  refine aw_skip ?_
                  refine aq_block ?_
                  refine aq_then ?_
                  refine aw_seq ?_
                  refine aw_region ?_
                  refine al_val (ov_assign rfl rfl) ?_
                  refine al_nil ?_
                  refine aq_then ?_
                  refine aw_ret ?_
                  obtain rfl := Option.some.inj h
                  exact fn_ret () [] [] rfl rfl rfl rfl (res1 rfl rfl) rfl rfl rfl (by decide)
            · clear hkk12
              obtain ⟨kk16, hkk16, h⟩ := lt_some h
              refine aw_seq_join (ι := Bool) (fun i => (memOf w0 Z0 [] [(oBox g1 40 [(str a0.Name), (Value.int .i64 a0.Kind), (Value.int .i64 a0.Mode), (Value.int .i64 a0.Time), (Value.int .i64 a0.Size), v0_5, (str a0.Link)])] [(fDat (tyList tyA8u8) [v0_5] a0.Parts)])) (fun i => (tab [(1, (ptr g1 0)), (43, (Value.bool i))])) (fun i => kk16 i = some r) ?_ ?_
              · rintro j15b43 h
                have h : kk16 j15b43 = some r := h
                rw [hkk16] at h
                dsimp only at h
                clear hkk16
                refine aw_show (m := (memOf w0 Z0 [] [(oBox g1 40 [(str a0.Name), (Value.int .i64 a0.Kind), (Value.int .i64 a0.Mode), (Value.int .i64 a0.Time), (Value.int .i64 a0.Size), v0_5, (str a0.Link)])] [(fDat (tyList tyA8u8) [v0_5] a0.Parts)])) (S := (tab [(1, (ptr g1 0)), (43, (Value.bool j15b43))])) ?_
                refine aw_cond rfl (fun hb17 => ?_) (fun hb17 => ?_)
                · replace h := bif_t hb17 h
                  refine aw_skip ?_
                  exact aq_join j15b43 h (fun w a hm hs => norm hm hs [0] [0] [(1, (ptr g1 0)), (43, (Value.bool j15b43))] (by decide) ⟨rfl, rfl, trivial⟩)
                · replace h := bif_f hb17 h
                  obtain ⟨kk19, hkk19, h⟩ := lt_some h
                  refine aw_seq_join (ι := Bool) (fun i => (memOf w0 Z0 [] [(oBox g1 40 [(str a0.Name), (Value.int .i64 a0.Kind), (Value.int .i64 a0.Mode), (Value.int .i64 a0.Time), (Value.int .i64 a0.Size), v0_5, (str a0.Link)])] [(fDat (tyList tyA8u8) [v0_5] a0.Parts)])) (fun i => (tab [(1, (ptr g1 0)), (43, (Value.bool i))])) (fun i => kk19 i = some r) ?_ ?_
                  · rintro j18b43 h
                    have h : kk19 j18b43 = some r := h
                    rw [hkk19] at h
                    dsimp only at h
                    clear hkk19
                    refine aw_show (m := (memOf w0 Z0 [] [(oBox g1 40 [(str a0.Name), (Value.int .i64 a0.Kind), (Value.int .i64 a0.Mode), (Value.int .i64 a0.Time), (Value.int .i64 a0.Size), v0_5, (str a0.Link)])] [(fDat (tyList tyA8u8) [v0_5] a0.Parts)])) (S := (tab [(1, (ptr g1 0)), (43, (Value.bool j18b43))])) ?_
                    refine aw_cond rfl (fun hb20 => ?_) (fun hb20 => ?_)
                    · replace h := bif_t hb20 h
                      refine aw_skip ?_
                      exact aq_join j18b43 h (fun w a hm hs => norm hm hs [0] [0] [(1, (ptr g1 0)), (43, (Value.bool j18b43))] (by decide) ⟨rfl, rfl, trivial⟩)
                    · replace h := bif_f hb20 h
                      obtain ⟨kk22, hkk22, h⟩ := lt_some h
                      refine aw_seq_join (ι := Bool) (fun i => (memOf w0 Z0 [] [(oBox g1 40 [(str a0.Name), (Value.int .i64 a0.Kind), (Value.int .i64 a0.Mode), (Value.int .i64 a0.Time), (Value.int .i64 a0.Size), v0_5, (str a0.Link)])] [(fDat (tyList tyA8u8) [v0_5] a0.Parts)])) (fun i => (tab [(1, (ptr g1 0)), (43, (Value.bool i))])) (fun i => kk22 i = some r) ?_ ?_
                      · rintro j21b43 h
                        have h : kk22 j21b43 = some r := h
                        rw [hkk22] at h
                        dsimp only at h
                        clear hkk22
                        refine aw_show (m := (memOf w0 Z0 [] [(oBox g1 40 [(str a0.Name), (Value.int .i64 a0.Kind), (Value.int .i64 a0.Mode), (Value.int .i64 a0.Time), (Value.int .i64 a0.Size), v0_5, (str a0.Link)])] [(fDat (tyList tyA8u8) [v0_5] a0.Parts)])) (S := (tab [(1, (ptr g1 0)), (43, (Value.bool j21b43))])) ?_
                        refine aw_cond rfl (fun hb23 => ?_) (fun hb23 => ?_)
                        · replace h := bif_t hb23 h
                          refine aw_skip ?_
                          exact aq_join j21b43 h (fun w a hm hs => norm hm hs [0] [0] [(1, (ptr g1 0)), (43, (Value.bool j21b43))] (by decide) ⟨rfl, rfl, trivial⟩)
                        · replace h := bif_f hb23 h
                          refine aw_region ?_
                          refine al_val (ov_fieldA (p := 1) rfl Tryd.underlying40 rfl sz3 rfl rfl rfl) ?_
                          refine al_val (ov_load (i := 0) (v := (Value.int .i64 a0.Kind)) rfl rfl Tryd.underlying3 sz3 rfl rfl rfl rfl) ?_
                          refine al_val (ov_int rfl rfl rfl rfl) ?_
                          refine al_val (ov_move rfl rfl) ?_
                          refine al_caseB 77 rfl (fun hb24 => ?_) (fun hb24 => ?_)
                          · replace h := bif_t hb24 h
                            refine al_val (ov_fieldA (p := 5) rfl Tryd.underlying40 rfl sz38 rfl rfl rfl) ?_
                            refine al_val (ov_load (i := 0) (v := v0_5) rfl rfl Tryd.underlying38 sz38 rfl rfl rfl rfl) ?_
                            refine al_val (ov_lenD 0 rfl rfl Tryd.underlying38 rfl) ?_
                            refine al_val (ov_int rfl rfl rfl rfl) ?_
                            refine al_val (ov_move rfl rfl) ?_
                            refine al_caseB 82 rfl (fun hb25 => ?_) (fun hb25 => ?_)
                            · replace h := bif_t hb25 h
                              refine al_skip ?_
                              refine al_skip ?_
                              refine al_skip ?_
                              refine al_val (ov_pick_t rfl rfl rfl) ?_
                              refine al_val (ov_pick_t rfl rfl rfl) ?_
                              refine al_val (ov_assign rfl rfl) ?_
                              refine al_nil ?_
                              exact aq_join true h (fun w a hm hs => norm hm hs [0] [0] [(1, (ptr g1 0)), (43, (Value.bool true))] (by decide) ⟨rfl, rfl, trivial⟩)
                            · replace h := bif_f hb25 h
                              refine al_val (ov_fieldA (p := 6) rfl Tryd.underlying40 rfl sz9 rfl rfl rfl) ?_
                              refine al_val (ov_load (i := 0) (v := (str a0.Link)) rfl rfl Tryd.underlying9 sz9 rfl rfl rfl rfl) ?_
                              refine al_val (ov_strCmp rfl rfl rfl rfl) ?_
                              refine al_val (ov_pick_f rfl rfl rfl) ?_
                              refine al_val (ov_pick_t rfl rfl rfl) ?_
                              refine al_val (ov_assign rfl rfl) ?_
                              refine al_nil ?_
                              exact aq_join (a0.Link == ([] : List UInt8)) h (fun w a hm hs => norm hm hs [0] [0] [(1, (ptr g1 0)), (43, (Value.bool (a0.Link == ([] : List UInt8))))] (by decide) ⟨rfl, rfl, trivial⟩)
                          · replace h := bif_f hb24 h
                            refine al_skip ?_
                            refine al_skip ?_
                            refine al_skip ?_
                            refine al_skip ?_
                            refine al_skip ?_
                            refine al_skip ?_
                            refine al_skip ?_
                            refine al_skip ?_
                            refine al_skip ?_
                            refine al_val (ov_pick_f rfl rfl rfl) ?_
                            refine al_val (ov_assign rfl rfl) ?_
                            refine al_nil ?_
                            exact aq_join false h (fun w a hm hs => norm hm hs [0] [0] [(1, (ptr g1 0)), (43, (Value.bool false))] (by decide) ⟨rfl, rfl, trivial⟩)
                      · clear hkk22
                        refine aw_region ?_
                        refine al_val (ov_fieldA (p := 1) rfl Tryd.underlying40 rfl sz3 rfl rfl rfl) ?_
                        refine al_val (ov_load (i := 0) (v := (Value.int .i64 a0.Kind)) rfl rfl Tryd.underlying3 sz3 rfl rfl rfl rfl) ?_
                        refine al_val (ov_int rfl rfl rfl rfl) ?_
                        refine al_val (ov_move rfl rfl) ?_
                        refine al_caseB 63 rfl (fun hb26 => ?_) (fun hb26 => ?_)
                        · replace h := bif_t hb26 h
                          refine al_val (ov_fieldA (p := 5) rfl Tryd.underlying40 rfl sz38 rfl rfl rfl) ?_
                          refine al_val (ov_load (i := 0) (v := v0_5) rfl rfl Tryd.underlying38 sz38 rfl rfl rfl rfl) ?_
                          refine al_val (ov_lenD 0 rfl rfl Tryd.underlying38 rfl) ?_
                          refine al_val (ov_int rfl rfl rfl rfl) ?_
                          refine al_val (ov_move rfl rfl) ?_
                          refine al_caseB 68 rfl (fun hb27 => ?_) (fun hb27 => ?_)
                          · replace h := bif_t hb27 h
                            refine al_skip ?_
                            refine al_skip ?_
                            refine al_skip ?_
                            refine al_val (ov_pick_t rfl rfl rfl) ?_
                            refine al_val (ov_pick_t rfl rfl rfl) ?_
                            refine al_val (ov_assign rfl rfl) ?_
                            refine al_nil ?_
                            exact aq_join true h (fun w a hm hs => norm hm hs [0] [0] [(1, (ptr g1 0)), (43, (Value.bool true))] (by decide) ⟨rfl, rfl, trivial⟩)
                          · replace h := bif_f hb27 h
                            refine al_val (ov_fieldA (p := 6) rfl Tryd.underlying40 rfl sz9 rfl rfl rfl) ?_
                            refine al_val (ov_load (i := 0) (v := (str a0.Link)) rfl rfl Tryd.underlying9 sz9 rfl rfl rfl rfl) ?_
                            refine al_val (ov_strCmp rfl rfl rfl rfl) ?_
                            refine al_val (ov_pick_f rfl rfl rfl) ?_
                            refine al_val (ov_pick_t rfl rfl rfl) ?_
                            refine al_val (ov_assign rfl rfl) ?_
                            refine al_nil ?_
                            exact aq_join (!(a0.Link == ([] : List UInt8))) h (fun w a hm hs => norm hm hs [0] [0] [(1, (ptr g1 0)), (43, (Value.bool (!(a0.Link == ([] : List UInt8)))))] (by decide) ⟨rfl, rfl, trivial⟩)
                        · replace h := bif_f hb26 h
                          refine al_skip ?_
                          refine al_skip ?_
                          refine al_skip ?_
                          refine al_skip ?_
                          refine al_skip ?_
                          refine al_skip ?_
                          refine al_skip ?_
                          refine al_skip ?_
                          refine al_skip ?_
                          refine al_val (ov_pick_f rfl rfl rfl) ?_
                          refine al_val (ov_assign rfl rfl) ?_
                          refine al_nil ?_
                          exact aq_join false h (fun w a hm hs => norm hm hs [0] [0] [(1, (ptr g1 0)), (43, (Value.bool false))] (by decide) ⟨rfl, rfl, trivial⟩)
                  · clear hkk19
                    refine aw_region ?_
                    refine al_val (ov_fieldA (p := 1) rfl Tryd.underlying40 rfl sz3 rfl rfl rfl) ?_
                    refine al_val (ov_load (i := 0) (v := (Value.int .i64 a0.Kind)) rfl rfl Tryd.underlying3 sz3 rfl rfl rfl rfl) ?_
                    refine al_val (ov_int rfl rfl rfl rfl) ?_
                    refine al_val (ov_move rfl rfl) ?_
                    refine al_caseB 55 rfl (fun hb28 => ?_) (fun hb28 => ?_)
                    · replace h := bif_t hb28 h
                      refine al_val (ov_fieldA (p := 4) rfl Tryd.underlying40 rfl sz3 rfl rfl rfl) ?_
                      refine al_val (ov_load (i := 0) (v := (Value.int .i64 a0.Size)) rfl rfl Tryd.underlying3 sz3 rfl rfl rfl rfl) ?_
                      refine al_val (ov_int rfl rfl rfl rfl) ?_
                      refine al_val (ov_pick_t rfl rfl rfl) ?_
                      refine al_val (ov_assign rfl rfl) ?_
                      refine al_nil ?_
                      exact aq_join (a0.Size != (0 : Int)) h (fun w a hm hs => norm hm hs [0] [0] [(1, (ptr g1 0)), (43, (Value.bool (a0.Size != (0 : Int))))] (by decide) ⟨rfl, rfl, trivial⟩)
                    · replace h := bif_f hb28 h
                      refine al_skip ?_
                      refine al_skip ?_
                      refine al_skip ?_
                      refine al_val (ov_pick_f rfl rfl rfl) ?_
                      refine al_val (ov_assign rfl rfl) ?_
                      refine al_nil ?_
                      exact aq_join false h (fun w a hm hs => norm hm hs [0] [0] [(1, (ptr g1 0)), (43, (Value.bool false))] (by decide) ⟨rfl, rfl, trivial⟩)
              · clear hkk16
                refine aw_region ?_
                refine al_val (ov_fieldA (p := 1) rfl Tryd.underlying40 rfl sz3 rfl rfl rfl) ?_
                refine al_val (ov_load (i := 0) (v := (Value.int .i64 a0.Kind)) rfl rfl Tryd.underlying3 sz3 rfl rfl rfl rfl) ?_
                refine al_val (ov_int rfl rfl rfl rfl) ?_
                refine al_val (ov_move rfl rfl) ?_
                refine al_caseB 47 rfl (fun hb29 => ?_) (fun hb29 => ?_)
                · replace h := bif_t hb29 h
                  refine al_val (ov_fieldA (p := 6) rfl Tryd.underlying40 rfl sz9 rfl rfl rfl) ?_
                  refine al_val (ov_load (i := 0) (v := (str a0.Link)) rfl rfl Tryd.underlying9 sz9 rfl rfl rfl rfl) ?_
                  refine al_val (ov_strCmp rfl rfl rfl rfl) ?_
                  refine al_val (ov_pick_t rfl rfl rfl) ?_
                  refine al_val (ov_assign rfl rfl) ?_
                  refine al_nil ?_
                  exact aq_join (!(a0.Link == ([] : List UInt8))) h (fun w a hm hs => norm hm hs [0] [0] [(1, (ptr g1 0)), (43, (Value.bool (!(a0.Link == ([] : List UInt8)))))] (by decide) ⟨rfl, rfl, trivial⟩)
                · replace h := bif_f hb29 h
                  refine al_skip ?_
                  refine al_skip ?_
                  refine al_skip ?_
                  refine al_val (ov_pick_f rfl rfl rfl) ?_
                  refine al_val (ov_assign rfl rfl) ?_
                  refine al_nil ?_
                  exact aq_join false h (fun w a hm hs => norm hm hs [0] [0] [(1, (ptr g1 0)), (43, (Value.bool false))] (by decide) ⟨rfl, rfl, trivial⟩)
        · clear hkk9
          refine aw_region ?_
          refine al_val (ov_fieldA (p := 1) rfl Tryd.underlying40 rfl sz3 rfl rfl rfl) ?_
          refine al_val (ov_load (i := 0) (v := (Value.int .i64 a0.Kind)) rfl rfl Tryd.underlying3 sz3 rfl rfl rfl rfl) ?_
          refine al_val (ov_int rfl rfl rfl rfl) ?_
          refine al_val (ov_move rfl rfl) ?_
          refine al_caseB 38 rfl (fun hb30 => ?_) (fun hb30 => ?_)
          · replace h := bif_t hb30 h
            refine al_skip ?_
            refine al_skip ?_
            refine al_skip ?_
            refine al_val (ov_pick_t rfl rfl rfl) ?_
            refine al_val (ov_assign rfl rfl) ?_
            refine al_nil ?_
            exact aq_join true h (fun w a hm hs => norm hm hs [0] [0] [(1, (ptr g1 0)), (34, (Value.bool true))] (by decide) ⟨rfl, rfl, trivial⟩)
          · replace h := bif_f hb30 h
            refine al_val (ov_fieldA (p := 1) rfl Tryd.underlying40 rfl sz3 rfl rfl rfl) ?_
            refine al_val (ov_load (i := 0) (v := (Value.int .i64 a0.Kind)) rfl rfl Tryd.underlying3 sz3 rfl rfl rfl rfl) ?_
            refine al_val (ov_int rfl rfl rfl rfl) ?_
            refine al_val (ov_pick_f rfl rfl rfl) ?_
            refine al_val (ov_assign rfl rfl) ?_
            refine al_nil ?_
            exact aq_join (decide (a0.Kind > (3 : Int))) h (fun w a hm hs => norm hm hs [0] [0] [(1, (ptr g1 0)), (34, (Value.bool (decide (a0.Kind > (3 : Int)))))] (by decide) ⟨rfl, rfl, trivial⟩)
    · clear hkk6
      refine aw_region ?_
      refine al_val (ov_fieldA (p := 2) rfl Tryd.underlying40 rfl sz3 rfl rfl rfl) ?_
      refine al_val (ov_load (i := 0) (v := (Value.int .i64 a0.Mode)) rfl rfl Tryd.underlying3 sz3 rfl rfl rfl rfl) ?_
      refine al_val (ov_int rfl rfl rfl rfl) ?_
      refine al_val (ov_move rfl rfl) ?_
      refine al_caseB 13 rfl (fun hb31 => ?_) (fun hb31 => ?_)
      · replace h := bif_t hb31 h
        refine al_skip ?_
        refine al_skip ?_
        refine al_skip ?_
        refine al_val (ov_pick_t rfl rfl rfl) ?_
        refine al_val (ov_move rfl rfl) ?_
        refine al_skip ?_
        refine al_skip ?_
        refine al_skip ?_
        refine al_val (ov_pick_t rfl rfl rfl) ?_
        refine al_val (ov_move rfl rfl) ?_
        refine al_skip ?_
        refine al_skip ?_
        refine al_skip ?_
        refine al_val (ov_pick_t rfl rfl rfl) ?_
        refine al_val (ov_move rfl rfl) ?_
        refine al_skip ?_
        refine al_skip ?_
        refine al_skip ?_
        refine al_skip ?_
        refine al_val (ov_pick_t rfl rfl rfl) ?_
        refine al_nil ?_
        exact aq_join true h (fun w a hm hs => norm hm hs [0] [0] [(1, (ptr g1 0)), (33, (Value.bool true))] (by decide) ⟨rfl, rfl, trivial⟩)
      · replace h := bif_f hb31 h
        refine al_val (ov_fieldA (p := 2) rfl Tryd.underlying40 rfl sz3 rfl rfl rfl) ?_
        refine al_val (ov_load (i := 0) (v := (Value.int .i64 a0.Mode)) rfl rfl Tryd.underlying3 sz3 rfl rfl rfl rfl) ?_
        refine al_val (ov_int rfl rfl rfl rfl) ?_
        refine al_val (ov_pick_f rfl rfl rfl) ?_
        refine al_val (ov_move rfl rfl) ?_
        refine al_caseB 18 rfl (fun hb32 => ?_) (fun hb32 => ?_)
        · replace h := bif_t hb32 h
          refine al_skip ?_
          refine al_skip ?_
          refine al_skip ?_
          refine al_val (ov_pick_t rfl rfl rfl) ?_
          refine al_val (ov_move rfl rfl) ?_
          refine al_skip ?_
          refine al_skip ?_
          refine al_skip ?_
          refine al_val (ov_pick_t rfl rfl rfl) ?_
          refine al_val (ov_move rfl rfl) ?_
          refine al_skip ?_
          refine al_skip ?_
          refine al_skip ?_
          refine al_skip ?_
          refine al_val (ov_pick_t rfl rfl rfl) ?_
          refine al_nil ?_
          exact aq_join true h (fun w a hm hs => norm hm hs [0] [0] [(1, (ptr g1 0)), (33, (Value.bool true))] (by decide) ⟨rfl, rfl, trivial⟩)
        · replace h := bif_f hb32 h
          refine al_val (ov_fieldA (p := 4) rfl Tryd.underlying40 rfl sz3 rfl rfl rfl) ?_
          refine al_val (ov_load (i := 0) (v := (Value.int .i64 a0.Size)) rfl rfl Tryd.underlying3 sz3 rfl rfl rfl rfl) ?_
          refine al_val (ov_int rfl rfl rfl rfl) ?_
          refine al_val (ov_pick_f rfl rfl rfl) ?_
          refine al_val (ov_move rfl rfl) ?_
          refine al_caseB 23 rfl (fun hb33 => ?_) (fun hb33 => ?_)
          · replace h := bif_t hb33 h
            refine al_skip ?_
            refine al_skip ?_
            refine al_skip ?_
            refine al_val (ov_pick_t rfl rfl rfl) ?_
            refine al_val (ov_move rfl rfl) ?_
            refine al_skip ?_
            refine al_skip ?_
            refine al_skip ?_
            refine al_skip ?_
            refine al_val (ov_pick_t rfl rfl rfl) ?_
            refine al_nil ?_
            exact aq_join true h (fun w a hm hs => norm hm hs [0] [0] [(1, (ptr g1 0)), (33, (Value.bool true))] (by decide) ⟨rfl, rfl, trivial⟩)
          · replace h := bif_f hb33 h
            refine al_val (ov_fieldA (p := 4) rfl Tryd.underlying40 rfl sz3 rfl rfl rfl) ?_
            refine al_val (ov_load (i := 0) (v := (Value.int .i64 a0.Size)) rfl rfl Tryd.underlying3 sz3 rfl rfl rfl rfl) ?_
            refine al_val (ov_int rfl rfl rfl rfl) ?_
            refine al_val (ov_pick_f rfl rfl rfl) ?_
            refine al_val (ov_move rfl rfl) ?_
            refine al_caseB 28 rfl (fun hb34 => ?_) (fun hb34 => ?_)
            · replace h := bif_t hb34 h
              refine al_skip ?_
              refine al_skip ?_
              refine al_skip ?_
              refine al_skip ?_
              refine al_val (ov_pick_t rfl rfl rfl) ?_
              refine al_nil ?_
              exact aq_join true h (fun w a hm hs => norm hm hs [0] [0] [(1, (ptr g1 0)), (33, (Value.bool true))] (by decide) ⟨rfl, rfl, trivial⟩)
            · replace h := bif_f hb34 h
              refine al_val (ov_fieldA (p := 5) rfl Tryd.underlying40 rfl sz38 rfl rfl rfl) ?_
              refine al_val (ov_load (i := 0) (v := v0_5) rfl rfl Tryd.underlying38 sz38 rfl rfl rfl rfl) ?_
              refine al_val (ov_lenD 0 rfl rfl Tryd.underlying38 rfl) ?_
              refine al_val (ov_int rfl rfl rfl rfl) ?_
              refine al_val (ov_pick_f rfl rfl rfl) ?_
              refine al_nil ?_
              exact aq_join (decide ((a0.Parts.length : Int) > (300 : Int))) h (fun w a hm hs => norm hm hs [0] [0] [(1, (ptr g1 0)), (33, (Value.bool (decide ((a0.Parts.length : Int) > (300 : Int)))))] (by decide) ⟨rfl, rfl, trivial⟩)
def f_lumref_Nodes_L6 (a0 : (List S_api_Node)) (kk3 : (Unit → Option Int)) (fu : Nat) : Nat → Int → Option Int
  | 0, _ => none
  | k5 + 1, l4i11 => (bif (decide (l4i11 < (a0.length : Int))) then (opt (at? a0 l4i11) fun (u8 : S_api_Node) => (opt (f_lumref_nodeErr fu u8) fun (r15 : Int) => (bif (r15 != (0 : Int)) then (some r15) else (lt (fun (j17b33 : Bool) => (bif j17b33 then (some (4 : Int)) else (f_lumref_Nodes_L6 a0 kk3 fu k5 (IntKind.i64.wrap (l4i11 + (1 : Int)))))) fun (kk18 : Bool → Option Int) => (bif (decide (l4i11 > (0 : Int))) then (opt (at? a0 (IntKind.i64.wrap (l4i11 - (1 : Int)))) fun (u21 : S_api_Node) => (kk18 (!Op.bytesLess u21.Name u8.Name))) else (kk18 false)))))) else (kk3 ()))
def f_lumref_Nodes (fu : Nat) (a0 : (List S_api_Node)) : Option Int := (bif (decide ((a0.length : Int) > (64 : Int))) then (some (2 : Int)) else (lt (fun (_ : Unit) => (some (0 : Int))) fun (kk3 : Unit → Option Int) => (f_lumref_Nodes_L6 a0 kk3 fu fu (0 : Int))))
set_option maxRecDepth 100000 in
theorem f_lumref_Nodes_ok (fu : Nat) (v0_0 : Value) (a0 : (List S_api_Node)) {r : Int} (h : f_lumref_Nodes fu a0 = some r) : FnOk Tryd.prog 17 [v0_0] [(fDat (tyList tyS_api_Node) [v0_0] a0)] [] (fun (i : Unit) => { val := (Value.int .i64 r) }) := by
  unfold f_lumref_Nodes at h
  refine fn_enter Tryd.func17 rfl Tryd.ntmps17 rfl (fun w0 Z0 => ?_)
  refine aw_seq ?_
  refine aw_region ?_
  refine al_val (ov_assign rfl rfl) ?_
  refine al_nil ?_
  refine aq_then ?_
  refine aw_seq ?_
  refine aw_seq ?_
  refine aw_region ?_
  refine al_val (ov_move rfl rfl) ?_
  refine al_val (ov_lenD 0 rfl rfl Tryd.underlying32 rfl) ?_
  refine al_val (ov_int rfl rfl rfl rfl) ?_
  refine al_nil ?_
  refine aq_then ?_
  refine aw_cond rfl (fun hb1 => ?_) (fun hb1 => ?_)
  · replace h := bif_t hb1 h
    refine aw_seq ?_
    refine aw_region ?_
    refine al_val (ov_assign rfl rfl) ?_
    refine al_nil ?_
    refine aq_then ?_
    refine aw_ret ?_
    refine aq_then_ret ?_
    obtain rfl := Option.some.inj h
    exact fn_ret () [] [] rfl rfl rfl rfl (res1 rfl rfl) rfl rfl rfl (by decide)
  · replace h := bif_f hb1 h
    refine aw_skip ?_
    refine aq_then ?_
    obtain ⟨kk3, hkk3, h⟩ := lt_some h
    refine aw_seq_join (ι := Unit) (fun i => (memOf w0 Z0 [] [] [(fDat (tyList tyS_api_Node) [v0_0] a0)])) (fun i => (tab [])) (fun i => kk3 () = some r) ?_ ?_
    · rintro _ h
      have h : kk3 () = some r := h
      rw [hkk3] at h
      dsimp only at h
      clear hkk3
      refine aw_show (m := (memOf w0 Z0 [] [] [(fDat (tyList tyS_api_Node) [v0_0] a0)])) (S := (tab [])) ?_
      refine aw_seq ?_
      refine aw_region ?_
      refine al_val (ov_assign rfl rfl) ?_
      refine al_nil ?_
      refine aq_then ?_
      refine aw_ret ?_
      obtain rfl := Option.some.inj h
      exact fn_ret () [] [] rfl rfl rfl rfl (res1 rfl rfl) rfl rfl rfl (by decide)
    · clear hkk3
      refine aw_seq ?_
      refine aw_region ?_
      refine al_val (ov_move rfl rfl) ?_
      refine al_val (ov_lenD 0 rfl rfl Tryd.underlying32 rfl) ?_
      refine al_val (ov_move rfl rfl) ?_
      refine al_nil ?_
      refine aq_then ?_
      refine aw_block ?_
      refine aw_state (aw_loop (ι := Int) (fun i => (memOf w0 Z0 [] [] [(fDat (tyList tyS_api_Node) [v0_0] a0)])) (fun i => (tab [(0, v0_0), (9, v0_0), (10, (Value.int .i64 (a0.length : Int))), (11, (Value.int .i64 i))])) (fun q i => f_lumref_Nodes_L6 a0 kk3 fu q i = some r) ?_ fu (0 : Int) h) (fun w a hm hs => norm hm hs [] [0] [(0, v0_0), (9, v0_0), (10, (Value.int .i64 (a0.length : Int))), (11, (Value.int .i64 (0 : Int)))] (by decide) ⟨rfl, rfl, rfl, rfl, trivial⟩)
      clear h
      rintro k5 l4i11 h
      have h : f_lumref_Nodes_L6 a0 kk3 fu k5 l4i11 = some r := h
      obtain _ | k5 := k5
      · rw [f_lumref_Nodes_L6] at h; cases h
      rw [f_lumref_Nodes_L6] at h
      refine aw_show (m := (memOf w0 Z0 [] [] [(fDat (tyList tyS_api_Node) [v0_0] a0)])) (S := (tab [(0, v0_0), (9, v0_0), (10, (Value.int .i64 (a0.length : Int))), (11, (Value.int .i64 l4i11))])) ?_
      refine aw_seq ?_
      refine aw_region ?_
      refine al_val (ov_int rfl rfl rfl rfl) ?_
      refine al_nil ?_
      refine aq_then ?_
      refine aw_seq ?_
      refine aw_cond rfl (fun hb7 => ?_) (fun hb7 => ?_)
      · replace h := bif_t hb7 h
        refine aw_skip ?_
        refine aq_then ?_
        refine aw_seq ?_
        refine aw_block ?_
        refine aw_seq ?_
        refine aw_region ?_
        refine al_val (ov_move rfl rfl) ?_
        obtain ⟨u8, hu9, h⟩ := opt_some h
        refine al_idxD 0 hu9 rfl rfl rfl Tryd.underlying32 sz40 rfl (fun p10 => ?_)
        refine al_loadPA 0 rfl rfl Tryd.underlying40 sz40 rfl rfl (fun cs12 => ?_)
        refine al_use (ι := Value) 0 rfl (fun j => cs12 = [(str u8.Name), (Value.int .i64 u8.Kind), (Value.int .i64 u8.Mode), (Value.int .i64 u8.Time), (Value.int .i64 u8.Size), j, (str u8.Link)]) (fun j => [(fDat (tyList tyA8u8) [j] u8.Parts)]) encnS_api_Node (fun s11 hq => ?_)
        subst hq
        refine al_alloc (zs := [(str ([] : List UInt8)), (Value.int .i64 (0 : Int)), (Value.int .i64 (0 : Int)), (Value.int .i64 (0 : Int)), (Value.int .i64 (0 : Int)), (Value.slice none 0 0), (str ([] : List UInt8))]) (zeroOf_to to40) rfl rfl (fun g13 => ?_)
        refine al_val (ov_assign rfl rfl) ?_
        refine al_store (i := 0) (vs := [(str u8.Name), (Value.int .i64 u8.Kind), (Value.int .i64 u8.Mode), (Value.int .i64 u8.Time), (Value.int .i64 u8.Size), s11, (str u8.Link)]) (cs' := [(str u8.Name), (Value.int .i64 u8.Kind), (Value.int .i64 u8.Mode), (Value.int .i64 u8.Time), (Value.int .i64 u8.Size), s11, (str u8.Link)]) rfl rfl rfl sz40 (cv_rfl rfl) rfl (co_val rfl (co_val rfl (co_val rfl (co_val rfl (co_val rfl (co_fz 0 rfl (co_val rfl co_nil))))))) (Nat.le_of_ble_eq_true rfl) rfl rfl ?_
        refine al_nil ?_
        refine aq_then ?_
        refine aw_seq ?_
        refine aw_seq ?_
        refine aw_region ?_
        refine al_val (ov_load (i := 0) (v := (ag [(str u8.Name), (Value.int .i64 u8.Kind), (Value.int .i64 u8.Mode), (Value.int .i64 u8.Time), (Value.int .i64 u8.Size), s11, (str u8.Link)])) rfl rfl Tryd.underlying40 sz40 rfl rfl rfl rfl) ?_
        obtain ⟨r15, hc14, h⟩ := opt_some h
        refine al_call (vs := [(ag [(str u8.Name), (Value.int .i64 u8.Kind), (Value.int .i64 u8.Mode), (Value.int .i64 u8.Time), (Value.int .i64 u8.Size), s11, (str u8.Link)])]) (f_lumref_nodeErr_ok fu s11 u8 hc14) [] [] [0] (pre_fz 0 rfl pre_nil) rfl (by simp) (by decide) (.inl rfl) rfl Tryd.func60 rfl rfl rfl (fun _ => ?_)
        refine al_val (ov_assign rfl rfl) ?_
        refine al_nil ?_
        refine aq_then ?_
        refine aw_seq ?_
        refine aw_region ?_
        refine al_val (ov_move rfl rfl) ?_
        refine al_val (ov_int rfl rfl rfl rfl) ?_
        refine al_nil ?_
        refine aq_then ?_
        refine aw_cond rfl (fun hb16 => ?_) (fun hb16 => ?_)
        · replace h := bif_t hb16 h
          refine aw_seq ?_
          refine aw_region ?_
          refine al_val (ov_move rfl rfl) ?_
          refine al_val (ov_assign rfl rfl) ?_
          refine al_nil ?_
          refine aq_then ?_
          refine aw_ret ?_
          refine aq_then_ret ?_
          refine aq_block_ret ?_
          refine aq_then_ret ?_
          refine aq_then_ret ?_
          refine aq_block_ret ?_
          refine aq_then_ret ?_
          obtain rfl := Option.some.inj h
          exact fn_ret () [] [] rfl rfl rfl rfl (res1 rfl rfl) rfl rfl rfl (by decide)
        · replace h := bif_f hb16 h
          refine aw_skip ?_
          refine aq_then ?_
          obtain ⟨kk18, hkk18, h⟩ := lt_some h
          refine aw_seq_join (ι := Bool) (fun i => (memOf w0 Z0 [] [] [(fDat (tyList tyS_api_Node) [v0_0] a0), (fDat (tyList tyA8u8) [s11] u8.Parts), (fDat tyS_api_Node [(str u8.Name), (Value.int .i64 u8.Kind), (Value.int .i64 u8.Mode), (Value.int .i64 u8.Time), (Value.int .i64 u8.Size), s11, (str u8.Link)] u8), (fPtr tyS_api_Node p10 u8)])) (fun i => (tab [(0, v0_0), (9, v0_0), (10, (Value.int .i64 (a0.length : Int))), (11, (Value.int .i64 l4i11)), (33, (Value.bool i))])) (fun i => kk18 i = some r) ?_ ?_
          · rintro j17b33 h
            have h : kk18 j17b33 = some r := h
            rw [hkk18] at h
            dsimp only at h
            clear hkk18
            refine aw_show (m := (memOf w0 Z0 [] [] [(fDat (tyList tyS_api_Node) [v0_0] a0), (fDat (tyList tyA8u8) [s11] u8.Parts), (fDat tyS_api_Node [(str u8.Name), (Value.int .i64 u8.Kind), (Value.int .i64 u8.Mode), (Value.int .i64 u8.Time), (Value.int .i64 u8.Size), s11, (str u8.Link)] u8), (fPtr tyS_api_Node p10 u8)])) (S := (tab [(0, v0_0), (9, v0_0), (10, (Value.int .i64 (a0.length : Int))), (11, (Value.int .i64 l4i11)), (33, (Value.bool j17b33))])) ?_
            refine aw_cond rfl (fun hb19 => ?_) (fun hb19 => ?_)
            · replace h := bif_t hb19 h
              refine aw_seq ?_
              refine aw_region ?_
              refine al_val (ov_assign rfl rfl) ?_
              refine al_nil ?_
              refine aq_then ?_
              refine aw_ret ?_
              refine aq_block_ret ?_
              refine aq_then_ret ?_
              refine aq_then_ret ?_
              refine aq_block_ret ?_
              refine aq_then_ret ?_
              obtain rfl := Option.some.inj h
              exact fn_ret () [] [] rfl rfl rfl rfl (res1 rfl rfl) rfl rfl rfl (by decide)
            · replace h := bif_f hb19 h
              refine aw_skip ?_
              refine aq_block ?_
              refine aq_then ?_
              refine aw_region ?_
              refine al_val (ov_int rfl rfl rfl rfl) ?_
              refine al_val (ov_move rfl rfl) ?_
              refine al_nil ?_
              exact aq_again k5 (IntKind.i64.wrap (l4i11 + (1 : Int))) (Nat.lt_succ_self _) h (fun w a hm hs => norm hm hs [] [0] [(0, v0_0), (9, v0_0), (10, (Value.int .i64 (a0.length : Int))), (11, (Value.int .i64 (IntKind.i64.wrap (l4i11 + (1 : Int)))))] (by decide) ⟨rfl, rfl, rfl, rfl, trivial⟩)
          · clear hkk18
            rcases Bool.eq_false_or_eq_true (decide (l4i11 > (0 : Int))) with hb20 | hb20
            · replace h := bif_t hb20 h
              obtain ⟨u21, hu22, h⟩ := opt_some h
              refine aw_region_draw 12 [(21, (fun u => fEq u (Value.int .i64 l4i11))), (22, (fun u => fEq u (Value.bool true))), (23, (fun u => fEq u (Value.bool true))), (24, (fun u => fEq u v0_0)), (25, (fun u => fEq u (Value.int .i64 l4i11))), (26, (fun u => fEq u (Value.int .i64 (IntKind.i64.wrap (l4i11 - (1 : Int)))))), (27, (fun p23 => (fPtr tyS_api_Node p23 u21))), (28, (fun p24 => (fPtr tyStr p24 u21.Name))), (29, (fun u => fEq u (str u21.Name))), (30, (fun u => fEq u (ptr g13 0))), (31, (fun u => fEq u (str u8.Name))), (32, (fun u => fEq u (Value.bool (!Op.bytesLess u21.Name u8.Name))))] (tab [(0, v0_0), (3, (Value.int .i64 l4i11)), (4, (ptr g13 0)), (9, v0_0), (10, (Value.int .i64 (a0.length : Int))), (11, (Value.int .i64 l4i11))]) mixed (by kernel_rfl) rfl rfl rfl (fun a hs => hs.tab _ (allT_mem ⟨rfl, rfl, rfl, rfl, rfl, rfl, trivial⟩)) ⟨⟨rfl, ld_val (ov_move rfl rfl)⟩, ⟨rfl, ld_eq (j := 0) rfl rfl (ld_val (ov_cast (by first | rw [hb20] | rfl) (ov_int rfl rfl rfl rfl)))⟩, ⟨rfl, ld_eq (j := 1) rfl rfl (ld_val (ov_cast (by first | rw [hb20] | rfl) (ov_move rfl rfl)))⟩, ⟨rfl, ld_eq (j := 2) rfl rfl (ld_val (ov_move rfl rfl))⟩, ⟨rfl, ld_eq (j := 2) rfl rfl (ld_val (ov_move rfl rfl))⟩, ⟨rfl, ld_eq (j := 2) rfl rfl (ld_eq (j := 4) rfl rfl (ld_val (ov_int rfl rfl rfl rfl)))⟩, ⟨rfl, ld_eq (j := 2) rfl rfl (ld_eq (j := 3) rfl rfl (ld_eq (j := 5) rfl rfl (ld_of (of_idxD 3 hu22 rfl rfl rfl Tryd.underlying32 sz40 rfl))))⟩, ⟨rfl, ld_eq (j := 2) rfl rfl (ld_fact (j := 6) rfl rfl (fun p23 => ld_of (of_fieldD (pr := fun (y : S_api_Node) => y.Name) 0 rfl subS_api_Node_0 rfl Tryd.underlying40 rfl sz9 rfl rfl)))⟩, ⟨rfl, ld_eq (j := 2) rfl rfl (ld_fact (j := 7) rfl rfl (fun p24 => ld_val (ov_loadP (ds := [(str u21.Name)]) 0 rfl (fun h => h) rfl Tryd.underlying9 sz9 rfl rfl rfl)))⟩, ⟨rfl, ld_eq (j := 2) rfl rfl (ld_val (ov_fieldA (p := 0) rfl Tryd.underlying40 rfl sz9 rfl rfl rfl))⟩, ⟨rfl, ld_eq (j := 2) rfl rfl (ld_eq (j := 9) rfl rfl (ld_val (ov_load (i := 0) (v := (str u8.Name)) rfl rfl Tryd.underlying9 sz9 rfl rfl rfl rfl)))⟩, ⟨rfl, ld_eq (j := 2) rfl rfl (ld_eq (j := 8) rfl rfl (ld_eq (j := 10) rfl rfl (ld_val (ov_strCmp rfl rfl rfl rfl))))⟩, trivial⟩ ?_
              refine tl_eq 2 rfl ?_
              refine tl_eq 11 rfl ?_
              refine tl_done ?_
              refine al_val (ov_pick_t rfl rfl rfl) ?_
              refine al_nil ?_
              exact aq_join (!Op.bytesLess u21.Name u8.Name) h (fun w a hm hs => norm hm hs [] [3, 0, 1, 2] [(0, v0_0), (9, v0_0), (10, (Value.int .i64 (a0.length : Int))), (11, (Value.int .i64 l4i11)), (33, (Value.bool (!Op.bytesLess u21.Name u8.Name)))] (by decide) ⟨rfl, rfl, rfl, rfl, rfl, trivial⟩)
            · replace h := bif_f hb20 h
              refine aw_region_draw 12 [(21, (fun u => fEq u (Value.int .i64 l4i11))), (22, (fun u => fEq u (Value.bool false))), (23, (fun u => fEq u (Value.bool false))), (24, (fun u => fEq u undef)), (25, (fun u => fEq u undef)), (26, (fun u => fEq u undef)), (27, (fun u => fEq u undef)), (28, (fun u => fEq u undef)), (29, (fun u => fEq u undef)), (30, (fun u => fEq u undef)), (31, (fun u => fEq u undef)), (32, (fun u => fEq u undef))] (tab [(0, v0_0), (3, (Value.int .i64 l4i11)), (4, (ptr g13 0)), (9, v0_0), (10, (Value.int .i64 (a0.length : Int))), (11, (Value.int .i64 l4i11))]) mixed (by kernel_rfl) rfl rfl rfl (fun a hs => hs.tab _ (allT_mem ⟨rfl, rfl, rfl, rfl, rfl, rfl, trivial⟩)) ⟨⟨rfl, ld_val (ov_move rfl rfl)⟩, ⟨rfl, ld_eq (j := 0) rfl rfl (ld_val (ov_cast (by first | rw [hb20] | rfl) (ov_int rfl rfl rfl rfl)))⟩, ⟨rfl, ld_eq (j := 1) rfl rfl (ld_val (ov_cast (by first | rw [hb20] | rfl) (ov_move rfl rfl)))⟩, ⟨rfl, ld_eq (j := 2) rfl rfl (ld_skip)⟩, ⟨rfl, ld_eq (j := 2) rfl rfl (ld_skip)⟩, ⟨rfl, ld_eq (j := 2) rfl rfl (ld_skip)⟩, ⟨rfl, ld_eq (j := 2) rfl rfl (ld_skip)⟩, ⟨rfl, ld_eq (j := 2) rfl rfl (ld_skip)⟩, ⟨rfl, ld_eq (j := 2) rfl rfl (ld_skip)⟩, ⟨rfl, ld_eq (j := 2) rfl rfl (ld_skip)⟩, ⟨rfl, ld_eq (j := 2) rfl rfl (ld_skip)⟩, ⟨rfl, ld_eq (j := 2) rfl rfl (ld_skip)⟩, trivial⟩ ?_
              refine tl_eq 2 rfl ?_
              refine tl_eq 11 rfl ?_
              refine tl_done ?_
              refine al_val (ov_pick_f rfl rfl rfl) ?_
              refine al_nil ?_
              exact aq_join false h (fun w a hm hs => norm hm hs [] [3, 0, 1, 2] [(0, v0_0), (9, v0_0), (10, (Value.int .i64 (a0.length : Int))), (11, (Value.int .i64 l4i11)), (33, (Value.bool false))] (by decide) ⟨rfl, rfl, rfl, rfl, rfl, trivial⟩)
      · replace h := bif_f hb7 h
        refine aw_exit ?_
        refine aq_then_exit ?_
        refine aq_then_exit ?_
        refine aq_block_exit ?_
        exact aq_join () h (fun w a hm hs => norm hm hs [] [0] [] (by decide) trivial)
def f_names_Check_L10 (a0 : (List UInt8)) (kk5 : (Int → Option Int)) : Nat → Int → Int → Option Int
  | 0, _, _ => none
  | k9 + 1, l8i3, l8xp22 => (bif (decide (l8xp22.toNat < a0.length)) then (lt (fun (j12b35 : Bool) => (bif j12b35 then (some (8 : Int)) else (f_names_Check_L10 a0 kk5 k9 (IntKind.i64.wrap (l8i3 + (1 : Int))) ((l8xp22.toNat + (dec a0 l8xp22.toNat).2 : Nat) : Int)))) fun (kk13 : Bool → Option Int) => (bif ((((dec a0 l8xp22.toNat).1 : Nat) : Int) == (47 : Int)) then (kk13 true) else (bif (decide ((((dec a0 l8xp22.toNat).1 : Nat) : Int) < (32 : Int))) then (kk13 true) else (kk13 ((((dec a0 l8xp22.toNat).1 : Nat) : Int) == (127 : Int)))))) else (kk5 l8i3))
def f_names_Check (fu : Nat) (a0 : (List UInt8)) : Option Int := (lt (fun (j1b20 : Bool) => (bif j1b20 then (some (8 : Int)) else (lt (fun (j4i3 : Int) => (bif (decide (j4i3 > (24 : Int))) then (some (2 : Int)) else (some (0 : Int)))) fun (kk5 : Int → Option Int) => (f_names_Check_L10 a0 kk5 fu (0 : Int) (0 : Int))))) fun (kk2 : Bool → Option Int) => (bif (a0 == ([] : List UInt8)) then (kk2 true) else (bif (a0 == ([46] : List UInt8)) then (kk2 true) else (bif (a0 == ([46, 46] : List UInt8)) then (kk2 true) else (opt (f_utf8_ValidString fu a0) fun (r21 : Bool) => (kk2 (!r21)))))))
set_option maxRecDepth 100000 in
theorem f_names_Check_ok (fu : Nat) (a0 : (List UInt8)) {r : Int} (h : f_names_Check fu a0 = some r) : FnOk Tryd.prog 46 [(str a0)] [uTabs] [] (fun (i : Unit) => { val := (Value.int .i64 r) }) := by
  unfold f_names_Check at h
  refine fn_enter Tryd.func46 rfl Tryd.ntmps46 rfl (fun w0 Z0 => ?_)
  refine aw_seq ?_
  refine aw_region ?_
  refine al_val (ov_assign rfl rfl) ?_
  refine al_nil ?_
  refine aq_then ?_
  refine aw_seq ?_
  obtain ⟨kk2, hkk2, h⟩ := lt_some h
  refine aw_seq_join (ι := Bool) (fun i => (memOf w0 Z0 [] [] [uTabs])) (fun i => (tab [(0, (str a0)), (20, (Value.bool i))])) (fun i => kk2 i = some r) ?_ ?_
  · rintro j1b20 h
    have h : kk2 j1b20 = some r := h
    rw [hkk2] at h
    dsimp only at h
    clear hkk2
    refine aw_show (m := (memOf w0 Z0 [] [] [uTabs])) (S := (tab [(0, (str a0)), (20, (Value.bool j1b20))])) ?_
    refine aw_cond rfl (fun hb3 => ?_) (fun hb3 => ?_)
    · replace h := bif_t hb3 h
      refine aw_seq ?_
      refine aw_region ?_
      refine al_val (ov_assign rfl rfl) ?_
      refine al_nil ?_
      refine aq_then ?_
      refine aw_ret ?_
      refine aq_then_ret ?_
      obtain rfl := Option.some.inj h
      exact fn_ret () [] [] rfl rfl rfl rfl (res1 rfl rfl) rfl rfl rfl (by decide)
    · replace h := bif_f hb3 h
      refine aw_skip ?_
      refine aq_then ?_
      refine aw_seq ?_
      refine aw_region ?_
      refine al_val (ov_assign rfl rfl) ?_
      refine al_nil ?_
      refine aq_then ?_
      obtain ⟨kk5, hkk5, h⟩ := lt_some h
      refine aw_seq_join (ι := Int) (fun i => (memOf w0 Z0 [] [] [uTabs])) (fun i => (tab [(3, (Value.int .i64 i))])) (fun i => kk5 i = some r) ?_ ?_
      · rintro j4i3 h
        have h : kk5 j4i3 = some r := h
        rw [hkk5] at h
        dsimp only at h
        clear hkk5
        refine aw_show (m := (memOf w0 Z0 [] [] [uTabs])) (S := (tab [(3, (Value.int .i64 j4i3))])) ?_
        refine aw_seq ?_
        refine aw_seq ?_
        refine aw_region ?_
        refine al_val (ov_move rfl rfl) ?_
        refine al_val (ov_int rfl rfl rfl rfl) ?_
        refine al_nil ?_
        refine aq_then ?_
        refine aw_cond rfl (fun hb6 => ?_) (fun hb6 => ?_)
        · replace h := bif_t hb6 h
          refine aw_seq ?_
          refine aw_region ?_
          refine al_val (ov_assign rfl rfl) ?_
          refine al_nil ?_
          refine aq_then ?_
          refine aw_ret ?_
          refine aq_then_ret ?_
          obtain rfl := Option.some.inj h
          exact fn_ret () [] [] rfl rfl rfl rfl (res1 rfl rfl) rfl rfl rfl (by decide)
        · replace h := bif_f hb6 h
          refine aw_skip ?_
          refine aq_then ?_
          refine aw_seq ?_
          refine aw_region ?_
          refine al_val (ov_assign rfl rfl) ?_
          refine al_nil ?_
          refine aq_then ?_
          refine aw_ret ?_
          obtain rfl := Option.some.inj h
          exact fn_ret () [] [] rfl rfl rfl rfl (res1 rfl rfl) rfl rfl rfl (by decide)
      · clear hkk5
        refine aw_seq ?_
        refine aw_region ?_
        refine al_val (ov_move rfl rfl) ?_
        refine al_range rfl Tryd.underlying9 rfl (fun g7 => ?_)
        refine al_nil ?_
        refine aq_then ?_
        refine aw_block ?_
        refine aw_state (aw_loop (ι := Int × Int) (fun i => (memOf w0 Z0 [] [(oIter g7 a0 i.2)] [uTabs])) (fun i => (tab [(3, (Value.int .i64 i.1)), (22, (ptr g7 0))])) (fun q i => f_names_Check_L10 a0 kk5 q i.1 i.2 = some r) ?_ fu ((0 : Int), (0 : Int)) h) (fun w a hm hs => norm hm hs [0] [0] [(3, (Value.int .i64 (0 : Int))), (22, (ptr g7 0))] (by decide) ⟨rfl, rfl, trivial⟩)
        clear h
        rintro k9 ⟨l8i3, l8xp22⟩ h
        have h : f_names_Check_L10 a0 kk5 k9 l8i3 l8xp22 = some r := h
        obtain _ | k9 := k9
        · rw [f_names_Check_L10] at h; cases h
        rw [f_names_Check_L10] at h
        refine aw_show (m := (memOf w0 Z0 [] [(oIter g7 a0 l8xp22)] [uTabs])) (S := (tab [(3, (Value.int .i64 l8i3)), (22, (ptr g7 0))])) ?_
        refine aw_seq ?_
        refine aw_region ?_
        refine al_next 0 rfl rfl rfl (fun hn11 => ?_) (fun hn11 => ?_)
        · replace h := bif_t (decide_eq_true hn11) h
          refine al_val (ov_extract rfl rfl rfl) ?_
          refine al_nil ?_
          refine aq_then ?_
          refine aw_seq ?_
          refine aw_cond_t rfl ?_
          refine aw_skip ?_
          refine aq_then ?_
          refine aw_block ?_
          refine aw_seq ?_
          refine aw_region ?_
          refine al_val (ov_extract rfl rfl rfl) ?_
          refine al_val (ov_assign rfl rfl) ?_
          refine al_nil ?_
          refine aq_then ?_
          refine aw_seq ?_
          obtain ⟨kk13, hkk13, h⟩ := lt_some h
          refine aw_seq_join (ι := Bool) (fun i => (memOf w0 Z0 [] [(oIter g7 a0 ((l8xp22.toNat + (dec a0 l8xp22.toNat).2 : Nat) : Int))] [uTabs])) (fun i => (tab [(3, (Value.int .i64 l8i3)), (22, (ptr g7 0)), (35, (Value.bool i))])) (fun i => kk13 i = some r) ?_ ?_
          · rintro j12b35 h
            have h : kk13 j12b35 = some r := h
            rw [hkk13] at h
            dsimp only at h
            clear hkk13
            refine aw_show (m := (memOf w0 Z0 [] [(oIter g7 a0 ((l8xp22.toNat + (dec a0 l8xp22.toNat).2 : Nat) : Int))] [uTabs])) (S := (tab [(3, (Value.int .i64 l8i3)), (22, (ptr g7 0)), (35, (Value.bool j12b35))])) ?_
            refine aw_cond rfl (fun hb14 => ?_) (fun hb14 => ?_)
            · replace h := bif_t hb14 h
              refine aw_seq ?_
              refine aw_region ?_
              refine al_val (ov_assign rfl rfl) ?_
              refine al_nil ?_
              refine aq_then ?_
              refine aw_ret ?_
              refine aq_then_ret ?_
              refine aq_block_ret ?_
              refine aq_then_ret ?_
              refine aq_block_ret ?_
              refine aq_then_ret ?_
              obtain rfl := Option.some.inj h
              exact fn_ret () [] [] rfl rfl rfl rfl (res1 rfl rfl) rfl rfl rfl (by decide)
            · replace h := bif_f hb14 h
              refine aw_skip ?_
              refine aq_then ?_
              refine aw_region ?_
              refine al_val (ov_move rfl rfl) ?_
              refine al_val (ov_int rfl rfl rfl rfl) ?_
              refine al_val (ov_assign rfl rfl) ?_
              refine al_nil ?_
              refine aq_block ?_
              exact aq_again k9 ((IntKind.i64.wrap (l8i3 + (1 : Int))), ((l8xp22.toNat + (dec a0 l8xp22.toNat).2 : Nat) : Int)) (Nat.lt_succ_self _) h (fun w a hm hs => norm hm hs [0] [0] [(3, (Value.int .i64 (IntKind.i64.wrap (l8i3 + (1 : Int))))), (22, (ptr g7 0))] (by decide) ⟨rfl, rfl, trivial⟩)
          · clear hkk13
            refine aw_region ?_
            refine al_val (ov_move rfl rfl) ?_
            refine al_val (ov_int rfl rfl rfl rfl) ?_
            refine al_val (ov_move rfl rfl) ?_
            refine al_caseB 28 rfl (fun hb15 => ?_) (fun hb15 => ?_)
            · replace h := bif_t hb15 h
              refine al_skip ?_
              refine al_skip ?_
              refine al_val (ov_pick_t rfl rfl rfl) ?_
              refine al_val (ov_move rfl rfl) ?_
              refine al_skip ?_
              refine al_skip ?_
              refine al_val (ov_pick_t rfl rfl rfl) ?_
              refine al_nil ?_
              exact aq_join true h (fun w a hm hs => norm hm hs [0] [0] [(3, (Value.int .i64 l8i3)), (22, (ptr g7 0)), (35, (Value.bool true))] (by decide) ⟨rfl, rfl, rfl, trivial⟩)
            · replace h := bif_f hb15 h
              refine al_val (ov_move rfl rfl) ?_
              refine al_val (ov_int rfl rfl rfl rfl) ?_
              refine al_val (ov_pick_f rfl rfl rfl) ?_
              refine al_val (ov_move rfl rfl) ?_
              refine al_caseB 32 rfl (fun hb16 => ?_) (fun hb16 => ?_)
              · replace h := bif_t hb16 h
                refine al_skip ?_
                refine al_skip ?_
                refine al_val (ov_pick_t rfl rfl rfl) ?_
                refine al_nil ?_
                exact aq_join true h (fun w a hm hs => norm hm hs [0] [0] [(3, (Value.int .i64 l8i3)), (22, (ptr g7 0)), (35, (Value.bool true))] (by decide) ⟨rfl, rfl, rfl, trivial⟩)
              · replace h := bif_f hb16 h
                refine al_val (ov_move rfl rfl) ?_
                refine al_val (ov_int rfl rfl rfl rfl) ?_
                refine al_val (ov_pick_f rfl rfl rfl) ?_
                refine al_nil ?_
                exact aq_join ((((dec a0 l8xp22.toNat).1 : Nat) : Int) == (127 : Int)) h (fun w a hm hs => norm hm hs [0] [0] [(3, (Value.int .i64 l8i3)), (22, (ptr g7 0)), (35, (Value.bool ((((dec a0 l8xp22.toNat).1 : Nat) : Int) == (127 : Int))))] (by decide) ⟨rfl, rfl, rfl, trivial⟩)
        · replace h := bif_f (decide_eq_false hn11) h
          refine al_val (ov_extract rfl rfl rfl) ?_
          refine al_nil ?_
          refine aq_then ?_
          refine aw_seq ?_
          refine aw_cond_f rfl ?_
          refine aw_exit ?_
          refine aq_then_exit ?_
          refine aq_then_exit ?_
          refine aq_block_exit ?_
          exact aq_join l8i3 h (fun w a hm hs => norm hm hs [] [0] [(3, (Value.int .i64 l8i3))] (by decide) ⟨rfl, trivial⟩)
  · clear hkk2
    refine aw_region ?_
    refine al_val (ov_move rfl rfl) ?_
    refine al_val (ov_strCmp rfl rfl rfl rfl) ?_
    refine al_val (ov_move rfl rfl) ?_
    refine al_caseB 8 rfl (fun hb17 => ?_) (fun hb17 => ?_)
    · replace h := bif_t hb17 h
      refine al_skip ?_
      refine al_skip ?_
      refine al_val (ov_pick_t rfl rfl rfl) ?_
      refine al_val (ov_move rfl rfl) ?_
      refine al_skip ?_
      refine al_skip ?_
      refine al_val (ov_pick_t rfl rfl rfl) ?_
      refine al_val (ov_move rfl rfl) ?_
      refine al_skip ?_
      refine al_skip ?_
      refine al_skip ?_
      refine al_val (ov_pick_t rfl rfl rfl) ?_
      refine al_nil ?_
      exact aq_join true h (fun w a hm hs => norm hm hs [] [0] [(0, (str a0)), (20, (Value.bool true))] (by decide) ⟨rfl, rfl, trivial⟩)
    · replace h := bif_f hb17 h
      refine al_val (ov_move rfl rfl) ?_
      refine al_val (ov_strCmp rfl rfl rfl rfl) ?_
      refine al_val (ov_pick_f rfl rfl rfl) ?_
      refine al_val (ov_move rfl rfl) ?_
      refine al_caseB 12 rfl (fun hb18 => ?_) (fun hb18 => ?_)
      · replace h := bif_t hb18 h
        refine al_skip ?_
        refine al_skip ?_
        refine al_val (ov_pick_t rfl rfl rfl) ?_
        refine al_val (ov_move rfl rfl) ?_
        refine al_skip ?_
        refine al_skip ?_
        refine al_skip ?_
        refine al_val (ov_pick_t rfl rfl rfl) ?_
        refine al_nil ?_
        exact aq_join true h (fun w a hm hs => norm hm hs [] [0] [(0, (str a0)), (20, (Value.bool true))] (by decide) ⟨rfl, rfl, trivial⟩)
      · replace h := bif_f hb18 h
        refine al_val (ov_move rfl rfl) ?_
        refine al_val (ov_strCmp rfl rfl rfl rfl) ?_
        refine al_val (ov_pick_f rfl rfl rfl) ?_
        refine al_val (ov_move rfl rfl) ?_
        refine al_caseB 16 rfl (fun hb19 => ?_) (fun hb19 => ?_)
        · replace h := bif_t hb19 h
          refine al_skip ?_
          refine al_skip ?_
          refine al_skip ?_
          refine al_val (ov_pick_t rfl rfl rfl) ?_
          refine al_nil ?_
          exact aq_join true h (fun w a hm hs => norm hm hs [] [0] [(0, (str a0)), (20, (Value.bool true))] (by decide) ⟨rfl, rfl, trivial⟩)
        · replace h := bif_f hb19 h
          refine al_val (ov_move rfl rfl) ?_
          obtain ⟨r21, hc20, h⟩ := opt_some h
          refine al_call (vs := [(str a0)]) (f_utf8_ValidString_ok fu a0 hc20) [] [] [] (pre_fz 0 rfl pre_nil) rfl (by simp) (by decide) (.inl rfl) rfl Tryd.func91 rfl rfl rfl (fun _ => ?_)
          refine al_val (ov_not rfl rfl) ?_
          refine al_val (ov_pick_f rfl rfl rfl) ?_
          refine al_nil ?_
          exact aq_join (!r21) h (fun w a hm hs => norm hm hs [] [0] [(0, (str a0)), (20, (Value.bool (!r21)))] (by decide) ⟨rfl, rfl, trivial⟩)
def f_tree_Known (fu : Nat) (a0 : Int) : Option Bool := (lt (fun (j1b2 : Bool) => (some j1b2)) fun (kk2 : Bool → Option Bool) => (bif (decide (a0 ≥ (1 : Int))) then (kk2 (decide (a0 ≤ (3 : Int)))) else (kk2 false)))
set_option maxRecDepth 100000 in
theorem f_tree_Known_ok (fu : Nat) (a0 : Int) {r : Bool} (h : f_tree_Known fu a0 = some r) : FnOk Tryd.prog 67 [(Value.int .i64 a0)] [] [] (fun (i : Unit) => { val := (Value.bool r) }) := by
  unfold f_tree_Known at h
  refine fn_enter Tryd.func67 rfl Tryd.ntmps67 rfl (fun w0 Z0 => ?_)
  refine aw_seq ?_
  refine aw_region ?_
  refine al_val (ov_assign rfl rfl) ?_
  refine al_nil ?_
  refine aq_then ?_
  obtain ⟨kk2, hkk2, h⟩ := lt_some h
  refine aw_seq_join (ι := Bool) (fun i => (memOf w0 Z0 [] [] [])) (fun i => (tab [(2, (Value.bool i))])) (fun i => kk2 i = some r) ?_ ?_
  · rintro j1b2 h
    have h : kk2 j1b2 = some r := h
    rw [hkk2] at h
    dsimp only at h
    clear hkk2
    refine aw_show (m := (memOf w0 Z0 [] [] [])) (S := (tab [(2, (Value.bool j1b2))])) ?_
    refine aw_ret ?_
    obtain rfl := Option.some.inj h
    exact fn_ret () [] [] rfl rfl rfl rfl (res1 rfl rfl) rfl rfl rfl (by decide)
  · clear hkk2
    refine aw_region ?_
    refine al_val (ov_move rfl rfl) ?_
    refine al_val (ov_int rfl rfl rfl rfl) ?_
    refine al_val (ov_move rfl rfl) ?_
    refine al_caseB 5 rfl (fun hb3 => ?_) (fun hb3 => ?_)
    · replace h := bif_t hb3 h
      refine al_val (ov_move rfl rfl) ?_
      refine al_val (ov_int rfl rfl rfl rfl) ?_
      refine al_val (ov_pick_t rfl rfl rfl) ?_
      refine al_val (ov_assign rfl rfl) ?_
      refine al_nil ?_
      exact aq_join (decide (a0 ≤ (3 : Int))) h (fun w a hm hs => norm hm hs [] [] [(2, (Value.bool (decide (a0 ≤ (3 : Int)))))] (by decide) ⟨rfl, trivial⟩)
    · replace h := bif_f hb3 h
      refine al_skip ?_
      refine al_skip ?_
      refine al_val (ov_pick_f rfl rfl rfl) ?_
      refine al_val (ov_assign rfl rfl) ?_
      refine al_nil ?_
      exact aq_join false h (fun w a hm hs => norm hm hs [] [] [(2, (Value.bool false))] (by decide) ⟨rfl, trivial⟩)
def f_tree_formed (fu : Nat) (a0 : S_api_Node) : Option Bool := (bif (a0.Kind == (1 : Int)) then (some (a0.Link == ([] : List UInt8))) else (bif (a0.Kind == (2 : Int)) then (lt (fun (j4b2 : Bool) => (some j4b2)) fun (kk5 : Bool → Option Bool) => (bif ((a0.Parts.length : Int) == (1 : Int)) then (bif (a0.Size == (0 : Int)) then (kk5 (a0.Link == ([] : List UInt8))) else (kk5 false)) else (kk5 false))) else (lt (fun (j8b2 : Bool) => (some j8b2)) fun (kk9 : Bool → Option Bool) => (bif (!(a0.Link == ([] : List UInt8))) then (bif (a0.Size == (0 : Int)) then (kk9 ((a0.Parts.length : Int) == (0 : Int))) else (kk9 false)) else (kk9 false)))))
set_option maxRecDepth 100000 in
theorem f_tree_formed_ok (fu : Nat) (v0_5 : Value) (a0 : S_api_Node) {r : Bool} (h : f_tree_formed fu a0 = some r) : FnOk Tryd.prog 68 [(ag [(str a0.Name), (Value.int .i64 a0.Kind), (Value.int .i64 a0.Mode), (Value.int .i64 a0.Time), (Value.int .i64 a0.Size), v0_5, (str a0.Link)])] [(fDat (tyList tyA8u8) [v0_5] a0.Parts)] [] (fun (i : Unit) => { val := (Value.bool r) }) := by
  unfold f_tree_formed at h
  refine fn_enter Tryd.func68 rfl Tryd.ntmps68 rfl (fun w0 Z0 => ?_)
  refine aw_seq ?_
  refine aw_region ?_
  refine al_box (vs := [(str a0.Name), (Value.int .i64 a0.Kind), (Value.int .i64 a0.Mode), (Value.int .i64 a0.Time), (Value.int .i64 a0.Size), v0_5, (str a0.Link)]) rfl (cv_rfl rfl) rfl (fun g1 => ?_)
  refine al_val (ov_assign rfl rfl) ?_
  refine al_nil ?_
  refine aq_then ?_
  refine aw_seq ?_
  refine aw_seq ?_
  refine aw_region ?_
  refine al_val (ov_fieldA (p := 1) rfl Tryd.underlying40 rfl sz3 rfl rfl rfl) ?_
  refine al_val (ov_load (i := 0) (v := (Value.int .i64 a0.Kind)) rfl rfl Tryd.underlying3 sz3 rfl rfl rfl rfl) ?_
  refine al_nil ?_
  refine aq_then ?_
  refine aw_block ?_
  refine aw_seq ?_
  refine aw_region ?_
  refine al_val (ov_int rfl rfl rfl rfl) ?_
  refine al_val (ov_assign rfl rfl) ?_
  refine al_nil ?_
  refine aq_then ?_
  refine aw_cond rfl (fun hb2 => ?_) (fun hb2 => ?_)
  · replace h := bif_t hb2 h
    refine aw_seq ?_
    refine aw_region ?_
    refine al_val (ov_fieldA (p := 6) rfl Tryd.underlying40 rfl sz9 rfl rfl rfl) ?_
    refine al_val (ov_load (i := 0) (v := (str a0.Link)) rfl rfl Tryd.underlying9 sz9 rfl rfl rfl rfl) ?_
    refine al_val (ov_strCmp rfl rfl rfl rfl) ?_
    refine al_val (ov_assign rfl rfl) ?_
    refine al_nil ?_
    refine aq_then ?_
    refine aw_ret ?_
    refine aq_block_ret ?_
    refine aq_then_ret ?_
    obtain rfl := Option.some.inj h
    exact fn_ret () [] [] rfl rfl rfl rfl (res1 rfl rfl) rfl rfl rfl (by decide)
  · replace h := bif_f hb2 h
    refine aw_seq ?_
    refine aw_region ?_
    refine al_val (ov_int rfl rfl rfl rfl) ?_
    refine al_val (ov_assign rfl rfl) ?_
    refine al_nil ?_
    refine aq_then ?_
    refine aw_cond rfl (fun hb3 => ?_) (fun hb3 => ?_)
    · replace h := bif_t hb3 h
      obtain ⟨kk5, hkk5, h⟩ := lt_some h
      refine aw_seq_join (ι := Bool) (fun i => (memOf w0 Z0 [] [] [(fDat (tyList tyA8u8) [v0_5] a0.Parts)])) (fun i => (tab [(2, (Value.bool i))])) (fun i => kk5 i = some r) ?_ ?_
      · rintro j4b2 h
        have h : kk5 j4b2 = some r := h
        rw [hkk5] at h
        dsimp only at h
        clear hkk5
        refine aw_show (m := (memOf w0 Z0 [] [] [(fDat (tyList tyA8u8) [v0_5] a0.Parts)])) (S := (tab [(2, (Value.bool j4b2))])) ?_
        refine aw_ret ?_
        refine aq_block_ret ?_
        refine aq_then_ret ?_
        obtain rfl := Option.some.inj h
        exact fn_ret () [] [] rfl rfl rfl rfl (res1 rfl rfl) rfl rfl rfl (by decide)
      · clear hkk5
        refine aw_region ?_
        refine al_val (ov_fieldA (p := 5) rfl Tryd.underlying40 rfl sz38 rfl rfl rfl) ?_
        refine al_val (ov_load (i := 0) (v := v0_5) rfl rfl Tryd.underlying38 sz38 rfl rfl rfl rfl) ?_
        refine al_val (ov_lenD 0 rfl rfl Tryd.underlying38 rfl) ?_
        refine al_val (ov_int rfl rfl rfl rfl) ?_
        refine al_val (ov_move rfl rfl) ?_
        refine al_caseB 16 rfl (fun hb6 => ?_) (fun hb6 => ?_)
        · replace h := bif_t hb6 h
          refine al_val (ov_fieldA (p := 4) rfl Tryd.underlying40 rfl sz3 rfl rfl rfl) ?_
          refine al_val (ov_load (i := 0) (v := (Value.int .i64 a0.Size)) rfl rfl Tryd.underlying3 sz3 rfl rfl rfl rfl) ?_
          refine al_val (ov_int rfl rfl rfl rfl) ?_
          refine al_val (ov_pick_t rfl rfl rfl) ?_
          refine al_val (ov_move rfl rfl) ?_
          refine al_caseB 21 rfl (fun hb7 => ?_) (fun hb7 => ?_)
          · replace h := bif_t hb7 h
            refine al_val (ov_fieldA (p := 6) rfl Tryd.underlying40 rfl sz9 rfl rfl rfl) ?_
            refine al_val (ov_load (i := 0) (v := (str a0.Link)) rfl rfl Tryd.underlying9 sz9 rfl rfl rfl rfl) ?_
            refine al_val (ov_strCmp rfl rfl rfl rfl) ?_
            refine al_val (ov_pick_t rfl rfl rfl) ?_
            refine al_val (ov_assign rfl rfl) ?_
            refine al_nil ?_
            exact aq_join (a0.Link == ([] : List UInt8)) h (fun w a hm hs => norm hm hs [] [0] [(2, (Value.bool (a0.Link == ([] : List UInt8))))] (by decide) ⟨rfl, trivial⟩)
          · replace h := bif_f hb7 h
            refine al_skip ?_
            refine al_skip ?_
            refine al_skip ?_
            refine al_val (ov_pick_f rfl rfl rfl) ?_
            refine al_val (ov_assign rfl rfl) ?_
            refine al_nil ?_
            exact aq_join false h (fun w a hm hs => norm hm hs [] [0] [(2, (Value.bool false))] (by decide) ⟨rfl, trivial⟩)
        · replace h := bif_f hb6 h
          refine al_skip ?_
          refine al_skip ?_
          refine al_skip ?_
          refine al_val (ov_pick_f rfl rfl rfl) ?_
          refine al_val (ov_move rfl rfl) ?_
          refine al_skip ?_
          refine al_skip ?_
          refine al_skip ?_
          refine al_val (ov_pick_f rfl rfl rfl) ?_
          refine al_val (ov_assign rfl rfl) ?_
          refine al_nil ?_
          exact aq_join false h (fun w a hm hs => norm hm hs [] [0] [(2, (Value.bool false))] (by decide) ⟨rfl, trivial⟩)
    · replace h := bif_f hb3 h
      refine aw_skip ?_
      refine aq_block ?_
      refine aq_then ?_
      obtain ⟨kk9, hkk9, h⟩ := lt_some h
      refine aw_seq_join (ι := Bool) (fun i => (memOf w0 Z0 [] [] [(fDat (tyList tyA8u8) [v0_5] a0.Parts)])) (fun i => (tab [(2, (Value.bool i))])) (fun i => kk9 i = some r) ?_ ?_
      · rintro j8b2 h
        have h : kk9 j8b2 = some r := h
        rw [hkk9] at h
        dsimp only at h
        clear hkk9
        refine aw_show (m := (memOf w0 Z0 [] [] [(fDat (tyList tyA8u8) [v0_5] a0.Parts)])) (S := (tab [(2, (Value.bool j8b2))])) ?_
        refine aw_ret ?_
        obtain rfl := Option.some.inj h
        exact fn_ret () [] [] rfl rfl rfl rfl (res1 rfl rfl) rfl rfl rfl (by decide)
      · clear hkk9
        refine aw_region ?_
        refine al_val (ov_fieldA (p := 6) rfl Tryd.underlying40 rfl sz9 rfl rfl rfl) ?_
        refine al_val (ov_load (i := 0) (v := (str a0.Link)) rfl rfl Tryd.underlying9 sz9 rfl rfl rfl rfl) ?_
        refine al_val (ov_strCmp rfl rfl rfl rfl) ?_
        refine al_val (ov_move rfl rfl) ?_
        refine al_caseB 29 rfl (fun hb10 => ?_) (fun hb10 => ?_)
        · replace h := bif_t hb10 h
          refine al_val (ov_fieldA (p := 4) rfl Tryd.underlying40 rfl sz3 rfl rfl rfl) ?_
          refine al_val (ov_load (i := 0) (v := (Value.int .i64 a0.Size)) rfl rfl Tryd.underlying3 sz3 rfl rfl rfl rfl) ?_
          refine al_val (ov_int rfl rfl rfl rfl) ?_
          refine al_val (ov_pick_t rfl rfl rfl) ?_
          refine al_val (ov_move rfl rfl) ?_
          refine al_caseB 34 rfl (fun hb11 => ?_) (fun hb11 => ?_)
          · replace h := bif_t hb11 h
            refine al_val (ov_fieldA (p := 5) rfl Tryd.underlying40 rfl sz38 rfl rfl rfl) ?_
            refine al_val (ov_load (i := 0) (v := v0_5) rfl rfl Tryd.underlying38 sz38 rfl rfl rfl rfl) ?_
            refine al_val (ov_lenD 0 rfl rfl Tryd.underlying38 rfl) ?_
            refine al_val (ov_int rfl rfl rfl rfl) ?_
            refine al_val (ov_pick_t rfl rfl rfl) ?_
            refine al_val (ov_assign rfl rfl) ?_
            refine al_nil ?_
            exact aq_join ((a0.Parts.length : Int) == (0 : Int)) h (fun w a hm hs => norm hm hs [] [0] [(2, (Value.bool ((a0.Parts.length : Int) == (0 : Int))))] (by decide) ⟨rfl, trivial⟩)
          · replace h := bif_f hb11 h
            refine al_skip ?_
            refine al_skip ?_
            refine al_skip ?_
            refine al_skip ?_
            refine al_val (ov_pick_f rfl rfl rfl) ?_
            refine al_val (ov_assign rfl rfl) ?_
            refine al_nil ?_
            exact aq_join false h (fun w a hm hs => norm hm hs [] [0] [(2, (Value.bool false))] (by decide) ⟨rfl, trivial⟩)
        · replace h := bif_f hb10 h
          refine al_skip ?_
          refine al_skip ?_
          refine al_skip ?_
          refine al_val (ov_pick_f rfl rfl rfl) ?_
          refine al_val (ov_move rfl rfl) ?_
          refine al_skip ?_
          refine al_skip ?_
          refine al_skip ?_
          refine al_skip ?_
          refine al_val (ov_pick_f rfl rfl rfl) ?_
          refine al_val (ov_assign rfl rfl) ?_
          refine al_nil ?_
          exact aq_join false h (fun w a hm hs => norm hm hs [] [0] [(2, (Value.bool false))] (by decide) ⟨rfl, trivial⟩)
def f_tree_Check_L6 (a0 : (List S_api_Node)) (kk3 : (Unit → Option Int)) (fu : Nat) : Nat → Int → Option Int
  | 0, _ => none
  | k5 + 1, l4i11 => (bif (decide (l4i11 < (a0.length : Int))) then (opt (at? a0 l4i11) fun (u8 : S_api_Node) => (opt (f_names_Check fu u8.Name) fun (r15 : Int) => (bif (r15 != (0 : Int)) then (some r15) else (lt (fun (j17b22 : Bool) => (bif j17b22 then (some (1 : Int)) else (opt (f_tree_Known fu u8.Kind) fun (r21 : Bool) => (bif (!r21) then (some (5 : Int)) else (opt (f_tree_formed fu u8) fun (r24 : Bool) => (bif (!r24) then (some (4 : Int)) else (bif (decide ((u8.Link.length : Int) > (1024 : Int))) then (some (2 : Int)) else (lt (fun (j27b61 : Bool) => (bif j27b61 then (some (4 : Int)) else (f_tree_Check_L6 a0 kk3 fu k5 (IntKind.i64.wrap (l4i11 + (1 : Int)))))) fun (kk28 : Bool → Option Int) => (bif (decide (l4i11 > (0 : Int))) then (opt (at? a0 (IntKind.i64.wrap (l4i11 - (1 : Int)))) fun (u31 : S_api_Node) => (kk28 (Op.bytesLess u8.Name u31.Name || u8.Name == u31.Name))) else (kk28 false)))))))))) fun (kk18 : Bool → Option Int) => (bif (decide (u8.Mode < (0 : Int))) then (kk18 true) else (bif (decide (u8.Mode > (511 : Int))) then (kk18 true) else (bif (decide (u8.Size < (0 : Int))) then (kk18 true) else (bif (decide (u8.Size > (4096 : Int))) then (kk18 true) else (kk18 (decide ((u8.Parts.length : Int) > (300 : Int)))))))))))) else (kk3 ()))
def f_tree_Check (fu : Nat) (a0 : (List S_api_Node)) : Option Int := (bif (decide ((a0.length : Int) > (64 : Int))) then (some (2 : Int)) else (lt (fun (_ : Unit) => (some (0 : Int))) fun (kk3 : Unit → Option Int) => (f_tree_Check_L6 a0 kk3 fu fu (0 : Int))))
set_option maxRecDepth 100000 in
theorem f_tree_Check_ok (fu : Nat) (v0_0 : Value) (a0 : (List S_api_Node)) {r : Int} (h : f_tree_Check fu a0 = some r) : FnOk Tryd.prog 23 [v0_0] [(fDat (tyList tyS_api_Node) [v0_0] a0), uTabs] [] (fun (i : Unit) => { val := (Value.int .i64 r) }) := by
  unfold f_tree_Check at h
  refine fn_enter Tryd.func23 rfl Tryd.ntmps23 rfl (fun w0 Z0 => ?_)
  refine aw_seq ?_
  refine aw_region ?_
  refine al_val (ov_assign rfl rfl) ?_
  refine al_nil ?_
  refine aq_then ?_
  refine aw_seq ?_
  refine aw_seq ?_
  refine aw_region ?_
  refine al_val (ov_move rfl rfl) ?_
  refine al_val (ov_lenD 0 rfl rfl Tryd.underlying32 rfl) ?_
  refine al_val (ov_int rfl rfl rfl rfl) ?_
  refine al_nil ?_
  refine aq_then ?_
  refine aw_cond rfl (fun hb1 => ?_) (fun hb1 => ?_)
  · replace h := bif_t hb1 h
    refine aw_seq ?_
    refine aw_region ?_
    refine al_val (ov_assign rfl rfl) ?_
    refine al_nil ?_
    refine aq_then ?_
    refine aw_ret ?_
    refine aq_then_ret ?_
    obtain rfl := Option.some.inj h
    exact fn_ret () [] [] rfl rfl rfl rfl (res1 rfl rfl) rfl rfl rfl (by decide)
  · replace h := bif_f hb1 h
    refine aw_skip ?_
    refine aq_then ?_
    obtain ⟨kk3, hkk3, h⟩ := lt_some h
    refine aw_seq_join (ι := Unit) (fun i => (memOf w0 Z0 [] [] [(fDat (tyList tyS_api_Node) [v0_0] a0), uTabs])) (fun i => (tab [])) (fun i => kk3 () = some r) ?_ ?_
    · rintro _ h
      have h : kk3 () = some r := h
      rw [hkk3] at h
      dsimp only at h
      clear hkk3
      refine aw_show (m := (memOf w0 Z0 [] [] [(fDat (tyList tyS_api_Node) [v0_0] a0), uTabs])) (S := (tab [])) ?_
      refine aw_seq ?_
      refine aw_region ?_
      refine al_val (ov_assign rfl rfl) ?_
      refine al_nil ?_
      refine aq_then ?_
      refine aw_ret ?_
      obtain rfl := Option.some.inj h
      exact fn_ret () [] [] rfl rfl rfl rfl (res1 rfl rfl) rfl rfl rfl (by decide)
    · clear hkk3
      refine aw_seq ?_
      refine aw_region ?_
      refine al_val (ov_move rfl rfl) ?_
      refine al_val (ov_lenD 0 rfl rfl Tryd.underlying32 rfl) ?_
      refine al_val (ov_move rfl rfl) ?_
      refine al_nil ?_
      refine aq_then ?_
      refine aw_block ?_
      refine aw_state (aw_loop (ι := Int) (fun i => (memOf w0 Z0 [] [] [(fDat (tyList tyS_api_Node) [v0_0] a0), uTabs])) (fun i => (tab [(0, v0_0), (9, v0_0), (10, (Value.int .i64 (a0.length : Int))), (11, (Value.int .i64 i))])) (fun q i => f_tree_Check_L6 a0 kk3 fu q i = some r) ?_ fu (0 : Int) h) (fun w a hm hs => norm hm hs [] [0, 1] [(0, v0_0), (9, v0_0), (10, (Value.int .i64 (a0.length : Int))), (11, (Value.int .i64 (0 : Int)))] (by decide) ⟨rfl, rfl, rfl, rfl, trivial⟩)
      clear h
      rintro k5 l4i11 h
      have h : f_tree_Check_L6 a0 kk3 fu k5 l4i11 = some r := h
      obtain _ | k5 := k5
      · rw [f_tree_Check_L6] at h; cases h
      rw [f_tree_Check_L6] at h
      refine aw_show (m := (memOf w0 Z0 [] [] [(fDat (tyList tyS_api_Node) [v0_0] a0), uTabs])) (S := (tab [(0, v0_0), (9, v0_0), (10, (Value.int .i64 (a0.length : Int))), (11, (Value.int .i64 l4i11))])) ?_
      refine aw_seq ?_
      refine aw_region ?_
      refine al_val (ov_int rfl rfl rfl rfl) ?_
      refine al_nil ?_
      refine aq_then ?_
      refine aw_seq ?_
      refine aw_cond rfl (fun hb7 => ?_) (fun hb7 => ?_)
      · replace h := bif_t hb7 h
        refine aw_skip ?_
        refine aq_then ?_
        refine aw_seq ?_
        refine aw_block ?_
        refine aw_seq ?_
        refine aw_region ?_
        refine al_val (ov_move rfl rfl) ?_
        obtain ⟨u8, hu9, h⟩ := opt_some h
        refine al_idxD 0 hu9 rfl rfl rfl Tryd.underlying32 sz40 rfl (fun p10 => ?_)
        refine al_loadPA 0 rfl rfl Tryd.underlying40 sz40 rfl rfl (fun cs12 => ?_)
        refine al_use (ι := Value) 0 rfl (fun j => cs12 = [(str u8.Name), (Value.int .i64 u8.Kind), (Value.int .i64 u8.Mode), (Value.int .i64 u8.Time), (Value.int .i64 u8.Size), j, (str u8.Link)]) (fun j => [(fDat (tyList tyA8u8) [j] u8.Parts)]) encnS_api_Node (fun s11 hq => ?_)
        subst hq
        refine al_alloc (zs := [(str ([] : List UInt8)), (Value.int .i64 (0 : Int)), (Value.int .i64 (0 : Int)), (Value.int .i64 (0 : Int)), (Value.int .i64 (0 : Int)), (Value.slice none 0 0), (str ([] : List UInt8))]) (zeroOf_to to40) rfl rfl (fun g13 => ?_)
        refine al_val (ov_assign rfl rfl) ?_
        refine al_store (i := 0) (vs := [(str u8.Name), (Value.int .i64 u8.Kind), (Value.int .i64 u8.Mode), (Value.int .i64 u8.Time), (Value.int .i64 u8.Size), s11, (str u8.Link)]) (cs' := [(str u8.Name), (Value.int .i64 u8.Kind), (Value.int .i64 u8.Mode), (Value.int .i64 u8.Time), (Value.int .i64 u8.Size), s11, (str u8.Link)]) rfl rfl rfl sz40 (cv_rfl rfl) rfl (co_val rfl (co_val rfl (co_val rfl (co_val rfl (co_val rfl (co_fz 0 rfl (co_val rfl co_nil))))))) (Nat.le_of_ble_eq_true rfl) rfl rfl ?_
        refine al_nil ?_
        refine aq_then ?_
        refine aw_seq ?_
        refine aw_seq ?_
        refine aw_region ?_
        refine al_val (ov_fieldA (p := 0) rfl Tryd.underlying40 rfl sz9 rfl rfl rfl) ?_
        refine al_val (ov_load (i := 0) (v := (str u8.Name)) rfl rfl Tryd.underlying9 sz9 rfl rfl rfl rfl) ?_
        obtain ⟨r15, hc14, h⟩ := opt_some h
        refine al_call (vs := [(str u8.Name)]) (f_names_Check_ok fu u8.Name hc14) [] [] [0] (pre_fz 4 rfl pre_nil) rfl (by simp) (by decide) (.inl rfl) rfl Tryd.func46 rfl rfl rfl (fun _ => ?_)
        refine al_val (ov_assign rfl rfl) ?_
        refine al_nil ?_
        refine aq_then ?_
        refine aw_seq ?_
        refine aw_region ?_
        refine al_val (ov_move rfl rfl) ?_
        refine al_val (ov_int rfl rfl rfl rfl) ?_
        refine al_nil ?_
        refine aq_then ?_
        refine aw_cond rfl (fun hb16 => ?_) (fun hb16 => ?_)
        · replace h := bif_t hb16 h
          refine aw_seq ?_
          refine aw_region ?_
          refine al_val (ov_move rfl rfl) ?_
          refine al_val (ov_assign rfl rfl) ?_
          refine al_nil ?_
          refine aq_then ?_
          refine aw_ret ?_
          refine aq_then_ret ?_
          refine aq_block_ret ?_
          refine aq_then_ret ?_
          refine aq_then_ret ?_
          refine aq_block_ret ?_
          refine aq_then_ret ?_
          obtain rfl := Option.some.inj h
          exact fn_ret () [] [] rfl rfl rfl rfl (res1 rfl rfl) rfl rfl rfl (by decide)
        · replace h := bif_f hb16 h
          refine aw_skip ?_
          refine aq_then ?_
          refine aw_block ?_
          obtain ⟨kk18, hkk18, h⟩ := lt_some h
          refine aw_seq_join (ι := Bool) (fun i => (memOf w0 Z0 [] [(oBox g13 40 [(str u8.Name), (Value.int .i64 u8.Kind), (Value.int .i64 u8.Mode), (Value.int .i64 u8.Time), (Value.int .i64 u8.Size), s11, (str u8.Link)])] [(fDat (tyList tyS_api_Node) [v0_0] a0), (fDat (tyList tyA8u8) [s11] u8.Parts), (fDat tyS_api_Node [(str u8.Name), (Value.int .i64 u8.Kind), (Value.int .i64 u8.Mode), (Value.int .i64 u8.Time), (Value.int .i64 u8.Size), s11, (str u8.Link)] u8), (fPtr tyS_api_Node p10 u8), uTabs])) (fun i => (tab [(0, v0_0), (3, (Value.int .i64 l4i11)), (4, (ptr g13 0)), (9, v0_0), (10, (Value.int .i64 (a0.length : Int))), (11, (Value.int .i64 l4i11)), (22, (Value.bool i))])) (fun i => kk18 i = some r) ?_ ?_
          · rintro j17b22 h
            have h : kk18 j17b22 = some r := h
            rw [hkk18] at h
            dsimp only at h
            clear hkk18
            refine aw_show (m := (memOf w0 Z0 [] [(oBox g13 40 [(str u8.Name), (Value.int .i64 u8.Kind), (Value.int .i64 u8.Mode), (Value.int .i64 u8.Time), (Value.int .i64 u8.Size), s11, (str u8.Link)])] [(fDat (tyList tyS_api_Node) [v0_0] a0), (fDat (tyList tyA8u8) [s11] u8.Parts), (fDat tyS_api_Node [(str u8.Name), (Value.int .i64 u8.Kind), (Value.int .i64 u8.Mode), (Value.int .i64 u8.Time), (Value.int .i64 u8.Size), s11, (str u8.Link)] u8), (fPtr tyS_api_Node p10 u8), uTabs])) (S := (tab [(0, v0_0), (3, (Value.int .i64 l4i11)), (4, (ptr g13 0)), (9, v0_0), (10, (Value.int .i64 (a0.length : Int))), (11, (Value.int .i64 l4i11)), (22, (Value.bool j17b22))])) ?_
            refine aw_cond rfl (fun hb19 => ?_) (fun hb19 => ?_)
            · replace h := bif_t hb19 h
              refine aw_seq ?_
              refine aw_region ?_
              refine al_val (ov_assign rfl rfl) ?_
              refine al_nil ?_
              refine aq_then ?_
              refine aw_ret ?_
              refine aq_block_ret ?_
              refine aq_block_ret ?_
              refine aq_then_ret ?_
              refine aq_then_ret ?_
              refine aq_block_ret ?_
              refine aq_then_ret ?_
              obtain rfl := Option.some.inj h
              exact fn_ret () [] [] rfl rfl rfl rfl (res1 rfl rfl) rfl rfl rfl (by decide)
            · replace h := bif_f hb19 h
              refine aw_seq ?_
              refine aw_region ?_
              refine al_val (ov_fieldA (p := 1) rfl Tryd.underlying40 rfl sz3 rfl rfl rfl) ?_
              refine al_val (ov_load (i := 0) (v := (Value.int .i64 u8.Kind)) rfl rfl Tryd.underlying3 sz3 rfl rfl rfl rfl) ?_
              obtain ⟨r21, hc20, h⟩ := opt_some h
              refine al_call (vs := [(Value.int .i64 u8.Kind)]) (f_tree_Known_ok fu u8.Kind hc20) [] [] [0] pre_nil rfl (by simp) (by decide) (.inl rfl) rfl Tryd.func67 rfl rfl rfl (fun _ => ?_)
              refine al_val (ov_not rfl rfl) ?_
              refine al_val (ov_assign rfl rfl) ?_
              refine al_nil ?_
              refine aq_then ?_
              refine aw_cond rfl (fun hb22 => ?_) (fun hb22 => ?_)
              · replace h := bif_t hb22 h
                refine aw_seq ?_
                refine aw_region ?_
                refine al_val (ov_assign rfl rfl) ?_
                refine al_nil ?_
                refine aq_then ?_
                refine aw_ret ?_
                refine aq_block_ret ?_
                refine aq_block_ret ?_
                refine aq_then_ret ?_
                refine aq_then_ret ?_
                refine aq_block_ret ?_
                refine aq_then_ret ?_
                obtain rfl := Option.some.inj h
                exact fn_ret () [] [] rfl rfl rfl rfl (res1 rfl rfl) rfl rfl rfl (by decide)
              · replace h := bif_f hb22 h
                refine aw_seq ?_
                refine aw_region ?_
                refine al_val (ov_load (i := 0) (v := (ag [(str u8.Name), (Value.int .i64 u8.Kind), (Value.int .i64 u8.Mode), (Value.int .i64 u8.Time), (Value.int .i64 u8.Size), s11, (str u8.Link)])) rfl rfl Tryd.underlying40 sz40 rfl rfl rfl rfl) ?_
                obtain ⟨r24, hc23, h⟩ := opt_some h
                refine al_call (vs := [(ag [(str u8.Name), (Value.int .i64 u8.Kind), (Value.int .i64 u8.Mode), (Value.int .i64 u8.Time), (Value.int .i64 u8.Size), s11, (str u8.Link)])]) (f_tree_formed_ok fu s11 u8 hc23) [] [] [0] (pre_fz 1 rfl pre_nil) rfl (by simp) (by decide) (.inl rfl) rfl Tryd.func68 rfl rfl rfl (fun _ => ?_)
                refine al_val (ov_not rfl rfl) ?_
                refine al_val (ov_assign rfl rfl) ?_
                refine al_nil ?_
                refine aq_then ?_
                refine aw_cond rfl (fun hb25 => ?_) (fun hb25 => ?_)
                · replace h := bif_t hb25 h
                  refine aw_seq ?_
                  refine aw_region ?_
                  refine al_val (ov_assign rfl rfl) ?_
                  refine al_nil ?_
                  refine aq_then ?_
                  refine aw_ret ?_
                  refine aq_block_ret ?_
                  refine aq_block_ret ?_
                  refine aq_then_ret ?_
                  refine aq_then_ret ?_
                  refine aq_block_ret ?_
                  refine aq_then_ret ?_
                  obtain rfl := Option.some.inj h
                  exact fn_ret () [] [] rfl rfl rfl rfl (res1 rfl rfl) rfl rfl rfl (by decide)
                · replace h := bif_f hb25 h
                  refine aw_seq ?_
                  refine aw_region ?_
                  refine al_val (ov_fieldA (p := 6) rfl Tryd.underlying40 rfl sz9 rfl rfl rfl) ?_
                  refine al_val (ov_load (i := 0) (v := (str u8.Link)) rfl rfl Tryd.underlying9 sz9 rfl rfl rfl rfl) ?_
                  refine al_val (ov_strLen Tryd.underlying9 rfl rfl) ?_
                  refine al_val (ov_int rfl rfl rfl rfl) ?_
                  refine al_val (ov_assign rfl rfl) ?_
                  refine al_nil ?_
                  refine aq_then ?_
                  refine aw_cond rfl (fun hb26 => ?_) (fun hb26 => ?_)
                  · replace h := bif_t hb26 h
                    refine aw_seq ?_
                    refine aw_region ?_
                    refine al_val (ov_assign rfl rfl) ?_
                    refine al_nil ?_
                    refine aq_then ?_
                    refine aw_ret ?_
                    refine aq_block_ret ?_
                    refine aq_block_ret ?_
                    refine aq_then_ret ?_
                    refine aq_then_ret ?_
                    refine aq_block_ret ?_
                    refine aq_then_ret ?_
                    obtain rfl := Option.some.inj h
                    exact fn_ret () [] [] rfl rfl rfl rfl (res1 rfl rfl) rfl rfl rfl (by decide)
                  · replace h := bif_f hb26 h
                    obtain ⟨kk28, hkk28, h⟩ := lt_some h
                    refine aw_seq_join (ι := Bool) (fun i => (memOf w0 Z0 [] [] [(fDat (tyList tyS_api_Node) [v0_0] a0), (fDat (tyList tyA8u8) [s11] u8.Parts), (fDat tyS_api_Node [(str u8.Name), (Value.int .i64 u8.Kind), (Value.int .i64 u8.Mode), (Value.int .i64 u8.Time), (Value.int .i64 u8.Size), s11, (str u8.Link)] u8), (fPtr tyS_api_Node p10 u8), uTabs])) (fun i => (tab [(0, v0_0), (9, v0_0), (10, (Value.int .i64 (a0.length : Int))), (11, (Value.int .i64 l4i11)), (61, (Value.bool i))])) (fun i => kk28 i = some r) ?_ ?_
                    · rintro j27b61 h
                      have h : kk28 j27b61 = some r := h
                      rw [hkk28] at h
                      dsimp only at h
                      clear hkk28
                      refine aw_show (m := (memOf w0 Z0 [] [] [(fDat (tyList tyS_api_Node) [v0_0] a0), (fDat (tyList tyA8u8) [s11] u8.Parts), (fDat tyS_api_Node [(str u8.Name), (Value.int .i64 u8.Kind), (Value.int .i64 u8.Mode), (Value.int .i64 u8.Time), (Value.int .i64 u8.Size), s11, (str u8.Link)] u8), (fPtr tyS_api_Node p10 u8), uTabs])) (S := (tab [(0, v0_0), (9, v0_0), (10, (Value.int .i64 (a0.length : Int))), (11, (Value.int .i64 l4i11)), (61, (Value.bool j27b61))])) ?_
                      refine aw_cond rfl (fun hb29 => ?_) (fun hb29 => ?_)
                      · replace h := bif_t hb29 h
                        refine aw_seq ?_
                        refine aw_region ?_
                        refine al_val (ov_assign rfl rfl) ?_
                        refine al_nil ?_
                        refine aq_then ?_
                        refine aw_ret ?_
                        refine aq_block_ret ?_
                        refine aq_block_ret ?_
                        refine aq_then_ret ?_
                        refine aq_then_ret ?_
                        refine aq_block_ret ?_
                        refine aq_then_ret ?_
                        obtain rfl := Option.some.inj h
                        exact fn_ret () [] [] rfl rfl rfl rfl (res1 rfl rfl) rfl rfl rfl (by decide)
                      · replace h := bif_f hb29 h
                        refine aw_skip ?_
                        refine aq_block ?_
                        refine aq_block ?_
                        refine aq_then ?_
                        refine aw_region ?_
                        refine al_val (ov_int rfl rfl rfl rfl) ?_
                        refine al_val (ov_move rfl rfl) ?_
                        refine al_nil ?_
                        exact aq_again k5 (IntKind.i64.wrap (l4i11 + (1 : Int))) (Nat.lt_succ_self _) h (fun w a hm hs => norm hm hs [] [0, 4] [(0, v0_0), (9, v0_0), (10, (Value.int .i64 (a0.length : Int))), (11, (Value.int .i64 (IntKind.i64.wrap (l4i11 + (1 : Int)))))] (by decide) ⟨rfl, rfl, rfl, rfl, trivial⟩)
                    · clear hkk28
                      rcases Bool.eq_false_or_eq_true (decide (l4i11 > (0 : Int))) with hb30 | hb30
                      · replace h := bif_t hb30 h
                        obtain ⟨u31, hu32, h⟩ := opt_some h
                        refine aw_region_draw 13 [(62, (fun u => fEq u (Value.int .i64 l4i11))), (63, (fun u => fEq u (Value.bool true))), (64, (fun u => fEq u (Value.bool true))), (65, (fun u => fEq u (ptr g13 0))), (66, (fun u => fEq u (str u8.Name))), (67, (fun u => fEq u v0_0)), (68, (fun u => fEq u (Value.int .i64 l4i11))), (69, (fun u => fEq u (Value.int .i64 (IntKind.i64.wrap (l4i11 - (1 : Int)))))), (70, (fun p33 => (fPtr tyS_api_Node p33 u31))), (71, (fun p34 => (fPtr tyStr p34 u31.Name))), (72, (fun u => fEq u (str u31.Name))), (73, (fun u => fEq u (Value.bool (Op.bytesLess u8.Name u31.Name || u8.Name == u31.Name)))), (74, (fun u => fEq u (Value.bool (Op.bytesLess u8.Name u31.Name || u8.Name == u31.Name))))] (tab [(0, v0_0), (3, (Value.int .i64 l4i11)), (4, (ptr g13 0)), (9, v0_0), (10, (Value.int .i64 (a0.length : Int))), (11, (Value.int .i64 l4i11))]) mixed (by kernel_rfl) rfl rfl rfl (fun a hs => hs.tab _ (allT_mem ⟨rfl, rfl, rfl, rfl, rfl, rfl, trivial⟩)) ⟨⟨rfl, ld_val (ov_move rfl rfl)⟩, ⟨rfl, ld_eq (j := 0) rfl rfl (ld_val (ov_cast (by first | rw [hb30] | rfl) (ov_int rfl rfl rfl rfl)))⟩, ⟨rfl, ld_eq (j := 1) rfl rfl (ld_val (ov_cast (by first | rw [hb30] | rfl) (ov_move rfl rfl)))⟩, ⟨rfl, ld_eq (j := 2) rfl rfl (ld_val (ov_fieldA (p := 0) rfl Tryd.underlying40 rfl sz9 rfl rfl rfl))⟩, ⟨rfl, ld_eq (j := 2) rfl rfl (ld_eq (j := 3) rfl rfl (ld_val (ov_load (i := 0) (v := (str u8.Name)) rfl rfl Tryd.underlying9 sz9 rfl rfl rfl rfl)))⟩, ⟨rfl, ld_eq (j := 2) rfl rfl (ld_val (ov_move rfl rfl))⟩, ⟨rfl, ld_eq (j := 2) rfl rfl (ld_val (ov_move rfl rfl))⟩, ⟨rfl, ld_eq (j := 2) rfl rfl (ld_eq (j := 6) rfl rfl (ld_val (ov_int rfl rfl rfl rfl)))⟩, ⟨rfl, ld_eq (j := 2) rfl rfl (ld_eq (j := 5) rfl rfl (ld_eq (j := 7) rfl rfl (ld_of (of_idxD 0 hu32 rfl rfl rfl Tryd.underlying32 sz40 rfl))))⟩, ⟨rfl, ld_eq (j := 2) rfl rfl (ld_fact (j := 8) rfl rfl (fun p33 => ld_of (of_fieldD (pr := fun (y : S_api_Node) => y.Name) 0 rfl subS_api_Node_0 rfl Tryd.underlying40 rfl sz9 rfl rfl)))⟩, ⟨rfl, ld_eq (j := 2) rfl rfl (ld_fact (j := 9) rfl rfl (fun p34 => ld_val (ov_loadP (ds := [(str u31.Name)]) 0 rfl (fun h => h) rfl Tryd.underlying9 sz9 rfl rfl rfl)))⟩, ⟨rfl, ld_eq (j := 2) rfl rfl (ld_eq (j := 4) rfl rfl (ld_eq (j := 10) rfl rfl (ld_val (ov_strCmp rfl rfl rfl rfl))))⟩, ⟨rfl, ld_eq (j := 2) rfl rfl (ld_eq (j := 11) rfl rfl (ld_val (ov_pick_t rfl rfl rfl)))⟩, trivial⟩ ?_
                        refine tl_eq 12 rfl ?_
                        refine tl_done ?_
                        refine al_val (ov_assign rfl rfl) ?_
                        refine al_nil ?_
                        exact aq_join (Op.bytesLess u8.Name u31.Name || u8.Name == u31.Name) h (fun w a hm hs => norm hm hs [] [0, 1, 2, 3, 4] [(0, v0_0), (9, v0_0), (10, (Value.int .i64 (a0.length : Int))), (11, (Value.int .i64 l4i11)), (61, (Value.bool (Op.bytesLess u8.Name u31.Name || u8.Name == u31.Name)))] (by decide) ⟨rfl, rfl, rfl, rfl, rfl, trivial⟩)
                      · replace h := bif_f hb30 h
                        refine aw_region_draw 13 [(62, (fun u => fEq u (Value.int .i64 l4i11))), (63, (fun u => fEq u (Value.bool false))), (64, (fun u => fEq u (Value.bool false))), (65, (fun u => fEq u undef)), (66, (fun u => fEq u undef)), (67, (fun u => fEq u undef)), (68, (fun u => fEq u undef)), (69, (fun u => fEq u undef)), (70, (fun u => fEq u undef)), (71, (fun u => fEq u undef)), (72, (fun u => fEq u undef)), (73, (fun u => fEq u undef)), (74, (fun u => fEq u (Value.bool false)))] (tab [(0, v0_0), (3, (Value.int .i64 l4i11)), (4, (ptr g13 0)), (9, v0_0), (10, (Value.int .i64 (a0.length : Int))), (11, (Value.int .i64 l4i11))]) mixed (by kernel_rfl) rfl rfl rfl (fun a hs => hs.tab _ (allT_mem ⟨rfl, rfl, rfl, rfl, rfl, rfl, trivial⟩)) ⟨⟨rfl, ld_val (ov_move rfl rfl)⟩, ⟨rfl, ld_eq (j := 0) rfl rfl (ld_val (ov_cast (by first | rw [hb30] | rfl) (ov_int rfl rfl rfl rfl)))⟩, ⟨rfl, ld_eq (j := 1) rfl rfl (ld_val (ov_cast (by first | rw [hb30] | rfl) (ov_move rfl rfl)))⟩, ⟨rfl, ld_eq (j := 2) rfl rfl (ld_skip)⟩, ⟨rfl, ld_eq (j := 2) rfl rfl (ld_skip)⟩, ⟨rfl, ld_eq (j := 2) rfl rfl (ld_skip)⟩, ⟨rfl, ld_eq (j := 2) rfl rfl (ld_skip)⟩, ⟨rfl, ld_eq (j := 2) rfl rfl (ld_skip)⟩, ⟨rfl, ld_eq (j := 2) rfl rfl (ld_skip)⟩, ⟨rfl, ld_eq (j := 2) rfl rfl (ld_skip)⟩, ⟨rfl, ld_eq (j := 2) rfl rfl (ld_skip)⟩, ⟨rfl, ld_eq (j := 2) rfl rfl (ld_skip)⟩, ⟨rfl, ld_eq (j := 2) rfl rfl (ld_eq (j := 11) rfl rfl (ld_val (ov_pick_f rfl rfl rfl)))⟩, trivial⟩ ?_
                        refine tl_eq 12 rfl ?_
                        refine tl_done ?_
                        refine al_val (ov_assign rfl rfl) ?_
                        refine al_nil ?_
                        exact aq_join false h (fun w a hm hs => norm hm hs [] [0, 1, 2, 3, 4] [(0, v0_0), (9, v0_0), (10, (Value.int .i64 (a0.length : Int))), (11, (Value.int .i64 l4i11)), (61, (Value.bool false))] (by decide) ⟨rfl, rfl, rfl, rfl, rfl, trivial⟩)
          · clear hkk18
            refine aw_region ?_
            refine al_val (ov_fieldA (p := 2) rfl Tryd.underlying40 rfl sz3 rfl rfl rfl) ?_
            refine al_val (ov_load (i := 0) (v := (Value.int .i64 u8.Mode)) rfl rfl Tryd.underlying3 sz3 rfl rfl rfl rfl) ?_
            refine al_val (ov_int rfl rfl rfl rfl) ?_
            refine al_val (ov_move rfl rfl) ?_
            refine al_caseB 26 rfl (fun hb35 => ?_) (fun hb35 => ?_)
            · replace h := bif_t hb35 h
              refine al_skip ?_
              refine al_skip ?_
              refine al_skip ?_
              refine al_val (ov_pick_t rfl rfl rfl) ?_
              refine al_val (ov_move rfl rfl) ?_
              refine al_skip ?_
              refine al_skip ?_
              refine al_skip ?_
              refine al_val (ov_pick_t rfl rfl rfl) ?_
              refine al_val (ov_move rfl rfl) ?_
              refine al_skip ?_
              refine al_skip ?_
              refine al_skip ?_
              refine al_val (ov_pick_t rfl rfl rfl) ?_
              refine al_val (ov_move rfl rfl) ?_
              refine al_skip ?_
              refine al_skip ?_
              refine al_skip ?_
              refine al_skip ?_
              refine al_val (ov_pick_t rfl rfl rfl) ?_
              refine al_val (ov_assign rfl rfl) ?_
              refine al_nil ?_
              exact aq_join true h (fun w a hm hs => norm hm hs [0] [3, 0, 1, 2, 4] [(0, v0_0), (3, (Value.int .i64 l4i11)), (4, (ptr g13 0)), (9, v0_0), (10, (Value.int .i64 (a0.length : Int))), (11, (Value.int .i64 l4i11)), (22, (Value.bool true))] (by decide) ⟨rfl, rfl, rfl, rfl, rfl, rfl, rfl, trivial⟩)
            · replace h := bif_f hb35 h
              refine al_val (ov_fieldA (p := 2) rfl Tryd.underlying40 rfl sz3 rfl rfl rfl) ?_
              refine al_val (ov_load (i := 0) (v := (Value.int .i64 u8.Mode)) rfl rfl Tryd.underlying3 sz3 rfl rfl rfl rfl) ?_
              refine al_val (ov_int rfl rfl rfl rfl) ?_
              refine al_val (ov_pick_f rfl rfl rfl) ?_
              refine al_val (ov_move rfl rfl) ?_
              refine al_caseB 31 rfl (fun hb36 => ?_) (fun hb36 => ?_)
              · replace h := bif_t hb36 h
                refine al_skip ?_
                refine al_skip ?_
                refine al_skip ?_
                refine al_val (ov_pick_t rfl rfl rfl) ?_
                refine al_val (ov_move rfl rfl) ?_
                refine al_skip ?_
                refine al_skip ?_
                refine al_skip ?_
                refine al_val (ov_pick_t rfl rfl rfl) ?_
                refine al_val (ov_move rfl rfl) ?_
                refine al_skip ?_
                refine al_skip ?_
                refine al_skip ?_
                refine al_skip ?_
                refine al_val (ov_pick_t rfl rfl rfl) ?_
                refine al_val (ov_assign rfl rfl) ?_
                refine al_nil ?_
                exact aq_join true h (fun w a hm hs => norm hm hs [0] [3, 0, 1, 2, 4] [(0, v0_0), (3, (Value.int .i64 l4i11)), (4, (ptr g13 0)), (9, v0_0), (10, (Value.int .i64 (a0.length : Int))), (11, (Value.int .i64 l4i11)), (22, (Value.bool true))] (by decide) ⟨rfl, rfl, rfl, rfl, rfl, rfl, rfl, trivial⟩)
              · replace h := bif_f hb36 h
                refine al_val (ov_fieldA (p := 4) rfl Tryd.underlying40 rfl sz3 rfl rfl rfl) ?_
                refine al_val (ov_load (i := 0) (v := (Value.int .i64 u8.Size)) rfl rfl Tryd.underlying3 sz3 rfl rfl rfl rfl) ?_
                refine al_val (ov_int rfl rfl rfl rfl) ?_
                refine al_val (ov_pick_f rfl rfl rfl) ?_
                refine al_val (ov_move rfl rfl) ?_
                refine al_caseB 36 rfl (fun hb37 => ?_) (fun hb37 => ?_)
                · replace h := bif_t hb37 h
                  refine al_skip ?_
                  refine al_skip ?_
                  refine al_skip ?_
                  refine al_val (ov_pick_t rfl rfl rfl) ?_
                  refine al_val (ov_move rfl rfl) ?_
                  refine al_skip ?_
                  refine al_skip ?_
                  refine al_skip ?_
                  refine al_skip ?_
                  refine al_val (ov_pick_t rfl rfl rfl) ?_
                  refine al_val (ov_assign rfl rfl) ?_
                  refine al_nil ?_
                  exact aq_join true h (fun w a hm hs => norm hm hs [0] [3, 0, 1, 2, 4] [(0, v0_0), (3, (Value.int .i64 l4i11)), (4, (ptr g13 0)), (9, v0_0), (10, (Value.int .i64 (a0.length : Int))), (11, (Value.int .i64 l4i11)), (22, (Value.bool true))] (by decide) ⟨rfl, rfl, rfl, rfl, rfl, rfl, rfl, trivial⟩)
                · replace h := bif_f hb37 h
                  refine al_val (ov_fieldA (p := 4) rfl Tryd.underlying40 rfl sz3 rfl rfl rfl) ?_
                  refine al_val (ov_load (i := 0) (v := (Value.int .i64 u8.Size)) rfl rfl Tryd.underlying3 sz3 rfl rfl rfl rfl) ?_
                  refine al_val (ov_int rfl rfl rfl rfl) ?_
                  refine al_val (ov_pick_f rfl rfl rfl) ?_
                  refine al_val (ov_move rfl rfl) ?_
                  refine al_caseB 41 rfl (fun hb38 => ?_) (fun hb38 => ?_)
                  · replace h := bif_t hb38 h
                    refine al_skip ?_
                    refine al_skip ?_
                    refine al_skip ?_
                    refine al_skip ?_
                    refine al_val (ov_pick_t rfl rfl rfl) ?_
                    refine al_val (ov_assign rfl rfl) ?_
                    refine al_nil ?_
                    exact aq_join true h (fun w a hm hs => norm hm hs [0] [3, 0, 1, 2, 4] [(0, v0_0), (3, (Value.int .i64 l4i11)), (4, (ptr g13 0)), (9, v0_0), (10, (Value.int .i64 (a0.length : Int))), (11, (Value.int .i64 l4i11)), (22, (Value.bool true))] (by decide) ⟨rfl, rfl, rfl, rfl, rfl, rfl, rfl, trivial⟩)
                  · replace h := bif_f hb38 h
                    refine al_val (ov_fieldA (p := 5) rfl Tryd.underlying40 rfl sz38 rfl rfl rfl) ?_
                    refine al_val (ov_load (i := 0) (v := s11) rfl rfl Tryd.underlying38 sz38 rfl rfl rfl rfl) ?_
                    refine al_val (ov_lenD 0 rfl rfl Tryd.underlying38 rfl) ?_
                    refine al_val (ov_int rfl rfl rfl rfl) ?_
                    refine al_val (ov_pick_f rfl rfl rfl) ?_
                    refine al_val (ov_assign rfl rfl) ?_
                    refine al_nil ?_
                    exact aq_join (decide ((u8.Parts.length : Int) > (300 : Int))) h (fun w a hm hs => norm hm hs [0] [3, 0, 1, 2, 4] [(0, v0_0), (3, (Value.int .i64 l4i11)), (4, (ptr g13 0)), (9, v0_0), (10, (Value.int .i64 (a0.length : Int))), (11, (Value.int .i64 l4i11)), (22, (Value.bool (decide ((u8.Parts.length : Int) > (300 : Int)))))] (by decide) ⟨rfl, rfl, rfl, rfl, rfl, rfl, rfl, trivial⟩)
      · replace h := bif_f hb7 h
        refine aw_exit ?_
        refine aq_then_exit ?_
        refine aq_then_exit ?_
        refine aq_block_exit ?_
        exact aq_join () h (fun w a hm hs => norm hm hs [] [0, 1] [] (by decide) trivial)
-- STUCK (encoding/binary.bigEndian).AppendUint64: binary.go:222: call: append to data
def f_strings_TrimLeft (fu : Nat) (a0 a1 : List UInt8) : Option (List UInt8) := match a1 with | [c] => req (c.toNat < 128) (some (Lib.trimLeftB a0 c)) | _ => none
theorem f_strings_TrimLeft_ok (fu : Nat) (a0 a1 : List UInt8) {r : List UInt8} (h : f_strings_TrimLeft fu a0 a1 = some r) : FnOk Tryd.prog 129 [(str a0), (str a1)] [] [] (fun (i : Unit) => { val := (str r) }) := by
  unfold f_strings_TrimLeft at h
  split at h
  · rename_i c
    obtain ⟨hc, h⟩ := req_some h
    obtain rfl := Option.some.inj h
    refine fnok_pure fun w => ?_
    exact (Tryd.strings_TrimLeft_one ⟨a0.toArray⟩ c hc w).mono fun e w' h9 => ⟨by simpa [str] using h9.1, by rw [h9.2]; exact Below.refl _ _⟩
  · cases h
def f_binary_BEAppendUint64_nil (fu : Nat) (a0 : Unit) (a2 : Int) : Option (List UInt8) := req (0 ≤ a2 ∧ a2 < 18446744073709551616) (some (Lib.beBytes 8 a2.toNat))
theorem f_binary_BEAppendUint64_nil_ok (fu : Nat) (a0 : Unit) (a2 : Int) {r : List UInt8} (h : f_binary_BEAppendUint64_nil fu a0 a2 = some r) : FnOk Tryd.prog 128 [(ag []), (Value.slice none 0 0), (Value.int .u64 a2)] [] [] (fun (i : Value) => { val := i, own := [(oRow i 5 tyU8 r)] }) := by
  unfold f_binary_BEAppendUint64_nil at h
  obtain ⟨hc, h⟩ := req_some h
  obtain rfl := Option.some.inj h
  obtain ⟨n, rfl⟩ : ∃ n : Nat, a2 = n := ⟨a2.toNat, by omega⟩
  refine fnok_own fun w => ?_
  refine (Tryd.binary_BE_AppendUint64 w.heap.size 0 n (by omega) (.slice none 0 0) [] w ⟨rfl, .inl ⟨rfl, rfl⟩⟩ (Nat.le_refl _) (by omega)).mono fun ex w' h9 => ?_
  obtain ⟨v, h1, h2, h3⟩ := h9
  refine ⟨v, _, h1, ?_, fun Z => u8_row _, h3⟩
  rw [Lib.beBytes_length]
  show World.ownsRow _ _ _ 1 _ _ _
  simpa using h2
def f_num_digits (fu : Nat) (a0 : Int) : Option (List UInt8) := (opt (f_binary_BEAppendUint64_nil fu () a0) fun (r2 : (List UInt8)) => (opt (f_strings_TrimLeft fu r2 ([0] : List UInt8)) fun (r5 : (List UInt8)) => (some r5)))
set_option maxRecDepth 100000 in
theorem f_num_digits_ok (fu : Nat) (a0 : Int) {r : (List UInt8)} (h : f_num_digits fu a0 = some r) : FnOk Tryd.prog 95 [(Value.int .u64 a0)] [] [] (fun (i : Unit) => { val := (str r) }) := by
  unfold f_num_digits at h
  refine fn_enter Tryd.func95 rfl Tryd.ntmps95 rfl (fun w0 Z0 => ?_)
  refine aw_seq ?_
  refine aw_region ?_
  refine al_val (ov_assign rfl rfl) ?_
  refine al_nil ?_
  refine aq_then ?_
  refine aw_seq ?_
  refine aw_region ?_
  refine al_val (ov_load0 Tryd.underlying128 sz128 rfl rfl rfl) ?_
  refine al_val (ov_move rfl rfl) ?_
  obtain ⟨r2, hc1, h⟩ := opt_some h
  refine al_call (vs := [(ag []), (Value.slice none 0 0), (Value.int .u64 a0)]) (f_binary_BEAppendUint64_nil_ok fu () a0 hc1) [] [] [] pre_nil rfl (by simp) (by decide) (.inl rfl) rfl Tryd.func128 rfl rfl rfl (fun v3 => ?_)
  refine al_val (ov_toStrR 0 rfl rfl Tryd.underlying89 Tryd.underlying5 Tryd.underlying9 rfl) ?_
  refine al_val (ov_assign rfl rfl) ?_
  refine al_nil ?_
  refine aq_then ?_
  refine aw_seq ?_
  refine aw_region ?_
  refine al_val (ov_move rfl rfl) ?_
  obtain ⟨r5, hc4, h⟩ := opt_some h
  refine al_call (vs := [(str r2), (str ([0] : List UInt8))]) (f_strings_TrimLeft_ok fu r2 ([0] : List UInt8) hc4) [] [] [0] pre_nil rfl (by simp) (by decide) (.inl rfl) rfl Tryd.func129 rfl rfl rfl (fun _ => ?_)
  refine al_val (ov_assign rfl rfl) ?_
  refine al_nil ?_
  refine aq_then ?_
  refine aw_ret ?_
  obtain rfl := Option.some.inj h
  exact fn_ret () [] [] rfl rfl rfl rfl (res1 rfl rfl) rfl rfl rfl (by decide)
def f_num_Put (fu : Nat) (a0 : Int) : Option (List UInt8) := (opt (f_num_digits fu a0) fun (r2 : (List UInt8)) => (req (0 ≤ (IntKind.u8.wrap (r2.length : Int)) ∧ (IntKind.u8.wrap (r2.length : Int)) ≤ 255) (req (([(UInt8.ofNat ((IntKind.u8.wrap (r2.length : Int))).toNat)]).length + r2.length ≤ 9223372036854775807) (some (([(UInt8.ofNat ((IntKind.u8.wrap (r2.length : Int))).toNat)]) ++ r2)))))
set_option maxRecDepth 100000 in
theorem f_num_Put_ok (fu : Nat) (a0 : Int) {r : (List UInt8)} (h : f_num_Put fu a0 = some r) : FnOk Tryd.prog 54 [(Value.int .u64 a0)] [] [] (fun (i : Unit) => { val := (str r) }) := by
  unfold f_num_Put at h
  refine fn_enter Tryd.func54 rfl Tryd.ntmps54 rfl (fun w0 Z0 => ?_)
  refine aw_seq ?_
  refine aw_region ?_
  refine al_val (ov_assign rfl rfl) ?_
  refine al_nil ?_
  refine aq_then ?_
  refine aw_seq ?_
  refine aw_region ?_
  refine al_val (ov_move rfl rfl) ?_
  obtain ⟨r2, hc1, h⟩ := opt_some h
  refine al_call (vs := [(Value.int .u64 a0)]) (f_num_digits_ok fu a0 hc1) [] [] [] pre_nil rfl (by simp) (by decide) (.inl rfl) rfl Tryd.func95 rfl rfl rfl (fun _ => ?_)
  refine al_val (ov_assign rfl rfl) ?_
  refine al_nil ?_
  refine aq_then ?_
  refine aw_seq ?_
  refine aw_region ?_
  refine al_val (ov_move rfl rfl) ?_
  refine al_val (ov_strLen Tryd.underlying9 rfl rfl) ?_
  refine al_val (ov_convInt (by rw [Tryd.underlying3]; rfl) Tryd.underlying5 rfl rfl) ?_
  obtain ⟨hc4, h⟩ := req_some h
  refine al_buildSlice (τ := tyU8) (e := 5) (k := 1) (sz := 0) (by_ := 0) (z := undef) (cs := [(Value.int .u8 (IntKind.u8.wrap (r2.length : Int)))]) (xs := [(UInt8.ofNat ((IntKind.u8.wrap (r2.length : Int))).toNat)]) rfl (by decide) (fun w a hm hs => ⟨([(Value.int .u8 (IntKind.u8.wrap (r2.length : Int)))]).toArray, rfl, by simp only [List.map_toArray, List.map_cons, List.map_nil, hs.ev (x := .tmp 8) rfl]; exact run_bs [(Value.int .u8 (IntKind.u8.wrap (r2.length : Int)))] [(Value.int .u8 (IntKind.u8.wrap (r2.length : Int)))] Tryd.underlying89 to5 rfl rfl (bs_cons (l := [(Value.int .u8 (IntKind.u8.wrap (r2.length : Int)))]) (cs := []) (cv_rfl rfl) rfl bs_nil) hm⟩) (fun hm => ⟨_, _, rfl, (fun _ => u8_rep hc4) hm, rfl⟩) rfl (fun v3 => ?_)
  refine al_val (ov_toStrR 0 rfl rfl Tryd.underlying89 Tryd.underlying5 Tryd.underlying9 rfl) ?_
  refine al_val (ov_move rfl rfl) ?_
  obtain ⟨hc5, h⟩ := req_some h
  refine al_val (ov_strAdd hc5 rfl rfl rfl) ?_
  refine al_val (ov_assign rfl rfl) ?_
  refine al_nil ?_
  refine aq_then ?_
  refine aw_ret ?_
  obtain rfl := Option.some.inj h
  exact fn_ret () [] [] rfl rfl rfl rfl (res1 rfl rfl) rfl rfl rfl (by decide)
def f_tree_Write_1 (fu : Nat) (a0 : Int) : Option (List UInt8) := (opt (f_num_Put fu (IntKind.u64.wrap a0)) fun (r2 : (List UInt8)) => (some r2))
set_option maxRecDepth 100000 in
theorem f_tree_Write_1_ok (fu : Nat) (a0 : Int) {r : (List UInt8)} (h : f_tree_Write_1 fu a0 = some r) : FnOk Tryd.prog 61 [(Value.int .i64 a0)] [] [] (fun (i : Unit) => { val := (str r) }) := by
  unfold f_tree_Write_1 at h
  refine fn_enter Tryd.func61 rfl Tryd.ntmps61 rfl (fun w0 Z0 => ?_)
  refine aw_seq ?_
  refine aw_region ?_
  refine al_val (ov_assign rfl rfl) ?_
  refine al_nil ?_
  refine aq_then ?_
  refine aw_seq ?_
  refine aw_region ?_
  refine al_val (ov_move rfl rfl) ?_
  refine al_val (ov_convInt (by rw [Tryd.underlying3]; rfl) Tryd.underlying87 rfl rfl) ?_
  obtain ⟨r2, hc1, h⟩ := opt_some h
  refine al_call (vs := [(Value.int .u64 (IntKind.u64.wrap a0))]) (f_num_Put_ok fu (IntKind.u64.wrap a0) hc1) [] [] [] pre_nil rfl (by simp) (by decide) (.inl rfl) rfl Tryd.func54 rfl rfl rfl (fun _ => ?_)
  refine al_val (ov_assign rfl rfl) ?_
  refine al_nil ?_
  refine aq_then ?_
  refine aw_ret ?_
  obtain rfl := Option.some.inj h
  exact fn_ret () [] [] rfl rfl rfl rfl (res1 rfl rfl) rfl rfl rfl (by decide)
def f_num_PutText (fu : Nat) (a0 : (List UInt8)) : Option ((List UInt8) × Int) := (bif (decide ((a0.length : Int) > (1024 : Int))) then (some (([] : List UInt8), (2 : Int))) else (opt (f_strings_ReplaceAll fu a0 ([0] : List UInt8) ([0, 255] : List UInt8)) fun (r3 : (List UInt8)) => (req (r3.length + ([0, 0] : List UInt8).length ≤ 9223372036854775807) (some ((r3 ++ ([0, 0] : List UInt8)), (0 : Int))))))
set_option maxRecDepth 100000 in
theorem f_num_PutText_ok (fu : Nat) (a0 : (List UInt8)) {r : ((List UInt8) × Int)} (h : f_num_PutText fu a0 = some r) : FnOk Tryd.prog 62 [(str a0)] [uMax] [] (fun (i : Unit) => { val := (Value.tuple #[(str r.1), (Value.int .i64 r.2)]) }) := by
  unfold f_num_PutText at h
  refine fn_enter Tryd.func62 rfl Tryd.ntmps62 rfl (fun w0 Z0 => ?_)
  refine aw_seq ?_
  refine aw_region ?_
  refine al_val (ov_assign rfl rfl) ?_
  refine al_val (ov_assign rfl rfl) ?_
  refine al_nil ?_
  refine aq_then ?_
  refine aw_seq ?_
  refine aw_seq ?_
  refine aw_region ?_
  refine al_val (ov_move rfl rfl) ?_
  refine al_val (ov_strLen Tryd.underlying9 rfl rfl) ?_
  refine al_val (ov_int rfl rfl rfl rfl) ?_
  refine al_nil ?_
  refine aq_then ?_
  refine aw_cond rfl (fun hb1 => ?_) (fun hb1 => ?_)
  · replace h := bif_t hb1 h
    refine aw_seq ?_
    refine aw_region ?_
    refine al_val (ov_assign rfl rfl) ?_
    refine al_val (ov_assign rfl rfl) ?_
    refine al_nil ?_
    refine aq_then ?_
    refine aw_ret ?_
    refine aq_then_ret ?_
    obtain rfl := Option.some.inj h
    exact fn_ret () [] [] rfl rfl rfl rfl (res2 rfl rfl rfl) rfl rfl rfl (by decide)
  · replace h := bif_f hb1 h
    refine aw_skip ?_
    refine aq_then ?_
    refine aw_seq ?_
    refine aw_region ?_
    refine al_val (ov_move rfl rfl) ?_
    obtain ⟨r3, hc2, h⟩ := opt_some h
    refine al_call (vs := [(str a0), (str ([0] : List UInt8)), (str ([0, 255] : List UInt8))]) (f_strings_ReplaceAll_ok fu a0 ([0] : List UInt8) ([0, 255] : List UInt8) hc2) [] [] [] (pre_fz 0 rfl pre_nil) rfl (by simp) (by decide) (.inl rfl) rfl Tryd.func104 rfl rfl rfl (fun _ => ?_)
    obtain ⟨hc4, h⟩ := req_some h
    refine al_val (ov_strAdd hc4 rfl rfl rfl) ?_
    refine al_val (ov_assign rfl rfl) ?_
    refine al_val (ov_assign rfl rfl) ?_
    refine al_nil ?_
    refine aq_then ?_
    refine aw_ret ?_
    obtain rfl := Option.some.inj h
    exact fn_ret () [] [] rfl rfl rfl rfl (res2 rfl rfl rfl) rfl rfl rfl (by decide)
def f_num_turned_L7 (a0 : (List UInt8)) (kk4 : ((List UInt8) → Option (List UInt8))) : Nat → (List UInt8) → Int → Option (List UInt8)
  | 0, _, _ => none
  | k6 + 1, l5x3, l5i9 => (bif (decide (l5i9 < (a0.length : Int))) then (opt (at? l5x3 l5i9) fun (u9 : UInt8) => (opt (at? l5x3 l5i9) fun (u13 : UInt8) => (req (0 ≤ (bits .xor .u8 (if IntKind.signed .u8 then -1 else IntKind.max .u8) (u9.toNat : Int)) ∧ (bits .xor .u8 (if IntKind.signed .u8 then -1 else IntKind.max .u8) (u9.toNat : Int)) ≤ 255) (f_num_turned_L7 a0 kk4 k6 (l5x3.set (l5i9).toNat (UInt8.ofNat ((bits .xor .u8 (if IntKind.signed .u8 then -1 else IntKind.max .u8) (u9.toNat : Int))).toNat)) (IntKind.i64.wrap (l5i9 + (1 : Int))))))) else (kk4 l5x3))
def f_num_turned (fu : Nat) (a0 : (List UInt8)) : Option (List UInt8) := (req (a0.length ≤ 9223372036854775807) (lt (fun (j3x3 : (List UInt8)) => (some j3x3)) fun (kk4 : (List UInt8) → Option (List UInt8)) => (f_num_turned_L7 a0 kk4 fu a0 (0 : Int))))
set_option maxRecDepth 100000 in
theorem f_num_turned_ok (fu : Nat) (a0 : (List UInt8)) {r : (List UInt8)} (h : f_num_turned fu a0 = some r) : FnOk Tryd.prog 105 [(str a0)] [] [] (fun (i : Unit) => { val := (str r) }) := by
  unfold f_num_turned at h
  refine fn_enter Tryd.func105 rfl Tryd.ntmps105 rfl (fun w0 Z0 => ?_)
  refine aw_seq ?_
  refine aw_region ?_
  refine al_val (ov_assign rfl rfl) ?_
  refine al_nil ?_
  refine aq_then ?_
  refine aw_seq ?_
  refine aw_region ?_
  refine al_val (ov_move rfl rfl) ?_
  obtain ⟨hc1, h⟩ := req_some h
  refine al_bytesO hc1 rfl Tryd.underlying9 Tryd.underlying89 Tryd.underlying5 rfl (fun s2 => ?_)
  refine al_val (ov_assign rfl rfl) ?_
  refine al_nil ?_
  refine aq_then ?_
  obtain ⟨kk4, hkk4, h⟩ := lt_some h
  refine aw_seq_join (ι := (List UInt8)) (fun i => (memOf w0 Z0 [] [(oBy s2 5 i)] [])) (fun i => (tab [(3, s2)])) (fun i => kk4 i = some r) ?_ ?_
  · rintro j3x3 h
    have h : kk4 j3x3 = some r := h
    rw [hkk4] at h
    dsimp only at h
    clear hkk4
    refine aw_show (m := (memOf w0 Z0 [] [(oBy s2 5 j3x3)] [])) (S := (tab [(3, s2)])) ?_
    refine aw_seq ?_
    refine aw_region ?_
    refine al_val (ov_move rfl rfl) ?_
    refine al_val (ov_toStrO 0 rfl rfl Tryd.underlying89 Tryd.underlying5 Tryd.underlying9 rfl) ?_
    refine al_val (ov_assign rfl rfl) ?_
    refine al_nil ?_
    refine aq_then ?_
    refine aw_ret ?_
    obtain rfl := Option.some.inj h
    exact fn_ret () [] [] rfl rfl rfl rfl (res1 rfl rfl) rfl rfl rfl (by decide)
  · clear hkk4
    refine aw_seq ?_
    refine aw_region ?_
    refine al_val (ov_move rfl rfl) ?_
    refine al_val (ov_lenO 0 rfl rfl Tryd.underlying89 rfl) ?_
    refine al_val (ov_move rfl rfl) ?_
    refine al_nil ?_
    refine aq_then ?_
    refine aw_block ?_
    refine aw_state (aw_loop (ι := (List UInt8) × Int) (fun i => (memOf w0 Z0 [] [(oBy s2 5 i.1)] [])) (fun i => (tab [(3, s2), (8, (Value.int .i64 (a0.length : Int))), (9, (Value.int .i64 i.2))])) (fun q i => f_num_turned_L7 a0 kk4 q i.1 i.2 = some r) ?_ fu (a0, (0 : Int)) h) (fun w a hm hs => norm hm hs [0] [] [(3, s2), (8, (Value.int .i64 (a0.length : Int))), (9, (Value.int .i64 (0 : Int)))] (by decide) ⟨rfl, rfl, rfl, trivial⟩)
    clear h
    rintro k6 ⟨l5x3, l5i9⟩ h
    have h : f_num_turned_L7 a0 kk4 k6 l5x3 l5i9 = some r := h
    obtain _ | k6 := k6
    · rw [f_num_turned_L7] at h; cases h
    rw [f_num_turned_L7] at h
    refine aw_show (m := (memOf w0 Z0 [] [(oBy s2 5 l5x3)] [])) (S := (tab [(3, s2), (8, (Value.int .i64 (a0.length : Int))), (9, (Value.int .i64 l5i9))])) ?_
    refine aw_seq ?_
    refine aw_region ?_
    refine al_val (ov_int rfl rfl rfl rfl) ?_
    refine al_nil ?_
    refine aq_then ?_
    refine aw_seq ?_
    refine aw_cond rfl (fun hb8 => ?_) (fun hb8 => ?_)
    · replace h := bif_t hb8 h
      refine aw_skip ?_
      refine aq_then ?_
      refine aw_seq ?_
      refine aw_block ?_
      refine aw_seq ?_
      refine aw_region ?_
      refine al_val (ov_move rfl rfl) ?_
      refine al_val (ov_assign rfl rfl) ?_
      refine al_nil ?_
      refine aq_then ?_
      refine aw_region ?_
      refine al_val (ov_move rfl rfl) ?_
      refine al_val (ov_move rfl rfl) ?_
      refine al_val (ov_move rfl rfl) ?_
      refine al_val (ov_move rfl rfl) ?_
      obtain ⟨u9, hu10, h⟩ := opt_some h
      refine al_idxO 0 (at_some hu10).1 (at_some hu10).2.1 rfl rfl rfl Tryd.underlying89 sz5 rfl (fun p11 hp12 => ?_)
      refine al_val (ov_loadO (ds := [(Value.int .u8 (u9.toNat : Int))]) 0 rfl hp12 (at_some hu10).2.2 (fun h => h) rfl Tryd.underlying5 sz5 rfl rfl rfl) ?_
      refine al_val (ov_compl rfl rfl) ?_
      obtain ⟨u13, hu14, h⟩ := opt_some h
      refine al_idxO 0 (at_some hu14).1 (at_some hu14).2.1 rfl rfl rfl Tryd.underlying89 sz5 rfl (fun p15 hp16 => ?_)
      obtain ⟨hc17, h⟩ := req_some h
      refine al_storeO (k := (l5i9).toNat) (x := (UInt8.ofNat ((bits .xor .u8 (if IntKind.signed .u8 then -1 else IntKind.max .u8) (u9.toNat : Int))).toNat)) (vs := [(Value.int .u8 (bits .xor .u8 (if IntKind.signed .u8 then -1 else IntKind.max .u8) (u9.toNat : Int)))]) 0 rfl hp16 (idx_lt hu14) rfl rfl (cv_rfl rfl) (fun _ => u8_rep hc17) sz5 rfl ?_
      refine al_nil ?_
      refine aq_block ?_
      refine aq_then ?_
      refine aw_region ?_
      refine al_val (ov_int rfl rfl rfl rfl) ?_
      refine al_val (ov_move rfl rfl) ?_
      refine al_nil ?_
      exact aq_again k6 ((l5x3.set (l5i9).toNat (UInt8.ofNat ((bits .xor .u8 (if IntKind.signed .u8 then -1 else IntKind.max .u8) (u9.toNat : Int))).toNat)), (IntKind.i64.wrap (l5i9 + (1 : Int)))) (Nat.lt_succ_self _) h (fun w a hm hs => norm hm hs [0] [] [(3, s2), (8, (Value.int .i64 (a0.length : Int))), (9, (Value.int .i64 (IntKind.i64.wrap (l5i9 + (1 : Int)))))] (by decide) ⟨rfl, rfl, rfl, trivial⟩)
    · replace h := bif_f hb8 h
      refine aw_exit ?_
      refine aq_then_exit ?_
      refine aq_then_exit ?_
      refine aq_block_exit ?_
      exact aq_join l5x3 h (fun w a hm hs => norm hm hs [0] [] [(3, s2)] (by decide) ⟨rfl, trivial⟩)
def f_num_PutInt (fu : Nat) (a0 : Int) : Option (List UInt8) := (bif (decide (a0 < (0 : Int))) then (opt (f_num_digits fu (IntKind.u64.wrap (IntKind.i64.wrap ((-1 : Int) - a0)))) fun (r3 : (List UInt8)) => (req (0 ≤ (IntKind.u8.wrap (IntKind.i64.wrap ((127 : Int) - (r3.length : Int)))) ∧ (IntKind.u8.wrap (IntKind.i64.wrap ((127 : Int) - (r3.length : Int)))) ≤ 255) (opt (f_num_turned fu r3) fun (r7 : (List UInt8)) => (req (([(UInt8.ofNat ((IntKind.u8.wrap (IntKind.i64.wrap ((127 : Int) - (r3.length : Int))))).toNat)]).length + r7.length ≤ 9223372036854775807) (some (([(UInt8.ofNat ((IntKind.u8.wrap (IntKind.i64.wrap ((127 : Int) - (r3.length : Int))))).toNat)]) ++ r7)))))) else (opt (f_num_digits fu (IntKind.u64.wrap a0)) fun (r10 : (List UInt8)) => (req (0 ≤ (IntKind.u8.wrap (IntKind.i64.wrap ((128 : Int) + (r10.length : Int)))) ∧ (IntKind.u8.wrap (IntKind.i64.wrap ((128 : Int) + (r10.length : Int)))) ≤ 255) (req (([(UInt8.ofNat ((IntKind.u8.wrap (IntKind.i64.wrap ((128 : Int) + (r10.length : Int))))).toNat)]).length + r10.length ≤ 9223372036854775807) (some (([(UInt8.ofNat ((IntKind.u8.wrap (IntKind.i64.wrap ((128 : Int) + (r10.length : Int))))).toNat)]) ++ r10))))))
set_option maxRecDepth 100000 in
theorem f_num_PutInt_ok (fu : Nat) (a0 : Int) {r : (List UInt8)} (h : f_num_PutInt fu a0 = some r) : FnOk Tryd.prog 63 [(Value.int .i64 a0)] [] [] (fun (i : Unit) => { val := (str r) }) := by
  unfold f_num_PutInt at h
  refine fn_enter Tryd.func63 rfl Tryd.ntmps63 rfl (fun w0 Z0 => ?_)
  refine aw_seq ?_
  refine aw_region ?_
  refine al_val (ov_assign rfl rfl) ?_
  refine al_nil ?_
  refine aq_then ?_
  refine aw_seq ?_
  refine aw_seq ?_
  refine aw_region ?_
  refine al_val (ov_move rfl rfl) ?_
  refine al_val (ov_int rfl rfl rfl rfl) ?_
  refine al_nil ?_
  refine aq_then ?_
  refine aw_cond rfl (fun hb1 => ?_) (fun hb1 => ?_)
  · replace h := bif_t hb1 h
    refine aw_seq ?_
    refine aw_region ?_
    refine al_val (ov_move rfl rfl) ?_
    refine al_val (ov_int rfl rfl rfl rfl) ?_
    refine al_val (ov_convInt (by rw [Tryd.underlying3]; rfl) Tryd.underlying87 rfl rfl) ?_
    obtain ⟨r3, hc2, h⟩ := opt_some h
    refine al_call (vs := [(Value.int .u64 (IntKind.u64.wrap (IntKind.i64.wrap ((-1 : Int) - a0))))]) (f_num_digits_ok fu (IntKind.u64.wrap (IntKind.i64.wrap ((-1 : Int) - a0))) hc2) [] [] [] pre_nil rfl (by simp) (by decide) (.inl rfl) rfl Tryd.func95 rfl rfl rfl (fun _ => ?_)
    refine al_val (ov_assign rfl rfl) ?_
    refine al_nil ?_
    refine aq_then ?_
    refine aw_seq ?_
    obtain ⟨hc5, h⟩ := req_some h
    obtain ⟨r7, hc6, h⟩ := opt_some h
    obtain ⟨hc8, h⟩ := req_some h
    refine aw_region_draw 9 [(11, (fun u => fEq u (str r3))), (12, (fun u => fEq u (Value.int .i64 (r3.length : Int)))), (13, (fun u => fEq u (Value.int .i64 (IntKind.i64.wrap ((127 : Int) - (r3.length : Int)))))), (14, (fun u => fEq u (Value.int .u8 (IntKind.u8.wrap (IntKind.i64.wrap ((127 : Int) - (r3.length : Int))))))), (15, (fun v4 => (fDat (tyList tyU8) [v4] [(UInt8.ofNat ((IntKind.u8.wrap (IntKind.i64.wrap ((127 : Int) - (r3.length : Int))))).toNat)]))), (16, (fun u => fEq u (str [(UInt8.ofNat ((IntKind.u8.wrap (IntKind.i64.wrap ((127 : Int) - (r3.length : Int))))).toNat)]))), (17, (fun u => fEq u (str r3))), (18, (fun u => fEq u (str r7))), (19, (fun u => fEq u (str (([(UInt8.ofNat ((IntKind.u8.wrap (IntKind.i64.wrap ((127 : Int) - (r3.length : Int))))).toNat)]) ++ r7))))] (tab [(2, (str ([] : List UInt8))), (3, (str r3))]) mixed (by kernel_rfl) rfl rfl rfl (fun a hs => hs.tab _ (allT_mem ⟨rfl, rfl, trivial⟩)) ⟨⟨rfl, ld_val (ov_move rfl rfl)⟩, ⟨rfl, ld_eq (j := 0) rfl rfl (ld_val (ov_strLen Tryd.underlying9 rfl rfl))⟩, ⟨rfl, ld_eq (j := 1) rfl rfl (ld_val (ov_int rfl rfl rfl rfl))⟩, ⟨rfl, ld_eq (j := 2) rfl rfl (ld_val (ov_convInt (by rw [Tryd.underlying3]; rfl) Tryd.underlying5 rfl rfl))⟩, ⟨rfl, ld_eq (j := 3) rfl rfl (ld_buildSlice (τ := tyU8) (e := 5) (k := 1) (cs := [(Value.int .u8 (IntKind.u8.wrap (IntKind.i64.wrap ((127 : Int) - (r3.length : Int)))))]) (xs := [(UInt8.ofNat ((IntKind.u8.wrap (IntKind.i64.wrap ((127 : Int) - (r3.length : Int))))).toNat)]) rfl (by decide) rfl (fun w a hm hs => ⟨([(Value.int .u8 (IntKind.u8.wrap (IntKind.i64.wrap ((127 : Int) - (r3.length : Int)))))]).toArray, rfl, by simp only [List.map_toArray, List.map_cons, List.map_nil, hs.ev (x := .tmp 14) rfl]; exact run_bs [(Value.int .u8 (IntKind.u8.wrap (IntKind.i64.wrap ((127 : Int) - (r3.length : Int)))))] [(Value.int .u8 (IntKind.u8.wrap (IntKind.i64.wrap ((127 : Int) - (r3.length : Int)))))] Tryd.underlying89 to5 rfl rfl (bs_cons (l := [(Value.int .u8 (IntKind.u8.wrap (IntKind.i64.wrap ((127 : Int) - (r3.length : Int)))))]) (cs := []) (cv_rfl rfl) rfl bs_nil) hm⟩) (fun hm => ⟨_, _, rfl, (fun _ => u8_rep hc5) hm, rfl⟩) rfl)⟩, ⟨rfl, ld_fact (j := 4) rfl rfl (fun v4 => ld_val (ov_toStr 0 rfl rfl Tryd.underlying89 Tryd.underlying5 Tryd.underlying9 rfl))⟩, ⟨rfl, ld_val (ov_move rfl rfl)⟩, ⟨rfl, ld_eq (j := 6) rfl rfl (ld_callV (vs := [(str r3)]) (f_num_turned_ok fu r3 hc6) [] pre_nil rfl Tryd.func105 rfl rfl rfl)⟩, ⟨rfl, ld_eq (j := 5) rfl rfl (ld_eq (j := 7) rfl rfl (ld_val (ov_strAdd hc8 rfl rfl rfl)))⟩, trivial⟩ ?_
    refine tl_eq 8 rfl ?_
    refine tl_done ?_
    refine al_val (ov_assign rfl rfl) ?_
    refine al_nil ?_
    refine aq_then ?_
    refine aw_ret ?_
    refine aq_then_ret ?_
    obtain rfl := Option.some.inj h
    exact fn_ret () [] [] rfl rfl rfl rfl (res1 rfl rfl) rfl rfl rfl (by decide)
  · replace h := bif_f hb1 h
    refine aw_skip ?_
    refine aq_then ?_
    refine aw_seq ?_
    refine aw_region ?_
    refine al_val (ov_move rfl rfl) ?_
    refine al_val (ov_convInt (by rw [Tryd.underlying3]; rfl) Tryd.underlying87 rfl rfl) ?_
    obtain ⟨r10, hc9, h⟩ := opt_some h
    refine al_call (vs := [(Value.int .u64 (IntKind.u64.wrap a0))]) (f_num_digits_ok fu (IntKind.u64.wrap a0) hc9) [] [] [] pre_nil rfl (by simp) (by decide) (.inl rfl) rfl Tryd.func95 rfl rfl rfl (fun _ => ?_)
    refine al_val (ov_assign rfl rfl) ?_
    refine al_nil ?_
    refine aq_then ?_
    refine aw_seq ?_
    refine aw_region ?_
    refine al_val (ov_move rfl rfl) ?_
    refine al_val (ov_strLen Tryd.underlying9 rfl rfl) ?_
    refine al_val (ov_int rfl rfl rfl rfl) ?_
    refine al_val (ov_convInt (by rw [Tryd.underlying3]; rfl) Tryd.underlying5 rfl rfl) ?_
    obtain ⟨hc12, h⟩ := req_some h
    refine al_buildSlice (τ := tyU8) (e := 5) (k := 1) (sz := 0) (by_ := 0) (z := undef) (cs := [(Value.int .u8 (IntKind.u8.wrap (IntKind.i64.wrap ((128 : Int) + (r10.length : Int)))))]) (xs := [(UInt8.ofNat ((IntKind.u8.wrap (IntKind.i64.wrap ((128 : Int) + (r10.length : Int))))).toNat)]) rfl (by decide) (fun w a hm hs => ⟨([(Value.int .u8 (IntKind.u8.wrap (IntKind.i64.wrap ((128 : Int) + (r10.length : Int)))))]).toArray, rfl, by simp only [List.map_toArray, List.map_cons, List.map_nil, hs.ev (x := .tmp 26) rfl]; exact run_bs [(Value.int .u8 (IntKind.u8.wrap (IntKind.i64.wrap ((128 : Int) + (r10.length : Int)))))] [(Value.int .u8 (IntKind.u8.wrap (IntKind.i64.wrap ((128 : Int) + (r10.length : Int)))))] Tryd.underlying89 to5 rfl rfl (bs_cons (l := [(Value.int .u8 (IntKind.u8.wrap (IntKind.i64.wrap ((128 : Int) + (r10.length : Int)))))]) (cs := []) (cv_rfl rfl) rfl bs_nil) hm⟩) (fun hm => ⟨_, _, rfl, (fun _ => u8_rep hc12) hm, rfl⟩) rfl (fun v11 => ?_)
    refine al_val (ov_toStrR 0 rfl rfl Tryd.underlying89 Tryd.underlying5 Tryd.underlying9 rfl) ?_
    refine al_val (ov_move rfl rfl) ?_
    obtain ⟨hc13, h⟩ := req_some h
    refine al_val (ov_strAdd hc13 rfl rfl rfl) ?_
    refine al_val (ov_assign rfl rfl) ?_
    refine al_nil ?_
    refine aq_then ?_
    refine aw_ret ?_
    obtain rfl := Option.some.inj h
    exact fn_ret () [] [] rfl rfl rfl rfl (res1 rfl rfl) rfl rfl rfl (by decide)
def f_tree_Write_L47 (u16 : S_api_Node) (kk43 : ((List UInt8) → Option ((List UInt8) × Int))) : Nat → (List UInt8) → Int → Option ((List UInt8) × Int)
  | 0, _, _ => none
  | k46 + 1, l45s6, l45i74 => (bif (decide (l45i74 < (u16.Parts.length : Int))) then (opt (at? u16.Parts l45i74) fun (u49 : A8u8) => (req (l45s6.length + (lA8u8 u49).length ≤ 9223372036854775807) (f_tree_Write_L47 u16 kk43 k46 (l45s6 ++ (lA8u8 u49)) (IntKind.i64.wrap (l45i74 + (1 : Int)))))) else (kk43 l45s6))
def f_tree_Write_L11 (a0 : (List S_api_Node)) (kk7 : ((List UInt8) → Option ((List UInt8) × Int))) (fu : Nat) : Nat → (List UInt8) → Int → Option ((List UInt8) × Int)
  | 0, _, _ => none
  | k10 + 1, l9s6, l9i26 => (lt (fun (l9s6 : (List UInt8)) (l9i26 : Int) => (f_tree_Write_L11 a0 kk7 fu k10 l9s6 l9i26)) fun (kk12 : (List UInt8) → Int → Option ((List UInt8) × Int)) => (bif (decide (l9i26 < (a0.length : Int))) then (lt (fun (j14s6 : (List UInt8)) => (kk12 j14s6 (IntKind.i64.wrap (l9i26 + (1 : Int))))) fun (kk15 : (List UInt8) → Option ((List UInt8) × Int)) => (opt (at? a0 l9i26) fun (u16 : S_api_Node) => (opt (f_num_PutText fu u16.Name) fun (r23 : ((List UInt8) × Int)) => (opt (f_num_PutText fu u16.Link) fun (r25 : ((List UInt8) × Int)) => (req (0 ≤ (IntKind.u8.wrap u16.Kind) ∧ (IntKind.u8.wrap u16.Kind) ≤ 255) (req (r23.1.length + ([(UInt8.ofNat ((IntKind.u8.wrap u16.Kind)).toNat)]).length ≤ 9223372036854775807) (opt (f_tree_Write_1 fu u16.Mode) fun (r30 : (List UInt8)) => (req ((r23.1 ++ ([(UInt8.ofNat ((IntKind.u8.wrap u16.Kind)).toNat)])).length + r30.length ≤ 9223372036854775807) (opt (f_num_PutInt fu u16.Time) fun (r33 : (List UInt8)) => (req (((r23.1 ++ ([(UInt8.ofNat ((IntKind.u8.wrap u16.Kind)).toNat)])) ++ r30).length + r33.length ≤ 9223372036854775807) (opt (f_tree_Write_1 fu u16.Size) fun (r36 : (List UInt8)) => (req ((((r23.1 ++ ([(UInt8.ofNat ((IntKind.u8.wrap u16.Kind)).toNat)])) ++ r30) ++ r33).length + r36.length ≤ 9223372036854775807) (opt (f_tree_Write_1 fu (u16.Parts.length : Int)) fun (r39 : (List UInt8)) => (req (((((r23.1 ++ ([(UInt8.ofNat ((IntKind.u8.wrap u16.Kind)).toNat)])) ++ r30) ++ r33) ++ r36).length + r39.length ≤ 9223372036854775807) (req (l9s6.length + (((((r23.1 ++ ([(UInt8.ofNat ((IntKind.u8.wrap u16.Kind)).toNat)])) ++ r30) ++ r33) ++ r36) ++ r39).length ≤ 9223372036854775807) (lt (fun (j42s6 : (List UInt8)) => (req (j42s6.length + r25.1.length ≤ 9223372036854775807) (kk15 (j42s6 ++ r25.1)))) fun (kk43 : (List UInt8) → Option ((List UInt8) × Int)) => (f_tree_Write_L47 u16 kk43 fu (l9s6 ++ (((((r23.1 ++ ([(UInt8.ofNat ((IntKind.u8.wrap u16.Kind)).toNat)])) ++ r30) ++ r33) ++ r36) ++ r39)) (0 : Int)))))))))))))))))) else (kk7 l9s6)))
def f_tree_Write (fu : Nat) (a0 : (List S_api_Node)) : Option ((List UInt8) × Int) := (opt (f_tree_Check fu a0) fun (r2 : Int) => (bif (r2 != (0 : Int)) then (some (([] : List UInt8), r2)) else (opt (f_tree_Write_1 fu (a0.length : Int)) fun (r5 : (List UInt8)) => (lt (fun (j6s6 : (List UInt8)) => (bif (decide ((j6s6.length : Int) > (4096 : Int))) then (some (([] : List UInt8), (2 : Int))) else (some (j6s6, (0 : Int))))) fun (kk7 : (List UInt8) → Option ((List UInt8) × Int)) => (f_tree_Write_L11 a0 kk7 fu fu r5 (0 : Int))))))
set_option maxRecDepth 100000 in
theorem f_tree_Write_ok (fu : Nat) (v0_0 : Value) (a0 : (List S_api_Node)) {r : ((List UInt8) × Int)} (h : f_tree_Write fu a0 = some r) : FnOk Tryd.prog 18 [v0_0] [(fDat (tyList tyS_api_Node) [v0_0] a0), uMax, uTabs] [] (fun (i : Unit) => { val := (Value.tuple #[(str r.1), (Value.int .i64 r.2)]) }) := by
  unfold f_tree_Write at h
  refine fn_enter Tryd.func18 rfl Tryd.ntmps18 rfl (fun w0 Z0 => ?_)
  refine aw_seq ?_
  refine aw_region ?_
  refine al_val (ov_assign rfl rfl) ?_
  refine al_val (ov_assign rfl rfl) ?_
  refine al_nil ?_
  refine aq_then ?_
  refine aw_seq ?_
  refine aw_seq ?_
  refine aw_region ?_
  refine al_val (ov_move rfl rfl) ?_
  obtain ⟨r2, hc1, h⟩ := opt_some h
  refine al_call (vs := [v0_0]) (f_tree_Check_ok fu v0_0 a0 hc1) [] [] [] (pre_fz 0 rfl (pre_fz 2 rfl pre_nil)) rfl (by simp) (by decide) (.inl rfl) rfl Tryd.func23 rfl rfl rfl (fun _ => ?_)
  refine al_val (ov_assign rfl rfl) ?_
  refine al_nil ?_
  refine aq_then ?_
  refine aw_seq ?_
  refine aw_region ?_
  refine al_val (ov_move rfl rfl) ?_
  refine al_val (ov_int rfl rfl rfl rfl) ?_
  refine al_nil ?_
  refine aq_then ?_
  refine aw_cond rfl (fun hb3 => ?_) (fun hb3 => ?_)
  · replace h := bif_t hb3 h
    refine aw_seq ?_
    refine aw_region ?_
    refine al_val (ov_move rfl rfl) ?_
    refine al_val (ov_assign rfl rfl) ?_
    refine al_val (ov_assign rfl rfl) ?_
    refine al_nil ?_
    refine aq_then ?_
    refine aw_ret ?_
    refine aq_then_ret ?_
    obtain rfl := Option.some.inj h
    exact fn_ret () [] [] rfl rfl rfl rfl (res2 rfl rfl rfl) rfl rfl rfl (by decide)
  · replace h := bif_f hb3 h
    refine aw_skip ?_
    refine aq_then ?_
    refine aw_seq ?_
    refine aw_region ?_
    refine al_val (ov_assign rfl rfl) ?_
    refine al_nil ?_
    refine aq_then ?_
    refine aw_seq ?_
    refine aw_region ?_
    refine al_val (ov_move rfl rfl) ?_
    refine al_val (ov_move rfl rfl) ?_
    refine al_val (ov_lenD 0 rfl rfl Tryd.underlying32 rfl) ?_
    obtain ⟨r5, hc4, h⟩ := opt_some h
    refine al_callF (vs := [(Value.int .i64 (a0.length : Int))]) (caps := []) (f_tree_Write_1_ok fu (a0.length : Int) hc4) rfl [] [] [] pre_nil rfl (by simp) (by decide) (.inl rfl) rfl rfl Tryd.func61 rfl rfl rfl (fun _ => ?_)
    refine al_val (ov_assign rfl rfl) ?_
    refine al_nil ?_
    refine aq_then ?_
    obtain ⟨kk7, hkk7, h⟩ := lt_some h
    refine aw_seq_join (ι := (List UInt8)) (fun i => (memOf w0 Z0 [] [] [(fDat (tyList tyS_api_Node) [v0_0] a0), uMax, uTabs])) (fun i => (tab [(6, (str i))])) (fun i => kk7 i = some r) ?_ ?_
    · rintro j6s6 h
      have h : kk7 j6s6 = some r := h
      rw [hkk7] at h
      dsimp only at h
      clear hkk7
      refine aw_show (m := (memOf w0 Z0 [] [] [(fDat (tyList tyS_api_Node) [v0_0] a0), uMax, uTabs])) (S := (tab [(6, (str j6s6))])) ?_
      refine aw_seq ?_
      refine aw_seq ?_
      refine aw_region ?_
      refine al_val (ov_move rfl rfl) ?_
      refine al_val (ov_strLen Tryd.underlying9 rfl rfl) ?_
      refine al_val (ov_int rfl rfl rfl rfl) ?_
      refine al_nil ?_
      refine aq_then ?_
      refine aw_cond rfl (fun hb8 => ?_) (fun hb8 => ?_)
      · replace h := bif_t hb8 h
        refine aw_seq ?_
        refine aw_region ?_
        refine al_val (ov_assign rfl rfl) ?_
        refine al_val (ov_assign rfl rfl) ?_
        refine al_nil ?_
        refine aq_then ?_
        refine aw_ret ?_
        refine aq_then_ret ?_
        obtain rfl := Option.some.inj h
        exact fn_ret () [] [] rfl rfl rfl rfl (res2 rfl rfl rfl) rfl rfl rfl (by decide)
      · replace h := bif_f hb8 h
        refine aw_skip ?_
        refine aq_then ?_
        refine aw_seq ?_
        refine aw_region ?_
        refine al_val (ov_move rfl rfl) ?_
        refine al_val (ov_assign rfl rfl) ?_
        refine al_val (ov_assign rfl rfl) ?_
        refine al_nil ?_
        refine aq_then ?_
        refine aw_ret ?_
        obtain rfl := Option.some.inj h
        exact fn_ret () [] [] rfl rfl rfl rfl (res2 rfl rfl rfl) rfl rfl rfl (by decide)
    · clear hkk7
      refine aw_seq ?_
      refine aw_region ?_
      refine al_val (ov_move rfl rfl) ?_
      refine al_val (ov_lenD 0 rfl rfl Tryd.underlying32 rfl) ?_
      refine al_val (ov_move rfl rfl) ?_
      refine al_nil ?_
      refine aq_then ?_
      refine aw_block ?_
      refine aw_state (aw_loop (ι := (List UInt8) × Int) (fun i => (memOf w0 Z0 [] [] [(fDat (tyList tyS_api_Node) [v0_0] a0), uMax, uTabs])) (fun i => (tab [(5, (Value.func (.func 61) #[] #[])), (6, (str i.1)), (24, v0_0), (25, (Value.int .i64 (a0.length : Int))), (26, (Value.int .i64 i.2))])) (fun q i => f_tree_Write_L11 a0 kk7 fu q i.1 i.2 = some r) ?_ fu (r5, (0 : Int)) h) (fun w a hm hs => norm hm hs [] [0, 1, 2] [(5, (Value.func (.func 61) #[] #[])), (6, (str r5)), (24, v0_0), (25, (Value.int .i64 (a0.length : Int))), (26, (Value.int .i64 (0 : Int)))] (by decide) ⟨rfl, rfl, rfl, rfl, rfl, trivial⟩)
      clear h
      rintro k10 ⟨l9s6, l9i26⟩ h
      have h : f_tree_Write_L11 a0 kk7 fu k10 l9s6 l9i26 = some r := h
      obtain _ | k10 := k10
      · rw [f_tree_Write_L11] at h; cases h
      rw [f_tree_Write_L11] at h
      refine aw_show (m := (memOf w0 Z0 [] [] [(fDat (tyList tyS_api_Node) [v0_0] a0), uMax, uTabs])) (S := (tab [(5, (Value.func (.func 61) #[] #[])), (6, (str l9s6)), (24, v0_0), (25, (Value.int .i64 (a0.length : Int))), (26, (Value.int .i64 l9i26))])) ?_
      obtain ⟨kk12, hkk12, h⟩ := lt_some h
      refine aw_body_join (ι := (List UInt8) × Int) (fun i => (memOf w0 Z0 [] [] [(fDat (tyList tyS_api_Node) [v0_0] a0), uMax, uTabs])) (fun i => (tab [(5, (Value.func (.func 61) #[] #[])), (6, (str i.1)), (24, v0_0), (25, (Value.int .i64 (a0.length : Int))), (26, (Value.int .i64 i.2))])) (fun i => kk12 i.1 i.2 = some r) (fun i h => aq_again k10 i (Nat.lt_succ_self _) (by rw [hkk12] at h; exact h) (fun w a hm hs => ⟨hm, hs⟩)) ?_
      clear hkk12
      refine aw_seq ?_
      refine aw_region ?_
      refine al_val (ov_int rfl rfl rfl rfl) ?_
      refine al_nil ?_
      refine aq_then ?_
      refine aw_seq ?_
      refine aw_cond rfl (fun hb13 => ?_) (fun hb13 => ?_)
      · replace h := bif_t hb13 h
        refine aw_skip ?_
        refine aq_then ?_
        obtain ⟨kk15, hkk15, h⟩ := lt_some h
        refine aw_seq_join (ι := (List UInt8)) (fun i => (memOf w0 Z0 [] [] [(fDat (tyList tyS_api_Node) [v0_0] a0), uMax, uTabs])) (fun i => (tab [(5, (Value.func (.func 61) #[] #[])), (6, (str i)), (24, v0_0), (25, (Value.int .i64 (a0.length : Int))), (26, (Value.int .i64 l9i26))])) (fun i => kk15 i = some r) ?_ ?_
        · rintro j14s6 h
          have h : kk15 j14s6 = some r := h
          rw [hkk15] at h
          dsimp only at h
          clear hkk15
          refine aw_show (m := (memOf w0 Z0 [] [] [(fDat (tyList tyS_api_Node) [v0_0] a0), uMax, uTabs])) (S := (tab [(5, (Value.func (.func 61) #[] #[])), (6, (str j14s6)), (24, v0_0), (25, (Value.int .i64 (a0.length : Int))), (26, (Value.int .i64 l9i26))])) ?_
          refine aw_region ?_
          refine al_val (ov_int rfl rfl rfl rfl) ?_
          refine al_val (ov_move rfl rfl) ?_
          refine al_nil ?_
          exact aq_join (j14s6, (IntKind.i64.wrap (l9i26 + (1 : Int)))) h (fun w a hm hs => norm hm hs [] [0, 1, 2] [(5, (Value.func (.func 61) #[] #[])), (6, (str j14s6)), (24, v0_0), (25, (Value.int .i64 (a0.length : Int))), (26, (Value.int .i64 (IntKind.i64.wrap (l9i26 + (1 : Int)))))] (by decide) ⟨rfl, rfl, rfl, rfl, rfl, trivial⟩)
        · clear hkk15
          refine aw_block ?_
          refine aw_seq ?_
          refine aw_region ?_
          obtain ⟨u16, hu17, h⟩ := opt_some h
          refine al_idxD 0 hu17 rfl rfl rfl Tryd.underlying32 sz40 rfl (fun p18 => ?_)
          refine al_loadPA 0 rfl rfl Tryd.underlying40 sz40 rfl rfl (fun cs20 => ?_)
          refine al_use (ι := Value) 0 rfl (fun j => cs20 = [(str u16.Name), (Value.int .i64 u16.Kind), (Value.int .i64 u16.Mode), (Value.int .i64 u16.Time), (Value.int .i64 u16.Size), j, (str u16.Link)]) (fun j => [(fDat (tyList tyA8u8) [j] u16.Parts)]) encnS_api_Node (fun s19 hq => ?_)
          subst hq
          refine al_alloc (zs := [(str ([] : List UInt8)), (Value.int .i64 (0 : Int)), (Value.int .i64 (0 : Int)), (Value.int .i64 (0 : Int)), (Value.int .i64 (0 : Int)), (Value.slice none 0 0), (str ([] : List UInt8))]) (zeroOf_to to40) rfl rfl (fun g21 => ?_)
          refine al_store (i := 0) (vs := [(str u16.Name), (Value.int .i64 u16.Kind), (Value.int .i64 u16.Mode), (Value.int .i64 u16.Time), (Value.int .i64 u16.Size), s19, (str u16.Link)]) (cs' := [(str u16.Name), (Value.int .i64 u16.Kind), (Value.int .i64 u16.Mode), (Value.int .i64 u16.Time), (Value.int .i64 u16.Size), s19, (str u16.Link)]) rfl rfl rfl sz40 (cv_rfl rfl) rfl (co_val rfl (co_val rfl (co_val rfl (co_val rfl (co_val rfl (co_fz 0 rfl (co_val rfl co_nil))))))) (Nat.le_of_ble_eq_true rfl) rfl rfl ?_
          refine al_nil ?_
          refine aq_then ?_
          refine aw_seq ?_
          refine aw_region ?_
          refine al_val (ov_fieldA (p := 0) rfl Tryd.underlying40 rfl sz9 rfl rfl rfl) ?_
          refine al_val (ov_load (i := 0) (v := (str u16.Name)) rfl rfl Tryd.underlying9 sz9 rfl rfl rfl rfl) ?_
          obtain ⟨r23, hc22, h⟩ := opt_some h
          refine al_call (vs := [(str u16.Name)]) (f_num_PutText_ok fu u16.Name hc22) [] [] [0] (pre_fz 4 rfl pre_nil) rfl (by simp) (by decide) (.inl rfl) rfl Tryd.func62 rfl rfl rfl (fun _ => ?_)
          refine al_val (ov_move rfl rfl) ?_
          refine al_val (ov_extract rfl rfl rfl) ?_
          refine al_val (ov_extract rfl rfl rfl) ?_
          refine al_val (ov_assign rfl rfl) ?_
          refine al_val (ov_assign rfl rfl) ?_
          refine al_nil ?_
          refine aq_then ?_
          refine aw_seq ?_
          refine aw_region ?_
          refine al_val (ov_fieldA (p := 6) rfl Tryd.underlying40 rfl sz9 rfl rfl rfl) ?_
          refine al_val (ov_load (i := 0) (v := (str u16.Link)) rfl rfl Tryd.underlying9 sz9 rfl rfl rfl rfl) ?_
          obtain ⟨r25, hc24, h⟩ := opt_some h
          refine al_call (vs := [(str u16.Link)]) (f_num_PutText_ok fu u16.Link hc24) [] [] [0] (pre_fz 4 rfl pre_nil) rfl (by simp) (by decide) (.inl rfl) rfl Tryd.func62 rfl rfl rfl (fun _ => ?_)
          refine al_val (ov_move rfl rfl) ?_
          refine al_val (ov_extract rfl rfl rfl) ?_
          refine al_val (ov_extract rfl rfl rfl) ?_
          refine al_val (ov_assign rfl rfl) ?_
          refine al_val (ov_assign rfl rfl) ?_
          refine al_nil ?_
          refine aq_then ?_
          refine aw_seq ?_
          obtain ⟨hc27, h⟩ := req_some h
          obtain ⟨hc28, h⟩ := req_some h
          obtain ⟨r30, hc29, h⟩ := opt_some h
          obtain ⟨hc31, h⟩ := req_some h
          obtain ⟨r33, hc32, h⟩ := opt_some h
          obtain ⟨hc34, h⟩ := req_some h
          obtain ⟨r36, hc35, h⟩ := opt_some h
          obtain ⟨hc37, h⟩ := req_some h
          obtain ⟨r39, hc38, h⟩ := opt_some h
          obtain ⟨hc40, h⟩ := req_some h
          obtain ⟨hc41, h⟩ := req_some h
          refine aw_region_draw 29 [(42, (fun u => fEq u (str l9s6))), (43, (fun u => fEq u (str r23.1))), (44, (fun u => fEq u (ptr g21 1))), (45, (fun u => fEq u (Value.int .i64 u16.Kind))), (46, (fun u => fEq u (Value.int .u8 (IntKind.u8.wrap u16.Kind)))), (47, (fun v26 => (fDat (tyList tyU8) [v26] [(UInt8.ofNat ((IntKind.u8.wrap u16.Kind)).toNat)]))), (48, (fun u => fEq u (str [(UInt8.ofNat ((IntKind.u8.wrap u16.Kind)).toNat)]))), (49, (fun u => fEq u (str (r23.1 ++ ([(UInt8.ofNat ((IntKind.u8.wrap u16.Kind)).toNat)]))))), (50, (fun u => fEq u (Value.func (.func 61) #[] #[]))), (51, (fun u => fEq u (ptr g21 2))), (52, (fun u => fEq u (Value.int .i64 u16.Mode))), (53, (fun u => fEq u (str r30))), (54, (fun u => fEq u (str ((r23.1 ++ ([(UInt8.ofNat ((IntKind.u8.wrap u16.Kind)).toNat)])) ++ r30)))), (55, (fun u => fEq u (ptr g21 3))), (56, (fun u => fEq u (Value.int .i64 u16.Time))), (57, (fun u => fEq u (str r33))), (58, (fun u => fEq u (str (((r23.1 ++ ([(UInt8.ofNat ((IntKind.u8.wrap u16.Kind)).toNat)])) ++ r30) ++ r33)))), (59, (fun u => fEq u (Value.func (.func 61) #[] #[]))), (60, (fun u => fEq u (ptr g21 4))), (61, (fun u => fEq u (Value.int .i64 u16.Size))), (62, (fun u => fEq u (str r36))), (63, (fun u => fEq u (str ((((r23.1 ++ ([(UInt8.ofNat ((IntKind.u8.wrap u16.Kind)).toNat)])) ++ r30) ++ r33) ++ r36)))), (64, (fun u => fEq u (Value.func (.func 61) #[] #[]))), (65, (fun u => fEq u (ptr g21 5))), (66, (fun u => fEq u s19)), (67, (fun u => fEq u (Value.int .i64 (u16.Parts.length : Int)))), (68, (fun u => fEq u (str r39))), (69, (fun u => fEq u (str (((((r23.1 ++ ([(UInt8.ofNat ((IntKind.u8.wrap u16.Kind)).toNat)])) ++ r30) ++ r33) ++ r36) ++ r39)))), (70, (fun u => fEq u (str (l9s6 ++ (((((r23.1 ++ ([(UInt8.ofNat ((IntKind.u8.wrap u16.Kind)).toNat)])) ++ r30) ++ r33) ++ r36) ++ r39)))))] (tab [(5, (Value.func (.func 61) #[] #[])), (6, (str l9s6)), (8, (ptr g21 0)), (9, (str r23.1)), (11, (str r25.1)), (24, v0_0), (25, (Value.int .i64 (a0.length : Int))), (26, (Value.int .i64 l9i26))]) mixed (by kernel_rfl) rfl rfl rfl (fun a hs => hs.tab _ (allT_mem ⟨rfl, rfl, rfl, rfl, rfl, rfl, rfl, rfl, trivial⟩)) ⟨⟨rfl, ld_val (ov_move rfl rfl)⟩, ⟨rfl, ld_val (ov_move rfl rfl)⟩, ⟨rfl, ld_val (ov_fieldA (p := 1) rfl Tryd.underlying40 rfl sz3 rfl rfl rfl)⟩, ⟨rfl, ld_eq (j := 2) rfl rfl (ld_val (ov_load (i := 0) (v := (Value.int .i64 u16.Kind)) rfl rfl Tryd.underlying3 sz3 rfl rfl rfl rfl))⟩, ⟨rfl, ld_eq (j := 3) rfl rfl (ld_val (ov_convInt (by rw [Tryd.underlying3]; rfl) Tryd.underlying5 rfl rfl))⟩, ⟨rfl, ld_eq (j := 4) rfl rfl (ld_buildSlice (τ := tyU8) (e := 5) (k := 1) (cs := [(Value.int .u8 (IntKind.u8.wrap u16.Kind))]) (xs := [(UInt8.ofNat ((IntKind.u8.wrap u16.Kind)).toNat)]) rfl (by decide) rfl (fun w a hm hs => ⟨([(Value.int .u8 (IntKind.u8.wrap u16.Kind))]).toArray, rfl, by simp only [List.map_toArray, List.map_cons, List.map_nil, hs.ev (x := .tmp 46) rfl]; exact run_bs [(Value.int .u8 (IntKind.u8.wrap u16.Kind))] [(Value.int .u8 (IntKind.u8.wrap u16.Kind))] Tryd.underlying89 to5 rfl rfl (bs_cons (l := [(Value.int .u8 (IntKind.u8.wrap u16.Kind))]) (cs := []) (cv_rfl rfl) rfl bs_nil) hm⟩) (fun hm => ⟨_, _, rfl, (fun _ => u8_rep hc27) hm, rfl⟩) rfl)⟩, ⟨rfl, ld_fact (j := 5) rfl rfl (fun v26 => ld_val (ov_toStr 0 rfl rfl Tryd.underlying89 Tryd.underlying5 Tryd.underlying9 rfl))⟩, ⟨rfl, ld_eq (j := 1) rfl rfl (ld_eq (j := 6) rfl rfl (ld_val (ov_strAdd hc28 rfl rfl rfl)))⟩, ⟨rfl, ld_val (ov_move rfl rfl)⟩, ⟨rfl, ld_val (ov_fieldA (p := 2) rfl Tryd.underlying40 rfl sz3 rfl rfl rfl)⟩, ⟨rfl, ld_eq (j := 9) rfl rfl (ld_val (ov_load (i := 0) (v := (Value.int .i64 u16.Mode)) rfl rfl Tryd.underlying3 sz3 rfl rfl rfl rfl))⟩, ⟨rfl, ld_eq (j := 8) rfl rfl (ld_eq (j := 10) rfl rfl (ld_callF (vs := [(Value.int .i64 u16.Mode)]) (caps := []) (f_tree_Write_1_ok fu u16.Mode hc29) rfl [] pre_nil rfl rfl Tryd.func61 rfl rfl rfl))⟩, ⟨rfl, ld_eq (j := 7) rfl rfl (ld_eq (j := 11) rfl rfl (ld_val (ov_strAdd hc31 rfl rfl rfl)))⟩, ⟨rfl, ld_val (ov_fieldA (p := 3) rfl Tryd.underlying40 rfl sz3 rfl rfl rfl)⟩, ⟨rfl, ld_eq (j := 13) rfl rfl (ld_val (ov_load (i := 0) (v := (Value.int .i64 u16.Time)) rfl rfl Tryd.underlying3 sz3 rfl rfl rfl rfl))⟩, ⟨rfl, ld_eq (j := 14) rfl rfl (ld_callV (vs := [(Value.int .i64 u16.Time)]) (f_num_PutInt_ok fu u16.Time hc32) [] pre_nil rfl Tryd.func63 rfl rfl rfl)⟩, ⟨rfl, ld_eq (j := 12) rfl rfl (ld_eq (j := 15) rfl rfl (ld_val (ov_strAdd hc34 rfl rfl rfl)))⟩, ⟨rfl, ld_val (ov_move rfl rfl)⟩, ⟨rfl, ld_val (ov_fieldA (p := 4) rfl Tryd.underlying40 rfl sz3 rfl rfl rfl)⟩, ⟨rfl, ld_eq (j := 18) rfl rfl (ld_val (ov_load (i := 0) (v := (Value.int .i64 u16.Size)) rfl rfl Tryd.underlying3 sz3 rfl rfl rfl rfl))⟩, ⟨rfl, ld_eq (j := 17) rfl rfl (ld_eq (j := 19) rfl rfl (ld_callF (vs := [(Value.int .i64 u16.Size)]) (caps := []) (f_tree_Write_1_ok fu u16.Size hc35) rfl [] pre_nil rfl rfl Tryd.func61 rfl rfl rfl))⟩, ⟨rfl, ld_eq (j := 16) rfl rfl (ld_eq (j := 20) rfl rfl (ld_val (ov_strAdd hc37 rfl rfl rfl)))⟩, ⟨rfl, ld_val (ov_move rfl rfl)⟩, ⟨rfl, ld_val (ov_fieldA (p := 5) rfl Tryd.underlying40 rfl sz38 rfl rfl rfl)⟩, ⟨rfl, ld_eq (j := 23) rfl rfl (ld_val (ov_load (i := 0) (v := s19) rfl rfl Tryd.underlying38 sz38 rfl rfl rfl rfl))⟩, ⟨rfl, ld_eq (j := 24) rfl rfl (ld_val (ov_lenD 0 rfl rfl Tryd.underlying38 rfl))⟩, ⟨rfl, ld_eq (j := 22) rfl rfl (ld_eq (j := 25) rfl rfl (ld_callF (vs := [(Value.int .i64 (u16.Parts.length : Int))]) (caps := []) (f_tree_Write_1_ok fu (u16.Parts.length : Int) hc38) rfl [] pre_nil rfl rfl Tryd.func61 rfl rfl rfl))⟩, ⟨rfl, ld_eq (j := 21) rfl rfl (ld_eq (j := 26) rfl rfl (ld_val (ov_strAdd hc40 rfl rfl rfl)))⟩, ⟨rfl, ld_eq (j := 0) rfl rfl (ld_eq (j := 27) rfl rfl (ld_val (ov_strAdd hc41 rfl rfl rfl)))⟩, trivial⟩ ?_
          refine tl_eq 28 rfl ?_
          refine tl_done ?_
          refine al_val (ov_assign rfl rfl) ?_
          refine al_nil ?_
          refine aq_then ?_
          obtain ⟨kk43, hkk43, h⟩ := lt_some h
          refine aw_seq_join (ι := (List UInt8)) (fun i => (memOf w0 Z0 [] [] [(fDat (tyList tyS_api_Node) [v0_0] a0), (fDat (tyList tyA8u8) [s19] u16.Parts), (fDat tyS_api_Node [(str u16.Name), (Value.int .i64 u16.Kind), (Value.int .i64 u16.Mode), (Value.int .i64 u16.Time), (Value.int .i64 u16.Size), s19, (str u16.Link)] u16), (fPtr tyS_api_Node p18 u16), uMax, uTabs])) (fun i => (tab [(5, (Value.func (.func 61) #[] #[])), (6, (str i)), (11, (str r25.1)), (24, v0_0), (25, (Value.int .i64 (a0.length : Int))), (26, (Value.int .i64 l9i26))])) (fun i => kk43 i = some r) ?_ ?_
          · rintro j42s6 h
            have h : kk43 j42s6 = some r := h
            rw [hkk43] at h
            dsimp only at h
            clear hkk43
            refine aw_show (m := (memOf w0 Z0 [] [] [(fDat (tyList tyS_api_Node) [v0_0] a0), (fDat (tyList tyA8u8) [s19] u16.Parts), (fDat tyS_api_Node [(str u16.Name), (Value.int .i64 u16.Kind), (Value.int .i64 u16.Mode), (Value.int .i64 u16.Time), (Value.int .i64 u16.Size), s19, (str u16.Link)] u16), (fPtr tyS_api_Node p18 u16), uMax, uTabs])) (S := (tab [(5, (Value.func (.func 61) #[] #[])), (6, (str j42s6)), (11, (str r25.1)), (24, v0_0), (25, (Value.int .i64 (a0.length : Int))), (26, (Value.int .i64 l9i26))])) ?_
            refine aw_region ?_
            refine al_val (ov_move rfl rfl) ?_
            refine al_val (ov_move rfl rfl) ?_
            obtain ⟨hc44, h⟩ := req_some h
            refine al_val (ov_strAdd hc44 rfl rfl rfl) ?_
            refine al_val (ov_assign rfl rfl) ?_
            refine al_nil ?_
            refine aq_block ?_
            exact aq_join (j42s6 ++ r25.1) h (fun w a hm hs => norm hm hs [] [0, 4, 5] [(5, (Value.func (.func 61) #[] #[])), (6, (str (j42s6 ++ r25.1))), (24, v0_0), (25, (Value.int .i64 (a0.length : Int))), (26, (Value.int .i64 l9i26))] (by decide) ⟨rfl, rfl, rfl, rfl, rfl, trivial⟩)
          · clear hkk43
            refine aw_seq ?_
            refine aw_region ?_
            refine al_val (ov_fieldA (p := 5) rfl Tryd.underlying40 rfl sz38 rfl rfl rfl) ?_
            refine al_val (ov_load (i := 0) (v := s19) rfl rfl Tryd.underlying38 sz38 rfl rfl rfl rfl) ?_
            refine al_val (ov_lenD 0 rfl rfl Tryd.underlying38 rfl) ?_
            refine al_val (ov_move rfl rfl) ?_
            refine al_nil ?_
            refine aq_then ?_
            refine aw_block ?_
            refine aw_state (aw_loop (ι := (List UInt8) × Int) (fun i => (memOf w0 Z0 [] [] [(fDat (tyList tyS_api_Node) [v0_0] a0), (fDat (tyList tyA8u8) [s19] u16.Parts), (fDat tyS_api_Node [(str u16.Name), (Value.int .i64 u16.Kind), (Value.int .i64 u16.Mode), (Value.int .i64 u16.Time), (Value.int .i64 u16.Size), s19, (str u16.Link)] u16), (fPtr tyS_api_Node p18 u16), uMax, uTabs])) (fun i => (tab [(5, (Value.func (.func 61) #[] #[])), (6, (str i.1)), (11, (str r25.1)), (24, v0_0), (25, (Value.int .i64 (a0.length : Int))), (26, (Value.int .i64 l9i26)), (72, s19), (73, (Value.int .i64 (u16.Parts.length : Int))), (74, (Value.int .i64 i.2))])) (fun q i => f_tree_Write_L47 u16 kk43 q i.1 i.2 = some r) ?_ fu ((l9s6 ++ (((((r23.1 ++ ([(UInt8.ofNat ((IntKind.u8.wrap u16.Kind)).toNat)])) ++ r30) ++ r33) ++ r36) ++ r39)), (0 : Int)) h) (fun w a hm hs => norm hm hs [] [3, 0, 1, 2, 4, 5] [(5, (Value.func (.func 61) #[] #[])), (6, (str (l9s6 ++ (((((r23.1 ++ ([(UInt8.ofNat ((IntKind.u8.wrap u16.Kind)).toNat)])) ++ r30) ++ r33) ++ r36) ++ r39)))), (11, (str r25.1)), (24, v0_0), (25, (Value.int .i64 (a0.length : Int))), (26, (Value.int .i64 l9i26)), (72, s19), (73, (Value.int .i64 (u16.Parts.length : Int))), (74, (Value.int .i64 (0 : Int)))] (by decide) ⟨rfl, rfl, rfl, rfl, rfl, rfl, rfl, rfl, rfl, trivial⟩)
            clear h
            rintro k46 ⟨l45s6, l45i74⟩ h
            have h : f_tree_Write_L47 u16 kk43 k46 l45s6 l45i74 = some r := h
            obtain _ | k46 := k46
            · rw [f_tree_Write_L47] at h; cases h
            rw [f_tree_Write_L47] at h
            refine aw_show (m := (memOf w0 Z0 [] [] [(fDat (tyList tyS_api_Node) [v0_0] a0), (fDat (tyList tyA8u8) [s19] u16.Parts), (fDat tyS_api_Node [(str u16.Name), (Value.int .i64 u16.Kind), (Value.int .i64 u16.Mode), (Value.int .i64 u16.Time), (Value.int .i64 u16.Size), s19, (str u16.Link)] u16), (fPtr tyS_api_Node p18 u16), uMax, uTabs])) (S := (tab [(5, (Value.func (.func 61) #[] #[])), (6, (str l45s6)), (11, (str r25.1)), (24, v0_0), (25, (Value.int .i64 (a0.length : Int))), (26, (Value.int .i64 l9i26)), (72, s19), (73, (Value.int .i64 (u16.Parts.length : Int))), (74, (Value.int .i64 l45i74))])) ?_
            refine aw_seq ?_
            refine aw_region ?_
            refine al_val (ov_int rfl rfl rfl rfl) ?_
            refine al_nil ?_
            refine aq_then ?_
            refine aw_seq ?_
            refine aw_cond rfl (fun hb48 => ?_) (fun hb48 => ?_)
            · replace h := bif_t hb48 h
              refine aw_skip ?_
              refine aq_then ?_
              refine aw_seq ?_
              refine aw_block ?_
              refine aw_seq ?_
              refine aw_region ?_
              obtain ⟨u49, hu50, h⟩ := opt_some h
              refine al_idxD 1 hu50 rfl rfl rfl Tryd.underlying38 sz49 rfl (fun p51 => ?_)
              refine al_val (ov_loadP (ds := (cA8u8 u49)) 0 rfl encA8u8 rfl Tryd.underlying49 sz49 rfl rfl rfl) ?_
              refine al_alloc (zs := (cA8u8 (A8u8.mk (0 : UInt8) (0 : UInt8) (0 : UInt8) (0 : UInt8) (0 : UInt8) (0 : UInt8) (0 : UInt8) (0 : UInt8)))) (zeroOf_to to49) rfl rfl (fun g52 => ?_)
              refine al_store (i := 0) (vs := (cA8u8 u49)) (cs' := (cA8u8 u49)) rfl rfl rfl sz49 (cv_rfl rfl) rfl (co_all (oneA8u8 u49)) (Nat.le_of_ble_eq_true rfl) rfl rfl ?_
              refine al_nil ?_
              refine aq_then ?_
              refine aw_freezeB 0 (u49) rfl rfl (fun _ _ => mkA8u8 rfl) ?_
              refine aw_region ?_
              refine al_val (ov_move rfl rfl) ?_
              refine al_of (of_sliceP 0 lrepA8u8 rfl rfl rfl rfl Tryd.underlying49 sz5 rfl) (fun s53 => ?_)
              refine al_val (ov_toStr 0 rfl rfl Tryd.underlying89 Tryd.underlying5 Tryd.underlying9 rfl) ?_
              obtain ⟨hc54, h⟩ := req_some h
              refine al_val (ov_strAdd hc54 rfl rfl rfl) ?_
              refine al_val (ov_assign rfl rfl) ?_
              refine al_nil ?_
              refine aq_block ?_
              refine aq_then ?_
              refine aw_region ?_
              refine al_val (ov_int rfl rfl rfl rfl) ?_
              refine al_val (ov_move rfl rfl) ?_
              refine al_nil ?_
              exact aq_again k46 ((l45s6 ++ (lA8u8 u49)), (IntKind.i64.wrap (l45i74 + (1 : Int)))) (Nat.lt_succ_self _) h (fun w a hm hs => norm hm hs [] [3, 4, 5, 6, 7, 8] [(5, (Value.func (.func 61) #[] #[])), (6, (str (l45s6 ++ (lA8u8 u49)))), (11, (str r25.1)), (24, v0_0), (25, (Value.int .i64 (a0.length : Int))), (26, (Value.int .i64 l9i26)), (72, s19), (73, (Value.int .i64 (u16.Parts.length : Int))), (74, (Value.int .i64 (IntKind.i64.wrap (l45i74 + (1 : Int)))))] (by decide) ⟨rfl, rfl, rfl, rfl, rfl, rfl, rfl, rfl, rfl, trivial⟩)
            · replace h := bif_f hb48 h
              refine aw_exit ?_
              refine aq_then_exit ?_
              refine aq_then_exit ?_
              refine aq_block_exit ?_
              exact aq_join l45s6 h (fun w a hm hs => norm hm hs [] [0, 1, 2, 3, 4, 5] [(5, (Value.func (.func 61) #[] #[])), (6, (str l45s6)), (11, (str r25.1)), (24, v0_0), (25, (Value.int .i64 (a0.length : Int))), (26, (Value.int .i64 l9i26))] (by decide) ⟨rfl, rfl, rfl, rfl, rfl, rfl, trivial⟩)
      · replace h := bif_f hb13 h
        refine aw_exit ?_
        refine aq_then_exit ?_
        refine aq_then_exit ?_
        refine aq_block_exit ?_
        exact aq_join l9s6 h (fun w a hm hs => norm hm hs [] [0, 1, 2] [(6, (str l9s6))] (by decide) ⟨rfl, trivial⟩)
def f_lumref_digits : Nat → Int → Option (List UInt8)
  | 0, _ => none
  | fu + 1, a0 => (bif (a0 == (0 : Int)) then (some ([] : List UInt8)) else (opt (f_lumref_digits fu (IntKind.u64.wrap ((a0).tdiv (256 : Int)))) fun (r3 : (List UInt8)) => (req (0 ≤ (IntKind.u8.wrap ((a0).tmod (256 : Int))) ∧ (IntKind.u8.wrap ((a0).tmod (256 : Int))) ≤ 255) (req (r3.length + ([(UInt8.ofNat ((IntKind.u8.wrap ((a0).tmod (256 : Int)))).toNat)]).length ≤ 9223372036854775807) (some (r3 ++ ([(UInt8.ofNat ((IntKind.u8.wrap ((a0).tmod (256 : Int)))).toNat)])))))))
set_option maxRecDepth 100000 in
theorem f_lumref_digits_ok (fu : Nat) (a0 : Int) {r : (List UInt8)} (h : f_lumref_digits fu a0 = some r) : FnOk Tryd.prog 98 [(Value.int .u64 a0)] [] [] (fun (i : Unit) => { val := (str r) }) := by
  cases fu with
  | zero => rw [f_lumref_digits] at h; cases h
  | succ fu =>
    rw [f_lumref_digits] at h
    refine fn_enter Tryd.func98 rfl Tryd.ntmps98 rfl (fun w0 Z0 => ?_)
    refine aw_seq ?_
    refine aw_region ?_
    refine al_val (ov_assign rfl rfl) ?_
    refine al_nil ?_
    refine aq_then ?_
    refine aw_seq ?_
    refine aw_seq ?_
    refine aw_region ?_
    refine al_val (ov_move rfl rfl) ?_
    refine al_val (ov_int rfl rfl rfl rfl) ?_
    refine al_nil ?_
    refine aq_then ?_
    refine aw_cond rfl (fun hb1 => ?_) (fun hb1 => ?_)
    · replace h := bif_t hb1 h
      refine aw_seq ?_
      refine aw_region ?_
      refine al_val (ov_assign rfl rfl) ?_
      refine al_nil ?_
      refine aq_then ?_
      refine aw_ret ?_
      refine aq_then_ret ?_
      obtain rfl := Option.some.inj h
      exact fn_ret () [] [] rfl rfl rfl rfl (res1 rfl rfl) rfl rfl rfl (by decide)
    · replace h := bif_f hb1 h
      refine aw_skip ?_
      refine aq_then ?_
      refine aw_seq ?_
      obtain ⟨r3, hc2, h⟩ := opt_some h
      obtain ⟨hc5, h⟩ := req_some h
      obtain ⟨hc6, h⟩ := req_some h
      refine aw_region_draw 9 [(5, (fun u => fEq u (Value.int .u64 a0))), (6, (fun u => fEq u (Value.int .u64 (IntKind.u64.wrap ((a0).tdiv (256 : Int)))))), (7, (fun u => fEq u (str r3))), (8, (fun u => fEq u (Value.int .u64 a0))), (9, (fun u => fEq u (Value.int .u64 ((a0).tmod (256 : Int))))), (10, (fun u => fEq u (Value.int .u8 (IntKind.u8.wrap ((a0).tmod (256 : Int)))))), (11, (fun v4 => (fDat (tyList tyU8) [v4] [(UInt8.ofNat ((IntKind.u8.wrap ((a0).tmod (256 : Int)))).toNat)]))), (12, (fun u => fEq u (str [(UInt8.ofNat ((IntKind.u8.wrap ((a0).tmod (256 : Int)))).toNat)]))), (13, (fun u => fEq u (str (r3 ++ ([(UInt8.ofNat ((IntKind.u8.wrap ((a0).tmod (256 : Int)))).toNat)])))))] (tab [(0, (Value.int .u64 a0)), (2, (str ([] : List UInt8)))]) mixed (by kernel_rfl) rfl rfl rfl (fun a hs => hs.tab _ (allT_mem ⟨rfl, rfl, trivial⟩)) ⟨⟨rfl, ld_val (ov_move rfl rfl)⟩, ⟨rfl, ld_eq (j := 0) rfl rfl (ld_val (ov_quo (by decide) rfl rfl rfl))⟩, ⟨rfl, ld_eq (j := 1) rfl rfl (ld_callV (vs := [(Value.int .u64 (IntKind.u64.wrap ((a0).tdiv (256 : Int))))]) (f_lumref_digits_ok fu (IntKind.u64.wrap ((a0).tdiv (256 : Int))) hc2) [] pre_nil rfl Tryd.func98 rfl rfl rfl)⟩, ⟨rfl, ld_val (ov_move rfl rfl)⟩, ⟨rfl, ld_eq (j := 3) rfl rfl (ld_val (ov_rem (by decide) rfl rfl rfl))⟩, ⟨rfl, ld_eq (j := 4) rfl rfl (ld_val (ov_convInt (by rw [Tryd.underlying87]; rfl) Tryd.underlying5 rfl rfl))⟩, ⟨rfl, ld_eq (j := 5) rfl rfl (ld_buildSlice (τ := tyU8) (e := 5) (k := 1) (cs := [(Value.int .u8 (IntKind.u8.wrap ((a0).tmod (256 : Int))))]) (xs := [(UInt8.ofNat ((IntKind.u8.wrap ((a0).tmod (256 : Int)))).toNat)]) rfl (by decide) rfl (fun w a hm hs => ⟨([(Value.int .u8 (IntKind.u8.wrap ((a0).tmod (256 : Int))))]).toArray, rfl, by simp only [List.map_toArray, List.map_cons, List.map_nil, hs.ev (x := .tmp 10) rfl]; exact run_bs [(Value.int .u8 (IntKind.u8.wrap ((a0).tmod (256 : Int))))] [(Value.int .u8 (IntKind.u8.wrap ((a0).tmod (256 : Int))))] Tryd.underlying89 to5 rfl rfl (bs_cons (l := [(Value.int .u8 (IntKind.u8.wrap ((a0).tmod (256 : Int))))]) (cs := []) (cv_rfl rfl) rfl bs_nil) hm⟩) (fun hm => ⟨_, _, rfl, (fun _ => u8_rep hc5) hm, rfl⟩) rfl)⟩, ⟨rfl, ld_fact (j := 6) rfl rfl (fun v4 => ld_val (ov_toStr 0 rfl rfl Tryd.underlying89 Tryd.underlying5 Tryd.underlying9 rfl))⟩, ⟨rfl, ld_eq (j := 2) rfl rfl (ld_eq (j := 7) rfl rfl (ld_val (ov_strAdd hc6 rfl rfl rfl)))⟩, trivial⟩ ?_
      refine tl_eq 8 rfl ?_
      refine tl_done ?_
      refine al_val (ov_assign rfl rfl) ?_
      refine al_nil ?_
      refine aq_then ?_
      refine aw_ret ?_
      obtain rfl := Option.some.inj h
      exact fn_ret () [] [] rfl rfl rfl rfl (res1 rfl rfl) rfl rfl rfl (by decide)
def f_lumref_Put (fu : Nat) (a0 : Int) : Option (List UInt8) := (opt (f_lumref_digits fu a0) fun (r2 : (List UInt8)) => (req (0 ≤ (IntKind.u8.wrap (r2.length : Int)) ∧ (IntKind.u8.wrap (r2.length : Int)) ≤ 255) (req (([(UInt8.ofNat ((IntKind.u8.wrap (r2.length : Int))).toNat)]).length + r2.length ≤ 9223372036854775807) (some (([(UInt8.ofNat ((IntKind.u8.wrap (r2.length : Int))).toNat)]) ++ r2)))))
set_option maxRecDepth 100000 in
theorem f_lumref_Put_ok (fu : Nat) (a0 : Int) {r : (List UInt8)} (h : f_lumref_Put fu a0 = some r) : FnOk Tryd.prog 56 [(Value.int .u64 a0)] [] [] (fun (i : Unit) => { val := (str r) }) := by
  unfold f_lumref_Put at h
  refine fn_enter Tryd.func56 rfl Tryd.ntmps56 rfl (fun w0 Z0 => ?_)
  refine aw_seq ?_
  refine aw_region ?_
  refine al_val (ov_assign rfl rfl) ?_
  refine al_nil ?_
  refine aq_then ?_
  refine aw_seq ?_
  refine aw_region ?_
  refine al_val (ov_move rfl rfl) ?_
  obtain ⟨r2, hc1, h⟩ := opt_some h
  refine al_call (vs := [(Value.int .u64 a0)]) (f_lumref_digits_ok fu a0 hc1) [] [] [] pre_nil rfl (by simp) (by decide) (.inl rfl) rfl Tryd.func98 rfl rfl rfl (fun _ => ?_)
  refine al_val (ov_assign rfl rfl) ?_
  refine al_nil ?_
  refine aq_then ?_
  refine aw_seq ?_
  refine aw_region ?_
  refine al_val (ov_move rfl rfl) ?_
  refine al_val (ov_strLen Tryd.underlying9 rfl rfl) ?_
  refine al_val (ov_convInt (by rw [Tryd.underlying3]; rfl) Tryd.underlying5 rfl rfl) ?_
  obtain ⟨hc4, h⟩ := req_some h
  refine al_buildSlice (τ := tyU8) (e := 5) (k := 1) (sz := 0) (by_ := 0) (z := undef) (cs := [(Value.int .u8 (IntKind.u8.wrap (r2.length : Int)))]) (xs := [(UInt8.ofNat ((IntKind.u8.wrap (r2.length : Int))).toNat)]) rfl (by decide) (fun w a hm hs => ⟨([(Value.int .u8 (IntKind.u8.wrap (r2.length : Int)))]).toArray, rfl, by simp only [List.map_toArray, List.map_cons, List.map_nil, hs.ev (x := .tmp 8) rfl]; exact run_bs [(Value.int .u8 (IntKind.u8.wrap (r2.length : Int)))] [(Value.int .u8 (IntKind.u8.wrap (r2.length : Int)))] Tryd.underlying89 to5 rfl rfl (bs_cons (l := [(Value.int .u8 (IntKind.u8.wrap (r2.length : Int)))]) (cs := []) (cv_rfl rfl) rfl bs_nil) hm⟩) (fun hm => ⟨_, _, rfl, (fun _ => u8_rep hc4) hm, rfl⟩) rfl (fun v3 => ?_)
  refine al_val (ov_toStrR 0 rfl rfl Tryd.underlying89 Tryd.underlying5 Tryd.underlying9 rfl) ?_
  refine al_val (ov_move rfl rfl) ?_
  obtain ⟨hc5, h⟩ := req_some h
  refine al_val (ov_strAdd hc5 rfl rfl rfl) ?_
  refine al_val (ov_assign rfl rfl) ?_
  refine al_nil ?_
  refine aq_then ?_
  refine aw_ret ?_
  obtain rfl := Option.some.inj h
  exact fn_ret () [] [] rfl rfl rfl rfl (res1 rfl rfl) rfl rfl rfl (by decide)
def f_lumref_PutText (fu : Nat) (a0 : (List UInt8)) : Option ((List UInt8) × Int) := (bif (decide ((a0.length : Int) > (1024 : Int))) then (some (([] : List UInt8), (2 : Int))) else (opt (f_strings_ReplaceAll fu a0 ([0] : List UInt8) ([0, 255] : List UInt8)) fun (r3 : (List UInt8)) => (req (r3.length + ([0, 0] : List UInt8).length ≤ 9223372036854775807) (some ((r3 ++ ([0, 0] : List UInt8)), (0 : Int))))))
set_option maxRecDepth 100000 in
theorem f_lumref_PutText_ok (fu : Nat) (a0 : (List UInt8)) {r : ((List UInt8) × Int)} (h : f_lumref_PutText fu a0 = some r) : FnOk Tryd.prog 64 [(str a0)] [uMax] [] (fun (i : Unit) => { val := (Value.tuple #[(str r.1), (Value.int .i64 r.2)]) }) := by
  unfold f_lumref_PutText at h
  refine fn_enter Tryd.func64 rfl Tryd.ntmps64 rfl (fun w0 Z0 => ?_)
  refine aw_seq ?_
  refine aw_region ?_
  refine al_val (ov_assign rfl rfl) ?_
  refine al_val (ov_assign rfl rfl) ?_
  refine al_nil ?_
  refine aq_then ?_
  refine aw_seq ?_
  refine aw_seq ?_
  refine aw_region ?_
  refine al_val (ov_move rfl rfl) ?_
  refine al_val (ov_strLen Tryd.underlying9 rfl rfl) ?_
  refine al_val (ov_int rfl rfl rfl rfl) ?_
  refine al_nil ?_
  refine aq_then ?_
  refine aw_cond rfl (fun hb1 => ?_) (fun hb1 => ?_)
  · replace h := bif_t hb1 h
    refine aw_seq ?_
    refine aw_region ?_
    refine al_val (ov_assign rfl rfl) ?_
    refine al_val (ov_assign rfl rfl) ?_
    refine al_nil ?_
    refine aq_then ?_
    refine aw_ret ?_
    refine aq_then_ret ?_
    obtain rfl := Option.some.inj h
    exact fn_ret () [] [] rfl rfl rfl rfl (res2 rfl rfl rfl) rfl rfl rfl (by decide)
  · replace h := bif_f hb1 h
    refine aw_skip ?_
    refine aq_then ?_
    refine aw_seq ?_
    refine aw_region ?_
    refine al_val (ov_move rfl rfl) ?_
    obtain ⟨r3, hc2, h⟩ := opt_some h
    refine al_call (vs := [(str a0), (str ([0] : List UInt8)), (str ([0, 255] : List UInt8))]) (f_strings_ReplaceAll_ok fu a0 ([0] : List UInt8) ([0, 255] : List UInt8) hc2) [] [] [] (pre_fz 0 rfl pre_nil) rfl (by simp) (by decide) (.inl rfl) rfl Tryd.func104 rfl rfl rfl (fun _ => ?_)
    obtain ⟨hc4, h⟩ := req_some h
    refine al_val (ov_strAdd hc4 rfl rfl rfl) ?_
    refine al_val (ov_assign rfl rfl) ?_
    refine al_val (ov_assign rfl rfl) ?_
    refine al_nil ?_
    refine aq_then ?_
    refine aw_ret ?_
    obtain rfl := Option.some.inj h
    exact fn_ret () [] [] rfl rfl rfl rfl (res2 rfl rfl rfl) rfl rfl rfl (by decide)
def f_lumref_turned_L7 (a0 : (List UInt8)) (kk4 : ((List UInt8) → Option (List UInt8))) : Nat → (List UInt8) → Int → Option (List UInt8)
  | 0, _, _ => none
  | k6 + 1, l5x3, l5i9 => (bif (decide (l5i9 < (a0.length : Int))) then (opt (at? l5x3 l5i9) fun (u9 : UInt8) => (opt (at? l5x3 l5i9) fun (u13 : UInt8) => (req (0 ≤ (IntKind.u8.wrap ((255 : Int) - (u9.toNat : Int))) ∧ (IntKind.u8.wrap ((255 : Int) - (u9.toNat : Int))) ≤ 255) (f_lumref_turned_L7 a0 kk4 k6 (l5x3.set (l5i9).toNat (UInt8.ofNat ((IntKind.u8.wrap ((255 : Int) - (u9.toNat : Int)))).toNat)) (IntKind.i64.wrap (l5i9 + (1 : Int))))))) else (kk4 l5x3))
def f_lumref_turned (fu : Nat) (a0 : (List UInt8)) : Option (List UInt8) := (req (a0.length ≤ 9223372036854775807) (lt (fun (j3x3 : (List UInt8)) => (some j3x3)) fun (kk4 : (List UInt8) → Option (List UInt8)) => (f_lumref_turned_L7 a0 kk4 fu a0 (0 : Int))))
set_option maxRecDepth 100000 in
theorem f_lumref_turned_ok (fu : Nat) (a0 : (List UInt8)) {r : (List UInt8)} (h : f_lumref_turned fu a0 = some r) : FnOk Tryd.prog 106 [(str a0)] [] [] (fun (i : Unit) => { val := (str r) }) := by
  unfold f_lumref_turned at h
  refine fn_enter Tryd.func106 rfl Tryd.ntmps106 rfl (fun w0 Z0 => ?_)
  refine aw_seq ?_
  refine aw_region ?_
  refine al_val (ov_assign rfl rfl) ?_
  refine al_nil ?_
  refine aq_then ?_
  refine aw_seq ?_
  refine aw_region ?_
  refine al_val (ov_move rfl rfl) ?_
  obtain ⟨hc1, h⟩ := req_some h
  refine al_bytesO hc1 rfl Tryd.underlying9 Tryd.underlying89 Tryd.underlying5 rfl (fun s2 => ?_)
  refine al_val (ov_assign rfl rfl) ?_
  refine al_nil ?_
  refine aq_then ?_
  obtain ⟨kk4, hkk4, h⟩ := lt_some h
  refine aw_seq_join (ι := (List UInt8)) (fun i => (memOf w0 Z0 [] [(oBy s2 5 i)] [])) (fun i => (tab [(3, s2)])) (fun i => kk4 i = some r) ?_ ?_
  · rintro j3x3 h
    have h : kk4 j3x3 = some r := h
    rw [hkk4] at h
    dsimp only at h
    clear hkk4
    refine aw_show (m := (memOf w0 Z0 [] [(oBy s2 5 j3x3)] [])) (S := (tab [(3, s2)])) ?_
    refine aw_seq ?_
    refine aw_region ?_
    refine al_val (ov_move rfl rfl) ?_
    refine al_val (ov_toStrO 0 rfl rfl Tryd.underlying89 Tryd.underlying5 Tryd.underlying9 rfl) ?_
    refine al_val (ov_assign rfl rfl) ?_
    refine al_nil ?_
    refine aq_then ?_
    refine aw_ret ?_
    obtain rfl := Option.some.inj h
    exact fn_ret () [] [] rfl rfl rfl rfl (res1 rfl rfl) rfl rfl rfl (by decide)
  · clear hkk4
    refine aw_seq ?_
    refine aw_region ?_
    refine al_val (ov_move rfl rfl) ?_
    refine al_val (ov_lenO 0 rfl rfl Tryd.underlying89 rfl) ?_
    refine al_val (ov_move rfl rfl) ?_
    refine al_nil ?_
    refine aq_then ?_
    refine aw_block ?_
    refine aw_state (aw_loop (ι := (List UInt8) × Int) (fun i => (memOf w0 Z0 [] [(oBy s2 5 i.1)] [])) (fun i => (tab [(3, s2), (8, (Value.int .i64 (a0.length : Int))), (9, (Value.int .i64 i.2))])) (fun q i => f_lumref_turned_L7 a0 kk4 q i.1 i.2 = some r) ?_ fu (a0, (0 : Int)) h) (fun w a hm hs => norm hm hs [0] [] [(3, s2), (8, (Value.int .i64 (a0.length : Int))), (9, (Value.int .i64 (0 : Int)))] (by decide) ⟨rfl, rfl, rfl, trivial⟩)
    clear h
    rintro k6 ⟨l5x3, l5i9⟩ h
    have h : f_lumref_turned_L7 a0 kk4 k6 l5x3 l5i9 = some r := h
    obtain _ | k6 := k6
    · rw [f_lumref_turned_L7] at h; cases h
    rw [f_lumref_turned_L7] at h
    refine aw_show (m := (memOf w0 Z0 [] [(oBy s2 5 l5x3)] [])) (S := (tab [(3, s2), (8, (Value.int .i64 (a0.length : Int))), (9, (Value.int .i64 l5i9))])) ?_
    refine aw_seq ?_
    refine aw_region ?_
    refine al_val (ov_int rfl rfl rfl rfl) ?_
    refine al_nil ?_
    refine aq_then ?_
    refine aw_seq ?_
    refine aw_cond rfl (fun hb8 => ?_) (fun hb8 => ?_)
    · replace h := bif_t hb8 h
      refine aw_skip ?_
      refine aq_then ?_
      refine aw_seq ?_
      refine aw_block ?_
      refine aw_seq ?_
      refine aw_region ?_
      refine al_val (ov_move rfl rfl) ?_
      refine al_val (ov_assign rfl rfl) ?_
      refine al_nil ?_
      refine aq_then ?_
      refine aw_region ?_
      refine al_val (ov_move rfl rfl) ?_
      refine al_val (ov_move rfl rfl) ?_
      refine al_val (ov_move rfl rfl) ?_
      refine al_val (ov_move rfl rfl) ?_
      obtain ⟨u9, hu10, h⟩ := opt_some h
      refine al_idxO 0 (at_some hu10).1 (at_some hu10).2.1 rfl rfl rfl Tryd.underlying89 sz5 rfl (fun p11 hp12 => ?_)
      refine al_val (ov_loadO (ds := [(Value.int .u8 (u9.toNat : Int))]) 0 rfl hp12 (at_some hu10).2.2 (fun h => h) rfl Tryd.underlying5 sz5 rfl rfl rfl) ?_
      refine al_val (ov_int rfl rfl rfl rfl) ?_
      obtain ⟨u13, hu14, h⟩ := opt_some h
      refine al_idxO 0 (at_some hu14).1 (at_some hu14).2.1 rfl rfl rfl Tryd.underlying89 sz5 rfl (fun p15 hp16 => ?_)
      obtain ⟨hc17, h⟩ := req_some h
      refine al_storeO (k := (l5i9).toNat) (x := (UInt8.ofNat ((IntKind.u8.wrap ((255 : Int) - (u9.toNat : Int)))).toNat)) (vs := [(Value.int .u8 (IntKind.u8.wrap ((255 : Int) - (u9.toNat : Int))))]) 0 rfl hp16 (idx_lt hu14) rfl rfl (cv_rfl rfl) (fun _ => u8_rep hc17) sz5 rfl ?_
      refine al_nil ?_
      refine aq_block ?_
      refine aq_then ?_
      refine aw_region ?_
      refine al_val (ov_int rfl rfl rfl rfl) ?_
      refine al_val (ov_move rfl rfl) ?_
      refine al_nil ?_
      exact aq_again k6 ((l5x3.set (l5i9).toNat (UInt8.ofNat ((IntKind.u8.wrap ((255 : Int) - (u9.toNat : Int)))).toNat)), (IntKind.i64.wrap (l5i9 + (1 : Int)))) (Nat.lt_succ_self _) h (fun w a hm hs => norm hm hs [0] [] [(3, s2), (8, (Value.int .i64 (a0.length : Int))), (9, (Value.int .i64 (IntKind.i64.wrap (l5i9 + (1 : Int)))))] (by decide) ⟨rfl, rfl, rfl, trivial⟩)
    · replace h := bif_f hb8 h
      refine aw_exit ?_
      refine aq_then_exit ?_
      refine aq_then_exit ?_
      refine aq_block_exit ?_
      exact aq_join l5x3 h (fun w a hm hs => norm hm hs [0] [] [(3, s2)] (by decide) ⟨rfl, trivial⟩)
def f_lumref_PutInt (fu : Nat) (a0 : Int) : Option (List UInt8) := (bif (decide (a0 < (0 : Int))) then (opt (f_lumref_digits fu (IntKind.u64.wrap (IntKind.i64.wrap ((-1 : Int) - a0)))) fun (r3 : (List UInt8)) => (req (0 ≤ (IntKind.u8.wrap (IntKind.i64.wrap ((127 : Int) - (r3.length : Int)))) ∧ (IntKind.u8.wrap (IntKind.i64.wrap ((127 : Int) - (r3.length : Int)))) ≤ 255) (opt (f_lumref_turned fu r3) fun (r7 : (List UInt8)) => (req (([(UInt8.ofNat ((IntKind.u8.wrap (IntKind.i64.wrap ((127 : Int) - (r3.length : Int))))).toNat)]).length + r7.length ≤ 9223372036854775807) (some (([(UInt8.ofNat ((IntKind.u8.wrap (IntKind.i64.wrap ((127 : Int) - (r3.length : Int))))).toNat)]) ++ r7)))))) else (opt (f_lumref_digits fu (IntKind.u64.wrap a0)) fun (r10 : (List UInt8)) => (req (0 ≤ (IntKind.u8.wrap (IntKind.i64.wrap ((128 : Int) + (r10.length : Int)))) ∧ (IntKind.u8.wrap (IntKind.i64.wrap ((128 : Int) + (r10.length : Int)))) ≤ 255) (req (([(UInt8.ofNat ((IntKind.u8.wrap (IntKind.i64.wrap ((128 : Int) + (r10.length : Int))))).toNat)]).length + r10.length ≤ 9223372036854775807) (some (([(UInt8.ofNat ((IntKind.u8.wrap (IntKind.i64.wrap ((128 : Int) + (r10.length : Int))))).toNat)]) ++ r10))))))
set_option maxRecDepth 100000 in
theorem f_lumref_PutInt_ok (fu : Nat) (a0 : Int) {r : (List UInt8)} (h : f_lumref_PutInt fu a0 = some r) : FnOk Tryd.prog 65 [(Value.int .i64 a0)] [] [] (fun (i : Unit) => { val := (str r) }) := by
  unfold f_lumref_PutInt at h
  refine fn_enter Tryd.func65 rfl Tryd.ntmps65 rfl (fun w0 Z0 => ?_)
  refine aw_seq ?_
  refine aw_region ?_
  refine al_val (ov_assign rfl rfl) ?_
  refine al_nil ?_
  refine aq_then ?_
  refine aw_seq ?_
  refine aw_seq ?_
  refine aw_region ?_
  refine al_val (ov_move rfl rfl) ?_
  refine al_val (ov_int rfl rfl rfl rfl) ?_
  refine al_nil ?_
  refine aq_then ?_
  refine aw_cond rfl (fun hb1 => ?_) (fun hb1 => ?_)
  · replace h := bif_t hb1 h
    refine aw_seq ?_
    refine aw_region ?_
    refine al_val (ov_move rfl rfl) ?_
    refine al_val (ov_int rfl rfl rfl rfl) ?_
    refine al_val (ov_convInt (by rw [Tryd.underlying3]; rfl) Tryd.underlying87 rfl rfl) ?_
    obtain ⟨r3, hc2, h⟩ := opt_some h
    refine al_call (vs := [(Value.int .u64 (IntKind.u64.wrap (IntKind.i64.wrap ((-1 : Int) - a0))))]) (f_lumref_digits_ok fu (IntKind.u64.wrap (IntKind.i64.wrap ((-1 : Int) - a0))) hc2) [] [] [] pre_nil rfl (by simp) (by decide) (.inl rfl) rfl Tryd.func98 rfl rfl rfl (fun _ => ?_)
    refine al_val (ov_assign rfl rfl) ?_
    refine al_nil ?_
    refine aq_then ?_
    refine aw_seq ?_
    obtain ⟨hc5, h⟩ := req_some h
    obtain ⟨r7, hc6, h⟩ := opt_some h
    obtain ⟨hc8, h⟩ := req_some h
    refine aw_region_draw 9 [(11, (fun u => fEq u (str r3))), (12, (fun u => fEq u (Value.int .i64 (r3.length : Int)))), (13, (fun u => fEq u (Value.int .i64 (IntKind.i64.wrap ((127 : Int) - (r3.length : Int)))))), (14, (fun u => fEq u (Value.int .u8 (IntKind.u8.wrap (IntKind.i64.wrap ((127 : Int) - (r3.length : Int))))))), (15, (fun v4 => (fDat (tyList tyU8) [v4] [(UInt8.ofNat ((IntKind.u8.wrap (IntKind.i64.wrap ((127 : Int) - (r3.length : Int))))).toNat)]))), (16, (fun u => fEq u (str [(UInt8.ofNat ((IntKind.u8.wrap (IntKind.i64.wrap ((127 : Int) - (r3.length : Int))))).toNat)]))), (17, (fun u => fEq u (str r3))), (18, (fun u => fEq u (str r7))), (19, (fun u => fEq u (str (([(UInt8.ofNat ((IntKind.u8.wrap (IntKind.i64.wrap ((127 : Int) - (r3.length : Int))))).toNat)]) ++ r7))))] (tab [(2, (str ([] : List UInt8))), (3, (str r3))]) mixed (by kernel_rfl) rfl rfl rfl (fun a hs => hs.tab _ (allT_mem ⟨rfl, rfl, trivial⟩)) ⟨⟨rfl, ld_val (ov_move rfl rfl)⟩, ⟨rfl, ld_eq (j := 0) rfl rfl (ld_val (ov_strLen Tryd.underlying9 rfl rfl))⟩, ⟨rfl, ld_eq (j := 1) rfl rfl (ld_val (ov_int rfl rfl rfl rfl))⟩, ⟨rfl, ld_eq (j := 2) rfl rfl (ld_val (ov_convInt (by rw [Tryd.underlying3]; rfl) Tryd.underlying5 rfl rfl))⟩, ⟨rfl, ld_eq (j := 3) rfl rfl (ld_buildSlice (τ := tyU8) (e := 5) (k := 1) (cs := [(Value.int .u8 (IntKind.u8.wrap (IntKind.i64.wrap ((127 : Int) - (r3.length : Int)))))]) (xs := [(UInt8.ofNat ((IntKind.u8.wrap (IntKind.i64.wrap ((127 : Int) - (r3.length : Int))))).toNat)]) rfl (by decide) rfl (fun w a hm hs => ⟨([(Value.int .u8 (IntKind.u8.wrap (IntKind.i64.wrap ((127 : Int) - (r3.length : Int)))))]).toArray, rfl, by simp only [List.map_toArray, List.map_cons, List.map_nil, hs.ev (x := .tmp 14) rfl]; exact run_bs [(Value.int .u8 (IntKind.u8.wrap (IntKind.i64.wrap ((127 : Int) - (r3.length : Int)))))] [(Value.int .u8 (IntKind.u8.wrap (IntKind.i64.wrap ((127 : Int) - (r3.length : Int)))))] Tryd.underlying89 to5 rfl rfl (bs_cons (l := [(Value.int .u8 (IntKind.u8.wrap (IntKind.i64.wrap ((127 : Int) - (r3.length : Int)))))]) (cs := []) (cv_rfl rfl) rfl bs_nil) hm⟩) (fun hm => ⟨_, _, rfl, (fun _ => u8_rep hc5) hm, rfl⟩) rfl)⟩, ⟨rfl, ld_fact (j := 4) rfl rfl (fun v4 => ld_val (ov_toStr 0 rfl rfl Tryd.underlying89 Tryd.underlying5 Tryd.underlying9 rfl))⟩, ⟨rfl, ld_val (ov_move rfl rfl)⟩, ⟨rfl, ld_eq (j := 6) rfl rfl (ld_callV (vs := [(str r3)]) (f_lumref_turned_ok fu r3 hc6) [] pre_nil rfl Tryd.func106 rfl rfl rfl)⟩, ⟨rfl, ld_eq (j := 5) rfl rfl (ld_eq (j := 7) rfl rfl (ld_val (ov_strAdd hc8 rfl rfl rfl)))⟩, trivial⟩ ?_
    refine tl_eq 8 rfl ?_
    refine tl_done ?_
    refine al_val (ov_assign rfl rfl) ?_
    refine al_nil ?_
    refine aq_then ?_
    refine aw_ret ?_
    refine aq_then_ret ?_
    obtain rfl := Option.some.inj h
    exact fn_ret () [] [] rfl rfl rfl rfl (res1 rfl rfl) rfl rfl rfl (by decide)
  · replace h := bif_f hb1 h
    refine aw_skip ?_
    refine aq_then ?_
    refine aw_seq ?_
    refine aw_region ?_
    refine al_val (ov_move rfl rfl) ?_
    refine al_val (ov_convInt (by rw [Tryd.underlying3]; rfl) Tryd.underlying87 rfl rfl) ?_
    obtain ⟨r10, hc9, h⟩ := opt_some h
    refine al_call (vs := [(Value.int .u64 (IntKind.u64.wrap a0))]) (f_lumref_digits_ok fu (IntKind.u64.wrap a0) hc9) [] [] [] pre_nil rfl (by simp) (by decide) (.inl rfl) rfl Tryd.func98 rfl rfl rfl (fun _ => ?_)
    refine al_val (ov_assign rfl rfl) ?_
    refine al_nil ?_
    refine aq_then ?_
    refine aw_seq ?_
    refine aw_region ?_
    refine al_val (ov_move rfl rfl) ?_
    refine al_val (ov_strLen Tryd.underlying9 rfl rfl) ?_
    refine al_val (ov_int rfl rfl rfl rfl) ?_
    refine al_val (ov_convInt (by rw [Tryd.underlying3]; rfl) Tryd.underlying5 rfl rfl) ?_
    obtain ⟨hc12, h⟩ := req_some h
    refine al_buildSlice (τ := tyU8) (e := 5) (k := 1) (sz := 0) (by_ := 0) (z := undef) (cs := [(Value.int .u8 (IntKind.u8.wrap (IntKind.i64.wrap ((128 : Int) + (r10.length : Int)))))]) (xs := [(UInt8.ofNat ((IntKind.u8.wrap (IntKind.i64.wrap ((128 : Int) + (r10.length : Int))))).toNat)]) rfl (by decide) (fun w a hm hs => ⟨([(Value.int .u8 (IntKind.u8.wrap (IntKind.i64.wrap ((128 : Int) + (r10.length : Int)))))]).toArray, rfl, by simp only [List.map_toArray, List.map_cons, List.map_nil, hs.ev (x := .tmp 26) rfl]; exact run_bs [(Value.int .u8 (IntKind.u8.wrap (IntKind.i64.wrap ((128 : Int) + (r10.length : Int)))))] [(Value.int .u8 (IntKind.u8.wrap (IntKind.i64.wrap ((128 : Int) + (r10.length : Int)))))] Tryd.underlying89 to5 rfl rfl (bs_cons (l := [(Value.int .u8 (IntKind.u8.wrap (IntKind.i64.wrap ((128 : Int) + (r10.length : Int)))))]) (cs := []) (cv_rfl rfl) rfl bs_nil) hm⟩) (fun hm => ⟨_, _, rfl, (fun _ => u8_rep hc12) hm, rfl⟩) rfl (fun v11 => ?_)
    refine al_val (ov_toStrR 0 rfl rfl Tryd.underlying89 Tryd.underlying5 Tryd.underlying9 rfl) ?_
    refine al_val (ov_move rfl rfl) ?_
    obtain ⟨hc13, h⟩ := req_some h
    refine al_val (ov_strAdd hc13 rfl rfl rfl) ?_
    refine al_val (ov_assign rfl rfl) ?_
    refine al_nil ?_
    refine aq_then ?_
    refine aw_ret ?_
    obtain rfl := Option.some.inj h
    exact fn_ret () [] [] rfl rfl rfl rfl (res1 rfl rfl) rfl rfl rfl (by decide)
def f_lumref_TreeWrite_L47 (u16 : S_api_Node) (kk43 : ((List UInt8) → Option ((List UInt8) × Int))) : Nat → (List UInt8) → Int → Option ((List UInt8) × Int)
  | 0, _, _ => none
  | k46 + 1, l45s5, l45i73 => (bif (decide (l45i73 < (u16.Parts.length : Int))) then (opt (at? u16.Parts l45i73) fun (u49 : A8u8) => (req (l45s5.length + (lA8u8 u49).length ≤ 9223372036854775807) (f_lumref_TreeWrite_L47 u16 kk43 k46 (l45s5 ++ (lA8u8 u49)) (IntKind.i64.wrap (l45i73 + (1 : Int)))))) else (kk43 l45s5))
def f_lumref_TreeWrite_L11 (a0 : (List S_api_Node)) (kk7 : ((List UInt8) → Option ((List UInt8) × Int))) (fu : Nat) : Nat → (List UInt8) → Int → Option ((List UInt8) × Int)
  | 0, _, _ => none
  | k10 + 1, l9s5, l9i25 => (lt (fun (l9s5 : (List UInt8)) (l9i25 : Int) => (f_lumref_TreeWrite_L11 a0 kk7 fu k10 l9s5 l9i25)) fun (kk12 : (List UInt8) → Int → Option ((List UInt8) × Int)) => (bif (decide (l9i25 < (a0.length : Int))) then (lt (fun (j14s5 : (List UInt8)) => (kk12 j14s5 (IntKind.i64.wrap (l9i25 + (1 : Int))))) fun (kk15 : (List UInt8) → Option ((List UInt8) × Int)) => (opt (at? a0 l9i25) fun (u16 : S_api_Node) => (opt (f_lumref_PutText fu u16.Name) fun (r23 : ((List UInt8) × Int)) => (opt (f_lumref_PutText fu u16.Link) fun (r25 : ((List UInt8) × Int)) => (req (0 ≤ (IntKind.u8.wrap u16.Kind) ∧ (IntKind.u8.wrap u16.Kind) ≤ 255) (req (r23.1.length + ([(UInt8.ofNat ((IntKind.u8.wrap u16.Kind)).toNat)]).length ≤ 9223372036854775807) (opt (f_lumref_Put fu (IntKind.u64.wrap u16.Mode)) fun (r30 : (List UInt8)) => (req ((r23.1 ++ ([(UInt8.ofNat ((IntKind.u8.wrap u16.Kind)).toNat)])).length + r30.length ≤ 9223372036854775807) (opt (f_lumref_PutInt fu u16.Time) fun (r33 : (List UInt8)) => (req (((r23.1 ++ ([(UInt8.ofNat ((IntKind.u8.wrap u16.Kind)).toNat)])) ++ r30).length + r33.length ≤ 9223372036854775807) (opt (f_lumref_Put fu (IntKind.u64.wrap u16.Size)) fun (r36 : (List UInt8)) => (req ((((r23.1 ++ ([(UInt8.ofNat ((IntKind.u8.wrap u16.Kind)).toNat)])) ++ r30) ++ r33).length + r36.length ≤ 9223372036854775807) (opt (f_lumref_Put fu (IntKind.u64.wrap (u16.Parts.length : Int))) fun (r39 : (List UInt8)) => (req (((((r23.1 ++ ([(UInt8.ofNat ((IntKind.u8.wrap u16.Kind)).toNat)])) ++ r30) ++ r33) ++ r36).length + r39.length ≤ 9223372036854775807) (req (l9s5.length + (((((r23.1 ++ ([(UInt8.ofNat ((IntKind.u8.wrap u16.Kind)).toNat)])) ++ r30) ++ r33) ++ r36) ++ r39).length ≤ 9223372036854775807) (lt (fun (j42s5 : (List UInt8)) => (req (j42s5.length + r25.1.length ≤ 9223372036854775807) (kk15 (j42s5 ++ r25.1)))) fun (kk43 : (List UInt8) → Option ((List UInt8) × Int)) => (f_lumref_TreeWrite_L47 u16 kk43 fu (l9s5 ++ (((((r23.1 ++ ([(UInt8.ofNat ((IntKind.u8.wrap u16.Kind)).toNat)])) ++ r30) ++ r33) ++ r36) ++ r39)) (0 : Int)))))))))))))))))) else (kk7 l9s5)))
def f_lumref_TreeWrite (fu : Nat) (a0 : (List S_api_Node)) : Option ((List UInt8) × Int) := (opt (f_lumref_Nodes fu a0) fun (r2 : Int) => (bif (r2 != (0 : Int)) then (some (([] : List UInt8), r2)) else (opt (f_lumref_Put fu (IntKind.u64.wrap (a0.length : Int))) fun (r5 : (List UInt8)) => (lt (fun (j6s5 : (List UInt8)) => (bif (decide ((j6s5.length : Int) > (4096 : Int))) then (some (([] : List UInt8), (2 : Int))) else (some (j6s5, (0 : Int))))) fun (kk7 : (List UInt8) → Option ((List UInt8) × Int)) => (f_lumref_TreeWrite_L11 a0 kk7 fu fu r5 (0 : Int))))))
set_option maxRecDepth 100000 in
theorem f_lumref_TreeWrite_ok (fu : Nat) (v0_0 : Value) (a0 : (List S_api_Node)) {r : ((List UInt8) × Int)} (h : f_lumref_TreeWrite fu a0 = some r) : FnOk Tryd.prog 19 [v0_0] [(fDat (tyList tyS_api_Node) [v0_0] a0), uMax] [] (fun (i : Unit) => { val := (Value.tuple #[(str r.1), (Value.int .i64 r.2)]) }) := by
  unfold f_lumref_TreeWrite at h
  refine fn_enter Tryd.func19 rfl Tryd.ntmps19 rfl (fun w0 Z0 => ?_)
  refine aw_seq ?_
  refine aw_region ?_
  refine al_val (ov_assign rfl rfl) ?_
  refine al_val (ov_assign rfl rfl) ?_
  refine al_nil ?_
  refine aq_then ?_
  refine aw_seq ?_
  refine aw_seq ?_
  refine aw_region ?_
  refine al_val (ov_move rfl rfl) ?_
  obtain ⟨r2, hc1, h⟩ := opt_some h
  refine al_call (vs := [v0_0]) (f_lumref_Nodes_ok fu v0_0 a0 hc1) [] [] [] (pre_fz 0 rfl pre_nil) rfl (by simp) (by decide) (.inl rfl) rfl Tryd.func17 rfl rfl rfl (fun _ => ?_)
  refine al_val (ov_assign rfl rfl) ?_
  refine al_nil ?_
  refine aq_then ?_
  refine aw_seq ?_
  refine aw_region ?_
  refine al_val (ov_move rfl rfl) ?_
  refine al_val (ov_int rfl rfl rfl rfl) ?_
  refine al_nil ?_
  refine aq_then ?_
  refine aw_cond rfl (fun hb3 => ?_) (fun hb3 => ?_)
  · replace h := bif_t hb3 h
    refine aw_seq ?_
    refine aw_region ?_
    refine al_val (ov_move rfl rfl) ?_
    refine al_val (ov_assign rfl rfl) ?_
    refine al_val (ov_assign rfl rfl) ?_
    refine al_nil ?_
    refine aq_then ?_
    refine aw_ret ?_
    refine aq_then_ret ?_
    obtain rfl := Option.some.inj h
    exact fn_ret () [] [] rfl rfl rfl rfl (res2 rfl rfl rfl) rfl rfl rfl (by decide)
  · replace h := bif_f hb3 h
    refine aw_skip ?_
    refine aq_then ?_
    refine aw_seq ?_
    refine aw_region ?_
    refine al_val (ov_move rfl rfl) ?_
    refine al_val (ov_lenD 0 rfl rfl Tryd.underlying32 rfl) ?_
    refine al_val (ov_convInt (by rw [Tryd.underlying3]; rfl) Tryd.underlying87 rfl rfl) ?_
    obtain ⟨r5, hc4, h⟩ := opt_some h
    refine al_call (vs := [(Value.int .u64 (IntKind.u64.wrap (a0.length : Int)))]) (f_lumref_Put_ok fu (IntKind.u64.wrap (a0.length : Int)) hc4) [] [] [] pre_nil rfl (by simp) (by decide) (.inl rfl) rfl Tryd.func56 rfl rfl rfl (fun _ => ?_)
    refine al_val (ov_assign rfl rfl) ?_
    refine al_nil ?_
    refine aq_then ?_
    obtain ⟨kk7, hkk7, h⟩ := lt_some h
    refine aw_seq_join (ι := (List UInt8)) (fun i => (memOf w0 Z0 [] [] [(fDat (tyList tyS_api_Node) [v0_0] a0), uMax])) (fun i => (tab [(5, (str i))])) (fun i => kk7 i = some r) ?_ ?_
    · rintro j6s5 h
      have h : kk7 j6s5 = some r := h
      rw [hkk7] at h
      dsimp only at h
      clear hkk7
      refine aw_show (m := (memOf w0 Z0 [] [] [(fDat (tyList tyS_api_Node) [v0_0] a0), uMax])) (S := (tab [(5, (str j6s5))])) ?_
      refine aw_seq ?_
      refine aw_seq ?_
      refine aw_region ?_
      refine al_val (ov_move rfl rfl) ?_
      refine al_val (ov_strLen Tryd.underlying9 rfl rfl) ?_
      refine al_val (ov_int rfl rfl rfl rfl) ?_
      refine al_nil ?_
      refine aq_then ?_
      refine aw_cond rfl (fun hb8 => ?_) (fun hb8 => ?_)
      · replace h := bif_t hb8 h
        refine aw_seq ?_
        refine aw_region ?_
        refine al_val (ov_assign rfl rfl) ?_
        refine al_val (ov_assign rfl rfl) ?_
        refine al_nil ?_
        refine aq_then ?_
        refine aw_ret ?_
        refine aq_then_ret ?_
        obtain rfl := Option.some.inj h
        exact fn_ret () [] [] rfl rfl rfl rfl (res2 rfl rfl rfl) rfl rfl rfl (by decide)
      · replace h := bif_f hb8 h
        refine aw_skip ?_
        refine aq_then ?_
        refine aw_seq ?_
        refine aw_region ?_
        refine al_val (ov_move rfl rfl) ?_
        refine al_val (ov_assign rfl rfl) ?_
        refine al_val (ov_assign rfl rfl) ?_
        refine al_nil ?_
        refine aq_then ?_
        refine aw_ret ?_
        obtain rfl := Option.some.inj h
        exact fn_ret () [] [] rfl rfl rfl rfl (res2 rfl rfl rfl) rfl rfl rfl (by decide)
    · clear hkk7
      refine aw_seq ?_
      refine aw_region ?_
      refine al_val (ov_move rfl rfl) ?_
      refine al_val (ov_lenD 0 rfl rfl Tryd.underlying32 rfl) ?_
      refine al_val (ov_move rfl rfl) ?_
      refine al_nil ?_
      refine aq_then ?_
      refine aw_block ?_
      refine aw_state (aw_loop (ι := (List UInt8) × Int) (fun i => (memOf w0 Z0 [] [] [(fDat (tyList tyS_api_Node) [v0_0] a0), uMax])) (fun i => (tab [(5, (str i.1)), (23, v0_0), (24, (Value.int .i64 (a0.length : Int))), (25, (Value.int .i64 i.2))])) (fun q i => f_lumref_TreeWrite_L11 a0 kk7 fu q i.1 i.2 = some r) ?_ fu (r5, (0 : Int)) h) (fun w a hm hs => norm hm hs [] [0, 1] [(5, (str r5)), (23, v0_0), (24, (Value.int .i64 (a0.length : Int))), (25, (Value.int .i64 (0 : Int)))] (by decide) ⟨rfl, rfl, rfl, rfl, trivial⟩)
      clear h
      rintro k10 ⟨l9s5, l9i25⟩ h
      have h : f_lumref_TreeWrite_L11 a0 kk7 fu k10 l9s5 l9i25 = some r := h
      obtain _ | k10 := k10
      · rw [f_lumref_TreeWrite_L11] at h; cases h
      rw [f_lumref_TreeWrite_L11] at h
      refine aw_show (m := (memOf w0 Z0 [] [] [(fDat (tyList tyS_api_Node) [v0_0] a0), uMax])) (S := (tab [(5, (str l9s5)), (23, v0_0), (24, (Value.int .i64 (a0.length : Int))), (25, (Value.int .i64 l9i25))])) ?_
      obtain ⟨kk12, hkk12, h⟩ := lt_some h
      refine aw_body_join (ι := (List UInt8) × Int) (fun i => (memOf w0 Z0 [] [] [(fDat (tyList tyS_api_Node) [v0_0] a0), uMax])) (fun i => (tab [(5, (str i.1)), (23, v0_0), (24, (Value.int .i64 (a0.length : Int))), (25, (Value.int .i64 i.2))])) (fun i => kk12 i.1 i.2 = some r) (fun i h => aq_again k10 i (Nat.lt_succ_self _) (by rw [hkk12] at h; exact h) (fun w a hm hs => ⟨hm, hs⟩)) ?_
      clear hkk12
      refine aw_seq ?_
      refine aw_region ?_
      refine al_val (ov_int rfl rfl rfl rfl) ?_
      refine al_nil ?_
      refine aq_then ?_
      refine aw_seq ?_
      refine aw_cond rfl (fun hb13 => ?_) (fun hb13 => ?_)
      · replace h := bif_t hb13 h
        refine aw_skip ?_
        refine aq_then ?_
        obtain ⟨kk15, hkk15, h⟩ := lt_some h
        refine aw_seq_join (ι := (List UInt8)) (fun i => (memOf w0 Z0 [] [] [(fDat (tyList tyS_api_Node) [v0_0] a0), uMax])) (fun i => (tab [(5, (str i)), (23, v0_0), (24, (Value.int .i64 (a0.length : Int))), (25, (Value.int .i64 l9i25))])) (fun i => kk15 i = some r) ?_ ?_
        · rintro j14s5 h
          have h : kk15 j14s5 = some r := h
          rw [hkk15] at h
          dsimp only at h
          clear hkk15
          refine aw_show (m := (memOf w0 Z0 [] [] [(fDat (tyList tyS_api_Node) [v0_0] a0), uMax])) (S := (tab [(5, (str j14s5)), (23, v0_0), (24, (Value.int .i64 (a0.length : Int))), (25, (Value.int .i64 l9i25))])) ?_
          refine aw_region ?_
          refine al_val (ov_int rfl rfl rfl rfl) ?_
          refine al_val (ov_move rfl rfl) ?_
          refine al_nil ?_
          exact aq_join (j14s5, (IntKind.i64.wrap (l9i25 + (1 : Int)))) h (fun w a hm hs => norm hm hs [] [0, 1] [(5, (str j14s5)), (23, v0_0), (24, (Value.int .i64 (a0.length : Int))), (25, (Value.int .i64 (IntKind.i64.wrap (l9i25 + (1 : Int)))))] (by decide) ⟨rfl, rfl, rfl, rfl, trivial⟩)
        · clear hkk15
          refine aw_block ?_
          refine aw_seq ?_
          refine aw_region ?_
          obtain ⟨u16, hu17, h⟩ := opt_some h
          refine al_idxD 0 hu17 rfl rfl rfl Tryd.underlying32 sz40 rfl (fun p18 => ?_)
          refine al_loadPA 0 rfl rfl Tryd.underlying40 sz40 rfl rfl (fun cs20 => ?_)
          refine al_use (ι := Value) 0 rfl (fun j => cs20 = [(str u16.Name), (Value.int .i64 u16.Kind), (Value.int .i64 u16.Mode), (Value.int .i64 u16.Time), (Value.int .i64 u16.Size), j, (str u16.Link)]) (fun j => [(fDat (tyList tyA8u8) [j] u16.Parts)]) encnS_api_Node (fun s19 hq => ?_)
          subst hq
          refine al_alloc (zs := [(str ([] : List UInt8)), (Value.int .i64 (0 : Int)), (Value.int .i64 (0 : Int)), (Value.int .i64 (0 : Int)), (Value.int .i64 (0 : Int)), (Value.slice none 0 0), (str ([] : List UInt8))]) (zeroOf_to to40) rfl rfl (fun g21 => ?_)
          refine al_store (i := 0) (vs := [(str u16.Name), (Value.int .i64 u16.Kind), (Value.int .i64 u16.Mode), (Value.int .i64 u16.Time), (Value.int .i64 u16.Size), s19, (str u16.Link)]) (cs' := [(str u16.Name), (Value.int .i64 u16.Kind), (Value.int .i64 u16.Mode), (Value.int .i64 u16.Time), (Value.int .i64 u16.Size), s19, (str u16.Link)]) rfl rfl rfl sz40 (cv_rfl rfl) rfl (co_val rfl (co_val rfl (co_val rfl (co_val rfl (co_val rfl (co_fz 0 rfl (co_val rfl co_nil))))))) (Nat.le_of_ble_eq_true rfl) rfl rfl ?_
          refine al_nil ?_
          refine aq_then ?_
          refine aw_seq ?_
          refine aw_region ?_
          refine al_val (ov_fieldA (p := 0) rfl Tryd.underlying40 rfl sz9 rfl rfl rfl) ?_
          refine al_val (ov_load (i := 0) (v := (str u16.Name)) rfl rfl Tryd.underlying9 sz9 rfl rfl rfl rfl) ?_
          obtain ⟨r23, hc22, h⟩ := opt_some h
          refine al_call (vs := [(str u16.Name)]) (f_lumref_PutText_ok fu u16.Name hc22) [] [] [0] (pre_fz 4 rfl pre_nil) rfl (by simp) (by decide) (.inl rfl) rfl Tryd.func64 rfl rfl rfl (fun _ => ?_)
          refine al_val (ov_move rfl rfl) ?_
          refine al_val (ov_extract rfl rfl rfl) ?_
          refine al_val (ov_extract rfl rfl rfl) ?_
          refine al_val (ov_assign rfl rfl) ?_
          refine al_val (ov_assign rfl rfl) ?_
          refine al_nil ?_
          refine aq_then ?_
          refine aw_seq ?_
          refine aw_region ?_
          refine al_val (ov_fieldA (p := 6) rfl Tryd.underlying40 rfl sz9 rfl rfl rfl) ?_
          refine al_val (ov_load (i := 0) (v := (str u16.Link)) rfl rfl Tryd.underlying9 sz9 rfl rfl rfl rfl) ?_
          obtain ⟨r25, hc24, h⟩ := opt_some h
          refine al_call (vs := [(str u16.Link)]) (f_lumref_PutText_ok fu u16.Link hc24) [] [] [0] (pre_fz 4 rfl pre_nil) rfl (by simp) (by decide) (.inl rfl) rfl Tryd.func64 rfl rfl rfl (fun _ => ?_)
          refine al_val (ov_move rfl rfl) ?_
          refine al_val (ov_extract rfl rfl rfl) ?_
          refine al_val (ov_extract rfl rfl rfl) ?_
          refine al_val (ov_assign rfl rfl) ?_
          refine al_val (ov_assign rfl rfl) ?_
          refine al_nil ?_
          refine aq_then ?_
          refine aw_seq ?_
          obtain ⟨hc27, h⟩ := req_some h
          obtain ⟨hc28, h⟩ := req_some h
          obtain ⟨r30, hc29, h⟩ := opt_some h
          obtain ⟨hc31, h⟩ := req_some h
          obtain ⟨r33, hc32, h⟩ := opt_some h
          obtain ⟨hc34, h⟩ := req_some h
          obtain ⟨r36, hc35, h⟩ := opt_some h
          obtain ⟨hc37, h⟩ := req_some h
          obtain ⟨r39, hc38, h⟩ := opt_some h
          obtain ⟨hc40, h⟩ := req_some h
          obtain ⟨hc41, h⟩ := req_some h
          refine aw_region_draw 29 [(41, (fun u => fEq u (str l9s5))), (42, (fun u => fEq u (str r23.1))), (43, (fun u => fEq u (ptr g21 1))), (44, (fun u => fEq u (Value.int .i64 u16.Kind))), (45, (fun u => fEq u (Value.int .u8 (IntKind.u8.wrap u16.Kind)))), (46, (fun v26 => (fDat (tyList tyU8) [v26] [(UInt8.ofNat ((IntKind.u8.wrap u16.Kind)).toNat)]))), (47, (fun u => fEq u (str [(UInt8.ofNat ((IntKind.u8.wrap u16.Kind)).toNat)]))), (48, (fun u => fEq u (str (r23.1 ++ ([(UInt8.ofNat ((IntKind.u8.wrap u16.Kind)).toNat)]))))), (49, (fun u => fEq u (ptr g21 2))), (50, (fun u => fEq u (Value.int .i64 u16.Mode))), (51, (fun u => fEq u (Value.int .u64 (IntKind.u64.wrap u16.Mode)))), (52, (fun u => fEq u (str r30))), (53, (fun u => fEq u (str ((r23.1 ++ ([(UInt8.ofNat ((IntKind.u8.wrap u16.Kind)).toNat)])) ++ r30)))), (54, (fun u => fEq u (ptr g21 3))), (55, (fun u => fEq u (Value.int .i64 u16.Time))), (56, (fun u => fEq u (str r33))), (57, (fun u => fEq u (str (((r23.1 ++ ([(UInt8.ofNat ((IntKind.u8.wrap u16.Kind)).toNat)])) ++ r30) ++ r33)))), (58, (fun u => fEq u (ptr g21 4))), (59, (fun u => fEq u (Value.int .i64 u16.Size))), (60, (fun u => fEq u (Value.int .u64 (IntKind.u64.wrap u16.Size)))), (61, (fun u => fEq u (str r36))), (62, (fun u => fEq u (str ((((r23.1 ++ ([(UInt8.ofNat ((IntKind.u8.wrap u16.Kind)).toNat)])) ++ r30) ++ r33) ++ r36)))), (63, (fun u => fEq u (ptr g21 5))), (64, (fun u => fEq u s19)), (65, (fun u => fEq u (Value.int .i64 (u16.Parts.length : Int)))), (66, (fun u => fEq u (Value.int .u64 (IntKind.u64.wrap (u16.Parts.length : Int))))), (67, (fun u => fEq u (str r39))), (68, (fun u => fEq u (str (((((r23.1 ++ ([(UInt8.ofNat ((IntKind.u8.wrap u16.Kind)).toNat)])) ++ r30) ++ r33) ++ r36) ++ r39)))), (69, (fun u => fEq u (str (l9s5 ++ (((((r23.1 ++ ([(UInt8.ofNat ((IntKind.u8.wrap u16.Kind)).toNat)])) ++ r30) ++ r33) ++ r36) ++ r39)))))] (tab [(5, (str l9s5)), (7, (ptr g21 0)), (8, (str r23.1)), (10, (str r25.1)), (23, v0_0), (24, (Value.int .i64 (a0.length : Int))), (25, (Value.int .i64 l9i25))]) mixed (by kernel_rfl) rfl rfl rfl (fun a hs => hs.tab _ (allT_mem ⟨rfl, rfl, rfl, rfl, rfl, rfl, rfl, trivial⟩)) ⟨⟨rfl, ld_val (ov_move rfl rfl)⟩, ⟨rfl, ld_val (ov_move rfl rfl)⟩, ⟨rfl, ld_val (ov_fieldA (p := 1) rfl Tryd.underlying40 rfl sz3 rfl rfl rfl)⟩, ⟨rfl, ld_eq (j := 2) rfl rfl (ld_val (ov_load (i := 0) (v := (Value.int .i64 u16.Kind)) rfl rfl Tryd.underlying3 sz3 rfl rfl rfl rfl))⟩, ⟨rfl, ld_eq (j := 3) rfl rfl (ld_val (ov_convInt (by rw [Tryd.underlying3]; rfl) Tryd.underlying5 rfl rfl))⟩, ⟨rfl, ld_eq (j := 4) rfl rfl (ld_buildSlice (τ := tyU8) (e := 5) (k := 1) (cs := [(Value.int .u8 (IntKind.u8.wrap u16.Kind))]) (xs := [(UInt8.ofNat ((IntKind.u8.wrap u16.Kind)).toNat)]) rfl (by decide) rfl (fun w a hm hs => ⟨([(Value.int .u8 (IntKind.u8.wrap u16.Kind))]).toArray, rfl, by simp only [List.map_toArray, List.map_cons, List.map_nil, hs.ev (x := .tmp 45) rfl]; exact run_bs [(Value.int .u8 (IntKind.u8.wrap u16.Kind))] [(Value.int .u8 (IntKind.u8.wrap u16.Kind))] Tryd.underlying89 to5 rfl rfl (bs_cons (l := [(Value.int .u8 (IntKind.u8.wrap u16.Kind))]) (cs := []) (cv_rfl rfl) rfl bs_nil) hm⟩) (fun hm => ⟨_, _, rfl, (fun _ => u8_rep hc27) hm, rfl⟩) rfl)⟩, ⟨rfl, ld_fact (j := 5) rfl rfl (fun v26 => ld_val (ov_toStr 0 rfl rfl Tryd.underlying89 Tryd.underlying5 Tryd.underlying9 rfl))⟩, ⟨rfl, ld_eq (j := 1) rfl rfl (ld_eq (j := 6) rfl rfl (ld_val (ov_strAdd hc28 rfl rfl rfl)))⟩, ⟨rfl, ld_val (ov_fieldA (p := 2) rfl Tryd.underlying40 rfl sz3 rfl rfl rfl)⟩, ⟨rfl, ld_eq (j := 8) rfl rfl (ld_val (ov_load (i := 0) (v := (Value.int .i64 u16.Mode)) rfl rfl Tryd.underlying3 sz3 rfl rfl rfl rfl))⟩, ⟨rfl, ld_eq (j := 9) rfl rfl (ld_val (ov_convInt (by rw [Tryd.underlying3]; rfl) Tryd.underlying87 rfl rfl))⟩, ⟨rfl, ld_eq (j := 10) rfl rfl (ld_callV (vs := [(Value.int .u64 (IntKind.u64.wrap u16.Mode))]) (f_lumref_Put_ok fu (IntKind.u64.wrap u16.Mode) hc29) [] pre_nil rfl Tryd.func56 rfl rfl rfl)⟩, ⟨rfl, ld_eq (j := 7) rfl rfl (ld_eq (j := 11) rfl rfl (ld_val (ov_strAdd hc31 rfl rfl rfl)))⟩, ⟨rfl, ld_val (ov_fieldA (p := 3) rfl Tryd.underlying40 rfl sz3 rfl rfl rfl)⟩, ⟨rfl, ld_eq (j := 13) rfl rfl (ld_val (ov_load (i := 0) (v := (Value.int .i64 u16.Time)) rfl rfl Tryd.underlying3 sz3 rfl rfl rfl rfl))⟩, ⟨rfl, ld_eq (j := 14) rfl rfl (ld_callV (vs := [(Value.int .i64 u16.Time)]) (f_lumref_PutInt_ok fu u16.Time hc32) [] pre_nil rfl Tryd.func65 rfl rfl rfl)⟩, ⟨rfl, ld_eq (j := 12) rfl rfl (ld_eq (j := 15) rfl rfl (ld_val (ov_strAdd hc34 rfl rfl rfl)))⟩, ⟨rfl, ld_val (ov_fieldA (p := 4) rfl Tryd.underlying40 rfl sz3 rfl rfl rfl)⟩, ⟨rfl, ld_eq (j := 17) rfl rfl (ld_val (ov_load (i := 0) (v := (Value.int .i64 u16.Size)) rfl rfl Tryd.underlying3 sz3 rfl rfl rfl rfl))⟩, ⟨rfl, ld_eq (j := 18) rfl rfl (ld_val (ov_convInt (by rw [Tryd.underlying3]; rfl) Tryd.underlying87 rfl rfl))⟩, ⟨rfl, ld_eq (j := 19) rfl rfl (ld_callV (vs := [(Value.int .u64 (IntKind.u64.wrap u16.Size))]) (f_lumref_Put_ok fu (IntKind.u64.wrap u16.Size) hc35) [] pre_nil rfl Tryd.func56 rfl rfl rfl)⟩, ⟨rfl, ld_eq (j := 16) rfl rfl (ld_eq (j := 20) rfl rfl (ld_val (ov_strAdd hc37 rfl rfl rfl)))⟩, ⟨rfl, ld_val (ov_fieldA (p := 5) rfl Tryd.underlying40 rfl sz38 rfl rfl rfl)⟩, ⟨rfl, ld_eq (j := 22) rfl rfl (ld_val (ov_load (i := 0) (v := s19) rfl rfl Tryd.underlying38 sz38 rfl rfl rfl rfl))⟩, ⟨rfl, ld_eq (j := 23) rfl rfl (ld_val (ov_lenD 0 rfl rfl Tryd.underlying38 rfl))⟩, ⟨rfl, ld_eq (j := 24) rfl rfl (ld_val (ov_convInt (by rw [Tryd.underlying3]; rfl) Tryd.underlying87 rfl rfl))⟩, ⟨rfl, ld_eq (j := 25) rfl rfl (ld_callV (vs := [(Value.int .u64 (IntKind.u64.wrap (u16.Parts.length : Int)))]) (f_lumref_Put_ok fu (IntKind.u64.wrap (u16.Parts.length : Int)) hc38) [] pre_nil rfl Tryd.func56 rfl rfl rfl)⟩, ⟨rfl, ld_eq (j := 21) rfl rfl (ld_eq (j := 26) rfl rfl (ld_val (ov_strAdd hc40 rfl rfl rfl)))⟩, ⟨rfl, ld_eq (j := 0) rfl rfl (ld_eq (j := 27) rfl rfl (ld_val (ov_strAdd hc41 rfl rfl rfl)))⟩, trivial⟩ ?_
          refine tl_eq 28 rfl ?_
          refine tl_done ?_
          refine al_val (ov_assign rfl rfl) ?_
          refine al_nil ?_
          refine aq_then ?_
          obtain ⟨kk43, hkk43, h⟩ := lt_some h
          refine aw_seq_join (ι := (List UInt8)) (fun i => (memOf w0 Z0 [] [] [(fDat (tyList tyS_api_Node) [v0_0] a0), (fDat (tyList tyA8u8) [s19] u16.Parts), (fDat tyS_api_Node [(str u16.Name), (Value.int .i64 u16.Kind), (Value.int .i64 u16.Mode), (Value.int .i64 u16.Time), (Value.int .i64 u16.Size), s19, (str u16.Link)] u16), (fPtr tyS_api_Node p18 u16), uMax])) (fun i => (tab [(5, (str i)), (10, (str r25.1)), (23, v0_0), (24, (Value.int .i64 (a0.length : Int))), (25, (Value.int .i64 l9i25))])) (fun i => kk43 i = some r) ?_ ?_
          · rintro j42s5 h
            have h : kk43 j42s5 = some r := h
            rw [hkk43] at h
            dsimp only at h
            clear hkk43
            refine aw_show (m := (memOf w0 Z0 [] [] [(fDat (tyList tyS_api_Node) [v0_0] a0), (fDat (tyList tyA8u8) [s19] u16.Parts), (fDat tyS_api_Node [(str u16.Name), (Value.int .i64 u16.Kind), (Value.int .i64 u16.Mode), (Value.int .i64 u16.Time), (Value.int .i64 u16.Size), s19, (str u16.Link)] u16), (fPtr tyS_api_Node p18 u16), uMax])) (S := (tab [(5, (str j42s5)), (10, (str r25.1)), (23, v0_0), (24, (Value.int .i64 (a0.length : Int))), (25, (Value.int .i64 l9i25))])) ?_
            refine aw_region ?_
            refine al_val (ov_move rfl rfl) ?_
            refine al_val (ov_move rfl rfl) ?_
            obtain ⟨hc44, h⟩ := req_some h
            refine al_val (ov_strAdd hc44 rfl rfl rfl) ?_
            refine al_val (ov_assign rfl rfl) ?_
            refine al_nil ?_
            refine aq_block ?_
            exact aq_join (j42s5 ++ r25.1) h (fun w a hm hs => norm hm hs [] [0, 4] [(5, (str (j42s5 ++ r25.1))), (23, v0_0), (24, (Value.int .i64 (a0.length : Int))), (25, (Value.int .i64 l9i25))] (by decide) ⟨rfl, rfl, rfl, rfl, trivial⟩)
          · clear hkk43
            refine aw_seq ?_
            refine aw_region ?_
            refine al_val (ov_fieldA (p := 5) rfl Tryd.underlying40 rfl sz38 rfl rfl rfl) ?_
            refine al_val (ov_load (i := 0) (v := s19) rfl rfl Tryd.underlying38 sz38 rfl rfl rfl rfl) ?_
            refine al_val (ov_lenD 0 rfl rfl Tryd.underlying38 rfl) ?_
            refine al_val (ov_move rfl rfl) ?_
            refine al_nil ?_
            refine aq_then ?_
            refine aw_block ?_
            refine aw_state (aw_loop (ι := (List UInt8) × Int) (fun i => (memOf w0 Z0 [] [] [(fDat (tyList tyS_api_Node) [v0_0] a0), (fDat (tyList tyA8u8) [s19] u16.Parts), (fDat tyS_api_Node [(str u16.Name), (Value.int .i64 u16.Kind), (Value.int .i64 u16.Mode), (Value.int .i64 u16.Time), (Value.int .i64 u16.Size), s19, (str u16.Link)] u16), (fPtr tyS_api_Node p18 u16), uMax])) (fun i => (tab [(5, (str i.1)), (10, (str r25.1)), (23, v0_0), (24, (Value.int .i64 (a0.length : Int))), (25, (Value.int .i64 l9i25)), (71, s19), (72, (Value.int .i64 (u16.Parts.length : Int))), (73, (Value.int .i64 i.2))])) (fun q i => f_lumref_TreeWrite_L47 u16 kk43 q i.1 i.2 = some r) ?_ fu ((l9s5 ++ (((((r23.1 ++ ([(UInt8.ofNat ((IntKind.u8.wrap u16.Kind)).toNat)])) ++ r30) ++ r33) ++ r36) ++ r39)), (0 : Int)) h) (fun w a hm hs => norm hm hs [] [3, 0, 1, 2, 4] [(5, (str (l9s5 ++ (((((r23.1 ++ ([(UInt8.ofNat ((IntKind.u8.wrap u16.Kind)).toNat)])) ++ r30) ++ r33) ++ r36) ++ r39)))), (10, (str r25.1)), (23, v0_0), (24, (Value.int .i64 (a0.length : Int))), (25, (Value.int .i64 l9i25)), (71, s19), (72, (Value.int .i64 (u16.Parts.length : Int))), (73, (Value.int .i64 (0 : Int)))] (by decide) ⟨rfl, rfl, rfl, rfl, rfl, rfl, rfl, rfl, trivial⟩)
            clear h
            rintro k46 ⟨l45s5, l45i73⟩ h
            have h : f_lumref_TreeWrite_L47 u16 kk43 k46 l45s5 l45i73 = some r := h
            obtain _ | k46 := k46
            · rw [f_lumref_TreeWrite_L47] at h; cases h
            rw [f_lumref_TreeWrite_L47] at h
            refine aw_show (m := (memOf w0 Z0 [] [] [(fDat (tyList tyS_api_Node) [v0_0] a0), (fDat (tyList tyA8u8) [s19] u16.Parts), (fDat tyS_api_Node [(str u16.Name), (Value.int .i64 u16.Kind), (Value.int .i64 u16.Mode), (Value.int .i64 u16.Time), (Value.int .i64 u16.Size), s19, (str u16.Link)] u16), (fPtr tyS_api_Node p18 u16), uMax])) (S := (tab [(5, (str l45s5)), (10, (str r25.1)), (23, v0_0), (24, (Value.int .i64 (a0.length : Int))), (25, (Value.int .i64 l9i25)), (71, s19), (72, (Value.int .i64 (u16.Parts.length : Int))), (73, (Value.int .i64 l45i73))])) ?_
            refine aw_seq ?_
            refine aw_region ?_
            refine al_val (ov_int rfl rfl rfl rfl) ?_
            refine al_nil ?_
            refine aq_then ?_
            refine aw_seq ?_
            refine aw_cond rfl (fun hb48 => ?_) (fun hb48 => ?_)
            · replace h := bif_t hb48 h
              refine aw_skip ?_
              refine aq_then ?_
              refine aw_seq ?_
              refine aw_block ?_
              refine aw_seq ?_
              refine aw_region ?_
              obtain ⟨u49, hu50, h⟩ := opt_some h
              refine al_idxD 1 hu50 rfl rfl rfl Tryd.underlying38 sz49 rfl (fun p51 => ?_)
              refine al_val (ov_loadP (ds := (cA8u8 u49)) 0 rfl encA8u8 rfl Tryd.underlying49 sz49 rfl rfl rfl) ?_
              refine al_alloc (zs := (cA8u8 (A8u8.mk (0 : UInt8) (0 : UInt8) (0 : UInt8) (0 : UInt8) (0 : UInt8) (0 : UInt8) (0 : UInt8) (0 : UInt8)))) (zeroOf_to to49) rfl rfl (fun g52 => ?_)
              refine al_store (i := 0) (vs := (cA8u8 u49)) (cs' := (cA8u8 u49)) rfl rfl rfl sz49 (cv_rfl rfl) rfl (co_all (oneA8u8 u49)) (Nat.le_of_ble_eq_true rfl) rfl rfl ?_
              refine al_nil ?_
              refine aq_then ?_
              refine aw_freezeB 0 (u49) rfl rfl (fun _ _ => mkA8u8 rfl) ?_
              refine aw_region ?_
              refine al_val (ov_move rfl rfl) ?_
              refine al_of (of_sliceP 0 lrepA8u8 rfl rfl rfl rfl Tryd.underlying49 sz5 rfl) (fun s53 => ?_)
              refine al_val (ov_toStr 0 rfl rfl Tryd.underlying89 Tryd.underlying5 Tryd.underlying9 rfl) ?_
              obtain ⟨hc54, h⟩ := req_some h
              refine al_val (ov_strAdd hc54 rfl rfl rfl) ?_
              refine al_val (ov_assign rfl rfl) ?_
              refine al_nil ?_
              refine aq_block ?_
              refine aq_then ?_
              refine aw_region ?_
              refine al_val (ov_int rfl rfl rfl rfl) ?_
              refine al_val (ov_move rfl rfl) ?_
              refine al_nil ?_
              exact aq_again k46 ((l45s5 ++ (lA8u8 u49)), (IntKind.i64.wrap (l45i73 + (1 : Int)))) (Nat.lt_succ_self _) h (fun w a hm hs => norm hm hs [] [3, 4, 5, 6, 7] [(5, (str (l45s5 ++ (lA8u8 u49)))), (10, (str r25.1)), (23, v0_0), (24, (Value.int .i64 (a0.length : Int))), (25, (Value.int .i64 l9i25)), (71, s19), (72, (Value.int .i64 (u16.Parts.length : Int))), (73, (Value.int .i64 (IntKind.i64.wrap (l45i73 + (1 : Int)))))] (by decide) ⟨rfl, rfl, rfl, rfl, rfl, rfl, rfl, rfl, trivial⟩)
            · replace h := bif_f hb48 h
              refine aw_exit ?_
              refine aq_then_exit ?_
              refine aq_then_exit ?_
              refine aq_block_exit ?_
              exact aq_join l45s5 h (fun w a hm hs => norm hm hs [] [0, 1, 2, 3, 4] [(5, (str l45s5)), (10, (str r25.1)), (23, v0_0), (24, (Value.int .i64 (a0.length : Int))), (25, (Value.int .i64 l9i25))] (by decide) ⟨rfl, rfl, rfl, rfl, rfl, trivial⟩)
      · replace h := bif_f hb13 h
        refine aw_exit ?_
        refine aq_then_exit ?_
        refine aq_then_exit ?_
        refine aq_block_exit ?_
        exact aq_join l9s5 h (fun w a hm hs => norm hm hs [] [0, 1] [(5, (str l9s5))] (by decide) ⟨rfl, trivial⟩)
def f_tree_Find_1 (fu : Nat) (a0 : S_api_Node) (a1 : (List UInt8)) : Option Bool := (some (a0.Name == a1))
end Go.Proofs.YtjbgahmcobcojaaDoor
