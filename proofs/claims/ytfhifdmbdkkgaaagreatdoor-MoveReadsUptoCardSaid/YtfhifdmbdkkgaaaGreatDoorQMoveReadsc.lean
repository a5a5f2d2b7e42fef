/- What MoveReads leans on, part 3. No condition. -/
import Derived.Test.YtfhifdmbdkkgaaaGreatDoorQMoveReadsb
import Derived.Test.YtfhifdmbdkkgaaaGreatDoorChecked
namespace Go.Proofs.YtfhifdmbdkkgaaaGreatDoor
open Go.RowKit YtfhifdmbdkkgaaaGreatDoor.En
set_option linter.unusedVariables false
set_option linter.unusedSimpArgs false
open Go.Value (int bool)
structure S_api_Item where
  Path : (List UInt8)
  Kind : Int
  Mode : Int
  Time : Int
  Bytes : (List UInt8)
  deriving DecidableEq
def tyS_api_Item : Ty S_api_Item := tyVia (fun x => (x.Path, (x.Kind, (x.Mode, (x.Time, x.Bytes))))) (tyPair tyStr (tyPair (tyInt .i64) (tyPair (tyInt .i64) (tyPair (tyInt .i64) tyStr))))
theorem subS_api_Item_0 : Sub tyS_api_Item 0 tyStr (fun x => x.Path) := Sub.via (Sub.fst (Sub.whole _))
theorem encS_api_Item {Z w cs} {x : S_api_Item} (h : tyS_api_Item.rep Z w cs x) : cs = [(str x.Path), (int .i64 x.Kind), (int .i64 x.Mode), (int .i64 x.Time), (str x.Bytes)] := by
  obtain ⟨c0, d0, rfl, p0, q0⟩ := h
  obtain ⟨c1, d1, rfl, p1, q1⟩ := q0
  obtain ⟨c2, d2, rfl, p2, q2⟩ := q1
  obtain ⟨c3, d3, rfl, p3, q3⟩ := q2
  rw [show _ = _ from p0]
  rw [show _ = _ from p1]
  rw [show _ = _ from p2]
  rw [show _ = _ from p3]
  rw [show _ = _ from q3]
  rfl
theorem mkS_api_Item {Z w cs} {x : S_api_Item} (h : cs = [(str x.Path), (int .i64 x.Kind), (int .i64 x.Mode), (int .i64 x.Time), (str x.Bytes)]) : tyS_api_Item.rep Z w cs x := by
  subst h
  exact ⟨_, _, (List.take_append_drop 1 _).symm, rfl, ⟨_, _, (List.take_append_drop 1 _).symm, rfl, ⟨_, _, (List.take_append_drop 1 _).symm, rfl, ⟨_, _, (List.take_append_drop 1 _).symm, rfl, rfl⟩⟩⟩⟩
structure S_api_Old where
  Name : (List UInt8)
  Time : Int
  World : (List S_api_Item)
  deriving DecidableEq
def tyS_api_Old : Ty S_api_Old := tyVia (fun x => (x.Name, (x.Time, x.World))) (tyPair tyStr (tyPair (tyInt .i64) (tyList tyS_api_Item)))
theorem encnS_api_Old {cs} {x : S_api_Old} : ∀ Z w, (fDat tyS_api_Old cs x).p Z w → ∃ j : Value, cs = [(str x.Name), (int .i64 x.Time), j] ∧ ∀ g ∈ [(fDat (tyList tyS_api_Item) [j] x.World)], g.p Z w := by
  intro Z w h
  obtain ⟨c0, d0, rfl, p0, q0⟩ := h
  obtain ⟨c1, d1, rfl, p1, q1⟩ := q0
  obtain rfl : c0 = [(str x.Name)] := p0
  obtain rfl : c1 = [(int .i64 x.Time)] := p1
  obtain ⟨v2, rfl⟩ := one_of q1
  exact ⟨v2, rfl, (fall_cons q1 fall_nil)⟩
theorem mknS_api_Old {Z w cs} {x : S_api_Old} {v0 : Value} (hc : cs = [(str x.Name), (int .i64 x.Time), v0]) (h0 : (tyList tyS_api_Item).rep Z w [v0] x.World) : tyS_api_Old.rep Z w cs x := by
  subst hc
  exact ⟨_, _, (List.take_append_drop 1 _).symm, rfl, ⟨_, _, (List.take_append_drop 1 _).symm, rfl, h0⟩⟩
structure A8u8 where
  e0 : UInt8
  e1 : UInt8
  e2 : UInt8
  e3 : UInt8
  e4 : UInt8
  e5 : UInt8
  e6 : UInt8
  e7 : UInt8
  deriving DecidableEq
def tyA8u8 : Ty A8u8 := tyVia (fun x => (x.e0, (x.e1, (x.e2, (x.e3, (x.e4, (x.e5, (x.e6, x.e7)))))))) (tyPair tyU8 (tyPair tyU8 (tyPair tyU8 (tyPair tyU8 (tyPair tyU8 (tyPair tyU8 (tyPair tyU8 tyU8)))))))
def cA8u8 (x : A8u8) : List Value := [(int .u8 (x.e0.toNat : Int)), (int .u8 (x.e1.toNat : Int)), (int .u8 (x.e2.toNat : Int)), (int .u8 (x.e3.toNat : Int)), (int .u8 (x.e4.toNat : Int)), (int .u8 (x.e5.toNat : Int)), (int .u8 (x.e6.toNat : Int)), (int .u8 (x.e7.toNat : Int))]
def lA8u8 (x : A8u8) : List UInt8 := [x.e0, x.e1, x.e2, x.e3, x.e4, x.e5, x.e6, x.e7]
def vA8u8 (y : UInt8) : Value := (int .u8 (y.toNat : Int))
theorem oneA8u8 (x : A8u8) : ∀ u ∈ cA8u8 x, u.oneCell' = true := ones_map (enc := vA8u8) (xs := lA8u8 x) (fun _ => rfl)
theorem lenA8u8 (x : A8u8) : (lA8u8 x).length = 8 := rfl
theorem encA8u8 {Z w cs} {x : A8u8} (h : tyA8u8.rep Z w cs x) : cs = (cA8u8 x) := by
  obtain ⟨c0, d0, rfl, p0, q0⟩ := h
  obtain ⟨c1, d1, rfl, p1, q1⟩ := q0
  obtain ⟨c2, d2, rfl, p2, q2⟩ := q1
  obtain ⟨c3, d3, rfl, p3, q3⟩ := q2
  obtain ⟨c4, d4, rfl, p4, q4⟩ := q3
  obtain ⟨c5, d5, rfl, p5, q5⟩ := q4
  obtain ⟨c6, d6, rfl, p6, q6⟩ := q5
  rw [show _ = _ from p0]
  rw [show _ = _ from p1]
  rw [show _ = _ from p2]
  rw [show _ = _ from p3]
  rw [show _ = _ from p4]
  rw [show _ = _ from p5]
  rw [show _ = _ from p6]
  rw [show _ = _ from q6]
  rfl
theorem mkA8u8 {Z w cs} {x : A8u8} (h : cs = (cA8u8 x)) : tyA8u8.rep Z w cs x := by
  subst h
  exact ⟨_, _, (List.take_append_drop 1 _).symm, rfl, ⟨_, _, (List.take_append_drop 1 _).symm, rfl, ⟨_, _, (List.take_append_drop 1 _).symm, rfl, ⟨_, _, (List.take_append_drop 1 _).symm, rfl, ⟨_, _, (List.take_append_drop 1 _).symm, rfl, ⟨_, _, (List.take_append_drop 1 _).symm, rfl, ⟨_, _, (List.take_append_drop 1 _).symm, rfl, rfl⟩⟩⟩⟩⟩⟩⟩
theorem lrepA8u8 {Z w cs} {x : A8u8} (h : tyA8u8.rep Z w cs x) : RepL tyU8 Z w cs (lA8u8 x) := by
  rw [encA8u8 h]
  exact ⟨[_], _, rfl, rfl, ⟨[_], _, rfl, rfl, ⟨[_], _, rfl, rfl, ⟨[_], _, rfl, rfl, ⟨[_], _, rfl, rfl, ⟨[_], _, rfl, rfl, ⟨[_], _, rfl, rfl, ⟨[_], _, rfl, rfl, rfl⟩⟩⟩⟩⟩⟩⟩⟩
structure S_move_reader where
  s : (List UInt8)
  bad : Bool
  deriving DecidableEq
def ofA8u8 (l : List UInt8) : A8u8 := match l.take 8 with | [e0, e1, e2, e3, e4, e5, e6, e7] => ⟨e0, e1, e2, e3, e4, e5, e6, e7⟩ | _ => ⟨0, 0, 0, 0, 0, 0, 0, 0⟩
theorem oflA8u8 {l : List UInt8} (hl : 8 ≤ l.length) {Z w cs} (hr : RepL tyU8 Z w cs (l.take 8)) : tyA8u8.rep Z w cs (ofA8u8 l) := by
  unfold ofA8u8
  have h8 : (l.take 8).length = 8 := by rw [List.length_take]; omega
  generalize l.take 8 = m at hr h8
  match m, h8, hr with
  | [e0, e1, e2, e3, e4, e5, e6, e7], _, hr => exact mkA8u8 (by rw [u8_cells hr]; rfl)
theorem coftA8u8 (l : List UInt8) (hl : l.length = 8) : cA8u8 (ofA8u8 l) = Lib.byteCells l := by
  match l, hl with
  | [e0, e1, e2, e3, e4, e5, e6, e7], _ => rfl
def cpA8u8 (x : A8u8) (l : List UInt8) : A8u8 := ofA8u8 (l.take 8 ++ (lA8u8 x).drop (l.take 8).length)
theorem ccpA8u8 (x : A8u8) (l : List UInt8) : cA8u8 (cpA8u8 x l) = Lib.byteCells (l.take 8) ++ (cA8u8 x).drop (l.take 8).length := by
  have h1 : (l.take 8).length ≤ 8 := by rw [List.length_take]; omega
  unfold cpA8u8
  rw [coftA8u8 _ (by rw [List.length_append, List.length_drop, lenA8u8]; omega)]
  unfold Lib.byteCells
  rw [List.map_append, List.map_drop]
  rfl
theorem cpcA8u8 (x : A8u8) (l : List UInt8) (pre post : List Value) : (pre ++ (cA8u8 x ++ post)).take pre.length ++ Lib.byteCells (l.take 8) ++ (pre ++ (cA8u8 x ++ post)).drop (pre.length + (l.take 8).length) = pre ++ (cA8u8 (cpA8u8 x l) ++ post) := by
  have h1 : (l.take 8).length ≤ (cA8u8 x).length := by rw [List.length_take]; exact Nat.min_le_left _ _
  rw [ccpA8u8, List.take_left, List.drop_append, List.drop_of_length_le (by omega), Nat.add_sub_cancel_left, List.drop_append_of_le_length h1]
  simp
theorem sz3 : szOf Tryz.prog 3 = some 1 := by kernel_rfl
theorem to3 : tyOf Tryz.prog 3 = some (1, 8, some (int .i64 (0 : Int))) := by kernel_rfl
theorem sz4 : szOf Tryz.prog 4 = some 1 := by kernel_rfl
theorem to4 : tyOf Tryz.prog 4 = some (1, 1, some (bool false)) := by kernel_rfl
theorem sz5 : szOf Tryz.prog 5 = some 1 := by kernel_rfl
theorem to5 : tyOf Tryz.prog 5 = some (1, 1, some (int .u8 (0 : Int))) := by kernel_rfl
theorem sz9 : szOf Tryz.prog 9 = some 1 := by kernel_rfl
theorem to9 : tyOf Tryz.prog 9 = some (1, 16, some (str ([] : List UInt8))) := by kernel_rfl
theorem sz34 : szOf Tryz.prog 34 = some 1 := by kernel_rfl
theorem to36 : tyOf Tryz.prog 36 = some (8, 8, some (ag [(int .u8 (0 : Int)), (int .u8 (0 : Int)), (int .u8 (0 : Int)), (int .u8 (0 : Int)), (int .u8 (0 : Int)), (int .u8 (0 : Int)), (int .u8 (0 : Int)), (int .u8 (0 : Int))])) := by kernel_rfl
theorem sz37 : szOf Tryz.prog 37 = some 8 := by kernel_rfl
theorem to37 : tyOf Tryz.prog 37 = some (8, 8, some (ag [(int .u8 (0 : Int)), (int .u8 (0 : Int)), (int .u8 (0 : Int)), (int .u8 (0 : Int)), (int .u8 (0 : Int)), (int .u8 (0 : Int)), (int .u8 (0 : Int)), (int .u8 (0 : Int))])) := by kernel_rfl
theorem sz49 : szOf Tryz.prog 49 = some 3 := by kernel_rfl
theorem to49 : tyOf Tryz.prog 49 = some (3, 48, some (ag [(str ([] : List UInt8)), (int .i64 (0 : Int)), (Value.slice none 0 0)])) := by kernel_rfl
theorem sz57 : szOf Tryz.prog 57 = some 5 := by kernel_rfl
theorem to57 : tyOf Tryz.prog 57 = some (5, 56, some (ag [(str ([] : List UInt8)), (int .i64 (0 : Int)), (int .i64 (0 : Int)), (int .i64 (0 : Int)), (str ([] : List UInt8))])) := by kernel_rfl
theorem sz122 : szOf Tryz.prog 122 = some 0 := by kernel_rfl
theorem sz178 : szOf Tryz.prog 178 = some 0 := by kernel_rfl
theorem mixed : Tryz.prog.follows .mixedOrders = true := by kernel_rfl
theorem eg37 : Tryz.prog.eqGuardType Tryz.prog.depth 37 = false := by kernel_rfl
theorem kt37 : Tryz.prog.keyTypeAt 20 37 = true := by kernel_rfl
theorem lv37 : leaves Tryz.prog 20 37 = some [5, 5, 5, 5, 5, 5, 5, 5] := by kernel_rfl
theorem injA8u8 {x y : A8u8} : (x == y) = true ↔ (cA8u8 x) = (cA8u8 y) := by
  rw [beq_iff_eq]
  constructor
  · rintro rfl; rfl
  · intro h
    obtain ⟨⟩ := x
    obtain ⟨⟩ := y
    simp only [A8u8.mk.injEq, cA8u8, str, List.cons_append, List.nil_append, List.cons.injEq, Value.int.injEq, Value.bool.injEq, Value.string.injEq, ByteArray.mk.injEq, Array.mk.injEq, Int.natCast_inj, UInt8.toNat_inj, true_and, and_true] at h ⊢
    first | exact h | simpa [and_assoc] using h
theorem eg57 : Tryz.prog.eqGuardType Tryz.prog.depth 57 = false := by kernel_rfl
theorem kt57 : Tryz.prog.keyTypeAt 20 57 = true := by kernel_rfl
theorem lv57 : leaves Tryz.prog 20 57 = some [9, 3, 3, 3, 9] := by kernel_rfl
theorem injS_api_Item {x y : S_api_Item} : (x == y) = true ↔ [(str x.Path), (int .i64 x.Kind), (int .i64 x.Mode), (int .i64 x.Time), (str x.Bytes)] = [(str y.Path), (int .i64 y.Kind), (int .i64 y.Mode), (int .i64 y.Time), (str y.Bytes)] := by
  rw [beq_iff_eq]
  constructor
  · rintro rfl; rfl
  · intro h
    obtain ⟨⟩ := x
    obtain ⟨⟩ := y
    simp only [S_api_Item.mk.injEq, str, List.cons_append, List.nil_append, List.cons.injEq, Value.int.injEq, Value.bool.injEq, Value.string.injEq, ByteArray.mk.injEq, Array.mk.injEq, Int.natCast_inj, UInt8.toNat_inj, true_and, and_true] at h ⊢
    first | exact h | simpa [and_assoc] using h
theorem kd9 : Go.Maps.Keyed Tryz.prog 9 := Go.Maps.string_keyed Tryz.underlying9
def okS_api_Item (x : S_api_Item) : Prop := (x.Path.length ≤ 9223372036854775807) ∧ ((Lit.int .i64 x.Kind).wf = true) ∧ ((Lit.int .i64 x.Mode).wf = true) ∧ ((Lit.int .i64 x.Time).wf = true) ∧ (x.Bytes.length ≤ 9223372036854775807)
set_option maxRecDepth 100000 in
theorem opnS_api_Item {H : Type} : Opn H Tryz.prog 57 tyS_api_Item okS_api_Item := opn_struct (fun x => (x.Path, (x.Kind, (x.Mode, (x.Time, x.Bytes))))) (fun y => S_api_Item.mk y.1 y.2.1 y.2.2.1 y.2.2.2.1 y.2.2.2.2) (fun _ => rfl) Tryz.underlying57 sz57 (fields_cons sz9 (opn_str Tryz.underlying9) (fields_cons sz3 (opn_int Tryz.underlying3) (fields_cons sz3 (opn_int Tryz.underlying3) (fields_cons sz3 (opn_int Tryz.underlying3) (fields_one sz9 (opn_str Tryz.underlying9))))))
def okS_api_Old (x : S_api_Old) : Prop := (x.Name.length ≤ 9223372036854775807) ∧ ((Lit.int .i64 x.Time).wf = true) ∧ (okL (fun y => okS_api_Item y) x.World)
set_option maxRecDepth 100000 in
theorem opnS_api_Old {H : Type} : Opn H Tryz.prog 49 tyS_api_Old okS_api_Old := opn_struct (fun x => (x.Name, (x.Time, x.World))) (fun y => S_api_Old.mk y.1 y.2.1 y.2.2) (fun _ => rfl) Tryz.underlying49 sz49 (fields_cons sz9 (opn_str Tryz.underlying9) (fields_cons sz3 (opn_int Tryz.underlying3) (fields_one sz34 (opn_list Tryz.underlying34 sz57 rfl opnS_api_Item))))
def okbS_api_Item (N : Nat) (x : S_api_Item) : Prop := ((x.Path.length ≤ 9223372036854775807 ∧ x.Path.length ≤ N)) ∧ ((Lit.int .i64 x.Kind).wf = true) ∧ ((Lit.int .i64 x.Mode).wf = true) ∧ ((Lit.int .i64 x.Time).wf = true) ∧ ((x.Bytes.length ≤ 9223372036854775807 ∧ x.Bytes.length ≤ N))
set_option maxRecDepth 100000 in
theorem opbS_api_Item {H : Type} : Opb H Tryz.prog 57 tyS_api_Item okbS_api_Item := opb_struct (fun x => (x.Path, (x.Kind, (x.Mode, (x.Time, x.Bytes))))) (fun y => S_api_Item.mk y.1 y.2.1 y.2.2.1 y.2.2.2.1 y.2.2.2.2) (fun _ => rfl) Tryz.underlying57 sz57 (fieldsb_cons sz9 (opb_str Tryz.underlying9) (fieldsb_cons sz3 (opb_of (opn_int Tryz.underlying3)) (fieldsb_cons sz3 (opb_of (opn_int Tryz.underlying3)) (fieldsb_cons sz3 (opb_of (opn_int Tryz.underlying3)) (fieldsb_one sz9 (opb_str Tryz.underlying9))))))
def okbS_api_Old (N : Nat) (x : S_api_Old) : Prop := ((x.Name.length ≤ 9223372036854775807 ∧ x.Name.length ≤ N)) ∧ ((Lit.int .i64 x.Time).wf = true) ∧ (okB (fun N y => okbS_api_Item N y) N x.World)
set_option maxRecDepth 100000 in
theorem opbS_api_Old {H : Type} : Opb H Tryz.prog 49 tyS_api_Old okbS_api_Old := opb_struct (fun x => (x.Name, (x.Time, x.World))) (fun y => S_api_Old.mk y.1 y.2.1 y.2.2) (fun _ => rfl) Tryz.underlying49 sz49 (fieldsb_cons sz9 (opb_str Tryz.underlying9) (fieldsb_cons sz3 (opb_of (opn_int Tryz.underlying3)) (fieldsb_one sz34 (opb_list Tryz.underlying34 sz57 rfl opbS_api_Item))))
theorem f_put8_ok {g off t : Nat} {a2 : Int} {cs cs' : List Value} (hc : 0 ≤ a2 ∧ a2 < 18446744073709551616) (hfit : off + 8 ≤ cs.length) (hcs : cs.take off ++ Lib.byteCells ((Lib.beBytes 8 a2.toNat).take 8) ++ cs.drop (off + ((Lib.beBytes 8 a2.toNat).take 8).length) = cs') :
    FnOk Tryz.prog 87 [(ag []), (sbx g off 8), (uq a2)] [] [oBox g t cs] (fun _ : Unit => { val := .tuple #[], own := [oBox g t cs'] }) := by
  obtain ⟨n, rfl⟩ : ∃ n : Nat, a2 = n := ⟨a2.toNat, by omega⟩
  have hl : (Lib.beBytes 8 n).length = 8 := Lib.beBytes_length 8 n
  have hcs' : cs.take off ++ Lib.byteCells (Lib.beBytes 8 n) ++ cs.drop (off + 8) = cs' := by
    have e : (Lib.beBytes 8 ((n : Int).toNat)).take 8 = Lib.beBytes 8 n := by rw [Int.toNat_natCast, List.take_of_length_le (by omega)]
    rw [e, hl] at hcs; exact hcs
  exact fnok_put8 hl hfit hcs' (fun x0 x1 x2 x3 x4 x5 x6 x7 w c0 c1 c2 c3 c4 c5 c6 c7 f0 f1 f2 f3 f4 f5 f6 f7 => Tryz.binary_BE_PutUint64 g off 8 8 n (by omega) x0 x1 x2 x3 x4 x5 x6 x7 w (by omega) c0 c1 c2 c3 c4 c5 c6 c7 f0 f1 f2 f3 f4 f5 f6 f7)
def f_names_Check_L10 (a0 : (List UInt8)) (kk5 : (Int → Option Int)) : Nat → Int → Int → Option Int
  | 0, _, _ => none
  | k9 + 1, l8i3, l8xp22 => (bif (decide (l8xp22.toNat < a0.length)) then (lt (fun (j12b35 : Bool) => (bif j12b35 then (some (8 : Int)) else (f_names_Check_L10 a0 kk5 k9 (IntKind.i64.wrap (l8i3 + (1 : Int))) ((l8xp22.toNat + (dec a0 l8xp22.toNat).2 : Nat) : Int)))) fun (kk13 : Bool → Option Int) => (bif ((((dec a0 l8xp22.toNat).1 : Nat) : Int) == (47 : Int)) then (kk13 true) else (bif (decide ((((dec a0 l8xp22.toNat).1 : Nat) : Int) < (32 : Int))) then (kk13 true) else (kk13 ((((dec a0 l8xp22.toNat).1 : Nat) : Int) == (127 : Int)))))) else (kk5 l8i3))
def f_names_Check (fu : Nat) (a0 : (List UInt8)) : Option Int := (lt (fun (j1b20 : Bool) => (bif j1b20 then (some (8 : Int)) else (lt (fun (j4i3 : Int) => (bif (decide (j4i3 > (24 : Int))) then (some (2 : Int)) else (some (0 : Int)))) fun (kk5 : Int → Option Int) => (f_names_Check_L10 a0 kk5 fu (0 : Int) (0 : Int))))) fun (kk2 : Bool → Option Int) => (bif (a0 == ([] : List UInt8)) then (kk2 true) else (bif (a0 == ([46] : List UInt8)) then (kk2 true) else (bif (a0 == ([46, 46] : List UInt8)) then (kk2 true) else (opt (f_utf8_ValidString fu a0) fun (r21 : Bool) => (kk2 (!r21)))))))
set_option maxHeartbeats 2000000 in
set_option maxRecDepth 100000 in
theorem f_names_Check_ok (fu : Nat) (a0 : (List UInt8)) {r : Int} (h : f_names_Check fu a0 = some r) : FnOk Tryz.prog 43 [(str a0)] [uTabs] [] (fun (i : Unit) => { val := (int .i64 r) }) := by
 unfold f_names_Check at h
 refine fn_enter Tryz.func43 rfl Tryz.ntmps43 rfl (fun w0 Z0 => ?_)
 refine aw_sr ?_
 refine al_as rfl rfl ?_
 refine al_nt ?_
 refine aw_seq ?_
 obtain ⟨kk2, hkk2, h⟩ := lt_some h
 refine aw_seq_join (ι := Bool) (fun i => (memOf w0 Z0 [] [] [uTabs])) (fun i => (tab [(0, (str a0)), (20, (bool i))])) (fun i => kk2 i = some r) ?_ ?_
 ·rintro j1b20 h
  have h : kk2 j1b20 = some r := h
  rw [hkk2] at h
  dsimp only at h
  clear hkk2
  refine aw_show (m := (memOf w0 Z0 [] [] [uTabs])) (S := (tab [(0, (str a0)), (20, (bool j1b20))])) ?_
  refine aw_cond rfl (fun hb3 => ?_) (fun hb3 => ?_)
  ·replace h := bif_t hb3 h
   refine aw_sr ?_
   refine al_as rfl rfl ?_
   refine al_nt ?_
   refine aw_ret ?_
   refine aq_then_ret ?_
   obtain rfl := Option.some.inj h
   exact fn_ret () [] [] rfl rfl rfl rfl (res1 rfl rfl) rfl rfl rfl (by decide)
  ·replace h := bif_f hb3 h
   refine aw_skip ?_
   refine aq_tr ?_
   refine al_as rfl rfl ?_
   refine al_nt ?_
   obtain ⟨kk5, hkk5, h⟩ := lt_some h
   refine aw_seq_join (ι := Int) (fun i => (memOf w0 Z0 [] [] [uTabs])) (fun i => (tab [(3, (iq i))])) (fun i => kk5 i = some r) ?_ ?_
   ·rintro j4i3 h
    have h : kk5 j4i3 = some r := h
    rw [hkk5] at h
    dsimp only at h
    clear hkk5
    refine aw_show (m := (memOf w0 Z0 [] [] [uTabs])) (S := (tab [(3, (iq j4i3))])) ?_
    refine aw_seq ?_
    refine aw_sr ?_
    refine al_mv rfl rfl ?_
    refine al_in rfl rfl rfl rfl ?_
    refine al_nt ?_
    refine aw_cond rfl (fun hb6 => ?_) (fun hb6 => ?_)
    ·replace h := bif_t hb6 h
     refine aw_sr ?_
     refine al_as rfl rfl ?_
     refine al_nt ?_
     refine aw_ret ?_
     refine aq_then_ret ?_
     obtain rfl := Option.some.inj h
     exact fn_ret () [] [] rfl rfl rfl rfl (res1 rfl rfl) rfl rfl rfl (by decide)
    ·replace h := bif_f hb6 h
     refine aw_skip ?_
     refine aq_tr ?_
     refine al_as rfl rfl ?_
     refine al_nt ?_
     refine aw_ret ?_
     obtain rfl := Option.some.inj h
     exact fn_ret () [] [] rfl rfl rfl rfl (res1 rfl rfl) rfl rfl rfl (by decide)
   ·clear hkk5
    refine aw_sr ?_
    refine al_mv rfl rfl ?_
    refine al_range rfl Tryz.underlying9 rfl (fun g7 => ?_)
    refine al_nt ?_
    refine aw_block ?_
    refine aw_state (aw_loop (ι := Int × Int) (fun i => (memOf w0 Z0 [] [(oIter g7 a0 i.2)] [uTabs])) (fun i => (tab [(3, (iq i.1)), (22, (pq g7))])) (fun q i => f_names_Check_L10 a0 kk5 q i.1 i.2 = some r) ?_ fu ((0 : Int), (0 : Int)) h) (fun w a hm hs => norm hm hs [0] [0] [(3, (iq (0 : Int))), (22, (pq g7))] (by decide) ⟨rfl, rfl, trivial⟩)
    clear h
    rintro k9 ⟨l8i3, l8xp22⟩ h
    have h : f_names_Check_L10 a0 kk5 k9 l8i3 l8xp22 = some r := h
    obtain _ | k9 := k9
    · rw [f_names_Check_L10] at h; cases h
    rw [f_names_Check_L10] at h
    refine aw_show (m := (memOf w0 Z0 [] [(oIter g7 a0 l8xp22)] [uTabs])) (S := (tab [(3, (iq l8i3)), (22, (pq g7))])) ?_
    refine aw_sr ?_
    refine al_next 0 rfl rfl rfl (fun hn11 => ?_) (fun hn11 => ?_)
    ·replace h := bif_t (decide_eq_true hn11) h
     refine al_ex rfl rfl rfl ?_
     refine al_nt ?_
     refine aw_seq ?_
     refine aw_cond_t rfl ?_
     refine aw_skip ?_
     refine aq_then ?_
     refine aw_block ?_
     refine aw_sr ?_
     refine al_ex rfl rfl rfl ?_
     refine al_as rfl rfl ?_
     refine al_nt ?_
     refine aw_seq ?_
     obtain ⟨kk13, hkk13, h⟩ := lt_some h
     refine aw_seq_join (ι := Bool) (fun i => (memOf w0 Z0 [] [(oIter g7 a0 ((l8xp22.toNat + (dec a0 l8xp22.toNat).2 : Nat) : Int))] [uTabs])) (fun i => (tab [(3, (iq l8i3)), (22, (pq g7)), (35, (bool i))])) (fun i => kk13 i = some r) ?_ ?_
     ·rintro j12b35 h
      have h : kk13 j12b35 = some r := h
      rw [hkk13] at h
      dsimp only at h
      clear hkk13
      refine aw_show (m := (memOf w0 Z0 [] [(oIter g7 a0 ((l8xp22.toNat + (dec a0 l8xp22.toNat).2 : Nat) : Int))] [uTabs])) (S := (tab [(3, (iq l8i3)), (22, (pq g7)), (35, (bool j12b35))])) ?_
      refine aw_cond rfl (fun hb14 => ?_) (fun hb14 => ?_)
      ·replace h := bif_t hb14 h
       refine aw_sr ?_
       refine al_as rfl rfl ?_
       refine al_nt ?_
       refine aw_ret ?_
       refine aq_then_ret ?_
       refine aq_block_ret ?_
       refine aq_then_ret ?_
       refine aq_block_ret ?_
       refine aq_then_ret ?_
       obtain rfl := Option.some.inj h
       exact fn_ret () [] [] rfl rfl rfl rfl (res1 rfl rfl) rfl rfl rfl (by decide)
      ·replace h := bif_f hb14 h
       refine aw_skip ?_
       refine aq_then ?_
       refine aw_region ?_
       refine al_mv rfl rfl ?_
       refine al_in rfl rfl rfl rfl ?_
       refine al_as rfl rfl ?_
       refine al_nil ?_
       refine aq_block ?_
       exact aq_again k9 ((wq (l8i3 + (1 : Int))), ((l8xp22.toNat + (dec a0 l8xp22.toNat).2 : Nat) : Int)) (Nat.lt_succ_self _) h (fun w a hm hs => norm hm hs [0] [0] [(3, (iq (wq (l8i3 + (1 : Int))))), (22, (pq g7))] (by decide) ⟨rfl, rfl, trivial⟩)
     ·clear hkk13
      refine aw_region ?_
      refine al_mv rfl rfl ?_
      refine al_in rfl rfl rfl rfl ?_
      refine al_mv rfl rfl ?_
      refine al_caseB 28 rfl (fun hb15 => ?_) (fun hb15 => ?_)
      ·replace h := bif_t hb15 h
       refine al_skip ?_
       refine al_skip ?_
       refine al_val (ov_pick_t rfl rfl rfl) ?_
       refine al_mv rfl rfl ?_
       refine al_skip ?_
       refine al_skip ?_
       refine al_val (ov_pick_t rfl rfl rfl) ?_
       refine al_nil ?_
       exact aq_join true h (fun w a hm hs => norm hm hs [0] [0] [(3, (iq l8i3)), (22, (pq g7)), (35, (bool true))] (by decide) ⟨rfl, rfl, rfl, trivial⟩)
      ·replace h := bif_f hb15 h
       refine al_mv rfl rfl ?_
       refine al_in rfl rfl rfl rfl ?_
       refine al_val (ov_pick_f rfl rfl rfl) ?_
       refine al_mv rfl rfl ?_
       refine al_caseB 32 rfl (fun hb16 => ?_) (fun hb16 => ?_)
       ·replace h := bif_t hb16 h
        refine al_skip ?_
        refine al_skip ?_
        refine al_val (ov_pick_t rfl rfl rfl) ?_
        refine al_nil ?_
        exact aq_join true h (fun w a hm hs => norm hm hs [0] [0] [(3, (iq l8i3)), (22, (pq g7)), (35, (bool true))] (by decide) ⟨rfl, rfl, rfl, trivial⟩)
       ·replace h := bif_f hb16 h
        refine al_mv rfl rfl ?_
        refine al_in rfl rfl rfl rfl ?_
        refine al_val (ov_pick_f rfl rfl rfl) ?_
        refine al_nil ?_
        exact aq_join ((((dec a0 l8xp22.toNat).1 : Nat) : Int) == (127 : Int)) h (fun w a hm hs => norm hm hs [0] [0] [(3, (iq l8i3)), (22, (pq g7)), (35, (bool ((((dec a0 l8xp22.toNat).1 : Nat) : Int) == (127 : Int))))] (by decide) ⟨rfl, rfl, rfl, trivial⟩)
    ·replace h := bif_f (decide_eq_false hn11) h
     refine al_ex rfl rfl rfl ?_
     refine al_nt ?_
     refine aw_seq ?_
     refine aw_cond_f rfl ?_
     refine aw_exit ?_
     refine aq_then_exit ?_
     refine aq_then_exit ?_
     refine aq_block_exit ?_
     exact aq_join l8i3 h (fun w a hm hs => norm hm hs [] [0] [(3, (iq l8i3))] (by decide) ⟨rfl, trivial⟩)
 ·clear hkk2
  refine aw_region ?_
  refine al_mv rfl rfl ?_
  refine al_val (ov_strCmp rfl rfl rfl rfl) ?_
  refine al_mv rfl rfl ?_
  refine al_caseB 8 rfl (fun hb17 => ?_) (fun hb17 => ?_)
  ·replace h := bif_t hb17 h
   refine al_skip ?_
   refine al_skip ?_
   refine al_val (ov_pick_t rfl rfl rfl) ?_
   refine al_mv rfl rfl ?_
   refine al_skip ?_
   refine al_skip ?_
   refine al_val (ov_pick_t rfl rfl rfl) ?_
   refine al_mv rfl rfl ?_
   refine al_skip ?_
   refine al_skip ?_
   refine al_skip ?_
   refine al_val (ov_pick_t rfl rfl rfl) ?_
   refine al_nil ?_
   exact aq_join true h (fun w a hm hs => norm hm hs [] [0] [(0, (str a0)), (20, (bool true))] (by decide) ⟨rfl, rfl, trivial⟩)
  ·replace h := bif_f hb17 h
   refine al_mv rfl rfl ?_
   refine al_val (ov_strCmp rfl rfl rfl rfl) ?_
   refine al_val (ov_pick_f rfl rfl rfl) ?_
   refine al_mv rfl rfl ?_
   refine al_caseB 12 rfl (fun hb18 => ?_) (fun hb18 => ?_)
   ·replace h := bif_t hb18 h
    refine al_skip ?_
    refine al_skip ?_
    refine al_val (ov_pick_t rfl rfl rfl) ?_
    refine al_mv rfl rfl ?_
    refine al_skip ?_
    refine al_skip ?_
    refine al_skip ?_
    refine al_val (ov_pick_t rfl rfl rfl) ?_
    refine al_nil ?_
    exact aq_join true h (fun w a hm hs => norm hm hs [] [0] [(0, (str a0)), (20, (bool true))] (by decide) ⟨rfl, rfl, trivial⟩)
   ·replace h := bif_f hb18 h
    refine al_mv rfl rfl ?_
    refine al_val (ov_strCmp rfl rfl rfl rfl) ?_
    refine al_val (ov_pick_f rfl rfl rfl) ?_
    refine al_mv rfl rfl ?_
    refine al_caseB 16 rfl (fun hb19 => ?_) (fun hb19 => ?_)
    ·replace h := bif_t hb19 h
     refine al_skip ?_
     refine al_skip ?_
     refine al_skip ?_
     refine al_val (ov_pick_t rfl rfl rfl) ?_
     refine al_nil ?_
     exact aq_join true h (fun w a hm hs => norm hm hs [] [0] [(0, (str a0)), (20, (bool true))] (by decide) ⟨rfl, rfl, trivial⟩)
    ·replace h := bif_f hb19 h
     refine al_mv rfl rfl ?_
     obtain ⟨r21, hc20, h⟩ := opt_some h
     refine al_call (vs := [(str a0)]) (f_utf8_ValidString_ok fu a0 hc20) [] [] [] (pre_fz 0 rfl pre_nil) rfl (by simp) (by decide) (.inl rfl) rfl Tryz.func80 rfl rfl rfl (fun _ => ?_)
     refine al_val (ov_not rfl rfl) ?_
     refine al_val (ov_pick_f rfl rfl rfl) ?_
     refine al_nil ?_
     exact aq_join (!r21) h (fun w a hm hs => norm hm hs [] [0] [(0, (str a0)), (20, (bool (!r21)))] (by decide) ⟨rfl, rfl, trivial⟩)
def f_stringslite_HasPrefix (fu : Nat) (a0 : (List UInt8)) (a1 : (List UInt8)) : Option Bool := (lt (fun (j1b4 : Bool) => (some j1b4)) fun (kk2 : Bool → Option Bool) => (bif (decide ((a0.length : Int) ≥ (a1.length : Int))) then (req (0 ≤ (a1.length : Int) ∧ (a1.length : Int) ≤ (a0.length : Int)) (kk2 ((a0.take ((a1.length : Int)).toNat) == a1))) else (kk2 false)))
set_option maxHeartbeats 2000000 in
set_option maxRecDepth 100000 in
theorem f_stringslite_HasPrefix_ok (fu : Nat) (a0 : (List UInt8)) (a1 : (List UInt8)) {r : Bool} (h : f_stringslite_HasPrefix fu a0 a1 = some r) : FnOk Tryz.prog 122 [(str a0), (str a1)] [] [] (fun (i : Unit) => { val := (bool r) }) := by
 unfold f_stringslite_HasPrefix at h
 refine fn_enter Tryz.func122 rfl Tryz.ntmps122 rfl (fun w0 Z0 => ?_)
 refine aw_sr ?_
 refine al_as rfl rfl ?_
 refine al_nt ?_
 obtain ⟨kk2, hkk2, h⟩ := lt_some h
 refine aw_seq_join (ι := Bool) (fun i => (memOf w0 Z0 [] [] [])) (fun i => (tab [(4, (bool i))])) (fun i => kk2 i = some r) ?_ ?_
 ·rintro j1b4 h
  have h : kk2 j1b4 = some r := h
  rw [hkk2] at h
  dsimp only at h
  clear hkk2
  refine aw_show (m := (memOf w0 Z0 [] [] [])) (S := (tab [(4, (bool j1b4))])) ?_
  refine aw_ret ?_
  obtain rfl := Option.some.inj h
  exact fn_ret () [] [] rfl rfl rfl rfl (res1 rfl rfl) rfl rfl rfl (by decide)
 ·clear hkk2
  refine aw_region ?_
  refine al_mv rfl rfl ?_
  refine al_val (ov_strLen Tryz.underlying9 rfl rfl) ?_
  refine al_mv rfl rfl ?_
  refine al_val (ov_strLen Tryz.underlying9 rfl rfl) ?_
  refine al_in rfl rfl rfl rfl ?_
  refine al_mv rfl rfl ?_
  refine al_caseB 10 rfl (fun hb3 => ?_) (fun hb3 => ?_)
  ·replace h := bif_t hb3 h
   refine al_mv rfl rfl ?_
   refine al_mv rfl rfl ?_
   refine al_val (ov_strLen Tryz.underlying9 rfl rfl) ?_
   obtain ⟨hc4, h⟩ := req_some h
   refine al_val (ov_strTo hc4.1 hc4.2 Tryz.underlying9 rfl rfl rfl) ?_
   refine al_mv rfl rfl ?_
   refine al_val (ov_strCmp rfl rfl rfl rfl) ?_
   refine al_val (ov_pick_t rfl rfl rfl) ?_
   refine al_as rfl rfl ?_
   refine al_nil ?_
   exact aq_join ((a0.take ((a1.length : Int)).toNat) == a1) h (fun w a hm hs => norm hm hs [] [] [(4, (bool ((a0.take ((a1.length : Int)).toNat) == a1)))] (by decide) ⟨rfl, trivial⟩)
  ·replace h := bif_f hb3 h
   refine al_skip ?_
   refine al_skip ?_
   refine al_skip ?_
   refine al_skip ?_
   refine al_skip ?_
   refine al_skip ?_
   refine al_val (ov_pick_f rfl rfl rfl) ?_
   refine al_as rfl rfl ?_
   refine al_nil ?_
   exact aq_join false h (fun w a hm hs => norm hm hs [] [] [(4, (bool false))] (by decide) ⟨rfl, trivial⟩)
def f_stringslite_CutPrefix (fu : Nat) (a0 : (List UInt8)) (a1 : (List UInt8)) : Option ((List UInt8) × Bool) := (opt (f_stringslite_HasPrefix fu a0 a1) fun (r2 : Bool) => (bif (!r2) then (some (a0, false)) else (req (0 ≤ (a1.length : Int) ∧ (a1.length : Int) ≤ (a0.length : Int)) (some ((a0.drop ((a1.length : Int)).toNat), true)))))
set_option maxHeartbeats 2000000 in
set_option maxRecDepth 100000 in
theorem f_stringslite_CutPrefix_ok (fu : Nat) (a0 : (List UInt8)) (a1 : (List UInt8)) {r : ((List UInt8) × Bool)} (h : f_stringslite_CutPrefix fu a0 a1 = some r) : FnOk Tryz.prog 130 [(str a0), (str a1)] [] [] (fun (i : Unit) => { val := (Value.tuple #[(str r.1), (bool r.2)]) }) := by
 unfold f_stringslite_CutPrefix at h
 refine fn_enter Tryz.func130 rfl Tryz.ntmps130 rfl (fun w0 Z0 => ?_)
 refine aw_sr ?_
 refine al_as rfl rfl ?_
 refine al_as rfl rfl ?_
 refine al_nt ?_
 refine aw_seq ?_
 refine aw_sr ?_
 refine al_mv rfl rfl ?_
 refine al_mv rfl rfl ?_
 obtain ⟨r2, hc1, h⟩ := opt_some h
 refine al_call (vs := [(str a0), (str a1)]) (f_stringslite_HasPrefix_ok fu a0 a1 hc1) [] [] [] pre_nil rfl (by simp) (by decide) (.inl rfl) rfl Tryz.func122 rfl rfl rfl (fun _ => ?_)
 refine al_val (ov_not rfl rfl) ?_
 refine al_nt ?_
 refine aw_cond rfl (fun hb3 => ?_) (fun hb3 => ?_)
 ·replace h := bif_t hb3 h
  refine aw_sr ?_
  refine al_mv rfl rfl ?_
  refine al_as rfl rfl ?_
  refine al_as rfl rfl ?_
  refine al_nt ?_
  refine aw_ret ?_
  refine aq_then_ret ?_
  obtain rfl := Option.some.inj h
  exact fn_ret () [] [] rfl rfl rfl rfl (res2 rfl rfl rfl) rfl rfl rfl (by decide)
 ·replace h := bif_f hb3 h
  refine aw_skip ?_
  refine aq_tr ?_
  refine al_mv rfl rfl ?_
  refine al_mv rfl rfl ?_
  refine al_val (ov_strLen Tryz.underlying9 rfl rfl) ?_
  obtain ⟨hc4, h⟩ := req_some h
  refine al_val (ov_strFrom hc4.1 hc4.2 Tryz.underlying9 rfl rfl rfl) ?_
  refine al_as rfl rfl ?_
  refine al_as rfl rfl ?_
  refine al_nt ?_
  refine aw_ret ?_
  obtain rfl := Option.some.inj h
  exact fn_ret () [] [] rfl rfl rfl rfl (res2 rfl rfl rfl) rfl rfl rfl (by decide)
def f_strings_CutPrefix (fu : Nat) (a0 : (List UInt8)) (a1 : (List UInt8)) : Option ((List UInt8) × Bool) := (opt (f_stringslite_CutPrefix fu a0 a1) fun (r2 : ((List UInt8) × Bool)) => (some (r2.1, r2.2)))
set_option maxRecDepth 100000 in
theorem f_strings_CutPrefix_ok (fu : Nat) (a0 : (List UInt8)) (a1 : (List UInt8)) {r : ((List UInt8) × Bool)} (h : f_strings_CutPrefix fu a0 a1 = some r) : FnOk Tryz.prog 104 [(str a0), (str a1)] [] [] (fun (i : Unit) => { val := (Value.tuple #[(str r.1), (bool r.2)]) }) := by
 unfold f_strings_CutPrefix at h
 refine fn_enter Tryz.func104 rfl Tryz.ntmps104 rfl (fun w0 Z0 => ?_)
 refine aw_sr ?_
 refine al_as rfl rfl ?_
 refine al_as rfl rfl ?_
 refine al_nt ?_
 refine aw_sr ?_
 refine al_mv rfl rfl ?_
 refine al_mv rfl rfl ?_
 obtain ⟨r2, hc1, h⟩ := opt_some h
 refine al_call (vs := [(str a0), (str a1)]) (f_stringslite_CutPrefix_ok fu a0 a1 hc1) [] [] [] pre_nil rfl (by simp) (by decide) (.inl rfl) rfl Tryz.func130 rfl rfl rfl (fun _ => ?_)
 refine al_ex rfl rfl rfl ?_
 refine al_ex rfl rfl rfl ?_
 refine al_as rfl rfl ?_
 refine al_as rfl rfl ?_
 refine al_nt ?_
 refine aw_ret ?_
 obtain rfl := Option.some.inj h
 exact fn_ret () [] [] rfl rfl rfl rfl (res2 rfl rfl rfl) rfl rfl rfl (by decide)
def f_names_checkAll_L5 (a0 : (List (List UInt8))) (kk2 : (Unit → Option Int)) (fu : Nat) : Nat → Int → Option Int
  | 0, _ => none
  | k4 + 1, l3i8 => (bif (decide (l3i8 < (a0.length : Int))) then (opt (at? a0 l3i8) fun (u7 : (List UInt8)) => (bif (decide (l3i8 ≥ (8 : Int))) then (some (14 : Int)) else (opt (f_names_Check fu u7) fun (r12 : Int) => (bif (r12 != (0 : Int)) then (some r12) else (f_names_checkAll_L5 a0 kk2 fu k4 (IntKind.i64.wrap (l3i8 + (1 : Int)))))))) else (kk2 ()))
def f_names_checkAll (fu : Nat) (a0 : (List (List UInt8))) : Option Int := (lt (fun (_ : Unit) => (some (0 : Int))) fun (kk2 : Unit → Option Int) => (f_names_checkAll_L5 a0 kk2 fu fu (0 : Int)))
set_option maxHeartbeats 2000000 in
set_option maxRecDepth 100000 in
theorem f_names_checkAll_ok (fu : Nat) (v0_0 : Value) (a0 : (List (List UInt8))) {r : Int} (h : f_names_checkAll fu a0 = some r) : FnOk Tryz.prog 106 [v0_0] [(fDat (tyList tyStr) [v0_0] a0), uTabs] [] (fun (i : Unit) => { val := (int .i64 r) }) := by
 unfold f_names_checkAll at h
 refine fn_enter Tryz.func106 rfl Tryz.ntmps106 rfl (fun w0 Z0 => ?_)
 refine aw_sr ?_
 refine al_as rfl rfl ?_
 refine al_nt ?_
 obtain ⟨kk2, hkk2, h⟩ := lt_some h
 refine aw_seq_join (ι := Unit) (fun i => (memOf w0 Z0 [] [] [(fDat (tyList tyStr) [v0_0] a0), uTabs])) (fun i => (tab [])) (fun i => kk2 () = some r) ?_ ?_
 ·rintro _ h
  have h : kk2 () = some r := h
  rw [hkk2] at h
  dsimp only at h
  clear hkk2
  refine aw_show (m := (memOf w0 Z0 [] [] [(fDat (tyList tyStr) [v0_0] a0), uTabs])) (S := (tab [])) ?_
  refine aw_sr ?_
  refine al_as rfl rfl ?_
  refine al_nt ?_
  refine aw_ret ?_
  obtain rfl := Option.some.inj h
  exact fn_ret () [] [] rfl rfl rfl rfl (res1 rfl rfl) rfl rfl rfl (by decide)
 ·clear hkk2
  refine aw_sr ?_
  refine al_mv rfl rfl ?_
  refine al_val (ov_lenD 0 rfl rfl Tryz.underlying47 rfl) ?_
  refine al_mv rfl rfl ?_
  refine al_nt ?_
  refine aw_block ?_
  refine aw_state (aw_loop (ι := Int) (fun i => (memOf w0 Z0 [] [] [(fDat (tyList tyStr) [v0_0] a0), uTabs])) (fun i => (tab [(6, v0_0), (7, (iq (a0.length : Int))), (8, (iq i))])) (fun q i => f_names_checkAll_L5 a0 kk2 fu q i = some r) ?_ fu (0 : Int) h) (fun w a hm hs => norm hm hs [] [0, 1] [(6, v0_0), (7, (iq (a0.length : Int))), (8, (iq (0 : Int)))] (by decide) ⟨rfl, rfl, rfl, trivial⟩)
  clear h
  rintro k4 l3i8 h
  have h : f_names_checkAll_L5 a0 kk2 fu k4 l3i8 = some r := h
  obtain _ | k4 := k4
  · rw [f_names_checkAll_L5] at h; cases h
  rw [f_names_checkAll_L5] at h
  refine aw_show (m := (memOf w0 Z0 [] [] [(fDat (tyList tyStr) [v0_0] a0), uTabs])) (S := (tab [(6, v0_0), (7, (iq (a0.length : Int))), (8, (iq l3i8))])) ?_
  refine aw_sr ?_
  refine al_in rfl rfl rfl rfl ?_
  refine al_nt ?_
  refine aw_seq ?_
  refine aw_cond rfl (fun hb6 => ?_) (fun hb6 => ?_)
  ·replace h := bif_t hb6 h
   refine aw_skip ?_
   refine aq_then ?_
   refine aw_seq ?_
   refine aw_block ?_
   refine aw_sr ?_
   refine al_mv rfl rfl ?_
   obtain ⟨u7, hu8, h⟩ := opt_some h
   refine al_idxD 0 hu8 rfl rfl rfl Tryz.underlying47 sz9 rfl (fun p9 => ?_)
   refine al_val (ov_loadP (ds := [(str u7)]) 0 rfl (fun h => h) rfl Tryz.underlying9 sz9 rfl rfl rfl) ?_
   refine al_as rfl rfl ?_
   refine al_as rfl rfl ?_
   refine al_nt ?_
   refine aw_seq ?_
   refine aw_sr ?_
   refine al_mv rfl rfl ?_
   refine al_in rfl rfl rfl rfl ?_
   refine al_nt ?_
   refine aw_cond rfl (fun hb10 => ?_) (fun hb10 => ?_)
   ·replace h := bif_t hb10 h
    refine aw_sr ?_
    refine al_as rfl rfl ?_
    refine al_nt ?_
    refine aw_ret ?_
    refine aq_then_ret ?_
    refine aq_block_ret ?_
    refine aq_then_ret ?_
    refine aq_then_ret ?_
    refine aq_block_ret ?_
    refine aq_then_ret ?_
    obtain rfl := Option.some.inj h
    exact fn_ret () [] [] rfl rfl rfl rfl (res1 rfl rfl) rfl rfl rfl (by decide)
   ·replace h := bif_f hb10 h
    refine aw_skip ?_
    refine aq_tr ?_
    refine al_mv rfl rfl ?_
    obtain ⟨r12, hc11, h⟩ := opt_some h
    refine al_call (vs := [(str u7)]) (f_names_Check_ok fu u7 hc11) [] [] [] (pre_fz 2 rfl pre_nil) rfl (by simp) (by decide) (.inl rfl) rfl Tryz.func43 rfl rfl rfl (fun _ => ?_)
    refine al_as rfl rfl ?_
    refine al_nt ?_
    refine aw_sr ?_
    refine al_mv rfl rfl ?_
    refine al_in rfl rfl rfl rfl ?_
    refine al_nt ?_
    refine aw_cond rfl (fun hb13 => ?_) (fun hb13 => ?_)
    ·replace h := bif_t hb13 h
     refine aw_sr ?_
     refine al_mv rfl rfl ?_
     refine al_as rfl rfl ?_
     refine al_nt ?_
     refine aw_ret ?_
     refine aq_block_ret ?_
     refine aq_then_ret ?_
     refine aq_then_ret ?_
     refine aq_block_ret ?_
     refine aq_then_ret ?_
     obtain rfl := Option.some.inj h
     exact fn_ret () [] [] rfl rfl rfl rfl (res1 rfl rfl) rfl rfl rfl (by decide)
    ·replace h := bif_f hb13 h
     refine aw_skip ?_
     refine aq_block ?_
     refine aq_then ?_
     refine aw_region ?_
     refine al_in rfl rfl rfl rfl ?_
     refine al_mv rfl rfl ?_
     refine al_nil ?_
     exact aq_again k4 (wq (l3i8 + (1 : Int))) (Nat.lt_succ_self _) h (fun w a hm hs => norm hm hs [] [1, 2] [(6, v0_0), (7, (iq (a0.length : Int))), (8, (iq (wq (l3i8 + (1 : Int)))))] (by decide) ⟨rfl, rfl, rfl, trivial⟩)
  ·replace h := bif_f hb6 h
   refine aw_exit ?_
   refine aq_then_exit ?_
   refine aq_then_exit ?_
   refine aq_block_exit ?_
   exact aq_join () h (fun w a hm hs => norm hm hs [] [0, 1] [] (by decide) trivial)
def f_names_Split (fu : Nat) (a0 : (List UInt8)) : Option ((List (List UInt8)) × Int) := (opt (f_strings_CutPrefix fu a0 ([47] : List UInt8)) fun (r2 : ((List UInt8) × Bool)) => (bif (!r2.2) then (some (([] : List (List UInt8)), (8 : Int))) else (bif (r2.1 == ([] : List UInt8)) then (some (([] : List (List UInt8)), (0 : Int))) else (opt (f_strings_Split fu r2.1 ([47] : List UInt8)) fun (r6 : (List (List UInt8))) => (opt (f_names_checkAll fu r6) fun (r9 : Int) => (bif (r9 != (0 : Int)) then (some (([] : List (List UInt8)), r9)) else (some (r6, (0 : Int)))))))))
set_option maxHeartbeats 2000000 in
set_option maxRecDepth 100000 in
theorem f_names_Split_ok (fu : Nat) (a0 : (List UInt8)) {r : ((List (List UInt8)) × Int)} (h : f_names_Split fu a0 = some r) : FnOk Tryz.prog 74 [(str a0)] [uMax, uTabs] [] (fun (i : Value) => { val := (Value.tuple #[i, (int .i64 r.2)]), own := [(oRow i 9 tyStr r.1)] }) := by
 unfold f_names_Split at h
 refine fn_enter Tryz.func74 rfl Tryz.ntmps74 rfl (fun w0 Z0 => ?_)
 refine aw_sr ?_
 refine al_as rfl rfl ?_
 refine al_as rfl rfl ?_
 refine al_nt ?_
 refine aw_sr ?_
 refine al_mv rfl rfl ?_
 obtain ⟨r2, hc1, h⟩ := opt_some h
 refine al_call (vs := [(str a0), (str ([47] : List UInt8))]) (f_strings_CutPrefix_ok fu a0 ([47] : List UInt8) hc1) [] [] [] pre_nil rfl (by simp) (by decide) (.inl rfl) rfl Tryz.func104 rfl rfl rfl (fun _ => ?_)
 refine al_mv rfl rfl ?_
 refine al_ex rfl rfl rfl ?_
 refine al_ex rfl rfl rfl ?_
 refine al_as rfl rfl ?_
 refine al_as rfl rfl ?_
 refine al_nt ?_
 refine aw_seq ?_
 refine aw_sr ?_
 refine al_mv rfl rfl ?_
 refine al_val (ov_not rfl rfl) ?_
 refine al_nt ?_
 refine aw_cond rfl (fun hb3 => ?_) (fun hb3 => ?_)
 ·replace h := bif_t hb3 h
  refine aw_sr ?_
  refine al_as rfl rfl ?_
  refine al_as rfl rfl ?_
  refine al_nt ?_
  refine aw_ret ?_
  refine aq_then_ret ?_
  refine aq_nilR 9 tyStr ?_
  obtain rfl := Option.some.inj h
  exact fn_ret nS [0] [] rfl rfl rfl rfl (res2 rfl rfl rfl) rfl rfl rfl (by decide)
 ·replace h := bif_f hb3 h
  refine aw_skip ?_
  refine aq_then ?_
  refine aw_seq ?_
  refine aw_sr ?_
  refine al_mv rfl rfl ?_
  refine al_val (ov_strCmp rfl rfl rfl rfl) ?_
  refine al_nt ?_
  refine aw_cond rfl (fun hb4 => ?_) (fun hb4 => ?_)
  ·replace h := bif_t hb4 h
   refine aw_sr ?_
   refine al_as rfl rfl ?_
   refine al_as rfl rfl ?_
   refine al_nt ?_
   refine aw_ret ?_
   refine aq_then_ret ?_
   refine aq_nilR 9 tyStr ?_
   obtain rfl := Option.some.inj h
   exact fn_ret nS [0] [] rfl rfl rfl rfl (res2 rfl rfl rfl) rfl rfl rfl (by decide)
  ·replace h := bif_f hb4 h
   refine aw_skip ?_
   refine aq_tr ?_
   refine al_mv rfl rfl ?_
   obtain ⟨r6, hc5, h⟩ := opt_some h
   refine al_call (vs := [(str r2.1), (str ([47] : List UInt8))]) (f_strings_Split_ok fu r2.1 ([47] : List UInt8) hc5) [] [] [] (pre_fz 0 rfl pre_nil) rfl (by simp) (by decide) (.inl rfl) rfl Tryz.func105 rfl rfl rfl (fun v7 => ?_)
   refine al_as rfl rfl ?_
   refine al_nt ?_
   refine aw_seq ?_
   refine aw_sr ?_
   refine al_mv rfl rfl ?_
   obtain ⟨r9, hc8, h⟩ := opt_some h
   refine al_call (vs := [v7]) (f_names_checkAll_ok fu v7 r6 hc8) [0] [] [0] (pre_own 0 rfl rfl (pre_fz 1 rfl pre_nil)) rfl (by simp) (by decide) (.inr flat_res0) rfl Tryz.func106 rfl rfl rfl (fun _ => ?_)
   refine al_as rfl rfl ?_
   refine al_nt ?_
   refine aw_sr ?_
   refine al_mv rfl rfl ?_
   refine al_in rfl rfl rfl rfl ?_
   refine al_nt ?_
   refine aw_cond rfl (fun hb10 => ?_) (fun hb10 => ?_)
   ·replace h := bif_t hb10 h
    refine aw_sr ?_
    refine al_mv rfl rfl ?_
    refine al_as rfl rfl ?_
    refine al_as rfl rfl ?_
    refine al_nt ?_
    refine aw_ret ?_
    refine aq_then_ret ?_
    refine aq_nilR 9 tyStr ?_
    obtain rfl := Option.some.inj h
    exact fn_ret nS [0] [] rfl rfl rfl rfl (res2 rfl rfl rfl) rfl rfl rfl (by decide)
   ·replace h := bif_f hb10 h
    refine aw_skip ?_
    refine aq_tr ?_
    refine al_mv rfl rfl ?_
    refine al_as rfl rfl ?_
    refine al_as rfl rfl ?_
    refine al_nt ?_
    refine aw_ret ?_
    obtain rfl := Option.some.inj h
    exact fn_ret v7 [0] [] rfl rfl rfl rfl (res2 rfl rfl rfl) rfl rfl rfl (by decide)
def f_tree_Known (fu : Nat) (a0 : Int) : Option Bool := (lt (fun (j1b2 : Bool) => (some j1b2)) fun (kk2 : Bool → Option Bool) => (bif (decide (a0 ≥ (1 : Int))) then (kk2 (decide (a0 ≤ (3 : Int)))) else (kk2 false)))
set_option maxHeartbeats 2000000 in
set_option maxRecDepth 100000 in
theorem f_tree_Known_ok (fu : Nat) (a0 : Int) {r : Bool} (h : f_tree_Known fu a0 = some r) : FnOk Tryz.prog 75 [(int .i64 a0)] [] [] (fun (i : Unit) => { val := (bool r) }) := by
 unfold f_tree_Known at h
 refine fn_enter Tryz.func75 rfl Tryz.ntmps75 rfl (fun w0 Z0 => ?_)
 refine aw_sr ?_
 refine al_as rfl rfl ?_
 refine al_nt ?_
 obtain ⟨kk2, hkk2, h⟩ := lt_some h
 refine aw_seq_join (ι := Bool) (fun i => (memOf w0 Z0 [] [] [])) (fun i => (tab [(2, (bool i))])) (fun i => kk2 i = some r) ?_ ?_
 ·rintro j1b2 h
  have h : kk2 j1b2 = some r := h
  rw [hkk2] at h
  dsimp only at h
  clear hkk2
  refine aw_show (m := (memOf w0 Z0 [] [] [])) (S := (tab [(2, (bool j1b2))])) ?_
  refine aw_ret ?_
  obtain rfl := Option.some.inj h
  exact fn_ret () [] [] rfl rfl rfl rfl (res1 rfl rfl) rfl rfl rfl (by decide)
 ·clear hkk2
  refine aw_region ?_
  refine al_mv rfl rfl ?_
  refine al_in rfl rfl rfl rfl ?_
  refine al_mv rfl rfl ?_
  refine al_caseB 5 rfl (fun hb3 => ?_) (fun hb3 => ?_)
  ·replace h := bif_t hb3 h
   refine al_mv rfl rfl ?_
   refine al_in rfl rfl rfl rfl ?_
   refine al_val (ov_pick_t rfl rfl rfl) ?_
   refine al_as rfl rfl ?_
   refine al_nil ?_
   exact aq_join (decide (a0 ≤ (3 : Int))) h (fun w a hm hs => norm hm hs [] [] [(2, (bool (decide (a0 ≤ (3 : Int)))))] (by decide) ⟨rfl, trivial⟩)
  ·replace h := bif_f hb3 h
   refine al_skip ?_
   refine al_skip ?_
   refine al_val (ov_pick_f rfl rfl rfl) ?_
   refine al_as rfl rfl ?_
   refine al_nil ?_
   exact aq_join false h (fun w a hm hs => norm hm hs [] [] [(2, (bool false))] (by decide) ⟨rfl, trivial⟩)
def f_walk_item (fu : Nat) (a0 : S_api_Item) : Option Int := (opt (f_names_Split fu a0.Path) fun (r3 : ((List (List UInt8)) × Int)) => (bif (r3.2 != (0 : Int)) then (some r3.2) else (bif ((r3.1.length : Int) == (0 : Int)) then (some (8 : Int)) else (opt (f_tree_Known fu a0.Kind) fun (r8 : Bool) => (bif (!r8) then (some (5 : Int)) else (lt (fun (j10b24 : Bool) => (bif j10b24 then (some (1 : Int)) else (lt (fun (j13b33 : Bool) => (bif j13b33 then (some (2 : Int)) else (lt (fun (j16b60 : Bool) => (bif j16b60 then (some (4 : Int)) else (some (0 : Int)))) fun (kk17 : Bool → Option Int) => (bif (a0.Kind == (3 : Int)) then (kk17 (a0.Bytes == ([] : List UInt8))) else (kk17 false))))) fun (kk14 : Bool → Option Int) => (lt (fun (j20b33 : Bool) => (bif j20b33 then (kk14 j20b33) else (lt (fun (j23b33 : Bool) => (bif j23b33 then (kk14 j23b33) else (bif (a0.Kind == (3 : Int)) then (kk14 (decide ((a0.Bytes.length : Int) > (1024 : Int)))) else (kk14 false)))) fun (kk24 : Bool → Option Int) => (bif (a0.Kind == (2 : Int)) then (kk24 (!(a0.Bytes == ([] : List UInt8)))) else (kk24 false))))) fun (kk21 : Bool → Option Int) => (bif (a0.Kind == (1 : Int)) then (kk21 (decide ((a0.Bytes.length : Int) > (4096 : Int)))) else (kk21 false)))))) fun (kk11 : Bool → Option Int) => (bif (decide (a0.Mode < (0 : Int))) then (kk11 true) else (kk11 (decide (a0.Mode > (511 : Int)))))))))))
set_option maxRecDepth 100000 in
set_option maxHeartbeats 2000000 in
set_option maxHeartbeats 2000000 in
theorem f_walk_item_ok (fu : Nat) (a0 : S_api_Item) {r : Int} (h : f_walk_item fu a0 = some r) : FnOk Tryz.prog 35 [(ag [(str a0.Path), (int .i64 a0.Kind), (int .i64 a0.Mode), (int .i64 a0.Time), (str a0.Bytes)])] [uMax, uTabs] [] (fun (i : Unit) => { val := (int .i64 r) }) := by
 unfold f_walk_item at h
 refine fn_enter Tryz.func35 rfl Tryz.ntmps35 rfl (fun w0 Z0 => ?_)
 refine aw_sr ?_
 refine al_box (vs := [(str a0.Path), (iq a0.Kind), (iq a0.Mode), (iq a0.Time), (str a0.Bytes)]) rfl (cv_rfl rfl) rfl (fun g1 => ?_)
 refine al_as rfl rfl ?_
 refine al_nt ?_
 refine aw_sr ?_
 refine al_val (ov_fieldA (p := 0) rfl Tryz.underlying57 rfl sz9 rfl rfl rfl) ?_
 refine al_val (ov_load (i := 0) (v := (str a0.Path)) rfl rfl Tryz.underlying9 sz9 rfl rfl rfl rfl) ?_
 obtain ⟨r3, hc2, h⟩ := opt_some h
 refine al_call (vs := [(str a0.Path)]) (f_names_Split_ok fu a0.Path hc2) [] [] [0] (pre_fz 0 rfl (pre_fz 1 rfl pre_nil)) rfl (by simp) (by decide) (.inl rfl) rfl Tryz.func74 rfl rfl rfl (fun v4 => ?_)
 refine al_mv rfl rfl ?_
 refine al_ex rfl rfl rfl ?_
 refine al_ex rfl rfl rfl ?_
 refine al_as rfl rfl ?_
 refine al_as rfl rfl ?_
 refine al_nt ?_
 refine aw_seq ?_
 refine aw_block ?_
 refine aw_sr ?_
 refine al_mv rfl rfl ?_
 refine al_in rfl rfl rfl rfl ?_
 refine al_as rfl rfl ?_
 refine al_nt ?_
 refine aw_cond rfl (fun hb5 => ?_) (fun hb5 => ?_)
 ·replace h := bif_t hb5 h
  refine aw_sr ?_
  refine al_mv rfl rfl ?_
  refine al_as rfl rfl ?_
  refine al_nt ?_
  refine aw_ret ?_
  refine aq_block_ret ?_
  refine aq_then_ret ?_
  obtain rfl := Option.some.inj h
  exact fn_ret () [] [] rfl rfl rfl rfl (res1 rfl rfl) rfl rfl rfl (by decide)
 ·replace h := bif_f hb5 h
  refine aw_sr ?_
  refine al_mv rfl rfl ?_
  refine al_val (ov_lenR 0 rfl rfl Tryz.underlying47 rfl) ?_
  refine al_in rfl rfl rfl rfl ?_
  refine al_as rfl rfl ?_
  refine al_nt ?_
  refine aw_cond rfl (fun hb6 => ?_) (fun hb6 => ?_)
  ·replace h := bif_t hb6 h
   refine aw_sr ?_
   refine al_as rfl rfl ?_
   refine al_nt ?_
   refine aw_ret ?_
   refine aq_block_ret ?_
   refine aq_then_ret ?_
   obtain rfl := Option.some.inj h
   exact fn_ret () [] [] rfl rfl rfl rfl (res1 rfl rfl) rfl rfl rfl (by decide)
  ·replace h := bif_f hb6 h
   refine aw_sr ?_
   refine al_val (ov_fieldA (p := 1) rfl Tryz.underlying57 rfl sz3 rfl rfl rfl) ?_
   refine al_val (ov_load (i := 1) (v := (iq a0.Kind)) rfl rfl Tryz.underlying3 sz3 rfl rfl rfl rfl) ?_
   obtain ⟨r8, hc7, h⟩ := opt_some h
   refine al_call (vs := [(iq a0.Kind)]) (f_tree_Known_ok fu a0.Kind hc7) [] [] [0, 1] pre_nil rfl (by simp) (by decide) (.inl rfl) rfl Tryz.func75 rfl rfl rfl (fun _ => ?_)
   refine al_val (ov_not rfl rfl) ?_
   refine al_as rfl rfl ?_
   refine al_nt ?_
   refine aw_cond rfl (fun hb9 => ?_) (fun hb9 => ?_)
   ·replace h := bif_t hb9 h
    refine aw_sr ?_
    refine al_as rfl rfl ?_
    refine al_nt ?_
    refine aw_ret ?_
    refine aq_block_ret ?_
    refine aq_then_ret ?_
    obtain rfl := Option.some.inj h
    exact fn_ret () [] [] rfl rfl rfl rfl (res1 rfl rfl) rfl rfl rfl (by decide)
   ·replace h := bif_f hb9 h
    obtain ⟨kk11, hkk11, h⟩ := lt_some h
    refine aw_seq_join (ι := Bool) (fun i => (memOf w0 Z0 [] [(oBox g1 57 [(str a0.Path), (iq a0.Kind), (iq a0.Mode), (iq a0.Time), (str a0.Bytes)])] [uMax, uTabs])) (fun i => (tab [(1, (pq g1)), (24, (bool i))])) (fun i => kk11 i = some r) ?_ ?_
    ·rintro j10b24 h
     have h : kk11 j10b24 = some r := h
     rw [hkk11] at h
     dsimp only at h
     clear hkk11
     refine aw_show (m := (memOf w0 Z0 [] [(oBox g1 57 [(str a0.Path), (iq a0.Kind), (iq a0.Mode), (iq a0.Time), (str a0.Bytes)])] [uMax, uTabs])) (S := (tab [(1, (pq g1)), (24, (bool j10b24))])) ?_
     refine aw_cond rfl (fun hb12 => ?_) (fun hb12 => ?_)
     ·replace h := bif_t hb12 h
      refine aw_sr ?_
      refine al_as rfl rfl ?_
      refine al_nt ?_
      refine aw_ret ?_
      refine aq_block_ret ?_
      refine aq_then_ret ?_
      obtain rfl := Option.some.inj h
      exact fn_ret () [] [] rfl rfl rfl rfl (res1 rfl rfl) rfl rfl rfl (by decide)
     ·replace h := bif_f hb12 h
      obtain ⟨kk14, hkk14, h⟩ := lt_some h
      refine aw_seq_join (ι := Bool) (fun i => (memOf w0 Z0 [] [(oBox g1 57 [(str a0.Path), (iq a0.Kind), (iq a0.Mode), (iq a0.Time), (str a0.Bytes)])] [uMax, uTabs])) (fun i => (tab [(1, (pq g1)), (33, (bool i))])) (fun i => kk14 i = some r) ?_ ?_
      ·rintro j13b33 h
       have h : kk14 j13b33 = some r := h
       rw [hkk14] at h
       dsimp only at h
       clear hkk14
       refine aw_show (m := (memOf w0 Z0 [] [(oBox g1 57 [(str a0.Path), (iq a0.Kind), (iq a0.Mode), (iq a0.Time), (str a0.Bytes)])] [uMax, uTabs])) (S := (tab [(1, (pq g1)), (33, (bool j13b33))])) ?_
       refine aw_cond rfl (fun hb15 => ?_) (fun hb15 => ?_)
       ·replace h := bif_t hb15 h
        refine aw_sr ?_
        refine al_as rfl rfl ?_
        refine al_nt ?_
        refine aw_ret ?_
        refine aq_block_ret ?_
        refine aq_then_ret ?_
        obtain rfl := Option.some.inj h
        exact fn_ret () [] [] rfl rfl rfl rfl (res1 rfl rfl) rfl rfl rfl (by decide)
       ·replace h := bif_f hb15 h
        obtain ⟨kk17, hkk17, h⟩ := lt_some h
        refine aw_seq_join (ι := Bool) (fun i => (memOf w0 Z0 [] [] [uMax, uTabs])) (fun i => (tab [(60, (bool i))])) (fun i => kk17 i = some r) ?_ ?_
        ·rintro j16b60 h
         have h : kk17 j16b60 = some r := h
         rw [hkk17] at h
         dsimp only at h
         clear hkk17
         refine aw_show (m := (memOf w0 Z0 [] [] [uMax, uTabs])) (S := (tab [(60, (bool j16b60))])) ?_
         refine aw_cond rfl (fun hb18 => ?_) (fun hb18 => ?_)
         ·replace h := bif_t hb18 h
          refine aw_sr ?_
          refine al_as rfl rfl ?_
          refine al_nt ?_
          refine aw_ret ?_
          refine aq_block_ret ?_
          refine aq_then_ret ?_
          obtain rfl := Option.some.inj h
          exact fn_ret () [] [] rfl rfl rfl rfl (res1 rfl rfl) rfl rfl rfl (by decide)
         ·replace h := bif_f hb18 h
          refine aw_skip ?_
          refine aq_block ?_
          refine aq_tr ?_
          refine al_as rfl rfl ?_
          refine al_nt ?_
          refine aw_ret ?_
          obtain rfl := Option.some.inj h
          exact fn_ret () [] [] rfl rfl rfl rfl (res1 rfl rfl) rfl rfl rfl (by decide)
        ·clear hkk17
         refine aw_region ?_
         refine al_val (ov_fieldA (p := 1) rfl Tryz.underlying57 rfl sz3 rfl rfl rfl) ?_
         refine al_val (ov_load (i := 0) (v := (iq a0.Kind)) rfl rfl Tryz.underlying3 sz3 rfl rfl rfl rfl) ?_
         refine al_in rfl rfl rfl rfl ?_
         refine al_mv rfl rfl ?_
         refine al_caseB 64 rfl (fun hb19 => ?_) (fun hb19 => ?_)
         ·replace h := bif_t hb19 h
          refine al_val (ov_fieldA (p := 4) rfl Tryz.underlying57 rfl sz9 rfl rfl rfl) ?_
          refine al_val (ov_load (i := 0) (v := (str a0.Bytes)) rfl rfl Tryz.underlying9 sz9 rfl rfl rfl rfl) ?_
          refine al_val (ov_strCmp rfl rfl rfl rfl) ?_
          refine al_val (ov_pick_t rfl rfl rfl) ?_
          refine al_as rfl rfl ?_
          refine al_nil ?_
          exact aq_join (a0.Bytes == ([] : List UInt8)) h (fun w a hm hs => norm hm hs [] [0, 1] [(60, (bool (a0.Bytes == ([] : List UInt8))))] (by decide) ⟨rfl, trivial⟩)
         ·replace h := bif_f hb19 h
          refine al_skip ?_
          refine al_skip ?_
          refine al_skip ?_
          refine al_val (ov_pick_f rfl rfl rfl) ?_
          refine al_as rfl rfl ?_
          refine al_nil ?_
          exact aq_join false h (fun w a hm hs => norm hm hs [] [0, 1] [(60, (bool false))] (by decide) ⟨rfl, trivial⟩)
      ·clear hkk14
       obtain ⟨kk21, hkk21, h⟩ := lt_some h
       refine aw_seq_join (ι := Bool) (fun i => (memOf w0 Z0 [] [(oBox g1 57 [(str a0.Path), (iq a0.Kind), (iq a0.Mode), (iq a0.Time), (str a0.Bytes)])] [uMax, uTabs])) (fun i => (tab [(1, (pq g1)), (33, (bool i))])) (fun i => kk21 i = some r) ?_ ?_
       ·rintro j20b33 h
        have h : kk21 j20b33 = some r := h
        rw [hkk21] at h
        dsimp only at h
        clear hkk21
        refine aw_show (m := (memOf w0 Z0 [] [(oBox g1 57 [(str a0.Path), (iq a0.Kind), (iq a0.Mode), (iq a0.Time), (str a0.Bytes)])] [uMax, uTabs])) (S := (tab [(1, (pq g1)), (33, (bool j20b33))])) ?_
        refine aw_cond rfl (fun hb22 => ?_) (fun hb22 => ?_)
        ·replace h := bif_t hb22 h
         refine aw_skip ?_
         exact aq_join j20b33 h (fun w a hm hs => norm hm hs [0] [0, 1] [(1, (pq g1)), (33, (bool j20b33))] (by decide) ⟨rfl, rfl, trivial⟩)
        ·replace h := bif_f hb22 h
         obtain ⟨kk24, hkk24, h⟩ := lt_some h
         refine aw_seq_join (ι := Bool) (fun i => (memOf w0 Z0 [] [(oBox g1 57 [(str a0.Path), (iq a0.Kind), (iq a0.Mode), (iq a0.Time), (str a0.Bytes)])] [uMax, uTabs])) (fun i => (tab [(1, (pq g1)), (33, (bool i))])) (fun i => kk24 i = some r) ?_ ?_
         ·rintro j23b33 h
          have h : kk24 j23b33 = some r := h
          rw [hkk24] at h
          dsimp only at h
          clear hkk24
          refine aw_show (m := (memOf w0 Z0 [] [(oBox g1 57 [(str a0.Path), (iq a0.Kind), (iq a0.Mode), (iq a0.Time), (str a0.Bytes)])] [uMax, uTabs])) (S := (tab [(1, (pq g1)), (33, (bool j23b33))])) ?_
          refine aw_cond rfl (fun hb25 => ?_) (fun hb25 => ?_)
          ·replace h := bif_t hb25 h
           refine aw_skip ?_
           exact aq_join j23b33 h (fun w a hm hs => norm hm hs [0] [0, 1] [(1, (pq g1)), (33, (bool j23b33))] (by decide) ⟨rfl, rfl, trivial⟩)
          ·replace h := bif_f hb25 h
           refine aw_region ?_
           refine al_val (ov_fieldA (p := 1) rfl Tryz.underlying57 rfl sz3 rfl rfl rfl) ?_
           refine al_val (ov_load (i := 0) (v := (iq a0.Kind)) rfl rfl Tryz.underlying3 sz3 rfl rfl rfl rfl) ?_
           refine al_in rfl rfl rfl rfl ?_
           refine al_mv rfl rfl ?_
           refine al_caseB 54 rfl (fun hb26 => ?_) (fun hb26 => ?_)
           ·replace h := bif_t hb26 h
            refine al_val (ov_fieldA (p := 4) rfl Tryz.underlying57 rfl sz9 rfl rfl rfl) ?_
            refine al_val (ov_load (i := 0) (v := (str a0.Bytes)) rfl rfl Tryz.underlying9 sz9 rfl rfl rfl rfl) ?_
            refine al_val (ov_strLen Tryz.underlying9 rfl rfl) ?_
            refine al_in rfl rfl rfl rfl ?_
            refine al_val (ov_pick_t rfl rfl rfl) ?_
            refine al_as rfl rfl ?_
            refine al_nil ?_
            exact aq_join (decide ((a0.Bytes.length : Int) > (1024 : Int))) h (fun w a hm hs => norm hm hs [0] [0, 1] [(1, (pq g1)), (33, (bool (decide ((a0.Bytes.length : Int) > (1024 : Int)))))] (by decide) ⟨rfl, rfl, trivial⟩)
           ·replace h := bif_f hb26 h
            refine al_skip ?_
            refine al_skip ?_
            refine al_skip ?_
            refine al_skip ?_
            refine al_val (ov_pick_f rfl rfl rfl) ?_
            refine al_as rfl rfl ?_
            refine al_nil ?_
            exact aq_join false h (fun w a hm hs => norm hm hs [0] [0, 1] [(1, (pq g1)), (33, (bool false))] (by decide) ⟨rfl, rfl, trivial⟩)
         ·clear hkk24
          refine aw_region ?_
          refine al_val (ov_fieldA (p := 1) rfl Tryz.underlying57 rfl sz3 rfl rfl rfl) ?_
          refine al_val (ov_load (i := 0) (v := (iq a0.Kind)) rfl rfl Tryz.underlying3 sz3 rfl rfl rfl rfl) ?_
          refine al_in rfl rfl rfl rfl ?_
          refine al_mv rfl rfl ?_
          refine al_caseB 46 rfl (fun hb27 => ?_) (fun hb27 => ?_)
          ·replace h := bif_t hb27 h
           refine al_val (ov_fieldA (p := 4) rfl Tryz.underlying57 rfl sz9 rfl rfl rfl) ?_
           refine al_val (ov_load (i := 0) (v := (str a0.Bytes)) rfl rfl Tryz.underlying9 sz9 rfl rfl rfl rfl) ?_
           refine al_val (ov_strCmp rfl rfl rfl rfl) ?_
           refine al_val (ov_pick_t rfl rfl rfl) ?_
           refine al_as rfl rfl ?_
           refine al_nil ?_
           exact aq_join (!(a0.Bytes == ([] : List UInt8))) h (fun w a hm hs => norm hm hs [0] [0, 1] [(1, (pq g1)), (33, (bool (!(a0.Bytes == ([] : List UInt8)))))] (by decide) ⟨rfl, rfl, trivial⟩)
          ·replace h := bif_f hb27 h
           refine al_skip ?_
           refine al_skip ?_
           refine al_skip ?_
           refine al_val (ov_pick_f rfl rfl rfl) ?_
           refine al_as rfl rfl ?_
           refine al_nil ?_
           exact aq_join false h (fun w a hm hs => norm hm hs [0] [0, 1] [(1, (pq g1)), (33, (bool false))] (by decide) ⟨rfl, rfl, trivial⟩)
       ·clear hkk21
        refine aw_region ?_
        refine al_val (ov_fieldA (p := 1) rfl Tryz.underlying57 rfl sz3 rfl rfl rfl) ?_
        refine al_val (ov_load (i := 0) (v := (iq a0.Kind)) rfl rfl Tryz.underlying3 sz3 rfl rfl rfl rfl) ?_
        refine al_in rfl rfl rfl rfl ?_
        refine al_mv rfl rfl ?_
        refine al_caseB 37 rfl (fun hb28 => ?_) (fun hb28 => ?_)
        ·replace h := bif_t hb28 h
         refine al_val (ov_fieldA (p := 4) rfl Tryz.underlying57 rfl sz9 rfl rfl rfl) ?_
         refine al_val (ov_load (i := 0) (v := (str a0.Bytes)) rfl rfl Tryz.underlying9 sz9 rfl rfl rfl rfl) ?_
         refine al_val (ov_strLen Tryz.underlying9 rfl rfl) ?_
         refine al_in rfl rfl rfl rfl ?_
         refine al_val (ov_pick_t rfl rfl rfl) ?_
         refine al_as rfl rfl ?_
         refine al_nil ?_
         exact aq_join (decide ((a0.Bytes.length : Int) > (4096 : Int))) h (fun w a hm hs => norm hm hs [0] [0, 1] [(1, (pq g1)), (33, (bool (decide ((a0.Bytes.length : Int) > (4096 : Int)))))] (by decide) ⟨rfl, rfl, trivial⟩)
        ·replace h := bif_f hb28 h
         refine al_skip ?_
         refine al_skip ?_
         refine al_skip ?_
         refine al_skip ?_
         refine al_val (ov_pick_f rfl rfl rfl) ?_
         refine al_as rfl rfl ?_
         refine al_nil ?_
         exact aq_join false h (fun w a hm hs => norm hm hs [0] [0, 1] [(1, (pq g1)), (33, (bool false))] (by decide) ⟨rfl, rfl, trivial⟩)
    ·clear hkk11
     refine aw_region ?_
     refine al_val (ov_fieldA (p := 2) rfl Tryz.underlying57 rfl sz3 rfl rfl rfl) ?_
     refine al_val (ov_load (i := 1) (v := (iq a0.Mode)) rfl rfl Tryz.underlying3 sz3 rfl rfl rfl rfl) ?_
     refine al_in rfl rfl rfl rfl ?_
     refine al_mv rfl rfl ?_
     refine al_caseB 28 rfl (fun hb29 => ?_) (fun hb29 => ?_)
     ·replace h := bif_t hb29 h
      refine al_skip ?_
      refine al_skip ?_
      refine al_skip ?_
      refine al_val (ov_pick_t rfl rfl rfl) ?_
      refine al_as rfl rfl ?_
      refine al_nil ?_
      exact aq_join true h (fun w a hm hs => norm hm hs [1] [0, 1] [(1, (pq g1)), (24, (bool true))] (by decide) ⟨rfl, rfl, trivial⟩)
     ·replace h := bif_f hb29 h
      refine al_val (ov_fieldA (p := 2) rfl Tryz.underlying57 rfl sz3 rfl rfl rfl) ?_
      refine al_val (ov_load (i := 1) (v := (iq a0.Mode)) rfl rfl Tryz.underlying3 sz3 rfl rfl rfl rfl) ?_
      refine al_in rfl rfl rfl rfl ?_
      refine al_val (ov_pick_f rfl rfl rfl) ?_
      refine al_as rfl rfl ?_
      refine al_nil ?_
      exact aq_join (decide (a0.Mode > (511 : Int))) h (fun w a hm hs => norm hm hs [1] [0, 1] [(1, (pq g1)), (24, (bool (decide (a0.Mode > (511 : Int)))))] (by decide) ⟨rfl, rfl, trivial⟩)
def f_cmp_isNaN_string_ (fu : Nat) (a0 : (List UInt8)) : Option Bool := (some (!(a0 == a0)))
set_option maxRecDepth 100000 in
theorem f_cmp_isNaN_string__ok (fu : Nat) (a0 : (List UInt8)) {r : Bool} (h : f_cmp_isNaN_string_ fu a0 = some r) : FnOk Tryz.prog 132 [(str a0)] [] [] (fun (i : Unit) => { val := (bool r) }) := by
 unfold f_cmp_isNaN_string_ at h
 refine fn_enter Tryz.func132 rfl Tryz.ntmps132 rfl (fun w0 Z0 => ?_)
 refine aw_sr ?_
 refine al_as rfl rfl ?_
 refine al_nt ?_
 refine aw_sr ?_
 refine al_mv rfl rfl ?_
 refine al_mv rfl rfl ?_
 refine al_val (ov_strCmp rfl rfl rfl rfl) ?_
 refine al_as rfl rfl ?_
 refine al_nt ?_
 refine aw_ret ?_
 obtain rfl := Option.some.inj h
 exact fn_ret () [] [] rfl rfl rfl rfl (res1 rfl rfl) rfl rfl rfl (by decide)
def f_cmp_Compare_string_ (fu : Nat) (a0 : (List UInt8)) (a1 : (List UInt8)) : Option Int := (opt (f_cmp_isNaN_string_ fu a0) fun (r2 : Bool) => (opt (f_cmp_isNaN_string_ fu a1) fun (r4 : Bool) => (bif r2 then (bif r4 then (some (0 : Int)) else (some (-1 : Int))) else (bif r4 then (some (1 : Int)) else (bif (Op.bytesLess a0 a1) then (some (-1 : Int)) else (bif (!(Op.bytesLess a0 a1 || a0 == a1)) then (some (1 : Int)) else (some (0 : Int))))))))
set_option maxHeartbeats 2000000 in
set_option maxRecDepth 100000 in
theorem f_cmp_Compare_string__ok (fu : Nat) (a0 : (List UInt8)) (a1 : (List UInt8)) {r : Int} (h : f_cmp_Compare_string_ fu a0 a1 = some r) : FnOk Tryz.prog 107 [(str a0), (str a1)] [] [] (fun (i : Unit) => { val := (int .i64 r) }) := by
 unfold f_cmp_Compare_string_ at h
 refine fn_enter Tryz.func107 rfl Tryz.ntmps107 rfl (fun w0 Z0 => ?_)
 refine aw_sr ?_
 refine al_as rfl rfl ?_
 refine al_nt ?_
 refine aw_sr ?_
 refine al_mv rfl rfl ?_
 obtain ⟨r2, hc1, h⟩ := opt_some h
 refine al_call (vs := [(str a0)]) (f_cmp_isNaN_string__ok fu a0 hc1) [] [] [] pre_nil rfl (by simp) (by decide) (.inl rfl) rfl Tryz.func132 rfl rfl rfl (fun _ => ?_)
 refine al_as rfl rfl ?_
 refine al_nt ?_
 refine aw_sr ?_
 refine al_mv rfl rfl ?_
 obtain ⟨r4, hc3, h⟩ := opt_some h
 refine al_call (vs := [(str a1)]) (f_cmp_isNaN_string__ok fu a1 hc3) [] [] [] pre_nil rfl (by simp) (by decide) (.inl rfl) rfl Tryz.func132 rfl rfl rfl (fun _ => ?_)
 refine al_as rfl rfl ?_
 refine al_nt ?_
 refine aw_seq ?_
 refine aw_sr ?_
 refine al_mv rfl rfl ?_
 refine al_nt ?_
 refine aw_cond rfl (fun hb5 => ?_) (fun hb5 => ?_)
 ·replace h := bif_t hb5 h
  refine aw_seq ?_
  refine aw_sr ?_
  refine al_mv rfl rfl ?_
  refine al_nt ?_
  refine aw_cond rfl (fun hb6 => ?_) (fun hb6 => ?_)
  ·replace h := bif_t hb6 h
   refine aw_sr ?_
   refine al_as rfl rfl ?_
   refine al_nt ?_
   refine aw_ret ?_
   refine aq_then_ret ?_
   refine aq_then_ret ?_
   obtain rfl := Option.some.inj h
   exact fn_ret () [] [] rfl rfl rfl rfl (res1 rfl rfl) rfl rfl rfl (by decide)
  ·replace h := bif_f hb6 h
   refine aw_skip ?_
   refine aq_tr ?_
   refine al_as rfl rfl ?_
   refine al_nt ?_
   refine aw_ret ?_
   refine aq_then_ret ?_
   obtain rfl := Option.some.inj h
   exact fn_ret () [] [] rfl rfl rfl rfl (res1 rfl rfl) rfl rfl rfl (by decide)
 ·replace h := bif_f hb5 h
  refine aw_skip ?_
  refine aq_then ?_
  refine aw_seq ?_
  refine aw_sr ?_
  refine al_mv rfl rfl ?_
  refine al_nt ?_
  refine aw_cond rfl (fun hb7 => ?_) (fun hb7 => ?_)
  ·replace h := bif_t hb7 h
   refine aw_sr ?_
   refine al_as rfl rfl ?_
   refine al_nt ?_
   refine aw_ret ?_
   refine aq_then_ret ?_
   obtain rfl := Option.some.inj h
   exact fn_ret () [] [] rfl rfl rfl rfl (res1 rfl rfl) rfl rfl rfl (by decide)
  ·replace h := bif_f hb7 h
   refine aw_skip ?_
   refine aq_then ?_
   refine aw_seq ?_
   refine aw_sr ?_
   refine al_mv rfl rfl ?_
   refine al_mv rfl rfl ?_
   refine al_val (ov_strCmp rfl rfl rfl rfl) ?_
   refine al_nt ?_
   refine aw_cond rfl (fun hb8 => ?_) (fun hb8 => ?_)
   ·replace h := bif_t hb8 h
    refine aw_sr ?_
    refine al_as rfl rfl ?_
    refine al_nt ?_
    refine aw_ret ?_
    refine aq_then_ret ?_
    obtain rfl := Option.some.inj h
    exact fn_ret () [] [] rfl rfl rfl rfl (res1 rfl rfl) rfl rfl rfl (by decide)
   ·replace h := bif_f hb8 h
    refine aw_skip ?_
    refine aq_then ?_
    refine aw_seq ?_
    refine aw_sr ?_
    refine al_mv rfl rfl ?_
    refine al_mv rfl rfl ?_
    refine al_val (ov_strCmp rfl rfl rfl rfl) ?_
    refine al_nt ?_
    refine aw_cond rfl (fun hb9 => ?_) (fun hb9 => ?_)
    ·replace h := bif_t hb9 h
     refine aw_sr ?_
     refine al_as rfl rfl ?_
     refine al_nt ?_
     refine aw_ret ?_
     refine aq_then_ret ?_
     obtain rfl := Option.some.inj h
     exact fn_ret () [] [] rfl rfl rfl rfl (res1 rfl rfl) rfl rfl rfl (by decide)
    ·replace h := bif_f hb9 h
     refine aw_skip ?_
     refine aq_tr ?_
     refine al_as rfl rfl ?_
     refine al_nt ?_
     refine aw_ret ?_
     obtain rfl := Option.some.inj h
     exact fn_ret () [] [] rfl rfl rfl rfl (res1 rfl rfl) rfl rfl rfl (by decide)
def f_slices_Compare___string_string__L6 (a0 : (List (List UInt8))) (a1 : (List (List UInt8))) (kk2 : (Unit → Option Int)) (fu : Nat) : Nat → Int → Option Int
  | 0, _ => none
  | k5 + 1, l4i11 => (bif (decide (l4i11 < (a0.length : Int))) then (opt (at? a0 l4i11) fun (u8 : (List UInt8)) => (bif (decide (l4i11 ≥ (a1.length : Int))) then (some (1 : Int)) else (opt (at? a1 l4i11) fun (u12 : (List UInt8)) => (opt (f_cmp_Compare_string_ fu u8 u12) fun (r16 : Int) => (bif (r16 != (0 : Int)) then (some r16) else (f_slices_Compare___string_string__L6 a0 a1 kk2 fu k5 (IntKind.i64.wrap (l4i11 + (1 : Int))))))))) else (kk2 ()))
def f_slices_Compare___string_string_ (fu : Nat) (a0 : (List (List UInt8))) (a1 : (List (List UInt8))) : Option Int := (lt (fun (_ : Unit) => (bif (decide ((a0.length : Int) < (a1.length : Int))) then (some (-1 : Int)) else (some (0 : Int)))) fun (kk2 : Unit → Option Int) => (f_slices_Compare___string_string__L6 a0 a1 kk2 fu fu (0 : Int)))
set_option maxHeartbeats 2000000 in
set_option maxRecDepth 100000 in
theorem f_slices_Compare___string_string__ok (fu : Nat) (v0_0 : Value) (a0 : (List (List UInt8))) (v1_0 : Value) (a1 : (List (List UInt8))) {r : Int} (h : f_slices_Compare___string_string_ fu a0 a1 = some r) : FnOk Tryz.prog 76 [v0_0, v1_0] [(fDat (tyList tyStr) [v0_0] a0), (fDat (tyList tyStr) [v1_0] a1)] [] (fun (i : Unit) => { val := (int .i64 r) }) := by
 unfold f_slices_Compare___string_string_ at h
 refine fn_enter Tryz.func76 rfl Tryz.ntmps76 rfl (fun w0 Z0 => ?_)
 refine aw_sr ?_
 refine al_as rfl rfl ?_
 refine al_nt ?_
 obtain ⟨kk2, hkk2, h⟩ := lt_some h
 refine aw_seq_join (ι := Unit) (fun i => (memOf w0 Z0 [] [] [(fDat (tyList tyStr) [v0_0] a0), (fDat (tyList tyStr) [v1_0] a1)])) (fun i => (tab [(0, v0_0), (1, v1_0)])) (fun i => kk2 () = some r) ?_ ?_
 ·rintro _ h
  have h : kk2 () = some r := h
  rw [hkk2] at h
  dsimp only at h
  clear hkk2
  refine aw_show (m := (memOf w0 Z0 [] [] [(fDat (tyList tyStr) [v0_0] a0), (fDat (tyList tyStr) [v1_0] a1)])) (S := (tab [(0, v0_0), (1, v1_0)])) ?_
  refine aw_seq ?_
  refine aw_sr ?_
  refine al_mv rfl rfl ?_
  refine al_val (ov_lenD 0 rfl rfl Tryz.underlying47 rfl) ?_
  refine al_mv rfl rfl ?_
  refine al_val (ov_lenD 1 rfl rfl Tryz.underlying47 rfl) ?_
  refine al_in rfl rfl rfl rfl ?_
  refine al_nt ?_
  refine aw_cond rfl (fun hb3 => ?_) (fun hb3 => ?_)
  ·replace h := bif_t hb3 h
   refine aw_sr ?_
   refine al_as rfl rfl ?_
   refine al_nt ?_
   refine aw_ret ?_
   refine aq_then_ret ?_
   obtain rfl := Option.some.inj h
   exact fn_ret () [] [] rfl rfl rfl rfl (res1 rfl rfl) rfl rfl rfl (by decide)
  ·replace h := bif_f hb3 h
   refine aw_skip ?_
   refine aq_tr ?_
   refine al_as rfl rfl ?_
   refine al_nt ?_
   refine aw_ret ?_
   obtain rfl := Option.some.inj h
   exact fn_ret () [] [] rfl rfl rfl rfl (res1 rfl rfl) rfl rfl rfl (by decide)
 ·clear hkk2
  refine aw_sr ?_
  refine al_mv rfl rfl ?_
  refine al_val (ov_lenD 0 rfl rfl Tryz.underlying47 rfl) ?_
  refine al_mv rfl rfl ?_
  refine al_nt ?_
  refine aw_block ?_
  refine aw_state (aw_loop (ι := Int) (fun i => (memOf w0 Z0 [] [] [(fDat (tyList tyStr) [v0_0] a0), (fDat (tyList tyStr) [v1_0] a1)])) (fun i => (tab [(0, v0_0), (1, v1_0), (9, v0_0), (10, (iq (a0.length : Int))), (11, (iq i))])) (fun q i => f_slices_Compare___string_string__L6 a0 a1 kk2 fu q i = some r) ?_ fu (0 : Int) h) (fun w a hm hs => norm hm hs [] [0, 1] [(0, v0_0), (1, v1_0), (9, v0_0), (10, (iq (a0.length : Int))), (11, (iq (0 : Int)))] (by decide) ⟨rfl, rfl, rfl, rfl, rfl, trivial⟩)
  clear h
  rintro k5 l4i11 h
  have h : f_slices_Compare___string_string__L6 a0 a1 kk2 fu k5 l4i11 = some r := h
  obtain _ | k5 := k5
  · rw [f_slices_Compare___string_string__L6] at h; cases h
  rw [f_slices_Compare___string_string__L6] at h
  refine aw_show (m := (memOf w0 Z0 [] [] [(fDat (tyList tyStr) [v0_0] a0), (fDat (tyList tyStr) [v1_0] a1)])) (S := (tab [(0, v0_0), (1, v1_0), (9, v0_0), (10, (iq (a0.length : Int))), (11, (iq l4i11))])) ?_
  refine aw_sr ?_
  refine al_in rfl rfl rfl rfl ?_
  refine al_nt ?_
  refine aw_seq ?_
  refine aw_cond rfl (fun hb7 => ?_) (fun hb7 => ?_)
  ·replace h := bif_t hb7 h
   refine aw_skip ?_
   refine aq_then ?_
   refine aw_seq ?_
   refine aw_block ?_
   refine aw_sr ?_
   refine al_mv rfl rfl ?_
   obtain ⟨u8, hu9, h⟩ := opt_some h
   refine al_idxD 0 hu9 rfl rfl rfl Tryz.underlying47 sz9 rfl (fun p10 => ?_)
   refine al_val (ov_loadP (ds := [(str u8)]) 0 rfl (fun h => h) rfl Tryz.underlying9 sz9 rfl rfl rfl) ?_
   refine al_as rfl rfl ?_
   refine al_as rfl rfl ?_
   refine al_nt ?_
   refine aw_seq ?_
   refine aw_sr ?_
   refine al_mv rfl rfl ?_
   refine al_mv rfl rfl ?_
   refine al_val (ov_lenD 2 rfl rfl Tryz.underlying47 rfl) ?_
   refine al_in rfl rfl rfl rfl ?_
   refine al_nt ?_
   refine aw_cond rfl (fun hb11 => ?_) (fun hb11 => ?_)
   ·replace h := bif_t hb11 h
    refine aw_sr ?_
    refine al_as rfl rfl ?_
    refine al_nt ?_
    refine aw_ret ?_
    refine aq_then_ret ?_
    refine aq_block_ret ?_
    refine aq_then_ret ?_
    refine aq_then_ret ?_
    refine aq_block_ret ?_
    refine aq_then_ret ?_
    obtain rfl := Option.some.inj h
    exact fn_ret () [] [] rfl rfl rfl rfl (res1 rfl rfl) rfl rfl rfl (by decide)
   ·replace h := bif_f hb11 h
    refine aw_skip ?_
    refine aq_tr ?_
    refine al_mv rfl rfl ?_
    refine al_mv rfl rfl ?_
    obtain ⟨u12, hu13, h⟩ := opt_some h
    refine al_idxD 2 hu13 rfl rfl rfl Tryz.underlying47 sz9 rfl (fun p14 => ?_)
    refine al_val (ov_loadP (ds := [(str u12)]) 0 rfl (fun h => h) rfl Tryz.underlying9 sz9 rfl rfl rfl) ?_
    refine al_as rfl rfl ?_
    refine al_nt ?_
    refine aw_sr ?_
    refine al_mv rfl rfl ?_
    refine al_mv rfl rfl ?_
    obtain ⟨r16, hc15, h⟩ := opt_some h
    refine al_call (vs := [(str u8), (str u12)]) (f_cmp_Compare_string__ok fu u8 u12 hc15) [] [] [] pre_nil rfl (by simp) (by decide) (.inl rfl) rfl Tryz.func107 rfl rfl rfl (fun _ => ?_)
    refine al_as rfl rfl ?_
    refine al_nt ?_
    refine aw_sr ?_
    refine al_mv rfl rfl ?_
    refine al_in rfl rfl rfl rfl ?_
    refine al_nt ?_
    refine aw_cond rfl (fun hb17 => ?_) (fun hb17 => ?_)
    ·replace h := bif_t hb17 h
     refine aw_sr ?_
     refine al_mv rfl rfl ?_
     refine al_as rfl rfl ?_
     refine al_nt ?_
     refine aw_ret ?_
     refine aq_block_ret ?_
     refine aq_then_ret ?_
     refine aq_then_ret ?_
     refine aq_block_ret ?_
     refine aq_then_ret ?_
     obtain rfl := Option.some.inj h
     exact fn_ret () [] [] rfl rfl rfl rfl (res1 rfl rfl) rfl rfl rfl (by decide)
    ·replace h := bif_f hb17 h
     refine aw_skip ?_
     refine aq_block ?_
     refine aq_then ?_
     refine aw_region ?_
     refine al_in rfl rfl rfl rfl ?_
     refine al_mv rfl rfl ?_
     refine al_nil ?_
     exact aq_again k5 (wq (l4i11 + (1 : Int))) (Nat.lt_succ_self _) h (fun w a hm hs => norm hm hs [] [2, 3] [(0, v0_0), (1, v1_0), (9, v0_0), (10, (iq (a0.length : Int))), (11, (iq (wq (l4i11 + (1 : Int)))))] (by decide) ⟨rfl, rfl, rfl, rfl, rfl, trivial⟩)
  ·replace h := bif_f hb7 h
   refine aw_exit ?_
   refine aq_then_exit ?_
   refine aq_then_exit ?_
   refine aq_block_exit ?_
   exact aq_join () h (fun w a hm hs => norm hm hs [] [0, 1] [(0, v0_0), (1, v1_0)] (by decide) ⟨rfl, rfl, trivial⟩)
def f_names_Compare (fu : Nat) (a0 : (List UInt8)) (a1 : (List UInt8)) : Option Int := (opt (f_names_Split fu a0) fun (r2 : ((List (List UInt8)) × Int)) => (opt (f_names_Split fu a1) fun (r5 : ((List (List UInt8)) × Int)) => (opt (f_slices_Compare___string_string_ fu r2.1 r5.1) fun (r8 : Int) => (some r8))))
set_option maxHeartbeats 2000000 in
set_option maxRecDepth 100000 in
theorem f_names_Compare_ok (fu : Nat) (a0 : (List UInt8)) (a1 : (List UInt8)) {r : Int} (h : f_names_Compare fu a0 a1 = some r) : FnOk Tryz.prog 36 [(str a0), (str a1)] [uMax, uTabs] [] (fun (i : Unit) => { val := (int .i64 r) }) := by
 unfold f_names_Compare at h
 refine fn_enter Tryz.func36 rfl Tryz.ntmps36 rfl (fun w0 Z0 => ?_)
 refine aw_sr ?_
 refine al_as rfl rfl ?_
 refine al_nt ?_
 refine aw_sr ?_
 refine al_mv rfl rfl ?_
 obtain ⟨r2, hc1, h⟩ := opt_some h
 refine al_call (vs := [(str a0)]) (f_names_Split_ok fu a0 hc1) [] [] [] (pre_fz 0 rfl (pre_fz 1 rfl pre_nil)) rfl (by simp) (by decide) (.inl rfl) rfl Tryz.func74 rfl rfl rfl (fun v3 => ?_)
 refine al_mv rfl rfl ?_
 refine al_ex rfl rfl rfl ?_
 refine al_ex rfl rfl rfl ?_
 refine al_as rfl rfl ?_
 refine al_as rfl rfl ?_
 refine al_nt ?_
 refine aw_sr ?_
 refine al_mv rfl rfl ?_
 obtain ⟨r5, hc4, h⟩ := opt_some h
 refine al_call (vs := [(str a1)]) (f_names_Split_ok fu a1 hc4) [] [] [0] (pre_fz 0 rfl (pre_fz 1 rfl pre_nil)) rfl (by simp) (by decide) (.inl rfl) rfl Tryz.func74 rfl rfl rfl (fun v6 => ?_)
 refine al_mv rfl rfl ?_
 refine al_ex rfl rfl rfl ?_
 refine al_ex rfl rfl rfl ?_
 refine al_as rfl rfl ?_
 refine al_as rfl rfl ?_
 refine al_nt ?_
 refine aw_sr ?_
 refine al_mv rfl rfl ?_
 refine al_mv rfl rfl ?_
 obtain ⟨r8, hc7, h⟩ := opt_some h
 refine al_call (vs := [v3, v6]) (f_slices_Compare___string_string__ok fu v3 r2.1 v6 r5.1 hc7) [0, 1] [] [0, 1] (pre_own 1 rfl rfl (pre_own 0 rfl rfl pre_nil)) rfl (by simp) (by decide) (.inr flat_res0) rfl Tryz.func76 rfl rfl rfl (fun _ => ?_)
 refine al_as rfl rfl ?_
 refine al_nt ?_
 refine aw_ret ?_
 obtain rfl := Option.some.inj h
 exact fn_ret () [] [] rfl rfl rfl rfl (res1 rfl rfl) rfl rfl rfl (by decide)
def f_bytealg_LastIndexByteString_L5 (a0 : (List UInt8)) (a1 : Int) (kk2 : (Unit → Option Int)) : Nat → Int → Option Int
  | 0, _ => none
  | k4 + 1, l3i5 => (bif (decide (l3i5 ≥ (0 : Int))) then (req (0 ≤ l3i5 ∧ l3i5 < (a0.length : Int)) (bif ((En.bAt a0 l3i5) == a1) then (some l3i5) else (f_bytealg_LastIndexByteString_L5 a0 a1 kk2 k4 (IntKind.i64.wrap (l3i5 - (1 : Int)))))) else (kk2 ()))
def f_bytealg_LastIndexByteString (fu : Nat) (a0 : (List UInt8)) (a1 : Int) : Option Int := (lt (fun (_ : Unit) => (some (-1 : Int))) fun (kk2 : Unit → Option Int) => (f_bytealg_LastIndexByteString_L5 a0 a1 kk2 fu (IntKind.i64.wrap ((a0.length : Int) - (1 : Int)))))
set_option maxHeartbeats 2000000 in
set_option maxRecDepth 100000 in
theorem f_bytealg_LastIndexByteString_ok (fu : Nat) (a0 : (List UInt8)) (a1 : Int) {r : Int} (h : f_bytealg_LastIndexByteString fu a0 a1 = some r) : FnOk Tryz.prog 93 [(str a0), (int .u8 a1)] [] [] (fun (i : Unit) => { val := (int .i64 r) }) := by
 unfold f_bytealg_LastIndexByteString at h
 refine fn_enter Tryz.func93 rfl Tryz.ntmps93 rfl (fun w0 Z0 => ?_)
 refine aw_sr ?_
 refine al_as rfl rfl ?_
 refine al_nt ?_
 obtain ⟨kk2, hkk2, h⟩ := lt_some h
 refine aw_seq_join (ι := Unit) (fun i => (memOf w0 Z0 [] [] [])) (fun i => (tab [])) (fun i => kk2 () = some r) ?_ ?_
 ·rintro _ h
  have h : kk2 () = some r := h
  rw [hkk2] at h
  dsimp only at h
  clear hkk2
  refine aw_show (m := (memOf w0 Z0 [] [] [])) (S := (tab [])) ?_
  refine aw_sr ?_
  refine al_as rfl rfl ?_
  refine al_nt ?_
  refine aw_ret ?_
  obtain rfl := Option.some.inj h
  exact fn_ret () [] [] rfl rfl rfl rfl (res1 rfl rfl) rfl rfl rfl (by decide)
 ·clear hkk2
  refine aw_sr ?_
  refine al_mv rfl rfl ?_
  refine al_val (ov_strLen Tryz.underlying9 rfl rfl) ?_
  refine al_in rfl rfl rfl rfl ?_
  refine al_as rfl rfl ?_
  refine al_nt ?_
  refine aw_block ?_
  refine aw_state (aw_loop (ι := Int) (fun i => (memOf w0 Z0 [] [] [])) (fun i => (tab [(0, (str a0)), (1, (i8 a1)), (5, (iq i))])) (fun q i => f_bytealg_LastIndexByteString_L5 a0 a1 kk2 q i = some r) ?_ fu (wq ((a0.length : Int) - (1 : Int))) h) (fun w a hm hs => norm hm hs [] [] [(0, (str a0)), (1, (i8 a1)), (5, (iq (wq ((a0.length : Int) - (1 : Int)))))] (by decide) ⟨rfl, rfl, rfl, trivial⟩)
  clear h
  rintro k4 l3i5 h
  have h : f_bytealg_LastIndexByteString_L5 a0 a1 kk2 k4 l3i5 = some r := h
  obtain _ | k4 := k4
  · rw [f_bytealg_LastIndexByteString_L5] at h; cases h
  rw [f_bytealg_LastIndexByteString_L5] at h
  refine aw_show (m := (memOf w0 Z0 [] [] [])) (S := (tab [(0, (str a0)), (1, (i8 a1)), (5, (iq l3i5))])) ?_
  refine aw_seq ?_
  refine aw_sr ?_
  refine al_mv rfl rfl ?_
  refine al_in rfl rfl rfl rfl ?_
  refine al_nt ?_
  refine aw_cond rfl (fun hb6 => ?_) (fun hb6 => ?_)
  ·replace h := bif_t hb6 h
   refine aw_skip ?_
   refine aq_then ?_
   refine aw_seq ?_
   refine aw_block ?_
   refine aw_sr ?_
   refine al_mv rfl rfl ?_
   refine al_mv rfl rfl ?_
   obtain ⟨hc7, h⟩ := req_some h
   refine al_val (ov_strIdx hc7.1 hc7.2 Tryz.underlying9 rfl rfl rfl) ?_
   refine al_mv rfl rfl ?_
   refine al_in rfl rfl rfl rfl ?_
   refine al_nt ?_
   refine aw_cond rfl (fun hb8 => ?_) (fun hb8 => ?_)
   ·replace h := bif_t hb8 h
    refine aw_sr ?_
    refine al_mv rfl rfl ?_
    refine al_as rfl rfl ?_
    refine al_nt ?_
    refine aw_ret ?_
    refine aq_block_ret ?_
    refine aq_then_ret ?_
    refine aq_then_ret ?_
    refine aq_block_ret ?_
    refine aq_then_ret ?_
    obtain rfl := Option.some.inj h
    exact fn_ret () [] [] rfl rfl rfl rfl (res1 rfl rfl) rfl rfl rfl (by decide)
   ·replace h := bif_f hb8 h
    refine aw_skip ?_
    refine aq_block ?_
    refine aq_then ?_
    refine aw_region ?_
    refine al_mv rfl rfl ?_
    refine al_in rfl rfl rfl rfl ?_
    refine al_as rfl rfl ?_
    refine al_nil ?_
    exact aq_again k4 (wq (l3i5 - (1 : Int))) (Nat.lt_succ_self _) h (fun w a hm hs => norm hm hs [] [] [(0, (str a0)), (1, (i8 a1)), (5, (iq (wq (l3i5 - (1 : Int)))))] (by decide) ⟨rfl, rfl, rfl, trivial⟩)
  ·replace h := bif_f hb6 h
   refine aw_exit ?_
   refine aq_then_exit ?_
   refine aq_then_exit ?_
   refine aq_block_exit ?_
   exact aq_join () h (fun w a hm hs => norm hm hs [] [] [] (by decide) trivial)
def f_strings_LastIndexByte (fu : Nat) (a0 : (List UInt8)) (a1 : Int) : Option Int := (opt (f_bytealg_LastIndexByteString fu a0 a1) fun (r2 : Int) => (some r2))
set_option maxRecDepth 100000 in
theorem f_strings_LastIndexByte_ok (fu : Nat) (a0 : (List UInt8)) (a1 : Int) {r : Int} (h : f_strings_LastIndexByte fu a0 a1 = some r) : FnOk Tryz.prog 66 [(str a0), (int .u8 a1)] [] [] (fun (i : Unit) => { val := (int .i64 r) }) := by
 unfold f_strings_LastIndexByte at h
 refine fn_enter Tryz.func66 rfl Tryz.ntmps66 rfl (fun w0 Z0 => ?_)
 refine aw_sr ?_
 refine al_as rfl rfl ?_
 refine al_nt ?_
 refine aw_sr ?_
 refine al_mv rfl rfl ?_
 refine al_mv rfl rfl ?_
 obtain ⟨r2, hc1, h⟩ := opt_some h
 refine al_call (vs := [(str a0), (i8 a1)]) (f_bytealg_LastIndexByteString_ok fu a0 a1 hc1) [] [] [] pre_nil rfl (by simp) (by decide) (.inl rfl) rfl Tryz.func93 rfl rfl rfl (fun _ => ?_)
 refine al_as rfl rfl ?_
 refine al_nt ?_
 refine aw_ret ?_
 obtain rfl := Option.some.inj h
 exact fn_ret () [] [] rfl rfl rfl rfl (res1 rfl rfl) rfl rfl rfl (by decide)
def f_walk_Parent (fu : Nat) (a0 : (List UInt8)) : Option (List UInt8) := (opt (f_strings_LastIndexByte fu a0 (47 : Int)) fun (r2 : Int) => (req (0 ≤ r2 ∧ r2 ≤ (a0.length : Int)) (some (a0.take (r2).toNat))))
set_option maxRecDepth 100000 in
theorem f_walk_Parent_ok (fu : Nat) (a0 : (List UInt8)) {r : (List UInt8)} (h : f_walk_Parent fu a0 = some r) : FnOk Tryz.prog 32 [(str a0)] [] [] (fun (i : Unit) => { val := (str r) }) := by
 unfold f_walk_Parent at h
 refine fn_enter Tryz.func32 rfl Tryz.ntmps32 rfl (fun w0 Z0 => ?_)
 refine aw_sr ?_
 refine al_as rfl rfl ?_
 refine al_nt ?_
 refine aw_sr ?_
 refine al_mv rfl rfl ?_
 refine al_mv rfl rfl ?_
 obtain ⟨r2, hc1, h⟩ := opt_some h
 refine al_call (vs := [(str a0), (i8 (47 : Int))]) (f_strings_LastIndexByte_ok fu a0 (47 : Int) hc1) [] [] [] pre_nil rfl (by simp) (by decide) (.inl rfl) rfl Tryz.func66 rfl rfl rfl (fun _ => ?_)
 obtain ⟨hc3, h⟩ := req_some h
 refine al_val (ov_strTo hc3.1 hc3.2 Tryz.underlying9 rfl rfl rfl) ?_
 refine al_as rfl rfl ?_
 refine al_nt ?_
 refine aw_ret ?_
 obtain rfl := Option.some.inj h
 exact fn_ret () [] [] rfl rfl rfl rfl (res1 rfl rfl) rfl rfl rfl (by decide)
def f_walk_Check_L8 (a0 : (List S_api_Item)) (kk5 : (Unit → Option Int)) (fu : Nat) : Nat → (List ((List UInt8) × Bool)) → Int → Option Int
  | 0, _, _ => none
  | k7 + 1, l6xm3, l6i14 => (bif (decide (l6i14 < (a0.length : Int))) then (opt (at? a0 l6i14) fun (u10 : S_api_Item) => (opt (f_walk_item fu u10) fun (r15 : Int) => (bif (r15 != (0 : Int)) then (some r15) else (lt (fun (j17b37 : Bool) => (bif j17b37 then (some (4 : Int)) else (opt (f_walk_Parent fu u10.Path) fun (r21 : (List UInt8)) => (req (r21.length ≤ 9223372036854775807) (bif (!((gget l6xm3 r21).getD false)) then (some (9 : Int)) else (req (u10.Path.length ≤ 9223372036854775807) (f_walk_Check_L8 a0 kk5 fu k7 (gset l6xm3 u10.Path (u10.Kind == (2 : Int))) (IntKind.i64.wrap (l6i14 + (1 : Int)))))))))) fun (kk18 : Bool → Option Int) => (bif (decide (l6i14 > (0 : Int))) then (opt (at? a0 (IntKind.i64.wrap (l6i14 - (1 : Int)))) fun (u26 : S_api_Item) => (opt (f_names_Compare fu u26.Path u10.Path) fun (r31 : Int) => (kk18 (decide (r31 ≥ (0 : Int)))))) else (kk18 false)))))) else (kk5 ()))
def f_walk_Check (fu : Nat) (a0 : (List S_api_Item)) : Option Int := (bif (decide ((a0.length : Int) > (100 : Int))) then (some (2 : Int)) else (req (([] : List UInt8).length ≤ 9223372036854775807) (lt (fun (_ : Unit) => (some (0 : Int))) fun (kk5 : Unit → Option Int) => (f_walk_Check_L8 a0 kk5 fu fu (gset ([] : List ((List UInt8) × Bool)) ([] : List UInt8) true) (0 : Int)))))
set_option maxHeartbeats 2000000 in
set_option maxRecDepth 100000 in
theorem f_walk_Check_ok (fu : Nat) (v0_0 : Value) (a0 : (List S_api_Item)) {r : Int} (h : f_walk_Check fu a0 = some r) : FnOk Tryz.prog 12 [v0_0] [(fDat (tyList tyS_api_Item) [v0_0] a0), uMax, uTabs] [] (fun (i : Unit) => { val := (int .i64 r) }) := by
 unfold f_walk_Check at h
 refine fn_enter Tryz.func12 rfl Tryz.ntmps12 rfl (fun w0 Z0 => ?_)
 refine aw_sr ?_
 refine al_as rfl rfl ?_
 refine al_nt ?_
 refine aw_seq ?_
 refine aw_sr ?_
 refine al_mv rfl rfl ?_
 refine al_val (ov_lenD 0 rfl rfl Tryz.underlying34 rfl) ?_
 refine al_in rfl rfl rfl rfl ?_
 refine al_nt ?_
 refine aw_cond rfl (fun hb1 => ?_) (fun hb1 => ?_)
 ·replace h := bif_t hb1 h
  refine aw_sr ?_
  refine al_as rfl rfl ?_
  refine al_nt ?_
  refine aw_ret ?_
  refine aq_then_ret ?_
  obtain rfl := Option.some.inj h
  exact fn_ret () [] [] rfl rfl rfl rfl (res1 rfl rfl) rfl rfl rfl (by decide)
 ·replace h := bif_f hb1 h
  refine aw_skip ?_
  refine aq_tr ?_
  refine al_makeMapK (ν := Bool) 9 str (fun x : Bool => bool x) rfl (fun g2 => ?_)
  obtain ⟨hc3, h⟩ := req_some h
  refine al_insertK (ek := str) (ew := (fun x : Bool => bool x)) (k := ([] : List UInt8)) (v := true) 0 kd9 str_inj (key_str Tryz.underlying9 hc3) rfl rfl rfl rfl Tryz.underlying79 rfl ?_
  refine al_mv rfl rfl ?_
  refine al_as rfl rfl ?_
  refine al_nt ?_
  obtain ⟨kk5, hkk5, h⟩ := lt_some h
  refine aw_seq_join (ι := Unit) (fun i => (memOf w0 Z0 [] [] [(fDat (tyList tyS_api_Item) [v0_0] a0), uMax, uTabs])) (fun i => (tab [])) (fun i => kk5 () = some r) ?_ ?_
  ·rintro _ h
   have h : kk5 () = some r := h
   rw [hkk5] at h
   dsimp only at h
   clear hkk5
   refine aw_show (m := (memOf w0 Z0 [] [] [(fDat (tyList tyS_api_Item) [v0_0] a0), uMax, uTabs])) (S := (tab [])) ?_
   refine aw_sr ?_
   refine al_as rfl rfl ?_
   refine al_nt ?_
   refine aw_ret ?_
   obtain rfl := Option.some.inj h
   exact fn_ret () [] [] rfl rfl rfl rfl (res1 rfl rfl) rfl rfl rfl (by decide)
  ·clear hkk5
   refine aw_sr ?_
   refine al_mv rfl rfl ?_
   refine al_val (ov_lenD 0 rfl rfl Tryz.underlying34 rfl) ?_
   refine al_mv rfl rfl ?_
   refine al_nt ?_
   refine aw_block ?_
   refine aw_state (aw_loop (ι := (List ((List UInt8) × Bool)) × Int) (fun i => (memOf w0 Z0 [] [(oMapK Tryz.prog 9 g2 str (fun x : Bool => bool x) i.1)] [(fDat (tyList tyS_api_Item) [v0_0] a0), uMax, uTabs])) (fun i => (tab [(0, v0_0), (3, (Value.map (some g2))), (12, v0_0), (13, (iq (a0.length : Int))), (14, (iq i.2))])) (fun q i => f_walk_Check_L8 a0 kk5 fu q i.1 i.2 = some r) ?_ fu ((gset ([] : List ((List UInt8) × Bool)) ([] : List UInt8) true), (0 : Int)) h) (fun w a hm hs => norm hm hs [0] [0, 1, 2] [(0, v0_0), (3, (Value.map (some g2))), (12, v0_0), (13, (iq (a0.length : Int))), (14, (iq (0 : Int)))] (by decide) ⟨rfl, rfl, rfl, rfl, rfl, trivial⟩)
   clear h
   rintro k7 ⟨l6xm3, l6i14⟩ h
   have h : f_walk_Check_L8 a0 kk5 fu k7 l6xm3 l6i14 = some r := h
   obtain _ | k7 := k7
   · rw [f_walk_Check_L8] at h; cases h
   rw [f_walk_Check_L8] at h
   refine aw_show (m := (memOf w0 Z0 [] [(oMapK Tryz.prog 9 g2 str (fun x : Bool => bool x) l6xm3)] [(fDat (tyList tyS_api_Item) [v0_0] a0), uMax, uTabs])) (S := (tab [(0, v0_0), (3, (Value.map (some g2))), (12, v0_0), (13, (iq (a0.length : Int))), (14, (iq l6i14))])) ?_
   refine aw_sr ?_
   refine al_in rfl rfl rfl rfl ?_
   refine al_nt ?_
   refine aw_seq ?_
   refine aw_cond rfl (fun hb9 => ?_) (fun hb9 => ?_)
   ·replace h := bif_t hb9 h
    refine aw_skip ?_
    refine aq_then ?_
    refine aw_seq ?_
    refine aw_block ?_
    refine aw_sr ?_
    refine al_mv rfl rfl ?_
    obtain ⟨u10, hu11, h⟩ := opt_some h
    refine al_idxD 0 hu11 rfl rfl rfl Tryz.underlying34 sz57 rfl (fun p12 => ?_)
    refine al_val (ov_loadP (ds := [(str u10.Path), (iq u10.Kind), (iq u10.Mode), (iq u10.Time), (str u10.Bytes)]) 0 rfl encS_api_Item rfl Tryz.underlying57 sz57 rfl rfl rfl) ?_
    refine al_alloc (zs := [(str ([] : List UInt8)), (iq (0 : Int)), (iq (0 : Int)), (iq (0 : Int)), (str ([] : List UInt8))]) (zeroOf_to to57) rfl rfl (fun g13 => ?_)
    refine al_as rfl rfl ?_
    refine al_store (i := 0) (vs := [(str u10.Path), (iq u10.Kind), (iq u10.Mode), (iq u10.Time), (str u10.Bytes)]) (cs' := [(str u10.Path), (iq u10.Kind), (iq u10.Mode), (iq u10.Time), (str u10.Bytes)]) rfl rfl rfl sz57 (cv_rfl rfl) rfl (co_val rfl (co_val rfl (co_val rfl (co_val rfl (co_val rfl co_nil))))) (Nat.le_of_ble_eq_true rfl) rfl rfl ?_
    refine al_nt ?_
    refine aw_seq ?_
    refine aw_sr ?_
    refine al_val (ov_load (i := 0) (v := (ag [(str u10.Path), (iq u10.Kind), (iq u10.Mode), (iq u10.Time), (str u10.Bytes)])) rfl rfl Tryz.underlying57 sz57 rfl rfl rfl rfl) ?_
    obtain ⟨r15, hc14, h⟩ := opt_some h
    refine al_call (vs := [(ag [(str u10.Path), (iq u10.Kind), (iq u10.Mode), (iq u10.Time), (str u10.Bytes)])]) (f_walk_item_ok fu u10 hc14) [] [] [0, 1] (pre_fz 2 rfl (pre_fz 3 rfl pre_nil)) rfl (by simp) (by decide) (.inl rfl) rfl Tryz.func35 rfl rfl rfl (fun _ => ?_)
    refine al_as rfl rfl ?_
    refine al_nt ?_
    refine aw_sr ?_
    refine al_mv rfl rfl ?_
    refine al_in rfl rfl rfl rfl ?_
    refine al_nt ?_
    refine aw_cond rfl (fun hb16 => ?_) (fun hb16 => ?_)
    ·replace h := bif_t hb16 h
     refine aw_sr ?_
     refine al_mv rfl rfl ?_
     refine al_as rfl rfl ?_
     refine al_nt ?_
     refine aw_ret ?_
     refine aq_then_ret ?_
     refine aq_block_ret ?_
     refine aq_then_ret ?_
     refine aq_then_ret ?_
     refine aq_block_ret ?_
     refine aq_then_ret ?_
     obtain rfl := Option.some.inj h
     exact fn_ret () [] [] rfl rfl rfl rfl (res1 rfl rfl) rfl rfl rfl (by decide)
    ·replace h := bif_f hb16 h
     refine aw_skip ?_
     refine aq_then ?_
     refine aw_seq ?_
     obtain ⟨kk18, hkk18, h⟩ := lt_some h
     refine aw_seq_join (ι := Bool) (fun i => (memOf w0 Z0 [] [(oMapK Tryz.prog 9 g2 str (fun x : Bool => bool x) l6xm3), (oBox g13 57 [(str u10.Path), (iq u10.Kind), (iq u10.Mode), (iq u10.Time), (str u10.Bytes)])] [(fDat (tyList tyS_api_Item) [v0_0] a0), (fPtr tyS_api_Item p12 u10), uMax, uTabs])) (fun i => (tab [(0, v0_0), (3, (Value.map (some g2))), (5, (pq g13)), (12, v0_0), (13, (iq (a0.length : Int))), (14, (iq l6i14)), (37, (bool i))])) (fun i => kk18 i = some r) ?_ ?_
     ·rintro j17b37 h
      have h : kk18 j17b37 = some r := h
      rw [hkk18] at h
      dsimp only at h
      clear hkk18
      refine aw_show (m := (memOf w0 Z0 [] [(oMapK Tryz.prog 9 g2 str (fun x : Bool => bool x) l6xm3), (oBox g13 57 [(str u10.Path), (iq u10.Kind), (iq u10.Mode), (iq u10.Time), (str u10.Bytes)])] [(fDat (tyList tyS_api_Item) [v0_0] a0), (fPtr tyS_api_Item p12 u10), uMax, uTabs])) (S := (tab [(0, v0_0), (3, (Value.map (some g2))), (5, (pq g13)), (12, v0_0), (13, (iq (a0.length : Int))), (14, (iq l6i14)), (37, (bool j17b37))])) ?_
      refine aw_cond rfl (fun hb19 => ?_) (fun hb19 => ?_)
      ·replace h := bif_t hb19 h
       refine aw_sr ?_
       refine al_as rfl rfl ?_
       refine al_nt ?_
       refine aw_ret ?_
       refine aq_then_ret ?_
       refine aq_block_ret ?_
       refine aq_then_ret ?_
       refine aq_then_ret ?_
       refine aq_block_ret ?_
       refine aq_then_ret ?_
       obtain rfl := Option.some.inj h
       exact fn_ret () [] [] rfl rfl rfl rfl (res1 rfl rfl) rfl rfl rfl (by decide)
      ·replace h := bif_f hb19 h
       refine aw_skip ?_
       refine aq_then ?_
       refine aw_seq ?_
       refine aw_sr ?_
       refine al_mv rfl rfl ?_
       refine al_val (ov_fieldA (p := 0) rfl Tryz.underlying57 rfl sz9 rfl rfl rfl) ?_
       refine al_val (ov_load (i := 1) (v := (str u10.Path)) rfl rfl Tryz.underlying9 sz9 rfl rfl rfl rfl) ?_
       obtain ⟨r21, hc20, h⟩ := opt_some h
       refine al_call (vs := [(str u10.Path)]) (f_walk_Parent_ok fu u10.Path hc20) [] [] [0, 1] pre_nil rfl (by simp) (by decide) (.inl rfl) rfl Tryz.func32 rfl rfl rfl (fun _ => ?_)
       obtain ⟨hc22, h⟩ := req_some h
       refine al_val (v := (bool ((gget l6xm3 r21).getD false))) (ov_lookupK (k := r21) (ek := str) (ew := (fun x : Bool => bool x)) (z := false) 0 kd9 str_inj (key_str Tryz.underlying9 hc22) rfl rfl rfl Tryz.underlying79 (zeroOf_to to4) rfl) ?_
       refine al_val (ov_not rfl rfl) ?_
       refine al_nt ?_
       refine aw_cond rfl (fun hb23 => ?_) (fun hb23 => ?_)
       ·replace h := bif_t hb23 h
        refine aw_sr ?_
        refine al_as rfl rfl ?_
        refine al_nt ?_
        refine aw_ret ?_
        refine aq_then_ret ?_
        refine aq_block_ret ?_
        refine aq_then_ret ?_
        refine aq_then_ret ?_
        refine aq_block_ret ?_
        refine aq_then_ret ?_
        obtain rfl := Option.some.inj h
        exact fn_ret () [] [] rfl rfl rfl rfl (res1 rfl rfl) rfl rfl rfl (by decide)
       ·replace h := bif_f hb23 h
        refine aw_skip ?_
        refine aq_then ?_
        refine aw_region ?_
        refine al_mv rfl rfl ?_
        refine al_val (ov_fieldA (p := 0) rfl Tryz.underlying57 rfl sz9 rfl rfl rfl) ?_
        refine al_val (ov_load (i := 1) (v := (str u10.Path)) rfl rfl Tryz.underlying9 sz9 rfl rfl rfl rfl) ?_
        refine al_val (ov_fieldA (p := 1) rfl Tryz.underlying57 rfl sz3 rfl rfl rfl) ?_
        refine al_val (ov_load (i := 1) (v := (iq u10.Kind)) rfl rfl Tryz.underlying3 sz3 rfl rfl rfl rfl) ?_
        refine al_in rfl rfl rfl rfl ?_
        obtain ⟨hc24, h⟩ := req_some h
        refine al_mapSetK (ek := str) (ew := (fun x : Bool => bool x)) (k := u10.Path) (v := (u10.Kind == (2 : Int))) 0 kd9 str_inj (key_str Tryz.underlying9 hc24) rfl rfl rfl rfl Tryz.underlying79 rfl ?_
        refine al_nil ?_
        refine aq_block ?_
        refine aq_then ?_
        refine aw_region ?_
        refine al_in rfl rfl rfl rfl ?_
        refine al_mv rfl rfl ?_
        refine al_nil ?_
        exact aq_again k7 ((gset l6xm3 u10.Path (u10.Kind == (2 : Int))), (wq (l6i14 + (1 : Int)))) (Nat.lt_succ_self _) h (fun w a hm hs => norm hm hs [0] [0, 2, 3] [(0, v0_0), (3, (Value.map (some g2))), (12, v0_0), (13, (iq (a0.length : Int))), (14, (iq (wq (l6i14 + (1 : Int)))))] (by decide) ⟨rfl, rfl, rfl, rfl, rfl, trivial⟩)
     ·clear hkk18
      rcases Bool.eq_false_or_eq_true (decide (l6i14 > (0 : Int))) with hb25 | hb25
      ·replace h := bif_t hb25 h
       obtain ⟨u26, hu27, h⟩ := opt_some h
       obtain ⟨r31, hc30, h⟩ := opt_some h
       refine aw_region_draw 13 [(24, (fun u => fEq u (iq l6i14))), (25, (fun u => fEq u (bool true))), (26, (fun u => fEq u (bool true))), (27, (fun u => fEq u v0_0)), (28, (fun u => fEq u (iq l6i14))), (29, (fun u => fEq u (iq (wq (l6i14 - (1 : Int)))))), (30, (fun p28 => (fPtr tyS_api_Item p28 u26))), (31, (fun p29 => (fPtr tyStr p29 u26.Path))), (32, (fun u => fEq u (str u26.Path))), (33, (fun u => fEq u (pq g13))), (34, (fun u => fEq u (str u10.Path))), (35, (fun u => fEq u (iq r31))), (36, (fun u => fEq u (bool (decide (r31 ≥ (0 : Int))))))] (tab [(0, v0_0), (3, (Value.map (some g2))), (4, (iq l6i14)), (5, (pq g13)), (12, v0_0), (13, (iq (a0.length : Int))), (14, (iq l6i14))]) mixed (by kernel_rfl) rfl rfl rfl (fun a hs => hs.tab _ (allT_mem ⟨rfl, rfl, rfl, rfl, rfl, rfl, rfl, trivial⟩)) ⟨⟨rfl, ld_val (ov_move rfl rfl)⟩, ⟨rfl, ld_eq (j := 0) rfl rfl (ld_val (ov_cast (by first | rw [hb25] | rfl) (ov_int rfl rfl rfl rfl)))⟩, ⟨rfl, ld_eq (j := 1) rfl rfl (ld_val (ov_cast (by first | rw [hb25] | rfl) (ov_move rfl rfl)))⟩, ⟨rfl, ld_eq (j := 2) rfl rfl (ld_val (ov_move rfl rfl))⟩, ⟨rfl, ld_eq (j := 2) rfl rfl (ld_val (ov_move rfl rfl))⟩, ⟨rfl, ld_eq (j := 2) rfl rfl (ld_eq (j := 4) rfl rfl (ld_val (ov_int rfl rfl rfl rfl)))⟩, ⟨rfl, ld_eq (j := 2) rfl rfl (ld_eq (j := 3) rfl rfl (ld_eq (j := 5) rfl rfl (ld_of (of_idxD 1 hu27 rfl rfl rfl Tryz.underlying34 sz57 rfl))))⟩, ⟨rfl, ld_eq (j := 2) rfl rfl (ld_fact (j := 6) rfl rfl (fun p28 => ld_of (of_fieldD (pr := fun (y : S_api_Item) => y.Path) 0 rfl subS_api_Item_0 rfl Tryz.underlying57 rfl sz9 rfl rfl)))⟩, ⟨rfl, ld_eq (j := 2) rfl rfl (ld_fact (j := 7) rfl rfl (fun p29 => ld_val (ov_loadP (ds := [(str u26.Path)]) 0 rfl (fun h => h) rfl Tryz.underlying9 sz9 rfl rfl rfl)))⟩, ⟨rfl, ld_eq (j := 2) rfl rfl (ld_val (ov_fieldA (p := 0) rfl Tryz.underlying57 rfl sz9 rfl rfl rfl))⟩, ⟨rfl, ld_eq (j := 2) rfl rfl (ld_eq (j := 9) rfl rfl (ld_val (ov_load (i := 0) (v := (str u10.Path)) rfl rfl Tryz.underlying9 sz9 rfl rfl rfl rfl)))⟩, ⟨rfl, ld_eq (j := 2) rfl rfl (ld_eq (j := 8) rfl rfl (ld_eq (j := 10) rfl rfl (ld_callV (vs := [(str u26.Path), (str u10.Path)]) (f_names_Compare_ok fu u26.Path u10.Path hc30) [] (pre_fz 2 rfl (pre_fz 3 rfl pre_nil)) rfl Tryz.func36 rfl rfl rfl)))⟩, ⟨rfl, ld_eq (j := 2) rfl rfl (ld_eq (j := 11) rfl rfl (ld_val (ov_int rfl rfl rfl rfl)))⟩, trivial⟩ ?_
       refine tl_eq 2 rfl ?_
       refine tl_eq 12 rfl ?_
       refine tl_done ?_
       refine al_val (ov_pick_t rfl rfl rfl) ?_
       refine al_nil ?_
       exact aq_join (decide (r31 ≥ (0 : Int))) h (fun w a hm hs => norm hm hs [1, 0] [1, 0, 2, 3] [(0, v0_0), (3, (Value.map (some g2))), (5, (pq g13)), (12, v0_0), (13, (iq (a0.length : Int))), (14, (iq l6i14)), (37, (bool (decide (r31 ≥ (0 : Int)))))] (by decide) ⟨rfl, rfl, rfl, rfl, rfl, rfl, rfl, trivial⟩)
      ·replace h := bif_f hb25 h
       refine aw_region_draw 13 [(24, (fun u => fEq u (iq l6i14))), (25, (fun u => fEq u (bool false))), (26, (fun u => fEq u (bool false))), (27, (fun u => fEq u undef)), (28, (fun u => fEq u undef)), (29, (fun u => fEq u undef)), (30, (fun u => fEq u undef)), (31, (fun u => fEq u undef)), (32, (fun u => fEq u undef)), (33, (fun u => fEq u undef)), (34, (fun u => fEq u undef)), (35, (fun u => fEq u undef)), (36, (fun u => fEq u undef))] (tab [(0, v0_0), (3, (Value.map (some g2))), (4, (iq l6i14)), (5, (pq g13)), (12, v0_0), (13, (iq (a0.length : Int))), (14, (iq l6i14))]) mixed (by kernel_rfl) rfl rfl rfl (fun a hs => hs.tab _ (allT_mem ⟨rfl, rfl, rfl, rfl, rfl, rfl, rfl, trivial⟩)) ⟨⟨rfl, ld_val (ov_move rfl rfl)⟩, ⟨rfl, ld_eq (j := 0) rfl rfl (ld_val (ov_cast (by first | rw [hb25] | rfl) (ov_int rfl rfl rfl rfl)))⟩, ⟨rfl, ld_eq (j := 1) rfl rfl (ld_val (ov_cast (by first | rw [hb25] | rfl) (ov_move rfl rfl)))⟩, ⟨rfl, ld_eq (j := 2) rfl rfl (ld_skip)⟩, ⟨rfl, ld_eq (j := 2) rfl rfl (ld_skip)⟩, ⟨rfl, ld_eq (j := 2) rfl rfl (ld_skip)⟩, ⟨rfl, ld_eq (j := 2) rfl rfl (ld_skip)⟩, ⟨rfl, ld_eq (j := 2) rfl rfl (ld_skip)⟩, ⟨rfl, ld_eq (j := 2) rfl rfl (ld_skip)⟩, ⟨rfl, ld_eq (j := 2) rfl rfl (ld_skip)⟩, ⟨rfl, ld_eq (j := 2) rfl rfl (ld_skip)⟩, ⟨rfl, ld_eq (j := 2) rfl rfl (ld_skip)⟩, ⟨rfl, ld_eq (j := 2) rfl rfl (ld_skip)⟩, trivial⟩ ?_
       refine tl_eq 2 rfl ?_
       refine tl_eq 12 rfl ?_
       refine tl_done ?_
       refine al_val (ov_pick_f rfl rfl rfl) ?_
       refine al_nil ?_
       exact aq_join false h (fun w a hm hs => norm hm hs [1, 0] [1, 0, 2, 3] [(0, v0_0), (3, (Value.map (some g2))), (5, (pq g13)), (12, v0_0), (13, (iq (a0.length : Int))), (14, (iq l6i14)), (37, (bool false))] (by decide) ⟨rfl, rfl, rfl, rfl, rfl, rfl, rfl, trivial⟩)
   ·replace h := bif_f hb9 h
    refine aw_exit ?_
    refine aq_then_exit ?_
    refine aq_then_exit ?_
    refine aq_block_exit ?_
    exact aq_join () h (fun w a hm hs => norm hm hs [] [0, 1, 2] [] (by decide) trivial)
def f_move_check_L7 (a0 : (List S_api_Old)) (kk4 : (Unit → Option Int)) (fu : Nat) : Nat → (List ((List UInt8) × Bool)) → Int → Option Int
  | 0, _, _ => none
  | k6 + 1, l5xm3, l5i14 => (bif (decide (l5i14 < (a0.length : Int))) then (opt (at? a0 l5i14) fun (u9 : S_api_Old) => (opt (f_names_Check fu u9.Name) fun (r16 : Int) => (bif (r16 != (0 : Int)) then (some r16) else (lt (fun (j18b31 : Bool) => (bif j18b31 then (some (1 : Int)) else (opt (f_walk_Check fu u9.World) fun (r22 : Int) => (bif (r22 != (0 : Int)) then (some r22) else (req (u9.Name.length ≤ 9223372036854775807) (bif ((gget l5xm3 u9.Name).getD false) then (some (10 : Int)) else (req (u9.Name.length ≤ 9223372036854775807) (f_move_check_L7 a0 kk4 fu k6 (gset l5xm3 u9.Name true) (IntKind.i64.wrap (l5i14 + (1 : Int))))))))))) fun (kk19 : Bool → Option Int) => (bif (decide (u9.Time < (0 : Int))) then (kk19 true) else (kk19 (decide (u9.Time > (4223371679 : Int))))))))) else (kk4 ()))
def f_move_check (fu : Nat) (a0 : (List S_api_Old)) : Option Int := (bif (decide ((a0.length : Int) > (20 : Int))) then (some (2 : Int)) else (lt (fun (_ : Unit) => (some (0 : Int))) fun (kk4 : Unit → Option Int) => (f_move_check_L7 a0 kk4 fu fu ([] : List ((List UInt8) × Bool)) (0 : Int))))
set_option maxRecDepth 100000 in
set_option maxHeartbeats 2000000 in
set_option maxHeartbeats 2000000 in
theorem f_move_check_ok (fu : Nat) (v0_0 : Value) (a0 : (List S_api_Old)) {r : Int} (h : f_move_check fu a0 = some r) : FnOk Tryz.prog 17 [v0_0] [(fDat (tyList tyS_api_Old) [v0_0] a0), uMax, uTabs] [] (fun (i : Unit) => { val := (int .i64 r) }) := by
 unfold f_move_check at h
 refine fn_enter Tryz.func17 rfl Tryz.ntmps17 rfl (fun w0 Z0 => ?_)
 refine aw_sr ?_
 refine al_as rfl rfl ?_
 refine al_nt ?_
 refine aw_seq ?_
 refine aw_sr ?_
 refine al_mv rfl rfl ?_
 refine al_val (ov_lenD 0 rfl rfl Tryz.underlying22 rfl) ?_
 refine al_in rfl rfl rfl rfl ?_
 refine al_nt ?_
 refine aw_cond rfl (fun hb1 => ?_) (fun hb1 => ?_)
 ·replace h := bif_t hb1 h
  refine aw_sr ?_
  refine al_as rfl rfl ?_
  refine al_nt ?_
  refine aw_ret ?_
  refine aq_then_ret ?_
  obtain rfl := Option.some.inj h
  exact fn_ret () [] [] rfl rfl rfl rfl (res1 rfl rfl) rfl rfl rfl (by decide)
 ·replace h := bif_f hb1 h
  refine aw_skip ?_
  refine aq_tr ?_
  refine al_makeMapK (ν := Bool) 9 str (fun x : Bool => bool x) rfl (fun g2 => ?_)
  refine al_as rfl rfl ?_
  refine al_nt ?_
  obtain ⟨kk4, hkk4, h⟩ := lt_some h
  refine aw_seq_join (ι := Unit) (fun i => (memOf w0 Z0 [] [] [(fDat (tyList tyS_api_Old) [v0_0] a0), uMax, uTabs])) (fun i => (tab [])) (fun i => kk4 () = some r) ?_ ?_
  ·rintro _ h
   have h : kk4 () = some r := h
   rw [hkk4] at h
   dsimp only at h
   clear hkk4
   refine aw_show (m := (memOf w0 Z0 [] [] [(fDat (tyList tyS_api_Old) [v0_0] a0), uMax, uTabs])) (S := (tab [])) ?_
   refine aw_sr ?_
   refine al_as rfl rfl ?_
   refine al_nt ?_
   refine aw_ret ?_
   obtain rfl := Option.some.inj h
   exact fn_ret () [] [] rfl rfl rfl rfl (res1 rfl rfl) rfl rfl rfl (by decide)
  ·clear hkk4
   refine aw_sr ?_
   refine al_mv rfl rfl ?_
   refine al_val (ov_lenD 0 rfl rfl Tryz.underlying22 rfl) ?_
   refine al_mv rfl rfl ?_
   refine al_nt ?_
   refine aw_block ?_
   refine aw_state (aw_loop (ι := (List ((List UInt8) × Bool)) × Int) (fun i => (memOf w0 Z0 [] [(oMapK Tryz.prog 9 g2 str (fun x : Bool => bool x) i.1)] [(fDat (tyList tyS_api_Old) [v0_0] a0), uMax, uTabs])) (fun i => (tab [(3, (Value.map (some g2))), (12, v0_0), (13, (iq (a0.length : Int))), (14, (iq i.2))])) (fun q i => f_move_check_L7 a0 kk4 fu q i.1 i.2 = some r) ?_ fu (([] : List ((List UInt8) × Bool)), (0 : Int)) h) (fun w a hm hs => norm hm hs [0] [0, 1, 2] [(3, (Value.map (some g2))), (12, v0_0), (13, (iq (a0.length : Int))), (14, (iq (0 : Int)))] (by decide) ⟨rfl, rfl, rfl, rfl, trivial⟩)
   clear h
   rintro k6 ⟨l5xm3, l5i14⟩ h
   have h : f_move_check_L7 a0 kk4 fu k6 l5xm3 l5i14 = some r := h
   obtain _ | k6 := k6
   · rw [f_move_check_L7] at h; cases h
   rw [f_move_check_L7] at h
   refine aw_show (m := (memOf w0 Z0 [] [(oMapK Tryz.prog 9 g2 str (fun x : Bool => bool x) l5xm3)] [(fDat (tyList tyS_api_Old) [v0_0] a0), uMax, uTabs])) (S := (tab [(3, (Value.map (some g2))), (12, v0_0), (13, (iq (a0.length : Int))), (14, (iq l5i14))])) ?_
   refine aw_sr ?_
   refine al_in rfl rfl rfl rfl ?_
   refine al_nt ?_
   refine aw_seq ?_
   refine aw_cond rfl (fun hb8 => ?_) (fun hb8 => ?_)
   ·replace h := bif_t hb8 h
    refine aw_skip ?_
    refine aq_then ?_
    refine aw_seq ?_
    refine aw_block ?_
    refine aw_sr ?_
    obtain ⟨u9, hu10, h⟩ := opt_some h
    refine al_idxD 0 hu10 rfl rfl rfl Tryz.underlying22 sz49 rfl (fun p11 => ?_)
    refine al_loadPA 0 rfl rfl Tryz.underlying49 sz49 rfl rfl (fun cs13 => ?_)
    refine al_use (ι := Value) 0 rfl (fun j => cs13 = [(str u9.Name), (iq u9.Time), j]) (fun j => [(fDat (tyList tyS_api_Item) [j] u9.World)]) encnS_api_Old (fun s12 hq => ?_)
    subst hq
    refine al_alloc (zs := [(str ([] : List UInt8)), (iq (0 : Int)), nS]) (zeroOf_to to49) rfl rfl (fun g14 => ?_)
    refine al_store (i := 0) (vs := [(str u9.Name), (iq u9.Time), s12]) (cs' := [(str u9.Name), (iq u9.Time), s12]) rfl rfl rfl sz49 (cv_rfl rfl) rfl (co_val rfl (co_val rfl (co_fz 0 rfl co_nil))) (Nat.le_of_ble_eq_true rfl) rfl rfl ?_
    refine al_nt ?_
    refine aw_seq ?_
    refine aw_sr ?_
    refine al_val (ov_fieldA (p := 0) rfl Tryz.underlying49 rfl sz9 rfl rfl rfl) ?_
    refine al_val (ov_load (i := 0) (v := (str u9.Name)) rfl rfl Tryz.underlying9 sz9 rfl rfl rfl rfl) ?_
    obtain ⟨r16, hc15, h⟩ := opt_some h
    refine al_call (vs := [(str u9.Name)]) (f_names_Check_ok fu u9.Name hc15) [] [] [0, 1] (pre_fz 5 rfl pre_nil) rfl (by simp) (by decide) (.inl rfl) rfl Tryz.func43 rfl rfl rfl (fun _ => ?_)
    refine al_as rfl rfl ?_
    refine al_nt ?_
    refine aw_sr ?_
    refine al_mv rfl rfl ?_
    refine al_in rfl rfl rfl rfl ?_
    refine al_nt ?_
    refine aw_cond rfl (fun hb17 => ?_) (fun hb17 => ?_)
    ·replace h := bif_t hb17 h
     refine aw_sr ?_
     refine al_mv rfl rfl ?_
     refine al_as rfl rfl ?_
     refine al_nt ?_
     refine aw_ret ?_
     refine aq_then_ret ?_
     refine aq_block_ret ?_
     refine aq_then_ret ?_
     refine aq_then_ret ?_
     refine aq_block_ret ?_
     refine aq_then_ret ?_
     obtain rfl := Option.some.inj h
     exact fn_ret () [] [] rfl rfl rfl rfl (res1 rfl rfl) rfl rfl rfl (by decide)
    ·replace h := bif_f hb17 h
     refine aw_skip ?_
     refine aq_then ?_
     refine aw_seq ?_
     obtain ⟨kk19, hkk19, h⟩ := lt_some h
     refine aw_seq_join (ι := Bool) (fun i => (memOf w0 Z0 [] [(oMapK Tryz.prog 9 g2 str (fun x : Bool => bool x) l5xm3), (oBox g14 49 [(str u9.Name), (iq u9.Time), s12])] [(fDat (tyList tyS_api_Item) [s12] u9.World), (fDat (tyList tyS_api_Old) [v0_0] a0), (fDat tyS_api_Old [(str u9.Name), (iq u9.Time), s12] u9), (fPtr tyS_api_Old p11 u9), uMax, uTabs])) (fun i => (tab [(3, (Value.map (some g2))), (5, (pq g14)), (12, v0_0), (13, (iq (a0.length : Int))), (14, (iq l5i14)), (31, (bool i))])) (fun i => kk19 i = some r) ?_ ?_
     ·rintro j18b31 h
      have h : kk19 j18b31 = some r := h
      rw [hkk19] at h
      dsimp only at h
      clear hkk19
      refine aw_show (m := (memOf w0 Z0 [] [(oMapK Tryz.prog 9 g2 str (fun x : Bool => bool x) l5xm3), (oBox g14 49 [(str u9.Name), (iq u9.Time), s12])] [(fDat (tyList tyS_api_Item) [s12] u9.World), (fDat (tyList tyS_api_Old) [v0_0] a0), (fDat tyS_api_Old [(str u9.Name), (iq u9.Time), s12] u9), (fPtr tyS_api_Old p11 u9), uMax, uTabs])) (S := (tab [(3, (Value.map (some g2))), (5, (pq g14)), (12, v0_0), (13, (iq (a0.length : Int))), (14, (iq l5i14)), (31, (bool j18b31))])) ?_
      refine aw_cond rfl (fun hb20 => ?_) (fun hb20 => ?_)
      ·replace h := bif_t hb20 h
       refine aw_sr ?_
       refine al_as rfl rfl ?_
       refine al_nt ?_
       refine aw_ret ?_
       refine aq_then_ret ?_
       refine aq_block_ret ?_
       refine aq_then_ret ?_
       refine aq_then_ret ?_
       refine aq_block_ret ?_
       refine aq_then_ret ?_
       obtain rfl := Option.some.inj h
       exact fn_ret () [] [] rfl rfl rfl rfl (res1 rfl rfl) rfl rfl rfl (by decide)
      ·replace h := bif_f hb20 h
       refine aw_skip ?_
       refine aq_then ?_
       refine aw_seq ?_
       refine aw_sr ?_
       refine al_val (ov_fieldA (p := 2) rfl Tryz.underlying49 rfl sz34 rfl rfl rfl) ?_
       refine al_val (ov_load (i := 1) (v := s12) rfl rfl Tryz.underlying34 sz34 rfl rfl rfl rfl) ?_
       obtain ⟨r22, hc21, h⟩ := opt_some h
       refine al_call (vs := [s12]) (f_walk_Check_ok fu s12 u9.World hc21) [] [] [0, 1] (pre_fz 0 rfl (pre_fz 4 rfl (pre_fz 5 rfl pre_nil))) rfl (by simp) (by decide) (.inl rfl) rfl Tryz.func12 rfl rfl rfl (fun _ => ?_)
       refine al_as rfl rfl ?_
       refine al_nt ?_
       refine aw_sr ?_
       refine al_mv rfl rfl ?_
       refine al_in rfl rfl rfl rfl ?_
       refine al_nt ?_
       refine aw_cond rfl (fun hb23 => ?_) (fun hb23 => ?_)
       ·replace h := bif_t hb23 h
        refine aw_sr ?_
        refine al_mv rfl rfl ?_
        refine al_as rfl rfl ?_
        refine al_nt ?_
        refine aw_ret ?_
        refine aq_then_ret ?_
        refine aq_block_ret ?_
        refine aq_then_ret ?_
        refine aq_then_ret ?_
        refine aq_block_ret ?_
        refine aq_then_ret ?_
        obtain rfl := Option.some.inj h
        exact fn_ret () [] [] rfl rfl rfl rfl (res1 rfl rfl) rfl rfl rfl (by decide)
       ·replace h := bif_f hb23 h
        refine aw_skip ?_
        refine aq_then ?_
        refine aw_seq ?_
        refine aw_sr ?_
        refine al_mv rfl rfl ?_
        refine al_val (ov_fieldA (p := 0) rfl Tryz.underlying49 rfl sz9 rfl rfl rfl) ?_
        refine al_val (ov_load (i := 1) (v := (str u9.Name)) rfl rfl Tryz.underlying9 sz9 rfl rfl rfl rfl) ?_
        obtain ⟨hc24, h⟩ := req_some h
        refine al_val (v := (bool ((gget l5xm3 u9.Name).getD false))) (ov_lookupK (k := u9.Name) (ek := str) (ew := (fun x : Bool => bool x)) (z := false) 0 kd9 str_inj (key_str Tryz.underlying9 hc24) rfl rfl rfl Tryz.underlying79 (zeroOf_to to4) rfl) ?_
        refine al_nt ?_
        refine aw_cond rfl (fun hb25 => ?_) (fun hb25 => ?_)
        ·replace h := bif_t hb25 h
         refine aw_sr ?_
         refine al_as rfl rfl ?_
         refine al_nt ?_
         refine aw_ret ?_
         refine aq_then_ret ?_
         refine aq_block_ret ?_
         refine aq_then_ret ?_
         refine aq_then_ret ?_
         refine aq_block_ret ?_
         refine aq_then_ret ?_
         obtain rfl := Option.some.inj h
         exact fn_ret () [] [] rfl rfl rfl rfl (res1 rfl rfl) rfl rfl rfl (by decide)
        ·replace h := bif_f hb25 h
         refine aw_skip ?_
         refine aq_then ?_
         refine aw_region ?_
         refine al_mv rfl rfl ?_
         refine al_val (ov_fieldA (p := 0) rfl Tryz.underlying49 rfl sz9 rfl rfl rfl) ?_
         refine al_val (ov_load (i := 1) (v := (str u9.Name)) rfl rfl Tryz.underlying9 sz9 rfl rfl rfl rfl) ?_
         obtain ⟨hc26, h⟩ := req_some h
         refine al_mapSetK (ek := str) (ew := (fun x : Bool => bool x)) (k := u9.Name) (v := true) 0 kd9 str_inj (key_str Tryz.underlying9 hc26) rfl rfl rfl rfl Tryz.underlying79 rfl ?_
         refine al_nil ?_
         refine aq_block ?_
         refine aq_then ?_
         refine aw_region ?_
         refine al_in rfl rfl rfl rfl ?_
         refine al_mv rfl rfl ?_
         refine al_nil ?_
         exact aq_again k6 ((gset l5xm3 u9.Name true), (wq (l5i14 + (1 : Int)))) (Nat.lt_succ_self _) h (fun w a hm hs => norm hm hs [0] [1, 4, 5] [(3, (Value.map (some g2))), (12, v0_0), (13, (iq (a0.length : Int))), (14, (iq (wq (l5i14 + (1 : Int)))))] (by decide) ⟨rfl, rfl, rfl, rfl, trivial⟩)
     ·clear hkk19
      refine aw_region ?_
      refine al_val (ov_fieldA (p := 1) rfl Tryz.underlying49 rfl sz3 rfl rfl rfl) ?_
      refine al_val (ov_load (i := 0) (v := (iq u9.Time)) rfl rfl Tryz.underlying3 sz3 rfl rfl rfl rfl) ?_
      refine al_in rfl rfl rfl rfl ?_
      refine al_mv rfl rfl ?_
      refine al_caseB 27 rfl (fun hb27 => ?_) (fun hb27 => ?_)
      ·replace h := bif_t hb27 h
       refine al_skip ?_
       refine al_skip ?_
       refine al_skip ?_
       refine al_val (ov_pick_t rfl rfl rfl) ?_
       refine al_nil ?_
       exact aq_join true h (fun w a hm hs => norm hm hs [1, 0] [0, 3, 1, 2, 4, 5] [(3, (Value.map (some g2))), (5, (pq g14)), (12, v0_0), (13, (iq (a0.length : Int))), (14, (iq l5i14)), (31, (bool true))] (by decide) ⟨rfl, rfl, rfl, rfl, rfl, rfl, trivial⟩)
      ·replace h := bif_f hb27 h
       refine al_val (ov_fieldA (p := 1) rfl Tryz.underlying49 rfl sz3 rfl rfl rfl) ?_
       refine al_val (ov_load (i := 0) (v := (iq u9.Time)) rfl rfl Tryz.underlying3 sz3 rfl rfl rfl rfl) ?_
       refine al_in rfl rfl rfl rfl ?_
       refine al_val (ov_pick_f rfl rfl rfl) ?_
       refine al_nil ?_
       exact aq_join (decide (u9.Time > (4223371679 : Int))) h (fun w a hm hs => norm hm hs [1, 0] [0, 3, 1, 2, 4, 5] [(3, (Value.map (some g2))), (5, (pq g14)), (12, v0_0), (13, (iq (a0.length : Int))), (14, (iq l5i14)), (31, (bool (decide (u9.Time > (4223371679 : Int)))))] (by decide) ⟨rfl, rfl, rfl, rfl, rfl, rfl, trivial⟩)
   ·replace h := bif_f hb8 h
    refine aw_exit ?_
    refine aq_then_exit ?_
    refine aq_then_exit ?_
    refine aq_block_exit ?_
    exact aq_join () h (fun w a hm hs => norm hm hs [] [0, 1, 2] [] (by decide) trivial)
-- STUCK (encoding/binary.bigEndian).AppendUint64: binary.go:222: call: append to data
def f_strings_TrimLeft (fu : Nat) (a0 a1 : List UInt8) : Option (List UInt8) := match a1 with | [c] => req (c.toNat < 128) (some (Lib.trimLeftB a0 c)) | _ => none
theorem f_strings_TrimLeft_ok (fu : Nat) (a0 a1 : List UInt8) {r : List UInt8} (h : f_strings_TrimLeft fu a0 a1 = some r) : FnOk Tryz.prog 111 [(str a0), (str a1)] [] [] (fun (i : Unit) => { val := (str r) }) := by
  unfold f_strings_TrimLeft at h
  split at h
  · rename_i c
    obtain ⟨hc, h⟩ := req_some h
    obtain rfl := Option.some.inj h
    refine fnok_pure fun w => ?_
    exact (Tryz.strings_TrimLeft_one ⟨a0.toArray⟩ c hc w).mono fun e w' h9 => ⟨by simpa [str] using h9.1, by rw [h9.2]; exact Below.refl _ _⟩
  · cases h
def f_binary_BEAppendUint64_nil (fu : Nat) (a0 : Unit) (a2 : Int) : Option (List UInt8) := req (0 ≤ a2 ∧ a2 < 18446744073709551616) (some (Lib.beBytes 8 a2.toNat))
theorem f_binary_BEAppendUint64_nil_ok (fu : Nat) (a0 : Unit) (a2 : Int) {r : List UInt8} (h : f_binary_BEAppendUint64_nil fu a0 a2 = some r) : FnOk Tryz.prog 110 [(ag []), (Value.slice none 0 0), (int .u64 a2)] [] [] (fun (i : Value) => { val := i, own := [(oRow i 5 tyU8 r)] }) := by
  unfold f_binary_BEAppendUint64_nil at h
  obtain ⟨hc, h⟩ := req_some h
  obtain rfl := Option.some.inj h
  obtain ⟨n, rfl⟩ : ∃ n : Nat, a2 = n := ⟨a2.toNat, by omega⟩
  refine fnok_own fun w => ?_
  refine (Tryz.binary_BE_AppendUint64 w.heap.size 0 n (by omega) (.slice none 0 0) [] w ⟨rfl, .inl ⟨rfl, rfl⟩⟩ (Nat.le_refl _) (by omega)).mono fun ex w' h9 => ?_
  obtain ⟨v, h1, h2, h3⟩ := h9
  refine ⟨v, _, h1, ?_, fun Z => u8_row _, h3⟩
  rw [Lib.beBytes_length]
  show World.ownsRow _ _ _ 1 _ _ _
  simpa using h2
def f_num_digits (fu : Nat) (a0 : Int) : Option (List UInt8) := (opt (f_binary_BEAppendUint64_nil fu () a0) fun (r2 : (List UInt8)) => (opt (f_strings_TrimLeft fu r2 ([0] : List UInt8)) fun (r5 : (List UInt8)) => (some r5)))
set_option maxRecDepth 100000 in
theorem f_num_digits_ok (fu : Nat) (a0 : Int) {r : (List UInt8)} (h : f_num_digits fu a0 = some r) : FnOk Tryz.prog 81 [(int .u64 a0)] [] [] (fun (i : Unit) => { val := (str r) }) := by
 unfold f_num_digits at h
 refine fn_enter Tryz.func81 rfl Tryz.ntmps81 rfl (fun w0 Z0 => ?_)
 refine aw_sr ?_
 refine al_as rfl rfl ?_
 refine al_nt ?_
 refine aw_sr ?_
 refine al_val (ov_load0 Tryz.underlying122 sz122 rfl rfl rfl) ?_
 refine al_mv rfl rfl ?_
 obtain ⟨r2, hc1, h⟩ := opt_some h
 refine al_call (vs := [(ag []), nS, (uq a0)]) (f_binary_BEAppendUint64_nil_ok fu () a0 hc1) [] [] [] pre_nil rfl (by simp) (by decide) (.inl rfl) rfl Tryz.func110 rfl rfl rfl (fun v3 => ?_)
 refine al_val (ov_toStrR 0 rfl rfl Tryz.underlying58 Tryz.underlying5 Tryz.underlying9 rfl) ?_
 refine al_as rfl rfl ?_
 refine al_nt ?_
 refine aw_sr ?_
 refine al_mv rfl rfl ?_
 obtain ⟨r5, hc4, h⟩ := opt_some h
 refine al_call (vs := [(str r2), (str ([0] : List UInt8))]) (f_strings_TrimLeft_ok fu r2 ([0] : List UInt8) hc4) [] [] [0] pre_nil rfl (by simp) (by decide) (.inl rfl) rfl Tryz.func111 rfl rfl rfl (fun _ => ?_)
 refine al_as rfl rfl ?_
 refine al_nt ?_
 refine aw_ret ?_
 obtain rfl := Option.some.inj h
 exact fn_ret () [] [] rfl rfl rfl rfl (res1 rfl rfl) rfl rfl rfl (by decide)
def f_num_Put (fu : Nat) (a0 : Int) : Option (List UInt8) := (opt (f_num_digits fu a0) fun (r2 : (List UInt8)) => (req (0 ≤ (IntKind.u8.wrap (r2.length : Int)) ∧ (IntKind.u8.wrap (r2.length : Int)) ≤ 255) (req (([(UInt8.ofNat ((IntKind.u8.wrap (r2.length : Int))).toNat)]).length + r2.length ≤ 9223372036854775807) (some (([(UInt8.ofNat ((IntKind.u8.wrap (r2.length : Int))).toNat)]) ++ r2)))))
set_option maxHeartbeats 2000000 in
set_option maxRecDepth 100000 in
theorem f_num_Put_ok (fu : Nat) (a0 : Int) {r : (List UInt8)} (h : f_num_Put fu a0 = some r) : FnOk Tryz.prog 45 [(int .u64 a0)] [] [] (fun (i : Unit) => { val := (str r) }) := by
 unfold f_num_Put at h
 refine fn_enter Tryz.func45 rfl Tryz.ntmps45 rfl (fun w0 Z0 => ?_)
 refine aw_sr ?_
 refine al_as rfl rfl ?_
 refine al_nt ?_
 refine aw_sr ?_
 refine al_mv rfl rfl ?_
 obtain ⟨r2, hc1, h⟩ := opt_some h
 refine al_call (vs := [(uq a0)]) (f_num_digits_ok fu a0 hc1) [] [] [] pre_nil rfl (by simp) (by decide) (.inl rfl) rfl Tryz.func81 rfl rfl rfl (fun _ => ?_)
 refine al_as rfl rfl ?_
 refine al_nt ?_
 refine aw_sr ?_
 refine al_mv rfl rfl ?_
 refine al_val (ov_strLen Tryz.underlying9 rfl rfl) ?_
 refine al_val (ov_convInt (by rw [Tryz.underlying3]; rfl) Tryz.underlying5 rfl rfl) ?_
 obtain ⟨hc4, h⟩ := req_some h
 refine al_buildSlice (τ := tyU8) (e := 5) (k := 1) (sz := 0) (by_ := 0) (z := undef) (cs := [(i8 (w8 (r2.length : Int)))]) (xs := [(UInt8.ofNat ((w8 (r2.length : Int))).toNat)]) rfl (by decide) (fun w a hm hs => ⟨([(i8 (w8 (r2.length : Int)))]).toArray, rfl, by simp only [List.map_toArray, List.map_cons, List.map_nil, hs.ev (x := .tmp 8) rfl]; exact run_bs [(i8 (w8 (r2.length : Int)))] [(i8 (w8 (r2.length : Int)))] Tryz.underlying58 to5 rfl rfl (bs_cons (l := [(i8 (w8 (r2.length : Int)))]) (cs := []) (cv_rfl rfl) rfl bs_nil) hm⟩) (fun hm => ⟨_, _, rfl, (fun _ => u8_rep hc4) hm, rfl⟩) rfl (fun v3 => ?_)
 refine al_val (ov_toStrR 0 rfl rfl Tryz.underlying58 Tryz.underlying5 Tryz.underlying9 rfl) ?_
 refine al_mv rfl rfl ?_
 obtain ⟨hc5, h⟩ := req_some h
 refine al_val (ov_strAdd hc5 rfl rfl rfl) ?_
 refine al_as rfl rfl ?_
 refine al_nt ?_
 refine aw_ret ?_
 obtain rfl := Option.some.inj h
 exact fn_ret () [] [] rfl rfl rfl rfl (res1 rfl rfl) rfl rfl rfl (by decide)
def f_move_record_1 (fu : Nat) (a0 : Int) : Option (List UInt8) := (opt (f_num_Put fu (IntKind.u64.wrap a0)) fun (r2 : (List UInt8)) => (some r2))
set_option maxRecDepth 100000 in
theorem f_move_record_1_ok (fu : Nat) (a0 : Int) {r : (List UInt8)} (h : f_move_record_1 fu a0 = some r) : FnOk Tryz.prog 44 [(int .i64 a0)] [] [] (fun (i : Unit) => { val := (str r) }) := by
 unfold f_move_record_1 at h
 refine fn_enter Tryz.func44 rfl Tryz.ntmps44 rfl (fun w0 Z0 => ?_)
 refine aw_sr ?_
 refine al_as rfl rfl ?_
 refine al_nt ?_
 refine aw_sr ?_
 refine al_mv rfl rfl ?_
 refine al_val (ov_convInt (by rw [Tryz.underlying3]; rfl) Tryz.underlying55 rfl rfl) ?_
 obtain ⟨r2, hc1, h⟩ := opt_some h
 refine al_call (vs := [(uq (wu a0))]) (f_num_Put_ok fu (wu a0) hc1) [] [] [] pre_nil rfl (by simp) (by decide) (.inl rfl) rfl Tryz.func45 rfl rfl rfl (fun _ => ?_)
 refine al_as rfl rfl ?_
 refine al_nt ?_
 refine aw_ret ?_
 obtain rfl := Option.some.inj h
 exact fn_ret () [] [] rfl rfl rfl rfl (res1 rfl rfl) rfl rfl rfl (by decide)
def f_num_PutText (fu : Nat) (a0 : (List UInt8)) : Option ((List UInt8) × Int) := (bif (decide ((a0.length : Int) > (1024 : Int))) then (some (([] : List UInt8), (2 : Int))) else (opt (f_strings_ReplaceAll fu a0 ([0] : List UInt8) ([0, 255] : List UInt8)) fun (r3 : (List UInt8)) => (req (r3.length + ([0, 0] : List UInt8).length ≤ 9223372036854775807) (some ((r3 ++ ([0, 0] : List UInt8)), (0 : Int))))))
set_option maxHeartbeats 2000000 in
set_option maxRecDepth 100000 in
theorem f_num_PutText_ok (fu : Nat) (a0 : (List UInt8)) {r : ((List UInt8) × Int)} (h : f_num_PutText fu a0 = some r) : FnOk Tryz.prog 47 [(str a0)] [uMax] [] (fun (i : Unit) => { val := (Value.tuple #[(str r.1), (int .i64 r.2)]) }) := by
 unfold f_num_PutText at h
 refine fn_enter Tryz.func47 rfl Tryz.ntmps47 rfl (fun w0 Z0 => ?_)
 refine aw_sr ?_
 refine al_as rfl rfl ?_
 refine al_as rfl rfl ?_
 refine al_nt ?_
 refine aw_seq ?_
 refine aw_sr ?_
 refine al_mv rfl rfl ?_
 refine al_val (ov_strLen Tryz.underlying9 rfl rfl) ?_
 refine al_in rfl rfl rfl rfl ?_
 refine al_nt ?_
 refine aw_cond rfl (fun hb1 => ?_) (fun hb1 => ?_)
 ·replace h := bif_t hb1 h
  refine aw_sr ?_
  refine al_as rfl rfl ?_
  refine al_as rfl rfl ?_
  refine al_nt ?_
  refine aw_ret ?_
  refine aq_then_ret ?_
  obtain rfl := Option.some.inj h
  exact fn_ret () [] [] rfl rfl rfl rfl (res2 rfl rfl rfl) rfl rfl rfl (by decide)
 ·replace h := bif_f hb1 h
  refine aw_skip ?_
  refine aq_tr ?_
  refine al_mv rfl rfl ?_
  obtain ⟨r3, hc2, h⟩ := opt_some h
  refine al_call (vs := [(str a0), (str ([0] : List UInt8)), (str ([0, 255] : List UInt8))]) (f_strings_ReplaceAll_ok fu a0 ([0] : List UInt8) ([0, 255] : List UInt8) hc2) [] [] [] (pre_fz 0 rfl pre_nil) rfl (by simp) (by decide) (.inl rfl) rfl Tryz.func51 rfl rfl rfl (fun _ => ?_)
  obtain ⟨hc4, h⟩ := req_some h
  refine al_val (ov_strAdd hc4 rfl rfl rfl) ?_
  refine al_as rfl rfl ?_
  refine al_as rfl rfl ?_
  refine al_nt ?_
  refine aw_ret ?_
  obtain rfl := Option.some.inj h
  exact fn_ret () [] [] rfl rfl rfl rfl (res2 rfl rfl rfl) rfl rfl rfl (by decide)
def f_move_record_2 (fu : Nat) (a0 : (List UInt8)) : Option (List UInt8) := (opt (f_num_PutText fu a0) fun (r2 : ((List UInt8) × Int)) => (some r2.1))
set_option maxRecDepth 100000 in
theorem f_move_record_2_ok (fu : Nat) (a0 : (List UInt8)) {r : (List UInt8)} (h : f_move_record_2 fu a0 = some r) : FnOk Tryz.prog 46 [(str a0)] [uMax] [] (fun (i : Unit) => { val := (str r) }) := by
 unfold f_move_record_2 at h
 refine fn_enter Tryz.func46 rfl Tryz.ntmps46 rfl (fun w0 Z0 => ?_)
 refine aw_sr ?_
 refine al_as rfl rfl ?_
 refine al_nt ?_
 refine aw_sr ?_
 refine al_mv rfl rfl ?_
 obtain ⟨r2, hc1, h⟩ := opt_some h
 refine al_call (vs := [(str a0)]) (f_num_PutText_ok fu a0 hc1) [] [] [] (pre_fz 0 rfl pre_nil) rfl (by simp) (by decide) (.inl rfl) rfl Tryz.func47 rfl rfl rfl (fun _ => ?_)
 refine al_mv rfl rfl ?_
 refine al_ex rfl rfl rfl ?_
 refine al_ex rfl rfl rfl ?_
 refine al_as rfl rfl ?_
 refine al_as rfl rfl ?_
 refine al_nt ?_
 refine aw_sr ?_
 refine al_mv rfl rfl ?_
 refine al_as rfl rfl ?_
 refine al_nt ?_
 refine aw_ret ?_
 obtain rfl := Option.some.inj h
 exact fn_ret () [] [] rfl rfl rfl rfl (res1 rfl rfl) rfl rfl rfl (by decide)
def f_num_turned_L7 (a0 : (List UInt8)) (kk4 : ((List UInt8) → Option (List UInt8))) : Nat → (List UInt8) → Int → Option (List UInt8)
  | 0, _, _ => none
  | k6 + 1, l5x3, l5i9 => (bif (decide (l5i9 < (a0.length : Int))) then (opt (at? l5x3 l5i9) fun (u9 : UInt8) => (opt (at? l5x3 l5i9) fun (u13 : UInt8) => (req (0 ≤ (bits .xor .u8 (if IntKind.signed .u8 then -1 else IntKind.max .u8) (u9.toNat : Int)) ∧ (bits .xor .u8 (if IntKind.signed .u8 then -1 else IntKind.max .u8) (u9.toNat : Int)) ≤ 255) (f_num_turned_L7 a0 kk4 k6 (l5x3.set (l5i9).toNat (UInt8.ofNat ((bits .xor .u8 (if IntKind.signed .u8 then -1 else IntKind.max .u8) (u9.toNat : Int))).toNat)) (IntKind.i64.wrap (l5i9 + (1 : Int))))))) else (kk4 l5x3))
def f_num_turned (fu : Nat) (a0 : (List UInt8)) : Option (List UInt8) := (req (a0.length ≤ 9223372036854775807) (lt (fun (j3x3 : (List UInt8)) => (some j3x3)) fun (kk4 : (List UInt8) → Option (List UInt8)) => (f_num_turned_L7 a0 kk4 fu a0 (0 : Int))))
set_option maxHeartbeats 2000000 in
set_option maxRecDepth 100000 in
theorem f_num_turned_ok (fu : Nat) (a0 : (List UInt8)) {r : (List UInt8)} (h : f_num_turned fu a0 = some r) : FnOk Tryz.prog 82 [(str a0)] [] [] (fun (i : Unit) => { val := (str r) }) := by
 unfold f_num_turned at h
 refine fn_enter Tryz.func82 rfl Tryz.ntmps82 rfl (fun w0 Z0 => ?_)
 refine aw_sr ?_
 refine al_as rfl rfl ?_
 refine al_nt ?_
 refine aw_sr ?_
 refine al_mv rfl rfl ?_
 obtain ⟨hc1, h⟩ := req_some h
 refine al_bytesO hc1 rfl Tryz.underlying9 Tryz.underlying58 Tryz.underlying5 rfl (fun s2 => ?_)
 refine al_as rfl rfl ?_
 refine al_nt ?_
 obtain ⟨kk4, hkk4, h⟩ := lt_some h
 refine aw_seq_join (ι := (List UInt8)) (fun i => (memOf w0 Z0 [] [(oBy s2 5 i)] [])) (fun i => (tab [(3, s2)])) (fun i => kk4 i = some r) ?_ ?_
 ·rintro j3x3 h
  have h : kk4 j3x3 = some r := h
  rw [hkk4] at h
  dsimp only at h
  clear hkk4
  refine aw_show (m := (memOf w0 Z0 [] [(oBy s2 5 j3x3)] [])) (S := (tab [(3, s2)])) ?_
  refine aw_sr ?_
  refine al_mv rfl rfl ?_
  refine al_val (ov_toStrO 0 rfl rfl Tryz.underlying58 Tryz.underlying5 Tryz.underlying9 rfl) ?_
  refine al_as rfl rfl ?_
  refine al_nt ?_
  refine aw_ret ?_
  obtain rfl := Option.some.inj h
  exact fn_ret () [] [] rfl rfl rfl rfl (res1 rfl rfl) rfl rfl rfl (by decide)
 ·clear hkk4
  refine aw_sr ?_
  refine al_mv rfl rfl ?_
  refine al_val (ov_lenO 0 rfl rfl Tryz.underlying58 rfl) ?_
  refine al_mv rfl rfl ?_
  refine al_nt ?_
  refine aw_block ?_
  refine aw_state (aw_loop (ι := (List UInt8) × Int) (fun i => (memOf w0 Z0 [] [(oBy s2 5 i.1)] [])) (fun i => (tab [(3, s2), (8, (iq (a0.length : Int))), (9, (iq i.2))])) (fun q i => f_num_turned_L7 a0 kk4 q i.1 i.2 = some r) ?_ fu (a0, (0 : Int)) h) (fun w a hm hs => norm hm hs [0] [] [(3, s2), (8, (iq (a0.length : Int))), (9, (iq (0 : Int)))] (by decide) ⟨rfl, rfl, rfl, trivial⟩)
  clear h
  rintro k6 ⟨l5x3, l5i9⟩ h
  have h : f_num_turned_L7 a0 kk4 k6 l5x3 l5i9 = some r := h
  obtain _ | k6 := k6
  · rw [f_num_turned_L7] at h; cases h
  rw [f_num_turned_L7] at h
  refine aw_show (m := (memOf w0 Z0 [] [(oBy s2 5 l5x3)] [])) (S := (tab [(3, s2), (8, (iq (a0.length : Int))), (9, (iq l5i9))])) ?_
  refine aw_sr ?_
  refine al_in rfl rfl rfl rfl ?_
  refine al_nt ?_
  refine aw_seq ?_
  refine aw_cond rfl (fun hb8 => ?_) (fun hb8 => ?_)
  ·replace h := bif_t hb8 h
   refine aw_skip ?_
   refine aq_then ?_
   refine aw_seq ?_
   refine aw_block ?_
   refine aw_sr ?_
   refine al_mv rfl rfl ?_
   refine al_as rfl rfl ?_
   refine al_nt ?_
   refine aw_region ?_
   refine al_mv rfl rfl ?_
   refine al_mv rfl rfl ?_
   refine al_mv rfl rfl ?_
   refine al_mv rfl rfl ?_
   obtain ⟨u9, hu10, h⟩ := opt_some h
   refine al_idxO 0 (at_some hu10).1 (at_some hu10).2.1 rfl rfl rfl Tryz.underlying58 sz5 rfl (fun p11 hp12 => ?_)
   refine al_val (ov_loadO (ds := [(i8 (u9.toNat : Int))]) 0 rfl hp12 (at_some hu10).2.2 (fun h => h) rfl Tryz.underlying5 sz5 rfl rfl rfl) ?_
   refine al_val (ov_compl rfl rfl) ?_
   obtain ⟨u13, hu14, h⟩ := opt_some h
   refine al_idxO 0 (at_some hu14).1 (at_some hu14).2.1 rfl rfl rfl Tryz.underlying58 sz5 rfl (fun p15 hp16 => ?_)
   obtain ⟨hc17, h⟩ := req_some h
   refine al_storeO (k := (l5i9).toNat) (x := (UInt8.ofNat ((bits .xor .u8 (if IntKind.signed .u8 then -1 else IntKind.max .u8) (u9.toNat : Int))).toNat)) (vs := [(i8 (bits .xor .u8 (if IntKind.signed .u8 then -1 else IntKind.max .u8) (u9.toNat : Int)))]) 0 rfl hp16 (idx_lt hu14) rfl rfl (cv_rfl rfl) (fun _ => u8_rep hc17) sz5 rfl ?_
   refine al_nil ?_
   refine aq_block ?_
   refine aq_then ?_
   refine aw_region ?_
   refine al_in rfl rfl rfl rfl ?_
   refine al_mv rfl rfl ?_
   refine al_nil ?_
   exact aq_again k6 ((l5x3.set (l5i9).toNat (UInt8.ofNat ((bits .xor .u8 (if IntKind.signed .u8 then -1 else IntKind.max .u8) (u9.toNat : Int))).toNat)), (wq (l5i9 + (1 : Int)))) (Nat.lt_succ_self _) h (fun w a hm hs => norm hm hs [0] [] [(3, s2), (8, (iq (a0.length : Int))), (9, (iq (wq (l5i9 + (1 : Int)))))] (by decide) ⟨rfl, rfl, rfl, trivial⟩)
  ·replace h := bif_f hb8 h
   refine aw_exit ?_
   refine aq_then_exit ?_
   refine aq_then_exit ?_
   refine aq_block_exit ?_
   exact aq_join l5x3 h (fun w a hm hs => norm hm hs [0] [] [(3, s2)] (by decide) ⟨rfl, trivial⟩)
def f_num_PutInt (fu : Nat) (a0 : Int) : Option (List UInt8) := (bif (decide (a0 < (0 : Int))) then (opt (f_num_digits fu (IntKind.u64.wrap (IntKind.i64.wrap ((-1 : Int) - a0)))) fun (r3 : (List UInt8)) => (req (0 ≤ (IntKind.u8.wrap (IntKind.i64.wrap ((127 : Int) - (r3.length : Int)))) ∧ (IntKind.u8.wrap (IntKind.i64.wrap ((127 : Int) - (r3.length : Int)))) ≤ 255) (opt (f_num_turned fu r3) fun (r7 : (List UInt8)) => (req (([(UInt8.ofNat ((IntKind.u8.wrap (IntKind.i64.wrap ((127 : Int) - (r3.length : Int))))).toNat)]).length + r7.length ≤ 9223372036854775807) (some (([(UInt8.ofNat ((IntKind.u8.wrap (IntKind.i64.wrap ((127 : Int) - (r3.length : Int))))).toNat)]) ++ r7)))))) else (opt (f_num_digits fu (IntKind.u64.wrap a0)) fun (r10 : (List UInt8)) => (req (0 ≤ (IntKind.u8.wrap (IntKind.i64.wrap ((128 : Int) + (r10.length : Int)))) ∧ (IntKind.u8.wrap (IntKind.i64.wrap ((128 : Int) + (r10.length : Int)))) ≤ 255) (req (([(UInt8.ofNat ((IntKind.u8.wrap (IntKind.i64.wrap ((128 : Int) + (r10.length : Int))))).toNat)]).length + r10.length ≤ 9223372036854775807) (some (([(UInt8.ofNat ((IntKind.u8.wrap (IntKind.i64.wrap ((128 : Int) + (r10.length : Int))))).toNat)]) ++ r10))))))
set_option maxHeartbeats 2000000 in
set_option maxRecDepth 100000 in
theorem f_num_PutInt_ok (fu : Nat) (a0 : Int) {r : (List UInt8)} (h : f_num_PutInt fu a0 = some r) : FnOk Tryz.prog 48 [(int .i64 a0)] [] [] (fun (i : Unit) => { val := (str r) }) := by
 unfold f_num_PutInt at h
 refine fn_enter Tryz.func48 rfl Tryz.ntmps48 rfl (fun w0 Z0 => ?_)
 refine aw_sr ?_
 refine al_as rfl rfl ?_
 refine al_nt ?_
 refine aw_seq ?_
 refine aw_sr ?_
 refine al_mv rfl rfl ?_
 refine al_in rfl rfl rfl rfl ?_
 refine al_nt ?_
 refine aw_cond rfl (fun hb1 => ?_) (fun hb1 => ?_)
 ·replace h := bif_t hb1 h
  refine aw_sr ?_
  refine al_mv rfl rfl ?_
  refine al_in rfl rfl rfl rfl ?_
  refine al_val (ov_convInt (by rw [Tryz.underlying3]; rfl) Tryz.underlying55 rfl rfl) ?_
  obtain ⟨r3, hc2, h⟩ := opt_some h
  refine al_call (vs := [(uq (wu (wq ((-1 : Int) - a0))))]) (f_num_digits_ok fu (wu (wq ((-1 : Int) - a0))) hc2) [] [] [] pre_nil rfl (by simp) (by decide) (.inl rfl) rfl Tryz.func81 rfl rfl rfl (fun _ => ?_)
  refine al_as rfl rfl ?_
  refine al_nt ?_
  refine aw_seq ?_
  obtain ⟨hc5, h⟩ := req_some h
  obtain ⟨r7, hc6, h⟩ := opt_some h
  obtain ⟨hc8, h⟩ := req_some h
  refine aw_region_draw 9 [(11, (fun u => fEq u (str r3))), (12, (fun u => fEq u (iq (r3.length : Int)))), (13, (fun u => fEq u (iq (wq ((127 : Int) - (r3.length : Int)))))), (14, (fun u => fEq u (i8 (w8 (wq ((127 : Int) - (r3.length : Int))))))), (15, (fun v4 => (fDat (tyList tyU8) [v4] [(UInt8.ofNat ((w8 (wq ((127 : Int) - (r3.length : Int))))).toNat)]))), (16, (fun u => fEq u (str [(UInt8.ofNat ((w8 (wq ((127 : Int) - (r3.length : Int))))).toNat)]))), (17, (fun u => fEq u (str r3))), (18, (fun u => fEq u (str r7))), (19, (fun u => fEq u (str (([(UInt8.ofNat ((w8 (wq ((127 : Int) - (r3.length : Int))))).toNat)]) ++ r7))))] (tab [(2, (str ([] : List UInt8))), (3, (str r3))]) mixed (by kernel_rfl) rfl rfl rfl (fun a hs => hs.tab _ (allT_mem ⟨rfl, rfl, trivial⟩)) ⟨⟨rfl, ld_val (ov_move rfl rfl)⟩, ⟨rfl, ld_eq (j := 0) rfl rfl (ld_val (ov_strLen Tryz.underlying9 rfl rfl))⟩, ⟨rfl, ld_eq (j := 1) rfl rfl (ld_val (ov_int rfl rfl rfl rfl))⟩, ⟨rfl, ld_eq (j := 2) rfl rfl (ld_val (ov_convInt (by rw [Tryz.underlying3]; rfl) Tryz.underlying5 rfl rfl))⟩, ⟨rfl, ld_eq (j := 3) rfl rfl (ld_buildSlice (τ := tyU8) (e := 5) (k := 1) (cs := [(i8 (w8 (wq ((127 : Int) - (r3.length : Int)))))]) (xs := [(UInt8.ofNat ((w8 (wq ((127 : Int) - (r3.length : Int))))).toNat)]) rfl (by decide) rfl (fun w a hm hs => ⟨([(i8 (w8 (wq ((127 : Int) - (r3.length : Int)))))]).toArray, rfl, by simp only [List.map_toArray, List.map_cons, List.map_nil, hs.ev (x := .tmp 14) rfl]; exact run_bs [(i8 (w8 (wq ((127 : Int) - (r3.length : Int)))))] [(i8 (w8 (wq ((127 : Int) - (r3.length : Int)))))] Tryz.underlying58 to5 rfl rfl (bs_cons (l := [(i8 (w8 (wq ((127 : Int) - (r3.length : Int)))))]) (cs := []) (cv_rfl rfl) rfl bs_nil) hm⟩) (fun hm => ⟨_, _, rfl, (fun _ => u8_rep hc5) hm, rfl⟩) rfl)⟩, ⟨rfl, ld_fact (j := 4) rfl rfl (fun v4 => ld_val (ov_toStr 0 rfl rfl Tryz.underlying58 Tryz.underlying5 Tryz.underlying9 rfl))⟩, ⟨rfl, ld_val (ov_move rfl rfl)⟩, ⟨rfl, ld_eq (j := 6) rfl rfl (ld_callV (vs := [(str r3)]) (f_num_turned_ok fu r3 hc6) [] pre_nil rfl Tryz.func82 rfl rfl rfl)⟩, ⟨rfl, ld_eq (j := 5) rfl rfl (ld_eq (j := 7) rfl rfl (ld_val (ov_strAdd hc8 rfl rfl rfl)))⟩, trivial⟩ ?_
  refine tl_eq 8 rfl ?_
  refine tl_done ?_
  refine al_as rfl rfl ?_
  refine al_nt ?_
  refine aw_ret ?_
  refine aq_then_ret ?_
  obtain rfl := Option.some.inj h
  exact fn_ret () [] [] rfl rfl rfl rfl (res1 rfl rfl) rfl rfl rfl (by decide)
 ·replace h := bif_f hb1 h
  refine aw_skip ?_
  refine aq_tr ?_
  refine al_mv rfl rfl ?_
  refine al_val (ov_convInt (by rw [Tryz.underlying3]; rfl) Tryz.underlying55 rfl rfl) ?_
  obtain ⟨r10, hc9, h⟩ := opt_some h
  refine al_call (vs := [(uq (wu a0))]) (f_num_digits_ok fu (wu a0) hc9) [] [] [] pre_nil rfl (by simp) (by decide) (.inl rfl) rfl Tryz.func81 rfl rfl rfl (fun _ => ?_)
  refine al_as rfl rfl ?_
  refine al_nt ?_
  refine aw_sr ?_
  refine al_mv rfl rfl ?_
  refine al_val (ov_strLen Tryz.underlying9 rfl rfl) ?_
  refine al_in rfl rfl rfl rfl ?_
  refine al_val (ov_convInt (by rw [Tryz.underlying3]; rfl) Tryz.underlying5 rfl rfl) ?_
  obtain ⟨hc12, h⟩ := req_some h
  refine al_buildSlice (τ := tyU8) (e := 5) (k := 1) (sz := 0) (by_ := 0) (z := undef) (cs := [(i8 (w8 (wq ((128 : Int) + (r10.length : Int)))))]) (xs := [(UInt8.ofNat ((w8 (wq ((128 : Int) + (r10.length : Int))))).toNat)]) rfl (by decide) (fun w a hm hs => ⟨([(i8 (w8 (wq ((128 : Int) + (r10.length : Int)))))]).toArray, rfl, by simp only [List.map_toArray, List.map_cons, List.map_nil, hs.ev (x := .tmp 26) rfl]; exact run_bs [(i8 (w8 (wq ((128 : Int) + (r10.length : Int)))))] [(i8 (w8 (wq ((128 : Int) + (r10.length : Int)))))] Tryz.underlying58 to5 rfl rfl (bs_cons (l := [(i8 (w8 (wq ((128 : Int) + (r10.length : Int)))))]) (cs := []) (cv_rfl rfl) rfl bs_nil) hm⟩) (fun hm => ⟨_, _, rfl, (fun _ => u8_rep hc12) hm, rfl⟩) rfl (fun v11 => ?_)
  refine al_val (ov_toStrR 0 rfl rfl Tryz.underlying58 Tryz.underlying5 Tryz.underlying9 rfl) ?_
  refine al_mv rfl rfl ?_
  obtain ⟨hc13, h⟩ := req_some h
  refine al_val (ov_strAdd hc13 rfl rfl rfl) ?_
  refine al_as rfl rfl ?_
  refine al_nt ?_
  refine aw_ret ?_
  obtain rfl := Option.some.inj h
  exact fn_ret () [] [] rfl rfl rfl rfl (res1 rfl rfl) rfl rfl rfl (by decide)
def f_move_record_L14 (a0 : S_api_Old) (kk11 : ((List UInt8) → Option (List UInt8))) (fu : Nat) : Nat → (List UInt8) → Int → Option (List UInt8)
  | 0, _, _ => none
  | k13 + 1, l12s5, l12i26 => (bif (decide (l12i26 < (a0.World.length : Int))) then (opt (at? a0.World l12i26) fun (u16 : S_api_Item) => (opt (f_move_record_2 fu u16.Path) fun (r21 : (List UInt8)) => (req (0 ≤ (IntKind.u8.wrap u16.Kind) ∧ (IntKind.u8.wrap u16.Kind) ≤ 255) (req (r21.length + ([(UInt8.ofNat ((IntKind.u8.wrap u16.Kind)).toNat)]).length ≤ 9223372036854775807) (opt (f_move_record_1 fu u16.Mode) fun (r26 : (List UInt8)) => (req ((r21 ++ ([(UInt8.ofNat ((IntKind.u8.wrap u16.Kind)).toNat)])).length + r26.length ≤ 9223372036854775807) (opt (f_num_PutInt fu u16.Time) fun (r29 : (List UInt8)) => (req (((r21 ++ ([(UInt8.ofNat ((IntKind.u8.wrap u16.Kind)).toNat)])) ++ r26).length + r29.length ≤ 9223372036854775807) (opt (f_move_record_1 fu (u16.Bytes.length : Int)) fun (r32 : (List UInt8)) => (req ((((r21 ++ ([(UInt8.ofNat ((IntKind.u8.wrap u16.Kind)).toNat)])) ++ r26) ++ r29).length + r32.length ≤ 9223372036854775807) (req (((((r21 ++ ([(UInt8.ofNat ((IntKind.u8.wrap u16.Kind)).toNat)])) ++ r26) ++ r29) ++ r32).length + u16.Bytes.length ≤ 9223372036854775807) (req (l12s5.length + (((((r21 ++ ([(UInt8.ofNat ((IntKind.u8.wrap u16.Kind)).toNat)])) ++ r26) ++ r29) ++ r32) ++ u16.Bytes).length ≤ 9223372036854775807) (f_move_record_L14 a0 kk11 fu k13 (l12s5 ++ (((((r21 ++ ([(UInt8.ofNat ((IntKind.u8.wrap u16.Kind)).toNat)])) ++ r26) ++ r29) ++ r32) ++ u16.Bytes)) (IntKind.i64.wrap (l12i26 + (1 : Int)))))))))))))))) else (kk11 l12s5))
def f_move_record (fu : Nat) (a0 : S_api_Old) : Option (List UInt8) := (opt (f_move_record_2 fu a0.Name) fun (r3 : (List UInt8)) => (opt (f_move_record_1 fu a0.Time) fun (r5 : (List UInt8)) => (req (r3.length + r5.length ≤ 9223372036854775807) (opt (f_move_record_1 fu (a0.World.length : Int)) fun (r8 : (List UInt8)) => (req ((r3 ++ r5).length + r8.length ≤ 9223372036854775807) (lt (fun (j10s5 : (List UInt8)) => (some j10s5)) fun (kk11 : (List UInt8) → Option (List UInt8)) => (f_move_record_L14 a0 kk11 fu fu ((r3 ++ r5) ++ r8) (0 : Int))))))))
set_option maxHeartbeats 2000000 in
set_option maxRecDepth 100000 in
theorem f_move_record_ok (fu : Nat) (v0_2 : Value) (a0 : S_api_Old) {r : (List UInt8)} (h : f_move_record fu a0 = some r) : FnOk Tryz.prog 18 [(ag [(str a0.Name), (int .i64 a0.Time), v0_2])] [(fDat (tyList tyS_api_Item) [v0_2] a0.World), uMax] [] (fun (i : Unit) => { val := (str r) }) := by
 unfold f_move_record at h
 refine fn_enter Tryz.func18 rfl Tryz.ntmps18 rfl (fun w0 Z0 => ?_)
 refine aw_sr ?_
 refine al_box (vs := [(str a0.Name), (iq a0.Time), v0_2]) rfl (cv_rfl rfl) rfl (fun g1 => ?_)
 refine al_as rfl rfl ?_
 refine al_nt ?_
 refine aw_sr ?_
 refine al_as rfl rfl ?_
 refine al_nt ?_
 refine aw_sr ?_
 refine al_as rfl rfl ?_
 refine al_nt ?_
 refine aw_seq ?_
 obtain ⟨r3, hc2, h⟩ := opt_some h
 obtain ⟨r5, hc4, h⟩ := opt_some h
 obtain ⟨hc6, h⟩ := req_some h
 obtain ⟨r8, hc7, h⟩ := opt_some h
 obtain ⟨hc9, h⟩ := req_some h
 refine aw_region_draw 15 [(8, (fun u => fEq u (fq 46))), (9, (fun u => fEq u (pq g1))), (10, (fun u => fEq u (str a0.Name))), (11, (fun u => fEq u (str r3))), (12, (fun u => fEq u (fq 44))), (13, (fun u => fEq u (ptr g1 1))), (14, (fun u => fEq u (iq a0.Time))), (15, (fun u => fEq u (str r5))), (16, (fun u => fEq u (str (r3 ++ r5)))), (17, (fun u => fEq u (fq 44))), (18, (fun u => fEq u (ptr g1 2))), (19, (fun u => fEq u v0_2)), (20, (fun u => fEq u (iq (a0.World.length : Int)))), (21, (fun u => fEq u (str r8))), (22, (fun u => fEq u (str ((r3 ++ r5) ++ r8))))] (tab [(1, (pq g1)), (3, (fq 44)), (4, (fq 46))]) mixed (by kernel_rfl) rfl rfl rfl (fun a hs => hs.tab _ (allT_mem ⟨rfl, rfl, rfl, trivial⟩)) ⟨⟨rfl, ld_val (ov_move rfl rfl)⟩, ⟨rfl, ld_val (ov_fieldA (p := 0) rfl Tryz.underlying49 rfl sz9 rfl rfl rfl)⟩, ⟨rfl, ld_eq (j := 1) rfl rfl (ld_val (ov_load (i := 0) (v := (str a0.Name)) rfl rfl Tryz.underlying9 sz9 rfl rfl rfl rfl))⟩, ⟨rfl, ld_eq (j := 0) rfl rfl (ld_eq (j := 2) rfl rfl (ld_callF (vs := [(str a0.Name)]) (caps := []) (f_move_record_2_ok fu a0.Name hc2) rfl [] (pre_fz 1 rfl pre_nil) rfl rfl Tryz.func46 rfl rfl rfl))⟩, ⟨rfl, ld_val (ov_move rfl rfl)⟩, ⟨rfl, ld_val (ov_fieldA (p := 1) rfl Tryz.underlying49 rfl sz3 rfl rfl rfl)⟩, ⟨rfl, ld_eq (j := 5) rfl rfl (ld_val (ov_load (i := 0) (v := (iq a0.Time)) rfl rfl Tryz.underlying3 sz3 rfl rfl rfl rfl))⟩, ⟨rfl, ld_eq (j := 4) rfl rfl (ld_eq (j := 6) rfl rfl (ld_callF (vs := [(iq a0.Time)]) (caps := []) (f_move_record_1_ok fu a0.Time hc4) rfl [] pre_nil rfl rfl Tryz.func44 rfl rfl rfl))⟩, ⟨rfl, ld_eq (j := 3) rfl rfl (ld_eq (j := 7) rfl rfl (ld_val (ov_strAdd hc6 rfl rfl rfl)))⟩, ⟨rfl, ld_val (ov_move rfl rfl)⟩, ⟨rfl, ld_val (ov_fieldA (p := 2) rfl Tryz.underlying49 rfl sz34 rfl rfl rfl)⟩, ⟨rfl, ld_eq (j := 10) rfl rfl (ld_val (ov_load (i := 0) (v := v0_2) rfl rfl Tryz.underlying34 sz34 rfl rfl rfl rfl))⟩, ⟨rfl, ld_eq (j := 11) rfl rfl (ld_val (ov_lenD 0 rfl rfl Tryz.underlying34 rfl))⟩, ⟨rfl, ld_eq (j := 9) rfl rfl (ld_eq (j := 12) rfl rfl (ld_callF (vs := [(iq (a0.World.length : Int))]) (caps := []) (f_move_record_1_ok fu (a0.World.length : Int) hc7) rfl [] pre_nil rfl rfl Tryz.func44 rfl rfl rfl))⟩, ⟨rfl, ld_eq (j := 8) rfl rfl (ld_eq (j := 13) rfl rfl (ld_val (ov_strAdd hc9 rfl rfl rfl)))⟩, trivial⟩ ?_
 refine tl_eq 14 rfl ?_
 refine tl_done ?_
 refine al_as rfl rfl ?_
 refine al_nt ?_
 obtain ⟨kk11, hkk11, h⟩ := lt_some h
 refine aw_seq_join (ι := (List UInt8)) (fun i => (memOf w0 Z0 [] [] [(fDat (tyList tyS_api_Item) [v0_2] a0.World), uMax])) (fun i => (tab [(5, (str i))])) (fun i => kk11 i = some r) ?_ ?_
 ·rintro j10s5 h
  have h : kk11 j10s5 = some r := h
  rw [hkk11] at h
  dsimp only at h
  clear hkk11
  refine aw_show (m := (memOf w0 Z0 [] [] [(fDat (tyList tyS_api_Item) [v0_2] a0.World), uMax])) (S := (tab [(5, (str j10s5))])) ?_
  refine aw_sr ?_
  refine al_mv rfl rfl ?_
  refine al_as rfl rfl ?_
  refine al_nt ?_
  refine aw_ret ?_
  obtain rfl := Option.some.inj h
  exact fn_ret () [] [] rfl rfl rfl rfl (res1 rfl rfl) rfl rfl rfl (by decide)
 ·clear hkk11
  refine aw_sr ?_
  refine al_val (ov_fieldA (p := 2) rfl Tryz.underlying49 rfl sz34 rfl rfl rfl) ?_
  refine al_val (ov_load (i := 0) (v := v0_2) rfl rfl Tryz.underlying34 sz34 rfl rfl rfl rfl) ?_
  refine al_val (ov_lenD 0 rfl rfl Tryz.underlying34 rfl) ?_
  refine al_mv rfl rfl ?_
  refine al_nt ?_
  refine aw_block ?_
  refine aw_state (aw_loop (ι := (List UInt8) × Int) (fun i => (memOf w0 Z0 [] [] [(fDat (tyList tyS_api_Item) [v0_2] a0.World), uMax])) (fun i => (tab [(3, (fq 44)), (4, (fq 46)), (5, (str i.1)), (24, v0_2), (25, (iq (a0.World.length : Int))), (26, (iq i.2))])) (fun q i => f_move_record_L14 a0 kk11 fu q i.1 i.2 = some r) ?_ fu (((r3 ++ r5) ++ r8), (0 : Int)) h) (fun w a hm hs => norm hm hs [] [0, 1] [(3, (fq 44)), (4, (fq 46)), (5, (str ((r3 ++ r5) ++ r8))), (24, v0_2), (25, (iq (a0.World.length : Int))), (26, (iq (0 : Int)))] (by decide) ⟨rfl, rfl, rfl, rfl, rfl, rfl, trivial⟩)
  clear h
  rintro k13 ⟨l12s5, l12i26⟩ h
  have h : f_move_record_L14 a0 kk11 fu k13 l12s5 l12i26 = some r := h
  obtain _ | k13 := k13
  · rw [f_move_record_L14] at h; cases h
  rw [f_move_record_L14] at h
  refine aw_show (m := (memOf w0 Z0 [] [] [(fDat (tyList tyS_api_Item) [v0_2] a0.World), uMax])) (S := (tab [(3, (fq 44)), (4, (fq 46)), (5, (str l12s5)), (24, v0_2), (25, (iq (a0.World.length : Int))), (26, (iq l12i26))])) ?_
  refine aw_sr ?_
  refine al_in rfl rfl rfl rfl ?_
  refine al_nt ?_
  refine aw_seq ?_
  refine aw_cond rfl (fun hb15 => ?_) (fun hb15 => ?_)
  ·replace h := bif_t hb15 h
   refine aw_skip ?_
   refine aq_then ?_
   refine aw_seq ?_
   refine aw_block ?_
   refine aw_sr ?_
   obtain ⟨u16, hu17, h⟩ := opt_some h
   refine al_idxD 0 hu17 rfl rfl rfl Tryz.underlying34 sz57 rfl (fun p18 => ?_)
   refine al_val (ov_loadP (ds := [(str u16.Path), (iq u16.Kind), (iq u16.Mode), (iq u16.Time), (str u16.Bytes)]) 0 rfl encS_api_Item rfl Tryz.underlying57 sz57 rfl rfl rfl) ?_
   refine al_alloc (zs := [(str ([] : List UInt8)), (iq (0 : Int)), (iq (0 : Int)), (iq (0 : Int)), (str ([] : List UInt8))]) (zeroOf_to to57) rfl rfl (fun g19 => ?_)
   refine al_store (i := 0) (vs := [(str u16.Path), (iq u16.Kind), (iq u16.Mode), (iq u16.Time), (str u16.Bytes)]) (cs' := [(str u16.Path), (iq u16.Kind), (iq u16.Mode), (iq u16.Time), (str u16.Bytes)]) rfl rfl rfl sz57 (cv_rfl rfl) rfl (co_val rfl (co_val rfl (co_val rfl (co_val rfl (co_val rfl co_nil))))) (Nat.le_of_ble_eq_true rfl) rfl rfl ?_
   refine al_nt ?_
   obtain ⟨r21, hc20, h⟩ := opt_some h
   obtain ⟨hc23, h⟩ := req_some h
   obtain ⟨hc24, h⟩ := req_some h
   obtain ⟨r26, hc25, h⟩ := opt_some h
   obtain ⟨hc27, h⟩ := req_some h
   obtain ⟨r29, hc28, h⟩ := opt_some h
   obtain ⟨hc30, h⟩ := req_some h
   obtain ⟨r32, hc31, h⟩ := opt_some h
   obtain ⟨hc33, h⟩ := req_some h
   obtain ⟨hc34, h⟩ := req_some h
   obtain ⟨hc35, h⟩ := req_some h
   refine aw_region_draw 30 [(30, (fun u => fEq u (str l12s5))), (31, (fun u => fEq u (fq 46))), (32, (fun u => fEq u (pq g19))), (33, (fun u => fEq u (str u16.Path))), (34, (fun u => fEq u (str r21))), (35, (fun u => fEq u (ptr g19 1))), (36, (fun u => fEq u (iq u16.Kind))), (37, (fun u => fEq u (i8 (w8 u16.Kind)))), (38, (fun v22 => (fDat (tyList tyU8) [v22] [(UInt8.ofNat ((w8 u16.Kind)).toNat)]))), (39, (fun u => fEq u (str [(UInt8.ofNat ((w8 u16.Kind)).toNat)]))), (40, (fun u => fEq u (str (r21 ++ ([(UInt8.ofNat ((w8 u16.Kind)).toNat)]))))), (41, (fun u => fEq u (fq 44))), (42, (fun u => fEq u (ptr g19 2))), (43, (fun u => fEq u (iq u16.Mode))), (44, (fun u => fEq u (str r26))), (45, (fun u => fEq u (str ((r21 ++ ([(UInt8.ofNat ((w8 u16.Kind)).toNat)])) ++ r26)))), (46, (fun u => fEq u (ptr g19 3))), (47, (fun u => fEq u (iq u16.Time))), (48, (fun u => fEq u (str r29))), (49, (fun u => fEq u (str (((r21 ++ ([(UInt8.ofNat ((w8 u16.Kind)).toNat)])) ++ r26) ++ r29)))), (50, (fun u => fEq u (fq 44))), (51, (fun u => fEq u (ptr g19 4))), (52, (fun u => fEq u (str u16.Bytes))), (53, (fun u => fEq u (iq (u16.Bytes.length : Int)))), (54, (fun u => fEq u (str r32))), (55, (fun u => fEq u (str ((((r21 ++ ([(UInt8.ofNat ((w8 u16.Kind)).toNat)])) ++ r26) ++ r29) ++ r32)))), (56, (fun u => fEq u (ptr g19 4))), (57, (fun u => fEq u (str u16.Bytes))), (58, (fun u => fEq u (str (((((r21 ++ ([(UInt8.ofNat ((w8 u16.Kind)).toNat)])) ++ r26) ++ r29) ++ r32) ++ u16.Bytes)))), (59, (fun u => fEq u (str (l12s5 ++ (((((r21 ++ ([(UInt8.ofNat ((w8 u16.Kind)).toNat)])) ++ r26) ++ r29) ++ r32) ++ u16.Bytes)))))] (tab [(3, (fq 44)), (4, (fq 46)), (5, (str l12s5)), (7, (pq g19)), (24, v0_2), (25, (iq (a0.World.length : Int))), (26, (iq l12i26))]) mixed (by kernel_rfl) rfl rfl rfl (fun a hs => hs.tab _ (allT_mem ⟨rfl, rfl, rfl, rfl, rfl, rfl, rfl, trivial⟩)) ⟨⟨rfl, ld_val (ov_move rfl rfl)⟩, ⟨rfl, ld_val (ov_move rfl rfl)⟩, ⟨rfl, ld_val (ov_fieldA (p := 0) rfl Tryz.underlying57 rfl sz9 rfl rfl rfl)⟩, ⟨rfl, ld_eq (j := 2) rfl rfl (ld_val (ov_load (i := 0) (v := (str u16.Path)) rfl rfl Tryz.underlying9 sz9 rfl rfl rfl rfl))⟩, ⟨rfl, ld_eq (j := 1) rfl rfl (ld_eq (j := 3) rfl rfl (ld_callF (vs := [(str u16.Path)]) (caps := []) (f_move_record_2_ok fu u16.Path hc20) rfl [] (pre_fz 2 rfl pre_nil) rfl rfl Tryz.func46 rfl rfl rfl))⟩, ⟨rfl, ld_val (ov_fieldA (p := 1) rfl Tryz.underlying57 rfl sz3 rfl rfl rfl)⟩, ⟨rfl, ld_eq (j := 5) rfl rfl (ld_val (ov_load (i := 0) (v := (iq u16.Kind)) rfl rfl Tryz.underlying3 sz3 rfl rfl rfl rfl))⟩, ⟨rfl, ld_eq (j := 6) rfl rfl (ld_val (ov_convInt (by rw [Tryz.underlying3]; rfl) Tryz.underlying5 rfl rfl))⟩, ⟨rfl, ld_eq (j := 7) rfl rfl (ld_buildSlice (τ := tyU8) (e := 5) (k := 1) (cs := [(i8 (w8 u16.Kind))]) (xs := [(UInt8.ofNat ((w8 u16.Kind)).toNat)]) rfl (by decide) rfl (fun w a hm hs => ⟨([(i8 (w8 u16.Kind))]).toArray, rfl, by simp only [List.map_toArray, List.map_cons, List.map_nil, hs.ev (x := .tmp 37) rfl]; exact run_bs [(i8 (w8 u16.Kind))] [(i8 (w8 u16.Kind))] Tryz.underlying58 to5 rfl rfl (bs_cons (l := [(i8 (w8 u16.Kind))]) (cs := []) (cv_rfl rfl) rfl bs_nil) hm⟩) (fun hm => ⟨_, _, rfl, (fun _ => u8_rep hc23) hm, rfl⟩) rfl)⟩, ⟨rfl, ld_fact (j := 8) rfl rfl (fun v22 => ld_val (ov_toStr 0 rfl rfl Tryz.underlying58 Tryz.underlying5 Tryz.underlying9 rfl))⟩, ⟨rfl, ld_eq (j := 4) rfl rfl (ld_eq (j := 9) rfl rfl (ld_val (ov_strAdd hc24 rfl rfl rfl)))⟩, ⟨rfl, ld_val (ov_move rfl rfl)⟩, ⟨rfl, ld_val (ov_fieldA (p := 2) rfl Tryz.underlying57 rfl sz3 rfl rfl rfl)⟩, ⟨rfl, ld_eq (j := 12) rfl rfl (ld_val (ov_load (i := 0) (v := (iq u16.Mode)) rfl rfl Tryz.underlying3 sz3 rfl rfl rfl rfl))⟩, ⟨rfl, ld_eq (j := 11) rfl rfl (ld_eq (j := 13) rfl rfl (ld_callF (vs := [(iq u16.Mode)]) (caps := []) (f_move_record_1_ok fu u16.Mode hc25) rfl [] pre_nil rfl rfl Tryz.func44 rfl rfl rfl))⟩, ⟨rfl, ld_eq (j := 10) rfl rfl (ld_eq (j := 14) rfl rfl (ld_val (ov_strAdd hc27 rfl rfl rfl)))⟩, ⟨rfl, ld_val (ov_fieldA (p := 3) rfl Tryz.underlying57 rfl sz3 rfl rfl rfl)⟩, ⟨rfl, ld_eq (j := 16) rfl rfl (ld_val (ov_load (i := 0) (v := (iq u16.Time)) rfl rfl Tryz.underlying3 sz3 rfl rfl rfl rfl))⟩, ⟨rfl, ld_eq (j := 17) rfl rfl (ld_callV (vs := [(iq u16.Time)]) (f_num_PutInt_ok fu u16.Time hc28) [] pre_nil rfl Tryz.func48 rfl rfl rfl)⟩, ⟨rfl, ld_eq (j := 15) rfl rfl (ld_eq (j := 18) rfl rfl (ld_val (ov_strAdd hc30 rfl rfl rfl)))⟩, ⟨rfl, ld_val (ov_move rfl rfl)⟩, ⟨rfl, ld_val (ov_fieldA (p := 4) rfl Tryz.underlying57 rfl sz9 rfl rfl rfl)⟩, ⟨rfl, ld_eq (j := 21) rfl rfl (ld_val (ov_load (i := 0) (v := (str u16.Bytes)) rfl rfl Tryz.underlying9 sz9 rfl rfl rfl rfl))⟩, ⟨rfl, ld_eq (j := 22) rfl rfl (ld_val (ov_strLen Tryz.underlying9 rfl rfl))⟩, ⟨rfl, ld_eq (j := 20) rfl rfl (ld_eq (j := 23) rfl rfl (ld_callF (vs := [(iq (u16.Bytes.length : Int))]) (caps := []) (f_move_record_1_ok fu (u16.Bytes.length : Int) hc31) rfl [] pre_nil rfl rfl Tryz.func44 rfl rfl rfl))⟩, ⟨rfl, ld_eq (j := 19) rfl rfl (ld_eq (j := 24) rfl rfl (ld_val (ov_strAdd hc33 rfl rfl rfl)))⟩, ⟨rfl, ld_val (ov_fieldA (p := 4) rfl Tryz.underlying57 rfl sz9 rfl rfl rfl)⟩, ⟨rfl, ld_eq (j := 26) rfl rfl (ld_val (ov_load (i := 0) (v := (str u16.Bytes)) rfl rfl Tryz.underlying9 sz9 rfl rfl rfl rfl))⟩, ⟨rfl, ld_eq (j := 25) rfl rfl (ld_eq (j := 27) rfl rfl (ld_val (ov_strAdd hc34 rfl rfl rfl)))⟩, ⟨rfl, ld_eq (j := 0) rfl rfl (ld_eq (j := 28) rfl rfl (ld_val (ov_strAdd hc35 rfl rfl rfl)))⟩, trivial⟩ ?_
   refine tl_eq 29 rfl ?_
   refine tl_done ?_
   refine al_as rfl rfl ?_
   refine al_nil ?_
   refine aq_block ?_
   refine aq_then ?_
   refine aw_region ?_
   refine al_in rfl rfl rfl rfl ?_
   refine al_mv rfl rfl ?_
   refine al_nil ?_
   exact aq_again k13 ((l12s5 ++ (((((r21 ++ ([(UInt8.ofNat ((w8 u16.Kind)).toNat)])) ++ r26) ++ r29) ++ r32) ++ u16.Bytes)), (wq (l12i26 + (1 : Int)))) (Nat.lt_succ_self _) h (fun w a hm hs => norm hm hs [] [1, 2] [(3, (fq 44)), (4, (fq 46)), (5, (str (l12s5 ++ (((((r21 ++ ([(UInt8.ofNat ((w8 u16.Kind)).toNat)])) ++ r26) ++ r29) ++ r32) ++ u16.Bytes)))), (24, v0_2), (25, (iq (a0.World.length : Int))), (26, (iq (wq (l12i26 + (1 : Int)))))] (by decide) ⟨rfl, rfl, rfl, rfl, rfl, rfl, trivial⟩)
  ·replace h := bif_f hb15 h
   refine aw_exit ?_
   refine aq_then_exit ?_
   refine aq_then_exit ?_
   refine aq_block_exit ?_
   exact aq_join l12s5 h (fun w a hm hs => norm hm hs [] [0, 1] [(5, (str l12s5))] (by decide) ⟨rfl, trivial⟩)
def f__binary_littleEndian__Uint64 (fu : Nat) (a0 : Unit) (a1 : (List UInt8)) : Option Int := (opt (at? a1 (7 : Int)) fun (u2 : UInt8) => (opt (at? a1 (0 : Int)) fun (u5 : UInt8) => (opt (at? a1 (1 : Int)) fun (u8 : UInt8) => (opt (at? a1 (2 : Int)) fun (u11 : UInt8) => (opt (at? a1 (3 : Int)) fun (u14 : UInt8) => (opt (at? a1 (4 : Int)) fun (u17 : UInt8) => (opt (at? a1 (5 : Int)) fun (u20 : UInt8) => (opt (at? a1 (6 : Int)) fun (u23 : UInt8) => (opt (at? a1 (7 : Int)) fun (u26 : UInt8) => (some (bits .or .u64 (bits .or .u64 (bits .or .u64 (bits .or .u64 (bits .or .u64 (bits .or .u64 (bits .or .u64 (IntKind.u64.wrap (u5.toNat : Int)) (IntKind.u64.wrap ((IntKind.u64.wrap (u8.toNat : Int)) * 2 ^ min ((8 : Int)).toNat (IntKind.bits .u64)))) (IntKind.u64.wrap ((IntKind.u64.wrap (u11.toNat : Int)) * 2 ^ min ((16 : Int)).toNat (IntKind.bits .u64)))) (IntKind.u64.wrap ((IntKind.u64.wrap (u14.toNat : Int)) * 2 ^ min ((24 : Int)).toNat (IntKind.bits .u64)))) (IntKind.u64.wrap ((IntKind.u64.wrap (u17.toNat : Int)) * 2 ^ min ((32 : Int)).toNat (IntKind.bits .u64)))) (IntKind.u64.wrap ((IntKind.u64.wrap (u20.toNat : Int)) * 2 ^ min ((40 : Int)).toNat (IntKind.bits .u64)))) (IntKind.u64.wrap ((IntKind.u64.wrap (u23.toNat : Int)) * 2 ^ min ((48 : Int)).toNat (IntKind.bits .u64)))) (IntKind.u64.wrap ((IntKind.u64.wrap (u26.toNat : Int)) * 2 ^ min ((56 : Int)).toNat (IntKind.bits .u64))))))))))))))
set_option maxHeartbeats 2000000 in
set_option maxRecDepth 100000 in
theorem f__binary_littleEndian__Uint64_ok (fu : Nat) (a0 : Unit) (v1_0 : Value) (a1 : (List UInt8)) {r : Int} (h : f__binary_littleEndian__Uint64 fu a0 a1 = some r) : FnOk Tryz.prog 148 [(ag []), v1_0] [(fDat (tyList tyU8) [v1_0] a1)] [] (fun (i : Unit) => { val := (int .u64 r) }) := by
 unfold f__binary_littleEndian__Uint64 at h
 refine fn_enter Tryz.func148 rfl Tryz.ntmps148 rfl (fun w0 Z0 => ?_)
 refine aw_sr ?_
 refine al_box (vs := []) rfl (cv_rfl rfl) rfl (fun g1 => ?_)
 refine al_as rfl rfl ?_
 refine al_nt ?_
 refine aw_sr ?_
 refine al_mv rfl rfl ?_
 obtain ⟨u2, hu3, h⟩ := opt_some h
 refine al_idxD 0 hu3 rfl rfl rfl Tryz.underlying58 sz5 rfl (fun p4 => ?_)
 refine al_val (ov_loadP (ds := [(i8 (u2.toNat : Int))]) 0 rfl (fun h => h) rfl Tryz.underlying5 sz5 rfl rfl rfl) ?_
 refine al_nt ?_
 refine aw_seq ?_
 obtain ⟨u5, hu6, h⟩ := opt_some h
 obtain ⟨u8, hu9, h⟩ := opt_some h
 obtain ⟨u11, hu12, h⟩ := opt_some h
 obtain ⟨u14, hu15, h⟩ := opt_some h
 obtain ⟨u17, hu18, h⟩ := opt_some h
 obtain ⟨u20, hu21, h⟩ := opt_some h
 obtain ⟨u23, hu24, h⟩ := opt_some h
 obtain ⟨u26, hu27, h⟩ := opt_some h
 refine aw_region_draw 46 [(8, (fun u => fEq u v1_0)), (9, (fun p7 => (fPtr tyU8 p7 u5))), (10, (fun u => fEq u (i8 (u5.toNat : Int)))), (11, (fun u => fEq u (uq (wu (u5.toNat : Int))))), (12, (fun u => fEq u v1_0)), (13, (fun p10 => (fPtr tyU8 p10 u8))), (14, (fun u => fEq u (i8 (u8.toNat : Int)))), (15, (fun u => fEq u (uq (wu (u8.toNat : Int))))), (16, (fun u => fEq u (uq (wu ((wu (u8.toNat : Int)) * 2 ^ min ((8 : Int)).toNat (IntKind.bits .u64)))))), (17, (fun u => fEq u (uq (bits .or .u64 (wu (u5.toNat : Int)) (wu ((wu (u8.toNat : Int)) * 2 ^ min ((8 : Int)).toNat (IntKind.bits .u64))))))), (18, (fun u => fEq u v1_0)), (19, (fun p13 => (fPtr tyU8 p13 u11))), (20, (fun u => fEq u (i8 (u11.toNat : Int)))), (21, (fun u => fEq u (uq (wu (u11.toNat : Int))))), (22, (fun u => fEq u (uq (wu ((wu (u11.toNat : Int)) * 2 ^ min ((16 : Int)).toNat (IntKind.bits .u64)))))), (23, (fun u => fEq u (uq (bits .or .u64 (bits .or .u64 (wu (u5.toNat : Int)) (wu ((wu (u8.toNat : Int)) * 2 ^ min ((8 : Int)).toNat (IntKind.bits .u64)))) (wu ((wu (u11.toNat : Int)) * 2 ^ min ((16 : Int)).toNat (IntKind.bits .u64))))))), (24, (fun u => fEq u v1_0)), (25, (fun p16 => (fPtr tyU8 p16 u14))), (26, (fun u => fEq u (i8 (u14.toNat : Int)))), (27, (fun u => fEq u (uq (wu (u14.toNat : Int))))), (28, (fun u => fEq u (uq (wu ((wu (u14.toNat : Int)) * 2 ^ min ((24 : Int)).toNat (IntKind.bits .u64)))))), (29, (fun u => fEq u (uq (bits .or .u64 (bits .or .u64 (bits .or .u64 (wu (u5.toNat : Int)) (wu ((wu (u8.toNat : Int)) * 2 ^ min ((8 : Int)).toNat (IntKind.bits .u64)))) (wu ((wu (u11.toNat : Int)) * 2 ^ min ((16 : Int)).toNat (IntKind.bits .u64)))) (wu ((wu (u14.toNat : Int)) * 2 ^ min ((24 : Int)).toNat (IntKind.bits .u64))))))), (30, (fun u => fEq u v1_0)), (31, (fun p19 => (fPtr tyU8 p19 u17))), (32, (fun u => fEq u (i8 (u17.toNat : Int)))), (33, (fun u => fEq u (uq (wu (u17.toNat : Int))))), (34, (fun u => fEq u (uq (wu ((wu (u17.toNat : Int)) * 2 ^ min ((32 : Int)).toNat (IntKind.bits .u64)))))), (35, (fun u => fEq u (uq (bits .or .u64 (bits .or .u64 (bits .or .u64 (bits .or .u64 (wu (u5.toNat : Int)) (wu ((wu (u8.toNat : Int)) * 2 ^ min ((8 : Int)).toNat (IntKind.bits .u64)))) (wu ((wu (u11.toNat : Int)) * 2 ^ min ((16 : Int)).toNat (IntKind.bits .u64)))) (wu ((wu (u14.toNat : Int)) * 2 ^ min ((24 : Int)).toNat (IntKind.bits .u64)))) (wu ((wu (u17.toNat : Int)) * 2 ^ min ((32 : Int)).toNat (IntKind.bits .u64))))))), (36, (fun u => fEq u v1_0)), (37, (fun p22 => (fPtr tyU8 p22 u20))), (38, (fun u => fEq u (i8 (u20.toNat : Int)))), (39, (fun u => fEq u (uq (wu (u20.toNat : Int))))), (40, (fun u => fEq u (uq (wu ((wu (u20.toNat : Int)) * 2 ^ min ((40 : Int)).toNat (IntKind.bits .u64)))))), (41, (fun u => fEq u (uq (bits .or .u64 (bits .or .u64 (bits .or .u64 (bits .or .u64 (bits .or .u64 (wu (u5.toNat : Int)) (wu ((wu (u8.toNat : Int)) * 2 ^ min ((8 : Int)).toNat (IntKind.bits .u64)))) (wu ((wu (u11.toNat : Int)) * 2 ^ min ((16 : Int)).toNat (IntKind.bits .u64)))) (wu ((wu (u14.toNat : Int)) * 2 ^ min ((24 : Int)).toNat (IntKind.bits .u64)))) (wu ((wu (u17.toNat : Int)) * 2 ^ min ((32 : Int)).toNat (IntKind.bits .u64)))) (wu ((wu (u20.toNat : Int)) * 2 ^ min ((40 : Int)).toNat (IntKind.bits .u64))))))), (42, (fun u => fEq u v1_0)), (43, (fun p25 => (fPtr tyU8 p25 u23))), (44, (fun u => fEq u (i8 (u23.toNat : Int)))), (45, (fun u => fEq u (uq (wu (u23.toNat : Int))))), (46, (fun u => fEq u (uq (wu ((wu (u23.toNat : Int)) * 2 ^ min ((48 : Int)).toNat (IntKind.bits .u64)))))), (47, (fun u => fEq u (uq (bits .or .u64 (bits .or .u64 (bits .or .u64 (bits .or .u64 (bits .or .u64 (bits .or .u64 (wu (u5.toNat : Int)) (wu ((wu (u8.toNat : Int)) * 2 ^ min ((8 : Int)).toNat (IntKind.bits .u64)))) (wu ((wu (u11.toNat : Int)) * 2 ^ min ((16 : Int)).toNat (IntKind.bits .u64)))) (wu ((wu (u14.toNat : Int)) * 2 ^ min ((24 : Int)).toNat (IntKind.bits .u64)))) (wu ((wu (u17.toNat : Int)) * 2 ^ min ((32 : Int)).toNat (IntKind.bits .u64)))) (wu ((wu (u20.toNat : Int)) * 2 ^ min ((40 : Int)).toNat (IntKind.bits .u64)))) (wu ((wu (u23.toNat : Int)) * 2 ^ min ((48 : Int)).toNat (IntKind.bits .u64))))))), (48, (fun u => fEq u v1_0)), (49, (fun p28 => (fPtr tyU8 p28 u26))), (50, (fun u => fEq u (i8 (u26.toNat : Int)))), (51, (fun u => fEq u (uq (wu (u26.toNat : Int))))), (52, (fun u => fEq u (uq (wu ((wu (u26.toNat : Int)) * 2 ^ min ((56 : Int)).toNat (IntKind.bits .u64)))))), (53, (fun u => fEq u (uq (bits .or .u64 (bits .or .u64 (bits .or .u64 (bits .or .u64 (bits .or .u64 (bits .or .u64 (bits .or .u64 (wu (u5.toNat : Int)) (wu ((wu (u8.toNat : Int)) * 2 ^ min ((8 : Int)).toNat (IntKind.bits .u64)))) (wu ((wu (u11.toNat : Int)) * 2 ^ min ((16 : Int)).toNat (IntKind.bits .u64)))) (wu ((wu (u14.toNat : Int)) * 2 ^ min ((24 : Int)).toNat (IntKind.bits .u64)))) (wu ((wu (u17.toNat : Int)) * 2 ^ min ((32 : Int)).toNat (IntKind.bits .u64)))) (wu ((wu (u20.toNat : Int)) * 2 ^ min ((40 : Int)).toNat (IntKind.bits .u64)))) (wu ((wu (u23.toNat : Int)) * 2 ^ min ((48 : Int)).toNat (IntKind.bits .u64)))) (wu ((wu (u26.toNat : Int)) * 2 ^ min ((56 : Int)).toNat (IntKind.bits .u64)))))))] (tab [(1, v1_0), (4, (uq (0 : Int)))]) mixed (by kernel_rfl) rfl rfl rfl (fun a hs => hs.tab _ (allT_mem ⟨rfl, rfl, trivial⟩)) ⟨⟨rfl, ld_val (ov_move rfl rfl)⟩, ⟨rfl, ld_eq (j := 0) rfl rfl (ld_of (of_idxD 1 hu6 rfl rfl rfl Tryz.underlying58 sz5 rfl))⟩, ⟨rfl, ld_fact (j := 1) rfl rfl (fun p7 => ld_val (ov_loadP (ds := [(i8 (u5.toNat : Int))]) 0 rfl (fun h => h) rfl Tryz.underlying5 sz5 rfl rfl rfl))⟩, ⟨rfl, ld_eq (j := 2) rfl rfl (ld_val (ov_convInt (by rw [Tryz.underlying5]; rfl) Tryz.underlying55 rfl rfl))⟩, ⟨rfl, ld_val (ov_move rfl rfl)⟩, ⟨rfl, ld_eq (j := 4) rfl rfl (ld_of (of_idxD 1 hu9 rfl rfl rfl Tryz.underlying58 sz5 rfl))⟩, ⟨rfl, ld_fact (j := 5) rfl rfl (fun p10 => ld_val (ov_loadP (ds := [(i8 (u8.toNat : Int))]) 0 rfl (fun h => h) rfl Tryz.underlying5 sz5 rfl rfl rfl))⟩, ⟨rfl, ld_eq (j := 6) rfl rfl (ld_val (ov_convInt (by rw [Tryz.underlying5]; rfl) Tryz.underlying55 rfl rfl))⟩, ⟨rfl, ld_eq (j := 7) rfl rfl (ld_val (ov_shl (by decide) rfl rfl rfl))⟩, ⟨rfl, ld_eq (j := 3) rfl rfl (ld_eq (j := 8) rfl rfl (ld_val (ov_int rfl rfl rfl rfl)))⟩, ⟨rfl, ld_val (ov_move rfl rfl)⟩, ⟨rfl, ld_eq (j := 10) rfl rfl (ld_of (of_idxD 1 hu12 rfl rfl rfl Tryz.underlying58 sz5 rfl))⟩, ⟨rfl, ld_fact (j := 11) rfl rfl (fun p13 => ld_val (ov_loadP (ds := [(i8 (u11.toNat : Int))]) 0 rfl (fun h => h) rfl Tryz.underlying5 sz5 rfl rfl rfl))⟩, ⟨rfl, ld_eq (j := 12) rfl rfl (ld_val (ov_convInt (by rw [Tryz.underlying5]; rfl) Tryz.underlying55 rfl rfl))⟩, ⟨rfl, ld_eq (j := 13) rfl rfl (ld_val (ov_shl (by decide) rfl rfl rfl))⟩, ⟨rfl, ld_eq (j := 9) rfl rfl (ld_eq (j := 14) rfl rfl (ld_val (ov_int rfl rfl rfl rfl)))⟩, ⟨rfl, ld_val (ov_move rfl rfl)⟩, ⟨rfl, ld_eq (j := 16) rfl rfl (ld_of (of_idxD 1 hu15 rfl rfl rfl Tryz.underlying58 sz5 rfl))⟩, ⟨rfl, ld_fact (j := 17) rfl rfl (fun p16 => ld_val (ov_loadP (ds := [(i8 (u14.toNat : Int))]) 0 rfl (fun h => h) rfl Tryz.underlying5 sz5 rfl rfl rfl))⟩, ⟨rfl, ld_eq (j := 18) rfl rfl (ld_val (ov_convInt (by rw [Tryz.underlying5]; rfl) Tryz.underlying55 rfl rfl))⟩, ⟨rfl, ld_eq (j := 19) rfl rfl (ld_val (ov_shl (by decide) rfl rfl rfl))⟩, ⟨rfl, ld_eq (j := 15) rfl rfl (ld_eq (j := 20) rfl rfl (ld_val (ov_int rfl rfl rfl rfl)))⟩, ⟨rfl, ld_val (ov_move rfl rfl)⟩, ⟨rfl, ld_eq (j := 22) rfl rfl (ld_of (of_idxD 1 hu18 rfl rfl rfl Tryz.underlying58 sz5 rfl))⟩, ⟨rfl, ld_fact (j := 23) rfl rfl (fun p19 => ld_val (ov_loadP (ds := [(i8 (u17.toNat : Int))]) 0 rfl (fun h => h) rfl Tryz.underlying5 sz5 rfl rfl rfl))⟩, ⟨rfl, ld_eq (j := 24) rfl rfl (ld_val (ov_convInt (by rw [Tryz.underlying5]; rfl) Tryz.underlying55 rfl rfl))⟩, ⟨rfl, ld_eq (j := 25) rfl rfl (ld_val (ov_shl (by decide) rfl rfl rfl))⟩, ⟨rfl, ld_eq (j := 21) rfl rfl (ld_eq (j := 26) rfl rfl (ld_val (ov_int rfl rfl rfl rfl)))⟩, ⟨rfl, ld_val (ov_move rfl rfl)⟩, ⟨rfl, ld_eq (j := 28) rfl rfl (ld_of (of_idxD 1 hu21 rfl rfl rfl Tryz.underlying58 sz5 rfl))⟩, ⟨rfl, ld_fact (j := 29) rfl rfl (fun p22 => ld_val (ov_loadP (ds := [(i8 (u20.toNat : Int))]) 0 rfl (fun h => h) rfl Tryz.underlying5 sz5 rfl rfl rfl))⟩, ⟨rfl, ld_eq (j := 30) rfl rfl (ld_val (ov_convInt (by rw [Tryz.underlying5]; rfl) Tryz.underlying55 rfl rfl))⟩, ⟨rfl, ld_eq (j := 31) rfl rfl (ld_val (ov_shl (by decide) rfl rfl rfl))⟩, ⟨rfl, ld_eq (j := 27) rfl rfl (ld_eq (j := 32) rfl rfl (ld_val (ov_int rfl rfl rfl rfl)))⟩, ⟨rfl, ld_val (ov_move rfl rfl)⟩, ⟨rfl, ld_eq (j := 34) rfl rfl (ld_of (of_idxD 1 hu24 rfl rfl rfl Tryz.underlying58 sz5 rfl))⟩, ⟨rfl, ld_fact (j := 35) rfl rfl (fun p25 => ld_val (ov_loadP (ds := [(i8 (u23.toNat : Int))]) 0 rfl (fun h => h) rfl Tryz.underlying5 sz5 rfl rfl rfl))⟩, ⟨rfl, ld_eq (j := 36) rfl rfl (ld_val (ov_convInt (by rw [Tryz.underlying5]; rfl) Tryz.underlying55 rfl rfl))⟩, ⟨rfl, ld_eq (j := 37) rfl rfl (ld_val (ov_shl (by decide) rfl rfl rfl))⟩, ⟨rfl, ld_eq (j := 33) rfl rfl (ld_eq (j := 38) rfl rfl (ld_val (ov_int rfl rfl rfl rfl)))⟩, ⟨rfl, ld_val (ov_move rfl rfl)⟩, ⟨rfl, ld_eq (j := 40) rfl rfl (ld_of (of_idxD 1 hu27 rfl rfl rfl Tryz.underlying58 sz5 rfl))⟩, ⟨rfl, ld_fact (j := 41) rfl rfl (fun p28 => ld_val (ov_loadP (ds := [(i8 (u26.toNat : Int))]) 0 rfl (fun h => h) rfl Tryz.underlying5 sz5 rfl rfl rfl))⟩, ⟨rfl, ld_eq (j := 42) rfl rfl (ld_val (ov_convInt (by rw [Tryz.underlying5]; rfl) Tryz.underlying55 rfl rfl))⟩, ⟨rfl, ld_eq (j := 43) rfl rfl (ld_val (ov_shl (by decide) rfl rfl rfl))⟩, ⟨rfl, ld_eq (j := 39) rfl rfl (ld_eq (j := 44) rfl rfl (ld_val (ov_int rfl rfl rfl rfl)))⟩, trivial⟩ ?_
 refine tl_eq 45 rfl ?_
 refine tl_done ?_
 refine al_as rfl rfl ?_
 refine al_nt ?_
 refine aw_ret ?_
 obtain rfl := Option.some.inj h
 exact fn_ret () [] [] rfl rfl rfl rfl (res1 rfl rfl) rfl rfl rfl (by decide)
def f_mix_Step (fu : Nat) (a0 : Int) (a1 : Int) : Option Int := (some (bits .xor .u64 (IntKind.u64.wrap ((bits .xor .u64 (IntKind.u64.wrap ((bits .xor .u64 a0 a1) * (11400714819323198485 : Int))) (((IntKind.u64.wrap ((bits .xor .u64 a0 a1) * (11400714819323198485 : Int)))).fdiv (2 ^ min ((29 : Int)).toNat (IntKind.bits .u64)))) * (13787848793156543929 : Int))) (((IntKind.u64.wrap ((bits .xor .u64 (IntKind.u64.wrap ((bits .xor .u64 a0 a1) * (11400714819323198485 : Int))) (((IntKind.u64.wrap ((bits .xor .u64 a0 a1) * (11400714819323198485 : Int)))).fdiv (2 ^ min ((29 : Int)).toNat (IntKind.bits .u64)))) * (13787848793156543929 : Int)))).fdiv (2 ^ min ((32 : Int)).toNat (IntKind.bits .u64)))))
set_option maxHeartbeats 2000000 in
set_option maxRecDepth 100000 in
theorem f_mix_Step_ok (fu : Nat) (a0 : Int) (a1 : Int) {r : Int} (h : f_mix_Step fu a0 a1 = some r) : FnOk Tryz.prog 147 [(int .u64 a0), (int .u64 a1)] [] [] (fun (i : Unit) => { val := (int .u64 r) }) := by
 unfold f_mix_Step at h
 refine fn_enter Tryz.func147 rfl Tryz.ntmps147 rfl (fun w0 Z0 => ?_)
 refine aw_sr ?_
 refine al_as rfl rfl ?_
 refine al_nt ?_
 refine aw_sr ?_
 refine al_mv rfl rfl ?_
 refine al_mv rfl rfl ?_
 refine al_in rfl rfl rfl rfl ?_
 refine al_in rfl rfl rfl rfl ?_
 refine al_as rfl rfl ?_
 refine al_nt ?_
 refine aw_sr ?_
 refine al_mv rfl rfl ?_
 refine al_mv rfl rfl ?_
 refine al_val (ov_shr (by decide) rfl rfl rfl) ?_
 refine al_in rfl rfl rfl rfl ?_
 refine al_in rfl rfl rfl rfl ?_
 refine al_as rfl rfl ?_
 refine al_nt ?_
 refine aw_sr ?_
 refine al_mv rfl rfl ?_
 refine al_mv rfl rfl ?_
 refine al_val (ov_shr (by decide) rfl rfl rfl) ?_
 refine al_in rfl rfl rfl rfl ?_
 refine al_as rfl rfl ?_
 refine al_nt ?_
 refine aw_ret ?_
 obtain rfl := Option.some.inj h
 exact fn_ret () [] [] rfl rfl rfl rfl (res1 rfl rfl) rfl rfl rfl (by decide)
def f_mix_sum_L7 (a1 : Int) (kk2 : (Int → Option Int)) (fu : Nat) : Nat → (List UInt8) → Int → Option Int
  | 0, _, _ => none
  | k6 + 1, l5s0, l5i5 => (bif (!(l5s0 == ([] : List UInt8))) then (req (0 ≤ ((Nat.min l5s0.length 8 : Nat) : Int) ∧ ((Nat.min l5s0.length 8 : Nat) : Int) ≤ (l5s0.length : Int)) (opt (f__binary_littleEndian__Uint64 fu () (lA8u8 (cpA8u8 (A8u8.mk (0 : UInt8) (0 : UInt8) (0 : UInt8) (0 : UInt8) (0 : UInt8) (0 : UInt8) (0 : UInt8) (0 : UInt8)) l5s0))) fun (r13 : Int) => (opt (f_mix_Step fu l5i5 r13) fun (r15 : Int) => (f_mix_sum_L7 a1 kk2 fu k6 (l5s0.drop (((Nat.min l5s0.length 8 : Nat) : Int)).toNat) (bits .and .u64 r15 a1))))) else (kk2 l5i5))
def f_mix_sum (fu : Nat) (a0 : (List UInt8)) (a1 : Int) : Option Int := (lt (fun (j1i5 : Int) => (opt (f_mix_Step fu j1i5 (IntKind.u64.wrap (a0.length : Int))) fun (r4 : Int) => (some (bits .and .u64 r4 a1)))) fun (kk2 : Int → Option Int) => (f_mix_sum_L7 a1 kk2 fu fu a0 (0 : Int)))
set_option maxHeartbeats 2000000 in
set_option maxRecDepth 100000 in
theorem f_mix_sum_ok (fu : Nat) (a0 : (List UInt8)) (a1 : Int) {r : Int} (h : f_mix_sum fu a0 a1 = some r) : FnOk Tryz.prog 121 [(str a0), (int .u64 a1)] [] [] (fun (i : Unit) => { val := (int .u64 r) }) := by
 unfold f_mix_sum at h
 refine fn_enter Tryz.func121 rfl Tryz.ntmps121 rfl (fun w0 Z0 => ?_)
 refine aw_sr ?_
 refine al_as rfl rfl ?_
 refine al_nt ?_
 refine aw_sr ?_
 refine al_mv rfl rfl ?_
 refine al_val (ov_strLen Tryz.underlying9 rfl rfl) ?_
 refine al_val (ov_convInt (by rw [Tryz.underlying3]; rfl) Tryz.underlying55 rfl rfl) ?_
 refine al_as rfl rfl ?_
 refine al_as rfl rfl ?_
 refine al_nt ?_
 obtain ⟨kk2, hkk2, h⟩ := lt_some h
 refine aw_seq_join (ι := Int) (fun i => (memOf w0 Z0 [] [] [])) (fun i => (tab [(1, (uq a1)), (5, (uq i)), (6, (uq (wu (a0.length : Int))))])) (fun i => kk2 i = some r) ?_ ?_
 ·rintro j1i5 h
  have h : kk2 j1i5 = some r := h
  rw [hkk2] at h
  dsimp only at h
  clear hkk2
  refine aw_show (m := (memOf w0 Z0 [] [] [])) (S := (tab [(1, (uq a1)), (5, (uq j1i5)), (6, (uq (wu (a0.length : Int))))])) ?_
  refine aw_sr ?_
  refine al_mv rfl rfl ?_
  refine al_mv rfl rfl ?_
  obtain ⟨r4, hc3, h⟩ := opt_some h
  refine al_call (vs := [(uq j1i5), (uq (wu (a0.length : Int)))]) (f_mix_Step_ok fu j1i5 (wu (a0.length : Int)) hc3) [] [] [] pre_nil rfl (by simp) (by decide) (.inl rfl) rfl Tryz.func147 rfl rfl rfl (fun _ => ?_)
  refine al_mv rfl rfl ?_
  refine al_in rfl rfl rfl rfl ?_
  refine al_as rfl rfl ?_
  refine al_nt ?_
  refine aw_ret ?_
  obtain rfl := Option.some.inj h
  exact fn_ret () [] [] rfl rfl rfl rfl (res1 rfl rfl) rfl rfl rfl (by decide)
 ·clear hkk2
  refine aw_block ?_
  refine aw_state (aw_loop (ι := (List UInt8) × Int) (fun i => (memOf w0 Z0 [] [] [])) (fun i => (tab [(0, (str i.1)), (1, (uq a1)), (5, (uq i.2)), (6, (uq (wu (a0.length : Int))))])) (fun q i => f_mix_sum_L7 a1 kk2 fu q i.1 i.2 = some r) ?_ fu (a0, (0 : Int)) h) (fun w a hm hs => norm hm hs [] [] [(0, (str a0)), (1, (uq a1)), (5, (uq (0 : Int))), (6, (uq (wu (a0.length : Int))))] (by decide) ⟨rfl, rfl, rfl, rfl, trivial⟩)
  clear h
  rintro k6 ⟨l5s0, l5i5⟩ h
  have h : f_mix_sum_L7 a1 kk2 fu k6 l5s0 l5i5 = some r := h
  obtain _ | k6 := k6
  · rw [f_mix_sum_L7] at h; cases h
  rw [f_mix_sum_L7] at h
  refine aw_show (m := (memOf w0 Z0 [] [] [])) (S := (tab [(0, (str l5s0)), (1, (uq a1)), (5, (uq l5i5)), (6, (uq (wu (a0.length : Int))))])) ?_
  refine aw_seq ?_
  refine aw_sr ?_
  refine al_mv rfl rfl ?_
  refine al_val (ov_strCmp rfl rfl rfl rfl) ?_
  refine al_nt ?_
  refine aw_cond rfl (fun hb8 => ?_) (fun hb8 => ?_)
  ·replace h := bif_t hb8 h
   refine aw_skip ?_
   refine aq_then ?_
   refine aw_block ?_
   refine aw_sr ?_
   refine al_alloc (zs := (cA8u8 (A8u8.mk (0 : UInt8) (0 : UInt8) (0 : UInt8) (0 : UInt8) (0 : UInt8) (0 : UInt8) (0 : UInt8) (0 : UInt8)))) (zeroOf_to to36) rfl rfl (fun g9 => ?_)
   refine al_nt ?_
   refine aw_sr ?_
   refine al_mv rfl rfl ?_
   refine al_val (ov_sliceBox (i := 0) rfl rfl Tryz.underlying36 sz5 rfl) ?_
   refine al_mv rfl rfl ?_
   refine al_copyS (i := 0) (cs := (cA8u8 (A8u8.mk (0 : UInt8) (0 : UInt8) (0 : UInt8) (0 : UInt8) (0 : UInt8) (0 : UInt8) (0 : UInt8) (0 : UInt8)))) (cs' := (cA8u8 (cpA8u8 (A8u8.mk (0 : UInt8) (0 : UInt8) (0 : UInt8) (0 : UInt8) (0 : UInt8) (0 : UInt8) (0 : UInt8) (0 : UInt8)) l5s0))) rfl rfl rfl Tryz.underlying58 sz5 rfl (cpcA8u8 (A8u8.mk (0 : UInt8) (0 : UInt8) (0 : UInt8) (0 : UInt8) (0 : UInt8) (0 : UInt8) (0 : UInt8) (0 : UInt8)) l5s0 [] []) rfl ?_
   obtain ⟨hc10, h⟩ := req_some h
   refine al_val (ov_strFrom hc10.1 hc10.2 Tryz.underlying9 rfl rfl rfl) ?_
   refine al_as rfl rfl ?_
   refine al_nt ?_
   refine aw_freezeB 0 ((cpA8u8 (A8u8.mk (0 : UInt8) (0 : UInt8) (0 : UInt8) (0 : UInt8) (0 : UInt8) (0 : UInt8) (0 : UInt8) (0 : UInt8)) l5s0)) rfl rfl (fun _ _ => mkA8u8 rfl) ?_
   obtain ⟨r13, hc12, h⟩ := opt_some h
   obtain ⟨r15, hc14, h⟩ := opt_some h
   refine aw_region_draw 7 [(18, (fun u => fEq u (uq l5i5))), (19, (fun u => fEq u (ag []))), (20, (fun s11 => (fDat (tyList tyU8) [s11] (lA8u8 (cpA8u8 (A8u8.mk (0 : UInt8) (0 : UInt8) (0 : UInt8) (0 : UInt8) (0 : UInt8) (0 : UInt8) (0 : UInt8) (0 : UInt8)) l5s0))))), (21, (fun u => fEq u (uq r13))), (22, (fun u => fEq u (uq r15))), (23, (fun u => fEq u (uq a1))), (24, (fun u => fEq u (uq (bits .and .u64 r15 a1))))] (tab [(0, (str (l5s0.drop (((Nat.min l5s0.length 8 : Nat) : Int)).toNat))), (1, (uq a1)), (5, (uq l5i5)), (6, (uq (wu (a0.length : Int)))), (7, (pq g9))]) mixed (by kernel_rfl) rfl rfl rfl (fun a hs => hs.tab _ (allT_mem ⟨rfl, rfl, rfl, rfl, rfl, trivial⟩)) ⟨⟨rfl, ld_val (ov_move rfl rfl)⟩, ⟨rfl, ld_val (ov_load0 Tryz.underlying178 sz178 rfl rfl rfl)⟩, ⟨rfl, ld_of (of_sliceP 0 lrepA8u8 rfl rfl rfl rfl Tryz.underlying36 sz5 rfl)⟩, ⟨rfl, ld_eq (j := 1) rfl rfl (ld_fact (j := 2) rfl rfl (fun s11 => ld_callV (vs := [(ag []), s11]) (f__binary_littleEndian__Uint64_ok fu () s11 (lA8u8 (cpA8u8 (A8u8.mk (0 : UInt8) (0 : UInt8) (0 : UInt8) (0 : UInt8) (0 : UInt8) (0 : UInt8) (0 : UInt8) (0 : UInt8)) l5s0)) hc12) [] (pre_fz 0 rfl pre_nil) rfl Tryz.func148 rfl rfl rfl))⟩, ⟨rfl, ld_eq (j := 0) rfl rfl (ld_eq (j := 3) rfl rfl (ld_callV (vs := [(uq l5i5), (uq r13)]) (f_mix_Step_ok fu l5i5 r13 hc14) [] pre_nil rfl Tryz.func147 rfl rfl rfl))⟩, ⟨rfl, ld_val (ov_move rfl rfl)⟩, ⟨rfl, ld_eq (j := 4) rfl rfl (ld_eq (j := 5) rfl rfl (ld_val (ov_int rfl rfl rfl rfl)))⟩, trivial⟩ ?_
   refine tl_eq 6 rfl ?_
   refine tl_done ?_
   refine al_as rfl rfl ?_
   refine al_nil ?_
   refine aq_block ?_
   exact aq_again k6 ((l5s0.drop (((Nat.min l5s0.length 8 : Nat) : Int)).toNat), (bits .and .u64 r15 a1)) (Nat.lt_succ_self _) h (fun w a hm hs => norm hm hs [] [] [(0, (str (l5s0.drop (((Nat.min l5s0.length 8 : Nat) : Int)).toNat))), (1, (uq a1)), (5, (uq (bits .and .u64 r15 a1))), (6, (uq (wu (a0.length : Int))))] (by decide) ⟨rfl, rfl, rfl, rfl, trivial⟩)
  ·replace h := bif_f hb8 h
   refine aw_exit ?_
   refine aq_then_exit ?_
   refine aq_then_exit ?_
   refine aq_block_exit ?_
   exact aq_join l5i5 h (fun w a hm hs => norm hm hs [] [] [(1, (uq a1)), (5, (uq l5i5)), (6, (uq (wu (a0.length : Int))))] (by decide) ⟨rfl, rfl, rfl, trivial⟩)
def f_mix_Sum (fu : Nat) (a0 : (List UInt8)) : Option Int := (opt (f_mix_sum fu a0 (18446744073709551615 : Int)) fun (r2 : Int) => (some r2))
set_option maxRecDepth 100000 in
theorem f_mix_Sum_ok (fu : Nat) (a0 : (List UInt8)) {r : Int} (h : f_mix_Sum fu a0 = some r) : FnOk Tryz.prog 88 [(str a0)] [] [] (fun (i : Unit) => { val := (int .u64 r) }) := by
 unfold f_mix_Sum at h
 refine fn_enter Tryz.func88 rfl Tryz.ntmps88 rfl (fun w0 Z0 => ?_)
 refine aw_sr ?_
 refine al_as rfl rfl ?_
 refine al_nt ?_
 refine aw_sr ?_
 refine al_mv rfl rfl ?_
 obtain ⟨r2, hc1, h⟩ := opt_some h
 refine al_call (vs := [(str a0), (uq (18446744073709551615 : Int))]) (f_mix_sum_ok fu a0 (18446744073709551615 : Int) hc1) [] [] [] pre_nil rfl (by simp) (by decide) (.inl rfl) rfl Tryz.func121 rfl rfl rfl (fun _ => ?_)
 refine al_as rfl rfl ?_
 refine al_nt ?_
 refine aw_ret ?_
 obtain rfl := Option.some.inj h
 exact fn_ret () [] [] rfl rfl rfl rfl (res1 rfl rfl) rfl rfl rfl (by decide)
-- STUCK (encoding/binary.bigEndian).PutUint64: IndexError string index out of range at par:696
def f_mix_ID (fu : Nat) (a0 : (List UInt8)) : Option A8u8 := (opt (f_mix_Sum fu a0) fun (r4 : Int) => (req (0 ≤ r4 ∧ r4 < 18446744073709551616) (some (cpA8u8 (A8u8.mk (0 : UInt8) (0 : UInt8) (0 : UInt8) (0 : UInt8) (0 : UInt8) (0 : UInt8) (0 : UInt8) (0 : UInt8)) (Lib.beBytes 8 (r4).toNat)))))
set_option maxRecDepth 100000 in
theorem f_mix_ID_ok (fu : Nat) (a0 : (List UInt8)) {r : A8u8} (h : f_mix_ID fu a0 = some r) : FnOk Tryz.prog 56 [(str a0)] [] [] (fun (i : Unit) => { val := (ag (cA8u8 r)) }) := by
 unfold f_mix_ID at h
 refine fn_enter Tryz.func56 rfl Tryz.ntmps56 rfl (fun w0 Z0 => ?_)
 refine aw_sr ?_
 refine al_alloc (zs := (cA8u8 (A8u8.mk (0 : UInt8) (0 : UInt8) (0 : UInt8) (0 : UInt8) (0 : UInt8) (0 : UInt8) (0 : UInt8) (0 : UInt8)))) (zeroOf_to to37) rfl rfl (fun g1 => ?_)
 refine al_nt ?_
 refine aw_sr ?_
 refine al_alloc (zs := (cA8u8 (A8u8.mk (0 : UInt8) (0 : UInt8) (0 : UInt8) (0 : UInt8) (0 : UInt8) (0 : UInt8) (0 : UInt8) (0 : UInt8)))) (zeroOf_to to37) rfl rfl (fun g2 => ?_)
 refine al_nt ?_
 refine aw_seq ?_
 obtain ⟨r4, hc3, h⟩ := opt_some h
 refine aw_region_draw 4 [(4, (fun u => fEq u (ag []))), (5, (fun u => fEq u (sbx g2 0 8))), (6, (fun u => fEq u (str a0))), (7, (fun u => fEq u (uq r4)))] (tab [(0, (str a0)), (2, (pq g1)), (3, (pq g2))]) mixed (by kernel_rfl) rfl rfl rfl (fun a hs => hs.tab _ (allT_mem ⟨rfl, rfl, rfl, trivial⟩)) ⟨⟨rfl, ld_val (ov_load0 Tryz.underlying122 sz122 rfl rfl rfl)⟩, ⟨rfl, ld_val (ov_sliceBox (i := 0) rfl rfl Tryz.underlying37 sz5 rfl)⟩, ⟨rfl, ld_val (ov_move rfl rfl)⟩, ⟨rfl, ld_eq (j := 2) rfl rfl (ld_callV (vs := [(str a0)]) (f_mix_Sum_ok fu a0 hc3) [] pre_nil rfl Tryz.func88 rfl rfl rfl)⟩, trivial⟩ ?_
 refine tl_eq 0 rfl ?_
 refine tl_eq 1 rfl ?_
 refine tl_eq 3 rfl ?_
 refine tl_done ?_
 obtain ⟨hc5, h⟩ := req_some h
 refine al_call (vs := [(ag []), (sbx g2 0 8), (uq r4)]) (f_put8_ok (g := g2) (off := 0) (t := 37) (a2 := r4) (cs := (cA8u8 (A8u8.mk (0 : UInt8) (0 : UInt8) (0 : UInt8) (0 : UInt8) (0 : UInt8) (0 : UInt8) (0 : UInt8) (0 : UInt8)))) (cs' := (cA8u8 (cpA8u8 (A8u8.mk (0 : UInt8) (0 : UInt8) (0 : UInt8) (0 : UInt8) (0 : UInt8) (0 : UInt8) (0 : UInt8) (0 : UInt8)) (Lib.beBytes 8 (r4).toNat)))) hc5 (Nat.le_of_ble_eq_true rfl) (cpcA8u8 (A8u8.mk (0 : UInt8) (0 : UInt8) (0 : UInt8) (0 : UInt8) (0 : UInt8) (0 : UInt8) (0 : UInt8) (0 : UInt8)) (Lib.beBytes 8 (r4).toNat) [] [])) [] [0] [1] pre_nil rfl (by simp) (by decide) (.inl rfl) rfl Tryz.func87 rfl rfl rfl (fun _ => ?_)
 refine al_nt ?_
 refine aw_sr ?_
 refine al_val (ov_load (i := 0) (v := (ag (cA8u8 (cpA8u8 (A8u8.mk (0 : UInt8) (0 : UInt8) (0 : UInt8) (0 : UInt8) (0 : UInt8) (0 : UInt8) (0 : UInt8) (0 : UInt8)) (Lib.beBytes 8 (r4).toNat))))) rfl rfl Tryz.underlying37 sz37 rfl rfl rfl rfl) ?_
 refine al_store (i := 1) (vs := (cA8u8 (cpA8u8 (A8u8.mk (0 : UInt8) (0 : UInt8) (0 : UInt8) (0 : UInt8) (0 : UInt8) (0 : UInt8) (0 : UInt8) (0 : UInt8)) (Lib.beBytes 8 (r4).toNat)))) (cs' := (cA8u8 (cpA8u8 (A8u8.mk (0 : UInt8) (0 : UInt8) (0 : UInt8) (0 : UInt8) (0 : UInt8) (0 : UInt8) (0 : UInt8) (0 : UInt8)) (Lib.beBytes 8 (r4).toNat)))) rfl rfl rfl sz37 (cv_rfl rfl) rfl (co_all (oneA8u8 (cpA8u8 (A8u8.mk (0 : UInt8) (0 : UInt8) (0 : UInt8) (0 : UInt8) (0 : UInt8) (0 : UInt8) (0 : UInt8) (0 : UInt8)) (Lib.beBytes 8 (r4).toNat)))) (Nat.le_of_ble_eq_true rfl) rfl rfl ?_
 refine al_nt ?_
 refine aw_ret ?_
 obtain rfl := Option.some.inj h
 exact fn_ret () [] [] rfl rfl rfl rfl (resC rfl (resB (i := 1) rfl rfl Tryz.underlying37 sz37 rfl rfl rfl (resN)) rfl) rfl rfl rfl (by decide)
def f_journal_Frame (fu : Nat) (a0 : (List UInt8)) : Option ((List UInt8) × Int) := (bif (decide ((a0.length : Int) > (4096 : Int))) then (some (([] : List UInt8), (2 : Int))) else (opt (f_num_Put fu (IntKind.u64.wrap (a0.length : Int))) fun (r3 : (List UInt8)) => (req (r3.length + a0.length ≤ 9223372036854775807) (opt (f_mix_ID fu (r3 ++ a0)) fun (r6 : A8u8) => (req ((r3 ++ a0).length + (lA8u8 r6).length ≤ 9223372036854775807) (some (((r3 ++ a0) ++ (lA8u8 r6)), (0 : Int))))))))
set_option maxHeartbeats 2000000 in
set_option maxRecDepth 100000 in
theorem f_journal_Frame_ok (fu : Nat) (a0 : (List UInt8)) {r : ((List UInt8) × Int)} (h : f_journal_Frame fu a0 = some r) : FnOk Tryz.prog 49 [(str a0)] [] [] (fun (i : Unit) => { val := (Value.tuple #[(str r.1), (int .i64 r.2)]) }) := by
 unfold f_journal_Frame at h
 refine fn_enter Tryz.func49 rfl Tryz.ntmps49 rfl (fun w0 Z0 => ?_)
 refine aw_sr ?_
 refine al_as rfl rfl ?_
 refine al_as rfl rfl ?_
 refine al_nt ?_
 refine aw_seq ?_
 refine aw_sr ?_
 refine al_mv rfl rfl ?_
 refine al_val (ov_strLen Tryz.underlying9 rfl rfl) ?_
 refine al_in rfl rfl rfl rfl ?_
 refine al_nt ?_
 refine aw_cond rfl (fun hb1 => ?_) (fun hb1 => ?_)
 ·replace h := bif_t hb1 h
  refine aw_sr ?_
  refine al_as rfl rfl ?_
  refine al_as rfl rfl ?_
  refine al_nt ?_
  refine aw_ret ?_
  refine aq_then_ret ?_
  obtain rfl := Option.some.inj h
  exact fn_ret () [] [] rfl rfl rfl rfl (res2 rfl rfl rfl) rfl rfl rfl (by decide)
 ·replace h := bif_f hb1 h
  refine aw_skip ?_
  refine aq_tr ?_
  refine al_mv rfl rfl ?_
  refine al_val (ov_strLen Tryz.underlying9 rfl rfl) ?_
  refine al_val (ov_convInt (by rw [Tryz.underlying3]; rfl) Tryz.underlying55 rfl rfl) ?_
  obtain ⟨r3, hc2, h⟩ := opt_some h
  refine al_call (vs := [(uq (wu (a0.length : Int)))]) (f_num_Put_ok fu (wu (a0.length : Int)) hc2) [] [] [] pre_nil rfl (by simp) (by decide) (.inl rfl) rfl Tryz.func45 rfl rfl rfl (fun _ => ?_)
  refine al_mv rfl rfl ?_
  obtain ⟨hc4, h⟩ := req_some h
  refine al_val (ov_strAdd hc4 rfl rfl rfl) ?_
  refine al_as rfl rfl ?_
  refine al_nt ?_
  refine aw_sr ?_
  refine al_mv rfl rfl ?_
  obtain ⟨r6, hc5, h⟩ := opt_some h
  refine al_call (vs := [(str (r3 ++ a0))]) (f_mix_ID_ok fu (r3 ++ a0) hc5) [] [] [] pre_nil rfl (by simp) (by decide) (.inl rfl) rfl Tryz.func56 rfl rfl rfl (fun _ => ?_)
  refine al_alloc (zs := (cA8u8 (A8u8.mk (0 : UInt8) (0 : UInt8) (0 : UInt8) (0 : UInt8) (0 : UInt8) (0 : UInt8) (0 : UInt8) (0 : UInt8)))) (zeroOf_to to37) rfl rfl (fun g7 => ?_)
  refine al_store (i := 0) (vs := (cA8u8 r6)) (cs' := (cA8u8 r6)) rfl rfl rfl sz37 (cv_rfl rfl) rfl (co_all (oneA8u8 r6)) (Nat.le_of_ble_eq_true rfl) rfl rfl ?_
  refine al_nt ?_
  refine aw_seq ?_
  refine aw_freezeB 0 (r6) rfl rfl (fun _ _ => mkA8u8 rfl) ?_
  refine aw_region ?_
  refine al_mv rfl rfl ?_
  refine al_of (of_sliceP 0 lrepA8u8 rfl rfl rfl rfl Tryz.underlying37 sz5 rfl) (fun s8 => ?_)
  refine al_val (ov_toStr 0 rfl rfl Tryz.underlying58 Tryz.underlying5 Tryz.underlying9 rfl) ?_
  obtain ⟨hc9, h⟩ := req_some h
  refine al_val (ov_strAdd hc9 rfl rfl rfl) ?_
  refine al_as rfl rfl ?_
  refine al_as rfl rfl ?_
  refine al_nt ?_
  refine aw_ret ?_
  obtain rfl := Option.some.inj h
  exact fn_ret () [] [] rfl rfl rfl rfl (res2 rfl rfl rfl) rfl rfl rfl (by decide)
def f_journal_All_L5 (a0 : (List (List UInt8))) (kk2 : ((List UInt8) → Option ((List UInt8) × Int))) (fu : Nat) : Nat → (List UInt8) → Int → Option ((List UInt8) × Int)
  | 0, _, _ => none
  | k4 + 1, l3x4, l3i11 => (bif (decide (l3i11 < (a0.length : Int))) then (opt (at? a0 l3i11) fun (u7 : (List UInt8)) => (opt (f_journal_Frame fu u7) fun (r11 : ((List UInt8) × Int)) => (bif (r11.2 != (0 : Int)) then (some (([] : List UInt8), r11.2)) else (req (l3x4.length + r11.1.length ≤ 140737488355328) (bif (decide (((l3x4 ++ r11.1).length : Int) > (65536 : Int))) then (some (([] : List UInt8), (2 : Int))) else (f_journal_All_L5 a0 kk2 fu k4 (l3x4 ++ r11.1) (IntKind.i64.wrap (l3i11 + (1 : Int))))))))) else (kk2 l3x4))
def f_journal_All (fu : Nat) (a0 : (List (List UInt8))) : Option ((List UInt8) × Int) := (lt (fun (j1x4 : (List UInt8)) => (some (j1x4, (0 : Int)))) fun (kk2 : (List UInt8) → Option ((List UInt8) × Int)) => (f_journal_All_L5 a0 kk2 fu fu ([] : List UInt8) (0 : Int)))
set_option maxHeartbeats 2000000 in
set_option maxRecDepth 100000 in
theorem f_journal_All_ok (fu : Nat) (v0_0 : Value) (a0 : (List (List UInt8))) {r : ((List UInt8) × Int)} (h : f_journal_All fu a0 = some r) : FnOk Tryz.prog 19 [v0_0] [(fDat (tyList tyStr) [v0_0] a0)] [] (fun (i : Unit) => { val := (Value.tuple #[(str r.1), (int .i64 r.2)]) }) := by
 unfold f_journal_All at h
 refine fn_enter Tryz.func19 rfl Tryz.ntmps19 rfl (fun w0 Z0 => ?_)
 refine aw_sr ?_
 refine al_as rfl rfl ?_
 refine al_as rfl rfl ?_
 refine al_nt ?_
 refine aw_sr ?_
 refine al_as rfl rfl ?_
 refine al_nt ?_
 obtain ⟨kk2, hkk2, h⟩ := lt_some h
 refine aw_seq_join (ι := Value × (List UInt8)) (fun i => (memOf w0 Z0 [] [(oRow i.1 5 tyU8 i.2)] [(fDat (tyList tyStr) [v0_0] a0)])) (fun i => (tab [(4, i.1)])) (fun i => kk2 i.2 = some r) ?_ ?_
 ·rintro ⟨j1v4, j1x4⟩ h
  have h : kk2 j1x4 = some r := h
  rw [hkk2] at h
  dsimp only at h
  clear hkk2
  refine aw_show (m := (memOf w0 Z0 [] [(oRow j1v4 5 tyU8 j1x4)] [(fDat (tyList tyStr) [v0_0] a0)])) (S := (tab [(4, j1v4)])) ?_
  refine aw_sr ?_
  refine al_mv rfl rfl ?_
  refine al_val (ov_toStrR 0 rfl rfl Tryz.underlying58 Tryz.underlying5 Tryz.underlying9 rfl) ?_
  refine al_as rfl rfl ?_
  refine al_as rfl rfl ?_
  refine al_nt ?_
  refine aw_ret ?_
  obtain rfl := Option.some.inj h
  exact fn_ret () [] [] rfl rfl rfl rfl (res2 rfl rfl rfl) rfl rfl rfl (by decide)
 ·clear hkk2
  refine aw_sr ?_
  refine al_mv rfl rfl ?_
  refine al_val (ov_lenD 0 rfl rfl Tryz.underlying47 rfl) ?_
  refine al_mv rfl rfl ?_
  refine al_nt ?_
  refine aw_block ?_
  refine aw_nilR 5 tyU8 ?_
  refine aw_state (aw_loop (ι := Value × (List UInt8) × Int) (fun i => (memOf w0 Z0 [] [(oRow i.1 5 tyU8 i.2.1)] [(fDat (tyList tyStr) [v0_0] a0)])) (fun i => (tab [(4, i.1), (9, v0_0), (10, (iq (a0.length : Int))), (11, (iq i.2.2))])) (fun q i => f_journal_All_L5 a0 kk2 fu q i.2.1 i.2.2 = some r) ?_ fu (nS, ([] : List UInt8), (0 : Int)) h) (fun w a hm hs => norm hm hs [0] [0] [(4, nS), (9, v0_0), (10, (iq (a0.length : Int))), (11, (iq (0 : Int)))] (by decide) ⟨rfl, rfl, rfl, rfl, trivial⟩)
  clear h
  rintro k4 ⟨l3v4, l3x4, l3i11⟩ h
  have h : f_journal_All_L5 a0 kk2 fu k4 l3x4 l3i11 = some r := h
  obtain _ | k4 := k4
  · rw [f_journal_All_L5] at h; cases h
  rw [f_journal_All_L5] at h
  refine aw_show (m := (memOf w0 Z0 [] [(oRow l3v4 5 tyU8 l3x4)] [(fDat (tyList tyStr) [v0_0] a0)])) (S := (tab [(4, l3v4), (9, v0_0), (10, (iq (a0.length : Int))), (11, (iq l3i11))])) ?_
  refine aw_sr ?_
  refine al_in rfl rfl rfl rfl ?_
  refine al_nt ?_
  refine aw_seq ?_
  refine aw_cond rfl (fun hb6 => ?_) (fun hb6 => ?_)
  ·replace h := bif_t hb6 h
   refine aw_skip ?_
   refine aq_then ?_
   refine aw_seq ?_
   refine aw_block ?_
   refine aw_sr ?_
   obtain ⟨u7, hu8, h⟩ := opt_some h
   refine al_idxD 0 hu8 rfl rfl rfl Tryz.underlying47 sz9 rfl (fun p9 => ?_)
   refine al_val (ov_loadP (ds := [(str u7)]) 0 rfl (fun h => h) rfl Tryz.underlying9 sz9 rfl rfl rfl) ?_
   refine al_as rfl rfl ?_
   refine al_nt ?_
   refine aw_sr ?_
   refine al_mv rfl rfl ?_
   obtain ⟨r11, hc10, h⟩ := opt_some h
   refine al_call (vs := [(str u7)]) (f_journal_Frame_ok fu u7 hc10) [] [] [0] pre_nil rfl (by simp) (by decide) (.inl rfl) rfl Tryz.func49 rfl rfl rfl (fun _ => ?_)
   refine al_mv rfl rfl ?_
   refine al_ex rfl rfl rfl ?_
   refine al_ex rfl rfl rfl ?_
   refine al_as rfl rfl ?_
   refine al_as rfl rfl ?_
   refine al_nt ?_
   refine aw_seq ?_
   refine aw_sr ?_
   refine al_mv rfl rfl ?_
   refine al_in rfl rfl rfl rfl ?_
   refine al_nt ?_
   refine aw_cond rfl (fun hb12 => ?_) (fun hb12 => ?_)
   ·replace h := bif_t hb12 h
    refine aw_sr ?_
    refine al_mv rfl rfl ?_
    refine al_as rfl rfl ?_
    refine al_as rfl rfl ?_
    refine al_nt ?_
    refine aw_ret ?_
    refine aq_then_ret ?_
    refine aq_block_ret ?_
    refine aq_then_ret ?_
    refine aq_then_ret ?_
    refine aq_block_ret ?_
    refine aq_then_ret ?_
    obtain rfl := Option.some.inj h
    exact fn_ret () [] [] rfl rfl rfl rfl (res2 rfl rfl rfl) rfl rfl rfl (by decide)
   ·replace h := bif_f hb12 h
    refine aw_skip ?_
    refine aq_tr ?_
    refine al_mv rfl rfl ?_
    refine al_mv rfl rfl ?_
    obtain ⟨hc13, h⟩ := req_some h
    refine al_appendS 0 hc13 rfl rfl rfl Tryz.underlying58 Tryz.underlying9 to5 rfl (fun v14 => ?_)
    refine al_as rfl rfl ?_
    refine al_nt ?_
    refine aw_sr ?_
    refine al_mv rfl rfl ?_
    refine al_val (ov_lenR 0 rfl rfl Tryz.underlying58 rfl) ?_
    refine al_in rfl rfl rfl rfl ?_
    refine al_nt ?_
    refine aw_cond rfl (fun hb15 => ?_) (fun hb15 => ?_)
    ·replace h := bif_t hb15 h
     refine aw_sr ?_
     refine al_as rfl rfl ?_
     refine al_as rfl rfl ?_
     refine al_nt ?_
     refine aw_ret ?_
     refine aq_block_ret ?_
     refine aq_then_ret ?_
     refine aq_then_ret ?_
     refine aq_block_ret ?_
     refine aq_then_ret ?_
     obtain rfl := Option.some.inj h
     exact fn_ret () [] [] rfl rfl rfl rfl (res2 rfl rfl rfl) rfl rfl rfl (by decide)
    ·replace h := bif_f hb15 h
     refine aw_skip ?_
     refine aq_block ?_
     refine aq_then ?_
     refine aw_region ?_
     refine al_in rfl rfl rfl rfl ?_
     refine al_mv rfl rfl ?_
     refine al_nil ?_
     exact aq_again k4 (v14, (l3x4 ++ r11.1), (wq (l3i11 + (1 : Int)))) (Nat.lt_succ_self _) h (fun w a hm hs => norm hm hs [0] [1] [(4, v14), (9, v0_0), (10, (iq (a0.length : Int))), (11, (iq (wq (l3i11 + (1 : Int)))))] (by decide) ⟨rfl, rfl, rfl, rfl, trivial⟩)
  ·replace h := bif_f hb6 h
   refine aw_exit ?_
   refine aq_then_exit ?_
   refine aq_then_exit ?_
   refine aq_block_exit ?_
   exact aq_join (l3v4, l3x4) h (fun w a hm hs => norm hm hs [0] [0] [(4, l3v4)] (by decide) ⟨rfl, trivial⟩)
def f_move_Pack_L10 (a0 : (List S_api_Old)) (kk5 : ((List (List UInt8)) → Option ((List UInt8) × Int))) (fu : Nat) : Nat → (List (List UInt8)) → Int → Option ((List UInt8) × Int)
  | 0, _, _ => none
  | k9 + 1, l8x5, l8i15 => (bif (decide (l8i15 < (a0.length : Int))) then (opt (at? a0 l8i15) fun (u12 : S_api_Old) => (opt (f_move_record fu u12) fun (r19 : (List UInt8)) => (req (((l8x5.length + ([r19]).length) * 16 : Nat) ≤ 140737488355328 ∧ l8x5.length + ([r19]).length ≤ 9223372036854775807) (f_move_Pack_L10 a0 kk5 fu k9 (l8x5 ++ ([r19])) (IntKind.i64.wrap (l8i15 + (1 : Int))))))) else (kk5 l8x5))
def f_move_Pack (fu : Nat) (a0 : (List S_api_Old)) : Option ((List UInt8) × Int) := (opt (f_move_check fu a0) fun (r2 : Int) => (bif (r2 != (0 : Int)) then (some (([] : List UInt8), r2)) else (lt (fun (j4x5 : (List (List UInt8))) => (opt (f_journal_All fu j4x5) fun (r7 : ((List UInt8) × Int)) => (some (r7.1, r7.2)))) fun (kk5 : (List (List UInt8)) → Option ((List UInt8) × Int)) => (f_move_Pack_L10 a0 kk5 fu fu ([] : List (List UInt8)) (0 : Int)))))
set_option maxHeartbeats 2000000 in
set_option maxRecDepth 100000 in
theorem f_move_Pack_ok (fu : Nat) (v0_0 : Value) (a0 : (List S_api_Old)) {r : ((List UInt8) × Int)} (h : f_move_Pack fu a0 = some r) : FnOk Tryz.prog 5 [v0_0] [(fDat (tyList tyS_api_Old) [v0_0] a0), uMax, uTabs] [] (fun (i : Unit) => { val := (Value.tuple #[(str r.1), (int .i64 r.2)]) }) := by
 unfold f_move_Pack at h
 refine fn_enter Tryz.func5 rfl Tryz.ntmps5 rfl (fun w0 Z0 => ?_)
 refine aw_sr ?_
 refine al_as rfl rfl ?_
 refine al_as rfl rfl ?_
 refine al_nt ?_
 refine aw_seq ?_
 refine aw_sr ?_
 refine al_mv rfl rfl ?_
 obtain ⟨r2, hc1, h⟩ := opt_some h
 refine al_call (vs := [v0_0]) (f_move_check_ok fu v0_0 a0 hc1) [] [] [] (pre_fz 0 rfl (pre_fz 1 rfl (pre_fz 2 rfl pre_nil))) rfl (by simp) (by decide) (.inl rfl) rfl Tryz.func17 rfl rfl rfl (fun _ => ?_)
 refine al_as rfl rfl ?_
 refine al_nt ?_
 refine aw_sr ?_
 refine al_mv rfl rfl ?_
 refine al_in rfl rfl rfl rfl ?_
 refine al_nt ?_
 refine aw_cond rfl (fun hb3 => ?_) (fun hb3 => ?_)
 ·replace h := bif_t hb3 h
  refine aw_sr ?_
  refine al_mv rfl rfl ?_
  refine al_as rfl rfl ?_
  refine al_as rfl rfl ?_
  refine al_nt ?_
  refine aw_ret ?_
  refine aq_then_ret ?_
  obtain rfl := Option.some.inj h
  exact fn_ret () [] [] rfl rfl rfl rfl (res2 rfl rfl rfl) rfl rfl rfl (by decide)
 ·replace h := bif_f hb3 h
  refine aw_skip ?_
  refine aq_tr ?_
  refine al_as rfl rfl ?_
  refine al_nt ?_
  obtain ⟨kk5, hkk5, h⟩ := lt_some h
  refine aw_seq_join (ι := Value × (List (List UInt8))) (fun i => (memOf w0 Z0 [] [(oRow i.1 9 tyStr i.2)] [(fDat (tyList tyS_api_Old) [v0_0] a0), uMax, uTabs])) (fun i => (tab [(5, i.1)])) (fun i => kk5 i.2 = some r) ?_ ?_
  ·rintro ⟨j4v5, j4x5⟩ h
   have h : kk5 j4x5 = some r := h
   rw [hkk5] at h
   dsimp only at h
   clear hkk5
   refine aw_show (m := (memOf w0 Z0 [] [(oRow j4v5 9 tyStr j4x5)] [(fDat (tyList tyS_api_Old) [v0_0] a0), uMax, uTabs])) (S := (tab [(5, j4v5)])) ?_
   refine aw_sr ?_
   refine al_mv rfl rfl ?_
   obtain ⟨r7, hc6, h⟩ := opt_some h
   refine al_call (vs := [j4v5]) (f_journal_All_ok fu j4v5 j4x5 hc6) [0] [] [0] (pre_own 0 rfl rfl pre_nil) rfl (by simp) (by decide) (.inr flat_res0) rfl Tryz.func19 rfl rfl rfl (fun _ => ?_)
   refine al_ex rfl rfl rfl ?_
   refine al_ex rfl rfl rfl ?_
   refine al_as rfl rfl ?_
   refine al_as rfl rfl ?_
   refine al_nt ?_
   refine aw_ret ?_
   obtain rfl := Option.some.inj h
   exact fn_ret () [] [] rfl rfl rfl rfl (res2 rfl rfl rfl) rfl rfl rfl (by decide)
  ·clear hkk5
   refine aw_sr ?_
   refine al_mv rfl rfl ?_
   refine al_val (ov_lenD 0 rfl rfl Tryz.underlying22 rfl) ?_
   refine al_mv rfl rfl ?_
   refine al_nt ?_
   refine aw_block ?_
   refine aw_nilR 9 tyStr ?_
   refine aw_state (aw_loop (ι := Value × (List (List UInt8)) × Int) (fun i => (memOf w0 Z0 [] [(oRow i.1 9 tyStr i.2.1)] [(fDat (tyList tyS_api_Old) [v0_0] a0), uMax, uTabs])) (fun i => (tab [(5, i.1), (13, v0_0), (14, (iq (a0.length : Int))), (15, (iq i.2.2))])) (fun q i => f_move_Pack_L10 a0 kk5 fu q i.2.1 i.2.2 = some r) ?_ fu (nS, ([] : List (List UInt8)), (0 : Int)) h) (fun w a hm hs => norm hm hs [0] [0, 1, 2] [(5, nS), (13, v0_0), (14, (iq (a0.length : Int))), (15, (iq (0 : Int)))] (by decide) ⟨rfl, rfl, rfl, rfl, trivial⟩)
   clear h
   rintro k9 ⟨l8v5, l8x5, l8i15⟩ h
   have h : f_move_Pack_L10 a0 kk5 fu k9 l8x5 l8i15 = some r := h
   obtain _ | k9 := k9
   · rw [f_move_Pack_L10] at h; cases h
   rw [f_move_Pack_L10] at h
   refine aw_show (m := (memOf w0 Z0 [] [(oRow l8v5 9 tyStr l8x5)] [(fDat (tyList tyS_api_Old) [v0_0] a0), uMax, uTabs])) (S := (tab [(5, l8v5), (13, v0_0), (14, (iq (a0.length : Int))), (15, (iq l8i15))])) ?_
   refine aw_sr ?_
   refine al_in rfl rfl rfl rfl ?_
   refine al_nt ?_
   refine aw_seq ?_
   refine aw_cond rfl (fun hb11 => ?_) (fun hb11 => ?_)
   ·replace h := bif_t hb11 h
    refine aw_skip ?_
    refine aq_then ?_
    refine aw_seq ?_
    refine aw_block ?_
    refine aw_sr ?_
    obtain ⟨u12, hu13, h⟩ := opt_some h
    refine al_idxD 0 hu13 rfl rfl rfl Tryz.underlying22 sz49 rfl (fun p14 => ?_)
    refine al_loadPA 0 rfl rfl Tryz.underlying49 sz49 rfl rfl (fun cs16 => ?_)
    refine al_use (ι := Value) 0 rfl (fun j => cs16 = [(str u12.Name), (iq u12.Time), j]) (fun j => [(fDat (tyList tyS_api_Item) [j] u12.World)]) encnS_api_Old (fun s15 hq => ?_)
    subst hq
    refine al_alloc (zs := [(str ([] : List UInt8)), (iq (0 : Int)), nS]) (zeroOf_to to49) rfl rfl (fun g17 => ?_)
    refine al_store (i := 0) (vs := [(str u12.Name), (iq u12.Time), s15]) (cs' := [(str u12.Name), (iq u12.Time), s15]) rfl rfl rfl sz49 (cv_rfl rfl) rfl (co_val rfl (co_val rfl (co_fz 0 rfl co_nil))) (Nat.le_of_ble_eq_true rfl) rfl rfl ?_
    refine al_nt ?_
    refine aw_region ?_
    refine al_mv rfl rfl ?_
    refine al_val (ov_load (i := 0) (v := (ag [(str u12.Name), (iq u12.Time), s15])) rfl rfl Tryz.underlying49 sz49 rfl rfl rfl rfl) ?_
    obtain ⟨r19, hc18, h⟩ := opt_some h
    refine al_call (vs := [(ag [(str u12.Name), (iq u12.Time), s15])]) (f_move_record_ok fu s15 u12 hc18) [] [] [0, 1] (pre_fz 0 rfl (pre_fz 4 rfl pre_nil)) rfl (by simp) (by decide) (.inl rfl) rfl Tryz.func18 rfl rfl rfl (fun _ => ?_)
    refine al_buildSlice (τ := tyStr) (e := 9) (k := 1) (sz := 0) (by_ := 0) (z := undef) (cs := [(str r19)]) (xs := [r19]) rfl (by decide) (fun w a hm hs => ⟨([(str r19)]).toArray, rfl, by simp only [List.map_toArray, List.map_cons, List.map_nil, hs.ev (x := .tmp 21) rfl]; exact run_bs [(str r19)] [(str r19)] Tryz.underlying47 to9 rfl rfl (bs_cons (l := [(str r19)]) (cs := []) (cv_rfl rfl) rfl bs_nil) hm⟩) (fun hm => ⟨_, _, rfl, (fun _ => rfl) hm, rfl⟩) rfl (fun v20 => ?_)
    obtain ⟨hc21, h⟩ := req_some h
    refine al_append 2 hc21.1 hc21.2 rfl (src_own (i := 2) 0 rfl) rfl rfl Tryz.underlying47 to9 rfl rfl rfl (fun v22 => ?_)
    refine al_as rfl rfl ?_
    refine al_nil ?_
    refine aq_block ?_
    refine aq_then ?_
    refine aw_region ?_
    refine al_in rfl rfl rfl rfl ?_
    refine al_mv rfl rfl ?_
    refine al_nil ?_
    exact aq_again k9 (v22, (l8x5 ++ ([r19])), (wq (l8i15 + (1 : Int)))) (Nat.lt_succ_self _) h (fun w a hm hs => norm hm hs [2] [3, 4, 5] [(5, v22), (13, v0_0), (14, (iq (a0.length : Int))), (15, (iq (wq (l8i15 + (1 : Int)))))] (by decide) ⟨rfl, rfl, rfl, rfl, trivial⟩)
   ·replace h := bif_f hb11 h
    refine aw_exit ?_
    refine aq_then_exit ?_
    refine aq_then_exit ?_
    refine aq_block_exit ?_
    exact aq_join (l8v5, l8x5) h (fun w a hm hs => norm hm hs [0] [0, 1, 2] [(5, l8v5)] (by decide) ⟨rfl, trivial⟩)
def f_lumref_char_L20 (a0 : (List UInt8)) (j4i5 : Int) (kk8 : (Int → Option (Int × Int))) : Nat → Int → Int → Option (Int × Int)
  | 0, _, _ => none
  | k19 + 1, l18i4, l18i53 => (bif (decide (l18i53 < ((cut a0 (1 : Int) j4i5).length : Int))) then (opt (at? (cut a0 (1 : Int) j4i5) l18i53) fun (u22 : UInt8) => (lt (fun (j25b62 : Bool) => (bif j25b62 then (some ((0 : Int), (0 : Int))) else (f_lumref_char_L20 a0 j4i5 kk8 k19 (IntKind.i64.wrap ((IntKind.i64.wrap ((IntKind.i64.wrap ((64 : Int) * l18i4)) + (IntKind.i64.wrap (u22.toNat : Int)))) - (128 : Int))) (IntKind.i64.wrap (l18i53 + (1 : Int)))))) fun (kk26 : Bool → Option (Int × Int)) => (bif (decide ((u22.toNat : Int) < (128 : Int))) then (kk26 true) else (kk26 (decide ((u22.toNat : Int) > (191 : Int))))))) else (kk8 l18i4))
def f_lumref_char (fu : Nat) (a0 : (List UInt8)) : Option (Int × Int) := (bif (a0 == ([] : List UInt8)) then (some ((0 : Int), (0 : Int))) else (req (0 ≤ (0 : Int) ∧ (0 : Int) < (a0.length : Int)) (bif (decide ((IntKind.i64.wrap (En.bAt a0 (0 : Int))) < (128 : Int))) then (some ((IntKind.i64.wrap (En.bAt a0 (0 : Int))), (1 : Int))) else (lt (fun (j4i4 : Int) (j4i5 : Int) (j4i6 : Int) => (bif (decide ((a0.length : Int) < j4i5)) then (some ((0 : Int), (0 : Int))) else (lt (fun (j7i4 : Int) => (lt (fun (j9b84 : Bool) => (bif j9b84 then (some ((0 : Int), (0 : Int))) else (some (j7i4, j4i5)))) fun (kk10 : Bool → Option (Int × Int)) => (bif (decide (j7i4 < j4i6)) then (kk10 true) else (bif (decide (j7i4 > (1114111 : Int))) then (kk10 true) else (bif (decide (j7i4 ≥ (55296 : Int))) then (kk10 (decide (j7i4 < (57344 : Int)))) else (kk10 false)))))) fun (kk8 : Int → Option (Int × Int)) => (req (0 ≤ (1 : Int) ∧ (1 : Int) ≤ j4i5 ∧ j4i5 ≤ (a0.length : Int)) (req ((cut a0 (1 : Int) j4i5).length ≤ 9223372036854775807) (f_lumref_char_L20 a0 j4i5 kk8 fu j4i4 (0 : Int))))))) fun (kk5 : Int → Int → Int → Option (Int × Int)) => (lt (fun (j29b17 : Bool) => (bif j29b17 then (kk5 (IntKind.i64.wrap ((IntKind.i64.wrap (En.bAt a0 (0 : Int))) - (192 : Int))) (2 : Int) (128 : Int)) else (lt (fun (j32b26 : Bool) => (bif j32b26 then (kk5 (IntKind.i64.wrap ((IntKind.i64.wrap (En.bAt a0 (0 : Int))) - (224 : Int))) (3 : Int) (2048 : Int)) else (lt (fun (j35b35 : Bool) => (bif j35b35 then (kk5 (IntKind.i64.wrap ((IntKind.i64.wrap (En.bAt a0 (0 : Int))) - (240 : Int))) (4 : Int) (65536 : Int)) else (some ((0 : Int), (0 : Int))))) fun (kk36 : Bool → Option (Int × Int)) => (bif (decide ((IntKind.i64.wrap (En.bAt a0 (0 : Int))) ≥ (240 : Int))) then (kk36 (decide ((IntKind.i64.wrap (En.bAt a0 (0 : Int))) < (245 : Int)))) else (kk36 false))))) fun (kk33 : Bool → Option (Int × Int)) => (bif (decide ((IntKind.i64.wrap (En.bAt a0 (0 : Int))) ≥ (224 : Int))) then (kk33 (decide ((IntKind.i64.wrap (En.bAt a0 (0 : Int))) < (240 : Int)))) else (kk33 false))))) fun (kk30 : Bool → Option (Int × Int)) => (bif (decide ((IntKind.i64.wrap (En.bAt a0 (0 : Int))) ≥ (194 : Int))) then (kk30 (decide ((IntKind.i64.wrap (En.bAt a0 (0 : Int))) < (224 : Int)))) else (kk30 false)))))))
set_option maxRecDepth 100000 in
set_option maxHeartbeats 2000000 in
set_option maxHeartbeats 2000000 in
theorem f_lumref_char_ok (fu : Nat) (a0 : (List UInt8)) {r : (Int × Int)} (h : f_lumref_char fu a0 = some r) : FnOk Tryz.prog 112 [(str a0)] [] [] (fun (i : Unit) => { val := (Value.tuple #[(int .i64 r.1), (int .i64 r.2)]) }) := by
 unfold f_lumref_char at h
 refine fn_enter Tryz.func112 rfl Tryz.ntmps112 rfl (fun w0 Z0 => ?_)
 refine aw_sr ?_
 refine al_as rfl rfl ?_
 refine al_as rfl rfl ?_
 refine al_nt ?_
 refine aw_seq ?_
 refine aw_sr ?_
 refine al_mv rfl rfl ?_
 refine al_val (ov_strCmp rfl rfl rfl rfl) ?_
 refine al_nt ?_
 refine aw_cond rfl (fun hb1 => ?_) (fun hb1 => ?_)
 ·replace h := bif_t hb1 h
  refine aw_sr ?_
  refine al_as rfl rfl ?_
  refine al_as rfl rfl ?_
  refine al_nt ?_
  refine aw_ret ?_
  refine aq_then_ret ?_
  obtain rfl := Option.some.inj h
  exact fn_ret () [] [] rfl rfl rfl rfl (res2 rfl rfl rfl) rfl rfl rfl (by decide)
 ·replace h := bif_f hb1 h
  refine aw_skip ?_
  refine aq_tr ?_
  refine al_mv rfl rfl ?_
  obtain ⟨hc2, h⟩ := req_some h
  refine al_val (ov_strIdx hc2.1 hc2.2 Tryz.underlying9 rfl rfl rfl) ?_
  refine al_val (ov_convInt (by rw [Tryz.underlying5]; rfl) Tryz.underlying3 rfl rfl) ?_
  refine al_as rfl rfl ?_
  refine al_nt ?_
  refine aw_seq ?_
  refine aw_sr ?_
  refine al_mv rfl rfl ?_
  refine al_in rfl rfl rfl rfl ?_
  refine al_nt ?_
  refine aw_cond rfl (fun hb3 => ?_) (fun hb3 => ?_)
  ·replace h := bif_t hb3 h
   refine aw_sr ?_
   refine al_mv rfl rfl ?_
   refine al_as rfl rfl ?_
   refine al_as rfl rfl ?_
   refine al_nt ?_
   refine aw_ret ?_
   refine aq_then_ret ?_
   obtain rfl := Option.some.inj h
   exact fn_ret () [] [] rfl rfl rfl rfl (res2 rfl rfl rfl) rfl rfl rfl (by decide)
  ·replace h := bif_f hb3 h
   refine aw_skip ?_
   refine aq_tr ?_
   refine al_as rfl rfl ?_
   refine al_as rfl rfl ?_
   refine al_nt ?_
   obtain ⟨kk5, hkk5, h⟩ := lt_some h
   refine aw_seq_join (ι := Int × Int × Int) (fun i => (memOf w0 Z0 [] [] [])) (fun i => (tab [(0, (str a0)), (4, (iq i.1)), (5, (iq i.2.1)), (6, (iq i.2.2))])) (fun i => kk5 i.1 i.2.1 i.2.2 = some r) ?_ ?_
   ·rintro ⟨j4i4, j4i5, j4i6⟩ h
    have h : kk5 j4i4 j4i5 j4i6 = some r := h
    rw [hkk5] at h
    dsimp only at h
    clear hkk5
    refine aw_show (m := (memOf w0 Z0 [] [] [])) (S := (tab [(0, (str a0)), (4, (iq j4i4)), (5, (iq j4i5)), (6, (iq j4i6))])) ?_
    refine aw_seq ?_
    refine aw_sr ?_
    refine al_mv rfl rfl ?_
    refine al_val (ov_strLen Tryz.underlying9 rfl rfl) ?_
    refine al_mv rfl rfl ?_
    refine al_in rfl rfl rfl rfl ?_
    refine al_nt ?_
    refine aw_cond rfl (fun hb6 => ?_) (fun hb6 => ?_)
    ·replace h := bif_t hb6 h
     refine aw_sr ?_
     refine al_as rfl rfl ?_
     refine al_as rfl rfl ?_
     refine al_nt ?_
     refine aw_ret ?_
     refine aq_then_ret ?_
     obtain rfl := Option.some.inj h
     exact fn_ret () [] [] rfl rfl rfl rfl (res2 rfl rfl rfl) rfl rfl rfl (by decide)
    ·replace h := bif_f hb6 h
     refine aw_skip ?_
     refine aq_then ?_
     obtain ⟨kk8, hkk8, h⟩ := lt_some h
     refine aw_seq_join (ι := Int) (fun i => (memOf w0 Z0 [] [] [])) (fun i => (tab [(4, (iq i)), (5, (iq j4i5)), (6, (iq j4i6))])) (fun i => kk8 i = some r) ?_ ?_
     ·rintro j7i4 h
      have h : kk8 j7i4 = some r := h
      rw [hkk8] at h
      dsimp only at h
      clear hkk8
      refine aw_show (m := (memOf w0 Z0 [] [] [])) (S := (tab [(4, (iq j7i4)), (5, (iq j4i5)), (6, (iq j4i6))])) ?_
      refine aw_seq ?_
      obtain ⟨kk10, hkk10, h⟩ := lt_some h
      refine aw_seq_join (ι := Bool) (fun i => (memOf w0 Z0 [] [] [])) (fun i => (tab [(4, (iq j7i4)), (5, (iq j4i5)), (84, (bool i))])) (fun i => kk10 i = some r) ?_ ?_
      ·rintro j9b84 h
       have h : kk10 j9b84 = some r := h
       rw [hkk10] at h
       dsimp only at h
       clear hkk10
       refine aw_show (m := (memOf w0 Z0 [] [] [])) (S := (tab [(4, (iq j7i4)), (5, (iq j4i5)), (84, (bool j9b84))])) ?_
       refine aw_cond rfl (fun hb11 => ?_) (fun hb11 => ?_)
       ·replace h := bif_t hb11 h
        refine aw_sr ?_
        refine al_as rfl rfl ?_
        refine al_as rfl rfl ?_
        refine al_nt ?_
        refine aw_ret ?_
        refine aq_then_ret ?_
        obtain rfl := Option.some.inj h
        exact fn_ret () [] [] rfl rfl rfl rfl (res2 rfl rfl rfl) rfl rfl rfl (by decide)
       ·replace h := bif_f hb11 h
        refine aw_skip ?_
        refine aq_tr ?_
        refine al_mv rfl rfl ?_
        refine al_mv rfl rfl ?_
        refine al_as rfl rfl ?_
        refine al_as rfl rfl ?_
        refine al_nt ?_
        refine aw_ret ?_
        obtain rfl := Option.some.inj h
        exact fn_ret () [] [] rfl rfl rfl rfl (res2 rfl rfl rfl) rfl rfl rfl (by decide)
      ·clear hkk10
       refine aw_region ?_
       refine al_mv rfl rfl ?_
       refine al_mv rfl rfl ?_
       refine al_in rfl rfl rfl rfl ?_
       refine al_mv rfl rfl ?_
       refine al_caseB 73 rfl (fun hb12 => ?_) (fun hb12 => ?_)
       ·replace h := bif_t hb12 h
        refine al_skip ?_
        refine al_skip ?_
        refine al_val (ov_pick_t rfl rfl rfl) ?_
        refine al_mv rfl rfl ?_
        refine al_skip ?_
        refine al_skip ?_
        refine al_skip ?_
        refine al_skip ?_
        refine al_skip ?_
        refine al_skip ?_
        refine al_val (ov_pick_t rfl rfl rfl) ?_
        refine al_nil ?_
        exact aq_join true h (fun w a hm hs => norm hm hs [] [] [(4, (iq j7i4)), (5, (iq j4i5)), (84, (bool true))] (by decide) ⟨rfl, rfl, rfl, trivial⟩)
       ·replace h := bif_f hb12 h
        refine al_mv rfl rfl ?_
        refine al_in rfl rfl rfl rfl ?_
        refine al_val (ov_pick_f rfl rfl rfl) ?_
        refine al_mv rfl rfl ?_
        refine al_caseB 77 rfl (fun hb13 => ?_) (fun hb13 => ?_)
        ·replace h := bif_t hb13 h
         refine al_skip ?_
         refine al_skip ?_
         refine al_skip ?_
         refine al_skip ?_
         refine al_skip ?_
         refine al_skip ?_
         refine al_val (ov_pick_t rfl rfl rfl) ?_
         refine al_nil ?_
         exact aq_join true h (fun w a hm hs => norm hm hs [] [] [(4, (iq j7i4)), (5, (iq j4i5)), (84, (bool true))] (by decide) ⟨rfl, rfl, rfl, trivial⟩)
        ·replace h := bif_f hb13 h
         refine al_mv rfl rfl ?_
         refine al_in rfl rfl rfl rfl ?_
         refine al_mv rfl rfl ?_
         refine al_caseB 80 rfl (fun hb14 => ?_) (fun hb14 => ?_)
         ·replace h := bif_t hb14 h
          refine al_mv rfl rfl ?_
          refine al_in rfl rfl rfl rfl ?_
          refine al_val (ov_pick_t rfl rfl rfl) ?_
          refine al_val (ov_pick_f rfl rfl rfl) ?_
          refine al_nil ?_
          exact aq_join (decide (j7i4 < (57344 : Int))) h (fun w a hm hs => norm hm hs [] [] [(4, (iq j7i4)), (5, (iq j4i5)), (84, (bool (decide (j7i4 < (57344 : Int)))))] (by decide) ⟨rfl, rfl, rfl, trivial⟩)
         ·replace h := bif_f hb14 h
          refine al_skip ?_
          refine al_skip ?_
          refine al_val (ov_pick_f rfl rfl rfl) ?_
          refine al_val (ov_pick_f rfl rfl rfl) ?_
          refine al_nil ?_
          exact aq_join false h (fun w a hm hs => norm hm hs [] [] [(4, (iq j7i4)), (5, (iq j4i5)), (84, (bool false))] (by decide) ⟨rfl, rfl, rfl, trivial⟩)
     ·clear hkk8
      refine aw_sr ?_
      refine al_mv rfl rfl ?_
      refine al_mv rfl rfl ?_
      obtain ⟨hc15, h⟩ := req_some h
      refine al_val (ov_strCut hc15.1 hc15.2.1 hc15.2.2 Tryz.underlying9 rfl rfl rfl rfl) ?_
      obtain ⟨hc16, h⟩ := req_some h
      refine al_bytes hc16 rfl Tryz.underlying9 Tryz.underlying58 Tryz.underlying5 rfl (fun s17 => ?_)
      refine al_val (ov_lenD 0 rfl rfl Tryz.underlying58 rfl) ?_
      refine al_mv rfl rfl ?_
      refine al_nt ?_
      refine aw_block ?_
      refine aw_state (aw_loop (ι := Int × Int) (fun i => (memOf w0 Z0 [] [] [(fDat (tyList tyU8) [s17] (cut a0 (1 : Int) j4i5))])) (fun i => (tab [(4, (iq i.1)), (5, (iq j4i5)), (6, (iq j4i6)), (51, s17), (52, (iq ((cut a0 (1 : Int) j4i5).length : Int))), (53, (iq i.2))])) (fun q i => f_lumref_char_L20 a0 j4i5 kk8 q i.1 i.2 = some r) ?_ fu (j4i4, (0 : Int)) h) (fun w a hm hs => norm hm hs [] [0] [(4, (iq j4i4)), (5, (iq j4i5)), (6, (iq j4i6)), (51, s17), (52, (iq ((cut a0 (1 : Int) j4i5).length : Int))), (53, (iq (0 : Int)))] (by decide) ⟨rfl, rfl, rfl, rfl, rfl, rfl, trivial⟩)
      clear h
      rintro k19 ⟨l18i4, l18i53⟩ h
      have h : f_lumref_char_L20 a0 j4i5 kk8 k19 l18i4 l18i53 = some r := h
      obtain _ | k19 := k19
      · rw [f_lumref_char_L20] at h; cases h
      rw [f_lumref_char_L20] at h
      refine aw_show (m := (memOf w0 Z0 [] [] [(fDat (tyList tyU8) [s17] (cut a0 (1 : Int) j4i5))])) (S := (tab [(4, (iq l18i4)), (5, (iq j4i5)), (6, (iq j4i6)), (51, s17), (52, (iq ((cut a0 (1 : Int) j4i5).length : Int))), (53, (iq l18i53))])) ?_
      refine aw_sr ?_
      refine al_in rfl rfl rfl rfl ?_
      refine al_nt ?_
      refine aw_seq ?_
      refine aw_cond rfl (fun hb21 => ?_) (fun hb21 => ?_)
      ·replace h := bif_t hb21 h
       refine aw_skip ?_
       refine aq_then ?_
       refine aw_seq ?_
       refine aw_block ?_
       refine aw_sr ?_
       obtain ⟨u22, hu23, h⟩ := opt_some h
       refine al_idxD 0 hu23 rfl rfl rfl Tryz.underlying58 sz5 rfl (fun p24 => ?_)
       refine al_val (ov_loadP (ds := [(i8 (u22.toNat : Int))]) 0 rfl (fun h => h) rfl Tryz.underlying5 sz5 rfl rfl rfl) ?_
       refine al_as rfl rfl ?_
       refine al_nt ?_
       refine aw_seq ?_
       obtain ⟨kk26, hkk26, h⟩ := lt_some h
       refine aw_seq_join (ι := Bool) (fun i => (memOf w0 Z0 [] [] [(fDat (tyList tyU8) [s17] (cut a0 (1 : Int) j4i5)), (fPtr tyU8 p24 u22)])) (fun i => (tab [(4, (iq l18i4)), (5, (iq j4i5)), (6, (iq j4i6)), (8, (i8 (u22.toNat : Int))), (51, s17), (52, (iq ((cut a0 (1 : Int) j4i5).length : Int))), (53, (iq l18i53)), (62, (bool i))])) (fun i => kk26 i = some r) ?_ ?_
       ·rintro j25b62 h
        have h : kk26 j25b62 = some r := h
        rw [hkk26] at h
        dsimp only at h
        clear hkk26
        refine aw_show (m := (memOf w0 Z0 [] [] [(fDat (tyList tyU8) [s17] (cut a0 (1 : Int) j4i5)), (fPtr tyU8 p24 u22)])) (S := (tab [(4, (iq l18i4)), (5, (iq j4i5)), (6, (iq j4i6)), (8, (i8 (u22.toNat : Int))), (51, s17), (52, (iq ((cut a0 (1 : Int) j4i5).length : Int))), (53, (iq l18i53)), (62, (bool j25b62))])) ?_
        refine aw_cond rfl (fun hb27 => ?_) (fun hb27 => ?_)
        ·replace h := bif_t hb27 h
         refine aw_sr ?_
         refine al_as rfl rfl ?_
         refine al_as rfl rfl ?_
         refine al_nt ?_
         refine aw_ret ?_
         refine aq_then_ret ?_
         refine aq_block_ret ?_
         refine aq_then_ret ?_
         refine aq_then_ret ?_
         refine aq_block_ret ?_
         refine aq_then_ret ?_
         obtain rfl := Option.some.inj h
         exact fn_ret () [] [] rfl rfl rfl rfl (res2 rfl rfl rfl) rfl rfl rfl (by decide)
        ·replace h := bif_f hb27 h
         refine aw_skip ?_
         refine aq_then ?_
         refine aw_region ?_
         refine al_mv rfl rfl ?_
         refine al_in rfl rfl rfl rfl ?_
         refine al_mv rfl rfl ?_
         refine al_val (ov_convInt (by rw [Tryz.underlying5]; rfl) Tryz.underlying3 rfl rfl) ?_
         refine al_in rfl rfl rfl rfl ?_
         refine al_in rfl rfl rfl rfl ?_
         refine al_as rfl rfl ?_
         refine al_nil ?_
         refine aq_block ?_
         refine aq_then ?_
         refine aw_region ?_
         refine al_in rfl rfl rfl rfl ?_
         refine al_mv rfl rfl ?_
         refine al_nil ?_
         exact aq_again k19 ((wq ((wq ((wq ((64 : Int) * l18i4)) + (wq (u22.toNat : Int)))) - (128 : Int))), (wq (l18i53 + (1 : Int)))) (Nat.lt_succ_self _) h (fun w a hm hs => norm hm hs [] [0] [(4, (iq (wq ((wq ((wq ((64 : Int) * l18i4)) + (wq (u22.toNat : Int)))) - (128 : Int))))), (5, (iq j4i5)), (6, (iq j4i6)), (51, s17), (52, (iq ((cut a0 (1 : Int) j4i5).length : Int))), (53, (iq (wq (l18i53 + (1 : Int)))))] (by decide) ⟨rfl, rfl, rfl, rfl, rfl, rfl, trivial⟩)
       ·clear hkk26
        refine aw_region ?_
        refine al_mv rfl rfl ?_
        refine al_in rfl rfl rfl rfl ?_
        refine al_mv rfl rfl ?_
        refine al_caseB 59 rfl (fun hb28 => ?_) (fun hb28 => ?_)
        ·replace h := bif_t hb28 h
         refine al_skip ?_
         refine al_skip ?_
         refine al_val (ov_pick_t rfl rfl rfl) ?_
         refine al_nil ?_
         exact aq_join true h (fun w a hm hs => norm hm hs [] [1, 0] [(4, (iq l18i4)), (5, (iq j4i5)), (6, (iq j4i6)), (8, (i8 (u22.toNat : Int))), (51, s17), (52, (iq ((cut a0 (1 : Int) j4i5).length : Int))), (53, (iq l18i53)), (62, (bool true))] (by decide) ⟨rfl, rfl, rfl, rfl, rfl, rfl, rfl, rfl, trivial⟩)
        ·replace h := bif_f hb28 h
         refine al_mv rfl rfl ?_
         refine al_in rfl rfl rfl rfl ?_
         refine al_val (ov_pick_f rfl rfl rfl) ?_
         refine al_nil ?_
         exact aq_join (decide ((u22.toNat : Int) > (191 : Int))) h (fun w a hm hs => norm hm hs [] [1, 0] [(4, (iq l18i4)), (5, (iq j4i5)), (6, (iq j4i6)), (8, (i8 (u22.toNat : Int))), (51, s17), (52, (iq ((cut a0 (1 : Int) j4i5).length : Int))), (53, (iq l18i53)), (62, (bool (decide ((u22.toNat : Int) > (191 : Int)))))] (by decide) ⟨rfl, rfl, rfl, rfl, rfl, rfl, rfl, rfl, trivial⟩)
      ·replace h := bif_f hb21 h
       refine aw_exit ?_
       refine aq_then_exit ?_
       refine aq_then_exit ?_
       refine aq_block_exit ?_
       exact aq_join l18i4 h (fun w a hm hs => norm hm hs [] [] [(4, (iq l18i4)), (5, (iq j4i5)), (6, (iq j4i6))] (by decide) ⟨rfl, rfl, rfl, trivial⟩)
   ·clear hkk5
    refine aw_block ?_
    obtain ⟨kk30, hkk30, h⟩ := lt_some h
    refine aw_seq_join (ι := Bool) (fun i => (memOf w0 Z0 [] [] [])) (fun i => (tab [(0, (str a0)), (4, (iq (wq (En.bAt a0 (0 : Int))))), (17, (bool i))])) (fun i => kk30 i = some r) ?_ ?_
    ·rintro j29b17 h
     have h : kk30 j29b17 = some r := h
     rw [hkk30] at h
     dsimp only at h
     clear hkk30
     refine aw_show (m := (memOf w0 Z0 [] [] [])) (S := (tab [(0, (str a0)), (4, (iq (wq (En.bAt a0 (0 : Int))))), (17, (bool j29b17))])) ?_
     refine aw_cond rfl (fun hb31 => ?_) (fun hb31 => ?_)
     ·replace h := bif_t hb31 h
      refine aw_region ?_
      refine al_mv rfl rfl ?_
      refine al_in rfl rfl rfl rfl ?_
      refine al_as rfl rfl ?_
      refine al_as rfl rfl ?_
      refine al_as rfl rfl ?_
      refine al_nil ?_
      refine aq_block ?_
      exact aq_join ((wq ((wq (En.bAt a0 (0 : Int))) - (192 : Int))), (2 : Int), (128 : Int)) h (fun w a hm hs => norm hm hs [] [] [(0, (str a0)), (4, (iq (wq ((wq (En.bAt a0 (0 : Int))) - (192 : Int))))), (5, (iq (2 : Int))), (6, (iq (128 : Int)))] (by decide) ⟨rfl, rfl, rfl, rfl, trivial⟩)
     ·replace h := bif_f hb31 h
      obtain ⟨kk33, hkk33, h⟩ := lt_some h
      refine aw_seq_join (ι := Bool) (fun i => (memOf w0 Z0 [] [] [])) (fun i => (tab [(0, (str a0)), (4, (iq (wq (En.bAt a0 (0 : Int))))), (26, (bool i))])) (fun i => kk33 i = some r) ?_ ?_
      ·rintro j32b26 h
       have h : kk33 j32b26 = some r := h
       rw [hkk33] at h
       dsimp only at h
       clear hkk33
       refine aw_show (m := (memOf w0 Z0 [] [] [])) (S := (tab [(0, (str a0)), (4, (iq (wq (En.bAt a0 (0 : Int))))), (26, (bool j32b26))])) ?_
       refine aw_cond rfl (fun hb34 => ?_) (fun hb34 => ?_)
       ·replace h := bif_t hb34 h
        refine aw_region ?_
        refine al_mv rfl rfl ?_
        refine al_in rfl rfl rfl rfl ?_
        refine al_as rfl rfl ?_
        refine al_as rfl rfl ?_
        refine al_as rfl rfl ?_
        refine al_nil ?_
        refine aq_block ?_
        exact aq_join ((wq ((wq (En.bAt a0 (0 : Int))) - (224 : Int))), (3 : Int), (2048 : Int)) h (fun w a hm hs => norm hm hs [] [] [(0, (str a0)), (4, (iq (wq ((wq (En.bAt a0 (0 : Int))) - (224 : Int))))), (5, (iq (3 : Int))), (6, (iq (2048 : Int)))] (by decide) ⟨rfl, rfl, rfl, rfl, trivial⟩)
       ·replace h := bif_f hb34 h
        obtain ⟨kk36, hkk36, h⟩ := lt_some h
        refine aw_seq_join (ι := Bool) (fun i => (memOf w0 Z0 [] [] [])) (fun i => (tab [(0, (str a0)), (4, (iq (wq (En.bAt a0 (0 : Int))))), (35, (bool i))])) (fun i => kk36 i = some r) ?_ ?_
        ·rintro j35b35 h
         have h : kk36 j35b35 = some r := h
         rw [hkk36] at h
         dsimp only at h
         clear hkk36
         refine aw_show (m := (memOf w0 Z0 [] [] [])) (S := (tab [(0, (str a0)), (4, (iq (wq (En.bAt a0 (0 : Int))))), (35, (bool j35b35))])) ?_
         refine aw_cond rfl (fun hb37 => ?_) (fun hb37 => ?_)
         ·replace h := bif_t hb37 h
          refine aw_region ?_
          refine al_mv rfl rfl ?_
          refine al_in rfl rfl rfl rfl ?_
          refine al_as rfl rfl ?_
          refine al_as rfl rfl ?_
          refine al_as rfl rfl ?_
          refine al_nil ?_
          refine aq_block ?_
          exact aq_join ((wq ((wq (En.bAt a0 (0 : Int))) - (240 : Int))), (4 : Int), (65536 : Int)) h (fun w a hm hs => norm hm hs [] [] [(0, (str a0)), (4, (iq (wq ((wq (En.bAt a0 (0 : Int))) - (240 : Int))))), (5, (iq (4 : Int))), (6, (iq (65536 : Int)))] (by decide) ⟨rfl, rfl, rfl, rfl, trivial⟩)
         ·replace h := bif_f hb37 h
          refine aw_sr ?_
          refine al_as rfl rfl ?_
          refine al_as rfl rfl ?_
          refine al_nt ?_
          refine aw_ret ?_
          refine aq_block_ret ?_
          refine aq_then_ret ?_
          obtain rfl := Option.some.inj h
          exact fn_ret () [] [] rfl rfl rfl rfl (res2 rfl rfl rfl) rfl rfl rfl (by decide)
        ·clear hkk36
         refine aw_region ?_
         refine al_mv rfl rfl ?_
         refine al_in rfl rfl rfl rfl ?_
         refine al_mv rfl rfl ?_
         refine al_caseB 38 rfl (fun hb38 => ?_) (fun hb38 => ?_)
         ·replace h := bif_t hb38 h
          refine al_mv rfl rfl ?_
          refine al_in rfl rfl rfl rfl ?_
          refine al_val (ov_pick_t rfl rfl rfl) ?_
          refine al_as rfl rfl ?_
          refine al_nil ?_
          exact aq_join (decide ((wq (En.bAt a0 (0 : Int))) < (245 : Int))) h (fun w a hm hs => norm hm hs [] [] [(0, (str a0)), (4, (iq (wq (En.bAt a0 (0 : Int))))), (35, (bool (decide ((wq (En.bAt a0 (0 : Int))) < (245 : Int)))))] (by decide) ⟨rfl, rfl, rfl, trivial⟩)
         ·replace h := bif_f hb38 h
          refine al_skip ?_
          refine al_skip ?_
          refine al_val (ov_pick_f rfl rfl rfl) ?_
          refine al_as rfl rfl ?_
          refine al_nil ?_
          exact aq_join false h (fun w a hm hs => norm hm hs [] [] [(0, (str a0)), (4, (iq (wq (En.bAt a0 (0 : Int))))), (35, (bool false))] (by decide) ⟨rfl, rfl, rfl, trivial⟩)
      ·clear hkk33
       refine aw_region ?_
       refine al_mv rfl rfl ?_
       refine al_in rfl rfl rfl rfl ?_
       refine al_mv rfl rfl ?_
       refine al_caseB 29 rfl (fun hb39 => ?_) (fun hb39 => ?_)
       ·replace h := bif_t hb39 h
        refine al_mv rfl rfl ?_
        refine al_in rfl rfl rfl rfl ?_
        refine al_val (ov_pick_t rfl rfl rfl) ?_
        refine al_as rfl rfl ?_
        refine al_nil ?_
        exact aq_join (decide ((wq (En.bAt a0 (0 : Int))) < (240 : Int))) h (fun w a hm hs => norm hm hs [] [] [(0, (str a0)), (4, (iq (wq (En.bAt a0 (0 : Int))))), (26, (bool (decide ((wq (En.bAt a0 (0 : Int))) < (240 : Int)))))] (by decide) ⟨rfl, rfl, rfl, trivial⟩)
       ·replace h := bif_f hb39 h
        refine al_skip ?_
        refine al_skip ?_
        refine al_val (ov_pick_f rfl rfl rfl) ?_
        refine al_as rfl rfl ?_
        refine al_nil ?_
        exact aq_join false h (fun w a hm hs => norm hm hs [] [] [(0, (str a0)), (4, (iq (wq (En.bAt a0 (0 : Int))))), (26, (bool false))] (by decide) ⟨rfl, rfl, rfl, trivial⟩)
    ·clear hkk30
     refine aw_region ?_
     refine al_mv rfl rfl ?_
     refine al_in rfl rfl rfl rfl ?_
     refine al_mv rfl rfl ?_
     refine al_caseB 20 rfl (fun hb40 => ?_) (fun hb40 => ?_)
     ·replace h := bif_t hb40 h
      refine al_mv rfl rfl ?_
      refine al_in rfl rfl rfl rfl ?_
      refine al_val (ov_pick_t rfl rfl rfl) ?_
      refine al_as rfl rfl ?_
      refine al_nil ?_
      exact aq_join (decide ((wq (En.bAt a0 (0 : Int))) < (224 : Int))) h (fun w a hm hs => norm hm hs [] [] [(0, (str a0)), (4, (iq (wq (En.bAt a0 (0 : Int))))), (17, (bool (decide ((wq (En.bAt a0 (0 : Int))) < (224 : Int)))))] (by decide) ⟨rfl, rfl, rfl, trivial⟩)
     ·replace h := bif_f hb40 h
      refine al_skip ?_
      refine al_skip ?_
      refine al_val (ov_pick_f rfl rfl rfl) ?_
      refine al_as rfl rfl ?_
      refine al_nil ?_
      exact aq_join false h (fun w a hm hs => norm hm hs [] [] [(0, (str a0)), (4, (iq (wq (En.bAt a0 (0 : Int))))), (17, (bool false))] (by decide) ⟨rfl, rfl, rfl, trivial⟩)
def f_lumref_Chars_L5 (kk2 : ((List Int) → Option ((List Int) × Bool))) (fu : Nat) : Nat → (List UInt8) → (List Int) → Option ((List Int) × Bool)
  | 0, _, _ => none
  | k4 + 1, l3s0, l3x4 => (bif (!(l3s0 == ([] : List UInt8))) then (opt (f_lumref_char fu l3s0) fun (r8 : (Int × Int)) => (bif (r8.2 == (0 : Int)) then (some (([] : List Int), false)) else (req (((l3x4.length + ([r8.1]).length) * 8 : Nat) ≤ 140737488355328 ∧ l3x4.length + ([r8.1]).length ≤ 9223372036854775807) (req (0 ≤ r8.2 ∧ r8.2 ≤ (l3s0.length : Int)) (f_lumref_Chars_L5 kk2 fu k4 (l3s0.drop (r8.2).toNat) (l3x4 ++ ([r8.1]))))))) else (kk2 l3x4))
def f_lumref_Chars (fu : Nat) (a0 : (List UInt8)) : Option ((List Int) × Bool) := (lt (fun (j1x4 : (List Int)) => (some (j1x4, true))) fun (kk2 : (List Int) → Option ((List Int) × Bool)) => (f_lumref_Chars_L5 kk2 fu fu a0 ([] : List Int)))
set_option maxHeartbeats 2000000 in
set_option maxRecDepth 100000 in
theorem f_lumref_Chars_ok (fu : Nat) (a0 : (List UInt8)) {r : ((List Int) × Bool)} (h : f_lumref_Chars fu a0 = some r) : FnOk Tryz.prog 83 [(str a0)] [] [] (fun (i : Value) => { val := (Value.tuple #[i, (bool r.2)]), own := [(oRow i 3 (tyInt .i64) r.1)] }) := by
 unfold f_lumref_Chars at h
 refine fn_enter Tryz.func83 rfl Tryz.ntmps83 rfl (fun w0 Z0 => ?_)
 refine aw_sr ?_
 refine al_as rfl rfl ?_
 refine al_as rfl rfl ?_
 refine al_nt ?_
 refine aw_sr ?_
 refine al_as rfl rfl ?_
 refine al_nt ?_
 obtain ⟨kk2, hkk2, h⟩ := lt_some h
 refine aw_seq_join (ι := Value × (List Int)) (fun i => (memOf w0 Z0 [] [(oRow i.1 3 tq i.2)] [])) (fun i => (tab [(4, i.1)])) (fun i => kk2 i.2 = some r) ?_ ?_
 ·rintro ⟨j1v4, j1x4⟩ h
  have h : kk2 j1x4 = some r := h
  rw [hkk2] at h
  dsimp only at h
  clear hkk2
  refine aw_show (m := (memOf w0 Z0 [] [(oRow j1v4 3 tq j1x4)] [])) (S := (tab [(4, j1v4)])) ?_
  refine aw_sr ?_
  refine al_mv rfl rfl ?_
  refine al_as rfl rfl ?_
  refine al_as rfl rfl ?_
  refine al_nt ?_
  refine aw_ret ?_
  obtain rfl := Option.some.inj h
  exact fn_ret j1v4 [0] [] rfl rfl rfl rfl (res2 rfl rfl rfl) rfl rfl rfl (by decide)
 ·clear hkk2
  refine aw_block ?_
  refine aw_nilR 3 tq ?_
  refine aw_state (aw_loop (ι := (List UInt8) × Value × (List Int)) (fun i => (memOf w0 Z0 [] [(oRow i.2.1 3 tq i.2.2)] [])) (fun i => (tab [(0, (str i.1)), (4, i.2.1)])) (fun q i => f_lumref_Chars_L5 kk2 fu q i.1 i.2.2 = some r) ?_ fu (a0, nS, ([] : List Int)) h) (fun w a hm hs => norm hm hs [0] [] [(0, (str a0)), (4, nS)] (by decide) ⟨rfl, rfl, trivial⟩)
  clear h
  rintro k4 ⟨l3s0, l3v4, l3x4⟩ h
  have h : f_lumref_Chars_L5 kk2 fu k4 l3s0 l3x4 = some r := h
  obtain _ | k4 := k4
  · rw [f_lumref_Chars_L5] at h; cases h
  rw [f_lumref_Chars_L5] at h
  refine aw_show (m := (memOf w0 Z0 [] [(oRow l3v4 3 tq l3x4)] [])) (S := (tab [(0, (str l3s0)), (4, l3v4)])) ?_
  refine aw_seq ?_
  refine aw_sr ?_
  refine al_mv rfl rfl ?_
  refine al_val (ov_strCmp rfl rfl rfl rfl) ?_
  refine al_nt ?_
  refine aw_cond rfl (fun hb6 => ?_) (fun hb6 => ?_)
  ·replace h := bif_t hb6 h
   refine aw_skip ?_
   refine aq_then ?_
   refine aw_block ?_
   refine aw_sr ?_
   refine al_mv rfl rfl ?_
   obtain ⟨r8, hc7, h⟩ := opt_some h
   refine al_call (vs := [(str l3s0)]) (f_lumref_char_ok fu l3s0 hc7) [] [] [0] pre_nil rfl (by simp) (by decide) (.inl rfl) rfl Tryz.func112 rfl rfl rfl (fun _ => ?_)
   refine al_mv rfl rfl ?_
   refine al_ex rfl rfl rfl ?_
   refine al_ex rfl rfl rfl ?_
   refine al_as rfl rfl ?_
   refine al_as rfl rfl ?_
   refine al_nt ?_
   refine aw_seq ?_
   refine aw_sr ?_
   refine al_mv rfl rfl ?_
   refine al_in rfl rfl rfl rfl ?_
   refine al_nt ?_
   refine aw_cond rfl (fun hb9 => ?_) (fun hb9 => ?_)
   ·replace h := bif_t hb9 h
    refine aw_sr ?_
    refine al_as rfl rfl ?_
    refine al_as rfl rfl ?_
    refine al_nt ?_
    refine aw_ret ?_
    refine aq_then_ret ?_
    refine aq_block_ret ?_
    refine aq_then_ret ?_
    refine aq_block_ret ?_
    refine aq_then_ret ?_
    refine aq_nilR 3 tq ?_
    obtain rfl := Option.some.inj h
    exact fn_ret nS [0] [] rfl rfl rfl rfl (res2 rfl rfl rfl) rfl rfl rfl (by decide)
   ·replace h := bif_f hb9 h
    refine aw_skip ?_
    refine aq_tr ?_
    refine al_mv rfl rfl ?_
    refine al_mv rfl rfl ?_
    refine al_buildSlice (τ := tq) (e := 3) (k := 1) (sz := 0) (by_ := 0) (z := undef) (cs := [(iq r8.1)]) (xs := [r8.1]) rfl (by decide) (fun w a hm hs => ⟨([(iq r8.1)]).toArray, rfl, by simp only [List.map_toArray, List.map_cons, List.map_nil, hs.ev (x := .tmp 17) rfl]; exact run_bs [(iq r8.1)] [(iq r8.1)] Tryz.underlying116 to3 rfl rfl (bs_cons (l := [(iq r8.1)]) (cs := []) (cv_rfl rfl) rfl bs_nil) hm⟩) (fun hm => ⟨_, _, rfl, (fun _ => rfl) hm, rfl⟩) rfl (fun v10 => ?_)
    obtain ⟨hc11, h⟩ := req_some h
    refine al_append 1 hc11.1 hc11.2 rfl (src_own (i := 1) 0 rfl) rfl rfl Tryz.underlying116 to3 rfl rfl rfl (fun v12 => ?_)
    refine al_as rfl rfl ?_
    refine al_nt ?_
    refine aw_region ?_
    refine al_mv rfl rfl ?_
    refine al_mv rfl rfl ?_
    obtain ⟨hc13, h⟩ := req_some h
    refine al_val (ov_strFrom hc13.1 hc13.2 Tryz.underlying9 rfl rfl rfl) ?_
    refine al_as rfl rfl ?_
    refine al_nil ?_
    refine aq_block ?_
    exact aq_again k4 ((l3s0.drop (r8.2).toNat), v12, (l3x4 ++ ([r8.1]))) (Nat.lt_succ_self _) h (fun w a hm hs => norm hm hs [1] [] [(0, (str (l3s0.drop (r8.2).toNat))), (4, v12)] (by decide) ⟨rfl, rfl, trivial⟩)
  ·replace h := bif_f hb6 h
   refine aw_exit ?_
   refine aq_then_exit ?_
   refine aq_then_exit ?_
   refine aq_block_exit ?_
   exact aq_join (l3v4, l3x4) h (fun w a hm hs => norm hm hs [0] [] [(4, l3v4)] (by decide) ⟨rfl, trivial⟩)
def f_lumref_Name_L12 (r2 : ((List Int) × Bool)) (kk8 : (Unit → Option Int)) : Nat → Int → Option Int
  | 0, _ => none
  | k11 + 1, l10i29 => (bif (decide (l10i29 < (r2.1.length : Int))) then (opt (at? r2.1 l10i29) fun (u14 : Int) => (lt (fun (j18b42 : Bool) => (bif j18b42 then (some (8 : Int)) else (f_lumref_Name_L12 r2 kk8 k11 (IntKind.i64.wrap (l10i29 + (1 : Int)))))) fun (kk19 : Bool → Option Int) => (bif (u14 == (47 : Int)) then (kk19 true) else (bif (decide (u14 < (32 : Int))) then (kk19 true) else (kk19 (u14 == (127 : Int))))))) else (kk8 ()))
def f_lumref_Name (fu : Nat) (a0 : (List UInt8)) : Option Int := (opt (f_lumref_Chars fu a0) fun (r2 : ((List Int) × Bool)) => (lt (fun (j4b26 : Bool) => (bif j4b26 then (some (8 : Int)) else (lt (fun (_ : Unit) => (bif (decide ((r2.1.length : Int) > (24 : Int))) then (some (2 : Int)) else (some (0 : Int)))) fun (kk8 : Unit → Option Int) => (f_lumref_Name_L12 r2 kk8 fu (0 : Int))))) fun (kk5 : Bool → Option Int) => (bif (!r2.2) then (kk5 true) else (bif ((r2.1.length : Int) == (0 : Int)) then (kk5 true) else (bif (a0 == ([46] : List UInt8)) then (kk5 true) else (kk5 (a0 == ([46, 46] : List UInt8))))))))
set_option maxHeartbeats 2000000 in
set_option maxRecDepth 100000 in
theorem f_lumref_Name_ok (fu : Nat) (a0 : (List UInt8)) {r : Int} (h : f_lumref_Name fu a0 = some r) : FnOk Tryz.prog 50 [(str a0)] [] [] (fun (i : Unit) => { val := (int .i64 r) }) := by
 unfold f_lumref_Name at h
 refine fn_enter Tryz.func50 rfl Tryz.ntmps50 rfl (fun w0 Z0 => ?_)
 refine aw_sr ?_
 refine al_as rfl rfl ?_
 refine al_nt ?_
 refine aw_sr ?_
 refine al_mv rfl rfl ?_
 obtain ⟨r2, hc1, h⟩ := opt_some h
 refine al_call (vs := [(str a0)]) (f_lumref_Chars_ok fu a0 hc1) [] [] [] pre_nil rfl (by simp) (by decide) (.inl rfl) rfl Tryz.func83 rfl rfl rfl (fun v3 => ?_)
 refine al_mv rfl rfl ?_
 refine al_ex rfl rfl rfl ?_
 refine al_ex rfl rfl rfl ?_
 refine al_as rfl rfl ?_
 refine al_as rfl rfl ?_
 refine al_nt ?_
 refine aw_seq ?_
 obtain ⟨kk5, hkk5, h⟩ := lt_some h
 refine aw_seq_join (ι := Bool) (fun i => (memOf w0 Z0 [] [(oRow v3 3 tq r2.1)] [])) (fun i => (tab [(3, v3), (26, (bool i))])) (fun i => kk5 i = some r) ?_ ?_
 ·rintro j4b26 h
  have h : kk5 j4b26 = some r := h
  rw [hkk5] at h
  dsimp only at h
  clear hkk5
  refine aw_show (m := (memOf w0 Z0 [] [(oRow v3 3 tq r2.1)] [])) (S := (tab [(3, v3), (26, (bool j4b26))])) ?_
  refine aw_cond rfl (fun hb6 => ?_) (fun hb6 => ?_)
  ·replace h := bif_t hb6 h
   refine aw_sr ?_
   refine al_as rfl rfl ?_
   refine al_nt ?_
   refine aw_ret ?_
   refine aq_then_ret ?_
   obtain rfl := Option.some.inj h
   exact fn_ret () [] [] rfl rfl rfl rfl (res1 rfl rfl) rfl rfl rfl (by decide)
  ·replace h := bif_f hb6 h
   refine aw_skip ?_
   refine aq_then ?_
   obtain ⟨kk8, hkk8, h⟩ := lt_some h
   refine aw_seq_join (ι := Unit) (fun i => (memOf w0 Z0 [] [(oRow v3 3 tq r2.1)] [])) (fun i => (tab [(3, v3)])) (fun i => kk8 () = some r) ?_ ?_
   ·rintro _ h
    have h : kk8 () = some r := h
    rw [hkk8] at h
    dsimp only at h
    clear hkk8
    refine aw_show (m := (memOf w0 Z0 [] [(oRow v3 3 tq r2.1)] [])) (S := (tab [(3, v3)])) ?_
    refine aw_seq ?_
    refine aw_sr ?_
    refine al_mv rfl rfl ?_
    refine al_val (ov_lenR 0 rfl rfl Tryz.underlying116 rfl) ?_
    refine al_in rfl rfl rfl rfl ?_
    refine al_nt ?_
    refine aw_cond rfl (fun hb9 => ?_) (fun hb9 => ?_)
    ·replace h := bif_t hb9 h
     refine aw_sr ?_
     refine al_as rfl rfl ?_
     refine al_nt ?_
     refine aw_ret ?_
     refine aq_then_ret ?_
     obtain rfl := Option.some.inj h
     exact fn_ret () [] [] rfl rfl rfl rfl (res1 rfl rfl) rfl rfl rfl (by decide)
    ·replace h := bif_f hb9 h
     refine aw_skip ?_
     refine aq_tr ?_
     refine al_as rfl rfl ?_
     refine al_nt ?_
     refine aw_ret ?_
     obtain rfl := Option.some.inj h
     exact fn_ret () [] [] rfl rfl rfl rfl (res1 rfl rfl) rfl rfl rfl (by decide)
   ·clear hkk8
    refine aw_sr ?_
    refine al_mv rfl rfl ?_
    refine al_val (ov_lenR 0 rfl rfl Tryz.underlying116 rfl) ?_
    refine al_mv rfl rfl ?_
    refine al_nt ?_
    refine aw_block ?_
    refine aw_state (aw_loop (ι := Int) (fun i => (memOf w0 Z0 [] [(oRow v3 3 tq r2.1)] [])) (fun i => (tab [(3, v3), (27, v3), (28, (iq (r2.1.length : Int))), (29, (iq i))])) (fun q i => f_lumref_Name_L12 r2 kk8 q i = some r) ?_ fu (0 : Int) h) (fun w a hm hs => norm hm hs [0] [] [(3, v3), (27, v3), (28, (iq (r2.1.length : Int))), (29, (iq (0 : Int)))] (by decide) ⟨rfl, rfl, rfl, rfl, trivial⟩)
    clear h
    rintro k11 l10i29 h
    have h : f_lumref_Name_L12 r2 kk8 k11 l10i29 = some r := h
    obtain _ | k11 := k11
    · rw [f_lumref_Name_L12] at h; cases h
    rw [f_lumref_Name_L12] at h
    refine aw_show (m := (memOf w0 Z0 [] [(oRow v3 3 tq r2.1)] [])) (S := (tab [(3, v3), (27, v3), (28, (iq (r2.1.length : Int))), (29, (iq l10i29))])) ?_
    refine aw_sr ?_
    refine al_in rfl rfl rfl rfl ?_
    refine al_nt ?_
    refine aw_seq ?_
    refine aw_cond rfl (fun hb13 => ?_) (fun hb13 => ?_)
    ·replace h := bif_t hb13 h
     refine aw_skip ?_
     refine aq_then ?_
     refine aw_seq ?_
     refine aw_block ?_
     refine aw_sr ?_
     obtain ⟨u14, hu15, h⟩ := opt_some h
     refine al_idxR 0 (at_some hu15).1 (at_some hu15).2.1 rfl rfl rfl Tryz.underlying116 sz3 rfl (fun p16 hp17 => ?_)
     refine al_val (ov_loadR (ds := [(iq u14)]) 0 rfl hp17 (at_some hu15).2.2 (fun h => h) rfl Tryz.underlying3 sz3 rfl rfl rfl) ?_
     refine al_as rfl rfl ?_
     refine al_nt ?_
     obtain ⟨kk19, hkk19, h⟩ := lt_some h
     refine aw_seq_join (ι := Bool) (fun i => (memOf w0 Z0 [] [(oRow v3 3 tq r2.1)] [])) (fun i => (tab [(3, v3), (27, v3), (28, (iq (r2.1.length : Int))), (29, (iq l10i29)), (42, (bool i))])) (fun i => kk19 i = some r) ?_ ?_
     ·rintro j18b42 h
      have h : kk19 j18b42 = some r := h
      rw [hkk19] at h
      dsimp only at h
      clear hkk19
      refine aw_show (m := (memOf w0 Z0 [] [(oRow v3 3 tq r2.1)] [])) (S := (tab [(3, v3), (27, v3), (28, (iq (r2.1.length : Int))), (29, (iq l10i29)), (42, (bool j18b42))])) ?_
      refine aw_cond rfl (fun hb20 => ?_) (fun hb20 => ?_)
      ·replace h := bif_t hb20 h
       refine aw_sr ?_
       refine al_as rfl rfl ?_
       refine al_nt ?_
       refine aw_ret ?_
       refine aq_block_ret ?_
       refine aq_then_ret ?_
       refine aq_then_ret ?_
       refine aq_block_ret ?_
       refine aq_then_ret ?_
       obtain rfl := Option.some.inj h
       exact fn_ret () [] [] rfl rfl rfl rfl (res1 rfl rfl) rfl rfl rfl (by decide)
      ·replace h := bif_f hb20 h
       refine aw_skip ?_
       refine aq_block ?_
       refine aq_then ?_
       refine aw_region ?_
       refine al_in rfl rfl rfl rfl ?_
       refine al_mv rfl rfl ?_
       refine al_nil ?_
       exact aq_again k11 (wq (l10i29 + (1 : Int))) (Nat.lt_succ_self _) h (fun w a hm hs => norm hm hs [0] [] [(3, v3), (27, v3), (28, (iq (r2.1.length : Int))), (29, (iq (wq (l10i29 + (1 : Int)))))] (by decide) ⟨rfl, rfl, rfl, rfl, trivial⟩)
     ·clear hkk19
      refine aw_region ?_
      refine al_mv rfl rfl ?_
      refine al_in rfl rfl rfl rfl ?_
      refine al_mv rfl rfl ?_
      refine al_caseB 35 rfl (fun hb21 => ?_) (fun hb21 => ?_)
      ·replace h := bif_t hb21 h
       refine al_skip ?_
       refine al_skip ?_
       refine al_val (ov_pick_t rfl rfl rfl) ?_
       refine al_mv rfl rfl ?_
       refine al_skip ?_
       refine al_skip ?_
       refine al_val (ov_pick_t rfl rfl rfl) ?_
       refine al_nil ?_
       exact aq_join true h (fun w a hm hs => norm hm hs [0] [] [(3, v3), (27, v3), (28, (iq (r2.1.length : Int))), (29, (iq l10i29)), (42, (bool true))] (by decide) ⟨rfl, rfl, rfl, rfl, rfl, trivial⟩)
      ·replace h := bif_f hb21 h
       refine al_mv rfl rfl ?_
       refine al_in rfl rfl rfl rfl ?_
       refine al_val (ov_pick_f rfl rfl rfl) ?_
       refine al_mv rfl rfl ?_
       refine al_caseB 39 rfl (fun hb22 => ?_) (fun hb22 => ?_)
       ·replace h := bif_t hb22 h
        refine al_skip ?_
        refine al_skip ?_
        refine al_val (ov_pick_t rfl rfl rfl) ?_
        refine al_nil ?_
        exact aq_join true h (fun w a hm hs => norm hm hs [0] [] [(3, v3), (27, v3), (28, (iq (r2.1.length : Int))), (29, (iq l10i29)), (42, (bool true))] (by decide) ⟨rfl, rfl, rfl, rfl, rfl, trivial⟩)
       ·replace h := bif_f hb22 h
        refine al_mv rfl rfl ?_
        refine al_in rfl rfl rfl rfl ?_
        refine al_val (ov_pick_f rfl rfl rfl) ?_
        refine al_nil ?_
        exact aq_join (u14 == (127 : Int)) h (fun w a hm hs => norm hm hs [0] [] [(3, v3), (27, v3), (28, (iq (r2.1.length : Int))), (29, (iq l10i29)), (42, (bool (u14 == (127 : Int))))] (by decide) ⟨rfl, rfl, rfl, rfl, rfl, trivial⟩)
    ·replace h := bif_f hb13 h
     refine aw_exit ?_
     refine aq_then_exit ?_
     refine aq_then_exit ?_
     refine aq_block_exit ?_
     exact aq_join () h (fun w a hm hs => norm hm hs [0] [] [(3, v3)] (by decide) ⟨rfl, trivial⟩)
 ·clear hkk5
  refine aw_region ?_
  refine al_mv rfl rfl ?_
  refine al_val (ov_not rfl rfl) ?_
  refine al_mv rfl rfl ?_
  refine al_caseB 14 rfl (fun hb23 => ?_) (fun hb23 => ?_)
  ·replace h := bif_t hb23 h
   refine al_skip ?_
   refine al_skip ?_
   refine al_skip ?_
   refine al_val (ov_pick_t rfl rfl rfl) ?_
   refine al_mv rfl rfl ?_
   refine al_skip ?_
   refine al_skip ?_
   refine al_val (ov_pick_t rfl rfl rfl) ?_
   refine al_mv rfl rfl ?_
   refine al_skip ?_
   refine al_skip ?_
   refine al_val (ov_pick_t rfl rfl rfl) ?_
   refine al_nil ?_
   exact aq_join true h (fun w a hm hs => norm hm hs [0] [] [(3, v3), (26, (bool true))] (by decide) ⟨rfl, rfl, trivial⟩)
  ·replace h := bif_f hb23 h
   refine al_mv rfl rfl ?_
   refine al_val (ov_lenR 0 rfl rfl Tryz.underlying116 rfl) ?_
   refine al_in rfl rfl rfl rfl ?_
   refine al_val (ov_pick_f rfl rfl rfl) ?_
   refine al_mv rfl rfl ?_
   refine al_caseB 19 rfl (fun hb24 => ?_) (fun hb24 => ?_)
   ·replace h := bif_t hb24 h
    refine al_skip ?_
    refine al_skip ?_
    refine al_val (ov_pick_t rfl rfl rfl) ?_
    refine al_mv rfl rfl ?_
    refine al_skip ?_
    refine al_skip ?_
    refine al_val (ov_pick_t rfl rfl rfl) ?_
    refine al_nil ?_
    exact aq_join true h (fun w a hm hs => norm hm hs [0] [] [(3, v3), (26, (bool true))] (by decide) ⟨rfl, rfl, trivial⟩)
   ·replace h := bif_f hb24 h
    refine al_mv rfl rfl ?_
    refine al_val (ov_strCmp rfl rfl rfl rfl) ?_
    refine al_val (ov_pick_f rfl rfl rfl) ?_
    refine al_mv rfl rfl ?_
    refine al_caseB 23 rfl (fun hb25 => ?_) (fun hb25 => ?_)
    ·replace h := bif_t hb25 h
     refine al_skip ?_
     refine al_skip ?_
     refine al_val (ov_pick_t rfl rfl rfl) ?_
     refine al_nil ?_
     exact aq_join true h (fun w a hm hs => norm hm hs [0] [] [(3, v3), (26, (bool true))] (by decide) ⟨rfl, rfl, trivial⟩)
    ·replace h := bif_f hb25 h
     refine al_mv rfl rfl ?_
     refine al_val (ov_strCmp rfl rfl rfl rfl) ?_
     refine al_val (ov_pick_f rfl rfl rfl) ?_
     refine al_nil ?_
     exact aq_join (a0 == ([46, 46] : List UInt8)) h (fun w a hm hs => norm hm hs [0] [] [(3, v3), (26, (bool (a0 == ([46, 46] : List UInt8))))] (by decide) ⟨rfl, rfl, trivial⟩)
def f_lumref_cutAt : Nat → (List UInt8) → Option (List (List UInt8))
  | 0, _ => none
  | fu + 1, a0 => (opt (f_strings_IndexByte fu a0 (47 : Int)) fun (r2 : Int) => (bif (decide (r2 < (0 : Int))) then (some [a0]) else (req (0 ≤ r2 ∧ r2 ≤ (a0.length : Int)) (req (0 ≤ (IntKind.i64.wrap (r2 + (1 : Int))) ∧ (IntKind.i64.wrap (r2 + (1 : Int))) ≤ (a0.length : Int)) (opt (f_lumref_cutAt fu (a0.drop ((IntKind.i64.wrap (r2 + (1 : Int)))).toNat)) fun (r9 : (List (List UInt8))) => (req (((([(a0.take (r2).toNat)]).length + r9.length) * 16 : Nat) ≤ 140737488355328 ∧ ([(a0.take (r2).toNat)]).length + r9.length ≤ 9223372036854775807) (some (([(a0.take (r2).toNat)]) ++ r9))))))))
set_option maxHeartbeats 2000000 in
set_option maxRecDepth 100000 in
theorem f_lumref_cutAt_ok (fu : Nat) (a0 : (List UInt8)) {r : (List (List UInt8))} (h : f_lumref_cutAt fu a0 = some r) : FnOk Tryz.prog 78 [(str a0)] [] [] (fun (i : Value) => { val := i, own := [(oRow i 9 tyStr r)] }) := by
 cases fu with
 | zero => rw [f_lumref_cutAt] at h; cases h
 | succ fu =>
  rw [f_lumref_cutAt] at h
  refine fn_enter Tryz.func78 rfl Tryz.ntmps78 rfl (fun w0 Z0 => ?_)
  refine aw_sr ?_
  refine al_as rfl rfl ?_
  refine al_nt ?_
  refine aw_sr ?_
  refine al_mv rfl rfl ?_
  obtain ⟨r2, hc1, h⟩ := opt_some h
  refine al_call (vs := [(str a0), (i8 (47 : Int))]) (f_strings_IndexByte_ok fu a0 (47 : Int) hc1) [] [] [] pre_nil rfl (by simp) (by decide) (.inl rfl) rfl Tryz.func108 rfl rfl rfl (fun _ => ?_)
  refine al_as rfl rfl ?_
  refine al_nt ?_
  refine aw_seq ?_
  refine aw_sr ?_
  refine al_mv rfl rfl ?_
  refine al_in rfl rfl rfl rfl ?_
  refine al_nt ?_
  refine aw_cond rfl (fun hb3 => ?_) (fun hb3 => ?_)
  ·replace h := bif_t hb3 h
   refine aw_sr ?_
   refine al_mv rfl rfl ?_
   refine al_buildSlice (τ := tyStr) (e := 9) (k := 1) (sz := 0) (by_ := 0) (z := undef) (cs := [(str a0)]) (xs := [a0]) rfl (by decide) (fun w a hm hs => ⟨([(str a0)]).toArray, rfl, by simp only [List.map_toArray, List.map_cons, List.map_nil, hs.ev (x := .tmp 8) rfl]; exact run_bs [(str a0)] [(str a0)] Tryz.underlying47 to9 rfl rfl (bs_cons (l := [(str a0)]) (cs := []) (cv_rfl rfl) rfl bs_nil) hm⟩) (fun hm => ⟨_, _, rfl, (fun _ => rfl) hm, rfl⟩) rfl (fun v4 => ?_)
   refine al_as rfl rfl ?_
   refine al_nt ?_
   refine aw_ret ?_
   refine aq_then_ret ?_
   obtain rfl := Option.some.inj h
   exact fn_ret v4 [0] [] rfl rfl rfl rfl (res1 rfl rfl) rfl rfl rfl (by decide)
  ·replace h := bif_f hb3 h
   refine aw_skip ?_
   refine aq_then ?_
   refine aw_seq ?_
   obtain ⟨hc5, h⟩ := req_some h
   obtain ⟨hc7, h⟩ := req_some h
   refine aw_region_open [⟨0, 10, Unit, fun _ => { val := (str a0) }⟩, ⟨1, 11, Unit, fun _ => { val := (iq r2) }⟩, ⟨2, 12, Unit, fun _ => { val := (str (a0.take (r2).toNat)) }⟩, ⟨3, 13, Value, fun (i : Value) => { val := i, own := [(oRow i 9 tyStr [(a0.take (r2).toNat)])] }⟩, ⟨4, 14, Unit, fun _ => { val := (str a0) }⟩, ⟨5, 15, Unit, fun _ => { val := (iq r2) }⟩, ⟨6, 16, Unit, fun _ => { val := (iq (wq (r2 + (1 : Int)))) }⟩, ⟨7, 17, Unit, fun _ => { val := (str (a0.drop ((wq (r2 + (1 : Int)))).toNat)) }⟩] (tab [(0, (str a0)), (2, nS), (3, (iq r2))]) mixed (fun a hs => hs.tab _ (allT_mem ⟨rfl, rfl, rfl, trivial⟩)) ?_
   refine ta_show (m := (memOf w0 Z0 [] [] [])) (S := (tab [(0, (str a0)), (2, nS), (3, (iq r2))])) ?_
   refine ta_step 8 _ [0, 1, 2, 3, 4, 5, 6, 7] [10, 11, 12, 13, 14, 15, 16, 17] [4, 5, 6, 7] [] [⟨4, 14, Unit, fun _ => { val := (str a0) }⟩, ⟨5, 15, Unit, fun _ => { val := (iq r2) }⟩, ⟨6, 16, Unit, fun _ => { val := (iq (wq (r2 + (1 : Int)))) }⟩, ⟨7, 17, Unit, fun _ => { val := (str (a0.drop ((wq (r2 + (1 : Int)))).toNat)) }⟩] [⟨0, 10, Unit, fun _ => { val := (str a0) }⟩, ⟨1, 11, Unit, fun _ => { val := (iq r2) }⟩, ⟨2, 12, Unit, fun _ => { val := (str (a0.take (r2).toNat)) }⟩, ⟨3, 13, Value, fun (i : Value) => { val := i, own := [(oRow i 9 tyStr [(a0.take (r2).toNat)])] }⟩] rfl rfl rfl (by kernel_rfl) rfl rfl rfl ⟨⟨_, rfl, [], rfl, by
 intro X_ Y_ F_ K_ hK_
 refine al_show (m := Mem.plus (memOf w0 Z0 [] [] []) X_ Y_) (S := over (tab [(0, (str a0)), (2, nS), (3, (iq r2))]) F_) ?_
 refine al_mv rfl rfl ?_
 refine al_nil ?_
 exact fr_fin hK_ ()⟩, ⟨_, rfl, [], rfl, by
 intro X_ Y_ F_ K_ hK_
 refine al_show (m := Mem.plus (memOf w0 Z0 [] [] []) X_ Y_) (S := over (tab [(0, (str a0)), (2, nS), (3, (iq r2))]) F_) ?_
 refine al_mv rfl rfl ?_
 refine al_nil ?_
 exact fr_fin hK_ ()⟩, ⟨_, rfl, [0, 1], rfl, by
 intro _
 intro _
 intro X_ Y_ F_ K_ hK_
 refine al_show (m := Mem.plus (memOf w0 Z0 [] [] []) X_ Y_) (S := over (put (put (tab [(0, (str a0)), (2, nS), (3, (iq r2))]) 10 (str a0)) 11 (iq r2)) F_) ?_
 refine al_val (ov_strTo hc5.1 hc5.2 Tryz.underlying9 rfl rfl rfl) ?_
 refine al_nil ?_
 exact fr_fin hK_ ()⟩, ⟨_, rfl, [2], rfl, by
 intro _
 intro X_ Y_ F_ K_ hK_
 refine al_show (m := Mem.plus (memOf w0 Z0 [] [] []) X_ Y_) (S := over (put (tab [(0, (str a0)), (2, nS), (3, (iq r2))]) 12 (str (a0.take (r2).toNat))) F_) ?_
 refine al_buildSlice (τ := tyStr) (e := 9) (k := 1) (sz := 0) (by_ := 0) (z := undef) (cs := [(str (a0.take (r2).toNat))]) (xs := [(a0.take (r2).toNat)]) rfl (by decide) (fun w a hm hs => ⟨([(str (a0.take (r2).toNat))]).toArray, rfl, by simp only [List.map_toArray, List.map_cons, List.map_nil, hs.ev (x := .tmp 12) rfl]; exact run_bs [(str (a0.take (r2).toNat))] [(str (a0.take (r2).toNat))] Tryz.underlying47 to9 rfl rfl (bs_cons (l := [(str (a0.take (r2).toNat))]) (cs := []) (cv_rfl rfl) rfl bs_nil) hm⟩) (fun hm => ⟨_, _, rfl, (fun _ => rfl) hm, rfl⟩) rfl (fun v6 => ?_)
 refine al_nil ?_
 exact fr_fin hK_ v6⟩, ⟨_, rfl, [], rfl, by
 intro X_ Y_ F_ K_ hK_
 refine al_show (m := Mem.plus (memOf w0 Z0 [] [] []) X_ Y_) (S := over (tab [(0, (str a0)), (2, nS), (3, (iq r2))]) F_) ?_
 refine al_mv rfl rfl ?_
 refine al_nil ?_
 exact fr_fin hK_ ()⟩, ⟨_, rfl, [], rfl, by
 intro X_ Y_ F_ K_ hK_
 refine al_show (m := Mem.plus (memOf w0 Z0 [] [] []) X_ Y_) (S := over (tab [(0, (str a0)), (2, nS), (3, (iq r2))]) F_) ?_
 refine al_mv rfl rfl ?_
 refine al_nil ?_
 exact fr_fin hK_ ()⟩, ⟨_, rfl, [5], rfl, by
 intro _
 intro X_ Y_ F_ K_ hK_
 refine al_show (m := Mem.plus (memOf w0 Z0 [] [] []) X_ Y_) (S := over (put (tab [(0, (str a0)), (2, nS), (3, (iq r2))]) 15 (iq r2)) F_) ?_
 refine al_in rfl rfl rfl rfl ?_
 refine al_nil ?_
 exact fr_fin hK_ ()⟩, ⟨_, rfl, [4, 6], rfl, by
 intro _
 intro _
 intro X_ Y_ F_ K_ hK_
 refine al_show (m := Mem.plus (memOf w0 Z0 [] [] []) X_ Y_) (S := over (put (put (tab [(0, (str a0)), (2, nS), (3, (iq r2))]) 14 (str a0)) 16 (iq (wq (r2 + (1 : Int))))) F_) ?_
 refine al_val (ov_strFrom hc7.1 hc7.2 Tryz.underlying9 rfl rfl rfl) ?_
 refine al_nil ?_
 exact fr_fin hK_ ()⟩, trivial⟩ ?_
   intro _
   intro _
   intro _
   intro _
   intro X_ Y_ F_ K_ hK_
   refine al_show (m := Mem.plus (memOf w0 Z0 [] [] []) X_ Y_) (S := over (put (put (put (put (tab [(0, (str a0)), (2, nS), (3, (iq r2))]) 14 (str a0)) 15 (iq r2)) 16 (iq (wq (r2 + (1 : Int))))) 17 (str (a0.drop ((wq (r2 + (1 : Int)))).toNat))) F_) ?_
   obtain ⟨r9, hc8, h⟩ := opt_some h
   refine al_callX (vs := [(str (a0.drop ((wq (r2 + (1 : Int)))).toNat))]) (f_lumref_cutAt_ok fu (a0.drop ((wq (r2 + (1 : Int)))).toNat) hc8) [] [] [] pre_nil rfl (by simp) (by decide) rfl (.inl rfl) rfl Tryz.func78 rfl rfl rfl (fun v10 => ?_)
   refine al_nil ?_
   refine aq_show (m := Mem.plus (memOf w0 Z0 [] [(oRow v10 9 tyStr r9)] []) X_ Y_) ?_
   refine aq_next hK_ [0] [] [(0, (str a0)), (2, nS), (3, (iq r2)), (18, v10)] [10, 11, 12, 13] [] rfl rfl (by decide) rfl ⟨rfl, rfl, rfl, rfl, trivial⟩ ⟨rfl, rfl, rfl, rfl, trivial⟩ ?_
   clear hK_ K_ F_ X_ Y_
   refine ta_show (m := (memOf w0 Z0 [] [(oRow v10 9 tyStr r9)] [])) (S := (tab [(0, (str a0)), (2, nS), (3, (iq r2)), (18, v10)])) ?_
   refine ta_step 9 _ [0, 1, 2, 3] [10, 11, 12, 13] [0, 1, 2, 3] [] [⟨0, 10, Unit, fun _ => { val := (str a0) }⟩, ⟨1, 11, Unit, fun _ => { val := (iq r2) }⟩, ⟨2, 12, Unit, fun _ => { val := (str (a0.take (r2).toNat)) }⟩, ⟨3, 13, Value, fun (i : Value) => { val := i, own := [(oRow i 9 tyStr [(a0.take (r2).toNat)])] }⟩] [] rfl rfl rfl (by kernel_rfl) rfl rfl rfl ⟨⟨_, rfl, [], rfl, by
 intro X_ Y_ F_ K_ hK_
 refine al_show (m := Mem.plus (memOf w0 Z0 [] [(oRow v10 9 tyStr r9)] []) X_ Y_) (S := over (tab [(0, (str a0)), (2, nS), (3, (iq r2)), (18, v10)]) F_) ?_
 refine al_mv rfl rfl ?_
 refine al_nil ?_
 exact fr_fin hK_ ()⟩, ⟨_, rfl, [], rfl, by
 intro X_ Y_ F_ K_ hK_
 refine al_show (m := Mem.plus (memOf w0 Z0 [] [(oRow v10 9 tyStr r9)] []) X_ Y_) (S := over (tab [(0, (str a0)), (2, nS), (3, (iq r2)), (18, v10)]) F_) ?_
 refine al_mv rfl rfl ?_
 refine al_nil ?_
 exact fr_fin hK_ ()⟩, ⟨_, rfl, [0, 1], rfl, by
 intro _
 intro _
 intro X_ Y_ F_ K_ hK_
 refine al_show (m := Mem.plus (memOf w0 Z0 [] [(oRow v10 9 tyStr r9)] []) X_ Y_) (S := over (put (put (tab [(0, (str a0)), (2, nS), (3, (iq r2)), (18, v10)]) 10 (str a0)) 11 (iq r2)) F_) ?_
 refine al_val (ov_strTo hc5.1 hc5.2 Tryz.underlying9 rfl rfl rfl) ?_
 refine al_nil ?_
 exact fr_fin hK_ ()⟩, ⟨_, rfl, [2], rfl, by
 intro _
 intro X_ Y_ F_ K_ hK_
 refine al_show (m := Mem.plus (memOf w0 Z0 [] [(oRow v10 9 tyStr r9)] []) X_ Y_) (S := over (put (tab [(0, (str a0)), (2, nS), (3, (iq r2)), (18, v10)]) 12 (str (a0.take (r2).toNat))) F_) ?_
 refine al_buildSlice (τ := tyStr) (e := 9) (k := 1) (sz := 0) (by_ := 0) (z := undef) (cs := [(str (a0.take (r2).toNat))]) (xs := [(a0.take (r2).toNat)]) rfl (by decide) (fun w a hm hs => ⟨([(str (a0.take (r2).toNat))]).toArray, rfl, by simp only [List.map_toArray, List.map_cons, List.map_nil, hs.ev (x := .tmp 12) rfl]; exact run_bs [(str (a0.take (r2).toNat))] [(str (a0.take (r2).toNat))] Tryz.underlying47 to9 rfl rfl (bs_cons (l := [(str (a0.take (r2).toNat))]) (cs := []) (cv_rfl rfl) rfl bs_nil) hm⟩) (fun hm => ⟨_, _, rfl, (fun _ => rfl) hm, rfl⟩) rfl (fun v6 => ?_)
 refine al_nil ?_
 exact fr_fin hK_ v6⟩, trivial⟩ ?_
   intro _
   intro _
   intro _
   intro v6
   intro X_ Y_ F_ K_ hK_
   refine al_show (m := Mem.plus (memOf w0 Z0 [] [(oRow v6 9 tyStr [(a0.take (r2).toNat)]), (oRow v10 9 tyStr r9)] []) X_ Y_) (S := over (put (put (put (put (tab [(0, (str a0)), (2, nS), (3, (iq r2)), (18, v10)]) 10 (str a0)) 11 (iq r2)) 12 (str (a0.take (r2).toNat))) 13 v6) F_) ?_
   obtain ⟨hc11, h⟩ := req_some h
   refine al_append 0 hc11.1 hc11.2 rfl (src_own (i := 0) 1 rfl) rfl rfl Tryz.underlying47 to9 rfl rfl rfl (fun v12 => ?_)
   refine al_nil ?_
   refine aq_show (m := Mem.plus (memOf w0 Z0 [] [(oRow v12 9 tyStr (([(a0.take (r2).toNat)]) ++ r9)), (oRow v10 9 tyStr r9)] []) X_ Y_) ?_
   refine aq_next hK_ [0, 1] [] [(2, nS), (19, v12)] [] [] rfl rfl (by decide) rfl ⟨rfl, rfl, trivial⟩ trivial ?_
   clear hK_ K_ F_ X_ Y_
   refine ta_show (m := (memOf w0 Z0 [] [(oRow v12 9 tyStr (([(a0.take (r2).toNat)]) ++ r9)), (oRow v10 9 tyStr r9)] [])) (S := (tab [(2, nS), (19, v12)])) ?_
   refine ta_step 10 _ [] [] [] [] [] [] rfl rfl rfl (by kernel_rfl) rfl rfl rfl trivial ?_
   intro X_ Y_ F_ K_ hK_
   refine al_show (m := Mem.plus (memOf w0 Z0 [] [(oRow v12 9 tyStr (([(a0.take (r2).toNat)]) ++ r9)), (oRow v10 9 tyStr r9)] []) X_ Y_) (S := over (tab [(2, nS), (19, v12)]) F_) ?_
   refine al_as rfl rfl ?_
   refine al_nil ?_
   refine aq_show (m := Mem.plus (memOf w0 Z0 [] [(oRow v12 9 tyStr (([(a0.take (r2).toNat)]) ++ r9)), (oRow v10 9 tyStr r9)] []) X_ Y_) ?_
   refine aq_next hK_ [0, 1] [] [(2, v12)] [] [] rfl rfl (by decide) rfl ⟨rfl, trivial⟩ trivial ?_
   clear hK_ K_ F_ X_ Y_
   refine ta_show (m := (memOf w0 Z0 [] [(oRow v12 9 tyStr (([(a0.take (r2).toNat)]) ++ r9)), (oRow v10 9 tyStr r9)] [])) (S := (tab [(2, v12)])) ?_
   refine ta_end [] [] rfl rfl (by kernel_rfl) rfl trivial ?_
   refine aq_show (m := (memOf w0 Z0 [] [(oRow v12 9 tyStr (([(a0.take (r2).toNat)]) ++ r9)), (oRow v10 9 tyStr r9)] [])) (S := (tab [(2, v12)])) ?_
   refine aq_then ?_
   refine aw_ret ?_
   obtain rfl := Option.some.inj h
   exact fn_ret v12 [0] [] rfl rfl rfl rfl (res1 rfl rfl) rfl rfl rfl (by decide)
def f_lumref_nameErr_L5 (a0 : (List (List UInt8))) (kk2 : (Unit → Option Int)) (fu : Nat) : Nat → Int → Option Int
  | 0, _ => none
  | k4 + 1, l3i8 => (bif (decide (l3i8 < (a0.length : Int))) then (opt (at? a0 l3i8) fun (u7 : (List UInt8)) => (bif (decide (l3i8 ≥ (8 : Int))) then (some (14 : Int)) else (opt (f_lumref_Name fu u7) fun (r12 : Int) => (bif (r12 != (0 : Int)) then (some r12) else (f_lumref_nameErr_L5 a0 kk2 fu k4 (IntKind.i64.wrap (l3i8 + (1 : Int)))))))) else (kk2 ()))
def f_lumref_nameErr (fu : Nat) (a0 : (List (List UInt8))) : Option Int := (lt (fun (_ : Unit) => (some (0 : Int))) fun (kk2 : Unit → Option Int) => (f_lumref_nameErr_L5 a0 kk2 fu fu (0 : Int)))
set_option maxHeartbeats 2000000 in
set_option maxRecDepth 100000 in
theorem f_lumref_nameErr_ok (fu : Nat) (v0_0 : Value) (a0 : (List (List UInt8))) {r : Int} (h : f_lumref_nameErr fu a0 = some r) : FnOk Tryz.prog 79 [v0_0] [(fDat (tyList tyStr) [v0_0] a0)] [] (fun (i : Unit) => { val := (int .i64 r) }) := by
 unfold f_lumref_nameErr at h
 refine fn_enter Tryz.func79 rfl Tryz.ntmps79 rfl (fun w0 Z0 => ?_)
 refine aw_sr ?_
 refine al_as rfl rfl ?_
 refine al_nt ?_
 obtain ⟨kk2, hkk2, h⟩ := lt_some h
 refine aw_seq_join (ι := Unit) (fun i => (memOf w0 Z0 [] [] [(fDat (tyList tyStr) [v0_0] a0)])) (fun i => (tab [])) (fun i => kk2 () = some r) ?_ ?_
 ·rintro _ h
  have h : kk2 () = some r := h
  rw [hkk2] at h
  dsimp only at h
  clear hkk2
  refine aw_show (m := (memOf w0 Z0 [] [] [(fDat (tyList tyStr) [v0_0] a0)])) (S := (tab [])) ?_
  refine aw_sr ?_
  refine al_as rfl rfl ?_
  refine al_nt ?_
  refine aw_ret ?_
  obtain rfl := Option.some.inj h
  exact fn_ret () [] [] rfl rfl rfl rfl (res1 rfl rfl) rfl rfl rfl (by decide)
 ·clear hkk2
  refine aw_sr ?_
  refine al_mv rfl rfl ?_
  refine al_val (ov_lenD 0 rfl rfl Tryz.underlying47 rfl) ?_
  refine al_mv rfl rfl ?_
  refine al_nt ?_
  refine aw_block ?_
  refine aw_state (aw_loop (ι := Int) (fun i => (memOf w0 Z0 [] [] [(fDat (tyList tyStr) [v0_0] a0)])) (fun i => (tab [(6, v0_0), (7, (iq (a0.length : Int))), (8, (iq i))])) (fun q i => f_lumref_nameErr_L5 a0 kk2 fu q i = some r) ?_ fu (0 : Int) h) (fun w a hm hs => norm hm hs [] [0] [(6, v0_0), (7, (iq (a0.length : Int))), (8, (iq (0 : Int)))] (by decide) ⟨rfl, rfl, rfl, trivial⟩)
  clear h
  rintro k4 l3i8 h
  have h : f_lumref_nameErr_L5 a0 kk2 fu k4 l3i8 = some r := h
  obtain _ | k4 := k4
  · rw [f_lumref_nameErr_L5] at h; cases h
  rw [f_lumref_nameErr_L5] at h
  refine aw_show (m := (memOf w0 Z0 [] [] [(fDat (tyList tyStr) [v0_0] a0)])) (S := (tab [(6, v0_0), (7, (iq (a0.length : Int))), (8, (iq l3i8))])) ?_
  refine aw_sr ?_
  refine al_in rfl rfl rfl rfl ?_
  refine al_nt ?_
  refine aw_seq ?_
  refine aw_cond rfl (fun hb6 => ?_) (fun hb6 => ?_)
  ·replace h := bif_t hb6 h
   refine aw_skip ?_
   refine aq_then ?_
   refine aw_seq ?_
   refine aw_block ?_
   refine aw_sr ?_
   refine al_mv rfl rfl ?_
   obtain ⟨u7, hu8, h⟩ := opt_some h
   refine al_idxD 0 hu8 rfl rfl rfl Tryz.underlying47 sz9 rfl (fun p9 => ?_)
   refine al_val (ov_loadP (ds := [(str u7)]) 0 rfl (fun h => h) rfl Tryz.underlying9 sz9 rfl rfl rfl) ?_
   refine al_as rfl rfl ?_
   refine al_as rfl rfl ?_
   refine al_nt ?_
   refine aw_seq ?_
   refine aw_sr ?_
   refine al_mv rfl rfl ?_
   refine al_in rfl rfl rfl rfl ?_
   refine al_nt ?_
   refine aw_cond rfl (fun hb10 => ?_) (fun hb10 => ?_)
   ·replace h := bif_t hb10 h
    refine aw_sr ?_
    refine al_as rfl rfl ?_
    refine al_nt ?_
    refine aw_ret ?_
    refine aq_then_ret ?_
    refine aq_block_ret ?_
    refine aq_then_ret ?_
    refine aq_then_ret ?_
    refine aq_block_ret ?_
    refine aq_then_ret ?_
    obtain rfl := Option.some.inj h
    exact fn_ret () [] [] rfl rfl rfl rfl (res1 rfl rfl) rfl rfl rfl (by decide)
   ·replace h := bif_f hb10 h
    refine aw_skip ?_
    refine aq_tr ?_
    refine al_mv rfl rfl ?_
    obtain ⟨r12, hc11, h⟩ := opt_some h
    refine al_call (vs := [(str u7)]) (f_lumref_Name_ok fu u7 hc11) [] [] [] pre_nil rfl (by simp) (by decide) (.inl rfl) rfl Tryz.func50 rfl rfl rfl (fun _ => ?_)
    refine al_as rfl rfl ?_
    refine al_nt ?_
    refine aw_sr ?_
    refine al_mv rfl rfl ?_
    refine al_in rfl rfl rfl rfl ?_
    refine al_nt ?_
    refine aw_cond rfl (fun hb13 => ?_) (fun hb13 => ?_)
    ·replace h := bif_t hb13 h
     refine aw_sr ?_
     refine al_mv rfl rfl ?_
     refine al_as rfl rfl ?_
     refine al_nt ?_
     refine aw_ret ?_
     refine aq_block_ret ?_
     refine aq_then_ret ?_
     refine aq_then_ret ?_
     refine aq_block_ret ?_
     refine aq_then_ret ?_
     obtain rfl := Option.some.inj h
     exact fn_ret () [] [] rfl rfl rfl rfl (res1 rfl rfl) rfl rfl rfl (by decide)
    ·replace h := bif_f hb13 h
     refine aw_skip ?_
     refine aq_block ?_
     refine aq_then ?_
     refine aw_region ?_
     refine al_in rfl rfl rfl rfl ?_
     refine al_mv rfl rfl ?_
     refine al_nil ?_
     exact aq_again k4 (wq (l3i8 + (1 : Int))) (Nat.lt_succ_self _) h (fun w a hm hs => norm hm hs [] [1] [(6, v0_0), (7, (iq (a0.length : Int))), (8, (iq (wq (l3i8 + (1 : Int)))))] (by decide) ⟨rfl, rfl, rfl, trivial⟩)
  ·replace h := bif_f hb6 h
   refine aw_exit ?_
   refine aq_then_exit ?_
   refine aq_then_exit ?_
   refine aq_block_exit ?_
   exact aq_join () h (fun w a hm hs => norm hm hs [] [0] [] (by decide) trivial)
def f_lumref_Split (fu : Nat) (a0 : (List UInt8)) : Option ((List (List UInt8)) × Int) := (lt (fun (j1b12 : Bool) => (bif j1b12 then (some (([] : List (List UInt8)), (8 : Int))) else (bif (a0 == ([47] : List UInt8)) then (some (([] : List (List UInt8)), (0 : Int))) else (req (0 ≤ (1 : Int) ∧ (1 : Int) ≤ (a0.length : Int)) (opt (f_lumref_cutAt fu (a0.drop ((1 : Int)).toNat)) fun (r7 : (List (List UInt8))) => (opt (f_lumref_nameErr fu r7) fun (r10 : Int) => (bif (r10 != (0 : Int)) then (some (([] : List (List UInt8)), r10)) else (some (r7, (0 : Int)))))))))) fun (kk2 : Bool → Option ((List (List UInt8)) × Int)) => (bif (a0 == ([] : List UInt8)) then (kk2 true) else (req (0 ≤ (0 : Int) ∧ (0 : Int) < (a0.length : Int)) (kk2 ((En.bAt a0 (0 : Int)) != (47 : Int))))))
set_option maxHeartbeats 2000000 in
set_option maxRecDepth 100000 in
theorem f_lumref_Split_ok (fu : Nat) (a0 : (List UInt8)) {r : ((List (List UInt8)) × Int)} (h : f_lumref_Split fu a0 = some r) : FnOk Tryz.prog 39 [(str a0)] [] [] (fun (i : Value) => { val := (Value.tuple #[i, (int .i64 r.2)]), own := [(oRow i 9 tyStr r.1)] }) := by
 unfold f_lumref_Split at h
 refine fn_enter Tryz.func39 rfl Tryz.ntmps39 rfl (fun w0 Z0 => ?_)
 refine aw_sr ?_
 refine al_as rfl rfl ?_
 refine al_as rfl rfl ?_
 refine al_nt ?_
 refine aw_seq ?_
 obtain ⟨kk2, hkk2, h⟩ := lt_some h
 refine aw_seq_join (ι := Bool) (fun i => (memOf w0 Z0 [] [] [])) (fun i => (tab [(0, (str a0)), (12, (bool i))])) (fun i => kk2 i = some r) ?_ ?_
 ·rintro j1b12 h
  have h : kk2 j1b12 = some r := h
  rw [hkk2] at h
  dsimp only at h
  clear hkk2
  refine aw_show (m := (memOf w0 Z0 [] [] [])) (S := (tab [(0, (str a0)), (12, (bool j1b12))])) ?_
  refine aw_cond rfl (fun hb3 => ?_) (fun hb3 => ?_)
  ·replace h := bif_t hb3 h
   refine aw_sr ?_
   refine al_as rfl rfl ?_
   refine al_as rfl rfl ?_
   refine al_nt ?_
   refine aw_ret ?_
   refine aq_then_ret ?_
   refine aq_nilR 9 tyStr ?_
   obtain rfl := Option.some.inj h
   exact fn_ret nS [0] [] rfl rfl rfl rfl (res2 rfl rfl rfl) rfl rfl rfl (by decide)
  ·replace h := bif_f hb3 h
   refine aw_skip ?_
   refine aq_then ?_
   refine aw_seq ?_
   refine aw_sr ?_
   refine al_mv rfl rfl ?_
   refine al_val (ov_strCmp rfl rfl rfl rfl) ?_
   refine al_nt ?_
   refine aw_cond rfl (fun hb4 => ?_) (fun hb4 => ?_)
   ·replace h := bif_t hb4 h
    refine aw_sr ?_
    refine al_as rfl rfl ?_
    refine al_as rfl rfl ?_
    refine al_nt ?_
    refine aw_ret ?_
    refine aq_then_ret ?_
    refine aq_nilR 9 tyStr ?_
    obtain rfl := Option.some.inj h
    exact fn_ret nS [0] [] rfl rfl rfl rfl (res2 rfl rfl rfl) rfl rfl rfl (by decide)
   ·replace h := bif_f hb4 h
    refine aw_skip ?_
    refine aq_tr ?_
    refine al_mv rfl rfl ?_
    obtain ⟨hc5, h⟩ := req_some h
    refine al_val (ov_strFrom hc5.1 hc5.2 Tryz.underlying9 rfl rfl rfl) ?_
    obtain ⟨r7, hc6, h⟩ := opt_some h
    refine al_call (vs := [(str (a0.drop ((1 : Int)).toNat))]) (f_lumref_cutAt_ok fu (a0.drop ((1 : Int)).toNat) hc6) [] [] [] pre_nil rfl (by simp) (by decide) (.inl rfl) rfl Tryz.func78 rfl rfl rfl (fun v8 => ?_)
    refine al_as rfl rfl ?_
    refine al_nt ?_
    refine aw_seq ?_
    refine aw_sr ?_
    refine al_mv rfl rfl ?_
    obtain ⟨r10, hc9, h⟩ := opt_some h
    refine al_call (vs := [v8]) (f_lumref_nameErr_ok fu v8 r7 hc9) [0] [] [0] (pre_own 0 rfl rfl pre_nil) rfl (by simp) (by decide) (.inr flat_res0) rfl Tryz.func79 rfl rfl rfl (fun _ => ?_)
    refine al_as rfl rfl ?_
    refine al_nt ?_
    refine aw_sr ?_
    refine al_mv rfl rfl ?_
    refine al_in rfl rfl rfl rfl ?_
    refine al_nt ?_
    refine aw_cond rfl (fun hb11 => ?_) (fun hb11 => ?_)
    ·replace h := bif_t hb11 h
     refine aw_sr ?_
     refine al_mv rfl rfl ?_
     refine al_as rfl rfl ?_
     refine al_as rfl rfl ?_
     refine al_nt ?_
     refine aw_ret ?_
     refine aq_then_ret ?_
     refine aq_nilR 9 tyStr ?_
     obtain rfl := Option.some.inj h
     exact fn_ret nS [0] [] rfl rfl rfl rfl (res2 rfl rfl rfl) rfl rfl rfl (by decide)
    ·replace h := bif_f hb11 h
     refine aw_skip ?_
     refine aq_tr ?_
     refine al_mv rfl rfl ?_
     refine al_as rfl rfl ?_
     refine al_as rfl rfl ?_
     refine al_nt ?_
     refine aw_ret ?_
     obtain rfl := Option.some.inj h
     exact fn_ret v8 [0] [] rfl rfl rfl rfl (res2 rfl rfl rfl) rfl rfl rfl (by decide)
 ·clear hkk2
  refine aw_region ?_
  refine al_mv rfl rfl ?_
  refine al_val (ov_strCmp rfl rfl rfl rfl) ?_
  refine al_mv rfl rfl ?_
  refine al_caseB 8 rfl (fun hb12 => ?_) (fun hb12 => ?_)
  ·replace h := bif_t hb12 h
   refine al_skip ?_
   refine al_skip ?_
   refine al_skip ?_
   refine al_val (ov_pick_t rfl rfl rfl) ?_
   refine al_nil ?_
   exact aq_join true h (fun w a hm hs => norm hm hs [] [] [(0, (str a0)), (12, (bool true))] (by decide) ⟨rfl, rfl, trivial⟩)
  ·replace h := bif_f hb12 h
   refine al_mv rfl rfl ?_
   obtain ⟨hc13, h⟩ := req_some h
   refine al_val (ov_strIdx hc13.1 hc13.2 Tryz.underlying9 rfl rfl rfl) ?_
   refine al_in rfl rfl rfl rfl ?_
   refine al_val (ov_pick_f rfl rfl rfl) ?_
   refine al_nil ?_
   exact aq_join ((En.bAt a0 (0 : Int)) != (47 : Int)) h (fun w a hm hs => norm hm hs [] [] [(0, (str a0)), (12, (bool ((En.bAt a0 (0 : Int)) != (47 : Int))))] (by decide) ⟨rfl, rfl, trivial⟩)
def f_lumref_itemErr (fu : Nat) (a0 : S_api_Item) : Option Int := (opt (f_lumref_Split fu a0.Path) fun (r3 : ((List (List UInt8)) × Int)) => (bif (r3.2 != (0 : Int)) then (some r3.2) else (bif ((r3.1.length : Int) == (0 : Int)) then (some (8 : Int)) else (lt (fun (j7b19 : Bool) => (bif j7b19 then (some (5 : Int)) else (lt (fun (j10b33 : Bool) => (bif j10b33 then (some (1 : Int)) else (lt (fun (j13b42 : Bool) => (bif j13b42 then (some (2 : Int)) else (lt (fun (j16b73 : Bool) => (bif j16b73 then (some (4 : Int)) else (some (0 : Int)))) fun (kk17 : Bool → Option Int) => (bif (a0.Kind == (3 : Int)) then (kk17 (a0.Bytes == ([] : List UInt8))) else (kk17 false))))) fun (kk14 : Bool → Option Int) => (bif (a0.Kind == (1 : Int)) then (bif (decide ((a0.Bytes.length : Int) > (4096 : Int))) then (kk14 true) else (bif (a0.Kind == (2 : Int)) then (bif (!(a0.Bytes == ([] : List UInt8))) then (kk14 true) else (bif (a0.Kind == (3 : Int)) then (kk14 (decide ((a0.Bytes.length : Int) > (1024 : Int)))) else (kk14 false))) else (bif (a0.Kind == (3 : Int)) then (kk14 (decide ((a0.Bytes.length : Int) > (1024 : Int)))) else (kk14 false)))) else (bif (a0.Kind == (2 : Int)) then (bif (!(a0.Bytes == ([] : List UInt8))) then (kk14 true) else (bif (a0.Kind == (3 : Int)) then (kk14 (decide ((a0.Bytes.length : Int) > (1024 : Int)))) else (kk14 false))) else (bif (a0.Kind == (3 : Int)) then (kk14 (decide ((a0.Bytes.length : Int) > (1024 : Int)))) else (kk14 false))))))) fun (kk11 : Bool → Option Int) => (bif (decide (a0.Mode < (0 : Int))) then (kk11 true) else (kk11 (decide (a0.Mode > (511 : Int)))))))) fun (kk8 : Bool → Option Int) => (bif (a0.Kind != (1 : Int)) then (bif (a0.Kind != (2 : Int)) then (kk8 (a0.Kind != (3 : Int))) else (kk8 false)) else (kk8 false))))))
end Go.Proofs.YtfhifdmbdkkgaaaGreatDoor
