/- Walks by program. No condition. -/
import Derived.Test.YtjbgahmcobcojaaEn21
import Derived.Test.YtjbgahmcobcojaaChecked
import Derived.Test.YtjbgahmcobcojaaShBEPut
import Derived.Test.YtjbgahmcobcojaaShRepeat
namespace Go.Proofs.Ytjbgahmcobcojaa
open Go.RowKit Ytjbgahmcobcojaa.En
set_option linter.unusedVariables false
set_option linter.unusedSimpArgs false
structure A8u8 where
  e0 : UInt8
  e1 : UInt8
  e2 : UInt8
  e3 : UInt8
  e4 : UInt8
  e5 : UInt8
  e6 : UInt8
  e7 : UInt8
  deriving DecidableEq
def tyA8u8 : Ty A8u8 := tyVia (fun x => (x.e0, (x.e1, (x.e2, (x.e3, (x.e4, (x.e5, (x.e6, x.e7)))))))) (tyPair tyU8 (tyPair tyU8 (tyPair tyU8 (tyPair tyU8 (tyPair tyU8 (tyPair tyU8 (tyPair tyU8 tyU8)))))))
theorem subA8u8_0 : Sub tyA8u8 0 tyU8 (fun x => x.e0) := Sub.via (Sub.fst (Sub.whole _))
theorem subA8u8_1 : Sub tyA8u8 1 tyU8 (fun x => x.e1) := Sub.via (Sub.snd (Sub.fst (Sub.whole _)))
theorem subA8u8_2 : Sub tyA8u8 2 tyU8 (fun x => x.e2) := Sub.via (Sub.snd (Sub.snd (Sub.fst (Sub.whole _))))
theorem subA8u8_3 : Sub tyA8u8 3 tyU8 (fun x => x.e3) := Sub.via (Sub.snd (Sub.snd (Sub.snd (Sub.fst (Sub.whole _)))))
theorem subA8u8_4 : Sub tyA8u8 4 tyU8 (fun x => x.e4) := Sub.via (Sub.snd (Sub.snd (Sub.snd (Sub.snd (Sub.fst (Sub.whole _))))))
theorem subA8u8_5 : Sub tyA8u8 5 tyU8 (fun x => x.e5) := Sub.via (Sub.snd (Sub.snd (Sub.snd (Sub.snd (Sub.snd (Sub.fst (Sub.whole _)))))))
theorem subA8u8_6 : Sub tyA8u8 6 tyU8 (fun x => x.e6) := Sub.via (Sub.snd (Sub.snd (Sub.snd (Sub.snd (Sub.snd (Sub.snd (Sub.fst (Sub.whole _))))))))
theorem subA8u8_7 : Sub tyA8u8 7 tyU8 (fun x => x.e7) := Sub.via (Sub.snd (Sub.snd (Sub.snd (Sub.snd (Sub.snd (Sub.snd (Sub.snd (Sub.whole _))))))))
def cA8u8 (x : A8u8) : List Value := [(Value.int .u8 (x.e0.toNat : Int)), (Value.int .u8 (x.e1.toNat : Int)), (Value.int .u8 (x.e2.toNat : Int)), (Value.int .u8 (x.e3.toNat : Int)), (Value.int .u8 (x.e4.toNat : Int)), (Value.int .u8 (x.e5.toNat : Int)), (Value.int .u8 (x.e6.toNat : Int)), (Value.int .u8 (x.e7.toNat : Int))]
def lA8u8 (x : A8u8) : List UInt8 := [x.e0, x.e1, x.e2, x.e3, x.e4, x.e5, x.e6, x.e7]
def vA8u8 (y : UInt8) : Value := (Value.int .u8 (y.toNat : Int))
def setA8u8 (x : A8u8) (j : Int) (y : UInt8) : A8u8 := ⟨if j = 0 then y else x.e0, if j = 1 then y else x.e1, if j = 2 then y else x.e2, if j = 3 then y else x.e3, if j = 4 then y else x.e4, if j = 5 then y else x.e5, if j = 6 then y else x.e6, if j = 7 then y else x.e7⟩
theorem oneA8u8 (x : A8u8) : ∀ u ∈ cA8u8 x, u.oneCell' = true := ones_map (enc := vA8u8) (xs := lA8u8 x) (fun _ => rfl)
theorem lenA8u8 (x : A8u8) : (lA8u8 x).length = 8 := rfl
theorem lsetA8u8 {x : A8u8} {j : Int} {y : UInt8} (h0 : 0 ≤ j) (h1 : j < 8) : lA8u8 (setA8u8 x j y) = (lA8u8 x).set j.toNat y := by
  obtain ⟨q, rfl⟩ : ∃ q : Nat, j = q := ⟨j.toNat, by omega⟩
  match q, h1 with
  | 0, _ => rfl
  | 1, _ => rfl
  | 2, _ => rfl
  | 3, _ => rfl
  | 4, _ => rfl
  | 5, _ => rfl
  | 6, _ => rfl
  | 7, _ => rfl
  | n + 8, h => omega
theorem csetA8u8 {x : A8u8} {j : Int} {y : UInt8} (h0 : 0 ≤ j) (h1 : j < 8) (pre post : List Value) : pre ++ (cA8u8 (setA8u8 x j y) ++ post) = (pre ++ (cA8u8 x ++ post)).set (pre.length + j.toNat) (vA8u8 y) := by
  have h : cA8u8 (setA8u8 x j y) = (cA8u8 x).set j.toNat (vA8u8 y) := by
    have e : ∀ z : A8u8, cA8u8 z = (lA8u8 z).map vA8u8 := fun _ => rfl
    rw [e, e, lsetA8u8 h0 h1, List.map_set]
  rw [h, List.set_append_right _ _ (by omega), Nat.add_sub_cancel_left, List.set_append_left _ _ (by show j.toNat < 8; omega)]
theorem flatA8u8 : FlatTy tyA8u8 := flat_via (flat_pair flat_enc (flat_pair flat_enc (flat_pair flat_enc (flat_pair flat_enc (flat_pair flat_enc (flat_pair flat_enc (flat_pair flat_enc flat_enc)))))))
theorem encA8u8 {Z w cs} {x : A8u8} (h : tyA8u8.rep Z w cs x) : cs = (cA8u8 x) := by
  obtain ⟨c0, d0, rfl, p0, q0⟩ := h
  obtain ⟨c1, d1, rfl, p1, q1⟩ := q0
  obtain ⟨c2, d2, rfl, p2, q2⟩ := q1
  obtain ⟨c3, d3, rfl, p3, q3⟩ := q2
  obtain ⟨c4, d4, rfl, p4, q4⟩ := q3
  obtain ⟨c5, d5, rfl, p5, q5⟩ := q4
  obtain ⟨c6, d6, rfl, p6, q6⟩ := q5
  rw [show _ = _ from p0]
  rw [show _ = _ from p1]
  rw [show _ = _ from p2]
  rw [show _ = _ from p3]
  rw [show _ = _ from p4]
  rw [show _ = _ from p5]
  rw [show _ = _ from p6]
  rw [show _ = _ from q6]
  rfl
theorem mkA8u8 {Z w cs} {x : A8u8} (h : cs = (cA8u8 x)) : tyA8u8.rep Z w cs x := by
  subst h
  exact ⟨_, _, (List.take_append_drop 1 _).symm, rfl, ⟨_, _, (List.take_append_drop 1 _).symm, rfl, ⟨_, _, (List.take_append_drop 1 _).symm, rfl, ⟨_, _, (List.take_append_drop 1 _).symm, rfl, ⟨_, _, (List.take_append_drop 1 _).symm, rfl, ⟨_, _, (List.take_append_drop 1 _).symm, rfl, ⟨_, _, (List.take_append_drop 1 _).symm, rfl, rfl⟩⟩⟩⟩⟩⟩⟩
theorem lrepA8u8 {Z w cs} {x : A8u8} (h : tyA8u8.rep Z w cs x) : RepL tyU8 Z w cs (lA8u8 x) := by
  rw [encA8u8 h]
  exact ⟨[_], _, rfl, rfl, ⟨[_], _, rfl, rfl, ⟨[_], _, rfl, rfl, ⟨[_], _, rfl, rfl, ⟨[_], _, rfl, rfl, ⟨[_], _, rfl, rfl, ⟨[_], _, rfl, rfl, ⟨[_], _, rfl, rfl, rfl⟩⟩⟩⟩⟩⟩⟩⟩
structure S_api_Entry where
  ID : A8u8
  Kind : Int
  At : Int
  Len : Int
  deriving DecidableEq
def tyS_api_Entry : Ty S_api_Entry := tyVia (fun x => (x.ID, (x.Kind, (x.At, x.Len)))) (tyPair tyA8u8 (tyPair (tyInt .i64) (tyPair (tyInt .i64) (tyInt .i64))))
theorem subS_api_Entry_0 : Sub tyS_api_Entry 0 tyA8u8 (fun x => x.ID) := Sub.via (Sub.fst (Sub.whole _))
theorem subS_api_Entry_1 : Sub tyS_api_Entry 8 (tyInt .i64) (fun x => x.Kind) := Sub.via (Sub.snd (Sub.fst (Sub.whole _)))
theorem subS_api_Entry_2 : Sub tyS_api_Entry 9 (tyInt .i64) (fun x => x.At) := Sub.via (Sub.snd (Sub.snd (Sub.fst (Sub.whole _))))
theorem subS_api_Entry_3 : Sub tyS_api_Entry 10 (tyInt .i64) (fun x => x.Len) := Sub.via (Sub.snd (Sub.snd (Sub.snd (Sub.whole _))))
theorem flatS_api_Entry : FlatTy tyS_api_Entry := flat_via (flat_pair flatA8u8 (flat_pair flat_enc (flat_pair flat_enc flat_enc)))
theorem encS_api_Entry {Z w cs} {x : S_api_Entry} (h : tyS_api_Entry.rep Z w cs x) : cs = ((cA8u8 x.ID) ++ [(Value.int .i64 x.Kind), (Value.int .i64 x.At), (Value.int .i64 x.Len)]) := by
  obtain ⟨c0, d0, rfl, p0, q0⟩ := h
  obtain ⟨c1, d1, rfl, p1, q1⟩ := q0
  obtain ⟨c2, d2, rfl, p2, q2⟩ := q1
  rw [encA8u8 p0]
  rw [show _ = _ from p1]
  rw [show _ = _ from p2]
  rw [show _ = _ from q2]
  rfl
theorem mkS_api_Entry {Z w cs} {x : S_api_Entry} (h : cs = ((cA8u8 x.ID) ++ [(Value.int .i64 x.Kind), (Value.int .i64 x.At), (Value.int .i64 x.Len)])) : tyS_api_Entry.rep Z w cs x := by
  subst h
  exact ⟨_, _, (List.take_append_drop 8 _).symm, (mkA8u8 rfl), ⟨_, _, (List.take_append_drop 1 _).symm, rfl, ⟨_, _, (List.take_append_drop 1 _).symm, rfl, rfl⟩⟩⟩
def ofA8u8 (l : List UInt8) : A8u8 := match l.take 8 with | [e0, e1, e2, e3, e4, e5, e6, e7] => ⟨e0, e1, e2, e3, e4, e5, e6, e7⟩ | _ => ⟨0, 0, 0, 0, 0, 0, 0, 0⟩
theorem oflA8u8 {l : List UInt8} (hl : 8 ≤ l.length) {Z w cs} (hr : RepL tyU8 Z w cs (l.take 8)) : tyA8u8.rep Z w cs (ofA8u8 l) := by
  unfold ofA8u8
  have h8 : (l.take 8).length = 8 := by rw [List.length_take]; omega
  generalize l.take 8 = m at hr h8
  match m, h8, hr with
  | [e0, e1, e2, e3, e4, e5, e6, e7], _, hr => exact mkA8u8 (by rw [u8_cells hr]; rfl)
theorem coftA8u8 (l : List UInt8) (hl : l.length = 8) : cA8u8 (ofA8u8 l) = Lib.byteCells l := by
  match l, hl with
  | [e0, e1, e2, e3, e4, e5, e6, e7], _ => rfl
def cpA8u8 (x : A8u8) (l : List UInt8) : A8u8 := ofA8u8 (l.take 8 ++ (lA8u8 x).drop (l.take 8).length)
theorem ccpA8u8 (x : A8u8) (l : List UInt8) : cA8u8 (cpA8u8 x l) = Lib.byteCells (l.take 8) ++ (cA8u8 x).drop (l.take 8).length := by
  have h1 : (l.take 8).length ≤ 8 := by rw [List.length_take]; omega
  unfold cpA8u8
  rw [coftA8u8 _ (by rw [List.length_append, List.length_drop, lenA8u8]; omega)]
  unfold Lib.byteCells
  rw [List.map_append, List.map_drop]
  rfl
theorem cpcA8u8 (x : A8u8) (l : List UInt8) (pre post : List Value) : (pre ++ (cA8u8 x ++ post)).take pre.length ++ Lib.byteCells (l.take 8) ++ (pre ++ (cA8u8 x ++ post)).drop (pre.length + (l.take 8).length) = pre ++ (cA8u8 (cpA8u8 x l) ++ post) := by
  have h1 : (l.take 8).length ≤ (cA8u8 x).length := by rw [List.length_take]; exact Nat.min_le_left _ _
  rw [ccpA8u8, List.take_left, List.drop_append, List.drop_of_length_le (by omega), Nat.add_sub_cancel_left, List.drop_append_of_le_length h1]
  simp
theorem sz3 : szOf Try.prog 3 = some 1 := by kernel_rfl
theorem to3 : tyOf Try.prog 3 = some (1, 8, some (Value.int .i64 (0 : Int))) := by kernel_rfl
theorem sz4 : szOf Try.prog 4 = some 1 := by kernel_rfl
theorem to4 : tyOf Try.prog 4 = some (1, 1, some (Value.bool false)) := by kernel_rfl
theorem sz5 : szOf Try.prog 5 = some 1 := by kernel_rfl
theorem to5 : tyOf Try.prog 5 = some (1, 1, some (Value.int .u8 (0 : Int))) := by kernel_rfl
theorem sz25 : szOf Try.prog 25 = some 8 := by kernel_rfl
theorem to25 : tyOf Try.prog 25 = some (8, 8, some (ag [(Value.int .u8 (0 : Int)), (Value.int .u8 (0 : Int)), (Value.int .u8 (0 : Int)), (Value.int .u8 (0 : Int)), (Value.int .u8 (0 : Int)), (Value.int .u8 (0 : Int)), (Value.int .u8 (0 : Int)), (Value.int .u8 (0 : Int))])) := by kernel_rfl
theorem sz26 : szOf Try.prog 26 = some 8 := by kernel_rfl
theorem to26 : tyOf Try.prog 26 = some (8, 8, some (ag [(Value.int .u8 (0 : Int)), (Value.int .u8 (0 : Int)), (Value.int .u8 (0 : Int)), (Value.int .u8 (0 : Int)), (Value.int .u8 (0 : Int)), (Value.int .u8 (0 : Int)), (Value.int .u8 (0 : Int)), (Value.int .u8 (0 : Int))])) := by kernel_rfl
theorem sz48 : szOf Try.prog 48 = some 11 := by kernel_rfl
theorem to48 : tyOf Try.prog 48 = some (11, 32, some (ag [(Value.int .u8 (0 : Int)), (Value.int .u8 (0 : Int)), (Value.int .u8 (0 : Int)), (Value.int .u8 (0 : Int)), (Value.int .u8 (0 : Int)), (Value.int .u8 (0 : Int)), (Value.int .u8 (0 : Int)), (Value.int .u8 (0 : Int)), (Value.int .i64 (0 : Int)), (Value.int .i64 (0 : Int)), (Value.int .i64 (0 : Int))])) := by kernel_rfl
theorem sz69 : szOf Try.prog 69 = some 0 := by kernel_rfl
theorem to69 : tyOf Try.prog 69 = some (0, 0, some (ag [])) := by kernel_rfl
theorem sz83 : szOf Try.prog 83 = some 0 := by kernel_rfl
theorem to83 : tyOf Try.prog 83 = some (0, 0, some (ag [])) := by kernel_rfl
theorem mixed : Try.prog.follows .mixedOrders = true := by kernel_rfl
theorem eg26 : Try.prog.eqGuardType Try.prog.depth 26 = false := by kernel_rfl
theorem kt26 : Try.prog.keyTypeAt 20 26 = true := by kernel_rfl
theorem lv26 : leaves Try.prog 20 26 = some [5, 5, 5, 5, 5, 5, 5, 5] := by kernel_rfl
theorem injA8u8 {x y : A8u8} : (x == y) = true ↔ (cA8u8 x) = (cA8u8 y) := by
  rw [beq_iff_eq]
  constructor
  · rintro rfl; rfl
  · intro h
    obtain ⟨⟩ := x
    obtain ⟨⟩ := y
    simp only [A8u8.mk.injEq, cA8u8, str, List.cons_append, List.nil_append, List.cons.injEq, Value.int.injEq, Value.bool.injEq, Value.string.injEq, ByteArray.mk.injEq, Array.mk.injEq, Int.natCast_inj, UInt8.toNat_inj, true_and, and_true] at h ⊢
    first | exact h | simpa [and_assoc] using h
theorem extA8u8 (x y : A8u8) : x = y ↔ x.e0 = y.e0 ∧ x.e1 = y.e1 ∧ x.e2 = y.e2 ∧ x.e3 = y.e3 ∧ x.e4 = y.e4 ∧ x.e5 = y.e5 ∧ x.e6 = y.e6 ∧ x.e7 = y.e7 := by
  constructor
  · rintro rfl; simp
  · intro h
    obtain ⟨⟩ := x
    obtain ⟨⟩ := y
    simpa using h
theorem eg48 : Try.prog.eqGuardType Try.prog.depth 48 = false := by kernel_rfl
theorem kt48 : Try.prog.keyTypeAt 20 48 = true := by kernel_rfl
theorem lv48 : leaves Try.prog 20 48 = some [5, 5, 5, 5, 5, 5, 5, 5, 3, 3, 3] := by kernel_rfl
theorem injS_api_Entry {x y : S_api_Entry} : (x == y) = true ↔ ((cA8u8 x.ID) ++ [(Value.int .i64 x.Kind), (Value.int .i64 x.At), (Value.int .i64 x.Len)]) = ((cA8u8 y.ID) ++ [(Value.int .i64 y.Kind), (Value.int .i64 y.At), (Value.int .i64 y.Len)]) := by
  rw [beq_iff_eq]
  constructor
  · rintro rfl; rfl
  · intro h
    obtain ⟨⟩ := x
    obtain ⟨⟩ := y
    simp only [A8u8.mk.injEq, S_api_Entry.mk.injEq, cA8u8, extA8u8, str, List.cons_append, List.nil_append, List.cons.injEq, Value.int.injEq, Value.bool.injEq, Value.string.injEq, ByteArray.mk.injEq, Array.mk.injEq, Int.natCast_inj, UInt8.toNat_inj, true_and, and_true] at h ⊢
    first | exact h | simpa [and_assoc] using h
theorem kd26 : Go.Maps.Keyed Try.prog 26 := Go.Maps.Keyed.of_law (Go.deep_law_laid (by kernel_rfl) (m := 20) (by decide) (Nat.le_of_ble_eq_true (by kernel_rfl)) (by kernel_rfl) (by kernel_rfl))
theorem kw26 (x : A8u8) : ∃ t, keyOf Try.prog 26 (ag (cA8u8 x)) = some t := key_wide (ls := [5, 5, 5, 5, 5, 5, 5, 5]) (by kernel_rfl) (by kernel_rfl) (by kernel_rfl) (by kernel_rfl) (fit_cons (fit_u8 Try.underlying5) (fit_cons (fit_u8 Try.underlying5) (fit_cons (fit_u8 Try.underlying5) (fit_cons (fit_u8 Try.underlying5) (fit_cons (fit_u8 Try.underlying5) (fit_cons (fit_u8 Try.underlying5) (fit_cons (fit_u8 Try.underlying5) (fit_cons (fit_u8 Try.underlying5) fit_nil))))))))
theorem ki26 (a b : A8u8) (h : (fun x : A8u8 => ag (cA8u8 x)) a = (fun x : A8u8 => ag (cA8u8 x)) b) : a = b := eq_of_beq (injA8u8.2 (ag_inj h))
theorem f_put8_ok {g off t : Nat} {a2 : Int} {cs cs' : List Value} (hc : 0 ≤ a2 ∧ a2 < 18446744073709551616) (hfit : off + 8 ≤ cs.length) (hcs : cs.take off ++ Lib.byteCells ((Lib.beBytes 8 a2.toNat).take 8) ++ cs.drop (off + ((Lib.beBytes 8 a2.toNat).take 8).length) = cs') :
    FnOk Try.prog 37 [(ag []), (sbx g off 8), (Value.int .u64 a2)] [] [oBox g t cs] (fun _ : Unit => { val := .tuple #[], own := [oBox g t cs'] }) := by
  obtain ⟨n, rfl⟩ : ∃ n : Nat, a2 = n := ⟨a2.toNat, by omega⟩
  have hl : (Lib.beBytes 8 n).length = 8 := Lib.beBytes_length 8 n
  have hcs' : cs.take off ++ Lib.byteCells (Lib.beBytes 8 n) ++ cs.drop (off + 8) = cs' := by
    have e : (Lib.beBytes 8 ((n : Int).toNat)).take 8 = Lib.beBytes 8 n := by rw [Int.toNat_natCast, List.take_of_length_le (by omega)]
    rw [e, hl] at hcs; exact hcs
  exact fnok_put8 hl hfit hcs' (fun x0 x1 x2 x3 x4 x5 x6 x7 w c0 c1 c2 c3 c4 c5 c6 c7 f0 f1 f2 f3 f4 f5 f6 f7 => Try.binary_BE_PutUint64 g off 8 8 n (by omega) x0 x1 x2 x3 x4 x5 x6 x7 w (by omega) c0 c1 c2 c3 c4 c5 c6 c7 f0 f1 f2 f3 f4 f5 f6 f7)
def f__binary_littleEndian__Uint64 (fu : Nat) (a0 : Unit) (a1 : (List UInt8)) : Option Int := (opt (at? a1 (7 : Int)) fun (u2 : UInt8) => (opt (at? a1 (0 : Int)) fun (u5 : UInt8) => (opt (at? a1 (1 : Int)) fun (u8 : UInt8) => (opt (at? a1 (2 : Int)) fun (u11 : UInt8) => (opt (at? a1 (3 : Int)) fun (u14 : UInt8) => (opt (at? a1 (4 : Int)) fun (u17 : UInt8) => (opt (at? a1 (5 : Int)) fun (u20 : UInt8) => (opt (at? a1 (6 : Int)) fun (u23 : UInt8) => (opt (at? a1 (7 : Int)) fun (u26 : UInt8) => (some (bits .or .u64 (bits .or .u64 (bits .or .u64 (bits .or .u64 (bits .or .u64 (bits .or .u64 (bits .or .u64 (IntKind.u64.wrap (u5.toNat : Int)) (IntKind.u64.wrap ((IntKind.u64.wrap (u8.toNat : Int)) * 2 ^ min ((8 : Int)).toNat (IntKind.bits .u64)))) (IntKind.u64.wrap ((IntKind.u64.wrap (u11.toNat : Int)) * 2 ^ min ((16 : Int)).toNat (IntKind.bits .u64)))) (IntKind.u64.wrap ((IntKind.u64.wrap (u14.toNat : Int)) * 2 ^ min ((24 : Int)).toNat (IntKind.bits .u64)))) (IntKind.u64.wrap ((IntKind.u64.wrap (u17.toNat : Int)) * 2 ^ min ((32 : Int)).toNat (IntKind.bits .u64)))) (IntKind.u64.wrap ((IntKind.u64.wrap (u20.toNat : Int)) * 2 ^ min ((40 : Int)).toNat (IntKind.bits .u64)))) (IntKind.u64.wrap ((IntKind.u64.wrap (u23.toNat : Int)) * 2 ^ min ((48 : Int)).toNat (IntKind.bits .u64)))) (IntKind.u64.wrap ((IntKind.u64.wrap (u26.toNat : Int)) * 2 ^ min ((56 : Int)).toNat (IntKind.bits .u64))))))))))))))
set_option maxRecDepth 100000 in
theorem f__binary_littleEndian__Uint64_ok (fu : Nat) (a0 : Unit) (v1_0 : Value) (a1 : (List UInt8)) {r : Int} (h : f__binary_littleEndian__Uint64 fu a0 a1 = some r) : FnOk Try.prog 52 [(ag []), v1_0] [(fDat (tyList tyU8) [v1_0] a1)] [] (fun (i : Unit) => { val := (Value.int .u64 r) }) := by
  unfold f__binary_littleEndian__Uint64 at h
  refine fn_enter Try.func52 rfl Try.ntmps52 rfl (fun w0 Z0 => ?_)
  refine aw_seq ?_
  refine aw_region ?_
  refine al_box (vs := []) rfl (cv_rfl rfl) rfl (fun g1 => ?_)
  refine al_val (ov_assign rfl rfl) ?_
  refine al_nil ?_
  refine aq_then ?_
  refine aw_seq ?_
  refine aw_region ?_
  refine al_val (ov_move rfl rfl) ?_
  obtain ⟨u2, hu3, h⟩ := opt_some h
  refine al_idxD 0 hu3 rfl rfl rfl Try.underlying62 sz5 rfl (fun p4 => ?_)
  refine al_val (ov_loadP (ds := [(Value.int .u8 (u2.toNat : Int))]) 0 rfl (fun h => h) rfl Try.underlying5 sz5 rfl rfl rfl) ?_
  refine al_nil ?_
  refine aq_then ?_
  refine aw_seq ?_
  obtain ⟨u5, hu6, h⟩ := opt_some h
  obtain ⟨u8, hu9, h⟩ := opt_some h
  obtain ⟨u11, hu12, h⟩ := opt_some h
  obtain ⟨u14, hu15, h⟩ := opt_some h
  obtain ⟨u17, hu18, h⟩ := opt_some h
  obtain ⟨u20, hu21, h⟩ := opt_some h
  obtain ⟨u23, hu24, h⟩ := opt_some h
  obtain ⟨u26, hu27, h⟩ := opt_some h
  refine aw_region_draw 46 [(8, (fun u => fEq u v1_0)), (9, (fun p7 => (fPtr tyU8 p7 u5))), (10, (fun u => fEq u (Value.int .u8 (u5.toNat : Int)))), (11, (fun u => fEq u (Value.int .u64 (IntKind.u64.wrap (u5.toNat : Int))))), (12, (fun u => fEq u v1_0)), (13, (fun p10 => (fPtr tyU8 p10 u8))), (14, (fun u => fEq u (Value.int .u8 (u8.toNat : Int)))), (15, (fun u => fEq u (Value.int .u64 (IntKind.u64.wrap (u8.toNat : Int))))), (16, (fun u => fEq u (Value.int .u64 (IntKind.u64.wrap ((IntKind.u64.wrap (u8.toNat : Int)) * 2 ^ min ((8 : Int)).toNat (IntKind.bits .u64)))))), (17, (fun u => fEq u (Value.int .u64 (bits .or .u64 (IntKind.u64.wrap (u5.toNat : Int)) (IntKind.u64.wrap ((IntKind.u64.wrap (u8.toNat : Int)) * 2 ^ min ((8 : Int)).toNat (IntKind.bits .u64))))))), (18, (fun u => fEq u v1_0)), (19, (fun p13 => (fPtr tyU8 p13 u11))), (20, (fun u => fEq u (Value.int .u8 (u11.toNat : Int)))), (21, (fun u => fEq u (Value.int .u64 (IntKind.u64.wrap (u11.toNat : Int))))), (22, (fun u => fEq u (Value.int .u64 (IntKind.u64.wrap ((IntKind.u64.wrap (u11.toNat : Int)) * 2 ^ min ((16 : Int)).toNat (IntKind.bits .u64)))))), (23, (fun u => fEq u (Value.int .u64 (bits .or .u64 (bits .or .u64 (IntKind.u64.wrap (u5.toNat : Int)) (IntKind.u64.wrap ((IntKind.u64.wrap (u8.toNat : Int)) * 2 ^ min ((8 : Int)).toNat (IntKind.bits .u64)))) (IntKind.u64.wrap ((IntKind.u64.wrap (u11.toNat : Int)) * 2 ^ min ((16 : Int)).toNat (IntKind.bits .u64))))))), (24, (fun u => fEq u v1_0)), (25, (fun p16 => (fPtr tyU8 p16 u14))), (26, (fun u => fEq u (Value.int .u8 (u14.toNat : Int)))), (27, (fun u => fEq u (Value.int .u64 (IntKind.u64.wrap (u14.toNat : Int))))), (28, (fun u => fEq u (Value.int .u64 (IntKind.u64.wrap ((IntKind.u64.wrap (u14.toNat : Int)) * 2 ^ min ((24 : Int)).toNat (IntKind.bits .u64)))))), (29, (fun u => fEq u (Value.int .u64 (bits .or .u64 (bits .or .u64 (bits .or .u64 (IntKind.u64.wrap (u5.toNat : Int)) (IntKind.u64.wrap ((IntKind.u64.wrap (u8.toNat : Int)) * 2 ^ min ((8 : Int)).toNat (IntKind.bits .u64)))) (IntKind.u64.wrap ((IntKind.u64.wrap (u11.toNat : Int)) * 2 ^ min ((16 : Int)).toNat (IntKind.bits .u64)))) (IntKind.u64.wrap ((IntKind.u64.wrap (u14.toNat : Int)) * 2 ^ min ((24 : Int)).toNat (IntKind.bits .u64))))))), (30, (fun u => fEq u v1_0)), (31, (fun p19 => (fPtr tyU8 p19 u17))), (32, (fun u => fEq u (Value.int .u8 (u17.toNat : Int)))), (33, (fun u => fEq u (Value.int .u64 (IntKind.u64.wrap (u17.toNat : Int))))), (34, (fun u => fEq u (Value.int .u64 (IntKind.u64.wrap ((IntKind.u64.wrap (u17.toNat : Int)) * 2 ^ min ((32 : Int)).toNat (IntKind.bits .u64)))))), (35, (fun u => fEq u (Value.int .u64 (bits .or .u64 (bits .or .u64 (bits .or .u64 (bits .or .u64 (IntKind.u64.wrap (u5.toNat : Int)) (IntKind.u64.wrap ((IntKind.u64.wrap (u8.toNat : Int)) * 2 ^ min ((8 : Int)).toNat (IntKind.bits .u64)))) (IntKind.u64.wrap ((IntKind.u64.wrap (u11.toNat : Int)) * 2 ^ min ((16 : Int)).toNat (IntKind.bits .u64)))) (IntKind.u64.wrap ((IntKind.u64.wrap (u14.toNat : Int)) * 2 ^ min ((24 : Int)).toNat (IntKind.bits .u64)))) (IntKind.u64.wrap ((IntKind.u64.wrap (u17.toNat : Int)) * 2 ^ min ((32 : Int)).toNat (IntKind.bits .u64))))))), (36, (fun u => fEq u v1_0)), (37, (fun p22 => (fPtr tyU8 p22 u20))), (38, (fun u => fEq u (Value.int .u8 (u20.toNat : Int)))), (39, (fun u => fEq u (Value.int .u64 (IntKind.u64.wrap (u20.toNat : Int))))), (40, (fun u => fEq u (Value.int .u64 (IntKind.u64.wrap ((IntKind.u64.wrap (u20.toNat : Int)) * 2 ^ min ((40 : Int)).toNat (IntKind.bits .u64)))))), (41, (fun u => fEq u (Value.int .u64 (bits .or .u64 (bits .or .u64 (bits .or .u64 (bits .or .u64 (bits .or .u64 (IntKind.u64.wrap (u5.toNat : Int)) (IntKind.u64.wrap ((IntKind.u64.wrap (u8.toNat : Int)) * 2 ^ min ((8 : Int)).toNat (IntKind.bits .u64)))) (IntKind.u64.wrap ((IntKind.u64.wrap (u11.toNat : Int)) * 2 ^ min ((16 : Int)).toNat (IntKind.bits .u64)))) (IntKind.u64.wrap ((IntKind.u64.wrap (u14.toNat : Int)) * 2 ^ min ((24 : Int)).toNat (IntKind.bits .u64)))) (IntKind.u64.wrap ((IntKind.u64.wrap (u17.toNat : Int)) * 2 ^ min ((32 : Int)).toNat (IntKind.bits .u64)))) (IntKind.u64.wrap ((IntKind.u64.wrap (u20.toNat : Int)) * 2 ^ min ((40 : Int)).toNat (IntKind.bits .u64))))))), (42, (fun u => fEq u v1_0)), (43, (fun p25 => (fPtr tyU8 p25 u23))), (44, (fun u => fEq u (Value.int .u8 (u23.toNat : Int)))), (45, (fun u => fEq u (Value.int .u64 (IntKind.u64.wrap (u23.toNat : Int))))), (46, (fun u => fEq u (Value.int .u64 (IntKind.u64.wrap ((IntKind.u64.wrap (u23.toNat : Int)) * 2 ^ min ((48 : Int)).toNat (IntKind.bits .u64)))))), (47, (fun u => fEq u (Value.int .u64 (bits .or .u64 (bits .or .u64 (bits .or .u64 (bits .or .u64 (bits .or .u64 (bits .or .u64 (IntKind.u64.wrap (u5.toNat : Int)) (IntKind.u64.wrap ((IntKind.u64.wrap (u8.toNat : Int)) * 2 ^ min ((8 : Int)).toNat (IntKind.bits .u64)))) (IntKind.u64.wrap ((IntKind.u64.wrap (u11.toNat : Int)) * 2 ^ min ((16 : Int)).toNat (IntKind.bits .u64)))) (IntKind.u64.wrap ((IntKind.u64.wrap (u14.toNat : Int)) * 2 ^ min ((24 : Int)).toNat (IntKind.bits .u64)))) (IntKind.u64.wrap ((IntKind.u64.wrap (u17.toNat : Int)) * 2 ^ min ((32 : Int)).toNat (IntKind.bits .u64)))) (IntKind.u64.wrap ((IntKind.u64.wrap (u20.toNat : Int)) * 2 ^ min ((40 : Int)).toNat (IntKind.bits .u64)))) (IntKind.u64.wrap ((IntKind.u64.wrap (u23.toNat : Int)) * 2 ^ min ((48 : Int)).toNat (IntKind.bits .u64))))))), (48, (fun u => fEq u v1_0)), (49, (fun p28 => (fPtr tyU8 p28 u26))), (50, (fun u => fEq u (Value.int .u8 (u26.toNat : Int)))), (51, (fun u => fEq u (Value.int .u64 (IntKind.u64.wrap (u26.toNat : Int))))), (52, (fun u => fEq u (Value.int .u64 (IntKind.u64.wrap ((IntKind.u64.wrap (u26.toNat : Int)) * 2 ^ min ((56 : Int)).toNat (IntKind.bits .u64)))))), (53, (fun u => fEq u (Value.int .u64 (bits .or .u64 (bits .or .u64 (bits .or .u64 (bits .or .u64 (bits .or .u64 (bits .or .u64 (bits .or .u64 (IntKind.u64.wrap (u5.toNat : Int)) (IntKind.u64.wrap ((IntKind.u64.wrap (u8.toNat : Int)) * 2 ^ min ((8 : Int)).toNat (IntKind.bits .u64)))) (IntKind.u64.wrap ((IntKind.u64.wrap (u11.toNat : Int)) * 2 ^ min ((16 : Int)).toNat (IntKind.bits .u64)))) (IntKind.u64.wrap ((IntKind.u64.wrap (u14.toNat : Int)) * 2 ^ min ((24 : Int)).toNat (IntKind.bits .u64)))) (IntKind.u64.wrap ((IntKind.u64.wrap (u17.toNat : Int)) * 2 ^ min ((32 : Int)).toNat (IntKind.bits .u64)))) (IntKind.u64.wrap ((IntKind.u64.wrap (u20.toNat : Int)) * 2 ^ min ((40 : Int)).toNat (IntKind.bits .u64)))) (IntKind.u64.wrap ((IntKind.u64.wrap (u23.toNat : Int)) * 2 ^ min ((48 : Int)).toNat (IntKind.bits .u64)))) (IntKind.u64.wrap ((IntKind.u64.wrap (u26.toNat : Int)) * 2 ^ min ((56 : Int)).toNat (IntKind.bits .u64)))))))] (tab [(1, v1_0), (4, (Value.int .u64 (0 : Int)))]) mixed (by kernel_rfl) rfl rfl rfl (fun a hs => hs.tab _ (allT_mem ⟨rfl, rfl, trivial⟩)) ⟨⟨rfl, ld_val (ov_move rfl rfl)⟩, ⟨rfl, ld_eq (j := 0) rfl rfl (ld_of (of_idxD 1 hu6 rfl rfl rfl Try.underlying62 sz5 rfl))⟩, ⟨rfl, ld_fact (j := 1) rfl rfl (fun p7 => ld_val (ov_loadP (ds := [(Value.int .u8 (u5.toNat : Int))]) 0 rfl (fun h => h) rfl Try.underlying5 sz5 rfl rfl rfl))⟩, ⟨rfl, ld_eq (j := 2) rfl rfl (ld_val (ov_convInt (by rw [Try.underlying5]; rfl) Try.underlying22 rfl rfl))⟩, ⟨rfl, ld_val (ov_move rfl rfl)⟩, ⟨rfl, ld_eq (j := 4) rfl rfl (ld_of (of_idxD 1 hu9 rfl rfl rfl Try.underlying62 sz5 rfl))⟩, ⟨rfl, ld_fact (j := 5) rfl rfl (fun p10 => ld_val (ov_loadP (ds := [(Value.int .u8 (u8.toNat : Int))]) 0 rfl (fun h => h) rfl Try.underlying5 sz5 rfl rfl rfl))⟩, ⟨rfl, ld_eq (j := 6) rfl rfl (ld_val (ov_convInt (by rw [Try.underlying5]; rfl) Try.underlying22 rfl rfl))⟩, ⟨rfl, ld_eq (j := 7) rfl rfl (ld_val (ov_shl (by decide) rfl rfl rfl))⟩, ⟨rfl, ld_eq (j := 3) rfl rfl (ld_eq (j := 8) rfl rfl (ld_val (ov_int rfl rfl rfl rfl)))⟩, ⟨rfl, ld_val (ov_move rfl rfl)⟩, ⟨rfl, ld_eq (j := 10) rfl rfl (ld_of (of_idxD 1 hu12 rfl rfl rfl Try.underlying62 sz5 rfl))⟩, ⟨rfl, ld_fact (j := 11) rfl rfl (fun p13 => ld_val (ov_loadP (ds := [(Value.int .u8 (u11.toNat : Int))]) 0 rfl (fun h => h) rfl Try.underlying5 sz5 rfl rfl rfl))⟩, ⟨rfl, ld_eq (j := 12) rfl rfl (ld_val (ov_convInt (by rw [Try.underlying5]; rfl) Try.underlying22 rfl rfl))⟩, ⟨rfl, ld_eq (j := 13) rfl rfl (ld_val (ov_shl (by decide) rfl rfl rfl))⟩, ⟨rfl, ld_eq (j := 9) rfl rfl (ld_eq (j := 14) rfl rfl (ld_val (ov_int rfl rfl rfl rfl)))⟩, ⟨rfl, ld_val (ov_move rfl rfl)⟩, ⟨rfl, ld_eq (j := 16) rfl rfl (ld_of (of_idxD 1 hu15 rfl rfl rfl Try.underlying62 sz5 rfl))⟩, ⟨rfl, ld_fact (j := 17) rfl rfl (fun p16 => ld_val (ov_loadP (ds := [(Value.int .u8 (u14.toNat : Int))]) 0 rfl (fun h => h) rfl Try.underlying5 sz5 rfl rfl rfl))⟩, ⟨rfl, ld_eq (j := 18) rfl rfl (ld_val (ov_convInt (by rw [Try.underlying5]; rfl) Try.underlying22 rfl rfl))⟩, ⟨rfl, ld_eq (j := 19) rfl rfl (ld_val (ov_shl (by decide) rfl rfl rfl))⟩, ⟨rfl, ld_eq (j := 15) rfl rfl (ld_eq (j := 20) rfl rfl (ld_val (ov_int rfl rfl rfl rfl)))⟩, ⟨rfl, ld_val (ov_move rfl rfl)⟩, ⟨rfl, ld_eq (j := 22) rfl rfl (ld_of (of_idxD 1 hu18 rfl rfl rfl Try.underlying62 sz5 rfl))⟩, ⟨rfl, ld_fact (j := 23) rfl rfl (fun p19 => ld_val (ov_loadP (ds := [(Value.int .u8 (u17.toNat : Int))]) 0 rfl (fun h => h) rfl Try.underlying5 sz5 rfl rfl rfl))⟩, ⟨rfl, ld_eq (j := 24) rfl rfl (ld_val (ov_convInt (by rw [Try.underlying5]; rfl) Try.underlying22 rfl rfl))⟩, ⟨rfl, ld_eq (j := 25) rfl rfl (ld_val (ov_shl (by decide) rfl rfl rfl))⟩, ⟨rfl, ld_eq (j := 21) rfl rfl (ld_eq (j := 26) rfl rfl (ld_val (ov_int rfl rfl rfl rfl)))⟩, ⟨rfl, ld_val (ov_move rfl rfl)⟩, ⟨rfl, ld_eq (j := 28) rfl rfl (ld_of (of_idxD 1 hu21 rfl rfl rfl Try.underlying62 sz5 rfl))⟩, ⟨rfl, ld_fact (j := 29) rfl rfl (fun p22 => ld_val (ov_loadP (ds := [(Value.int .u8 (u20.toNat : Int))]) 0 rfl (fun h => h) rfl Try.underlying5 sz5 rfl rfl rfl))⟩, ⟨rfl, ld_eq (j := 30) rfl rfl (ld_val (ov_convInt (by rw [Try.underlying5]; rfl) Try.underlying22 rfl rfl))⟩, ⟨rfl, ld_eq (j := 31) rfl rfl (ld_val (ov_shl (by decide) rfl rfl rfl))⟩, ⟨rfl, ld_eq (j := 27) rfl rfl (ld_eq (j := 32) rfl rfl (ld_val (ov_int rfl rfl rfl rfl)))⟩, ⟨rfl, ld_val (ov_move rfl rfl)⟩, ⟨rfl, ld_eq (j := 34) rfl rfl (ld_of (of_idxD 1 hu24 rfl rfl rfl Try.underlying62 sz5 rfl))⟩, ⟨rfl, ld_fact (j := 35) rfl rfl (fun p25 => ld_val (ov_loadP (ds := [(Value.int .u8 (u23.toNat : Int))]) 0 rfl (fun h => h) rfl Try.underlying5 sz5 rfl rfl rfl))⟩, ⟨rfl, ld_eq (j := 36) rfl rfl (ld_val (ov_convInt (by rw [Try.underlying5]; rfl) Try.underlying22 rfl rfl))⟩, ⟨rfl, ld_eq (j := 37) rfl rfl (ld_val (ov_shl (by decide) rfl rfl rfl))⟩, ⟨rfl, ld_eq (j := 33) rfl rfl (ld_eq (j := 38) rfl rfl (ld_val (ov_int rfl rfl rfl rfl)))⟩, ⟨rfl, ld_val (ov_move rfl rfl)⟩, ⟨rfl, ld_eq (j := 40) rfl rfl (ld_of (of_idxD 1 hu27 rfl rfl rfl Try.underlying62 sz5 rfl))⟩, ⟨rfl, ld_fact (j := 41) rfl rfl (fun p28 => ld_val (ov_loadP (ds := [(Value.int .u8 (u26.toNat : Int))]) 0 rfl (fun h => h) rfl Try.underlying5 sz5 rfl rfl rfl))⟩, ⟨rfl, ld_eq (j := 42) rfl rfl (ld_val (ov_convInt (by rw [Try.underlying5]; rfl) Try.underlying22 rfl rfl))⟩, ⟨rfl, ld_eq (j := 43) rfl rfl (ld_val (ov_shl (by decide) rfl rfl rfl))⟩, ⟨rfl, ld_eq (j := 39) rfl rfl (ld_eq (j := 44) rfl rfl (ld_val (ov_int rfl rfl rfl rfl)))⟩, trivial⟩ ?_
  refine tl_eq 45 rfl ?_
  refine tl_done ?_
  refine al_val (ov_assign rfl rfl) ?_
  refine al_nil ?_
  refine aq_then ?_
  refine aw_ret ?_
  obtain rfl := Option.some.inj h
  exact fn_ret () [] [] rfl rfl rfl rfl (res1 rfl rfl) rfl rfl rfl (by decide)
def f_mix_Step (fu : Nat) (a0 : Int) (a1 : Int) : Option Int := (some (bits .xor .u64 (IntKind.u64.wrap ((bits .xor .u64 (IntKind.u64.wrap ((bits .xor .u64 a0 a1) * (11400714819323198485 : Int))) (((IntKind.u64.wrap ((bits .xor .u64 a0 a1) * (11400714819323198485 : Int)))).fdiv (2 ^ min ((29 : Int)).toNat (IntKind.bits .u64)))) * (13787848793156543929 : Int))) (((IntKind.u64.wrap ((bits .xor .u64 (IntKind.u64.wrap ((bits .xor .u64 a0 a1) * (11400714819323198485 : Int))) (((IntKind.u64.wrap ((bits .xor .u64 a0 a1) * (11400714819323198485 : Int)))).fdiv (2 ^ min ((29 : Int)).toNat (IntKind.bits .u64)))) * (13787848793156543929 : Int)))).fdiv (2 ^ min ((32 : Int)).toNat (IntKind.bits .u64)))))
set_option maxRecDepth 100000 in
theorem f_mix_Step_ok (fu : Nat) (a0 : Int) (a1 : Int) {r : Int} (h : f_mix_Step fu a0 a1 = some r) : FnOk Try.prog 15 [(Value.int .u64 a0), (Value.int .u64 a1)] [] [] (fun (i : Unit) => { val := (Value.int .u64 r) }) := by
  unfold f_mix_Step at h
  refine fn_enter Try.func15 rfl Try.ntmps15 rfl (fun w0 Z0 => ?_)
  refine aw_seq ?_
  refine aw_region ?_
  refine al_val (ov_assign rfl rfl) ?_
  refine al_nil ?_
  refine aq_then ?_
  refine aw_seq ?_
  refine aw_region ?_
  refine al_val (ov_move rfl rfl) ?_
  refine al_val (ov_move rfl rfl) ?_
  refine al_val (ov_int rfl rfl rfl rfl) ?_
  refine al_val (ov_int rfl rfl rfl rfl) ?_
  refine al_val (ov_assign rfl rfl) ?_
  refine al_nil ?_
  refine aq_then ?_
  refine aw_seq ?_
  refine aw_region ?_
  refine al_val (ov_move rfl rfl) ?_
  refine al_val (ov_move rfl rfl) ?_
  refine al_val (ov_shr (by decide) rfl rfl rfl) ?_
  refine al_val (ov_int rfl rfl rfl rfl) ?_
  refine al_val (ov_int rfl rfl rfl rfl) ?_
  refine al_val (ov_assign rfl rfl) ?_
  refine al_nil ?_
  refine aq_then ?_
  refine aw_seq ?_
  refine aw_region ?_
  refine al_val (ov_move rfl rfl) ?_
  refine al_val (ov_move rfl rfl) ?_
  refine al_val (ov_shr (by decide) rfl rfl rfl) ?_
  refine al_val (ov_int rfl rfl rfl rfl) ?_
  refine al_val (ov_assign rfl rfl) ?_
  refine al_nil ?_
  refine aq_then ?_
  refine aw_ret ?_
  obtain rfl := Option.some.inj h
  exact fn_ret () [] [] rfl rfl rfl rfl (res1 rfl rfl) rfl rfl rfl (by decide)
def f_mix_sum_L7 (a1 : Int) (kk2 : (Int → Option Int)) (fu : Nat) : Nat → (List UInt8) → Int → Option Int
  | 0, _, _ => none
  | k6 + 1, l5s0, l5i5 => (bif (!(l5s0 == ([] : List UInt8))) then (req (0 ≤ ((Nat.min l5s0.length 8 : Nat) : Int) ∧ ((Nat.min l5s0.length 8 : Nat) : Int) ≤ (l5s0.length : Int)) (opt (f__binary_littleEndian__Uint64 fu () (lA8u8 (cpA8u8 (A8u8.mk (0 : UInt8) (0 : UInt8) (0 : UInt8) (0 : UInt8) (0 : UInt8) (0 : UInt8) (0 : UInt8) (0 : UInt8)) l5s0))) fun (r13 : Int) => (opt (f_mix_Step fu l5i5 r13) fun (r15 : Int) => (f_mix_sum_L7 a1 kk2 fu k6 (l5s0.drop (((Nat.min l5s0.length 8 : Nat) : Int)).toNat) (bits .and .u64 r15 a1))))) else (kk2 l5i5))
def f_mix_sum (fu : Nat) (a0 : (List UInt8)) (a1 : Int) : Option Int := (lt (fun (j1i5 : Int) => (opt (f_mix_Step fu j1i5 (IntKind.u64.wrap (a0.length : Int))) fun (r4 : Int) => (some (bits .and .u64 r4 a1)))) fun (kk2 : Int → Option Int) => (f_mix_sum_L7 a1 kk2 fu fu a0 (0 : Int)))
set_option maxRecDepth 100000 in
theorem f_mix_sum_ok (fu : Nat) (a0 : (List UInt8)) (a1 : Int) {r : Int} (h : f_mix_sum fu a0 a1 = some r) : FnOk Try.prog 32 [(str a0), (Value.int .u64 a1)] [] [] (fun (i : Unit) => { val := (Value.int .u64 r) }) := by
  unfold f_mix_sum at h
  refine fn_enter Try.func32 rfl Try.ntmps32 rfl (fun w0 Z0 => ?_)
  refine aw_seq ?_
  refine aw_region ?_
  refine al_val (ov_assign rfl rfl) ?_
  refine al_nil ?_
  refine aq_then ?_
  refine aw_seq ?_
  refine aw_region ?_
  refine al_val (ov_move rfl rfl) ?_
  refine al_val (ov_strLen Try.underlying9 rfl rfl) ?_
  refine al_val (ov_convInt (by rw [Try.underlying3]; rfl) Try.underlying22 rfl rfl) ?_
  refine al_val (ov_assign rfl rfl) ?_
  refine al_val (ov_assign rfl rfl) ?_
  refine al_nil ?_
  refine aq_then ?_
  obtain ⟨kk2, hkk2, h⟩ := lt_some h
  refine aw_seq_join (ι := Int) (fun i => (memOf w0 Z0 [] [] [])) (fun i => (tab [(1, (Value.int .u64 a1)), (5, (Value.int .u64 i)), (6, (Value.int .u64 (IntKind.u64.wrap (a0.length : Int))))])) (fun i => kk2 i = some r) ?_ ?_
  · rintro j1i5 h
    have h : kk2 j1i5 = some r := h
    rw [hkk2] at h
    dsimp only at h
    clear hkk2
    refine aw_show (m := (memOf w0 Z0 [] [] [])) (S := (tab [(1, (Value.int .u64 a1)), (5, (Value.int .u64 j1i5)), (6, (Value.int .u64 (IntKind.u64.wrap (a0.length : Int))))])) ?_
    refine aw_seq ?_
    refine aw_region ?_
    refine al_val (ov_move rfl rfl) ?_
    refine al_val (ov_move rfl rfl) ?_
    obtain ⟨r4, hc3, h⟩ := opt_some h
    refine al_call (vs := [(Value.int .u64 j1i5), (Value.int .u64 (IntKind.u64.wrap (a0.length : Int)))]) (f_mix_Step_ok fu j1i5 (IntKind.u64.wrap (a0.length : Int)) hc3) [] [] [] pre_nil rfl (by simp) (by decide) (.inl rfl) rfl Try.func15 rfl rfl rfl (fun _ => ?_)
    refine al_val (ov_move rfl rfl) ?_
    refine al_val (ov_int rfl rfl rfl rfl) ?_
    refine al_val (ov_assign rfl rfl) ?_
    refine al_nil ?_
    refine aq_then ?_
    refine aw_ret ?_
    obtain rfl := Option.some.inj h
    exact fn_ret () [] [] rfl rfl rfl rfl (res1 rfl rfl) rfl rfl rfl (by decide)
  · clear hkk2
    refine aw_block ?_
    refine aw_state (aw_loop (ι := (List UInt8) × Int) (fun i => (memOf w0 Z0 [] [] [])) (fun i => (tab [(0, (str i.1)), (1, (Value.int .u64 a1)), (5, (Value.int .u64 i.2)), (6, (Value.int .u64 (IntKind.u64.wrap (a0.length : Int))))])) (fun q i => f_mix_sum_L7 a1 kk2 fu q i.1 i.2 = some r) ?_ fu (a0, (0 : Int)) h) (fun w a hm hs => norm hm hs [] [] [(0, (str a0)), (1, (Value.int .u64 a1)), (5, (Value.int .u64 (0 : Int))), (6, (Value.int .u64 (IntKind.u64.wrap (a0.length : Int))))] (by decide) ⟨rfl, rfl, rfl, rfl, trivial⟩)
    clear h
    rintro k6 ⟨l5s0, l5i5⟩ h
    have h : f_mix_sum_L7 a1 kk2 fu k6 l5s0 l5i5 = some r := h
    obtain _ | k6 := k6
    · rw [f_mix_sum_L7] at h; cases h
    rw [f_mix_sum_L7] at h
    refine aw_show (m := (memOf w0 Z0 [] [] [])) (S := (tab [(0, (str l5s0)), (1, (Value.int .u64 a1)), (5, (Value.int .u64 l5i5)), (6, (Value.int .u64 (IntKind.u64.wrap (a0.length : Int))))])) ?_
    refine aw_seq ?_
    refine aw_seq ?_
    refine aw_region ?_
    refine al_val (ov_move rfl rfl) ?_
    refine al_val (ov_strCmp rfl rfl rfl rfl) ?_
    refine al_nil ?_
    refine aq_then ?_
    refine aw_cond rfl (fun hb8 => ?_) (fun hb8 => ?_)
    · replace h := bif_t hb8 h
      refine aw_skip ?_
      refine aq_then ?_
      refine aw_block ?_
      refine aw_seq ?_
      refine aw_region ?_
      refine al_alloc (zs := (cA8u8 (A8u8.mk (0 : UInt8) (0 : UInt8) (0 : UInt8) (0 : UInt8) (0 : UInt8) (0 : UInt8) (0 : UInt8) (0 : UInt8)))) (zeroOf_to to25) rfl rfl (fun g9 => ?_)
      refine al_nil ?_
      refine aq_then ?_
      refine aw_seq ?_
      refine aw_region ?_
      refine al_val (ov_move rfl rfl) ?_
      refine al_val (ov_sliceBox (i := 0) rfl rfl Try.underlying25 sz5 rfl) ?_
      refine al_val (ov_move rfl rfl) ?_
      refine al_copyS (i := 0) (cs := (cA8u8 (A8u8.mk (0 : UInt8) (0 : UInt8) (0 : UInt8) (0 : UInt8) (0 : UInt8) (0 : UInt8) (0 : UInt8) (0 : UInt8)))) (cs' := (cA8u8 (cpA8u8 (A8u8.mk (0 : UInt8) (0 : UInt8) (0 : UInt8) (0 : UInt8) (0 : UInt8) (0 : UInt8) (0 : UInt8) (0 : UInt8)) l5s0))) rfl rfl rfl Try.underlying62 sz5 rfl (cpcA8u8 (A8u8.mk (0 : UInt8) (0 : UInt8) (0 : UInt8) (0 : UInt8) (0 : UInt8) (0 : UInt8) (0 : UInt8) (0 : UInt8)) l5s0 [] []) rfl ?_
      obtain ⟨hc10, h⟩ := req_some h
      refine al_val (ov_strFrom hc10.1 hc10.2 Try.underlying9 rfl rfl rfl) ?_
      refine al_val (ov_assign rfl rfl) ?_
      refine al_nil ?_
      refine aq_then ?_
      refine aw_freezeB 0 ((cpA8u8 (A8u8.mk (0 : UInt8) (0 : UInt8) (0 : UInt8) (0 : UInt8) (0 : UInt8) (0 : UInt8) (0 : UInt8) (0 : UInt8)) l5s0)) rfl rfl (fun _ _ => mkA8u8 rfl) ?_
      obtain ⟨r13, hc12, h⟩ := opt_some h
      obtain ⟨r15, hc14, h⟩ := opt_some h
      refine aw_region_draw 7 [(18, (fun u => fEq u (Value.int .u64 l5i5))), (19, (fun u => fEq u (ag []))), (20, (fun s11 => (fDat (tyList tyU8) [s11] (lA8u8 (cpA8u8 (A8u8.mk (0 : UInt8) (0 : UInt8) (0 : UInt8) (0 : UInt8) (0 : UInt8) (0 : UInt8) (0 : UInt8) (0 : UInt8)) l5s0))))), (21, (fun u => fEq u (Value.int .u64 r13))), (22, (fun u => fEq u (Value.int .u64 r15))), (23, (fun u => fEq u (Value.int .u64 a1))), (24, (fun u => fEq u (Value.int .u64 (bits .and .u64 r15 a1))))] (tab [(0, (str (l5s0.drop (((Nat.min l5s0.length 8 : Nat) : Int)).toNat))), (1, (Value.int .u64 a1)), (5, (Value.int .u64 l5i5)), (6, (Value.int .u64 (IntKind.u64.wrap (a0.length : Int)))), (7, (ptr g9 0))]) mixed (by kernel_rfl) rfl rfl rfl (fun a hs => hs.tab _ (allT_mem ⟨rfl, rfl, rfl, rfl, rfl, trivial⟩)) ⟨⟨rfl, ld_val (ov_move rfl rfl)⟩, ⟨rfl, ld_val (ov_load0 Try.underlying83 sz83 rfl rfl rfl)⟩, ⟨rfl, ld_of (of_sliceP 0 lrepA8u8 rfl rfl rfl rfl Try.underlying25 sz5 rfl)⟩, ⟨rfl, ld_eq (j := 1) rfl rfl (ld_fact (j := 2) rfl rfl (fun s11 => ld_callV (vs := [(ag []), s11]) (f__binary_littleEndian__Uint64_ok fu () s11 (lA8u8 (cpA8u8 (A8u8.mk (0 : UInt8) (0 : UInt8) (0 : UInt8) (0 : UInt8) (0 : UInt8) (0 : UInt8) (0 : UInt8) (0 : UInt8)) l5s0)) hc12) [] (pre_fz 0 rfl pre_nil) rfl Try.func52 rfl rfl rfl))⟩, ⟨rfl, ld_eq (j := 0) rfl rfl (ld_eq (j := 3) rfl rfl (ld_callV (vs := [(Value.int .u64 l5i5), (Value.int .u64 r13)]) (f_mix_Step_ok fu l5i5 r13 hc14) [] pre_nil rfl Try.func15 rfl rfl rfl))⟩, ⟨rfl, ld_val (ov_move rfl rfl)⟩, ⟨rfl, ld_eq (j := 4) rfl rfl (ld_eq (j := 5) rfl rfl (ld_val (ov_int rfl rfl rfl rfl)))⟩, trivial⟩ ?_
      refine tl_eq 6 rfl ?_
      refine tl_done ?_
      refine al_val (ov_assign rfl rfl) ?_
      refine al_nil ?_
      refine aq_block ?_
      exact aq_again k6 ((l5s0.drop (((Nat.min l5s0.length 8 : Nat) : Int)).toNat), (bits .and .u64 r15 a1)) (Nat.lt_succ_self _) h (fun w a hm hs => norm hm hs [] [] [(0, (str (l5s0.drop (((Nat.min l5s0.length 8 : Nat) : Int)).toNat))), (1, (Value.int .u64 a1)), (5, (Value.int .u64 (bits .and .u64 r15 a1))), (6, (Value.int .u64 (IntKind.u64.wrap (a0.length : Int))))] (by decide) ⟨rfl, rfl, rfl, rfl, trivial⟩)
    · replace h := bif_f hb8 h
      refine aw_exit ?_
      refine aq_then_exit ?_
      refine aq_then_exit ?_
      refine aq_block_exit ?_
      exact aq_join l5i5 h (fun w a hm hs => norm hm hs [] [] [(1, (Value.int .u64 a1)), (5, (Value.int .u64 l5i5)), (6, (Value.int .u64 (IntKind.u64.wrap (a0.length : Int))))] (by decide) ⟨rfl, rfl, rfl, trivial⟩)
def f_mix_Sum (fu : Nat) (a0 : (List UInt8)) : Option Int := (opt (f_mix_sum fu a0 (18446744073709551615 : Int)) fun (r2 : Int) => (some r2))
set_option maxRecDepth 100000 in
theorem f_mix_Sum_ok (fu : Nat) (a0 : (List UInt8)) {r : Int} (h : f_mix_Sum fu a0 = some r) : FnOk Try.prog 18 [(str a0)] [] [] (fun (i : Unit) => { val := (Value.int .u64 r) }) := by
  unfold f_mix_Sum at h
  refine fn_enter Try.func18 rfl Try.ntmps18 rfl (fun w0 Z0 => ?_)
  refine aw_seq ?_
  refine aw_region ?_
  refine al_val (ov_assign rfl rfl) ?_
  refine al_nil ?_
  refine aq_then ?_
  refine aw_seq ?_
  refine aw_region ?_
  refine al_val (ov_move rfl rfl) ?_
  obtain ⟨r2, hc1, h⟩ := opt_some h
  refine al_call (vs := [(str a0), (Value.int .u64 (18446744073709551615 : Int))]) (f_mix_sum_ok fu a0 (18446744073709551615 : Int) hc1) [] [] [] pre_nil rfl (by simp) (by decide) (.inl rfl) rfl Try.func32 rfl rfl rfl (fun _ => ?_)
  refine al_val (ov_assign rfl rfl) ?_
  refine al_nil ?_
  refine aq_then ?_
  refine aw_ret ?_
  obtain rfl := Option.some.inj h
  exact fn_ret () [] [] rfl rfl rfl rfl (res1 rfl rfl) rfl rfl rfl (by decide)
-- STUCK (encoding/binary.bigEndian).PutUint64: binary.go:210: store: store to ('o', 'p7')
def f_mix_ID (fu : Nat) (a0 : (List UInt8)) : Option A8u8 := (opt (f_mix_Sum fu a0) fun (r4 : Int) => (req (0 ≤ r4 ∧ r4 < 18446744073709551616) (some (cpA8u8 (A8u8.mk (0 : UInt8) (0 : UInt8) (0 : UInt8) (0 : UInt8) (0 : UInt8) (0 : UInt8) (0 : UInt8) (0 : UInt8)) (Lib.beBytes 8 (r4).toNat)))))
set_option maxRecDepth 100000 in
theorem f_mix_ID_ok (fu : Nat) (a0 : (List UInt8)) {r : A8u8} (h : f_mix_ID fu a0 = some r) : FnOk Try.prog 19 [(str a0)] [] [] (fun (i : Unit) => { val := (ag (cA8u8 r)) }) := by
  unfold f_mix_ID at h
  refine fn_enter Try.func19 rfl Try.ntmps19 rfl (fun w0 Z0 => ?_)
  refine aw_seq ?_
  refine aw_region ?_
  refine al_alloc (zs := (cA8u8 (A8u8.mk (0 : UInt8) (0 : UInt8) (0 : UInt8) (0 : UInt8) (0 : UInt8) (0 : UInt8) (0 : UInt8) (0 : UInt8)))) (zeroOf_to to26) rfl rfl (fun g1 => ?_)
  refine al_nil ?_
  refine aq_then ?_
  refine aw_seq ?_
  refine aw_region ?_
  refine al_alloc (zs := (cA8u8 (A8u8.mk (0 : UInt8) (0 : UInt8) (0 : UInt8) (0 : UInt8) (0 : UInt8) (0 : UInt8) (0 : UInt8) (0 : UInt8)))) (zeroOf_to to26) rfl rfl (fun g2 => ?_)
  refine al_nil ?_
  refine aq_then ?_
  refine aw_seq ?_
  obtain ⟨r4, hc3, h⟩ := opt_some h
  refine aw_region_draw 4 [(4, (fun u => fEq u (ag []))), (5, (fun u => fEq u (sbx g2 0 8))), (6, (fun u => fEq u (str a0))), (7, (fun u => fEq u (Value.int .u64 r4)))] (tab [(0, (str a0)), (2, (ptr g1 0)), (3, (ptr g2 0))]) mixed (by kernel_rfl) rfl rfl rfl (fun a hs => hs.tab _ (allT_mem ⟨rfl, rfl, rfl, trivial⟩)) ⟨⟨rfl, ld_val (ov_load0 Try.underlying69 sz69 rfl rfl rfl)⟩, ⟨rfl, ld_val (ov_sliceBox (i := 0) rfl rfl Try.underlying26 sz5 rfl)⟩, ⟨rfl, ld_val (ov_move rfl rfl)⟩, ⟨rfl, ld_eq (j := 2) rfl rfl (ld_callV (vs := [(str a0)]) (f_mix_Sum_ok fu a0 hc3) [] pre_nil rfl Try.func18 rfl rfl rfl)⟩, trivial⟩ ?_
  refine tl_eq 0 rfl ?_
  refine tl_eq 1 rfl ?_
  refine tl_eq 3 rfl ?_
  refine tl_done ?_
  obtain ⟨hc5, h⟩ := req_some h
  refine al_call (vs := [(ag []), (sbx g2 0 8), (Value.int .u64 r4)]) (f_put8_ok (g := g2) (off := 0) (t := 26) (a2 := r4) (cs := (cA8u8 (A8u8.mk (0 : UInt8) (0 : UInt8) (0 : UInt8) (0 : UInt8) (0 : UInt8) (0 : UInt8) (0 : UInt8) (0 : UInt8)))) (cs' := (cA8u8 (cpA8u8 (A8u8.mk (0 : UInt8) (0 : UInt8) (0 : UInt8) (0 : UInt8) (0 : UInt8) (0 : UInt8) (0 : UInt8) (0 : UInt8)) (Lib.beBytes 8 (r4).toNat)))) hc5 (Nat.le_of_ble_eq_true rfl) (cpcA8u8 (A8u8.mk (0 : UInt8) (0 : UInt8) (0 : UInt8) (0 : UInt8) (0 : UInt8) (0 : UInt8) (0 : UInt8) (0 : UInt8)) (Lib.beBytes 8 (r4).toNat) [] [])) [] [0] [1] pre_nil rfl (by simp) (by decide) (.inl rfl) rfl Try.func37 rfl rfl rfl (fun _ => ?_)
  refine al_nil ?_
  refine aq_then ?_
  refine aw_seq ?_
  refine aw_region ?_
  refine al_val (ov_load (i := 0) (v := (ag (cA8u8 (cpA8u8 (A8u8.mk (0 : UInt8) (0 : UInt8) (0 : UInt8) (0 : UInt8) (0 : UInt8) (0 : UInt8) (0 : UInt8) (0 : UInt8)) (Lib.beBytes 8 (r4).toNat))))) rfl rfl Try.underlying26 sz26 rfl rfl rfl rfl) ?_
  refine al_store (i := 1) (vs := (cA8u8 (cpA8u8 (A8u8.mk (0 : UInt8) (0 : UInt8) (0 : UInt8) (0 : UInt8) (0 : UInt8) (0 : UInt8) (0 : UInt8) (0 : UInt8)) (Lib.beBytes 8 (r4).toNat)))) (cs' := (cA8u8 (cpA8u8 (A8u8.mk (0 : UInt8) (0 : UInt8) (0 : UInt8) (0 : UInt8) (0 : UInt8) (0 : UInt8) (0 : UInt8) (0 : UInt8)) (Lib.beBytes 8 (r4).toNat)))) rfl rfl rfl sz26 (cv_rfl rfl) rfl (co_all (oneA8u8 (cpA8u8 (A8u8.mk (0 : UInt8) (0 : UInt8) (0 : UInt8) (0 : UInt8) (0 : UInt8) (0 : UInt8) (0 : UInt8) (0 : UInt8)) (Lib.beBytes 8 (r4).toNat)))) (Nat.le_of_ble_eq_true rfl) rfl rfl ?_
  refine al_nil ?_
  refine aq_then ?_
  refine aw_ret ?_
  obtain rfl := Option.some.inj h
  exact fn_ret () [] [] rfl rfl rfl rfl (resC rfl (resB (i := 1) rfl rfl Try.underlying26 sz26 rfl rfl rfl (resN)) rfl) rfl rfl rfl (by decide)
def f_num_value_L5 (a0 : (List UInt8)) (kk2 : (Int → Option Int)) : Nat → Int → Int → Option Int
  | 0, _, _ => none
  | k4 + 1, l3i3, l3i7 => (bif (decide (l3i7 < (a0.length : Int))) then (req (0 ≤ l3i7 ∧ l3i7 < (a0.length : Int)) (f_num_value_L5 a0 kk2 k4 (bits .or .u64 (IntKind.u64.wrap (l3i3 * 2 ^ min ((8 : Int)).toNat (IntKind.bits .u64))) (IntKind.u64.wrap (En.bAt a0 l3i7))) (IntKind.i64.wrap (l3i7 + (1 : Int))))) else (kk2 l3i3))
def f_num_value (fu : Nat) (a0 : (List UInt8)) : Option Int := (lt (fun (j1i3 : Int) => (some j1i3)) fun (kk2 : Int → Option Int) => (f_num_value_L5 a0 kk2 fu (0 : Int) (0 : Int)))
set_option maxRecDepth 100000 in
theorem f_num_value_ok (fu : Nat) (a0 : (List UInt8)) {r : Int} (h : f_num_value fu a0 = some r) : FnOk Try.prog 76 [(str a0)] [] [] (fun (i : Unit) => { val := (Value.int .u64 r) }) := by
  unfold f_num_value at h
  refine fn_enter Try.func76 rfl Try.ntmps76 rfl (fun w0 Z0 => ?_)
  refine aw_seq ?_
  refine aw_region ?_
  refine al_val (ov_assign rfl rfl) ?_
  refine al_nil ?_
  refine aq_then ?_
  refine aw_seq ?_
  refine aw_region ?_
  refine al_val (ov_assign rfl rfl) ?_
  refine al_nil ?_
  refine aq_then ?_
  obtain ⟨kk2, hkk2, h⟩ := lt_some h
  refine aw_seq_join (ι := Int) (fun i => (memOf w0 Z0 [] [] [])) (fun i => (tab [(3, (Value.int .u64 i))])) (fun i => kk2 i = some r) ?_ ?_
  · rintro j1i3 h
    have h : kk2 j1i3 = some r := h
    rw [hkk2] at h
    dsimp only at h
    clear hkk2
    refine aw_show (m := (memOf w0 Z0 [] [] [])) (S := (tab [(3, (Value.int .u64 j1i3))])) ?_
    refine aw_seq ?_
    refine aw_region ?_
    refine al_val (ov_move rfl rfl) ?_
    refine al_val (ov_assign rfl rfl) ?_
    refine al_nil ?_
    refine aq_then ?_
    refine aw_ret ?_
    obtain rfl := Option.some.inj h
    exact fn_ret () [] [] rfl rfl rfl rfl (res1 rfl rfl) rfl rfl rfl (by decide)
  · clear hkk2
    refine aw_seq ?_
    refine aw_region ?_
    refine al_val (ov_move rfl rfl) ?_
    refine al_val (ov_strLen Try.underlying9 rfl rfl) ?_
    refine al_val (ov_move rfl rfl) ?_
    refine al_nil ?_
    refine aq_then ?_
    refine aw_block ?_
    refine aw_state (aw_loop (ι := Int × Int) (fun i => (memOf w0 Z0 [] [] [])) (fun i => (tab [(0, (str a0)), (3, (Value.int .u64 i.1)), (6, (Value.int .i64 (a0.length : Int))), (7, (Value.int .i64 i.2))])) (fun q i => f_num_value_L5 a0 kk2 q i.1 i.2 = some r) ?_ fu ((0 : Int), (0 : Int)) h) (fun w a hm hs => norm hm hs [] [] [(0, (str a0)), (3, (Value.int .u64 (0 : Int))), (6, (Value.int .i64 (a0.length : Int))), (7, (Value.int .i64 (0 : Int)))] (by decide) ⟨rfl, rfl, rfl, rfl, trivial⟩)
    clear h
    rintro k4 ⟨l3i3, l3i7⟩ h
    have h : f_num_value_L5 a0 kk2 k4 l3i3 l3i7 = some r := h
    obtain _ | k4 := k4
    · rw [f_num_value_L5] at h; cases h
    rw [f_num_value_L5] at h
    refine aw_show (m := (memOf w0 Z0 [] [] [])) (S := (tab [(0, (str a0)), (3, (Value.int .u64 l3i3)), (6, (Value.int .i64 (a0.length : Int))), (7, (Value.int .i64 l3i7))])) ?_
    refine aw_seq ?_
    refine aw_region ?_
    refine al_val (ov_int rfl rfl rfl rfl) ?_
    refine al_nil ?_
    refine aq_then ?_
    refine aw_seq ?_
    refine aw_cond rfl (fun hb6 => ?_) (fun hb6 => ?_)
    · replace h := bif_t hb6 h
      refine aw_skip ?_
      refine aq_then ?_
      refine aw_seq ?_
      refine aw_block ?_
      refine aw_seq ?_
      refine aw_region ?_
      refine al_val (ov_move rfl rfl) ?_
      refine al_val (ov_assign rfl rfl) ?_
      refine al_nil ?_
      refine aq_then ?_
      refine aw_region ?_
      refine al_val (ov_move rfl rfl) ?_
      refine al_val (ov_shl (by decide) rfl rfl rfl) ?_
      refine al_val (ov_move rfl rfl) ?_
      refine al_val (ov_move rfl rfl) ?_
      obtain ⟨hc7, h⟩ := req_some h
      refine al_val (ov_strIdx hc7.1 hc7.2 Try.underlying9 rfl rfl rfl) ?_
      refine al_val (ov_convInt (by rw [Try.underlying5]; rfl) Try.underlying22 rfl rfl) ?_
      refine al_val (ov_int rfl rfl rfl rfl) ?_
      refine al_val (ov_assign rfl rfl) ?_
      refine al_nil ?_
      refine aq_block ?_
      refine aq_then ?_
      refine aw_region ?_
      refine al_val (ov_int rfl rfl rfl rfl) ?_
      refine al_val (ov_move rfl rfl) ?_
      refine al_nil ?_
      exact aq_again k4 ((bits .or .u64 (IntKind.u64.wrap (l3i3 * 2 ^ min ((8 : Int)).toNat (IntKind.bits .u64))) (IntKind.u64.wrap (En.bAt a0 l3i7))), (IntKind.i64.wrap (l3i7 + (1 : Int)))) (Nat.lt_succ_self _) h (fun w a hm hs => norm hm hs [] [] [(0, (str a0)), (3, (Value.int .u64 (bits .or .u64 (IntKind.u64.wrap (l3i3 * 2 ^ min ((8 : Int)).toNat (IntKind.bits .u64))) (IntKind.u64.wrap (En.bAt a0 l3i7))))), (6, (Value.int .i64 (a0.length : Int))), (7, (Value.int .i64 (IntKind.i64.wrap (l3i7 + (1 : Int)))))] (by decide) ⟨rfl, rfl, rfl, rfl, trivial⟩)
    · replace h := bif_f hb6 h
      refine aw_exit ?_
      refine aq_then_exit ?_
      refine aq_then_exit ?_
      refine aq_block_exit ?_
      exact aq_join l3i3 h (fun w a hm hs => norm hm hs [] [] [(3, (Value.int .u64 l3i3))] (by decide) ⟨rfl, trivial⟩)
def f_num_Get (fu : Nat) (a0 : (List UInt8)) : Option (Int × Int × Int) := (bif (a0 == ([] : List UInt8)) then (some ((0 : Int), (0 : Int), (3 : Int))) else (req (0 ≤ (0 : Int) ∧ (0 : Int) < (a0.length : Int)) (bif (decide ((IntKind.i64.wrap (En.bAt a0 (0 : Int))) > (8 : Int))) then (some ((0 : Int), (0 : Int), (4 : Int))) else (bif (decide ((a0.length : Int) < (IntKind.i64.wrap ((1 : Int) + (IntKind.i64.wrap (En.bAt a0 (0 : Int))))))) then (some ((0 : Int), (0 : Int), (3 : Int))) else (lt (fun (j5b20 : Bool) => (bif j5b20 then (some ((0 : Int), (0 : Int), (4 : Int))) else (req (0 ≤ (1 : Int) ∧ (1 : Int) ≤ (IntKind.i64.wrap ((1 : Int) + (IntKind.i64.wrap (En.bAt a0 (0 : Int))))) ∧ (IntKind.i64.wrap ((1 : Int) + (IntKind.i64.wrap (En.bAt a0 (0 : Int))))) ≤ (a0.length : Int)) (opt (f_num_value fu (cut a0 (1 : Int) (IntKind.i64.wrap ((1 : Int) + (IntKind.i64.wrap (En.bAt a0 (0 : Int))))))) fun (r10 : Int) => (some (r10, (IntKind.i64.wrap ((1 : Int) + (IntKind.i64.wrap (En.bAt a0 (0 : Int))))), (0 : Int))))))) fun (kk6 : Bool → Option (Int × Int × Int)) => (bif (decide ((IntKind.i64.wrap (En.bAt a0 (0 : Int))) > (0 : Int))) then (req (0 ≤ (1 : Int) ∧ (1 : Int) < (a0.length : Int)) (kk6 ((En.bAt a0 (1 : Int)) == (0 : Int)))) else (kk6 false)))))))
set_option maxRecDepth 100000 in
theorem f_num_Get_ok (fu : Nat) (a0 : (List UInt8)) {r : (Int × Int × Int)} (h : f_num_Get fu a0 = some r) : FnOk Try.prog 60 [(str a0)] [] [] (fun (i : Unit) => { val := (Value.tuple #[(Value.int .u64 r.1), (Value.int .i64 r.2.1), (Value.int .i64 r.2.2)]) }) := by
  unfold f_num_Get at h
  refine fn_enter Try.func60 rfl Try.ntmps60 rfl (fun w0 Z0 => ?_)
  refine aw_seq ?_
  refine aw_region ?_
  refine al_val (ov_assign rfl rfl) ?_
  refine al_val (ov_assign rfl rfl) ?_
  refine al_val (ov_assign rfl rfl) ?_
  refine al_nil ?_
  refine aq_then ?_
  refine aw_seq ?_
  refine aw_seq ?_
  refine aw_region ?_
  refine al_val (ov_move rfl rfl) ?_
  refine al_val (ov_strCmp rfl rfl rfl rfl) ?_
  refine al_nil ?_
  refine aq_then ?_
  refine aw_cond rfl (fun hb1 => ?_) (fun hb1 => ?_)
  · replace h := bif_t hb1 h
    refine aw_seq ?_
    refine aw_region ?_
    refine al_val (ov_assign rfl rfl) ?_
    refine al_val (ov_assign rfl rfl) ?_
    refine al_val (ov_assign rfl rfl) ?_
    refine al_nil ?_
    refine aq_then ?_
    refine aw_ret ?_
    refine aq_then_ret ?_
    obtain rfl := Option.some.inj h
    exact fn_ret () [] [] rfl rfl rfl rfl (res3 rfl rfl rfl rfl) rfl rfl rfl (by decide)
  · replace h := bif_f hb1 h
    refine aw_skip ?_
    refine aq_then ?_
    refine aw_seq ?_
    refine aw_region ?_
    refine al_val (ov_move rfl rfl) ?_
    obtain ⟨hc2, h⟩ := req_some h
    refine al_val (ov_strIdx hc2.1 hc2.2 Try.underlying9 rfl rfl rfl) ?_
    refine al_val (ov_convInt (by rw [Try.underlying5]; rfl) Try.underlying3 rfl rfl) ?_
    refine al_val (ov_assign rfl rfl) ?_
    refine al_nil ?_
    refine aq_then ?_
    refine aw_seq ?_
    refine aw_block ?_
    refine aw_seq ?_
    refine aw_region ?_
    refine al_val (ov_move rfl rfl) ?_
    refine al_val (ov_int rfl rfl rfl rfl) ?_
    refine al_val (ov_assign rfl rfl) ?_
    refine al_nil ?_
    refine aq_then ?_
    refine aw_cond rfl (fun hb3 => ?_) (fun hb3 => ?_)
    · replace h := bif_t hb3 h
      refine aw_seq ?_
      refine aw_region ?_
      refine al_val (ov_assign rfl rfl) ?_
      refine al_val (ov_assign rfl rfl) ?_
      refine al_val (ov_assign rfl rfl) ?_
      refine al_nil ?_
      refine aq_then ?_
      refine aw_ret ?_
      refine aq_block_ret ?_
      refine aq_then_ret ?_
      obtain rfl := Option.some.inj h
      exact fn_ret () [] [] rfl rfl rfl rfl (res3 rfl rfl rfl rfl) rfl rfl rfl (by decide)
    · replace h := bif_f hb3 h
      refine aw_seq ?_
      refine aw_region ?_
      refine al_val (ov_move rfl rfl) ?_
      refine al_val (ov_strLen Try.underlying9 rfl rfl) ?_
      refine al_val (ov_move rfl rfl) ?_
      refine al_val (ov_int rfl rfl rfl rfl) ?_
      refine al_val (ov_int rfl rfl rfl rfl) ?_
      refine al_val (ov_assign rfl rfl) ?_
      refine al_nil ?_
      refine aq_then ?_
      refine aw_cond rfl (fun hb4 => ?_) (fun hb4 => ?_)
      · replace h := bif_t hb4 h
        refine aw_seq ?_
        refine aw_region ?_
        refine al_val (ov_assign rfl rfl) ?_
        refine al_val (ov_assign rfl rfl) ?_
        refine al_val (ov_assign rfl rfl) ?_
        refine al_nil ?_
        refine aq_then ?_
        refine aw_ret ?_
        refine aq_block_ret ?_
        refine aq_then_ret ?_
        obtain rfl := Option.some.inj h
        exact fn_ret () [] [] rfl rfl rfl rfl (res3 rfl rfl rfl rfl) rfl rfl rfl (by decide)
      · replace h := bif_f hb4 h
        obtain ⟨kk6, hkk6, h⟩ := lt_some h
        refine aw_seq_join (ι := Bool) (fun i => (memOf w0 Z0 [] [] [])) (fun i => (tab [(0, (str a0)), (5, (Value.int .i64 (IntKind.i64.wrap (En.bAt a0 (0 : Int))))), (20, (Value.bool i))])) (fun i => kk6 i = some r) ?_ ?_
        · rintro j5b20 h
          have h : kk6 j5b20 = some r := h
          rw [hkk6] at h
          dsimp only at h
          clear hkk6
          refine aw_show (m := (memOf w0 Z0 [] [] [])) (S := (tab [(0, (str a0)), (5, (Value.int .i64 (IntKind.i64.wrap (En.bAt a0 (0 : Int))))), (20, (Value.bool j5b20))])) ?_
          refine aw_cond rfl (fun hb7 => ?_) (fun hb7 => ?_)
          · replace h := bif_t hb7 h
            refine aw_seq ?_
            refine aw_region ?_
            refine al_val (ov_assign rfl rfl) ?_
            refine al_val (ov_assign rfl rfl) ?_
            refine al_val (ov_assign rfl rfl) ?_
            refine al_nil ?_
            refine aq_then ?_
            refine aw_ret ?_
            refine aq_block_ret ?_
            refine aq_then_ret ?_
            obtain rfl := Option.some.inj h
            exact fn_ret () [] [] rfl rfl rfl rfl (res3 rfl rfl rfl rfl) rfl rfl rfl (by decide)
          · replace h := bif_f hb7 h
            refine aw_skip ?_
            refine aq_block ?_
            refine aq_then ?_
            refine aw_seq ?_
            refine aw_region ?_
            refine al_val (ov_move rfl rfl) ?_
            refine al_val (ov_move rfl rfl) ?_
            refine al_val (ov_int rfl rfl rfl rfl) ?_
            obtain ⟨hc8, h⟩ := req_some h
            refine al_val (ov_strCut hc8.1 hc8.2.1 hc8.2.2 Try.underlying9 rfl rfl rfl rfl) ?_
            obtain ⟨r10, hc9, h⟩ := opt_some h
            refine al_call (vs := [(str (cut a0 (1 : Int) (IntKind.i64.wrap ((1 : Int) + (IntKind.i64.wrap (En.bAt a0 (0 : Int)))))))]) (f_num_value_ok fu (cut a0 (1 : Int) (IntKind.i64.wrap ((1 : Int) + (IntKind.i64.wrap (En.bAt a0 (0 : Int)))))) hc9) [] [] [] pre_nil rfl (by simp) (by decide) (.inl rfl) rfl Try.func76 rfl rfl rfl (fun _ => ?_)
            refine al_val (ov_move rfl rfl) ?_
            refine al_val (ov_int rfl rfl rfl rfl) ?_
            refine al_val (ov_assign rfl rfl) ?_
            refine al_val (ov_assign rfl rfl) ?_
            refine al_val (ov_assign rfl rfl) ?_
            refine al_nil ?_
            refine aq_then ?_
            refine aw_ret ?_
            obtain rfl := Option.some.inj h
            exact fn_ret () [] [] rfl rfl rfl rfl (res3 rfl rfl rfl rfl) rfl rfl rfl (by decide)
        · clear hkk6
          refine aw_region ?_
          refine al_val (ov_move rfl rfl) ?_
          refine al_val (ov_int rfl rfl rfl rfl) ?_
          refine al_val (ov_move rfl rfl) ?_
          refine al_caseB 23 rfl (fun hb11 => ?_) (fun hb11 => ?_)
          · replace h := bif_t hb11 h
            refine al_val (ov_move rfl rfl) ?_
            obtain ⟨hc12, h⟩ := req_some h
            refine al_val (ov_strIdx hc12.1 hc12.2 Try.underlying9 rfl rfl rfl) ?_
            refine al_val (ov_int rfl rfl rfl rfl) ?_
            refine al_val (ov_pick_t rfl rfl rfl) ?_
            refine al_val (ov_assign rfl rfl) ?_
            refine al_nil ?_
            exact aq_join ((En.bAt a0 (1 : Int)) == (0 : Int)) h (fun w a hm hs => norm hm hs [] [] [(0, (str a0)), (5, (Value.int .i64 (IntKind.i64.wrap (En.bAt a0 (0 : Int))))), (20, (Value.bool ((En.bAt a0 (1 : Int)) == (0 : Int))))] (by decide) ⟨rfl, rfl, rfl, trivial⟩)
          · replace h := bif_f hb11 h
            refine al_skip ?_
            refine al_skip ?_
            refine al_skip ?_
            refine al_val (ov_pick_f rfl rfl rfl) ?_
            refine al_val (ov_assign rfl rfl) ?_
            refine al_nil ?_
            exact aq_join false h (fun w a hm hs => norm hm hs [] [] [(0, (str a0)), (5, (Value.int .i64 (IntKind.i64.wrap (En.bAt a0 (0 : Int))))), (20, (Value.bool false))] (by decide) ⟨rfl, rfl, rfl, trivial⟩)
def f_pack_Known (fu : Nat) (a0 : Int) : Option Bool := (lt (fun (j1b2 : Bool) => (some j1b2)) fun (kk2 : Bool → Option Bool) => (bif (decide (a0 ≥ (1 : Int))) then (kk2 (decide (a0 ≤ (3 : Int)))) else (kk2 false)))
set_option maxRecDepth 100000 in
theorem f_pack_Known_ok (fu : Nat) (a0 : Int) {r : Bool} (h : f_pack_Known fu a0 = some r) : FnOk Try.prog 61 [(Value.int .i64 a0)] [] [] (fun (i : Unit) => { val := (Value.bool r) }) := by
  unfold f_pack_Known at h
  refine fn_enter Try.func61 rfl Try.ntmps61 rfl (fun w0 Z0 => ?_)
  refine aw_seq ?_
  refine aw_region ?_
  refine al_val (ov_assign rfl rfl) ?_
  refine al_nil ?_
  refine aq_then ?_
  obtain ⟨kk2, hkk2, h⟩ := lt_some h
  refine aw_seq_join (ι := Bool) (fun i => (memOf w0 Z0 [] [] [])) (fun i => (tab [(2, (Value.bool i))])) (fun i => kk2 i = some r) ?_ ?_
  · rintro j1b2 h
    have h : kk2 j1b2 = some r := h
    rw [hkk2] at h
    dsimp only at h
    clear hkk2
    refine aw_show (m := (memOf w0 Z0 [] [] [])) (S := (tab [(2, (Value.bool j1b2))])) ?_
    refine aw_ret ?_
    obtain rfl := Option.some.inj h
    exact fn_ret () [] [] rfl rfl rfl rfl (res1 rfl rfl) rfl rfl rfl (by decide)
  · clear hkk2
    refine aw_region ?_
    refine al_val (ov_move rfl rfl) ?_
    refine al_val (ov_int rfl rfl rfl rfl) ?_
    refine al_val (ov_move rfl rfl) ?_
    refine al_caseB 5 rfl (fun hb3 => ?_) (fun hb3 => ?_)
    · replace h := bif_t hb3 h
      refine al_val (ov_move rfl rfl) ?_
      refine al_val (ov_int rfl rfl rfl rfl) ?_
      refine al_val (ov_pick_t rfl rfl rfl) ?_
      refine al_val (ov_assign rfl rfl) ?_
      refine al_nil ?_
      exact aq_join (decide (a0 ≤ (3 : Int))) h (fun w a hm hs => norm hm hs [] [] [(2, (Value.bool (decide (a0 ≤ (3 : Int)))))] (by decide) ⟨rfl, trivial⟩)
    · replace h := bif_f hb3 h
      refine al_skip ?_
      refine al_skip ?_
      refine al_val (ov_pick_f rfl rfl rfl) ?_
      refine al_val (ov_assign rfl rfl) ?_
      refine al_nil ?_
      exact aq_join false h (fun w a hm hs => norm hm hs [] [] [(2, (Value.bool false))] (by decide) ⟨rfl, trivial⟩)
def f_pack_directory_L15 (a1 : Int) (r2 : (Int × Int × Int)) (kk8 : ((List UInt8) → Int → (List S_api_Entry) → Option ((List S_api_Entry) × Int))) (fu : Nat) : Nat → (List UInt8) → Int → (List (A8u8 × Bool)) → (List S_api_Entry) → Int → Option ((List S_api_Entry) × Int)
  | 0, _, _, _, _, _ => none
  | k14 + 1, l13s0, l13i9, l13xm10, l13x11, l13i34 => (bif (decide (l13i34 < r2.1)) then (bif (decide ((l13s0.length : Int) < (9 : Int))) then (some (([] : List S_api_Entry), (3 : Int))) else (req (0 ≤ (1 : Int) ∧ (1 : Int) ≤ (9 : Int) ∧ (9 : Int) ≤ (l13s0.length : Int)) (req ((cut l13s0 (1 : Int) (9 : Int)).length ≤ 9223372036854775807) (req (8 ≤ (cut l13s0 (1 : Int) (9 : Int)).length) (req (0 ≤ (0 : Int) ∧ (0 : Int) < (l13s0.length : Int)) (opt (f_pack_Known fu (IntKind.i64.wrap (En.bAt l13s0 (0 : Int)))) fun (r26 : Bool) => (bif (!r26) then (some (([] : List S_api_Entry), (5 : Int))) else (req (0 ≤ (9 : Int) ∧ (9 : Int) ≤ (l13s0.length : Int)) (opt (f_num_Get fu (l13s0.drop ((9 : Int)).toNat)) fun (r30 : (Int × Int × Int)) => (bif (r30.2.2 != (0 : Int)) then (some (([] : List S_api_Entry), r30.2.2)) else (bif (decide (r30.1 > (4097 : Int))) then (some (([] : List S_api_Entry), (2 : Int))) else (lt (fun (j33b68 : Bool) => (bif j33b68 then (some (([] : List S_api_Entry), (4 : Int))) else (req (0 ≤ r30.2.1 ∧ r30.2.1 ≤ ((l13s0.drop ((9 : Int)).toNat).length : Int)) (req (((l13x11.length + ([(S_api_Entry.mk (ofA8u8 (cut l13s0 (1 : Int) (9 : Int))) (IntKind.i64.wrap (En.bAt l13s0 (0 : Int))) l13i9 (IntKind.i64.wrap r30.1))]).length) * 32 : Nat) ≤ 140737488355328 ∧ l13x11.length + ([(S_api_Entry.mk (ofA8u8 (cut l13s0 (1 : Int) (9 : Int))) (IntKind.i64.wrap (En.bAt l13s0 (0 : Int))) l13i9 (IntKind.i64.wrap r30.1))]).length ≤ 9223372036854775807) (f_pack_directory_L15 a1 r2 kk8 fu k14 ((l13s0.drop ((9 : Int)).toNat).drop (r30.2.1).toNat) (IntKind.i64.wrap (l13i9 + (IntKind.i64.wrap r30.1))) (gset l13xm10 (ofA8u8 (cut l13s0 (1 : Int) (9 : Int))) true) (l13x11 ++ ([(S_api_Entry.mk (ofA8u8 (cut l13s0 (1 : Int) (9 : Int))) (IntKind.i64.wrap (En.bAt l13s0 (0 : Int))) l13i9 (IntKind.i64.wrap r30.1))])) (IntKind.u64.wrap (l13i34 + (1 : Int)))))))) fun (kk34 : Bool → Option ((List S_api_Entry) × Int)) => (bif ((gget l13xm10 (ofA8u8 (cut l13s0 (1 : Int) (9 : Int)))).getD false) then (kk34 true) else (kk34 (decide ((IntKind.i64.wrap (l13i9 + (IntKind.i64.wrap r30.1))) > a1)))))))))))))))) else (kk8 l13s0 l13i9 l13x11))
def f_pack_directory (fu : Nat) (a0 : (List UInt8)) (a1 : Int) : Option ((List S_api_Entry) × Int) := (opt (f_num_Get fu a0) fun (r2 : (Int × Int × Int)) => (bif (r2.2.2 != (0 : Int)) then (some (([] : List S_api_Entry), r2.2.2)) else (bif (decide (r2.1 > (40 : Int))) then (some (([] : List S_api_Entry), (2 : Int))) else (req (0 ≤ r2.2.1 ∧ r2.2.1 ≤ (a0.length : Int)) (lt (fun (j7s0 : (List UInt8)) (j7i9 : Int) (j7x11 : (List S_api_Entry)) => (lt (fun (j9b105 : Bool) => (bif j9b105 then (some (([] : List S_api_Entry), (4 : Int))) else (some (j7x11, (0 : Int))))) fun (kk10 : Bool → Option ((List S_api_Entry) × Int)) => (bif (!(j7s0 == ([] : List UInt8))) then (kk10 true) else (kk10 (j7i9 != a1))))) fun (kk8 : (List UInt8) → Int → (List S_api_Entry) → Option ((List S_api_Entry) × Int)) => (f_pack_directory_L15 a1 r2 kk8 fu fu (a0.drop (r2.2.1).toNat) (0 : Int) ([] : List (A8u8 × Bool)) ([] : List S_api_Entry) (0 : Int)))))))
set_option maxRecDepth 100000 in
theorem f_pack_directory_ok (fu : Nat) (a0 : (List UInt8)) (a1 : Int) {r : ((List S_api_Entry) × Int)} (h : f_pack_directory fu a0 a1 = some r) : FnOk Try.prog 39 [(str a0), (Value.int .i64 a1)] [] [] (fun (i : Value) => { val := (Value.tuple #[i, (Value.int .i64 r.2)]), own := [(oRow i 48 tyS_api_Entry r.1)] }) := by
  unfold f_pack_directory at h
  refine fn_enter Try.func39 rfl Try.ntmps39 rfl (fun w0 Z0 => ?_)
  refine aw_seq ?_
  refine aw_region ?_
  refine al_val (ov_assign rfl rfl) ?_
  refine al_val (ov_assign rfl rfl) ?_
  refine al_nil ?_
  refine aq_then ?_
  refine aw_seq ?_
  refine aw_region ?_
  refine al_val (ov_move rfl rfl) ?_
  obtain ⟨r2, hc1, h⟩ := opt_some h
  refine al_call (vs := [(str a0)]) (f_num_Get_ok fu a0 hc1) [] [] [] pre_nil rfl (by simp) (by decide) (.inl rfl) rfl Try.func60 rfl rfl rfl (fun _ => ?_)
  refine al_val (ov_move rfl rfl) ?_
  refine al_val (ov_extract rfl rfl rfl) ?_
  refine al_val (ov_extract rfl rfl rfl) ?_
  refine al_val (ov_extract rfl rfl rfl) ?_
  refine al_val (ov_assign rfl rfl) ?_
  refine al_val (ov_assign rfl rfl) ?_
  refine al_val (ov_assign rfl rfl) ?_
  refine al_nil ?_
  refine aq_then ?_
  refine aw_seq ?_
  refine aw_block ?_
  refine aw_seq ?_
  refine aw_region ?_
  refine al_val (ov_move rfl rfl) ?_
  refine al_val (ov_int rfl rfl rfl rfl) ?_
  refine al_val (ov_assign rfl rfl) ?_
  refine al_nil ?_
  refine aq_then ?_
  refine aw_cond rfl (fun hb3 => ?_) (fun hb3 => ?_)
  · replace h := bif_t hb3 h
    refine aw_seq ?_
    refine aw_region ?_
    refine al_val (ov_move rfl rfl) ?_
    refine al_val (ov_assign rfl rfl) ?_
    refine al_val (ov_assign rfl rfl) ?_
    refine al_nil ?_
    refine aq_then ?_
    refine aw_ret ?_
    refine aq_block_ret ?_
    refine aq_then_ret ?_
    refine aq_nilR 48 tyS_api_Entry ?_
    obtain rfl := Option.some.inj h
    exact fn_ret (Value.slice none 0 0) [0] [] rfl rfl rfl rfl (res2 rfl rfl rfl) rfl rfl rfl (by decide)
  · replace h := bif_f hb3 h
    refine aw_seq ?_
    refine aw_region ?_
    refine al_val (ov_move rfl rfl) ?_
    refine al_val (ov_int rfl rfl rfl rfl) ?_
    refine al_val (ov_assign rfl rfl) ?_
    refine al_nil ?_
    refine aq_then ?_
    refine aw_cond rfl (fun hb4 => ?_) (fun hb4 => ?_)
    · replace h := bif_t hb4 h
      refine aw_seq ?_
      refine aw_region ?_
      refine al_val (ov_assign rfl rfl) ?_
      refine al_val (ov_assign rfl rfl) ?_
      refine al_nil ?_
      refine aq_then ?_
      refine aw_ret ?_
      refine aq_block_ret ?_
      refine aq_then_ret ?_
      refine aq_nilR 48 tyS_api_Entry ?_
      obtain rfl := Option.some.inj h
      exact fn_ret (Value.slice none 0 0) [0] [] rfl rfl rfl rfl (res2 rfl rfl rfl) rfl rfl rfl (by decide)
    · replace h := bif_f hb4 h
      refine aw_skip ?_
      refine aq_block ?_
      refine aq_then ?_
      refine aw_seq ?_
      refine aw_region ?_
      refine al_val (ov_move rfl rfl) ?_
      refine al_val (ov_move rfl rfl) ?_
      obtain ⟨hc5, h⟩ := req_some h
      refine al_val (ov_strFrom hc5.1 hc5.2 Try.underlying9 rfl rfl rfl) ?_
      refine al_val (ov_assign rfl rfl) ?_
      refine al_nil ?_
      refine aq_then ?_
      refine aw_seq ?_
      refine aw_region ?_
      refine al_val (ov_assign rfl rfl) ?_
      refine al_nil ?_
      refine aq_then ?_
      refine aw_seq ?_
      refine aw_region ?_
      refine al_makeMapK (ν := Bool) 26 (fun x : A8u8 => ag (cA8u8 x)) (fun x : Bool => Value.bool x) rfl (fun g6 => ?_)
      refine al_val (ov_assign rfl rfl) ?_
      refine al_nil ?_
      refine aq_then ?_
      refine aw_seq ?_
      refine aw_region ?_
      refine al_val (ov_assign rfl rfl) ?_
      refine al_nil ?_
      refine aq_then ?_
      obtain ⟨kk8, hkk8, h⟩ := lt_some h
      refine aw_seq_join (ι := (List UInt8) × Int × Value × (List S_api_Entry)) (fun i => (memOf w0 Z0 [] [(oRow i.2.2.1 48 tyS_api_Entry i.2.2.2)] [])) (fun i => (tab [(0, (str i.1)), (1, (Value.int .i64 a1)), (9, (Value.int .i64 i.2.1)), (11, i.2.2.1)])) (fun i => kk8 i.1 i.2.1 i.2.2.2 = some r) ?_ ?_
      · rintro ⟨j7s0, j7i9, j7v11, j7x11⟩ h
        have h : kk8 j7s0 j7i9 j7x11 = some r := h
        rw [hkk8] at h
        dsimp only at h
        clear hkk8
        refine aw_show (m := (memOf w0 Z0 [] [(oRow j7v11 48 tyS_api_Entry j7x11)] [])) (S := (tab [(0, (str j7s0)), (1, (Value.int .i64 a1)), (9, (Value.int .i64 j7i9)), (11, j7v11)])) ?_
        refine aw_seq ?_
        obtain ⟨kk10, hkk10, h⟩ := lt_some h
        refine aw_seq_join (ι := Bool) (fun i => (memOf w0 Z0 [] [(oRow j7v11 48 tyS_api_Entry j7x11)] [])) (fun i => (tab [(11, j7v11), (105, (Value.bool i))])) (fun i => kk10 i = some r) ?_ ?_
        · rintro j9b105 h
          have h : kk10 j9b105 = some r := h
          rw [hkk10] at h
          dsimp only at h
          clear hkk10
          refine aw_show (m := (memOf w0 Z0 [] [(oRow j7v11 48 tyS_api_Entry j7x11)] [])) (S := (tab [(11, j7v11), (105, (Value.bool j9b105))])) ?_
          refine aw_cond rfl (fun hb11 => ?_) (fun hb11 => ?_)
          · replace h := bif_t hb11 h
            refine aw_seq ?_
            refine aw_region ?_
            refine al_val (ov_assign rfl rfl) ?_
            refine al_val (ov_assign rfl rfl) ?_
            refine al_nil ?_
            refine aq_then ?_
            refine aw_ret ?_
            refine aq_then_ret ?_
            refine aq_nilR 48 tyS_api_Entry ?_
            obtain rfl := Option.some.inj h
            exact fn_ret (Value.slice none 0 0) [0] [] rfl rfl rfl rfl (res2 rfl rfl rfl) rfl rfl rfl (by decide)
          · replace h := bif_f hb11 h
            refine aw_skip ?_
            refine aq_then ?_
            refine aw_seq ?_
            refine aw_region ?_
            refine al_val (ov_move rfl rfl) ?_
            refine al_val (ov_assign rfl rfl) ?_
            refine al_val (ov_assign rfl rfl) ?_
            refine al_nil ?_
            refine aq_then ?_
            refine aw_ret ?_
            obtain rfl := Option.some.inj h
            exact fn_ret j7v11 [0] [] rfl rfl rfl rfl (res2 rfl rfl rfl) rfl rfl rfl (by decide)
        · clear hkk10
          refine aw_region ?_
          refine al_val (ov_move rfl rfl) ?_
          refine al_val (ov_strCmp rfl rfl rfl rfl) ?_
          refine al_val (ov_move rfl rfl) ?_
          refine al_caseB 101 rfl (fun hb12 => ?_) (fun hb12 => ?_)
          · replace h := bif_t hb12 h
            refine al_skip ?_
            refine al_skip ?_
            refine al_skip ?_
            refine al_val (ov_pick_t rfl rfl rfl) ?_
            refine al_nil ?_
            exact aq_join true h (fun w a hm hs => norm hm hs [0] [] [(11, j7v11), (105, (Value.bool true))] (by decide) ⟨rfl, rfl, trivial⟩)
          · replace h := bif_f hb12 h
            refine al_val (ov_move rfl rfl) ?_
            refine al_val (ov_move rfl rfl) ?_
            refine al_val (ov_int rfl rfl rfl rfl) ?_
            refine al_val (ov_pick_f rfl rfl rfl) ?_
            refine al_nil ?_
            exact aq_join (j7i9 != a1) h (fun w a hm hs => norm hm hs [0] [] [(11, j7v11), (105, (Value.bool (j7i9 != a1)))] (by decide) ⟨rfl, rfl, trivial⟩)
      · clear hkk8
        refine aw_seq ?_
        refine aw_region ?_
        refine al_val (ov_move rfl rfl) ?_
        refine al_val (ov_move rfl rfl) ?_
        refine al_nil ?_
        refine aq_then ?_
        refine aw_block ?_
        refine aw_nilR 48 tyS_api_Entry ?_
        refine aw_state (aw_loop (ι := (List UInt8) × Int × (List (A8u8 × Bool)) × Value × (List S_api_Entry) × Int) (fun i => (memOf w0 Z0 [] [(oMapK Try.prog 26 g6 (fun x : A8u8 => ag (cA8u8 x)) (fun x : Bool => Value.bool x) i.2.2.1), (oRow i.2.2.2.1 48 tyS_api_Entry i.2.2.2.2.1)] [])) (fun i => (tab [(0, (str i.1)), (1, (Value.int .i64 a1)), (9, (Value.int .i64 i.2.1)), (10, (Value.map (some g6))), (11, i.2.2.2.1), (33, (Value.int .u64 r2.1)), (34, (Value.int .u64 i.2.2.2.2.2))])) (fun q i => f_pack_directory_L15 a1 r2 kk8 fu q i.1 i.2.1 i.2.2.1 i.2.2.2.2.1 i.2.2.2.2.2 = some r) ?_ fu ((a0.drop (r2.2.1).toNat), (0 : Int), ([] : List (A8u8 × Bool)), (Value.slice none 0 0), ([] : List S_api_Entry), (0 : Int)) h) (fun w a hm hs => norm hm hs [1, 0] [] [(0, (str (a0.drop (r2.2.1).toNat))), (1, (Value.int .i64 a1)), (9, (Value.int .i64 (0 : Int))), (10, (Value.map (some g6))), (11, (Value.slice none 0 0)), (33, (Value.int .u64 r2.1)), (34, (Value.int .u64 (0 : Int)))] (by decide) ⟨rfl, rfl, rfl, rfl, rfl, rfl, rfl, trivial⟩)
        clear h
        rintro k14 ⟨l13s0, l13i9, l13xm10, l13v11, l13x11, l13i34⟩ h
        have h : f_pack_directory_L15 a1 r2 kk8 fu k14 l13s0 l13i9 l13xm10 l13x11 l13i34 = some r := h
        obtain _ | k14 := k14
        · rw [f_pack_directory_L15] at h; cases h
        rw [f_pack_directory_L15] at h
        refine aw_show (m := (memOf w0 Z0 [] [(oMapK Try.prog 26 g6 (fun x : A8u8 => ag (cA8u8 x)) (fun x : Bool => Value.bool x) l13xm10), (oRow l13v11 48 tyS_api_Entry l13x11)] [])) (S := (tab [(0, (str l13s0)), (1, (Value.int .i64 a1)), (9, (Value.int .i64 l13i9)), (10, (Value.map (some g6))), (11, l13v11), (33, (Value.int .u64 r2.1)), (34, (Value.int .u64 l13i34))])) ?_
        refine aw_seq ?_
        refine aw_region ?_
        refine al_val (ov_int rfl rfl rfl rfl) ?_
        refine al_nil ?_
        refine aq_then ?_
        refine aw_seq ?_
        refine aw_cond rfl (fun hb16 => ?_) (fun hb16 => ?_)
        · replace h := bif_t hb16 h
          refine aw_skip ?_
          refine aq_then ?_
          refine aw_seq ?_
          refine aw_block ?_
          refine aw_seq ?_
          refine aw_seq ?_
          refine aw_region ?_
          refine al_val (ov_move rfl rfl) ?_
          refine al_val (ov_strLen Try.underlying9 rfl rfl) ?_
          refine al_val (ov_int rfl rfl rfl rfl) ?_
          refine al_nil ?_
          refine aq_then ?_
          refine aw_cond rfl (fun hb17 => ?_) (fun hb17 => ?_)
          · replace h := bif_t hb17 h
            refine aw_seq ?_
            refine aw_region ?_
            refine al_val (ov_assign rfl rfl) ?_
            refine al_val (ov_assign rfl rfl) ?_
            refine al_nil ?_
            refine aq_then ?_
            refine aw_ret ?_
            refine aq_then_ret ?_
            refine aq_block_ret ?_
            refine aq_then_ret ?_
            refine aq_then_ret ?_
            refine aq_block_ret ?_
            refine aq_then_ret ?_
            refine aq_nilR 48 tyS_api_Entry ?_
            obtain rfl := Option.some.inj h
            exact fn_ret (Value.slice none 0 0) [0] [] rfl rfl rfl rfl (res2 rfl rfl rfl) rfl rfl rfl (by decide)
          · replace h := bif_f hb17 h
            refine aw_skip ?_
            refine aq_then ?_
            refine aw_seq ?_
            obtain ⟨hc18, h⟩ := req_some h
            obtain ⟨hc19, h⟩ := req_some h
            obtain ⟨hc22, h⟩ := req_some h
            obtain ⟨hc23, h⟩ := req_some h
            refine aw_region_open [⟨0, 39, Unit, fun _ => { val := (str l13s0) }⟩, ⟨1, 40, Unit, fun _ => { val := (str (cut l13s0 (1 : Int) (9 : Int))) }⟩, ⟨2, 41, Value, fun (i : Value) => { val := i, fz := [(fDat (tyList tyU8) [i] (cut l13s0 (1 : Int) (9 : Int)))] }⟩, ⟨3, 42, Value, fun (i : Value) => { val := i, fz := [(fPtr tyA8u8 i (ofA8u8 (cut l13s0 (1 : Int) (9 : Int))))] }⟩, ⟨4, 43, Unit, fun _ => { val := (ag (cA8u8 (ofA8u8 (cut l13s0 (1 : Int) (9 : Int))))) }⟩, ⟨5, 44, Unit, fun _ => { val := (str l13s0) }⟩, ⟨6, 45, Unit, fun _ => { val := (Value.int .u8 (En.bAt l13s0 (0 : Int))) }⟩, ⟨7, 46, Unit, fun _ => { val := (Value.int .i64 (IntKind.i64.wrap (En.bAt l13s0 (0 : Int)))) }⟩, ⟨8, 47, Unit, fun _ => { val := (Value.int .i64 l13i9) }⟩, ⟨9, 48, Unit, fun _ => { val := (ag ((cA8u8 (ofA8u8 (cut l13s0 (1 : Int) (9 : Int)))) ++ [(Value.int .i64 (IntKind.i64.wrap (En.bAt l13s0 (0 : Int)))), (Value.int .i64 l13i9), (Value.int .i64 (0 : Int))])) }⟩, ⟨10, 12, Nat, fun (i : Nat) => { val := (ptr i 0), own := [(oBox i 48 ((cA8u8 (A8u8.mk (0 : UInt8) (0 : UInt8) (0 : UInt8) (0 : UInt8) (0 : UInt8) (0 : UInt8) (0 : UInt8) (0 : UInt8))) ++ [(Value.int .i64 (0 : Int)), (Value.int .i64 (0 : Int)), (Value.int .i64 (0 : Int))]))] }⟩] (tab [(0, (str l13s0)), (1, (Value.int .i64 a1)), (9, (Value.int .i64 l13i9)), (10, (Value.map (some g6))), (11, l13v11), (33, (Value.int .u64 r2.1)), (34, (Value.int .u64 l13i34))]) mixed (fun a hs => hs.tab _ (allT_mem ⟨rfl, rfl, rfl, rfl, rfl, rfl, rfl, trivial⟩)) ?_
            refine ta_show (m := (memOf w0 Z0 [] [(oMapK Try.prog 26 g6 (fun x : A8u8 => ag (cA8u8 x)) (fun x : Bool => Value.bool x) l13xm10), (oRow l13v11 48 tyS_api_Entry l13x11)] [])) (S := (tab [(0, (str l13s0)), (1, (Value.int .i64 a1)), (9, (Value.int .i64 l13i9)), (10, (Value.map (some g6))), (11, l13v11), (33, (Value.int .u64 r2.1)), (34, (Value.int .u64 l13i34))])) ?_
            refine ta_step 11 _ [0, 1, 2, 3, 4, 5, 6, 7, 8, 9, 10] [39, 40, 41, 42, 43, 44, 45, 46, 47, 48, 12] [0, 1, 2, 3, 4, 5, 6, 7, 8, 9, 10] [] [⟨0, 39, Unit, fun _ => { val := (str l13s0) }⟩, ⟨1, 40, Unit, fun _ => { val := (str (cut l13s0 (1 : Int) (9 : Int))) }⟩, ⟨2, 41, Value, fun (i : Value) => { val := i, fz := [(fDat (tyList tyU8) [i] (cut l13s0 (1 : Int) (9 : Int)))] }⟩, ⟨3, 42, Value, fun (i : Value) => { val := i, fz := [(fPtr tyA8u8 i (ofA8u8 (cut l13s0 (1 : Int) (9 : Int))))] }⟩, ⟨4, 43, Unit, fun _ => { val := (ag (cA8u8 (ofA8u8 (cut l13s0 (1 : Int) (9 : Int))))) }⟩, ⟨5, 44, Unit, fun _ => { val := (str l13s0) }⟩, ⟨6, 45, Unit, fun _ => { val := (Value.int .u8 (En.bAt l13s0 (0 : Int))) }⟩, ⟨7, 46, Unit, fun _ => { val := (Value.int .i64 (IntKind.i64.wrap (En.bAt l13s0 (0 : Int)))) }⟩, ⟨8, 47, Unit, fun _ => { val := (Value.int .i64 l13i9) }⟩, ⟨9, 48, Unit, fun _ => { val := (ag ((cA8u8 (ofA8u8 (cut l13s0 (1 : Int) (9 : Int)))) ++ [(Value.int .i64 (IntKind.i64.wrap (En.bAt l13s0 (0 : Int)))), (Value.int .i64 l13i9), (Value.int .i64 (0 : Int))])) }⟩, ⟨10, 12, Nat, fun (i : Nat) => { val := (ptr i 0), own := [(oBox i 48 ((cA8u8 (A8u8.mk (0 : UInt8) (0 : UInt8) (0 : UInt8) (0 : UInt8) (0 : UInt8) (0 : UInt8) (0 : UInt8) (0 : UInt8))) ++ [(Value.int .i64 (0 : Int)), (Value.int .i64 (0 : Int)), (Value.int .i64 (0 : Int))]))] }⟩] [] rfl rfl rfl (by kernel_rfl) rfl rfl rfl ⟨⟨_, rfl, [], rfl, by
    intro X_ Y_ F_ K_ hK_
    refine al_show (m := Mem.plus (memOf w0 Z0 [] [(oMapK Try.prog 26 g6 (fun x : A8u8 => ag (cA8u8 x)) (fun x : Bool => Value.bool x) l13xm10), (oRow l13v11 48 tyS_api_Entry l13x11)] []) X_ Y_) (S := over (tab [(0, (str l13s0)), (1, (Value.int .i64 a1)), (9, (Value.int .i64 l13i9)), (10, (Value.map (some g6))), (11, l13v11), (33, (Value.int .u64 r2.1)), (34, (Value.int .u64 l13i34))]) F_) ?_
    refine al_val (ov_move rfl rfl) ?_
    refine al_nil ?_
    exact fr_fin hK_ ()⟩, ⟨_, rfl, [0], rfl, by
    intro _
    intro X_ Y_ F_ K_ hK_
    refine al_show (m := Mem.plus (memOf w0 Z0 [] [(oMapK Try.prog 26 g6 (fun x : A8u8 => ag (cA8u8 x)) (fun x : Bool => Value.bool x) l13xm10), (oRow l13v11 48 tyS_api_Entry l13x11)] []) X_ Y_) (S := over (put (tab [(0, (str l13s0)), (1, (Value.int .i64 a1)), (9, (Value.int .i64 l13i9)), (10, (Value.map (some g6))), (11, l13v11), (33, (Value.int .u64 r2.1)), (34, (Value.int .u64 l13i34))]) 39 (str l13s0)) F_) ?_
    refine al_val (ov_strCut hc18.1 hc18.2.1 hc18.2.2 Try.underlying9 rfl rfl rfl rfl) ?_
    refine al_nil ?_
    exact fr_fin hK_ ()⟩, ⟨_, rfl, [1], rfl, by
    intro _
    intro X_ Y_ F_ K_ hK_
    refine al_show (m := Mem.plus (memOf w0 Z0 [] [(oMapK Try.prog 26 g6 (fun x : A8u8 => ag (cA8u8 x)) (fun x : Bool => Value.bool x) l13xm10), (oRow l13v11 48 tyS_api_Entry l13x11)] []) X_ Y_) (S := over (put (tab [(0, (str l13s0)), (1, (Value.int .i64 a1)), (9, (Value.int .i64 l13i9)), (10, (Value.map (some g6))), (11, l13v11), (33, (Value.int .u64 r2.1)), (34, (Value.int .u64 l13i34))]) 40 (str (cut l13s0 (1 : Int) (9 : Int)))) F_) ?_
    refine al_bytes hc19 rfl Try.underlying9 Try.underlying62 Try.underlying5 rfl (fun s20 => ?_)
    refine al_nil ?_
    exact fr_fin hK_ s20⟩, ⟨_, rfl, [2], rfl, by
    intro s20
    intro X_ Y_ F_ K_ hK_
    refine al_show (m := Mem.plus (memOf w0 Z0 [] [(oMapK Try.prog 26 g6 (fun x : A8u8 => ag (cA8u8 x)) (fun x : Bool => Value.bool x) l13xm10), (oRow l13v11 48 tyS_api_Entry l13x11)] [(fDat (tyList tyU8) [s20] (cut l13s0 (1 : Int) (9 : Int)))]) X_ Y_) (S := over (put (tab [(0, (str l13s0)), (1, (Value.int .i64 a1)), (9, (Value.int .i64 l13i9)), (10, (Value.map (some g6))), (11, l13v11), (33, (Value.int .u64 r2.1)), (34, (Value.int .u64 l13i34))]) 41 s20) F_) ?_
    refine al_s2ap (τA := tyA8u8) (x := (ofA8u8 (cut l13s0 (1 : Int) (9 : Int)))) 0 8 hc22 rfl (fun h9 => oflA8u8 hc22 h9) rfl rfl Try.underlying26 rfl (fun p21 => ?_)
    refine al_nil ?_
    exact fr_fin hK_ p21⟩, ⟨_, rfl, [3], rfl, by
    intro p21
    intro X_ Y_ F_ K_ hK_
    refine al_show (m := Mem.plus (memOf w0 Z0 [] [(oMapK Try.prog 26 g6 (fun x : A8u8 => ag (cA8u8 x)) (fun x : Bool => Value.bool x) l13xm10), (oRow l13v11 48 tyS_api_Entry l13x11)] [(fPtr tyA8u8 p21 (ofA8u8 (cut l13s0 (1 : Int) (9 : Int))))]) X_ Y_) (S := over (put (tab [(0, (str l13s0)), (1, (Value.int .i64 a1)), (9, (Value.int .i64 l13i9)), (10, (Value.map (some g6))), (11, l13v11), (33, (Value.int .u64 r2.1)), (34, (Value.int .u64 l13i34))]) 42 p21) F_) ?_
    refine al_val (ov_loadP (ds := (cA8u8 (ofA8u8 (cut l13s0 (1 : Int) (9 : Int))))) 0 rfl encA8u8 rfl Try.underlying26 sz26 rfl rfl rfl) ?_
    refine al_nil ?_
    exact fr_fin hK_ ()⟩, ⟨_, rfl, [], rfl, by
    intro X_ Y_ F_ K_ hK_
    refine al_show (m := Mem.plus (memOf w0 Z0 [] [(oMapK Try.prog 26 g6 (fun x : A8u8 => ag (cA8u8 x)) (fun x : Bool => Value.bool x) l13xm10), (oRow l13v11 48 tyS_api_Entry l13x11)] []) X_ Y_) (S := over (tab [(0, (str l13s0)), (1, (Value.int .i64 a1)), (9, (Value.int .i64 l13i9)), (10, (Value.map (some g6))), (11, l13v11), (33, (Value.int .u64 r2.1)), (34, (Value.int .u64 l13i34))]) F_) ?_
    refine al_val (ov_move rfl rfl) ?_
    refine al_nil ?_
    exact fr_fin hK_ ()⟩, ⟨_, rfl, [5], rfl, by
    intro _
    intro X_ Y_ F_ K_ hK_
    refine al_show (m := Mem.plus (memOf w0 Z0 [] [(oMapK Try.prog 26 g6 (fun x : A8u8 => ag (cA8u8 x)) (fun x : Bool => Value.bool x) l13xm10), (oRow l13v11 48 tyS_api_Entry l13x11)] []) X_ Y_) (S := over (put (tab [(0, (str l13s0)), (1, (Value.int .i64 a1)), (9, (Value.int .i64 l13i9)), (10, (Value.map (some g6))), (11, l13v11), (33, (Value.int .u64 r2.1)), (34, (Value.int .u64 l13i34))]) 44 (str l13s0)) F_) ?_
    refine al_val (ov_strIdx hc23.1 hc23.2 Try.underlying9 rfl rfl rfl) ?_
    refine al_nil ?_
    exact fr_fin hK_ ()⟩, ⟨_, rfl, [6], rfl, by
    intro _
    intro X_ Y_ F_ K_ hK_
    refine al_show (m := Mem.plus (memOf w0 Z0 [] [(oMapK Try.prog 26 g6 (fun x : A8u8 => ag (cA8u8 x)) (fun x : Bool => Value.bool x) l13xm10), (oRow l13v11 48 tyS_api_Entry l13x11)] []) X_ Y_) (S := over (put (tab [(0, (str l13s0)), (1, (Value.int .i64 a1)), (9, (Value.int .i64 l13i9)), (10, (Value.map (some g6))), (11, l13v11), (33, (Value.int .u64 r2.1)), (34, (Value.int .u64 l13i34))]) 45 (Value.int .u8 (En.bAt l13s0 (0 : Int)))) F_) ?_
    refine al_val (ov_convInt (by rw [Try.underlying5]; rfl) Try.underlying3 rfl rfl) ?_
    refine al_nil ?_
    exact fr_fin hK_ ()⟩, ⟨_, rfl, [], rfl, by
    intro X_ Y_ F_ K_ hK_
    refine al_show (m := Mem.plus (memOf w0 Z0 [] [(oMapK Try.prog 26 g6 (fun x : A8u8 => ag (cA8u8 x)) (fun x : Bool => Value.bool x) l13xm10), (oRow l13v11 48 tyS_api_Entry l13x11)] []) X_ Y_) (S := over (tab [(0, (str l13s0)), (1, (Value.int .i64 a1)), (9, (Value.int .i64 l13i9)), (10, (Value.map (some g6))), (11, l13v11), (33, (Value.int .u64 r2.1)), (34, (Value.int .u64 l13i34))]) F_) ?_
    refine al_val (ov_move rfl rfl) ?_
    refine al_nil ?_
    exact fr_fin hK_ ()⟩, ⟨_, rfl, [4, 7, 8], rfl, by
    intro _
    intro _
    intro _
    intro X_ Y_ F_ K_ hK_
    refine al_show (m := Mem.plus (memOf w0 Z0 [] [(oMapK Try.prog 26 g6 (fun x : A8u8 => ag (cA8u8 x)) (fun x : Bool => Value.bool x) l13xm10), (oRow l13v11 48 tyS_api_Entry l13x11)] []) X_ Y_) (S := over (put (put (put (tab [(0, (str l13s0)), (1, (Value.int .i64 a1)), (9, (Value.int .i64 l13i9)), (10, (Value.map (some g6))), (11, l13v11), (33, (Value.int .u64 r2.1)), (34, (Value.int .u64 l13i34))]) 43 (ag (cA8u8 (ofA8u8 (cut l13s0 (1 : Int) (9 : Int)))))) 46 (Value.int .i64 (IntKind.i64.wrap (En.bAt l13s0 (0 : Int))))) 47 (Value.int .i64 l13i9)) F_) ?_
    refine al_val (ov_build (cells := (((cA8u8 (ofA8u8 (cut l13s0 (1 : Int) (9 : Int)))) ++ [(Value.int .i64 (IntKind.i64.wrap (En.bAt l13s0 (0 : Int)))), (Value.int .i64 l13i9), (Value.int .i64 (0 : Int))])).toArray) (cs := ((cA8u8 (ofA8u8 (cut l13s0 (1 : Int) (9 : Int)))) ++ [(Value.int .i64 (IntKind.i64.wrap (En.bAt l13s0 (0 : Int)))), (Value.int .i64 l13i9), (Value.int .i64 (0 : Int))])) rfl (fun w a hm hs => by simp only [List.map_toArray, List.map_cons, List.map_nil, List.toList_toArray, hs.ev (x := .tmp 43) rfl, hs.ev (x := .tmp 46) rfl, hs.ev (x := .tmp 47) rfl]; kernel_rfl)) ?_
    refine al_nil ?_
    exact fr_fin hK_ ()⟩, ⟨_, rfl, [], rfl, by
    intro X_ Y_ F_ K_ hK_
    refine al_show (m := Mem.plus (memOf w0 Z0 [] [(oMapK Try.prog 26 g6 (fun x : A8u8 => ag (cA8u8 x)) (fun x : Bool => Value.bool x) l13xm10), (oRow l13v11 48 tyS_api_Entry l13x11)] []) X_ Y_) (S := over (tab [(0, (str l13s0)), (1, (Value.int .i64 a1)), (9, (Value.int .i64 l13i9)), (10, (Value.map (some g6))), (11, l13v11), (33, (Value.int .u64 r2.1)), (34, (Value.int .u64 l13i34))]) F_) ?_
    refine al_alloc (zs := ((cA8u8 (A8u8.mk (0 : UInt8) (0 : UInt8) (0 : UInt8) (0 : UInt8) (0 : UInt8) (0 : UInt8) (0 : UInt8) (0 : UInt8))) ++ [(Value.int .i64 (0 : Int)), (Value.int .i64 (0 : Int)), (Value.int .i64 (0 : Int))])) (zeroOf_to to48) rfl rfl (fun g24 => ?_)
    refine al_nil ?_
    exact fr_fin hK_ g24⟩, trivial⟩ ?_
            intro _
            intro _
            intro s20
            intro p21
            intro _
            intro _
            intro _
            intro _
            intro _
            intro _
            intro g24
            intro X_ Y_ F_ K_ hK_
            refine al_show (m := Mem.plus (memOf w0 Z0 [] [(oBox g24 48 ((cA8u8 (A8u8.mk (0 : UInt8) (0 : UInt8) (0 : UInt8) (0 : UInt8) (0 : UInt8) (0 : UInt8) (0 : UInt8) (0 : UInt8))) ++ [(Value.int .i64 (0 : Int)), (Value.int .i64 (0 : Int)), (Value.int .i64 (0 : Int))])), (oMapK Try.prog 26 g6 (fun x : A8u8 => ag (cA8u8 x)) (fun x : Bool => Value.bool x) l13xm10), (oRow l13v11 48 tyS_api_Entry l13x11)] [(fPtr tyA8u8 p21 (ofA8u8 (cut l13s0 (1 : Int) (9 : Int)))), (fDat (tyList tyU8) [s20] (cut l13s0 (1 : Int) (9 : Int)))]) X_ Y_) (S := over (put (put (put (put (put (put (put (put (put (put (put (tab [(0, (str l13s0)), (1, (Value.int .i64 a1)), (9, (Value.int .i64 l13i9)), (10, (Value.map (some g6))), (11, l13v11), (33, (Value.int .u64 r2.1)), (34, (Value.int .u64 l13i34))]) 39 (str l13s0)) 40 (str (cut l13s0 (1 : Int) (9 : Int)))) 41 s20) 42 p21) 43 (ag (cA8u8 (ofA8u8 (cut l13s0 (1 : Int) (9 : Int)))))) 44 (str l13s0)) 45 (Value.int .u8 (En.bAt l13s0 (0 : Int)))) 46 (Value.int .i64 (IntKind.i64.wrap (En.bAt l13s0 (0 : Int))))) 47 (Value.int .i64 l13i9)) 48 (ag ((cA8u8 (ofA8u8 (cut l13s0 (1 : Int) (9 : Int)))) ++ [(Value.int .i64 (IntKind.i64.wrap (En.bAt l13s0 (0 : Int)))), (Value.int .i64 l13i9), (Value.int .i64 (0 : Int))]))) 12 (ptr g24 0)) F_) ?_
            refine al_store (i := 0) (vs := ((cA8u8 (ofA8u8 (cut l13s0 (1 : Int) (9 : Int)))) ++ [(Value.int .i64 (IntKind.i64.wrap (En.bAt l13s0 (0 : Int)))), (Value.int .i64 l13i9), (Value.int .i64 (0 : Int))])) (cs' := ((cA8u8 (ofA8u8 (cut l13s0 (1 : Int) (9 : Int)))) ++ [(Value.int .i64 (IntKind.i64.wrap (En.bAt l13s0 (0 : Int)))), (Value.int .i64 l13i9), (Value.int .i64 (0 : Int))])) rfl rfl rfl sz48 (cv_rfl rfl) rfl (co_app (oneA8u8 (ofA8u8 (cut l13s0 (1 : Int) (9 : Int)))) (co_val rfl (co_val rfl (co_val rfl co_nil)))) (Nat.le_of_ble_eq_true rfl) rfl rfl ?_
            refine al_nil ?_
            refine aq_show (m := Mem.plus (memOf w0 Z0 [] [(oBox g24 48 ((cA8u8 (ofA8u8 (cut l13s0 (1 : Int) (9 : Int)))) ++ [(Value.int .i64 (IntKind.i64.wrap (En.bAt l13s0 (0 : Int)))), (Value.int .i64 l13i9), (Value.int .i64 (0 : Int))])), (oMapK Try.prog 26 g6 (fun x : A8u8 => ag (cA8u8 x)) (fun x : Bool => Value.bool x) l13xm10), (oRow l13v11 48 tyS_api_Entry l13x11)] [(fPtr tyA8u8 p21 (ofA8u8 (cut l13s0 (1 : Int) (9 : Int)))), (fDat (tyList tyU8) [s20] (cut l13s0 (1 : Int) (9 : Int)))]) X_ Y_) ?_
            refine aq_next hK_ [0, 1, 2] [] [(0, (str l13s0)), (1, (Value.int .i64 a1)), (9, (Value.int .i64 l13i9)), (10, (Value.map (some g6))), (11, l13v11), (12, (ptr g24 0)), (33, (Value.int .u64 r2.1)), (34, (Value.int .u64 l13i34))] [] [] rfl rfl (by decide) rfl ⟨rfl, rfl, rfl, rfl, rfl, rfl, rfl, rfl, trivial⟩ trivial ?_
            clear hK_ K_ F_ X_ Y_
            refine ta_show (m := (memOf w0 Z0 [] [(oBox g24 48 ((cA8u8 (ofA8u8 (cut l13s0 (1 : Int) (9 : Int)))) ++ [(Value.int .i64 (IntKind.i64.wrap (En.bAt l13s0 (0 : Int)))), (Value.int .i64 l13i9), (Value.int .i64 (0 : Int))])), (oMapK Try.prog 26 g6 (fun x : A8u8 => ag (cA8u8 x)) (fun x : Bool => Value.bool x) l13xm10), (oRow l13v11 48 tyS_api_Entry l13x11)] [])) (S := (tab [(0, (str l13s0)), (1, (Value.int .i64 a1)), (9, (Value.int .i64 l13i9)), (10, (Value.map (some g6))), (11, l13v11), (12, (ptr g24 0)), (33, (Value.int .u64 r2.1)), (34, (Value.int .u64 l13i34))])) ?_
            refine ta_end [] [] rfl rfl (by kernel_rfl) rfl trivial ?_
            refine aq_show (m := (memOf w0 Z0 [] [(oBox g24 48 ((cA8u8 (ofA8u8 (cut l13s0 (1 : Int) (9 : Int)))) ++ [(Value.int .i64 (IntKind.i64.wrap (En.bAt l13s0 (0 : Int)))), (Value.int .i64 l13i9), (Value.int .i64 (0 : Int))])), (oMapK Try.prog 26 g6 (fun x : A8u8 => ag (cA8u8 x)) (fun x : Bool => Value.bool x) l13xm10), (oRow l13v11 48 tyS_api_Entry l13x11)] [])) (S := (tab [(0, (str l13s0)), (1, (Value.int .i64 a1)), (9, (Value.int .i64 l13i9)), (10, (Value.map (some g6))), (11, l13v11), (12, (ptr g24 0)), (33, (Value.int .u64 r2.1)), (34, (Value.int .u64 l13i34))])) ?_
            refine aq_then ?_
            refine aw_seq ?_
            refine aw_seq ?_
            refine aw_region ?_
            refine al_val (ov_fieldA (p := 8) rfl Try.underlying48 rfl sz3 rfl rfl rfl) ?_
            refine al_val (ov_load (i := 0) (v := (Value.int .i64 (IntKind.i64.wrap (En.bAt l13s0 (0 : Int))))) rfl rfl Try.underlying3 sz3 rfl rfl rfl rfl) ?_
            obtain ⟨r26, hc25, h⟩ := opt_some h
            refine al_call (vs := [(Value.int .i64 (IntKind.i64.wrap (En.bAt l13s0 (0 : Int))))]) (f_pack_Known_ok fu (IntKind.i64.wrap (En.bAt l13s0 (0 : Int))) hc25) [] [] [0, 1, 2] pre_nil rfl (by simp) (by decide) (.inl rfl) rfl Try.func61 rfl rfl rfl (fun _ => ?_)
            refine al_val (ov_not rfl rfl) ?_
            refine al_nil ?_
            refine aq_then ?_
            refine aw_cond rfl (fun hb27 => ?_) (fun hb27 => ?_)
            · replace h := bif_t hb27 h
              refine aw_seq ?_
              refine aw_region ?_
              refine al_val (ov_assign rfl rfl) ?_
              refine al_val (ov_assign rfl rfl) ?_
              refine al_nil ?_
              refine aq_then ?_
              refine aw_ret ?_
              refine aq_then_ret ?_
              refine aq_block_ret ?_
              refine aq_then_ret ?_
              refine aq_then_ret ?_
              refine aq_block_ret ?_
              refine aq_then_ret ?_
              refine aq_nilR 48 tyS_api_Entry ?_
              obtain rfl := Option.some.inj h
              exact fn_ret (Value.slice none 0 0) [0] [] rfl rfl rfl rfl (res2 rfl rfl rfl) rfl rfl rfl (by decide)
            · replace h := bif_f hb27 h
              refine aw_skip ?_
              refine aq_then ?_
              refine aw_seq ?_
              refine aw_region ?_
              refine al_val (ov_move rfl rfl) ?_
              obtain ⟨hc28, h⟩ := req_some h
              refine al_val (ov_strFrom hc28.1 hc28.2 Try.underlying9 rfl rfl rfl) ?_
              refine al_val (ov_assign rfl rfl) ?_
              refine al_nil ?_
              refine aq_then ?_
              refine aw_seq ?_
              refine aw_region ?_
              refine al_val (ov_move rfl rfl) ?_
              obtain ⟨r30, hc29, h⟩ := opt_some h
              refine al_call (vs := [(str (l13s0.drop ((9 : Int)).toNat))]) (f_num_Get_ok fu (l13s0.drop ((9 : Int)).toNat) hc29) [] [] [0, 1, 2] pre_nil rfl (by simp) (by decide) (.inl rfl) rfl Try.func60 rfl rfl rfl (fun _ => ?_)
              refine al_val (ov_move rfl rfl) ?_
              refine al_val (ov_extract rfl rfl rfl) ?_
              refine al_val (ov_extract rfl rfl rfl) ?_
              refine al_val (ov_extract rfl rfl rfl) ?_
              refine al_val (ov_assign rfl rfl) ?_
              refine al_val (ov_assign rfl rfl) ?_
              refine al_val (ov_assign rfl rfl) ?_
              refine al_nil ?_
              refine aq_then ?_
              refine aw_seq ?_
              refine aw_block ?_
              refine aw_seq ?_
              refine aw_region ?_
              refine al_val (ov_move rfl rfl) ?_
              refine al_val (ov_int rfl rfl rfl rfl) ?_
              refine al_val (ov_assign rfl rfl) ?_
              refine al_nil ?_
              refine aq_then ?_
              refine aw_cond rfl (fun hb31 => ?_) (fun hb31 => ?_)
              · replace h := bif_t hb31 h
                refine aw_seq ?_
                refine aw_region ?_
                refine al_val (ov_move rfl rfl) ?_
                refine al_val (ov_assign rfl rfl) ?_
                refine al_val (ov_assign rfl rfl) ?_
                refine al_nil ?_
                refine aq_then ?_
                refine aw_ret ?_
                refine aq_block_ret ?_
                refine aq_then_ret ?_
                refine aq_block_ret ?_
                refine aq_then_ret ?_
                refine aq_then_ret ?_
                refine aq_block_ret ?_
                refine aq_then_ret ?_
                refine aq_nilR 48 tyS_api_Entry ?_
                obtain rfl := Option.some.inj h
                exact fn_ret (Value.slice none 0 0) [0] [] rfl rfl rfl rfl (res2 rfl rfl rfl) rfl rfl rfl (by decide)
              · replace h := bif_f hb31 h
                refine aw_seq ?_
                refine aw_region ?_
                refine al_val (ov_move rfl rfl) ?_
                refine al_val (ov_int rfl rfl rfl rfl) ?_
                refine al_val (ov_assign rfl rfl) ?_
                refine al_nil ?_
                refine aq_then ?_
                refine aw_cond rfl (fun hb32 => ?_) (fun hb32 => ?_)
                · replace h := bif_t hb32 h
                  refine aw_seq ?_
                  refine aw_region ?_
                  refine al_val (ov_assign rfl rfl) ?_
                  refine al_val (ov_assign rfl rfl) ?_
                  refine al_nil ?_
                  refine aq_then ?_
                  refine aw_ret ?_
                  refine aq_block_ret ?_
                  refine aq_then_ret ?_
                  refine aq_block_ret ?_
                  refine aq_then_ret ?_
                  refine aq_then_ret ?_
                  refine aq_block_ret ?_
                  refine aq_then_ret ?_
                  refine aq_nilR 48 tyS_api_Entry ?_
                  obtain rfl := Option.some.inj h
                  exact fn_ret (Value.slice none 0 0) [0] [] rfl rfl rfl rfl (res2 rfl rfl rfl) rfl rfl rfl (by decide)
                · replace h := bif_f hb32 h
                  obtain ⟨kk34, hkk34, h⟩ := lt_some h
                  refine aw_seq_join (ι := Bool) (fun i => (memOf w0 Z0 [] [(oMapK Try.prog 26 g6 (fun x : A8u8 => ag (cA8u8 x)) (fun x : Bool => Value.bool x) l13xm10), (oRow l13v11 48 tyS_api_Entry l13x11), (oBox g24 48 ((cA8u8 (ofA8u8 (cut l13s0 (1 : Int) (9 : Int)))) ++ [(Value.int .i64 (IntKind.i64.wrap (En.bAt l13s0 (0 : Int)))), (Value.int .i64 l13i9), (Value.int .i64 (0 : Int))]))] [])) (fun i => (tab [(0, (str (l13s0.drop ((9 : Int)).toNat))), (1, (Value.int .i64 a1)), (9, (Value.int .i64 l13i9)), (10, (Value.map (some g6))), (11, l13v11), (12, (ptr g24 0)), (13, (Value.int .u64 r30.1)), (14, (Value.int .i64 r30.2.1)), (33, (Value.int .u64 r2.1)), (34, (Value.int .u64 l13i34)), (68, (Value.bool i))])) (fun i => kk34 i = some r) ?_ ?_
                  · rintro j33b68 h
                    have h : kk34 j33b68 = some r := h
                    rw [hkk34] at h
                    dsimp only at h
                    clear hkk34
                    refine aw_show (m := (memOf w0 Z0 [] [(oMapK Try.prog 26 g6 (fun x : A8u8 => ag (cA8u8 x)) (fun x : Bool => Value.bool x) l13xm10), (oRow l13v11 48 tyS_api_Entry l13x11), (oBox g24 48 ((cA8u8 (ofA8u8 (cut l13s0 (1 : Int) (9 : Int)))) ++ [(Value.int .i64 (IntKind.i64.wrap (En.bAt l13s0 (0 : Int)))), (Value.int .i64 l13i9), (Value.int .i64 (0 : Int))]))] [])) (S := (tab [(0, (str (l13s0.drop ((9 : Int)).toNat))), (1, (Value.int .i64 a1)), (9, (Value.int .i64 l13i9)), (10, (Value.map (some g6))), (11, l13v11), (12, (ptr g24 0)), (13, (Value.int .u64 r30.1)), (14, (Value.int .i64 r30.2.1)), (33, (Value.int .u64 r2.1)), (34, (Value.int .u64 l13i34)), (68, (Value.bool j33b68))])) ?_
                    refine aw_cond rfl (fun hb35 => ?_) (fun hb35 => ?_)
                    · replace h := bif_t hb35 h
                      refine aw_seq ?_
                      refine aw_region ?_
                      refine al_val (ov_assign rfl rfl) ?_
                      refine al_val (ov_assign rfl rfl) ?_
                      refine al_nil ?_
                      refine aq_then ?_
                      refine aw_ret ?_
                      refine aq_block_ret ?_
                      refine aq_then_ret ?_
                      refine aq_block_ret ?_
                      refine aq_then_ret ?_
                      refine aq_then_ret ?_
                      refine aq_block_ret ?_
                      refine aq_then_ret ?_
                      refine aq_nilR 48 tyS_api_Entry ?_
                      obtain rfl := Option.some.inj h
                      exact fn_ret (Value.slice none 0 0) [0] [] rfl rfl rfl rfl (res2 rfl rfl rfl) rfl rfl rfl (by decide)
                    · replace h := bif_f hb35 h
                      refine aw_skip ?_
                      refine aq_block ?_
                      refine aq_then ?_
                      refine aw_seq ?_
                      refine aw_region ?_
                      refine al_val (ov_move rfl rfl) ?_
                      refine al_val (ov_move rfl rfl) ?_
                      obtain ⟨hc36, h⟩ := req_some h
                      refine al_val (ov_strFrom hc36.1 hc36.2 Try.underlying9 rfl rfl rfl) ?_
                      refine al_val (ov_assign rfl rfl) ?_
                      refine al_nil ?_
                      refine aq_then ?_
                      refine aw_seq ?_
                      refine aw_region ?_
                      refine al_val (ov_move rfl rfl) ?_
                      refine al_val (ov_convInt (by rw [Try.underlying22]; rfl) Try.underlying3 rfl rfl) ?_
                      refine al_val (ov_fieldA (p := 10) rfl Try.underlying48 rfl sz3 rfl rfl rfl) ?_
                      refine al_store (i := 2) (vs := [(Value.int .i64 (IntKind.i64.wrap r30.1))]) (cs' := ((cA8u8 (ofA8u8 (cut l13s0 (1 : Int) (9 : Int)))) ++ [(Value.int .i64 (IntKind.i64.wrap (En.bAt l13s0 (0 : Int)))), (Value.int .i64 l13i9), (Value.int .i64 (IntKind.i64.wrap r30.1))])) rfl rfl rfl sz3 (cv_rfl rfl) rfl (co_val rfl co_nil) (Nat.le_of_ble_eq_true rfl) rfl rfl ?_
                      refine al_nil ?_
                      refine aq_then ?_
                      refine aw_seq ?_
                      refine aw_region ?_
                      refine al_val (ov_move rfl rfl) ?_
                      refine al_val (ov_fieldA (p := 10) rfl Try.underlying48 rfl sz3 rfl rfl rfl) ?_
                      refine al_val (ov_load (i := 2) (v := (Value.int .i64 (IntKind.i64.wrap r30.1))) rfl rfl Try.underlying3 sz3 rfl rfl rfl rfl) ?_
                      refine al_val (ov_int rfl rfl rfl rfl) ?_
                      refine al_val (ov_assign rfl rfl) ?_
                      refine al_nil ?_
                      refine aq_then ?_
                      refine aw_seq ?_
                      refine aw_region ?_
                      refine al_val (ov_move rfl rfl) ?_
                      refine al_val (ov_fieldA (p := 0) rfl Try.underlying48 rfl sz26 rfl rfl rfl) ?_
                      refine al_val (ov_load (i := 2) (v := (ag (cA8u8 (ofA8u8 (cut l13s0 (1 : Int) (9 : Int)))))) rfl rfl Try.underlying26 sz26 rfl rfl rfl rfl) ?_
                      refine al_mapSetK (k := (ofA8u8 (cut l13s0 (1 : Int) (9 : Int)))) (v := true) 0 kd26 ki26 (kw26 (ofA8u8 (cut l13s0 (1 : Int) (9 : Int)))) rfl rfl rfl rfl Try.underlying98 rfl ?_
                      refine al_nil ?_
                      refine aq_then ?_
                      refine aw_region ?_
                      refine al_val (ov_move rfl rfl) ?_
                      refine al_val (ov_load (i := 2) (v := (ag ((cA8u8 (ofA8u8 (cut l13s0 (1 : Int) (9 : Int)))) ++ [(Value.int .i64 (IntKind.i64.wrap (En.bAt l13s0 (0 : Int)))), (Value.int .i64 l13i9), (Value.int .i64 (IntKind.i64.wrap r30.1))]))) rfl rfl Try.underlying48 sz48 rfl rfl rfl rfl) ?_
                      refine al_buildSlice (τ := tyS_api_Entry) (e := 48) (k := 1) (sz := 0) (by_ := 0) (z := undef) (cs := ((cA8u8 (ofA8u8 (cut l13s0 (1 : Int) (9 : Int)))) ++ [(Value.int .i64 (IntKind.i64.wrap (En.bAt l13s0 (0 : Int)))), (Value.int .i64 l13i9), (Value.int .i64 (IntKind.i64.wrap r30.1))])) (xs := [(S_api_Entry.mk (ofA8u8 (cut l13s0 (1 : Int) (9 : Int))) (IntKind.i64.wrap (En.bAt l13s0 (0 : Int))) l13i9 (IntKind.i64.wrap r30.1))]) rfl (by decide) (fun w a hm hs => ⟨(((cA8u8 (ofA8u8 (cut l13s0 (1 : Int) (9 : Int)))) ++ [(Value.int .i64 (IntKind.i64.wrap (En.bAt l13s0 (0 : Int)))), (Value.int .i64 l13i9), (Value.int .i64 (IntKind.i64.wrap r30.1))])).toArray, rfl, by simp only [List.map_toArray, List.map_cons, List.map_nil, hs.ev (x := .tmp 95) rfl]; exact run_bs [(ag ((cA8u8 (ofA8u8 (cut l13s0 (1 : Int) (9 : Int)))) ++ [(Value.int .i64 (IntKind.i64.wrap (En.bAt l13s0 (0 : Int)))), (Value.int .i64 l13i9), (Value.int .i64 (IntKind.i64.wrap r30.1))]))] ((cA8u8 (ofA8u8 (cut l13s0 (1 : Int) (9 : Int)))) ++ [(Value.int .i64 (IntKind.i64.wrap (En.bAt l13s0 (0 : Int)))), (Value.int .i64 l13i9), (Value.int .i64 (IntKind.i64.wrap r30.1))]) Try.underlying43 to48 rfl rfl (bs_cons (l := ((cA8u8 (ofA8u8 (cut l13s0 (1 : Int) (9 : Int)))) ++ [(Value.int .i64 (IntKind.i64.wrap (En.bAt l13s0 (0 : Int)))), (Value.int .i64 l13i9), (Value.int .i64 (IntKind.i64.wrap r30.1))])) (cs := []) (cv_rfl rfl) rfl bs_nil) hm⟩) (fun hm => ⟨((cA8u8 (ofA8u8 (cut l13s0 (1 : Int) (9 : Int)))) ++ [(Value.int .i64 (IntKind.i64.wrap (En.bAt l13s0 (0 : Int)))), (Value.int .i64 l13i9), (Value.int .i64 (IntKind.i64.wrap r30.1))]), [], rfl, mkS_api_Entry rfl, rfl⟩) rfl (fun v37 => ?_)
                      obtain ⟨hc38, h⟩ := req_some h
                      refine al_append 2 hc38.1 hc38.2 rfl (src_own (i := 2) 0 rfl) rfl rfl Try.underlying43 to48 rfl rfl rfl (fun v39 => ?_)
                      refine al_val (ov_assign rfl rfl) ?_
                      refine al_nil ?_
                      refine aq_block ?_
                      refine aq_then ?_
                      refine aw_region ?_
                      refine al_val (ov_int rfl rfl rfl rfl) ?_
                      refine al_val (ov_move rfl rfl) ?_
                      refine al_nil ?_
                      exact aq_again k14 (((l13s0.drop ((9 : Int)).toNat).drop (r30.2.1).toNat), (IntKind.i64.wrap (l13i9 + (IntKind.i64.wrap r30.1))), (gset l13xm10 (ofA8u8 (cut l13s0 (1 : Int) (9 : Int))) true), v39, (l13x11 ++ ([(S_api_Entry.mk (ofA8u8 (cut l13s0 (1 : Int) (9 : Int))) (IntKind.i64.wrap (En.bAt l13s0 (0 : Int))) l13i9 (IntKind.i64.wrap r30.1))])), (IntKind.u64.wrap (l13i34 + (1 : Int)))) (Nat.lt_succ_self _) h (fun w a hm hs => norm hm hs [1, 2] [] [(0, (str ((l13s0.drop ((9 : Int)).toNat).drop (r30.2.1).toNat))), (1, (Value.int .i64 a1)), (9, (Value.int .i64 (IntKind.i64.wrap (l13i9 + (IntKind.i64.wrap r30.1))))), (10, (Value.map (some g6))), (11, v39), (33, (Value.int .u64 r2.1)), (34, (Value.int .u64 (IntKind.u64.wrap (l13i34 + (1 : Int)))))] (by decide) ⟨rfl, rfl, rfl, rfl, rfl, rfl, rfl, trivial⟩)
                  · clear hkk34
                    refine aw_region ?_
                    refine al_val (ov_move rfl rfl) ?_
                    refine al_val (ov_fieldA (p := 0) rfl Try.underlying48 rfl sz26 rfl rfl rfl) ?_
                    refine al_val (ov_load (i := 0) (v := (ag (cA8u8 (ofA8u8 (cut l13s0 (1 : Int) (9 : Int)))))) rfl rfl Try.underlying26 sz26 rfl rfl rfl rfl) ?_
                    refine al_val (v := (Value.bool ((gget l13xm10 (ofA8u8 (cut l13s0 (1 : Int) (9 : Int)))).getD false))) (ov_lookupK (k := (ofA8u8 (cut l13s0 (1 : Int) (9 : Int)))) (z := false) 1 kd26 ki26 (kw26 (ofA8u8 (cut l13s0 (1 : Int) (9 : Int)))) rfl rfl rfl Try.underlying98 (zeroOf_to to4) rfl) ?_
                    refine al_val (ov_move rfl rfl) ?_
                    refine al_caseB 73 rfl (fun hb40 => ?_) (fun hb40 => ?_)
                    · replace h := bif_t hb40 h
                      refine al_skip ?_
                      refine al_skip ?_
                      refine al_skip ?_
                      refine al_skip ?_
                      refine al_skip ?_
                      refine al_skip ?_
                      refine al_val (ov_pick_t rfl rfl rfl) ?_
                      refine al_val (ov_assign rfl rfl) ?_
                      refine al_nil ?_
                      exact aq_join true h (fun w a hm hs => norm hm hs [1, 2, 0] [] [(0, (str (l13s0.drop ((9 : Int)).toNat))), (1, (Value.int .i64 a1)), (9, (Value.int .i64 l13i9)), (10, (Value.map (some g6))), (11, l13v11), (12, (ptr g24 0)), (13, (Value.int .u64 r30.1)), (14, (Value.int .i64 r30.2.1)), (33, (Value.int .u64 r2.1)), (34, (Value.int .u64 l13i34)), (68, (Value.bool true))] (by decide) ⟨rfl, rfl, rfl, rfl, rfl, rfl, rfl, rfl, rfl, rfl, rfl, trivial⟩)
                    · replace h := bif_f hb40 h
                      refine al_val (ov_move rfl rfl) ?_
                      refine al_val (ov_move rfl rfl) ?_
                      refine al_val (ov_convInt (by rw [Try.underlying22]; rfl) Try.underlying3 rfl rfl) ?_
                      refine al_val (ov_int rfl rfl rfl rfl) ?_
                      refine al_val (ov_move rfl rfl) ?_
                      refine al_val (ov_int rfl rfl rfl rfl) ?_
                      refine al_val (ov_pick_f rfl rfl rfl) ?_
                      refine al_val (ov_assign rfl rfl) ?_
                      refine al_nil ?_
                      exact aq_join (decide ((IntKind.i64.wrap (l13i9 + (IntKind.i64.wrap r30.1))) > a1)) h (fun w a hm hs => norm hm hs [1, 2, 0] [] [(0, (str (l13s0.drop ((9 : Int)).toNat))), (1, (Value.int .i64 a1)), (9, (Value.int .i64 l13i9)), (10, (Value.map (some g6))), (11, l13v11), (12, (ptr g24 0)), (13, (Value.int .u64 r30.1)), (14, (Value.int .i64 r30.2.1)), (33, (Value.int .u64 r2.1)), (34, (Value.int .u64 l13i34)), (68, (Value.bool (decide ((IntKind.i64.wrap (l13i9 + (IntKind.i64.wrap r30.1))) > a1))))] (by decide) ⟨rfl, rfl, rfl, rfl, rfl, rfl, rfl, rfl, rfl, rfl, rfl, trivial⟩)
        · replace h := bif_f hb16 h
          refine aw_exit ?_
          refine aq_then_exit ?_
          refine aq_then_exit ?_
          refine aq_block_exit ?_
          exact aq_join (l13s0, l13i9, l13v11, l13x11) h (fun w a hm hs => norm hm hs [1] [] [(0, (str l13s0)), (1, (Value.int .i64 a1)), (9, (Value.int .i64 l13i9)), (11, l13v11)] (by decide) ⟨rfl, rfl, rfl, rfl, trivial⟩)
def f_pack_List (fu : Nat) (a0 : (List UInt8)) : Option ((List S_api_Entry) × Int) := (bif (decide ((a0.length : Int) < (10 : Int))) then (some (([] : List S_api_Entry), (3 : Int))) else (req (0 ≤ (IntKind.i64.wrap ((a0.length : Int) - (8 : Int))) ∧ (IntKind.i64.wrap ((a0.length : Int) - (8 : Int))) ≤ (a0.length : Int)) (req (0 ≤ (IntKind.i64.wrap ((a0.length : Int) - (8 : Int))) ∧ (IntKind.i64.wrap ((a0.length : Int) - (8 : Int))) ≤ (a0.length : Int)) (req ((a0.drop ((IntKind.i64.wrap ((a0.length : Int) - (8 : Int)))).toNat).length ≤ 9223372036854775807) (req (8 ≤ (a0.drop ((IntKind.i64.wrap ((a0.length : Int) - (8 : Int)))).toNat).length) (opt (f_mix_ID fu (a0.take ((IntKind.i64.wrap ((a0.length : Int) - (8 : Int)))).toNat)) fun (r9 : A8u8) => (bif (!(r9 == (ofA8u8 (a0.drop ((IntKind.i64.wrap ((a0.length : Int) - (8 : Int)))).toNat)))) then (some (([] : List S_api_Entry), (6 : Int))) else (req (0 ≤ (IntKind.i64.wrap ((a0.length : Int) - (10 : Int))) ∧ (IntKind.i64.wrap ((a0.length : Int) - (10 : Int))) < (a0.length : Int)) (req (0 ≤ (IntKind.i64.wrap ((IntKind.i64.wrap ((a0.length : Int) - (10 : Int))) + (1 : Int))) ∧ (IntKind.i64.wrap ((IntKind.i64.wrap ((a0.length : Int) - (10 : Int))) + (1 : Int))) < (a0.length : Int)) (bif (decide ((bits .or .i64 (IntKind.i64.wrap (En.bAt a0 (IntKind.i64.wrap ((a0.length : Int) - (10 : Int))))) (IntKind.i64.wrap ((IntKind.i64.wrap (En.bAt a0 (IntKind.i64.wrap ((IntKind.i64.wrap ((a0.length : Int) - (10 : Int))) + (1 : Int))))) * 2 ^ min ((8 : Int)).toNat (IntKind.bits .i64)))) > (IntKind.i64.wrap ((a0.length : Int) - (10 : Int))))) then (some (([] : List S_api_Entry), (4 : Int))) else (req (0 ≤ (IntKind.i64.wrap ((IntKind.i64.wrap ((a0.length : Int) - (10 : Int))) - (bits .or .i64 (IntKind.i64.wrap (En.bAt a0 (IntKind.i64.wrap ((a0.length : Int) - (10 : Int))))) (IntKind.i64.wrap ((IntKind.i64.wrap (En.bAt a0 (IntKind.i64.wrap ((IntKind.i64.wrap ((a0.length : Int) - (10 : Int))) + (1 : Int))))) * 2 ^ min ((8 : Int)).toNat (IntKind.bits .i64)))))) ∧ (IntKind.i64.wrap ((IntKind.i64.wrap ((a0.length : Int) - (10 : Int))) - (bits .or .i64 (IntKind.i64.wrap (En.bAt a0 (IntKind.i64.wrap ((a0.length : Int) - (10 : Int))))) (IntKind.i64.wrap ((IntKind.i64.wrap (En.bAt a0 (IntKind.i64.wrap ((IntKind.i64.wrap ((a0.length : Int) - (10 : Int))) + (1 : Int))))) * 2 ^ min ((8 : Int)).toNat (IntKind.bits .i64)))))) ≤ (IntKind.i64.wrap ((a0.length : Int) - (10 : Int))) ∧ (IntKind.i64.wrap ((a0.length : Int) - (10 : Int))) ≤ (a0.length : Int)) (opt (f_pack_directory fu (cut a0 (IntKind.i64.wrap ((IntKind.i64.wrap ((a0.length : Int) - (10 : Int))) - (bits .or .i64 (IntKind.i64.wrap (En.bAt a0 (IntKind.i64.wrap ((a0.length : Int) - (10 : Int))))) (IntKind.i64.wrap ((IntKind.i64.wrap (En.bAt a0 (IntKind.i64.wrap ((IntKind.i64.wrap ((a0.length : Int) - (10 : Int))) + (1 : Int))))) * 2 ^ min ((8 : Int)).toNat (IntKind.bits .i64)))))) (IntKind.i64.wrap ((a0.length : Int) - (10 : Int)))) (IntKind.i64.wrap ((IntKind.i64.wrap ((a0.length : Int) - (10 : Int))) - (bits .or .i64 (IntKind.i64.wrap (En.bAt a0 (IntKind.i64.wrap ((a0.length : Int) - (10 : Int))))) (IntKind.i64.wrap ((IntKind.i64.wrap (En.bAt a0 (IntKind.i64.wrap ((IntKind.i64.wrap ((a0.length : Int) - (10 : Int))) + (1 : Int))))) * 2 ^ min ((8 : Int)).toNat (IntKind.bits .i64))))))) fun (r16 : ((List S_api_Entry) × Int)) => (some (r16.1, r16.2))))))))))))))
set_option maxRecDepth 100000 in
theorem f_pack_List_ok (fu : Nat) (a0 : (List UInt8)) {r : ((List S_api_Entry) × Int)} (h : f_pack_List fu a0 = some r) : FnOk Try.prog 21 [(str a0)] [] [] (fun (i : Value) => { val := (Value.tuple #[i, (Value.int .i64 r.2)]), own := [(oRow i 48 tyS_api_Entry r.1)] }) := by
  unfold f_pack_List at h
  refine fn_enter Try.func21 rfl Try.ntmps21 rfl (fun w0 Z0 => ?_)
  refine aw_seq ?_
  refine aw_region ?_
  refine al_val (ov_assign rfl rfl) ?_
  refine al_val (ov_assign rfl rfl) ?_
  refine al_nil ?_
  refine aq_then ?_
  refine aw_seq ?_
  refine aw_seq ?_
  refine aw_region ?_
  refine al_val (ov_move rfl rfl) ?_
  refine al_val (ov_strLen Try.underlying9 rfl rfl) ?_
  refine al_val (ov_int rfl rfl rfl rfl) ?_
  refine al_nil ?_
  refine aq_then ?_
  refine aw_cond rfl (fun hb1 => ?_) (fun hb1 => ?_)
  · replace h := bif_t hb1 h
    refine aw_seq ?_
    refine aw_region ?_
    refine al_val (ov_assign rfl rfl) ?_
    refine al_val (ov_assign rfl rfl) ?_
    refine al_nil ?_
    refine aq_then ?_
    refine aw_ret ?_
    refine aq_then_ret ?_
    refine aq_nilR 48 tyS_api_Entry ?_
    obtain rfl := Option.some.inj h
    exact fn_ret (Value.slice none 0 0) [0] [] rfl rfl rfl rfl (res2 rfl rfl rfl) rfl rfl rfl (by decide)
  · replace h := bif_f hb1 h
    refine aw_skip ?_
    refine aq_then ?_
    refine aw_seq ?_
    refine aw_region ?_
    refine al_val (ov_move rfl rfl) ?_
    refine al_val (ov_strLen Try.underlying9 rfl rfl) ?_
    refine al_val (ov_int rfl rfl rfl rfl) ?_
    refine al_val (ov_assign rfl rfl) ?_
    refine al_nil ?_
    refine aq_then ?_
    refine aw_seq ?_
    refine aw_seq ?_
    obtain ⟨hc2, h⟩ := req_some h
    obtain ⟨hc3, h⟩ := req_some h
    obtain ⟨hc4, h⟩ := req_some h
    obtain ⟨hc7, h⟩ := req_some h
    refine aw_region_open [⟨0, 13, Unit, fun _ => { val := (str a0) }⟩, ⟨1, 14, Unit, fun _ => { val := (Value.int .i64 (IntKind.i64.wrap ((a0.length : Int) - (8 : Int)))) }⟩, ⟨2, 15, Unit, fun _ => { val := (str (a0.take ((IntKind.i64.wrap ((a0.length : Int) - (8 : Int)))).toNat)) }⟩, ⟨4, 17, Unit, fun _ => { val := (str a0) }⟩, ⟨5, 18, Unit, fun _ => { val := (Value.int .i64 (IntKind.i64.wrap ((a0.length : Int) - (8 : Int)))) }⟩, ⟨6, 19, Unit, fun _ => { val := (str (a0.drop ((IntKind.i64.wrap ((a0.length : Int) - (8 : Int)))).toNat)) }⟩, ⟨7, 20, Value, fun (i : Value) => { val := i, fz := [(fDat (tyList tyU8) [i] (a0.drop ((IntKind.i64.wrap ((a0.length : Int) - (8 : Int)))).toNat))] }⟩, ⟨8, 21, Value, fun (i : Value) => { val := i, fz := [(fPtr tyA8u8 i (ofA8u8 (a0.drop ((IntKind.i64.wrap ((a0.length : Int) - (8 : Int)))).toNat)))] }⟩, ⟨9, 22, Unit, fun _ => { val := (ag (cA8u8 (ofA8u8 (a0.drop ((IntKind.i64.wrap ((a0.length : Int) - (8 : Int)))).toNat)))) }⟩] (tab [(0, (str a0)), (4, (Value.int .i64 (IntKind.i64.wrap ((a0.length : Int) - (8 : Int)))))]) mixed (fun a hs => hs.tab _ (allT_mem ⟨rfl, rfl, trivial⟩)) ?_
    refine ta_show (m := (memOf w0 Z0 [] [] [])) (S := (tab [(0, (str a0)), (4, (Value.int .i64 (IntKind.i64.wrap ((a0.length : Int) - (8 : Int)))))])) ?_
    refine ta_step 3 _ [0, 1, 2, 4, 5, 6, 7, 8, 9] [13, 14, 15, 17, 18, 19, 20, 21, 22] [0, 1, 2] [10] [⟨0, 13, Unit, fun _ => { val := (str a0) }⟩, ⟨1, 14, Unit, fun _ => { val := (Value.int .i64 (IntKind.i64.wrap ((a0.length : Int) - (8 : Int)))) }⟩, ⟨2, 15, Unit, fun _ => { val := (str (a0.take ((IntKind.i64.wrap ((a0.length : Int) - (8 : Int)))).toNat)) }⟩] [⟨4, 17, Unit, fun _ => { val := (str a0) }⟩, ⟨5, 18, Unit, fun _ => { val := (Value.int .i64 (IntKind.i64.wrap ((a0.length : Int) - (8 : Int)))) }⟩, ⟨6, 19, Unit, fun _ => { val := (str (a0.drop ((IntKind.i64.wrap ((a0.length : Int) - (8 : Int)))).toNat)) }⟩, ⟨7, 20, Value, fun (i : Value) => { val := i, fz := [(fDat (tyList tyU8) [i] (a0.drop ((IntKind.i64.wrap ((a0.length : Int) - (8 : Int)))).toNat))] }⟩, ⟨8, 21, Value, fun (i : Value) => { val := i, fz := [(fPtr tyA8u8 i (ofA8u8 (a0.drop ((IntKind.i64.wrap ((a0.length : Int) - (8 : Int)))).toNat)))] }⟩, ⟨9, 22, Unit, fun _ => { val := (ag (cA8u8 (ofA8u8 (a0.drop ((IntKind.i64.wrap ((a0.length : Int) - (8 : Int)))).toNat)))) }⟩] rfl rfl rfl (by kernel_rfl) rfl rfl rfl ⟨⟨_, rfl, [], rfl, by
    intro X_ Y_ F_ K_ hK_
    refine al_show (m := Mem.plus (memOf w0 Z0 [] [] []) X_ Y_) (S := over (tab [(0, (str a0)), (4, (Value.int .i64 (IntKind.i64.wrap ((a0.length : Int) - (8 : Int)))))]) F_) ?_
    refine al_val (ov_move rfl rfl) ?_
    refine al_nil ?_
    exact fr_fin hK_ ()⟩, ⟨_, rfl, [], rfl, by
    intro X_ Y_ F_ K_ hK_
    refine al_show (m := Mem.plus (memOf w0 Z0 [] [] []) X_ Y_) (S := over (tab [(0, (str a0)), (4, (Value.int .i64 (IntKind.i64.wrap ((a0.length : Int) - (8 : Int)))))]) F_) ?_
    refine al_val (ov_move rfl rfl) ?_
    refine al_nil ?_
    exact fr_fin hK_ ()⟩, ⟨_, rfl, [0, 1], rfl, by
    intro _
    intro _
    intro X_ Y_ F_ K_ hK_
    refine al_show (m := Mem.plus (memOf w0 Z0 [] [] []) X_ Y_) (S := over (put (put (tab [(0, (str a0)), (4, (Value.int .i64 (IntKind.i64.wrap ((a0.length : Int) - (8 : Int)))))]) 13 (str a0)) 14 (Value.int .i64 (IntKind.i64.wrap ((a0.length : Int) - (8 : Int))))) F_) ?_
    refine al_val (ov_strTo hc2.1 hc2.2 Try.underlying9 rfl rfl rfl) ?_
    refine al_nil ?_
    exact fr_fin hK_ ()⟩, ⟨_, rfl, [], rfl, by
    intro X_ Y_ F_ K_ hK_
    refine al_show (m := Mem.plus (memOf w0 Z0 [] [] []) X_ Y_) (S := over (tab [(0, (str a0)), (4, (Value.int .i64 (IntKind.i64.wrap ((a0.length : Int) - (8 : Int)))))]) F_) ?_
    refine al_val (ov_move rfl rfl) ?_
    refine al_nil ?_
    exact fr_fin hK_ ()⟩, ⟨_, rfl, [], rfl, by
    intro X_ Y_ F_ K_ hK_
    refine al_show (m := Mem.plus (memOf w0 Z0 [] [] []) X_ Y_) (S := over (tab [(0, (str a0)), (4, (Value.int .i64 (IntKind.i64.wrap ((a0.length : Int) - (8 : Int)))))]) F_) ?_
    refine al_val (ov_move rfl rfl) ?_
    refine al_nil ?_
    exact fr_fin hK_ ()⟩, ⟨_, rfl, [3, 4], rfl, by
    intro _
    intro _
    intro X_ Y_ F_ K_ hK_
    refine al_show (m := Mem.plus (memOf w0 Z0 [] [] []) X_ Y_) (S := over (put (put (tab [(0, (str a0)), (4, (Value.int .i64 (IntKind.i64.wrap ((a0.length : Int) - (8 : Int)))))]) 17 (str a0)) 18 (Value.int .i64 (IntKind.i64.wrap ((a0.length : Int) - (8 : Int))))) F_) ?_
    refine al_val (ov_strFrom hc3.1 hc3.2 Try.underlying9 rfl rfl rfl) ?_
    refine al_nil ?_
    exact fr_fin hK_ ()⟩, ⟨_, rfl, [5], rfl, by
    intro _
    intro X_ Y_ F_ K_ hK_
    refine al_show (m := Mem.plus (memOf w0 Z0 [] [] []) X_ Y_) (S := over (put (tab [(0, (str a0)), (4, (Value.int .i64 (IntKind.i64.wrap ((a0.length : Int) - (8 : Int)))))]) 19 (str (a0.drop ((IntKind.i64.wrap ((a0.length : Int) - (8 : Int)))).toNat))) F_) ?_
    refine al_bytes hc4 rfl Try.underlying9 Try.underlying62 Try.underlying5 rfl (fun s5 => ?_)
    refine al_nil ?_
    exact fr_fin hK_ s5⟩, ⟨_, rfl, [6], rfl, by
    intro s5
    intro X_ Y_ F_ K_ hK_
    refine al_show (m := Mem.plus (memOf w0 Z0 [] [] [(fDat (tyList tyU8) [s5] (a0.drop ((IntKind.i64.wrap ((a0.length : Int) - (8 : Int)))).toNat))]) X_ Y_) (S := over (put (tab [(0, (str a0)), (4, (Value.int .i64 (IntKind.i64.wrap ((a0.length : Int) - (8 : Int)))))]) 20 s5) F_) ?_
    refine al_s2ap (τA := tyA8u8) (x := (ofA8u8 (a0.drop ((IntKind.i64.wrap ((a0.length : Int) - (8 : Int)))).toNat))) 0 8 hc7 rfl (fun h9 => oflA8u8 hc7 h9) rfl rfl Try.underlying26 rfl (fun p6 => ?_)
    refine al_nil ?_
    exact fr_fin hK_ p6⟩, ⟨_, rfl, [7], rfl, by
    intro p6
    intro X_ Y_ F_ K_ hK_
    refine al_show (m := Mem.plus (memOf w0 Z0 [] [] [(fPtr tyA8u8 p6 (ofA8u8 (a0.drop ((IntKind.i64.wrap ((a0.length : Int) - (8 : Int)))).toNat)))]) X_ Y_) (S := over (put (tab [(0, (str a0)), (4, (Value.int .i64 (IntKind.i64.wrap ((a0.length : Int) - (8 : Int)))))]) 21 p6) F_) ?_
    refine al_val (ov_loadP (ds := (cA8u8 (ofA8u8 (a0.drop ((IntKind.i64.wrap ((a0.length : Int) - (8 : Int)))).toNat)))) 0 rfl encA8u8 rfl Try.underlying26 sz26 rfl rfl rfl) ?_
    refine al_nil ?_
    exact fr_fin hK_ ()⟩, trivial⟩ ?_
    intro _
    intro _
    intro _
    intro X_ Y_ F_ K_ hK_
    refine al_show (m := Mem.plus (memOf w0 Z0 [] [] []) X_ Y_) (S := over (put (put (put (tab [(0, (str a0)), (4, (Value.int .i64 (IntKind.i64.wrap ((a0.length : Int) - (8 : Int)))))]) 13 (str a0)) 14 (Value.int .i64 (IntKind.i64.wrap ((a0.length : Int) - (8 : Int))))) 15 (str (a0.take ((IntKind.i64.wrap ((a0.length : Int) - (8 : Int)))).toNat))) F_) ?_
    obtain ⟨r9, hc8, h⟩ := opt_some h
    refine al_callX (vs := [(str (a0.take ((IntKind.i64.wrap ((a0.length : Int) - (8 : Int)))).toNat))]) (f_mix_ID_ok fu (a0.take ((IntKind.i64.wrap ((a0.length : Int) - (8 : Int)))).toNat) hc8) [] [] [] pre_nil rfl (by simp) (by decide) rfl (.inl rfl) rfl Try.func19 rfl rfl rfl (fun _ => ?_)
    refine al_nil ?_
    refine aq_show (m := Mem.plus (memOf w0 Z0 [] [] []) X_ Y_) ?_
    refine aq_next hK_ [] [] [(0, (str a0)), (4, (Value.int .i64 (IntKind.i64.wrap ((a0.length : Int) - (8 : Int))))), (16, (ag (cA8u8 r9)))] [17, 18, 19, 20, 21, 22] [⟨10, 23, Unit, fun _ => { val := (Value.bool (!(r9 == (ofA8u8 (a0.drop ((IntKind.i64.wrap ((a0.length : Int) - (8 : Int)))).toNat))))) }⟩] rfl rfl (by decide) rfl ⟨rfl, rfl, rfl, trivial⟩ ⟨rfl, rfl, rfl, rfl, rfl, rfl, trivial⟩ ?_
    clear hK_ K_ F_ X_ Y_
    refine ta_show (m := (memOf w0 Z0 [] [] [])) (S := (tab [(0, (str a0)), (4, (Value.int .i64 (IntKind.i64.wrap ((a0.length : Int) - (8 : Int))))), (16, (ag (cA8u8 r9)))])) ?_
    refine ta_end [4, 5, 6, 7, 8, 9, 10] [17, 18, 19, 20, 21, 22, 23] rfl rfl (by kernel_rfl) rfl ⟨⟨_, rfl, [], rfl, by
    intro X_ Y_ F_ K_ hK_
    refine al_show (m := Mem.plus (memOf w0 Z0 [] [] []) X_ Y_) (S := over (tab [(0, (str a0)), (4, (Value.int .i64 (IntKind.i64.wrap ((a0.length : Int) - (8 : Int))))), (16, (ag (cA8u8 r9)))]) F_) ?_
    refine al_val (ov_move rfl rfl) ?_
    refine al_nil ?_
    exact fr_fin hK_ ()⟩, ⟨_, rfl, [], rfl, by
    intro X_ Y_ F_ K_ hK_
    refine al_show (m := Mem.plus (memOf w0 Z0 [] [] []) X_ Y_) (S := over (tab [(0, (str a0)), (4, (Value.int .i64 (IntKind.i64.wrap ((a0.length : Int) - (8 : Int))))), (16, (ag (cA8u8 r9)))]) F_) ?_
    refine al_val (ov_move rfl rfl) ?_
    refine al_nil ?_
    exact fr_fin hK_ ()⟩, ⟨_, rfl, [0, 1], rfl, by
    intro _
    intro _
    intro X_ Y_ F_ K_ hK_
    refine al_show (m := Mem.plus (memOf w0 Z0 [] [] []) X_ Y_) (S := over (put (put (tab [(0, (str a0)), (4, (Value.int .i64 (IntKind.i64.wrap ((a0.length : Int) - (8 : Int))))), (16, (ag (cA8u8 r9)))]) 17 (str a0)) 18 (Value.int .i64 (IntKind.i64.wrap ((a0.length : Int) - (8 : Int))))) F_) ?_
    refine al_val (ov_strFrom hc3.1 hc3.2 Try.underlying9 rfl rfl rfl) ?_
    refine al_nil ?_
    exact fr_fin hK_ ()⟩, ⟨_, rfl, [2], rfl, by
    intro _
    intro X_ Y_ F_ K_ hK_
    refine al_show (m := Mem.plus (memOf w0 Z0 [] [] []) X_ Y_) (S := over (put (tab [(0, (str a0)), (4, (Value.int .i64 (IntKind.i64.wrap ((a0.length : Int) - (8 : Int))))), (16, (ag (cA8u8 r9)))]) 19 (str (a0.drop ((IntKind.i64.wrap ((a0.length : Int) - (8 : Int)))).toNat))) F_) ?_
    refine al_bytes hc4 rfl Try.underlying9 Try.underlying62 Try.underlying5 rfl (fun s5 => ?_)
    refine al_nil ?_
    exact fr_fin hK_ s5⟩, ⟨_, rfl, [3], rfl, by
    intro s5
    intro X_ Y_ F_ K_ hK_
    refine al_show (m := Mem.plus (memOf w0 Z0 [] [] [(fDat (tyList tyU8) [s5] (a0.drop ((IntKind.i64.wrap ((a0.length : Int) - (8 : Int)))).toNat))]) X_ Y_) (S := over (put (tab [(0, (str a0)), (4, (Value.int .i64 (IntKind.i64.wrap ((a0.length : Int) - (8 : Int))))), (16, (ag (cA8u8 r9)))]) 20 s5) F_) ?_
    refine al_s2ap (τA := tyA8u8) (x := (ofA8u8 (a0.drop ((IntKind.i64.wrap ((a0.length : Int) - (8 : Int)))).toNat))) 0 8 hc7 rfl (fun h9 => oflA8u8 hc7 h9) rfl rfl Try.underlying26 rfl (fun p6 => ?_)
    refine al_nil ?_
    exact fr_fin hK_ p6⟩, ⟨_, rfl, [4], rfl, by
    intro p6
    intro X_ Y_ F_ K_ hK_
    refine al_show (m := Mem.plus (memOf w0 Z0 [] [] [(fPtr tyA8u8 p6 (ofA8u8 (a0.drop ((IntKind.i64.wrap ((a0.length : Int) - (8 : Int)))).toNat)))]) X_ Y_) (S := over (put (tab [(0, (str a0)), (4, (Value.int .i64 (IntKind.i64.wrap ((a0.length : Int) - (8 : Int))))), (16, (ag (cA8u8 r9)))]) 21 p6) F_) ?_
    refine al_val (ov_loadP (ds := (cA8u8 (ofA8u8 (a0.drop ((IntKind.i64.wrap ((a0.length : Int) - (8 : Int)))).toNat)))) 0 rfl encA8u8 rfl Try.underlying26 sz26 rfl rfl rfl) ?_
    refine al_nil ?_
    exact fr_fin hK_ ()⟩, ⟨_, rfl, [5], rfl, by
    intro _
    intro X_ Y_ F_ K_ hK_
    refine al_show (m := Mem.plus (memOf w0 Z0 [] [] []) X_ Y_) (S := over (put (tab [(0, (str a0)), (4, (Value.int .i64 (IntKind.i64.wrap ((a0.length : Int) - (8 : Int))))), (16, (ag (cA8u8 r9)))]) 22 (ag (cA8u8 (ofA8u8 (a0.drop ((IntKind.i64.wrap ((a0.length : Int) - (8 : Int)))).toNat))))) F_) ?_
    refine al_val (ov_neqA (cs := (cA8u8 r9)) (ds := (cA8u8 (ofA8u8 (a0.drop ((IntKind.i64.wrap ((a0.length : Int) - (8 : Int)))).toNat)))) (ls := [5, 5, 5, 5, 5, 5, 5, 5]) (p := (r9 == (ofA8u8 (a0.drop ((IntKind.i64.wrap ((a0.length : Int) - (8 : Int)))).toNat)))) eg26 kt26 lv26 rfl rfl (by kernel_rfl) (by kernel_rfl) (fit_cons (fit_u8 Try.underlying5) (fit_cons (fit_u8 Try.underlying5) (fit_cons (fit_u8 Try.underlying5) (fit_cons (fit_u8 Try.underlying5) (fit_cons (fit_u8 Try.underlying5) (fit_cons (fit_u8 Try.underlying5) (fit_cons (fit_u8 Try.underlying5) (fit_cons (fit_u8 Try.underlying5) fit_nil)))))))) (fit_cons (fit_u8 Try.underlying5) (fit_cons (fit_u8 Try.underlying5) (fit_cons (fit_u8 Try.underlying5) (fit_cons (fit_u8 Try.underlying5) (fit_cons (fit_u8 Try.underlying5) (fit_cons (fit_u8 Try.underlying5) (fit_cons (fit_u8 Try.underlying5) (fit_cons (fit_u8 Try.underlying5) fit_nil)))))))) (injA8u8 (x := r9) (y := (ofA8u8 (a0.drop ((IntKind.i64.wrap ((a0.length : Int) - (8 : Int)))).toNat)))) rfl) ?_
    refine al_nil ?_
    exact fr_fin hK_ ()⟩, trivial⟩ ?_
    intro _
    intro _
    intro _
    intro s5
    intro p6
    intro _
    intro _
    refine aq_show (m := (memOf w0 Z0 [] [] [(fPtr tyA8u8 p6 (ofA8u8 (a0.drop ((IntKind.i64.wrap ((a0.length : Int) - (8 : Int)))).toNat))), (fDat (tyList tyU8) [s5] (a0.drop ((IntKind.i64.wrap ((a0.length : Int) - (8 : Int)))).toNat))])) (S := (put (put (put (put (put (put (put (tab [(0, (str a0)), (4, (Value.int .i64 (IntKind.i64.wrap ((a0.length : Int) - (8 : Int))))), (16, (ag (cA8u8 r9)))]) 17 (str a0)) 18 (Value.int .i64 (IntKind.i64.wrap ((a0.length : Int) - (8 : Int))))) 19 (str (a0.drop ((IntKind.i64.wrap ((a0.length : Int) - (8 : Int)))).toNat))) 20 s5) 21 p6) 22 (ag (cA8u8 (ofA8u8 (a0.drop ((IntKind.i64.wrap ((a0.length : Int) - (8 : Int)))).toNat))))) 23 (Value.bool (!(r9 == (ofA8u8 (a0.drop ((IntKind.i64.wrap ((a0.length : Int) - (8 : Int)))).toNat))))))) ?_
    refine aq_then ?_
    refine aw_cond rfl (fun hb10 => ?_) (fun hb10 => ?_)
    · replace h := bif_t hb10 h
      refine aw_seq ?_
      refine aw_region ?_
      refine al_val (ov_assign rfl rfl) ?_
      refine al_val (ov_assign rfl rfl) ?_
      refine al_nil ?_
      refine aq_then ?_
      refine aw_ret ?_
      refine aq_then_ret ?_
      refine aq_nilR 48 tyS_api_Entry ?_
      obtain rfl := Option.some.inj h
      exact fn_ret (Value.slice none 0 0) [0] [] rfl rfl rfl rfl (res2 rfl rfl rfl) rfl rfl rfl (by decide)
    · replace h := bif_f hb10 h
      refine aw_skip ?_
      refine aq_then ?_
      refine aw_seq ?_
      refine aw_region ?_
      refine al_val (ov_move rfl rfl) ?_
      refine al_val (ov_strLen Try.underlying9 rfl rfl) ?_
      refine al_val (ov_int rfl rfl rfl rfl) ?_
      refine al_val (ov_assign rfl rfl) ?_
      refine al_nil ?_
      refine aq_then ?_
      refine aw_seq ?_
      obtain ⟨hc11, h⟩ := req_some h
      obtain ⟨hc12, h⟩ := req_some h
      refine aw_region_draw 11 [(27, (fun u => fEq u (str a0))), (28, (fun u => fEq u (Value.int .i64 (IntKind.i64.wrap ((a0.length : Int) - (10 : Int)))))), (29, (fun u => fEq u (Value.int .u8 (En.bAt a0 (IntKind.i64.wrap ((a0.length : Int) - (10 : Int))))))), (30, (fun u => fEq u (Value.int .i64 (IntKind.i64.wrap (En.bAt a0 (IntKind.i64.wrap ((a0.length : Int) - (10 : Int)))))))), (31, (fun u => fEq u (str a0))), (32, (fun u => fEq u (Value.int .i64 (IntKind.i64.wrap ((a0.length : Int) - (10 : Int)))))), (33, (fun u => fEq u (Value.int .i64 (IntKind.i64.wrap ((IntKind.i64.wrap ((a0.length : Int) - (10 : Int))) + (1 : Int)))))), (34, (fun u => fEq u (Value.int .u8 (En.bAt a0 (IntKind.i64.wrap ((IntKind.i64.wrap ((a0.length : Int) - (10 : Int))) + (1 : Int))))))), (35, (fun u => fEq u (Value.int .i64 (IntKind.i64.wrap (En.bAt a0 (IntKind.i64.wrap ((IntKind.i64.wrap ((a0.length : Int) - (10 : Int))) + (1 : Int)))))))), (36, (fun u => fEq u (Value.int .i64 (IntKind.i64.wrap ((IntKind.i64.wrap (En.bAt a0 (IntKind.i64.wrap ((IntKind.i64.wrap ((a0.length : Int) - (10 : Int))) + (1 : Int))))) * 2 ^ min ((8 : Int)).toNat (IntKind.bits .i64)))))), (37, (fun u => fEq u (Value.int .i64 (bits .or .i64 (IntKind.i64.wrap (En.bAt a0 (IntKind.i64.wrap ((a0.length : Int) - (10 : Int))))) (IntKind.i64.wrap ((IntKind.i64.wrap (En.bAt a0 (IntKind.i64.wrap ((IntKind.i64.wrap ((a0.length : Int) - (10 : Int))) + (1 : Int))))) * 2 ^ min ((8 : Int)).toNat (IntKind.bits .i64)))))))] (tab [(0, (str a0)), (5, (Value.int .i64 (IntKind.i64.wrap ((a0.length : Int) - (10 : Int)))))]) mixed (by kernel_rfl) rfl rfl rfl (fun a hs => hs.tab _ (allT_mem ⟨rfl, rfl, trivial⟩)) ⟨⟨rfl, ld_val (ov_move rfl rfl)⟩, ⟨rfl, ld_val (ov_move rfl rfl)⟩, ⟨rfl, ld_eq (j := 0) rfl rfl (ld_eq (j := 1) rfl rfl (ld_val (ov_strIdx hc11.1 hc11.2 Try.underlying9 rfl rfl rfl)))⟩, ⟨rfl, ld_eq (j := 2) rfl rfl (ld_val (ov_convInt (by rw [Try.underlying5]; rfl) Try.underlying3 rfl rfl))⟩, ⟨rfl, ld_val (ov_move rfl rfl)⟩, ⟨rfl, ld_val (ov_move rfl rfl)⟩, ⟨rfl, ld_eq (j := 5) rfl rfl (ld_val (ov_int rfl rfl rfl rfl))⟩, ⟨rfl, ld_eq (j := 4) rfl rfl (ld_eq (j := 6) rfl rfl (ld_val (ov_strIdx hc12.1 hc12.2 Try.underlying9 rfl rfl rfl)))⟩, ⟨rfl, ld_eq (j := 7) rfl rfl (ld_val (ov_convInt (by rw [Try.underlying5]; rfl) Try.underlying3 rfl rfl))⟩, ⟨rfl, ld_eq (j := 8) rfl rfl (ld_val (ov_shl (by decide) rfl rfl rfl))⟩, ⟨rfl, ld_eq (j := 3) rfl rfl (ld_eq (j := 9) rfl rfl (ld_val (ov_int rfl rfl rfl rfl)))⟩, trivial⟩ ?_
      refine tl_eq 10 rfl ?_
      refine tl_done ?_
      refine al_val (ov_assign rfl rfl) ?_
      refine al_nil ?_
      refine aq_then ?_
      refine aw_seq ?_
      refine aw_seq ?_
      refine aw_region ?_
      refine al_val (ov_move rfl rfl) ?_
      refine al_val (ov_move rfl rfl) ?_
      refine al_val (ov_int rfl rfl rfl rfl) ?_
      refine al_nil ?_
      refine aq_then ?_
      refine aw_cond rfl (fun hb13 => ?_) (fun hb13 => ?_)
      · replace h := bif_t hb13 h
        refine aw_seq ?_
        refine aw_region ?_
        refine al_val (ov_assign rfl rfl) ?_
        refine al_val (ov_assign rfl rfl) ?_
        refine al_nil ?_
        refine aq_then ?_
        refine aw_ret ?_
        refine aq_then_ret ?_
        refine aq_nilR 48 tyS_api_Entry ?_
        obtain rfl := Option.some.inj h
        exact fn_ret (Value.slice none 0 0) [0] [] rfl rfl rfl rfl (res2 rfl rfl rfl) rfl rfl rfl (by decide)
      · replace h := bif_f hb13 h
        refine aw_skip ?_
        refine aq_then ?_
        refine aw_seq ?_
        refine aw_region ?_
        refine al_val (ov_move rfl rfl) ?_
        refine al_val (ov_move rfl rfl) ?_
        refine al_val (ov_move rfl rfl) ?_
        refine al_val (ov_int rfl rfl rfl rfl) ?_
        refine al_val (ov_move rfl rfl) ?_
        obtain ⟨hc14, h⟩ := req_some h
        refine al_val (ov_strCut hc14.1 hc14.2.1 hc14.2.2 Try.underlying9 rfl rfl rfl rfl) ?_
        refine al_val (ov_move rfl rfl) ?_
        refine al_val (ov_move rfl rfl) ?_
        refine al_val (ov_int rfl rfl rfl rfl) ?_
        obtain ⟨r16, hc15, h⟩ := opt_some h
        refine al_call (vs := [(str (cut a0 (IntKind.i64.wrap ((IntKind.i64.wrap ((a0.length : Int) - (10 : Int))) - (bits .or .i64 (IntKind.i64.wrap (En.bAt a0 (IntKind.i64.wrap ((a0.length : Int) - (10 : Int))))) (IntKind.i64.wrap ((IntKind.i64.wrap (En.bAt a0 (IntKind.i64.wrap ((IntKind.i64.wrap ((a0.length : Int) - (10 : Int))) + (1 : Int))))) * 2 ^ min ((8 : Int)).toNat (IntKind.bits .i64)))))) (IntKind.i64.wrap ((a0.length : Int) - (10 : Int))))), (Value.int .i64 (IntKind.i64.wrap ((IntKind.i64.wrap ((a0.length : Int) - (10 : Int))) - (bits .or .i64 (IntKind.i64.wrap (En.bAt a0 (IntKind.i64.wrap ((a0.length : Int) - (10 : Int))))) (IntKind.i64.wrap ((IntKind.i64.wrap (En.bAt a0 (IntKind.i64.wrap ((IntKind.i64.wrap ((a0.length : Int) - (10 : Int))) + (1 : Int))))) * 2 ^ min ((8 : Int)).toNat (IntKind.bits .i64)))))))]) (f_pack_directory_ok fu (cut a0 (IntKind.i64.wrap ((IntKind.i64.wrap ((a0.length : Int) - (10 : Int))) - (bits .or .i64 (IntKind.i64.wrap (En.bAt a0 (IntKind.i64.wrap ((a0.length : Int) - (10 : Int))))) (IntKind.i64.wrap ((IntKind.i64.wrap (En.bAt a0 (IntKind.i64.wrap ((IntKind.i64.wrap ((a0.length : Int) - (10 : Int))) + (1 : Int))))) * 2 ^ min ((8 : Int)).toNat (IntKind.bits .i64)))))) (IntKind.i64.wrap ((a0.length : Int) - (10 : Int)))) (IntKind.i64.wrap ((IntKind.i64.wrap ((a0.length : Int) - (10 : Int))) - (bits .or .i64 (IntKind.i64.wrap (En.bAt a0 (IntKind.i64.wrap ((a0.length : Int) - (10 : Int))))) (IntKind.i64.wrap ((IntKind.i64.wrap (En.bAt a0 (IntKind.i64.wrap ((IntKind.i64.wrap ((a0.length : Int) - (10 : Int))) + (1 : Int))))) * 2 ^ min ((8 : Int)).toNat (IntKind.bits .i64)))))) hc15) [] [] [] pre_nil rfl (by simp) (by decide) (.inl rfl) rfl Try.func39 rfl rfl rfl (fun v17 => ?_)
        refine al_val (ov_extract rfl rfl rfl) ?_
        refine al_val (ov_extract rfl rfl rfl) ?_
        refine al_val (ov_assign rfl rfl) ?_
        refine al_val (ov_assign rfl rfl) ?_
        refine al_nil ?_
        refine aq_then ?_
        refine aw_ret ?_
        obtain rfl := Option.some.inj h
        exact fn_ret v17 [0] [] rfl rfl rfl rfl (res2 rfl rfl rfl) rfl rfl rfl (by decide)
def f_lumref_Narrow_1 (fu : Nat) (a0 : Int) (a1 : Int) : Option Int := (bif (a1 == (64 : Int)) then (some a0) else (req (0 ≤ a1) (req ((IntKind.u64.wrap ((1 : Int) * 2 ^ min (a1).toNat (IntKind.bits .u64))) ≠ 0) (some ((a0).tmod (IntKind.u64.wrap ((1 : Int) * 2 ^ min (a1).toNat (IntKind.bits .u64))))))))
set_option maxRecDepth 100000 in
theorem f_lumref_Narrow_1_ok (fu : Nat) (a0 : Int) (c1 : Value) (a1 : Int) {r : Int} (h : f_lumref_Narrow_1 fu a0 a1 = some r) : FnOk Try.prog 33 [(Value.int .u64 a0), c1] [(fPtr (tyInt .i64) c1 a1)] [] (fun (i : Unit) => { val := (Value.int .u64 r) }) := by
  unfold f_lumref_Narrow_1 at h
  refine fn_enter Try.func33 rfl Try.ntmps33 rfl (fun w0 Z0 => ?_)
  refine aw_seq ?_
  refine aw_region ?_
  refine al_val (ov_assign rfl rfl) ?_
  refine al_nil ?_
  refine aq_then ?_
  refine aw_seq ?_
  refine aw_seq ?_
  refine aw_region ?_
  refine al_val (ov_loadP (ds := [(Value.int .i64 a1)]) 0 rfl (fun h => h) rfl Try.underlying3 sz3 rfl rfl rfl) ?_
  refine al_val (ov_int rfl rfl rfl rfl) ?_
  refine al_nil ?_
  refine aq_then ?_
  refine aw_cond rfl (fun hb1 => ?_) (fun hb1 => ?_)
  · replace h := bif_t hb1 h
    refine aw_seq ?_
    refine aw_region ?_
    refine al_val (ov_move rfl rfl) ?_
    refine al_val (ov_assign rfl rfl) ?_
    refine al_nil ?_
    refine aq_then ?_
    refine aw_ret ?_
    refine aq_then_ret ?_
    obtain rfl := Option.some.inj h
    exact fn_ret () [] [] rfl rfl rfl rfl (res1 rfl rfl) rfl rfl rfl (by decide)
  · replace h := bif_f hb1 h
    refine aw_skip ?_
    refine aq_then ?_
    refine aw_seq ?_
    refine aw_region ?_
    refine al_val (ov_move rfl rfl) ?_
    refine al_val (ov_loadP (ds := [(Value.int .i64 a1)]) 0 rfl (fun h => h) rfl Try.underlying3 sz3 rfl rfl rfl) ?_
    obtain ⟨hc2, h⟩ := req_some h
    refine al_val (ov_shl hc2 rfl rfl rfl) ?_
    obtain ⟨hc3, h⟩ := req_some h
    refine al_val (ov_rem hc3 rfl rfl rfl) ?_
    refine al_val (ov_assign rfl rfl) ?_
    refine al_nil ?_
    refine aq_then ?_
    refine aw_ret ?_
    obtain rfl := Option.some.inj h
    exact fn_ret () [] [] rfl rfl rfl rfl (res1 rfl rfl) rfl rfl rfl (by decide)
def f_strings_Repeat (fu : Nat) (a0 : List UInt8) (a1 : Int) : Option (List UInt8) := req (0 ≤ a1 ∧ a1 ≤ 9223372036854775807 ∧ a0.length * a1.toNat ≤ 140737488355328) (some (Lib.repeatL a0 a1.toNat))
theorem f_strings_Repeat_ok (fu : Nat) (a0 : List UInt8) (a1 : Int) {r : List UInt8} (h : f_strings_Repeat fu a0 a1 = some r) : FnOk Try.prog 34 [(str a0), (Value.int .i64 a1)] [] [] (fun (i : Unit) => { val := (str r) }) := by
  unfold f_strings_Repeat at h
  obtain ⟨hc, h⟩ := req_some h
  obtain rfl := Option.some.inj h
  obtain ⟨n, rfl⟩ : ∃ n : Nat, a1 = n := ⟨a1.toNat, by omega⟩
  refine fnok_pure fun w => ?_
  exact (Try.strings_Repeat ⟨a0.toArray⟩ n w (by omega) (by simpa [ByteArray.size] using hc.2.2)).mono fun e w' h9 => by simpa [str] using h9
def f_lumref_product_L5 (a0 : Int) (a1 : Int) (kk2 : (Int → Option Int)) : Nat → Int → Int → Option Int
  | 0, _, _ => none
  | k4 + 1, l3i5, l3i7 => (bif (decide (l3i7 < (64 : Int))) then (lt (fun (j7i5 : Int) => (f_lumref_product_L5 a0 a1 kk2 k4 j7i5 (IntKind.i64.wrap (l3i7 + (1 : Int))))) fun (kk8 : Int → Option Int) => (req (0 ≤ l3i7) (bif ((bits .and .u64 ((a1).fdiv (2 ^ min (l3i7).toNat (IntKind.bits .u64))) (1 : Int)) == (1 : Int)) then (req (0 ≤ l3i7) (kk8 (IntKind.u64.wrap (l3i5 + (IntKind.u64.wrap (a0 * 2 ^ min (l3i7).toNat (IntKind.bits .u64))))))) else (kk8 l3i5)))) else (kk2 l3i5))
def f_lumref_product (fu : Nat) (a0 : Int) (a1 : Int) : Option Int := (lt (fun (j1i5 : Int) => (some j1i5)) fun (kk2 : Int → Option Int) => (f_lumref_product_L5 a0 a1 kk2 fu (0 : Int) (0 : Int)))
set_option maxRecDepth 100000 in
theorem f_lumref_product_ok (fu : Nat) (a0 : Int) (a1 : Int) {r : Int} (h : f_lumref_product fu a0 a1 = some r) : FnOk Try.prog 35 [(Value.int .u64 a0), (Value.int .u64 a1)] [] [] (fun (i : Unit) => { val := (Value.int .u64 r) }) := by
  unfold f_lumref_product at h
  refine fn_enter Try.func35 rfl Try.ntmps35 rfl (fun w0 Z0 => ?_)
  refine aw_seq ?_
  refine aw_region ?_
  refine al_val (ov_assign rfl rfl) ?_
  refine al_nil ?_
  refine aq_then ?_
  refine aw_seq ?_
  refine aw_region ?_
  refine al_val (ov_assign rfl rfl) ?_
  refine al_nil ?_
  refine aq_then ?_
  obtain ⟨kk2, hkk2, h⟩ := lt_some h
  refine aw_seq_join (ι := Int) (fun i => (memOf w0 Z0 [] [] [])) (fun i => (tab [(5, (Value.int .u64 i))])) (fun i => kk2 i = some r) ?_ ?_
  · rintro j1i5 h
    have h : kk2 j1i5 = some r := h
    rw [hkk2] at h
    dsimp only at h
    clear hkk2
    refine aw_show (m := (memOf w0 Z0 [] [] [])) (S := (tab [(5, (Value.int .u64 j1i5))])) ?_
    refine aw_seq ?_
    refine aw_region ?_
    refine al_val (ov_move rfl rfl) ?_
    refine al_val (ov_assign rfl rfl) ?_
    refine al_nil ?_
    refine aq_then ?_
    refine aw_ret ?_
    obtain rfl := Option.some.inj h
    exact fn_ret () [] [] rfl rfl rfl rfl (res1 rfl rfl) rfl rfl rfl (by decide)
  · clear hkk2
    refine aw_seq ?_
    refine aw_region ?_
    refine al_val (ov_move rfl rfl) ?_
    refine al_nil ?_
    refine aq_then ?_
    refine aw_block ?_
    refine aw_state (aw_loop (ι := Int × Int) (fun i => (memOf w0 Z0 [] [] [])) (fun i => (tab [(0, (Value.int .u64 a0)), (1, (Value.int .u64 a1)), (5, (Value.int .u64 i.1)), (7, (Value.int .i64 i.2))])) (fun q i => f_lumref_product_L5 a0 a1 kk2 q i.1 i.2 = some r) ?_ fu ((0 : Int), (0 : Int)) h) (fun w a hm hs => norm hm hs [] [] [(0, (Value.int .u64 a0)), (1, (Value.int .u64 a1)), (5, (Value.int .u64 (0 : Int))), (7, (Value.int .i64 (0 : Int)))] (by decide) ⟨rfl, rfl, rfl, rfl, trivial⟩)
    clear h
    rintro k4 ⟨l3i5, l3i7⟩ h
    have h : f_lumref_product_L5 a0 a1 kk2 k4 l3i5 l3i7 = some r := h
    obtain _ | k4 := k4
    · rw [f_lumref_product_L5] at h; cases h
    rw [f_lumref_product_L5] at h
    refine aw_show (m := (memOf w0 Z0 [] [] [])) (S := (tab [(0, (Value.int .u64 a0)), (1, (Value.int .u64 a1)), (5, (Value.int .u64 l3i5)), (7, (Value.int .i64 l3i7))])) ?_
    refine aw_seq ?_
    refine aw_region ?_
    refine al_val (ov_int rfl rfl rfl rfl) ?_
    refine al_nil ?_
    refine aq_then ?_
    refine aw_seq ?_
    refine aw_cond rfl (fun hb6 => ?_) (fun hb6 => ?_)
    · replace h := bif_t hb6 h
      refine aw_skip ?_
      refine aq_then ?_
      obtain ⟨kk8, hkk8, h⟩ := lt_some h
      refine aw_seq_join (ι := Int) (fun i => (memOf w0 Z0 [] [] [])) (fun i => (tab [(0, (Value.int .u64 a0)), (1, (Value.int .u64 a1)), (5, (Value.int .u64 i)), (7, (Value.int .i64 l3i7))])) (fun i => kk8 i = some r) ?_ ?_
      · rintro j7i5 h
        have h : kk8 j7i5 = some r := h
        rw [hkk8] at h
        dsimp only at h
        clear hkk8
        refine aw_show (m := (memOf w0 Z0 [] [] [])) (S := (tab [(0, (Value.int .u64 a0)), (1, (Value.int .u64 a1)), (5, (Value.int .u64 j7i5)), (7, (Value.int .i64 l3i7))])) ?_
        refine aw_region ?_
        refine al_val (ov_int rfl rfl rfl rfl) ?_
        refine al_val (ov_move rfl rfl) ?_
        refine al_nil ?_
        exact aq_again k4 (j7i5, (IntKind.i64.wrap (l3i7 + (1 : Int)))) (Nat.lt_succ_self _) h (fun w a hm hs => norm hm hs [] [] [(0, (Value.int .u64 a0)), (1, (Value.int .u64 a1)), (5, (Value.int .u64 j7i5)), (7, (Value.int .i64 (IntKind.i64.wrap (l3i7 + (1 : Int)))))] (by decide) ⟨rfl, rfl, rfl, rfl, trivial⟩)
      · clear hkk8
        refine aw_block ?_
        refine aw_seq ?_
        refine aw_region ?_
        refine al_val (ov_move rfl rfl) ?_
        refine al_val (ov_assign rfl rfl) ?_
        refine al_nil ?_
        refine aq_then ?_
        refine aw_seq ?_
        refine aw_region ?_
        refine al_val (ov_move rfl rfl) ?_
        refine al_val (ov_move rfl rfl) ?_
        obtain ⟨hc9, h⟩ := req_some h
        refine al_val (ov_shr hc9 rfl rfl rfl) ?_
        refine al_val (ov_int rfl rfl rfl rfl) ?_
        refine al_val (ov_int rfl rfl rfl rfl) ?_
        refine al_nil ?_
        refine aq_then ?_
        refine aw_cond rfl (fun hb10 => ?_) (fun hb10 => ?_)
        · replace h := bif_t hb10 h
          refine aw_region ?_
          refine al_val (ov_move rfl rfl) ?_
          refine al_val (ov_move rfl rfl) ?_
          refine al_val (ov_move rfl rfl) ?_
          obtain ⟨hc11, h⟩ := req_some h
          refine al_val (ov_shl hc11 rfl rfl rfl) ?_
          refine al_val (ov_int rfl rfl rfl rfl) ?_
          refine al_val (ov_assign rfl rfl) ?_
          refine al_nil ?_
          refine aq_block ?_
          exact aq_join (IntKind.u64.wrap (l3i5 + (IntKind.u64.wrap (a0 * 2 ^ min (l3i7).toNat (IntKind.bits .u64))))) h (fun w a hm hs => norm hm hs [] [] [(0, (Value.int .u64 a0)), (1, (Value.int .u64 a1)), (5, (Value.int .u64 (IntKind.u64.wrap (l3i5 + (IntKind.u64.wrap (a0 * 2 ^ min (l3i7).toNat (IntKind.bits .u64))))))), (7, (Value.int .i64 l3i7))] (by decide) ⟨rfl, rfl, rfl, rfl, trivial⟩)
        · replace h := bif_f hb10 h
          refine aw_skip ?_
          refine aq_block ?_
          exact aq_join l3i5 h (fun w a hm hs => norm hm hs [] [] [(0, (Value.int .u64 a0)), (1, (Value.int .u64 a1)), (5, (Value.int .u64 l3i5)), (7, (Value.int .i64 l3i7))] (by decide) ⟨rfl, rfl, rfl, rfl, trivial⟩)
    · replace h := bif_f hb6 h
      refine aw_exit ?_
      refine aq_then_exit ?_
      refine aq_then_exit ?_
      refine aq_block_exit ?_
      exact aq_join l3i5 h (fun w a hm hs => norm hm hs [] [] [(5, (Value.int .u64 l3i5))] (by decide) ⟨rfl, trivial⟩)
def f_lumref_Step (fu : Nat) (a0 : Int) (a1 : Int) : Option Int := (opt (f_lumref_product fu (bits .xor .u64 a0 a1) (11400714819323198485 : Int)) fun (r2 : Int) => (opt (f_lumref_product fu (bits .xor .u64 r2 (IntKind.u64.wrap ((r2).tdiv (536870912 : Int)))) (13787848793156543929 : Int)) fun (r4 : Int) => (some (bits .xor .u64 r4 (IntKind.u64.wrap ((r4).tdiv (4294967296 : Int)))))))
set_option maxRecDepth 100000 in
theorem f_lumref_Step_ok (fu : Nat) (a0 : Int) (a1 : Int) {r : Int} (h : f_lumref_Step fu a0 a1 = some r) : FnOk Try.prog 16 [(Value.int .u64 a0), (Value.int .u64 a1)] [] [] (fun (i : Unit) => { val := (Value.int .u64 r) }) := by
  unfold f_lumref_Step at h
  refine fn_enter Try.func16 rfl Try.ntmps16 rfl (fun w0 Z0 => ?_)
  refine aw_seq ?_
  refine aw_region ?_
  refine al_val (ov_assign rfl rfl) ?_
  refine al_nil ?_
  refine aq_then ?_
  refine aw_seq ?_
  refine aw_region ?_
  refine al_val (ov_move rfl rfl) ?_
  refine al_val (ov_move rfl rfl) ?_
  refine al_val (ov_int rfl rfl rfl rfl) ?_
  obtain ⟨r2, hc1, h⟩ := opt_some h
  refine al_call (vs := [(Value.int .u64 (bits .xor .u64 a0 a1)), (Value.int .u64 (11400714819323198485 : Int))]) (f_lumref_product_ok fu (bits .xor .u64 a0 a1) (11400714819323198485 : Int) hc1) [] [] [] pre_nil rfl (by simp) (by decide) (.inl rfl) rfl Try.func35 rfl rfl rfl (fun _ => ?_)
  refine al_val (ov_assign rfl rfl) ?_
  refine al_nil ?_
  refine aq_then ?_
  refine aw_seq ?_
  refine aw_region ?_
  refine al_val (ov_move rfl rfl) ?_
  refine al_val (ov_move rfl rfl) ?_
  refine al_val (ov_quo (by decide) rfl rfl rfl) ?_
  refine al_val (ov_int rfl rfl rfl rfl) ?_
  refine al_val (ov_assign rfl rfl) ?_
  refine al_nil ?_
  refine aq_then ?_
  refine aw_seq ?_
  refine aw_region ?_
  refine al_val (ov_move rfl rfl) ?_
  obtain ⟨r4, hc3, h⟩ := opt_some h
  refine al_call (vs := [(Value.int .u64 (bits .xor .u64 r2 (IntKind.u64.wrap ((r2).tdiv (536870912 : Int))))), (Value.int .u64 (13787848793156543929 : Int))]) (f_lumref_product_ok fu (bits .xor .u64 r2 (IntKind.u64.wrap ((r2).tdiv (536870912 : Int)))) (13787848793156543929 : Int) hc3) [] [] [] pre_nil rfl (by simp) (by decide) (.inl rfl) rfl Try.func35 rfl rfl rfl (fun _ => ?_)
  refine al_val (ov_assign rfl rfl) ?_
  refine al_nil ?_
  refine aq_then ?_
  refine aw_seq ?_
  refine aw_region ?_
  refine al_val (ov_move rfl rfl) ?_
  refine al_val (ov_move rfl rfl) ?_
  refine al_val (ov_quo (by decide) rfl rfl rfl) ?_
  refine al_val (ov_int rfl rfl rfl rfl) ?_
  refine al_val (ov_assign rfl rfl) ?_
  refine al_nil ?_
  refine aq_then ?_
  refine aw_ret ?_
  obtain rfl := Option.some.inj h
  exact fn_ret () [] [] rfl rfl rfl rfl (res1 rfl rfl) rfl rfl rfl (by decide)
def f_lumref_Narrow_L27 (l11s7 : (List UInt8)) (kk20 : (Int → Option Int)) : Nat → Int → Int → Option Int
  | 0, _, _ => none
  | k26 + 1, l25i8, l25i9 => (bif (decide (l25i9 ≥ (0 : Int))) then (req (0 ≤ l25i9 ∧ l25i9 < (l11s7.length : Int)) (f_lumref_Narrow_L27 l11s7 kk20 k26 (IntKind.u64.wrap ((IntKind.u64.wrap ((256 : Int) * l25i8)) + (IntKind.u64.wrap (En.bAt l11s7 l25i9)))) (IntKind.i64.wrap (l25i9 - (1 : Int))))) else (kk20 l25i8))
def f_lumref_Narrow_L13 (a0 : Int) (kk6 : (Int → Option Int)) (fu : Nat) : Nat → Int → (List UInt8) → Option Int
  | 0, _, _ => none
  | k12 + 1, l11i5, l11s7 => (lt (fun (l11i5 : Int) (l11s7 : (List UInt8)) => (f_lumref_Narrow_L13 a0 kk6 fu k12 l11i5 l11s7)) fun (kk14 : Int → (List UInt8) → Option Int) => (bif (!(l11s7 == ([] : List UInt8))) then (lt (fun (j16i5 : Int) => (req (0 ≤ (8 : Int) ∧ (8 : Int) ≤ (l11s7.length : Int)) (kk14 j16i5 (l11s7.drop ((8 : Int)).toNat)))) fun (kk17 : Int → Option Int) => (lt (fun (j19i8 : Int) => (opt (f_lumref_Step fu l11i5 j19i8) fun (r22 : Int) => (opt (f_lumref_Narrow_1 fu r22 a0) fun (r24 : Int) => (kk17 r24)))) fun (kk20 : Int → Option Int) => (f_lumref_Narrow_L27 l11s7 kk20 fu (0 : Int) (7 : Int)))) else (kk6 l11i5)))
def f_lumref_Narrow (fu : Nat) (a0 : Int) (a1 : (List UInt8)) : Option Int := (opt (f_strings_Repeat fu ([0] : List UInt8) (((IntKind.i64.wrap ((8 : Int) - (((a1.length : Int)).tmod (8 : Int))))).tmod (8 : Int))) fun (r3 : (List UInt8)) => (req (a1.length + r3.length ≤ 9223372036854775807) (lt (fun (j5i5 : Int) => (opt (f_lumref_Step fu j5i5 (IntKind.u64.wrap (a1.length : Int))) fun (r8 : Int) => (opt (f_lumref_Narrow_1 fu r8 a0) fun (r10 : Int) => (some r10)))) fun (kk6 : Int → Option Int) => (f_lumref_Narrow_L13 a0 kk6 fu fu (0 : Int) (a1 ++ r3)))))
set_option maxRecDepth 100000 in
theorem f_lumref_Narrow_ok (fu : Nat) (a0 : Int) (a1 : (List UInt8)) {r : Int} (h : f_lumref_Narrow fu a0 a1 = some r) : FnOk Try.prog 14 [(Value.int .i64 a0), (str a1)] [] [] (fun (i : Unit) => { val := (Value.int .u64 r) }) := by
  unfold f_lumref_Narrow at h
  refine fn_enter Try.func14 rfl Try.ntmps14 rfl (fun w0 Z0 => ?_)
  refine aw_seq ?_
  refine aw_region ?_
  refine al_box (vs := [(Value.int .i64 a0)]) rfl (cv_rfl rfl) rfl (fun g1 => ?_)
  refine al_val (ov_assign rfl rfl) ?_
  refine al_nil ?_
  refine aq_then ?_
  refine aw_seq ?_
  refine aw_region ?_
  refine al_val (ov_assign rfl rfl) ?_
  refine al_nil ?_
  refine aq_then ?_
  refine aw_seq ?_
  refine aw_region ?_
  refine al_val (ov_makeFunc2 (vs := [(ptr g1 0)]) rfl rfl) ?_
  refine al_val (ov_assign rfl rfl) ?_
  refine al_nil ?_
  refine aq_then ?_
  refine aw_seq ?_
  refine aw_region ?_
  refine al_val (ov_move rfl rfl) ?_
  refine al_val (ov_move rfl rfl) ?_
  refine al_val (ov_strLen Try.underlying9 rfl rfl) ?_
  refine al_val (ov_rem (by decide) rfl rfl rfl) ?_
  refine al_val (ov_int rfl rfl rfl rfl) ?_
  refine al_val (ov_rem (by decide) rfl rfl rfl) ?_
  obtain ⟨r3, hc2, h⟩ := opt_some h
  refine al_call (vs := [(str ([0] : List UInt8)), (Value.int .i64 (((IntKind.i64.wrap ((8 : Int) - (((a1.length : Int)).tmod (8 : Int))))).tmod (8 : Int)))]) (f_strings_Repeat_ok fu ([0] : List UInt8) (((IntKind.i64.wrap ((8 : Int) - (((a1.length : Int)).tmod (8 : Int))))).tmod (8 : Int)) hc2) [] [] [0] pre_nil rfl (by simp) (by decide) (.inl rfl) rfl Try.func34 rfl rfl rfl (fun _ => ?_)
  obtain ⟨hc4, h⟩ := req_some h
  refine al_val (ov_strAdd hc4 rfl rfl rfl) ?_
  refine al_val (ov_assign rfl rfl) ?_
  refine al_nil ?_
  refine aq_then ?_
  obtain ⟨kk6, hkk6, h⟩ := lt_some h
  refine aw_seq_join (ι := Int) (fun i => (memOf w0 Z0 [] [(oBox g1 3 [(Value.int .i64 a0)])] [])) (fun i => (tab [(1, (str a1)), (5, (Value.int .u64 i)), (6, (Value.func (.func 33) #[] #[(ptr g1 0)]))])) (fun i => kk6 i = some r) ?_ ?_
  · rintro j5i5 h
    have h : kk6 j5i5 = some r := h
    rw [hkk6] at h
    dsimp only at h
    clear hkk6
    refine aw_show (m := (memOf w0 Z0 [] [(oBox g1 3 [(Value.int .i64 a0)])] [])) (S := (tab [(1, (str a1)), (5, (Value.int .u64 j5i5)), (6, (Value.func (.func 33) #[] #[(ptr g1 0)]))])) ?_
    refine aw_seq ?_
    refine aw_region ?_
    refine al_val (ov_move rfl rfl) ?_
    refine al_val (ov_move rfl rfl) ?_
    refine al_val (ov_move rfl rfl) ?_
    refine al_val (ov_strLen Try.underlying9 rfl rfl) ?_
    refine al_val (ov_convInt (by rw [Try.underlying3]; rfl) Try.underlying22 rfl rfl) ?_
    obtain ⟨r8, hc7, h⟩ := opt_some h
    refine al_call (vs := [(Value.int .u64 j5i5), (Value.int .u64 (IntKind.u64.wrap (a1.length : Int)))]) (f_lumref_Step_ok fu j5i5 (IntKind.u64.wrap (a1.length : Int)) hc7) [] [] [0] pre_nil rfl (by simp) (by decide) (.inl rfl) rfl Try.func16 rfl rfl rfl (fun _ => ?_)
    obtain ⟨r10, hc9, h⟩ := opt_some h
    refine al_callF (vs := [(Value.int .u64 r8)]) (caps := [(ptr g1 0)]) (f_lumref_Narrow_1_ok fu r8 (ptr g1 0) a0 hc9) rfl [0] [] [0] (pre_boxP (x := a0) 0 rfl rfl (fun _ _ => rfl) pre_nil) rfl (by simp) (by decide) (.inr flat_res0) rfl rfl Try.func33 rfl rfl rfl (fun _ => ?_)
    refine al_val (ov_assign rfl rfl) ?_
    refine al_nil ?_
    refine aq_then ?_
    refine aw_ret ?_
    obtain rfl := Option.some.inj h
    exact fn_ret () [] [] rfl rfl rfl rfl (res1 rfl rfl) rfl rfl rfl (by decide)
  · clear hkk6
    refine aw_block ?_
    refine aw_state (aw_loop (ι := Int × (List UInt8)) (fun i => (memOf w0 Z0 [] [(oBox g1 3 [(Value.int .i64 a0)])] [])) (fun i => (tab [(1, (str a1)), (5, (Value.int .u64 i.1)), (6, (Value.func (.func 33) #[] #[(ptr g1 0)])), (7, (str i.2))])) (fun q i => f_lumref_Narrow_L13 a0 kk6 fu q i.1 i.2 = some r) ?_ fu ((0 : Int), (a1 ++ r3)) h) (fun w a hm hs => norm hm hs [0] [] [(1, (str a1)), (5, (Value.int .u64 (0 : Int))), (6, (Value.func (.func 33) #[] #[(ptr g1 0)])), (7, (str (a1 ++ r3)))] (by decide) ⟨rfl, rfl, rfl, rfl, trivial⟩)
    clear h
    rintro k12 ⟨l11i5, l11s7⟩ h
    have h : f_lumref_Narrow_L13 a0 kk6 fu k12 l11i5 l11s7 = some r := h
    obtain _ | k12 := k12
    · rw [f_lumref_Narrow_L13] at h; cases h
    rw [f_lumref_Narrow_L13] at h
    refine aw_show (m := (memOf w0 Z0 [] [(oBox g1 3 [(Value.int .i64 a0)])] [])) (S := (tab [(1, (str a1)), (5, (Value.int .u64 l11i5)), (6, (Value.func (.func 33) #[] #[(ptr g1 0)])), (7, (str l11s7))])) ?_
    obtain ⟨kk14, hkk14, h⟩ := lt_some h
    refine aw_body_join (ι := Int × (List UInt8)) (fun i => (memOf w0 Z0 [] [(oBox g1 3 [(Value.int .i64 a0)])] [])) (fun i => (tab [(1, (str a1)), (5, (Value.int .u64 i.1)), (6, (Value.func (.func 33) #[] #[(ptr g1 0)])), (7, (str i.2))])) (fun i => kk14 i.1 i.2 = some r) (fun i h => aq_again k12 i (Nat.lt_succ_self _) (by rw [hkk14] at h; exact h) (fun w a hm hs => ⟨hm, hs⟩)) ?_
    clear hkk14
    refine aw_seq ?_
    refine aw_seq ?_
    refine aw_region ?_
    refine al_val (ov_move rfl rfl) ?_
    refine al_val (ov_strCmp rfl rfl rfl rfl) ?_
    refine al_nil ?_
    refine aq_then ?_
    refine aw_cond rfl (fun hb15 => ?_) (fun hb15 => ?_)
    · replace h := bif_t hb15 h
      refine aw_skip ?_
      refine aq_then ?_
      obtain ⟨kk17, hkk17, h⟩ := lt_some h
      refine aw_seq_join (ι := Int) (fun i => (memOf w0 Z0 [] [(oBox g1 3 [(Value.int .i64 a0)])] [])) (fun i => (tab [(1, (str a1)), (5, (Value.int .u64 i)), (6, (Value.func (.func 33) #[] #[(ptr g1 0)])), (7, (str l11s7))])) (fun i => kk17 i = some r) ?_ ?_
      · rintro j16i5 h
        have h : kk17 j16i5 = some r := h
        rw [hkk17] at h
        dsimp only at h
        clear hkk17
        refine aw_show (m := (memOf w0 Z0 [] [(oBox g1 3 [(Value.int .i64 a0)])] [])) (S := (tab [(1, (str a1)), (5, (Value.int .u64 j16i5)), (6, (Value.func (.func 33) #[] #[(ptr g1 0)])), (7, (str l11s7))])) ?_
        refine aw_region ?_
        refine al_val (ov_move rfl rfl) ?_
        obtain ⟨hc18, h⟩ := req_some h
        refine al_val (ov_strFrom hc18.1 hc18.2 Try.underlying9 rfl rfl rfl) ?_
        refine al_val (ov_assign rfl rfl) ?_
        refine al_nil ?_
        exact aq_join (j16i5, (l11s7.drop ((8 : Int)).toNat)) h (fun w a hm hs => norm hm hs [0] [] [(1, (str a1)), (5, (Value.int .u64 j16i5)), (6, (Value.func (.func 33) #[] #[(ptr g1 0)])), (7, (str (l11s7.drop ((8 : Int)).toNat)))] (by decide) ⟨rfl, rfl, rfl, rfl, trivial⟩)
      · clear hkk17
        refine aw_block ?_
        refine aw_seq ?_
        refine aw_region ?_
        refine al_val (ov_assign rfl rfl) ?_
        refine al_nil ?_
        refine aq_then ?_
        obtain ⟨kk20, hkk20, h⟩ := lt_some h
        refine aw_seq_join (ι := Int) (fun i => (memOf w0 Z0 [] [(oBox g1 3 [(Value.int .i64 a0)])] [])) (fun i => (tab [(1, (str a1)), (5, (Value.int .u64 l11i5)), (6, (Value.func (.func 33) #[] #[(ptr g1 0)])), (7, (str l11s7)), (8, (Value.int .u64 i))])) (fun i => kk20 i = some r) ?_ ?_
        · rintro j19i8 h
          have h : kk20 j19i8 = some r := h
          rw [hkk20] at h
          dsimp only at h
          clear hkk20
          refine aw_show (m := (memOf w0 Z0 [] [(oBox g1 3 [(Value.int .i64 a0)])] [])) (S := (tab [(1, (str a1)), (5, (Value.int .u64 l11i5)), (6, (Value.func (.func 33) #[] #[(ptr g1 0)])), (7, (str l11s7)), (8, (Value.int .u64 j19i8))])) ?_
          refine aw_region ?_
          refine al_val (ov_move rfl rfl) ?_
          refine al_val (ov_move rfl rfl) ?_
          refine al_val (ov_move rfl rfl) ?_
          obtain ⟨r22, hc21, h⟩ := opt_some h
          refine al_call (vs := [(Value.int .u64 l11i5), (Value.int .u64 j19i8)]) (f_lumref_Step_ok fu l11i5 j19i8 hc21) [] [] [0] pre_nil rfl (by simp) (by decide) (.inl rfl) rfl Try.func16 rfl rfl rfl (fun _ => ?_)
          obtain ⟨r24, hc23, h⟩ := opt_some h
          refine al_callF (vs := [(Value.int .u64 r22)]) (caps := [(ptr g1 0)]) (f_lumref_Narrow_1_ok fu r22 (ptr g1 0) a0 hc23) rfl [0] [] [0] (pre_boxP (x := a0) 0 rfl rfl (fun _ _ => rfl) pre_nil) rfl (by simp) (by decide) (.inr flat_res0) rfl rfl Try.func33 rfl rfl rfl (fun _ => ?_)
          refine al_val (ov_assign rfl rfl) ?_
          refine al_nil ?_
          refine aq_block ?_
          exact aq_join r24 h (fun w a hm hs => norm hm hs [0] [] [(1, (str a1)), (5, (Value.int .u64 r24)), (6, (Value.func (.func 33) #[] #[(ptr g1 0)])), (7, (str l11s7))] (by decide) ⟨rfl, rfl, rfl, rfl, trivial⟩)
        · clear hkk20
          refine aw_seq ?_
          refine aw_region ?_
          refine al_val (ov_assign rfl rfl) ?_
          refine al_nil ?_
          refine aq_then ?_
          refine aw_block ?_
          refine aw_state (aw_loop (ι := Int × Int) (fun i => (memOf w0 Z0 [] [(oBox g1 3 [(Value.int .i64 a0)])] [])) (fun i => (tab [(1, (str a1)), (5, (Value.int .u64 l11i5)), (6, (Value.func (.func 33) #[] #[(ptr g1 0)])), (7, (str l11s7)), (8, (Value.int .u64 i.1)), (9, (Value.int .i64 i.2))])) (fun q i => f_lumref_Narrow_L27 l11s7 kk20 q i.1 i.2 = some r) ?_ fu ((0 : Int), (7 : Int)) h) (fun w a hm hs => norm hm hs [0] [] [(1, (str a1)), (5, (Value.int .u64 l11i5)), (6, (Value.func (.func 33) #[] #[(ptr g1 0)])), (7, (str l11s7)), (8, (Value.int .u64 (0 : Int))), (9, (Value.int .i64 (7 : Int)))] (by decide) ⟨rfl, rfl, rfl, rfl, rfl, rfl, trivial⟩)
          clear h
          rintro k26 ⟨l25i8, l25i9⟩ h
          have h : f_lumref_Narrow_L27 l11s7 kk20 k26 l25i8 l25i9 = some r := h
          obtain _ | k26 := k26
          · rw [f_lumref_Narrow_L27] at h; cases h
          rw [f_lumref_Narrow_L27] at h
          refine aw_show (m := (memOf w0 Z0 [] [(oBox g1 3 [(Value.int .i64 a0)])] [])) (S := (tab [(1, (str a1)), (5, (Value.int .u64 l11i5)), (6, (Value.func (.func 33) #[] #[(ptr g1 0)])), (7, (str l11s7)), (8, (Value.int .u64 l25i8)), (9, (Value.int .i64 l25i9))])) ?_
          refine aw_seq ?_
          refine aw_seq ?_
          refine aw_region ?_
          refine al_val (ov_move rfl rfl) ?_
          refine al_val (ov_int rfl rfl rfl rfl) ?_
          refine al_nil ?_
          refine aq_then ?_
          refine aw_cond rfl (fun hb28 => ?_) (fun hb28 => ?_)
          · replace h := bif_t hb28 h
            refine aw_skip ?_
            refine aq_then ?_
            refine aw_seq ?_
            refine aw_block ?_
            refine aw_region ?_
            refine al_val (ov_move rfl rfl) ?_
            refine al_val (ov_int rfl rfl rfl rfl) ?_
            refine al_val (ov_move rfl rfl) ?_
            refine al_val (ov_move rfl rfl) ?_
            obtain ⟨hc29, h⟩ := req_some h
            refine al_val (ov_strIdx hc29.1 hc29.2 Try.underlying9 rfl rfl rfl) ?_
            refine al_val (ov_convInt (by rw [Try.underlying5]; rfl) Try.underlying22 rfl rfl) ?_
            refine al_val (ov_int rfl rfl rfl rfl) ?_
            refine al_val (ov_assign rfl rfl) ?_
            refine al_nil ?_
            refine aq_block ?_
            refine aq_then ?_
            refine aw_region ?_
            refine al_val (ov_move rfl rfl) ?_
            refine al_val (ov_int rfl rfl rfl rfl) ?_
            refine al_val (ov_assign rfl rfl) ?_
            refine al_nil ?_
            exact aq_again k26 ((IntKind.u64.wrap ((IntKind.u64.wrap ((256 : Int) * l25i8)) + (IntKind.u64.wrap (En.bAt l11s7 l25i9)))), (IntKind.i64.wrap (l25i9 - (1 : Int)))) (Nat.lt_succ_self _) h (fun w a hm hs => norm hm hs [0] [] [(1, (str a1)), (5, (Value.int .u64 l11i5)), (6, (Value.func (.func 33) #[] #[(ptr g1 0)])), (7, (str l11s7)), (8, (Value.int .u64 (IntKind.u64.wrap ((IntKind.u64.wrap ((256 : Int) * l25i8)) + (IntKind.u64.wrap (En.bAt l11s7 l25i9)))))), (9, (Value.int .i64 (IntKind.i64.wrap (l25i9 - (1 : Int)))))] (by decide) ⟨rfl, rfl, rfl, rfl, rfl, rfl, trivial⟩)
          · replace h := bif_f hb28 h
            refine aw_exit ?_
            refine aq_then_exit ?_
            refine aq_then_exit ?_
            refine aq_block_exit ?_
            exact aq_join l25i8 h (fun w a hm hs => norm hm hs [0] [] [(1, (str a1)), (5, (Value.int .u64 l11i5)), (6, (Value.func (.func 33) #[] #[(ptr g1 0)])), (7, (str l11s7)), (8, (Value.int .u64 l25i8))] (by decide) ⟨rfl, rfl, rfl, rfl, rfl, trivial⟩)
    · replace h := bif_f hb15 h
      refine aw_exit ?_
      refine aq_then_exit ?_
      refine aq_then_exit ?_
      refine aq_block_exit ?_
      exact aq_join l11i5 h (fun w a hm hs => norm hm hs [0] [] [(1, (str a1)), (5, (Value.int .u64 l11i5)), (6, (Value.func (.func 33) #[] #[(ptr g1 0)]))] (by decide) ⟨rfl, rfl, rfl, trivial⟩)
def f_lumref_digits : Nat → Int → Option (List UInt8)
  | 0, _ => none
  | fu + 1, a0 => (bif (a0 == (0 : Int)) then (some ([] : List UInt8)) else (opt (f_lumref_digits fu (IntKind.u64.wrap ((a0).tdiv (256 : Int)))) fun (r3 : (List UInt8)) => (req (0 ≤ (IntKind.u8.wrap ((a0).tmod (256 : Int))) ∧ (IntKind.u8.wrap ((a0).tmod (256 : Int))) ≤ 255) (req (r3.length + ([(UInt8.ofNat ((IntKind.u8.wrap ((a0).tmod (256 : Int)))).toNat)]).length ≤ 9223372036854775807) (some (r3 ++ ([(UInt8.ofNat ((IntKind.u8.wrap ((a0).tmod (256 : Int)))).toNat)])))))))
set_option maxRecDepth 100000 in
theorem f_lumref_digits_ok (fu : Nat) (a0 : Int) {r : (List UInt8)} (h : f_lumref_digits fu a0 = some r) : FnOk Try.prog 59 [(Value.int .u64 a0)] [] [] (fun (i : Unit) => { val := (str r) }) := by
  cases fu with
  | zero => rw [f_lumref_digits] at h; cases h
  | succ fu =>
    rw [f_lumref_digits] at h
    refine fn_enter Try.func59 rfl Try.ntmps59 rfl (fun w0 Z0 => ?_)
    refine aw_seq ?_
    refine aw_region ?_
    refine al_val (ov_assign rfl rfl) ?_
    refine al_nil ?_
    refine aq_then ?_
    refine aw_seq ?_
    refine aw_seq ?_
    refine aw_region ?_
    refine al_val (ov_move rfl rfl) ?_
    refine al_val (ov_int rfl rfl rfl rfl) ?_
    refine al_nil ?_
    refine aq_then ?_
    refine aw_cond rfl (fun hb1 => ?_) (fun hb1 => ?_)
    · replace h := bif_t hb1 h
      refine aw_seq ?_
      refine aw_region ?_
      refine al_val (ov_assign rfl rfl) ?_
      refine al_nil ?_
      refine aq_then ?_
      refine aw_ret ?_
      refine aq_then_ret ?_
      obtain rfl := Option.some.inj h
      exact fn_ret () [] [] rfl rfl rfl rfl (res1 rfl rfl) rfl rfl rfl (by decide)
    · replace h := bif_f hb1 h
      refine aw_skip ?_
      refine aq_then ?_
      refine aw_seq ?_
      obtain ⟨r3, hc2, h⟩ := opt_some h
      obtain ⟨hc5, h⟩ := req_some h
      obtain ⟨hc6, h⟩ := req_some h
      refine aw_region_draw 9 [(5, (fun u => fEq u (Value.int .u64 a0))), (6, (fun u => fEq u (Value.int .u64 (IntKind.u64.wrap ((a0).tdiv (256 : Int)))))), (7, (fun u => fEq u (str r3))), (8, (fun u => fEq u (Value.int .u64 a0))), (9, (fun u => fEq u (Value.int .u64 ((a0).tmod (256 : Int))))), (10, (fun u => fEq u (Value.int .u8 (IntKind.u8.wrap ((a0).tmod (256 : Int)))))), (11, (fun v4 => (fDat (tyList tyU8) [v4] [(UInt8.ofNat ((IntKind.u8.wrap ((a0).tmod (256 : Int)))).toNat)]))), (12, (fun u => fEq u (str [(UInt8.ofNat ((IntKind.u8.wrap ((a0).tmod (256 : Int)))).toNat)]))), (13, (fun u => fEq u (str (r3 ++ ([(UInt8.ofNat ((IntKind.u8.wrap ((a0).tmod (256 : Int)))).toNat)])))))] (tab [(0, (Value.int .u64 a0)), (2, (str ([] : List UInt8)))]) mixed (by kernel_rfl) rfl rfl rfl (fun a hs => hs.tab _ (allT_mem ⟨rfl, rfl, trivial⟩)) ⟨⟨rfl, ld_val (ov_move rfl rfl)⟩, ⟨rfl, ld_eq (j := 0) rfl rfl (ld_val (ov_quo (by decide) rfl rfl rfl))⟩, ⟨rfl, ld_eq (j := 1) rfl rfl (ld_callV (vs := [(Value.int .u64 (IntKind.u64.wrap ((a0).tdiv (256 : Int))))]) (f_lumref_digits_ok fu (IntKind.u64.wrap ((a0).tdiv (256 : Int))) hc2) [] pre_nil rfl Try.func59 rfl rfl rfl)⟩, ⟨rfl, ld_val (ov_move rfl rfl)⟩, ⟨rfl, ld_eq (j := 3) rfl rfl (ld_val (ov_rem (by decide) rfl rfl rfl))⟩, ⟨rfl, ld_eq (j := 4) rfl rfl (ld_val (ov_convInt (by rw [Try.underlying22]; rfl) Try.underlying5 rfl rfl))⟩, ⟨rfl, ld_eq (j := 5) rfl rfl (ld_buildSlice (τ := tyU8) (e := 5) (k := 1) (cs := [(Value.int .u8 (IntKind.u8.wrap ((a0).tmod (256 : Int))))]) (xs := [(UInt8.ofNat ((IntKind.u8.wrap ((a0).tmod (256 : Int)))).toNat)]) rfl (by decide) rfl (fun w a hm hs => ⟨([(Value.int .u8 (IntKind.u8.wrap ((a0).tmod (256 : Int))))]).toArray, rfl, by simp only [List.map_toArray, List.map_cons, List.map_nil, hs.ev (x := .tmp 10) rfl]; exact run_bs [(Value.int .u8 (IntKind.u8.wrap ((a0).tmod (256 : Int))))] [(Value.int .u8 (IntKind.u8.wrap ((a0).tmod (256 : Int))))] Try.underlying62 to5 rfl rfl (bs_cons (l := [(Value.int .u8 (IntKind.u8.wrap ((a0).tmod (256 : Int))))]) (cs := []) (cv_rfl rfl) rfl bs_nil) hm⟩) (fun hm => ⟨_, _, rfl, (fun _ => u8_rep hc5) hm, rfl⟩) rfl)⟩, ⟨rfl, ld_fact (j := 6) rfl rfl (fun v4 => ld_val (ov_toStr 0 rfl rfl Try.underlying62 Try.underlying5 Try.underlying9 rfl))⟩, ⟨rfl, ld_eq (j := 2) rfl rfl (ld_eq (j := 7) rfl rfl (ld_val (ov_strAdd hc6 rfl rfl rfl)))⟩, trivial⟩ ?_
      refine tl_eq 8 rfl ?_
      refine tl_done ?_
      refine al_val (ov_assign rfl rfl) ?_
      refine al_nil ?_
      refine aq_then ?_
      refine aw_ret ?_
      obtain rfl := Option.some.inj h
      exact fn_ret () [] [] rfl rfl rfl rfl (res1 rfl rfl) rfl rfl rfl (by decide)
def f_lumref_wide (fu : Nat) (a0 : Int) : Option (List UInt8) := (opt (f_lumref_digits fu a0) fun (r2 : (List UInt8)) => (opt (f_strings_Repeat fu ([0] : List UInt8) (IntKind.i64.wrap ((8 : Int) - (r2.length : Int)))) fun (r4 : (List UInt8)) => (req (r4.length + r2.length ≤ 9223372036854775807) (some (r4 ++ r2)))))
set_option maxRecDepth 100000 in
theorem f_lumref_wide_ok (fu : Nat) (a0 : Int) {r : (List UInt8)} (h : f_lumref_wide fu a0 = some r) : FnOk Try.prog 38 [(Value.int .u64 a0)] [] [] (fun (i : Unit) => { val := (str r) }) := by
  unfold f_lumref_wide at h
  refine fn_enter Try.func38 rfl Try.ntmps38 rfl (fun w0 Z0 => ?_)
  refine aw_seq ?_
  refine aw_region ?_
  refine al_val (ov_assign rfl rfl) ?_
  refine al_nil ?_
  refine aq_then ?_
  refine aw_seq ?_
  refine aw_region ?_
  refine al_val (ov_move rfl rfl) ?_
  obtain ⟨r2, hc1, h⟩ := opt_some h
  refine al_call (vs := [(Value.int .u64 a0)]) (f_lumref_digits_ok fu a0 hc1) [] [] [] pre_nil rfl (by simp) (by decide) (.inl rfl) rfl Try.func59 rfl rfl rfl (fun _ => ?_)
  refine al_val (ov_assign rfl rfl) ?_
  refine al_nil ?_
  refine aq_then ?_
  refine aw_seq ?_
  refine aw_region ?_
  refine al_val (ov_move rfl rfl) ?_
  refine al_val (ov_strLen Try.underlying9 rfl rfl) ?_
  refine al_val (ov_int rfl rfl rfl rfl) ?_
  obtain ⟨r4, hc3, h⟩ := opt_some h
  refine al_call (vs := [(str ([0] : List UInt8)), (Value.int .i64 (IntKind.i64.wrap ((8 : Int) - (r2.length : Int))))]) (f_strings_Repeat_ok fu ([0] : List UInt8) (IntKind.i64.wrap ((8 : Int) - (r2.length : Int))) hc3) [] [] [] pre_nil rfl (by simp) (by decide) (.inl rfl) rfl Try.func34 rfl rfl rfl (fun _ => ?_)
  refine al_val (ov_move rfl rfl) ?_
  obtain ⟨hc5, h⟩ := req_some h
  refine al_val (ov_strAdd hc5 rfl rfl rfl) ?_
  refine al_val (ov_assign rfl rfl) ?_
  refine al_nil ?_
  refine aq_then ?_
  refine aw_ret ?_
  obtain rfl := Option.some.inj h
  exact fn_ret () [] [] rfl rfl rfl rfl (res1 rfl rfl) rfl rfl rfl (by decide)
def f_lumref_ID (fu : Nat) (a0 : (List UInt8)) : Option A8u8 := (opt (f_lumref_Narrow fu (64 : Int) a0) fun (r3 : Int) => (opt (f_lumref_wide fu r3) fun (r5 : (List UInt8)) => (req (r5.length ≤ 9223372036854775807) (req (8 ≤ r5.length) (some (ofA8u8 r5))))))
set_option maxRecDepth 100000 in
theorem f_lumref_ID_ok (fu : Nat) (a0 : (List UInt8)) {r : A8u8} (h : f_lumref_ID fu a0 = some r) : FnOk Try.prog 20 [(str a0)] [] [] (fun (i : Unit) => { val := (ag (cA8u8 r)) }) := by
  unfold f_lumref_ID at h
  refine fn_enter Try.func20 rfl Try.ntmps20 rfl (fun w0 Z0 => ?_)
  refine aw_seq ?_
  refine aw_region ?_
  refine al_alloc (zs := (cA8u8 (A8u8.mk (0 : UInt8) (0 : UInt8) (0 : UInt8) (0 : UInt8) (0 : UInt8) (0 : UInt8) (0 : UInt8) (0 : UInt8)))) (zeroOf_to to26) rfl rfl (fun g1 => ?_)
  refine al_nil ?_
  refine aq_then ?_
  refine aw_seq ?_
  refine aw_region ?_
  refine al_val (ov_move rfl rfl) ?_
  obtain ⟨r3, hc2, h⟩ := opt_some h
  refine al_call (vs := [(Value.int .i64 (64 : Int)), (str a0)]) (f_lumref_Narrow_ok fu (64 : Int) a0 hc2) [] [] [0] pre_nil rfl (by simp) (by decide) (.inl rfl) rfl Try.func14 rfl rfl rfl (fun _ => ?_)
  obtain ⟨r5, hc4, h⟩ := opt_some h
  refine al_call (vs := [(Value.int .u64 r3)]) (f_lumref_wide_ok fu r3 hc4) [] [] [0] pre_nil rfl (by simp) (by decide) (.inl rfl) rfl Try.func38 rfl rfl rfl (fun _ => ?_)
  obtain ⟨hc6, h⟩ := req_some h
  refine al_bytes hc6 rfl Try.underlying9 Try.underlying62 Try.underlying5 rfl (fun s7 => ?_)
  obtain ⟨hc9, h⟩ := req_some h
  refine al_s2ap (τA := tyA8u8) (x := (ofA8u8 r5)) 0 8 hc9 rfl (fun h9 => oflA8u8 hc9 h9) rfl rfl Try.underlying26 rfl (fun p8 => ?_)
  refine al_val (ov_loadP (ds := (cA8u8 (ofA8u8 r5))) 0 rfl encA8u8 rfl Try.underlying26 sz26 rfl rfl rfl) ?_
  refine al_store (i := 0) (vs := (cA8u8 (ofA8u8 r5))) (cs' := (cA8u8 (ofA8u8 r5))) rfl rfl rfl sz26 (cv_rfl rfl) rfl (co_all (oneA8u8 (ofA8u8 r5))) (Nat.le_of_ble_eq_true rfl) rfl rfl ?_
  refine al_nil ?_
  refine aq_then ?_
  refine aw_ret ?_
  obtain rfl := Option.some.inj h
  exact fn_ret () [] [] rfl rfl rfl rfl (resC rfl (resB (i := 0) rfl rfl Try.underlying26 sz26 rfl rfl rfl (resN)) rfl) rfl rfl rfl (by decide)
def f_stringslite_HasPrefix (fu : Nat) (a0 : (List UInt8)) (a1 : (List UInt8)) : Option Bool := (lt (fun (j1b4 : Bool) => (some j1b4)) fun (kk2 : Bool → Option Bool) => (bif (decide ((a0.length : Int) ≥ (a1.length : Int))) then (req (0 ≤ (a1.length : Int) ∧ (a1.length : Int) ≤ (a0.length : Int)) (kk2 ((a0.take ((a1.length : Int)).toNat) == a1))) else (kk2 false)))
set_option maxRecDepth 100000 in
theorem f_stringslite_HasPrefix_ok (fu : Nat) (a0 : (List UInt8)) (a1 : (List UInt8)) {r : Bool} (h : f_stringslite_HasPrefix fu a0 a1 = some r) : FnOk Try.prog 73 [(str a0), (str a1)] [] [] (fun (i : Unit) => { val := (Value.bool r) }) := by
  unfold f_stringslite_HasPrefix at h
  refine fn_enter Try.func73 rfl Try.ntmps73 rfl (fun w0 Z0 => ?_)
  refine aw_seq ?_
  refine aw_region ?_
  refine al_val (ov_assign rfl rfl) ?_
  refine al_nil ?_
  refine aq_then ?_
  obtain ⟨kk2, hkk2, h⟩ := lt_some h
  refine aw_seq_join (ι := Bool) (fun i => (memOf w0 Z0 [] [] [])) (fun i => (tab [(4, (Value.bool i))])) (fun i => kk2 i = some r) ?_ ?_
  · rintro j1b4 h
    have h : kk2 j1b4 = some r := h
    rw [hkk2] at h
    dsimp only at h
    clear hkk2
    refine aw_show (m := (memOf w0 Z0 [] [] [])) (S := (tab [(4, (Value.bool j1b4))])) ?_
    refine aw_ret ?_
    obtain rfl := Option.some.inj h
    exact fn_ret () [] [] rfl rfl rfl rfl (res1 rfl rfl) rfl rfl rfl (by decide)
  · clear hkk2
    refine aw_region ?_
    refine al_val (ov_move rfl rfl) ?_
    refine al_val (ov_strLen Try.underlying9 rfl rfl) ?_
    refine al_val (ov_move rfl rfl) ?_
    refine al_val (ov_strLen Try.underlying9 rfl rfl) ?_
    refine al_val (ov_int rfl rfl rfl rfl) ?_
    refine al_val (ov_move rfl rfl) ?_
    refine al_caseB 10 rfl (fun hb3 => ?_) (fun hb3 => ?_)
    · replace h := bif_t hb3 h
      refine al_val (ov_move rfl rfl) ?_
      refine al_val (ov_move rfl rfl) ?_
      refine al_val (ov_strLen Try.underlying9 rfl rfl) ?_
      obtain ⟨hc4, h⟩ := req_some h
      refine al_val (ov_strTo hc4.1 hc4.2 Try.underlying9 rfl rfl rfl) ?_
      refine al_val (ov_move rfl rfl) ?_
      refine al_val (ov_strCmp rfl rfl rfl rfl) ?_
      refine al_val (ov_pick_t rfl rfl rfl) ?_
      refine al_val (ov_assign rfl rfl) ?_
      refine al_nil ?_
      exact aq_join ((a0.take ((a1.length : Int)).toNat) == a1) h (fun w a hm hs => norm hm hs [] [] [(4, (Value.bool ((a0.take ((a1.length : Int)).toNat) == a1)))] (by decide) ⟨rfl, trivial⟩)
    · replace h := bif_f hb3 h
      refine al_skip ?_
      refine al_skip ?_
      refine al_skip ?_
      refine al_skip ?_
      refine al_skip ?_
      refine al_skip ?_
      refine al_val (ov_pick_f rfl rfl rfl) ?_
      refine al_val (ov_assign rfl rfl) ?_
      refine al_nil ?_
      exact aq_join false h (fun w a hm hs => norm hm hs [] [] [(4, (Value.bool false))] (by decide) ⟨rfl, trivial⟩)
def f_strings_HasPrefix (fu : Nat) (a0 : (List UInt8)) (a1 : (List UInt8)) : Option Bool := (opt (f_stringslite_HasPrefix fu a0 a1) fun (r2 : Bool) => (some r2))
set_option maxRecDepth 100000 in
theorem f_strings_HasPrefix_ok (fu : Nat) (a0 : (List UInt8)) (a1 : (List UInt8)) {r : Bool} (h : f_strings_HasPrefix fu a0 a1 = some r) : FnOk Try.prog 54 [(str a0), (str a1)] [] [] (fun (i : Unit) => { val := (Value.bool r) }) := by
  unfold f_strings_HasPrefix at h
  refine fn_enter Try.func54 rfl Try.ntmps54 rfl (fun w0 Z0 => ?_)
  refine aw_seq ?_
  refine aw_region ?_
  refine al_val (ov_assign rfl rfl) ?_
  refine al_nil ?_
  refine aq_then ?_
  refine aw_seq ?_
  refine aw_region ?_
  refine al_val (ov_move rfl rfl) ?_
  refine al_val (ov_move rfl rfl) ?_
  obtain ⟨r2, hc1, h⟩ := opt_some h
  refine al_call (vs := [(str a0), (str a1)]) (f_stringslite_HasPrefix_ok fu a0 a1 hc1) [] [] [] pre_nil rfl (by simp) (by decide) (.inl rfl) rfl Try.func73 rfl rfl rfl (fun _ => ?_)
  refine al_val (ov_assign rfl rfl) ?_
  refine al_nil ?_
  refine aq_then ?_
  refine aw_ret ?_
  obtain rfl := Option.some.inj h
  exact fn_ret () [] [] rfl rfl rfl rfl (res1 rfl rfl) rfl rfl rfl (by decide)
def f_lumref_number : Nat → (List UInt8) → Option Int
  | 0, _ => none
  | fu + 1, a0 => (bif (a0 == ([] : List UInt8)) then (some (0 : Int)) else (req (0 ≤ (IntKind.i64.wrap ((a0.length : Int) - (1 : Int))) ∧ (IntKind.i64.wrap ((a0.length : Int) - (1 : Int))) ≤ (a0.length : Int)) (opt (f_lumref_number fu (a0.take ((IntKind.i64.wrap ((a0.length : Int) - (1 : Int)))).toNat)) fun (r4 : Int) => (req (0 ≤ (IntKind.i64.wrap ((a0.length : Int) - (1 : Int))) ∧ (IntKind.i64.wrap ((a0.length : Int) - (1 : Int))) < (a0.length : Int)) (some (IntKind.u64.wrap ((IntKind.u64.wrap ((256 : Int) * r4)) + (IntKind.u64.wrap (En.bAt a0 (IntKind.i64.wrap ((a0.length : Int) - (1 : Int))))))))))))
set_option maxRecDepth 100000 in
theorem f_lumref_number_ok (fu : Nat) (a0 : (List UInt8)) {r : Int} (h : f_lumref_number fu a0 = some r) : FnOk Try.prog 30 [(str a0)] [] [] (fun (i : Unit) => { val := (Value.int .u64 r) }) := by
  cases fu with
  | zero => rw [f_lumref_number] at h; cases h
  | succ fu =>
    rw [f_lumref_number] at h
    refine fn_enter Try.func30 rfl Try.ntmps30 rfl (fun w0 Z0 => ?_)
    refine aw_seq ?_
    refine aw_region ?_
    refine al_val (ov_assign rfl rfl) ?_
    refine al_nil ?_
    refine aq_then ?_
    refine aw_seq ?_
    refine aw_seq ?_
    refine aw_region ?_
    refine al_val (ov_move rfl rfl) ?_
    refine al_val (ov_strCmp rfl rfl rfl rfl) ?_
    refine al_nil ?_
    refine aq_then ?_
    refine aw_cond rfl (fun hb1 => ?_) (fun hb1 => ?_)
    · replace h := bif_t hb1 h
      refine aw_seq ?_
      refine aw_region ?_
      refine al_val (ov_assign rfl rfl) ?_
      refine al_nil ?_
      refine aq_then ?_
      refine aw_ret ?_
      refine aq_then_ret ?_
      obtain rfl := Option.some.inj h
      exact fn_ret () [] [] rfl rfl rfl rfl (res1 rfl rfl) rfl rfl rfl (by decide)
    · replace h := bif_f hb1 h
      refine aw_skip ?_
      refine aq_then ?_
      refine aw_seq ?_
      obtain ⟨hc2, h⟩ := req_some h
      obtain ⟨r4, hc3, h⟩ := opt_some h
      obtain ⟨hc5, h⟩ := req_some h
      refine aw_region_draw 14 [(5, (fun u => fEq u (str a0))), (6, (fun u => fEq u (str a0))), (7, (fun u => fEq u (Value.int .i64 (a0.length : Int)))), (8, (fun u => fEq u (Value.int .i64 (IntKind.i64.wrap ((a0.length : Int) - (1 : Int)))))), (9, (fun u => fEq u (str (a0.take ((IntKind.i64.wrap ((a0.length : Int) - (1 : Int)))).toNat)))), (10, (fun u => fEq u (Value.int .u64 r4))), (11, (fun u => fEq u (Value.int .u64 (IntKind.u64.wrap ((256 : Int) * r4))))), (12, (fun u => fEq u (str a0))), (13, (fun u => fEq u (str a0))), (14, (fun u => fEq u (Value.int .i64 (a0.length : Int)))), (15, (fun u => fEq u (Value.int .i64 (IntKind.i64.wrap ((a0.length : Int) - (1 : Int)))))), (16, (fun u => fEq u (Value.int .u8 (En.bAt a0 (IntKind.i64.wrap ((a0.length : Int) - (1 : Int))))))), (17, (fun u => fEq u (Value.int .u64 (IntKind.u64.wrap (En.bAt a0 (IntKind.i64.wrap ((a0.length : Int) - (1 : Int)))))))), (18, (fun u => fEq u (Value.int .u64 (IntKind.u64.wrap ((IntKind.u64.wrap ((256 : Int) * r4)) + (IntKind.u64.wrap (En.bAt a0 (IntKind.i64.wrap ((a0.length : Int) - (1 : Int))))))))))] (tab [(0, (str a0)), (2, (Value.int .u64 (0 : Int)))]) mixed (by kernel_rfl) rfl rfl rfl (fun a hs => hs.tab _ (allT_mem ⟨rfl, rfl, trivial⟩)) ⟨⟨rfl, ld_val (ov_move rfl rfl)⟩, ⟨rfl, ld_val (ov_move rfl rfl)⟩, ⟨rfl, ld_eq (j := 1) rfl rfl (ld_val (ov_strLen Try.underlying9 rfl rfl))⟩, ⟨rfl, ld_eq (j := 2) rfl rfl (ld_val (ov_int rfl rfl rfl rfl))⟩, ⟨rfl, ld_eq (j := 0) rfl rfl (ld_eq (j := 3) rfl rfl (ld_val (ov_strTo hc2.1 hc2.2 Try.underlying9 rfl rfl rfl)))⟩, ⟨rfl, ld_eq (j := 4) rfl rfl (ld_callV (vs := [(str (a0.take ((IntKind.i64.wrap ((a0.length : Int) - (1 : Int)))).toNat))]) (f_lumref_number_ok fu (a0.take ((IntKind.i64.wrap ((a0.length : Int) - (1 : Int)))).toNat) hc3) [] pre_nil rfl Try.func30 rfl rfl rfl)⟩, ⟨rfl, ld_eq (j := 5) rfl rfl (ld_val (ov_int rfl rfl rfl rfl))⟩, ⟨rfl, ld_val (ov_move rfl rfl)⟩, ⟨rfl, ld_val (ov_move rfl rfl)⟩, ⟨rfl, ld_eq (j := 8) rfl rfl (ld_val (ov_strLen Try.underlying9 rfl rfl))⟩, ⟨rfl, ld_eq (j := 9) rfl rfl (ld_val (ov_int rfl rfl rfl rfl))⟩, ⟨rfl, ld_eq (j := 7) rfl rfl (ld_eq (j := 10) rfl rfl (ld_val (ov_strIdx hc5.1 hc5.2 Try.underlying9 rfl rfl rfl)))⟩, ⟨rfl, ld_eq (j := 11) rfl rfl (ld_val (ov_convInt (by rw [Try.underlying5]; rfl) Try.underlying22 rfl rfl))⟩, ⟨rfl, ld_eq (j := 6) rfl rfl (ld_eq (j := 12) rfl rfl (ld_val (ov_int rfl rfl rfl rfl)))⟩, trivial⟩ ?_
      refine tl_eq 13 rfl ?_
      refine tl_done ?_
      refine al_val (ov_assign rfl rfl) ?_
      refine al_nil ?_
      refine aq_then ?_
      refine aw_ret ?_
      obtain rfl := Option.some.inj h
      exact fn_ret () [] [] rfl rfl rfl rfl (res1 rfl rfl) rfl rfl rfl (by decide)
def f_lumref_Get (fu : Nat) (a0 : (List UInt8)) : Option (Int × Int × Int) := (bif ((a0.length : Int) == (0 : Int)) then (some ((0 : Int), (0 : Int), (3 : Int))) else (req (0 ≤ (0 : Int) ∧ (0 : Int) < (a0.length : Int)) (bif (decide ((En.bAt a0 (0 : Int)) > (8 : Int))) then (some ((0 : Int), (0 : Int), (4 : Int))) else (req (0 ≤ (0 : Int) ∧ (0 : Int) < (a0.length : Int)) (bif (decide ((a0.length : Int) < (IntKind.i64.wrap ((1 : Int) + (IntKind.i64.wrap (En.bAt a0 (0 : Int))))))) then (some ((0 : Int), (0 : Int), (3 : Int))) else (req (0 ≤ (1 : Int) ∧ (1 : Int) ≤ (IntKind.i64.wrap ((1 : Int) + (IntKind.i64.wrap (En.bAt a0 (0 : Int))))) ∧ (IntKind.i64.wrap ((1 : Int) + (IntKind.i64.wrap (En.bAt a0 (0 : Int))))) ≤ (a0.length : Int)) (opt (f_strings_HasPrefix fu (cut a0 (1 : Int) (IntKind.i64.wrap ((1 : Int) + (IntKind.i64.wrap (En.bAt a0 (0 : Int)))))) ([0] : List UInt8)) fun (r8 : Bool) => (bif r8 then (some ((0 : Int), (0 : Int), (4 : Int))) else (req (0 ≤ (1 : Int) ∧ (1 : Int) ≤ (IntKind.i64.wrap ((1 : Int) + (IntKind.i64.wrap (En.bAt a0 (0 : Int))))) ∧ (IntKind.i64.wrap ((1 : Int) + (IntKind.i64.wrap (En.bAt a0 (0 : Int))))) ≤ (a0.length : Int)) (opt (f_lumref_number fu (cut a0 (1 : Int) (IntKind.i64.wrap ((1 : Int) + (IntKind.i64.wrap (En.bAt a0 (0 : Int))))))) fun (r12 : Int) => (some (r12, (IntKind.i64.wrap ((1 : Int) + (IntKind.i64.wrap (En.bAt a0 (0 : Int))))), (0 : Int)))))))))))))
set_option maxRecDepth 100000 in
theorem f_lumref_Get_ok (fu : Nat) (a0 : (List UInt8)) {r : (Int × Int × Int)} (h : f_lumref_Get fu a0 = some r) : FnOk Try.prog 40 [(str a0)] [] [] (fun (i : Unit) => { val := (Value.tuple #[(Value.int .u64 r.1), (Value.int .i64 r.2.1), (Value.int .i64 r.2.2)]) }) := by
  unfold f_lumref_Get at h
  refine fn_enter Try.func40 rfl Try.ntmps40 rfl (fun w0 Z0 => ?_)
  refine aw_seq ?_
  refine aw_region ?_
  refine al_val (ov_assign rfl rfl) ?_
  refine al_val (ov_assign rfl rfl) ?_
  refine al_val (ov_assign rfl rfl) ?_
  refine al_nil ?_
  refine aq_then ?_
  refine aw_seq ?_
  refine aw_seq ?_
  refine aw_region ?_
  refine al_val (ov_move rfl rfl) ?_
  refine al_val (ov_strLen Try.underlying9 rfl rfl) ?_
  refine al_val (ov_int rfl rfl rfl rfl) ?_
  refine al_nil ?_
  refine aq_then ?_
  refine aw_cond rfl (fun hb1 => ?_) (fun hb1 => ?_)
  · replace h := bif_t hb1 h
    refine aw_seq ?_
    refine aw_region ?_
    refine al_val (ov_assign rfl rfl) ?_
    refine al_val (ov_assign rfl rfl) ?_
    refine al_val (ov_assign rfl rfl) ?_
    refine al_nil ?_
    refine aq_then ?_
    refine aw_ret ?_
    refine aq_then_ret ?_
    obtain rfl := Option.some.inj h
    exact fn_ret () [] [] rfl rfl rfl rfl (res3 rfl rfl rfl rfl) rfl rfl rfl (by decide)
  · replace h := bif_f hb1 h
    refine aw_skip ?_
    refine aq_then ?_
    refine aw_seq ?_
    refine aw_seq ?_
    refine aw_region ?_
    refine al_val (ov_move rfl rfl) ?_
    obtain ⟨hc2, h⟩ := req_some h
    refine al_val (ov_strIdx hc2.1 hc2.2 Try.underlying9 rfl rfl rfl) ?_
    refine al_val (ov_int rfl rfl rfl rfl) ?_
    refine al_nil ?_
    refine aq_then ?_
    refine aw_cond rfl (fun hb3 => ?_) (fun hb3 => ?_)
    · replace h := bif_t hb3 h
      refine aw_seq ?_
      refine aw_region ?_
      refine al_val (ov_assign rfl rfl) ?_
      refine al_val (ov_assign rfl rfl) ?_
      refine al_val (ov_assign rfl rfl) ?_
      refine al_nil ?_
      refine aq_then ?_
      refine aw_ret ?_
      refine aq_then_ret ?_
      obtain rfl := Option.some.inj h
      exact fn_ret () [] [] rfl rfl rfl rfl (res3 rfl rfl rfl rfl) rfl rfl rfl (by decide)
    · replace h := bif_f hb3 h
      refine aw_skip ?_
      refine aq_then ?_
      refine aw_seq ?_
      refine aw_region ?_
      refine al_val (ov_move rfl rfl) ?_
      obtain ⟨hc4, h⟩ := req_some h
      refine al_val (ov_strIdx hc4.1 hc4.2 Try.underlying9 rfl rfl rfl) ?_
      refine al_val (ov_convInt (by rw [Try.underlying5]; rfl) Try.underlying3 rfl rfl) ?_
      refine al_val (ov_int rfl rfl rfl rfl) ?_
      refine al_val (ov_assign rfl rfl) ?_
      refine al_nil ?_
      refine aq_then ?_
      refine aw_seq ?_
      refine aw_seq ?_
      refine aw_region ?_
      refine al_val (ov_move rfl rfl) ?_
      refine al_val (ov_strLen Try.underlying9 rfl rfl) ?_
      refine al_val (ov_move rfl rfl) ?_
      refine al_val (ov_int rfl rfl rfl rfl) ?_
      refine al_nil ?_
      refine aq_then ?_
      refine aw_cond rfl (fun hb5 => ?_) (fun hb5 => ?_)
      · replace h := bif_t hb5 h
        refine aw_seq ?_
        refine aw_region ?_
        refine al_val (ov_assign rfl rfl) ?_
        refine al_val (ov_assign rfl rfl) ?_
        refine al_val (ov_assign rfl rfl) ?_
        refine al_nil ?_
        refine aq_then ?_
        refine aw_ret ?_
        refine aq_then_ret ?_
        obtain rfl := Option.some.inj h
        exact fn_ret () [] [] rfl rfl rfl rfl (res3 rfl rfl rfl rfl) rfl rfl rfl (by decide)
      · replace h := bif_f hb5 h
        refine aw_skip ?_
        refine aq_then ?_
        refine aw_seq ?_
        refine aw_seq ?_
        refine aw_region ?_
        refine al_val (ov_move rfl rfl) ?_
        refine al_val (ov_move rfl rfl) ?_
        obtain ⟨hc6, h⟩ := req_some h
        refine al_val (ov_strCut hc6.1 hc6.2.1 hc6.2.2 Try.underlying9 rfl rfl rfl rfl) ?_
        obtain ⟨r8, hc7, h⟩ := opt_some h
        refine al_call (vs := [(str (cut a0 (1 : Int) (IntKind.i64.wrap ((1 : Int) + (IntKind.i64.wrap (En.bAt a0 (0 : Int))))))), (str ([0] : List UInt8))]) (f_strings_HasPrefix_ok fu (cut a0 (1 : Int) (IntKind.i64.wrap ((1 : Int) + (IntKind.i64.wrap (En.bAt a0 (0 : Int)))))) ([0] : List UInt8) hc7) [] [] [] pre_nil rfl (by simp) (by decide) (.inl rfl) rfl Try.func54 rfl rfl rfl (fun _ => ?_)
        refine al_nil ?_
        refine aq_then ?_
        refine aw_cond rfl (fun hb9 => ?_) (fun hb9 => ?_)
        · replace h := bif_t hb9 h
          refine aw_seq ?_
          refine aw_region ?_
          refine al_val (ov_assign rfl rfl) ?_
          refine al_val (ov_assign rfl rfl) ?_
          refine al_val (ov_assign rfl rfl) ?_
          refine al_nil ?_
          refine aq_then ?_
          refine aw_ret ?_
          refine aq_then_ret ?_
          obtain rfl := Option.some.inj h
          exact fn_ret () [] [] rfl rfl rfl rfl (res3 rfl rfl rfl rfl) rfl rfl rfl (by decide)
        · replace h := bif_f hb9 h
          refine aw_skip ?_
          refine aq_then ?_
          refine aw_seq ?_
          refine aw_region ?_
          refine al_val (ov_move rfl rfl) ?_
          refine al_val (ov_move rfl rfl) ?_
          obtain ⟨hc10, h⟩ := req_some h
          refine al_val (ov_strCut hc10.1 hc10.2.1 hc10.2.2 Try.underlying9 rfl rfl rfl rfl) ?_
          obtain ⟨r12, hc11, h⟩ := opt_some h
          refine al_call (vs := [(str (cut a0 (1 : Int) (IntKind.i64.wrap ((1 : Int) + (IntKind.i64.wrap (En.bAt a0 (0 : Int)))))))]) (f_lumref_number_ok fu (cut a0 (1 : Int) (IntKind.i64.wrap ((1 : Int) + (IntKind.i64.wrap (En.bAt a0 (0 : Int)))))) hc11) [] [] [] pre_nil rfl (by simp) (by decide) (.inl rfl) rfl Try.func30 rfl rfl rfl (fun _ => ?_)
          refine al_val (ov_move rfl rfl) ?_
          refine al_val (ov_assign rfl rfl) ?_
          refine al_val (ov_assign rfl rfl) ?_
          refine al_val (ov_assign rfl rfl) ?_
          refine al_nil ?_
          refine aq_then ?_
          refine aw_ret ?_
          obtain rfl := Option.some.inj h
          exact fn_ret () [] [] rfl rfl rfl rfl (res3 rfl rfl rfl rfl) rfl rfl rfl (by decide)
def f_lumref_kindOK (fu : Nat) (a0 : Int) : Option Bool := (lt (fun (j1b2 : Bool) => (some j1b2)) fun (kk2 : Bool → Option Bool) => (bif (a0 == (1 : Int)) then (kk2 true) else (bif (a0 == (2 : Int)) then (kk2 true) else (kk2 (a0 == (3 : Int))))))
set_option maxRecDepth 100000 in
theorem f_lumref_kindOK_ok (fu : Nat) (a0 : Int) {r : Bool} (h : f_lumref_kindOK fu a0 = some r) : FnOk Try.prog 41 [(Value.int .i64 a0)] [] [] (fun (i : Unit) => { val := (Value.bool r) }) := by
  unfold f_lumref_kindOK at h
  refine fn_enter Try.func41 rfl Try.ntmps41 rfl (fun w0 Z0 => ?_)
  refine aw_seq ?_
  refine aw_region ?_
  refine al_val (ov_assign rfl rfl) ?_
  refine al_nil ?_
  refine aq_then ?_
  obtain ⟨kk2, hkk2, h⟩ := lt_some h
  refine aw_seq_join (ι := Bool) (fun i => (memOf w0 Z0 [] [] [])) (fun i => (tab [(2, (Value.bool i))])) (fun i => kk2 i = some r) ?_ ?_
  · rintro j1b2 h
    have h : kk2 j1b2 = some r := h
    rw [hkk2] at h
    dsimp only at h
    clear hkk2
    refine aw_show (m := (memOf w0 Z0 [] [] [])) (S := (tab [(2, (Value.bool j1b2))])) ?_
    refine aw_ret ?_
    obtain rfl := Option.some.inj h
    exact fn_ret () [] [] rfl rfl rfl rfl (res1 rfl rfl) rfl rfl rfl (by decide)
  · clear hkk2
    refine aw_region ?_
    refine al_val (ov_move rfl rfl) ?_
    refine al_val (ov_int rfl rfl rfl rfl) ?_
    refine al_val (ov_move rfl rfl) ?_
    refine al_caseB 5 rfl (fun hb3 => ?_) (fun hb3 => ?_)
    · replace h := bif_t hb3 h
      refine al_skip ?_
      refine al_skip ?_
      refine al_val (ov_pick_t rfl rfl rfl) ?_
      refine al_val (ov_move rfl rfl) ?_
      refine al_skip ?_
      refine al_skip ?_
      refine al_val (ov_pick_t rfl rfl rfl) ?_
      refine al_val (ov_assign rfl rfl) ?_
      refine al_nil ?_
      exact aq_join true h (fun w a hm hs => norm hm hs [] [] [(2, (Value.bool true))] (by decide) ⟨rfl, trivial⟩)
    · replace h := bif_f hb3 h
      refine al_val (ov_move rfl rfl) ?_
      refine al_val (ov_int rfl rfl rfl rfl) ?_
      refine al_val (ov_pick_f rfl rfl rfl) ?_
      refine al_val (ov_move rfl rfl) ?_
      refine al_caseB 9 rfl (fun hb4 => ?_) (fun hb4 => ?_)
      · replace h := bif_t hb4 h
        refine al_skip ?_
        refine al_skip ?_
        refine al_val (ov_pick_t rfl rfl rfl) ?_
        refine al_val (ov_assign rfl rfl) ?_
        refine al_nil ?_
        exact aq_join true h (fun w a hm hs => norm hm hs [] [] [(2, (Value.bool true))] (by decide) ⟨rfl, trivial⟩)
      · replace h := bif_f hb4 h
        refine al_val (ov_move rfl rfl) ?_
        refine al_val (ov_int rfl rfl rfl rfl) ?_
        refine al_val (ov_pick_f rfl rfl rfl) ?_
        refine al_val (ov_assign rfl rfl) ?_
        refine al_nil ?_
        exact aq_join (a0 == (3 : Int)) h (fun w a hm hs => norm hm hs [] [] [(2, (Value.bool (a0 == (3 : Int))))] (by decide) ⟨rfl, trivial⟩)
def f_lumref_PackList_L53 (l25s8 : (List UInt8)) (l25x12 : (List S_api_Entry)) (kk45 : (Unit → Option ((List S_api_Entry) × Int))) : Nat → Int → Option ((List S_api_Entry) × Int)
  | 0, _ => none
  | k52 + 1, l51i117 => (bif (decide (l51i117 < (l25x12.length : Int))) then (opt (at? l25x12 l51i117) fun (u55 : S_api_Entry) => (bif (u55.ID == (cpA8u8 (A8u8.mk (0 : UInt8) (0 : UInt8) (0 : UInt8) (0 : UInt8) (0 : UInt8) (0 : UInt8) (0 : UInt8) (0 : UInt8)) (cut l25s8 (1 : Int) (9 : Int)))) then (some (([] : List S_api_Entry), (4 : Int))) else (f_lumref_PackList_L53 l25s8 l25x12 kk45 k52 (IntKind.i64.wrap (l51i117 + (1 : Int)))))) else (kk45 ()))
def f_lumref_PackList_L27 (a0 : (List UInt8)) (r15 : (Int × Int × Int)) (kk20 : ((List UInt8) → (List S_api_Entry) → Int → Option ((List S_api_Entry) × Int))) (fu : Nat) : Nat → (List UInt8) → (List S_api_Entry) → Int → Int → Option ((List S_api_Entry) × Int)
  | 0, _, _, _, _ => none
  | k26 + 1, l25s8, l25x12, l25i13, l25i81 => (lt (fun (l25s8 : (List UInt8)) (l25x12 : (List S_api_Entry)) (l25i13 : Int) (l25i81 : Int) => (f_lumref_PackList_L27 a0 r15 kk20 fu k26 l25s8 l25x12 l25i13 l25i81)) fun (kk28 : (List UInt8) → (List S_api_Entry) → Int → Int → Option ((List S_api_Entry) × Int)) => (bif (decide (l25i81 < r15.1)) then (lt (fun (j30s8 : (List UInt8)) (j30x12 : (List S_api_Entry)) (j30i13 : Int) => (kk28 j30s8 j30x12 j30i13 (IntKind.u64.wrap (l25i81 + (1 : Int))))) fun (kk31 : (List UInt8) → (List S_api_Entry) → Int → Option ((List S_api_Entry) × Int)) => (bif (decide ((l25s8.length : Int) < (9 : Int))) then (some (([] : List S_api_Entry), (3 : Int))) else (req (0 ≤ (0 : Int) ∧ (0 : Int) < (l25s8.length : Int)) (req (0 ≤ (1 : Int) ∧ (1 : Int) ≤ (9 : Int) ∧ (9 : Int) ≤ (l25s8.length : Int)) (opt (f_lumref_kindOK fu (IntKind.i64.wrap (En.bAt l25s8 (0 : Int)))) fun (r37 : Bool) => (bif (!r37) then (some (([] : List S_api_Entry), (5 : Int))) else (req (0 ≤ (9 : Int) ∧ (9 : Int) ≤ (l25s8.length : Int)) (opt (f_lumref_Get fu (l25s8.drop ((9 : Int)).toNat)) fun (r41 : (Int × Int × Int)) => (bif (r41.2.2 != (0 : Int)) then (some (([] : List S_api_Entry), r41.2.2)) else (bif (decide (r41.1 > (4097 : Int))) then (some (([] : List S_api_Entry), (2 : Int))) else (lt (fun (_ : Unit) => (bif (decide ((IntKind.i64.wrap (l25i13 + (IntKind.i64.wrap r41.1))) > ((a0.take ((IntKind.i64.wrap ((IntKind.i64.wrap ((IntKind.i64.wrap ((a0.length : Int) - (8 : Int))) - (2 : Int))) - (IntKind.i64.wrap ((IntKind.i64.wrap (En.bAt a0 (IntKind.i64.wrap ((IntKind.i64.wrap ((a0.length : Int) - (8 : Int))) - (2 : Int))))) + (IntKind.i64.wrap ((256 : Int) * (IntKind.i64.wrap (En.bAt a0 (IntKind.i64.wrap ((IntKind.i64.wrap ((a0.length : Int) - (8 : Int))) - (1 : Int)))))))))))).toNat).length : Int))) then (some (([] : List S_api_Entry), (4 : Int))) else (req (((l25x12.length + ([(S_api_Entry.mk (cpA8u8 (A8u8.mk (0 : UInt8) (0 : UInt8) (0 : UInt8) (0 : UInt8) (0 : UInt8) (0 : UInt8) (0 : UInt8) (0 : UInt8)) (cut l25s8 (1 : Int) (9 : Int))) (IntKind.i64.wrap (En.bAt l25s8 (0 : Int))) l25i13 (IntKind.i64.wrap r41.1))]).length) * 32 : Nat) ≤ 140737488355328 ∧ l25x12.length + ([(S_api_Entry.mk (cpA8u8 (A8u8.mk (0 : UInt8) (0 : UInt8) (0 : UInt8) (0 : UInt8) (0 : UInt8) (0 : UInt8) (0 : UInt8) (0 : UInt8)) (cut l25s8 (1 : Int) (9 : Int))) (IntKind.i64.wrap (En.bAt l25s8 (0 : Int))) l25i13 (IntKind.i64.wrap r41.1))]).length ≤ 9223372036854775807) (req (0 ≤ (IntKind.i64.wrap ((9 : Int) + r41.2.1)) ∧ (IntKind.i64.wrap ((9 : Int) + r41.2.1)) ≤ (l25s8.length : Int)) (kk31 (l25s8.drop ((IntKind.i64.wrap ((9 : Int) + r41.2.1))).toNat) (l25x12 ++ ([(S_api_Entry.mk (cpA8u8 (A8u8.mk (0 : UInt8) (0 : UInt8) (0 : UInt8) (0 : UInt8) (0 : UInt8) (0 : UInt8) (0 : UInt8) (0 : UInt8)) (cut l25s8 (1 : Int) (9 : Int))) (IntKind.i64.wrap (En.bAt l25s8 (0 : Int))) l25i13 (IntKind.i64.wrap r41.1))])) (IntKind.i64.wrap (l25i13 + (IntKind.i64.wrap r41.1)))))))) fun (kk45 : Unit → Option ((List S_api_Entry) × Int)) => (f_lumref_PackList_L53 l25s8 l25x12 kk45 fu (0 : Int))))))))))))) else (kk20 l25s8 l25x12 l25i13)))
def f_lumref_PackList (fu : Nat) (a0 : (List UInt8)) : Option ((List S_api_Entry) × Int) := (bif (decide ((a0.length : Int) < (10 : Int))) then (some (([] : List S_api_Entry), (3 : Int))) else (req (0 ≤ (IntKind.i64.wrap ((a0.length : Int) - (8 : Int))) ∧ (IntKind.i64.wrap ((a0.length : Int) - (8 : Int))) ≤ (a0.length : Int)) (opt (f_lumref_ID fu (a0.take ((IntKind.i64.wrap ((a0.length : Int) - (8 : Int)))).toNat)) fun (r4 : A8u8) => (req (0 ≤ (IntKind.i64.wrap ((a0.length : Int) - (8 : Int))) ∧ (IntKind.i64.wrap ((a0.length : Int) - (8 : Int))) ≤ (a0.length : Int)) (bif (!((lA8u8 r4) == (a0.drop ((IntKind.i64.wrap ((a0.length : Int) - (8 : Int)))).toNat))) then (some (([] : List S_api_Entry), (6 : Int))) else (req (0 ≤ (IntKind.i64.wrap ((IntKind.i64.wrap ((a0.length : Int) - (8 : Int))) - (2 : Int))) ∧ (IntKind.i64.wrap ((IntKind.i64.wrap ((a0.length : Int) - (8 : Int))) - (2 : Int))) < (a0.length : Int)) (req (0 ≤ (IntKind.i64.wrap ((IntKind.i64.wrap ((a0.length : Int) - (8 : Int))) - (1 : Int))) ∧ (IntKind.i64.wrap ((IntKind.i64.wrap ((a0.length : Int) - (8 : Int))) - (1 : Int))) < (a0.length : Int)) (bif (decide ((IntKind.i64.wrap ((IntKind.i64.wrap (En.bAt a0 (IntKind.i64.wrap ((IntKind.i64.wrap ((a0.length : Int) - (8 : Int))) - (2 : Int))))) + (IntKind.i64.wrap ((256 : Int) * (IntKind.i64.wrap (En.bAt a0 (IntKind.i64.wrap ((IntKind.i64.wrap ((a0.length : Int) - (8 : Int))) - (1 : Int))))))))) > (IntKind.i64.wrap ((IntKind.i64.wrap ((a0.length : Int) - (8 : Int))) - (2 : Int))))) then (some (([] : List S_api_Entry), (4 : Int))) else (req (0 ≤ (IntKind.i64.wrap ((IntKind.i64.wrap ((IntKind.i64.wrap ((a0.length : Int) - (8 : Int))) - (2 : Int))) - (IntKind.i64.wrap ((IntKind.i64.wrap (En.bAt a0 (IntKind.i64.wrap ((IntKind.i64.wrap ((a0.length : Int) - (8 : Int))) - (2 : Int))))) + (IntKind.i64.wrap ((256 : Int) * (IntKind.i64.wrap (En.bAt a0 (IntKind.i64.wrap ((IntKind.i64.wrap ((a0.length : Int) - (8 : Int))) - (1 : Int))))))))))) ∧ (IntKind.i64.wrap ((IntKind.i64.wrap ((IntKind.i64.wrap ((a0.length : Int) - (8 : Int))) - (2 : Int))) - (IntKind.i64.wrap ((IntKind.i64.wrap (En.bAt a0 (IntKind.i64.wrap ((IntKind.i64.wrap ((a0.length : Int) - (8 : Int))) - (2 : Int))))) + (IntKind.i64.wrap ((256 : Int) * (IntKind.i64.wrap (En.bAt a0 (IntKind.i64.wrap ((IntKind.i64.wrap ((a0.length : Int) - (8 : Int))) - (1 : Int))))))))))) ≤ (a0.length : Int)) (req (0 ≤ (IntKind.i64.wrap ((IntKind.i64.wrap ((IntKind.i64.wrap ((a0.length : Int) - (8 : Int))) - (2 : Int))) - (IntKind.i64.wrap ((IntKind.i64.wrap (En.bAt a0 (IntKind.i64.wrap ((IntKind.i64.wrap ((a0.length : Int) - (8 : Int))) - (2 : Int))))) + (IntKind.i64.wrap ((256 : Int) * (IntKind.i64.wrap (En.bAt a0 (IntKind.i64.wrap ((IntKind.i64.wrap ((a0.length : Int) - (8 : Int))) - (1 : Int))))))))))) ∧ (IntKind.i64.wrap ((IntKind.i64.wrap ((IntKind.i64.wrap ((a0.length : Int) - (8 : Int))) - (2 : Int))) - (IntKind.i64.wrap ((IntKind.i64.wrap (En.bAt a0 (IntKind.i64.wrap ((IntKind.i64.wrap ((a0.length : Int) - (8 : Int))) - (2 : Int))))) + (IntKind.i64.wrap ((256 : Int) * (IntKind.i64.wrap (En.bAt a0 (IntKind.i64.wrap ((IntKind.i64.wrap ((a0.length : Int) - (8 : Int))) - (1 : Int))))))))))) ≤ (IntKind.i64.wrap ((IntKind.i64.wrap ((a0.length : Int) - (8 : Int))) - (2 : Int))) ∧ (IntKind.i64.wrap ((IntKind.i64.wrap ((a0.length : Int) - (8 : Int))) - (2 : Int))) ≤ (a0.length : Int)) (opt (f_lumref_Get fu (cut a0 (IntKind.i64.wrap ((IntKind.i64.wrap ((IntKind.i64.wrap ((a0.length : Int) - (8 : Int))) - (2 : Int))) - (IntKind.i64.wrap ((IntKind.i64.wrap (En.bAt a0 (IntKind.i64.wrap ((IntKind.i64.wrap ((a0.length : Int) - (8 : Int))) - (2 : Int))))) + (IntKind.i64.wrap ((256 : Int) * (IntKind.i64.wrap (En.bAt a0 (IntKind.i64.wrap ((IntKind.i64.wrap ((a0.length : Int) - (8 : Int))) - (1 : Int))))))))))) (IntKind.i64.wrap ((IntKind.i64.wrap ((a0.length : Int) - (8 : Int))) - (2 : Int))))) fun (r15 : (Int × Int × Int)) => (bif (r15.2.2 != (0 : Int)) then (some (([] : List S_api_Entry), r15.2.2)) else (bif (decide (r15.1 > (40 : Int))) then (some (([] : List S_api_Entry), (2 : Int))) else (req (0 ≤ r15.2.1 ∧ r15.2.1 ≤ ((cut a0 (IntKind.i64.wrap ((IntKind.i64.wrap ((IntKind.i64.wrap ((a0.length : Int) - (8 : Int))) - (2 : Int))) - (IntKind.i64.wrap ((IntKind.i64.wrap (En.bAt a0 (IntKind.i64.wrap ((IntKind.i64.wrap ((a0.length : Int) - (8 : Int))) - (2 : Int))))) + (IntKind.i64.wrap ((256 : Int) * (IntKind.i64.wrap (En.bAt a0 (IntKind.i64.wrap ((IntKind.i64.wrap ((a0.length : Int) - (8 : Int))) - (1 : Int))))))))))) (IntKind.i64.wrap ((IntKind.i64.wrap ((a0.length : Int) - (8 : Int))) - (2 : Int)))).length : Int)) (lt (fun (j19s8 : (List UInt8)) (j19x12 : (List S_api_Entry)) (j19i13 : Int) => (lt (fun (j21b152 : Bool) => (bif j21b152 then (some (([] : List S_api_Entry), (4 : Int))) else (some (j19x12, (0 : Int))))) fun (kk22 : Bool → Option ((List S_api_Entry) × Int)) => (bif (decide ((j19s8.length : Int) > (0 : Int))) then (kk22 true) else (kk22 (decide (j19i13 < ((a0.take ((IntKind.i64.wrap ((IntKind.i64.wrap ((IntKind.i64.wrap ((a0.length : Int) - (8 : Int))) - (2 : Int))) - (IntKind.i64.wrap ((IntKind.i64.wrap (En.bAt a0 (IntKind.i64.wrap ((IntKind.i64.wrap ((a0.length : Int) - (8 : Int))) - (2 : Int))))) + (IntKind.i64.wrap ((256 : Int) * (IntKind.i64.wrap (En.bAt a0 (IntKind.i64.wrap ((IntKind.i64.wrap ((a0.length : Int) - (8 : Int))) - (1 : Int)))))))))))).toNat).length : Int))))))) fun (kk20 : (List UInt8) → (List S_api_Entry) → Int → Option ((List S_api_Entry) × Int)) => (f_lumref_PackList_L27 a0 r15 kk20 fu fu ((cut a0 (IntKind.i64.wrap ((IntKind.i64.wrap ((IntKind.i64.wrap ((a0.length : Int) - (8 : Int))) - (2 : Int))) - (IntKind.i64.wrap ((IntKind.i64.wrap (En.bAt a0 (IntKind.i64.wrap ((IntKind.i64.wrap ((a0.length : Int) - (8 : Int))) - (2 : Int))))) + (IntKind.i64.wrap ((256 : Int) * (IntKind.i64.wrap (En.bAt a0 (IntKind.i64.wrap ((IntKind.i64.wrap ((a0.length : Int) - (8 : Int))) - (1 : Int))))))))))) (IntKind.i64.wrap ((IntKind.i64.wrap ((a0.length : Int) - (8 : Int))) - (2 : Int)))).drop (r15.2.1).toNat) ([] : List S_api_Entry) (0 : Int) (0 : Int)))))))))))))))))
set_option maxRecDepth 100000 in
theorem f_lumref_PackList_ok (fu : Nat) (a0 : (List UInt8)) {r : ((List S_api_Entry) × Int)} (h : f_lumref_PackList fu a0 = some r) : FnOk Try.prog 22 [(str a0)] [] [] (fun (i : Value) => { val := (Value.tuple #[i, (Value.int .i64 r.2)]), own := [(oRow i 48 tyS_api_Entry r.1)] }) := by
  unfold f_lumref_PackList at h
  refine fn_enter Try.func22 rfl Try.ntmps22 rfl (fun w0 Z0 => ?_)
  refine aw_seq ?_
  refine aw_region ?_
  refine al_val (ov_assign rfl rfl) ?_
  refine al_val (ov_assign rfl rfl) ?_
  refine al_nil ?_
  refine aq_then ?_
  refine aw_seq ?_
  refine aw_seq ?_
  refine aw_region ?_
  refine al_val (ov_move rfl rfl) ?_
  refine al_val (ov_strLen Try.underlying9 rfl rfl) ?_
  refine al_val (ov_int rfl rfl rfl rfl) ?_
  refine al_nil ?_
  refine aq_then ?_
  refine aw_cond rfl (fun hb1 => ?_) (fun hb1 => ?_)
  · replace h := bif_t hb1 h
    refine aw_seq ?_
    refine aw_region ?_
    refine al_val (ov_assign rfl rfl) ?_
    refine al_val (ov_assign rfl rfl) ?_
    refine al_nil ?_
    refine aq_then ?_
    refine aw_ret ?_
    refine aq_then_ret ?_
    refine aq_nilR 48 tyS_api_Entry ?_
    obtain rfl := Option.some.inj h
    exact fn_ret (Value.slice none 0 0) [0] [] rfl rfl rfl rfl (res2 rfl rfl rfl) rfl rfl rfl (by decide)
  · replace h := bif_f hb1 h
    refine aw_skip ?_
    refine aq_then ?_
    refine aw_seq ?_
    refine aw_region ?_
    refine al_val (ov_move rfl rfl) ?_
    refine al_val (ov_strLen Try.underlying9 rfl rfl) ?_
    refine al_val (ov_int rfl rfl rfl rfl) ?_
    refine al_val (ov_assign rfl rfl) ?_
    refine al_nil ?_
    refine aq_then ?_
    refine aw_seq ?_
    refine aw_seq ?_
    refine aw_region ?_
    refine al_val (ov_move rfl rfl) ?_
    refine al_val (ov_move rfl rfl) ?_
    obtain ⟨hc2, h⟩ := req_some h
    refine al_val (ov_strTo hc2.1 hc2.2 Try.underlying9 rfl rfl rfl) ?_
    obtain ⟨r4, hc3, h⟩ := opt_some h
    refine al_call (vs := [(str (a0.take ((IntKind.i64.wrap ((a0.length : Int) - (8 : Int)))).toNat))]) (f_lumref_ID_ok fu (a0.take ((IntKind.i64.wrap ((a0.length : Int) - (8 : Int)))).toNat) hc3) [] [] [] pre_nil rfl (by simp) (by decide) (.inl rfl) rfl Try.func20 rfl rfl rfl (fun _ => ?_)
    refine al_alloc (zs := (cA8u8 (A8u8.mk (0 : UInt8) (0 : UInt8) (0 : UInt8) (0 : UInt8) (0 : UInt8) (0 : UInt8) (0 : UInt8) (0 : UInt8)))) (zeroOf_to to26) rfl rfl (fun g5 => ?_)
    refine al_store (i := 0) (vs := (cA8u8 r4)) (cs' := (cA8u8 r4)) rfl rfl rfl sz26 (cv_rfl rfl) rfl (co_all (oneA8u8 r4)) (Nat.le_of_ble_eq_true rfl) rfl rfl ?_
    refine al_nil ?_
    refine aq_then ?_
    refine aw_seq ?_
    refine aw_freezeB 0 (r4) rfl rfl (fun _ _ => mkA8u8 rfl) ?_
    obtain ⟨hc7, h⟩ := req_some h
    refine aw_region_draw 5 [(30, (fun s6 => (fDat (tyList tyU8) [s6] (lA8u8 r4)))), (31, (fun u => fEq u (str (lA8u8 r4)))), (32, (fun u => fEq u (str a0))), (33, (fun u => fEq u (Value.int .i64 (IntKind.i64.wrap ((a0.length : Int) - (8 : Int)))))), (34, (fun u => fEq u (str (a0.drop ((IntKind.i64.wrap ((a0.length : Int) - (8 : Int)))).toNat))))] (tab [(0, (str a0)), (4, (Value.int .i64 (IntKind.i64.wrap ((a0.length : Int) - (8 : Int))))), (5, (ptr g5 0))]) mixed (by kernel_rfl) rfl rfl rfl (fun a hs => hs.tab _ (allT_mem ⟨rfl, rfl, rfl, trivial⟩)) ⟨⟨rfl, ld_of (of_sliceP 0 lrepA8u8 rfl rfl rfl rfl Try.underlying26 sz5 rfl)⟩, ⟨rfl, ld_fact (j := 0) rfl rfl (fun s6 => ld_val (ov_toStr 0 rfl rfl Try.underlying62 Try.underlying5 Try.underlying9 rfl))⟩, ⟨rfl, ld_val (ov_move rfl rfl)⟩, ⟨rfl, ld_val (ov_move rfl rfl)⟩, ⟨rfl, ld_eq (j := 2) rfl rfl (ld_eq (j := 3) rfl rfl (ld_val (ov_strFrom hc7.1 hc7.2 Try.underlying9 rfl rfl rfl)))⟩, trivial⟩ ?_
    refine tl_eq 1 rfl ?_
    refine tl_eq 4 rfl ?_
    refine tl_done ?_
    refine al_val (ov_strCmp rfl rfl rfl rfl) ?_
    refine al_nil ?_
    refine aq_then ?_
    refine aw_cond rfl (fun hb8 => ?_) (fun hb8 => ?_)
    · replace h := bif_t hb8 h
      refine aw_seq ?_
      refine aw_region ?_
      refine al_val (ov_assign rfl rfl) ?_
      refine al_val (ov_assign rfl rfl) ?_
      refine al_nil ?_
      refine aq_then ?_
      refine aw_ret ?_
      refine aq_then_ret ?_
      refine aq_nilR 48 tyS_api_Entry ?_
      obtain rfl := Option.some.inj h
      exact fn_ret (Value.slice none 0 0) [0] [] rfl rfl rfl rfl (res2 rfl rfl rfl) rfl rfl rfl (by decide)
    · replace h := bif_f hb8 h
      refine aw_skip ?_
      refine aq_then ?_
      refine aw_seq ?_
      obtain ⟨hc9, h⟩ := req_some h
      obtain ⟨hc10, h⟩ := req_some h
      refine aw_region_draw 12 [(36, (fun u => fEq u (str a0))), (37, (fun u => fEq u (Value.int .i64 (IntKind.i64.wrap ((a0.length : Int) - (8 : Int)))))), (38, (fun u => fEq u (Value.int .i64 (IntKind.i64.wrap ((IntKind.i64.wrap ((a0.length : Int) - (8 : Int))) - (2 : Int)))))), (39, (fun u => fEq u (Value.int .u8 (En.bAt a0 (IntKind.i64.wrap ((IntKind.i64.wrap ((a0.length : Int) - (8 : Int))) - (2 : Int))))))), (40, (fun u => fEq u (Value.int .i64 (IntKind.i64.wrap (En.bAt a0 (IntKind.i64.wrap ((IntKind.i64.wrap ((a0.length : Int) - (8 : Int))) - (2 : Int)))))))), (41, (fun u => fEq u (str a0))), (42, (fun u => fEq u (Value.int .i64 (IntKind.i64.wrap ((a0.length : Int) - (8 : Int)))))), (43, (fun u => fEq u (Value.int .i64 (IntKind.i64.wrap ((IntKind.i64.wrap ((a0.length : Int) - (8 : Int))) - (1 : Int)))))), (44, (fun u => fEq u (Value.int .u8 (En.bAt a0 (IntKind.i64.wrap ((IntKind.i64.wrap ((a0.length : Int) - (8 : Int))) - (1 : Int))))))), (45, (fun u => fEq u (Value.int .i64 (IntKind.i64.wrap (En.bAt a0 (IntKind.i64.wrap ((IntKind.i64.wrap ((a0.length : Int) - (8 : Int))) - (1 : Int)))))))), (46, (fun u => fEq u (Value.int .i64 (IntKind.i64.wrap ((256 : Int) * (IntKind.i64.wrap (En.bAt a0 (IntKind.i64.wrap ((IntKind.i64.wrap ((a0.length : Int) - (8 : Int))) - (1 : Int)))))))))), (47, (fun u => fEq u (Value.int .i64 (IntKind.i64.wrap ((IntKind.i64.wrap (En.bAt a0 (IntKind.i64.wrap ((IntKind.i64.wrap ((a0.length : Int) - (8 : Int))) - (2 : Int))))) + (IntKind.i64.wrap ((256 : Int) * (IntKind.i64.wrap (En.bAt a0 (IntKind.i64.wrap ((IntKind.i64.wrap ((a0.length : Int) - (8 : Int))) - (1 : Int))))))))))))] (tab [(0, (str a0)), (4, (Value.int .i64 (IntKind.i64.wrap ((a0.length : Int) - (8 : Int)))))]) mixed (by kernel_rfl) rfl rfl rfl (fun a hs => hs.tab _ (allT_mem ⟨rfl, rfl, trivial⟩)) ⟨⟨rfl, ld_val (ov_move rfl rfl)⟩, ⟨rfl, ld_val (ov_move rfl rfl)⟩, ⟨rfl, ld_eq (j := 1) rfl rfl (ld_val (ov_int rfl rfl rfl rfl))⟩, ⟨rfl, ld_eq (j := 0) rfl rfl (ld_eq (j := 2) rfl rfl (ld_val (ov_strIdx hc9.1 hc9.2 Try.underlying9 rfl rfl rfl)))⟩, ⟨rfl, ld_eq (j := 3) rfl rfl (ld_val (ov_convInt (by rw [Try.underlying5]; rfl) Try.underlying3 rfl rfl))⟩, ⟨rfl, ld_val (ov_move rfl rfl)⟩, ⟨rfl, ld_val (ov_move rfl rfl)⟩, ⟨rfl, ld_eq (j := 6) rfl rfl (ld_val (ov_int rfl rfl rfl rfl))⟩, ⟨rfl, ld_eq (j := 5) rfl rfl (ld_eq (j := 7) rfl rfl (ld_val (ov_strIdx hc10.1 hc10.2 Try.underlying9 rfl rfl rfl)))⟩, ⟨rfl, ld_eq (j := 8) rfl rfl (ld_val (ov_convInt (by rw [Try.underlying5]; rfl) Try.underlying3 rfl rfl))⟩, ⟨rfl, ld_eq (j := 9) rfl rfl (ld_val (ov_int rfl rfl rfl rfl))⟩, ⟨rfl, ld_eq (j := 4) rfl rfl (ld_eq (j := 10) rfl rfl (ld_val (ov_int rfl rfl rfl rfl)))⟩, trivial⟩ ?_
      refine tl_eq 11 rfl ?_
      refine tl_done ?_
      refine al_val (ov_assign rfl rfl) ?_
      refine al_nil ?_
      refine aq_then ?_
      refine aw_seq ?_
      refine aw_seq ?_
      refine aw_region ?_
      refine al_val (ov_move rfl rfl) ?_
      refine al_val (ov_move rfl rfl) ?_
      refine al_val (ov_int rfl rfl rfl rfl) ?_
      refine al_val (ov_int rfl rfl rfl rfl) ?_
      refine al_nil ?_
      refine aq_then ?_
      refine aw_cond rfl (fun hb11 => ?_) (fun hb11 => ?_)
      · replace h := bif_t hb11 h
        refine aw_seq ?_
        refine aw_region ?_
        refine al_val (ov_assign rfl rfl) ?_
        refine al_val (ov_assign rfl rfl) ?_
        refine al_nil ?_
        refine aq_then ?_
        refine aw_ret ?_
        refine aq_then_ret ?_
        refine aq_nilR 48 tyS_api_Entry ?_
        obtain rfl := Option.some.inj h
        exact fn_ret (Value.slice none 0 0) [0] [] rfl rfl rfl rfl (res2 rfl rfl rfl) rfl rfl rfl (by decide)
      · replace h := bif_f hb11 h
        refine aw_skip ?_
        refine aq_then ?_
        refine aw_seq ?_
        obtain ⟨hc12, h⟩ := req_some h
        obtain ⟨hc13, h⟩ := req_some h
        refine aw_region_draw 15 [(52, (fun u => fEq u (str a0))), (53, (fun u => fEq u (Value.int .i64 (IntKind.i64.wrap ((a0.length : Int) - (8 : Int)))))), (54, (fun u => fEq u (Value.int .i64 (IntKind.i64.wrap ((IntKind.i64.wrap ((a0.length : Int) - (8 : Int))) - (2 : Int)))))), (55, (fun u => fEq u (Value.int .i64 (IntKind.i64.wrap ((IntKind.i64.wrap (En.bAt a0 (IntKind.i64.wrap ((IntKind.i64.wrap ((a0.length : Int) - (8 : Int))) - (2 : Int))))) + (IntKind.i64.wrap ((256 : Int) * (IntKind.i64.wrap (En.bAt a0 (IntKind.i64.wrap ((IntKind.i64.wrap ((a0.length : Int) - (8 : Int))) - (1 : Int)))))))))))), (56, (fun u => fEq u (Value.int .i64 (IntKind.i64.wrap ((IntKind.i64.wrap ((IntKind.i64.wrap ((a0.length : Int) - (8 : Int))) - (2 : Int))) - (IntKind.i64.wrap ((IntKind.i64.wrap (En.bAt a0 (IntKind.i64.wrap ((IntKind.i64.wrap ((a0.length : Int) - (8 : Int))) - (2 : Int))))) + (IntKind.i64.wrap ((256 : Int) * (IntKind.i64.wrap (En.bAt a0 (IntKind.i64.wrap ((IntKind.i64.wrap ((a0.length : Int) - (8 : Int))) - (1 : Int)))))))))))))), (57, (fun u => fEq u (str (a0.take ((IntKind.i64.wrap ((IntKind.i64.wrap ((IntKind.i64.wrap ((a0.length : Int) - (8 : Int))) - (2 : Int))) - (IntKind.i64.wrap ((IntKind.i64.wrap (En.bAt a0 (IntKind.i64.wrap ((IntKind.i64.wrap ((a0.length : Int) - (8 : Int))) - (2 : Int))))) + (IntKind.i64.wrap ((256 : Int) * (IntKind.i64.wrap (En.bAt a0 (IntKind.i64.wrap ((IntKind.i64.wrap ((a0.length : Int) - (8 : Int))) - (1 : Int)))))))))))).toNat)))), (58, (fun u => fEq u (str a0))), (59, (fun u => fEq u (Value.int .i64 (IntKind.i64.wrap ((a0.length : Int) - (8 : Int)))))), (60, (fun u => fEq u (Value.int .i64 (IntKind.i64.wrap ((IntKind.i64.wrap ((a0.length : Int) - (8 : Int))) - (2 : Int)))))), (61, (fun u => fEq u (Value.int .i64 (IntKind.i64.wrap ((IntKind.i64.wrap (En.bAt a0 (IntKind.i64.wrap ((IntKind.i64.wrap ((a0.length : Int) - (8 : Int))) - (2 : Int))))) + (IntKind.i64.wrap ((256 : Int) * (IntKind.i64.wrap (En.bAt a0 (IntKind.i64.wrap ((IntKind.i64.wrap ((a0.length : Int) - (8 : Int))) - (1 : Int)))))))))))), (62, (fun u => fEq u (Value.int .i64 (IntKind.i64.wrap ((IntKind.i64.wrap ((IntKind.i64.wrap ((a0.length : Int) - (8 : Int))) - (2 : Int))) - (IntKind.i64.wrap ((IntKind.i64.wrap (En.bAt a0 (IntKind.i64.wrap ((IntKind.i64.wrap ((a0.length : Int) - (8 : Int))) - (2 : Int))))) + (IntKind.i64.wrap ((256 : Int) * (IntKind.i64.wrap (En.bAt a0 (IntKind.i64.wrap ((IntKind.i64.wrap ((a0.length : Int) - (8 : Int))) - (1 : Int)))))))))))))), (63, (fun u => fEq u (Value.int .i64 (IntKind.i64.wrap ((a0.length : Int) - (8 : Int)))))), (64, (fun u => fEq u (Value.int .i64 (IntKind.i64.wrap ((IntKind.i64.wrap ((a0.length : Int) - (8 : Int))) - (2 : Int)))))), (65, (fun u => fEq u (str (cut a0 (IntKind.i64.wrap ((IntKind.i64.wrap ((IntKind.i64.wrap ((a0.length : Int) - (8 : Int))) - (2 : Int))) - (IntKind.i64.wrap ((IntKind.i64.wrap (En.bAt a0 (IntKind.i64.wrap ((IntKind.i64.wrap ((a0.length : Int) - (8 : Int))) - (2 : Int))))) + (IntKind.i64.wrap ((256 : Int) * (IntKind.i64.wrap (En.bAt a0 (IntKind.i64.wrap ((IntKind.i64.wrap ((a0.length : Int) - (8 : Int))) - (1 : Int))))))))))) (IntKind.i64.wrap ((IntKind.i64.wrap ((a0.length : Int) - (8 : Int))) - (2 : Int))))))), (7, (fun u => fEq u (str (a0.take ((IntKind.i64.wrap ((IntKind.i64.wrap ((IntKind.i64.wrap ((a0.length : Int) - (8 : Int))) - (2 : Int))) - (IntKind.i64.wrap ((IntKind.i64.wrap (En.bAt a0 (IntKind.i64.wrap ((IntKind.i64.wrap ((a0.length : Int) - (8 : Int))) - (2 : Int))))) + (IntKind.i64.wrap ((256 : Int) * (IntKind.i64.wrap (En.bAt a0 (IntKind.i64.wrap ((IntKind.i64.wrap ((a0.length : Int) - (8 : Int))) - (1 : Int)))))))))))).toNat))))] (tab [(0, (str a0)), (4, (Value.int .i64 (IntKind.i64.wrap ((a0.length : Int) - (8 : Int))))), (6, (Value.int .i64 (IntKind.i64.wrap ((IntKind.i64.wrap (En.bAt a0 (IntKind.i64.wrap ((IntKind.i64.wrap ((a0.length : Int) - (8 : Int))) - (2 : Int))))) + (IntKind.i64.wrap ((256 : Int) * (IntKind.i64.wrap (En.bAt a0 (IntKind.i64.wrap ((IntKind.i64.wrap ((a0.length : Int) - (8 : Int))) - (1 : Int)))))))))))]) mixed (by kernel_rfl) rfl rfl rfl (fun a hs => hs.tab _ (allT_mem ⟨rfl, rfl, rfl, trivial⟩)) ⟨⟨rfl, ld_val (ov_move rfl rfl)⟩, ⟨rfl, ld_val (ov_move rfl rfl)⟩, ⟨rfl, ld_eq (j := 1) rfl rfl (ld_val (ov_int rfl rfl rfl rfl))⟩, ⟨rfl, ld_val (ov_move rfl rfl)⟩, ⟨rfl, ld_eq (j := 2) rfl rfl (ld_eq (j := 3) rfl rfl (ld_val (ov_int rfl rfl rfl rfl)))⟩, ⟨rfl, ld_eq (j := 0) rfl rfl (ld_eq (j := 4) rfl rfl (ld_val (ov_strTo hc12.1 hc12.2 Try.underlying9 rfl rfl rfl)))⟩, ⟨rfl, ld_val (ov_move rfl rfl)⟩, ⟨rfl, ld_val (ov_move rfl rfl)⟩, ⟨rfl, ld_eq (j := 7) rfl rfl (ld_val (ov_int rfl rfl rfl rfl))⟩, ⟨rfl, ld_val (ov_move rfl rfl)⟩, ⟨rfl, ld_eq (j := 8) rfl rfl (ld_eq (j := 9) rfl rfl (ld_val (ov_int rfl rfl rfl rfl)))⟩, ⟨rfl, ld_val (ov_move rfl rfl)⟩, ⟨rfl, ld_eq (j := 11) rfl rfl (ld_val (ov_int rfl rfl rfl rfl))⟩, ⟨rfl, ld_eq (j := 6) rfl rfl (ld_eq (j := 10) rfl rfl (ld_eq (j := 12) rfl rfl (ld_val (ov_strCut hc13.1 hc13.2.1 hc13.2.2 Try.underlying9 rfl rfl rfl rfl))))⟩, ⟨rfl, ld_eq (j := 5) rfl rfl (ld_val (ov_assign rfl rfl))⟩, trivial⟩ ?_
        refine tl_eq 13 rfl ?_
        refine tl_eq 14 rfl ?_
        refine tl_done ?_
        refine al_val (ov_assign rfl rfl) ?_
        refine al_nil ?_
        refine aq_then ?_
        refine aw_seq ?_
        refine aw_region ?_
        refine al_val (ov_move rfl rfl) ?_
        obtain ⟨r15, hc14, h⟩ := opt_some h
        refine al_call (vs := [(str (cut a0 (IntKind.i64.wrap ((IntKind.i64.wrap ((IntKind.i64.wrap ((a0.length : Int) - (8 : Int))) - (2 : Int))) - (IntKind.i64.wrap ((IntKind.i64.wrap (En.bAt a0 (IntKind.i64.wrap ((IntKind.i64.wrap ((a0.length : Int) - (8 : Int))) - (2 : Int))))) + (IntKind.i64.wrap ((256 : Int) * (IntKind.i64.wrap (En.bAt a0 (IntKind.i64.wrap ((IntKind.i64.wrap ((a0.length : Int) - (8 : Int))) - (1 : Int))))))))))) (IntKind.i64.wrap ((IntKind.i64.wrap ((a0.length : Int) - (8 : Int))) - (2 : Int)))))]) (f_lumref_Get_ok fu (cut a0 (IntKind.i64.wrap ((IntKind.i64.wrap ((IntKind.i64.wrap ((a0.length : Int) - (8 : Int))) - (2 : Int))) - (IntKind.i64.wrap ((IntKind.i64.wrap (En.bAt a0 (IntKind.i64.wrap ((IntKind.i64.wrap ((a0.length : Int) - (8 : Int))) - (2 : Int))))) + (IntKind.i64.wrap ((256 : Int) * (IntKind.i64.wrap (En.bAt a0 (IntKind.i64.wrap ((IntKind.i64.wrap ((a0.length : Int) - (8 : Int))) - (1 : Int))))))))))) (IntKind.i64.wrap ((IntKind.i64.wrap ((a0.length : Int) - (8 : Int))) - (2 : Int)))) hc14) [] [] [] pre_nil rfl (by simp) (by decide) (.inl rfl) rfl Try.func40 rfl rfl rfl (fun _ => ?_)
        refine al_val (ov_move rfl rfl) ?_
        refine al_val (ov_extract rfl rfl rfl) ?_
        refine al_val (ov_extract rfl rfl rfl) ?_
        refine al_val (ov_extract rfl rfl rfl) ?_
        refine al_val (ov_assign rfl rfl) ?_
        refine al_val (ov_assign rfl rfl) ?_
        refine al_val (ov_assign rfl rfl) ?_
        refine al_nil ?_
        refine aq_then ?_
        refine aw_seq ?_
        refine aw_seq ?_
        refine aw_region ?_
        refine al_val (ov_move rfl rfl) ?_
        refine al_val (ov_int rfl rfl rfl rfl) ?_
        refine al_nil ?_
        refine aq_then ?_
        refine aw_cond rfl (fun hb16 => ?_) (fun hb16 => ?_)
        · replace h := bif_t hb16 h
          refine aw_seq ?_
          refine aw_region ?_
          refine al_val (ov_move rfl rfl) ?_
          refine al_val (ov_assign rfl rfl) ?_
          refine al_val (ov_assign rfl rfl) ?_
          refine al_nil ?_
          refine aq_then ?_
          refine aw_ret ?_
          refine aq_then_ret ?_
          refine aq_nilR 48 tyS_api_Entry ?_
          obtain rfl := Option.some.inj h
          exact fn_ret (Value.slice none 0 0) [0] [] rfl rfl rfl rfl (res2 rfl rfl rfl) rfl rfl rfl (by decide)
        · replace h := bif_f hb16 h
          refine aw_skip ?_
          refine aq_then ?_
          refine aw_seq ?_
          refine aw_seq ?_
          refine aw_region ?_
          refine al_val (ov_move rfl rfl) ?_
          refine al_val (ov_int rfl rfl rfl rfl) ?_
          refine al_nil ?_
          refine aq_then ?_
          refine aw_cond rfl (fun hb17 => ?_) (fun hb17 => ?_)
          · replace h := bif_t hb17 h
            refine aw_seq ?_
            refine aw_region ?_
            refine al_val (ov_assign rfl rfl) ?_
            refine al_val (ov_assign rfl rfl) ?_
            refine al_nil ?_
            refine aq_then ?_
            refine aw_ret ?_
            refine aq_then_ret ?_
            refine aq_nilR 48 tyS_api_Entry ?_
            obtain rfl := Option.some.inj h
            exact fn_ret (Value.slice none 0 0) [0] [] rfl rfl rfl rfl (res2 rfl rfl rfl) rfl rfl rfl (by decide)
          · replace h := bif_f hb17 h
            refine aw_skip ?_
            refine aq_then ?_
            refine aw_seq ?_
            refine aw_region ?_
            refine al_val (ov_move rfl rfl) ?_
            refine al_val (ov_move rfl rfl) ?_
            obtain ⟨hc18, h⟩ := req_some h
            refine al_val (ov_strFrom hc18.1 hc18.2 Try.underlying9 rfl rfl rfl) ?_
            refine al_val (ov_assign rfl rfl) ?_
            refine al_nil ?_
            refine aq_then ?_
            refine aw_seq ?_
            refine aw_region ?_
            refine al_val (ov_assign rfl rfl) ?_
            refine al_nil ?_
            refine aq_then ?_
            refine aw_seq ?_
            refine aw_region ?_
            refine al_val (ov_assign rfl rfl) ?_
            refine al_nil ?_
            refine aq_then ?_
            obtain ⟨kk20, hkk20, h⟩ := lt_some h
            refine aw_seq_join (ι := (List UInt8) × Value × (List S_api_Entry) × Int) (fun i => (memOf w0 Z0 [] [(oRow i.2.1 48 tyS_api_Entry i.2.2.1)] [(fPtr tyA8u8 (ptr g5 0) r4)])) (fun i => (tab [(7, (str (a0.take ((IntKind.i64.wrap ((IntKind.i64.wrap ((IntKind.i64.wrap ((a0.length : Int) - (8 : Int))) - (2 : Int))) - (IntKind.i64.wrap ((IntKind.i64.wrap (En.bAt a0 (IntKind.i64.wrap ((IntKind.i64.wrap ((a0.length : Int) - (8 : Int))) - (2 : Int))))) + (IntKind.i64.wrap ((256 : Int) * (IntKind.i64.wrap (En.bAt a0 (IntKind.i64.wrap ((IntKind.i64.wrap ((a0.length : Int) - (8 : Int))) - (1 : Int)))))))))))).toNat))), (8, (str i.1)), (12, i.2.1), (13, (Value.int .i64 i.2.2.2))])) (fun i => kk20 i.1 i.2.2.1 i.2.2.2 = some r) ?_ ?_
            · rintro ⟨j19s8, j19v12, j19x12, j19i13⟩ h
              have h : kk20 j19s8 j19x12 j19i13 = some r := h
              rw [hkk20] at h
              dsimp only at h
              clear hkk20
              refine aw_show (m := (memOf w0 Z0 [] [(oRow j19v12 48 tyS_api_Entry j19x12)] [(fPtr tyA8u8 (ptr g5 0) r4)])) (S := (tab [(7, (str (a0.take ((IntKind.i64.wrap ((IntKind.i64.wrap ((IntKind.i64.wrap ((a0.length : Int) - (8 : Int))) - (2 : Int))) - (IntKind.i64.wrap ((IntKind.i64.wrap (En.bAt a0 (IntKind.i64.wrap ((IntKind.i64.wrap ((a0.length : Int) - (8 : Int))) - (2 : Int))))) + (IntKind.i64.wrap ((256 : Int) * (IntKind.i64.wrap (En.bAt a0 (IntKind.i64.wrap ((IntKind.i64.wrap ((a0.length : Int) - (8 : Int))) - (1 : Int)))))))))))).toNat))), (8, (str j19s8)), (12, j19v12), (13, (Value.int .i64 j19i13))])) ?_
              refine aw_seq ?_
              obtain ⟨kk22, hkk22, h⟩ := lt_some h
              refine aw_seq_join (ι := Bool) (fun i => (memOf w0 Z0 [] [(oRow j19v12 48 tyS_api_Entry j19x12)] [(fPtr tyA8u8 (ptr g5 0) r4)])) (fun i => (tab [(12, j19v12), (152, (Value.bool i))])) (fun i => kk22 i = some r) ?_ ?_
              · rintro j21b152 h
                have h : kk22 j21b152 = some r := h
                rw [hkk22] at h
                dsimp only at h
                clear hkk22
                refine aw_show (m := (memOf w0 Z0 [] [(oRow j19v12 48 tyS_api_Entry j19x12)] [(fPtr tyA8u8 (ptr g5 0) r4)])) (S := (tab [(12, j19v12), (152, (Value.bool j21b152))])) ?_
                refine aw_cond rfl (fun hb23 => ?_) (fun hb23 => ?_)
                · replace h := bif_t hb23 h
                  refine aw_seq ?_
                  refine aw_region ?_
                  refine al_val (ov_assign rfl rfl) ?_
                  refine al_val (ov_assign rfl rfl) ?_
                  refine al_nil ?_
                  refine aq_then ?_
                  refine aw_ret ?_
                  refine aq_then_ret ?_
                  refine aq_nilR 48 tyS_api_Entry ?_
                  obtain rfl := Option.some.inj h
                  exact fn_ret (Value.slice none 0 0) [0] [] rfl rfl rfl rfl (res2 rfl rfl rfl) rfl rfl rfl (by decide)
                · replace h := bif_f hb23 h
                  refine aw_skip ?_
                  refine aq_then ?_
                  refine aw_seq ?_
                  refine aw_region ?_
                  refine al_val (ov_move rfl rfl) ?_
                  refine al_val (ov_assign rfl rfl) ?_
                  refine al_val (ov_assign rfl rfl) ?_
                  refine al_nil ?_
                  refine aq_then ?_
                  refine aw_ret ?_
                  obtain rfl := Option.some.inj h
                  exact fn_ret j19v12 [0] [] rfl rfl rfl rfl (res2 rfl rfl rfl) rfl rfl rfl (by decide)
              · clear hkk22
                refine aw_region ?_
                refine al_val (ov_move rfl rfl) ?_
                refine al_val (ov_strLen Try.underlying9 rfl rfl) ?_
                refine al_val (ov_int rfl rfl rfl rfl) ?_
                refine al_val (ov_move rfl rfl) ?_
                refine al_caseB 147 rfl (fun hb24 => ?_) (fun hb24 => ?_)
                · replace h := bif_t hb24 h
                  refine al_skip ?_
                  refine al_skip ?_
                  refine al_skip ?_
                  refine al_skip ?_
                  refine al_val (ov_pick_t rfl rfl rfl) ?_
                  refine al_nil ?_
                  exact aq_join true h (fun w a hm hs => norm hm hs [0] [0] [(12, j19v12), (152, (Value.bool true))] (by decide) ⟨rfl, rfl, trivial⟩)
                · replace h := bif_f hb24 h
                  refine al_val (ov_move rfl rfl) ?_
                  refine al_val (ov_move rfl rfl) ?_
                  refine al_val (ov_strLen Try.underlying9 rfl rfl) ?_
                  refine al_val (ov_int rfl rfl rfl rfl) ?_
                  refine al_val (ov_pick_f rfl rfl rfl) ?_
                  refine al_nil ?_
                  exact aq_join (decide (j19i13 < ((a0.take ((IntKind.i64.wrap ((IntKind.i64.wrap ((IntKind.i64.wrap ((a0.length : Int) - (8 : Int))) - (2 : Int))) - (IntKind.i64.wrap ((IntKind.i64.wrap (En.bAt a0 (IntKind.i64.wrap ((IntKind.i64.wrap ((a0.length : Int) - (8 : Int))) - (2 : Int))))) + (IntKind.i64.wrap ((256 : Int) * (IntKind.i64.wrap (En.bAt a0 (IntKind.i64.wrap ((IntKind.i64.wrap ((a0.length : Int) - (8 : Int))) - (1 : Int)))))))))))).toNat).length : Int))) h (fun w a hm hs => norm hm hs [0] [0] [(12, j19v12), (152, (Value.bool (decide (j19i13 < ((a0.take ((IntKind.i64.wrap ((IntKind.i64.wrap ((IntKind.i64.wrap ((a0.length : Int) - (8 : Int))) - (2 : Int))) - (IntKind.i64.wrap ((IntKind.i64.wrap (En.bAt a0 (IntKind.i64.wrap ((IntKind.i64.wrap ((a0.length : Int) - (8 : Int))) - (2 : Int))))) + (IntKind.i64.wrap ((256 : Int) * (IntKind.i64.wrap (En.bAt a0 (IntKind.i64.wrap ((IntKind.i64.wrap ((a0.length : Int) - (8 : Int))) - (1 : Int)))))))))))).toNat).length : Int)))))] (by decide) ⟨rfl, rfl, trivial⟩)
            · clear hkk20
              refine aw_seq ?_
              refine aw_region ?_
              refine al_val (ov_move rfl rfl) ?_
              refine al_val (ov_move rfl rfl) ?_
              refine al_nil ?_
              refine aq_then ?_
              refine aw_block ?_
              refine aw_nilR 48 tyS_api_Entry ?_
              refine aw_state (aw_loop (ι := (List UInt8) × Value × (List S_api_Entry) × Int × Int) (fun i => (memOf w0 Z0 [] [(oRow i.2.1 48 tyS_api_Entry i.2.2.1)] [(fPtr tyA8u8 (ptr g5 0) r4)])) (fun i => (tab [(7, (str (a0.take ((IntKind.i64.wrap ((IntKind.i64.wrap ((IntKind.i64.wrap ((a0.length : Int) - (8 : Int))) - (2 : Int))) - (IntKind.i64.wrap ((IntKind.i64.wrap (En.bAt a0 (IntKind.i64.wrap ((IntKind.i64.wrap ((a0.length : Int) - (8 : Int))) - (2 : Int))))) + (IntKind.i64.wrap ((256 : Int) * (IntKind.i64.wrap (En.bAt a0 (IntKind.i64.wrap ((IntKind.i64.wrap ((a0.length : Int) - (8 : Int))) - (1 : Int)))))))))))).toNat))), (8, (str i.1)), (12, i.2.1), (13, (Value.int .i64 i.2.2.2.1)), (80, (Value.int .u64 r15.1)), (81, (Value.int .u64 i.2.2.2.2))])) (fun q i => f_lumref_PackList_L27 a0 r15 kk20 fu q i.1 i.2.2.1 i.2.2.2.1 i.2.2.2.2 = some r) ?_ fu (((cut a0 (IntKind.i64.wrap ((IntKind.i64.wrap ((IntKind.i64.wrap ((a0.length : Int) - (8 : Int))) - (2 : Int))) - (IntKind.i64.wrap ((IntKind.i64.wrap (En.bAt a0 (IntKind.i64.wrap ((IntKind.i64.wrap ((a0.length : Int) - (8 : Int))) - (2 : Int))))) + (IntKind.i64.wrap ((256 : Int) * (IntKind.i64.wrap (En.bAt a0 (IntKind.i64.wrap ((IntKind.i64.wrap ((a0.length : Int) - (8 : Int))) - (1 : Int))))))))))) (IntKind.i64.wrap ((IntKind.i64.wrap ((a0.length : Int) - (8 : Int))) - (2 : Int)))).drop (r15.2.1).toNat), (Value.slice none 0 0), ([] : List S_api_Entry), (0 : Int), (0 : Int)) h) (fun w a hm hs => norm hm hs [0] [0] [(7, (str (a0.take ((IntKind.i64.wrap ((IntKind.i64.wrap ((IntKind.i64.wrap ((a0.length : Int) - (8 : Int))) - (2 : Int))) - (IntKind.i64.wrap ((IntKind.i64.wrap (En.bAt a0 (IntKind.i64.wrap ((IntKind.i64.wrap ((a0.length : Int) - (8 : Int))) - (2 : Int))))) + (IntKind.i64.wrap ((256 : Int) * (IntKind.i64.wrap (En.bAt a0 (IntKind.i64.wrap ((IntKind.i64.wrap ((a0.length : Int) - (8 : Int))) - (1 : Int)))))))))))).toNat))), (8, (str ((cut a0 (IntKind.i64.wrap ((IntKind.i64.wrap ((IntKind.i64.wrap ((a0.length : Int) - (8 : Int))) - (2 : Int))) - (IntKind.i64.wrap ((IntKind.i64.wrap (En.bAt a0 (IntKind.i64.wrap ((IntKind.i64.wrap ((a0.length : Int) - (8 : Int))) - (2 : Int))))) + (IntKind.i64.wrap ((256 : Int) * (IntKind.i64.wrap (En.bAt a0 (IntKind.i64.wrap ((IntKind.i64.wrap ((a0.length : Int) - (8 : Int))) - (1 : Int))))))))))) (IntKind.i64.wrap ((IntKind.i64.wrap ((a0.length : Int) - (8 : Int))) - (2 : Int)))).drop (r15.2.1).toNat))), (12, (Value.slice none 0 0)), (13, (Value.int .i64 (0 : Int))), (80, (Value.int .u64 r15.1)), (81, (Value.int .u64 (0 : Int)))] (by decide) ⟨rfl, rfl, rfl, rfl, rfl, rfl, trivial⟩)
              clear h
              rintro k26 ⟨l25s8, l25v12, l25x12, l25i13, l25i81⟩ h
              have h : f_lumref_PackList_L27 a0 r15 kk20 fu k26 l25s8 l25x12 l25i13 l25i81 = some r := h
              obtain _ | k26 := k26
              · rw [f_lumref_PackList_L27] at h; cases h
              rw [f_lumref_PackList_L27] at h
              refine aw_show (m := (memOf w0 Z0 [] [(oRow l25v12 48 tyS_api_Entry l25x12)] [(fPtr tyA8u8 (ptr g5 0) r4)])) (S := (tab [(7, (str (a0.take ((IntKind.i64.wrap ((IntKind.i64.wrap ((IntKind.i64.wrap ((a0.length : Int) - (8 : Int))) - (2 : Int))) - (IntKind.i64.wrap ((IntKind.i64.wrap (En.bAt a0 (IntKind.i64.wrap ((IntKind.i64.wrap ((a0.length : Int) - (8 : Int))) - (2 : Int))))) + (IntKind.i64.wrap ((256 : Int) * (IntKind.i64.wrap (En.bAt a0 (IntKind.i64.wrap ((IntKind.i64.wrap ((a0.length : Int) - (8 : Int))) - (1 : Int)))))))))))).toNat))), (8, (str l25s8)), (12, l25v12), (13, (Value.int .i64 l25i13)), (80, (Value.int .u64 r15.1)), (81, (Value.int .u64 l25i81))])) ?_
              obtain ⟨kk28, hkk28, h⟩ := lt_some h
              refine aw_body_join (ι := (List UInt8) × Value × (List S_api_Entry) × Int × Int) (fun i => (memOf w0 Z0 [] [(oRow i.2.1 48 tyS_api_Entry i.2.2.1)] [(fPtr tyA8u8 (ptr g5 0) r4)])) (fun i => (tab [(7, (str (a0.take ((IntKind.i64.wrap ((IntKind.i64.wrap ((IntKind.i64.wrap ((a0.length : Int) - (8 : Int))) - (2 : Int))) - (IntKind.i64.wrap ((IntKind.i64.wrap (En.bAt a0 (IntKind.i64.wrap ((IntKind.i64.wrap ((a0.length : Int) - (8 : Int))) - (2 : Int))))) + (IntKind.i64.wrap ((256 : Int) * (IntKind.i64.wrap (En.bAt a0 (IntKind.i64.wrap ((IntKind.i64.wrap ((a0.length : Int) - (8 : Int))) - (1 : Int)))))))))))).toNat))), (8, (str i.1)), (12, i.2.1), (13, (Value.int .i64 i.2.2.2.1)), (80, (Value.int .u64 r15.1)), (81, (Value.int .u64 i.2.2.2.2))])) (fun i => kk28 i.1 i.2.2.1 i.2.2.2.1 i.2.2.2.2 = some r) (fun i h => aq_again k26 i (Nat.lt_succ_self _) (by rw [hkk28] at h; exact h) (fun w a hm hs => ⟨hm, hs⟩)) ?_
              clear hkk28
              refine aw_seq ?_
              refine aw_region ?_
              refine al_val (ov_int rfl rfl rfl rfl) ?_
              refine al_nil ?_
              refine aq_then ?_
              refine aw_seq ?_
              refine aw_cond rfl (fun hb29 => ?_) (fun hb29 => ?_)
              · replace h := bif_t hb29 h
                refine aw_skip ?_
                refine aq_then ?_
                obtain ⟨kk31, hkk31, h⟩ := lt_some h
                refine aw_seq_join (ι := (List UInt8) × Value × (List S_api_Entry) × Int) (fun i => (memOf w0 Z0 [] [(oRow i.2.1 48 tyS_api_Entry i.2.2.1)] [(fPtr tyA8u8 (ptr g5 0) r4)])) (fun i => (tab [(7, (str (a0.take ((IntKind.i64.wrap ((IntKind.i64.wrap ((IntKind.i64.wrap ((a0.length : Int) - (8 : Int))) - (2 : Int))) - (IntKind.i64.wrap ((IntKind.i64.wrap (En.bAt a0 (IntKind.i64.wrap ((IntKind.i64.wrap ((a0.length : Int) - (8 : Int))) - (2 : Int))))) + (IntKind.i64.wrap ((256 : Int) * (IntKind.i64.wrap (En.bAt a0 (IntKind.i64.wrap ((IntKind.i64.wrap ((a0.length : Int) - (8 : Int))) - (1 : Int)))))))))))).toNat))), (8, (str i.1)), (12, i.2.1), (13, (Value.int .i64 i.2.2.2)), (80, (Value.int .u64 r15.1)), (81, (Value.int .u64 l25i81))])) (fun i => kk31 i.1 i.2.2.1 i.2.2.2 = some r) ?_ ?_
                · rintro ⟨j30s8, j30v12, j30x12, j30i13⟩ h
                  have h : kk31 j30s8 j30x12 j30i13 = some r := h
                  rw [hkk31] at h
                  dsimp only at h
                  clear hkk31
                  refine aw_show (m := (memOf w0 Z0 [] [(oRow j30v12 48 tyS_api_Entry j30x12)] [(fPtr tyA8u8 (ptr g5 0) r4)])) (S := (tab [(7, (str (a0.take ((IntKind.i64.wrap ((IntKind.i64.wrap ((IntKind.i64.wrap ((a0.length : Int) - (8 : Int))) - (2 : Int))) - (IntKind.i64.wrap ((IntKind.i64.wrap (En.bAt a0 (IntKind.i64.wrap ((IntKind.i64.wrap ((a0.length : Int) - (8 : Int))) - (2 : Int))))) + (IntKind.i64.wrap ((256 : Int) * (IntKind.i64.wrap (En.bAt a0 (IntKind.i64.wrap ((IntKind.i64.wrap ((a0.length : Int) - (8 : Int))) - (1 : Int)))))))))))).toNat))), (8, (str j30s8)), (12, j30v12), (13, (Value.int .i64 j30i13)), (80, (Value.int .u64 r15.1)), (81, (Value.int .u64 l25i81))])) ?_
                  refine aw_region ?_
                  refine al_val (ov_int rfl rfl rfl rfl) ?_
                  refine al_val (ov_move rfl rfl) ?_
                  refine al_nil ?_
                  exact aq_join (j30s8, j30v12, j30x12, j30i13, (IntKind.u64.wrap (l25i81 + (1 : Int)))) h (fun w a hm hs => norm hm hs [0] [0] [(7, (str (a0.take ((IntKind.i64.wrap ((IntKind.i64.wrap ((IntKind.i64.wrap ((a0.length : Int) - (8 : Int))) - (2 : Int))) - (IntKind.i64.wrap ((IntKind.i64.wrap (En.bAt a0 (IntKind.i64.wrap ((IntKind.i64.wrap ((a0.length : Int) - (8 : Int))) - (2 : Int))))) + (IntKind.i64.wrap ((256 : Int) * (IntKind.i64.wrap (En.bAt a0 (IntKind.i64.wrap ((IntKind.i64.wrap ((a0.length : Int) - (8 : Int))) - (1 : Int)))))))))))).toNat))), (8, (str j30s8)), (12, j30v12), (13, (Value.int .i64 j30i13)), (80, (Value.int .u64 r15.1)), (81, (Value.int .u64 (IntKind.u64.wrap (l25i81 + (1 : Int)))))] (by decide) ⟨rfl, rfl, rfl, rfl, rfl, rfl, trivial⟩)
                · clear hkk31
                  refine aw_block ?_
                  refine aw_seq ?_
                  refine aw_seq ?_
                  refine aw_region ?_
                  refine al_val (ov_move rfl rfl) ?_
                  refine al_val (ov_strLen Try.underlying9 rfl rfl) ?_
                  refine al_val (ov_int rfl rfl rfl rfl) ?_
                  refine al_nil ?_
                  refine aq_then ?_
                  refine aw_cond rfl (fun hb32 => ?_) (fun hb32 => ?_)
                  · replace h := bif_t hb32 h
                    refine aw_seq ?_
                    refine aw_region ?_
                    refine al_val (ov_assign rfl rfl) ?_
                    refine al_val (ov_assign rfl rfl) ?_
                    refine al_nil ?_
                    refine aq_then ?_
                    refine aw_ret ?_
                    refine aq_then_ret ?_
                    refine aq_block_ret ?_
                    refine aq_then_ret ?_
                    refine aq_then_ret ?_
                    refine aq_block_ret ?_
                    refine aq_then_ret ?_
                    refine aq_nilR 48 tyS_api_Entry ?_
                    obtain rfl := Option.some.inj h
                    exact fn_ret (Value.slice none 0 0) [0] [] rfl rfl rfl rfl (res2 rfl rfl rfl) rfl rfl rfl (by decide)
                  · replace h := bif_f hb32 h
                    refine aw_skip ?_
                    refine aq_then ?_
                    refine aw_seq ?_
                    refine aw_region ?_
                    refine al_val (ov_move rfl rfl) ?_
                    obtain ⟨hc33, h⟩ := req_some h
                    refine al_val (ov_strIdx hc33.1 hc33.2 Try.underlying9 rfl rfl rfl) ?_
                    refine al_val (ov_convInt (by rw [Try.underlying5]; rfl) Try.underlying3 rfl rfl) ?_
                    refine al_val (ov_move rfl rfl) ?_
                    refine al_val (ov_build (cells := (((cA8u8 (A8u8.mk (0 : UInt8) (0 : UInt8) (0 : UInt8) (0 : UInt8) (0 : UInt8) (0 : UInt8) (0 : UInt8) (0 : UInt8))) ++ [(Value.int .i64 (IntKind.i64.wrap (En.bAt l25s8 (0 : Int)))), (Value.int .i64 l25i13), (Value.int .i64 (0 : Int))])).toArray) (cs := ((cA8u8 (A8u8.mk (0 : UInt8) (0 : UInt8) (0 : UInt8) (0 : UInt8) (0 : UInt8) (0 : UInt8) (0 : UInt8) (0 : UInt8))) ++ [(Value.int .i64 (IntKind.i64.wrap (En.bAt l25s8 (0 : Int)))), (Value.int .i64 l25i13), (Value.int .i64 (0 : Int))])) rfl (fun w a hm hs => by simp only [List.map_toArray, List.map_cons, List.map_nil, List.toList_toArray, hs.ev (x := .tmp 88) rfl, hs.ev (x := .tmp 89) rfl]; kernel_rfl)) ?_
                    refine al_alloc (zs := ((cA8u8 (A8u8.mk (0 : UInt8) (0 : UInt8) (0 : UInt8) (0 : UInt8) (0 : UInt8) (0 : UInt8) (0 : UInt8) (0 : UInt8))) ++ [(Value.int .i64 (0 : Int)), (Value.int .i64 (0 : Int)), (Value.int .i64 (0 : Int))])) (zeroOf_to to48) rfl rfl (fun g34 => ?_)
                    refine al_store (i := 0) (vs := ((cA8u8 (A8u8.mk (0 : UInt8) (0 : UInt8) (0 : UInt8) (0 : UInt8) (0 : UInt8) (0 : UInt8) (0 : UInt8) (0 : UInt8))) ++ [(Value.int .i64 (IntKind.i64.wrap (En.bAt l25s8 (0 : Int)))), (Value.int .i64 l25i13), (Value.int .i64 (0 : Int))])) (cs' := ((cA8u8 (A8u8.mk (0 : UInt8) (0 : UInt8) (0 : UInt8) (0 : UInt8) (0 : UInt8) (0 : UInt8) (0 : UInt8) (0 : UInt8))) ++ [(Value.int .i64 (IntKind.i64.wrap (En.bAt l25s8 (0 : Int)))), (Value.int .i64 l25i13), (Value.int .i64 (0 : Int))])) rfl rfl rfl sz48 (cv_rfl rfl) rfl (co_app (oneA8u8 (A8u8.mk (0 : UInt8) (0 : UInt8) (0 : UInt8) (0 : UInt8) (0 : UInt8) (0 : UInt8) (0 : UInt8) (0 : UInt8))) (co_val rfl (co_val rfl (co_val rfl co_nil)))) (Nat.le_of_ble_eq_true rfl) rfl rfl ?_
                    refine al_nil ?_
                    refine aq_then ?_
                    refine aw_seq ?_
                    obtain ⟨hc35, h⟩ := req_some h
                    refine aw_region_draw 4 [(91, (fun u => fEq u (ptr g34 0))), (92, (fun u => fEq u (sbx g34 0 8))), (93, (fun u => fEq u (str l25s8))), (94, (fun u => fEq u (str (cut l25s8 (1 : Int) (9 : Int)))))] (tab [(7, (str (a0.take ((IntKind.i64.wrap ((IntKind.i64.wrap ((IntKind.i64.wrap ((a0.length : Int) - (8 : Int))) - (2 : Int))) - (IntKind.i64.wrap ((IntKind.i64.wrap (En.bAt a0 (IntKind.i64.wrap ((IntKind.i64.wrap ((a0.length : Int) - (8 : Int))) - (2 : Int))))) + (IntKind.i64.wrap ((256 : Int) * (IntKind.i64.wrap (En.bAt a0 (IntKind.i64.wrap ((IntKind.i64.wrap ((a0.length : Int) - (8 : Int))) - (1 : Int)))))))))))).toNat))), (8, (str l25s8)), (12, l25v12), (13, (Value.int .i64 l25i13)), (14, (ptr g34 0)), (80, (Value.int .u64 r15.1)), (81, (Value.int .u64 l25i81))]) mixed (by kernel_rfl) rfl rfl rfl (fun a hs => hs.tab _ (allT_mem ⟨rfl, rfl, rfl, rfl, rfl, rfl, rfl, trivial⟩)) ⟨⟨rfl, ld_val (ov_fieldA (p := 0) rfl Try.underlying48 rfl sz26 rfl rfl rfl)⟩, ⟨rfl, ld_eq (j := 0) rfl rfl (ld_val (ov_sliceBox (i := 0) rfl rfl Try.underlying26 sz5 rfl))⟩, ⟨rfl, ld_val (ov_move rfl rfl)⟩, ⟨rfl, ld_eq (j := 2) rfl rfl (ld_val (ov_strCut hc35.1 hc35.2.1 hc35.2.2 Try.underlying9 rfl rfl rfl rfl))⟩, trivial⟩ ?_
                    refine tl_eq 1 rfl ?_
                    refine tl_eq 3 rfl ?_
                    refine tl_done ?_
                    refine al_copyS (i := 0) (cs := ((cA8u8 (A8u8.mk (0 : UInt8) (0 : UInt8) (0 : UInt8) (0 : UInt8) (0 : UInt8) (0 : UInt8) (0 : UInt8) (0 : UInt8))) ++ [(Value.int .i64 (IntKind.i64.wrap (En.bAt l25s8 (0 : Int)))), (Value.int .i64 l25i13), (Value.int .i64 (0 : Int))])) (cs' := ((cA8u8 (cpA8u8 (A8u8.mk (0 : UInt8) (0 : UInt8) (0 : UInt8) (0 : UInt8) (0 : UInt8) (0 : UInt8) (0 : UInt8) (0 : UInt8)) (cut l25s8 (1 : Int) (9 : Int)))) ++ [(Value.int .i64 (IntKind.i64.wrap (En.bAt l25s8 (0 : Int)))), (Value.int .i64 l25i13), (Value.int .i64 (0 : Int))])) rfl rfl rfl Try.underlying62 sz5 rfl (cpcA8u8 (A8u8.mk (0 : UInt8) (0 : UInt8) (0 : UInt8) (0 : UInt8) (0 : UInt8) (0 : UInt8) (0 : UInt8) (0 : UInt8)) (cut l25s8 (1 : Int) (9 : Int)) [] [(Value.int .i64 (IntKind.i64.wrap (En.bAt l25s8 (0 : Int)))), (Value.int .i64 l25i13), (Value.int .i64 (0 : Int))]) rfl ?_
                    refine al_nil ?_
                    refine aq_then ?_
                    refine aw_seq ?_
                    refine aw_seq ?_
                    refine aw_region ?_
                    refine al_val (ov_fieldA (p := 8) rfl Try.underlying48 rfl sz3 rfl rfl rfl) ?_
                    refine al_val (ov_load (i := 0) (v := (Value.int .i64 (IntKind.i64.wrap (En.bAt l25s8 (0 : Int))))) rfl rfl Try.underlying3 sz3 rfl rfl rfl rfl) ?_
                    obtain ⟨r37, hc36, h⟩ := opt_some h
                    refine al_call (vs := [(Value.int .i64 (IntKind.i64.wrap (En.bAt l25s8 (0 : Int))))]) (f_lumref_kindOK_ok fu (IntKind.i64.wrap (En.bAt l25s8 (0 : Int))) hc36) [] [] [0, 1] pre_nil rfl (by simp) (by decide) (.inl rfl) rfl Try.func41 rfl rfl rfl (fun _ => ?_)
                    refine al_val (ov_not rfl rfl) ?_
                    refine al_nil ?_
                    refine aq_then ?_
                    refine aw_cond rfl (fun hb38 => ?_) (fun hb38 => ?_)
                    · replace h := bif_t hb38 h
                      refine aw_seq ?_
                      refine aw_region ?_
                      refine al_val (ov_assign rfl rfl) ?_
                      refine al_val (ov_assign rfl rfl) ?_
                      refine al_nil ?_
                      refine aq_then ?_
                      refine aw_ret ?_
                      refine aq_then_ret ?_
                      refine aq_block_ret ?_
                      refine aq_then_ret ?_
                      refine aq_then_ret ?_
                      refine aq_block_ret ?_
                      refine aq_then_ret ?_
                      refine aq_nilR 48 tyS_api_Entry ?_
                      obtain rfl := Option.some.inj h
                      exact fn_ret (Value.slice none 0 0) [0] [] rfl rfl rfl rfl (res2 rfl rfl rfl) rfl rfl rfl (by decide)
                    · replace h := bif_f hb38 h
                      refine aw_skip ?_
                      refine aq_then ?_
                      refine aw_seq ?_
                      refine aw_region ?_
                      refine al_val (ov_move rfl rfl) ?_
                      obtain ⟨hc39, h⟩ := req_some h
                      refine al_val (ov_strFrom hc39.1 hc39.2 Try.underlying9 rfl rfl rfl) ?_
                      obtain ⟨r41, hc40, h⟩ := opt_some h
                      refine al_call (vs := [(str (l25s8.drop ((9 : Int)).toNat))]) (f_lumref_Get_ok fu (l25s8.drop ((9 : Int)).toNat) hc40) [] [] [0, 1] pre_nil rfl (by simp) (by decide) (.inl rfl) rfl Try.func40 rfl rfl rfl (fun _ => ?_)
                      refine al_val (ov_move rfl rfl) ?_
                      refine al_val (ov_extract rfl rfl rfl) ?_
                      refine al_val (ov_extract rfl rfl rfl) ?_
                      refine al_val (ov_extract rfl rfl rfl) ?_
                      refine al_val (ov_assign rfl rfl) ?_
                      refine al_val (ov_assign rfl rfl) ?_
                      refine al_val (ov_assign rfl rfl) ?_
                      refine al_nil ?_
                      refine aq_then ?_
                      refine aw_seq ?_
                      refine aw_seq ?_
                      refine aw_region ?_
                      refine al_val (ov_move rfl rfl) ?_
                      refine al_val (ov_int rfl rfl rfl rfl) ?_
                      refine al_nil ?_
                      refine aq_then ?_
                      refine aw_cond rfl (fun hb42 => ?_) (fun hb42 => ?_)
                      · replace h := bif_t hb42 h
                        refine aw_seq ?_
                        refine aw_region ?_
                        refine al_val (ov_move rfl rfl) ?_
                        refine al_val (ov_assign rfl rfl) ?_
                        refine al_val (ov_assign rfl rfl) ?_
                        refine al_nil ?_
                        refine aq_then ?_
                        refine aw_ret ?_
                        refine aq_then_ret ?_
                        refine aq_block_ret ?_
                        refine aq_then_ret ?_
                        refine aq_then_ret ?_
                        refine aq_block_ret ?_
                        refine aq_then_ret ?_
                        refine aq_nilR 48 tyS_api_Entry ?_
                        obtain rfl := Option.some.inj h
                        exact fn_ret (Value.slice none 0 0) [0] [] rfl rfl rfl rfl (res2 rfl rfl rfl) rfl rfl rfl (by decide)
                      · replace h := bif_f hb42 h
                        refine aw_skip ?_
                        refine aq_then ?_
                        refine aw_seq ?_
                        refine aw_seq ?_
                        refine aw_region ?_
                        refine al_val (ov_move rfl rfl) ?_
                        refine al_val (ov_int rfl rfl rfl rfl) ?_
                        refine al_nil ?_
                        refine aq_then ?_
                        refine aw_cond rfl (fun hb43 => ?_) (fun hb43 => ?_)
                        · replace h := bif_t hb43 h
                          refine aw_seq ?_
                          refine aw_region ?_
                          refine al_val (ov_assign rfl rfl) ?_
                          refine al_val (ov_assign rfl rfl) ?_
                          refine al_nil ?_
                          refine aq_then ?_
                          refine aw_ret ?_
                          refine aq_then_ret ?_
                          refine aq_block_ret ?_
                          refine aq_then_ret ?_
                          refine aq_then_ret ?_
                          refine aq_block_ret ?_
                          refine aq_then_ret ?_
                          refine aq_nilR 48 tyS_api_Entry ?_
                          obtain rfl := Option.some.inj h
                          exact fn_ret (Value.slice none 0 0) [0] [] rfl rfl rfl rfl (res2 rfl rfl rfl) rfl rfl rfl (by decide)
                        · replace h := bif_f hb43 h
                          refine aw_skip ?_
                          refine aq_then ?_
                          refine aw_seq ?_
                          refine aw_region ?_
                          refine al_val (ov_move rfl rfl) ?_
                          refine al_val (ov_convInt (by rw [Try.underlying22]; rfl) Try.underlying3 rfl rfl) ?_
                          refine al_val (ov_fieldA (p := 10) rfl Try.underlying48 rfl sz3 rfl rfl rfl) ?_
                          refine al_store (i := 0) (vs := [(Value.int .i64 (IntKind.i64.wrap r41.1))]) (cs' := ((cA8u8 (cpA8u8 (A8u8.mk (0 : UInt8) (0 : UInt8) (0 : UInt8) (0 : UInt8) (0 : UInt8) (0 : UInt8) (0 : UInt8) (0 : UInt8)) (cut l25s8 (1 : Int) (9 : Int)))) ++ [(Value.int .i64 (IntKind.i64.wrap (En.bAt l25s8 (0 : Int)))), (Value.int .i64 l25i13), (Value.int .i64 (IntKind.i64.wrap r41.1))])) rfl rfl rfl sz3 (cv_rfl rfl) rfl (co_val rfl co_nil) (Nat.le_of_ble_eq_true rfl) rfl rfl ?_
                          refine al_nil ?_
                          refine aq_then ?_
                          obtain ⟨kk45, hkk45, h⟩ := lt_some h
                          refine aw_seq_join (ι := Unit) (fun i => (memOf w0 Z0 [] [(oRow l25v12 48 tyS_api_Entry l25x12), (oBox g34 48 ((cA8u8 (cpA8u8 (A8u8.mk (0 : UInt8) (0 : UInt8) (0 : UInt8) (0 : UInt8) (0 : UInt8) (0 : UInt8) (0 : UInt8) (0 : UInt8)) (cut l25s8 (1 : Int) (9 : Int)))) ++ [(Value.int .i64 (IntKind.i64.wrap (En.bAt l25s8 (0 : Int)))), (Value.int .i64 l25i13), (Value.int .i64 (IntKind.i64.wrap r41.1))]))] [(fPtr tyA8u8 (ptr g5 0) r4)])) (fun i => (tab [(7, (str (a0.take ((IntKind.i64.wrap ((IntKind.i64.wrap ((IntKind.i64.wrap ((a0.length : Int) - (8 : Int))) - (2 : Int))) - (IntKind.i64.wrap ((IntKind.i64.wrap (En.bAt a0 (IntKind.i64.wrap ((IntKind.i64.wrap ((a0.length : Int) - (8 : Int))) - (2 : Int))))) + (IntKind.i64.wrap ((256 : Int) * (IntKind.i64.wrap (En.bAt a0 (IntKind.i64.wrap ((IntKind.i64.wrap ((a0.length : Int) - (8 : Int))) - (1 : Int)))))))))))).toNat))), (8, (str l25s8)), (12, l25v12), (13, (Value.int .i64 l25i13)), (14, (ptr g34 0)), (16, (Value.int .i64 r41.2.1)), (80, (Value.int .u64 r15.1)), (81, (Value.int .u64 l25i81))])) (fun i => kk45 () = some r) ?_ ?_
                          · rintro _ h
                            have h : kk45 () = some r := h
                            rw [hkk45] at h
                            dsimp only at h
                            clear hkk45
                            refine aw_show (m := (memOf w0 Z0 [] [(oRow l25v12 48 tyS_api_Entry l25x12), (oBox g34 48 ((cA8u8 (cpA8u8 (A8u8.mk (0 : UInt8) (0 : UInt8) (0 : UInt8) (0 : UInt8) (0 : UInt8) (0 : UInt8) (0 : UInt8) (0 : UInt8)) (cut l25s8 (1 : Int) (9 : Int)))) ++ [(Value.int .i64 (IntKind.i64.wrap (En.bAt l25s8 (0 : Int)))), (Value.int .i64 l25i13), (Value.int .i64 (IntKind.i64.wrap r41.1))]))] [(fPtr tyA8u8 (ptr g5 0) r4)])) (S := (tab [(7, (str (a0.take ((IntKind.i64.wrap ((IntKind.i64.wrap ((IntKind.i64.wrap ((a0.length : Int) - (8 : Int))) - (2 : Int))) - (IntKind.i64.wrap ((IntKind.i64.wrap (En.bAt a0 (IntKind.i64.wrap ((IntKind.i64.wrap ((a0.length : Int) - (8 : Int))) - (2 : Int))))) + (IntKind.i64.wrap ((256 : Int) * (IntKind.i64.wrap (En.bAt a0 (IntKind.i64.wrap ((IntKind.i64.wrap ((a0.length : Int) - (8 : Int))) - (1 : Int)))))))))))).toNat))), (8, (str l25s8)), (12, l25v12), (13, (Value.int .i64 l25i13)), (14, (ptr g34 0)), (16, (Value.int .i64 r41.2.1)), (80, (Value.int .u64 r15.1)), (81, (Value.int .u64 l25i81))])) ?_
                            refine aw_seq ?_
                            refine aw_region ?_
                            refine al_val (ov_move rfl rfl) ?_
                            refine al_val (ov_fieldA (p := 10) rfl Try.underlying48 rfl sz3 rfl rfl rfl) ?_
                            refine al_val (ov_load (i := 1) (v := (Value.int .i64 (IntKind.i64.wrap r41.1))) rfl rfl Try.underlying3 sz3 rfl rfl rfl rfl) ?_
                            refine al_val (ov_int rfl rfl rfl rfl) ?_
                            refine al_val (ov_assign rfl rfl) ?_
                            refine al_nil ?_
                            refine aq_then ?_
                            refine aw_seq ?_
                            refine aw_seq ?_
                            refine aw_region ?_
                            refine al_val (ov_move rfl rfl) ?_
                            refine al_val (ov_move rfl rfl) ?_
                            refine al_val (ov_strLen Try.underlying9 rfl rfl) ?_
                            refine al_val (ov_int rfl rfl rfl rfl) ?_
                            refine al_nil ?_
                            refine aq_then ?_
                            refine aw_cond rfl (fun hb46 => ?_) (fun hb46 => ?_)
                            · replace h := bif_t hb46 h
                              refine aw_seq ?_
                              refine aw_region ?_
                              refine al_val (ov_assign rfl rfl) ?_
                              refine al_val (ov_assign rfl rfl) ?_
                              refine al_nil ?_
                              refine aq_then ?_
                              refine aw_ret ?_
                              refine aq_then_ret ?_
                              refine aq_block_ret ?_
                              refine aq_then_ret ?_
                              refine aq_then_ret ?_
                              refine aq_block_ret ?_
                              refine aq_then_ret ?_
                              refine aq_nilR 48 tyS_api_Entry ?_
                              obtain rfl := Option.some.inj h
                              exact fn_ret (Value.slice none 0 0) [0] [] rfl rfl rfl rfl (res2 rfl rfl rfl) rfl rfl rfl (by decide)
                            · replace h := bif_f hb46 h
                              refine aw_skip ?_
                              refine aq_then ?_
                              refine aw_seq ?_
                              refine aw_region ?_
                              refine al_val (ov_move rfl rfl) ?_
                              refine al_val (ov_load (i := 1) (v := (ag ((cA8u8 (cpA8u8 (A8u8.mk (0 : UInt8) (0 : UInt8) (0 : UInt8) (0 : UInt8) (0 : UInt8) (0 : UInt8) (0 : UInt8) (0 : UInt8)) (cut l25s8 (1 : Int) (9 : Int)))) ++ [(Value.int .i64 (IntKind.i64.wrap (En.bAt l25s8 (0 : Int)))), (Value.int .i64 l25i13), (Value.int .i64 (IntKind.i64.wrap r41.1))]))) rfl rfl Try.underlying48 sz48 rfl rfl rfl rfl) ?_
                              refine al_buildSlice (τ := tyS_api_Entry) (e := 48) (k := 1) (sz := 0) (by_ := 0) (z := undef) (cs := ((cA8u8 (cpA8u8 (A8u8.mk (0 : UInt8) (0 : UInt8) (0 : UInt8) (0 : UInt8) (0 : UInt8) (0 : UInt8) (0 : UInt8) (0 : UInt8)) (cut l25s8 (1 : Int) (9 : Int)))) ++ [(Value.int .i64 (IntKind.i64.wrap (En.bAt l25s8 (0 : Int)))), (Value.int .i64 l25i13), (Value.int .i64 (IntKind.i64.wrap r41.1))])) (xs := [(S_api_Entry.mk (cpA8u8 (A8u8.mk (0 : UInt8) (0 : UInt8) (0 : UInt8) (0 : UInt8) (0 : UInt8) (0 : UInt8) (0 : UInt8) (0 : UInt8)) (cut l25s8 (1 : Int) (9 : Int))) (IntKind.i64.wrap (En.bAt l25s8 (0 : Int))) l25i13 (IntKind.i64.wrap r41.1))]) rfl (by decide) (fun w a hm hs => ⟨(((cA8u8 (cpA8u8 (A8u8.mk (0 : UInt8) (0 : UInt8) (0 : UInt8) (0 : UInt8) (0 : UInt8) (0 : UInt8) (0 : UInt8) (0 : UInt8)) (cut l25s8 (1 : Int) (9 : Int)))) ++ [(Value.int .i64 (IntKind.i64.wrap (En.bAt l25s8 (0 : Int)))), (Value.int .i64 l25i13), (Value.int .i64 (IntKind.i64.wrap r41.1))])).toArray, rfl, by simp only [List.map_toArray, List.map_cons, List.map_nil, hs.ev (x := .tmp 136) rfl]; exact run_bs [(ag ((cA8u8 (cpA8u8 (A8u8.mk (0 : UInt8) (0 : UInt8) (0 : UInt8) (0 : UInt8) (0 : UInt8) (0 : UInt8) (0 : UInt8) (0 : UInt8)) (cut l25s8 (1 : Int) (9 : Int)))) ++ [(Value.int .i64 (IntKind.i64.wrap (En.bAt l25s8 (0 : Int)))), (Value.int .i64 l25i13), (Value.int .i64 (IntKind.i64.wrap r41.1))]))] ((cA8u8 (cpA8u8 (A8u8.mk (0 : UInt8) (0 : UInt8) (0 : UInt8) (0 : UInt8) (0 : UInt8) (0 : UInt8) (0 : UInt8) (0 : UInt8)) (cut l25s8 (1 : Int) (9 : Int)))) ++ [(Value.int .i64 (IntKind.i64.wrap (En.bAt l25s8 (0 : Int)))), (Value.int .i64 l25i13), (Value.int .i64 (IntKind.i64.wrap r41.1))]) Try.underlying43 to48 rfl rfl (bs_cons (l := ((cA8u8 (cpA8u8 (A8u8.mk (0 : UInt8) (0 : UInt8) (0 : UInt8) (0 : UInt8) (0 : UInt8) (0 : UInt8) (0 : UInt8) (0 : UInt8)) (cut l25s8 (1 : Int) (9 : Int)))) ++ [(Value.int .i64 (IntKind.i64.wrap (En.bAt l25s8 (0 : Int)))), (Value.int .i64 l25i13), (Value.int .i64 (IntKind.i64.wrap r41.1))])) (cs := []) (cv_rfl rfl) rfl bs_nil) hm⟩) (fun hm => ⟨((cA8u8 (cpA8u8 (A8u8.mk (0 : UInt8) (0 : UInt8) (0 : UInt8) (0 : UInt8) (0 : UInt8) (0 : UInt8) (0 : UInt8) (0 : UInt8)) (cut l25s8 (1 : Int) (9 : Int)))) ++ [(Value.int .i64 (IntKind.i64.wrap (En.bAt l25s8 (0 : Int)))), (Value.int .i64 l25i13), (Value.int .i64 (IntKind.i64.wrap r41.1))]), [], rfl, mkS_api_Entry rfl, rfl⟩) rfl (fun v47 => ?_)
                              obtain ⟨hc48, h⟩ := req_some h
                              refine al_append 1 hc48.1 hc48.2 rfl (src_own (i := 1) 0 rfl) rfl rfl Try.underlying43 to48 rfl rfl rfl (fun v49 => ?_)
                              refine al_val (ov_assign rfl rfl) ?_
                              refine al_nil ?_
                              refine aq_then ?_
                              refine aw_region ?_
                              refine al_val (ov_move rfl rfl) ?_
                              refine al_val (ov_move rfl rfl) ?_
                              refine al_val (ov_int rfl rfl rfl rfl) ?_
                              obtain ⟨hc50, h⟩ := req_some h
                              refine al_val (ov_strFrom hc50.1 hc50.2 Try.underlying9 rfl rfl rfl) ?_
                              refine al_val (ov_assign rfl rfl) ?_
                              refine al_nil ?_
                              refine aq_block ?_
                              exact aq_join ((l25s8.drop ((IntKind.i64.wrap ((9 : Int) + r41.2.1))).toNat), v49, (l25x12 ++ ([(S_api_Entry.mk (cpA8u8 (A8u8.mk (0 : UInt8) (0 : UInt8) (0 : UInt8) (0 : UInt8) (0 : UInt8) (0 : UInt8) (0 : UInt8) (0 : UInt8)) (cut l25s8 (1 : Int) (9 : Int))) (IntKind.i64.wrap (En.bAt l25s8 (0 : Int))) l25i13 (IntKind.i64.wrap r41.1))])), (IntKind.i64.wrap (l25i13 + (IntKind.i64.wrap r41.1)))) h (fun w a hm hs => norm hm hs [1] [0] [(7, (str (a0.take ((IntKind.i64.wrap ((IntKind.i64.wrap ((IntKind.i64.wrap ((a0.length : Int) - (8 : Int))) - (2 : Int))) - (IntKind.i64.wrap ((IntKind.i64.wrap (En.bAt a0 (IntKind.i64.wrap ((IntKind.i64.wrap ((a0.length : Int) - (8 : Int))) - (2 : Int))))) + (IntKind.i64.wrap ((256 : Int) * (IntKind.i64.wrap (En.bAt a0 (IntKind.i64.wrap ((IntKind.i64.wrap ((a0.length : Int) - (8 : Int))) - (1 : Int)))))))))))).toNat))), (8, (str (l25s8.drop ((IntKind.i64.wrap ((9 : Int) + r41.2.1))).toNat))), (12, v49), (13, (Value.int .i64 (IntKind.i64.wrap (l25i13 + (IntKind.i64.wrap r41.1))))), (80, (Value.int .u64 r15.1)), (81, (Value.int .u64 l25i81))] (by decide) ⟨rfl, rfl, rfl, rfl, rfl, rfl, trivial⟩)
                          · clear hkk45
                            refine aw_seq ?_
                            refine aw_region ?_
                            refine al_val (ov_move rfl rfl) ?_
                            refine al_val (ov_lenR 1 rfl rfl Try.underlying43 rfl) ?_
                            refine al_val (ov_move rfl rfl) ?_
                            refine al_nil ?_
                            refine aq_then ?_
                            refine aw_block ?_
                            refine aw_state (aw_loop (ι := Int) (fun i => (memOf w0 Z0 [] [(oRow l25v12 48 tyS_api_Entry l25x12), (oBox g34 48 ((cA8u8 (cpA8u8 (A8u8.mk (0 : UInt8) (0 : UInt8) (0 : UInt8) (0 : UInt8) (0 : UInt8) (0 : UInt8) (0 : UInt8) (0 : UInt8)) (cut l25s8 (1 : Int) (9 : Int)))) ++ [(Value.int .i64 (IntKind.i64.wrap (En.bAt l25s8 (0 : Int)))), (Value.int .i64 l25i13), (Value.int .i64 (IntKind.i64.wrap r41.1))]))] [(fPtr tyA8u8 (ptr g5 0) r4)])) (fun i => (tab [(7, (str (a0.take ((IntKind.i64.wrap ((IntKind.i64.wrap ((IntKind.i64.wrap ((a0.length : Int) - (8 : Int))) - (2 : Int))) - (IntKind.i64.wrap ((IntKind.i64.wrap (En.bAt a0 (IntKind.i64.wrap ((IntKind.i64.wrap ((a0.length : Int) - (8 : Int))) - (2 : Int))))) + (IntKind.i64.wrap ((256 : Int) * (IntKind.i64.wrap (En.bAt a0 (IntKind.i64.wrap ((IntKind.i64.wrap ((a0.length : Int) - (8 : Int))) - (1 : Int)))))))))))).toNat))), (8, (str l25s8)), (12, l25v12), (13, (Value.int .i64 l25i13)), (14, (ptr g34 0)), (16, (Value.int .i64 r41.2.1)), (80, (Value.int .u64 r15.1)), (81, (Value.int .u64 l25i81)), (115, l25v12), (116, (Value.int .i64 (l25x12.length : Int))), (117, (Value.int .i64 i))])) (fun q i => f_lumref_PackList_L53 l25s8 l25x12 kk45 q i = some r) ?_ fu (0 : Int) h) (fun w a hm hs => norm hm hs [1, 0] [0] [(7, (str (a0.take ((IntKind.i64.wrap ((IntKind.i64.wrap ((IntKind.i64.wrap ((a0.length : Int) - (8 : Int))) - (2 : Int))) - (IntKind.i64.wrap ((IntKind.i64.wrap (En.bAt a0 (IntKind.i64.wrap ((IntKind.i64.wrap ((a0.length : Int) - (8 : Int))) - (2 : Int))))) + (IntKind.i64.wrap ((256 : Int) * (IntKind.i64.wrap (En.bAt a0 (IntKind.i64.wrap ((IntKind.i64.wrap ((a0.length : Int) - (8 : Int))) - (1 : Int)))))))))))).toNat))), (8, (str l25s8)), (12, l25v12), (13, (Value.int .i64 l25i13)), (14, (ptr g34 0)), (16, (Value.int .i64 r41.2.1)), (80, (Value.int .u64 r15.1)), (81, (Value.int .u64 l25i81)), (115, l25v12), (116, (Value.int .i64 (l25x12.length : Int))), (117, (Value.int .i64 (0 : Int)))] (by decide) ⟨rfl, rfl, rfl, rfl, rfl, rfl, rfl, rfl, rfl, rfl, rfl, trivial⟩)
                            clear h
                            rintro k52 l51i117 h
                            have h : f_lumref_PackList_L53 l25s8 l25x12 kk45 k52 l51i117 = some r := h
                            obtain _ | k52 := k52
                            · rw [f_lumref_PackList_L53] at h; cases h
                            rw [f_lumref_PackList_L53] at h
                            refine aw_show (m := (memOf w0 Z0 [] [(oRow l25v12 48 tyS_api_Entry l25x12), (oBox g34 48 ((cA8u8 (cpA8u8 (A8u8.mk (0 : UInt8) (0 : UInt8) (0 : UInt8) (0 : UInt8) (0 : UInt8) (0 : UInt8) (0 : UInt8) (0 : UInt8)) (cut l25s8 (1 : Int) (9 : Int)))) ++ [(Value.int .i64 (IntKind.i64.wrap (En.bAt l25s8 (0 : Int)))), (Value.int .i64 l25i13), (Value.int .i64 (IntKind.i64.wrap r41.1))]))] [(fPtr tyA8u8 (ptr g5 0) r4)])) (S := (tab [(7, (str (a0.take ((IntKind.i64.wrap ((IntKind.i64.wrap ((IntKind.i64.wrap ((a0.length : Int) - (8 : Int))) - (2 : Int))) - (IntKind.i64.wrap ((IntKind.i64.wrap (En.bAt a0 (IntKind.i64.wrap ((IntKind.i64.wrap ((a0.length : Int) - (8 : Int))) - (2 : Int))))) + (IntKind.i64.wrap ((256 : Int) * (IntKind.i64.wrap (En.bAt a0 (IntKind.i64.wrap ((IntKind.i64.wrap ((a0.length : Int) - (8 : Int))) - (1 : Int)))))))))))).toNat))), (8, (str l25s8)), (12, l25v12), (13, (Value.int .i64 l25i13)), (14, (ptr g34 0)), (16, (Value.int .i64 r41.2.1)), (80, (Value.int .u64 r15.1)), (81, (Value.int .u64 l25i81)), (115, l25v12), (116, (Value.int .i64 (l25x12.length : Int))), (117, (Value.int .i64 l51i117))])) ?_
                            refine aw_seq ?_
                            refine aw_region ?_
                            refine al_val (ov_int rfl rfl rfl rfl) ?_
                            refine al_nil ?_
                            refine aq_then ?_
                            refine aw_seq ?_
                            refine aw_cond rfl (fun hb54 => ?_) (fun hb54 => ?_)
                            · replace h := bif_t hb54 h
                              refine aw_skip ?_
                              refine aq_then ?_
                              refine aw_seq ?_
                              refine aw_block ?_
                              refine aw_seq ?_
                              refine aw_region ?_
                              obtain ⟨u55, hu56, h⟩ := opt_some h
                              refine al_idxR 0 (at_some hu56).1 (at_some hu56).2.1 rfl rfl rfl Try.underlying43 sz48 rfl (fun p57 hp58 => ?_)
                              refine al_val (ov_loadR (ds := ((cA8u8 u55.ID) ++ [(Value.int .i64 u55.Kind), (Value.int .i64 u55.At), (Value.int .i64 u55.Len)])) 0 rfl hp58 (at_some hu56).2.2 encS_api_Entry rfl Try.underlying48 sz48 rfl rfl rfl) ?_
                              refine al_alloc (zs := ((cA8u8 (A8u8.mk (0 : UInt8) (0 : UInt8) (0 : UInt8) (0 : UInt8) (0 : UInt8) (0 : UInt8) (0 : UInt8) (0 : UInt8))) ++ [(Value.int .i64 (0 : Int)), (Value.int .i64 (0 : Int)), (Value.int .i64 (0 : Int))])) (zeroOf_to to48) rfl rfl (fun g59 => ?_)
                              refine al_store (i := 0) (vs := ((cA8u8 u55.ID) ++ [(Value.int .i64 u55.Kind), (Value.int .i64 u55.At), (Value.int .i64 u55.Len)])) (cs' := ((cA8u8 u55.ID) ++ [(Value.int .i64 u55.Kind), (Value.int .i64 u55.At), (Value.int .i64 u55.Len)])) rfl rfl rfl sz48 (cv_rfl rfl) rfl (co_app (oneA8u8 u55.ID) (co_val rfl (co_val rfl (co_val rfl co_nil)))) (Nat.le_of_ble_eq_true rfl) rfl rfl ?_
                              refine al_nil ?_
                              refine aq_then ?_
                              refine aw_seq ?_
                              refine aw_region ?_
                              refine al_val (ov_fieldA (p := 0) rfl Try.underlying48 rfl sz26 rfl rfl rfl) ?_
                              refine al_val (ov_load (i := 0) (v := (ag (cA8u8 u55.ID))) rfl rfl Try.underlying26 sz26 rfl rfl rfl rfl) ?_
                              refine al_val (ov_fieldA (p := 0) rfl Try.underlying48 rfl sz26 rfl rfl rfl) ?_
                              refine al_val (ov_load (i := 2) (v := (ag (cA8u8 (cpA8u8 (A8u8.mk (0 : UInt8) (0 : UInt8) (0 : UInt8) (0 : UInt8) (0 : UInt8) (0 : UInt8) (0 : UInt8) (0 : UInt8)) (cut l25s8 (1 : Int) (9 : Int)))))) rfl rfl Try.underlying26 sz26 rfl rfl rfl rfl) ?_
                              refine al_val (ov_eqlA (cs := (cA8u8 u55.ID)) (ds := (cA8u8 (cpA8u8 (A8u8.mk (0 : UInt8) (0 : UInt8) (0 : UInt8) (0 : UInt8) (0 : UInt8) (0 : UInt8) (0 : UInt8) (0 : UInt8)) (cut l25s8 (1 : Int) (9 : Int))))) (ls := [5, 5, 5, 5, 5, 5, 5, 5]) (p := (u55.ID == (cpA8u8 (A8u8.mk (0 : UInt8) (0 : UInt8) (0 : UInt8) (0 : UInt8) (0 : UInt8) (0 : UInt8) (0 : UInt8) (0 : UInt8)) (cut l25s8 (1 : Int) (9 : Int))))) eg26 kt26 lv26 rfl rfl (by kernel_rfl) (by kernel_rfl) (fit_cons (fit_u8 Try.underlying5) (fit_cons (fit_u8 Try.underlying5) (fit_cons (fit_u8 Try.underlying5) (fit_cons (fit_u8 Try.underlying5) (fit_cons (fit_u8 Try.underlying5) (fit_cons (fit_u8 Try.underlying5) (fit_cons (fit_u8 Try.underlying5) (fit_cons (fit_u8 Try.underlying5) fit_nil)))))))) (fit_cons (fit_u8 Try.underlying5) (fit_cons (fit_u8 Try.underlying5) (fit_cons (fit_u8 Try.underlying5) (fit_cons (fit_u8 Try.underlying5) (fit_cons (fit_u8 Try.underlying5) (fit_cons (fit_u8 Try.underlying5) (fit_cons (fit_u8 Try.underlying5) (fit_cons (fit_u8 Try.underlying5) fit_nil)))))))) (injA8u8 (x := u55.ID) (y := (cpA8u8 (A8u8.mk (0 : UInt8) (0 : UInt8) (0 : UInt8) (0 : UInt8) (0 : UInt8) (0 : UInt8) (0 : UInt8) (0 : UInt8)) (cut l25s8 (1 : Int) (9 : Int))))) rfl) ?_
                              refine al_nil ?_
                              refine aq_then ?_
                              refine aw_cond rfl (fun hb60 => ?_) (fun hb60 => ?_)
                              · replace h := bif_t hb60 h
                                refine aw_seq ?_
                                refine aw_region ?_
                                refine al_val (ov_assign rfl rfl) ?_
                                refine al_val (ov_assign rfl rfl) ?_
                                refine al_nil ?_
                                refine aq_then ?_
                                refine aw_ret ?_
                                refine aq_block_ret ?_
                                refine aq_then_ret ?_
                                refine aq_then_ret ?_
                                refine aq_block_ret ?_
                                refine aq_then_ret ?_
                                refine aq_block_ret ?_
                                refine aq_then_ret ?_
                                refine aq_then_ret ?_
                                refine aq_block_ret ?_
                                refine aq_then_ret ?_
                                refine aq_nilR 48 tyS_api_Entry ?_
                                obtain rfl := Option.some.inj h
                                exact fn_ret (Value.slice none 0 0) [0] [] rfl rfl rfl rfl (res2 rfl rfl rfl) rfl rfl rfl (by decide)
                              · replace h := bif_f hb60 h
                                refine aw_skip ?_
                                refine aq_block ?_
                                refine aq_then ?_
                                refine aw_region ?_
                                refine al_val (ov_int rfl rfl rfl rfl) ?_
                                refine al_val (ov_move rfl rfl) ?_
                                refine al_nil ?_
                                exact aq_again k52 (IntKind.i64.wrap (l51i117 + (1 : Int))) (Nat.lt_succ_self _) h (fun w a hm hs => norm hm hs [1, 2] [0] [(7, (str (a0.take ((IntKind.i64.wrap ((IntKind.i64.wrap ((IntKind.i64.wrap ((a0.length : Int) - (8 : Int))) - (2 : Int))) - (IntKind.i64.wrap ((IntKind.i64.wrap (En.bAt a0 (IntKind.i64.wrap ((IntKind.i64.wrap ((a0.length : Int) - (8 : Int))) - (2 : Int))))) + (IntKind.i64.wrap ((256 : Int) * (IntKind.i64.wrap (En.bAt a0 (IntKind.i64.wrap ((IntKind.i64.wrap ((a0.length : Int) - (8 : Int))) - (1 : Int)))))))))))).toNat))), (8, (str l25s8)), (12, l25v12), (13, (Value.int .i64 l25i13)), (14, (ptr g34 0)), (16, (Value.int .i64 r41.2.1)), (80, (Value.int .u64 r15.1)), (81, (Value.int .u64 l25i81)), (115, l25v12), (116, (Value.int .i64 (l25x12.length : Int))), (117, (Value.int .i64 (IntKind.i64.wrap (l51i117 + (1 : Int)))))] (by decide) ⟨rfl, rfl, rfl, rfl, rfl, rfl, rfl, rfl, rfl, rfl, rfl, trivial⟩)
                            · replace h := bif_f hb54 h
                              refine aw_exit ?_
                              refine aq_then_exit ?_
                              refine aq_then_exit ?_
                              refine aq_block_exit ?_
                              exact aq_join () h (fun w a hm hs => norm hm hs [0, 1] [0] [(7, (str (a0.take ((IntKind.i64.wrap ((IntKind.i64.wrap ((IntKind.i64.wrap ((a0.length : Int) - (8 : Int))) - (2 : Int))) - (IntKind.i64.wrap ((IntKind.i64.wrap (En.bAt a0 (IntKind.i64.wrap ((IntKind.i64.wrap ((a0.length : Int) - (8 : Int))) - (2 : Int))))) + (IntKind.i64.wrap ((256 : Int) * (IntKind.i64.wrap (En.bAt a0 (IntKind.i64.wrap ((IntKind.i64.wrap ((a0.length : Int) - (8 : Int))) - (1 : Int)))))))))))).toNat))), (8, (str l25s8)), (12, l25v12), (13, (Value.int .i64 l25i13)), (14, (ptr g34 0)), (16, (Value.int .i64 r41.2.1)), (80, (Value.int .u64 r15.1)), (81, (Value.int .u64 l25i81))] (by decide) ⟨rfl, rfl, rfl, rfl, rfl, rfl, rfl, rfl, trivial⟩)
              · replace h := bif_f hb29 h
                refine aw_exit ?_
                refine aq_then_exit ?_
                refine aq_then_exit ?_
                refine aq_block_exit ?_
                exact aq_join (l25s8, l25v12, l25x12, l25i13) h (fun w a hm hs => norm hm hs [0] [0] [(7, (str (a0.take ((IntKind.i64.wrap ((IntKind.i64.wrap ((IntKind.i64.wrap ((a0.length : Int) - (8 : Int))) - (2 : Int))) - (IntKind.i64.wrap ((IntKind.i64.wrap (En.bAt a0 (IntKind.i64.wrap ((IntKind.i64.wrap ((a0.length : Int) - (8 : Int))) - (2 : Int))))) + (IntKind.i64.wrap ((256 : Int) * (IntKind.i64.wrap (En.bAt a0 (IntKind.i64.wrap ((IntKind.i64.wrap ((a0.length : Int) - (8 : Int))) - (1 : Int)))))))))))).toNat))), (8, (str l25s8)), (12, l25v12), (13, (Value.int .i64 l25i13))] (by decide) ⟨rfl, rfl, rfl, rfl, trivial⟩)
def f_slices_Equal___api_Entry_api_Entry__L6 (a0 : (List S_api_Entry)) (a1 : (List S_api_Entry)) (kk3 : (Unit → Option Bool)) : Nat → Int → Option Bool
  | 0, _ => none
  | k5 + 1, l4i13 => (bif (decide (l4i13 < (a0.length : Int))) then (opt (at? a0 l4i13) fun (u8 : S_api_Entry) => (opt (at? a1 l4i13) fun (u11 : S_api_Entry) => (req ((Lit.int .i64 u8.Kind).wf = true) (req ((Lit.int .i64 u8.At).wf = true) (req ((Lit.int .i64 u8.Len).wf = true) (req ((Lit.int .i64 u11.Kind).wf = true) (req ((Lit.int .i64 u11.At).wf = true) (req ((Lit.int .i64 u11.Len).wf = true) (bif (!(u8 == u11)) then (some false) else (f_slices_Equal___api_Entry_api_Entry__L6 a0 a1 kk3 k5 (IntKind.i64.wrap (l4i13 + (1 : Int))))))))))))) else (kk3 ()))
def f_slices_Equal___api_Entry_api_Entry_ (fu : Nat) (a0 : (List S_api_Entry)) (a1 : (List S_api_Entry)) : Option Bool := (bif ((a0.length : Int) != (a1.length : Int)) then (some false) else (lt (fun (_ : Unit) => (some true)) fun (kk3 : Unit → Option Bool) => (f_slices_Equal___api_Entry_api_Entry__L6 a0 a1 kk3 fu (0 : Int))))
end Go.Proofs.Ytjbgahmcobcojaa
