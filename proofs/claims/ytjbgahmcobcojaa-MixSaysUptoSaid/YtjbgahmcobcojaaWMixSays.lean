/- Walks by program. No condition. -/
import Derived.Test.YtjbgahmcobcojaaEn19
import Derived.Test.YtjbgahmcobcojaaChecked
import Derived.Test.YtjbgahmcobcojaaShRepeat
import Derived.Test.YtjbgahmcobcojaaShBEPut
namespace Go.Proofs.Ytjbgahmcobcojaa
open Go.RowKit Ytjbgahmcobcojaa.En
set_option linter.unusedVariables false
set_option linter.unusedSimpArgs false
structure A8u8 where
  e0 : UInt8
  e1 : UInt8
  e2 : UInt8
  e3 : UInt8
  e4 : UInt8
  e5 : UInt8
  e6 : UInt8
  e7 : UInt8
  deriving DecidableEq
def tyA8u8 : Ty A8u8 := tyVia (fun x => (x.e0, (x.e1, (x.e2, (x.e3, (x.e4, (x.e5, (x.e6, x.e7)))))))) (tyPair tyU8 (tyPair tyU8 (tyPair tyU8 (tyPair tyU8 (tyPair tyU8 (tyPair tyU8 (tyPair tyU8 tyU8)))))))
theorem subA8u8_0 : Sub tyA8u8 0 tyU8 (fun x => x.e0) := Sub.via (Sub.fst (Sub.whole _))
theorem subA8u8_1 : Sub tyA8u8 1 tyU8 (fun x => x.e1) := Sub.via (Sub.snd (Sub.fst (Sub.whole _)))
theorem subA8u8_2 : Sub tyA8u8 2 tyU8 (fun x => x.e2) := Sub.via (Sub.snd (Sub.snd (Sub.fst (Sub.whole _))))
theorem subA8u8_3 : Sub tyA8u8 3 tyU8 (fun x => x.e3) := Sub.via (Sub.snd (Sub.snd (Sub.snd (Sub.fst (Sub.whole _)))))
theorem subA8u8_4 : Sub tyA8u8 4 tyU8 (fun x => x.e4) := Sub.via (Sub.snd (Sub.snd (Sub.snd (Sub.snd (Sub.fst (Sub.whole _))))))
theorem subA8u8_5 : Sub tyA8u8 5 tyU8 (fun x => x.e5) := Sub.via (Sub.snd (Sub.snd (Sub.snd (Sub.snd (Sub.snd (Sub.fst (Sub.whole _)))))))
theorem subA8u8_6 : Sub tyA8u8 6 tyU8 (fun x => x.e6) := Sub.via (Sub.snd (Sub.snd (Sub.snd (Sub.snd (Sub.snd (Sub.snd (Sub.fst (Sub.whole _))))))))
theorem subA8u8_7 : Sub tyA8u8 7 tyU8 (fun x => x.e7) := Sub.via (Sub.snd (Sub.snd (Sub.snd (Sub.snd (Sub.snd (Sub.snd (Sub.snd (Sub.whole _))))))))
def cA8u8 (x : A8u8) : List Value := [(Value.int .u8 (x.e0.toNat : Int)), (Value.int .u8 (x.e1.toNat : Int)), (Value.int .u8 (x.e2.toNat : Int)), (Value.int .u8 (x.e3.toNat : Int)), (Value.int .u8 (x.e4.toNat : Int)), (Value.int .u8 (x.e5.toNat : Int)), (Value.int .u8 (x.e6.toNat : Int)), (Value.int .u8 (x.e7.toNat : Int))]
def lA8u8 (x : A8u8) : List UInt8 := [x.e0, x.e1, x.e2, x.e3, x.e4, x.e5, x.e6, x.e7]
def vA8u8 (y : UInt8) : Value := (Value.int .u8 (y.toNat : Int))
def setA8u8 (x : A8u8) (j : Int) (y : UInt8) : A8u8 := ⟨if j = 0 then y else x.e0, if j = 1 then y else x.e1, if j = 2 then y else x.e2, if j = 3 then y else x.e3, if j = 4 then y else x.e4, if j = 5 then y else x.e5, if j = 6 then y else x.e6, if j = 7 then y else x.e7⟩
theorem oneA8u8 (x : A8u8) : ∀ u ∈ cA8u8 x, u.oneCell' = true := ones_map (enc := vA8u8) (xs := lA8u8 x) (fun _ => rfl)
theorem lenA8u8 (x : A8u8) : (lA8u8 x).length = 8 := rfl
theorem lsetA8u8 {x : A8u8} {j : Int} {y : UInt8} (h0 : 0 ≤ j) (h1 : j < 8) : lA8u8 (setA8u8 x j y) = (lA8u8 x).set j.toNat y := by
  obtain ⟨q, rfl⟩ : ∃ q : Nat, j = q := ⟨j.toNat, by omega⟩
  match q, h1 with
  | 0, _ => rfl
  | 1, _ => rfl
  | 2, _ => rfl
  | 3, _ => rfl
  | 4, _ => rfl
  | 5, _ => rfl
  | 6, _ => rfl
  | 7, _ => rfl
  | n + 8, h => omega
theorem csetA8u8 {x : A8u8} {j : Int} {y : UInt8} (h0 : 0 ≤ j) (h1 : j < 8) (pre post : List Value) : pre ++ (cA8u8 (setA8u8 x j y) ++ post) = (pre ++ (cA8u8 x ++ post)).set (pre.length + j.toNat) (vA8u8 y) := by
  have h : cA8u8 (setA8u8 x j y) = (cA8u8 x).set j.toNat (vA8u8 y) := by
    have e : ∀ z : A8u8, cA8u8 z = (lA8u8 z).map vA8u8 := fun _ => rfl
    rw [e, e, lsetA8u8 h0 h1, List.map_set]
  rw [h, List.set_append_right _ _ (by omega), Nat.add_sub_cancel_left, List.set_append_left _ _ (by show j.toNat < 8; omega)]
theorem flatA8u8 : FlatTy tyA8u8 := flat_via (flat_pair flat_enc (flat_pair flat_enc (flat_pair flat_enc (flat_pair flat_enc (flat_pair flat_enc (flat_pair flat_enc (flat_pair flat_enc flat_enc)))))))
theorem encA8u8 {Z w cs} {x : A8u8} (h : tyA8u8.rep Z w cs x) : cs = (cA8u8 x) := by
  obtain ⟨c0, d0, rfl, p0, q0⟩ := h
  obtain ⟨c1, d1, rfl, p1, q1⟩ := q0
  obtain ⟨c2, d2, rfl, p2, q2⟩ := q1
  obtain ⟨c3, d3, rfl, p3, q3⟩ := q2
  obtain ⟨c4, d4, rfl, p4, q4⟩ := q3
  obtain ⟨c5, d5, rfl, p5, q5⟩ := q4
  obtain ⟨c6, d6, rfl, p6, q6⟩ := q5
  rw [show _ = _ from p0]
  rw [show _ = _ from p1]
  rw [show _ = _ from p2]
  rw [show _ = _ from p3]
  rw [show _ = _ from p4]
  rw [show _ = _ from p5]
  rw [show _ = _ from p6]
  rw [show _ = _ from q6]
  rfl
theorem mkA8u8 {Z w cs} {x : A8u8} (h : cs = (cA8u8 x)) : tyA8u8.rep Z w cs x := by
  subst h
  exact ⟨_, _, (List.take_append_drop 1 _).symm, rfl, ⟨_, _, (List.take_append_drop 1 _).symm, rfl, ⟨_, _, (List.take_append_drop 1 _).symm, rfl, ⟨_, _, (List.take_append_drop 1 _).symm, rfl, ⟨_, _, (List.take_append_drop 1 _).symm, rfl, ⟨_, _, (List.take_append_drop 1 _).symm, rfl, ⟨_, _, (List.take_append_drop 1 _).symm, rfl, rfl⟩⟩⟩⟩⟩⟩⟩
theorem lrepA8u8 {Z w cs} {x : A8u8} (h : tyA8u8.rep Z w cs x) : RepL tyU8 Z w cs (lA8u8 x) := by
  rw [encA8u8 h]
  exact ⟨[_], _, rfl, rfl, ⟨[_], _, rfl, rfl, ⟨[_], _, rfl, rfl, ⟨[_], _, rfl, rfl, ⟨[_], _, rfl, rfl, ⟨[_], _, rfl, rfl, ⟨[_], _, rfl, rfl, ⟨[_], _, rfl, rfl, rfl⟩⟩⟩⟩⟩⟩⟩⟩
def ofA8u8 (l : List UInt8) : A8u8 := match l.take 8 with | [e0, e1, e2, e3, e4, e5, e6, e7] => ⟨e0, e1, e2, e3, e4, e5, e6, e7⟩ | _ => ⟨0, 0, 0, 0, 0, 0, 0, 0⟩
theorem oflA8u8 {l : List UInt8} (hl : 8 ≤ l.length) {Z w cs} (hr : RepL tyU8 Z w cs (l.take 8)) : tyA8u8.rep Z w cs (ofA8u8 l) := by
  unfold ofA8u8
  have h8 : (l.take 8).length = 8 := by rw [List.length_take]; omega
  generalize l.take 8 = m at hr h8
  match m, h8, hr with
  | [e0, e1, e2, e3, e4, e5, e6, e7], _, hr => exact mkA8u8 (by rw [u8_cells hr]; rfl)
theorem coftA8u8 (l : List UInt8) (hl : l.length = 8) : cA8u8 (ofA8u8 l) = Lib.byteCells l := by
  match l, hl with
  | [e0, e1, e2, e3, e4, e5, e6, e7], _ => rfl
def cpA8u8 (x : A8u8) (l : List UInt8) : A8u8 := ofA8u8 (l.take 8 ++ (lA8u8 x).drop (l.take 8).length)
theorem ccpA8u8 (x : A8u8) (l : List UInt8) : cA8u8 (cpA8u8 x l) = Lib.byteCells (l.take 8) ++ (cA8u8 x).drop (l.take 8).length := by
  have h1 : (l.take 8).length ≤ 8 := by rw [List.length_take]; omega
  unfold cpA8u8
  rw [coftA8u8 _ (by rw [List.length_append, List.length_drop, lenA8u8]; omega)]
  unfold Lib.byteCells
  rw [List.map_append, List.map_drop]
  rfl
theorem cpcA8u8 (x : A8u8) (l : List UInt8) (pre post : List Value) : (pre ++ (cA8u8 x ++ post)).take pre.length ++ Lib.byteCells (l.take 8) ++ (pre ++ (cA8u8 x ++ post)).drop (pre.length + (l.take 8).length) = pre ++ (cA8u8 (cpA8u8 x l) ++ post) := by
  have h1 : (l.take 8).length ≤ (cA8u8 x).length := by rw [List.length_take]; exact Nat.min_le_left _ _
  rw [ccpA8u8, List.take_left, List.drop_append, List.drop_of_length_le (by omega), Nat.add_sub_cancel_left, List.drop_append_of_le_length h1]
  simp
theorem sz3 : szOf Try.prog 3 = some 1 := by kernel_rfl
theorem to3 : tyOf Try.prog 3 = some (1, 8, some (Value.int .i64 (0 : Int))) := by kernel_rfl
theorem sz5 : szOf Try.prog 5 = some 1 := by kernel_rfl
theorem to5 : tyOf Try.prog 5 = some (1, 1, some (Value.int .u8 (0 : Int))) := by kernel_rfl
theorem sz25 : szOf Try.prog 25 = some 8 := by kernel_rfl
theorem to25 : tyOf Try.prog 25 = some (8, 8, some (ag [(Value.int .u8 (0 : Int)), (Value.int .u8 (0 : Int)), (Value.int .u8 (0 : Int)), (Value.int .u8 (0 : Int)), (Value.int .u8 (0 : Int)), (Value.int .u8 (0 : Int)), (Value.int .u8 (0 : Int)), (Value.int .u8 (0 : Int))])) := by kernel_rfl
theorem sz26 : szOf Try.prog 26 = some 8 := by kernel_rfl
theorem to26 : tyOf Try.prog 26 = some (8, 8, some (ag [(Value.int .u8 (0 : Int)), (Value.int .u8 (0 : Int)), (Value.int .u8 (0 : Int)), (Value.int .u8 (0 : Int)), (Value.int .u8 (0 : Int)), (Value.int .u8 (0 : Int)), (Value.int .u8 (0 : Int)), (Value.int .u8 (0 : Int))])) := by kernel_rfl
theorem sz69 : szOf Try.prog 69 = some 0 := by kernel_rfl
theorem to69 : tyOf Try.prog 69 = some (0, 0, some (ag [])) := by kernel_rfl
theorem sz83 : szOf Try.prog 83 = some 0 := by kernel_rfl
theorem to83 : tyOf Try.prog 83 = some (0, 0, some (ag [])) := by kernel_rfl
theorem mixed : Try.prog.follows .mixedOrders = true := by kernel_rfl
theorem eg26 : Try.prog.eqGuardType Try.prog.depth 26 = false := by kernel_rfl
theorem kt26 : Try.prog.keyTypeAt 20 26 = true := by kernel_rfl
theorem lv26 : leaves Try.prog 20 26 = some [5, 5, 5, 5, 5, 5, 5, 5] := by kernel_rfl
theorem injA8u8 {x y : A8u8} : (x == y) = true ↔ (cA8u8 x) = (cA8u8 y) := by
  rw [beq_iff_eq]
  constructor
  · rintro rfl; rfl
  · intro h
    obtain ⟨⟩ := x
    obtain ⟨⟩ := y
    simp only [A8u8.mk.injEq, cA8u8, str, List.cons_append, List.nil_append, List.cons.injEq, Value.int.injEq, Value.bool.injEq, Value.string.injEq, ByteArray.mk.injEq, Array.mk.injEq, Int.natCast_inj, UInt8.toNat_inj, true_and, and_true] at h ⊢
    first | exact h | simpa [and_assoc] using h
theorem f_put8_ok {g off t : Nat} {a2 : Int} {cs cs' : List Value} (hc : 0 ≤ a2 ∧ a2 < 18446744073709551616) (hfit : off + 8 ≤ cs.length) (hcs : cs.take off ++ Lib.byteCells ((Lib.beBytes 8 a2.toNat).take 8) ++ cs.drop (off + ((Lib.beBytes 8 a2.toNat).take 8).length) = cs') :
    FnOk Try.prog 37 [(ag []), (sbx g off 8), (Value.int .u64 a2)] [] [oBox g t cs] (fun _ : Unit => { val := .tuple #[], own := [oBox g t cs'] }) := by
  obtain ⟨n, rfl⟩ : ∃ n : Nat, a2 = n := ⟨a2.toNat, by omega⟩
  have hl : (Lib.beBytes 8 n).length = 8 := Lib.beBytes_length 8 n
  have hcs' : cs.take off ++ Lib.byteCells (Lib.beBytes 8 n) ++ cs.drop (off + 8) = cs' := by
    have e : (Lib.beBytes 8 ((n : Int).toNat)).take 8 = Lib.beBytes 8 n := by rw [Int.toNat_natCast, List.take_of_length_le (by omega)]
    rw [e, hl] at hcs; exact hcs
  exact fnok_put8 hl hfit hcs' (fun x0 x1 x2 x3 x4 x5 x6 x7 w c0 c1 c2 c3 c4 c5 c6 c7 f0 f1 f2 f3 f4 f5 f6 f7 => Try.binary_BE_PutUint64 g off 8 8 n (by omega) x0 x1 x2 x3 x4 x5 x6 x7 w (by omega) c0 c1 c2 c3 c4 c5 c6 c7 f0 f1 f2 f3 f4 f5 f6 f7)
def f__binary_littleEndian__Uint64 (fu : Nat) (a0 : Unit) (a1 : (List UInt8)) : Option Int := (opt (at? a1 (7 : Int)) fun (u2 : UInt8) => (opt (at? a1 (0 : Int)) fun (u5 : UInt8) => (opt (at? a1 (1 : Int)) fun (u8 : UInt8) => (opt (at? a1 (2 : Int)) fun (u11 : UInt8) => (opt (at? a1 (3 : Int)) fun (u14 : UInt8) => (opt (at? a1 (4 : Int)) fun (u17 : UInt8) => (opt (at? a1 (5 : Int)) fun (u20 : UInt8) => (opt (at? a1 (6 : Int)) fun (u23 : UInt8) => (opt (at? a1 (7 : Int)) fun (u26 : UInt8) => (some (bits .or .u64 (bits .or .u64 (bits .or .u64 (bits .or .u64 (bits .or .u64 (bits .or .u64 (bits .or .u64 (IntKind.u64.wrap (u5.toNat : Int)) (IntKind.u64.wrap ((IntKind.u64.wrap (u8.toNat : Int)) * 2 ^ min ((8 : Int)).toNat (IntKind.bits .u64)))) (IntKind.u64.wrap ((IntKind.u64.wrap (u11.toNat : Int)) * 2 ^ min ((16 : Int)).toNat (IntKind.bits .u64)))) (IntKind.u64.wrap ((IntKind.u64.wrap (u14.toNat : Int)) * 2 ^ min ((24 : Int)).toNat (IntKind.bits .u64)))) (IntKind.u64.wrap ((IntKind.u64.wrap (u17.toNat : Int)) * 2 ^ min ((32 : Int)).toNat (IntKind.bits .u64)))) (IntKind.u64.wrap ((IntKind.u64.wrap (u20.toNat : Int)) * 2 ^ min ((40 : Int)).toNat (IntKind.bits .u64)))) (IntKind.u64.wrap ((IntKind.u64.wrap (u23.toNat : Int)) * 2 ^ min ((48 : Int)).toNat (IntKind.bits .u64)))) (IntKind.u64.wrap ((IntKind.u64.wrap (u26.toNat : Int)) * 2 ^ min ((56 : Int)).toNat (IntKind.bits .u64))))))))))))))
set_option maxRecDepth 100000 in
theorem f__binary_littleEndian__Uint64_ok (fu : Nat) (a0 : Unit) (v1_0 : Value) (a1 : (List UInt8)) {r : Int} (h : f__binary_littleEndian__Uint64 fu a0 a1 = some r) : FnOk Try.prog 52 [(ag []), v1_0] [(fDat (tyList tyU8) [v1_0] a1)] [] (fun (i : Unit) => { val := (Value.int .u64 r) }) := by
  unfold f__binary_littleEndian__Uint64 at h
  refine fn_enter Try.func52 rfl Try.ntmps52 rfl (fun w0 Z0 => ?_)
  refine aw_seq ?_
  refine aw_region ?_
  refine al_box (vs := []) rfl (cv_rfl rfl) rfl (fun g1 => ?_)
  refine al_val (ov_assign rfl rfl) ?_
  refine al_nil ?_
  refine aq_then ?_
  refine aw_seq ?_
  refine aw_region ?_
  refine al_val (ov_move rfl rfl) ?_
  obtain ⟨u2, hu3, h⟩ := opt_some h
  refine al_idxD 0 hu3 rfl rfl rfl Try.underlying62 sz5 rfl (fun p4 => ?_)
  refine al_val (ov_loadP (ds := [(Value.int .u8 (u2.toNat : Int))]) 0 rfl (fun h => h) rfl Try.underlying5 sz5 rfl rfl rfl) ?_
  refine al_nil ?_
  refine aq_then ?_
  refine aw_seq ?_
  obtain ⟨u5, hu6, h⟩ := opt_some h
  obtain ⟨u8, hu9, h⟩ := opt_some h
  obtain ⟨u11, hu12, h⟩ := opt_some h
  obtain ⟨u14, hu15, h⟩ := opt_some h
  obtain ⟨u17, hu18, h⟩ := opt_some h
  obtain ⟨u20, hu21, h⟩ := opt_some h
  obtain ⟨u23, hu24, h⟩ := opt_some h
  obtain ⟨u26, hu27, h⟩ := opt_some h
  refine aw_region_draw 46 [(8, (fun u => fEq u v1_0)), (9, (fun p7 => (fPtr tyU8 p7 u5))), (10, (fun u => fEq u (Value.int .u8 (u5.toNat : Int)))), (11, (fun u => fEq u (Value.int .u64 (IntKind.u64.wrap (u5.toNat : Int))))), (12, (fun u => fEq u v1_0)), (13, (fun p10 => (fPtr tyU8 p10 u8))), (14, (fun u => fEq u (Value.int .u8 (u8.toNat : Int)))), (15, (fun u => fEq u (Value.int .u64 (IntKind.u64.wrap (u8.toNat : Int))))), (16, (fun u => fEq u (Value.int .u64 (IntKind.u64.wrap ((IntKind.u64.wrap (u8.toNat : Int)) * 2 ^ min ((8 : Int)).toNat (IntKind.bits .u64)))))), (17, (fun u => fEq u (Value.int .u64 (bits .or .u64 (IntKind.u64.wrap (u5.toNat : Int)) (IntKind.u64.wrap ((IntKind.u64.wrap (u8.toNat : Int)) * 2 ^ min ((8 : Int)).toNat (IntKind.bits .u64))))))), (18, (fun u => fEq u v1_0)), (19, (fun p13 => (fPtr tyU8 p13 u11))), (20, (fun u => fEq u (Value.int .u8 (u11.toNat : Int)))), (21, (fun u => fEq u (Value.int .u64 (IntKind.u64.wrap (u11.toNat : Int))))), (22, (fun u => fEq u (Value.int .u64 (IntKind.u64.wrap ((IntKind.u64.wrap (u11.toNat : Int)) * 2 ^ min ((16 : Int)).toNat (IntKind.bits .u64)))))), (23, (fun u => fEq u (Value.int .u64 (bits .or .u64 (bits .or .u64 (IntKind.u64.wrap (u5.toNat : Int)) (IntKind.u64.wrap ((IntKind.u64.wrap (u8.toNat : Int)) * 2 ^ min ((8 : Int)).toNat (IntKind.bits .u64)))) (IntKind.u64.wrap ((IntKind.u64.wrap (u11.toNat : Int)) * 2 ^ min ((16 : Int)).toNat (IntKind.bits .u64))))))), (24, (fun u => fEq u v1_0)), (25, (fun p16 => (fPtr tyU8 p16 u14))), (26, (fun u => fEq u (Value.int .u8 (u14.toNat : Int)))), (27, (fun u => fEq u (Value.int .u64 (IntKind.u64.wrap (u14.toNat : Int))))), (28, (fun u => fEq u (Value.int .u64 (IntKind.u64.wrap ((IntKind.u64.wrap (u14.toNat : Int)) * 2 ^ min ((24 : Int)).toNat (IntKind.bits .u64)))))), (29, (fun u => fEq u (Value.int .u64 (bits .or .u64 (bits .or .u64 (bits .or .u64 (IntKind.u64.wrap (u5.toNat : Int)) (IntKind.u64.wrap ((IntKind.u64.wrap (u8.toNat : Int)) * 2 ^ min ((8 : Int)).toNat (IntKind.bits .u64)))) (IntKind.u64.wrap ((IntKind.u64.wrap (u11.toNat : Int)) * 2 ^ min ((16 : Int)).toNat (IntKind.bits .u64)))) (IntKind.u64.wrap ((IntKind.u64.wrap (u14.toNat : Int)) * 2 ^ min ((24 : Int)).toNat (IntKind.bits .u64))))))), (30, (fun u => fEq u v1_0)), (31, (fun p19 => (fPtr tyU8 p19 u17))), (32, (fun u => fEq u (Value.int .u8 (u17.toNat : Int)))), (33, (fun u => fEq u (Value.int .u64 (IntKind.u64.wrap (u17.toNat : Int))))), (34, (fun u => fEq u (Value.int .u64 (IntKind.u64.wrap ((IntKind.u64.wrap (u17.toNat : Int)) * 2 ^ min ((32 : Int)).toNat (IntKind.bits .u64)))))), (35, (fun u => fEq u (Value.int .u64 (bits .or .u64 (bits .or .u64 (bits .or .u64 (bits .or .u64 (IntKind.u64.wrap (u5.toNat : Int)) (IntKind.u64.wrap ((IntKind.u64.wrap (u8.toNat : Int)) * 2 ^ min ((8 : Int)).toNat (IntKind.bits .u64)))) (IntKind.u64.wrap ((IntKind.u64.wrap (u11.toNat : Int)) * 2 ^ min ((16 : Int)).toNat (IntKind.bits .u64)))) (IntKind.u64.wrap ((IntKind.u64.wrap (u14.toNat : Int)) * 2 ^ min ((24 : Int)).toNat (IntKind.bits .u64)))) (IntKind.u64.wrap ((IntKind.u64.wrap (u17.toNat : Int)) * 2 ^ min ((32 : Int)).toNat (IntKind.bits .u64))))))), (36, (fun u => fEq u v1_0)), (37, (fun p22 => (fPtr tyU8 p22 u20))), (38, (fun u => fEq u (Value.int .u8 (u20.toNat : Int)))), (39, (fun u => fEq u (Value.int .u64 (IntKind.u64.wrap (u20.toNat : Int))))), (40, (fun u => fEq u (Value.int .u64 (IntKind.u64.wrap ((IntKind.u64.wrap (u20.toNat : Int)) * 2 ^ min ((40 : Int)).toNat (IntKind.bits .u64)))))), (41, (fun u => fEq u (Value.int .u64 (bits .or .u64 (bits .or .u64 (bits .or .u64 (bits .or .u64 (bits .or .u64 (IntKind.u64.wrap (u5.toNat : Int)) (IntKind.u64.wrap ((IntKind.u64.wrap (u8.toNat : Int)) * 2 ^ min ((8 : Int)).toNat (IntKind.bits .u64)))) (IntKind.u64.wrap ((IntKind.u64.wrap (u11.toNat : Int)) * 2 ^ min ((16 : Int)).toNat (IntKind.bits .u64)))) (IntKind.u64.wrap ((IntKind.u64.wrap (u14.toNat : Int)) * 2 ^ min ((24 : Int)).toNat (IntKind.bits .u64)))) (IntKind.u64.wrap ((IntKind.u64.wrap (u17.toNat : Int)) * 2 ^ min ((32 : Int)).toNat (IntKind.bits .u64)))) (IntKind.u64.wrap ((IntKind.u64.wrap (u20.toNat : Int)) * 2 ^ min ((40 : Int)).toNat (IntKind.bits .u64))))))), (42, (fun u => fEq u v1_0)), (43, (fun p25 => (fPtr tyU8 p25 u23))), (44, (fun u => fEq u (Value.int .u8 (u23.toNat : Int)))), (45, (fun u => fEq u (Value.int .u64 (IntKind.u64.wrap (u23.toNat : Int))))), (46, (fun u => fEq u (Value.int .u64 (IntKind.u64.wrap ((IntKind.u64.wrap (u23.toNat : Int)) * 2 ^ min ((48 : Int)).toNat (IntKind.bits .u64)))))), (47, (fun u => fEq u (Value.int .u64 (bits .or .u64 (bits .or .u64 (bits .or .u64 (bits .or .u64 (bits .or .u64 (bits .or .u64 (IntKind.u64.wrap (u5.toNat : Int)) (IntKind.u64.wrap ((IntKind.u64.wrap (u8.toNat : Int)) * 2 ^ min ((8 : Int)).toNat (IntKind.bits .u64)))) (IntKind.u64.wrap ((IntKind.u64.wrap (u11.toNat : Int)) * 2 ^ min ((16 : Int)).toNat (IntKind.bits .u64)))) (IntKind.u64.wrap ((IntKind.u64.wrap (u14.toNat : Int)) * 2 ^ min ((24 : Int)).toNat (IntKind.bits .u64)))) (IntKind.u64.wrap ((IntKind.u64.wrap (u17.toNat : Int)) * 2 ^ min ((32 : Int)).toNat (IntKind.bits .u64)))) (IntKind.u64.wrap ((IntKind.u64.wrap (u20.toNat : Int)) * 2 ^ min ((40 : Int)).toNat (IntKind.bits .u64)))) (IntKind.u64.wrap ((IntKind.u64.wrap (u23.toNat : Int)) * 2 ^ min ((48 : Int)).toNat (IntKind.bits .u64))))))), (48, (fun u => fEq u v1_0)), (49, (fun p28 => (fPtr tyU8 p28 u26))), (50, (fun u => fEq u (Value.int .u8 (u26.toNat : Int)))), (51, (fun u => fEq u (Value.int .u64 (IntKind.u64.wrap (u26.toNat : Int))))), (52, (fun u => fEq u (Value.int .u64 (IntKind.u64.wrap ((IntKind.u64.wrap (u26.toNat : Int)) * 2 ^ min ((56 : Int)).toNat (IntKind.bits .u64)))))), (53, (fun u => fEq u (Value.int .u64 (bits .or .u64 (bits .or .u64 (bits .or .u64 (bits .or .u64 (bits .or .u64 (bits .or .u64 (bits .or .u64 (IntKind.u64.wrap (u5.toNat : Int)) (IntKind.u64.wrap ((IntKind.u64.wrap (u8.toNat : Int)) * 2 ^ min ((8 : Int)).toNat (IntKind.bits .u64)))) (IntKind.u64.wrap ((IntKind.u64.wrap (u11.toNat : Int)) * 2 ^ min ((16 : Int)).toNat (IntKind.bits .u64)))) (IntKind.u64.wrap ((IntKind.u64.wrap (u14.toNat : Int)) * 2 ^ min ((24 : Int)).toNat (IntKind.bits .u64)))) (IntKind.u64.wrap ((IntKind.u64.wrap (u17.toNat : Int)) * 2 ^ min ((32 : Int)).toNat (IntKind.bits .u64)))) (IntKind.u64.wrap ((IntKind.u64.wrap (u20.toNat : Int)) * 2 ^ min ((40 : Int)).toNat (IntKind.bits .u64)))) (IntKind.u64.wrap ((IntKind.u64.wrap (u23.toNat : Int)) * 2 ^ min ((48 : Int)).toNat (IntKind.bits .u64)))) (IntKind.u64.wrap ((IntKind.u64.wrap (u26.toNat : Int)) * 2 ^ min ((56 : Int)).toNat (IntKind.bits .u64)))))))] (tab [(1, v1_0), (4, (Value.int .u64 (0 : Int)))]) mixed (by kernel_rfl) rfl rfl rfl (fun a hs => hs.tab _ (allT_mem ⟨rfl, rfl, trivial⟩)) ⟨⟨rfl, ld_val (ov_move rfl rfl)⟩, ⟨rfl, ld_eq (j := 0) rfl rfl (ld_of (of_idxD 1 hu6 rfl rfl rfl Try.underlying62 sz5 rfl))⟩, ⟨rfl, ld_fact (j := 1) rfl rfl (fun p7 => ld_val (ov_loadP (ds := [(Value.int .u8 (u5.toNat : Int))]) 0 rfl (fun h => h) rfl Try.underlying5 sz5 rfl rfl rfl))⟩, ⟨rfl, ld_eq (j := 2) rfl rfl (ld_val (ov_convInt (by rw [Try.underlying5]; rfl) Try.underlying22 rfl rfl))⟩, ⟨rfl, ld_val (ov_move rfl rfl)⟩, ⟨rfl, ld_eq (j := 4) rfl rfl (ld_of (of_idxD 1 hu9 rfl rfl rfl Try.underlying62 sz5 rfl))⟩, ⟨rfl, ld_fact (j := 5) rfl rfl (fun p10 => ld_val (ov_loadP (ds := [(Value.int .u8 (u8.toNat : Int))]) 0 rfl (fun h => h) rfl Try.underlying5 sz5 rfl rfl rfl))⟩, ⟨rfl, ld_eq (j := 6) rfl rfl (ld_val (ov_convInt (by rw [Try.underlying5]; rfl) Try.underlying22 rfl rfl))⟩, ⟨rfl, ld_eq (j := 7) rfl rfl (ld_val (ov_shl (by decide) rfl rfl rfl))⟩, ⟨rfl, ld_eq (j := 3) rfl rfl (ld_eq (j := 8) rfl rfl (ld_val (ov_int rfl rfl rfl rfl)))⟩, ⟨rfl, ld_val (ov_move rfl rfl)⟩, ⟨rfl, ld_eq (j := 10) rfl rfl (ld_of (of_idxD 1 hu12 rfl rfl rfl Try.underlying62 sz5 rfl))⟩, ⟨rfl, ld_fact (j := 11) rfl rfl (fun p13 => ld_val (ov_loadP (ds := [(Value.int .u8 (u11.toNat : Int))]) 0 rfl (fun h => h) rfl Try.underlying5 sz5 rfl rfl rfl))⟩, ⟨rfl, ld_eq (j := 12) rfl rfl (ld_val (ov_convInt (by rw [Try.underlying5]; rfl) Try.underlying22 rfl rfl))⟩, ⟨rfl, ld_eq (j := 13) rfl rfl (ld_val (ov_shl (by decide) rfl rfl rfl))⟩, ⟨rfl, ld_eq (j := 9) rfl rfl (ld_eq (j := 14) rfl rfl (ld_val (ov_int rfl rfl rfl rfl)))⟩, ⟨rfl, ld_val (ov_move rfl rfl)⟩, ⟨rfl, ld_eq (j := 16) rfl rfl (ld_of (of_idxD 1 hu15 rfl rfl rfl Try.underlying62 sz5 rfl))⟩, ⟨rfl, ld_fact (j := 17) rfl rfl (fun p16 => ld_val (ov_loadP (ds := [(Value.int .u8 (u14.toNat : Int))]) 0 rfl (fun h => h) rfl Try.underlying5 sz5 rfl rfl rfl))⟩, ⟨rfl, ld_eq (j := 18) rfl rfl (ld_val (ov_convInt (by rw [Try.underlying5]; rfl) Try.underlying22 rfl rfl))⟩, ⟨rfl, ld_eq (j := 19) rfl rfl (ld_val (ov_shl (by decide) rfl rfl rfl))⟩, ⟨rfl, ld_eq (j := 15) rfl rfl (ld_eq (j := 20) rfl rfl (ld_val (ov_int rfl rfl rfl rfl)))⟩, ⟨rfl, ld_val (ov_move rfl rfl)⟩, ⟨rfl, ld_eq (j := 22) rfl rfl (ld_of (of_idxD 1 hu18 rfl rfl rfl Try.underlying62 sz5 rfl))⟩, ⟨rfl, ld_fact (j := 23) rfl rfl (fun p19 => ld_val (ov_loadP (ds := [(Value.int .u8 (u17.toNat : Int))]) 0 rfl (fun h => h) rfl Try.underlying5 sz5 rfl rfl rfl))⟩, ⟨rfl, ld_eq (j := 24) rfl rfl (ld_val (ov_convInt (by rw [Try.underlying5]; rfl) Try.underlying22 rfl rfl))⟩, ⟨rfl, ld_eq (j := 25) rfl rfl (ld_val (ov_shl (by decide) rfl rfl rfl))⟩, ⟨rfl, ld_eq (j := 21) rfl rfl (ld_eq (j := 26) rfl rfl (ld_val (ov_int rfl rfl rfl rfl)))⟩, ⟨rfl, ld_val (ov_move rfl rfl)⟩, ⟨rfl, ld_eq (j := 28) rfl rfl (ld_of (of_idxD 1 hu21 rfl rfl rfl Try.underlying62 sz5 rfl))⟩, ⟨rfl, ld_fact (j := 29) rfl rfl (fun p22 => ld_val (ov_loadP (ds := [(Value.int .u8 (u20.toNat : Int))]) 0 rfl (fun h => h) rfl Try.underlying5 sz5 rfl rfl rfl))⟩, ⟨rfl, ld_eq (j := 30) rfl rfl (ld_val (ov_convInt (by rw [Try.underlying5]; rfl) Try.underlying22 rfl rfl))⟩, ⟨rfl, ld_eq (j := 31) rfl rfl (ld_val (ov_shl (by decide) rfl rfl rfl))⟩, ⟨rfl, ld_eq (j := 27) rfl rfl (ld_eq (j := 32) rfl rfl (ld_val (ov_int rfl rfl rfl rfl)))⟩, ⟨rfl, ld_val (ov_move rfl rfl)⟩, ⟨rfl, ld_eq (j := 34) rfl rfl (ld_of (of_idxD 1 hu24 rfl rfl rfl Try.underlying62 sz5 rfl))⟩, ⟨rfl, ld_fact (j := 35) rfl rfl (fun p25 => ld_val (ov_loadP (ds := [(Value.int .u8 (u23.toNat : Int))]) 0 rfl (fun h => h) rfl Try.underlying5 sz5 rfl rfl rfl))⟩, ⟨rfl, ld_eq (j := 36) rfl rfl (ld_val (ov_convInt (by rw [Try.underlying5]; rfl) Try.underlying22 rfl rfl))⟩, ⟨rfl, ld_eq (j := 37) rfl rfl (ld_val (ov_shl (by decide) rfl rfl rfl))⟩, ⟨rfl, ld_eq (j := 33) rfl rfl (ld_eq (j := 38) rfl rfl (ld_val (ov_int rfl rfl rfl rfl)))⟩, ⟨rfl, ld_val (ov_move rfl rfl)⟩, ⟨rfl, ld_eq (j := 40) rfl rfl (ld_of (of_idxD 1 hu27 rfl rfl rfl Try.underlying62 sz5 rfl))⟩, ⟨rfl, ld_fact (j := 41) rfl rfl (fun p28 => ld_val (ov_loadP (ds := [(Value.int .u8 (u26.toNat : Int))]) 0 rfl (fun h => h) rfl Try.underlying5 sz5 rfl rfl rfl))⟩, ⟨rfl, ld_eq (j := 42) rfl rfl (ld_val (ov_convInt (by rw [Try.underlying5]; rfl) Try.underlying22 rfl rfl))⟩, ⟨rfl, ld_eq (j := 43) rfl rfl (ld_val (ov_shl (by decide) rfl rfl rfl))⟩, ⟨rfl, ld_eq (j := 39) rfl rfl (ld_eq (j := 44) rfl rfl (ld_val (ov_int rfl rfl rfl rfl)))⟩, trivial⟩ ?_
  refine tl_eq 45 rfl ?_
  refine tl_done ?_
  refine al_val (ov_assign rfl rfl) ?_
  refine al_nil ?_
  refine aq_then ?_
  refine aw_ret ?_
  obtain rfl := Option.some.inj h
  exact fn_ret () [] [] rfl rfl rfl rfl (res1 rfl rfl) rfl rfl rfl (by decide)
def f_mix_Step (fu : Nat) (a0 : Int) (a1 : Int) : Option Int := (some (bits .xor .u64 (IntKind.u64.wrap ((bits .xor .u64 (IntKind.u64.wrap ((bits .xor .u64 a0 a1) * (11400714819323198485 : Int))) (((IntKind.u64.wrap ((bits .xor .u64 a0 a1) * (11400714819323198485 : Int)))).fdiv (2 ^ min ((29 : Int)).toNat (IntKind.bits .u64)))) * (13787848793156543929 : Int))) (((IntKind.u64.wrap ((bits .xor .u64 (IntKind.u64.wrap ((bits .xor .u64 a0 a1) * (11400714819323198485 : Int))) (((IntKind.u64.wrap ((bits .xor .u64 a0 a1) * (11400714819323198485 : Int)))).fdiv (2 ^ min ((29 : Int)).toNat (IntKind.bits .u64)))) * (13787848793156543929 : Int)))).fdiv (2 ^ min ((32 : Int)).toNat (IntKind.bits .u64)))))
set_option maxRecDepth 100000 in
theorem f_mix_Step_ok (fu : Nat) (a0 : Int) (a1 : Int) {r : Int} (h : f_mix_Step fu a0 a1 = some r) : FnOk Try.prog 15 [(Value.int .u64 a0), (Value.int .u64 a1)] [] [] (fun (i : Unit) => { val := (Value.int .u64 r) }) := by
  unfold f_mix_Step at h
  refine fn_enter Try.func15 rfl Try.ntmps15 rfl (fun w0 Z0 => ?_)
  refine aw_seq ?_
  refine aw_region ?_
  refine al_val (ov_assign rfl rfl) ?_
  refine al_nil ?_
  refine aq_then ?_
  refine aw_seq ?_
  refine aw_region ?_
  refine al_val (ov_move rfl rfl) ?_
  refine al_val (ov_move rfl rfl) ?_
  refine al_val (ov_int rfl rfl rfl rfl) ?_
  refine al_val (ov_int rfl rfl rfl rfl) ?_
  refine al_val (ov_assign rfl rfl) ?_
  refine al_nil ?_
  refine aq_then ?_
  refine aw_seq ?_
  refine aw_region ?_
  refine al_val (ov_move rfl rfl) ?_
  refine al_val (ov_move rfl rfl) ?_
  refine al_val (ov_shr (by decide) rfl rfl rfl) ?_
  refine al_val (ov_int rfl rfl rfl rfl) ?_
  refine al_val (ov_int rfl rfl rfl rfl) ?_
  refine al_val (ov_assign rfl rfl) ?_
  refine al_nil ?_
  refine aq_then ?_
  refine aw_seq ?_
  refine aw_region ?_
  refine al_val (ov_move rfl rfl) ?_
  refine al_val (ov_move rfl rfl) ?_
  refine al_val (ov_shr (by decide) rfl rfl rfl) ?_
  refine al_val (ov_int rfl rfl rfl rfl) ?_
  refine al_val (ov_assign rfl rfl) ?_
  refine al_nil ?_
  refine aq_then ?_
  refine aw_ret ?_
  obtain rfl := Option.some.inj h
  exact fn_ret () [] [] rfl rfl rfl rfl (res1 rfl rfl) rfl rfl rfl (by decide)
def f_mix_sum_L7 (a1 : Int) (kk2 : (Int → Option Int)) (fu : Nat) : Nat → (List UInt8) → Int → Option Int
  | 0, _, _ => none
  | k6 + 1, l5s0, l5i5 => (bif (!(l5s0 == ([] : List UInt8))) then (req (0 ≤ ((Nat.min l5s0.length 8 : Nat) : Int) ∧ ((Nat.min l5s0.length 8 : Nat) : Int) ≤ (l5s0.length : Int)) (opt (f__binary_littleEndian__Uint64 fu () (lA8u8 (cpA8u8 (A8u8.mk (0 : UInt8) (0 : UInt8) (0 : UInt8) (0 : UInt8) (0 : UInt8) (0 : UInt8) (0 : UInt8) (0 : UInt8)) l5s0))) fun (r13 : Int) => (opt (f_mix_Step fu l5i5 r13) fun (r15 : Int) => (f_mix_sum_L7 a1 kk2 fu k6 (l5s0.drop (((Nat.min l5s0.length 8 : Nat) : Int)).toNat) (bits .and .u64 r15 a1))))) else (kk2 l5i5))
def f_mix_sum (fu : Nat) (a0 : (List UInt8)) (a1 : Int) : Option Int := (lt (fun (j1i5 : Int) => (opt (f_mix_Step fu j1i5 (IntKind.u64.wrap (a0.length : Int))) fun (r4 : Int) => (some (bits .and .u64 r4 a1)))) fun (kk2 : Int → Option Int) => (f_mix_sum_L7 a1 kk2 fu fu a0 (0 : Int)))
set_option maxRecDepth 100000 in
theorem f_mix_sum_ok (fu : Nat) (a0 : (List UInt8)) (a1 : Int) {r : Int} (h : f_mix_sum fu a0 a1 = some r) : FnOk Try.prog 32 [(str a0), (Value.int .u64 a1)] [] [] (fun (i : Unit) => { val := (Value.int .u64 r) }) := by
  unfold f_mix_sum at h
  refine fn_enter Try.func32 rfl Try.ntmps32 rfl (fun w0 Z0 => ?_)
  refine aw_seq ?_
  refine aw_region ?_
  refine al_val (ov_assign rfl rfl) ?_
  refine al_nil ?_
  refine aq_then ?_
  refine aw_seq ?_
  refine aw_region ?_
  refine al_val (ov_move rfl rfl) ?_
  refine al_val (ov_strLen Try.underlying9 rfl rfl) ?_
  refine al_val (ov_convInt (by rw [Try.underlying3]; rfl) Try.underlying22 rfl rfl) ?_
  refine al_val (ov_assign rfl rfl) ?_
  refine al_val (ov_assign rfl rfl) ?_
  refine al_nil ?_
  refine aq_then ?_
  obtain ⟨kk2, hkk2, h⟩ := lt_some h
  refine aw_seq_join (ι := Int) (fun i => (memOf w0 Z0 [] [] [])) (fun i => (tab [(1, (Value.int .u64 a1)), (5, (Value.int .u64 i)), (6, (Value.int .u64 (IntKind.u64.wrap (a0.length : Int))))])) (fun i => kk2 i = some r) ?_ ?_
  · rintro j1i5 h
    have h : kk2 j1i5 = some r := h
    rw [hkk2] at h
    dsimp only at h
    clear hkk2
    refine aw_show (m := (memOf w0 Z0 [] [] [])) (S := (tab [(1, (Value.int .u64 a1)), (5, (Value.int .u64 j1i5)), (6, (Value.int .u64 (IntKind.u64.wrap (a0.length : Int))))])) ?_
    refine aw_seq ?_
    refine aw_region ?_
    refine al_val (ov_move rfl rfl) ?_
    refine al_val (ov_move rfl rfl) ?_
    obtain ⟨r4, hc3, h⟩ := opt_some h
    refine al_call (vs := [(Value.int .u64 j1i5), (Value.int .u64 (IntKind.u64.wrap (a0.length : Int)))]) (f_mix_Step_ok fu j1i5 (IntKind.u64.wrap (a0.length : Int)) hc3) [] [] [] pre_nil rfl (by simp) (by decide) (.inl rfl) rfl Try.func15 rfl rfl rfl (fun _ => ?_)
    refine al_val (ov_move rfl rfl) ?_
    refine al_val (ov_int rfl rfl rfl rfl) ?_
    refine al_val (ov_assign rfl rfl) ?_
    refine al_nil ?_
    refine aq_then ?_
    refine aw_ret ?_
    obtain rfl := Option.some.inj h
    exact fn_ret () [] [] rfl rfl rfl rfl (res1 rfl rfl) rfl rfl rfl (by decide)
  · clear hkk2
    refine aw_block ?_
    refine aw_state (aw_loop (ι := (List UInt8) × Int) (fun i => (memOf w0 Z0 [] [] [])) (fun i => (tab [(0, (str i.1)), (1, (Value.int .u64 a1)), (5, (Value.int .u64 i.2)), (6, (Value.int .u64 (IntKind.u64.wrap (a0.length : Int))))])) (fun q i => f_mix_sum_L7 a1 kk2 fu q i.1 i.2 = some r) ?_ fu (a0, (0 : Int)) h) (fun w a hm hs => norm hm hs [] [] [(0, (str a0)), (1, (Value.int .u64 a1)), (5, (Value.int .u64 (0 : Int))), (6, (Value.int .u64 (IntKind.u64.wrap (a0.length : Int))))] (by decide) ⟨rfl, rfl, rfl, rfl, trivial⟩)
    clear h
    rintro k6 ⟨l5s0, l5i5⟩ h
    have h : f_mix_sum_L7 a1 kk2 fu k6 l5s0 l5i5 = some r := h
    obtain _ | k6 := k6
    · rw [f_mix_sum_L7] at h; cases h
    rw [f_mix_sum_L7] at h
    refine aw_show (m := (memOf w0 Z0 [] [] [])) (S := (tab [(0, (str l5s0)), (1, (Value.int .u64 a1)), (5, (Value.int .u64 l5i5)), (6, (Value.int .u64 (IntKind.u64.wrap (a0.length : Int))))])) ?_
    refine aw_seq ?_
    refine aw_seq ?_
    refine aw_region ?_
    refine al_val (ov_move rfl rfl) ?_
    refine al_val (ov_strCmp rfl rfl rfl rfl) ?_
    refine al_nil ?_
    refine aq_then ?_
    refine aw_cond rfl (fun hb8 => ?_) (fun hb8 => ?_)
    · replace h := bif_t hb8 h
      refine aw_skip ?_
      refine aq_then ?_
      refine aw_block ?_
      refine aw_seq ?_
      refine aw_region ?_
      refine al_alloc (zs := (cA8u8 (A8u8.mk (0 : UInt8) (0 : UInt8) (0 : UInt8) (0 : UInt8) (0 : UInt8) (0 : UInt8) (0 : UInt8) (0 : UInt8)))) (zeroOf_to to25) rfl rfl (fun g9 => ?_)
      refine al_nil ?_
      refine aq_then ?_
      refine aw_seq ?_
      refine aw_region ?_
      refine al_val (ov_move rfl rfl) ?_
      refine al_val (ov_sliceBox (i := 0) rfl rfl Try.underlying25 sz5 rfl) ?_
      refine al_val (ov_move rfl rfl) ?_
      refine al_copyS (i := 0) (cs := (cA8u8 (A8u8.mk (0 : UInt8) (0 : UInt8) (0 : UInt8) (0 : UInt8) (0 : UInt8) (0 : UInt8) (0 : UInt8) (0 : UInt8)))) (cs' := (cA8u8 (cpA8u8 (A8u8.mk (0 : UInt8) (0 : UInt8) (0 : UInt8) (0 : UInt8) (0 : UInt8) (0 : UInt8) (0 : UInt8) (0 : UInt8)) l5s0))) rfl rfl rfl Try.underlying62 sz5 rfl (cpcA8u8 (A8u8.mk (0 : UInt8) (0 : UInt8) (0 : UInt8) (0 : UInt8) (0 : UInt8) (0 : UInt8) (0 : UInt8) (0 : UInt8)) l5s0 [] []) rfl ?_
      obtain ⟨hc10, h⟩ := req_some h
      refine al_val (ov_strFrom hc10.1 hc10.2 Try.underlying9 rfl rfl rfl) ?_
      refine al_val (ov_assign rfl rfl) ?_
      refine al_nil ?_
      refine aq_then ?_
      refine aw_freezeB 0 ((cpA8u8 (A8u8.mk (0 : UInt8) (0 : UInt8) (0 : UInt8) (0 : UInt8) (0 : UInt8) (0 : UInt8) (0 : UInt8) (0 : UInt8)) l5s0)) rfl rfl (fun _ _ => mkA8u8 rfl) ?_
      obtain ⟨r13, hc12, h⟩ := opt_some h
      obtain ⟨r15, hc14, h⟩ := opt_some h
      refine aw_region_draw 7 [(18, (fun u => fEq u (Value.int .u64 l5i5))), (19, (fun u => fEq u (ag []))), (20, (fun s11 => (fDat (tyList tyU8) [s11] (lA8u8 (cpA8u8 (A8u8.mk (0 : UInt8) (0 : UInt8) (0 : UInt8) (0 : UInt8) (0 : UInt8) (0 : UInt8) (0 : UInt8) (0 : UInt8)) l5s0))))), (21, (fun u => fEq u (Value.int .u64 r13))), (22, (fun u => fEq u (Value.int .u64 r15))), (23, (fun u => fEq u (Value.int .u64 a1))), (24, (fun u => fEq u (Value.int .u64 (bits .and .u64 r15 a1))))] (tab [(0, (str (l5s0.drop (((Nat.min l5s0.length 8 : Nat) : Int)).toNat))), (1, (Value.int .u64 a1)), (5, (Value.int .u64 l5i5)), (6, (Value.int .u64 (IntKind.u64.wrap (a0.length : Int)))), (7, (ptr g9 0))]) mixed (by kernel_rfl) rfl rfl rfl (fun a hs => hs.tab _ (allT_mem ⟨rfl, rfl, rfl, rfl, rfl, trivial⟩)) ⟨⟨rfl, ld_val (ov_move rfl rfl)⟩, ⟨rfl, ld_val (ov_load0 Try.underlying83 sz83 rfl rfl rfl)⟩, ⟨rfl, ld_of (of_sliceP 0 lrepA8u8 rfl rfl rfl rfl Try.underlying25 sz5 rfl)⟩, ⟨rfl, ld_eq (j := 1) rfl rfl (ld_fact (j := 2) rfl rfl (fun s11 => ld_callV (vs := [(ag []), s11]) (f__binary_littleEndian__Uint64_ok fu () s11 (lA8u8 (cpA8u8 (A8u8.mk (0 : UInt8) (0 : UInt8) (0 : UInt8) (0 : UInt8) (0 : UInt8) (0 : UInt8) (0 : UInt8) (0 : UInt8)) l5s0)) hc12) [] (pre_fz 0 rfl pre_nil) rfl Try.func52 rfl rfl rfl))⟩, ⟨rfl, ld_eq (j := 0) rfl rfl (ld_eq (j := 3) rfl rfl (ld_callV (vs := [(Value.int .u64 l5i5), (Value.int .u64 r13)]) (f_mix_Step_ok fu l5i5 r13 hc14) [] pre_nil rfl Try.func15 rfl rfl rfl))⟩, ⟨rfl, ld_val (ov_move rfl rfl)⟩, ⟨rfl, ld_eq (j := 4) rfl rfl (ld_eq (j := 5) rfl rfl (ld_val (ov_int rfl rfl rfl rfl)))⟩, trivial⟩ ?_
      refine tl_eq 6 rfl ?_
      refine tl_done ?_
      refine al_val (ov_assign rfl rfl) ?_
      refine al_nil ?_
      refine aq_block ?_
      exact aq_again k6 ((l5s0.drop (((Nat.min l5s0.length 8 : Nat) : Int)).toNat), (bits .and .u64 r15 a1)) (Nat.lt_succ_self _) h (fun w a hm hs => norm hm hs [] [] [(0, (str (l5s0.drop (((Nat.min l5s0.length 8 : Nat) : Int)).toNat))), (1, (Value.int .u64 a1)), (5, (Value.int .u64 (bits .and .u64 r15 a1))), (6, (Value.int .u64 (IntKind.u64.wrap (a0.length : Int))))] (by decide) ⟨rfl, rfl, rfl, rfl, trivial⟩)
    · replace h := bif_f hb8 h
      refine aw_exit ?_
      refine aq_then_exit ?_
      refine aq_then_exit ?_
      refine aq_block_exit ?_
      exact aq_join l5i5 h (fun w a hm hs => norm hm hs [] [] [(1, (Value.int .u64 a1)), (5, (Value.int .u64 l5i5)), (6, (Value.int .u64 (IntKind.u64.wrap (a0.length : Int))))] (by decide) ⟨rfl, rfl, rfl, trivial⟩)
def f_mix_Narrow (fu : Nat) (a0 : Int) (a1 : (List UInt8)) : Option (Int × Int) := (lt (fun (j1b11 : Bool) => (bif j1b11 then (some ((0 : Int), (1 : Int))) else (req (0 ≤ (IntKind.i64.wrap ((64 : Int) - a0))) (opt (f_mix_sum fu a1 (((18446744073709551615 : Int)).fdiv (2 ^ min ((IntKind.i64.wrap ((64 : Int) - a0))).toNat (IntKind.bits .u64)))) fun (r6 : Int) => (some (r6, (0 : Int))))))) fun (kk2 : Bool → Option (Int × Int)) => (bif (decide (a0 < (1 : Int))) then (kk2 true) else (kk2 (decide (a0 > (64 : Int))))))
set_option maxRecDepth 100000 in
theorem f_mix_Narrow_ok (fu : Nat) (a0 : Int) (a1 : (List UInt8)) {r : (Int × Int)} (h : f_mix_Narrow fu a0 a1 = some r) : FnOk Try.prog 13 [(Value.int .i64 a0), (str a1)] [] [] (fun (i : Unit) => { val := (Value.tuple #[(Value.int .u64 r.1), (Value.int .i64 r.2)]) }) := by
  unfold f_mix_Narrow at h
  refine fn_enter Try.func13 rfl Try.ntmps13 rfl (fun w0 Z0 => ?_)
  refine aw_seq ?_
  refine aw_region ?_
  refine al_val (ov_assign rfl rfl) ?_
  refine al_val (ov_assign rfl rfl) ?_
  refine al_nil ?_
  refine aq_then ?_
  refine aw_seq ?_
  obtain ⟨kk2, hkk2, h⟩ := lt_some h
  refine aw_seq_join (ι := Bool) (fun i => (memOf w0 Z0 [] [] [])) (fun i => (tab [(0, (Value.int .i64 a0)), (1, (str a1)), (11, (Value.bool i))])) (fun i => kk2 i = some r) ?_ ?_
  · rintro j1b11 h
    have h : kk2 j1b11 = some r := h
    rw [hkk2] at h
    dsimp only at h
    clear hkk2
    refine aw_show (m := (memOf w0 Z0 [] [] [])) (S := (tab [(0, (Value.int .i64 a0)), (1, (str a1)), (11, (Value.bool j1b11))])) ?_
    refine aw_cond rfl (fun hb3 => ?_) (fun hb3 => ?_)
    · replace h := bif_t hb3 h
      refine aw_seq ?_
      refine aw_region ?_
      refine al_val (ov_assign rfl rfl) ?_
      refine al_val (ov_assign rfl rfl) ?_
      refine al_nil ?_
      refine aq_then ?_
      refine aw_ret ?_
      refine aq_then_ret ?_
      obtain rfl := Option.some.inj h
      exact fn_ret () [] [] rfl rfl rfl rfl (res2 rfl rfl rfl) rfl rfl rfl (by decide)
    · replace h := bif_f hb3 h
      refine aw_skip ?_
      refine aq_then ?_
      refine aw_seq ?_
      refine aw_region ?_
      refine al_val (ov_move rfl rfl) ?_
      refine al_val (ov_move rfl rfl) ?_
      refine al_val (ov_int rfl rfl rfl rfl) ?_
      obtain ⟨hc4, h⟩ := req_some h
      refine al_val (ov_shr hc4 rfl rfl rfl) ?_
      obtain ⟨r6, hc5, h⟩ := opt_some h
      refine al_call (vs := [(str a1), (Value.int .u64 (((18446744073709551615 : Int)).fdiv (2 ^ min ((IntKind.i64.wrap ((64 : Int) - a0))).toNat (IntKind.bits .u64))))]) (f_mix_sum_ok fu a1 (((18446744073709551615 : Int)).fdiv (2 ^ min ((IntKind.i64.wrap ((64 : Int) - a0))).toNat (IntKind.bits .u64))) hc5) [] [] [] pre_nil rfl (by simp) (by decide) (.inl rfl) rfl Try.func32 rfl rfl rfl (fun _ => ?_)
      refine al_val (ov_assign rfl rfl) ?_
      refine al_val (ov_assign rfl rfl) ?_
      refine al_nil ?_
      refine aq_then ?_
      refine aw_ret ?_
      obtain rfl := Option.some.inj h
      exact fn_ret () [] [] rfl rfl rfl rfl (res2 rfl rfl rfl) rfl rfl rfl (by decide)
  · clear hkk2
    refine aw_region ?_
    refine al_val (ov_move rfl rfl) ?_
    refine al_val (ov_int rfl rfl rfl rfl) ?_
    refine al_val (ov_move rfl rfl) ?_
    refine al_caseB 8 rfl (fun hb7 => ?_) (fun hb7 => ?_)
    · replace h := bif_t hb7 h
      refine al_skip ?_
      refine al_skip ?_
      refine al_val (ov_pick_t rfl rfl rfl) ?_
      refine al_nil ?_
      exact aq_join true h (fun w a hm hs => norm hm hs [] [] [(0, (Value.int .i64 a0)), (1, (str a1)), (11, (Value.bool true))] (by decide) ⟨rfl, rfl, rfl, trivial⟩)
    · replace h := bif_f hb7 h
      refine al_val (ov_move rfl rfl) ?_
      refine al_val (ov_int rfl rfl rfl rfl) ?_
      refine al_val (ov_pick_f rfl rfl rfl) ?_
      refine al_nil ?_
      exact aq_join (decide (a0 > (64 : Int))) h (fun w a hm hs => norm hm hs [] [] [(0, (Value.int .i64 a0)), (1, (str a1)), (11, (Value.bool (decide (a0 > (64 : Int)))))] (by decide) ⟨rfl, rfl, rfl, trivial⟩)
def f_lumref_Narrow_1 (fu : Nat) (a0 : Int) (a1 : Int) : Option Int := (bif (a1 == (64 : Int)) then (some a0) else (req (0 ≤ a1) (req ((IntKind.u64.wrap ((1 : Int) * 2 ^ min (a1).toNat (IntKind.bits .u64))) ≠ 0) (some ((a0).tmod (IntKind.u64.wrap ((1 : Int) * 2 ^ min (a1).toNat (IntKind.bits .u64))))))))
set_option maxRecDepth 100000 in
theorem f_lumref_Narrow_1_ok (fu : Nat) (a0 : Int) (c1 : Value) (a1 : Int) {r : Int} (h : f_lumref_Narrow_1 fu a0 a1 = some r) : FnOk Try.prog 33 [(Value.int .u64 a0), c1] [(fPtr (tyInt .i64) c1 a1)] [] (fun (i : Unit) => { val := (Value.int .u64 r) }) := by
  unfold f_lumref_Narrow_1 at h
  refine fn_enter Try.func33 rfl Try.ntmps33 rfl (fun w0 Z0 => ?_)
  refine aw_seq ?_
  refine aw_region ?_
  refine al_val (ov_assign rfl rfl) ?_
  refine al_nil ?_
  refine aq_then ?_
  refine aw_seq ?_
  refine aw_seq ?_
  refine aw_region ?_
  refine al_val (ov_loadP (ds := [(Value.int .i64 a1)]) 0 rfl (fun h => h) rfl Try.underlying3 sz3 rfl rfl rfl) ?_
  refine al_val (ov_int rfl rfl rfl rfl) ?_
  refine al_nil ?_
  refine aq_then ?_
  refine aw_cond rfl (fun hb1 => ?_) (fun hb1 => ?_)
  · replace h := bif_t hb1 h
    refine aw_seq ?_
    refine aw_region ?_
    refine al_val (ov_move rfl rfl) ?_
    refine al_val (ov_assign rfl rfl) ?_
    refine al_nil ?_
    refine aq_then ?_
    refine aw_ret ?_
    refine aq_then_ret ?_
    obtain rfl := Option.some.inj h
    exact fn_ret () [] [] rfl rfl rfl rfl (res1 rfl rfl) rfl rfl rfl (by decide)
  · replace h := bif_f hb1 h
    refine aw_skip ?_
    refine aq_then ?_
    refine aw_seq ?_
    refine aw_region ?_
    refine al_val (ov_move rfl rfl) ?_
    refine al_val (ov_loadP (ds := [(Value.int .i64 a1)]) 0 rfl (fun h => h) rfl Try.underlying3 sz3 rfl rfl rfl) ?_
    obtain ⟨hc2, h⟩ := req_some h
    refine al_val (ov_shl hc2 rfl rfl rfl) ?_
    obtain ⟨hc3, h⟩ := req_some h
    refine al_val (ov_rem hc3 rfl rfl rfl) ?_
    refine al_val (ov_assign rfl rfl) ?_
    refine al_nil ?_
    refine aq_then ?_
    refine aw_ret ?_
    obtain rfl := Option.some.inj h
    exact fn_ret () [] [] rfl rfl rfl rfl (res1 rfl rfl) rfl rfl rfl (by decide)
def f_strings_Repeat (fu : Nat) (a0 : List UInt8) (a1 : Int) : Option (List UInt8) := req (0 ≤ a1 ∧ a1 ≤ 9223372036854775807 ∧ a0.length * a1.toNat ≤ 140737488355328) (some (Lib.repeatL a0 a1.toNat))
theorem f_strings_Repeat_ok (fu : Nat) (a0 : List UInt8) (a1 : Int) {r : List UInt8} (h : f_strings_Repeat fu a0 a1 = some r) : FnOk Try.prog 34 [(str a0), (Value.int .i64 a1)] [] [] (fun (i : Unit) => { val := (str r) }) := by
  unfold f_strings_Repeat at h
  obtain ⟨hc, h⟩ := req_some h
  obtain rfl := Option.some.inj h
  obtain ⟨n, rfl⟩ : ∃ n : Nat, a1 = n := ⟨a1.toNat, by omega⟩
  refine fnok_pure fun w => ?_
  exact (Try.strings_Repeat ⟨a0.toArray⟩ n w (by omega) (by simpa [ByteArray.size] using hc.2.2)).mono fun e w' h9 => by simpa [str] using h9
def f_lumref_product_L5 (a0 : Int) (a1 : Int) (kk2 : (Int → Option Int)) : Nat → Int → Int → Option Int
  | 0, _, _ => none
  | k4 + 1, l3i5, l3i7 => (bif (decide (l3i7 < (64 : Int))) then (lt (fun (j7i5 : Int) => (f_lumref_product_L5 a0 a1 kk2 k4 j7i5 (IntKind.i64.wrap (l3i7 + (1 : Int))))) fun (kk8 : Int → Option Int) => (req (0 ≤ l3i7) (bif ((bits .and .u64 ((a1).fdiv (2 ^ min (l3i7).toNat (IntKind.bits .u64))) (1 : Int)) == (1 : Int)) then (req (0 ≤ l3i7) (kk8 (IntKind.u64.wrap (l3i5 + (IntKind.u64.wrap (a0 * 2 ^ min (l3i7).toNat (IntKind.bits .u64))))))) else (kk8 l3i5)))) else (kk2 l3i5))
def f_lumref_product (fu : Nat) (a0 : Int) (a1 : Int) : Option Int := (lt (fun (j1i5 : Int) => (some j1i5)) fun (kk2 : Int → Option Int) => (f_lumref_product_L5 a0 a1 kk2 fu (0 : Int) (0 : Int)))
set_option maxRecDepth 100000 in
theorem f_lumref_product_ok (fu : Nat) (a0 : Int) (a1 : Int) {r : Int} (h : f_lumref_product fu a0 a1 = some r) : FnOk Try.prog 35 [(Value.int .u64 a0), (Value.int .u64 a1)] [] [] (fun (i : Unit) => { val := (Value.int .u64 r) }) := by
  unfold f_lumref_product at h
  refine fn_enter Try.func35 rfl Try.ntmps35 rfl (fun w0 Z0 => ?_)
  refine aw_seq ?_
  refine aw_region ?_
  refine al_val (ov_assign rfl rfl) ?_
  refine al_nil ?_
  refine aq_then ?_
  refine aw_seq ?_
  refine aw_region ?_
  refine al_val (ov_assign rfl rfl) ?_
  refine al_nil ?_
  refine aq_then ?_
  obtain ⟨kk2, hkk2, h⟩ := lt_some h
  refine aw_seq_join (ι := Int) (fun i => (memOf w0 Z0 [] [] [])) (fun i => (tab [(5, (Value.int .u64 i))])) (fun i => kk2 i = some r) ?_ ?_
  · rintro j1i5 h
    have h : kk2 j1i5 = some r := h
    rw [hkk2] at h
    dsimp only at h
    clear hkk2
    refine aw_show (m := (memOf w0 Z0 [] [] [])) (S := (tab [(5, (Value.int .u64 j1i5))])) ?_
    refine aw_seq ?_
    refine aw_region ?_
    refine al_val (ov_move rfl rfl) ?_
    refine al_val (ov_assign rfl rfl) ?_
    refine al_nil ?_
    refine aq_then ?_
    refine aw_ret ?_
    obtain rfl := Option.some.inj h
    exact fn_ret () [] [] rfl rfl rfl rfl (res1 rfl rfl) rfl rfl rfl (by decide)
  · clear hkk2
    refine aw_seq ?_
    refine aw_region ?_
    refine al_val (ov_move rfl rfl) ?_
    refine al_nil ?_
    refine aq_then ?_
    refine aw_block ?_
    refine aw_state (aw_loop (ι := Int × Int) (fun i => (memOf w0 Z0 [] [] [])) (fun i => (tab [(0, (Value.int .u64 a0)), (1, (Value.int .u64 a1)), (5, (Value.int .u64 i.1)), (7, (Value.int .i64 i.2))])) (fun q i => f_lumref_product_L5 a0 a1 kk2 q i.1 i.2 = some r) ?_ fu ((0 : Int), (0 : Int)) h) (fun w a hm hs => norm hm hs [] [] [(0, (Value.int .u64 a0)), (1, (Value.int .u64 a1)), (5, (Value.int .u64 (0 : Int))), (7, (Value.int .i64 (0 : Int)))] (by decide) ⟨rfl, rfl, rfl, rfl, trivial⟩)
    clear h
    rintro k4 ⟨l3i5, l3i7⟩ h
    have h : f_lumref_product_L5 a0 a1 kk2 k4 l3i5 l3i7 = some r := h
    obtain _ | k4 := k4
    · rw [f_lumref_product_L5] at h; cases h
    rw [f_lumref_product_L5] at h
    refine aw_show (m := (memOf w0 Z0 [] [] [])) (S := (tab [(0, (Value.int .u64 a0)), (1, (Value.int .u64 a1)), (5, (Value.int .u64 l3i5)), (7, (Value.int .i64 l3i7))])) ?_
    refine aw_seq ?_
    refine aw_region ?_
    refine al_val (ov_int rfl rfl rfl rfl) ?_
    refine al_nil ?_
    refine aq_then ?_
    refine aw_seq ?_
    refine aw_cond rfl (fun hb6 => ?_) (fun hb6 => ?_)
    · replace h := bif_t hb6 h
      refine aw_skip ?_
      refine aq_then ?_
      obtain ⟨kk8, hkk8, h⟩ := lt_some h
      refine aw_seq_join (ι := Int) (fun i => (memOf w0 Z0 [] [] [])) (fun i => (tab [(0, (Value.int .u64 a0)), (1, (Value.int .u64 a1)), (5, (Value.int .u64 i)), (7, (Value.int .i64 l3i7))])) (fun i => kk8 i = some r) ?_ ?_
      · rintro j7i5 h
        have h : kk8 j7i5 = some r := h
        rw [hkk8] at h
        dsimp only at h
        clear hkk8
        refine aw_show (m := (memOf w0 Z0 [] [] [])) (S := (tab [(0, (Value.int .u64 a0)), (1, (Value.int .u64 a1)), (5, (Value.int .u64 j7i5)), (7, (Value.int .i64 l3i7))])) ?_
        refine aw_region ?_
        refine al_val (ov_int rfl rfl rfl rfl) ?_
        refine al_val (ov_move rfl rfl) ?_
        refine al_nil ?_
        exact aq_again k4 (j7i5, (IntKind.i64.wrap (l3i7 + (1 : Int)))) (Nat.lt_succ_self _) h (fun w a hm hs => norm hm hs [] [] [(0, (Value.int .u64 a0)), (1, (Value.int .u64 a1)), (5, (Value.int .u64 j7i5)), (7, (Value.int .i64 (IntKind.i64.wrap (l3i7 + (1 : Int)))))] (by decide) ⟨rfl, rfl, rfl, rfl, trivial⟩)
      · clear hkk8
        refine aw_block ?_
        refine aw_seq ?_
        refine aw_region ?_
        refine al_val (ov_move rfl rfl) ?_
        refine al_val (ov_assign rfl rfl) ?_
        refine al_nil ?_
        refine aq_then ?_
        refine aw_seq ?_
        refine aw_region ?_
        refine al_val (ov_move rfl rfl) ?_
        refine al_val (ov_move rfl rfl) ?_
        obtain ⟨hc9, h⟩ := req_some h
        refine al_val (ov_shr hc9 rfl rfl rfl) ?_
        refine al_val (ov_int rfl rfl rfl rfl) ?_
        refine al_val (ov_int rfl rfl rfl rfl) ?_
        refine al_nil ?_
        refine aq_then ?_
        refine aw_cond rfl (fun hb10 => ?_) (fun hb10 => ?_)
        · replace h := bif_t hb10 h
          refine aw_region ?_
          refine al_val (ov_move rfl rfl) ?_
          refine al_val (ov_move rfl rfl) ?_
          refine al_val (ov_move rfl rfl) ?_
          obtain ⟨hc11, h⟩ := req_some h
          refine al_val (ov_shl hc11 rfl rfl rfl) ?_
          refine al_val (ov_int rfl rfl rfl rfl) ?_
          refine al_val (ov_assign rfl rfl) ?_
          refine al_nil ?_
          refine aq_block ?_
          exact aq_join (IntKind.u64.wrap (l3i5 + (IntKind.u64.wrap (a0 * 2 ^ min (l3i7).toNat (IntKind.bits .u64))))) h (fun w a hm hs => norm hm hs [] [] [(0, (Value.int .u64 a0)), (1, (Value.int .u64 a1)), (5, (Value.int .u64 (IntKind.u64.wrap (l3i5 + (IntKind.u64.wrap (a0 * 2 ^ min (l3i7).toNat (IntKind.bits .u64))))))), (7, (Value.int .i64 l3i7))] (by decide) ⟨rfl, rfl, rfl, rfl, trivial⟩)
        · replace h := bif_f hb10 h
          refine aw_skip ?_
          refine aq_block ?_
          exact aq_join l3i5 h (fun w a hm hs => norm hm hs [] [] [(0, (Value.int .u64 a0)), (1, (Value.int .u64 a1)), (5, (Value.int .u64 l3i5)), (7, (Value.int .i64 l3i7))] (by decide) ⟨rfl, rfl, rfl, rfl, trivial⟩)
    · replace h := bif_f hb6 h
      refine aw_exit ?_
      refine aq_then_exit ?_
      refine aq_then_exit ?_
      refine aq_block_exit ?_
      exact aq_join l3i5 h (fun w a hm hs => norm hm hs [] [] [(5, (Value.int .u64 l3i5))] (by decide) ⟨rfl, trivial⟩)
def f_lumref_Step (fu : Nat) (a0 : Int) (a1 : Int) : Option Int := (opt (f_lumref_product fu (bits .xor .u64 a0 a1) (11400714819323198485 : Int)) fun (r2 : Int) => (opt (f_lumref_product fu (bits .xor .u64 r2 (IntKind.u64.wrap ((r2).tdiv (536870912 : Int)))) (13787848793156543929 : Int)) fun (r4 : Int) => (some (bits .xor .u64 r4 (IntKind.u64.wrap ((r4).tdiv (4294967296 : Int)))))))
set_option maxRecDepth 100000 in
theorem f_lumref_Step_ok (fu : Nat) (a0 : Int) (a1 : Int) {r : Int} (h : f_lumref_Step fu a0 a1 = some r) : FnOk Try.prog 16 [(Value.int .u64 a0), (Value.int .u64 a1)] [] [] (fun (i : Unit) => { val := (Value.int .u64 r) }) := by
  unfold f_lumref_Step at h
  refine fn_enter Try.func16 rfl Try.ntmps16 rfl (fun w0 Z0 => ?_)
  refine aw_seq ?_
  refine aw_region ?_
  refine al_val (ov_assign rfl rfl) ?_
  refine al_nil ?_
  refine aq_then ?_
  refine aw_seq ?_
  refine aw_region ?_
  refine al_val (ov_move rfl rfl) ?_
  refine al_val (ov_move rfl rfl) ?_
  refine al_val (ov_int rfl rfl rfl rfl) ?_
  obtain ⟨r2, hc1, h⟩ := opt_some h
  refine al_call (vs := [(Value.int .u64 (bits .xor .u64 a0 a1)), (Value.int .u64 (11400714819323198485 : Int))]) (f_lumref_product_ok fu (bits .xor .u64 a0 a1) (11400714819323198485 : Int) hc1) [] [] [] pre_nil rfl (by simp) (by decide) (.inl rfl) rfl Try.func35 rfl rfl rfl (fun _ => ?_)
  refine al_val (ov_assign rfl rfl) ?_
  refine al_nil ?_
  refine aq_then ?_
  refine aw_seq ?_
  refine aw_region ?_
  refine al_val (ov_move rfl rfl) ?_
  refine al_val (ov_move rfl rfl) ?_
  refine al_val (ov_quo (by decide) rfl rfl rfl) ?_
  refine al_val (ov_int rfl rfl rfl rfl) ?_
  refine al_val (ov_assign rfl rfl) ?_
  refine al_nil ?_
  refine aq_then ?_
  refine aw_seq ?_
  refine aw_region ?_
  refine al_val (ov_move rfl rfl) ?_
  obtain ⟨r4, hc3, h⟩ := opt_some h
  refine al_call (vs := [(Value.int .u64 (bits .xor .u64 r2 (IntKind.u64.wrap ((r2).tdiv (536870912 : Int))))), (Value.int .u64 (13787848793156543929 : Int))]) (f_lumref_product_ok fu (bits .xor .u64 r2 (IntKind.u64.wrap ((r2).tdiv (536870912 : Int)))) (13787848793156543929 : Int) hc3) [] [] [] pre_nil rfl (by simp) (by decide) (.inl rfl) rfl Try.func35 rfl rfl rfl (fun _ => ?_)
  refine al_val (ov_assign rfl rfl) ?_
  refine al_nil ?_
  refine aq_then ?_
  refine aw_seq ?_
  refine aw_region ?_
  refine al_val (ov_move rfl rfl) ?_
  refine al_val (ov_move rfl rfl) ?_
  refine al_val (ov_quo (by decide) rfl rfl rfl) ?_
  refine al_val (ov_int rfl rfl rfl rfl) ?_
  refine al_val (ov_assign rfl rfl) ?_
  refine al_nil ?_
  refine aq_then ?_
  refine aw_ret ?_
  obtain rfl := Option.some.inj h
  exact fn_ret () [] [] rfl rfl rfl rfl (res1 rfl rfl) rfl rfl rfl (by decide)
def f_lumref_Narrow_L27 (l11s7 : (List UInt8)) (kk20 : (Int → Option Int)) : Nat → Int → Int → Option Int
  | 0, _, _ => none
  | k26 + 1, l25i8, l25i9 => (bif (decide (l25i9 ≥ (0 : Int))) then (req (0 ≤ l25i9 ∧ l25i9 < (l11s7.length : Int)) (f_lumref_Narrow_L27 l11s7 kk20 k26 (IntKind.u64.wrap ((IntKind.u64.wrap ((256 : Int) * l25i8)) + (IntKind.u64.wrap (En.bAt l11s7 l25i9)))) (IntKind.i64.wrap (l25i9 - (1 : Int))))) else (kk20 l25i8))
def f_lumref_Narrow_L13 (a0 : Int) (kk6 : (Int → Option Int)) (fu : Nat) : Nat → Int → (List UInt8) → Option Int
  | 0, _, _ => none
  | k12 + 1, l11i5, l11s7 => (lt (fun (l11i5 : Int) (l11s7 : (List UInt8)) => (f_lumref_Narrow_L13 a0 kk6 fu k12 l11i5 l11s7)) fun (kk14 : Int → (List UInt8) → Option Int) => (bif (!(l11s7 == ([] : List UInt8))) then (lt (fun (j16i5 : Int) => (req (0 ≤ (8 : Int) ∧ (8 : Int) ≤ (l11s7.length : Int)) (kk14 j16i5 (l11s7.drop ((8 : Int)).toNat)))) fun (kk17 : Int → Option Int) => (lt (fun (j19i8 : Int) => (opt (f_lumref_Step fu l11i5 j19i8) fun (r22 : Int) => (opt (f_lumref_Narrow_1 fu r22 a0) fun (r24 : Int) => (kk17 r24)))) fun (kk20 : Int → Option Int) => (f_lumref_Narrow_L27 l11s7 kk20 fu (0 : Int) (7 : Int)))) else (kk6 l11i5)))
def f_lumref_Narrow (fu : Nat) (a0 : Int) (a1 : (List UInt8)) : Option Int := (opt (f_strings_Repeat fu ([0] : List UInt8) (((IntKind.i64.wrap ((8 : Int) - (((a1.length : Int)).tmod (8 : Int))))).tmod (8 : Int))) fun (r3 : (List UInt8)) => (req (a1.length + r3.length ≤ 9223372036854775807) (lt (fun (j5i5 : Int) => (opt (f_lumref_Step fu j5i5 (IntKind.u64.wrap (a1.length : Int))) fun (r8 : Int) => (opt (f_lumref_Narrow_1 fu r8 a0) fun (r10 : Int) => (some r10)))) fun (kk6 : Int → Option Int) => (f_lumref_Narrow_L13 a0 kk6 fu fu (0 : Int) (a1 ++ r3)))))
set_option maxRecDepth 100000 in
theorem f_lumref_Narrow_ok (fu : Nat) (a0 : Int) (a1 : (List UInt8)) {r : Int} (h : f_lumref_Narrow fu a0 a1 = some r) : FnOk Try.prog 14 [(Value.int .i64 a0), (str a1)] [] [] (fun (i : Unit) => { val := (Value.int .u64 r) }) := by
  unfold f_lumref_Narrow at h
  refine fn_enter Try.func14 rfl Try.ntmps14 rfl (fun w0 Z0 => ?_)
  refine aw_seq ?_
  refine aw_region ?_
  refine al_box (vs := [(Value.int .i64 a0)]) rfl (cv_rfl rfl) rfl (fun g1 => ?_)
  refine al_val (ov_assign rfl rfl) ?_
  refine al_nil ?_
  refine aq_then ?_
  refine aw_seq ?_
  refine aw_region ?_
  refine al_val (ov_assign rfl rfl) ?_
  refine al_nil ?_
  refine aq_then ?_
  refine aw_seq ?_
  refine aw_region ?_
  refine al_val (ov_makeFunc2 (vs := [(ptr g1 0)]) rfl rfl) ?_
  refine al_val (ov_assign rfl rfl) ?_
  refine al_nil ?_
  refine aq_then ?_
  refine aw_seq ?_
  refine aw_region ?_
  refine al_val (ov_move rfl rfl) ?_
  refine al_val (ov_move rfl rfl) ?_
  refine al_val (ov_strLen Try.underlying9 rfl rfl) ?_
  refine al_val (ov_rem (by decide) rfl rfl rfl) ?_
  refine al_val (ov_int rfl rfl rfl rfl) ?_
  refine al_val (ov_rem (by decide) rfl rfl rfl) ?_
  obtain ⟨r3, hc2, h⟩ := opt_some h
  refine al_call (vs := [(str ([0] : List UInt8)), (Value.int .i64 (((IntKind.i64.wrap ((8 : Int) - (((a1.length : Int)).tmod (8 : Int))))).tmod (8 : Int)))]) (f_strings_Repeat_ok fu ([0] : List UInt8) (((IntKind.i64.wrap ((8 : Int) - (((a1.length : Int)).tmod (8 : Int))))).tmod (8 : Int)) hc2) [] [] [0] pre_nil rfl (by simp) (by decide) (.inl rfl) rfl Try.func34 rfl rfl rfl (fun _ => ?_)
  obtain ⟨hc4, h⟩ := req_some h
  refine al_val (ov_strAdd hc4 rfl rfl rfl) ?_
  refine al_val (ov_assign rfl rfl) ?_
  refine al_nil ?_
  refine aq_then ?_
  obtain ⟨kk6, hkk6, h⟩ := lt_some h
  refine aw_seq_join (ι := Int) (fun i => (memOf w0 Z0 [] [(oBox g1 3 [(Value.int .i64 a0)])] [])) (fun i => (tab [(1, (str a1)), (5, (Value.int .u64 i)), (6, (Value.func (.func 33) #[] #[(ptr g1 0)]))])) (fun i => kk6 i = some r) ?_ ?_
  · rintro j5i5 h
    have h : kk6 j5i5 = some r := h
    rw [hkk6] at h
    dsimp only at h
    clear hkk6
    refine aw_show (m := (memOf w0 Z0 [] [(oBox g1 3 [(Value.int .i64 a0)])] [])) (S := (tab [(1, (str a1)), (5, (Value.int .u64 j5i5)), (6, (Value.func (.func 33) #[] #[(ptr g1 0)]))])) ?_
    refine aw_seq ?_
    refine aw_region ?_
    refine al_val (ov_move rfl rfl) ?_
    refine al_val (ov_move rfl rfl) ?_
    refine al_val (ov_move rfl rfl) ?_
    refine al_val (ov_strLen Try.underlying9 rfl rfl) ?_
    refine al_val (ov_convInt (by rw [Try.underlying3]; rfl) Try.underlying22 rfl rfl) ?_
    obtain ⟨r8, hc7, h⟩ := opt_some h
    refine al_call (vs := [(Value.int .u64 j5i5), (Value.int .u64 (IntKind.u64.wrap (a1.length : Int)))]) (f_lumref_Step_ok fu j5i5 (IntKind.u64.wrap (a1.length : Int)) hc7) [] [] [0] pre_nil rfl (by simp) (by decide) (.inl rfl) rfl Try.func16 rfl rfl rfl (fun _ => ?_)
    obtain ⟨r10, hc9, h⟩ := opt_some h
    refine al_callF (vs := [(Value.int .u64 r8)]) (caps := [(ptr g1 0)]) (f_lumref_Narrow_1_ok fu r8 (ptr g1 0) a0 hc9) rfl [0] [] [0] (pre_boxP (x := a0) 0 rfl rfl (fun _ _ => rfl) pre_nil) rfl (by simp) (by decide) (.inr flat_res0) rfl rfl Try.func33 rfl rfl rfl (fun _ => ?_)
    refine al_val (ov_assign rfl rfl) ?_
    refine al_nil ?_
    refine aq_then ?_
    refine aw_ret ?_
    obtain rfl := Option.some.inj h
    exact fn_ret () [] [] rfl rfl rfl rfl (res1 rfl rfl) rfl rfl rfl (by decide)
  · clear hkk6
    refine aw_block ?_
    refine aw_state (aw_loop (ι := Int × (List UInt8)) (fun i => (memOf w0 Z0 [] [(oBox g1 3 [(Value.int .i64 a0)])] [])) (fun i => (tab [(1, (str a1)), (5, (Value.int .u64 i.1)), (6, (Value.func (.func 33) #[] #[(ptr g1 0)])), (7, (str i.2))])) (fun q i => f_lumref_Narrow_L13 a0 kk6 fu q i.1 i.2 = some r) ?_ fu ((0 : Int), (a1 ++ r3)) h) (fun w a hm hs => norm hm hs [0] [] [(1, (str a1)), (5, (Value.int .u64 (0 : Int))), (6, (Value.func (.func 33) #[] #[(ptr g1 0)])), (7, (str (a1 ++ r3)))] (by decide) ⟨rfl, rfl, rfl, rfl, trivial⟩)
    clear h
    rintro k12 ⟨l11i5, l11s7⟩ h
    have h : f_lumref_Narrow_L13 a0 kk6 fu k12 l11i5 l11s7 = some r := h
    obtain _ | k12 := k12
    · rw [f_lumref_Narrow_L13] at h; cases h
    rw [f_lumref_Narrow_L13] at h
    refine aw_show (m := (memOf w0 Z0 [] [(oBox g1 3 [(Value.int .i64 a0)])] [])) (S := (tab [(1, (str a1)), (5, (Value.int .u64 l11i5)), (6, (Value.func (.func 33) #[] #[(ptr g1 0)])), (7, (str l11s7))])) ?_
    obtain ⟨kk14, hkk14, h⟩ := lt_some h
    refine aw_body_join (ι := Int × (List UInt8)) (fun i => (memOf w0 Z0 [] [(oBox g1 3 [(Value.int .i64 a0)])] [])) (fun i => (tab [(1, (str a1)), (5, (Value.int .u64 i.1)), (6, (Value.func (.func 33) #[] #[(ptr g1 0)])), (7, (str i.2))])) (fun i => kk14 i.1 i.2 = some r) (fun i h => aq_again k12 i (Nat.lt_succ_self _) (by rw [hkk14] at h; exact h) (fun w a hm hs => ⟨hm, hs⟩)) ?_
    clear hkk14
    refine aw_seq ?_
    refine aw_seq ?_
    refine aw_region ?_
    refine al_val (ov_move rfl rfl) ?_
    refine al_val (ov_strCmp rfl rfl rfl rfl) ?_
    refine al_nil ?_
    refine aq_then ?_
    refine aw_cond rfl (fun hb15 => ?_) (fun hb15 => ?_)
    · replace h := bif_t hb15 h
      refine aw_skip ?_
      refine aq_then ?_
      obtain ⟨kk17, hkk17, h⟩ := lt_some h
      refine aw_seq_join (ι := Int) (fun i => (memOf w0 Z0 [] [(oBox g1 3 [(Value.int .i64 a0)])] [])) (fun i => (tab [(1, (str a1)), (5, (Value.int .u64 i)), (6, (Value.func (.func 33) #[] #[(ptr g1 0)])), (7, (str l11s7))])) (fun i => kk17 i = some r) ?_ ?_
      · rintro j16i5 h
        have h : kk17 j16i5 = some r := h
        rw [hkk17] at h
        dsimp only at h
        clear hkk17
        refine aw_show (m := (memOf w0 Z0 [] [(oBox g1 3 [(Value.int .i64 a0)])] [])) (S := (tab [(1, (str a1)), (5, (Value.int .u64 j16i5)), (6, (Value.func (.func 33) #[] #[(ptr g1 0)])), (7, (str l11s7))])) ?_
        refine aw_region ?_
        refine al_val (ov_move rfl rfl) ?_
        obtain ⟨hc18, h⟩ := req_some h
        refine al_val (ov_strFrom hc18.1 hc18.2 Try.underlying9 rfl rfl rfl) ?_
        refine al_val (ov_assign rfl rfl) ?_
        refine al_nil ?_
        exact aq_join (j16i5, (l11s7.drop ((8 : Int)).toNat)) h (fun w a hm hs => norm hm hs [0] [] [(1, (str a1)), (5, (Value.int .u64 j16i5)), (6, (Value.func (.func 33) #[] #[(ptr g1 0)])), (7, (str (l11s7.drop ((8 : Int)).toNat)))] (by decide) ⟨rfl, rfl, rfl, rfl, trivial⟩)
      · clear hkk17
        refine aw_block ?_
        refine aw_seq ?_
        refine aw_region ?_
        refine al_val (ov_assign rfl rfl) ?_
        refine al_nil ?_
        refine aq_then ?_
        obtain ⟨kk20, hkk20, h⟩ := lt_some h
        refine aw_seq_join (ι := Int) (fun i => (memOf w0 Z0 [] [(oBox g1 3 [(Value.int .i64 a0)])] [])) (fun i => (tab [(1, (str a1)), (5, (Value.int .u64 l11i5)), (6, (Value.func (.func 33) #[] #[(ptr g1 0)])), (7, (str l11s7)), (8, (Value.int .u64 i))])) (fun i => kk20 i = some r) ?_ ?_
        · rintro j19i8 h
          have h : kk20 j19i8 = some r := h
          rw [hkk20] at h
          dsimp only at h
          clear hkk20
          refine aw_show (m := (memOf w0 Z0 [] [(oBox g1 3 [(Value.int .i64 a0)])] [])) (S := (tab [(1, (str a1)), (5, (Value.int .u64 l11i5)), (6, (Value.func (.func 33) #[] #[(ptr g1 0)])), (7, (str l11s7)), (8, (Value.int .u64 j19i8))])) ?_
          refine aw_region ?_
          refine al_val (ov_move rfl rfl) ?_
          refine al_val (ov_move rfl rfl) ?_
          refine al_val (ov_move rfl rfl) ?_
          obtain ⟨r22, hc21, h⟩ := opt_some h
          refine al_call (vs := [(Value.int .u64 l11i5), (Value.int .u64 j19i8)]) (f_lumref_Step_ok fu l11i5 j19i8 hc21) [] [] [0] pre_nil rfl (by simp) (by decide) (.inl rfl) rfl Try.func16 rfl rfl rfl (fun _ => ?_)
          obtain ⟨r24, hc23, h⟩ := opt_some h
          refine al_callF (vs := [(Value.int .u64 r22)]) (caps := [(ptr g1 0)]) (f_lumref_Narrow_1_ok fu r22 (ptr g1 0) a0 hc23) rfl [0] [] [0] (pre_boxP (x := a0) 0 rfl rfl (fun _ _ => rfl) pre_nil) rfl (by simp) (by decide) (.inr flat_res0) rfl rfl Try.func33 rfl rfl rfl (fun _ => ?_)
          refine al_val (ov_assign rfl rfl) ?_
          refine al_nil ?_
          refine aq_block ?_
          exact aq_join r24 h (fun w a hm hs => norm hm hs [0] [] [(1, (str a1)), (5, (Value.int .u64 r24)), (6, (Value.func (.func 33) #[] #[(ptr g1 0)])), (7, (str l11s7))] (by decide) ⟨rfl, rfl, rfl, rfl, trivial⟩)
        · clear hkk20
          refine aw_seq ?_
          refine aw_region ?_
          refine al_val (ov_assign rfl rfl) ?_
          refine al_nil ?_
          refine aq_then ?_
          refine aw_block ?_
          refine aw_state (aw_loop (ι := Int × Int) (fun i => (memOf w0 Z0 [] [(oBox g1 3 [(Value.int .i64 a0)])] [])) (fun i => (tab [(1, (str a1)), (5, (Value.int .u64 l11i5)), (6, (Value.func (.func 33) #[] #[(ptr g1 0)])), (7, (str l11s7)), (8, (Value.int .u64 i.1)), (9, (Value.int .i64 i.2))])) (fun q i => f_lumref_Narrow_L27 l11s7 kk20 q i.1 i.2 = some r) ?_ fu ((0 : Int), (7 : Int)) h) (fun w a hm hs => norm hm hs [0] [] [(1, (str a1)), (5, (Value.int .u64 l11i5)), (6, (Value.func (.func 33) #[] #[(ptr g1 0)])), (7, (str l11s7)), (8, (Value.int .u64 (0 : Int))), (9, (Value.int .i64 (7 : Int)))] (by decide) ⟨rfl, rfl, rfl, rfl, rfl, rfl, trivial⟩)
          clear h
          rintro k26 ⟨l25i8, l25i9⟩ h
          have h : f_lumref_Narrow_L27 l11s7 kk20 k26 l25i8 l25i9 = some r := h
          obtain _ | k26 := k26
          · rw [f_lumref_Narrow_L27] at h; cases h
          rw [f_lumref_Narrow_L27] at h
          refine aw_show (m := (memOf w0 Z0 [] [(oBox g1 3 [(Value.int .i64 a0)])] [])) (S := (tab [(1, (str a1)), (5, (Value.int .u64 l11i5)), (6, (Value.func (.func 33) #[] #[(ptr g1 0)])), (7, (str l11s7)), (8, (Value.int .u64 l25i8)), (9, (Value.int .i64 l25i9))])) ?_
          refine aw_seq ?_
          refine aw_seq ?_
          refine aw_region ?_
          refine al_val (ov_move rfl rfl) ?_
          refine al_val (ov_int rfl rfl rfl rfl) ?_
          refine al_nil ?_
          refine aq_then ?_
          refine aw_cond rfl (fun hb28 => ?_) (fun hb28 => ?_)
          · replace h := bif_t hb28 h
            refine aw_skip ?_
            refine aq_then ?_
            refine aw_seq ?_
            refine aw_block ?_
            refine aw_region ?_
            refine al_val (ov_move rfl rfl) ?_
            refine al_val (ov_int rfl rfl rfl rfl) ?_
            refine al_val (ov_move rfl rfl) ?_
            refine al_val (ov_move rfl rfl) ?_
            obtain ⟨hc29, h⟩ := req_some h
            refine al_val (ov_strIdx hc29.1 hc29.2 Try.underlying9 rfl rfl rfl) ?_
            refine al_val (ov_convInt (by rw [Try.underlying5]; rfl) Try.underlying22 rfl rfl) ?_
            refine al_val (ov_int rfl rfl rfl rfl) ?_
            refine al_val (ov_assign rfl rfl) ?_
            refine al_nil ?_
            refine aq_block ?_
            refine aq_then ?_
            refine aw_region ?_
            refine al_val (ov_move rfl rfl) ?_
            refine al_val (ov_int rfl rfl rfl rfl) ?_
            refine al_val (ov_assign rfl rfl) ?_
            refine al_nil ?_
            exact aq_again k26 ((IntKind.u64.wrap ((IntKind.u64.wrap ((256 : Int) * l25i8)) + (IntKind.u64.wrap (En.bAt l11s7 l25i9)))), (IntKind.i64.wrap (l25i9 - (1 : Int)))) (Nat.lt_succ_self _) h (fun w a hm hs => norm hm hs [0] [] [(1, (str a1)), (5, (Value.int .u64 l11i5)), (6, (Value.func (.func 33) #[] #[(ptr g1 0)])), (7, (str l11s7)), (8, (Value.int .u64 (IntKind.u64.wrap ((IntKind.u64.wrap ((256 : Int) * l25i8)) + (IntKind.u64.wrap (En.bAt l11s7 l25i9)))))), (9, (Value.int .i64 (IntKind.i64.wrap (l25i9 - (1 : Int)))))] (by decide) ⟨rfl, rfl, rfl, rfl, rfl, rfl, trivial⟩)
          · replace h := bif_f hb28 h
            refine aw_exit ?_
            refine aq_then_exit ?_
            refine aq_then_exit ?_
            refine aq_block_exit ?_
            exact aq_join l25i8 h (fun w a hm hs => norm hm hs [0] [] [(1, (str a1)), (5, (Value.int .u64 l11i5)), (6, (Value.func (.func 33) #[] #[(ptr g1 0)])), (7, (str l11s7)), (8, (Value.int .u64 l25i8))] (by decide) ⟨rfl, rfl, rfl, rfl, rfl, trivial⟩)
    · replace h := bif_f hb15 h
      refine aw_exit ?_
      refine aq_then_exit ?_
      refine aq_then_exit ?_
      refine aq_block_exit ?_
      exact aq_join l11i5 h (fun w a hm hs => norm hm hs [0] [] [(1, (str a1)), (5, (Value.int .u64 l11i5)), (6, (Value.func (.func 33) #[] #[(ptr g1 0)]))] (by decide) ⟨rfl, rfl, rfl, trivial⟩)
def f_mix_inverse_L5 (a0 : Int) (kk2 : (Int → Option Int)) : Nat → Int → Int → Option Int
  | 0, _, _ => none
  | k4 + 1, l3i3, l3i5 => (bif (decide (l3i5 < (6 : Int))) then (f_mix_inverse_L5 a0 kk2 k4 (IntKind.u64.wrap (l3i3 * (IntKind.u64.wrap ((2 : Int) - (IntKind.u64.wrap (a0 * l3i3)))))) (IntKind.i64.wrap (l3i5 + (1 : Int)))) else (kk2 l3i3))
def f_mix_inverse (fu : Nat) (a0 : Int) : Option Int := (lt (fun (j1i3 : Int) => (some j1i3)) fun (kk2 : Int → Option Int) => (f_mix_inverse_L5 a0 kk2 fu a0 (0 : Int)))
set_option maxRecDepth 100000 in
theorem f_mix_inverse_ok (fu : Nat) (a0 : Int) {r : Int} (h : f_mix_inverse fu a0 = some r) : FnOk Try.prog 36 [(Value.int .u64 a0)] [] [] (fun (i : Unit) => { val := (Value.int .u64 r) }) := by
  unfold f_mix_inverse at h
  refine fn_enter Try.func36 rfl Try.ntmps36 rfl (fun w0 Z0 => ?_)
  refine aw_seq ?_
  refine aw_region ?_
  refine al_val (ov_assign rfl rfl) ?_
  refine al_nil ?_
  refine aq_then ?_
  refine aw_seq ?_
  refine aw_region ?_
  refine al_val (ov_move rfl rfl) ?_
  refine al_val (ov_assign rfl rfl) ?_
  refine al_nil ?_
  refine aq_then ?_
  obtain ⟨kk2, hkk2, h⟩ := lt_some h
  refine aw_seq_join (ι := Int) (fun i => (memOf w0 Z0 [] [] [])) (fun i => (tab [(3, (Value.int .u64 i))])) (fun i => kk2 i = some r) ?_ ?_
  · rintro j1i3 h
    have h : kk2 j1i3 = some r := h
    rw [hkk2] at h
    dsimp only at h
    clear hkk2
    refine aw_show (m := (memOf w0 Z0 [] [] [])) (S := (tab [(3, (Value.int .u64 j1i3))])) ?_
    refine aw_seq ?_
    refine aw_region ?_
    refine al_val (ov_move rfl rfl) ?_
    refine al_val (ov_assign rfl rfl) ?_
    refine al_nil ?_
    refine aq_then ?_
    refine aw_ret ?_
    obtain rfl := Option.some.inj h
    exact fn_ret () [] [] rfl rfl rfl rfl (res1 rfl rfl) rfl rfl rfl (by decide)
  · clear hkk2
    refine aw_seq ?_
    refine aw_region ?_
    refine al_val (ov_move rfl rfl) ?_
    refine al_nil ?_
    refine aq_then ?_
    refine aw_block ?_
    refine aw_state (aw_loop (ι := Int × Int) (fun i => (memOf w0 Z0 [] [] [])) (fun i => (tab [(0, (Value.int .u64 a0)), (3, (Value.int .u64 i.1)), (5, (Value.int .i64 i.2))])) (fun q i => f_mix_inverse_L5 a0 kk2 q i.1 i.2 = some r) ?_ fu (a0, (0 : Int)) h) (fun w a hm hs => norm hm hs [] [] [(0, (Value.int .u64 a0)), (3, (Value.int .u64 a0)), (5, (Value.int .i64 (0 : Int)))] (by decide) ⟨rfl, rfl, rfl, trivial⟩)
    clear h
    rintro k4 ⟨l3i3, l3i5⟩ h
    have h : f_mix_inverse_L5 a0 kk2 k4 l3i3 l3i5 = some r := h
    obtain _ | k4 := k4
    · rw [f_mix_inverse_L5] at h; cases h
    rw [f_mix_inverse_L5] at h
    refine aw_show (m := (memOf w0 Z0 [] [] [])) (S := (tab [(0, (Value.int .u64 a0)), (3, (Value.int .u64 l3i3)), (5, (Value.int .i64 l3i5))])) ?_
    refine aw_seq ?_
    refine aw_region ?_
    refine al_val (ov_int rfl rfl rfl rfl) ?_
    refine al_nil ?_
    refine aq_then ?_
    refine aw_seq ?_
    refine aw_cond rfl (fun hb6 => ?_) (fun hb6 => ?_)
    · replace h := bif_t hb6 h
      refine aw_skip ?_
      refine aq_then ?_
      refine aw_seq ?_
      refine aw_block ?_
      refine aw_region ?_
      refine al_val (ov_move rfl rfl) ?_
      refine al_val (ov_move rfl rfl) ?_
      refine al_val (ov_move rfl rfl) ?_
      refine al_val (ov_int rfl rfl rfl rfl) ?_
      refine al_val (ov_int rfl rfl rfl rfl) ?_
      refine al_val (ov_int rfl rfl rfl rfl) ?_
      refine al_val (ov_assign rfl rfl) ?_
      refine al_nil ?_
      refine aq_block ?_
      refine aq_then ?_
      refine aw_region ?_
      refine al_val (ov_int rfl rfl rfl rfl) ?_
      refine al_val (ov_move rfl rfl) ?_
      refine al_nil ?_
      exact aq_again k4 ((IntKind.u64.wrap (l3i3 * (IntKind.u64.wrap ((2 : Int) - (IntKind.u64.wrap (a0 * l3i3)))))), (IntKind.i64.wrap (l3i5 + (1 : Int)))) (Nat.lt_succ_self _) h (fun w a hm hs => norm hm hs [] [] [(0, (Value.int .u64 a0)), (3, (Value.int .u64 (IntKind.u64.wrap (l3i3 * (IntKind.u64.wrap ((2 : Int) - (IntKind.u64.wrap (a0 * l3i3)))))))), (5, (Value.int .i64 (IntKind.i64.wrap (l3i5 + (1 : Int)))))] (by decide) ⟨rfl, rfl, rfl, trivial⟩)
    · replace h := bif_f hb6 h
      refine aw_exit ?_
      refine aq_then_exit ?_
      refine aq_then_exit ?_
      refine aq_block_exit ?_
      exact aq_join l3i3 h (fun w a hm hs => norm hm hs [] [] [(3, (Value.int .u64 l3i3))] (by decide) ⟨rfl, trivial⟩)
def f_mix_Undo (fu : Nat) (a0 : Int) (a1 : Int) : Option Int := (opt (f_mix_inverse fu (13787848793156543929 : Int)) fun (r2 : Int) => (opt (f_mix_inverse fu (11400714819323198485 : Int)) fun (r4 : Int) => (some (bits .xor .u64 (IntKind.u64.wrap ((bits .xor .u64 (bits .xor .u64 (IntKind.u64.wrap ((bits .xor .u64 a0 ((a0).fdiv (2 ^ min ((32 : Int)).toNat (IntKind.bits .u64)))) * r2)) (((IntKind.u64.wrap ((bits .xor .u64 a0 ((a0).fdiv (2 ^ min ((32 : Int)).toNat (IntKind.bits .u64)))) * r2))).fdiv (2 ^ min ((29 : Int)).toNat (IntKind.bits .u64)))) (((IntKind.u64.wrap ((bits .xor .u64 a0 ((a0).fdiv (2 ^ min ((32 : Int)).toNat (IntKind.bits .u64)))) * r2))).fdiv (2 ^ min ((58 : Int)).toNat (IntKind.bits .u64)))) * r4)) a1))))
set_option maxRecDepth 100000 in
theorem f_mix_Undo_ok (fu : Nat) (a0 : Int) (a1 : Int) {r : Int} (h : f_mix_Undo fu a0 a1 = some r) : FnOk Try.prog 17 [(Value.int .u64 a0), (Value.int .u64 a1)] [] [] (fun (i : Unit) => { val := (Value.int .u64 r) }) := by
  unfold f_mix_Undo at h
  refine fn_enter Try.func17 rfl Try.ntmps17 rfl (fun w0 Z0 => ?_)
  refine aw_seq ?_
  refine aw_region ?_
  refine al_val (ov_assign rfl rfl) ?_
  refine al_nil ?_
  refine aq_then ?_
  refine aw_seq ?_
  refine aw_region ?_
  refine al_val (ov_move rfl rfl) ?_
  refine al_val (ov_move rfl rfl) ?_
  refine al_val (ov_shr (by decide) rfl rfl rfl) ?_
  refine al_val (ov_int rfl rfl rfl rfl) ?_
  obtain ⟨r2, hc1, h⟩ := opt_some h
  refine al_call (vs := [(Value.int .u64 (13787848793156543929 : Int))]) (f_mix_inverse_ok fu (13787848793156543929 : Int) hc1) [] [] [] pre_nil rfl (by simp) (by decide) (.inl rfl) rfl Try.func36 rfl rfl rfl (fun _ => ?_)
  refine al_val (ov_int rfl rfl rfl rfl) ?_
  refine al_val (ov_assign rfl rfl) ?_
  refine al_nil ?_
  refine aq_then ?_
  refine aw_seq ?_
  refine aw_region ?_
  refine al_val (ov_move rfl rfl) ?_
  refine al_val (ov_move rfl rfl) ?_
  refine al_val (ov_shr (by decide) rfl rfl rfl) ?_
  refine al_val (ov_int rfl rfl rfl rfl) ?_
  refine al_val (ov_move rfl rfl) ?_
  refine al_val (ov_shr (by decide) rfl rfl rfl) ?_
  refine al_val (ov_int rfl rfl rfl rfl) ?_
  refine al_val (ov_assign rfl rfl) ?_
  refine al_nil ?_
  refine aq_then ?_
  refine aw_seq ?_
  refine aw_region ?_
  refine al_val (ov_move rfl rfl) ?_
  obtain ⟨r4, hc3, h⟩ := opt_some h
  refine al_call (vs := [(Value.int .u64 (11400714819323198485 : Int))]) (f_mix_inverse_ok fu (11400714819323198485 : Int) hc3) [] [] [] pre_nil rfl (by simp) (by decide) (.inl rfl) rfl Try.func36 rfl rfl rfl (fun _ => ?_)
  refine al_val (ov_int rfl rfl rfl rfl) ?_
  refine al_val (ov_move rfl rfl) ?_
  refine al_val (ov_int rfl rfl rfl rfl) ?_
  refine al_val (ov_assign rfl rfl) ?_
  refine al_nil ?_
  refine aq_then ?_
  refine aw_ret ?_
  obtain rfl := Option.some.inj h
  exact fn_ret () [] [] rfl rfl rfl rfl (res1 rfl rfl) rfl rfl rfl (by decide)
def f_mix_Sum (fu : Nat) (a0 : (List UInt8)) : Option Int := (opt (f_mix_sum fu a0 (18446744073709551615 : Int)) fun (r2 : Int) => (some r2))
set_option maxRecDepth 100000 in
theorem f_mix_Sum_ok (fu : Nat) (a0 : (List UInt8)) {r : Int} (h : f_mix_Sum fu a0 = some r) : FnOk Try.prog 18 [(str a0)] [] [] (fun (i : Unit) => { val := (Value.int .u64 r) }) := by
  unfold f_mix_Sum at h
  refine fn_enter Try.func18 rfl Try.ntmps18 rfl (fun w0 Z0 => ?_)
  refine aw_seq ?_
  refine aw_region ?_
  refine al_val (ov_assign rfl rfl) ?_
  refine al_nil ?_
  refine aq_then ?_
  refine aw_seq ?_
  refine aw_region ?_
  refine al_val (ov_move rfl rfl) ?_
  obtain ⟨r2, hc1, h⟩ := opt_some h
  refine al_call (vs := [(str a0), (Value.int .u64 (18446744073709551615 : Int))]) (f_mix_sum_ok fu a0 (18446744073709551615 : Int) hc1) [] [] [] pre_nil rfl (by simp) (by decide) (.inl rfl) rfl Try.func32 rfl rfl rfl (fun _ => ?_)
  refine al_val (ov_assign rfl rfl) ?_
  refine al_nil ?_
  refine aq_then ?_
  refine aw_ret ?_
  obtain rfl := Option.some.inj h
  exact fn_ret () [] [] rfl rfl rfl rfl (res1 rfl rfl) rfl rfl rfl (by decide)
-- STUCK (encoding/binary.bigEndian).PutUint64: binary.go:210: store: store to ('o', 'p7')
def f_mix_ID (fu : Nat) (a0 : (List UInt8)) : Option A8u8 := (opt (f_mix_Sum fu a0) fun (r4 : Int) => (req (0 ≤ r4 ∧ r4 < 18446744073709551616) (some (cpA8u8 (A8u8.mk (0 : UInt8) (0 : UInt8) (0 : UInt8) (0 : UInt8) (0 : UInt8) (0 : UInt8) (0 : UInt8) (0 : UInt8)) (Lib.beBytes 8 (r4).toNat)))))
set_option maxRecDepth 100000 in
theorem f_mix_ID_ok (fu : Nat) (a0 : (List UInt8)) {r : A8u8} (h : f_mix_ID fu a0 = some r) : FnOk Try.prog 19 [(str a0)] [] [] (fun (i : Unit) => { val := (ag (cA8u8 r)) }) := by
  unfold f_mix_ID at h
  refine fn_enter Try.func19 rfl Try.ntmps19 rfl (fun w0 Z0 => ?_)
  refine aw_seq ?_
  refine aw_region ?_
  refine al_alloc (zs := (cA8u8 (A8u8.mk (0 : UInt8) (0 : UInt8) (0 : UInt8) (0 : UInt8) (0 : UInt8) (0 : UInt8) (0 : UInt8) (0 : UInt8)))) (zeroOf_to to26) rfl rfl (fun g1 => ?_)
  refine al_nil ?_
  refine aq_then ?_
  refine aw_seq ?_
  refine aw_region ?_
  refine al_alloc (zs := (cA8u8 (A8u8.mk (0 : UInt8) (0 : UInt8) (0 : UInt8) (0 : UInt8) (0 : UInt8) (0 : UInt8) (0 : UInt8) (0 : UInt8)))) (zeroOf_to to26) rfl rfl (fun g2 => ?_)
  refine al_nil ?_
  refine aq_then ?_
  refine aw_seq ?_
  obtain ⟨r4, hc3, h⟩ := opt_some h
  refine aw_region_draw 4 [(4, (fun u => fEq u (ag []))), (5, (fun u => fEq u (sbx g2 0 8))), (6, (fun u => fEq u (str a0))), (7, (fun u => fEq u (Value.int .u64 r4)))] (tab [(0, (str a0)), (2, (ptr g1 0)), (3, (ptr g2 0))]) mixed (by kernel_rfl) rfl rfl rfl (fun a hs => hs.tab _ (allT_mem ⟨rfl, rfl, rfl, trivial⟩)) ⟨⟨rfl, ld_val (ov_load0 Try.underlying69 sz69 rfl rfl rfl)⟩, ⟨rfl, ld_val (ov_sliceBox (i := 0) rfl rfl Try.underlying26 sz5 rfl)⟩, ⟨rfl, ld_val (ov_move rfl rfl)⟩, ⟨rfl, ld_eq (j := 2) rfl rfl (ld_callV (vs := [(str a0)]) (f_mix_Sum_ok fu a0 hc3) [] pre_nil rfl Try.func18 rfl rfl rfl)⟩, trivial⟩ ?_
  refine tl_eq 0 rfl ?_
  refine tl_eq 1 rfl ?_
  refine tl_eq 3 rfl ?_
  refine tl_done ?_
  obtain ⟨hc5, h⟩ := req_some h
  refine al_call (vs := [(ag []), (sbx g2 0 8), (Value.int .u64 r4)]) (f_put8_ok (g := g2) (off := 0) (t := 26) (a2 := r4) (cs := (cA8u8 (A8u8.mk (0 : UInt8) (0 : UInt8) (0 : UInt8) (0 : UInt8) (0 : UInt8) (0 : UInt8) (0 : UInt8) (0 : UInt8)))) (cs' := (cA8u8 (cpA8u8 (A8u8.mk (0 : UInt8) (0 : UInt8) (0 : UInt8) (0 : UInt8) (0 : UInt8) (0 : UInt8) (0 : UInt8) (0 : UInt8)) (Lib.beBytes 8 (r4).toNat)))) hc5 (Nat.le_of_ble_eq_true rfl) (cpcA8u8 (A8u8.mk (0 : UInt8) (0 : UInt8) (0 : UInt8) (0 : UInt8) (0 : UInt8) (0 : UInt8) (0 : UInt8) (0 : UInt8)) (Lib.beBytes 8 (r4).toNat) [] [])) [] [0] [1] pre_nil rfl (by simp) (by decide) (.inl rfl) rfl Try.func37 rfl rfl rfl (fun _ => ?_)
  refine al_nil ?_
  refine aq_then ?_
  refine aw_seq ?_
  refine aw_region ?_
  refine al_val (ov_load (i := 0) (v := (ag (cA8u8 (cpA8u8 (A8u8.mk (0 : UInt8) (0 : UInt8) (0 : UInt8) (0 : UInt8) (0 : UInt8) (0 : UInt8) (0 : UInt8) (0 : UInt8)) (Lib.beBytes 8 (r4).toNat))))) rfl rfl Try.underlying26 sz26 rfl rfl rfl rfl) ?_
  refine al_store (i := 1) (vs := (cA8u8 (cpA8u8 (A8u8.mk (0 : UInt8) (0 : UInt8) (0 : UInt8) (0 : UInt8) (0 : UInt8) (0 : UInt8) (0 : UInt8) (0 : UInt8)) (Lib.beBytes 8 (r4).toNat)))) (cs' := (cA8u8 (cpA8u8 (A8u8.mk (0 : UInt8) (0 : UInt8) (0 : UInt8) (0 : UInt8) (0 : UInt8) (0 : UInt8) (0 : UInt8) (0 : UInt8)) (Lib.beBytes 8 (r4).toNat)))) rfl rfl rfl sz26 (cv_rfl rfl) rfl (co_all (oneA8u8 (cpA8u8 (A8u8.mk (0 : UInt8) (0 : UInt8) (0 : UInt8) (0 : UInt8) (0 : UInt8) (0 : UInt8) (0 : UInt8) (0 : UInt8)) (Lib.beBytes 8 (r4).toNat)))) (Nat.le_of_ble_eq_true rfl) rfl rfl ?_
  refine al_nil ?_
  refine aq_then ?_
  refine aw_ret ?_
  obtain rfl := Option.some.inj h
  exact fn_ret () [] [] rfl rfl rfl rfl (resC rfl (resB (i := 1) rfl rfl Try.underlying26 sz26 rfl rfl rfl (resN)) rfl) rfl rfl rfl (by decide)
def f_lumref_digits : Nat → Int → Option (List UInt8)
  | 0, _ => none
  | fu + 1, a0 => (bif (a0 == (0 : Int)) then (some ([] : List UInt8)) else (opt (f_lumref_digits fu (IntKind.u64.wrap ((a0).tdiv (256 : Int)))) fun (r3 : (List UInt8)) => (req (0 ≤ (IntKind.u8.wrap ((a0).tmod (256 : Int))) ∧ (IntKind.u8.wrap ((a0).tmod (256 : Int))) ≤ 255) (req (r3.length + ([(UInt8.ofNat ((IntKind.u8.wrap ((a0).tmod (256 : Int)))).toNat)]).length ≤ 9223372036854775807) (some (r3 ++ ([(UInt8.ofNat ((IntKind.u8.wrap ((a0).tmod (256 : Int)))).toNat)])))))))
set_option maxRecDepth 100000 in
theorem f_lumref_digits_ok (fu : Nat) (a0 : Int) {r : (List UInt8)} (h : f_lumref_digits fu a0 = some r) : FnOk Try.prog 59 [(Value.int .u64 a0)] [] [] (fun (i : Unit) => { val := (str r) }) := by
  cases fu with
  | zero => rw [f_lumref_digits] at h; cases h
  | succ fu =>
    rw [f_lumref_digits] at h
    refine fn_enter Try.func59 rfl Try.ntmps59 rfl (fun w0 Z0 => ?_)
    refine aw_seq ?_
    refine aw_region ?_
    refine al_val (ov_assign rfl rfl) ?_
    refine al_nil ?_
    refine aq_then ?_
    refine aw_seq ?_
    refine aw_seq ?_
    refine aw_region ?_
    refine al_val (ov_move rfl rfl) ?_
    refine al_val (ov_int rfl rfl rfl rfl) ?_
    refine al_nil ?_
    refine aq_then ?_
    refine aw_cond rfl (fun hb1 => ?_) (fun hb1 => ?_)
    · replace h := bif_t hb1 h
      refine aw_seq ?_
      refine aw_region ?_
      refine al_val (ov_assign rfl rfl) ?_
      refine al_nil ?_
      refine aq_then ?_
      refine aw_ret ?_
      refine aq_then_ret ?_
      obtain rfl := Option.some.inj h
      exact fn_ret () [] [] rfl rfl rfl rfl (res1 rfl rfl) rfl rfl rfl (by decide)
    · replace h := bif_f hb1 h
      refine aw_skip ?_
      refine aq_then ?_
      refine aw_seq ?_
      obtain ⟨r3, hc2, h⟩ := opt_some h
      obtain ⟨hc5, h⟩ := req_some h
      obtain ⟨hc6, h⟩ := req_some h
      refine aw_region_draw 9 [(5, (fun u => fEq u (Value.int .u64 a0))), (6, (fun u => fEq u (Value.int .u64 (IntKind.u64.wrap ((a0).tdiv (256 : Int)))))), (7, (fun u => fEq u (str r3))), (8, (fun u => fEq u (Value.int .u64 a0))), (9, (fun u => fEq u (Value.int .u64 ((a0).tmod (256 : Int))))), (10, (fun u => fEq u (Value.int .u8 (IntKind.u8.wrap ((a0).tmod (256 : Int)))))), (11, (fun v4 => (fDat (tyList tyU8) [v4] [(UInt8.ofNat ((IntKind.u8.wrap ((a0).tmod (256 : Int)))).toNat)]))), (12, (fun u => fEq u (str [(UInt8.ofNat ((IntKind.u8.wrap ((a0).tmod (256 : Int)))).toNat)]))), (13, (fun u => fEq u (str (r3 ++ ([(UInt8.ofNat ((IntKind.u8.wrap ((a0).tmod (256 : Int)))).toNat)])))))] (tab [(0, (Value.int .u64 a0)), (2, (str ([] : List UInt8)))]) mixed (by kernel_rfl) rfl rfl rfl (fun a hs => hs.tab _ (allT_mem ⟨rfl, rfl, trivial⟩)) ⟨⟨rfl, ld_val (ov_move rfl rfl)⟩, ⟨rfl, ld_eq (j := 0) rfl rfl (ld_val (ov_quo (by decide) rfl rfl rfl))⟩, ⟨rfl, ld_eq (j := 1) rfl rfl (ld_callV (vs := [(Value.int .u64 (IntKind.u64.wrap ((a0).tdiv (256 : Int))))]) (f_lumref_digits_ok fu (IntKind.u64.wrap ((a0).tdiv (256 : Int))) hc2) [] pre_nil rfl Try.func59 rfl rfl rfl)⟩, ⟨rfl, ld_val (ov_move rfl rfl)⟩, ⟨rfl, ld_eq (j := 3) rfl rfl (ld_val (ov_rem (by decide) rfl rfl rfl))⟩, ⟨rfl, ld_eq (j := 4) rfl rfl (ld_val (ov_convInt (by rw [Try.underlying22]; rfl) Try.underlying5 rfl rfl))⟩, ⟨rfl, ld_eq (j := 5) rfl rfl (ld_buildSlice (τ := tyU8) (e := 5) (k := 1) (cs := [(Value.int .u8 (IntKind.u8.wrap ((a0).tmod (256 : Int))))]) (xs := [(UInt8.ofNat ((IntKind.u8.wrap ((a0).tmod (256 : Int)))).toNat)]) rfl (by decide) rfl (fun w a hm hs => ⟨([(Value.int .u8 (IntKind.u8.wrap ((a0).tmod (256 : Int))))]).toArray, rfl, by simp only [List.map_toArray, List.map_cons, List.map_nil, hs.ev (x := .tmp 10) rfl]; exact run_bs [(Value.int .u8 (IntKind.u8.wrap ((a0).tmod (256 : Int))))] [(Value.int .u8 (IntKind.u8.wrap ((a0).tmod (256 : Int))))] Try.underlying62 to5 rfl rfl (bs_cons (l := [(Value.int .u8 (IntKind.u8.wrap ((a0).tmod (256 : Int))))]) (cs := []) (cv_rfl rfl) rfl bs_nil) hm⟩) (fun hm => ⟨_, _, rfl, (fun _ => u8_rep hc5) hm, rfl⟩) rfl)⟩, ⟨rfl, ld_fact (j := 6) rfl rfl (fun v4 => ld_val (ov_toStr 0 rfl rfl Try.underlying62 Try.underlying5 Try.underlying9 rfl))⟩, ⟨rfl, ld_eq (j := 2) rfl rfl (ld_eq (j := 7) rfl rfl (ld_val (ov_strAdd hc6 rfl rfl rfl)))⟩, trivial⟩ ?_
      refine tl_eq 8 rfl ?_
      refine tl_done ?_
      refine al_val (ov_assign rfl rfl) ?_
      refine al_nil ?_
      refine aq_then ?_
      refine aw_ret ?_
      obtain rfl := Option.some.inj h
      exact fn_ret () [] [] rfl rfl rfl rfl (res1 rfl rfl) rfl rfl rfl (by decide)
def f_lumref_wide (fu : Nat) (a0 : Int) : Option (List UInt8) := (opt (f_lumref_digits fu a0) fun (r2 : (List UInt8)) => (opt (f_strings_Repeat fu ([0] : List UInt8) (IntKind.i64.wrap ((8 : Int) - (r2.length : Int)))) fun (r4 : (List UInt8)) => (req (r4.length + r2.length ≤ 9223372036854775807) (some (r4 ++ r2)))))
set_option maxRecDepth 100000 in
theorem f_lumref_wide_ok (fu : Nat) (a0 : Int) {r : (List UInt8)} (h : f_lumref_wide fu a0 = some r) : FnOk Try.prog 38 [(Value.int .u64 a0)] [] [] (fun (i : Unit) => { val := (str r) }) := by
  unfold f_lumref_wide at h
  refine fn_enter Try.func38 rfl Try.ntmps38 rfl (fun w0 Z0 => ?_)
  refine aw_seq ?_
  refine aw_region ?_
  refine al_val (ov_assign rfl rfl) ?_
  refine al_nil ?_
  refine aq_then ?_
  refine aw_seq ?_
  refine aw_region ?_
  refine al_val (ov_move rfl rfl) ?_
  obtain ⟨r2, hc1, h⟩ := opt_some h
  refine al_call (vs := [(Value.int .u64 a0)]) (f_lumref_digits_ok fu a0 hc1) [] [] [] pre_nil rfl (by simp) (by decide) (.inl rfl) rfl Try.func59 rfl rfl rfl (fun _ => ?_)
  refine al_val (ov_assign rfl rfl) ?_
  refine al_nil ?_
  refine aq_then ?_
  refine aw_seq ?_
  refine aw_region ?_
  refine al_val (ov_move rfl rfl) ?_
  refine al_val (ov_strLen Try.underlying9 rfl rfl) ?_
  refine al_val (ov_int rfl rfl rfl rfl) ?_
  obtain ⟨r4, hc3, h⟩ := opt_some h
  refine al_call (vs := [(str ([0] : List UInt8)), (Value.int .i64 (IntKind.i64.wrap ((8 : Int) - (r2.length : Int))))]) (f_strings_Repeat_ok fu ([0] : List UInt8) (IntKind.i64.wrap ((8 : Int) - (r2.length : Int))) hc3) [] [] [] pre_nil rfl (by simp) (by decide) (.inl rfl) rfl Try.func34 rfl rfl rfl (fun _ => ?_)
  refine al_val (ov_move rfl rfl) ?_
  obtain ⟨hc5, h⟩ := req_some h
  refine al_val (ov_strAdd hc5 rfl rfl rfl) ?_
  refine al_val (ov_assign rfl rfl) ?_
  refine al_nil ?_
  refine aq_then ?_
  refine aw_ret ?_
  obtain rfl := Option.some.inj h
  exact fn_ret () [] [] rfl rfl rfl rfl (res1 rfl rfl) rfl rfl rfl (by decide)
def f_lumref_ID (fu : Nat) (a0 : (List UInt8)) : Option A8u8 := (opt (f_lumref_Narrow fu (64 : Int) a0) fun (r3 : Int) => (opt (f_lumref_wide fu r3) fun (r5 : (List UInt8)) => (req (r5.length ≤ 9223372036854775807) (req (8 ≤ r5.length) (some (ofA8u8 r5))))))
set_option maxRecDepth 100000 in
theorem f_lumref_ID_ok (fu : Nat) (a0 : (List UInt8)) {r : A8u8} (h : f_lumref_ID fu a0 = some r) : FnOk Try.prog 20 [(str a0)] [] [] (fun (i : Unit) => { val := (ag (cA8u8 r)) }) := by
  unfold f_lumref_ID at h
  refine fn_enter Try.func20 rfl Try.ntmps20 rfl (fun w0 Z0 => ?_)
  refine aw_seq ?_
  refine aw_region ?_
  refine al_alloc (zs := (cA8u8 (A8u8.mk (0 : UInt8) (0 : UInt8) (0 : UInt8) (0 : UInt8) (0 : UInt8) (0 : UInt8) (0 : UInt8) (0 : UInt8)))) (zeroOf_to to26) rfl rfl (fun g1 => ?_)
  refine al_nil ?_
  refine aq_then ?_
  refine aw_seq ?_
  refine aw_region ?_
  refine al_val (ov_move rfl rfl) ?_
  obtain ⟨r3, hc2, h⟩ := opt_some h
  refine al_call (vs := [(Value.int .i64 (64 : Int)), (str a0)]) (f_lumref_Narrow_ok fu (64 : Int) a0 hc2) [] [] [0] pre_nil rfl (by simp) (by decide) (.inl rfl) rfl Try.func14 rfl rfl rfl (fun _ => ?_)
  obtain ⟨r5, hc4, h⟩ := opt_some h
  refine al_call (vs := [(Value.int .u64 r3)]) (f_lumref_wide_ok fu r3 hc4) [] [] [0] pre_nil rfl (by simp) (by decide) (.inl rfl) rfl Try.func38 rfl rfl rfl (fun _ => ?_)
  obtain ⟨hc6, h⟩ := req_some h
  refine al_bytes hc6 rfl Try.underlying9 Try.underlying62 Try.underlying5 rfl (fun s7 => ?_)
  obtain ⟨hc9, h⟩ := req_some h
  refine al_s2ap (τA := tyA8u8) (x := (ofA8u8 r5)) 0 8 hc9 rfl (fun h9 => oflA8u8 hc9 h9) rfl rfl Try.underlying26 rfl (fun p8 => ?_)
  refine al_val (ov_loadP (ds := (cA8u8 (ofA8u8 r5))) 0 rfl encA8u8 rfl Try.underlying26 sz26 rfl rfl rfl) ?_
  refine al_store (i := 0) (vs := (cA8u8 (ofA8u8 r5))) (cs' := (cA8u8 (ofA8u8 r5))) rfl rfl rfl sz26 (cv_rfl rfl) rfl (co_all (oneA8u8 (ofA8u8 r5))) (Nat.le_of_ble_eq_true rfl) rfl rfl ?_
  refine al_nil ?_
  refine aq_then ?_
  refine aw_ret ?_
  obtain rfl := Option.some.inj h
  exact fn_ret () [] [] rfl rfl rfl rfl (resC rfl (resB (i := 0) rfl rfl Try.underlying26 sz26 rfl rfl rfl (resN)) rfl) rfl rfl rfl (by decide)
def f_lumlaw_MixSays (fu : Nat) (a0 : Int) (a1 : Int) (a2 : Int) (a3 : (List UInt8)) : Option Bool := (opt (f_mix_Narrow fu a2 a3) fun (r2 : (Int × Int)) => (lt (fun (_ : Unit) => (lt (fun (j5b8 : Bool) => (some j5b8)) fun (kk6 : Bool → Option Bool) => (opt (f_mix_Step fu a0 a1) fun (r8 : Int) => (opt (f_lumref_Step fu a0 a1) fun (r10 : Int) => (bif (r8 == r10) then (opt (f_mix_Undo fu a0 a1) fun (r13 : Int) => (opt (f_lumref_Step fu r13 a1) fun (r15 : Int) => (bif (r15 == a0) then (opt (f_mix_Sum fu a3) fun (r18 : Int) => (opt (f_lumref_Narrow fu (64 : Int) a3) fun (r20 : Int) => (bif (r18 == r20) then (opt (f_mix_ID fu a3) fun (r23 : A8u8) => (opt (f_lumref_ID fu a3) fun (r25 : A8u8) => (kk6 (r23 == r25)))) else (kk6 false)))) else (kk6 false)))) else (kk6 false)))))) fun (kk4 : Unit → Option Bool) => (lt (fun (j26b22 : Bool) => (bif j26b22 then (lt (fun (j29b28 : Bool) => (bif j29b28 then (some false) else (kk4 ()))) fun (kk30 : Bool → Option Bool) => (bif (r2.1 != (0 : Int)) then (kk30 true) else (kk30 (r2.2 != (1 : Int))))) else (lt (fun (j33b37 : Bool) => (bif j33b37 then (some false) else (kk4 ()))) fun (kk34 : Bool → Option Bool) => (bif (r2.2 != (0 : Int)) then (kk34 true) else (opt (f_lumref_Narrow fu a2 a3) fun (r38 : Int) => (kk34 (r2.1 != r38))))))) fun (kk27 : Bool → Option Bool) => (bif (decide (a2 < (1 : Int))) then (kk27 true) else (kk27 (decide (a2 > (64 : Int))))))))
set_option maxRecDepth 100000 in
theorem f_lumlaw_MixSays_ok (fu : Nat) (a0 : Int) (a1 : Int) (a2 : Int) (a3 : (List UInt8)) {r : Bool} (h : f_lumlaw_MixSays fu a0 a1 a2 a3 = some r) : FnOk Try.prog 4 [(Value.int .u64 a0), (Value.int .u64 a1), (Value.int .i64 a2), (str a3)] [] [] (fun (i : Unit) => { val := (Value.bool r) }) := by
  unfold f_lumlaw_MixSays at h
  refine fn_enter Try.func4 rfl Try.ntmps4 rfl (fun w0 Z0 => ?_)
  refine aw_seq ?_
  refine aw_region ?_
  refine al_val (ov_assign rfl rfl) ?_
  refine al_nil ?_
  refine aq_then ?_
  refine aw_seq ?_
  refine aw_region ?_
  refine al_val (ov_move rfl rfl) ?_
  refine al_val (ov_move rfl rfl) ?_
  obtain ⟨r2, hc1, h⟩ := opt_some h
  refine al_call (vs := [(Value.int .i64 a2), (str a3)]) (f_mix_Narrow_ok fu a2 a3 hc1) [] [] [] pre_nil rfl (by simp) (by decide) (.inl rfl) rfl Try.func13 rfl rfl rfl (fun _ => ?_)
  refine al_val (ov_move rfl rfl) ?_
  refine al_val (ov_extract rfl rfl rfl) ?_
  refine al_val (ov_extract rfl rfl rfl) ?_
  refine al_val (ov_assign rfl rfl) ?_
  refine al_val (ov_assign rfl rfl) ?_
  refine al_nil ?_
  refine aq_then ?_
  obtain ⟨kk4, hkk4, h⟩ := lt_some h
  refine aw_seq_join (ι := Unit) (fun i => (memOf w0 Z0 [] [] [])) (fun i => (tab [(0, (Value.int .u64 a0)), (1, (Value.int .u64 a1)), (3, (str a3))])) (fun i => kk4 () = some r) ?_ ?_
  · rintro _ h
    have h : kk4 () = some r := h
    rw [hkk4] at h
    dsimp only at h
    clear hkk4
    refine aw_show (m := (memOf w0 Z0 [] [] [])) (S := (tab [(0, (Value.int .u64 a0)), (1, (Value.int .u64 a1)), (3, (str a3))])) ?_
    obtain ⟨kk6, hkk6, h⟩ := lt_some h
    refine aw_seq_join (ι := Bool) (fun i => (memOf w0 Z0 [] [] [])) (fun i => (tab [(8, (Value.bool i))])) (fun i => kk6 i = some r) ?_ ?_
    · rintro j5b8 h
      have h : kk6 j5b8 = some r := h
      rw [hkk6] at h
      dsimp only at h
      clear hkk6
      refine aw_show (m := (memOf w0 Z0 [] [] [])) (S := (tab [(8, (Value.bool j5b8))])) ?_
      refine aw_ret ?_
      obtain rfl := Option.some.inj h
      exact fn_ret () [] [] rfl rfl rfl rfl (res1 rfl rfl) rfl rfl rfl (by decide)
    · clear hkk6
      refine aw_region ?_
      refine al_val (ov_move rfl rfl) ?_
      refine al_val (ov_move rfl rfl) ?_
      obtain ⟨r8, hc7, h⟩ := opt_some h
      refine al_call (vs := [(Value.int .u64 a0), (Value.int .u64 a1)]) (f_mix_Step_ok fu a0 a1 hc7) [] [] [] pre_nil rfl (by simp) (by decide) (.inl rfl) rfl Try.func15 rfl rfl rfl (fun _ => ?_)
      refine al_val (ov_move rfl rfl) ?_
      refine al_val (ov_move rfl rfl) ?_
      obtain ⟨r10, hc9, h⟩ := opt_some h
      refine al_call (vs := [(Value.int .u64 a0), (Value.int .u64 a1)]) (f_lumref_Step_ok fu a0 a1 hc9) [] [] [] pre_nil rfl (by simp) (by decide) (.inl rfl) rfl Try.func16 rfl rfl rfl (fun _ => ?_)
      refine al_val (ov_int rfl rfl rfl rfl) ?_
      refine al_val (ov_move rfl rfl) ?_
      refine al_caseB 45 rfl (fun hb11 => ?_) (fun hb11 => ?_)
      · replace h := bif_t hb11 h
        refine al_val (ov_move rfl rfl) ?_
        refine al_val (ov_move rfl rfl) ?_
        obtain ⟨r13, hc12, h⟩ := opt_some h
        refine al_call (vs := [(Value.int .u64 a0), (Value.int .u64 a1)]) (f_mix_Undo_ok fu a0 a1 hc12) [] [] [] pre_nil rfl (by simp) (by decide) (.inl rfl) rfl Try.func17 rfl rfl rfl (fun _ => ?_)
        refine al_val (ov_move rfl rfl) ?_
        obtain ⟨r15, hc14, h⟩ := opt_some h
        refine al_call (vs := [(Value.int .u64 r13), (Value.int .u64 a1)]) (f_lumref_Step_ok fu r13 a1 hc14) [] [] [] pre_nil rfl (by simp) (by decide) (.inl rfl) rfl Try.func16 rfl rfl rfl (fun _ => ?_)
        refine al_val (ov_move rfl rfl) ?_
        refine al_val (ov_int rfl rfl rfl rfl) ?_
        refine al_val (ov_pick_t rfl rfl rfl) ?_
        refine al_val (ov_move rfl rfl) ?_
        refine al_caseB 54 rfl (fun hb16 => ?_) (fun hb16 => ?_)
        · replace h := bif_t hb16 h
          refine al_val (ov_move rfl rfl) ?_
          obtain ⟨r18, hc17, h⟩ := opt_some h
          refine al_call (vs := [(str a3)]) (f_mix_Sum_ok fu a3 hc17) [] [] [] pre_nil rfl (by simp) (by decide) (.inl rfl) rfl Try.func18 rfl rfl rfl (fun _ => ?_)
          refine al_val (ov_move rfl rfl) ?_
          obtain ⟨r20, hc19, h⟩ := opt_some h
          refine al_call (vs := [(Value.int .i64 (64 : Int)), (str a3)]) (f_lumref_Narrow_ok fu (64 : Int) a3 hc19) [] [] [] pre_nil rfl (by simp) (by decide) (.inl rfl) rfl Try.func14 rfl rfl rfl (fun _ => ?_)
          refine al_val (ov_int rfl rfl rfl rfl) ?_
          refine al_val (ov_pick_t rfl rfl rfl) ?_
          refine al_val (ov_move rfl rfl) ?_
          refine al_caseB 61 rfl (fun hb21 => ?_) (fun hb21 => ?_)
          · replace h := bif_t hb21 h
            refine al_val (ov_move rfl rfl) ?_
            obtain ⟨r23, hc22, h⟩ := opt_some h
            refine al_call (vs := [(str a3)]) (f_mix_ID_ok fu a3 hc22) [] [] [] pre_nil rfl (by simp) (by decide) (.inl rfl) rfl Try.func19 rfl rfl rfl (fun _ => ?_)
            refine al_val (ov_move rfl rfl) ?_
            obtain ⟨r25, hc24, h⟩ := opt_some h
            refine al_call (vs := [(str a3)]) (f_lumref_ID_ok fu a3 hc24) [] [] [] pre_nil rfl (by simp) (by decide) (.inl rfl) rfl Try.func20 rfl rfl rfl (fun _ => ?_)
            refine al_val (ov_eqlA (cs := (cA8u8 r23)) (ds := (cA8u8 r25)) (ls := [5, 5, 5, 5, 5, 5, 5, 5]) (p := (r23 == r25)) eg26 kt26 lv26 rfl rfl (by kernel_rfl) (by kernel_rfl) (fit_cons (fit_u8 Try.underlying5) (fit_cons (fit_u8 Try.underlying5) (fit_cons (fit_u8 Try.underlying5) (fit_cons (fit_u8 Try.underlying5) (fit_cons (fit_u8 Try.underlying5) (fit_cons (fit_u8 Try.underlying5) (fit_cons (fit_u8 Try.underlying5) (fit_cons (fit_u8 Try.underlying5) fit_nil)))))))) (fit_cons (fit_u8 Try.underlying5) (fit_cons (fit_u8 Try.underlying5) (fit_cons (fit_u8 Try.underlying5) (fit_cons (fit_u8 Try.underlying5) (fit_cons (fit_u8 Try.underlying5) (fit_cons (fit_u8 Try.underlying5) (fit_cons (fit_u8 Try.underlying5) (fit_cons (fit_u8 Try.underlying5) fit_nil)))))))) (injA8u8 (x := r23) (y := r25)) rfl) ?_
            refine al_val (ov_pick_t rfl rfl rfl) ?_
            refine al_val (ov_assign rfl rfl) ?_
            refine al_nil ?_
            exact aq_join (r23 == r25) h (fun w a hm hs => norm hm hs [] [] [(8, (Value.bool (r23 == r25)))] (by decide) ⟨rfl, trivial⟩)
          · replace h := bif_f hb21 h
            refine al_skip ?_
            refine al_skip ?_
            refine al_skip ?_
            refine al_skip ?_
            refine al_skip ?_
            refine al_val (ov_pick_f rfl rfl rfl) ?_
            refine al_val (ov_assign rfl rfl) ?_
            refine al_nil ?_
            exact aq_join false h (fun w a hm hs => norm hm hs [] [] [(8, (Value.bool false))] (by decide) ⟨rfl, trivial⟩)
        · replace h := bif_f hb16 h
          refine al_skip ?_
          refine al_skip ?_
          refine al_skip ?_
          refine al_skip ?_
          refine al_skip ?_
          refine al_val (ov_pick_f rfl rfl rfl) ?_
          refine al_val (ov_move rfl rfl) ?_
          refine al_skip ?_
          refine al_skip ?_
          refine al_skip ?_
          refine al_skip ?_
          refine al_skip ?_
          refine al_val (ov_pick_f rfl rfl rfl) ?_
          refine al_val (ov_assign rfl rfl) ?_
          refine al_nil ?_
          exact aq_join false h (fun w a hm hs => norm hm hs [] [] [(8, (Value.bool false))] (by decide) ⟨rfl, trivial⟩)
      · replace h := bif_f hb11 h
        refine al_skip ?_
        refine al_skip ?_
        refine al_skip ?_
        refine al_skip ?_
        refine al_skip ?_
        refine al_skip ?_
        refine al_skip ?_
        refine al_val (ov_pick_f rfl rfl rfl) ?_
        refine al_val (ov_move rfl rfl) ?_
        refine al_skip ?_
        refine al_skip ?_
        refine al_skip ?_
        refine al_skip ?_
        refine al_skip ?_
        refine al_val (ov_pick_f rfl rfl rfl) ?_
        refine al_val (ov_move rfl rfl) ?_
        refine al_skip ?_
        refine al_skip ?_
        refine al_skip ?_
        refine al_skip ?_
        refine al_skip ?_
        refine al_val (ov_pick_f rfl rfl rfl) ?_
        refine al_val (ov_assign rfl rfl) ?_
        refine al_nil ?_
        exact aq_join false h (fun w a hm hs => norm hm hs [] [] [(8, (Value.bool false))] (by decide) ⟨rfl, trivial⟩)
  · clear hkk4
    obtain ⟨kk27, hkk27, h⟩ := lt_some h
    refine aw_seq_join (ι := Bool) (fun i => (memOf w0 Z0 [] [] [])) (fun i => (tab [(0, (Value.int .u64 a0)), (1, (Value.int .u64 a1)), (2, (Value.int .i64 a2)), (3, (str a3)), (9, (Value.int .u64 r2.1)), (10, (Value.int .i64 r2.2)), (22, (Value.bool i))])) (fun i => kk27 i = some r) ?_ ?_
    · rintro j26b22 h
      have h : kk27 j26b22 = some r := h
      rw [hkk27] at h
      dsimp only at h
      clear hkk27
      refine aw_show (m := (memOf w0 Z0 [] [] [])) (S := (tab [(0, (Value.int .u64 a0)), (1, (Value.int .u64 a1)), (2, (Value.int .i64 a2)), (3, (str a3)), (9, (Value.int .u64 r2.1)), (10, (Value.int .i64 r2.2)), (22, (Value.bool j26b22))])) ?_
      refine aw_cond rfl (fun hb28 => ?_) (fun hb28 => ?_)
      · replace h := bif_t hb28 h
        obtain ⟨kk30, hkk30, h⟩ := lt_some h
        refine aw_seq_join (ι := Bool) (fun i => (memOf w0 Z0 [] [] [])) (fun i => (tab [(0, (Value.int .u64 a0)), (1, (Value.int .u64 a1)), (3, (str a3)), (28, (Value.bool i))])) (fun i => kk30 i = some r) ?_ ?_
        · rintro j29b28 h
          have h : kk30 j29b28 = some r := h
          rw [hkk30] at h
          dsimp only at h
          clear hkk30
          refine aw_show (m := (memOf w0 Z0 [] [] [])) (S := (tab [(0, (Value.int .u64 a0)), (1, (Value.int .u64 a1)), (3, (str a3)), (28, (Value.bool j29b28))])) ?_
          refine aw_cond rfl (fun hb31 => ?_) (fun hb31 => ?_)
          · replace h := bif_t hb31 h
            refine aw_seq ?_
            refine aw_region ?_
            refine al_val (ov_assign rfl rfl) ?_
            refine al_nil ?_
            refine aq_then ?_
            refine aw_ret ?_
            refine aq_then_ret ?_
            obtain rfl := Option.some.inj h
            exact fn_ret () [] [] rfl rfl rfl rfl (res1 rfl rfl) rfl rfl rfl (by decide)
          · replace h := bif_f hb31 h
            refine aw_skip ?_
            exact aq_join () h (fun w a hm hs => norm hm hs [] [] [(0, (Value.int .u64 a0)), (1, (Value.int .u64 a1)), (3, (str a3))] (by decide) ⟨rfl, rfl, rfl, trivial⟩)
        · clear hkk30
          refine aw_region ?_
          refine al_val (ov_move rfl rfl) ?_
          refine al_val (ov_int rfl rfl rfl rfl) ?_
          refine al_val (ov_move rfl rfl) ?_
          refine al_caseB 25 rfl (fun hb32 => ?_) (fun hb32 => ?_)
          · replace h := bif_t hb32 h
            refine al_skip ?_
            refine al_skip ?_
            refine al_val (ov_pick_t rfl rfl rfl) ?_
            refine al_nil ?_
            exact aq_join true h (fun w a hm hs => norm hm hs [] [] [(0, (Value.int .u64 a0)), (1, (Value.int .u64 a1)), (3, (str a3)), (28, (Value.bool true))] (by decide) ⟨rfl, rfl, rfl, rfl, trivial⟩)
          · replace h := bif_f hb32 h
            refine al_val (ov_move rfl rfl) ?_
            refine al_val (ov_int rfl rfl rfl rfl) ?_
            refine al_val (ov_pick_f rfl rfl rfl) ?_
            refine al_nil ?_
            exact aq_join (r2.2 != (1 : Int)) h (fun w a hm hs => norm hm hs [] [] [(0, (Value.int .u64 a0)), (1, (Value.int .u64 a1)), (3, (str a3)), (28, (Value.bool (r2.2 != (1 : Int))))] (by decide) ⟨rfl, rfl, rfl, rfl, trivial⟩)
      · replace h := bif_f hb28 h
        obtain ⟨kk34, hkk34, h⟩ := lt_some h
        refine aw_seq_join (ι := Bool) (fun i => (memOf w0 Z0 [] [] [])) (fun i => (tab [(0, (Value.int .u64 a0)), (1, (Value.int .u64 a1)), (3, (str a3)), (37, (Value.bool i))])) (fun i => kk34 i = some r) ?_ ?_
        · rintro j33b37 h
          have h : kk34 j33b37 = some r := h
          rw [hkk34] at h
          dsimp only at h
          clear hkk34
          refine aw_show (m := (memOf w0 Z0 [] [] [])) (S := (tab [(0, (Value.int .u64 a0)), (1, (Value.int .u64 a1)), (3, (str a3)), (37, (Value.bool j33b37))])) ?_
          refine aw_cond rfl (fun hb35 => ?_) (fun hb35 => ?_)
          · replace h := bif_t hb35 h
            refine aw_seq ?_
            refine aw_region ?_
            refine al_val (ov_assign rfl rfl) ?_
            refine al_nil ?_
            refine aq_then ?_
            refine aw_ret ?_
            refine aq_then_ret ?_
            obtain rfl := Option.some.inj h
            exact fn_ret () [] [] rfl rfl rfl rfl (res1 rfl rfl) rfl rfl rfl (by decide)
          · replace h := bif_f hb35 h
            refine aw_skip ?_
            exact aq_join () h (fun w a hm hs => norm hm hs [] [] [(0, (Value.int .u64 a0)), (1, (Value.int .u64 a1)), (3, (str a3))] (by decide) ⟨rfl, rfl, rfl, trivial⟩)
        · clear hkk34
          refine aw_region ?_
          refine al_val (ov_move rfl rfl) ?_
          refine al_val (ov_int rfl rfl rfl rfl) ?_
          refine al_val (ov_move rfl rfl) ?_
          refine al_caseB 31 rfl (fun hb36 => ?_) (fun hb36 => ?_)
          · replace h := bif_t hb36 h
            refine al_skip ?_
            refine al_skip ?_
            refine al_skip ?_
            refine al_skip ?_
            refine al_skip ?_
            refine al_val (ov_pick_t rfl rfl rfl) ?_
            refine al_nil ?_
            exact aq_join true h (fun w a hm hs => norm hm hs [] [] [(0, (Value.int .u64 a0)), (1, (Value.int .u64 a1)), (3, (str a3)), (37, (Value.bool true))] (by decide) ⟨rfl, rfl, rfl, rfl, trivial⟩)
          · replace h := bif_f hb36 h
            refine al_val (ov_move rfl rfl) ?_
            refine al_val (ov_move rfl rfl) ?_
            refine al_val (ov_move rfl rfl) ?_
            obtain ⟨r38, hc37, h⟩ := opt_some h
            refine al_call (vs := [(Value.int .i64 a2), (str a3)]) (f_lumref_Narrow_ok fu a2 a3 hc37) [] [] [] pre_nil rfl (by simp) (by decide) (.inl rfl) rfl Try.func14 rfl rfl rfl (fun _ => ?_)
            refine al_val (ov_int rfl rfl rfl rfl) ?_
            refine al_val (ov_pick_f rfl rfl rfl) ?_
            refine al_nil ?_
            exact aq_join (r2.1 != r38) h (fun w a hm hs => norm hm hs [] [] [(0, (Value.int .u64 a0)), (1, (Value.int .u64 a1)), (3, (str a3)), (37, (Value.bool (r2.1 != r38)))] (by decide) ⟨rfl, rfl, rfl, rfl, trivial⟩)
    · clear hkk27
      refine aw_region ?_
      refine al_val (ov_move rfl rfl) ?_
      refine al_val (ov_int rfl rfl rfl rfl) ?_
      refine al_val (ov_move rfl rfl) ?_
      refine al_caseB 19 rfl (fun hb39 => ?_) (fun hb39 => ?_)
      · replace h := bif_t hb39 h
        refine al_skip ?_
        refine al_skip ?_
        refine al_val (ov_pick_t rfl rfl rfl) ?_
        refine al_nil ?_
        exact aq_join true h (fun w a hm hs => norm hm hs [] [] [(0, (Value.int .u64 a0)), (1, (Value.int .u64 a1)), (2, (Value.int .i64 a2)), (3, (str a3)), (9, (Value.int .u64 r2.1)), (10, (Value.int .i64 r2.2)), (22, (Value.bool true))] (by decide) ⟨rfl, rfl, rfl, rfl, rfl, rfl, rfl, trivial⟩)
      · replace h := bif_f hb39 h
        refine al_val (ov_move rfl rfl) ?_
        refine al_val (ov_int rfl rfl rfl rfl) ?_
        refine al_val (ov_pick_f rfl rfl rfl) ?_
        refine al_nil ?_
        exact aq_join (decide (a2 > (64 : Int))) h (fun w a hm hs => norm hm hs [] [] [(0, (Value.int .u64 a0)), (1, (Value.int .u64 a1)), (2, (Value.int .i64 a2)), (3, (str a3)), (9, (Value.int .u64 r2.1)), (10, (Value.int .i64 r2.2)), (22, (Value.bool (decide (a2 > (64 : Int)))))] (by decide) ⟨rfl, rfl, rfl, rfl, rfl, rfl, rfl, trivial⟩)
end Go.Proofs.Ytjbgahmcobcojaa
