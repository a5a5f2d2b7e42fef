/- What FetchTexts leans on, part 3. No condition. -/
import Derived.Test.YtpakblkldklbmaaDoorQFetchTextsb
import Derived.Test.YtpakblkldklbmaaDoorChecked
namespace Go.Proofs.YtpakblkldklbmaaDoor
open Go.RowKit YtpakblkldklbmaaDoor.En
set_option linter.unusedVariables false
set_option linter.unusedSimpArgs false
open Go.Value (int bool)
structure A8u8 where
  e0 : UInt8
  e1 : UInt8
  e2 : UInt8
  e3 : UInt8
  e4 : UInt8
  e5 : UInt8
  e6 : UInt8
  e7 : UInt8
  deriving DecidableEq
def tyA8u8 : Ty A8u8 := tyVia (fun x => (x.e0, (x.e1, (x.e2, (x.e3, (x.e4, (x.e5, (x.e6, x.e7)))))))) (tyPair tyU8 (tyPair tyU8 (tyPair tyU8 (tyPair tyU8 (tyPair tyU8 (tyPair tyU8 (tyPair tyU8 tyU8)))))))
def cA8u8 (x : A8u8) : List Value := [(int .u8 (x.e0.toNat : Int)), (int .u8 (x.e1.toNat : Int)), (int .u8 (x.e2.toNat : Int)), (int .u8 (x.e3.toNat : Int)), (int .u8 (x.e4.toNat : Int)), (int .u8 (x.e5.toNat : Int)), (int .u8 (x.e6.toNat : Int)), (int .u8 (x.e7.toNat : Int))]
def lA8u8 (x : A8u8) : List UInt8 := [x.e0, x.e1, x.e2, x.e3, x.e4, x.e5, x.e6, x.e7]
def vA8u8 (y : UInt8) : Value := (int .u8 (y.toNat : Int))
theorem oneA8u8 (x : A8u8) : ∀ u ∈ cA8u8 x, u.oneCell' = true := ones_map (enc := vA8u8) (xs := lA8u8 x) (fun _ => rfl)
theorem lenA8u8 (x : A8u8) : (lA8u8 x).length = 8 := rfl
theorem encA8u8 {Z w cs} {x : A8u8} (h : tyA8u8.rep Z w cs x) : cs = (cA8u8 x) := by
  obtain ⟨c0, d0, rfl, p0, q0⟩ := h
  obtain ⟨c1, d1, rfl, p1, q1⟩ := q0
  obtain ⟨c2, d2, rfl, p2, q2⟩ := q1
  obtain ⟨c3, d3, rfl, p3, q3⟩ := q2
  obtain ⟨c4, d4, rfl, p4, q4⟩ := q3
  obtain ⟨c5, d5, rfl, p5, q5⟩ := q4
  obtain ⟨c6, d6, rfl, p6, q6⟩ := q5
  rw [show _ = _ from p0]
  rw [show _ = _ from p1]
  rw [show _ = _ from p2]
  rw [show _ = _ from p3]
  rw [show _ = _ from p4]
  rw [show _ = _ from p5]
  rw [show _ = _ from p6]
  rw [show _ = _ from q6]
  rfl
theorem mkA8u8 {Z w cs} {x : A8u8} (h : cs = (cA8u8 x)) : tyA8u8.rep Z w cs x := by
  subst h
  exact ⟨_, _, (List.take_append_drop 1 _).symm, rfl, ⟨_, _, (List.take_append_drop 1 _).symm, rfl, ⟨_, _, (List.take_append_drop 1 _).symm, rfl, ⟨_, _, (List.take_append_drop 1 _).symm, rfl, ⟨_, _, (List.take_append_drop 1 _).symm, rfl, ⟨_, _, (List.take_append_drop 1 _).symm, rfl, ⟨_, _, (List.take_append_drop 1 _).symm, rfl, rfl⟩⟩⟩⟩⟩⟩⟩
theorem lrepA8u8 {Z w cs} {x : A8u8} (h : tyA8u8.rep Z w cs x) : RepL tyU8 Z w cs (lA8u8 x) := by
  rw [encA8u8 h]
  exact ⟨[_], _, rfl, rfl, ⟨[_], _, rfl, rfl, ⟨[_], _, rfl, rfl, ⟨[_], _, rfl, rfl, ⟨[_], _, rfl, rfl, ⟨[_], _, rfl, rfl, ⟨[_], _, rfl, rfl, ⟨[_], _, rfl, rfl, rfl⟩⟩⟩⟩⟩⟩⟩⟩
structure S_api_Blob where
  Kind : Int
  Bytes : (List UInt8)
  deriving DecidableEq
def tyS_api_Blob : Ty S_api_Blob := tyVia (fun x => (x.Kind, x.Bytes)) (tyPair (tyInt .i64) tyStr)
theorem encS_api_Blob {Z w cs} {x : S_api_Blob} (h : tyS_api_Blob.rep Z w cs x) : cs = [(int .i64 x.Kind), (str x.Bytes)] := by
  obtain ⟨c0, d0, rfl, p0, q0⟩ := h
  rw [show _ = _ from p0]
  rw [show _ = _ from q0]
  rfl
theorem mkS_api_Blob {Z w cs} {x : S_api_Blob} (h : cs = [(int .i64 x.Kind), (str x.Bytes)]) : tyS_api_Blob.rep Z w cs x := by
  subst h
  exact ⟨_, _, (List.take_append_drop 1 _).symm, rfl, rfl⟩
def ofA8u8 (l : List UInt8) : A8u8 := match l.take 8 with | [e0, e1, e2, e3, e4, e5, e6, e7] => ⟨e0, e1, e2, e3, e4, e5, e6, e7⟩ | _ => ⟨0, 0, 0, 0, 0, 0, 0, 0⟩
theorem oflA8u8 {l : List UInt8} (hl : 8 ≤ l.length) {Z w cs} (hr : RepL tyU8 Z w cs (l.take 8)) : tyA8u8.rep Z w cs (ofA8u8 l) := by
  unfold ofA8u8
  have h8 : (l.take 8).length = 8 := by rw [List.length_take]; omega
  generalize l.take 8 = m at hr h8
  match m, h8, hr with
  | [e0, e1, e2, e3, e4, e5, e6, e7], _, hr => exact mkA8u8 (by rw [u8_cells hr]; rfl)
theorem coftA8u8 (l : List UInt8) (hl : l.length = 8) : cA8u8 (ofA8u8 l) = Lib.byteCells l := by
  match l, hl with
  | [e0, e1, e2, e3, e4, e5, e6, e7], _ => rfl
def cpA8u8 (x : A8u8) (l : List UInt8) : A8u8 := ofA8u8 (l.take 8 ++ (lA8u8 x).drop (l.take 8).length)
theorem ccpA8u8 (x : A8u8) (l : List UInt8) : cA8u8 (cpA8u8 x l) = Lib.byteCells (l.take 8) ++ (cA8u8 x).drop (l.take 8).length := by
  have h1 : (l.take 8).length ≤ 8 := by rw [List.length_take]; omega
  unfold cpA8u8
  rw [coftA8u8 _ (by rw [List.length_append, List.length_drop, lenA8u8]; omega)]
  unfold Lib.byteCells
  rw [List.map_append, List.map_drop]
  rfl
theorem cpcA8u8 (x : A8u8) (l : List UInt8) (pre post : List Value) : (pre ++ (cA8u8 x ++ post)).take pre.length ++ Lib.byteCells (l.take 8) ++ (pre ++ (cA8u8 x ++ post)).drop (pre.length + (l.take 8).length) = pre ++ (cA8u8 (cpA8u8 x l) ++ post) := by
  have h1 : (l.take 8).length ≤ (cA8u8 x).length := by rw [List.length_take]; exact Nat.min_le_left _ _
  rw [ccpA8u8, List.take_left, List.drop_append, List.drop_of_length_le (by omega), Nat.add_sub_cancel_left, List.drop_append_of_le_length h1]
  simp
theorem sz3 : szOf Tryd.prog 3 = some 1 := by kernel_rfl
theorem sz5 : szOf Tryd.prog 5 = some 1 := by kernel_rfl
theorem to5 : tyOf Tryd.prog 5 = some (1, 1, some (int .u8 (0 : Int))) := by kernel_rfl
theorem sz9 : szOf Tryd.prog 9 = some 1 := by kernel_rfl
theorem to9 : tyOf Tryd.prog 9 = some (1, 16, some (str ([] : List UInt8))) := by kernel_rfl
theorem sz22 : szOf Tryd.prog 22 = some 1 := by kernel_rfl
theorem to22 : tyOf Tryd.prog 22 = some (1, 24, some (Value.slice none 0 0)) := by kernel_rfl
theorem sz41 : szOf Tryd.prog 41 = some 2 := by kernel_rfl
theorem to41 : tyOf Tryd.prog 41 = some (2, 24, some (ag [(int .i64 (0 : Int)), (str ([] : List UInt8))])) := by kernel_rfl
theorem sz60 : szOf Tryd.prog 60 = some 1 := by kernel_rfl
theorem to61 : tyOf Tryd.prog 61 = some (8, 8, some (ag [(int .u8 (0 : Int)), (int .u8 (0 : Int)), (int .u8 (0 : Int)), (int .u8 (0 : Int)), (int .u8 (0 : Int)), (int .u8 (0 : Int)), (int .u8 (0 : Int)), (int .u8 (0 : Int))])) := by kernel_rfl
theorem sz62 : szOf Tryd.prog 62 = some 8 := by kernel_rfl
theorem to62 : tyOf Tryd.prog 62 = some (8, 8, some (ag [(int .u8 (0 : Int)), (int .u8 (0 : Int)), (int .u8 (0 : Int)), (int .u8 (0 : Int)), (int .u8 (0 : Int)), (int .u8 (0 : Int)), (int .u8 (0 : Int)), (int .u8 (0 : Int))])) := by kernel_rfl
theorem sz136 : szOf Tryd.prog 136 = some 0 := by kernel_rfl
theorem sz154 : szOf Tryd.prog 154 = some 0 := by kernel_rfl
theorem mixed : Tryd.prog.follows .mixedOrders = true := by kernel_rfl
theorem eg41 : Tryd.prog.eqGuardType Tryd.prog.depth 41 = false := by kernel_rfl
theorem kt41 : Tryd.prog.keyTypeAt 20 41 = true := by kernel_rfl
theorem lv41 : leaves Tryd.prog 20 41 = some [3, 9] := by kernel_rfl
theorem injS_api_Blob {x y : S_api_Blob} : (x == y) = true ↔ [(int .i64 x.Kind), (str x.Bytes)] = [(int .i64 y.Kind), (str y.Bytes)] := by
  rw [beq_iff_eq]
  constructor
  · rintro rfl; rfl
  · intro h
    obtain ⟨⟩ := x
    obtain ⟨⟩ := y
    simp only [S_api_Blob.mk.injEq, str, List.cons_append, List.nil_append, List.cons.injEq, Value.int.injEq, Value.bool.injEq, Value.string.injEq, ByteArray.mk.injEq, Array.mk.injEq, Int.natCast_inj, UInt8.toNat_inj, true_and, and_true] at h ⊢
    first | exact h | simpa [and_assoc] using h
theorem eg62 : Tryd.prog.eqGuardType Tryd.prog.depth 62 = false := by kernel_rfl
theorem kt62 : Tryd.prog.keyTypeAt 20 62 = true := by kernel_rfl
theorem lv62 : leaves Tryd.prog 20 62 = some [5, 5, 5, 5, 5, 5, 5, 5] := by kernel_rfl
theorem injA8u8 {x y : A8u8} : (x == y) = true ↔ (cA8u8 x) = (cA8u8 y) := by
  rw [beq_iff_eq]
  constructor
  · rintro rfl; rfl
  · intro h
    obtain ⟨⟩ := x
    obtain ⟨⟩ := y
    simp only [A8u8.mk.injEq, cA8u8, str, List.cons_append, List.nil_append, List.cons.injEq, Value.int.injEq, Value.bool.injEq, Value.string.injEq, ByteArray.mk.injEq, Array.mk.injEq, Int.natCast_inj, UInt8.toNat_inj, true_and, and_true] at h ⊢
    first | exact h | simpa [and_assoc] using h
def okS_api_Blob (x : S_api_Blob) : Prop := ((Lit.int .i64 x.Kind).wf = true) ∧ (x.Bytes.length ≤ 9223372036854775807)
set_option maxRecDepth 100000 in
theorem opnS_api_Blob {H : Type} : Opn H Tryd.prog 41 tyS_api_Blob okS_api_Blob := opn_struct (fun x => (x.Kind, x.Bytes)) (fun y => S_api_Blob.mk y.1 y.2) (fun _ => rfl) Tryd.underlying41 sz41 (fields_cons sz3 (opn_int Tryd.underlying3) (fields_one sz9 (opn_str Tryd.underlying9)))
def okbS_api_Blob (N : Nat) (x : S_api_Blob) : Prop := ((Lit.int .i64 x.Kind).wf = true) ∧ ((x.Bytes.length ≤ 9223372036854775807 ∧ x.Bytes.length ≤ N))
set_option maxRecDepth 100000 in
theorem opbS_api_Blob {H : Type} : Opb H Tryd.prog 41 tyS_api_Blob okbS_api_Blob := opb_struct (fun x => (x.Kind, x.Bytes)) (fun y => S_api_Blob.mk y.1 y.2) (fun _ => rfl) Tryd.underlying41 sz41 (fieldsb_cons sz3 (opb_of (opn_int Tryd.underlying3)) (fieldsb_one sz9 (opb_str Tryd.underlying9)))
theorem f_put8_ok {g off t : Nat} {a2 : Int} {cs cs' : List Value} (hc : 0 ≤ a2 ∧ a2 < 18446744073709551616) (hfit : off + 8 ≤ cs.length) (hcs : cs.take off ++ Lib.byteCells ((Lib.beBytes 8 a2.toNat).take 8) ++ cs.drop (off + ((Lib.beBytes 8 a2.toNat).take 8).length) = cs') :
    FnOk Tryd.prog 86 [(ag []), (sbx g off 8), (uq a2)] [] [oBox g t cs] (fun _ : Unit => { val := .tuple #[], own := [oBox g t cs'] }) := by
  obtain ⟨n, rfl⟩ : ∃ n : Nat, a2 = n := ⟨a2.toNat, by omega⟩
  have hl : (Lib.beBytes 8 n).length = 8 := Lib.beBytes_length 8 n
  have hcs' : cs.take off ++ Lib.byteCells (Lib.beBytes 8 n) ++ cs.drop (off + 8) = cs' := by
    have e : (Lib.beBytes 8 ((n : Int).toNat)).take 8 = Lib.beBytes 8 n := by rw [Int.toNat_natCast, List.take_of_length_le (by omega)]
    rw [e, hl] at hcs; exact hcs
  exact fnok_put8 hl hfit hcs' (fun x0 x1 x2 x3 x4 x5 x6 x7 w c0 c1 c2 c3 c4 c5 c6 c7 f0 f1 f2 f3 f4 f5 f6 f7 => Tryd.binary_BE_PutUint64 g off 8 8 n (by omega) x0 x1 x2 x3 x4 x5 x6 x7 w (by omega) c0 c1 c2 c3 c4 c5 c6 c7 f0 f1 f2 f3 f4 f5 f6 f7)
def f_pack_Known (fu : Nat) (a0 : Int) : Option Bool := (lt (fun (j1b2 : Bool) => (some j1b2)) fun (kk2 : Bool → Option Bool) => (bif (decide (a0 ≥ (1 : Int))) then (kk2 (decide (a0 ≤ (3 : Int)))) else (kk2 false)))
set_option maxHeartbeats 2000000 in
set_option maxRecDepth 100000 in
theorem f_pack_Known_ok (fu : Nat) (a0 : Int) {r : Bool} (h : f_pack_Known fu a0 = some r) : FnOk Tryd.prog 36 [(int .i64 a0)] [] [] (fun (i : Unit) => { val := (bool r) }) := by
 unfold f_pack_Known at h
 refine fn_enter Tryd.func36 rfl Tryd.ntmps36 rfl (fun w0 Z0 => ?_)
 refine aw_sr ?_
 refine al_as rfl rfl ?_
 refine al_nt ?_
 obtain ⟨kk2, hkk2, h⟩ := lt_some h
 refine aw_seq_join (ι := Bool) (fun i => (memOf w0 Z0 [] [] [])) (fun i => (tab [(2, (bool i))])) (fun i => kk2 i = some r) ?_ ?_
 ·rintro j1b2 h
  have h : kk2 j1b2 = some r := h
  rw [hkk2] at h
  dsimp only at h
  clear hkk2
  refine aw_show (m := (memOf w0 Z0 [] [] [])) (S := (tab [(2, (bool j1b2))])) ?_
  refine aw_ret ?_
  obtain rfl := Option.some.inj h
  exact fn_ret () [] [] rfl rfl rfl rfl (res1 rfl rfl) rfl rfl rfl (by decide)
 ·clear hkk2
  refine aw_region ?_
  refine al_mv rfl rfl ?_
  refine al_in rfl rfl rfl rfl ?_
  refine al_mv rfl rfl ?_
  refine al_caseB 5 rfl (fun hb3 => ?_) (fun hb3 => ?_)
  ·replace h := bif_t hb3 h
   refine al_mv rfl rfl ?_
   refine al_in rfl rfl rfl rfl ?_
   refine al_val (ov_pick_t rfl rfl rfl) ?_
   refine al_as rfl rfl ?_
   refine al_nil ?_
   exact aq_join (decide (a0 ≤ (3 : Int))) h (fun w a hm hs => norm hm hs [] [] [(2, (bool (decide (a0 ≤ (3 : Int)))))] (by decide) ⟨rfl, trivial⟩)
  ·replace h := bif_f hb3 h
   refine al_skip ?_
   refine al_skip ?_
   refine al_val (ov_pick_f rfl rfl rfl) ?_
   refine al_as rfl rfl ?_
   refine al_nil ?_
   exact aq_join false h (fun w a hm hs => norm hm hs [] [] [(2, (bool false))] (by decide) ⟨rfl, trivial⟩)
def f__binary_littleEndian__Uint64 (fu : Nat) (a0 : Unit) (a1 : (List UInt8)) : Option Int := (opt (at? a1 (7 : Int)) fun (u2 : UInt8) => (opt (at? a1 (0 : Int)) fun (u5 : UInt8) => (opt (at? a1 (1 : Int)) fun (u8 : UInt8) => (opt (at? a1 (2 : Int)) fun (u11 : UInt8) => (opt (at? a1 (3 : Int)) fun (u14 : UInt8) => (opt (at? a1 (4 : Int)) fun (u17 : UInt8) => (opt (at? a1 (5 : Int)) fun (u20 : UInt8) => (opt (at? a1 (6 : Int)) fun (u23 : UInt8) => (opt (at? a1 (7 : Int)) fun (u26 : UInt8) => (some (bits .or .u64 (bits .or .u64 (bits .or .u64 (bits .or .u64 (bits .or .u64 (bits .or .u64 (bits .or .u64 (IntKind.u64.wrap (u5.toNat : Int)) (IntKind.u64.wrap ((IntKind.u64.wrap (u8.toNat : Int)) * 2 ^ min ((8 : Int)).toNat (IntKind.bits .u64)))) (IntKind.u64.wrap ((IntKind.u64.wrap (u11.toNat : Int)) * 2 ^ min ((16 : Int)).toNat (IntKind.bits .u64)))) (IntKind.u64.wrap ((IntKind.u64.wrap (u14.toNat : Int)) * 2 ^ min ((24 : Int)).toNat (IntKind.bits .u64)))) (IntKind.u64.wrap ((IntKind.u64.wrap (u17.toNat : Int)) * 2 ^ min ((32 : Int)).toNat (IntKind.bits .u64)))) (IntKind.u64.wrap ((IntKind.u64.wrap (u20.toNat : Int)) * 2 ^ min ((40 : Int)).toNat (IntKind.bits .u64)))) (IntKind.u64.wrap ((IntKind.u64.wrap (u23.toNat : Int)) * 2 ^ min ((48 : Int)).toNat (IntKind.bits .u64)))) (IntKind.u64.wrap ((IntKind.u64.wrap (u26.toNat : Int)) * 2 ^ min ((56 : Int)).toNat (IntKind.bits .u64))))))))))))))
set_option maxHeartbeats 2000000 in
set_option maxRecDepth 100000 in
theorem f__binary_littleEndian__Uint64_ok (fu : Nat) (a0 : Unit) (v1_0 : Value) (a1 : (List UInt8)) {r : Int} (h : f__binary_littleEndian__Uint64 fu a0 a1 = some r) : FnOk Tryd.prog 115 [(ag []), v1_0] [(fDat (tyList tyU8) [v1_0] a1)] [] (fun (i : Unit) => { val := (int .u64 r) }) := by
 unfold f__binary_littleEndian__Uint64 at h
 refine fn_enter Tryd.func115 rfl Tryd.ntmps115 rfl (fun w0 Z0 => ?_)
 refine aw_sr ?_
 refine al_box (vs := []) rfl (cv_rfl rfl) rfl (fun g1 => ?_)
 refine al_as rfl rfl ?_
 refine al_nt ?_
 refine aw_sr ?_
 refine al_mv rfl rfl ?_
 obtain ⟨u2, hu3, h⟩ := opt_some h
 refine al_idxD 0 hu3 rfl rfl rfl Tryd.underlying60 sz5 rfl (fun p4 => ?_)
 refine al_val (ov_loadP (ds := [(i8 (u2.toNat : Int))]) 0 rfl (fun h => h) rfl Tryd.underlying5 sz5 rfl rfl rfl) ?_
 refine al_nt ?_
 refine aw_seq ?_
 obtain ⟨u5, hu6, h⟩ := opt_some h
 obtain ⟨u8, hu9, h⟩ := opt_some h
 obtain ⟨u11, hu12, h⟩ := opt_some h
 obtain ⟨u14, hu15, h⟩ := opt_some h
 obtain ⟨u17, hu18, h⟩ := opt_some h
 obtain ⟨u20, hu21, h⟩ := opt_some h
 obtain ⟨u23, hu24, h⟩ := opt_some h
 obtain ⟨u26, hu27, h⟩ := opt_some h
 refine aw_region_draw 46 [(8, (fun u => fEq u v1_0)), (9, (fun p7 => (fPtr tyU8 p7 u5))), (10, (fun u => fEq u (i8 (u5.toNat : Int)))), (11, (fun u => fEq u (uq (wu (u5.toNat : Int))))), (12, (fun u => fEq u v1_0)), (13, (fun p10 => (fPtr tyU8 p10 u8))), (14, (fun u => fEq u (i8 (u8.toNat : Int)))), (15, (fun u => fEq u (uq (wu (u8.toNat : Int))))), (16, (fun u => fEq u (uq (wu ((wu (u8.toNat : Int)) * 2 ^ min ((8 : Int)).toNat (IntKind.bits .u64)))))), (17, (fun u => fEq u (uq (bits .or .u64 (wu (u5.toNat : Int)) (wu ((wu (u8.toNat : Int)) * 2 ^ min ((8 : Int)).toNat (IntKind.bits .u64))))))), (18, (fun u => fEq u v1_0)), (19, (fun p13 => (fPtr tyU8 p13 u11))), (20, (fun u => fEq u (i8 (u11.toNat : Int)))), (21, (fun u => fEq u (uq (wu (u11.toNat : Int))))), (22, (fun u => fEq u (uq (wu ((wu (u11.toNat : Int)) * 2 ^ min ((16 : Int)).toNat (IntKind.bits .u64)))))), (23, (fun u => fEq u (uq (bits .or .u64 (bits .or .u64 (wu (u5.toNat : Int)) (wu ((wu (u8.toNat : Int)) * 2 ^ min ((8 : Int)).toNat (IntKind.bits .u64)))) (wu ((wu (u11.toNat : Int)) * 2 ^ min ((16 : Int)).toNat (IntKind.bits .u64))))))), (24, (fun u => fEq u v1_0)), (25, (fun p16 => (fPtr tyU8 p16 u14))), (26, (fun u => fEq u (i8 (u14.toNat : Int)))), (27, (fun u => fEq u (uq (wu (u14.toNat : Int))))), (28, (fun u => fEq u (uq (wu ((wu (u14.toNat : Int)) * 2 ^ min ((24 : Int)).toNat (IntKind.bits .u64)))))), (29, (fun u => fEq u (uq (bits .or .u64 (bits .or .u64 (bits .or .u64 (wu (u5.toNat : Int)) (wu ((wu (u8.toNat : Int)) * 2 ^ min ((8 : Int)).toNat (IntKind.bits .u64)))) (wu ((wu (u11.toNat : Int)) * 2 ^ min ((16 : Int)).toNat (IntKind.bits .u64)))) (wu ((wu (u14.toNat : Int)) * 2 ^ min ((24 : Int)).toNat (IntKind.bits .u64))))))), (30, (fun u => fEq u v1_0)), (31, (fun p19 => (fPtr tyU8 p19 u17))), (32, (fun u => fEq u (i8 (u17.toNat : Int)))), (33, (fun u => fEq u (uq (wu (u17.toNat : Int))))), (34, (fun u => fEq u (uq (wu ((wu (u17.toNat : Int)) * 2 ^ min ((32 : Int)).toNat (IntKind.bits .u64)))))), (35, (fun u => fEq u (uq (bits .or .u64 (bits .or .u64 (bits .or .u64 (bits .or .u64 (wu (u5.toNat : Int)) (wu ((wu (u8.toNat : Int)) * 2 ^ min ((8 : Int)).toNat (IntKind.bits .u64)))) (wu ((wu (u11.toNat : Int)) * 2 ^ min ((16 : Int)).toNat (IntKind.bits .u64)))) (wu ((wu (u14.toNat : Int)) * 2 ^ min ((24 : Int)).toNat (IntKind.bits .u64)))) (wu ((wu (u17.toNat : Int)) * 2 ^ min ((32 : Int)).toNat (IntKind.bits .u64))))))), (36, (fun u => fEq u v1_0)), (37, (fun p22 => (fPtr tyU8 p22 u20))), (38, (fun u => fEq u (i8 (u20.toNat : Int)))), (39, (fun u => fEq u (uq (wu (u20.toNat : Int))))), (40, (fun u => fEq u (uq (wu ((wu (u20.toNat : Int)) * 2 ^ min ((40 : Int)).toNat (IntKind.bits .u64)))))), (41, (fun u => fEq u (uq (bits .or .u64 (bits .or .u64 (bits .or .u64 (bits .or .u64 (bits .or .u64 (wu (u5.toNat : Int)) (wu ((wu (u8.toNat : Int)) * 2 ^ min ((8 : Int)).toNat (IntKind.bits .u64)))) (wu ((wu (u11.toNat : Int)) * 2 ^ min ((16 : Int)).toNat (IntKind.bits .u64)))) (wu ((wu (u14.toNat : Int)) * 2 ^ min ((24 : Int)).toNat (IntKind.bits .u64)))) (wu ((wu (u17.toNat : Int)) * 2 ^ min ((32 : Int)).toNat (IntKind.bits .u64)))) (wu ((wu (u20.toNat : Int)) * 2 ^ min ((40 : Int)).toNat (IntKind.bits .u64))))))), (42, (fun u => fEq u v1_0)), (43, (fun p25 => (fPtr tyU8 p25 u23))), (44, (fun u => fEq u (i8 (u23.toNat : Int)))), (45, (fun u => fEq u (uq (wu (u23.toNat : Int))))), (46, (fun u => fEq u (uq (wu ((wu (u23.toNat : Int)) * 2 ^ min ((48 : Int)).toNat (IntKind.bits .u64)))))), (47, (fun u => fEq u (uq (bits .or .u64 (bits .or .u64 (bits .or .u64 (bits .or .u64 (bits .or .u64 (bits .or .u64 (wu (u5.toNat : Int)) (wu ((wu (u8.toNat : Int)) * 2 ^ min ((8 : Int)).toNat (IntKind.bits .u64)))) (wu ((wu (u11.toNat : Int)) * 2 ^ min ((16 : Int)).toNat (IntKind.bits .u64)))) (wu ((wu (u14.toNat : Int)) * 2 ^ min ((24 : Int)).toNat (IntKind.bits .u64)))) (wu ((wu (u17.toNat : Int)) * 2 ^ min ((32 : Int)).toNat (IntKind.bits .u64)))) (wu ((wu (u20.toNat : Int)) * 2 ^ min ((40 : Int)).toNat (IntKind.bits .u64)))) (wu ((wu (u23.toNat : Int)) * 2 ^ min ((48 : Int)).toNat (IntKind.bits .u64))))))), (48, (fun u => fEq u v1_0)), (49, (fun p28 => (fPtr tyU8 p28 u26))), (50, (fun u => fEq u (i8 (u26.toNat : Int)))), (51, (fun u => fEq u (uq (wu (u26.toNat : Int))))), (52, (fun u => fEq u (uq (wu ((wu (u26.toNat : Int)) * 2 ^ min ((56 : Int)).toNat (IntKind.bits .u64)))))), (53, (fun u => fEq u (uq (bits .or .u64 (bits .or .u64 (bits .or .u64 (bits .or .u64 (bits .or .u64 (bits .or .u64 (bits .or .u64 (wu (u5.toNat : Int)) (wu ((wu (u8.toNat : Int)) * 2 ^ min ((8 : Int)).toNat (IntKind.bits .u64)))) (wu ((wu (u11.toNat : Int)) * 2 ^ min ((16 : Int)).toNat (IntKind.bits .u64)))) (wu ((wu (u14.toNat : Int)) * 2 ^ min ((24 : Int)).toNat (IntKind.bits .u64)))) (wu ((wu (u17.toNat : Int)) * 2 ^ min ((32 : Int)).toNat (IntKind.bits .u64)))) (wu ((wu (u20.toNat : Int)) * 2 ^ min ((40 : Int)).toNat (IntKind.bits .u64)))) (wu ((wu (u23.toNat : Int)) * 2 ^ min ((48 : Int)).toNat (IntKind.bits .u64)))) (wu ((wu (u26.toNat : Int)) * 2 ^ min ((56 : Int)).toNat (IntKind.bits .u64)))))))] (tab [(1, v1_0), (4, (uq (0 : Int)))]) mixed (by kernel_rfl) rfl rfl rfl (fun a hs => hs.tab _ (allT_mem ⟨rfl, rfl, trivial⟩)) ⟨⟨rfl, ld_val (ov_move rfl rfl)⟩, ⟨rfl, ld_eq (j := 0) rfl rfl (ld_of (of_idxD 1 hu6 rfl rfl rfl Tryd.underlying60 sz5 rfl))⟩, ⟨rfl, ld_fact (j := 1) rfl rfl (fun p7 => ld_val (ov_loadP (ds := [(i8 (u5.toNat : Int))]) 0 rfl (fun h => h) rfl Tryd.underlying5 sz5 rfl rfl rfl))⟩, ⟨rfl, ld_eq (j := 2) rfl rfl (ld_val (ov_convInt (by rw [Tryd.underlying5]; rfl) Tryd.underlying98 rfl rfl))⟩, ⟨rfl, ld_val (ov_move rfl rfl)⟩, ⟨rfl, ld_eq (j := 4) rfl rfl (ld_of (of_idxD 1 hu9 rfl rfl rfl Tryd.underlying60 sz5 rfl))⟩, ⟨rfl, ld_fact (j := 5) rfl rfl (fun p10 => ld_val (ov_loadP (ds := [(i8 (u8.toNat : Int))]) 0 rfl (fun h => h) rfl Tryd.underlying5 sz5 rfl rfl rfl))⟩, ⟨rfl, ld_eq (j := 6) rfl rfl (ld_val (ov_convInt (by rw [Tryd.underlying5]; rfl) Tryd.underlying98 rfl rfl))⟩, ⟨rfl, ld_eq (j := 7) rfl rfl (ld_val (ov_shl (by decide) rfl rfl rfl))⟩, ⟨rfl, ld_eq (j := 3) rfl rfl (ld_eq (j := 8) rfl rfl (ld_val (ov_int rfl rfl rfl rfl)))⟩, ⟨rfl, ld_val (ov_move rfl rfl)⟩, ⟨rfl, ld_eq (j := 10) rfl rfl (ld_of (of_idxD 1 hu12 rfl rfl rfl Tryd.underlying60 sz5 rfl))⟩, ⟨rfl, ld_fact (j := 11) rfl rfl (fun p13 => ld_val (ov_loadP (ds := [(i8 (u11.toNat : Int))]) 0 rfl (fun h => h) rfl Tryd.underlying5 sz5 rfl rfl rfl))⟩, ⟨rfl, ld_eq (j := 12) rfl rfl (ld_val (ov_convInt (by rw [Tryd.underlying5]; rfl) Tryd.underlying98 rfl rfl))⟩, ⟨rfl, ld_eq (j := 13) rfl rfl (ld_val (ov_shl (by decide) rfl rfl rfl))⟩, ⟨rfl, ld_eq (j := 9) rfl rfl (ld_eq (j := 14) rfl rfl (ld_val (ov_int rfl rfl rfl rfl)))⟩, ⟨rfl, ld_val (ov_move rfl rfl)⟩, ⟨rfl, ld_eq (j := 16) rfl rfl (ld_of (of_idxD 1 hu15 rfl rfl rfl Tryd.underlying60 sz5 rfl))⟩, ⟨rfl, ld_fact (j := 17) rfl rfl (fun p16 => ld_val (ov_loadP (ds := [(i8 (u14.toNat : Int))]) 0 rfl (fun h => h) rfl Tryd.underlying5 sz5 rfl rfl rfl))⟩, ⟨rfl, ld_eq (j := 18) rfl rfl (ld_val (ov_convInt (by rw [Tryd.underlying5]; rfl) Tryd.underlying98 rfl rfl))⟩, ⟨rfl, ld_eq (j := 19) rfl rfl (ld_val (ov_shl (by decide) rfl rfl rfl))⟩, ⟨rfl, ld_eq (j := 15) rfl rfl (ld_eq (j := 20) rfl rfl (ld_val (ov_int rfl rfl rfl rfl)))⟩, ⟨rfl, ld_val (ov_move rfl rfl)⟩, ⟨rfl, ld_eq (j := 22) rfl rfl (ld_of (of_idxD 1 hu18 rfl rfl rfl Tryd.underlying60 sz5 rfl))⟩, ⟨rfl, ld_fact (j := 23) rfl rfl (fun p19 => ld_val (ov_loadP (ds := [(i8 (u17.toNat : Int))]) 0 rfl (fun h => h) rfl Tryd.underlying5 sz5 rfl rfl rfl))⟩, ⟨rfl, ld_eq (j := 24) rfl rfl (ld_val (ov_convInt (by rw [Tryd.underlying5]; rfl) Tryd.underlying98 rfl rfl))⟩, ⟨rfl, ld_eq (j := 25) rfl rfl (ld_val (ov_shl (by decide) rfl rfl rfl))⟩, ⟨rfl, ld_eq (j := 21) rfl rfl (ld_eq (j := 26) rfl rfl (ld_val (ov_int rfl rfl rfl rfl)))⟩, ⟨rfl, ld_val (ov_move rfl rfl)⟩, ⟨rfl, ld_eq (j := 28) rfl rfl (ld_of (of_idxD 1 hu21 rfl rfl rfl Tryd.underlying60 sz5 rfl))⟩, ⟨rfl, ld_fact (j := 29) rfl rfl (fun p22 => ld_val (ov_loadP (ds := [(i8 (u20.toNat : Int))]) 0 rfl (fun h => h) rfl Tryd.underlying5 sz5 rfl rfl rfl))⟩, ⟨rfl, ld_eq (j := 30) rfl rfl (ld_val (ov_convInt (by rw [Tryd.underlying5]; rfl) Tryd.underlying98 rfl rfl))⟩, ⟨rfl, ld_eq (j := 31) rfl rfl (ld_val (ov_shl (by decide) rfl rfl rfl))⟩, ⟨rfl, ld_eq (j := 27) rfl rfl (ld_eq (j := 32) rfl rfl (ld_val (ov_int rfl rfl rfl rfl)))⟩, ⟨rfl, ld_val (ov_move rfl rfl)⟩, ⟨rfl, ld_eq (j := 34) rfl rfl (ld_of (of_idxD 1 hu24 rfl rfl rfl Tryd.underlying60 sz5 rfl))⟩, ⟨rfl, ld_fact (j := 35) rfl rfl (fun p25 => ld_val (ov_loadP (ds := [(i8 (u23.toNat : Int))]) 0 rfl (fun h => h) rfl Tryd.underlying5 sz5 rfl rfl rfl))⟩, ⟨rfl, ld_eq (j := 36) rfl rfl (ld_val (ov_convInt (by rw [Tryd.underlying5]; rfl) Tryd.underlying98 rfl rfl))⟩, ⟨rfl, ld_eq (j := 37) rfl rfl (ld_val (ov_shl (by decide) rfl rfl rfl))⟩, ⟨rfl, ld_eq (j := 33) rfl rfl (ld_eq (j := 38) rfl rfl (ld_val (ov_int rfl rfl rfl rfl)))⟩, ⟨rfl, ld_val (ov_move rfl rfl)⟩, ⟨rfl, ld_eq (j := 40) rfl rfl (ld_of (of_idxD 1 hu27 rfl rfl rfl Tryd.underlying60 sz5 rfl))⟩, ⟨rfl, ld_fact (j := 41) rfl rfl (fun p28 => ld_val (ov_loadP (ds := [(i8 (u26.toNat : Int))]) 0 rfl (fun h => h) rfl Tryd.underlying5 sz5 rfl rfl rfl))⟩, ⟨rfl, ld_eq (j := 42) rfl rfl (ld_val (ov_convInt (by rw [Tryd.underlying5]; rfl) Tryd.underlying98 rfl rfl))⟩, ⟨rfl, ld_eq (j := 43) rfl rfl (ld_val (ov_shl (by decide) rfl rfl rfl))⟩, ⟨rfl, ld_eq (j := 39) rfl rfl (ld_eq (j := 44) rfl rfl (ld_val (ov_int rfl rfl rfl rfl)))⟩, trivial⟩ ?_
 refine tl_eq 45 rfl ?_
 refine tl_done ?_
 refine al_as rfl rfl ?_
 refine al_nt ?_
 refine aw_ret ?_
 obtain rfl := Option.some.inj h
 exact fn_ret () [] [] rfl rfl rfl rfl (res1 rfl rfl) rfl rfl rfl (by decide)
def f_mix_Step (fu : Nat) (a0 : Int) (a1 : Int) : Option Int := (some (bits .xor .u64 (IntKind.u64.wrap ((bits .xor .u64 (IntKind.u64.wrap ((bits .xor .u64 a0 a1) * (11400714819323198485 : Int))) (((IntKind.u64.wrap ((bits .xor .u64 a0 a1) * (11400714819323198485 : Int)))).fdiv (2 ^ min ((29 : Int)).toNat (IntKind.bits .u64)))) * (13787848793156543929 : Int))) (((IntKind.u64.wrap ((bits .xor .u64 (IntKind.u64.wrap ((bits .xor .u64 a0 a1) * (11400714819323198485 : Int))) (((IntKind.u64.wrap ((bits .xor .u64 a0 a1) * (11400714819323198485 : Int)))).fdiv (2 ^ min ((29 : Int)).toNat (IntKind.bits .u64)))) * (13787848793156543929 : Int)))).fdiv (2 ^ min ((32 : Int)).toNat (IntKind.bits .u64)))))
set_option maxHeartbeats 2000000 in
set_option maxRecDepth 100000 in
theorem f_mix_Step_ok (fu : Nat) (a0 : Int) (a1 : Int) {r : Int} (h : f_mix_Step fu a0 a1 = some r) : FnOk Tryd.prog 114 [(int .u64 a0), (int .u64 a1)] [] [] (fun (i : Unit) => { val := (int .u64 r) }) := by
 unfold f_mix_Step at h
 refine fn_enter Tryd.func114 rfl Tryd.ntmps114 rfl (fun w0 Z0 => ?_)
 refine aw_sr ?_
 refine al_as rfl rfl ?_
 refine al_nt ?_
 refine aw_sr ?_
 refine al_mv rfl rfl ?_
 refine al_mv rfl rfl ?_
 refine al_in rfl rfl rfl rfl ?_
 refine al_in rfl rfl rfl rfl ?_
 refine al_as rfl rfl ?_
 refine al_nt ?_
 refine aw_sr ?_
 refine al_mv rfl rfl ?_
 refine al_mv rfl rfl ?_
 refine al_val (ov_shr (by decide) rfl rfl rfl) ?_
 refine al_in rfl rfl rfl rfl ?_
 refine al_in rfl rfl rfl rfl ?_
 refine al_as rfl rfl ?_
 refine al_nt ?_
 refine aw_sr ?_
 refine al_mv rfl rfl ?_
 refine al_mv rfl rfl ?_
 refine al_val (ov_shr (by decide) rfl rfl rfl) ?_
 refine al_in rfl rfl rfl rfl ?_
 refine al_as rfl rfl ?_
 refine al_nt ?_
 refine aw_ret ?_
 obtain rfl := Option.some.inj h
 exact fn_ret () [] [] rfl rfl rfl rfl (res1 rfl rfl) rfl rfl rfl (by decide)
def f_mix_sum_L7 (a1 : Int) (kk2 : (Int → Option Int)) (fu : Nat) : Nat → (List UInt8) → Int → Option Int
  | 0, _, _ => none
  | k6 + 1, l5s0, l5i5 => (bif (!(l5s0 == ([] : List UInt8))) then (req (0 ≤ ((Nat.min l5s0.length 8 : Nat) : Int) ∧ ((Nat.min l5s0.length 8 : Nat) : Int) ≤ (l5s0.length : Int)) (opt (f__binary_littleEndian__Uint64 fu () (lA8u8 (cpA8u8 (A8u8.mk (0 : UInt8) (0 : UInt8) (0 : UInt8) (0 : UInt8) (0 : UInt8) (0 : UInt8) (0 : UInt8) (0 : UInt8)) l5s0))) fun (r13 : Int) => (opt (f_mix_Step fu l5i5 r13) fun (r15 : Int) => (f_mix_sum_L7 a1 kk2 fu k6 (l5s0.drop (((Nat.min l5s0.length 8 : Nat) : Int)).toNat) (bits .and .u64 r15 a1))))) else (kk2 l5i5))
def f_mix_sum (fu : Nat) (a0 : (List UInt8)) (a1 : Int) : Option Int := (lt (fun (j1i5 : Int) => (opt (f_mix_Step fu j1i5 (IntKind.u64.wrap (a0.length : Int))) fun (r4 : Int) => (some (bits .and .u64 r4 a1)))) fun (kk2 : Int → Option Int) => (f_mix_sum_L7 a1 kk2 fu fu a0 (0 : Int)))
set_option maxHeartbeats 2000000 in
set_option maxRecDepth 100000 in
theorem f_mix_sum_ok (fu : Nat) (a0 : (List UInt8)) (a1 : Int) {r : Int} (h : f_mix_sum fu a0 a1 = some r) : FnOk Tryd.prog 102 [(str a0), (int .u64 a1)] [] [] (fun (i : Unit) => { val := (int .u64 r) }) := by
 unfold f_mix_sum at h
 refine fn_enter Tryd.func102 rfl Tryd.ntmps102 rfl (fun w0 Z0 => ?_)
 refine aw_sr ?_
 refine al_as rfl rfl ?_
 refine al_nt ?_
 refine aw_sr ?_
 refine al_mv rfl rfl ?_
 refine al_val (ov_strLen Tryd.underlying9 rfl rfl) ?_
 refine al_val (ov_convInt (by rw [Tryd.underlying3]; rfl) Tryd.underlying98 rfl rfl) ?_
 refine al_as rfl rfl ?_
 refine al_as rfl rfl ?_
 refine al_nt ?_
 obtain ⟨kk2, hkk2, h⟩ := lt_some h
 refine aw_seq_join (ι := Int) (fun i => (memOf w0 Z0 [] [] [])) (fun i => (tab [(1, (uq a1)), (5, (uq i)), (6, (uq (wu (a0.length : Int))))])) (fun i => kk2 i = some r) ?_ ?_
 ·rintro j1i5 h
  have h : kk2 j1i5 = some r := h
  rw [hkk2] at h
  dsimp only at h
  clear hkk2
  refine aw_show (m := (memOf w0 Z0 [] [] [])) (S := (tab [(1, (uq a1)), (5, (uq j1i5)), (6, (uq (wu (a0.length : Int))))])) ?_
  refine aw_sr ?_
  refine al_mv rfl rfl ?_
  refine al_mv rfl rfl ?_
  obtain ⟨r4, hc3, h⟩ := opt_some h
  refine al_call (vs := [(uq j1i5), (uq (wu (a0.length : Int)))]) (f_mix_Step_ok fu j1i5 (wu (a0.length : Int)) hc3) [] [] [] pre_nil rfl (by simp) (by decide) (.inl rfl) rfl Tryd.func114 rfl rfl rfl (fun _ => ?_)
  refine al_mv rfl rfl ?_
  refine al_in rfl rfl rfl rfl ?_
  refine al_as rfl rfl ?_
  refine al_nt ?_
  refine aw_ret ?_
  obtain rfl := Option.some.inj h
  exact fn_ret () [] [] rfl rfl rfl rfl (res1 rfl rfl) rfl rfl rfl (by decide)
 ·clear hkk2
  refine aw_block ?_
  refine aw_state (aw_loop (ι := (List UInt8) × Int) (fun i => (memOf w0 Z0 [] [] [])) (fun i => (tab [(0, (str i.1)), (1, (uq a1)), (5, (uq i.2)), (6, (uq (wu (a0.length : Int))))])) (fun q i => f_mix_sum_L7 a1 kk2 fu q i.1 i.2 = some r) ?_ fu (a0, (0 : Int)) h) (fun w a hm hs => norm hm hs [] [] [(0, (str a0)), (1, (uq a1)), (5, (uq (0 : Int))), (6, (uq (wu (a0.length : Int))))] (by decide) ⟨rfl, rfl, rfl, rfl, trivial⟩)
  clear h
  rintro k6 ⟨l5s0, l5i5⟩ h
  have h : f_mix_sum_L7 a1 kk2 fu k6 l5s0 l5i5 = some r := h
  obtain _ | k6 := k6
  · rw [f_mix_sum_L7] at h; cases h
  rw [f_mix_sum_L7] at h
  refine aw_show (m := (memOf w0 Z0 [] [] [])) (S := (tab [(0, (str l5s0)), (1, (uq a1)), (5, (uq l5i5)), (6, (uq (wu (a0.length : Int))))])) ?_
  refine aw_seq ?_
  refine aw_sr ?_
  refine al_mv rfl rfl ?_
  refine al_val (ov_strCmp rfl rfl rfl rfl) ?_
  refine al_nt ?_
  refine aw_cond rfl (fun hb8 => ?_) (fun hb8 => ?_)
  ·replace h := bif_t hb8 h
   refine aw_skip ?_
   refine aq_then ?_
   refine aw_block ?_
   refine aw_sr ?_
   refine al_alloc (zs := (cA8u8 (A8u8.mk (0 : UInt8) (0 : UInt8) (0 : UInt8) (0 : UInt8) (0 : UInt8) (0 : UInt8) (0 : UInt8) (0 : UInt8)))) (zeroOf_to to61) rfl rfl (fun g9 => ?_)
   refine al_nt ?_
   refine aw_sr ?_
   refine al_mv rfl rfl ?_
   refine al_val (ov_sliceBox (i := 0) rfl rfl Tryd.underlying61 sz5 rfl) ?_
   refine al_mv rfl rfl ?_
   refine al_copyS (i := 0) (cs := (cA8u8 (A8u8.mk (0 : UInt8) (0 : UInt8) (0 : UInt8) (0 : UInt8) (0 : UInt8) (0 : UInt8) (0 : UInt8) (0 : UInt8)))) (cs' := (cA8u8 (cpA8u8 (A8u8.mk (0 : UInt8) (0 : UInt8) (0 : UInt8) (0 : UInt8) (0 : UInt8) (0 : UInt8) (0 : UInt8) (0 : UInt8)) l5s0))) rfl rfl rfl Tryd.underlying60 sz5 rfl (cpcA8u8 (A8u8.mk (0 : UInt8) (0 : UInt8) (0 : UInt8) (0 : UInt8) (0 : UInt8) (0 : UInt8) (0 : UInt8) (0 : UInt8)) l5s0 [] []) rfl ?_
   obtain ⟨hc10, h⟩ := req_some h
   refine al_val (ov_strFrom hc10.1 hc10.2 Tryd.underlying9 rfl rfl rfl) ?_
   refine al_as rfl rfl ?_
   refine al_nt ?_
   refine aw_freezeB 0 ((cpA8u8 (A8u8.mk (0 : UInt8) (0 : UInt8) (0 : UInt8) (0 : UInt8) (0 : UInt8) (0 : UInt8) (0 : UInt8) (0 : UInt8)) l5s0)) rfl rfl (fun _ _ => mkA8u8 rfl) ?_
   obtain ⟨r13, hc12, h⟩ := opt_some h
   obtain ⟨r15, hc14, h⟩ := opt_some h
   refine aw_region_draw 7 [(18, (fun u => fEq u (uq l5i5))), (19, (fun u => fEq u (ag []))), (20, (fun s11 => (fDat (tyList tyU8) [s11] (lA8u8 (cpA8u8 (A8u8.mk (0 : UInt8) (0 : UInt8) (0 : UInt8) (0 : UInt8) (0 : UInt8) (0 : UInt8) (0 : UInt8) (0 : UInt8)) l5s0))))), (21, (fun u => fEq u (uq r13))), (22, (fun u => fEq u (uq r15))), (23, (fun u => fEq u (uq a1))), (24, (fun u => fEq u (uq (bits .and .u64 r15 a1))))] (tab [(0, (str (l5s0.drop (((Nat.min l5s0.length 8 : Nat) : Int)).toNat))), (1, (uq a1)), (5, (uq l5i5)), (6, (uq (wu (a0.length : Int)))), (7, (pq g9))]) mixed (by kernel_rfl) rfl rfl rfl (fun a hs => hs.tab _ (allT_mem ⟨rfl, rfl, rfl, rfl, rfl, trivial⟩)) ⟨⟨rfl, ld_val (ov_move rfl rfl)⟩, ⟨rfl, ld_val (ov_load0 Tryd.underlying154 sz154 rfl rfl rfl)⟩, ⟨rfl, ld_of (of_sliceP 0 lrepA8u8 rfl rfl rfl rfl Tryd.underlying61 sz5 rfl)⟩, ⟨rfl, ld_eq (j := 1) rfl rfl (ld_fact (j := 2) rfl rfl (fun s11 => ld_callV (vs := [(ag []), s11]) (f__binary_littleEndian__Uint64_ok fu () s11 (lA8u8 (cpA8u8 (A8u8.mk (0 : UInt8) (0 : UInt8) (0 : UInt8) (0 : UInt8) (0 : UInt8) (0 : UInt8) (0 : UInt8) (0 : UInt8)) l5s0)) hc12) [] (pre_fz 0 rfl pre_nil) rfl Tryd.func115 rfl rfl rfl))⟩, ⟨rfl, ld_eq (j := 0) rfl rfl (ld_eq (j := 3) rfl rfl (ld_callV (vs := [(uq l5i5), (uq r13)]) (f_mix_Step_ok fu l5i5 r13 hc14) [] pre_nil rfl Tryd.func114 rfl rfl rfl))⟩, ⟨rfl, ld_val (ov_move rfl rfl)⟩, ⟨rfl, ld_eq (j := 4) rfl rfl (ld_eq (j := 5) rfl rfl (ld_val (ov_int rfl rfl rfl rfl)))⟩, trivial⟩ ?_
   refine tl_eq 6 rfl ?_
   refine tl_done ?_
   refine al_as rfl rfl ?_
   refine al_nil ?_
   refine aq_block ?_
   exact aq_again k6 ((l5s0.drop (((Nat.min l5s0.length 8 : Nat) : Int)).toNat), (bits .and .u64 r15 a1)) (Nat.lt_succ_self _) h (fun w a hm hs => norm hm hs [] [] [(0, (str (l5s0.drop (((Nat.min l5s0.length 8 : Nat) : Int)).toNat))), (1, (uq a1)), (5, (uq (bits .and .u64 r15 a1))), (6, (uq (wu (a0.length : Int))))] (by decide) ⟨rfl, rfl, rfl, rfl, trivial⟩)
  ·replace h := bif_f hb8 h
   refine aw_exit ?_
   refine aq_then_exit ?_
   refine aq_then_exit ?_
   refine aq_block_exit ?_
   exact aq_join l5i5 h (fun w a hm hs => norm hm hs [] [] [(1, (uq a1)), (5, (uq l5i5)), (6, (uq (wu (a0.length : Int))))] (by decide) ⟨rfl, rfl, rfl, trivial⟩)
def f_mix_Sum (fu : Nat) (a0 : (List UInt8)) : Option Int := (opt (f_mix_sum fu a0 (18446744073709551615 : Int)) fun (r2 : Int) => (some r2))
set_option maxRecDepth 100000 in
theorem f_mix_Sum_ok (fu : Nat) (a0 : (List UInt8)) {r : Int} (h : f_mix_Sum fu a0 = some r) : FnOk Tryd.prog 87 [(str a0)] [] [] (fun (i : Unit) => { val := (int .u64 r) }) := by
 unfold f_mix_Sum at h
 refine fn_enter Tryd.func87 rfl Tryd.ntmps87 rfl (fun w0 Z0 => ?_)
 refine aw_sr ?_
 refine al_as rfl rfl ?_
 refine al_nt ?_
 refine aw_sr ?_
 refine al_mv rfl rfl ?_
 obtain ⟨r2, hc1, h⟩ := opt_some h
 refine al_call (vs := [(str a0), (uq (18446744073709551615 : Int))]) (f_mix_sum_ok fu a0 (18446744073709551615 : Int) hc1) [] [] [] pre_nil rfl (by simp) (by decide) (.inl rfl) rfl Tryd.func102 rfl rfl rfl (fun _ => ?_)
 refine al_as rfl rfl ?_
 refine al_nt ?_
 refine aw_ret ?_
 obtain rfl := Option.some.inj h
 exact fn_ret () [] [] rfl rfl rfl rfl (res1 rfl rfl) rfl rfl rfl (by decide)
-- STUCK (encoding/binary.bigEndian).PutUint64: IndexError string index out of range at par:763
def f_mix_ID (fu : Nat) (a0 : (List UInt8)) : Option A8u8 := (opt (f_mix_Sum fu a0) fun (r4 : Int) => (req (0 ≤ r4 ∧ r4 < 18446744073709551616) (some (cpA8u8 (A8u8.mk (0 : UInt8) (0 : UInt8) (0 : UInt8) (0 : UInt8) (0 : UInt8) (0 : UInt8) (0 : UInt8) (0 : UInt8)) (Lib.beBytes 8 (r4).toNat)))))
set_option maxRecDepth 100000 in
theorem f_mix_ID_ok (fu : Nat) (a0 : (List UInt8)) {r : A8u8} (h : f_mix_ID fu a0 = some r) : FnOk Tryd.prog 61 [(str a0)] [] [] (fun (i : Unit) => { val := (ag (cA8u8 r)) }) := by
 unfold f_mix_ID at h
 refine fn_enter Tryd.func61 rfl Tryd.ntmps61 rfl (fun w0 Z0 => ?_)
 refine aw_sr ?_
 refine al_alloc (zs := (cA8u8 (A8u8.mk (0 : UInt8) (0 : UInt8) (0 : UInt8) (0 : UInt8) (0 : UInt8) (0 : UInt8) (0 : UInt8) (0 : UInt8)))) (zeroOf_to to62) rfl rfl (fun g1 => ?_)
 refine al_nt ?_
 refine aw_sr ?_
 refine al_alloc (zs := (cA8u8 (A8u8.mk (0 : UInt8) (0 : UInt8) (0 : UInt8) (0 : UInt8) (0 : UInt8) (0 : UInt8) (0 : UInt8) (0 : UInt8)))) (zeroOf_to to62) rfl rfl (fun g2 => ?_)
 refine al_nt ?_
 refine aw_seq ?_
 obtain ⟨r4, hc3, h⟩ := opt_some h
 refine aw_region_draw 4 [(4, (fun u => fEq u (ag []))), (5, (fun u => fEq u (sbx g2 0 8))), (6, (fun u => fEq u (str a0))), (7, (fun u => fEq u (uq r4)))] (tab [(0, (str a0)), (2, (pq g1)), (3, (pq g2))]) mixed (by kernel_rfl) rfl rfl rfl (fun a hs => hs.tab _ (allT_mem ⟨rfl, rfl, rfl, trivial⟩)) ⟨⟨rfl, ld_val (ov_load0 Tryd.underlying136 sz136 rfl rfl rfl)⟩, ⟨rfl, ld_val (ov_sliceBox (i := 0) rfl rfl Tryd.underlying62 sz5 rfl)⟩, ⟨rfl, ld_val (ov_move rfl rfl)⟩, ⟨rfl, ld_eq (j := 2) rfl rfl (ld_callV (vs := [(str a0)]) (f_mix_Sum_ok fu a0 hc3) [] pre_nil rfl Tryd.func87 rfl rfl rfl)⟩, trivial⟩ ?_
 refine tl_eq 0 rfl ?_
 refine tl_eq 1 rfl ?_
 refine tl_eq 3 rfl ?_
 refine tl_done ?_
 obtain ⟨hc5, h⟩ := req_some h
 refine al_call (vs := [(ag []), (sbx g2 0 8), (uq r4)]) (f_put8_ok (g := g2) (off := 0) (t := 62) (a2 := r4) (cs := (cA8u8 (A8u8.mk (0 : UInt8) (0 : UInt8) (0 : UInt8) (0 : UInt8) (0 : UInt8) (0 : UInt8) (0 : UInt8) (0 : UInt8)))) (cs' := (cA8u8 (cpA8u8 (A8u8.mk (0 : UInt8) (0 : UInt8) (0 : UInt8) (0 : UInt8) (0 : UInt8) (0 : UInt8) (0 : UInt8) (0 : UInt8)) (Lib.beBytes 8 (r4).toNat)))) hc5 (Nat.le_of_ble_eq_true rfl) (cpcA8u8 (A8u8.mk (0 : UInt8) (0 : UInt8) (0 : UInt8) (0 : UInt8) (0 : UInt8) (0 : UInt8) (0 : UInt8) (0 : UInt8)) (Lib.beBytes 8 (r4).toNat) [] [])) [] [0] [1] pre_nil rfl (by simp) (by decide) (.inl rfl) rfl Tryd.func86 rfl rfl rfl (fun _ => ?_)
 refine al_nt ?_
 refine aw_sr ?_
 refine al_val (ov_load (i := 0) (v := (ag (cA8u8 (cpA8u8 (A8u8.mk (0 : UInt8) (0 : UInt8) (0 : UInt8) (0 : UInt8) (0 : UInt8) (0 : UInt8) (0 : UInt8) (0 : UInt8)) (Lib.beBytes 8 (r4).toNat))))) rfl rfl Tryd.underlying62 sz62 rfl rfl rfl rfl) ?_
 refine al_store (i := 1) (vs := (cA8u8 (cpA8u8 (A8u8.mk (0 : UInt8) (0 : UInt8) (0 : UInt8) (0 : UInt8) (0 : UInt8) (0 : UInt8) (0 : UInt8) (0 : UInt8)) (Lib.beBytes 8 (r4).toNat)))) (cs' := (cA8u8 (cpA8u8 (A8u8.mk (0 : UInt8) (0 : UInt8) (0 : UInt8) (0 : UInt8) (0 : UInt8) (0 : UInt8) (0 : UInt8) (0 : UInt8)) (Lib.beBytes 8 (r4).toNat)))) rfl rfl rfl sz62 (cv_rfl rfl) rfl (co_all (oneA8u8 (cpA8u8 (A8u8.mk (0 : UInt8) (0 : UInt8) (0 : UInt8) (0 : UInt8) (0 : UInt8) (0 : UInt8) (0 : UInt8) (0 : UInt8)) (Lib.beBytes 8 (r4).toNat)))) (Nat.le_of_ble_eq_true rfl) rfl rfl ?_
 refine al_nt ?_
 refine aw_ret ?_
 obtain rfl := Option.some.inj h
 exact fn_ret () [] [] rfl rfl rfl rfl (resC rfl (resB (i := 1) rfl rfl Tryd.underlying62 sz62 rfl rfl rfl (resN)) rfl) rfl rfl rfl (by decide)
def f_pack_ID (fu : Nat) (a0 : S_api_Blob) : Option (A8u8 × Int) := (opt (f_pack_Known fu a0.Kind) fun (r4 : Bool) => (bif (!r4) then (some ((A8u8.mk (0 : UInt8) (0 : UInt8) (0 : UInt8) (0 : UInt8) (0 : UInt8) (0 : UInt8) (0 : UInt8) (0 : UInt8)), (5 : Int))) else (bif (decide ((a0.Bytes.length : Int) > (4096 : Int))) then (some ((A8u8.mk (0 : UInt8) (0 : UInt8) (0 : UInt8) (0 : UInt8) (0 : UInt8) (0 : UInt8) (0 : UInt8) (0 : UInt8)), (2 : Int))) else (req (0 ≤ (IntKind.u8.wrap a0.Kind) ∧ (IntKind.u8.wrap a0.Kind) ≤ 255) (req (([(UInt8.ofNat ((IntKind.u8.wrap a0.Kind)).toNat)]).length + a0.Bytes.length ≤ 9223372036854775807) (opt (f_mix_ID fu (([(UInt8.ofNat ((IntKind.u8.wrap a0.Kind)).toNat)]) ++ a0.Bytes)) fun (r11 : A8u8) => (some (r11, (0 : Int)))))))))
set_option maxHeartbeats 2000000 in
set_option maxRecDepth 100000 in
theorem f_pack_ID_ok (fu : Nat) (a0 : S_api_Blob) {r : (A8u8 × Int)} (h : f_pack_ID fu a0 = some r) : FnOk Tryd.prog 29 [(ag [(int .i64 a0.Kind), (str a0.Bytes)])] [] [] (fun (i : Unit) => { val := (Value.tuple #[(ag (cA8u8 r.1)), (int .i64 r.2)]) }) := by
 unfold f_pack_ID at h
 refine fn_enter Tryd.func29 rfl Tryd.ntmps29 rfl (fun w0 Z0 => ?_)
 refine aw_sr ?_
 refine al_box (vs := [(iq a0.Kind), (str a0.Bytes)]) rfl (cv_rfl rfl) rfl (fun g1 => ?_)
 refine al_alloc (zs := (cA8u8 (A8u8.mk (0 : UInt8) (0 : UInt8) (0 : UInt8) (0 : UInt8) (0 : UInt8) (0 : UInt8) (0 : UInt8) (0 : UInt8)))) (zeroOf_to to62) rfl rfl (fun g2 => ?_)
 refine al_as rfl rfl ?_
 refine al_nt ?_
 refine aw_seq ?_
 refine aw_block ?_
 refine aw_sr ?_
 refine al_val (ov_fieldA (p := 0) rfl Tryd.underlying41 rfl sz3 rfl rfl rfl) ?_
 refine al_val (ov_load (i := 1) (v := (iq a0.Kind)) rfl rfl Tryd.underlying3 sz3 rfl rfl rfl rfl) ?_
 obtain ⟨r4, hc3, h⟩ := opt_some h
 refine al_call (vs := [(iq a0.Kind)]) (f_pack_Known_ok fu a0.Kind hc3) [] [] [0, 1] pre_nil rfl (by simp) (by decide) (.inl rfl) rfl Tryd.func36 rfl rfl rfl (fun _ => ?_)
 refine al_val (ov_not rfl rfl) ?_
 refine al_as rfl rfl ?_
 refine al_nt ?_
 refine aw_cond rfl (fun hb5 => ?_) (fun hb5 => ?_)
 ·replace h := bif_t hb5 h
  refine aw_sr ?_
  refine al_val (ov_build (cells := ((cA8u8 (A8u8.mk (0 : UInt8) (0 : UInt8) (0 : UInt8) (0 : UInt8) (0 : UInt8) (0 : UInt8) (0 : UInt8) (0 : UInt8)))).toArray) (cs := (cA8u8 (A8u8.mk (0 : UInt8) (0 : UInt8) (0 : UInt8) (0 : UInt8) (0 : UInt8) (0 : UInt8) (0 : UInt8) (0 : UInt8)))) rfl (fun w a hm hs => by simp only [List.map_toArray, List.map_cons, List.map_nil, List.toList_toArray]; kernel_rfl)) ?_
  refine al_store (i := 0) (vs := (cA8u8 (A8u8.mk (0 : UInt8) (0 : UInt8) (0 : UInt8) (0 : UInt8) (0 : UInt8) (0 : UInt8) (0 : UInt8) (0 : UInt8)))) (cs' := (cA8u8 (A8u8.mk (0 : UInt8) (0 : UInt8) (0 : UInt8) (0 : UInt8) (0 : UInt8) (0 : UInt8) (0 : UInt8) (0 : UInt8)))) rfl rfl rfl sz62 (cv_rfl rfl) rfl (co_all (oneA8u8 (A8u8.mk (0 : UInt8) (0 : UInt8) (0 : UInt8) (0 : UInt8) (0 : UInt8) (0 : UInt8) (0 : UInt8) (0 : UInt8)))) (Nat.le_of_ble_eq_true rfl) rfl rfl ?_
  refine al_as rfl rfl ?_
  refine al_nt ?_
  refine aw_ret ?_
  refine aq_block_ret ?_
  refine aq_then_ret ?_
  obtain rfl := Option.some.inj h
  exact fn_ret () [] [] rfl rfl rfl rfl (resC rfl (resB (i := 0) rfl rfl Tryd.underlying62 sz62 rfl rfl rfl (resT rfl (resN))) rfl) rfl rfl rfl (by decide)
 ·replace h := bif_f hb5 h
  refine aw_sr ?_
  refine al_val (ov_fieldA (p := 1) rfl Tryd.underlying41 rfl sz9 rfl rfl rfl) ?_
  refine al_val (ov_load (i := 1) (v := (str a0.Bytes)) rfl rfl Tryd.underlying9 sz9 rfl rfl rfl rfl) ?_
  refine al_val (ov_strLen Tryd.underlying9 rfl rfl) ?_
  refine al_in rfl rfl rfl rfl ?_
  refine al_as rfl rfl ?_
  refine al_nt ?_
  refine aw_cond rfl (fun hb6 => ?_) (fun hb6 => ?_)
  ·replace h := bif_t hb6 h
   refine aw_sr ?_
   refine al_val (ov_build (cells := ((cA8u8 (A8u8.mk (0 : UInt8) (0 : UInt8) (0 : UInt8) (0 : UInt8) (0 : UInt8) (0 : UInt8) (0 : UInt8) (0 : UInt8)))).toArray) (cs := (cA8u8 (A8u8.mk (0 : UInt8) (0 : UInt8) (0 : UInt8) (0 : UInt8) (0 : UInt8) (0 : UInt8) (0 : UInt8) (0 : UInt8)))) rfl (fun w a hm hs => by simp only [List.map_toArray, List.map_cons, List.map_nil, List.toList_toArray]; kernel_rfl)) ?_
   refine al_store (i := 0) (vs := (cA8u8 (A8u8.mk (0 : UInt8) (0 : UInt8) (0 : UInt8) (0 : UInt8) (0 : UInt8) (0 : UInt8) (0 : UInt8) (0 : UInt8)))) (cs' := (cA8u8 (A8u8.mk (0 : UInt8) (0 : UInt8) (0 : UInt8) (0 : UInt8) (0 : UInt8) (0 : UInt8) (0 : UInt8) (0 : UInt8)))) rfl rfl rfl sz62 (cv_rfl rfl) rfl (co_all (oneA8u8 (A8u8.mk (0 : UInt8) (0 : UInt8) (0 : UInt8) (0 : UInt8) (0 : UInt8) (0 : UInt8) (0 : UInt8) (0 : UInt8)))) (Nat.le_of_ble_eq_true rfl) rfl rfl ?_
   refine al_as rfl rfl ?_
   refine al_nt ?_
   refine aw_ret ?_
   refine aq_block_ret ?_
   refine aq_then_ret ?_
   obtain rfl := Option.some.inj h
   exact fn_ret () [] [] rfl rfl rfl rfl (resC rfl (resB (i := 0) rfl rfl Tryd.underlying62 sz62 rfl rfl rfl (resT rfl (resN))) rfl) rfl rfl rfl (by decide)
  ·replace h := bif_f hb6 h
   refine aw_skip ?_
   refine aq_block ?_
   refine aq_tr ?_
   refine al_val (ov_fieldA (p := 0) rfl Tryd.underlying41 rfl sz3 rfl rfl rfl) ?_
   refine al_val (ov_load (i := 1) (v := (iq a0.Kind)) rfl rfl Tryd.underlying3 sz3 rfl rfl rfl rfl) ?_
   refine al_val (ov_convInt (by rw [Tryd.underlying3]; rfl) Tryd.underlying5 rfl rfl) ?_
   obtain ⟨hc8, h⟩ := req_some h
   refine al_buildSlice (τ := tyU8) (e := 5) (k := 1) (sz := 0) (by_ := 0) (z := undef) (cs := [(i8 (w8 a0.Kind))]) (xs := [(UInt8.ofNat ((w8 a0.Kind)).toNat)]) rfl (by decide) (fun w a hm hs => ⟨([(i8 (w8 a0.Kind))]).toArray, rfl, by simp only [List.map_toArray, List.map_cons, List.map_nil, hs.ev (x := .tmp 18) rfl]; exact run_bs [(i8 (w8 a0.Kind))] [(i8 (w8 a0.Kind))] Tryd.underlying60 to5 rfl rfl (bs_cons (l := [(i8 (w8 a0.Kind))]) (cs := []) (cv_rfl rfl) rfl bs_nil) hm⟩) (fun hm => ⟨_, _, rfl, (fun _ => u8_rep hc8) hm, rfl⟩) rfl (fun v7 => ?_)
   refine al_val (ov_toStrR 0 rfl rfl Tryd.underlying60 Tryd.underlying5 Tryd.underlying9 rfl) ?_
   refine al_val (ov_fieldA (p := 1) rfl Tryd.underlying41 rfl sz9 rfl rfl rfl) ?_
   refine al_val (ov_load (i := 2) (v := (str a0.Bytes)) rfl rfl Tryd.underlying9 sz9 rfl rfl rfl rfl) ?_
   obtain ⟨hc9, h⟩ := req_some h
   refine al_val (ov_strAdd hc9 rfl rfl rfl) ?_
   obtain ⟨r11, hc10, h⟩ := opt_some h
   refine al_call (vs := [(str (([(UInt8.ofNat ((w8 a0.Kind)).toNat)]) ++ a0.Bytes))]) (f_mix_ID_ok fu (([(UInt8.ofNat ((w8 a0.Kind)).toNat)]) ++ a0.Bytes) hc10) [] [] [0, 1, 2] pre_nil rfl (by simp) (by decide) (.inl rfl) rfl Tryd.func61 rfl rfl rfl (fun _ => ?_)
   refine al_store (i := 1) (vs := (cA8u8 r11)) (cs' := (cA8u8 r11)) rfl rfl rfl sz62 (cv_rfl rfl) rfl (co_all (oneA8u8 r11)) (Nat.le_of_ble_eq_true rfl) rfl rfl ?_
   refine al_as rfl rfl ?_
   refine al_nt ?_
   refine aw_ret ?_
   obtain rfl := Option.some.inj h
   exact fn_ret () [] [] rfl rfl rfl rfl (resC rfl (resB (i := 1) rfl rfl Tryd.underlying62 sz62 rfl rfl rfl (resT rfl (resN))) rfl) rfl rfl rfl (by decide)
-- STUCK (encoding/binary.bigEndian).AppendUint64: binary.go:222: call: append to data
def f_strings_TrimLeft (fu : Nat) (a0 a1 : List UInt8) : Option (List UInt8) := match a1 with | [c] => req (c.toNat < 128) (some (Lib.trimLeftB a0 c)) | _ => none
theorem f_strings_TrimLeft_ok (fu : Nat) (a0 a1 : List UInt8) {r : List UInt8} (h : f_strings_TrimLeft fu a0 a1 = some r) : FnOk Tryd.prog 104 [(str a0), (str a1)] [] [] (fun (i : Unit) => { val := (str r) }) := by
  unfold f_strings_TrimLeft at h
  split at h
  · rename_i c
    obtain ⟨hc, h⟩ := req_some h
    obtain rfl := Option.some.inj h
    refine fnok_pure fun w => ?_
    exact (Tryd.strings_TrimLeft_one ⟨a0.toArray⟩ c hc w).mono fun e w' h9 => ⟨by simpa [str] using h9.1, by rw [h9.2]; exact Below.refl _ _⟩
  · cases h
def f_binary_BEAppendUint64_nil (fu : Nat) (a0 : Unit) (a2 : Int) : Option (List UInt8) := req (0 ≤ a2 ∧ a2 < 18446744073709551616) (some (Lib.beBytes 8 a2.toNat))
theorem f_binary_BEAppendUint64_nil_ok (fu : Nat) (a0 : Unit) (a2 : Int) {r : List UInt8} (h : f_binary_BEAppendUint64_nil fu a0 a2 = some r) : FnOk Tryd.prog 103 [(ag []), (Value.slice none 0 0), (int .u64 a2)] [] [] (fun (i : Value) => { val := i, own := [(oRow i 5 tyU8 r)] }) := by
  unfold f_binary_BEAppendUint64_nil at h
  obtain ⟨hc, h⟩ := req_some h
  obtain rfl := Option.some.inj h
  obtain ⟨n, rfl⟩ : ∃ n : Nat, a2 = n := ⟨a2.toNat, by omega⟩
  refine fnok_own fun w => ?_
  refine (Tryd.binary_BE_AppendUint64 w.heap.size 0 n (by omega) (.slice none 0 0) [] w ⟨rfl, .inl ⟨rfl, rfl⟩⟩ (Nat.le_refl _) (by omega)).mono fun ex w' h9 => ?_
  obtain ⟨v, h1, h2, h3⟩ := h9
  refine ⟨v, _, h1, ?_, fun Z => u8_row _, h3⟩
  rw [Lib.beBytes_length]
  show World.ownsRow _ _ _ 1 _ _ _
  simpa using h2
def f_num_digits (fu : Nat) (a0 : Int) : Option (List UInt8) := (opt (f_binary_BEAppendUint64_nil fu () a0) fun (r2 : (List UInt8)) => (opt (f_strings_TrimLeft fu r2 ([0] : List UInt8)) fun (r5 : (List UInt8)) => (some r5)))
set_option maxRecDepth 100000 in
theorem f_num_digits_ok (fu : Nat) (a0 : Int) {r : (List UInt8)} (h : f_num_digits fu a0 = some r) : FnOk Tryd.prog 88 [(int .u64 a0)] [] [] (fun (i : Unit) => { val := (str r) }) := by
 unfold f_num_digits at h
 refine fn_enter Tryd.func88 rfl Tryd.ntmps88 rfl (fun w0 Z0 => ?_)
 refine aw_sr ?_
 refine al_as rfl rfl ?_
 refine al_nt ?_
 refine aw_sr ?_
 refine al_val (ov_load0 Tryd.underlying136 sz136 rfl rfl rfl) ?_
 refine al_mv rfl rfl ?_
 obtain ⟨r2, hc1, h⟩ := opt_some h
 refine al_call (vs := [(ag []), nS, (uq a0)]) (f_binary_BEAppendUint64_nil_ok fu () a0 hc1) [] [] [] pre_nil rfl (by simp) (by decide) (.inl rfl) rfl Tryd.func103 rfl rfl rfl (fun v3 => ?_)
 refine al_val (ov_toStrR 0 rfl rfl Tryd.underlying60 Tryd.underlying5 Tryd.underlying9 rfl) ?_
 refine al_as rfl rfl ?_
 refine al_nt ?_
 refine aw_sr ?_
 refine al_mv rfl rfl ?_
 obtain ⟨r5, hc4, h⟩ := opt_some h
 refine al_call (vs := [(str r2), (str ([0] : List UInt8))]) (f_strings_TrimLeft_ok fu r2 ([0] : List UInt8) hc4) [] [] [0] pre_nil rfl (by simp) (by decide) (.inl rfl) rfl Tryd.func104 rfl rfl rfl (fun _ => ?_)
 refine al_as rfl rfl ?_
 refine al_nt ?_
 refine aw_ret ?_
 obtain rfl := Option.some.inj h
 exact fn_ret () [] [] rfl rfl rfl rfl (res1 rfl rfl) rfl rfl rfl (by decide)
def f_num_Put (fu : Nat) (a0 : Int) : Option (List UInt8) := (opt (f_num_digits fu a0) fun (r2 : (List UInt8)) => (req (0 ≤ (IntKind.u8.wrap (r2.length : Int)) ∧ (IntKind.u8.wrap (r2.length : Int)) ≤ 255) (req (([(UInt8.ofNat ((IntKind.u8.wrap (r2.length : Int))).toNat)]).length + r2.length ≤ 9223372036854775807) (some (([(UInt8.ofNat ((IntKind.u8.wrap (r2.length : Int))).toNat)]) ++ r2)))))
set_option maxHeartbeats 2000000 in
set_option maxRecDepth 100000 in
theorem f_num_Put_ok (fu : Nat) (a0 : Int) {r : (List UInt8)} (h : f_num_Put fu a0 = some r) : FnOk Tryd.prog 62 [(int .u64 a0)] [] [] (fun (i : Unit) => { val := (str r) }) := by
 unfold f_num_Put at h
 refine fn_enter Tryd.func62 rfl Tryd.ntmps62 rfl (fun w0 Z0 => ?_)
 refine aw_sr ?_
 refine al_as rfl rfl ?_
 refine al_nt ?_
 refine aw_sr ?_
 refine al_mv rfl rfl ?_
 obtain ⟨r2, hc1, h⟩ := opt_some h
 refine al_call (vs := [(uq a0)]) (f_num_digits_ok fu a0 hc1) [] [] [] pre_nil rfl (by simp) (by decide) (.inl rfl) rfl Tryd.func88 rfl rfl rfl (fun _ => ?_)
 refine al_as rfl rfl ?_
 refine al_nt ?_
 refine aw_sr ?_
 refine al_mv rfl rfl ?_
 refine al_val (ov_strLen Tryd.underlying9 rfl rfl) ?_
 refine al_val (ov_convInt (by rw [Tryd.underlying3]; rfl) Tryd.underlying5 rfl rfl) ?_
 obtain ⟨hc4, h⟩ := req_some h
 refine al_buildSlice (τ := tyU8) (e := 5) (k := 1) (sz := 0) (by_ := 0) (z := undef) (cs := [(i8 (w8 (r2.length : Int)))]) (xs := [(UInt8.ofNat ((w8 (r2.length : Int))).toNat)]) rfl (by decide) (fun w a hm hs => ⟨([(i8 (w8 (r2.length : Int)))]).toArray, rfl, by simp only [List.map_toArray, List.map_cons, List.map_nil, hs.ev (x := .tmp 8) rfl]; exact run_bs [(i8 (w8 (r2.length : Int)))] [(i8 (w8 (r2.length : Int)))] Tryd.underlying60 to5 rfl rfl (bs_cons (l := [(i8 (w8 (r2.length : Int)))]) (cs := []) (cv_rfl rfl) rfl bs_nil) hm⟩) (fun hm => ⟨_, _, rfl, (fun _ => u8_rep hc4) hm, rfl⟩) rfl (fun v3 => ?_)
 refine al_val (ov_toStrR 0 rfl rfl Tryd.underlying60 Tryd.underlying5 Tryd.underlying9 rfl) ?_
 refine al_mv rfl rfl ?_
 obtain ⟨hc5, h⟩ := req_some h
 refine al_val (ov_strAdd hc5 rfl rfl rfl) ?_
 refine al_as rfl rfl ?_
 refine al_nt ?_
 refine aw_ret ?_
 obtain rfl := Option.some.inj h
 exact fn_ret () [] [] rfl rfl rfl rfl (res1 rfl rfl) rfl rfl rfl (by decide)
def f_journal_Frame (fu : Nat) (a0 : (List UInt8)) : Option ((List UInt8) × Int) := (bif (decide ((a0.length : Int) > (4096 : Int))) then (some (([] : List UInt8), (2 : Int))) else (opt (f_num_Put fu (IntKind.u64.wrap (a0.length : Int))) fun (r3 : (List UInt8)) => (req (r3.length + a0.length ≤ 9223372036854775807) (opt (f_mix_ID fu (r3 ++ a0)) fun (r6 : A8u8) => (req ((r3 ++ a0).length + (lA8u8 r6).length ≤ 9223372036854775807) (some (((r3 ++ a0) ++ (lA8u8 r6)), (0 : Int))))))))
set_option maxHeartbeats 2000000 in
set_option maxRecDepth 100000 in
theorem f_journal_Frame_ok (fu : Nat) (a0 : (List UInt8)) {r : ((List UInt8) × Int)} (h : f_journal_Frame fu a0 = some r) : FnOk Tryd.prog 30 [(str a0)] [] [] (fun (i : Unit) => { val := (Value.tuple #[(str r.1), (int .i64 r.2)]) }) := by
 unfold f_journal_Frame at h
 refine fn_enter Tryd.func30 rfl Tryd.ntmps30 rfl (fun w0 Z0 => ?_)
 refine aw_sr ?_
 refine al_as rfl rfl ?_
 refine al_as rfl rfl ?_
 refine al_nt ?_
 refine aw_seq ?_
 refine aw_sr ?_
 refine al_mv rfl rfl ?_
 refine al_val (ov_strLen Tryd.underlying9 rfl rfl) ?_
 refine al_in rfl rfl rfl rfl ?_
 refine al_nt ?_
 refine aw_cond rfl (fun hb1 => ?_) (fun hb1 => ?_)
 ·replace h := bif_t hb1 h
  refine aw_sr ?_
  refine al_as rfl rfl ?_
  refine al_as rfl rfl ?_
  refine al_nt ?_
  refine aw_ret ?_
  refine aq_then_ret ?_
  obtain rfl := Option.some.inj h
  exact fn_ret () [] [] rfl rfl rfl rfl (res2 rfl rfl rfl) rfl rfl rfl (by decide)
 ·replace h := bif_f hb1 h
  refine aw_skip ?_
  refine aq_tr ?_
  refine al_mv rfl rfl ?_
  refine al_val (ov_strLen Tryd.underlying9 rfl rfl) ?_
  refine al_val (ov_convInt (by rw [Tryd.underlying3]; rfl) Tryd.underlying98 rfl rfl) ?_
  obtain ⟨r3, hc2, h⟩ := opt_some h
  refine al_call (vs := [(uq (wu (a0.length : Int)))]) (f_num_Put_ok fu (wu (a0.length : Int)) hc2) [] [] [] pre_nil rfl (by simp) (by decide) (.inl rfl) rfl Tryd.func62 rfl rfl rfl (fun _ => ?_)
  refine al_mv rfl rfl ?_
  obtain ⟨hc4, h⟩ := req_some h
  refine al_val (ov_strAdd hc4 rfl rfl rfl) ?_
  refine al_as rfl rfl ?_
  refine al_nt ?_
  refine aw_sr ?_
  refine al_mv rfl rfl ?_
  obtain ⟨r6, hc5, h⟩ := opt_some h
  refine al_call (vs := [(str (r3 ++ a0))]) (f_mix_ID_ok fu (r3 ++ a0) hc5) [] [] [] pre_nil rfl (by simp) (by decide) (.inl rfl) rfl Tryd.func61 rfl rfl rfl (fun _ => ?_)
  refine al_alloc (zs := (cA8u8 (A8u8.mk (0 : UInt8) (0 : UInt8) (0 : UInt8) (0 : UInt8) (0 : UInt8) (0 : UInt8) (0 : UInt8) (0 : UInt8)))) (zeroOf_to to62) rfl rfl (fun g7 => ?_)
  refine al_store (i := 0) (vs := (cA8u8 r6)) (cs' := (cA8u8 r6)) rfl rfl rfl sz62 (cv_rfl rfl) rfl (co_all (oneA8u8 r6)) (Nat.le_of_ble_eq_true rfl) rfl rfl ?_
  refine al_nt ?_
  refine aw_seq ?_
  refine aw_freezeB 0 (r6) rfl rfl (fun _ _ => mkA8u8 rfl) ?_
  refine aw_region ?_
  refine al_mv rfl rfl ?_
  refine al_of (of_sliceP 0 lrepA8u8 rfl rfl rfl rfl Tryd.underlying62 sz5 rfl) (fun s8 => ?_)
  refine al_val (ov_toStr 0 rfl rfl Tryd.underlying60 Tryd.underlying5 Tryd.underlying9 rfl) ?_
  obtain ⟨hc9, h⟩ := req_some h
  refine al_val (ov_strAdd hc9 rfl rfl rfl) ?_
  refine al_as rfl rfl ?_
  refine al_as rfl rfl ?_
  refine al_nt ?_
  refine aw_ret ?_
  obtain rfl := Option.some.inj h
  exact fn_ret () [] [] rfl rfl rfl rfl (res2 rfl rfl rfl) rfl rfl rfl (by decide)
-- STUCK slices.Chunk[[]byte,byte]$1: lty ['func', [60], [4], False]
def f_slices_Chunk___byte_byte_ (fu : Nat) (a0 : (List UInt8)) (a1 : Int) : Option Unit := (bif (decide (a1 < (1 : Int))) then (none : Option Unit) else (some ()))
set_option maxHeartbeats 2000000 in
set_option maxRecDepth 100000 in
theorem f_slices_Chunk___byte_byte__ok (fu : Nat) (v0_0 : Value) (a0 : (List UInt8)) (a1 : Int) {r : Unit} (h : f_slices_Chunk___byte_byte_ fu a0 a1 = some r) : FnOk Tryd.prog 31 [v0_0, (int .i64 a1)] [(fDat (tyList tyU8) [v0_0] a0)] [] (fun (i : Nat × Nat) => { val := (Value.func (.func 63) #[] #[(ptr i.1 0), (ptr i.2 0)]), own := [(oBox i.2 3 [(int .i64 a1)])], fz := [(fPtr (tyList tyU8) (ptr i.1 0) a0)] }) := by
 unfold f_slices_Chunk___byte_byte_ at h
 refine fn_enter Tryd.func31 rfl Tryd.ntmps31 rfl (fun w0 Z0 => ?_)
 refine aw_sr ?_
 refine al_box (vs := [v0_0]) rfl (cv_fz 0 rfl) rfl (fun g1 => ?_)
 refine al_box (vs := [(iq a1)]) rfl (cv_rfl rfl) rfl (fun g2 => ?_)
 refine al_as rfl rfl ?_
 refine al_nt ?_
 refine aw_seq ?_
 refine aw_sr ?_
 refine al_val (ov_load (i := 0) (v := (iq a1)) rfl rfl Tryd.underlying3 sz3 rfl rfl rfl rfl) ?_
 refine al_in rfl rfl rfl rfl ?_
 refine al_nt ?_
 refine aw_cond rfl (fun hb3 => ?_) (fun hb3 => ?_)
 ·replace h := bif_t hb3 h
  refine aw_region ?_
  cases h
 ·replace h := bif_f hb3 h
  refine aw_skip ?_
  refine aq_then ?_
  refine aw_seq ?_
  refine aw_freezeBN (τ := (tyList tyU8)) 1 (a0) rfl rfl (fun hm => fz_at (i := 0) hm rfl) ?_
  refine aw_region ?_
  refine al_val (ov_makeFunc2 (vs := [(pq g1), (pq g2)]) rfl rfl) ?_
  refine al_as rfl rfl ?_
  refine al_nt ?_
  refine aw_ret ?_
  obtain rfl := Option.some.inj h
  exact fn_ret (g1, g2) [0] [0] rfl rfl rfl rfl (res1 rfl rfl) rfl rfl rfl (by decide)
def f_fetch_Texts_L13 (j1x4 : (List UInt8)) (kk5 : ((List (List UInt8)) → Option ((List (List UInt8)) × Int))) : Nat → Int → (List (List UInt8)) → Option ((List (List UInt8)) × Int)
  | 0, _, _ => none
  | k12 + 1, l11i4, l11x100011_0 => (bif (decide (l11i4 < (j1x4.length : Int))) then (req (0 ≤ l11i4 ∧ l11i4 ≤ (j1x4.length : Int)) (req (0 ≤ l11i4 ∧ l11i4 ≤ (IntKind.i64.wrap (l11i4 + (if ((j1x4.drop (l11i4).toNat).length : Int) < (1024 : Int) then ((j1x4.drop (l11i4).toNat).length : Int) else (1024 : Int)))) ∧ (IntKind.i64.wrap (l11i4 + (if ((j1x4.drop (l11i4).toNat).length : Int) < (1024 : Int) then ((j1x4.drop (l11i4).toNat).length : Int) else (1024 : Int)))) ≤ (IntKind.i64.wrap (l11i4 + (if ((j1x4.drop (l11i4).toNat).length : Int) < (1024 : Int) then ((j1x4.drop (l11i4).toNat).length : Int) else (1024 : Int)))) ∧ (IntKind.i64.wrap (l11i4 + (if ((j1x4.drop (l11i4).toNat).length : Int) < (1024 : Int) then ((j1x4.drop (l11i4).toNat).length : Int) else (1024 : Int)))) ≤ (j1x4.length : Int)) (req (((l11x100011_0.length + ([(cutL j1x4 l11i4 (IntKind.i64.wrap (l11i4 + (if ((j1x4.drop (l11i4).toNat).length : Int) < (1024 : Int) then ((j1x4.drop (l11i4).toNat).length : Int) else (1024 : Int)))))]).length) * 16 : Nat) ≤ 140737488355328 ∧ l11x100011_0.length + ([(cutL j1x4 l11i4 (IntKind.i64.wrap (l11i4 + (if ((j1x4.drop (l11i4).toNat).length : Int) < (1024 : Int) then ((j1x4.drop (l11i4).toNat).length : Int) else (1024 : Int)))))]).length ≤ 9223372036854775807) (f_fetch_Texts_L13 j1x4 kk5 k12 (IntKind.i64.wrap (l11i4 + (1024 : Int))) (l11x100011_0 ++ ([(cutL j1x4 l11i4 (IntKind.i64.wrap (l11i4 + (if ((j1x4.drop (l11i4).toNat).length : Int) < (1024 : Int) then ((j1x4.drop (l11i4).toNat).length : Int) else (1024 : Int)))))])))))) else (kk5 l11x100011_0))
def f_fetch_Texts_L28 (a0 : (List S_api_Blob)) (kk2 : ((List UInt8) → Option ((List (List UInt8)) × Int))) (fu : Nat) : Nat → (List UInt8) → Int → Option ((List (List UInt8)) × Int)
  | 0, _, _ => none
  | k27 + 1, l26x4, l26i15 => (bif (decide (l26i15 < (a0.length : Int))) then (opt (at? a0 l26i15) fun (u30 : S_api_Blob) => (opt (f_pack_ID fu u30) fun (r35 : (A8u8 × Int)) => (bif (r35.2 != (0 : Int)) then (some (([] : List (List UInt8)), r35.2)) else (req (0 ≤ (IntKind.u8.wrap u30.Kind) ∧ (IntKind.u8.wrap u30.Kind) ≤ 255) (req (([(UInt8.ofNat ((IntKind.u8.wrap u30.Kind)).toNat)]).length + u30.Bytes.length ≤ 9223372036854775807) (opt (f_journal_Frame fu (([(UInt8.ofNat ((IntKind.u8.wrap u30.Kind)).toNat)]) ++ u30.Bytes)) fun (r42 : ((List UInt8) × Int)) => (bif (r42.2 != (0 : Int)) then (some (([] : List (List UInt8)), r42.2)) else (req (l26x4.length + r42.1.length ≤ 140737488355328) (bif (decide (((l26x4 ++ r42.1).length : Int) > (2048000 : Int))) then (some (([] : List (List UInt8)), (2 : Int))) else (f_fetch_Texts_L28 a0 kk2 fu k27 (l26x4 ++ r42.1) (IntKind.i64.wrap (l26i15 + (1 : Int))))))))))))) else (kk2 l26x4))
def f_fetch_Texts (fu : Nat) (a0 : (List S_api_Blob)) : Option ((List (List UInt8)) × Int) := (lt (fun (j1x4 : (List UInt8)) => (lt (fun (j4x11_0 : (List (List UInt8))) => (some (j4x11_0, (0 : Int)))) fun (kk5 : (List (List UInt8)) → Option ((List (List UInt8)) × Int)) => (opt (f_slices_Chunk___byte_byte_ fu j1x4 (1024 : Int)) fun (r7 : Unit) => (f_fetch_Texts_L13 j1x4 kk5 fu (0 : Int) ([] : List (List UInt8)))))) fun (kk2 : (List UInt8) → Option ((List (List UInt8)) × Int)) => (f_fetch_Texts_L28 a0 kk2 fu fu ([] : List UInt8) (0 : Int)))
set_option maxRecDepth 100000 in
set_option maxHeartbeats 2000000 in
set_option maxHeartbeats 2000000 in
theorem f_fetch_Texts_ok (fu : Nat) (v0_0 : Value) (a0 : (List S_api_Blob)) {r : ((List (List UInt8)) × Int)} (h : f_fetch_Texts fu a0 = some r) : FnOk Tryd.prog 12 [v0_0] [(fDat (tyList tyS_api_Blob) [v0_0] a0)] [] (fun (i : Value) => { val := (Value.tuple #[i, (int .i64 r.2)]), own := [(oRow i 9 tyStr r.1)] }) := by
 unfold f_fetch_Texts at h
 refine fn_enterM Tryd.func12 rfl Tryd.ntmps12 rfl (fun w0 Z0 => ?_)
 refine iw_sr ?_
 refine al_as rfl rfl ?_
 refine al_as rfl rfl ?_
 refine il_nt ?_
 refine iw_sr ?_
 refine al_as rfl rfl ?_
 refine il_nt ?_
 obtain ⟨kk2, hkk2, h⟩ := lt_some h
 refine iw_seq_join (dsf := fun i => []) (ι := Value × (List UInt8)) (fun i => (memOf w0 Z0 [] [(oRow i.1 5 tyU8 i.2)] [(fDat (tyList tyS_api_Blob) [v0_0] a0)])) (fun i => (tab [(4, i.1)])) (fun i => kk2 i.2 = some r) ?_ ?_
 ·rintro ⟨j1v4, j1x4⟩ h
  have h : kk2 j1x4 = some r := h
  rw [hkk2] at h
  dsimp only at h
  clear hkk2
  refine iw_show (m := (memOf w0 Z0 [] [(oRow j1v4 5 tyU8 j1x4)] [(fDat (tyList tyS_api_Blob) [v0_0] a0)])) (S := (tab [(4, j1v4)])) ?_
  refine iw_sr ?_
  refine al_alloc (zs := [nS]) (zeroOf_to to22) rfl rfl (fun g3 => ?_)
  refine il_nt ?_
  obtain ⟨kk5, hkk5, h⟩ := lt_some h
  refine iw_seq_join (dsf := fun i => [dmark i.2.2]) (ι := Value × (List (List UInt8)) × Nat) (fun i => (memOf w0 Z0 [] [(oRow i.1 9 tyStr i.2.1), (oBox g3 22 [i.1]), (oObj i.2.2 dblk)] [(fDat (tyList tyS_api_Blob) [v0_0] a0)])) (fun i => (tab [(11, (pq g3))])) (fun i => kk5 i.2.1 = some r) ?_ ?_
  ·rintro ⟨j4v11_0, j4x11_0, j4D⟩ h
   have h : kk5 j4x11_0 = some r := h
   rw [hkk5] at h
   dsimp only at h
   clear hkk5
   refine iw_show (m := (memOf w0 Z0 [] [(oRow j4v11_0 9 tyStr j4x11_0), (oBox g3 22 [j4v11_0]), (oObj j4D dblk)] [(fDat (tyList tyS_api_Blob) [v0_0] a0)])) (S := (tab [(11, (pq g3))])) ?_
   refine iw_sr ?_
   refine al_val (ov_load (i := 1) (v := j4v11_0) rfl rfl Tryd.underlying22 sz22 rfl rfl rfl rfl) ?_
   refine al_as rfl rfl ?_
   refine al_as rfl rfl ?_
   refine il_nt ?_
   refine iw_ret ?_
   refine fn_retM 2 rfl ?_
   obtain rfl := Option.some.inj h
   exact fn_ret j4v11_0 [0] [] rfl rfl rfl rfl (res2 rfl rfl rfl) rfl rfl rfl (by decide)
  ·clear hkk5
   refine iw_sr ?_
   refine al_mv rfl rfl ?_
   refine al_freeze 1 rfl rfl ?_
   obtain ⟨r7, hc6, h⟩ := opt_some h
   refine al_call (vs := [j1v4, (iq (1024 : Int))]) (f_slices_Chunk___byte_byte__ok fu j1v4 j1x4 (1024 : Int) hc6) [] [] [0] (pre_fz 0 rfl pre_nil) rfl (by simp) (by decide) (.inl rfl) rfl Tryd.func31 rfl rfl rfl (fun ⟨g8, g9⟩ => ?_)
   refine il_nt ?_
   refine iw_block ?_
   refine iw_range (lb := [(pq g8), (pq g9)]) rfl Tryd.func63 rfl Tryd.ntmps63 rfl rfl (fun D10 l10 fn10 T10 rc10 hrc10 hT10 => ?_)
   replace hT10 := hT10.tab [(11, (pq g3)), (50, (Value.func (.func 63) #[] #[(pq g8), (pq g9)]))] (allT_mem ⟨rfl, rfl, trivial⟩)
   refine iw_show (m := (memOf w0 Z0 [] [(oObj l10 (rc10 .ready none)), (oObj D10 dblk), (oBox g9 3 [(iq (1024 : Int))]), (oBox g3 22 [nS])] [(fPtr (tyList tyU8) (pq g8) j1x4), (fDat (tyList tyU8) [j1v4] j1x4), (fDat (tyList tyS_api_Blob) [v0_0] a0)])) (S := (tab [(0, (Value.func (Fn.yield l10) #[] #[])), (1, (pq g8)), (2, (pq g9))])) ?_
   refine iw_sr ?_
   refine al_as rfl rfl ?_
   refine il_nt ?_
   refine iw_block ?_
   refine iw_nilR 9 tyStr ?_
   refine iw_state (iw_loop (ι := Int × Value × (List (List UInt8))) (fun i => (memOf w0 Z0 [] [(oBox g9 3 [(iq (1024 : Int))]), (oRow i.2.1 9 tyStr i.2.2), (oBox g3 22 [i.2.1]), (oObj D10 dblk), (oObj l10 (rc10 .ready none))] [(fPtr (tyList tyU8) (pq g8) j1x4), (fDat (tyList tyU8) [j1v4] j1x4), (fDat (tyList tyS_api_Blob) [v0_0] a0)])) (fun i => (tab [(0, (Value.func (Fn.yield l10) #[] #[])), (1, (pq g8)), (2, (pq g9)), (4, (iq i.1))])) (fun q i => f_fetch_Texts_L13 j1x4 kk5 q i.1 i.2.2 = some r) ?_ fu ((0 : Int), nS, ([] : List (List UInt8))) h) (fun w a hm hs => norm hm hs [3, 0, 4, 2, 1] [0, 1, 2] [(0, (Value.func (Fn.yield l10) #[] #[])), (1, (pq g8)), (2, (pq g9)), (4, (iq (0 : Int)))] (by decide) ⟨rfl, rfl, rfl, rfl, trivial⟩)
   clear h
   rintro k12 ⟨l11i4, l11v100011_0, l11x100011_0⟩ h
   have h : f_fetch_Texts_L13 j1x4 kk5 k12 l11i4 l11x100011_0 = some r := h
   obtain _ | k12 := k12
   · rw [f_fetch_Texts_L13] at h; cases h
   rw [f_fetch_Texts_L13] at h
   refine iw_show (m := (memOf w0 Z0 [] [(oBox g9 3 [(iq (1024 : Int))]), (oRow l11v100011_0 9 tyStr l11x100011_0), (oBox g3 22 [l11v100011_0]), (oObj D10 dblk), (oObj l10 (rc10 .ready none))] [(fPtr (tyList tyU8) (pq g8) j1x4), (fDat (tyList tyU8) [j1v4] j1x4), (fDat (tyList tyS_api_Blob) [v0_0] a0)])) (S := (tab [(0, (Value.func (Fn.yield l10) #[] #[])), (1, (pq g8)), (2, (pq g9)), (4, (iq l11i4))])) ?_
   refine iw_seq ?_
   refine iw_sr ?_
   refine al_mv rfl rfl ?_
   refine al_loadP1 0 rfl rfl Tryd.underlying60 sz60 rfl rfl rfl (fun s14 => ?_)
   refine al_val (ov_lenD 0 rfl rfl Tryd.underlying60 rfl) ?_
   refine al_in rfl rfl rfl rfl ?_
   refine il_nt ?_
   refine iw_cond rfl (fun hb15 => ?_) (fun hb15 => ?_)
   ·replace h := bif_t hb15 h
    refine iw_skip ?_
    refine iq_then ?_
    refine iw_seq ?_
    refine iw_block ?_
    refine iw_seq ?_
    obtain ⟨hc17, h⟩ := req_some h
    refine iw_region_draw 6 [(13, (fun u => fEq u (iq (1024 : Int)))), (14, (fun s16 => (fDat (tyList tyU8) [s16] j1x4))), (15, (fun u => fEq u (iq l11i4))), (16, (fun s18 => (fDat (tyList tyU8) [s18] (j1x4.drop (l11i4).toNat)))), (17, (fun u => fEq u (iq ((j1x4.drop (l11i4).toNat).length : Int)))), (18, (fun u => fEq u (iq (if ((j1x4.drop (l11i4).toNat).length : Int) < (1024 : Int) then ((j1x4.drop (l11i4).toNat).length : Int) else (1024 : Int)))))] (tab [(0, (Value.func (Fn.yield l10) #[] #[])), (1, (pq g8)), (2, (pq g9)), (4, (iq l11i4))]) mixed (by kernel_rfl) rfl rfl rfl (fun a hs => hs.tab _ (allT_mem ⟨rfl, rfl, rfl, rfl, trivial⟩)) ⟨⟨rfl, ld_val (ov_load (i := 0) (v := (iq (1024 : Int))) rfl rfl Tryd.underlying3 sz3 rfl rfl rfl rfl)⟩, ⟨rfl, ld_of (of_loadP1 1 rfl rfl Tryd.underlying60 sz60 rfl rfl rfl)⟩, ⟨rfl, ld_val (ov_move rfl rfl)⟩, ⟨rfl, ld_fact (j := 1) rfl rfl (fun s16 => ld_eq (j := 2) rfl rfl (ld_of (of_sliceDF 0 hc17.1 hc17.2 rfl rfl rfl Tryd.underlying60 sz5 rfl)))⟩, ⟨rfl, ld_fact (j := 3) rfl rfl (fun s18 => ld_val (ov_lenD 0 rfl rfl Tryd.underlying60 rfl))⟩, ⟨rfl, ld_eq (j := 0) rfl rfl (ld_eq (j := 4) rfl rfl (ld_val (ov_min rfl rfl rfl)))⟩, trivial⟩ ?_
    refine tl_eq 5 rfl ?_
    refine tl_done ?_
    refine al_as rfl rfl ?_
    refine il_nt ?_
    refine iw_seq ?_
    refine iw_cut 10 ?_
    refine al_mv rfl rfl ?_
    refine al_loadP1 1 rfl rfl Tryd.underlying60 sz60 rfl rfl rfl (fun s19 => ?_)
    refine al_mv rfl rfl ?_
    refine al_mv rfl rfl ?_
    refine al_mv rfl rfl ?_
    refine al_in rfl rfl rfl rfl ?_
    refine al_mv rfl rfl ?_
    refine al_mv rfl rfl ?_
    refine al_in rfl rfl rfl rfl ?_
    obtain ⟨hc20, h⟩ := req_some h
    refine al_sliceDM 0 hc20.1 hc20.2.1 hc20.2.2.1 hc20.2.2.2 rfl rfl rfl rfl rfl Tryd.underlying60 sz5 rfl (fun s21 => ?_)
    refine il_go ?_
    refine il_yield (vs := [s21]) 4 hrc10 rfl hT10 rfl rfl rfl rfl rfl (fun aI22 hI22 => ?_)
    replace hI22 := hI22.tab [(0, (Value.func (Fn.yield l10) #[] #[])), (1, (pq g8)), (2, (pq g9)), (4, (iq l11i4))] (allT_mem ⟨rfl, rfl, rfl, rfl, trivial⟩)
    refine iw_state (m' := (memOf w0 Z0 [] [(oBox g9 3 [(iq (1024 : Int))]), (oRow l11v100011_0 9 tyStr l11x100011_0), (oBox g3 22 [l11v100011_0]), (oObj D10 dblk), (oObj l10 (rc10 .ready none))] [(fDat (tyList tyU8) [s21] (cutL j1x4 l11i4 (wq (l11i4 + (if ((j1x4.drop (l11i4).toNat).length : Int) < (1024 : Int) then ((j1x4.drop (l11i4).toNat).length : Int) else (1024 : Int)))))), (fDat (tyList tyU8) [s19] j1x4), (fDat (tyList tyU8) [s14] j1x4), (fPtr (tyList tyU8) (pq g8) j1x4), (fDat (tyList tyU8) [j1v4] j1x4), (fDat (tyList tyS_api_Blob) [v0_0] a0)])) (S' := (tab [(11, (pq g3)), (50, (Value.func (.func 63) #[] #[(pq g8), (pq g9)])), (51, s21)])) ?_ (fun w a hm hs => ⟨hm, hs.tab _ (allT_mem ⟨rfl, rfl, rfl, trivial⟩)⟩)
    refine iw_region ?_
    refine al_as rfl rfl ?_
    refine il_nil ?_
    refine iq_begin 4 hrc10 rfl ?_
    refine iw_block ?_
    refine iw_region ?_
    refine al_val (ov_load (i := 2) (v := l11v100011_0) rfl rfl Tryd.underlying22 sz22 rfl rfl rfl rfl) ?_
    refine al_mv rfl rfl ?_
    refine al_val (ov_toStr 0 rfl rfl Tryd.underlying60 Tryd.underlying5 Tryd.underlying9 rfl) ?_
    refine al_buildSlice (τ := tyStr) (e := 9) (k := 1) (sz := 0) (by_ := 0) (z := undef) (cs := [(str (cutL j1x4 l11i4 (wq (l11i4 + (if ((j1x4.drop (l11i4).toNat).length : Int) < (1024 : Int) then ((j1x4.drop (l11i4).toNat).length : Int) else (1024 : Int))))))]) (xs := [(cutL j1x4 l11i4 (wq (l11i4 + (if ((j1x4.drop (l11i4).toNat).length : Int) < (1024 : Int) then ((j1x4.drop (l11i4).toNat).length : Int) else (1024 : Int)))))]) rfl (by decide) (fun w a hm hs => ⟨([(str (cutL j1x4 l11i4 (wq (l11i4 + (if ((j1x4.drop (l11i4).toNat).length : Int) < (1024 : Int) then ((j1x4.drop (l11i4).toNat).length : Int) else (1024 : Int))))))]).toArray, rfl, by simp only [List.map_toArray, List.map_cons, List.map_nil, hs.ev (x := .tmp 54) rfl]; exact run_bs [(str (cutL j1x4 l11i4 (wq (l11i4 + (if ((j1x4.drop (l11i4).toNat).length : Int) < (1024 : Int) then ((j1x4.drop (l11i4).toNat).length : Int) else (1024 : Int))))))] [(str (cutL j1x4 l11i4 (wq (l11i4 + (if ((j1x4.drop (l11i4).toNat).length : Int) < (1024 : Int) then ((j1x4.drop (l11i4).toNat).length : Int) else (1024 : Int))))))] Tryd.underlying22 to9 rfl rfl (bs_cons (l := [(str (cutL j1x4 l11i4 (wq (l11i4 + (if ((j1x4.drop (l11i4).toNat).length : Int) < (1024 : Int) then ((j1x4.drop (l11i4).toNat).length : Int) else (1024 : Int))))))]) (cs := []) (cv_rfl rfl) rfl bs_nil) hm⟩) (fun hm => ⟨_, _, rfl, (fun _ => rfl) hm, rfl⟩) rfl (fun v23 => ?_)
    obtain ⟨hc24, h⟩ := req_some h
    refine al_append 2 hc24.1 hc24.2 rfl (src_own (i := 2) 0 rfl) rfl rfl Tryd.underlying22 to9 rfl rfl rfl (fun v25 => ?_)
    refine al_store (i := 3) (vs := [v25]) (cs' := [v25]) rfl rfl rfl sz22 (cv_own 2 rfl) rfl (co_own 2 rfl co_nil) (Nat.le_of_ble_eq_true rfl) rfl rfl ?_
    refine il_nil ?_
    refine iq_block ?_
    refine iq_rnorm 5 hrc10 rfl hI22 rfl ?_
    refine il_list ?_
    refine al_val (ov_not rfl rfl) ?_
    refine il_nt ?_
    refine iw_cond_f rfl ?_
    refine iw_skip ?_
    refine iq_block ?_
    refine iq_then ?_
    refine iw_region ?_
    refine al_mv rfl rfl ?_
    refine al_val (ov_load (i := 1) (v := (iq (1024 : Int))) rfl rfl Tryd.underlying3 sz3 rfl rfl rfl rfl) ?_
    refine al_in rfl rfl rfl rfl ?_
    refine al_as rfl rfl ?_
    refine il_nil ?_
    exact iq_again k12 ((wq (l11i4 + (1024 : Int))), v25, (l11x100011_0 ++ ([(cutL j1x4 l11i4 (wq (l11i4 + (if ((j1x4.drop (l11i4).toNat).length : Int) < (1024 : Int) then ((j1x4.drop (l11i4).toNat).length : Int) else (1024 : Int)))))]))) (Nat.lt_succ_self _) h (fun w a hm hs => norm hm hs [1, 2, 3, 4, 5] [3, 4, 5] [(0, (Value.func (Fn.yield l10) #[] #[])), (1, (pq g8)), (2, (pq g9)), (4, (iq (wq (l11i4 + (1024 : Int)))))] (by decide) ⟨rfl, rfl, rfl, rfl, trivial⟩)
   ·replace h := bif_f hb15 h
    refine iw_exit ?_
    refine iq_then_exit ?_
    refine iq_then_exit ?_
    refine iq_block_exit ?_
    refine iq_itend 4 hrc10 (.inr rfl) rfl (by decide) rfl hT10 ?_
    refine iq_block ?_
    exact iq_join (l11v100011_0, l11x100011_0, D10) h (fun w a hm hs => norm hm hs [1, 2, 3] [3] [(11, (pq g3))] (by decide) ⟨rfl, trivial⟩)
 ·clear hkk2
  refine iw_sr ?_
  refine al_mv rfl rfl ?_
  refine al_val (ov_lenD 0 rfl rfl Tryd.underlying33 rfl) ?_
  refine al_mv rfl rfl ?_
  refine il_nt ?_
  refine iw_block ?_
  refine iw_nilR 5 tyU8 ?_
  refine iw_state (iw_loop (ι := Value × (List UInt8) × Int) (fun i => (memOf w0 Z0 [] [(oRow i.1 5 tyU8 i.2.1)] [(fDat (tyList tyS_api_Blob) [v0_0] a0)])) (fun i => (tab [(4, i.1), (13, v0_0), (14, (iq (a0.length : Int))), (15, (iq i.2.2))])) (fun q i => f_fetch_Texts_L28 a0 kk2 fu q i.2.1 i.2.2 = some r) ?_ fu (nS, ([] : List UInt8), (0 : Int)) h) (fun w a hm hs => norm hm hs [0] [0] [(4, nS), (13, v0_0), (14, (iq (a0.length : Int))), (15, (iq (0 : Int)))] (by decide) ⟨rfl, rfl, rfl, rfl, trivial⟩)
  clear h
  rintro k27 ⟨l26v4, l26x4, l26i15⟩ h
  have h : f_fetch_Texts_L28 a0 kk2 fu k27 l26x4 l26i15 = some r := h
  obtain _ | k27 := k27
  · rw [f_fetch_Texts_L28] at h; cases h
  rw [f_fetch_Texts_L28] at h
  refine iw_show (m := (memOf w0 Z0 [] [(oRow l26v4 5 tyU8 l26x4)] [(fDat (tyList tyS_api_Blob) [v0_0] a0)])) (S := (tab [(4, l26v4), (13, v0_0), (14, (iq (a0.length : Int))), (15, (iq l26i15))])) ?_
  refine iw_sr ?_
  refine al_in rfl rfl rfl rfl ?_
  refine il_nt ?_
  refine iw_seq ?_
  refine iw_cond rfl (fun hb29 => ?_) (fun hb29 => ?_)
  ·replace h := bif_t hb29 h
   refine iw_skip ?_
   refine iq_then ?_
   refine iw_seq ?_
   refine iw_block ?_
   refine iw_sr ?_
   obtain ⟨u30, hu31, h⟩ := opt_some h
   refine al_idxD 0 hu31 rfl rfl rfl Tryd.underlying33 sz41 rfl (fun p32 => ?_)
   refine al_val (ov_loadP (ds := [(iq u30.Kind), (str u30.Bytes)]) 0 rfl encS_api_Blob rfl Tryd.underlying41 sz41 rfl rfl rfl) ?_
   refine al_alloc (zs := [(iq (0 : Int)), (str ([] : List UInt8))]) (zeroOf_to to41) rfl rfl (fun g33 => ?_)
   refine al_store (i := 0) (vs := [(iq u30.Kind), (str u30.Bytes)]) (cs' := [(iq u30.Kind), (str u30.Bytes)]) rfl rfl rfl sz41 (cv_rfl rfl) rfl (co_val rfl (co_val rfl co_nil)) (Nat.le_of_ble_eq_true rfl) rfl rfl ?_
   refine il_nt ?_
   refine iw_seq ?_
   refine iw_sr ?_
   refine al_val (ov_load (i := 0) (v := (ag [(iq u30.Kind), (str u30.Bytes)])) rfl rfl Tryd.underlying41 sz41 rfl rfl rfl rfl) ?_
   obtain ⟨r35, hc34, h⟩ := opt_some h
   refine al_call (vs := [(ag [(iq u30.Kind), (str u30.Bytes)])]) (f_pack_ID_ok fu u30 hc34) [] [] [0, 1] pre_nil rfl (by simp) (by decide) (.inl rfl) rfl Tryd.func29 rfl rfl rfl (fun _ => ?_)
   refine al_mv rfl rfl ?_
   refine al_ex rfl rfl rfl ?_
   refine al_ex rfl rfl rfl ?_
   refine al_alloc (zs := (cA8u8 (A8u8.mk (0 : UInt8) (0 : UInt8) (0 : UInt8) (0 : UInt8) (0 : UInt8) (0 : UInt8) (0 : UInt8) (0 : UInt8)))) (zeroOf_to to62) rfl rfl (fun g36 => ?_)
   refine al_store (i := 0) (vs := (cA8u8 r35.1)) (cs' := (cA8u8 r35.1)) rfl rfl rfl sz62 (cv_rfl rfl) rfl (co_all (oneA8u8 r35.1)) (Nat.le_of_ble_eq_true rfl) rfl rfl ?_
   refine al_as rfl rfl ?_
   refine il_nt ?_
   refine iw_sr ?_
   refine al_mv rfl rfl ?_
   refine al_in rfl rfl rfl rfl ?_
   refine il_nt ?_
   refine iw_cond rfl (fun hb37 => ?_) (fun hb37 => ?_)
   ·replace h := bif_t hb37 h
    refine iw_sr ?_
    refine al_mv rfl rfl ?_
    refine al_as rfl rfl ?_
    refine al_as rfl rfl ?_
    refine il_nt ?_
    refine iw_ret ?_
    refine iq_then_ret ?_
    refine iq_block_ret ?_
    refine iq_then_ret ?_
    refine iq_then_ret ?_
    refine iq_block_ret ?_
    refine iq_then_ret ?_
    refine iq_nilR 9 tyStr ?_
    refine fn_ret0 ?_
    obtain rfl := Option.some.inj h
    exact fn_ret nS [0] [] rfl rfl rfl rfl (res2 rfl rfl rfl) rfl rfl rfl (by decide)
   ·replace h := bif_f hb37 h
    refine iw_skip ?_
    refine iq_tr ?_
    refine al_val (ov_fieldA (p := 0) rfl Tryd.underlying41 rfl sz3 rfl rfl rfl) ?_
    refine al_val (ov_load (i := 1) (v := (iq u30.Kind)) rfl rfl Tryd.underlying3 sz3 rfl rfl rfl rfl) ?_
    refine al_val (ov_convInt (by rw [Tryd.underlying3]; rfl) Tryd.underlying5 rfl rfl) ?_
    obtain ⟨hc39, h⟩ := req_some h
    refine al_buildSlice (τ := tyU8) (e := 5) (k := 1) (sz := 0) (by_ := 0) (z := undef) (cs := [(i8 (w8 u30.Kind))]) (xs := [(UInt8.ofNat ((w8 u30.Kind)).toNat)]) rfl (by decide) (fun w a hm hs => ⟨([(i8 (w8 u30.Kind))]).toArray, rfl, by simp only [List.map_toArray, List.map_cons, List.map_nil, hs.ev (x := .tmp 30) rfl]; exact run_bs [(i8 (w8 u30.Kind))] [(i8 (w8 u30.Kind))] Tryd.underlying60 to5 rfl rfl (bs_cons (l := [(i8 (w8 u30.Kind))]) (cs := []) (cv_rfl rfl) rfl bs_nil) hm⟩) (fun hm => ⟨_, _, rfl, (fun _ => u8_rep hc39) hm, rfl⟩) rfl (fun v38 => ?_)
    refine al_val (ov_toStrR 0 rfl rfl Tryd.underlying60 Tryd.underlying5 Tryd.underlying9 rfl) ?_
    refine al_val (ov_fieldA (p := 1) rfl Tryd.underlying41 rfl sz9 rfl rfl rfl) ?_
    refine al_val (ov_load (i := 2) (v := (str u30.Bytes)) rfl rfl Tryd.underlying9 sz9 rfl rfl rfl rfl) ?_
    obtain ⟨hc40, h⟩ := req_some h
    refine al_val (ov_strAdd hc40 rfl rfl rfl) ?_
    obtain ⟨r42, hc41, h⟩ := opt_some h
    refine al_call (vs := [(str (([(UInt8.ofNat ((w8 u30.Kind)).toNat)]) ++ u30.Bytes))]) (f_journal_Frame_ok fu (([(UInt8.ofNat ((w8 u30.Kind)).toNat)]) ++ u30.Bytes) hc41) [] [] [0, 1, 2, 3] pre_nil rfl (by simp) (by decide) (.inl rfl) rfl Tryd.func30 rfl rfl rfl (fun _ => ?_)
    refine al_mv rfl rfl ?_
    refine al_ex rfl rfl rfl ?_
    refine al_ex rfl rfl rfl ?_
    refine al_as rfl rfl ?_
    refine al_as rfl rfl ?_
    refine il_nt ?_
    refine iw_seq ?_
    refine iw_sr ?_
    refine al_mv rfl rfl ?_
    refine al_in rfl rfl rfl rfl ?_
    refine il_nt ?_
    refine iw_cond rfl (fun hb43 => ?_) (fun hb43 => ?_)
    ·replace h := bif_t hb43 h
     refine iw_sr ?_
     refine al_mv rfl rfl ?_
     refine al_as rfl rfl ?_
     refine al_as rfl rfl ?_
     refine il_nt ?_
     refine iw_ret ?_
     refine iq_then_ret ?_
     refine iq_block_ret ?_
     refine iq_then_ret ?_
     refine iq_then_ret ?_
     refine iq_block_ret ?_
     refine iq_then_ret ?_
     refine iq_nilR 9 tyStr ?_
     refine fn_ret0 ?_
     obtain rfl := Option.some.inj h
     exact fn_ret nS [0] [] rfl rfl rfl rfl (res2 rfl rfl rfl) rfl rfl rfl (by decide)
    ·replace h := bif_f hb43 h
     refine iw_skip ?_
     refine iq_tr ?_
     refine al_mv rfl rfl ?_
     refine al_mv rfl rfl ?_
     obtain ⟨hc44, h⟩ := req_some h
     refine al_appendS 3 hc44 rfl rfl rfl Tryd.underlying60 Tryd.underlying9 to5 rfl (fun v45 => ?_)
     refine al_as rfl rfl ?_
     refine il_nt ?_
     refine iw_sr ?_
     refine al_mv rfl rfl ?_
     refine al_val (ov_lenR 3 rfl rfl Tryd.underlying60 rfl) ?_
     refine al_in rfl rfl rfl rfl ?_
     refine il_nt ?_
     refine iw_cond rfl (fun hb46 => ?_) (fun hb46 => ?_)
     ·replace h := bif_t hb46 h
      refine iw_sr ?_
      refine al_as rfl rfl ?_
      refine al_as rfl rfl ?_
      refine il_nt ?_
      refine iw_ret ?_
      refine iq_block_ret ?_
      refine iq_then_ret ?_
      refine iq_then_ret ?_
      refine iq_block_ret ?_
      refine iq_then_ret ?_
      refine iq_nilR 9 tyStr ?_
      refine fn_ret0 ?_
      obtain rfl := Option.some.inj h
      exact fn_ret nS [0] [] rfl rfl rfl rfl (res2 rfl rfl rfl) rfl rfl rfl (by decide)
     ·replace h := bif_f hb46 h
      refine iw_skip ?_
      refine iq_block ?_
      refine iq_then ?_
      refine iw_region ?_
      refine al_in rfl rfl rfl rfl ?_
      refine al_mv rfl rfl ?_
      refine il_nil ?_
      exact iq_again k27 (v45, (l26x4 ++ r42.1), (wq (l26i15 + (1 : Int)))) (Nat.lt_succ_self _) h (fun w a hm hs => norm hm hs [3] [1] [(4, v45), (13, v0_0), (14, (iq (a0.length : Int))), (15, (iq (wq (l26i15 + (1 : Int)))))] (by decide) ⟨rfl, rfl, rfl, rfl, trivial⟩)
  ·replace h := bif_f hb29 h
   refine iw_exit ?_
   refine iq_then_exit ?_
   refine iq_then_exit ?_
   refine iq_block_exit ?_
   exact iq_join (l26v4, l26x4) h (fun w a hm hs => norm hm hs [0] [0] [(4, l26v4)] (by decide) ⟨rfl, trivial⟩)
def f_lumref_kindOK (fu : Nat) (a0 : Int) : Option Bool := (lt (fun (j1b2 : Bool) => (some j1b2)) fun (kk2 : Bool → Option Bool) => (bif (a0 == (1 : Int)) then (kk2 true) else (bif (a0 == (2 : Int)) then (kk2 true) else (kk2 (a0 == (3 : Int))))))
set_option maxHeartbeats 2000000 in
set_option maxRecDepth 100000 in
theorem f_lumref_kindOK_ok (fu : Nat) (a0 : Int) {r : Bool} (h : f_lumref_kindOK fu a0 = some r) : FnOk Tryd.prog 38 [(int .i64 a0)] [] [] (fun (i : Unit) => { val := (bool r) }) := by
 unfold f_lumref_kindOK at h
 refine fn_enter Tryd.func38 rfl Tryd.ntmps38 rfl (fun w0 Z0 => ?_)
 refine aw_sr ?_
 refine al_as rfl rfl ?_
 refine al_nt ?_
 obtain ⟨kk2, hkk2, h⟩ := lt_some h
 refine aw_seq_join (ι := Bool) (fun i => (memOf w0 Z0 [] [] [])) (fun i => (tab [(2, (bool i))])) (fun i => kk2 i = some r) ?_ ?_
 ·rintro j1b2 h
  have h : kk2 j1b2 = some r := h
  rw [hkk2] at h
  dsimp only at h
  clear hkk2
  refine aw_show (m := (memOf w0 Z0 [] [] [])) (S := (tab [(2, (bool j1b2))])) ?_
  refine aw_ret ?_
  obtain rfl := Option.some.inj h
  exact fn_ret () [] [] rfl rfl rfl rfl (res1 rfl rfl) rfl rfl rfl (by decide)
 ·clear hkk2
  refine aw_region ?_
  refine al_mv rfl rfl ?_
  refine al_in rfl rfl rfl rfl ?_
  refine al_mv rfl rfl ?_
  refine al_caseB 5 rfl (fun hb3 => ?_) (fun hb3 => ?_)
  ·replace h := bif_t hb3 h
   refine al_skip ?_
   refine al_skip ?_
   refine al_val (ov_pick_t rfl rfl rfl) ?_
   refine al_mv rfl rfl ?_
   refine al_skip ?_
   refine al_skip ?_
   refine al_val (ov_pick_t rfl rfl rfl) ?_
   refine al_as rfl rfl ?_
   refine al_nil ?_
   exact aq_join true h (fun w a hm hs => norm hm hs [] [] [(2, (bool true))] (by decide) ⟨rfl, trivial⟩)
  ·replace h := bif_f hb3 h
   refine al_mv rfl rfl ?_
   refine al_in rfl rfl rfl rfl ?_
   refine al_val (ov_pick_f rfl rfl rfl) ?_
   refine al_mv rfl rfl ?_
   refine al_caseB 9 rfl (fun hb4 => ?_) (fun hb4 => ?_)
   ·replace h := bif_t hb4 h
    refine al_skip ?_
    refine al_skip ?_
    refine al_val (ov_pick_t rfl rfl rfl) ?_
    refine al_as rfl rfl ?_
    refine al_nil ?_
    exact aq_join true h (fun w a hm hs => norm hm hs [] [] [(2, (bool true))] (by decide) ⟨rfl, trivial⟩)
   ·replace h := bif_f hb4 h
    refine al_mv rfl rfl ?_
    refine al_in rfl rfl rfl rfl ?_
    refine al_val (ov_pick_f rfl rfl rfl) ?_
    refine al_as rfl rfl ?_
    refine al_nil ?_
    exact aq_join (a0 == (3 : Int)) h (fun w a hm hs => norm hm hs [] [] [(2, (bool (a0 == (3 : Int))))] (by decide) ⟨rfl, trivial⟩)
def f_lumref_Narrow_1 (fu : Nat) (a0 : Int) (a1 : Int) : Option Int := (bif (a1 == (64 : Int)) then (some a0) else (req (0 ≤ a1) (req ((IntKind.u64.wrap ((1 : Int) * 2 ^ min (a1).toNat (IntKind.bits .u64))) ≠ 0) (some ((a0).tmod (IntKind.u64.wrap ((1 : Int) * 2 ^ min (a1).toNat (IntKind.bits .u64))))))))
set_option maxHeartbeats 2000000 in
set_option maxRecDepth 100000 in
theorem f_lumref_Narrow_1_ok (fu : Nat) (a0 : Int) (c1 : Value) (a1 : Int) {r : Int} (h : f_lumref_Narrow_1 fu a0 a1 = some r) : FnOk Tryd.prog 106 [(int .u64 a0), c1] [(fPtr (tyInt .i64) c1 a1)] [] (fun (i : Unit) => { val := (int .u64 r) }) := by
 unfold f_lumref_Narrow_1 at h
 refine fn_enter Tryd.func106 rfl Tryd.ntmps106 rfl (fun w0 Z0 => ?_)
 refine aw_sr ?_
 refine al_as rfl rfl ?_
 refine al_nt ?_
 refine aw_seq ?_
 refine aw_sr ?_
 refine al_val (ov_loadP (ds := [(iq a1)]) 0 rfl (fun h => h) rfl Tryd.underlying3 sz3 rfl rfl rfl) ?_
 refine al_in rfl rfl rfl rfl ?_
 refine al_nt ?_
 refine aw_cond rfl (fun hb1 => ?_) (fun hb1 => ?_)
 ·replace h := bif_t hb1 h
  refine aw_sr ?_
  refine al_mv rfl rfl ?_
  refine al_as rfl rfl ?_
  refine al_nt ?_
  refine aw_ret ?_
  refine aq_then_ret ?_
  obtain rfl := Option.some.inj h
  exact fn_ret () [] [] rfl rfl rfl rfl (res1 rfl rfl) rfl rfl rfl (by decide)
 ·replace h := bif_f hb1 h
  refine aw_skip ?_
  refine aq_tr ?_
  refine al_mv rfl rfl ?_
  refine al_val (ov_loadP (ds := [(iq a1)]) 0 rfl (fun h => h) rfl Tryd.underlying3 sz3 rfl rfl rfl) ?_
  obtain ⟨hc2, h⟩ := req_some h
  refine al_val (ov_shl hc2 rfl rfl rfl) ?_
  obtain ⟨hc3, h⟩ := req_some h
  refine al_val (ov_rem hc3 rfl rfl rfl) ?_
  refine al_as rfl rfl ?_
  refine al_nt ?_
  refine aw_ret ?_
  obtain rfl := Option.some.inj h
  exact fn_ret () [] [] rfl rfl rfl rfl (res1 rfl rfl) rfl rfl rfl (by decide)
def f_strings_Repeat (fu : Nat) (a0 : List UInt8) (a1 : Int) : Option (List UInt8) := req (0 ≤ a1 ∧ a1 ≤ 9223372036854775807 ∧ a0.length * a1.toNat ≤ 140737488355328) (some (Lib.repeatL a0 a1.toNat))
theorem f_strings_Repeat_ok (fu : Nat) (a0 : List UInt8) (a1 : Int) {r : List UInt8} (h : f_strings_Repeat fu a0 a1 = some r) : FnOk Tryd.prog 105 [(str a0), (int .i64 a1)] [] [] (fun (i : Unit) => { val := (str r) }) := by
  unfold f_strings_Repeat at h
  obtain ⟨hc, h⟩ := req_some h
  obtain rfl := Option.some.inj h
  obtain ⟨n, rfl⟩ : ∃ n : Nat, a1 = n := ⟨a1.toNat, by omega⟩
  refine fnok_pure fun w => ?_
  exact (Tryd.strings_Repeat ⟨a0.toArray⟩ n w (by omega) (by simpa [ByteArray.size] using hc.2.2)).mono fun e w' h9 => by simpa [str] using h9
def f_lumref_product_L5 (a0 : Int) (a1 : Int) (kk2 : (Int → Option Int)) : Nat → Int → Int → Option Int
  | 0, _, _ => none
  | k4 + 1, l3i5, l3i7 => (bif (decide (l3i7 < (64 : Int))) then (lt (fun (j7i5 : Int) => (f_lumref_product_L5 a0 a1 kk2 k4 j7i5 (IntKind.i64.wrap (l3i7 + (1 : Int))))) fun (kk8 : Int → Option Int) => (req (0 ≤ l3i7) (bif ((bits .and .u64 ((a1).fdiv (2 ^ min (l3i7).toNat (IntKind.bits .u64))) (1 : Int)) == (1 : Int)) then (req (0 ≤ l3i7) (kk8 (IntKind.u64.wrap (l3i5 + (IntKind.u64.wrap (a0 * 2 ^ min (l3i7).toNat (IntKind.bits .u64))))))) else (kk8 l3i5)))) else (kk2 l3i5))
def f_lumref_product (fu : Nat) (a0 : Int) (a1 : Int) : Option Int := (lt (fun (j1i5 : Int) => (some j1i5)) fun (kk2 : Int → Option Int) => (f_lumref_product_L5 a0 a1 kk2 fu (0 : Int) (0 : Int)))
set_option maxHeartbeats 2000000 in
set_option maxRecDepth 100000 in
theorem f_lumref_product_ok (fu : Nat) (a0 : Int) (a1 : Int) {r : Int} (h : f_lumref_product fu a0 a1 = some r) : FnOk Tryd.prog 122 [(int .u64 a0), (int .u64 a1)] [] [] (fun (i : Unit) => { val := (int .u64 r) }) := by
 unfold f_lumref_product at h
 refine fn_enter Tryd.func122 rfl Tryd.ntmps122 rfl (fun w0 Z0 => ?_)
 refine aw_sr ?_
 refine al_as rfl rfl ?_
 refine al_nt ?_
 refine aw_sr ?_
 refine al_as rfl rfl ?_
 refine al_nt ?_
 obtain ⟨kk2, hkk2, h⟩ := lt_some h
 refine aw_seq_join (ι := Int) (fun i => (memOf w0 Z0 [] [] [])) (fun i => (tab [(5, (uq i))])) (fun i => kk2 i = some r) ?_ ?_
 ·rintro j1i5 h
  have h : kk2 j1i5 = some r := h
  rw [hkk2] at h
  dsimp only at h
  clear hkk2
  refine aw_show (m := (memOf w0 Z0 [] [] [])) (S := (tab [(5, (uq j1i5))])) ?_
  refine aw_sr ?_
  refine al_mv rfl rfl ?_
  refine al_as rfl rfl ?_
  refine al_nt ?_
  refine aw_ret ?_
  obtain rfl := Option.some.inj h
  exact fn_ret () [] [] rfl rfl rfl rfl (res1 rfl rfl) rfl rfl rfl (by decide)
 ·clear hkk2
  refine aw_sr ?_
  refine al_mv rfl rfl ?_
  refine al_nt ?_
  refine aw_block ?_
  refine aw_state (aw_loop (ι := Int × Int) (fun i => (memOf w0 Z0 [] [] [])) (fun i => (tab [(0, (uq a0)), (1, (uq a1)), (5, (uq i.1)), (7, (iq i.2))])) (fun q i => f_lumref_product_L5 a0 a1 kk2 q i.1 i.2 = some r) ?_ fu ((0 : Int), (0 : Int)) h) (fun w a hm hs => norm hm hs [] [] [(0, (uq a0)), (1, (uq a1)), (5, (uq (0 : Int))), (7, (iq (0 : Int)))] (by decide) ⟨rfl, rfl, rfl, rfl, trivial⟩)
  clear h
  rintro k4 ⟨l3i5, l3i7⟩ h
  have h : f_lumref_product_L5 a0 a1 kk2 k4 l3i5 l3i7 = some r := h
  obtain _ | k4 := k4
  · rw [f_lumref_product_L5] at h; cases h
  rw [f_lumref_product_L5] at h
  refine aw_show (m := (memOf w0 Z0 [] [] [])) (S := (tab [(0, (uq a0)), (1, (uq a1)), (5, (uq l3i5)), (7, (iq l3i7))])) ?_
  refine aw_sr ?_
  refine al_in rfl rfl rfl rfl ?_
  refine al_nt ?_
  refine aw_seq ?_
  refine aw_cond rfl (fun hb6 => ?_) (fun hb6 => ?_)
  ·replace h := bif_t hb6 h
   refine aw_skip ?_
   refine aq_then ?_
   obtain ⟨kk8, hkk8, h⟩ := lt_some h
   refine aw_seq_join (ι := Int) (fun i => (memOf w0 Z0 [] [] [])) (fun i => (tab [(0, (uq a0)), (1, (uq a1)), (5, (uq i)), (7, (iq l3i7))])) (fun i => kk8 i = some r) ?_ ?_
   ·rintro j7i5 h
    have h : kk8 j7i5 = some r := h
    rw [hkk8] at h
    dsimp only at h
    clear hkk8
    refine aw_show (m := (memOf w0 Z0 [] [] [])) (S := (tab [(0, (uq a0)), (1, (uq a1)), (5, (uq j7i5)), (7, (iq l3i7))])) ?_
    refine aw_region ?_
    refine al_in rfl rfl rfl rfl ?_
    refine al_mv rfl rfl ?_
    refine al_nil ?_
    exact aq_again k4 (j7i5, (wq (l3i7 + (1 : Int)))) (Nat.lt_succ_self _) h (fun w a hm hs => norm hm hs [] [] [(0, (uq a0)), (1, (uq a1)), (5, (uq j7i5)), (7, (iq (wq (l3i7 + (1 : Int)))))] (by decide) ⟨rfl, rfl, rfl, rfl, trivial⟩)
   ·clear hkk8
    refine aw_block ?_
    refine aw_sr ?_
    refine al_mv rfl rfl ?_
    refine al_as rfl rfl ?_
    refine al_nt ?_
    refine aw_sr ?_
    refine al_mv rfl rfl ?_
    refine al_mv rfl rfl ?_
    obtain ⟨hc9, h⟩ := req_some h
    refine al_val (ov_shr hc9 rfl rfl rfl) ?_
    refine al_in rfl rfl rfl rfl ?_
    refine al_in rfl rfl rfl rfl ?_
    refine al_nt ?_
    refine aw_cond rfl (fun hb10 => ?_) (fun hb10 => ?_)
    ·replace h := bif_t hb10 h
     refine aw_region ?_
     refine al_mv rfl rfl ?_
     refine al_mv rfl rfl ?_
     refine al_mv rfl rfl ?_
     obtain ⟨hc11, h⟩ := req_some h
     refine al_val (ov_shl hc11 rfl rfl rfl) ?_
     refine al_in rfl rfl rfl rfl ?_
     refine al_as rfl rfl ?_
     refine al_nil ?_
     refine aq_block ?_
     exact aq_join (wu (l3i5 + (wu (a0 * 2 ^ min (l3i7).toNat (IntKind.bits .u64))))) h (fun w a hm hs => norm hm hs [] [] [(0, (uq a0)), (1, (uq a1)), (5, (uq (wu (l3i5 + (wu (a0 * 2 ^ min (l3i7).toNat (IntKind.bits .u64))))))), (7, (iq l3i7))] (by decide) ⟨rfl, rfl, rfl, rfl, trivial⟩)
    ·replace h := bif_f hb10 h
     refine aw_skip ?_
     refine aq_block ?_
     exact aq_join l3i5 h (fun w a hm hs => norm hm hs [] [] [(0, (uq a0)), (1, (uq a1)), (5, (uq l3i5)), (7, (iq l3i7))] (by decide) ⟨rfl, rfl, rfl, rfl, trivial⟩)
  ·replace h := bif_f hb6 h
   refine aw_exit ?_
   refine aq_then_exit ?_
   refine aq_then_exit ?_
   refine aq_block_exit ?_
   exact aq_join l3i5 h (fun w a hm hs => norm hm hs [] [] [(5, (uq l3i5))] (by decide) ⟨rfl, trivial⟩)
def f_lumref_Step (fu : Nat) (a0 : Int) (a1 : Int) : Option Int := (opt (f_lumref_product fu (bits .xor .u64 a0 a1) (11400714819323198485 : Int)) fun (r2 : Int) => (opt (f_lumref_product fu (bits .xor .u64 r2 (IntKind.u64.wrap ((r2).tdiv (536870912 : Int)))) (13787848793156543929 : Int)) fun (r4 : Int) => (some (bits .xor .u64 r4 (IntKind.u64.wrap ((r4).tdiv (4294967296 : Int)))))))
set_option maxHeartbeats 2000000 in
set_option maxRecDepth 100000 in
theorem f_lumref_Step_ok (fu : Nat) (a0 : Int) (a1 : Int) {r : Int} (h : f_lumref_Step fu a0 a1 = some r) : FnOk Tryd.prog 107 [(int .u64 a0), (int .u64 a1)] [] [] (fun (i : Unit) => { val := (int .u64 r) }) := by
 unfold f_lumref_Step at h
 refine fn_enter Tryd.func107 rfl Tryd.ntmps107 rfl (fun w0 Z0 => ?_)
 refine aw_sr ?_
 refine al_as rfl rfl ?_
 refine al_nt ?_
 refine aw_sr ?_
 refine al_mv rfl rfl ?_
 refine al_mv rfl rfl ?_
 refine al_in rfl rfl rfl rfl ?_
 obtain ⟨r2, hc1, h⟩ := opt_some h
 refine al_call (vs := [(uq (bits .xor .u64 a0 a1)), (uq (11400714819323198485 : Int))]) (f_lumref_product_ok fu (bits .xor .u64 a0 a1) (11400714819323198485 : Int) hc1) [] [] [] pre_nil rfl (by simp) (by decide) (.inl rfl) rfl Tryd.func122 rfl rfl rfl (fun _ => ?_)
 refine al_as rfl rfl ?_
 refine al_nt ?_
 refine aw_sr ?_
 refine al_mv rfl rfl ?_
 refine al_mv rfl rfl ?_
 refine al_val (ov_quo (by decide) rfl rfl rfl) ?_
 refine al_in rfl rfl rfl rfl ?_
 refine al_as rfl rfl ?_
 refine al_nt ?_
 refine aw_sr ?_
 refine al_mv rfl rfl ?_
 obtain ⟨r4, hc3, h⟩ := opt_some h
 refine al_call (vs := [(uq (bits .xor .u64 r2 (wu ((r2).tdiv (536870912 : Int))))), (uq (13787848793156543929 : Int))]) (f_lumref_product_ok fu (bits .xor .u64 r2 (wu ((r2).tdiv (536870912 : Int)))) (13787848793156543929 : Int) hc3) [] [] [] pre_nil rfl (by simp) (by decide) (.inl rfl) rfl Tryd.func122 rfl rfl rfl (fun _ => ?_)
 refine al_as rfl rfl ?_
 refine al_nt ?_
 refine aw_sr ?_
 refine al_mv rfl rfl ?_
 refine al_mv rfl rfl ?_
 refine al_val (ov_quo (by decide) rfl rfl rfl) ?_
 refine al_in rfl rfl rfl rfl ?_
 refine al_as rfl rfl ?_
 refine al_nt ?_
 refine aw_ret ?_
 obtain rfl := Option.some.inj h
 exact fn_ret () [] [] rfl rfl rfl rfl (res1 rfl rfl) rfl rfl rfl (by decide)
def f_lumref_Narrow_L27 (l11s7 : (List UInt8)) (kk20 : (Int → Option Int)) : Nat → Int → Int → Option Int
  | 0, _, _ => none
  | k26 + 1, l25i8, l25i9 => (bif (decide (l25i9 ≥ (0 : Int))) then (req (0 ≤ l25i9 ∧ l25i9 < (l11s7.length : Int)) (f_lumref_Narrow_L27 l11s7 kk20 k26 (IntKind.u64.wrap ((IntKind.u64.wrap ((256 : Int) * l25i8)) + (IntKind.u64.wrap (En.bAt l11s7 l25i9)))) (IntKind.i64.wrap (l25i9 - (1 : Int))))) else (kk20 l25i8))
def f_lumref_Narrow_L13 (a0 : Int) (kk6 : (Int → Option Int)) (fu : Nat) : Nat → Int → (List UInt8) → Option Int
  | 0, _, _ => none
  | k12 + 1, l11i5, l11s7 => (lt (fun (l11i5 : Int) (l11s7 : (List UInt8)) => (f_lumref_Narrow_L13 a0 kk6 fu k12 l11i5 l11s7)) fun (kk14 : Int → (List UInt8) → Option Int) => (bif (!(l11s7 == ([] : List UInt8))) then (lt (fun (j16i5 : Int) => (req (0 ≤ (8 : Int) ∧ (8 : Int) ≤ (l11s7.length : Int)) (kk14 j16i5 (l11s7.drop ((8 : Int)).toNat)))) fun (kk17 : Int → Option Int) => (lt (fun (j19i8 : Int) => (opt (f_lumref_Step fu l11i5 j19i8) fun (r22 : Int) => (opt (f_lumref_Narrow_1 fu r22 a0) fun (r24 : Int) => (kk17 r24)))) fun (kk20 : Int → Option Int) => (f_lumref_Narrow_L27 l11s7 kk20 fu (0 : Int) (7 : Int)))) else (kk6 l11i5)))
def f_lumref_Narrow (fu : Nat) (a0 : Int) (a1 : (List UInt8)) : Option Int := (opt (f_strings_Repeat fu ([0] : List UInt8) (((IntKind.i64.wrap ((8 : Int) - (((a1.length : Int)).tmod (8 : Int))))).tmod (8 : Int))) fun (r3 : (List UInt8)) => (req (a1.length + r3.length ≤ 9223372036854775807) (lt (fun (j5i5 : Int) => (opt (f_lumref_Step fu j5i5 (IntKind.u64.wrap (a1.length : Int))) fun (r8 : Int) => (opt (f_lumref_Narrow_1 fu r8 a0) fun (r10 : Int) => (some r10)))) fun (kk6 : Int → Option Int) => (f_lumref_Narrow_L13 a0 kk6 fu fu (0 : Int) (a1 ++ r3)))))
set_option maxHeartbeats 2000000 in
set_option maxRecDepth 100000 in
theorem f_lumref_Narrow_ok (fu : Nat) (a0 : Int) (a1 : (List UInt8)) {r : Int} (h : f_lumref_Narrow fu a0 a1 = some r) : FnOk Tryd.prog 90 [(int .i64 a0), (str a1)] [] [] (fun (i : Unit) => { val := (int .u64 r) }) := by
 unfold f_lumref_Narrow at h
 refine fn_enter Tryd.func90 rfl Tryd.ntmps90 rfl (fun w0 Z0 => ?_)
 refine aw_sr ?_
 refine al_box (vs := [(iq a0)]) rfl (cv_rfl rfl) rfl (fun g1 => ?_)
 refine al_as rfl rfl ?_
 refine al_nt ?_
 refine aw_sr ?_
 refine al_as rfl rfl ?_
 refine al_nt ?_
 refine aw_sr ?_
 refine al_val (ov_makeFunc2 (vs := [(pq g1)]) rfl rfl) ?_
 refine al_as rfl rfl ?_
 refine al_nt ?_
 refine aw_sr ?_
 refine al_mv rfl rfl ?_
 refine al_mv rfl rfl ?_
 refine al_val (ov_strLen Tryd.underlying9 rfl rfl) ?_
 refine al_val (ov_rem (by decide) rfl rfl rfl) ?_
 refine al_in rfl rfl rfl rfl ?_
 refine al_val (ov_rem (by decide) rfl rfl rfl) ?_
 obtain ⟨r3, hc2, h⟩ := opt_some h
 refine al_call (vs := [(str ([0] : List UInt8)), (iq (((wq ((8 : Int) - (((a1.length : Int)).tmod (8 : Int))))).tmod (8 : Int)))]) (f_strings_Repeat_ok fu ([0] : List UInt8) (((wq ((8 : Int) - (((a1.length : Int)).tmod (8 : Int))))).tmod (8 : Int)) hc2) [] [] [0] pre_nil rfl (by simp) (by decide) (.inl rfl) rfl Tryd.func105 rfl rfl rfl (fun _ => ?_)
 obtain ⟨hc4, h⟩ := req_some h
 refine al_val (ov_strAdd hc4 rfl rfl rfl) ?_
 refine al_as rfl rfl ?_
 refine al_nt ?_
 obtain ⟨kk6, hkk6, h⟩ := lt_some h
 refine aw_seq_join (ι := Int) (fun i => (memOf w0 Z0 [] [(oBox g1 3 [(iq a0)])] [])) (fun i => (tab [(1, (str a1)), (5, (uq i)), (6, (Value.func (.func 106) #[] #[(pq g1)]))])) (fun i => kk6 i = some r) ?_ ?_
 ·rintro j5i5 h
  have h : kk6 j5i5 = some r := h
  rw [hkk6] at h
  dsimp only at h
  clear hkk6
  refine aw_show (m := (memOf w0 Z0 [] [(oBox g1 3 [(iq a0)])] [])) (S := (tab [(1, (str a1)), (5, (uq j5i5)), (6, (Value.func (.func 106) #[] #[(pq g1)]))])) ?_
  refine aw_sr ?_
  refine al_mv rfl rfl ?_
  refine al_mv rfl rfl ?_
  refine al_mv rfl rfl ?_
  refine al_val (ov_strLen Tryd.underlying9 rfl rfl) ?_
  refine al_val (ov_convInt (by rw [Tryd.underlying3]; rfl) Tryd.underlying98 rfl rfl) ?_
  obtain ⟨r8, hc7, h⟩ := opt_some h
  refine al_call (vs := [(uq j5i5), (uq (wu (a1.length : Int)))]) (f_lumref_Step_ok fu j5i5 (wu (a1.length : Int)) hc7) [] [] [0] pre_nil rfl (by simp) (by decide) (.inl rfl) rfl Tryd.func107 rfl rfl rfl (fun _ => ?_)
  obtain ⟨r10, hc9, h⟩ := opt_some h
  refine al_callF (vs := [(uq r8)]) (caps := [(pq g1)]) (f_lumref_Narrow_1_ok fu r8 (pq g1) a0 hc9) rfl [0] [] [0] (pre_boxP (x := a0) 0 rfl rfl (fun _ _ => rfl) pre_nil) rfl (by simp) (by decide) (.inr flat_res0) rfl rfl Tryd.func106 rfl rfl rfl (fun _ => ?_)
  refine al_as rfl rfl ?_
  refine al_nt ?_
  refine aw_ret ?_
  obtain rfl := Option.some.inj h
  exact fn_ret () [] [] rfl rfl rfl rfl (res1 rfl rfl) rfl rfl rfl (by decide)
 ·clear hkk6
  refine aw_block ?_
  refine aw_state (aw_loop (ι := Int × (List UInt8)) (fun i => (memOf w0 Z0 [] [(oBox g1 3 [(iq a0)])] [])) (fun i => (tab [(1, (str a1)), (5, (uq i.1)), (6, (Value.func (.func 106) #[] #[(pq g1)])), (7, (str i.2))])) (fun q i => f_lumref_Narrow_L13 a0 kk6 fu q i.1 i.2 = some r) ?_ fu ((0 : Int), (a1 ++ r3)) h) (fun w a hm hs => norm hm hs [0] [] [(1, (str a1)), (5, (uq (0 : Int))), (6, (Value.func (.func 106) #[] #[(pq g1)])), (7, (str (a1 ++ r3)))] (by decide) ⟨rfl, rfl, rfl, rfl, trivial⟩)
  clear h
  rintro k12 ⟨l11i5, l11s7⟩ h
  have h : f_lumref_Narrow_L13 a0 kk6 fu k12 l11i5 l11s7 = some r := h
  obtain _ | k12 := k12
  · rw [f_lumref_Narrow_L13] at h; cases h
  rw [f_lumref_Narrow_L13] at h
  refine aw_show (m := (memOf w0 Z0 [] [(oBox g1 3 [(iq a0)])] [])) (S := (tab [(1, (str a1)), (5, (uq l11i5)), (6, (Value.func (.func 106) #[] #[(pq g1)])), (7, (str l11s7))])) ?_
  obtain ⟨kk14, hkk14, h⟩ := lt_some h
  refine aw_body_join (ι := Int × (List UInt8)) (fun i => (memOf w0 Z0 [] [(oBox g1 3 [(iq a0)])] [])) (fun i => (tab [(1, (str a1)), (5, (uq i.1)), (6, (Value.func (.func 106) #[] #[(pq g1)])), (7, (str i.2))])) (fun i => kk14 i.1 i.2 = some r) (fun i h => aq_again k12 i (Nat.lt_succ_self _) (by rw [hkk14] at h; exact h) (fun w a hm hs => ⟨hm, hs⟩)) ?_
  clear hkk14
  refine aw_seq ?_
  refine aw_sr ?_
  refine al_mv rfl rfl ?_
  refine al_val (ov_strCmp rfl rfl rfl rfl) ?_
  refine al_nt ?_
  refine aw_cond rfl (fun hb15 => ?_) (fun hb15 => ?_)
  ·replace h := bif_t hb15 h
   refine aw_skip ?_
   refine aq_then ?_
   obtain ⟨kk17, hkk17, h⟩ := lt_some h
   refine aw_seq_join (ι := Int) (fun i => (memOf w0 Z0 [] [(oBox g1 3 [(iq a0)])] [])) (fun i => (tab [(1, (str a1)), (5, (uq i)), (6, (Value.func (.func 106) #[] #[(pq g1)])), (7, (str l11s7))])) (fun i => kk17 i = some r) ?_ ?_
   ·rintro j16i5 h
    have h : kk17 j16i5 = some r := h
    rw [hkk17] at h
    dsimp only at h
    clear hkk17
    refine aw_show (m := (memOf w0 Z0 [] [(oBox g1 3 [(iq a0)])] [])) (S := (tab [(1, (str a1)), (5, (uq j16i5)), (6, (Value.func (.func 106) #[] #[(pq g1)])), (7, (str l11s7))])) ?_
    refine aw_region ?_
    refine al_mv rfl rfl ?_
    obtain ⟨hc18, h⟩ := req_some h
    refine al_val (ov_strFrom hc18.1 hc18.2 Tryd.underlying9 rfl rfl rfl) ?_
    refine al_as rfl rfl ?_
    refine al_nil ?_
    exact aq_join (j16i5, (l11s7.drop ((8 : Int)).toNat)) h (fun w a hm hs => norm hm hs [0] [] [(1, (str a1)), (5, (uq j16i5)), (6, (Value.func (.func 106) #[] #[(pq g1)])), (7, (str (l11s7.drop ((8 : Int)).toNat)))] (by decide) ⟨rfl, rfl, rfl, rfl, trivial⟩)
   ·clear hkk17
    refine aw_block ?_
    refine aw_sr ?_
    refine al_as rfl rfl ?_
    refine al_nt ?_
    obtain ⟨kk20, hkk20, h⟩ := lt_some h
    refine aw_seq_join (ι := Int) (fun i => (memOf w0 Z0 [] [(oBox g1 3 [(iq a0)])] [])) (fun i => (tab [(1, (str a1)), (5, (uq l11i5)), (6, (Value.func (.func 106) #[] #[(pq g1)])), (7, (str l11s7)), (8, (uq i))])) (fun i => kk20 i = some r) ?_ ?_
    ·rintro j19i8 h
     have h : kk20 j19i8 = some r := h
     rw [hkk20] at h
     dsimp only at h
     clear hkk20
     refine aw_show (m := (memOf w0 Z0 [] [(oBox g1 3 [(iq a0)])] [])) (S := (tab [(1, (str a1)), (5, (uq l11i5)), (6, (Value.func (.func 106) #[] #[(pq g1)])), (7, (str l11s7)), (8, (uq j19i8))])) ?_
     refine aw_region ?_
     refine al_mv rfl rfl ?_
     refine al_mv rfl rfl ?_
     refine al_mv rfl rfl ?_
     obtain ⟨r22, hc21, h⟩ := opt_some h
     refine al_call (vs := [(uq l11i5), (uq j19i8)]) (f_lumref_Step_ok fu l11i5 j19i8 hc21) [] [] [0] pre_nil rfl (by simp) (by decide) (.inl rfl) rfl Tryd.func107 rfl rfl rfl (fun _ => ?_)
     obtain ⟨r24, hc23, h⟩ := opt_some h
     refine al_callF (vs := [(uq r22)]) (caps := [(pq g1)]) (f_lumref_Narrow_1_ok fu r22 (pq g1) a0 hc23) rfl [0] [] [0] (pre_boxP (x := a0) 0 rfl rfl (fun _ _ => rfl) pre_nil) rfl (by simp) (by decide) (.inr flat_res0) rfl rfl Tryd.func106 rfl rfl rfl (fun _ => ?_)
     refine al_as rfl rfl ?_
     refine al_nil ?_
     refine aq_block ?_
     exact aq_join r24 h (fun w a hm hs => norm hm hs [0] [] [(1, (str a1)), (5, (uq r24)), (6, (Value.func (.func 106) #[] #[(pq g1)])), (7, (str l11s7))] (by decide) ⟨rfl, rfl, rfl, rfl, trivial⟩)
    ·clear hkk20
     refine aw_sr ?_
     refine al_as rfl rfl ?_
     refine al_nt ?_
     refine aw_block ?_
     refine aw_state (aw_loop (ι := Int × Int) (fun i => (memOf w0 Z0 [] [(oBox g1 3 [(iq a0)])] [])) (fun i => (tab [(1, (str a1)), (5, (uq l11i5)), (6, (Value.func (.func 106) #[] #[(pq g1)])), (7, (str l11s7)), (8, (uq i.1)), (9, (iq i.2))])) (fun q i => f_lumref_Narrow_L27 l11s7 kk20 q i.1 i.2 = some r) ?_ fu ((0 : Int), (7 : Int)) h) (fun w a hm hs => norm hm hs [0] [] [(1, (str a1)), (5, (uq l11i5)), (6, (Value.func (.func 106) #[] #[(pq g1)])), (7, (str l11s7)), (8, (uq (0 : Int))), (9, (iq (7 : Int)))] (by decide) ⟨rfl, rfl, rfl, rfl, rfl, rfl, trivial⟩)
     clear h
     rintro k26 ⟨l25i8, l25i9⟩ h
     have h : f_lumref_Narrow_L27 l11s7 kk20 k26 l25i8 l25i9 = some r := h
     obtain _ | k26 := k26
     · rw [f_lumref_Narrow_L27] at h; cases h
     rw [f_lumref_Narrow_L27] at h
     refine aw_show (m := (memOf w0 Z0 [] [(oBox g1 3 [(iq a0)])] [])) (S := (tab [(1, (str a1)), (5, (uq l11i5)), (6, (Value.func (.func 106) #[] #[(pq g1)])), (7, (str l11s7)), (8, (uq l25i8)), (9, (iq l25i9))])) ?_
     refine aw_seq ?_
     refine aw_sr ?_
     refine al_mv rfl rfl ?_
     refine al_in rfl rfl rfl rfl ?_
     refine al_nt ?_
     refine aw_cond rfl (fun hb28 => ?_) (fun hb28 => ?_)
     ·replace h := bif_t hb28 h
      refine aw_skip ?_
      refine aq_then ?_
      refine aw_seq ?_
      refine aw_block ?_
      refine aw_region ?_
      refine al_mv rfl rfl ?_
      refine al_in rfl rfl rfl rfl ?_
      refine al_mv rfl rfl ?_
      refine al_mv rfl rfl ?_
      obtain ⟨hc29, h⟩ := req_some h
      refine al_val (ov_strIdx hc29.1 hc29.2 Tryd.underlying9 rfl rfl rfl) ?_
      refine al_val (ov_convInt (by rw [Tryd.underlying5]; rfl) Tryd.underlying98 rfl rfl) ?_
      refine al_in rfl rfl rfl rfl ?_
      refine al_as rfl rfl ?_
      refine al_nil ?_
      refine aq_block ?_
      refine aq_then ?_
      refine aw_region ?_
      refine al_mv rfl rfl ?_
      refine al_in rfl rfl rfl rfl ?_
      refine al_as rfl rfl ?_
      refine al_nil ?_
      exact aq_again k26 ((wu ((wu ((256 : Int) * l25i8)) + (wu (En.bAt l11s7 l25i9)))), (wq (l25i9 - (1 : Int)))) (Nat.lt_succ_self _) h (fun w a hm hs => norm hm hs [0] [] [(1, (str a1)), (5, (uq l11i5)), (6, (Value.func (.func 106) #[] #[(pq g1)])), (7, (str l11s7)), (8, (uq (wu ((wu ((256 : Int) * l25i8)) + (wu (En.bAt l11s7 l25i9)))))), (9, (iq (wq (l25i9 - (1 : Int)))))] (by decide) ⟨rfl, rfl, rfl, rfl, rfl, rfl, trivial⟩)
     ·replace h := bif_f hb28 h
      refine aw_exit ?_
      refine aq_then_exit ?_
      refine aq_then_exit ?_
      refine aq_block_exit ?_
      exact aq_join l25i8 h (fun w a hm hs => norm hm hs [0] [] [(1, (str a1)), (5, (uq l11i5)), (6, (Value.func (.func 106) #[] #[(pq g1)])), (7, (str l11s7)), (8, (uq l25i8))] (by decide) ⟨rfl, rfl, rfl, rfl, rfl, trivial⟩)
  ·replace h := bif_f hb15 h
   refine aw_exit ?_
   refine aq_then_exit ?_
   refine aq_then_exit ?_
   refine aq_block_exit ?_
   exact aq_join l11i5 h (fun w a hm hs => norm hm hs [0] [] [(1, (str a1)), (5, (uq l11i5)), (6, (Value.func (.func 106) #[] #[(pq g1)]))] (by decide) ⟨rfl, rfl, rfl, trivial⟩)
def f_lumref_digits : Nat → Int → Option (List UInt8)
  | 0, _ => none
  | fu + 1, a0 => (bif (a0 == (0 : Int)) then (some ([] : List UInt8)) else (opt (f_lumref_digits fu (IntKind.u64.wrap ((a0).tdiv (256 : Int)))) fun (r3 : (List UInt8)) => (req (0 ≤ (IntKind.u8.wrap ((a0).tmod (256 : Int))) ∧ (IntKind.u8.wrap ((a0).tmod (256 : Int))) ≤ 255) (req (r3.length + ([(UInt8.ofNat ((IntKind.u8.wrap ((a0).tmod (256 : Int)))).toNat)]).length ≤ 9223372036854775807) (some (r3 ++ ([(UInt8.ofNat ((IntKind.u8.wrap ((a0).tmod (256 : Int)))).toNat)])))))))
set_option maxHeartbeats 2000000 in
set_option maxRecDepth 100000 in
theorem f_lumref_digits_ok (fu : Nat) (a0 : Int) {r : (List UInt8)} (h : f_lumref_digits fu a0 = some r) : FnOk Tryd.prog 91 [(int .u64 a0)] [] [] (fun (i : Unit) => { val := (str r) }) := by
 cases fu with
 | zero => rw [f_lumref_digits] at h; cases h
 | succ fu =>
  rw [f_lumref_digits] at h
  refine fn_enter Tryd.func91 rfl Tryd.ntmps91 rfl (fun w0 Z0 => ?_)
  refine aw_sr ?_
  refine al_as rfl rfl ?_
  refine al_nt ?_
  refine aw_seq ?_
  refine aw_sr ?_
  refine al_mv rfl rfl ?_
  refine al_in rfl rfl rfl rfl ?_
  refine al_nt ?_
  refine aw_cond rfl (fun hb1 => ?_) (fun hb1 => ?_)
  ·replace h := bif_t hb1 h
   refine aw_sr ?_
   refine al_as rfl rfl ?_
   refine al_nt ?_
   refine aw_ret ?_
   refine aq_then_ret ?_
   obtain rfl := Option.some.inj h
   exact fn_ret () [] [] rfl rfl rfl rfl (res1 rfl rfl) rfl rfl rfl (by decide)
  ·replace h := bif_f hb1 h
   refine aw_skip ?_
   refine aq_then ?_
   refine aw_seq ?_
   obtain ⟨r3, hc2, h⟩ := opt_some h
   obtain ⟨hc5, h⟩ := req_some h
   obtain ⟨hc6, h⟩ := req_some h
   refine aw_region_draw 9 [(5, (fun u => fEq u (uq a0))), (6, (fun u => fEq u (uq (wu ((a0).tdiv (256 : Int)))))), (7, (fun u => fEq u (str r3))), (8, (fun u => fEq u (uq a0))), (9, (fun u => fEq u (uq ((a0).tmod (256 : Int))))), (10, (fun u => fEq u (i8 (w8 ((a0).tmod (256 : Int)))))), (11, (fun v4 => (fDat (tyList tyU8) [v4] [(UInt8.ofNat ((w8 ((a0).tmod (256 : Int)))).toNat)]))), (12, (fun u => fEq u (str [(UInt8.ofNat ((w8 ((a0).tmod (256 : Int)))).toNat)]))), (13, (fun u => fEq u (str (r3 ++ ([(UInt8.ofNat ((w8 ((a0).tmod (256 : Int)))).toNat)])))))] (tab [(0, (uq a0)), (2, (str ([] : List UInt8)))]) mixed (by kernel_rfl) rfl rfl rfl (fun a hs => hs.tab _ (allT_mem ⟨rfl, rfl, trivial⟩)) ⟨⟨rfl, ld_val (ov_move rfl rfl)⟩, ⟨rfl, ld_eq (j := 0) rfl rfl (ld_val (ov_quo (by decide) rfl rfl rfl))⟩, ⟨rfl, ld_eq (j := 1) rfl rfl (ld_callV (vs := [(uq (wu ((a0).tdiv (256 : Int))))]) (f_lumref_digits_ok fu (wu ((a0).tdiv (256 : Int))) hc2) [] pre_nil rfl Tryd.func91 rfl rfl rfl)⟩, ⟨rfl, ld_val (ov_move rfl rfl)⟩, ⟨rfl, ld_eq (j := 3) rfl rfl (ld_val (ov_rem (by decide) rfl rfl rfl))⟩, ⟨rfl, ld_eq (j := 4) rfl rfl (ld_val (ov_convInt (by rw [Tryd.underlying98]; rfl) Tryd.underlying5 rfl rfl))⟩, ⟨rfl, ld_eq (j := 5) rfl rfl (ld_buildSlice (τ := tyU8) (e := 5) (k := 1) (cs := [(i8 (w8 ((a0).tmod (256 : Int))))]) (xs := [(UInt8.ofNat ((w8 ((a0).tmod (256 : Int)))).toNat)]) rfl (by decide) rfl (fun w a hm hs => ⟨([(i8 (w8 ((a0).tmod (256 : Int))))]).toArray, rfl, by simp only [List.map_toArray, List.map_cons, List.map_nil, hs.ev (x := .tmp 10) rfl]; exact run_bs [(i8 (w8 ((a0).tmod (256 : Int))))] [(i8 (w8 ((a0).tmod (256 : Int))))] Tryd.underlying60 to5 rfl rfl (bs_cons (l := [(i8 (w8 ((a0).tmod (256 : Int))))]) (cs := []) (cv_rfl rfl) rfl bs_nil) hm⟩) (fun hm => ⟨_, _, rfl, (fun _ => u8_rep hc5) hm, rfl⟩) rfl)⟩, ⟨rfl, ld_fact (j := 6) rfl rfl (fun v4 => ld_val (ov_toStr 0 rfl rfl Tryd.underlying60 Tryd.underlying5 Tryd.underlying9 rfl))⟩, ⟨rfl, ld_eq (j := 2) rfl rfl (ld_eq (j := 7) rfl rfl (ld_val (ov_strAdd hc6 rfl rfl rfl)))⟩, trivial⟩ ?_
   refine tl_eq 8 rfl ?_
   refine tl_done ?_
   refine al_as rfl rfl ?_
   refine al_nt ?_
   refine aw_ret ?_
   obtain rfl := Option.some.inj h
   exact fn_ret () [] [] rfl rfl rfl rfl (res1 rfl rfl) rfl rfl rfl (by decide)
def f_lumref_wide (fu : Nat) (a0 : Int) : Option (List UInt8) := (opt (f_lumref_digits fu a0) fun (r2 : (List UInt8)) => (opt (f_strings_Repeat fu ([0] : List UInt8) (IntKind.i64.wrap ((8 : Int) - (r2.length : Int)))) fun (r4 : (List UInt8)) => (req (r4.length + r2.length ≤ 9223372036854775807) (some (r4 ++ r2)))))
set_option maxRecDepth 100000 in
theorem f_lumref_wide_ok (fu : Nat) (a0 : Int) {r : (List UInt8)} (h : f_lumref_wide fu a0 = some r) : FnOk Tryd.prog 89 [(int .u64 a0)] [] [] (fun (i : Unit) => { val := (str r) }) := by
 unfold f_lumref_wide at h
 refine fn_enter Tryd.func89 rfl Tryd.ntmps89 rfl (fun w0 Z0 => ?_)
 refine aw_sr ?_
 refine al_as rfl rfl ?_
 refine al_nt ?_
 refine aw_sr ?_
 refine al_mv rfl rfl ?_
 obtain ⟨r2, hc1, h⟩ := opt_some h
 refine al_call (vs := [(uq a0)]) (f_lumref_digits_ok fu a0 hc1) [] [] [] pre_nil rfl (by simp) (by decide) (.inl rfl) rfl Tryd.func91 rfl rfl rfl (fun _ => ?_)
 refine al_as rfl rfl ?_
 refine al_nt ?_
 refine aw_sr ?_
 refine al_mv rfl rfl ?_
 refine al_val (ov_strLen Tryd.underlying9 rfl rfl) ?_
 refine al_in rfl rfl rfl rfl ?_
 obtain ⟨r4, hc3, h⟩ := opt_some h
 refine al_call (vs := [(str ([0] : List UInt8)), (iq (wq ((8 : Int) - (r2.length : Int))))]) (f_strings_Repeat_ok fu ([0] : List UInt8) (wq ((8 : Int) - (r2.length : Int))) hc3) [] [] [] pre_nil rfl (by simp) (by decide) (.inl rfl) rfl Tryd.func105 rfl rfl rfl (fun _ => ?_)
 refine al_mv rfl rfl ?_
 obtain ⟨hc5, h⟩ := req_some h
 refine al_val (ov_strAdd hc5 rfl rfl rfl) ?_
 refine al_as rfl rfl ?_
 refine al_nt ?_
 refine aw_ret ?_
 obtain rfl := Option.some.inj h
 exact fn_ret () [] [] rfl rfl rfl rfl (res1 rfl rfl) rfl rfl rfl (by decide)
def f_lumref_ID (fu : Nat) (a0 : (List UInt8)) : Option A8u8 := (opt (f_lumref_Narrow fu (64 : Int) a0) fun (r3 : Int) => (opt (f_lumref_wide fu r3) fun (r5 : (List UInt8)) => (req (r5.length ≤ 9223372036854775807) (req (8 ≤ r5.length) (some (ofA8u8 r5))))))
set_option maxRecDepth 100000 in
theorem f_lumref_ID_ok (fu : Nat) (a0 : (List UInt8)) {r : A8u8} (h : f_lumref_ID fu a0 = some r) : FnOk Tryd.prog 64 [(str a0)] [] [] (fun (i : Unit) => { val := (ag (cA8u8 r)) }) := by
 unfold f_lumref_ID at h
 refine fn_enter Tryd.func64 rfl Tryd.ntmps64 rfl (fun w0 Z0 => ?_)
 refine aw_sr ?_
 refine al_alloc (zs := (cA8u8 (A8u8.mk (0 : UInt8) (0 : UInt8) (0 : UInt8) (0 : UInt8) (0 : UInt8) (0 : UInt8) (0 : UInt8) (0 : UInt8)))) (zeroOf_to to62) rfl rfl (fun g1 => ?_)
 refine al_nt ?_
 refine aw_sr ?_
 refine al_mv rfl rfl ?_
 obtain ⟨r3, hc2, h⟩ := opt_some h
 refine al_call (vs := [(iq (64 : Int)), (str a0)]) (f_lumref_Narrow_ok fu (64 : Int) a0 hc2) [] [] [0] pre_nil rfl (by simp) (by decide) (.inl rfl) rfl Tryd.func90 rfl rfl rfl (fun _ => ?_)
 obtain ⟨r5, hc4, h⟩ := opt_some h
 refine al_call (vs := [(uq r3)]) (f_lumref_wide_ok fu r3 hc4) [] [] [0] pre_nil rfl (by simp) (by decide) (.inl rfl) rfl Tryd.func89 rfl rfl rfl (fun _ => ?_)
 obtain ⟨hc6, h⟩ := req_some h
 refine al_bytes hc6 rfl Tryd.underlying9 Tryd.underlying60 Tryd.underlying5 rfl (fun s7 => ?_)
 obtain ⟨hc9, h⟩ := req_some h
 refine al_s2ap (τA := tyA8u8) (x := (ofA8u8 r5)) 0 8 hc9 rfl (fun h9 => oflA8u8 hc9 h9) rfl rfl Tryd.underlying62 rfl (fun p8 => ?_)
 refine al_val (ov_loadP (ds := (cA8u8 (ofA8u8 r5))) 0 rfl encA8u8 rfl Tryd.underlying62 sz62 rfl rfl rfl) ?_
 refine al_store (i := 0) (vs := (cA8u8 (ofA8u8 r5))) (cs' := (cA8u8 (ofA8u8 r5))) rfl rfl rfl sz62 (cv_rfl rfl) rfl (co_all (oneA8u8 (ofA8u8 r5))) (Nat.le_of_ble_eq_true rfl) rfl rfl ?_
 refine al_nt ?_
 refine aw_ret ?_
 obtain rfl := Option.some.inj h
 exact fn_ret () [] [] rfl rfl rfl rfl (resC rfl (resB (i := 0) rfl rfl Tryd.underlying62 sz62 rfl rfl rfl (resN)) rfl) rfl rfl rfl (by decide)
def f_lumref_BlobID (fu : Nat) (a0 : S_api_Blob) : Option (A8u8 × Int) := (opt (f_lumref_kindOK fu a0.Kind) fun (r4 : Bool) => (bif (!r4) then (some ((A8u8.mk (0 : UInt8) (0 : UInt8) (0 : UInt8) (0 : UInt8) (0 : UInt8) (0 : UInt8) (0 : UInt8) (0 : UInt8)), (5 : Int))) else (bif (decide ((a0.Bytes.length : Int) > (4096 : Int))) then (some ((A8u8.mk (0 : UInt8) (0 : UInt8) (0 : UInt8) (0 : UInt8) (0 : UInt8) (0 : UInt8) (0 : UInt8) (0 : UInt8)), (2 : Int))) else (req (0 ≤ (IntKind.u8.wrap a0.Kind) ∧ (IntKind.u8.wrap a0.Kind) ≤ 255) (req (([(UInt8.ofNat ((IntKind.u8.wrap a0.Kind)).toNat)]).length + a0.Bytes.length ≤ 9223372036854775807) (opt (f_lumref_ID fu (([(UInt8.ofNat ((IntKind.u8.wrap a0.Kind)).toNat)]) ++ a0.Bytes)) fun (r11 : A8u8) => (some (r11, (0 : Int)))))))))
set_option maxHeartbeats 2000000 in
set_option maxRecDepth 100000 in
theorem f_lumref_BlobID_ok (fu : Nat) (a0 : S_api_Blob) {r : (A8u8 × Int)} (h : f_lumref_BlobID fu a0 = some r) : FnOk Tryd.prog 32 [(ag [(int .i64 a0.Kind), (str a0.Bytes)])] [] [] (fun (i : Unit) => { val := (Value.tuple #[(ag (cA8u8 r.1)), (int .i64 r.2)]) }) := by
 unfold f_lumref_BlobID at h
 refine fn_enter Tryd.func32 rfl Tryd.ntmps32 rfl (fun w0 Z0 => ?_)
 refine aw_sr ?_
 refine al_box (vs := [(iq a0.Kind), (str a0.Bytes)]) rfl (cv_rfl rfl) rfl (fun g1 => ?_)
 refine al_alloc (zs := (cA8u8 (A8u8.mk (0 : UInt8) (0 : UInt8) (0 : UInt8) (0 : UInt8) (0 : UInt8) (0 : UInt8) (0 : UInt8) (0 : UInt8)))) (zeroOf_to to62) rfl rfl (fun g2 => ?_)
 refine al_as rfl rfl ?_
 refine al_nt ?_
 refine aw_seq ?_
 refine aw_sr ?_
 refine al_val (ov_fieldA (p := 0) rfl Tryd.underlying41 rfl sz3 rfl rfl rfl) ?_
 refine al_val (ov_load (i := 1) (v := (iq a0.Kind)) rfl rfl Tryd.underlying3 sz3 rfl rfl rfl rfl) ?_
 obtain ⟨r4, hc3, h⟩ := opt_some h
 refine al_call (vs := [(iq a0.Kind)]) (f_lumref_kindOK_ok fu a0.Kind hc3) [] [] [0, 1] pre_nil rfl (by simp) (by decide) (.inl rfl) rfl Tryd.func38 rfl rfl rfl (fun _ => ?_)
 refine al_val (ov_not rfl rfl) ?_
 refine al_nt ?_
 refine aw_cond rfl (fun hb5 => ?_) (fun hb5 => ?_)
 ·replace h := bif_t hb5 h
  refine aw_sr ?_
  refine al_val (ov_build (cells := ((cA8u8 (A8u8.mk (0 : UInt8) (0 : UInt8) (0 : UInt8) (0 : UInt8) (0 : UInt8) (0 : UInt8) (0 : UInt8) (0 : UInt8)))).toArray) (cs := (cA8u8 (A8u8.mk (0 : UInt8) (0 : UInt8) (0 : UInt8) (0 : UInt8) (0 : UInt8) (0 : UInt8) (0 : UInt8) (0 : UInt8)))) rfl (fun w a hm hs => by simp only [List.map_toArray, List.map_cons, List.map_nil, List.toList_toArray]; kernel_rfl)) ?_
  refine al_store (i := 0) (vs := (cA8u8 (A8u8.mk (0 : UInt8) (0 : UInt8) (0 : UInt8) (0 : UInt8) (0 : UInt8) (0 : UInt8) (0 : UInt8) (0 : UInt8)))) (cs' := (cA8u8 (A8u8.mk (0 : UInt8) (0 : UInt8) (0 : UInt8) (0 : UInt8) (0 : UInt8) (0 : UInt8) (0 : UInt8) (0 : UInt8)))) rfl rfl rfl sz62 (cv_rfl rfl) rfl (co_all (oneA8u8 (A8u8.mk (0 : UInt8) (0 : UInt8) (0 : UInt8) (0 : UInt8) (0 : UInt8) (0 : UInt8) (0 : UInt8) (0 : UInt8)))) (Nat.le_of_ble_eq_true rfl) rfl rfl ?_
  refine al_as rfl rfl ?_
  refine al_nt ?_
  refine aw_ret ?_
  refine aq_then_ret ?_
  obtain rfl := Option.some.inj h
  exact fn_ret () [] [] rfl rfl rfl rfl (resC rfl (resB (i := 0) rfl rfl Tryd.underlying62 sz62 rfl rfl rfl (resT rfl (resN))) rfl) rfl rfl rfl (by decide)
 ·replace h := bif_f hb5 h
  refine aw_skip ?_
  refine aq_then ?_
  refine aw_seq ?_
  refine aw_sr ?_
  refine al_val (ov_fieldA (p := 1) rfl Tryd.underlying41 rfl sz9 rfl rfl rfl) ?_
  refine al_val (ov_load (i := 1) (v := (str a0.Bytes)) rfl rfl Tryd.underlying9 sz9 rfl rfl rfl rfl) ?_
  refine al_val (ov_strLen Tryd.underlying9 rfl rfl) ?_
  refine al_in rfl rfl rfl rfl ?_
  refine al_nt ?_
  refine aw_cond rfl (fun hb6 => ?_) (fun hb6 => ?_)
  ·replace h := bif_t hb6 h
   refine aw_sr ?_
   refine al_val (ov_build (cells := ((cA8u8 (A8u8.mk (0 : UInt8) (0 : UInt8) (0 : UInt8) (0 : UInt8) (0 : UInt8) (0 : UInt8) (0 : UInt8) (0 : UInt8)))).toArray) (cs := (cA8u8 (A8u8.mk (0 : UInt8) (0 : UInt8) (0 : UInt8) (0 : UInt8) (0 : UInt8) (0 : UInt8) (0 : UInt8) (0 : UInt8)))) rfl (fun w a hm hs => by simp only [List.map_toArray, List.map_cons, List.map_nil, List.toList_toArray]; kernel_rfl)) ?_
   refine al_store (i := 0) (vs := (cA8u8 (A8u8.mk (0 : UInt8) (0 : UInt8) (0 : UInt8) (0 : UInt8) (0 : UInt8) (0 : UInt8) (0 : UInt8) (0 : UInt8)))) (cs' := (cA8u8 (A8u8.mk (0 : UInt8) (0 : UInt8) (0 : UInt8) (0 : UInt8) (0 : UInt8) (0 : UInt8) (0 : UInt8) (0 : UInt8)))) rfl rfl rfl sz62 (cv_rfl rfl) rfl (co_all (oneA8u8 (A8u8.mk (0 : UInt8) (0 : UInt8) (0 : UInt8) (0 : UInt8) (0 : UInt8) (0 : UInt8) (0 : UInt8) (0 : UInt8)))) (Nat.le_of_ble_eq_true rfl) rfl rfl ?_
   refine al_as rfl rfl ?_
   refine al_nt ?_
   refine aw_ret ?_
   refine aq_then_ret ?_
   obtain rfl := Option.some.inj h
   exact fn_ret () [] [] rfl rfl rfl rfl (resC rfl (resB (i := 0) rfl rfl Tryd.underlying62 sz62 rfl rfl rfl (resT rfl (resN))) rfl) rfl rfl rfl (by decide)
  ·replace h := bif_f hb6 h
   refine aw_skip ?_
   refine aq_tr ?_
   refine al_val (ov_fieldA (p := 0) rfl Tryd.underlying41 rfl sz3 rfl rfl rfl) ?_
   refine al_val (ov_load (i := 1) (v := (iq a0.Kind)) rfl rfl Tryd.underlying3 sz3 rfl rfl rfl rfl) ?_
   refine al_val (ov_convInt (by rw [Tryd.underlying3]; rfl) Tryd.underlying5 rfl rfl) ?_
   obtain ⟨hc8, h⟩ := req_some h
   refine al_buildSlice (τ := tyU8) (e := 5) (k := 1) (sz := 0) (by_ := 0) (z := undef) (cs := [(i8 (w8 a0.Kind))]) (xs := [(UInt8.ofNat ((w8 a0.Kind)).toNat)]) rfl (by decide) (fun w a hm hs => ⟨([(i8 (w8 a0.Kind))]).toArray, rfl, by simp only [List.map_toArray, List.map_cons, List.map_nil, hs.ev (x := .tmp 16) rfl]; exact run_bs [(i8 (w8 a0.Kind))] [(i8 (w8 a0.Kind))] Tryd.underlying60 to5 rfl rfl (bs_cons (l := [(i8 (w8 a0.Kind))]) (cs := []) (cv_rfl rfl) rfl bs_nil) hm⟩) (fun hm => ⟨_, _, rfl, (fun _ => u8_rep hc8) hm, rfl⟩) rfl (fun v7 => ?_)
   refine al_val (ov_toStrR 0 rfl rfl Tryd.underlying60 Tryd.underlying5 Tryd.underlying9 rfl) ?_
   refine al_val (ov_fieldA (p := 1) rfl Tryd.underlying41 rfl sz9 rfl rfl rfl) ?_
   refine al_val (ov_load (i := 2) (v := (str a0.Bytes)) rfl rfl Tryd.underlying9 sz9 rfl rfl rfl rfl) ?_
   obtain ⟨hc9, h⟩ := req_some h
   refine al_val (ov_strAdd hc9 rfl rfl rfl) ?_
   obtain ⟨r11, hc10, h⟩ := opt_some h
   refine al_call (vs := [(str (([(UInt8.ofNat ((w8 a0.Kind)).toNat)]) ++ a0.Bytes))]) (f_lumref_ID_ok fu (([(UInt8.ofNat ((w8 a0.Kind)).toNat)]) ++ a0.Bytes) hc10) [] [] [0, 1, 2] pre_nil rfl (by simp) (by decide) (.inl rfl) rfl Tryd.func64 rfl rfl rfl (fun _ => ?_)
   refine al_store (i := 1) (vs := (cA8u8 r11)) (cs' := (cA8u8 r11)) rfl rfl rfl sz62 (cv_rfl rfl) rfl (co_all (oneA8u8 r11)) (Nat.le_of_ble_eq_true rfl) rfl rfl ?_
   refine al_as rfl rfl ?_
   refine al_nt ?_
   refine aw_ret ?_
   obtain rfl := Option.some.inj h
   exact fn_ret () [] [] rfl rfl rfl rfl (resC rfl (resB (i := 1) rfl rfl Tryd.underlying62 sz62 rfl rfl rfl (resT rfl (resN))) rfl) rfl rfl rfl (by decide)
def f_lumref_Put (fu : Nat) (a0 : Int) : Option (List UInt8) := (opt (f_lumref_digits fu a0) fun (r2 : (List UInt8)) => (req (0 ≤ (IntKind.u8.wrap (r2.length : Int)) ∧ (IntKind.u8.wrap (r2.length : Int)) ≤ 255) (req (([(UInt8.ofNat ((IntKind.u8.wrap (r2.length : Int))).toNat)]).length + r2.length ≤ 9223372036854775807) (some (([(UInt8.ofNat ((IntKind.u8.wrap (r2.length : Int))).toNat)]) ++ r2)))))
set_option maxHeartbeats 2000000 in
set_option maxRecDepth 100000 in
theorem f_lumref_Put_ok (fu : Nat) (a0 : Int) {r : (List UInt8)} (h : f_lumref_Put fu a0 = some r) : FnOk Tryd.prog 65 [(int .u64 a0)] [] [] (fun (i : Unit) => { val := (str r) }) := by
 unfold f_lumref_Put at h
 refine fn_enter Tryd.func65 rfl Tryd.ntmps65 rfl (fun w0 Z0 => ?_)
 refine aw_sr ?_
 refine al_as rfl rfl ?_
 refine al_nt ?_
 refine aw_sr ?_
 refine al_mv rfl rfl ?_
 obtain ⟨r2, hc1, h⟩ := opt_some h
 refine al_call (vs := [(uq a0)]) (f_lumref_digits_ok fu a0 hc1) [] [] [] pre_nil rfl (by simp) (by decide) (.inl rfl) rfl Tryd.func91 rfl rfl rfl (fun _ => ?_)
 refine al_as rfl rfl ?_
 refine al_nt ?_
 refine aw_sr ?_
 refine al_mv rfl rfl ?_
 refine al_val (ov_strLen Tryd.underlying9 rfl rfl) ?_
 refine al_val (ov_convInt (by rw [Tryd.underlying3]; rfl) Tryd.underlying5 rfl rfl) ?_
 obtain ⟨hc4, h⟩ := req_some h
 refine al_buildSlice (τ := tyU8) (e := 5) (k := 1) (sz := 0) (by_ := 0) (z := undef) (cs := [(i8 (w8 (r2.length : Int)))]) (xs := [(UInt8.ofNat ((w8 (r2.length : Int))).toNat)]) rfl (by decide) (fun w a hm hs => ⟨([(i8 (w8 (r2.length : Int)))]).toArray, rfl, by simp only [List.map_toArray, List.map_cons, List.map_nil, hs.ev (x := .tmp 8) rfl]; exact run_bs [(i8 (w8 (r2.length : Int)))] [(i8 (w8 (r2.length : Int)))] Tryd.underlying60 to5 rfl rfl (bs_cons (l := [(i8 (w8 (r2.length : Int)))]) (cs := []) (cv_rfl rfl) rfl bs_nil) hm⟩) (fun hm => ⟨_, _, rfl, (fun _ => u8_rep hc4) hm, rfl⟩) rfl (fun v3 => ?_)
 refine al_val (ov_toStrR 0 rfl rfl Tryd.underlying60 Tryd.underlying5 Tryd.underlying9 rfl) ?_
 refine al_mv rfl rfl ?_
 obtain ⟨hc5, h⟩ := req_some h
 refine al_val (ov_strAdd hc5 rfl rfl rfl) ?_
 refine al_as rfl rfl ?_
 refine al_nt ?_
 refine aw_ret ?_
 obtain rfl := Option.some.inj h
 exact fn_ret () [] [] rfl rfl rfl rfl (res1 rfl rfl) rfl rfl rfl (by decide)
def f_lumref_Frame (fu : Nat) (a0 : (List UInt8)) : Option (List UInt8) := (opt (f_lumref_Put fu (IntKind.u64.wrap (a0.length : Int))) fun (r2 : (List UInt8)) => (req (r2.length + a0.length ≤ 9223372036854775807) (opt (f_lumref_ID fu (r2 ++ a0)) fun (r5 : A8u8) => (req ((r2 ++ a0).length + (lA8u8 r5).length ≤ 9223372036854775807) (some ((r2 ++ a0) ++ (lA8u8 r5)))))))
set_option maxHeartbeats 2000000 in
set_option maxRecDepth 100000 in
theorem f_lumref_Frame_ok (fu : Nat) (a0 : (List UInt8)) {r : (List UInt8)} (h : f_lumref_Frame fu a0 = some r) : FnOk Tryd.prog 33 [(str a0)] [] [] (fun (i : Unit) => { val := (str r) }) := by
 unfold f_lumref_Frame at h
 refine fn_enter Tryd.func33 rfl Tryd.ntmps33 rfl (fun w0 Z0 => ?_)
 refine aw_sr ?_
 refine al_as rfl rfl ?_
 refine al_nt ?_
 refine aw_sr ?_
 refine al_mv rfl rfl ?_
 refine al_val (ov_strLen Tryd.underlying9 rfl rfl) ?_
 refine al_val (ov_convInt (by rw [Tryd.underlying3]; rfl) Tryd.underlying98 rfl rfl) ?_
 obtain ⟨r2, hc1, h⟩ := opt_some h
 refine al_call (vs := [(uq (wu (a0.length : Int)))]) (f_lumref_Put_ok fu (wu (a0.length : Int)) hc1) [] [] [] pre_nil rfl (by simp) (by decide) (.inl rfl) rfl Tryd.func65 rfl rfl rfl (fun _ => ?_)
 refine al_mv rfl rfl ?_
 obtain ⟨hc3, h⟩ := req_some h
 refine al_val (ov_strAdd hc3 rfl rfl rfl) ?_
 refine al_as rfl rfl ?_
 refine al_nt ?_
 refine aw_sr ?_
 refine al_mv rfl rfl ?_
 obtain ⟨r5, hc4, h⟩ := opt_some h
 refine al_call (vs := [(str (r2 ++ a0))]) (f_lumref_ID_ok fu (r2 ++ a0) hc4) [] [] [] pre_nil rfl (by simp) (by decide) (.inl rfl) rfl Tryd.func64 rfl rfl rfl (fun _ => ?_)
 refine al_alloc (zs := (cA8u8 (A8u8.mk (0 : UInt8) (0 : UInt8) (0 : UInt8) (0 : UInt8) (0 : UInt8) (0 : UInt8) (0 : UInt8) (0 : UInt8)))) (zeroOf_to to62) rfl rfl (fun g6 => ?_)
 refine al_store (i := 0) (vs := (cA8u8 r5)) (cs' := (cA8u8 r5)) rfl rfl rfl sz62 (cv_rfl rfl) rfl (co_all (oneA8u8 r5)) (Nat.le_of_ble_eq_true rfl) rfl rfl ?_
 refine al_nt ?_
 refine aw_seq ?_
 refine aw_freezeB 0 (r5) rfl rfl (fun _ _ => mkA8u8 rfl) ?_
 refine aw_region ?_
 refine al_mv rfl rfl ?_
 refine al_of (of_sliceP 0 lrepA8u8 rfl rfl rfl rfl Tryd.underlying62 sz5 rfl) (fun s7 => ?_)
 refine al_val (ov_toStr 0 rfl rfl Tryd.underlying60 Tryd.underlying5 Tryd.underlying9 rfl) ?_
 obtain ⟨hc8, h⟩ := req_some h
 refine al_val (ov_strAdd hc8 rfl rfl rfl) ?_
 refine al_as rfl rfl ?_
 refine al_nt ?_
 refine aw_ret ?_
 obtain rfl := Option.some.inj h
 exact fn_ret () [] [] rfl rfl rfl rfl (res1 rfl rfl) rfl rfl rfl (by decide)
def f_lumref_Texts_L7 (j1s4 : (List UInt8)) (kk4 : ((List (List UInt8)) → Option ((List (List UInt8)) × Int))) : Nat → (List (List UInt8)) → Int → Option ((List (List UInt8)) × Int)
  | 0, _, _ => none
  | k6 + 1, l5x9, l5i10 => (bif (decide (l5i10 < (j1s4.length : Int))) then (req (0 ≤ l5i10 ∧ l5i10 ≤ (if (j1s4.length : Int) < (IntKind.i64.wrap (l5i10 + (1024 : Int))) then (j1s4.length : Int) else (IntKind.i64.wrap (l5i10 + (1024 : Int)))) ∧ (if (j1s4.length : Int) < (IntKind.i64.wrap (l5i10 + (1024 : Int))) then (j1s4.length : Int) else (IntKind.i64.wrap (l5i10 + (1024 : Int)))) ≤ (j1s4.length : Int)) (req (((l5x9.length + ([(cut j1s4 l5i10 (if (j1s4.length : Int) < (IntKind.i64.wrap (l5i10 + (1024 : Int))) then (j1s4.length : Int) else (IntKind.i64.wrap (l5i10 + (1024 : Int)))))]).length) * 16 : Nat) ≤ 140737488355328 ∧ l5x9.length + ([(cut j1s4 l5i10 (if (j1s4.length : Int) < (IntKind.i64.wrap (l5i10 + (1024 : Int))) then (j1s4.length : Int) else (IntKind.i64.wrap (l5i10 + (1024 : Int)))))]).length ≤ 9223372036854775807) (f_lumref_Texts_L7 j1s4 kk4 k6 (l5x9 ++ ([(cut j1s4 l5i10 (if (j1s4.length : Int) < (IntKind.i64.wrap (l5i10 + (1024 : Int))) then (j1s4.length : Int) else (IntKind.i64.wrap (l5i10 + (1024 : Int)))))])) (IntKind.i64.wrap (l5i10 + (1024 : Int)))))) else (kk4 l5x9))
def f_lumref_Texts_L15 (a0 : (List S_api_Blob)) (kk2 : ((List UInt8) → Option ((List (List UInt8)) × Int))) (fu : Nat) : Nat → (List UInt8) → Int → Option ((List (List UInt8)) × Int)
  | 0, _, _ => none
  | k14 + 1, l13s4, l13i13 => (bif (decide (l13i13 < (a0.length : Int))) then (opt (at? a0 l13i13) fun (u17 : S_api_Blob) => (opt (f_lumref_BlobID fu u17) fun (r22 : (A8u8 × Int)) => (bif (r22.2 != (0 : Int)) then (some (([] : List (List UInt8)), r22.2)) else (bif (decide ((u17.Bytes.length : Int) > (4095 : Int))) then (some (([] : List (List UInt8)), (2 : Int))) else (req (0 ≤ (IntKind.u8.wrap u17.Kind) ∧ (IntKind.u8.wrap u17.Kind) ≤ 255) (req (([(UInt8.ofNat ((IntKind.u8.wrap u17.Kind)).toNat)]).length + u17.Bytes.length ≤ 9223372036854775807) (opt (f_lumref_Frame fu (([(UInt8.ofNat ((IntKind.u8.wrap u17.Kind)).toNat)]) ++ u17.Bytes)) fun (r30 : (List UInt8)) => (req (l13s4.length + r30.length ≤ 9223372036854775807) (bif (decide (((l13s4 ++ r30).length : Int) > (2048000 : Int))) then (some (([] : List (List UInt8)), (2 : Int))) else (f_lumref_Texts_L15 a0 kk2 fu k14 (l13s4 ++ r30) (IntKind.i64.wrap (l13i13 + (1 : Int))))))))))))) else (kk2 l13s4))
def f_lumref_Texts (fu : Nat) (a0 : (List S_api_Blob)) : Option ((List (List UInt8)) × Int) := (lt (fun (j1s4 : (List UInt8)) => (lt (fun (j3x9 : (List (List UInt8))) => (some (j3x9, (0 : Int)))) fun (kk4 : (List (List UInt8)) → Option ((List (List UInt8)) × Int)) => (f_lumref_Texts_L7 j1s4 kk4 fu ([] : List (List UInt8)) (0 : Int)))) fun (kk2 : (List UInt8) → Option ((List (List UInt8)) × Int)) => (f_lumref_Texts_L15 a0 kk2 fu fu ([] : List UInt8) (0 : Int)))
set_option maxRecDepth 100000 in
set_option maxHeartbeats 2000000 in
set_option maxHeartbeats 2000000 in
theorem f_lumref_Texts_ok (fu : Nat) (v0_0 : Value) (a0 : (List S_api_Blob)) {r : ((List (List UInt8)) × Int)} (h : f_lumref_Texts fu a0 = some r) : FnOk Tryd.prog 13 [v0_0] [(fDat (tyList tyS_api_Blob) [v0_0] a0)] [] (fun (i : Value) => { val := (Value.tuple #[i, (int .i64 r.2)]), own := [(oRow i 9 tyStr r.1)] }) := by
 unfold f_lumref_Texts at h
 refine fn_enter Tryd.func13 rfl Tryd.ntmps13 rfl (fun w0 Z0 => ?_)
 refine aw_sr ?_
 refine al_as rfl rfl ?_
 refine al_as rfl rfl ?_
 refine al_nt ?_
 refine aw_sr ?_
 refine al_as rfl rfl ?_
 refine al_nt ?_
 obtain ⟨kk2, hkk2, h⟩ := lt_some h
 refine aw_seq_join (ι := (List UInt8)) (fun i => (memOf w0 Z0 [] [] [(fDat (tyList tyS_api_Blob) [v0_0] a0)])) (fun i => (tab [(4, (str i))])) (fun i => kk2 i = some r) ?_ ?_
 ·rintro j1s4 h
  have h : kk2 j1s4 = some r := h
  rw [hkk2] at h
  dsimp only at h
  clear hkk2
  refine aw_show (m := (memOf w0 Z0 [] [] [(fDat (tyList tyS_api_Blob) [v0_0] a0)])) (S := (tab [(4, (str j1s4))])) ?_
  refine aw_sr ?_
  refine al_as rfl rfl ?_
  refine al_nt ?_
  obtain ⟨kk4, hkk4, h⟩ := lt_some h
  refine aw_seq_join (ι := Value × (List (List UInt8))) (fun i => (memOf w0 Z0 [] [(oRow i.1 9 tyStr i.2)] [(fDat (tyList tyS_api_Blob) [v0_0] a0)])) (fun i => (tab [(9, i.1)])) (fun i => kk4 i.2 = some r) ?_ ?_
  ·rintro ⟨j3v9, j3x9⟩ h
   have h : kk4 j3x9 = some r := h
   rw [hkk4] at h
   dsimp only at h
   clear hkk4
   refine aw_show (m := (memOf w0 Z0 [] [(oRow j3v9 9 tyStr j3x9)] [(fDat (tyList tyS_api_Blob) [v0_0] a0)])) (S := (tab [(9, j3v9)])) ?_
   refine aw_sr ?_
   refine al_mv rfl rfl ?_
   refine al_as rfl rfl ?_
   refine al_as rfl rfl ?_
   refine al_nt ?_
   refine aw_ret ?_
   obtain rfl := Option.some.inj h
   exact fn_ret j3v9 [0] [] rfl rfl rfl rfl (res2 rfl rfl rfl) rfl rfl rfl (by decide)
  ·clear hkk4
   refine aw_sr ?_
   refine al_as rfl rfl ?_
   refine al_nt ?_
   refine aw_block ?_
   refine aw_nilR 9 tyStr ?_
   refine aw_state (aw_loop (ι := Value × (List (List UInt8)) × Int) (fun i => (memOf w0 Z0 [] [(oRow i.1 9 tyStr i.2.1)] [(fDat (tyList tyS_api_Blob) [v0_0] a0)])) (fun i => (tab [(4, (str j1s4)), (9, i.1), (10, (iq i.2.2))])) (fun q i => f_lumref_Texts_L7 j1s4 kk4 q i.2.1 i.2.2 = some r) ?_ fu (nS, ([] : List (List UInt8)), (0 : Int)) h) (fun w a hm hs => norm hm hs [0] [0] [(4, (str j1s4)), (9, nS), (10, (iq (0 : Int)))] (by decide) ⟨rfl, rfl, rfl, trivial⟩)
   clear h
   rintro k6 ⟨l5v9, l5x9, l5i10⟩ h
   have h : f_lumref_Texts_L7 j1s4 kk4 k6 l5x9 l5i10 = some r := h
   obtain _ | k6 := k6
   · rw [f_lumref_Texts_L7] at h; cases h
   rw [f_lumref_Texts_L7] at h
   refine aw_show (m := (memOf w0 Z0 [] [(oRow l5v9 9 tyStr l5x9)] [(fDat (tyList tyS_api_Blob) [v0_0] a0)])) (S := (tab [(4, (str j1s4)), (9, l5v9), (10, (iq l5i10))])) ?_
   refine aw_seq ?_
   refine aw_sr ?_
   refine al_mv rfl rfl ?_
   refine al_mv rfl rfl ?_
   refine al_val (ov_strLen Tryd.underlying9 rfl rfl) ?_
   refine al_in rfl rfl rfl rfl ?_
   refine al_nt ?_
   refine aw_cond rfl (fun hb8 => ?_) (fun hb8 => ?_)
   ·replace h := bif_t hb8 h
    refine aw_skip ?_
    refine aq_then ?_
    refine aw_seq ?_
    refine aw_block ?_
    refine aw_region ?_
    refine al_mv rfl rfl ?_
    refine al_mv rfl rfl ?_
    refine al_mv rfl rfl ?_
    refine al_mv rfl rfl ?_
    refine al_in rfl rfl rfl rfl ?_
    refine al_mv rfl rfl ?_
    refine al_val (ov_strLen Tryd.underlying9 rfl rfl) ?_
    refine al_val (ov_min rfl rfl rfl) ?_
    obtain ⟨hc9, h⟩ := req_some h
    refine al_val (ov_strCut hc9.1 hc9.2.1 hc9.2.2 Tryd.underlying9 rfl rfl rfl rfl) ?_
    refine al_buildSlice (τ := tyStr) (e := 9) (k := 1) (sz := 0) (by_ := 0) (z := undef) (cs := [(str (cut j1s4 l5i10 (if (j1s4.length : Int) < (wq (l5i10 + (1024 : Int))) then (j1s4.length : Int) else (wq (l5i10 + (1024 : Int))))))]) (xs := [(cut j1s4 l5i10 (if (j1s4.length : Int) < (wq (l5i10 + (1024 : Int))) then (j1s4.length : Int) else (wq (l5i10 + (1024 : Int)))))]) rfl (by decide) (fun w a hm hs => ⟨([(str (cut j1s4 l5i10 (if (j1s4.length : Int) < (wq (l5i10 + (1024 : Int))) then (j1s4.length : Int) else (wq (l5i10 + (1024 : Int))))))]).toArray, rfl, by simp only [List.map_toArray, List.map_cons, List.map_nil, hs.ev (x := .tmp 58) rfl]; exact run_bs [(str (cut j1s4 l5i10 (if (j1s4.length : Int) < (wq (l5i10 + (1024 : Int))) then (j1s4.length : Int) else (wq (l5i10 + (1024 : Int))))))] [(str (cut j1s4 l5i10 (if (j1s4.length : Int) < (wq (l5i10 + (1024 : Int))) then (j1s4.length : Int) else (wq (l5i10 + (1024 : Int))))))] Tryd.underlying22 to9 rfl rfl (bs_cons (l := [(str (cut j1s4 l5i10 (if (j1s4.length : Int) < (wq (l5i10 + (1024 : Int))) then (j1s4.length : Int) else (wq (l5i10 + (1024 : Int))))))]) (cs := []) (cv_rfl rfl) rfl bs_nil) hm⟩) (fun hm => ⟨_, _, rfl, (fun _ => rfl) hm, rfl⟩) rfl (fun v10 => ?_)
    obtain ⟨hc11, h⟩ := req_some h
    refine al_append 1 hc11.1 hc11.2 rfl (src_own (i := 1) 0 rfl) rfl rfl Tryd.underlying22 to9 rfl rfl rfl (fun v12 => ?_)
    refine al_as rfl rfl ?_
    refine al_nil ?_
    refine aq_block ?_
    refine aq_then ?_
    refine aw_region ?_
    refine al_mv rfl rfl ?_
    refine al_in rfl rfl rfl rfl ?_
    refine al_as rfl rfl ?_
    refine al_nil ?_
    exact aq_again k6 (v12, (l5x9 ++ ([(cut j1s4 l5i10 (if (j1s4.length : Int) < (wq (l5i10 + (1024 : Int))) then (j1s4.length : Int) else (wq (l5i10 + (1024 : Int)))))])), (wq (l5i10 + (1024 : Int)))) (Nat.lt_succ_self _) h (fun w a hm hs => norm hm hs [1] [0] [(4, (str j1s4)), (9, v12), (10, (iq (wq (l5i10 + (1024 : Int)))))] (by decide) ⟨rfl, rfl, rfl, trivial⟩)
   ·replace h := bif_f hb8 h
    refine aw_exit ?_
    refine aq_then_exit ?_
    refine aq_then_exit ?_
    refine aq_block_exit ?_
    exact aq_join (l5v9, l5x9) h (fun w a hm hs => norm hm hs [0] [0] [(9, l5v9)] (by decide) ⟨rfl, trivial⟩)
 ·clear hkk2
  refine aw_sr ?_
  refine al_mv rfl rfl ?_
  refine al_val (ov_lenD 0 rfl rfl Tryd.underlying33 rfl) ?_
  refine al_mv rfl rfl ?_
  refine al_nt ?_
  refine aw_block ?_
  refine aw_state (aw_loop (ι := (List UInt8) × Int) (fun i => (memOf w0 Z0 [] [] [(fDat (tyList tyS_api_Blob) [v0_0] a0)])) (fun i => (tab [(4, (str i.1)), (11, v0_0), (12, (iq (a0.length : Int))), (13, (iq i.2))])) (fun q i => f_lumref_Texts_L15 a0 kk2 fu q i.1 i.2 = some r) ?_ fu (([] : List UInt8), (0 : Int)) h) (fun w a hm hs => norm hm hs [] [0] [(4, (str ([] : List UInt8))), (11, v0_0), (12, (iq (a0.length : Int))), (13, (iq (0 : Int)))] (by decide) ⟨rfl, rfl, rfl, rfl, trivial⟩)
  clear h
  rintro k14 ⟨l13s4, l13i13⟩ h
  have h : f_lumref_Texts_L15 a0 kk2 fu k14 l13s4 l13i13 = some r := h
  obtain _ | k14 := k14
  · rw [f_lumref_Texts_L15] at h; cases h
  rw [f_lumref_Texts_L15] at h
  refine aw_show (m := (memOf w0 Z0 [] [] [(fDat (tyList tyS_api_Blob) [v0_0] a0)])) (S := (tab [(4, (str l13s4)), (11, v0_0), (12, (iq (a0.length : Int))), (13, (iq l13i13))])) ?_
  refine aw_sr ?_
  refine al_in rfl rfl rfl rfl ?_
  refine al_nt ?_
  refine aw_seq ?_
  refine aw_cond rfl (fun hb16 => ?_) (fun hb16 => ?_)
  ·replace h := bif_t hb16 h
   refine aw_skip ?_
   refine aq_then ?_
   refine aw_seq ?_
   refine aw_block ?_
   refine aw_sr ?_
   obtain ⟨u17, hu18, h⟩ := opt_some h
   refine al_idxD 0 hu18 rfl rfl rfl Tryd.underlying33 sz41 rfl (fun p19 => ?_)
   refine al_val (ov_loadP (ds := [(iq u17.Kind), (str u17.Bytes)]) 0 rfl encS_api_Blob rfl Tryd.underlying41 sz41 rfl rfl rfl) ?_
   refine al_alloc (zs := [(iq (0 : Int)), (str ([] : List UInt8))]) (zeroOf_to to41) rfl rfl (fun g20 => ?_)
   refine al_store (i := 0) (vs := [(iq u17.Kind), (str u17.Bytes)]) (cs' := [(iq u17.Kind), (str u17.Bytes)]) rfl rfl rfl sz41 (cv_rfl rfl) rfl (co_val rfl (co_val rfl co_nil)) (Nat.le_of_ble_eq_true rfl) rfl rfl ?_
   refine al_nt ?_
   refine aw_seq ?_
   refine aw_sr ?_
   refine al_val (ov_load (i := 0) (v := (ag [(iq u17.Kind), (str u17.Bytes)])) rfl rfl Tryd.underlying41 sz41 rfl rfl rfl rfl) ?_
   obtain ⟨r22, hc21, h⟩ := opt_some h
   refine al_call (vs := [(ag [(iq u17.Kind), (str u17.Bytes)])]) (f_lumref_BlobID_ok fu u17 hc21) [] [] [0] pre_nil rfl (by simp) (by decide) (.inl rfl) rfl Tryd.func32 rfl rfl rfl (fun _ => ?_)
   refine al_mv rfl rfl ?_
   refine al_ex rfl rfl rfl ?_
   refine al_ex rfl rfl rfl ?_
   refine al_alloc (zs := (cA8u8 (A8u8.mk (0 : UInt8) (0 : UInt8) (0 : UInt8) (0 : UInt8) (0 : UInt8) (0 : UInt8) (0 : UInt8) (0 : UInt8)))) (zeroOf_to to62) rfl rfl (fun g23 => ?_)
   refine al_store (i := 0) (vs := (cA8u8 r22.1)) (cs' := (cA8u8 r22.1)) rfl rfl rfl sz62 (cv_rfl rfl) rfl (co_all (oneA8u8 r22.1)) (Nat.le_of_ble_eq_true rfl) rfl rfl ?_
   refine al_as rfl rfl ?_
   refine al_nt ?_
   refine aw_sr ?_
   refine al_mv rfl rfl ?_
   refine al_in rfl rfl rfl rfl ?_
   refine al_nt ?_
   refine aw_cond rfl (fun hb24 => ?_) (fun hb24 => ?_)
   ·replace h := bif_t hb24 h
    refine aw_sr ?_
    refine al_mv rfl rfl ?_
    refine al_as rfl rfl ?_
    refine al_as rfl rfl ?_
    refine al_nt ?_
    refine aw_ret ?_
    refine aq_then_ret ?_
    refine aq_block_ret ?_
    refine aq_then_ret ?_
    refine aq_then_ret ?_
    refine aq_block_ret ?_
    refine aq_then_ret ?_
    refine aq_nilR 9 tyStr ?_
    obtain rfl := Option.some.inj h
    exact fn_ret nS [0] [] rfl rfl rfl rfl (res2 rfl rfl rfl) rfl rfl rfl (by decide)
   ·replace h := bif_f hb24 h
    refine aw_skip ?_
    refine aq_then ?_
    refine aw_seq ?_
    refine aw_sr ?_
    refine al_val (ov_fieldA (p := 1) rfl Tryd.underlying41 rfl sz9 rfl rfl rfl) ?_
    refine al_val (ov_load (i := 1) (v := (str u17.Bytes)) rfl rfl Tryd.underlying9 sz9 rfl rfl rfl rfl) ?_
    refine al_val (ov_strLen Tryd.underlying9 rfl rfl) ?_
    refine al_in rfl rfl rfl rfl ?_
    refine al_nt ?_
    refine aw_cond rfl (fun hb25 => ?_) (fun hb25 => ?_)
    ·replace h := bif_t hb25 h
     refine aw_sr ?_
     refine al_as rfl rfl ?_
     refine al_as rfl rfl ?_
     refine al_nt ?_
     refine aw_ret ?_
     refine aq_then_ret ?_
     refine aq_block_ret ?_
     refine aq_then_ret ?_
     refine aq_then_ret ?_
     refine aq_block_ret ?_
     refine aq_then_ret ?_
     refine aq_nilR 9 tyStr ?_
     obtain rfl := Option.some.inj h
     exact fn_ret nS [0] [] rfl rfl rfl rfl (res2 rfl rfl rfl) rfl rfl rfl (by decide)
    ·replace h := bif_f hb25 h
     refine aw_skip ?_
     refine aq_tr ?_
     refine al_mv rfl rfl ?_
     refine al_val (ov_fieldA (p := 0) rfl Tryd.underlying41 rfl sz3 rfl rfl rfl) ?_
     refine al_val (ov_load (i := 1) (v := (iq u17.Kind)) rfl rfl Tryd.underlying3 sz3 rfl rfl rfl rfl) ?_
     refine al_val (ov_convInt (by rw [Tryd.underlying3]; rfl) Tryd.underlying5 rfl rfl) ?_
     obtain ⟨hc27, h⟩ := req_some h
     refine al_buildSlice (τ := tyU8) (e := 5) (k := 1) (sz := 0) (by_ := 0) (z := undef) (cs := [(i8 (w8 u17.Kind))]) (xs := [(UInt8.ofNat ((w8 u17.Kind)).toNat)]) rfl (by decide) (fun w a hm hs => ⟨([(i8 (w8 u17.Kind))]).toArray, rfl, by simp only [List.map_toArray, List.map_cons, List.map_nil, hs.ev (x := .tmp 32) rfl]; exact run_bs [(i8 (w8 u17.Kind))] [(i8 (w8 u17.Kind))] Tryd.underlying60 to5 rfl rfl (bs_cons (l := [(i8 (w8 u17.Kind))]) (cs := []) (cv_rfl rfl) rfl bs_nil) hm⟩) (fun hm => ⟨_, _, rfl, (fun _ => u8_rep hc27) hm, rfl⟩) rfl (fun v26 => ?_)
     refine al_val (ov_toStrR 0 rfl rfl Tryd.underlying60 Tryd.underlying5 Tryd.underlying9 rfl) ?_
     refine al_val (ov_fieldA (p := 1) rfl Tryd.underlying41 rfl sz9 rfl rfl rfl) ?_
     refine al_val (ov_load (i := 2) (v := (str u17.Bytes)) rfl rfl Tryd.underlying9 sz9 rfl rfl rfl rfl) ?_
     obtain ⟨hc28, h⟩ := req_some h
     refine al_val (ov_strAdd hc28 rfl rfl rfl) ?_
     obtain ⟨r30, hc29, h⟩ := opt_some h
     refine al_call (vs := [(str (([(UInt8.ofNat ((w8 u17.Kind)).toNat)]) ++ u17.Bytes))]) (f_lumref_Frame_ok fu (([(UInt8.ofNat ((w8 u17.Kind)).toNat)]) ++ u17.Bytes) hc29) [] [] [0, 1, 2] pre_nil rfl (by simp) (by decide) (.inl rfl) rfl Tryd.func33 rfl rfl rfl (fun _ => ?_)
     obtain ⟨hc31, h⟩ := req_some h
     refine al_val (ov_strAdd hc31 rfl rfl rfl) ?_
     refine al_as rfl rfl ?_
     refine al_nt ?_
     refine aw_sr ?_
     refine al_mv rfl rfl ?_
     refine al_val (ov_strLen Tryd.underlying9 rfl rfl) ?_
     refine al_in rfl rfl rfl rfl ?_
     refine al_nt ?_
     refine aw_cond rfl (fun hb32 => ?_) (fun hb32 => ?_)
     ·replace h := bif_t hb32 h
      refine aw_sr ?_
      refine al_as rfl rfl ?_
      refine al_as rfl rfl ?_
      refine al_nt ?_
      refine aw_ret ?_
      refine aq_block_ret ?_
      refine aq_then_ret ?_
      refine aq_then_ret ?_
      refine aq_block_ret ?_
      refine aq_then_ret ?_
      refine aq_nilR 9 tyStr ?_
      obtain rfl := Option.some.inj h
      exact fn_ret nS [0] [] rfl rfl rfl rfl (res2 rfl rfl rfl) rfl rfl rfl (by decide)
     ·replace h := bif_f hb32 h
      refine aw_skip ?_
      refine aq_block ?_
      refine aq_then ?_
      refine aw_region ?_
      refine al_in rfl rfl rfl rfl ?_
      refine al_mv rfl rfl ?_
      refine al_nil ?_
      exact aq_again k14 ((l13s4 ++ r30), (wq (l13i13 + (1 : Int)))) (Nat.lt_succ_self _) h (fun w a hm hs => norm hm hs [] [1] [(4, (str (l13s4 ++ r30))), (11, v0_0), (12, (iq (a0.length : Int))), (13, (iq (wq (l13i13 + (1 : Int)))))] (by decide) ⟨rfl, rfl, rfl, rfl, trivial⟩)
  ·replace h := bif_f hb16 h
   refine aw_exit ?_
   refine aq_then_exit ?_
   refine aq_then_exit ?_
   refine aq_block_exit ?_
   exact aq_join l13s4 h (fun w a hm hs => norm hm hs [] [0] [(4, (str l13s4))] (by decide) ⟨rfl, trivial⟩)
def f_num_value_L5 (a0 : (List UInt8)) (kk2 : (Int → Option Int)) : Nat → Int → Int → Option Int
  | 0, _, _ => none
  | k4 + 1, l3i3, l3i7 => (bif (decide (l3i7 < (a0.length : Int))) then (req (0 ≤ l3i7 ∧ l3i7 < (a0.length : Int)) (f_num_value_L5 a0 kk2 k4 (bits .or .u64 (IntKind.u64.wrap (l3i3 * 2 ^ min ((8 : Int)).toNat (IntKind.bits .u64))) (IntKind.u64.wrap (En.bAt a0 l3i7))) (IntKind.i64.wrap (l3i7 + (1 : Int))))) else (kk2 l3i3))
def f_num_value (fu : Nat) (a0 : (List UInt8)) : Option Int := (lt (fun (j1i3 : Int) => (some j1i3)) fun (kk2 : Int → Option Int) => (f_num_value_L5 a0 kk2 fu (0 : Int) (0 : Int)))
set_option maxHeartbeats 2000000 in
set_option maxRecDepth 100000 in
theorem f_num_value_ok (fu : Nat) (a0 : (List UInt8)) {r : Int} (h : f_num_value fu a0 = some r) : FnOk Tryd.prog 94 [(str a0)] [] [] (fun (i : Unit) => { val := (int .u64 r) }) := by
 unfold f_num_value at h
 refine fn_enter Tryd.func94 rfl Tryd.ntmps94 rfl (fun w0 Z0 => ?_)
 refine aw_sr ?_
 refine al_as rfl rfl ?_
 refine al_nt ?_
 refine aw_sr ?_
 refine al_as rfl rfl ?_
 refine al_nt ?_
 obtain ⟨kk2, hkk2, h⟩ := lt_some h
 refine aw_seq_join (ι := Int) (fun i => (memOf w0 Z0 [] [] [])) (fun i => (tab [(3, (uq i))])) (fun i => kk2 i = some r) ?_ ?_
 ·rintro j1i3 h
  have h : kk2 j1i3 = some r := h
  rw [hkk2] at h
  dsimp only at h
  clear hkk2
  refine aw_show (m := (memOf w0 Z0 [] [] [])) (S := (tab [(3, (uq j1i3))])) ?_
  refine aw_sr ?_
  refine al_mv rfl rfl ?_
  refine al_as rfl rfl ?_
  refine al_nt ?_
  refine aw_ret ?_
  obtain rfl := Option.some.inj h
  exact fn_ret () [] [] rfl rfl rfl rfl (res1 rfl rfl) rfl rfl rfl (by decide)
 ·clear hkk2
  refine aw_sr ?_
  refine al_mv rfl rfl ?_
  refine al_val (ov_strLen Tryd.underlying9 rfl rfl) ?_
  refine al_mv rfl rfl ?_
  refine al_nt ?_
  refine aw_block ?_
  refine aw_state (aw_loop (ι := Int × Int) (fun i => (memOf w0 Z0 [] [] [])) (fun i => (tab [(0, (str a0)), (3, (uq i.1)), (6, (iq (a0.length : Int))), (7, (iq i.2))])) (fun q i => f_num_value_L5 a0 kk2 q i.1 i.2 = some r) ?_ fu ((0 : Int), (0 : Int)) h) (fun w a hm hs => norm hm hs [] [] [(0, (str a0)), (3, (uq (0 : Int))), (6, (iq (a0.length : Int))), (7, (iq (0 : Int)))] (by decide) ⟨rfl, rfl, rfl, rfl, trivial⟩)
  clear h
  rintro k4 ⟨l3i3, l3i7⟩ h
  have h : f_num_value_L5 a0 kk2 k4 l3i3 l3i7 = some r := h
  obtain _ | k4 := k4
  · rw [f_num_value_L5] at h; cases h
  rw [f_num_value_L5] at h
  refine aw_show (m := (memOf w0 Z0 [] [] [])) (S := (tab [(0, (str a0)), (3, (uq l3i3)), (6, (iq (a0.length : Int))), (7, (iq l3i7))])) ?_
  refine aw_sr ?_
  refine al_in rfl rfl rfl rfl ?_
  refine al_nt ?_
  refine aw_seq ?_
  refine aw_cond rfl (fun hb6 => ?_) (fun hb6 => ?_)
  ·replace h := bif_t hb6 h
   refine aw_skip ?_
   refine aq_then ?_
   refine aw_seq ?_
   refine aw_block ?_
   refine aw_sr ?_
   refine al_mv rfl rfl ?_
   refine al_as rfl rfl ?_
   refine al_nt ?_
   refine aw_region ?_
   refine al_mv rfl rfl ?_
   refine al_val (ov_shl (by decide) rfl rfl rfl) ?_
   refine al_mv rfl rfl ?_
   refine al_mv rfl rfl ?_
   obtain ⟨hc7, h⟩ := req_some h
   refine al_val (ov_strIdx hc7.1 hc7.2 Tryd.underlying9 rfl rfl rfl) ?_
   refine al_val (ov_convInt (by rw [Tryd.underlying5]; rfl) Tryd.underlying98 rfl rfl) ?_
   refine al_in rfl rfl rfl rfl ?_
   refine al_as rfl rfl ?_
   refine al_nil ?_
   refine aq_block ?_
   refine aq_then ?_
   refine aw_region ?_
   refine al_in rfl rfl rfl rfl ?_
   refine al_mv rfl rfl ?_
   refine al_nil ?_
   exact aq_again k4 ((bits .or .u64 (wu (l3i3 * 2 ^ min ((8 : Int)).toNat (IntKind.bits .u64))) (wu (En.bAt a0 l3i7))), (wq (l3i7 + (1 : Int)))) (Nat.lt_succ_self _) h (fun w a hm hs => norm hm hs [] [] [(0, (str a0)), (3, (uq (bits .or .u64 (wu (l3i3 * 2 ^ min ((8 : Int)).toNat (IntKind.bits .u64))) (wu (En.bAt a0 l3i7))))), (6, (iq (a0.length : Int))), (7, (iq (wq (l3i7 + (1 : Int)))))] (by decide) ⟨rfl, rfl, rfl, rfl, trivial⟩)
  ·replace h := bif_f hb6 h
   refine aw_exit ?_
   refine aq_then_exit ?_
   refine aq_then_exit ?_
   refine aq_block_exit ?_
   exact aq_join l3i3 h (fun w a hm hs => norm hm hs [] [] [(3, (uq l3i3))] (by decide) ⟨rfl, trivial⟩)
def f_num_Get (fu : Nat) (a0 : (List UInt8)) : Option (Int × Int × Int) := (bif (a0 == ([] : List UInt8)) then (some ((0 : Int), (0 : Int), (3 : Int))) else (req (0 ≤ (0 : Int) ∧ (0 : Int) < (a0.length : Int)) (bif (decide ((IntKind.i64.wrap (En.bAt a0 (0 : Int))) > (8 : Int))) then (some ((0 : Int), (0 : Int), (4 : Int))) else (bif (decide ((a0.length : Int) < (IntKind.i64.wrap ((1 : Int) + (IntKind.i64.wrap (En.bAt a0 (0 : Int))))))) then (some ((0 : Int), (0 : Int), (3 : Int))) else (lt (fun (j5b20 : Bool) => (bif j5b20 then (some ((0 : Int), (0 : Int), (4 : Int))) else (req (0 ≤ (1 : Int) ∧ (1 : Int) ≤ (IntKind.i64.wrap ((1 : Int) + (IntKind.i64.wrap (En.bAt a0 (0 : Int))))) ∧ (IntKind.i64.wrap ((1 : Int) + (IntKind.i64.wrap (En.bAt a0 (0 : Int))))) ≤ (a0.length : Int)) (opt (f_num_value fu (cut a0 (1 : Int) (IntKind.i64.wrap ((1 : Int) + (IntKind.i64.wrap (En.bAt a0 (0 : Int))))))) fun (r10 : Int) => (some (r10, (IntKind.i64.wrap ((1 : Int) + (IntKind.i64.wrap (En.bAt a0 (0 : Int))))), (0 : Int))))))) fun (kk6 : Bool → Option (Int × Int × Int)) => (bif (decide ((IntKind.i64.wrap (En.bAt a0 (0 : Int))) > (0 : Int))) then (req (0 ≤ (1 : Int) ∧ (1 : Int) < (a0.length : Int)) (kk6 ((En.bAt a0 (1 : Int)) == (0 : Int)))) else (kk6 false)))))))
set_option maxHeartbeats 2000000 in
set_option maxRecDepth 100000 in
theorem f_num_Get_ok (fu : Nat) (a0 : (List UInt8)) {r : (Int × Int × Int)} (h : f_num_Get fu a0 = some r) : FnOk Tryd.prog 69 [(str a0)] [] [] (fun (i : Unit) => { val := (Value.tuple #[(int .u64 r.1), (int .i64 r.2.1), (int .i64 r.2.2)]) }) := by
 unfold f_num_Get at h
 refine fn_enter Tryd.func69 rfl Tryd.ntmps69 rfl (fun w0 Z0 => ?_)
 refine aw_sr ?_
 refine al_as rfl rfl ?_
 refine al_as rfl rfl ?_
 refine al_as rfl rfl ?_
 refine al_nt ?_
 refine aw_seq ?_
 refine aw_sr ?_
 refine al_mv rfl rfl ?_
 refine al_val (ov_strCmp rfl rfl rfl rfl) ?_
 refine al_nt ?_
 refine aw_cond rfl (fun hb1 => ?_) (fun hb1 => ?_)
 ·replace h := bif_t hb1 h
  refine aw_sr ?_
  refine al_as rfl rfl ?_
  refine al_as rfl rfl ?_
  refine al_as rfl rfl ?_
  refine al_nt ?_
  refine aw_ret ?_
  refine aq_then_ret ?_
  obtain rfl := Option.some.inj h
  exact fn_ret () [] [] rfl rfl rfl rfl (res3 rfl rfl rfl rfl) rfl rfl rfl (by decide)
 ·replace h := bif_f hb1 h
  refine aw_skip ?_
  refine aq_tr ?_
  refine al_mv rfl rfl ?_
  obtain ⟨hc2, h⟩ := req_some h
  refine al_val (ov_strIdx hc2.1 hc2.2 Tryd.underlying9 rfl rfl rfl) ?_
  refine al_val (ov_convInt (by rw [Tryd.underlying5]; rfl) Tryd.underlying3 rfl rfl) ?_
  refine al_as rfl rfl ?_
  refine al_nt ?_
  refine aw_seq ?_
  refine aw_block ?_
  refine aw_sr ?_
  refine al_mv rfl rfl ?_
  refine al_in rfl rfl rfl rfl ?_
  refine al_as rfl rfl ?_
  refine al_nt ?_
  refine aw_cond rfl (fun hb3 => ?_) (fun hb3 => ?_)
  ·replace h := bif_t hb3 h
   refine aw_sr ?_
   refine al_as rfl rfl ?_
   refine al_as rfl rfl ?_
   refine al_as rfl rfl ?_
   refine al_nt ?_
   refine aw_ret ?_
   refine aq_block_ret ?_
   refine aq_then_ret ?_
   obtain rfl := Option.some.inj h
   exact fn_ret () [] [] rfl rfl rfl rfl (res3 rfl rfl rfl rfl) rfl rfl rfl (by decide)
  ·replace h := bif_f hb3 h
   refine aw_sr ?_
   refine al_mv rfl rfl ?_
   refine al_val (ov_strLen Tryd.underlying9 rfl rfl) ?_
   refine al_mv rfl rfl ?_
   refine al_in rfl rfl rfl rfl ?_
   refine al_in rfl rfl rfl rfl ?_
   refine al_as rfl rfl ?_
   refine al_nt ?_
   refine aw_cond rfl (fun hb4 => ?_) (fun hb4 => ?_)
   ·replace h := bif_t hb4 h
    refine aw_sr ?_
    refine al_as rfl rfl ?_
    refine al_as rfl rfl ?_
    refine al_as rfl rfl ?_
    refine al_nt ?_
    refine aw_ret ?_
    refine aq_block_ret ?_
    refine aq_then_ret ?_
    obtain rfl := Option.some.inj h
    exact fn_ret () [] [] rfl rfl rfl rfl (res3 rfl rfl rfl rfl) rfl rfl rfl (by decide)
   ·replace h := bif_f hb4 h
    obtain ⟨kk6, hkk6, h⟩ := lt_some h
    refine aw_seq_join (ι := Bool) (fun i => (memOf w0 Z0 [] [] [])) (fun i => (tab [(0, (str a0)), (5, (iq (wq (En.bAt a0 (0 : Int))))), (20, (bool i))])) (fun i => kk6 i = some r) ?_ ?_
    ·rintro j5b20 h
     have h : kk6 j5b20 = some r := h
     rw [hkk6] at h
     dsimp only at h
     clear hkk6
     refine aw_show (m := (memOf w0 Z0 [] [] [])) (S := (tab [(0, (str a0)), (5, (iq (wq (En.bAt a0 (0 : Int))))), (20, (bool j5b20))])) ?_
     refine aw_cond rfl (fun hb7 => ?_) (fun hb7 => ?_)
     ·replace h := bif_t hb7 h
      refine aw_sr ?_
      refine al_as rfl rfl ?_
      refine al_as rfl rfl ?_
      refine al_as rfl rfl ?_
      refine al_nt ?_
      refine aw_ret ?_
      refine aq_block_ret ?_
      refine aq_then_ret ?_
      obtain rfl := Option.some.inj h
      exact fn_ret () [] [] rfl rfl rfl rfl (res3 rfl rfl rfl rfl) rfl rfl rfl (by decide)
     ·replace h := bif_f hb7 h
      refine aw_skip ?_
      refine aq_block ?_
      refine aq_tr ?_
      refine al_mv rfl rfl ?_
      refine al_mv rfl rfl ?_
      refine al_in rfl rfl rfl rfl ?_
      obtain ⟨hc8, h⟩ := req_some h
      refine al_val (ov_strCut hc8.1 hc8.2.1 hc8.2.2 Tryd.underlying9 rfl rfl rfl rfl) ?_
      obtain ⟨r10, hc9, h⟩ := opt_some h
      refine al_call (vs := [(str (cut a0 (1 : Int) (wq ((1 : Int) + (wq (En.bAt a0 (0 : Int)))))))]) (f_num_value_ok fu (cut a0 (1 : Int) (wq ((1 : Int) + (wq (En.bAt a0 (0 : Int)))))) hc9) [] [] [] pre_nil rfl (by simp) (by decide) (.inl rfl) rfl Tryd.func94 rfl rfl rfl (fun _ => ?_)
      refine al_mv rfl rfl ?_
      refine al_in rfl rfl rfl rfl ?_
      refine al_as rfl rfl ?_
      refine al_as rfl rfl ?_
      refine al_as rfl rfl ?_
      refine al_nt ?_
      refine aw_ret ?_
      obtain rfl := Option.some.inj h
      exact fn_ret () [] [] rfl rfl rfl rfl (res3 rfl rfl rfl rfl) rfl rfl rfl (by decide)
    ·clear hkk6
     refine aw_region ?_
     refine al_mv rfl rfl ?_
     refine al_in rfl rfl rfl rfl ?_
     refine al_mv rfl rfl ?_
     refine al_caseB 23 rfl (fun hb11 => ?_) (fun hb11 => ?_)
     ·replace h := bif_t hb11 h
      refine al_mv rfl rfl ?_
      obtain ⟨hc12, h⟩ := req_some h
      refine al_val (ov_strIdx hc12.1 hc12.2 Tryd.underlying9 rfl rfl rfl) ?_
      refine al_in rfl rfl rfl rfl ?_
      refine al_val (ov_pick_t rfl rfl rfl) ?_
      refine al_as rfl rfl ?_
      refine al_nil ?_
      exact aq_join ((En.bAt a0 (1 : Int)) == (0 : Int)) h (fun w a hm hs => norm hm hs [] [] [(0, (str a0)), (5, (iq (wq (En.bAt a0 (0 : Int))))), (20, (bool ((En.bAt a0 (1 : Int)) == (0 : Int))))] (by decide) ⟨rfl, rfl, rfl, trivial⟩)
     ·replace h := bif_f hb11 h
      refine al_skip ?_
      refine al_skip ?_
      refine al_skip ?_
      refine al_val (ov_pick_f rfl rfl rfl) ?_
      refine al_as rfl rfl ?_
      refine al_nil ?_
      exact aq_join false h (fun w a hm hs => norm hm hs [] [] [(0, (str a0)), (5, (iq (wq (En.bAt a0 (0 : Int))))), (20, (bool false))] (by decide) ⟨rfl, rfl, rfl, trivial⟩)
def f_journal_Scan_L3 (a0 : (List UInt8)) (fu : Nat) : Nat → (List (List UInt8)) → Int → Option ((List (List UInt8)) × Int)
  | 0, _, _ => none
  | k2 + 1, l1x4, l1i5 => (req (0 ≤ l1i5 ∧ l1i5 ≤ (a0.length : Int)) (opt (f_num_Get fu (a0.drop (l1i5).toNat)) fun (r6 : (Int × Int × Int)) => (lt (fun (j7b25 : Bool) => (bif j7b25 then (some (l1x4, l1i5)) else (lt (fun (j10b51 : Bool) => (bif j10b51 then (some (l1x4, l1i5)) else (req (0 ≤ r6.2.1 ∧ r6.2.1 ≤ (IntKind.i64.wrap (r6.2.1 + (IntKind.i64.wrap r6.1))) ∧ (IntKind.i64.wrap (r6.2.1 + (IntKind.i64.wrap r6.1))) ≤ ((a0.drop (l1i5).toNat).length : Int)) (req (((l1x4.length + ([(cut (a0.drop (l1i5).toNat) r6.2.1 (IntKind.i64.wrap (r6.2.1 + (IntKind.i64.wrap r6.1))))]).length) * 16 : Nat) ≤ 140737488355328 ∧ l1x4.length + ([(cut (a0.drop (l1i5).toNat) r6.2.1 (IntKind.i64.wrap (r6.2.1 + (IntKind.i64.wrap r6.1))))]).length ≤ 9223372036854775807) (f_journal_Scan_L3 a0 fu k2 (l1x4 ++ ([(cut (a0.drop (l1i5).toNat) r6.2.1 (IntKind.i64.wrap (r6.2.1 + (IntKind.i64.wrap r6.1))))])) (IntKind.i64.wrap (l1i5 + (IntKind.i64.wrap ((IntKind.i64.wrap (r6.2.1 + (IntKind.i64.wrap r6.1))) + (8 : Int)))))))))) fun (kk11 : Bool → Option ((List (List UInt8)) × Int)) => (bif (decide (((a0.drop (l1i5).toNat).length : Int) < (IntKind.i64.wrap ((IntKind.i64.wrap (r6.2.1 + (IntKind.i64.wrap r6.1))) + (8 : Int))))) then (kk11 true) else (req (0 ≤ (IntKind.i64.wrap (r6.2.1 + (IntKind.i64.wrap r6.1))) ∧ (IntKind.i64.wrap (r6.2.1 + (IntKind.i64.wrap r6.1))) ≤ ((a0.drop (l1i5).toNat).length : Int)) (req (0 ≤ (IntKind.i64.wrap (r6.2.1 + (IntKind.i64.wrap r6.1))) ∧ (IntKind.i64.wrap (r6.2.1 + (IntKind.i64.wrap r6.1))) ≤ (IntKind.i64.wrap ((IntKind.i64.wrap (r6.2.1 + (IntKind.i64.wrap r6.1))) + (8 : Int))) ∧ (IntKind.i64.wrap ((IntKind.i64.wrap (r6.2.1 + (IntKind.i64.wrap r6.1))) + (8 : Int))) ≤ ((a0.drop (l1i5).toNat).length : Int)) (req ((cut (a0.drop (l1i5).toNat) (IntKind.i64.wrap (r6.2.1 + (IntKind.i64.wrap r6.1))) (IntKind.i64.wrap ((IntKind.i64.wrap (r6.2.1 + (IntKind.i64.wrap r6.1))) + (8 : Int)))).length ≤ 9223372036854775807) (req (8 ≤ (cut (a0.drop (l1i5).toNat) (IntKind.i64.wrap (r6.2.1 + (IntKind.i64.wrap r6.1))) (IntKind.i64.wrap ((IntKind.i64.wrap (r6.2.1 + (IntKind.i64.wrap r6.1))) + (8 : Int)))).length) (opt (f_mix_ID fu ((a0.drop (l1i5).toNat).take ((IntKind.i64.wrap (r6.2.1 + (IntKind.i64.wrap r6.1)))).toNat)) fun (r25 : A8u8) => (kk11 (!(r25 == (ofA8u8 (cut (a0.drop (l1i5).toNat) (IntKind.i64.wrap (r6.2.1 + (IntKind.i64.wrap r6.1))) (IntKind.i64.wrap ((IntKind.i64.wrap (r6.2.1 + (IntKind.i64.wrap r6.1))) + (8 : Int))))))))))))))))) fun (kk8 : Bool → Option ((List (List UInt8)) × Int)) => (bif (r6.2.2 != (0 : Int)) then (kk8 true) else (kk8 (decide (r6.1 > (4096 : Int))))))))
def f_journal_Scan (fu : Nat) (a0 : (List UInt8)) : Option ((List (List UInt8)) × Int) := (f_journal_Scan_L3 a0 fu fu ([] : List (List UInt8)) (0 : Int))
set_option maxHeartbeats 2000000 in
set_option maxRecDepth 100000 in
theorem f_journal_Scan_ok (fu : Nat) (a0 : (List UInt8)) {r : ((List (List UInt8)) × Int)} (h : f_journal_Scan fu a0 = some r) : FnOk Tryd.prog 35 [(str a0)] [] [] (fun (i : Value) => { val := (Value.tuple #[i, (int .i64 r.2)]), own := [(oRow i 9 tyStr r.1)] }) := by
 unfold f_journal_Scan at h
 refine fn_enter Tryd.func35 rfl Tryd.ntmps35 rfl (fun w0 Z0 => ?_)
 refine aw_sr ?_
 refine al_as rfl rfl ?_
 refine al_as rfl rfl ?_
 refine al_nt ?_
 refine aw_sr ?_
 refine al_as rfl rfl ?_
 refine al_nt ?_
 refine aw_sr ?_
 refine al_as rfl rfl ?_
 refine al_nt ?_
 refine aw_block ?_
 refine aw_nilR 9 tyStr ?_
 refine aw_state (aw_loop (ι := Value × (List (List UInt8)) × Int) (fun i => (memOf w0 Z0 [] [(oRow i.1 9 tyStr i.2.1)] [])) (fun i => (tab [(0, (str a0)), (4, i.1), (5, (iq i.2.2))])) (fun q i => f_journal_Scan_L3 a0 fu q i.2.1 i.2.2 = some r) ?_ fu (nS, ([] : List (List UInt8)), (0 : Int)) h) (fun w a hm hs => norm hm hs [0] [] [(0, (str a0)), (4, nS), (5, (iq (0 : Int)))] (by decide) ⟨rfl, rfl, rfl, trivial⟩)
 clear h
 rintro k2 ⟨l1v4, l1x4, l1i5⟩ h
 have h : f_journal_Scan_L3 a0 fu k2 l1x4 l1i5 = some r := h
 obtain _ | k2 := k2
 · rw [f_journal_Scan_L3] at h; cases h
 rw [f_journal_Scan_L3] at h
 refine aw_show (m := (memOf w0 Z0 [] [(oRow l1v4 9 tyStr l1x4)] [])) (S := (tab [(0, (str a0)), (4, l1v4), (5, (iq l1i5))])) ?_
 refine aw_block ?_
 refine aw_sr ?_
 refine al_mv rfl rfl ?_
 refine al_mv rfl rfl ?_
 obtain ⟨hc4, h⟩ := req_some h
 refine al_val (ov_strFrom hc4.1 hc4.2 Tryd.underlying9 rfl rfl rfl) ?_
 refine al_as rfl rfl ?_
 refine al_nt ?_
 refine aw_sr ?_
 refine al_mv rfl rfl ?_
 obtain ⟨r6, hc5, h⟩ := opt_some h
 refine al_call (vs := [(str (a0.drop (l1i5).toNat))]) (f_num_Get_ok fu (a0.drop (l1i5).toNat) hc5) [] [] [0] pre_nil rfl (by simp) (by decide) (.inl rfl) rfl Tryd.func69 rfl rfl rfl (fun _ => ?_)
 refine al_mv rfl rfl ?_
 refine al_ex rfl rfl rfl ?_
 refine al_ex rfl rfl rfl ?_
 refine al_ex rfl rfl rfl ?_
 refine al_as rfl rfl ?_
 refine al_as rfl rfl ?_
 refine al_as rfl rfl ?_
 refine al_nt ?_
 refine aw_seq ?_
 obtain ⟨kk8, hkk8, h⟩ := lt_some h
 refine aw_seq_join (ι := Bool) (fun i => (memOf w0 Z0 [] [(oRow l1v4 9 tyStr l1x4)] [])) (fun i => (tab [(0, (str a0)), (4, l1v4), (5, (iq l1i5)), (6, (str (a0.drop (l1i5).toNat))), (7, (uq r6.1)), (8, (iq r6.2.1)), (25, (bool i))])) (fun i => kk8 i = some r) ?_ ?_
 ·rintro j7b25 h
  have h : kk8 j7b25 = some r := h
  rw [hkk8] at h
  dsimp only at h
  clear hkk8
  refine aw_show (m := (memOf w0 Z0 [] [(oRow l1v4 9 tyStr l1x4)] [])) (S := (tab [(0, (str a0)), (4, l1v4), (5, (iq l1i5)), (6, (str (a0.drop (l1i5).toNat))), (7, (uq r6.1)), (8, (iq r6.2.1)), (25, (bool j7b25))])) ?_
  refine aw_cond rfl (fun hb9 => ?_) (fun hb9 => ?_)
  ·replace h := bif_t hb9 h
   refine aw_sr ?_
   refine al_mv rfl rfl ?_
   refine al_mv rfl rfl ?_
   refine al_as rfl rfl ?_
   refine al_as rfl rfl ?_
   refine al_nt ?_
   refine aw_ret ?_
   refine aq_then_ret ?_
   refine aq_block_ret ?_
   refine aq_then_ret ?_
   refine aq_block_ret ?_
   obtain rfl := Option.some.inj h
   exact fn_ret l1v4 [0] [] rfl rfl rfl rfl (res2 rfl rfl rfl) rfl rfl rfl (by decide)
  ·replace h := bif_f hb9 h
   refine aw_skip ?_
   refine aq_tr ?_
   refine al_mv rfl rfl ?_
   refine al_mv rfl rfl ?_
   refine al_val (ov_convInt (by rw [Tryd.underlying98]; rfl) Tryd.underlying3 rfl rfl) ?_
   refine al_in rfl rfl rfl rfl ?_
   refine al_as rfl rfl ?_
   refine al_nt ?_
   refine aw_seq ?_
   obtain ⟨kk11, hkk11, h⟩ := lt_some h
   refine aw_seq_join (ι := Bool) (fun i => (memOf w0 Z0 [] [(oRow l1v4 9 tyStr l1x4)] [])) (fun i => (tab [(0, (str a0)), (4, l1v4), (5, (iq l1i5)), (6, (str (a0.drop (l1i5).toNat))), (8, (iq r6.2.1)), (10, (iq (wq (r6.2.1 + (wq r6.1))))), (51, (bool i))])) (fun i => kk11 i = some r) ?_ ?_
   ·rintro j10b51 h
    have h : kk11 j10b51 = some r := h
    rw [hkk11] at h
    dsimp only at h
    clear hkk11
    refine aw_show (m := (memOf w0 Z0 [] [(oRow l1v4 9 tyStr l1x4)] [])) (S := (tab [(0, (str a0)), (4, l1v4), (5, (iq l1i5)), (6, (str (a0.drop (l1i5).toNat))), (8, (iq r6.2.1)), (10, (iq (wq (r6.2.1 + (wq r6.1))))), (51, (bool j10b51))])) ?_
    refine aw_cond rfl (fun hb12 => ?_) (fun hb12 => ?_)
    ·replace h := bif_t hb12 h
     refine aw_sr ?_
     refine al_mv rfl rfl ?_
     refine al_mv rfl rfl ?_
     refine al_as rfl rfl ?_
     refine al_as rfl rfl ?_
     refine al_nt ?_
     refine aw_ret ?_
     refine aq_then_ret ?_
     refine aq_block_ret ?_
     refine aq_then_ret ?_
     refine aq_block_ret ?_
     obtain rfl := Option.some.inj h
     exact fn_ret l1v4 [0] [] rfl rfl rfl rfl (res2 rfl rfl rfl) rfl rfl rfl (by decide)
    ·replace h := bif_f hb12 h
     refine aw_skip ?_
     refine aq_tr ?_
     refine al_mv rfl rfl ?_
     refine al_mv rfl rfl ?_
     refine al_mv rfl rfl ?_
     refine al_mv rfl rfl ?_
     obtain ⟨hc13, h⟩ := req_some h
     refine al_val (ov_strCut hc13.1 hc13.2.1 hc13.2.2 Tryd.underlying9 rfl rfl rfl rfl) ?_
     refine al_buildSlice (τ := tyStr) (e := 9) (k := 1) (sz := 0) (by_ := 0) (z := undef) (cs := [(str (cut (a0.drop (l1i5).toNat) r6.2.1 (wq (r6.2.1 + (wq r6.1)))))]) (xs := [(cut (a0.drop (l1i5).toNat) r6.2.1 (wq (r6.2.1 + (wq r6.1))))]) rfl (by decide) (fun w a hm hs => ⟨([(str (cut (a0.drop (l1i5).toNat) r6.2.1 (wq (r6.2.1 + (wq r6.1)))))]).toArray, rfl, by simp only [List.map_toArray, List.map_cons, List.map_nil, hs.ev (x := .tmp 58) rfl]; exact run_bs [(str (cut (a0.drop (l1i5).toNat) r6.2.1 (wq (r6.2.1 + (wq r6.1)))))] [(str (cut (a0.drop (l1i5).toNat) r6.2.1 (wq (r6.2.1 + (wq r6.1)))))] Tryd.underlying22 to9 rfl rfl (bs_cons (l := [(str (cut (a0.drop (l1i5).toNat) r6.2.1 (wq (r6.2.1 + (wq r6.1)))))]) (cs := []) (cv_rfl rfl) rfl bs_nil) hm⟩) (fun hm => ⟨_, _, rfl, (fun _ => rfl) hm, rfl⟩) rfl (fun v14 => ?_)
     obtain ⟨hc15, h⟩ := req_some h
     refine al_append 1 hc15.1 hc15.2 rfl (src_own (i := 1) 0 rfl) rfl rfl Tryd.underlying22 to9 rfl rfl rfl (fun v16 => ?_)
     refine al_as rfl rfl ?_
     refine al_nt ?_
     refine aw_region ?_
     refine al_mv rfl rfl ?_
     refine al_mv rfl rfl ?_
     refine al_in rfl rfl rfl rfl ?_
     refine al_in rfl rfl rfl rfl ?_
     refine al_as rfl rfl ?_
     refine al_nil ?_
     refine aq_block ?_
     exact aq_again k2 (v16, (l1x4 ++ ([(cut (a0.drop (l1i5).toNat) r6.2.1 (wq (r6.2.1 + (wq r6.1))))])), (wq (l1i5 + (wq ((wq (r6.2.1 + (wq r6.1))) + (8 : Int)))))) (Nat.lt_succ_self _) h (fun w a hm hs => norm hm hs [1] [] [(0, (str a0)), (4, v16), (5, (iq (wq (l1i5 + (wq ((wq (r6.2.1 + (wq r6.1))) + (8 : Int)))))))] (by decide) ⟨rfl, rfl, rfl, trivial⟩)
   ·clear hkk11
    rcases Bool.eq_false_or_eq_true (decide (((a0.drop (l1i5).toNat).length : Int) < (wq ((wq (r6.2.1 + (wq r6.1))) + (8 : Int))))) with hb17 | hb17
    ·replace h := bif_t hb17 h
     refine aw_region_open [⟨0, 32, Unit, fun _ => { val := (str (a0.drop (l1i5).toNat)) }⟩, ⟨1, 33, Unit, fun _ => { val := (iq ((a0.drop (l1i5).toNat).length : Int)) }⟩, ⟨2, 34, Unit, fun _ => { val := (iq (wq (r6.2.1 + (wq r6.1)))) }⟩, ⟨3, 35, Unit, fun _ => { val := (iq (wq ((wq (r6.2.1 + (wq r6.1))) + (8 : Int)))) }⟩, ⟨4, 36, Unit, fun _ => { val := (bool (decide (((a0.drop (l1i5).toNat).length : Int) < (wq ((wq (r6.2.1 + (wq r6.1))) + (8 : Int)))))) }⟩, ⟨5, 37, Unit, fun _ => { val := (bool true) }⟩, ⟨6, 38, Unit, fun _ => { val := undef }⟩, ⟨7, 39, Unit, fun _ => { val := undef }⟩, ⟨8, 40, Unit, fun _ => { val := undef }⟩, ⟨10, 42, Unit, fun _ => { val := undef }⟩, ⟨11, 43, Unit, fun _ => { val := undef }⟩, ⟨12, 44, Unit, fun _ => { val := undef }⟩, ⟨13, 45, Unit, fun _ => { val := undef }⟩, ⟨14, 46, Unit, fun _ => { val := undef }⟩, ⟨15, 47, Unit, fun _ => { val := undef }⟩, ⟨16, 48, Unit, fun _ => { val := undef }⟩, ⟨17, 49, Unit, fun _ => { val := undef }⟩] (tab [(0, (str a0)), (4, l1v4), (5, (iq l1i5)), (6, (str (a0.drop (l1i5).toNat))), (8, (iq r6.2.1)), (10, (iq (wq (r6.2.1 + (wq r6.1)))))]) mixed (fun a hs => hs.tab _ (allT_mem ⟨rfl, rfl, rfl, rfl, rfl, rfl, trivial⟩)) ?_
     refine ta_show (m := (memOf w0 Z0 [] [(oRow l1v4 9 tyStr l1x4)] [])) (S := (tab [(0, (str a0)), (4, l1v4), (5, (iq l1i5)), (6, (str (a0.drop (l1i5).toNat))), (8, (iq r6.2.1)), (10, (iq (wq (r6.2.1 + (wq r6.1)))))])) ?_
     refine ta_step 9 _ [0, 1, 2, 3, 4, 5, 6, 7, 8, 10, 11, 12, 13, 14, 15, 16, 17] [32, 33, 34, 35, 36, 37, 38, 39, 40, 42, 43, 44, 45, 46, 47, 48, 49] [0, 1, 2, 3, 4, 5, 6, 7, 8] [18, 19] [⟨0, 32, Unit, fun _ => { val := (str (a0.drop (l1i5).toNat)) }⟩, ⟨1, 33, Unit, fun _ => { val := (iq ((a0.drop (l1i5).toNat).length : Int)) }⟩, ⟨2, 34, Unit, fun _ => { val := (iq (wq (r6.2.1 + (wq r6.1)))) }⟩, ⟨3, 35, Unit, fun _ => { val := (iq (wq ((wq (r6.2.1 + (wq r6.1))) + (8 : Int)))) }⟩, ⟨4, 36, Unit, fun _ => { val := (bool (decide (((a0.drop (l1i5).toNat).length : Int) < (wq ((wq (r6.2.1 + (wq r6.1))) + (8 : Int)))))) }⟩, ⟨5, 37, Unit, fun _ => { val := (bool true) }⟩, ⟨6, 38, Unit, fun _ => { val := undef }⟩, ⟨7, 39, Unit, fun _ => { val := undef }⟩, ⟨8, 40, Unit, fun _ => { val := undef }⟩] [⟨10, 42, Unit, fun _ => { val := undef }⟩, ⟨11, 43, Unit, fun _ => { val := undef }⟩, ⟨12, 44, Unit, fun _ => { val := undef }⟩, ⟨13, 45, Unit, fun _ => { val := undef }⟩, ⟨14, 46, Unit, fun _ => { val := undef }⟩, ⟨15, 47, Unit, fun _ => { val := undef }⟩, ⟨16, 48, Unit, fun _ => { val := undef }⟩, ⟨17, 49, Unit, fun _ => { val := undef }⟩] rfl rfl rfl (by kernel_rfl) rfl rfl rfl ⟨⟨_, rfl, [], rfl, by
 intro X_ Y_ F_ K_ hK_
 refine al_show (m := Mem.plus (memOf w0 Z0 [] [(oRow l1v4 9 tyStr l1x4)] []) X_ Y_) (S := over (tab [(0, (str a0)), (4, l1v4), (5, (iq l1i5)), (6, (str (a0.drop (l1i5).toNat))), (8, (iq r6.2.1)), (10, (iq (wq (r6.2.1 + (wq r6.1)))))]) F_) ?_
 refine al_mv rfl rfl ?_
 refine al_nil ?_
 exact fr_fin hK_ ()⟩, ⟨_, rfl, [0], rfl, by
 intro _
 intro X_ Y_ F_ K_ hK_
 refine al_show (m := Mem.plus (memOf w0 Z0 [] [(oRow l1v4 9 tyStr l1x4)] []) X_ Y_) (S := over (put (tab [(0, (str a0)), (4, l1v4), (5, (iq l1i5)), (6, (str (a0.drop (l1i5).toNat))), (8, (iq r6.2.1)), (10, (iq (wq (r6.2.1 + (wq r6.1)))))]) 32 (str (a0.drop (l1i5).toNat))) F_) ?_
 refine al_val (ov_strLen Tryd.underlying9 rfl rfl) ?_
 refine al_nil ?_
 exact fr_fin hK_ ()⟩, ⟨_, rfl, [], rfl, by
 intro X_ Y_ F_ K_ hK_
 refine al_show (m := Mem.plus (memOf w0 Z0 [] [(oRow l1v4 9 tyStr l1x4)] []) X_ Y_) (S := over (tab [(0, (str a0)), (4, l1v4), (5, (iq l1i5)), (6, (str (a0.drop (l1i5).toNat))), (8, (iq r6.2.1)), (10, (iq (wq (r6.2.1 + (wq r6.1)))))]) F_) ?_
 refine al_mv rfl rfl ?_
 refine al_nil ?_
 exact fr_fin hK_ ()⟩, ⟨_, rfl, [2], rfl, by
 intro _
 intro X_ Y_ F_ K_ hK_
 refine al_show (m := Mem.plus (memOf w0 Z0 [] [(oRow l1v4 9 tyStr l1x4)] []) X_ Y_) (S := over (put (tab [(0, (str a0)), (4, l1v4), (5, (iq l1i5)), (6, (str (a0.drop (l1i5).toNat))), (8, (iq r6.2.1)), (10, (iq (wq (r6.2.1 + (wq r6.1)))))]) 34 (iq (wq (r6.2.1 + (wq r6.1))))) F_) ?_
 refine al_in rfl rfl rfl rfl ?_
 refine al_nil ?_
 exact fr_fin hK_ ()⟩, ⟨_, rfl, [1, 3], rfl, by
 intro _
 intro _
 intro X_ Y_ F_ K_ hK_
 refine al_show (m := Mem.plus (memOf w0 Z0 [] [(oRow l1v4 9 tyStr l1x4)] []) X_ Y_) (S := over (put (put (tab [(0, (str a0)), (4, l1v4), (5, (iq l1i5)), (6, (str (a0.drop (l1i5).toNat))), (8, (iq r6.2.1)), (10, (iq (wq (r6.2.1 + (wq r6.1)))))]) 33 (iq ((a0.drop (l1i5).toNat).length : Int))) 35 (iq (wq ((wq (r6.2.1 + (wq r6.1))) + (8 : Int))))) F_) ?_
 refine al_in rfl rfl rfl rfl ?_
 refine al_nil ?_
 exact fr_fin hK_ ()⟩, ⟨_, rfl, [4], rfl, by
 intro _
 intro X_ Y_ F_ K_ hK_
 refine al_show (m := Mem.plus (memOf w0 Z0 [] [(oRow l1v4 9 tyStr l1x4)] []) X_ Y_) (S := over (put (tab [(0, (str a0)), (4, l1v4), (5, (iq l1i5)), (6, (str (a0.drop (l1i5).toNat))), (8, (iq r6.2.1)), (10, (iq (wq (r6.2.1 + (wq r6.1)))))]) 36 (bool (decide (((a0.drop (l1i5).toNat).length : Int) < (wq ((wq (r6.2.1 + (wq r6.1))) + (8 : Int))))))) F_) ?_
 refine al_val (ov_cast (by first | rw [hb17] | rfl) (ov_move rfl rfl)) ?_
 refine al_nil ?_
 exact fr_fin hK_ ()⟩, ⟨_, rfl, [5], rfl, by
 intro _
 intro X_ Y_ F_ K_ hK_
 refine al_show (m := Mem.plus (memOf w0 Z0 [] [(oRow l1v4 9 tyStr l1x4)] []) X_ Y_) (S := over (put (tab [(0, (str a0)), (4, l1v4), (5, (iq l1i5)), (6, (str (a0.drop (l1i5).toNat))), (8, (iq r6.2.1)), (10, (iq (wq (r6.2.1 + (wq r6.1)))))]) 37 (bool true)) F_) ?_
 refine al_skip ?_
 refine al_nil ?_
 exact fr_fin hK_ ()⟩, ⟨_, rfl, [5], rfl, by
 intro _
 intro X_ Y_ F_ K_ hK_
 refine al_show (m := Mem.plus (memOf w0 Z0 [] [(oRow l1v4 9 tyStr l1x4)] []) X_ Y_) (S := over (put (tab [(0, (str a0)), (4, l1v4), (5, (iq l1i5)), (6, (str (a0.drop (l1i5).toNat))), (8, (iq r6.2.1)), (10, (iq (wq (r6.2.1 + (wq r6.1)))))]) 37 (bool true)) F_) ?_
 refine al_skip ?_
 refine al_nil ?_
 exact fr_fin hK_ ()⟩, ⟨_, rfl, [5, 6, 7], rfl, by
 intro _
 intro _
 intro _
 intro X_ Y_ F_ K_ hK_
 refine al_show (m := Mem.plus (memOf w0 Z0 [] [(oRow l1v4 9 tyStr l1x4)] []) X_ Y_) (S := over (put (put (put (tab [(0, (str a0)), (4, l1v4), (5, (iq l1i5)), (6, (str (a0.drop (l1i5).toNat))), (8, (iq r6.2.1)), (10, (iq (wq (r6.2.1 + (wq r6.1)))))]) 37 (bool true)) 38 undef) 39 undef) F_) ?_
 refine al_skip ?_
 refine al_nil ?_
 exact fr_fin hK_ ()⟩, ⟨_, rfl, [5], rfl, by
 intro _
 intro X_ Y_ F_ K_ hK_
 refine al_show (m := Mem.plus (memOf w0 Z0 [] [(oRow l1v4 9 tyStr l1x4)] []) X_ Y_) (S := over (put (tab [(0, (str a0)), (4, l1v4), (5, (iq l1i5)), (6, (str (a0.drop (l1i5).toNat))), (8, (iq r6.2.1)), (10, (iq (wq (r6.2.1 + (wq r6.1)))))]) 37 (bool true)) F_) ?_
 refine al_skip ?_
 refine al_nil ?_
 exact fr_fin hK_ ()⟩, ⟨_, rfl, [5], rfl, by
 intro _
 intro X_ Y_ F_ K_ hK_
 refine al_show (m := Mem.plus (memOf w0 Z0 [] [(oRow l1v4 9 tyStr l1x4)] []) X_ Y_) (S := over (put (tab [(0, (str a0)), (4, l1v4), (5, (iq l1i5)), (6, (str (a0.drop (l1i5).toNat))), (8, (iq r6.2.1)), (10, (iq (wq (r6.2.1 + (wq r6.1)))))]) 37 (bool true)) F_) ?_
 refine al_skip ?_
 refine al_nil ?_
 exact fr_fin hK_ ()⟩, ⟨_, rfl, [5], rfl, by
 intro _
 intro X_ Y_ F_ K_ hK_
 refine al_show (m := Mem.plus (memOf w0 Z0 [] [(oRow l1v4 9 tyStr l1x4)] []) X_ Y_) (S := over (put (tab [(0, (str a0)), (4, l1v4), (5, (iq l1i5)), (6, (str (a0.drop (l1i5).toNat))), (8, (iq r6.2.1)), (10, (iq (wq (r6.2.1 + (wq r6.1)))))]) 37 (bool true)) F_) ?_
 refine al_skip ?_
 refine al_nil ?_
 exact fr_fin hK_ ()⟩, ⟨_, rfl, [5, 11], rfl, by
 intro _
 intro _
 intro X_ Y_ F_ K_ hK_
 refine al_show (m := Mem.plus (memOf w0 Z0 [] [(oRow l1v4 9 tyStr l1x4)] []) X_ Y_) (S := over (put (put (tab [(0, (str a0)), (4, l1v4), (5, (iq l1i5)), (6, (str (a0.drop (l1i5).toNat))), (8, (iq r6.2.1)), (10, (iq (wq (r6.2.1 + (wq r6.1)))))]) 37 (bool true)) 44 undef) F_) ?_
 refine al_skip ?_
 refine al_nil ?_
 exact fr_fin hK_ ()⟩, ⟨_, rfl, [5, 9, 10, 12], rfl, by
 intro _
 intro _
 intro _
 intro _
 intro X_ Y_ F_ K_ hK_
 refine al_show (m := Mem.plus (memOf w0 Z0 [] [(oRow l1v4 9 tyStr l1x4)] []) X_ Y_) (S := over (put (put (put (put (tab [(0, (str a0)), (4, l1v4), (5, (iq l1i5)), (6, (str (a0.drop (l1i5).toNat))), (8, (iq r6.2.1)), (10, (iq (wq (r6.2.1 + (wq r6.1)))))]) 37 (bool true)) 42 undef) 43 undef) 45 undef) F_) ?_
 refine al_skip ?_
 refine al_nil ?_
 exact fr_fin hK_ ()⟩, ⟨_, rfl, [5, 13], rfl, by
 intro _
 intro _
 intro X_ Y_ F_ K_ hK_
 refine al_show (m := Mem.plus (memOf w0 Z0 [] [(oRow l1v4 9 tyStr l1x4)] []) X_ Y_) (S := over (put (put (tab [(0, (str a0)), (4, l1v4), (5, (iq l1i5)), (6, (str (a0.drop (l1i5).toNat))), (8, (iq r6.2.1)), (10, (iq (wq (r6.2.1 + (wq r6.1)))))]) 37 (bool true)) 46 undef) F_) ?_
 refine al_skip ?_
 refine al_nil ?_
 exact fr_fin hK_ ()⟩, ⟨_, rfl, [5, 14], rfl, by
 intro _
 intro _
 intro X_ Y_ F_ K_ hK_
 refine al_show (m := Mem.plus (memOf w0 Z0 [] [(oRow l1v4 9 tyStr l1x4)] []) X_ Y_) (S := over (put (put (tab [(0, (str a0)), (4, l1v4), (5, (iq l1i5)), (6, (str (a0.drop (l1i5).toNat))), (8, (iq r6.2.1)), (10, (iq (wq (r6.2.1 + (wq r6.1)))))]) 37 (bool true)) 47 undef) F_) ?_
 refine al_skip ?_
 refine al_nil ?_
 exact fr_fin hK_ ()⟩, ⟨_, rfl, [5, 15], rfl, by
 intro _
 intro _
 intro X_ Y_ F_ K_ hK_
 refine al_show (m := Mem.plus (memOf w0 Z0 [] [(oRow l1v4 9 tyStr l1x4)] []) X_ Y_) (S := over (put (put (tab [(0, (str a0)), (4, l1v4), (5, (iq l1i5)), (6, (str (a0.drop (l1i5).toNat))), (8, (iq r6.2.1)), (10, (iq (wq (r6.2.1 + (wq r6.1)))))]) 37 (bool true)) 48 undef) F_) ?_
 refine al_skip ?_
 refine al_nil ?_
 exact fr_fin hK_ ()⟩, trivial⟩ ?_
     intro _
     intro _
     intro _
     intro _
     intro _
     intro _
     intro _
     intro _
     intro _
     intro X_ Y_ F_ K_ hK_
     refine al_show (m := Mem.plus (memOf w0 Z0 [] [(oRow l1v4 9 tyStr l1x4)] []) X_ Y_) (S := over (put (put (put (put (put (put (put (put (put (tab [(0, (str a0)), (4, l1v4), (5, (iq l1i5)), (6, (str (a0.drop (l1i5).toNat))), (8, (iq r6.2.1)), (10, (iq (wq (r6.2.1 + (wq r6.1)))))]) 32 (str (a0.drop (l1i5).toNat))) 33 (iq ((a0.drop (l1i5).toNat).length : Int))) 34 (iq (wq (r6.2.1 + (wq r6.1))))) 35 (iq (wq ((wq (r6.2.1 + (wq r6.1))) + (8 : Int))))) 36 (bool (decide (((a0.drop (l1i5).toNat).length : Int) < (wq ((wq (r6.2.1 + (wq r6.1))) + (8 : Int))))))) 37 (bool true)) 38 undef) 39 undef) 40 undef) F_) ?_
     refine al_skip ?_
     refine al_nil ?_
     refine aq_show (m := Mem.plus (memOf w0 Z0 [] [(oRow l1v4 9 tyStr l1x4)] []) X_ Y_) ?_
     refine aq_next hK_ [0] [] [(0, (str a0)), (4, l1v4), (5, (iq l1i5)), (6, (str (a0.drop (l1i5).toNat))), (8, (iq r6.2.1)), (10, (iq (wq (r6.2.1 + (wq r6.1))))), (37, (bool true)), (41, undef)] [42, 43, 44, 45, 46, 47, 48, 49] [⟨18, 50, Unit, fun _ => { val := undef }⟩, ⟨19, 51, Unit, fun _ => { val := (bool true) }⟩] rfl rfl (by decide) rfl ⟨rfl, rfl, rfl, rfl, rfl, rfl, rfl, rfl, trivial⟩ ⟨rfl, rfl, rfl, rfl, rfl, rfl, rfl, rfl, trivial⟩ ?_
     clear hK_ K_ F_ X_ Y_
     refine ta_show (m := (memOf w0 Z0 [] [(oRow l1v4 9 tyStr l1x4)] [])) (S := (tab [(0, (str a0)), (4, l1v4), (5, (iq l1i5)), (6, (str (a0.drop (l1i5).toNat))), (8, (iq r6.2.1)), (10, (iq (wq (r6.2.1 + (wq r6.1))))), (37, (bool true)), (41, undef)])) ?_
     refine ta_end [10, 11, 12, 13, 14, 15, 16, 17, 18, 19] [42, 43, 44, 45, 46, 47, 48, 49, 50, 51] rfl rfl (by kernel_rfl) rfl ⟨⟨_, rfl, [], rfl, by
 intro X_ Y_ F_ K_ hK_
 refine al_show (m := Mem.plus (memOf w0 Z0 [] [(oRow l1v4 9 tyStr l1x4)] []) X_ Y_) (S := over (tab [(0, (str a0)), (4, l1v4), (5, (iq l1i5)), (6, (str (a0.drop (l1i5).toNat))), (8, (iq r6.2.1)), (10, (iq (wq (r6.2.1 + (wq r6.1))))), (37, (bool true)), (41, undef)]) F_) ?_
 refine al_skip ?_
 refine al_nil ?_
 exact fr_fin hK_ ()⟩, ⟨_, rfl, [], rfl, by
 intro X_ Y_ F_ K_ hK_
 refine al_show (m := Mem.plus (memOf w0 Z0 [] [(oRow l1v4 9 tyStr l1x4)] []) X_ Y_) (S := over (tab [(0, (str a0)), (4, l1v4), (5, (iq l1i5)), (6, (str (a0.drop (l1i5).toNat))), (8, (iq r6.2.1)), (10, (iq (wq (r6.2.1 + (wq r6.1))))), (37, (bool true)), (41, undef)]) F_) ?_
 refine al_skip ?_
 refine al_nil ?_
 exact fr_fin hK_ ()⟩, ⟨_, rfl, [], rfl, by
 intro X_ Y_ F_ K_ hK_
 refine al_show (m := Mem.plus (memOf w0 Z0 [] [(oRow l1v4 9 tyStr l1x4)] []) X_ Y_) (S := over (tab [(0, (str a0)), (4, l1v4), (5, (iq l1i5)), (6, (str (a0.drop (l1i5).toNat))), (8, (iq r6.2.1)), (10, (iq (wq (r6.2.1 + (wq r6.1))))), (37, (bool true)), (41, undef)]) F_) ?_
 refine al_skip ?_
 refine al_nil ?_
 exact fr_fin hK_ ()⟩, ⟨_, rfl, [2], rfl, by
 intro _
 intro X_ Y_ F_ K_ hK_
 refine al_show (m := Mem.plus (memOf w0 Z0 [] [(oRow l1v4 9 tyStr l1x4)] []) X_ Y_) (S := over (put (tab [(0, (str a0)), (4, l1v4), (5, (iq l1i5)), (6, (str (a0.drop (l1i5).toNat))), (8, (iq r6.2.1)), (10, (iq (wq (r6.2.1 + (wq r6.1))))), (37, (bool true)), (41, undef)]) 44 undef) F_) ?_
 refine al_skip ?_
 refine al_nil ?_
 exact fr_fin hK_ ()⟩, ⟨_, rfl, [0, 1, 3], rfl, by
 intro _
 intro _
 intro _
 intro X_ Y_ F_ K_ hK_
 refine al_show (m := Mem.plus (memOf w0 Z0 [] [(oRow l1v4 9 tyStr l1x4)] []) X_ Y_) (S := over (put (put (put (tab [(0, (str a0)), (4, l1v4), (5, (iq l1i5)), (6, (str (a0.drop (l1i5).toNat))), (8, (iq r6.2.1)), (10, (iq (wq (r6.2.1 + (wq r6.1))))), (37, (bool true)), (41, undef)]) 42 undef) 43 undef) 45 undef) F_) ?_
 refine al_skip ?_
 refine al_nil ?_
 exact fr_fin hK_ ()⟩, ⟨_, rfl, [4], rfl, by
 intro _
 intro X_ Y_ F_ K_ hK_
 refine al_show (m := Mem.plus (memOf w0 Z0 [] [(oRow l1v4 9 tyStr l1x4)] []) X_ Y_) (S := over (put (tab [(0, (str a0)), (4, l1v4), (5, (iq l1i5)), (6, (str (a0.drop (l1i5).toNat))), (8, (iq r6.2.1)), (10, (iq (wq (r6.2.1 + (wq r6.1))))), (37, (bool true)), (41, undef)]) 46 undef) F_) ?_
 refine al_skip ?_
 refine al_nil ?_
 exact fr_fin hK_ ()⟩, ⟨_, rfl, [5], rfl, by
 intro _
 intro X_ Y_ F_ K_ hK_
 refine al_show (m := Mem.plus (memOf w0 Z0 [] [(oRow l1v4 9 tyStr l1x4)] []) X_ Y_) (S := over (put (tab [(0, (str a0)), (4, l1v4), (5, (iq l1i5)), (6, (str (a0.drop (l1i5).toNat))), (8, (iq r6.2.1)), (10, (iq (wq (r6.2.1 + (wq r6.1))))), (37, (bool true)), (41, undef)]) 47 undef) F_) ?_
 refine al_skip ?_
 refine al_nil ?_
 exact fr_fin hK_ ()⟩, ⟨_, rfl, [6], rfl, by
 intro _
 intro X_ Y_ F_ K_ hK_
 refine al_show (m := Mem.plus (memOf w0 Z0 [] [(oRow l1v4 9 tyStr l1x4)] []) X_ Y_) (S := over (put (tab [(0, (str a0)), (4, l1v4), (5, (iq l1i5)), (6, (str (a0.drop (l1i5).toNat))), (8, (iq r6.2.1)), (10, (iq (wq (r6.2.1 + (wq r6.1))))), (37, (bool true)), (41, undef)]) 48 undef) F_) ?_
 refine al_skip ?_
 refine al_nil ?_
 exact fr_fin hK_ ()⟩, ⟨_, rfl, [7], rfl, by
 intro _
 intro X_ Y_ F_ K_ hK_
 refine al_show (m := Mem.plus (memOf w0 Z0 [] [(oRow l1v4 9 tyStr l1x4)] []) X_ Y_) (S := over (put (tab [(0, (str a0)), (4, l1v4), (5, (iq l1i5)), (6, (str (a0.drop (l1i5).toNat))), (8, (iq r6.2.1)), (10, (iq (wq (r6.2.1 + (wq r6.1))))), (37, (bool true)), (41, undef)]) 49 undef) F_) ?_
 refine al_skip ?_
 refine al_nil ?_
 exact fr_fin hK_ ()⟩, ⟨_, rfl, [8], rfl, by
 intro _
 intro X_ Y_ F_ K_ hK_
 refine al_show (m := Mem.plus (memOf w0 Z0 [] [(oRow l1v4 9 tyStr l1x4)] []) X_ Y_) (S := over (put (tab [(0, (str a0)), (4, l1v4), (5, (iq l1i5)), (6, (str (a0.drop (l1i5).toNat))), (8, (iq r6.2.1)), (10, (iq (wq (r6.2.1 + (wq r6.1))))), (37, (bool true)), (41, undef)]) 50 undef) F_) ?_
 refine al_val (ov_pick_t rfl rfl rfl) ?_
 refine al_nil ?_
 exact fr_fin hK_ ()⟩, trivial⟩ ?_
     intro _
     intro _
     intro _
     intro _
     intro _
     intro _
     intro _
     intro _
     intro _
     intro _
     refine aq_show (m := (memOf w0 Z0 [] [(oRow l1v4 9 tyStr l1x4)] [])) (S := (put (put (put (put (put (put (put (put (put (put (tab [(0, (str a0)), (4, l1v4), (5, (iq l1i5)), (6, (str (a0.drop (l1i5).toNat))), (8, (iq r6.2.1)), (10, (iq (wq (r6.2.1 + (wq r6.1))))), (37, (bool true)), (41, undef)]) 42 undef) 43 undef) 44 undef) 45 undef) 46 undef) 47 undef) 48 undef) 49 undef) 50 undef) 51 (bool true))) ?_
     exact aq_join true h (fun w a hm hs => norm hm hs [0] [] [(0, (str a0)), (4, l1v4), (5, (iq l1i5)), (6, (str (a0.drop (l1i5).toNat))), (8, (iq r6.2.1)), (10, (iq (wq (r6.2.1 + (wq r6.1))))), (51, (bool true))] (by decide) ⟨rfl, rfl, rfl, rfl, rfl, rfl, rfl, trivial⟩)
    ·replace h := bif_f hb17 h
     obtain ⟨hc18, h⟩ := req_some h
     obtain ⟨hc19, h⟩ := req_some h
     obtain ⟨hc20, h⟩ := req_some h
     obtain ⟨hc23, h⟩ := req_some h
     refine aw_region_open [⟨0, 32, Unit, fun _ => { val := (str (a0.drop (l1i5).toNat)) }⟩, ⟨1, 33, Unit, fun _ => { val := (iq ((a0.drop (l1i5).toNat).length : Int)) }⟩, ⟨2, 34, Unit, fun _ => { val := (iq (wq (r6.2.1 + (wq r6.1)))) }⟩, ⟨3, 35, Unit, fun _ => { val := (iq (wq ((wq (r6.2.1 + (wq r6.1))) + (8 : Int)))) }⟩, ⟨4, 36, Unit, fun _ => { val := (bool (decide (((a0.drop (l1i5).toNat).length : Int) < (wq ((wq (r6.2.1 + (wq r6.1))) + (8 : Int)))))) }⟩, ⟨5, 37, Unit, fun _ => { val := (bool false) }⟩, ⟨6, 38, Unit, fun _ => { val := (str (a0.drop (l1i5).toNat)) }⟩, ⟨7, 39, Unit, fun _ => { val := (iq (wq (r6.2.1 + (wq r6.1)))) }⟩, ⟨8, 40, Unit, fun _ => { val := (str ((a0.drop (l1i5).toNat).take ((wq (r6.2.1 + (wq r6.1)))).toNat)) }⟩, ⟨10, 42, Unit, fun _ => { val := (str (a0.drop (l1i5).toNat)) }⟩, ⟨11, 43, Unit, fun _ => { val := (iq (wq (r6.2.1 + (wq r6.1)))) }⟩, ⟨12, 44, Unit, fun _ => { val := (iq (wq (r6.2.1 + (wq r6.1)))) }⟩, ⟨13, 45, Unit, fun _ => { val := (iq (wq ((wq (r6.2.1 + (wq r6.1))) + (8 : Int)))) }⟩, ⟨14, 46, Unit, fun _ => { val := (str (cut (a0.drop (l1i5).toNat) (wq (r6.2.1 + (wq r6.1))) (wq ((wq (r6.2.1 + (wq r6.1))) + (8 : Int))))) }⟩, ⟨15, 47, Value, fun (i : Value) => { val := i, fz := [(fDat (tyList tyU8) [i] (cut (a0.drop (l1i5).toNat) (wq (r6.2.1 + (wq r6.1))) (wq ((wq (r6.2.1 + (wq r6.1))) + (8 : Int)))))] }⟩, ⟨16, 48, Value, fun (i : Value) => { val := i, fz := [(fPtr tyA8u8 i (ofA8u8 (cut (a0.drop (l1i5).toNat) (wq (r6.2.1 + (wq r6.1))) (wq ((wq (r6.2.1 + (wq r6.1))) + (8 : Int))))))] }⟩, ⟨17, 49, Unit, fun _ => { val := (ag (cA8u8 (ofA8u8 (cut (a0.drop (l1i5).toNat) (wq (r6.2.1 + (wq r6.1))) (wq ((wq (r6.2.1 + (wq r6.1))) + (8 : Int))))))) }⟩] (tab [(0, (str a0)), (4, l1v4), (5, (iq l1i5)), (6, (str (a0.drop (l1i5).toNat))), (8, (iq r6.2.1)), (10, (iq (wq (r6.2.1 + (wq r6.1)))))]) mixed (fun a hs => hs.tab _ (allT_mem ⟨rfl, rfl, rfl, rfl, rfl, rfl, trivial⟩)) ?_
     refine ta_show (m := (memOf w0 Z0 [] [(oRow l1v4 9 tyStr l1x4)] [])) (S := (tab [(0, (str a0)), (4, l1v4), (5, (iq l1i5)), (6, (str (a0.drop (l1i5).toNat))), (8, (iq r6.2.1)), (10, (iq (wq (r6.2.1 + (wq r6.1)))))])) ?_
     refine ta_step 9 _ [0, 1, 2, 3, 4, 5, 6, 7, 8, 10, 11, 12, 13, 14, 15, 16, 17] [32, 33, 34, 35, 36, 37, 38, 39, 40, 42, 43, 44, 45, 46, 47, 48, 49] [0, 1, 2, 3, 4, 5, 6, 7, 8] [18, 19] [⟨0, 32, Unit, fun _ => { val := (str (a0.drop (l1i5).toNat)) }⟩, ⟨1, 33, Unit, fun _ => { val := (iq ((a0.drop (l1i5).toNat).length : Int)) }⟩, ⟨2, 34, Unit, fun _ => { val := (iq (wq (r6.2.1 + (wq r6.1)))) }⟩, ⟨3, 35, Unit, fun _ => { val := (iq (wq ((wq (r6.2.1 + (wq r6.1))) + (8 : Int)))) }⟩, ⟨4, 36, Unit, fun _ => { val := (bool (decide (((a0.drop (l1i5).toNat).length : Int) < (wq ((wq (r6.2.1 + (wq r6.1))) + (8 : Int)))))) }⟩, ⟨5, 37, Unit, fun _ => { val := (bool false) }⟩, ⟨6, 38, Unit, fun _ => { val := (str (a0.drop (l1i5).toNat)) }⟩, ⟨7, 39, Unit, fun _ => { val := (iq (wq (r6.2.1 + (wq r6.1)))) }⟩, ⟨8, 40, Unit, fun _ => { val := (str ((a0.drop (l1i5).toNat).take ((wq (r6.2.1 + (wq r6.1)))).toNat)) }⟩] [⟨10, 42, Unit, fun _ => { val := (str (a0.drop (l1i5).toNat)) }⟩, ⟨11, 43, Unit, fun _ => { val := (iq (wq (r6.2.1 + (wq r6.1)))) }⟩, ⟨12, 44, Unit, fun _ => { val := (iq (wq (r6.2.1 + (wq r6.1)))) }⟩, ⟨13, 45, Unit, fun _ => { val := (iq (wq ((wq (r6.2.1 + (wq r6.1))) + (8 : Int)))) }⟩, ⟨14, 46, Unit, fun _ => { val := (str (cut (a0.drop (l1i5).toNat) (wq (r6.2.1 + (wq r6.1))) (wq ((wq (r6.2.1 + (wq r6.1))) + (8 : Int))))) }⟩, ⟨15, 47, Value, fun (i : Value) => { val := i, fz := [(fDat (tyList tyU8) [i] (cut (a0.drop (l1i5).toNat) (wq (r6.2.1 + (wq r6.1))) (wq ((wq (r6.2.1 + (wq r6.1))) + (8 : Int)))))] }⟩, ⟨16, 48, Value, fun (i : Value) => { val := i, fz := [(fPtr tyA8u8 i (ofA8u8 (cut (a0.drop (l1i5).toNat) (wq (r6.2.1 + (wq r6.1))) (wq ((wq (r6.2.1 + (wq r6.1))) + (8 : Int))))))] }⟩, ⟨17, 49, Unit, fun _ => { val := (ag (cA8u8 (ofA8u8 (cut (a0.drop (l1i5).toNat) (wq (r6.2.1 + (wq r6.1))) (wq ((wq (r6.2.1 + (wq r6.1))) + (8 : Int))))))) }⟩] rfl rfl rfl (by kernel_rfl) rfl rfl rfl ⟨⟨_, rfl, [], rfl, by
 intro X_ Y_ F_ K_ hK_
 refine al_show (m := Mem.plus (memOf w0 Z0 [] [(oRow l1v4 9 tyStr l1x4)] []) X_ Y_) (S := over (tab [(0, (str a0)), (4, l1v4), (5, (iq l1i5)), (6, (str (a0.drop (l1i5).toNat))), (8, (iq r6.2.1)), (10, (iq (wq (r6.2.1 + (wq r6.1)))))]) F_) ?_
 refine al_mv rfl rfl ?_
 refine al_nil ?_
 exact fr_fin hK_ ()⟩, ⟨_, rfl, [0], rfl, by
 intro _
 intro X_ Y_ F_ K_ hK_
 refine al_show (m := Mem.plus (memOf w0 Z0 [] [(oRow l1v4 9 tyStr l1x4)] []) X_ Y_) (S := over (put (tab [(0, (str a0)), (4, l1v4), (5, (iq l1i5)), (6, (str (a0.drop (l1i5).toNat))), (8, (iq r6.2.1)), (10, (iq (wq (r6.2.1 + (wq r6.1)))))]) 32 (str (a0.drop (l1i5).toNat))) F_) ?_
 refine al_val (ov_strLen Tryd.underlying9 rfl rfl) ?_
 refine al_nil ?_
 exact fr_fin hK_ ()⟩, ⟨_, rfl, [], rfl, by
 intro X_ Y_ F_ K_ hK_
 refine al_show (m := Mem.plus (memOf w0 Z0 [] [(oRow l1v4 9 tyStr l1x4)] []) X_ Y_) (S := over (tab [(0, (str a0)), (4, l1v4), (5, (iq l1i5)), (6, (str (a0.drop (l1i5).toNat))), (8, (iq r6.2.1)), (10, (iq (wq (r6.2.1 + (wq r6.1)))))]) F_) ?_
 refine al_mv rfl rfl ?_
 refine al_nil ?_
 exact fr_fin hK_ ()⟩, ⟨_, rfl, [2], rfl, by
 intro _
 intro X_ Y_ F_ K_ hK_
 refine al_show (m := Mem.plus (memOf w0 Z0 [] [(oRow l1v4 9 tyStr l1x4)] []) X_ Y_) (S := over (put (tab [(0, (str a0)), (4, l1v4), (5, (iq l1i5)), (6, (str (a0.drop (l1i5).toNat))), (8, (iq r6.2.1)), (10, (iq (wq (r6.2.1 + (wq r6.1)))))]) 34 (iq (wq (r6.2.1 + (wq r6.1))))) F_) ?_
 refine al_in rfl rfl rfl rfl ?_
 refine al_nil ?_
 exact fr_fin hK_ ()⟩, ⟨_, rfl, [1, 3], rfl, by
 intro _
 intro _
 intro X_ Y_ F_ K_ hK_
 refine al_show (m := Mem.plus (memOf w0 Z0 [] [(oRow l1v4 9 tyStr l1x4)] []) X_ Y_) (S := over (put (put (tab [(0, (str a0)), (4, l1v4), (5, (iq l1i5)), (6, (str (a0.drop (l1i5).toNat))), (8, (iq r6.2.1)), (10, (iq (wq (r6.2.1 + (wq r6.1)))))]) 33 (iq ((a0.drop (l1i5).toNat).length : Int))) 35 (iq (wq ((wq (r6.2.1 + (wq r6.1))) + (8 : Int))))) F_) ?_
 refine al_in rfl rfl rfl rfl ?_
 refine al_nil ?_
 exact fr_fin hK_ ()⟩, ⟨_, rfl, [4], rfl, by
 intro _
 intro X_ Y_ F_ K_ hK_
 refine al_show (m := Mem.plus (memOf w0 Z0 [] [(oRow l1v4 9 tyStr l1x4)] []) X_ Y_) (S := over (put (tab [(0, (str a0)), (4, l1v4), (5, (iq l1i5)), (6, (str (a0.drop (l1i5).toNat))), (8, (iq r6.2.1)), (10, (iq (wq (r6.2.1 + (wq r6.1)))))]) 36 (bool (decide (((a0.drop (l1i5).toNat).length : Int) < (wq ((wq (r6.2.1 + (wq r6.1))) + (8 : Int))))))) F_) ?_
 refine al_val (ov_cast (by first | rw [hb17] | rfl) (ov_move rfl rfl)) ?_
 refine al_nil ?_
 exact fr_fin hK_ ()⟩, ⟨_, rfl, [5], rfl, by
 intro _
 intro X_ Y_ F_ K_ hK_
 refine al_show (m := Mem.plus (memOf w0 Z0 [] [(oRow l1v4 9 tyStr l1x4)] []) X_ Y_) (S := over (put (tab [(0, (str a0)), (4, l1v4), (5, (iq l1i5)), (6, (str (a0.drop (l1i5).toNat))), (8, (iq r6.2.1)), (10, (iq (wq (r6.2.1 + (wq r6.1)))))]) 37 (bool false)) F_) ?_
 refine al_mv rfl rfl ?_
 refine al_nil ?_
 exact fr_fin hK_ ()⟩, ⟨_, rfl, [5], rfl, by
 intro _
 intro X_ Y_ F_ K_ hK_
 refine al_show (m := Mem.plus (memOf w0 Z0 [] [(oRow l1v4 9 tyStr l1x4)] []) X_ Y_) (S := over (put (tab [(0, (str a0)), (4, l1v4), (5, (iq l1i5)), (6, (str (a0.drop (l1i5).toNat))), (8, (iq r6.2.1)), (10, (iq (wq (r6.2.1 + (wq r6.1)))))]) 37 (bool false)) F_) ?_
 refine al_mv rfl rfl ?_
 refine al_nil ?_
 exact fr_fin hK_ ()⟩, ⟨_, rfl, [5, 6, 7], rfl, by
 intro _
 intro _
 intro _
 intro X_ Y_ F_ K_ hK_
 refine al_show (m := Mem.plus (memOf w0 Z0 [] [(oRow l1v4 9 tyStr l1x4)] []) X_ Y_) (S := over (put (put (put (tab [(0, (str a0)), (4, l1v4), (5, (iq l1i5)), (6, (str (a0.drop (l1i5).toNat))), (8, (iq r6.2.1)), (10, (iq (wq (r6.2.1 + (wq r6.1)))))]) 37 (bool false)) 38 (str (a0.drop (l1i5).toNat))) 39 (iq (wq (r6.2.1 + (wq r6.1))))) F_) ?_
 refine al_val (ov_strTo hc18.1 hc18.2 Tryd.underlying9 rfl rfl rfl) ?_
 refine al_nil ?_
 exact fr_fin hK_ ()⟩, ⟨_, rfl, [5], rfl, by
 intro _
 intro X_ Y_ F_ K_ hK_
 refine al_show (m := Mem.plus (memOf w0 Z0 [] [(oRow l1v4 9 tyStr l1x4)] []) X_ Y_) (S := over (put (tab [(0, (str a0)), (4, l1v4), (5, (iq l1i5)), (6, (str (a0.drop (l1i5).toNat))), (8, (iq r6.2.1)), (10, (iq (wq (r6.2.1 + (wq r6.1)))))]) 37 (bool false)) F_) ?_
 refine al_mv rfl rfl ?_
 refine al_nil ?_
 exact fr_fin hK_ ()⟩, ⟨_, rfl, [5], rfl, by
 intro _
 intro X_ Y_ F_ K_ hK_
 refine al_show (m := Mem.plus (memOf w0 Z0 [] [(oRow l1v4 9 tyStr l1x4)] []) X_ Y_) (S := over (put (tab [(0, (str a0)), (4, l1v4), (5, (iq l1i5)), (6, (str (a0.drop (l1i5).toNat))), (8, (iq r6.2.1)), (10, (iq (wq (r6.2.1 + (wq r6.1)))))]) 37 (bool false)) F_) ?_
 refine al_mv rfl rfl ?_
 refine al_nil ?_
 exact fr_fin hK_ ()⟩, ⟨_, rfl, [5], rfl, by
 intro _
 intro X_ Y_ F_ K_ hK_
 refine al_show (m := Mem.plus (memOf w0 Z0 [] [(oRow l1v4 9 tyStr l1x4)] []) X_ Y_) (S := over (put (tab [(0, (str a0)), (4, l1v4), (5, (iq l1i5)), (6, (str (a0.drop (l1i5).toNat))), (8, (iq r6.2.1)), (10, (iq (wq (r6.2.1 + (wq r6.1)))))]) 37 (bool false)) F_) ?_
 refine al_mv rfl rfl ?_
 refine al_nil ?_
 exact fr_fin hK_ ()⟩, ⟨_, rfl, [5, 11], rfl, by
 intro _
 intro _
 intro X_ Y_ F_ K_ hK_
 refine al_show (m := Mem.plus (memOf w0 Z0 [] [(oRow l1v4 9 tyStr l1x4)] []) X_ Y_) (S := over (put (put (tab [(0, (str a0)), (4, l1v4), (5, (iq l1i5)), (6, (str (a0.drop (l1i5).toNat))), (8, (iq r6.2.1)), (10, (iq (wq (r6.2.1 + (wq r6.1)))))]) 37 (bool false)) 44 (iq (wq (r6.2.1 + (wq r6.1))))) F_) ?_
 refine al_in rfl rfl rfl rfl ?_
 refine al_nil ?_
 exact fr_fin hK_ ()⟩, ⟨_, rfl, [5, 9, 10, 12], rfl, by
 intro _
 intro _
 intro _
 intro _
 intro X_ Y_ F_ K_ hK_
 refine al_show (m := Mem.plus (memOf w0 Z0 [] [(oRow l1v4 9 tyStr l1x4)] []) X_ Y_) (S := over (put (put (put (put (tab [(0, (str a0)), (4, l1v4), (5, (iq l1i5)), (6, (str (a0.drop (l1i5).toNat))), (8, (iq r6.2.1)), (10, (iq (wq (r6.2.1 + (wq r6.1)))))]) 37 (bool false)) 42 (str (a0.drop (l1i5).toNat))) 43 (iq (wq (r6.2.1 + (wq r6.1))))) 45 (iq (wq ((wq (r6.2.1 + (wq r6.1))) + (8 : Int))))) F_) ?_
 refine al_val (ov_strCut hc19.1 hc19.2.1 hc19.2.2 Tryd.underlying9 rfl rfl rfl rfl) ?_
 refine al_nil ?_
 exact fr_fin hK_ ()⟩, ⟨_, rfl, [5, 13], rfl, by
 intro _
 intro _
 intro X_ Y_ F_ K_ hK_
 refine al_show (m := Mem.plus (memOf w0 Z0 [] [(oRow l1v4 9 tyStr l1x4)] []) X_ Y_) (S := over (put (put (tab [(0, (str a0)), (4, l1v4), (5, (iq l1i5)), (6, (str (a0.drop (l1i5).toNat))), (8, (iq r6.2.1)), (10, (iq (wq (r6.2.1 + (wq r6.1)))))]) 37 (bool false)) 46 (str (cut (a0.drop (l1i5).toNat) (wq (r6.2.1 + (wq r6.1))) (wq ((wq (r6.2.1 + (wq r6.1))) + (8 : Int)))))) F_) ?_
 refine al_bytes hc20 rfl Tryd.underlying9 Tryd.underlying60 Tryd.underlying5 rfl (fun s21 => ?_)
 refine al_nil ?_
 exact fr_fin hK_ s21⟩, ⟨_, rfl, [5, 14], rfl, by
 intro _
 intro s21
 intro X_ Y_ F_ K_ hK_
 refine al_show (m := Mem.plus (memOf w0 Z0 [] [(oRow l1v4 9 tyStr l1x4)] [(fDat (tyList tyU8) [s21] (cut (a0.drop (l1i5).toNat) (wq (r6.2.1 + (wq r6.1))) (wq ((wq (r6.2.1 + (wq r6.1))) + (8 : Int)))))]) X_ Y_) (S := over (put (put (tab [(0, (str a0)), (4, l1v4), (5, (iq l1i5)), (6, (str (a0.drop (l1i5).toNat))), (8, (iq r6.2.1)), (10, (iq (wq (r6.2.1 + (wq r6.1)))))]) 37 (bool false)) 47 s21) F_) ?_
 refine al_s2ap (τA := tyA8u8) (x := (ofA8u8 (cut (a0.drop (l1i5).toNat) (wq (r6.2.1 + (wq r6.1))) (wq ((wq (r6.2.1 + (wq r6.1))) + (8 : Int)))))) 0 8 hc23 rfl (fun h9 => oflA8u8 hc23 h9) rfl rfl Tryd.underlying62 rfl (fun p22 => ?_)
 refine al_nil ?_
 exact fr_fin hK_ p22⟩, ⟨_, rfl, [5, 15], rfl, by
 intro _
 intro p22
 intro X_ Y_ F_ K_ hK_
 refine al_show (m := Mem.plus (memOf w0 Z0 [] [(oRow l1v4 9 tyStr l1x4)] [(fPtr tyA8u8 p22 (ofA8u8 (cut (a0.drop (l1i5).toNat) (wq (r6.2.1 + (wq r6.1))) (wq ((wq (r6.2.1 + (wq r6.1))) + (8 : Int))))))]) X_ Y_) (S := over (put (put (tab [(0, (str a0)), (4, l1v4), (5, (iq l1i5)), (6, (str (a0.drop (l1i5).toNat))), (8, (iq r6.2.1)), (10, (iq (wq (r6.2.1 + (wq r6.1)))))]) 37 (bool false)) 48 p22) F_) ?_
 refine al_val (ov_loadP (ds := (cA8u8 (ofA8u8 (cut (a0.drop (l1i5).toNat) (wq (r6.2.1 + (wq r6.1))) (wq ((wq (r6.2.1 + (wq r6.1))) + (8 : Int))))))) 0 rfl encA8u8 rfl Tryd.underlying62 sz62 rfl rfl rfl) ?_
 refine al_nil ?_
 exact fr_fin hK_ ()⟩, trivial⟩ ?_
     intro _
     intro _
     intro _
     intro _
     intro _
     intro _
     intro _
     intro _
     intro _
     intro X_ Y_ F_ K_ hK_
     refine al_show (m := Mem.plus (memOf w0 Z0 [] [(oRow l1v4 9 tyStr l1x4)] []) X_ Y_) (S := over (put (put (put (put (put (put (put (put (put (tab [(0, (str a0)), (4, l1v4), (5, (iq l1i5)), (6, (str (a0.drop (l1i5).toNat))), (8, (iq r6.2.1)), (10, (iq (wq (r6.2.1 + (wq r6.1)))))]) 32 (str (a0.drop (l1i5).toNat))) 33 (iq ((a0.drop (l1i5).toNat).length : Int))) 34 (iq (wq (r6.2.1 + (wq r6.1))))) 35 (iq (wq ((wq (r6.2.1 + (wq r6.1))) + (8 : Int))))) 36 (bool (decide (((a0.drop (l1i5).toNat).length : Int) < (wq ((wq (r6.2.1 + (wq r6.1))) + (8 : Int))))))) 37 (bool false)) 38 (str (a0.drop (l1i5).toNat))) 39 (iq (wq (r6.2.1 + (wq r6.1))))) 40 (str ((a0.drop (l1i5).toNat).take ((wq (r6.2.1 + (wq r6.1)))).toNat))) F_) ?_
     obtain ⟨r25, hc24, h⟩ := opt_some h
     refine al_callX (vs := [(str ((a0.drop (l1i5).toNat).take ((wq (r6.2.1 + (wq r6.1)))).toNat))]) (f_mix_ID_ok fu ((a0.drop (l1i5).toNat).take ((wq (r6.2.1 + (wq r6.1)))).toNat) hc24) [] [] [0] pre_nil rfl (by simp) (by decide) rfl (.inl rfl) rfl Tryd.func61 rfl rfl rfl (fun _ => ?_)
     refine al_nil ?_
     refine aq_show (m := Mem.plus (memOf w0 Z0 [] [(oRow l1v4 9 tyStr l1x4)] []) X_ Y_) ?_
     refine aq_next hK_ [0] [] [(0, (str a0)), (4, l1v4), (5, (iq l1i5)), (6, (str (a0.drop (l1i5).toNat))), (8, (iq r6.2.1)), (10, (iq (wq (r6.2.1 + (wq r6.1))))), (37, (bool false)), (41, (ag (cA8u8 r25)))] [42, 43, 44, 45, 46, 47, 48, 49] [⟨18, 50, Unit, fun _ => { val := (bool (!(r25 == (ofA8u8 (cut (a0.drop (l1i5).toNat) (wq (r6.2.1 + (wq r6.1))) (wq ((wq (r6.2.1 + (wq r6.1))) + (8 : Int)))))))) }⟩, ⟨19, 51, Unit, fun _ => { val := (bool (!(r25 == (ofA8u8 (cut (a0.drop (l1i5).toNat) (wq (r6.2.1 + (wq r6.1))) (wq ((wq (r6.2.1 + (wq r6.1))) + (8 : Int)))))))) }⟩] rfl rfl (by decide) rfl ⟨rfl, rfl, rfl, rfl, rfl, rfl, rfl, rfl, trivial⟩ ⟨rfl, rfl, rfl, rfl, rfl, rfl, rfl, rfl, trivial⟩ ?_
     clear hK_ K_ F_ X_ Y_
     refine ta_show (m := (memOf w0 Z0 [] [(oRow l1v4 9 tyStr l1x4)] [])) (S := (tab [(0, (str a0)), (4, l1v4), (5, (iq l1i5)), (6, (str (a0.drop (l1i5).toNat))), (8, (iq r6.2.1)), (10, (iq (wq (r6.2.1 + (wq r6.1))))), (37, (bool false)), (41, (ag (cA8u8 r25)))])) ?_
     refine ta_end [10, 11, 12, 13, 14, 15, 16, 17, 18, 19] [42, 43, 44, 45, 46, 47, 48, 49, 50, 51] rfl rfl (by kernel_rfl) rfl ⟨⟨_, rfl, [], rfl, by
 intro X_ Y_ F_ K_ hK_
 refine al_show (m := Mem.plus (memOf w0 Z0 [] [(oRow l1v4 9 tyStr l1x4)] []) X_ Y_) (S := over (tab [(0, (str a0)), (4, l1v4), (5, (iq l1i5)), (6, (str (a0.drop (l1i5).toNat))), (8, (iq r6.2.1)), (10, (iq (wq (r6.2.1 + (wq r6.1))))), (37, (bool false)), (41, (ag (cA8u8 r25)))]) F_) ?_
 refine al_mv rfl rfl ?_
 refine al_nil ?_
 exact fr_fin hK_ ()⟩, ⟨_, rfl, [], rfl, by
 intro X_ Y_ F_ K_ hK_
 refine al_show (m := Mem.plus (memOf w0 Z0 [] [(oRow l1v4 9 tyStr l1x4)] []) X_ Y_) (S := over (tab [(0, (str a0)), (4, l1v4), (5, (iq l1i5)), (6, (str (a0.drop (l1i5).toNat))), (8, (iq r6.2.1)), (10, (iq (wq (r6.2.1 + (wq r6.1))))), (37, (bool false)), (41, (ag (cA8u8 r25)))]) F_) ?_
 refine al_mv rfl rfl ?_
 refine al_nil ?_
 exact fr_fin hK_ ()⟩, ⟨_, rfl, [], rfl, by
 intro X_ Y_ F_ K_ hK_
 refine al_show (m := Mem.plus (memOf w0 Z0 [] [(oRow l1v4 9 tyStr l1x4)] []) X_ Y_) (S := over (tab [(0, (str a0)), (4, l1v4), (5, (iq l1i5)), (6, (str (a0.drop (l1i5).toNat))), (8, (iq r6.2.1)), (10, (iq (wq (r6.2.1 + (wq r6.1))))), (37, (bool false)), (41, (ag (cA8u8 r25)))]) F_) ?_
 refine al_mv rfl rfl ?_
 refine al_nil ?_
 exact fr_fin hK_ ()⟩, ⟨_, rfl, [2], rfl, by
 intro _
 intro X_ Y_ F_ K_ hK_
 refine al_show (m := Mem.plus (memOf w0 Z0 [] [(oRow l1v4 9 tyStr l1x4)] []) X_ Y_) (S := over (put (tab [(0, (str a0)), (4, l1v4), (5, (iq l1i5)), (6, (str (a0.drop (l1i5).toNat))), (8, (iq r6.2.1)), (10, (iq (wq (r6.2.1 + (wq r6.1))))), (37, (bool false)), (41, (ag (cA8u8 r25)))]) 44 (iq (wq (r6.2.1 + (wq r6.1))))) F_) ?_
 refine al_in rfl rfl rfl rfl ?_
 refine al_nil ?_
 exact fr_fin hK_ ()⟩, ⟨_, rfl, [0, 1, 3], rfl, by
 intro _
 intro _
 intro _
 intro X_ Y_ F_ K_ hK_
 refine al_show (m := Mem.plus (memOf w0 Z0 [] [(oRow l1v4 9 tyStr l1x4)] []) X_ Y_) (S := over (put (put (put (tab [(0, (str a0)), (4, l1v4), (5, (iq l1i5)), (6, (str (a0.drop (l1i5).toNat))), (8, (iq r6.2.1)), (10, (iq (wq (r6.2.1 + (wq r6.1))))), (37, (bool false)), (41, (ag (cA8u8 r25)))]) 42 (str (a0.drop (l1i5).toNat))) 43 (iq (wq (r6.2.1 + (wq r6.1))))) 45 (iq (wq ((wq (r6.2.1 + (wq r6.1))) + (8 : Int))))) F_) ?_
 refine al_val (ov_strCut hc19.1 hc19.2.1 hc19.2.2 Tryd.underlying9 rfl rfl rfl rfl) ?_
 refine al_nil ?_
 exact fr_fin hK_ ()⟩, ⟨_, rfl, [4], rfl, by
 intro _
 intro X_ Y_ F_ K_ hK_
 refine al_show (m := Mem.plus (memOf w0 Z0 [] [(oRow l1v4 9 tyStr l1x4)] []) X_ Y_) (S := over (put (tab [(0, (str a0)), (4, l1v4), (5, (iq l1i5)), (6, (str (a0.drop (l1i5).toNat))), (8, (iq r6.2.1)), (10, (iq (wq (r6.2.1 + (wq r6.1))))), (37, (bool false)), (41, (ag (cA8u8 r25)))]) 46 (str (cut (a0.drop (l1i5).toNat) (wq (r6.2.1 + (wq r6.1))) (wq ((wq (r6.2.1 + (wq r6.1))) + (8 : Int)))))) F_) ?_
 refine al_bytes hc20 rfl Tryd.underlying9 Tryd.underlying60 Tryd.underlying5 rfl (fun s21 => ?_)
 refine al_nil ?_
 exact fr_fin hK_ s21⟩, ⟨_, rfl, [5], rfl, by
 intro s21
 intro X_ Y_ F_ K_ hK_
 refine al_show (m := Mem.plus (memOf w0 Z0 [] [(oRow l1v4 9 tyStr l1x4)] [(fDat (tyList tyU8) [s21] (cut (a0.drop (l1i5).toNat) (wq (r6.2.1 + (wq r6.1))) (wq ((wq (r6.2.1 + (wq r6.1))) + (8 : Int)))))]) X_ Y_) (S := over (put (tab [(0, (str a0)), (4, l1v4), (5, (iq l1i5)), (6, (str (a0.drop (l1i5).toNat))), (8, (iq r6.2.1)), (10, (iq (wq (r6.2.1 + (wq r6.1))))), (37, (bool false)), (41, (ag (cA8u8 r25)))]) 47 s21) F_) ?_
 refine al_s2ap (τA := tyA8u8) (x := (ofA8u8 (cut (a0.drop (l1i5).toNat) (wq (r6.2.1 + (wq r6.1))) (wq ((wq (r6.2.1 + (wq r6.1))) + (8 : Int)))))) 0 8 hc23 rfl (fun h9 => oflA8u8 hc23 h9) rfl rfl Tryd.underlying62 rfl (fun p22 => ?_)
 refine al_nil ?_
 exact fr_fin hK_ p22⟩, ⟨_, rfl, [6], rfl, by
 intro p22
 intro X_ Y_ F_ K_ hK_
 refine al_show (m := Mem.plus (memOf w0 Z0 [] [(oRow l1v4 9 tyStr l1x4)] [(fPtr tyA8u8 p22 (ofA8u8 (cut (a0.drop (l1i5).toNat) (wq (r6.2.1 + (wq r6.1))) (wq ((wq (r6.2.1 + (wq r6.1))) + (8 : Int))))))]) X_ Y_) (S := over (put (tab [(0, (str a0)), (4, l1v4), (5, (iq l1i5)), (6, (str (a0.drop (l1i5).toNat))), (8, (iq r6.2.1)), (10, (iq (wq (r6.2.1 + (wq r6.1))))), (37, (bool false)), (41, (ag (cA8u8 r25)))]) 48 p22) F_) ?_
 refine al_val (ov_loadP (ds := (cA8u8 (ofA8u8 (cut (a0.drop (l1i5).toNat) (wq (r6.2.1 + (wq r6.1))) (wq ((wq (r6.2.1 + (wq r6.1))) + (8 : Int))))))) 0 rfl encA8u8 rfl Tryd.underlying62 sz62 rfl rfl rfl) ?_
 refine al_nil ?_
 exact fr_fin hK_ ()⟩, ⟨_, rfl, [7], rfl, by
 intro _
 intro X_ Y_ F_ K_ hK_
 refine al_show (m := Mem.plus (memOf w0 Z0 [] [(oRow l1v4 9 tyStr l1x4)] []) X_ Y_) (S := over (put (tab [(0, (str a0)), (4, l1v4), (5, (iq l1i5)), (6, (str (a0.drop (l1i5).toNat))), (8, (iq r6.2.1)), (10, (iq (wq (r6.2.1 + (wq r6.1))))), (37, (bool false)), (41, (ag (cA8u8 r25)))]) 49 (ag (cA8u8 (ofA8u8 (cut (a0.drop (l1i5).toNat) (wq (r6.2.1 + (wq r6.1))) (wq ((wq (r6.2.1 + (wq r6.1))) + (8 : Int)))))))) F_) ?_
 refine al_val (ov_neqA (cs := (cA8u8 r25)) (ds := (cA8u8 (ofA8u8 (cut (a0.drop (l1i5).toNat) (wq (r6.2.1 + (wq r6.1))) (wq ((wq (r6.2.1 + (wq r6.1))) + (8 : Int))))))) (ls := [5, 5, 5, 5, 5, 5, 5, 5]) (p := (r25 == (ofA8u8 (cut (a0.drop (l1i5).toNat) (wq (r6.2.1 + (wq r6.1))) (wq ((wq (r6.2.1 + (wq r6.1))) + (8 : Int))))))) eg62 kt62 lv62 rfl rfl (by kernel_rfl) (by kernel_rfl) (fit_cons (fit_u8 Tryd.underlying5) (fit_cons (fit_u8 Tryd.underlying5) (fit_cons (fit_u8 Tryd.underlying5) (fit_cons (fit_u8 Tryd.underlying5) (fit_cons (fit_u8 Tryd.underlying5) (fit_cons (fit_u8 Tryd.underlying5) (fit_cons (fit_u8 Tryd.underlying5) (fit_cons (fit_u8 Tryd.underlying5) fit_nil)))))))) (fit_cons (fit_u8 Tryd.underlying5) (fit_cons (fit_u8 Tryd.underlying5) (fit_cons (fit_u8 Tryd.underlying5) (fit_cons (fit_u8 Tryd.underlying5) (fit_cons (fit_u8 Tryd.underlying5) (fit_cons (fit_u8 Tryd.underlying5) (fit_cons (fit_u8 Tryd.underlying5) (fit_cons (fit_u8 Tryd.underlying5) fit_nil)))))))) (injA8u8 (x := r25) (y := (ofA8u8 (cut (a0.drop (l1i5).toNat) (wq (r6.2.1 + (wq r6.1))) (wq ((wq (r6.2.1 + (wq r6.1))) + (8 : Int))))))) rfl) ?_
 refine al_nil ?_
 exact fr_fin hK_ ()⟩, ⟨_, rfl, [8], rfl, by
 intro _
 intro X_ Y_ F_ K_ hK_
 refine al_show (m := Mem.plus (memOf w0 Z0 [] [(oRow l1v4 9 tyStr l1x4)] []) X_ Y_) (S := over (put (tab [(0, (str a0)), (4, l1v4), (5, (iq l1i5)), (6, (str (a0.drop (l1i5).toNat))), (8, (iq r6.2.1)), (10, (iq (wq (r6.2.1 + (wq r6.1))))), (37, (bool false)), (41, (ag (cA8u8 r25)))]) 50 (bool (!(r25 == (ofA8u8 (cut (a0.drop (l1i5).toNat) (wq (r6.2.1 + (wq r6.1))) (wq ((wq (r6.2.1 + (wq r6.1))) + (8 : Int))))))))) F_) ?_
 refine al_val (ov_pick_f rfl rfl rfl) ?_
 refine al_nil ?_
 exact fr_fin hK_ ()⟩, trivial⟩ ?_
     intro _
     intro _
     intro _
     intro _
     intro _
     intro s21
     intro p22
     intro _
     intro _
     intro _
     refine aq_show (m := (memOf w0 Z0 [] [(oRow l1v4 9 tyStr l1x4)] [(fPtr tyA8u8 p22 (ofA8u8 (cut (a0.drop (l1i5).toNat) (wq (r6.2.1 + (wq r6.1))) (wq ((wq (r6.2.1 + (wq r6.1))) + (8 : Int)))))), (fDat (tyList tyU8) [s21] (cut (a0.drop (l1i5).toNat) (wq (r6.2.1 + (wq r6.1))) (wq ((wq (r6.2.1 + (wq r6.1))) + (8 : Int)))))])) (S := (put (put (put (put (put (put (put (put (put (put (tab [(0, (str a0)), (4, l1v4), (5, (iq l1i5)), (6, (str (a0.drop (l1i5).toNat))), (8, (iq r6.2.1)), (10, (iq (wq (r6.2.1 + (wq r6.1))))), (37, (bool false)), (41, (ag (cA8u8 r25)))]) 42 (str (a0.drop (l1i5).toNat))) 43 (iq (wq (r6.2.1 + (wq r6.1))))) 44 (iq (wq (r6.2.1 + (wq r6.1))))) 45 (iq (wq ((wq (r6.2.1 + (wq r6.1))) + (8 : Int))))) 46 (str (cut (a0.drop (l1i5).toNat) (wq (r6.2.1 + (wq r6.1))) (wq ((wq (r6.2.1 + (wq r6.1))) + (8 : Int)))))) 47 s21) 48 p22) 49 (ag (cA8u8 (ofA8u8 (cut (a0.drop (l1i5).toNat) (wq (r6.2.1 + (wq r6.1))) (wq ((wq (r6.2.1 + (wq r6.1))) + (8 : Int)))))))) 50 (bool (!(r25 == (ofA8u8 (cut (a0.drop (l1i5).toNat) (wq (r6.2.1 + (wq r6.1))) (wq ((wq (r6.2.1 + (wq r6.1))) + (8 : Int))))))))) 51 (bool (!(r25 == (ofA8u8 (cut (a0.drop (l1i5).toNat) (wq (r6.2.1 + (wq r6.1))) (wq ((wq (r6.2.1 + (wq r6.1))) + (8 : Int)))))))))) ?_
     exact aq_join (!(r25 == (ofA8u8 (cut (a0.drop (l1i5).toNat) (wq (r6.2.1 + (wq r6.1))) (wq ((wq (r6.2.1 + (wq r6.1))) + (8 : Int))))))) h (fun w a hm hs => norm hm hs [0] [] [(0, (str a0)), (4, l1v4), (5, (iq l1i5)), (6, (str (a0.drop (l1i5).toNat))), (8, (iq r6.2.1)), (10, (iq (wq (r6.2.1 + (wq r6.1))))), (51, (bool (!(r25 == (ofA8u8 (cut (a0.drop (l1i5).toNat) (wq (r6.2.1 + (wq r6.1))) (wq ((wq (r6.2.1 + (wq r6.1))) + (8 : Int)))))))))] (by decide) ⟨rfl, rfl, rfl, rfl, rfl, rfl, rfl, trivial⟩)
 ·clear hkk8
  refine aw_region ?_
  refine al_mv rfl rfl ?_
  refine al_in rfl rfl rfl rfl ?_
  refine al_mv rfl rfl ?_
  refine al_caseB 22 rfl (fun hb26 => ?_) (fun hb26 => ?_)
  ·replace h := bif_t hb26 h
   refine al_skip ?_
   refine al_skip ?_
   refine al_val (ov_pick_t rfl rfl rfl) ?_
   refine al_nil ?_
   exact aq_join true h (fun w a hm hs => norm hm hs [0] [] [(0, (str a0)), (4, l1v4), (5, (iq l1i5)), (6, (str (a0.drop (l1i5).toNat))), (7, (uq r6.1)), (8, (iq r6.2.1)), (25, (bool true))] (by decide) ⟨rfl, rfl, rfl, rfl, rfl, rfl, rfl, trivial⟩)
  ·replace h := bif_f hb26 h
   refine al_mv rfl rfl ?_
   refine al_in rfl rfl rfl rfl ?_
   refine al_val (ov_pick_f rfl rfl rfl) ?_
   refine al_nil ?_
   exact aq_join (decide (r6.1 > (4096 : Int))) h (fun w a hm hs => norm hm hs [0] [] [(0, (str a0)), (4, l1v4), (5, (iq l1i5)), (6, (str (a0.drop (l1i5).toNat))), (7, (uq r6.1)), (8, (iq r6.2.1)), (25, (bool (decide (r6.1 > (4096 : Int)))))] (by decide) ⟨rfl, rfl, rfl, rfl, rfl, rfl, rfl, trivial⟩)
def f_fetch_Blobs_L10 (r4 : ((List (List UInt8)) × Int)) (kk7 : ((List S_api_Blob) → Option ((List S_api_Blob) × Bool))) (fu : Nat) : Nat → (List S_api_Blob) → Int → Option ((List S_api_Blob) × Bool)
  | 0, _, _ => none
  | k9 + 1, l8x7, l8i19 => (bif (decide (l8i19 < (r4.1.length : Int))) then (opt (at? r4.1 l8i19) fun (u12 : (List UInt8)) => (lt (fun (j16b31 : Bool) => (bif j16b31 then (some (l8x7, false)) else (req (0 ≤ (0 : Int) ∧ (0 : Int) < (u12.length : Int)) (req (0 ≤ (1 : Int) ∧ (1 : Int) ≤ (u12.length : Int)) (req (((l8x7.length + ([(S_api_Blob.mk (IntKind.i64.wrap (En.bAt u12 (0 : Int))) (u12.drop ((1 : Int)).toNat))]).length) * 24 : Nat) ≤ 140737488355328 ∧ l8x7.length + ([(S_api_Blob.mk (IntKind.i64.wrap (En.bAt u12 (0 : Int))) (u12.drop ((1 : Int)).toNat))]).length ≤ 9223372036854775807) (f_fetch_Blobs_L10 r4 kk7 fu k9 (l8x7 ++ ([(S_api_Blob.mk (IntKind.i64.wrap (En.bAt u12 (0 : Int))) (u12.drop ((1 : Int)).toNat))])) (IntKind.i64.wrap (l8i19 + (1 : Int))))))))) fun (kk17 : Bool → Option ((List S_api_Blob) × Bool)) => (bif (u12 == ([] : List UInt8)) then (kk17 true) else (req (0 ≤ (0 : Int) ∧ (0 : Int) < (u12.length : Int)) (opt (f_pack_Known fu (IntKind.i64.wrap (En.bAt u12 (0 : Int)))) fun (r27 : Bool) => (kk17 (!r27))))))) else (kk7 l8x7))
def f_fetch_Blobs (fu : Nat) (a0 : (List (List UInt8))) : Option ((List S_api_Blob) × Bool) := (opt (f_strings_Join fu a0 ([] : List UInt8)) fun (r2 : (List UInt8)) => (opt (f_journal_Scan fu r2) fun (r4 : ((List (List UInt8)) × Int)) => (lt (fun (j6x7 : (List S_api_Blob)) => (some (j6x7, (r4.2 == (r2.length : Int))))) fun (kk7 : (List S_api_Blob) → Option ((List S_api_Blob) × Bool)) => (f_fetch_Blobs_L10 r4 kk7 fu fu ([] : List S_api_Blob) (0 : Int)))))
set_option maxHeartbeats 2000000 in
set_option maxRecDepth 100000 in
theorem f_fetch_Blobs_ok (fu : Nat) (v0_0 : Value) (a0 : (List (List UInt8))) {r : ((List S_api_Blob) × Bool)} (h : f_fetch_Blobs fu a0 = some r) : FnOk Tryd.prog 14 [v0_0] [(fDat (tyList tyStr) [v0_0] a0)] [] (fun (i : Value) => { val := (Value.tuple #[i, (bool r.2)]), own := [(oRow i 41 tyS_api_Blob r.1)] }) := by
 unfold f_fetch_Blobs at h
 refine fn_enter Tryd.func14 rfl Tryd.ntmps14 rfl (fun w0 Z0 => ?_)
 refine aw_sr ?_
 refine al_as rfl rfl ?_
 refine al_as rfl rfl ?_
 refine al_nt ?_
 refine aw_sr ?_
 refine al_mv rfl rfl ?_
 obtain ⟨r2, hc1, h⟩ := opt_some h
 refine al_call (vs := [v0_0, (str ([] : List UInt8))]) (f_strings_Join_ok fu v0_0 a0 ([] : List UInt8) hc1) [] [] [] (pre_fz 0 rfl pre_nil) rfl (by simp) (by decide) (.inl rfl) rfl Tryd.func34 rfl rfl rfl (fun _ => ?_)
 refine al_as rfl rfl ?_
 refine al_nt ?_
 refine aw_sr ?_
 refine al_mv rfl rfl ?_
 obtain ⟨r4, hc3, h⟩ := opt_some h
 refine al_call (vs := [(str r2)]) (f_journal_Scan_ok fu r2 hc3) [] [] [] pre_nil rfl (by simp) (by decide) (.inl rfl) rfl Tryd.func35 rfl rfl rfl (fun v5 => ?_)
 refine al_mv rfl rfl ?_
 refine al_ex rfl rfl rfl ?_
 refine al_ex rfl rfl rfl ?_
 refine al_as rfl rfl ?_
 refine al_as rfl rfl ?_
 refine al_nt ?_
 refine aw_sr ?_
 refine al_as rfl rfl ?_
 refine al_nt ?_
 obtain ⟨kk7, hkk7, h⟩ := lt_some h
 refine aw_seq_join (ι := Value × (List S_api_Blob)) (fun i => (memOf w0 Z0 [] [(oRow i.1 41 tyS_api_Blob i.2)] [(fDat (tyList tyStr) [v0_0] a0)])) (fun i => (tab [(4, (str r2)), (6, (iq r4.2)), (7, i.1)])) (fun i => kk7 i.2 = some r) ?_ ?_
 ·rintro ⟨j6v7, j6x7⟩ h
  have h : kk7 j6x7 = some r := h
  rw [hkk7] at h
  dsimp only at h
  clear hkk7
  refine aw_show (m := (memOf w0 Z0 [] [(oRow j6v7 41 tyS_api_Blob j6x7)] [(fDat (tyList tyStr) [v0_0] a0)])) (S := (tab [(4, (str r2)), (6, (iq r4.2)), (7, j6v7)])) ?_
  refine aw_sr ?_
  refine al_mv rfl rfl ?_
  refine al_mv rfl rfl ?_
  refine al_mv rfl rfl ?_
  refine al_val (ov_strLen Tryd.underlying9 rfl rfl) ?_
  refine al_in rfl rfl rfl rfl ?_
  refine al_as rfl rfl ?_
  refine al_as rfl rfl ?_
  refine al_nt ?_
  refine aw_ret ?_
  obtain rfl := Option.some.inj h
  exact fn_ret j6v7 [0] [] rfl rfl rfl rfl (res2 rfl rfl rfl) rfl rfl rfl (by decide)
 ·clear hkk7
  refine aw_sr ?_
  refine al_mv rfl rfl ?_
  refine al_val (ov_lenR 0 rfl rfl Tryd.underlying22 rfl) ?_
  refine al_mv rfl rfl ?_
  refine al_nt ?_
  refine aw_block ?_
  refine aw_nilR 41 tyS_api_Blob ?_
  refine aw_state (aw_loop (ι := Value × (List S_api_Blob) × Int) (fun i => (memOf w0 Z0 [] [(oRow i.1 41 tyS_api_Blob i.2.1), (oRow v5 9 tyStr r4.1)] [(fDat (tyList tyStr) [v0_0] a0)])) (fun i => (tab [(4, (str r2)), (6, (iq r4.2)), (7, i.1), (17, v5), (18, (iq (r4.1.length : Int))), (19, (iq i.2.2))])) (fun q i => f_fetch_Blobs_L10 r4 kk7 fu q i.2.1 i.2.2 = some r) ?_ fu (nS, ([] : List S_api_Blob), (0 : Int)) h) (fun w a hm hs => norm hm hs [0, 1] [0] [(4, (str r2)), (6, (iq r4.2)), (7, nS), (17, v5), (18, (iq (r4.1.length : Int))), (19, (iq (0 : Int)))] (by decide) ⟨rfl, rfl, rfl, rfl, rfl, rfl, trivial⟩)
  clear h
  rintro k9 ⟨l8v7, l8x7, l8i19⟩ h
  have h : f_fetch_Blobs_L10 r4 kk7 fu k9 l8x7 l8i19 = some r := h
  obtain _ | k9 := k9
  · rw [f_fetch_Blobs_L10] at h; cases h
  rw [f_fetch_Blobs_L10] at h
  refine aw_show (m := (memOf w0 Z0 [] [(oRow l8v7 41 tyS_api_Blob l8x7), (oRow v5 9 tyStr r4.1)] [(fDat (tyList tyStr) [v0_0] a0)])) (S := (tab [(4, (str r2)), (6, (iq r4.2)), (7, l8v7), (17, v5), (18, (iq (r4.1.length : Int))), (19, (iq l8i19))])) ?_
  refine aw_sr ?_
  refine al_in rfl rfl rfl rfl ?_
  refine al_nt ?_
  refine aw_seq ?_
  refine aw_cond rfl (fun hb11 => ?_) (fun hb11 => ?_)
  ·replace h := bif_t hb11 h
   refine aw_skip ?_
   refine aq_then ?_
   refine aw_seq ?_
   refine aw_block ?_
   refine aw_sr ?_
   obtain ⟨u12, hu13, h⟩ := opt_some h
   refine al_idxR 1 (at_some hu13).1 (at_some hu13).2.1 rfl rfl rfl Tryd.underlying22 sz9 rfl (fun p14 hp15 => ?_)
   refine al_val (ov_loadR (ds := [(str u12)]) 1 rfl hp15 (at_some hu13).2.2 (fun h => h) rfl Tryd.underlying9 sz9 rfl rfl rfl) ?_
   refine al_as rfl rfl ?_
   refine al_nt ?_
   refine aw_seq ?_
   obtain ⟨kk17, hkk17, h⟩ := lt_some h
   refine aw_seq_join (ι := Bool) (fun i => (memOf w0 Z0 [] [(oRow l8v7 41 tyS_api_Blob l8x7), (oRow v5 9 tyStr r4.1)] [(fDat (tyList tyStr) [v0_0] a0)])) (fun i => (tab [(4, (str r2)), (6, (iq r4.2)), (7, l8v7), (9, (str u12)), (17, v5), (18, (iq (r4.1.length : Int))), (19, (iq l8i19)), (31, (bool i))])) (fun i => kk17 i = some r) ?_ ?_
   ·rintro j16b31 h
    have h : kk17 j16b31 = some r := h
    rw [hkk17] at h
    dsimp only at h
    clear hkk17
    refine aw_show (m := (memOf w0 Z0 [] [(oRow l8v7 41 tyS_api_Blob l8x7), (oRow v5 9 tyStr r4.1)] [(fDat (tyList tyStr) [v0_0] a0)])) (S := (tab [(4, (str r2)), (6, (iq r4.2)), (7, l8v7), (9, (str u12)), (17, v5), (18, (iq (r4.1.length : Int))), (19, (iq l8i19)), (31, (bool j16b31))])) ?_
    refine aw_cond rfl (fun hb18 => ?_) (fun hb18 => ?_)
    ·replace h := bif_t hb18 h
     refine aw_sr ?_
     refine al_mv rfl rfl ?_
     refine al_as rfl rfl ?_
     refine al_as rfl rfl ?_
     refine al_nt ?_
     refine aw_ret ?_
     refine aq_then_ret ?_
     refine aq_block_ret ?_
     refine aq_then_ret ?_
     refine aq_then_ret ?_
     refine aq_block_ret ?_
     refine aq_then_ret ?_
     obtain rfl := Option.some.inj h
     exact fn_ret l8v7 [0] [] rfl rfl rfl rfl (res2 rfl rfl rfl) rfl rfl rfl (by decide)
    ·replace h := bif_f hb18 h
     refine aw_skip ?_
     refine aq_then ?_
     obtain ⟨hc19, h⟩ := req_some h
     obtain ⟨hc20, h⟩ := req_some h
     refine aw_region_open [⟨0, 33, Unit, fun _ => { val := l8v7 }⟩, ⟨1, 34, Unit, fun _ => { val := (str u12) }⟩, ⟨2, 35, Unit, fun _ => { val := (i8 (En.bAt u12 (0 : Int))) }⟩, ⟨3, 36, Unit, fun _ => { val := (iq (wq (En.bAt u12 (0 : Int)))) }⟩, ⟨4, 37, Unit, fun _ => { val := (str u12) }⟩, ⟨5, 38, Unit, fun _ => { val := (str (u12.drop ((1 : Int)).toNat)) }⟩, ⟨6, 39, Unit, fun _ => { val := (ag [(iq (wq (En.bAt u12 (0 : Int)))), (str (u12.drop ((1 : Int)).toNat))]) }⟩, ⟨7, 40, Value, fun (i : Value) => { val := i, own := [(oRow i 41 tyS_api_Blob [(S_api_Blob.mk (wq (En.bAt u12 (0 : Int))) (u12.drop ((1 : Int)).toNat))])] }⟩] (tab [(4, (str r2)), (6, (iq r4.2)), (7, l8v7), (9, (str u12)), (17, v5), (18, (iq (r4.1.length : Int))), (19, (iq l8i19))]) mixed (fun a hs => hs.tab _ (allT_mem ⟨rfl, rfl, rfl, rfl, rfl, rfl, rfl, trivial⟩)) ?_
     refine ta_show (m := (memOf w0 Z0 [] [(oRow l8v7 41 tyS_api_Blob l8x7), (oRow v5 9 tyStr r4.1)] [(fDat (tyList tyStr) [v0_0] a0)])) (S := (tab [(4, (str r2)), (6, (iq r4.2)), (7, l8v7), (9, (str u12)), (17, v5), (18, (iq (r4.1.length : Int))), (19, (iq l8i19))])) ?_
     refine ta_step 8 _ [0, 1, 2, 3, 4, 5, 6, 7] [33, 34, 35, 36, 37, 38, 39, 40] [0, 1, 2, 3, 4, 5, 6, 7] [] [⟨0, 33, Unit, fun _ => { val := l8v7 }⟩, ⟨1, 34, Unit, fun _ => { val := (str u12) }⟩, ⟨2, 35, Unit, fun _ => { val := (i8 (En.bAt u12 (0 : Int))) }⟩, ⟨3, 36, Unit, fun _ => { val := (iq (wq (En.bAt u12 (0 : Int)))) }⟩, ⟨4, 37, Unit, fun _ => { val := (str u12) }⟩, ⟨5, 38, Unit, fun _ => { val := (str (u12.drop ((1 : Int)).toNat)) }⟩, ⟨6, 39, Unit, fun _ => { val := (ag [(iq (wq (En.bAt u12 (0 : Int)))), (str (u12.drop ((1 : Int)).toNat))]) }⟩, ⟨7, 40, Value, fun (i : Value) => { val := i, own := [(oRow i 41 tyS_api_Blob [(S_api_Blob.mk (wq (En.bAt u12 (0 : Int))) (u12.drop ((1 : Int)).toNat))])] }⟩] [] rfl rfl rfl (by kernel_rfl) rfl rfl rfl ⟨⟨_, rfl, [], rfl, by
 intro X_ Y_ F_ K_ hK_
 refine al_show (m := Mem.plus (memOf w0 Z0 [] [(oRow l8v7 41 tyS_api_Blob l8x7), (oRow v5 9 tyStr r4.1)] [(fDat (tyList tyStr) [v0_0] a0)]) X_ Y_) (S := over (tab [(4, (str r2)), (6, (iq r4.2)), (7, l8v7), (9, (str u12)), (17, v5), (18, (iq (r4.1.length : Int))), (19, (iq l8i19))]) F_) ?_
 refine al_mv rfl rfl ?_
 refine al_nil ?_
 exact fr_fin hK_ ()⟩, ⟨_, rfl, [], rfl, by
 intro X_ Y_ F_ K_ hK_
 refine al_show (m := Mem.plus (memOf w0 Z0 [] [(oRow l8v7 41 tyS_api_Blob l8x7), (oRow v5 9 tyStr r4.1)] [(fDat (tyList tyStr) [v0_0] a0)]) X_ Y_) (S := over (tab [(4, (str r2)), (6, (iq r4.2)), (7, l8v7), (9, (str u12)), (17, v5), (18, (iq (r4.1.length : Int))), (19, (iq l8i19))]) F_) ?_
 refine al_mv rfl rfl ?_
 refine al_nil ?_
 exact fr_fin hK_ ()⟩, ⟨_, rfl, [1], rfl, by
 intro _
 intro X_ Y_ F_ K_ hK_
 refine al_show (m := Mem.plus (memOf w0 Z0 [] [(oRow l8v7 41 tyS_api_Blob l8x7), (oRow v5 9 tyStr r4.1)] [(fDat (tyList tyStr) [v0_0] a0)]) X_ Y_) (S := over (put (tab [(4, (str r2)), (6, (iq r4.2)), (7, l8v7), (9, (str u12)), (17, v5), (18, (iq (r4.1.length : Int))), (19, (iq l8i19))]) 34 (str u12)) F_) ?_
 refine al_val (ov_strIdx hc19.1 hc19.2 Tryd.underlying9 rfl rfl rfl) ?_
 refine al_nil ?_
 exact fr_fin hK_ ()⟩, ⟨_, rfl, [2], rfl, by
 intro _
 intro X_ Y_ F_ K_ hK_
 refine al_show (m := Mem.plus (memOf w0 Z0 [] [(oRow l8v7 41 tyS_api_Blob l8x7), (oRow v5 9 tyStr r4.1)] [(fDat (tyList tyStr) [v0_0] a0)]) X_ Y_) (S := over (put (tab [(4, (str r2)), (6, (iq r4.2)), (7, l8v7), (9, (str u12)), (17, v5), (18, (iq (r4.1.length : Int))), (19, (iq l8i19))]) 35 (i8 (En.bAt u12 (0 : Int)))) F_) ?_
 refine al_val (ov_convInt (by rw [Tryd.underlying5]; rfl) Tryd.underlying3 rfl rfl) ?_
 refine al_nil ?_
 exact fr_fin hK_ ()⟩, ⟨_, rfl, [], rfl, by
 intro X_ Y_ F_ K_ hK_
 refine al_show (m := Mem.plus (memOf w0 Z0 [] [(oRow l8v7 41 tyS_api_Blob l8x7), (oRow v5 9 tyStr r4.1)] [(fDat (tyList tyStr) [v0_0] a0)]) X_ Y_) (S := over (tab [(4, (str r2)), (6, (iq r4.2)), (7, l8v7), (9, (str u12)), (17, v5), (18, (iq (r4.1.length : Int))), (19, (iq l8i19))]) F_) ?_
 refine al_mv rfl rfl ?_
 refine al_nil ?_
 exact fr_fin hK_ ()⟩, ⟨_, rfl, [4], rfl, by
 intro _
 intro X_ Y_ F_ K_ hK_
 refine al_show (m := Mem.plus (memOf w0 Z0 [] [(oRow l8v7 41 tyS_api_Blob l8x7), (oRow v5 9 tyStr r4.1)] [(fDat (tyList tyStr) [v0_0] a0)]) X_ Y_) (S := over (put (tab [(4, (str r2)), (6, (iq r4.2)), (7, l8v7), (9, (str u12)), (17, v5), (18, (iq (r4.1.length : Int))), (19, (iq l8i19))]) 37 (str u12)) F_) ?_
 refine al_val (ov_strFrom hc20.1 hc20.2 Tryd.underlying9 rfl rfl rfl) ?_
 refine al_nil ?_
 exact fr_fin hK_ ()⟩, ⟨_, rfl, [3, 5], rfl, by
 intro _
 intro _
 intro X_ Y_ F_ K_ hK_
 refine al_show (m := Mem.plus (memOf w0 Z0 [] [(oRow l8v7 41 tyS_api_Blob l8x7), (oRow v5 9 tyStr r4.1)] [(fDat (tyList tyStr) [v0_0] a0)]) X_ Y_) (S := over (put (put (tab [(4, (str r2)), (6, (iq r4.2)), (7, l8v7), (9, (str u12)), (17, v5), (18, (iq (r4.1.length : Int))), (19, (iq l8i19))]) 36 (iq (wq (En.bAt u12 (0 : Int))))) 38 (str (u12.drop ((1 : Int)).toNat))) F_) ?_
 refine al_val (ov_build (cells := ([(iq (wq (En.bAt u12 (0 : Int)))), (str (u12.drop ((1 : Int)).toNat))]).toArray) (cs := [(iq (wq (En.bAt u12 (0 : Int)))), (str (u12.drop ((1 : Int)).toNat))]) rfl (fun w a hm hs => by simp only [List.map_toArray, List.map_cons, List.map_nil, List.toList_toArray, hs.ev (x := .tmp 36) rfl, hs.ev (x := .tmp 38) rfl]; kernel_rfl)) ?_
 refine al_nil ?_
 exact fr_fin hK_ ()⟩, ⟨_, rfl, [6], rfl, by
 intro _
 intro X_ Y_ F_ K_ hK_
 refine al_show (m := Mem.plus (memOf w0 Z0 [] [(oRow l8v7 41 tyS_api_Blob l8x7), (oRow v5 9 tyStr r4.1)] [(fDat (tyList tyStr) [v0_0] a0)]) X_ Y_) (S := over (put (tab [(4, (str r2)), (6, (iq r4.2)), (7, l8v7), (9, (str u12)), (17, v5), (18, (iq (r4.1.length : Int))), (19, (iq l8i19))]) 39 (ag [(iq (wq (En.bAt u12 (0 : Int)))), (str (u12.drop ((1 : Int)).toNat))])) F_) ?_
 refine al_buildSlice (τ := tyS_api_Blob) (e := 41) (k := 1) (sz := 0) (by_ := 0) (z := undef) (cs := [(iq (wq (En.bAt u12 (0 : Int)))), (str (u12.drop ((1 : Int)).toNat))]) (xs := [(S_api_Blob.mk (wq (En.bAt u12 (0 : Int))) (u12.drop ((1 : Int)).toNat))]) rfl (by decide) (fun w a hm hs => ⟨([(iq (wq (En.bAt u12 (0 : Int)))), (str (u12.drop ((1 : Int)).toNat))]).toArray, rfl, by simp only [List.map_toArray, List.map_cons, List.map_nil, hs.ev (x := .tmp 39) rfl]; exact run_bs [(ag [(iq (wq (En.bAt u12 (0 : Int)))), (str (u12.drop ((1 : Int)).toNat))])] [(iq (wq (En.bAt u12 (0 : Int)))), (str (u12.drop ((1 : Int)).toNat))] Tryd.underlying33 to41 rfl rfl (bs_cons (l := [(iq (wq (En.bAt u12 (0 : Int)))), (str (u12.drop ((1 : Int)).toNat))]) (cs := []) (cv_rfl rfl) rfl bs_nil) hm⟩) (fun hm => ⟨_, _, rfl, (fun _ => mkS_api_Blob rfl) hm, rfl⟩) rfl (fun v21 => ?_)
 refine al_nil ?_
 exact fr_fin hK_ v21⟩, trivial⟩ ?_
     intro _
     intro _
     intro _
     intro _
     intro _
     intro _
     intro _
     intro v21
     intro X_ Y_ F_ K_ hK_
     refine al_show (m := Mem.plus (memOf w0 Z0 [] [(oRow v21 41 tyS_api_Blob [(S_api_Blob.mk (wq (En.bAt u12 (0 : Int))) (u12.drop ((1 : Int)).toNat))]), (oRow l8v7 41 tyS_api_Blob l8x7), (oRow v5 9 tyStr r4.1)] [(fDat (tyList tyStr) [v0_0] a0)]) X_ Y_) (S := over (put (put (put (put (put (put (put (put (tab [(4, (str r2)), (6, (iq r4.2)), (7, l8v7), (9, (str u12)), (17, v5), (18, (iq (r4.1.length : Int))), (19, (iq l8i19))]) 33 l8v7) 34 (str u12)) 35 (i8 (En.bAt u12 (0 : Int)))) 36 (iq (wq (En.bAt u12 (0 : Int))))) 37 (str u12)) 38 (str (u12.drop ((1 : Int)).toNat))) 39 (ag [(iq (wq (En.bAt u12 (0 : Int)))), (str (u12.drop ((1 : Int)).toNat))])) 40 v21) F_) ?_
     obtain ⟨hc22, h⟩ := req_some h
     refine al_append 1 hc22.1 hc22.2 rfl (src_own (i := 1) 0 rfl) rfl rfl Tryd.underlying33 to41 rfl rfl rfl (fun v23 => ?_)
     refine al_nil ?_
     refine aq_show (m := Mem.plus (memOf w0 Z0 [] [(oRow v21 41 tyS_api_Blob [(S_api_Blob.mk (wq (En.bAt u12 (0 : Int))) (u12.drop ((1 : Int)).toNat))]), (oRow v23 41 tyS_api_Blob (l8x7 ++ ([(S_api_Blob.mk (wq (En.bAt u12 (0 : Int))) (u12.drop ((1 : Int)).toNat))]))), (oRow v5 9 tyStr r4.1)] [(fDat (tyList tyStr) [v0_0] a0)]) X_ Y_) ?_
     refine aq_next hK_ [0, 1, 2] [0] [(4, (str r2)), (6, (iq r4.2)), (7, l8v7), (17, v5), (18, (iq (r4.1.length : Int))), (19, (iq l8i19)), (41, v23)] [] [] rfl rfl (by decide) rfl ⟨rfl, rfl, rfl, rfl, rfl, rfl, rfl, trivial⟩ trivial ?_
     clear hK_ K_ F_ X_ Y_
     refine ta_show (m := (memOf w0 Z0 [] [(oRow v21 41 tyS_api_Blob [(S_api_Blob.mk (wq (En.bAt u12 (0 : Int))) (u12.drop ((1 : Int)).toNat))]), (oRow v23 41 tyS_api_Blob (l8x7 ++ ([(S_api_Blob.mk (wq (En.bAt u12 (0 : Int))) (u12.drop ((1 : Int)).toNat))]))), (oRow v5 9 tyStr r4.1)] [(fDat (tyList tyStr) [v0_0] a0)])) (S := (tab [(4, (str r2)), (6, (iq r4.2)), (7, l8v7), (17, v5), (18, (iq (r4.1.length : Int))), (19, (iq l8i19)), (41, v23)])) ?_
     refine ta_step 9 _ [] [] [] [] [] [] rfl rfl rfl (by kernel_rfl) rfl rfl rfl trivial ?_
     intro X_ Y_ F_ K_ hK_
     refine al_show (m := Mem.plus (memOf w0 Z0 [] [(oRow v21 41 tyS_api_Blob [(S_api_Blob.mk (wq (En.bAt u12 (0 : Int))) (u12.drop ((1 : Int)).toNat))]), (oRow v23 41 tyS_api_Blob (l8x7 ++ ([(S_api_Blob.mk (wq (En.bAt u12 (0 : Int))) (u12.drop ((1 : Int)).toNat))]))), (oRow v5 9 tyStr r4.1)] [(fDat (tyList tyStr) [v0_0] a0)]) X_ Y_) (S := over (tab [(4, (str r2)), (6, (iq r4.2)), (7, l8v7), (17, v5), (18, (iq (r4.1.length : Int))), (19, (iq l8i19)), (41, v23)]) F_) ?_
     refine al_as rfl rfl ?_
     refine al_nil ?_
     refine aq_show (m := Mem.plus (memOf w0 Z0 [] [(oRow v21 41 tyS_api_Blob [(S_api_Blob.mk (wq (En.bAt u12 (0 : Int))) (u12.drop ((1 : Int)).toNat))]), (oRow v23 41 tyS_api_Blob (l8x7 ++ ([(S_api_Blob.mk (wq (En.bAt u12 (0 : Int))) (u12.drop ((1 : Int)).toNat))]))), (oRow v5 9 tyStr r4.1)] [(fDat (tyList tyStr) [v0_0] a0)]) X_ Y_) ?_
     refine aq_next hK_ [0, 1, 2] [0] [(4, (str r2)), (6, (iq r4.2)), (7, v23), (17, v5), (18, (iq (r4.1.length : Int))), (19, (iq l8i19))] [] [] rfl rfl (by decide) rfl ⟨rfl, rfl, rfl, rfl, rfl, rfl, trivial⟩ trivial ?_
     clear hK_ K_ F_ X_ Y_
     refine ta_show (m := (memOf w0 Z0 [] [(oRow v21 41 tyS_api_Blob [(S_api_Blob.mk (wq (En.bAt u12 (0 : Int))) (u12.drop ((1 : Int)).toNat))]), (oRow v23 41 tyS_api_Blob (l8x7 ++ ([(S_api_Blob.mk (wq (En.bAt u12 (0 : Int))) (u12.drop ((1 : Int)).toNat))]))), (oRow v5 9 tyStr r4.1)] [(fDat (tyList tyStr) [v0_0] a0)])) (S := (tab [(4, (str r2)), (6, (iq r4.2)), (7, v23), (17, v5), (18, (iq (r4.1.length : Int))), (19, (iq l8i19))])) ?_
     refine ta_end [] [] rfl rfl (by kernel_rfl) rfl trivial ?_
     refine aq_show (m := (memOf w0 Z0 [] [(oRow v21 41 tyS_api_Blob [(S_api_Blob.mk (wq (En.bAt u12 (0 : Int))) (u12.drop ((1 : Int)).toNat))]), (oRow v23 41 tyS_api_Blob (l8x7 ++ ([(S_api_Blob.mk (wq (En.bAt u12 (0 : Int))) (u12.drop ((1 : Int)).toNat))]))), (oRow v5 9 tyStr r4.1)] [(fDat (tyList tyStr) [v0_0] a0)])) (S := (tab [(4, (str r2)), (6, (iq r4.2)), (7, v23), (17, v5), (18, (iq (r4.1.length : Int))), (19, (iq l8i19))])) ?_
     refine aq_block ?_
     refine aq_then ?_
     refine aw_region ?_
     refine al_in rfl rfl rfl rfl ?_
     refine al_mv rfl rfl ?_
     refine al_nil ?_
     exact aq_again k9 (v23, (l8x7 ++ ([(S_api_Blob.mk (wq (En.bAt u12 (0 : Int))) (u12.drop ((1 : Int)).toNat))])), (wq (l8i19 + (1 : Int)))) (Nat.lt_succ_self _) h (fun w a hm hs => norm hm hs [1, 2] [0] [(4, (str r2)), (6, (iq r4.2)), (7, v23), (17, v5), (18, (iq (r4.1.length : Int))), (19, (iq (wq (l8i19 + (1 : Int)))))] (by decide) ⟨rfl, rfl, rfl, rfl, rfl, rfl, trivial⟩)
   ·clear hkk17
    refine aw_region ?_
    refine al_mv rfl rfl ?_
    refine al_val (ov_strCmp rfl rfl rfl rfl) ?_
    refine al_mv rfl rfl ?_
    refine al_caseB 25 rfl (fun hb24 => ?_) (fun hb24 => ?_)
    ·replace h := bif_t hb24 h
     refine al_skip ?_
     refine al_skip ?_
     refine al_skip ?_
     refine al_skip ?_
     refine al_skip ?_
     refine al_val (ov_pick_t rfl rfl rfl) ?_
     refine al_nil ?_
     exact aq_join true h (fun w a hm hs => norm hm hs [0, 1] [0] [(4, (str r2)), (6, (iq r4.2)), (7, l8v7), (9, (str u12)), (17, v5), (18, (iq (r4.1.length : Int))), (19, (iq l8i19)), (31, (bool true))] (by decide) ⟨rfl, rfl, rfl, rfl, rfl, rfl, rfl, rfl, trivial⟩)
    ·replace h := bif_f hb24 h
     refine al_mv rfl rfl ?_
     obtain ⟨hc25, h⟩ := req_some h
     refine al_val (ov_strIdx hc25.1 hc25.2 Tryd.underlying9 rfl rfl rfl) ?_
     refine al_val (ov_convInt (by rw [Tryd.underlying5]; rfl) Tryd.underlying3 rfl rfl) ?_
     obtain ⟨r27, hc26, h⟩ := opt_some h
     refine al_call (vs := [(iq (wq (En.bAt u12 (0 : Int))))]) (f_pack_Known_ok fu (wq (En.bAt u12 (0 : Int))) hc26) [] [] [0, 1] pre_nil rfl (by simp) (by decide) (.inl rfl) rfl Tryd.func36 rfl rfl rfl (fun _ => ?_)
     refine al_val (ov_not rfl rfl) ?_
     refine al_val (ov_pick_f rfl rfl rfl) ?_
     refine al_nil ?_
     exact aq_join (!r27) h (fun w a hm hs => norm hm hs [0, 1] [0] [(4, (str r2)), (6, (iq r4.2)), (7, l8v7), (9, (str u12)), (17, v5), (18, (iq (r4.1.length : Int))), (19, (iq l8i19)), (31, (bool (!r27)))] (by decide) ⟨rfl, rfl, rfl, rfl, rfl, rfl, rfl, rfl, trivial⟩)
  ·replace h := bif_f hb11 h
   refine aw_exit ?_
   refine aq_then_exit ?_
   refine aq_then_exit ?_
   refine aq_block_exit ?_
   exact aq_join (l8v7, l8x7) h (fun w a hm hs => norm hm hs [0] [0] [(4, (str r2)), (6, (iq r4.2)), (7, l8v7)] (by decide) ⟨rfl, rfl, rfl, trivial⟩)
def f_stringslite_HasPrefix (fu : Nat) (a0 : (List UInt8)) (a1 : (List UInt8)) : Option Bool := (lt (fun (j1b4 : Bool) => (some j1b4)) fun (kk2 : Bool → Option Bool) => (bif (decide ((a0.length : Int) ≥ (a1.length : Int))) then (req (0 ≤ (a1.length : Int) ∧ (a1.length : Int) ≤ (a0.length : Int)) (kk2 ((a0.take ((a1.length : Int)).toNat) == a1))) else (kk2 false)))
set_option maxHeartbeats 2000000 in
set_option maxRecDepth 100000 in
theorem f_stringslite_HasPrefix_ok (fu : Nat) (a0 : (List UInt8)) (a1 : (List UInt8)) {r : Bool} (h : f_stringslite_HasPrefix fu a0 a1 = some r) : FnOk Tryd.prog 49 [(str a0), (str a1)] [] [] (fun (i : Unit) => { val := (bool r) }) := by
 unfold f_stringslite_HasPrefix at h
 refine fn_enter Tryd.func49 rfl Tryd.ntmps49 rfl (fun w0 Z0 => ?_)
 refine aw_sr ?_
 refine al_as rfl rfl ?_
 refine al_nt ?_
 obtain ⟨kk2, hkk2, h⟩ := lt_some h
 refine aw_seq_join (ι := Bool) (fun i => (memOf w0 Z0 [] [] [])) (fun i => (tab [(4, (bool i))])) (fun i => kk2 i = some r) ?_ ?_
 ·rintro j1b4 h
  have h : kk2 j1b4 = some r := h
  rw [hkk2] at h
  dsimp only at h
  clear hkk2
  refine aw_show (m := (memOf w0 Z0 [] [] [])) (S := (tab [(4, (bool j1b4))])) ?_
  refine aw_ret ?_
  obtain rfl := Option.some.inj h
  exact fn_ret () [] [] rfl rfl rfl rfl (res1 rfl rfl) rfl rfl rfl (by decide)
 ·clear hkk2
  refine aw_region ?_
  refine al_mv rfl rfl ?_
  refine al_val (ov_strLen Tryd.underlying9 rfl rfl) ?_
  refine al_mv rfl rfl ?_
  refine al_val (ov_strLen Tryd.underlying9 rfl rfl) ?_
  refine al_in rfl rfl rfl rfl ?_
  refine al_mv rfl rfl ?_
  refine al_caseB 10 rfl (fun hb3 => ?_) (fun hb3 => ?_)
  ·replace h := bif_t hb3 h
   refine al_mv rfl rfl ?_
   refine al_mv rfl rfl ?_
   refine al_val (ov_strLen Tryd.underlying9 rfl rfl) ?_
   obtain ⟨hc4, h⟩ := req_some h
   refine al_val (ov_strTo hc4.1 hc4.2 Tryd.underlying9 rfl rfl rfl) ?_
   refine al_mv rfl rfl ?_
   refine al_val (ov_strCmp rfl rfl rfl rfl) ?_
   refine al_val (ov_pick_t rfl rfl rfl) ?_
   refine al_as rfl rfl ?_
   refine al_nil ?_
   exact aq_join ((a0.take ((a1.length : Int)).toNat) == a1) h (fun w a hm hs => norm hm hs [] [] [(4, (bool ((a0.take ((a1.length : Int)).toNat) == a1)))] (by decide) ⟨rfl, trivial⟩)
  ·replace h := bif_f hb3 h
   refine al_skip ?_
   refine al_skip ?_
   refine al_skip ?_
   refine al_skip ?_
   refine al_skip ?_
   refine al_skip ?_
   refine al_val (ov_pick_f rfl rfl rfl) ?_
   refine al_as rfl rfl ?_
   refine al_nil ?_
   exact aq_join false h (fun w a hm hs => norm hm hs [] [] [(4, (bool false))] (by decide) ⟨rfl, trivial⟩)
def f_strings_HasPrefix (fu : Nat) (a0 : (List UInt8)) (a1 : (List UInt8)) : Option Bool := (opt (f_stringslite_HasPrefix fu a0 a1) fun (r2 : Bool) => (some r2))
set_option maxRecDepth 100000 in
theorem f_strings_HasPrefix_ok (fu : Nat) (a0 : (List UInt8)) (a1 : (List UInt8)) {r : Bool} (h : f_strings_HasPrefix fu a0 a1 = some r) : FnOk Tryd.prog 22 [(str a0), (str a1)] [] [] (fun (i : Unit) => { val := (bool r) }) := by
 unfold f_strings_HasPrefix at h
 refine fn_enter Tryd.func22 rfl Tryd.ntmps22 rfl (fun w0 Z0 => ?_)
 refine aw_sr ?_
 refine al_as rfl rfl ?_
 refine al_nt ?_
 refine aw_sr ?_
 refine al_mv rfl rfl ?_
 refine al_mv rfl rfl ?_
 obtain ⟨r2, hc1, h⟩ := opt_some h
 refine al_call (vs := [(str a0), (str a1)]) (f_stringslite_HasPrefix_ok fu a0 a1 hc1) [] [] [] pre_nil rfl (by simp) (by decide) (.inl rfl) rfl Tryd.func49 rfl rfl rfl (fun _ => ?_)
 refine al_as rfl rfl ?_
 refine al_nt ?_
 refine aw_ret ?_
 obtain rfl := Option.some.inj h
 exact fn_ret () [] [] rfl rfl rfl rfl (res1 rfl rfl) rfl rfl rfl (by decide)
def f_lumref_number : Nat → (List UInt8) → Option Int
  | 0, _ => none
  | fu + 1, a0 => (bif (a0 == ([] : List UInt8)) then (some (0 : Int)) else (req (0 ≤ (IntKind.i64.wrap ((a0.length : Int) - (1 : Int))) ∧ (IntKind.i64.wrap ((a0.length : Int) - (1 : Int))) ≤ (a0.length : Int)) (opt (f_lumref_number fu (a0.take ((IntKind.i64.wrap ((a0.length : Int) - (1 : Int)))).toNat)) fun (r4 : Int) => (req (0 ≤ (IntKind.i64.wrap ((a0.length : Int) - (1 : Int))) ∧ (IntKind.i64.wrap ((a0.length : Int) - (1 : Int))) < (a0.length : Int)) (some (IntKind.u64.wrap ((IntKind.u64.wrap ((256 : Int) * r4)) + (IntKind.u64.wrap (En.bAt a0 (IntKind.i64.wrap ((a0.length : Int) - (1 : Int))))))))))))
set_option maxHeartbeats 2000000 in
set_option maxRecDepth 100000 in
theorem f_lumref_number_ok (fu : Nat) (a0 : (List UInt8)) {r : Int} (h : f_lumref_number fu a0 = some r) : FnOk Tryd.prog 95 [(str a0)] [] [] (fun (i : Unit) => { val := (int .u64 r) }) := by
 cases fu with
 | zero => rw [f_lumref_number] at h; cases h
 | succ fu =>
  rw [f_lumref_number] at h
  refine fn_enter Tryd.func95 rfl Tryd.ntmps95 rfl (fun w0 Z0 => ?_)
  refine aw_sr ?_
  refine al_as rfl rfl ?_
  refine al_nt ?_
  refine aw_seq ?_
  refine aw_sr ?_
  refine al_mv rfl rfl ?_
  refine al_val (ov_strCmp rfl rfl rfl rfl) ?_
  refine al_nt ?_
  refine aw_cond rfl (fun hb1 => ?_) (fun hb1 => ?_)
  ·replace h := bif_t hb1 h
   refine aw_sr ?_
   refine al_as rfl rfl ?_
   refine al_nt ?_
   refine aw_ret ?_
   refine aq_then_ret ?_
   obtain rfl := Option.some.inj h
   exact fn_ret () [] [] rfl rfl rfl rfl (res1 rfl rfl) rfl rfl rfl (by decide)
  ·replace h := bif_f hb1 h
   refine aw_skip ?_
   refine aq_then ?_
   refine aw_seq ?_
   obtain ⟨hc2, h⟩ := req_some h
   obtain ⟨r4, hc3, h⟩ := opt_some h
   obtain ⟨hc5, h⟩ := req_some h
   refine aw_region_draw 14 [(5, (fun u => fEq u (str a0))), (6, (fun u => fEq u (str a0))), (7, (fun u => fEq u (iq (a0.length : Int)))), (8, (fun u => fEq u (iq (wq ((a0.length : Int) - (1 : Int)))))), (9, (fun u => fEq u (str (a0.take ((wq ((a0.length : Int) - (1 : Int)))).toNat)))), (10, (fun u => fEq u (uq r4))), (11, (fun u => fEq u (uq (wu ((256 : Int) * r4))))), (12, (fun u => fEq u (str a0))), (13, (fun u => fEq u (str a0))), (14, (fun u => fEq u (iq (a0.length : Int)))), (15, (fun u => fEq u (iq (wq ((a0.length : Int) - (1 : Int)))))), (16, (fun u => fEq u (i8 (En.bAt a0 (wq ((a0.length : Int) - (1 : Int))))))), (17, (fun u => fEq u (uq (wu (En.bAt a0 (wq ((a0.length : Int) - (1 : Int)))))))), (18, (fun u => fEq u (uq (wu ((wu ((256 : Int) * r4)) + (wu (En.bAt a0 (wq ((a0.length : Int) - (1 : Int))))))))))] (tab [(0, (str a0)), (2, (uq (0 : Int)))]) mixed (by kernel_rfl) rfl rfl rfl (fun a hs => hs.tab _ (allT_mem ⟨rfl, rfl, trivial⟩)) ⟨⟨rfl, ld_val (ov_move rfl rfl)⟩, ⟨rfl, ld_val (ov_move rfl rfl)⟩, ⟨rfl, ld_eq (j := 1) rfl rfl (ld_val (ov_strLen Tryd.underlying9 rfl rfl))⟩, ⟨rfl, ld_eq (j := 2) rfl rfl (ld_val (ov_int rfl rfl rfl rfl))⟩, ⟨rfl, ld_eq (j := 0) rfl rfl (ld_eq (j := 3) rfl rfl (ld_val (ov_strTo hc2.1 hc2.2 Tryd.underlying9 rfl rfl rfl)))⟩, ⟨rfl, ld_eq (j := 4) rfl rfl (ld_callV (vs := [(str (a0.take ((wq ((a0.length : Int) - (1 : Int)))).toNat))]) (f_lumref_number_ok fu (a0.take ((wq ((a0.length : Int) - (1 : Int)))).toNat) hc3) [] pre_nil rfl Tryd.func95 rfl rfl rfl)⟩, ⟨rfl, ld_eq (j := 5) rfl rfl (ld_val (ov_int rfl rfl rfl rfl))⟩, ⟨rfl, ld_val (ov_move rfl rfl)⟩, ⟨rfl, ld_val (ov_move rfl rfl)⟩, ⟨rfl, ld_eq (j := 8) rfl rfl (ld_val (ov_strLen Tryd.underlying9 rfl rfl))⟩, ⟨rfl, ld_eq (j := 9) rfl rfl (ld_val (ov_int rfl rfl rfl rfl))⟩, ⟨rfl, ld_eq (j := 7) rfl rfl (ld_eq (j := 10) rfl rfl (ld_val (ov_strIdx hc5.1 hc5.2 Tryd.underlying9 rfl rfl rfl)))⟩, ⟨rfl, ld_eq (j := 11) rfl rfl (ld_val (ov_convInt (by rw [Tryd.underlying5]; rfl) Tryd.underlying98 rfl rfl))⟩, ⟨rfl, ld_eq (j := 6) rfl rfl (ld_eq (j := 12) rfl rfl (ld_val (ov_int rfl rfl rfl rfl)))⟩, trivial⟩ ?_
   refine tl_eq 13 rfl ?_
   refine tl_done ?_
   refine al_as rfl rfl ?_
   refine al_nt ?_
   refine aw_ret ?_
   obtain rfl := Option.some.inj h
   exact fn_ret () [] [] rfl rfl rfl rfl (res1 rfl rfl) rfl rfl rfl (by decide)
def f_lumref_Get (fu : Nat) (a0 : (List UInt8)) : Option (Int × Int × Int) := (bif ((a0.length : Int) == (0 : Int)) then (some ((0 : Int), (0 : Int), (3 : Int))) else (req (0 ≤ (0 : Int) ∧ (0 : Int) < (a0.length : Int)) (bif (decide ((En.bAt a0 (0 : Int)) > (8 : Int))) then (some ((0 : Int), (0 : Int), (4 : Int))) else (req (0 ≤ (0 : Int) ∧ (0 : Int) < (a0.length : Int)) (bif (decide ((a0.length : Int) < (IntKind.i64.wrap ((1 : Int) + (IntKind.i64.wrap (En.bAt a0 (0 : Int))))))) then (some ((0 : Int), (0 : Int), (3 : Int))) else (req (0 ≤ (1 : Int) ∧ (1 : Int) ≤ (IntKind.i64.wrap ((1 : Int) + (IntKind.i64.wrap (En.bAt a0 (0 : Int))))) ∧ (IntKind.i64.wrap ((1 : Int) + (IntKind.i64.wrap (En.bAt a0 (0 : Int))))) ≤ (a0.length : Int)) (opt (f_strings_HasPrefix fu (cut a0 (1 : Int) (IntKind.i64.wrap ((1 : Int) + (IntKind.i64.wrap (En.bAt a0 (0 : Int)))))) ([0] : List UInt8)) fun (r8 : Bool) => (bif r8 then (some ((0 : Int), (0 : Int), (4 : Int))) else (req (0 ≤ (1 : Int) ∧ (1 : Int) ≤ (IntKind.i64.wrap ((1 : Int) + (IntKind.i64.wrap (En.bAt a0 (0 : Int))))) ∧ (IntKind.i64.wrap ((1 : Int) + (IntKind.i64.wrap (En.bAt a0 (0 : Int))))) ≤ (a0.length : Int)) (opt (f_lumref_number fu (cut a0 (1 : Int) (IntKind.i64.wrap ((1 : Int) + (IntKind.i64.wrap (En.bAt a0 (0 : Int))))))) fun (r12 : Int) => (some (r12, (IntKind.i64.wrap ((1 : Int) + (IntKind.i64.wrap (En.bAt a0 (0 : Int))))), (0 : Int)))))))))))))
set_option maxHeartbeats 2000000 in
set_option maxRecDepth 100000 in
theorem f_lumref_Get_ok (fu : Nat) (a0 : (List UInt8)) {r : (Int × Int × Int)} (h : f_lumref_Get fu a0 = some r) : FnOk Tryd.prog 70 [(str a0)] [] [] (fun (i : Unit) => { val := (Value.tuple #[(int .u64 r.1), (int .i64 r.2.1), (int .i64 r.2.2)]) }) := by
 unfold f_lumref_Get at h
 refine fn_enter Tryd.func70 rfl Tryd.ntmps70 rfl (fun w0 Z0 => ?_)
 refine aw_sr ?_
 refine al_as rfl rfl ?_
 refine al_as rfl rfl ?_
 refine al_as rfl rfl ?_
 refine al_nt ?_
 refine aw_seq ?_
 refine aw_sr ?_
 refine al_mv rfl rfl ?_
 refine al_val (ov_strLen Tryd.underlying9 rfl rfl) ?_
 refine al_in rfl rfl rfl rfl ?_
 refine al_nt ?_
 refine aw_cond rfl (fun hb1 => ?_) (fun hb1 => ?_)
 ·replace h := bif_t hb1 h
  refine aw_sr ?_
  refine al_as rfl rfl ?_
  refine al_as rfl rfl ?_
  refine al_as rfl rfl ?_
  refine al_nt ?_
  refine aw_ret ?_
  refine aq_then_ret ?_
  obtain rfl := Option.some.inj h
  exact fn_ret () [] [] rfl rfl rfl rfl (res3 rfl rfl rfl rfl) rfl rfl rfl (by decide)
 ·replace h := bif_f hb1 h
  refine aw_skip ?_
  refine aq_then ?_
  refine aw_seq ?_
  refine aw_sr ?_
  refine al_mv rfl rfl ?_
  obtain ⟨hc2, h⟩ := req_some h
  refine al_val (ov_strIdx hc2.1 hc2.2 Tryd.underlying9 rfl rfl rfl) ?_
  refine al_in rfl rfl rfl rfl ?_
  refine al_nt ?_
  refine aw_cond rfl (fun hb3 => ?_) (fun hb3 => ?_)
  ·replace h := bif_t hb3 h
   refine aw_sr ?_
   refine al_as rfl rfl ?_
   refine al_as rfl rfl ?_
   refine al_as rfl rfl ?_
   refine al_nt ?_
   refine aw_ret ?_
   refine aq_then_ret ?_
   obtain rfl := Option.some.inj h
   exact fn_ret () [] [] rfl rfl rfl rfl (res3 rfl rfl rfl rfl) rfl rfl rfl (by decide)
  ·replace h := bif_f hb3 h
   refine aw_skip ?_
   refine aq_tr ?_
   refine al_mv rfl rfl ?_
   obtain ⟨hc4, h⟩ := req_some h
   refine al_val (ov_strIdx hc4.1 hc4.2 Tryd.underlying9 rfl rfl rfl) ?_
   refine al_val (ov_convInt (by rw [Tryd.underlying5]; rfl) Tryd.underlying3 rfl rfl) ?_
   refine al_in rfl rfl rfl rfl ?_
   refine al_as rfl rfl ?_
   refine al_nt ?_
   refine aw_seq ?_
   refine aw_sr ?_
   refine al_mv rfl rfl ?_
   refine al_val (ov_strLen Tryd.underlying9 rfl rfl) ?_
   refine al_mv rfl rfl ?_
   refine al_in rfl rfl rfl rfl ?_
   refine al_nt ?_
   refine aw_cond rfl (fun hb5 => ?_) (fun hb5 => ?_)
   ·replace h := bif_t hb5 h
    refine aw_sr ?_
    refine al_as rfl rfl ?_
    refine al_as rfl rfl ?_
    refine al_as rfl rfl ?_
    refine al_nt ?_
    refine aw_ret ?_
    refine aq_then_ret ?_
    obtain rfl := Option.some.inj h
    exact fn_ret () [] [] rfl rfl rfl rfl (res3 rfl rfl rfl rfl) rfl rfl rfl (by decide)
   ·replace h := bif_f hb5 h
    refine aw_skip ?_
    refine aq_then ?_
    refine aw_seq ?_
    refine aw_sr ?_
    refine al_mv rfl rfl ?_
    refine al_mv rfl rfl ?_
    obtain ⟨hc6, h⟩ := req_some h
    refine al_val (ov_strCut hc6.1 hc6.2.1 hc6.2.2 Tryd.underlying9 rfl rfl rfl rfl) ?_
    obtain ⟨r8, hc7, h⟩ := opt_some h
    refine al_call (vs := [(str (cut a0 (1 : Int) (wq ((1 : Int) + (wq (En.bAt a0 (0 : Int))))))), (str ([0] : List UInt8))]) (f_strings_HasPrefix_ok fu (cut a0 (1 : Int) (wq ((1 : Int) + (wq (En.bAt a0 (0 : Int)))))) ([0] : List UInt8) hc7) [] [] [] pre_nil rfl (by simp) (by decide) (.inl rfl) rfl Tryd.func22 rfl rfl rfl (fun _ => ?_)
    refine al_nt ?_
    refine aw_cond rfl (fun hb9 => ?_) (fun hb9 => ?_)
    ·replace h := bif_t hb9 h
     refine aw_sr ?_
     refine al_as rfl rfl ?_
     refine al_as rfl rfl ?_
     refine al_as rfl rfl ?_
     refine al_nt ?_
     refine aw_ret ?_
     refine aq_then_ret ?_
     obtain rfl := Option.some.inj h
     exact fn_ret () [] [] rfl rfl rfl rfl (res3 rfl rfl rfl rfl) rfl rfl rfl (by decide)
    ·replace h := bif_f hb9 h
     refine aw_skip ?_
     refine aq_tr ?_
     refine al_mv rfl rfl ?_
     refine al_mv rfl rfl ?_
     obtain ⟨hc10, h⟩ := req_some h
     refine al_val (ov_strCut hc10.1 hc10.2.1 hc10.2.2 Tryd.underlying9 rfl rfl rfl rfl) ?_
     obtain ⟨r12, hc11, h⟩ := opt_some h
     refine al_call (vs := [(str (cut a0 (1 : Int) (wq ((1 : Int) + (wq (En.bAt a0 (0 : Int)))))))]) (f_lumref_number_ok fu (cut a0 (1 : Int) (wq ((1 : Int) + (wq (En.bAt a0 (0 : Int)))))) hc11) [] [] [] pre_nil rfl (by simp) (by decide) (.inl rfl) rfl Tryd.func95 rfl rfl rfl (fun _ => ?_)
     refine al_mv rfl rfl ?_
     refine al_as rfl rfl ?_
     refine al_as rfl rfl ?_
     refine al_as rfl rfl ?_
     refine al_nt ?_
     refine aw_ret ?_
     obtain rfl := Option.some.inj h
     exact fn_ret () [] [] rfl rfl rfl rfl (res3 rfl rfl rfl rfl) rfl rfl rfl (by decide)
def f_lumref_Scan : Nat → (List UInt8) → Option ((List (List UInt8)) × Int)
  | 0, _ => none
  | fu + 1, a0 => (opt (f_lumref_Get fu a0) fun (r2 : (Int × Int × Int)) => (lt (fun (j3b31 : Bool) => (bif j3b31 then (some (([] : List (List UInt8)), (0 : Int))) else (req (0 ≤ r2.2.1 ∧ r2.2.1 ≤ (IntKind.i64.wrap (r2.2.1 + (IntKind.i64.wrap r2.1))) ∧ (IntKind.i64.wrap (r2.2.1 + (IntKind.i64.wrap r2.1))) ≤ (a0.length : Int)) (opt (f_lumref_Frame fu (cut a0 r2.2.1 (IntKind.i64.wrap (r2.2.1 + (IntKind.i64.wrap r2.1))))) fun (r8 : (List UInt8)) => (lt (fun (j9b53 : Bool) => (bif j9b53 then (some (([] : List (List UInt8)), (0 : Int))) else (req (0 ≤ (r8.length : Int) ∧ (r8.length : Int) ≤ (a0.length : Int)) (opt (f_lumref_Scan fu (a0.drop ((r8.length : Int)).toNat)) fun (r14 : ((List (List UInt8)) × Int)) => (req (((([(cut a0 r2.2.1 (IntKind.i64.wrap (r2.2.1 + (IntKind.i64.wrap r2.1))))]).length + r14.1.length) * 16 : Nat) ≤ 140737488355328 ∧ ([(cut a0 r2.2.1 (IntKind.i64.wrap (r2.2.1 + (IntKind.i64.wrap r2.1))))]).length + r14.1.length ≤ 9223372036854775807) (some ((([(cut a0 r2.2.1 (IntKind.i64.wrap (r2.2.1 + (IntKind.i64.wrap r2.1))))]) ++ r14.1), (IntKind.i64.wrap ((r8.length : Int) + r14.2))))))))) fun (kk10 : Bool → Option ((List (List UInt8)) × Int)) => (bif (decide ((a0.length : Int) < (r8.length : Int))) then (kk10 true) else (req (0 ≤ (r8.length : Int) ∧ (r8.length : Int) ≤ (a0.length : Int)) (kk10 (!((a0.take ((r8.length : Int)).toNat) == r8)))))))))) fun (kk4 : Bool → Option ((List (List UInt8)) × Int)) => (bif (r2.2.2 != (0 : Int)) then (kk4 true) else (bif (decide (r2.1 > (4096 : Int))) then (kk4 true) else (kk4 (decide ((IntKind.u64.wrap (IntKind.i64.wrap ((a0.length : Int) - r2.2.1))) < r2.1)))))))
set_option maxHeartbeats 2000000 in
set_option maxRecDepth 100000 in
theorem f_lumref_Scan_ok (fu : Nat) (a0 : (List UInt8)) {r : ((List (List UInt8)) × Int)} (h : f_lumref_Scan fu a0 = some r) : FnOk Tryd.prog 37 [(str a0)] [] [] (fun (i : Value) => { val := (Value.tuple #[i, (int .i64 r.2)]), own := [(oRow i 9 tyStr r.1)] }) := by
 cases fu with
 | zero => rw [f_lumref_Scan] at h; cases h
 | succ fu =>
  rw [f_lumref_Scan] at h
  refine fn_enter Tryd.func37 rfl Tryd.ntmps37 rfl (fun w0 Z0 => ?_)
  refine aw_sr ?_
  refine al_as rfl rfl ?_
  refine al_as rfl rfl ?_
  refine al_nt ?_
  refine aw_sr ?_
  refine al_mv rfl rfl ?_
  obtain ⟨r2, hc1, h⟩ := opt_some h
  refine al_call (vs := [(str a0)]) (f_lumref_Get_ok fu a0 hc1) [] [] [] pre_nil rfl (by simp) (by decide) (.inl rfl) rfl Tryd.func70 rfl rfl rfl (fun _ => ?_)
  refine al_mv rfl rfl ?_
  refine al_ex rfl rfl rfl ?_
  refine al_ex rfl rfl rfl ?_
  refine al_ex rfl rfl rfl ?_
  refine al_as rfl rfl ?_
  refine al_as rfl rfl ?_
  refine al_as rfl rfl ?_
  refine al_nt ?_
  refine aw_seq ?_
  obtain ⟨kk4, hkk4, h⟩ := lt_some h
  refine aw_seq_join (ι := Bool) (fun i => (memOf w0 Z0 [] [] [])) (fun i => (tab [(0, (str a0)), (4, (uq r2.1)), (5, (iq r2.2.1)), (31, (bool i))])) (fun i => kk4 i = some r) ?_ ?_
  ·rintro j3b31 h
   have h : kk4 j3b31 = some r := h
   rw [hkk4] at h
   dsimp only at h
   clear hkk4
   refine aw_show (m := (memOf w0 Z0 [] [] [])) (S := (tab [(0, (str a0)), (4, (uq r2.1)), (5, (iq r2.2.1)), (31, (bool j3b31))])) ?_
   refine aw_cond rfl (fun hb5 => ?_) (fun hb5 => ?_)
   ·replace h := bif_t hb5 h
    refine aw_sr ?_
    refine al_as rfl rfl ?_
    refine al_as rfl rfl ?_
    refine al_nt ?_
    refine aw_ret ?_
    refine aq_then_ret ?_
    refine aq_nilR 9 tyStr ?_
    obtain rfl := Option.some.inj h
    exact fn_ret nS [0] [] rfl rfl rfl rfl (res2 rfl rfl rfl) rfl rfl rfl (by decide)
   ·replace h := bif_f hb5 h
    refine aw_skip ?_
    refine aq_tr ?_
    refine al_mv rfl rfl ?_
    refine al_mv rfl rfl ?_
    refine al_mv rfl rfl ?_
    refine al_mv rfl rfl ?_
    refine al_val (ov_convInt (by rw [Tryd.underlying98]; rfl) Tryd.underlying3 rfl rfl) ?_
    refine al_in rfl rfl rfl rfl ?_
    obtain ⟨hc6, h⟩ := req_some h
    refine al_val (ov_strCut hc6.1 hc6.2.1 hc6.2.2 Tryd.underlying9 rfl rfl rfl rfl) ?_
    refine al_as rfl rfl ?_
    refine al_nt ?_
    refine aw_sr ?_
    refine al_mv rfl rfl ?_
    obtain ⟨r8, hc7, h⟩ := opt_some h
    refine al_call (vs := [(str (cut a0 r2.2.1 (wq (r2.2.1 + (wq r2.1)))))]) (f_lumref_Frame_ok fu (cut a0 r2.2.1 (wq (r2.2.1 + (wq r2.1)))) hc7) [] [] [] pre_nil rfl (by simp) (by decide) (.inl rfl) rfl Tryd.func33 rfl rfl rfl (fun _ => ?_)
    refine al_as rfl rfl ?_
    refine al_nt ?_
    refine aw_seq ?_
    obtain ⟨kk10, hkk10, h⟩ := lt_some h
    refine aw_seq_join (ι := Bool) (fun i => (memOf w0 Z0 [] [] [])) (fun i => (tab [(0, (str a0)), (7, (str (cut a0 r2.2.1 (wq (r2.2.1 + (wq r2.1)))))), (8, (str r8)), (53, (bool i))])) (fun i => kk10 i = some r) ?_ ?_
    ·rintro j9b53 h
     have h : kk10 j9b53 = some r := h
     rw [hkk10] at h
     dsimp only at h
     clear hkk10
     refine aw_show (m := (memOf w0 Z0 [] [] [])) (S := (tab [(0, (str a0)), (7, (str (cut a0 r2.2.1 (wq (r2.2.1 + (wq r2.1)))))), (8, (str r8)), (53, (bool j9b53))])) ?_
     refine aw_cond rfl (fun hb11 => ?_) (fun hb11 => ?_)
     ·replace h := bif_t hb11 h
      refine aw_sr ?_
      refine al_as rfl rfl ?_
      refine al_as rfl rfl ?_
      refine al_nt ?_
      refine aw_ret ?_
      refine aq_then_ret ?_
      refine aq_nilR 9 tyStr ?_
      obtain rfl := Option.some.inj h
      exact fn_ret nS [0] [] rfl rfl rfl rfl (res2 rfl rfl rfl) rfl rfl rfl (by decide)
     ·replace h := bif_f hb11 h
      refine aw_skip ?_
      refine aq_tr ?_
      refine al_mv rfl rfl ?_
      refine al_mv rfl rfl ?_
      refine al_val (ov_strLen Tryd.underlying9 rfl rfl) ?_
      obtain ⟨hc12, h⟩ := req_some h
      refine al_val (ov_strFrom hc12.1 hc12.2 Tryd.underlying9 rfl rfl rfl) ?_
      obtain ⟨r14, hc13, h⟩ := opt_some h
      refine al_call (vs := [(str (a0.drop ((r8.length : Int)).toNat))]) (f_lumref_Scan_ok fu (a0.drop ((r8.length : Int)).toNat) hc13) [] [] [] pre_nil rfl (by simp) (by decide) (.inl rfl) rfl Tryd.func37 rfl rfl rfl (fun v15 => ?_)
      refine al_mv rfl rfl ?_
      refine al_ex rfl rfl rfl ?_
      refine al_ex rfl rfl rfl ?_
      refine al_as rfl rfl ?_
      refine al_as rfl rfl ?_
      refine al_nt ?_
      refine aw_sr ?_
      refine al_mv rfl rfl ?_
      refine al_buildSlice (τ := tyStr) (e := 9) (k := 1) (sz := 0) (by_ := 0) (z := undef) (cs := [(str (cut a0 r2.2.1 (wq (r2.2.1 + (wq r2.1)))))]) (xs := [(cut a0 r2.2.1 (wq (r2.2.1 + (wq r2.1))))]) rfl (by decide) (fun w a hm hs => ⟨([(str (cut a0 r2.2.1 (wq (r2.2.1 + (wq r2.1)))))]).toArray, rfl, by simp only [List.map_toArray, List.map_cons, List.map_nil, hs.ev (x := .tmp 62) rfl]; exact run_bs [(str (cut a0 r2.2.1 (wq (r2.2.1 + (wq r2.1)))))] [(str (cut a0 r2.2.1 (wq (r2.2.1 + (wq r2.1)))))] Tryd.underlying22 to9 rfl rfl (bs_cons (l := [(str (cut a0 r2.2.1 (wq (r2.2.1 + (wq r2.1)))))]) (cs := []) (cv_rfl rfl) rfl bs_nil) hm⟩) (fun hm => ⟨_, _, rfl, (fun _ => rfl) hm, rfl⟩) rfl (fun v16 => ?_)
      refine al_mv rfl rfl ?_
      obtain ⟨hc17, h⟩ := req_some h
      refine al_append 0 hc17.1 hc17.2 rfl (src_own (i := 0) 1 rfl) rfl rfl Tryd.underlying22 to9 rfl rfl rfl (fun v18 => ?_)
      refine al_mv rfl rfl ?_
      refine al_val (ov_strLen Tryd.underlying9 rfl rfl) ?_
      refine al_mv rfl rfl ?_
      refine al_in rfl rfl rfl rfl ?_
      refine al_as rfl rfl ?_
      refine al_as rfl rfl ?_
      refine al_nt ?_
      refine aw_ret ?_
      obtain rfl := Option.some.inj h
      exact fn_ret v18 [0] [] rfl rfl rfl rfl (res2 rfl rfl rfl) rfl rfl rfl (by decide)
    ·clear hkk10
     refine aw_region ?_
     refine al_mv rfl rfl ?_
     refine al_val (ov_strLen Tryd.underlying9 rfl rfl) ?_
     refine al_mv rfl rfl ?_
     refine al_val (ov_strLen Tryd.underlying9 rfl rfl) ?_
     refine al_in rfl rfl rfl rfl ?_
     refine al_mv rfl rfl ?_
     refine al_caseB 46 rfl (fun hb19 => ?_) (fun hb19 => ?_)
     ·replace h := bif_t hb19 h
      refine al_skip ?_
      refine al_skip ?_
      refine al_skip ?_
      refine al_skip ?_
      refine al_skip ?_
      refine al_skip ?_
      refine al_val (ov_pick_t rfl rfl rfl) ?_
      refine al_nil ?_
      exact aq_join true h (fun w a hm hs => norm hm hs [] [] [(0, (str a0)), (7, (str (cut a0 r2.2.1 (wq (r2.2.1 + (wq r2.1)))))), (8, (str r8)), (53, (bool true))] (by decide) ⟨rfl, rfl, rfl, rfl, trivial⟩)
     ·replace h := bif_f hb19 h
      refine al_mv rfl rfl ?_
      refine al_mv rfl rfl ?_
      refine al_val (ov_strLen Tryd.underlying9 rfl rfl) ?_
      obtain ⟨hc20, h⟩ := req_some h
      refine al_val (ov_strTo hc20.1 hc20.2 Tryd.underlying9 rfl rfl rfl) ?_
      refine al_mv rfl rfl ?_
      refine al_val (ov_strCmp rfl rfl rfl rfl) ?_
      refine al_val (ov_pick_f rfl rfl rfl) ?_
      refine al_nil ?_
      exact aq_join (!((a0.take ((r8.length : Int)).toNat) == r8)) h (fun w a hm hs => norm hm hs [] [] [(0, (str a0)), (7, (str (cut a0 r2.2.1 (wq (r2.2.1 + (wq r2.1)))))), (8, (str r8)), (53, (bool (!((a0.take ((r8.length : Int)).toNat) == r8))))] (by decide) ⟨rfl, rfl, rfl, rfl, trivial⟩)
  ·clear hkk4
   refine aw_region ?_
   refine al_mv rfl rfl ?_
   refine al_in rfl rfl rfl rfl ?_
   refine al_mv rfl rfl ?_
   refine al_caseB 19 rfl (fun hb21 => ?_) (fun hb21 => ?_)
   ·replace h := bif_t hb21 h
    refine al_skip ?_
    refine al_skip ?_
    refine al_val (ov_pick_t rfl rfl rfl) ?_
    refine al_mv rfl rfl ?_
    refine al_skip ?_
    refine al_skip ?_
    refine al_skip ?_
    refine al_skip ?_
    refine al_skip ?_
    refine al_skip ?_
    refine al_skip ?_
    refine al_val (ov_pick_t rfl rfl rfl) ?_
    refine al_nil ?_
    exact aq_join true h (fun w a hm hs => norm hm hs [] [] [(0, (str a0)), (4, (uq r2.1)), (5, (iq r2.2.1)), (31, (bool true))] (by decide) ⟨rfl, rfl, rfl, rfl, trivial⟩)
   ·replace h := bif_f hb21 h
    refine al_mv rfl rfl ?_
    refine al_in rfl rfl rfl rfl ?_
    refine al_val (ov_pick_f rfl rfl rfl) ?_
    refine al_mv rfl rfl ?_
    refine al_caseB 23 rfl (fun hb22 => ?_) (fun hb22 => ?_)
    ·replace h := bif_t hb22 h
     refine al_skip ?_
     refine al_skip ?_
     refine al_skip ?_
     refine al_skip ?_
     refine al_skip ?_
     refine al_skip ?_
     refine al_skip ?_
     refine al_val (ov_pick_t rfl rfl rfl) ?_
     refine al_nil ?_
     exact aq_join true h (fun w a hm hs => norm hm hs [] [] [(0, (str a0)), (4, (uq r2.1)), (5, (iq r2.2.1)), (31, (bool true))] (by decide) ⟨rfl, rfl, rfl, rfl, trivial⟩)
    ·replace h := bif_f hb22 h
     refine al_mv rfl rfl ?_
     refine al_val (ov_strLen Tryd.underlying9 rfl rfl) ?_
     refine al_mv rfl rfl ?_
     refine al_in rfl rfl rfl rfl ?_
     refine al_val (ov_convInt (by rw [Tryd.underlying3]; rfl) Tryd.underlying98 rfl rfl) ?_
     refine al_mv rfl rfl ?_
     refine al_in rfl rfl rfl rfl ?_
     refine al_val (ov_pick_f rfl rfl rfl) ?_
     refine al_nil ?_
     exact aq_join (decide ((wu (wq ((a0.length : Int) - r2.2.1))) < r2.1)) h (fun w a hm hs => norm hm hs [] [] [(0, (str a0)), (4, (uq r2.1)), (5, (iq r2.2.1)), (31, (bool (decide ((wu (wq ((a0.length : Int) - r2.2.1))) < r2.1))))] (by decide) ⟨rfl, rfl, rfl, rfl, trivial⟩)
def f_lumref_Blobs_L10 (r4 : ((List (List UInt8)) × Int)) (kk7 : ((List S_api_Blob) → Option ((List S_api_Blob) × Bool))) (fu : Nat) : Nat → (List S_api_Blob) → Int → Option ((List S_api_Blob) × Bool)
  | 0, _, _ => none
  | k9 + 1, l8x7, l8i19 => (bif (decide (l8i19 < (r4.1.length : Int))) then (opt (at? r4.1 l8i19) fun (u12 : (List UInt8)) => (lt (fun (j16b31 : Bool) => (bif j16b31 then (some (l8x7, false)) else (req (0 ≤ (0 : Int) ∧ (0 : Int) < (u12.length : Int)) (req (0 ≤ (1 : Int) ∧ (1 : Int) ≤ (u12.length : Int)) (req (((l8x7.length + ([(S_api_Blob.mk (IntKind.i64.wrap (En.bAt u12 (0 : Int))) (u12.drop ((1 : Int)).toNat))]).length) * 24 : Nat) ≤ 140737488355328 ∧ l8x7.length + ([(S_api_Blob.mk (IntKind.i64.wrap (En.bAt u12 (0 : Int))) (u12.drop ((1 : Int)).toNat))]).length ≤ 9223372036854775807) (f_lumref_Blobs_L10 r4 kk7 fu k9 (l8x7 ++ ([(S_api_Blob.mk (IntKind.i64.wrap (En.bAt u12 (0 : Int))) (u12.drop ((1 : Int)).toNat))])) (IntKind.i64.wrap (l8i19 + (1 : Int))))))))) fun (kk17 : Bool → Option ((List S_api_Blob) × Bool)) => (bif (u12 == ([] : List UInt8)) then (kk17 true) else (req (0 ≤ (0 : Int) ∧ (0 : Int) < (u12.length : Int)) (opt (f_lumref_kindOK fu (IntKind.i64.wrap (En.bAt u12 (0 : Int)))) fun (r27 : Bool) => (kk17 (!r27))))))) else (kk7 l8x7))
def f_lumref_Blobs (fu : Nat) (a0 : (List (List UInt8))) : Option ((List S_api_Blob) × Bool) := (opt (f_strings_Join fu a0 ([] : List UInt8)) fun (r2 : (List UInt8)) => (opt (f_lumref_Scan fu r2) fun (r4 : ((List (List UInt8)) × Int)) => (lt (fun (j6x7 : (List S_api_Blob)) => (some (j6x7, (r4.2 == (r2.length : Int))))) fun (kk7 : (List S_api_Blob) → Option ((List S_api_Blob) × Bool)) => (f_lumref_Blobs_L10 r4 kk7 fu fu ([] : List S_api_Blob) (0 : Int)))))
end Go.Proofs.YtpakblkldklbmaaDoor
