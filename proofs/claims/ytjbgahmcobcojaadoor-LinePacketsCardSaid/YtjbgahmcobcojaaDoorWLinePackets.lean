/- Walks by program. No condition. -/
import Derived.Test.YtjbgahmcobcojaaDoorEn19
import Derived.Test.YtjbgahmcobcojaaDoorChecked
import Derived.Test.YtjbgahmcobcojaaDoorEnM
import Derived.Test.YtjbgahmcobcojaaDoorShTrim
import Derived.Test.YtjbgahmcobcojaaDoorShBEApp
import Derived.Test.YtjbgahmcobcojaaDoorShBEPut
import Derived.Test.YtjbgahmcobcojaaDoorShRepeat
namespace Go.Proofs.YtjbgahmcobcojaaDoor
open Go.RowKit YtjbgahmcobcojaaDoor.En
set_option linter.unusedVariables false
set_option linter.unusedSimpArgs false
structure S_api_Packet where
  Kind : Int
  Seq : Int
  Text : (List UInt8)
  deriving DecidableEq
def tyS_api_Packet : Ty S_api_Packet := tyVia (fun x => (x.Kind, (x.Seq, x.Text))) (tyPair (tyInt .i64) (tyPair (tyInt .i64) tyStr))
theorem subS_api_Packet_0 : Sub tyS_api_Packet 0 (tyInt .i64) (fun x => x.Kind) := Sub.via (Sub.fst (Sub.whole _))
theorem subS_api_Packet_1 : Sub tyS_api_Packet 1 (tyInt .i64) (fun x => x.Seq) := Sub.via (Sub.snd (Sub.fst (Sub.whole _)))
theorem subS_api_Packet_2 : Sub tyS_api_Packet 2 tyStr (fun x => x.Text) := Sub.via (Sub.snd (Sub.snd (Sub.whole _)))
theorem flatS_api_Packet : FlatTy tyS_api_Packet := flat_via (flat_pair flat_enc (flat_pair flat_enc flat_enc))
theorem encS_api_Packet {Z w cs} {x : S_api_Packet} (h : tyS_api_Packet.rep Z w cs x) : cs = [(Value.int .i64 x.Kind), (Value.int .i64 x.Seq), (str x.Text)] := by
  obtain ⟨c0, d0, rfl, p0, q0⟩ := h
  obtain ⟨c1, d1, rfl, p1, q1⟩ := q0
  rw [show _ = _ from p0]
  rw [show _ = _ from p1]
  rw [show _ = _ from q1]
  rfl
theorem mkS_api_Packet {Z w cs} {x : S_api_Packet} (h : cs = [(Value.int .i64 x.Kind), (Value.int .i64 x.Seq), (str x.Text)]) : tyS_api_Packet.rep Z w cs x := by
  subst h
  exact ⟨_, _, (List.take_append_drop 1 _).symm, rfl, ⟨_, _, (List.take_append_drop 1 _).symm, rfl, rfl⟩⟩
structure A8u8 where
  e0 : UInt8
  e1 : UInt8
  e2 : UInt8
  e3 : UInt8
  e4 : UInt8
  e5 : UInt8
  e6 : UInt8
  e7 : UInt8
  deriving DecidableEq
def tyA8u8 : Ty A8u8 := tyVia (fun x => (x.e0, (x.e1, (x.e2, (x.e3, (x.e4, (x.e5, (x.e6, x.e7)))))))) (tyPair tyU8 (tyPair tyU8 (tyPair tyU8 (tyPair tyU8 (tyPair tyU8 (tyPair tyU8 (tyPair tyU8 tyU8)))))))
theorem subA8u8_0 : Sub tyA8u8 0 tyU8 (fun x => x.e0) := Sub.via (Sub.fst (Sub.whole _))
theorem subA8u8_1 : Sub tyA8u8 1 tyU8 (fun x => x.e1) := Sub.via (Sub.snd (Sub.fst (Sub.whole _)))
theorem subA8u8_2 : Sub tyA8u8 2 tyU8 (fun x => x.e2) := Sub.via (Sub.snd (Sub.snd (Sub.fst (Sub.whole _))))
theorem subA8u8_3 : Sub tyA8u8 3 tyU8 (fun x => x.e3) := Sub.via (Sub.snd (Sub.snd (Sub.snd (Sub.fst (Sub.whole _)))))
theorem subA8u8_4 : Sub tyA8u8 4 tyU8 (fun x => x.e4) := Sub.via (Sub.snd (Sub.snd (Sub.snd (Sub.snd (Sub.fst (Sub.whole _))))))
theorem subA8u8_5 : Sub tyA8u8 5 tyU8 (fun x => x.e5) := Sub.via (Sub.snd (Sub.snd (Sub.snd (Sub.snd (Sub.snd (Sub.fst (Sub.whole _)))))))
theorem subA8u8_6 : Sub tyA8u8 6 tyU8 (fun x => x.e6) := Sub.via (Sub.snd (Sub.snd (Sub.snd (Sub.snd (Sub.snd (Sub.snd (Sub.fst (Sub.whole _))))))))
theorem subA8u8_7 : Sub tyA8u8 7 tyU8 (fun x => x.e7) := Sub.via (Sub.snd (Sub.snd (Sub.snd (Sub.snd (Sub.snd (Sub.snd (Sub.snd (Sub.whole _))))))))
def cA8u8 (x : A8u8) : List Value := [(Value.int .u8 (x.e0.toNat : Int)), (Value.int .u8 (x.e1.toNat : Int)), (Value.int .u8 (x.e2.toNat : Int)), (Value.int .u8 (x.e3.toNat : Int)), (Value.int .u8 (x.e4.toNat : Int)), (Value.int .u8 (x.e5.toNat : Int)), (Value.int .u8 (x.e6.toNat : Int)), (Value.int .u8 (x.e7.toNat : Int))]
def lA8u8 (x : A8u8) : List UInt8 := [x.e0, x.e1, x.e2, x.e3, x.e4, x.e5, x.e6, x.e7]
def vA8u8 (y : UInt8) : Value := (Value.int .u8 (y.toNat : Int))
def setA8u8 (x : A8u8) (j : Int) (y : UInt8) : A8u8 := ⟨if j = 0 then y else x.e0, if j = 1 then y else x.e1, if j = 2 then y else x.e2, if j = 3 then y else x.e3, if j = 4 then y else x.e4, if j = 5 then y else x.e5, if j = 6 then y else x.e6, if j = 7 then y else x.e7⟩
theorem oneA8u8 (x : A8u8) : ∀ u ∈ cA8u8 x, u.oneCell' = true := ones_map (enc := vA8u8) (xs := lA8u8 x) (fun _ => rfl)
theorem lenA8u8 (x : A8u8) : (lA8u8 x).length = 8 := rfl
theorem lsetA8u8 {x : A8u8} {j : Int} {y : UInt8} (h0 : 0 ≤ j) (h1 : j < 8) : lA8u8 (setA8u8 x j y) = (lA8u8 x).set j.toNat y := by
  obtain ⟨q, rfl⟩ : ∃ q : Nat, j = q := ⟨j.toNat, by omega⟩
  match q, h1 with
  | 0, _ => rfl
  | 1, _ => rfl
  | 2, _ => rfl
  | 3, _ => rfl
  | 4, _ => rfl
  | 5, _ => rfl
  | 6, _ => rfl
  | 7, _ => rfl
  | n + 8, h => omega
theorem csetA8u8 {x : A8u8} {j : Int} {y : UInt8} (h0 : 0 ≤ j) (h1 : j < 8) (pre post : List Value) : pre ++ (cA8u8 (setA8u8 x j y) ++ post) = (pre ++ (cA8u8 x ++ post)).set (pre.length + j.toNat) (vA8u8 y) := by
  have h : cA8u8 (setA8u8 x j y) = (cA8u8 x).set j.toNat (vA8u8 y) := by
    have e : ∀ z : A8u8, cA8u8 z = (lA8u8 z).map vA8u8 := fun _ => rfl
    rw [e, e, lsetA8u8 h0 h1, List.map_set]
  rw [h, List.set_append_right _ _ (by omega), Nat.add_sub_cancel_left, List.set_append_left _ _ (by show j.toNat < 8; omega)]
theorem flatA8u8 : FlatTy tyA8u8 := flat_via (flat_pair flat_enc (flat_pair flat_enc (flat_pair flat_enc (flat_pair flat_enc (flat_pair flat_enc (flat_pair flat_enc (flat_pair flat_enc flat_enc)))))))
theorem encA8u8 {Z w cs} {x : A8u8} (h : tyA8u8.rep Z w cs x) : cs = (cA8u8 x) := by
  obtain ⟨c0, d0, rfl, p0, q0⟩ := h
  obtain ⟨c1, d1, rfl, p1, q1⟩ := q0
  obtain ⟨c2, d2, rfl, p2, q2⟩ := q1
  obtain ⟨c3, d3, rfl, p3, q3⟩ := q2
  obtain ⟨c4, d4, rfl, p4, q4⟩ := q3
  obtain ⟨c5, d5, rfl, p5, q5⟩ := q4
  obtain ⟨c6, d6, rfl, p6, q6⟩ := q5
  rw [show _ = _ from p0]
  rw [show _ = _ from p1]
  rw [show _ = _ from p2]
  rw [show _ = _ from p3]
  rw [show _ = _ from p4]
  rw [show _ = _ from p5]
  rw [show _ = _ from p6]
  rw [show _ = _ from q6]
  rfl
theorem mkA8u8 {Z w cs} {x : A8u8} (h : cs = (cA8u8 x)) : tyA8u8.rep Z w cs x := by
  subst h
  exact ⟨_, _, (List.take_append_drop 1 _).symm, rfl, ⟨_, _, (List.take_append_drop 1 _).symm, rfl, ⟨_, _, (List.take_append_drop 1 _).symm, rfl, ⟨_, _, (List.take_append_drop 1 _).symm, rfl, ⟨_, _, (List.take_append_drop 1 _).symm, rfl, ⟨_, _, (List.take_append_drop 1 _).symm, rfl, ⟨_, _, (List.take_append_drop 1 _).symm, rfl, rfl⟩⟩⟩⟩⟩⟩⟩
theorem lrepA8u8 {Z w cs} {x : A8u8} (h : tyA8u8.rep Z w cs x) : RepL tyU8 Z w cs (lA8u8 x) := by
  rw [encA8u8 h]
  exact ⟨[_], _, rfl, rfl, ⟨[_], _, rfl, rfl, ⟨[_], _, rfl, rfl, ⟨[_], _, rfl, rfl, ⟨[_], _, rfl, rfl, ⟨[_], _, rfl, rfl, ⟨[_], _, rfl, rfl, ⟨[_], _, rfl, rfl, rfl⟩⟩⟩⟩⟩⟩⟩⟩
def ofA8u8 (l : List UInt8) : A8u8 := match l.take 8 with | [e0, e1, e2, e3, e4, e5, e6, e7] => ⟨e0, e1, e2, e3, e4, e5, e6, e7⟩ | _ => ⟨0, 0, 0, 0, 0, 0, 0, 0⟩
theorem oflA8u8 {l : List UInt8} (hl : 8 ≤ l.length) {Z w cs} (hr : RepL tyU8 Z w cs (l.take 8)) : tyA8u8.rep Z w cs (ofA8u8 l) := by
  unfold ofA8u8
  have h8 : (l.take 8).length = 8 := by rw [List.length_take]; omega
  generalize l.take 8 = m at hr h8
  match m, h8, hr with
  | [e0, e1, e2, e3, e4, e5, e6, e7], _, hr => exact mkA8u8 (by rw [u8_cells hr]; rfl)
theorem coftA8u8 (l : List UInt8) (hl : l.length = 8) : cA8u8 (ofA8u8 l) = Lib.byteCells l := by
  match l, hl with
  | [e0, e1, e2, e3, e4, e5, e6, e7], _ => rfl
def cpA8u8 (x : A8u8) (l : List UInt8) : A8u8 := ofA8u8 (l.take 8 ++ (lA8u8 x).drop (l.take 8).length)
theorem ccpA8u8 (x : A8u8) (l : List UInt8) : cA8u8 (cpA8u8 x l) = Lib.byteCells (l.take 8) ++ (cA8u8 x).drop (l.take 8).length := by
  have h1 : (l.take 8).length ≤ 8 := by rw [List.length_take]; omega
  unfold cpA8u8
  rw [coftA8u8 _ (by rw [List.length_append, List.length_drop, lenA8u8]; omega)]
  unfold Lib.byteCells
  rw [List.map_append, List.map_drop]
  rfl
theorem cpcA8u8 (x : A8u8) (l : List UInt8) (pre post : List Value) : (pre ++ (cA8u8 x ++ post)).take pre.length ++ Lib.byteCells (l.take 8) ++ (pre ++ (cA8u8 x ++ post)).drop (pre.length + (l.take 8).length) = pre ++ (cA8u8 (cpA8u8 x l) ++ post) := by
  have h1 : (l.take 8).length ≤ (cA8u8 x).length := by rw [List.length_take]; exact Nat.min_le_left _ _
  rw [ccpA8u8, List.take_left, List.drop_append, List.drop_of_length_le (by omega), Nat.add_sub_cancel_left, List.drop_append_of_le_length h1]
  simp
theorem sz3 : szOf Tryd.prog 3 = some 1 := by kernel_rfl
theorem to3 : tyOf Tryd.prog 3 = some (1, 8, some (Value.int .i64 (0 : Int))) := by kernel_rfl
theorem sz5 : szOf Tryd.prog 5 = some 1 := by kernel_rfl
theorem to5 : tyOf Tryd.prog 5 = some (1, 1, some (Value.int .u8 (0 : Int))) := by kernel_rfl
theorem sz9 : szOf Tryd.prog 9 = some 1 := by kernel_rfl
theorem to9 : tyOf Tryd.prog 9 = some (1, 16, some (str ([] : List UInt8))) := by kernel_rfl
theorem sz48 : szOf Tryd.prog 48 = some 8 := by kernel_rfl
theorem to48 : tyOf Tryd.prog 48 = some (8, 8, some (ag [(Value.int .u8 (0 : Int)), (Value.int .u8 (0 : Int)), (Value.int .u8 (0 : Int)), (Value.int .u8 (0 : Int)), (Value.int .u8 (0 : Int)), (Value.int .u8 (0 : Int)), (Value.int .u8 (0 : Int)), (Value.int .u8 (0 : Int))])) := by kernel_rfl
theorem sz49 : szOf Tryd.prog 49 = some 8 := by kernel_rfl
theorem to49 : tyOf Tryd.prog 49 = some (8, 8, some (ag [(Value.int .u8 (0 : Int)), (Value.int .u8 (0 : Int)), (Value.int .u8 (0 : Int)), (Value.int .u8 (0 : Int)), (Value.int .u8 (0 : Int)), (Value.int .u8 (0 : Int)), (Value.int .u8 (0 : Int)), (Value.int .u8 (0 : Int))])) := by kernel_rfl
theorem sz52 : szOf Tryd.prog 52 = some 3 := by kernel_rfl
theorem to52 : tyOf Tryd.prog 52 = some (3, 32, some (ag [(Value.int .i64 (0 : Int)), (Value.int .i64 (0 : Int)), (str ([] : List UInt8))])) := by kernel_rfl
theorem sz128 : szOf Tryd.prog 128 = some 0 := by kernel_rfl
theorem to128 : tyOf Tryd.prog 128 = some (0, 0, some (ag [])) := by kernel_rfl
theorem sz186 : szOf Tryd.prog 186 = some 0 := by kernel_rfl
theorem to186 : tyOf Tryd.prog 186 = some (0, 0, some (ag [])) := by kernel_rfl
theorem mixed : Tryd.prog.follows .mixedOrders = true := by kernel_rfl
theorem eg49 : Tryd.prog.eqGuardType Tryd.prog.depth 49 = false := by kernel_rfl
theorem kt49 : Tryd.prog.keyTypeAt 20 49 = true := by kernel_rfl
theorem lv49 : leaves Tryd.prog 20 49 = some [5, 5, 5, 5, 5, 5, 5, 5] := by kernel_rfl
theorem injA8u8 {x y : A8u8} : (x == y) = true ↔ (cA8u8 x) = (cA8u8 y) := by
  rw [beq_iff_eq]
  constructor
  · rintro rfl; rfl
  · intro h
    obtain ⟨⟩ := x
    obtain ⟨⟩ := y
    simp only [A8u8.mk.injEq, cA8u8, str, List.cons_append, List.nil_append, List.cons.injEq, Value.int.injEq, Value.bool.injEq, Value.string.injEq, ByteArray.mk.injEq, Array.mk.injEq, Int.natCast_inj, UInt8.toNat_inj, true_and, and_true] at h ⊢
    first | exact h | simpa [and_assoc] using h
theorem eg52 : Tryd.prog.eqGuardType Tryd.prog.depth 52 = false := by kernel_rfl
theorem kt52 : Tryd.prog.keyTypeAt 20 52 = true := by kernel_rfl
theorem lv52 : leaves Tryd.prog 20 52 = some [3, 3, 9] := by kernel_rfl
theorem injS_api_Packet {x y : S_api_Packet} : (x == y) = true ↔ [(Value.int .i64 x.Kind), (Value.int .i64 x.Seq), (str x.Text)] = [(Value.int .i64 y.Kind), (Value.int .i64 y.Seq), (str y.Text)] := by
  rw [beq_iff_eq]
  constructor
  · rintro rfl; rfl
  · intro h
    obtain ⟨⟩ := x
    obtain ⟨⟩ := y
    simp only [S_api_Packet.mk.injEq, str, List.cons_append, List.nil_append, List.cons.injEq, Value.int.injEq, Value.bool.injEq, Value.string.injEq, ByteArray.mk.injEq, Array.mk.injEq, Int.natCast_inj, UInt8.toNat_inj, true_and, and_true] at h ⊢
    first | exact h | simpa [and_assoc] using h
def okS_api_Packet (x : S_api_Packet) : Prop := ((Lit.int .i64 x.Kind).wf = true) ∧ ((Lit.int .i64 x.Seq).wf = true) ∧ (x.Text.length ≤ 9223372036854775807)
set_option maxRecDepth 100000 in
theorem opnS_api_Packet {H : Type} : Opn H Tryd.prog 52 tyS_api_Packet okS_api_Packet := opn_struct (fun x => (x.Kind, (x.Seq, x.Text))) (fun y => S_api_Packet.mk y.1 y.2.1 y.2.2) (fun _ => rfl) Tryd.underlying52 sz52 (fields_cons sz3 (opn_int Tryd.underlying3) (fields_cons sz3 (opn_int Tryd.underlying3) (fields_one sz9 (opn_str Tryd.underlying9))))
theorem f_put8_ok {g off t : Nat} {a2 : Int} {cs cs' : List Value} (hc : 0 ≤ a2 ∧ a2 < 18446744073709551616) (hfit : off + 8 ≤ cs.length) (hcs : cs.take off ++ Lib.byteCells ((Lib.beBytes 8 a2.toNat).take 8) ++ cs.drop (off + ((Lib.beBytes 8 a2.toNat).take 8).length) = cs') :
    FnOk Tryd.prog 96 [(ag []), (sbx g off 8), (Value.int .u64 a2)] [] [oBox g t cs] (fun _ : Unit => { val := .tuple #[], own := [oBox g t cs'] }) := by
  obtain ⟨n, rfl⟩ : ∃ n : Nat, a2 = n := ⟨a2.toNat, by omega⟩
  have hl : (Lib.beBytes 8 n).length = 8 := Lib.beBytes_length 8 n
  have hcs' : cs.take off ++ Lib.byteCells (Lib.beBytes 8 n) ++ cs.drop (off + 8) = cs' := by
    have e : (Lib.beBytes 8 ((n : Int).toNat)).take 8 = Lib.beBytes 8 n := by rw [Int.toNat_natCast, List.take_of_length_le (by omega)]
    rw [e, hl] at hcs; exact hcs
  exact fnok_put8 hl hfit hcs' (fun x0 x1 x2 x3 x4 x5 x6 x7 w c0 c1 c2 c3 c4 c5 c6 c7 f0 f1 f2 f3 f4 f5 f6 f7 => Tryd.binary_BE_PutUint64 g off 8 8 n (by omega) x0 x1 x2 x3 x4 x5 x6 x7 w (by omega) c0 c1 c2 c3 c4 c5 c6 c7 f0 f1 f2 f3 f4 f5 f6 f7)
def f_lumref_PacketErr (fu : Nat) (a0 : S_api_Packet) : Option Int := (lt (fun (j2b3 : Bool) => (bif j2b3 then (some (5 : Int)) else (lt (fun (j5b12 : Bool) => (bif j5b12 then (some (1 : Int)) else (bif (decide ((a0.Text.length : Int) > (1024 : Int))) then (some (2 : Int)) else (some (0 : Int))))) fun (kk6 : Bool → Option Int) => (bif (decide (a0.Seq < (0 : Int))) then (kk6 true) else (bif (decide (a0.Seq > (2000 : Int))) then (kk6 true) else (bif (a0.Kind == (2 : Int)) then (kk6 (!(a0.Text == ([] : List UInt8)))) else (kk6 false))))))) fun (kk3 : Bool → Option Int) => (bif (a0.Kind != (1 : Int)) then (kk3 (a0.Kind != (2 : Int))) else (kk3 false)))
set_option maxRecDepth 100000 in
theorem f_lumref_PacketErr_ok (fu : Nat) (a0 : S_api_Packet) {r : Int} (h : f_lumref_PacketErr fu a0 = some r) : FnOk Tryd.prog 27 [(ag [(Value.int .i64 a0.Kind), (Value.int .i64 a0.Seq), (str a0.Text)])] [] [] (fun (i : Unit) => { val := (Value.int .i64 r) }) := by
  unfold f_lumref_PacketErr at h
  refine fn_enter Tryd.func27 rfl Tryd.ntmps27 rfl (fun w0 Z0 => ?_)
  refine aw_seq ?_
  refine aw_region ?_
  refine al_box (vs := [(Value.int .i64 a0.Kind), (Value.int .i64 a0.Seq), (str a0.Text)]) rfl (cv_rfl rfl) rfl (fun g1 => ?_)
  refine al_val (ov_assign rfl rfl) ?_
  refine al_nil ?_
  refine aq_then ?_
  refine aw_seq ?_
  refine aw_block ?_
  obtain ⟨kk3, hkk3, h⟩ := lt_some h
  refine aw_seq_join (ι := Bool) (fun i => (memOf w0 Z0 [] [(oBox g1 52 [(Value.int .i64 a0.Kind), (Value.int .i64 a0.Seq), (str a0.Text)])] [])) (fun i => (tab [(1, (ptr g1 0)), (3, (Value.bool i))])) (fun i => kk3 i = some r) ?_ ?_
  · rintro j2b3 h
    have h : kk3 j2b3 = some r := h
    rw [hkk3] at h
    dsimp only at h
    clear hkk3
    refine aw_show (m := (memOf w0 Z0 [] [(oBox g1 52 [(Value.int .i64 a0.Kind), (Value.int .i64 a0.Seq), (str a0.Text)])] [])) (S := (tab [(1, (ptr g1 0)), (3, (Value.bool j2b3))])) ?_
    refine aw_cond rfl (fun hb4 => ?_) (fun hb4 => ?_)
    · replace h := bif_t hb4 h
      refine aw_seq ?_
      refine aw_region ?_
      refine al_val (ov_assign rfl rfl) ?_
      refine al_nil ?_
      refine aq_then ?_
      refine aw_ret ?_
      refine aq_block_ret ?_
      refine aq_then_ret ?_
      obtain rfl := Option.some.inj h
      exact fn_ret () [] [] rfl rfl rfl rfl (res1 rfl rfl) rfl rfl rfl (by decide)
    · replace h := bif_f hb4 h
      obtain ⟨kk6, hkk6, h⟩ := lt_some h
      refine aw_seq_join (ι := Bool) (fun i => (memOf w0 Z0 [] [(oBox g1 52 [(Value.int .i64 a0.Kind), (Value.int .i64 a0.Seq), (str a0.Text)])] [])) (fun i => (tab [(1, (ptr g1 0)), (12, (Value.bool i))])) (fun i => kk6 i = some r) ?_ ?_
      · rintro j5b12 h
        have h : kk6 j5b12 = some r := h
        rw [hkk6] at h
        dsimp only at h
        clear hkk6
        refine aw_show (m := (memOf w0 Z0 [] [(oBox g1 52 [(Value.int .i64 a0.Kind), (Value.int .i64 a0.Seq), (str a0.Text)])] [])) (S := (tab [(1, (ptr g1 0)), (12, (Value.bool j5b12))])) ?_
        refine aw_cond rfl (fun hb7 => ?_) (fun hb7 => ?_)
        · replace h := bif_t hb7 h
          refine aw_seq ?_
          refine aw_region ?_
          refine al_val (ov_assign rfl rfl) ?_
          refine al_nil ?_
          refine aq_then ?_
          refine aw_ret ?_
          refine aq_block_ret ?_
          refine aq_then_ret ?_
          obtain rfl := Option.some.inj h
          exact fn_ret () [] [] rfl rfl rfl rfl (res1 rfl rfl) rfl rfl rfl (by decide)
        · replace h := bif_f hb7 h
          refine aw_seq ?_
          refine aw_region ?_
          refine al_val (ov_fieldA (p := 2) rfl Tryd.underlying52 rfl sz9 rfl rfl rfl) ?_
          refine al_val (ov_load (i := 0) (v := (str a0.Text)) rfl rfl Tryd.underlying9 sz9 rfl rfl rfl rfl) ?_
          refine al_val (ov_strLen Tryd.underlying9 rfl rfl) ?_
          refine al_val (ov_int rfl rfl rfl rfl) ?_
          refine al_val (ov_assign rfl rfl) ?_
          refine al_nil ?_
          refine aq_then ?_
          refine aw_cond rfl (fun hb8 => ?_) (fun hb8 => ?_)
          · replace h := bif_t hb8 h
            refine aw_seq ?_
            refine aw_region ?_
            refine al_val (ov_assign rfl rfl) ?_
            refine al_nil ?_
            refine aq_then ?_
            refine aw_ret ?_
            refine aq_block_ret ?_
            refine aq_then_ret ?_
            obtain rfl := Option.some.inj h
            exact fn_ret () [] [] rfl rfl rfl rfl (res1 rfl rfl) rfl rfl rfl (by decide)
          · replace h := bif_f hb8 h
            refine aw_skip ?_
            refine aq_block ?_
            refine aq_then ?_
            refine aw_seq ?_
            refine aw_region ?_
            refine al_val (ov_assign rfl rfl) ?_
            refine al_nil ?_
            refine aq_then ?_
            refine aw_ret ?_
            obtain rfl := Option.some.inj h
            exact fn_ret () [] [] rfl rfl rfl rfl (res1 rfl rfl) rfl rfl rfl (by decide)
      · clear hkk6
        refine aw_region ?_
        refine al_val (ov_fieldA (p := 1) rfl Tryd.underlying52 rfl sz3 rfl rfl rfl) ?_
        refine al_val (ov_load (i := 0) (v := (Value.int .i64 a0.Seq)) rfl rfl Tryd.underlying3 sz3 rfl rfl rfl rfl) ?_
        refine al_val (ov_int rfl rfl rfl rfl) ?_
        refine al_val (ov_move rfl rfl) ?_
        refine al_caseB 16 rfl (fun hb9 => ?_) (fun hb9 => ?_)
        · replace h := bif_t hb9 h
          refine al_skip ?_
          refine al_skip ?_
          refine al_skip ?_
          refine al_val (ov_pick_t rfl rfl rfl) ?_
          refine al_val (ov_move rfl rfl) ?_
          refine al_skip ?_
          refine al_skip ?_
          refine al_skip ?_
          refine al_skip ?_
          refine al_skip ?_
          refine al_skip ?_
          refine al_skip ?_
          refine al_skip ?_
          refine al_val (ov_pick_t rfl rfl rfl) ?_
          refine al_val (ov_assign rfl rfl) ?_
          refine al_nil ?_
          exact aq_join true h (fun w a hm hs => norm hm hs [0] [] [(1, (ptr g1 0)), (12, (Value.bool true))] (by decide) ⟨rfl, rfl, trivial⟩)
        · replace h := bif_f hb9 h
          refine al_val (ov_fieldA (p := 1) rfl Tryd.underlying52 rfl sz3 rfl rfl rfl) ?_
          refine al_val (ov_load (i := 0) (v := (Value.int .i64 a0.Seq)) rfl rfl Tryd.underlying3 sz3 rfl rfl rfl rfl) ?_
          refine al_val (ov_int rfl rfl rfl rfl) ?_
          refine al_val (ov_pick_f rfl rfl rfl) ?_
          refine al_val (ov_move rfl rfl) ?_
          refine al_caseB 21 rfl (fun hb10 => ?_) (fun hb10 => ?_)
          · replace h := bif_t hb10 h
            refine al_skip ?_
            refine al_skip ?_
            refine al_skip ?_
            refine al_skip ?_
            refine al_skip ?_
            refine al_skip ?_
            refine al_skip ?_
            refine al_skip ?_
            refine al_val (ov_pick_t rfl rfl rfl) ?_
            refine al_val (ov_assign rfl rfl) ?_
            refine al_nil ?_
            exact aq_join true h (fun w a hm hs => norm hm hs [0] [] [(1, (ptr g1 0)), (12, (Value.bool true))] (by decide) ⟨rfl, rfl, trivial⟩)
          · replace h := bif_f hb10 h
            refine al_val (ov_fieldA (p := 0) rfl Tryd.underlying52 rfl sz3 rfl rfl rfl) ?_
            refine al_val (ov_load (i := 0) (v := (Value.int .i64 a0.Kind)) rfl rfl Tryd.underlying3 sz3 rfl rfl rfl rfl) ?_
            refine al_val (ov_int rfl rfl rfl rfl) ?_
            refine al_val (ov_move rfl rfl) ?_
            refine al_caseB 25 rfl (fun hb11 => ?_) (fun hb11 => ?_)
            · replace h := bif_t hb11 h
              refine al_val (ov_fieldA (p := 2) rfl Tryd.underlying52 rfl sz9 rfl rfl rfl) ?_
              refine al_val (ov_load (i := 0) (v := (str a0.Text)) rfl rfl Tryd.underlying9 sz9 rfl rfl rfl rfl) ?_
              refine al_val (ov_strCmp rfl rfl rfl rfl) ?_
              refine al_val (ov_pick_t rfl rfl rfl) ?_
              refine al_val (ov_pick_f rfl rfl rfl) ?_
              refine al_val (ov_assign rfl rfl) ?_
              refine al_nil ?_
              exact aq_join (!(a0.Text == ([] : List UInt8))) h (fun w a hm hs => norm hm hs [0] [] [(1, (ptr g1 0)), (12, (Value.bool (!(a0.Text == ([] : List UInt8)))))] (by decide) ⟨rfl, rfl, trivial⟩)
            · replace h := bif_f hb11 h
              refine al_skip ?_
              refine al_skip ?_
              refine al_skip ?_
              refine al_val (ov_pick_f rfl rfl rfl) ?_
              refine al_val (ov_pick_f rfl rfl rfl) ?_
              refine al_val (ov_assign rfl rfl) ?_
              refine al_nil ?_
              exact aq_join false h (fun w a hm hs => norm hm hs [0] [] [(1, (ptr g1 0)), (12, (Value.bool false))] (by decide) ⟨rfl, rfl, trivial⟩)
  · clear hkk3
    refine aw_region ?_
    refine al_val (ov_fieldA (p := 0) rfl Tryd.underlying52 rfl sz3 rfl rfl rfl) ?_
    refine al_val (ov_load (i := 0) (v := (Value.int .i64 a0.Kind)) rfl rfl Tryd.underlying3 sz3 rfl rfl rfl rfl) ?_
    refine al_val (ov_int rfl rfl rfl rfl) ?_
    refine al_val (ov_move rfl rfl) ?_
    refine al_caseB 7 rfl (fun hb12 => ?_) (fun hb12 => ?_)
    · replace h := bif_t hb12 h
      refine al_val (ov_fieldA (p := 0) rfl Tryd.underlying52 rfl sz3 rfl rfl rfl) ?_
      refine al_val (ov_load (i := 0) (v := (Value.int .i64 a0.Kind)) rfl rfl Tryd.underlying3 sz3 rfl rfl rfl rfl) ?_
      refine al_val (ov_int rfl rfl rfl rfl) ?_
      refine al_val (ov_pick_t rfl rfl rfl) ?_
      refine al_val (ov_assign rfl rfl) ?_
      refine al_nil ?_
      exact aq_join (a0.Kind != (2 : Int)) h (fun w a hm hs => norm hm hs [0] [] [(1, (ptr g1 0)), (3, (Value.bool (a0.Kind != (2 : Int))))] (by decide) ⟨rfl, rfl, trivial⟩)
    · replace h := bif_f hb12 h
      refine al_skip ?_
      refine al_skip ?_
      refine al_skip ?_
      refine al_val (ov_pick_f rfl rfl rfl) ?_
      refine al_val (ov_assign rfl rfl) ?_
      refine al_nil ?_
      exact aq_join false h (fun w a hm hs => norm hm hs [0] [] [(1, (ptr g1 0)), (3, (Value.bool false))] (by decide) ⟨rfl, rfl, trivial⟩)
def f_num_PutText (fu : Nat) (a0 : (List UInt8)) : Option ((List UInt8) × Int) := (bif (decide ((a0.length : Int) > (1024 : Int))) then (some (([] : List UInt8), (2 : Int))) else (opt (f_strings_ReplaceAll fu a0 ([0] : List UInt8) ([0, 255] : List UInt8)) fun (r3 : (List UInt8)) => (req (r3.length + ([0, 0] : List UInt8).length ≤ 9223372036854775807) (some ((r3 ++ ([0, 0] : List UInt8)), (0 : Int))))))
set_option maxRecDepth 100000 in
theorem f_num_PutText_ok (fu : Nat) (a0 : (List UInt8)) {r : ((List UInt8) × Int)} (h : f_num_PutText fu a0 = some r) : FnOk Tryd.prog 62 [(str a0)] [uMax] [] (fun (i : Unit) => { val := (Value.tuple #[(str r.1), (Value.int .i64 r.2)]) }) := by
  unfold f_num_PutText at h
  refine fn_enter Tryd.func62 rfl Tryd.ntmps62 rfl (fun w0 Z0 => ?_)
  refine aw_seq ?_
  refine aw_region ?_
  refine al_val (ov_assign rfl rfl) ?_
  refine al_val (ov_assign rfl rfl) ?_
  refine al_nil ?_
  refine aq_then ?_
  refine aw_seq ?_
  refine aw_seq ?_
  refine aw_region ?_
  refine al_val (ov_move rfl rfl) ?_
  refine al_val (ov_strLen Tryd.underlying9 rfl rfl) ?_
  refine al_val (ov_int rfl rfl rfl rfl) ?_
  refine al_nil ?_
  refine aq_then ?_
  refine aw_cond rfl (fun hb1 => ?_) (fun hb1 => ?_)
  · replace h := bif_t hb1 h
    refine aw_seq ?_
    refine aw_region ?_
    refine al_val (ov_assign rfl rfl) ?_
    refine al_val (ov_assign rfl rfl) ?_
    refine al_nil ?_
    refine aq_then ?_
    refine aw_ret ?_
    refine aq_then_ret ?_
    obtain rfl := Option.some.inj h
    exact fn_ret () [] [] rfl rfl rfl rfl (res2 rfl rfl rfl) rfl rfl rfl (by decide)
  · replace h := bif_f hb1 h
    refine aw_skip ?_
    refine aq_then ?_
    refine aw_seq ?_
    refine aw_region ?_
    refine al_val (ov_move rfl rfl) ?_
    obtain ⟨r3, hc2, h⟩ := opt_some h
    refine al_call (vs := [(str a0), (str ([0] : List UInt8)), (str ([0, 255] : List UInt8))]) (f_strings_ReplaceAll_ok fu a0 ([0] : List UInt8) ([0, 255] : List UInt8) hc2) [] [] [] (pre_fz 0 rfl pre_nil) rfl (by simp) (by decide) (.inl rfl) rfl Tryd.func104 rfl rfl rfl (fun _ => ?_)
    obtain ⟨hc4, h⟩ := req_some h
    refine al_val (ov_strAdd hc4 rfl rfl rfl) ?_
    refine al_val (ov_assign rfl rfl) ?_
    refine al_val (ov_assign rfl rfl) ?_
    refine al_nil ?_
    refine aq_then ?_
    refine aw_ret ?_
    obtain rfl := Option.some.inj h
    exact fn_ret () [] [] rfl rfl rfl rfl (res2 rfl rfl rfl) rfl rfl rfl (by decide)
-- STUCK (encoding/binary.bigEndian).AppendUint64: binary.go:222: call: append to data
def f_strings_TrimLeft (fu : Nat) (a0 a1 : List UInt8) : Option (List UInt8) := match a1 with | [c] => req (c.toNat < 128) (some (Lib.trimLeftB a0 c)) | _ => none
theorem f_strings_TrimLeft_ok (fu : Nat) (a0 a1 : List UInt8) {r : List UInt8} (h : f_strings_TrimLeft fu a0 a1 = some r) : FnOk Tryd.prog 129 [(str a0), (str a1)] [] [] (fun (i : Unit) => { val := (str r) }) := by
  unfold f_strings_TrimLeft at h
  split at h
  · rename_i c
    obtain ⟨hc, h⟩ := req_some h
    obtain rfl := Option.some.inj h
    refine fnok_pure fun w => ?_
    exact (Tryd.strings_TrimLeft_one ⟨a0.toArray⟩ c hc w).mono fun e w' h9 => ⟨by simpa [str] using h9.1, by rw [h9.2]; exact Below.refl _ _⟩
  · cases h
def f_binary_BEAppendUint64_nil (fu : Nat) (a0 : Unit) (a2 : Int) : Option (List UInt8) := req (0 ≤ a2 ∧ a2 < 18446744073709551616) (some (Lib.beBytes 8 a2.toNat))
theorem f_binary_BEAppendUint64_nil_ok (fu : Nat) (a0 : Unit) (a2 : Int) {r : List UInt8} (h : f_binary_BEAppendUint64_nil fu a0 a2 = some r) : FnOk Tryd.prog 128 [(ag []), (Value.slice none 0 0), (Value.int .u64 a2)] [] [] (fun (i : Value) => { val := i, own := [(oRow i 5 tyU8 r)] }) := by
  unfold f_binary_BEAppendUint64_nil at h
  obtain ⟨hc, h⟩ := req_some h
  obtain rfl := Option.some.inj h
  obtain ⟨n, rfl⟩ : ∃ n : Nat, a2 = n := ⟨a2.toNat, by omega⟩
  refine fnok_own fun w => ?_
  refine (Tryd.binary_BE_AppendUint64 w.heap.size 0 n (by omega) (.slice none 0 0) [] w ⟨rfl, .inl ⟨rfl, rfl⟩⟩ (Nat.le_refl _) (by omega)).mono fun ex w' h9 => ?_
  obtain ⟨v, h1, h2, h3⟩ := h9
  refine ⟨v, _, h1, ?_, fun Z => u8_row _, h3⟩
  rw [Lib.beBytes_length]
  show World.ownsRow _ _ _ 1 _ _ _
  simpa using h2
def f_num_digits (fu : Nat) (a0 : Int) : Option (List UInt8) := (opt (f_binary_BEAppendUint64_nil fu () a0) fun (r2 : (List UInt8)) => (opt (f_strings_TrimLeft fu r2 ([0] : List UInt8)) fun (r5 : (List UInt8)) => (some r5)))
set_option maxRecDepth 100000 in
theorem f_num_digits_ok (fu : Nat) (a0 : Int) {r : (List UInt8)} (h : f_num_digits fu a0 = some r) : FnOk Tryd.prog 95 [(Value.int .u64 a0)] [] [] (fun (i : Unit) => { val := (str r) }) := by
  unfold f_num_digits at h
  refine fn_enter Tryd.func95 rfl Tryd.ntmps95 rfl (fun w0 Z0 => ?_)
  refine aw_seq ?_
  refine aw_region ?_
  refine al_val (ov_assign rfl rfl) ?_
  refine al_nil ?_
  refine aq_then ?_
  refine aw_seq ?_
  refine aw_region ?_
  refine al_val (ov_load0 Tryd.underlying128 sz128 rfl rfl rfl) ?_
  refine al_val (ov_move rfl rfl) ?_
  obtain ⟨r2, hc1, h⟩ := opt_some h
  refine al_call (vs := [(ag []), (Value.slice none 0 0), (Value.int .u64 a0)]) (f_binary_BEAppendUint64_nil_ok fu () a0 hc1) [] [] [] pre_nil rfl (by simp) (by decide) (.inl rfl) rfl Tryd.func128 rfl rfl rfl (fun v3 => ?_)
  refine al_val (ov_toStrR 0 rfl rfl Tryd.underlying89 Tryd.underlying5 Tryd.underlying9 rfl) ?_
  refine al_val (ov_assign rfl rfl) ?_
  refine al_nil ?_
  refine aq_then ?_
  refine aw_seq ?_
  refine aw_region ?_
  refine al_val (ov_move rfl rfl) ?_
  obtain ⟨r5, hc4, h⟩ := opt_some h
  refine al_call (vs := [(str r2), (str ([0] : List UInt8))]) (f_strings_TrimLeft_ok fu r2 ([0] : List UInt8) hc4) [] [] [0] pre_nil rfl (by simp) (by decide) (.inl rfl) rfl Tryd.func129 rfl rfl rfl (fun _ => ?_)
  refine al_val (ov_assign rfl rfl) ?_
  refine al_nil ?_
  refine aq_then ?_
  refine aw_ret ?_
  obtain rfl := Option.some.inj h
  exact fn_ret () [] [] rfl rfl rfl rfl (res1 rfl rfl) rfl rfl rfl (by decide)
def f_num_Put (fu : Nat) (a0 : Int) : Option (List UInt8) := (opt (f_num_digits fu a0) fun (r2 : (List UInt8)) => (req (0 ≤ (IntKind.u8.wrap (r2.length : Int)) ∧ (IntKind.u8.wrap (r2.length : Int)) ≤ 255) (req (([(UInt8.ofNat ((IntKind.u8.wrap (r2.length : Int))).toNat)]).length + r2.length ≤ 9223372036854775807) (some (([(UInt8.ofNat ((IntKind.u8.wrap (r2.length : Int))).toNat)]) ++ r2)))))
set_option maxRecDepth 100000 in
theorem f_num_Put_ok (fu : Nat) (a0 : Int) {r : (List UInt8)} (h : f_num_Put fu a0 = some r) : FnOk Tryd.prog 54 [(Value.int .u64 a0)] [] [] (fun (i : Unit) => { val := (str r) }) := by
  unfold f_num_Put at h
  refine fn_enter Tryd.func54 rfl Tryd.ntmps54 rfl (fun w0 Z0 => ?_)
  refine aw_seq ?_
  refine aw_region ?_
  refine al_val (ov_assign rfl rfl) ?_
  refine al_nil ?_
  refine aq_then ?_
  refine aw_seq ?_
  refine aw_region ?_
  refine al_val (ov_move rfl rfl) ?_
  obtain ⟨r2, hc1, h⟩ := opt_some h
  refine al_call (vs := [(Value.int .u64 a0)]) (f_num_digits_ok fu a0 hc1) [] [] [] pre_nil rfl (by simp) (by decide) (.inl rfl) rfl Tryd.func95 rfl rfl rfl (fun _ => ?_)
  refine al_val (ov_assign rfl rfl) ?_
  refine al_nil ?_
  refine aq_then ?_
  refine aw_seq ?_
  refine aw_region ?_
  refine al_val (ov_move rfl rfl) ?_
  refine al_val (ov_strLen Tryd.underlying9 rfl rfl) ?_
  refine al_val (ov_convInt (by rw [Tryd.underlying3]; rfl) Tryd.underlying5 rfl rfl) ?_
  obtain ⟨hc4, h⟩ := req_some h
  refine al_buildSlice (τ := tyU8) (e := 5) (k := 1) (sz := 0) (by_ := 0) (z := undef) (cs := [(Value.int .u8 (IntKind.u8.wrap (r2.length : Int)))]) (xs := [(UInt8.ofNat ((IntKind.u8.wrap (r2.length : Int))).toNat)]) rfl (by decide) (fun w a hm hs => ⟨([(Value.int .u8 (IntKind.u8.wrap (r2.length : Int)))]).toArray, rfl, by simp only [List.map_toArray, List.map_cons, List.map_nil, hs.ev (x := .tmp 8) rfl]; exact run_bs [(Value.int .u8 (IntKind.u8.wrap (r2.length : Int)))] [(Value.int .u8 (IntKind.u8.wrap (r2.length : Int)))] Tryd.underlying89 to5 rfl rfl (bs_cons (l := [(Value.int .u8 (IntKind.u8.wrap (r2.length : Int)))]) (cs := []) (cv_rfl rfl) rfl bs_nil) hm⟩) (fun hm => ⟨_, _, rfl, (fun _ => u8_rep hc4) hm, rfl⟩) rfl (fun v3 => ?_)
  refine al_val (ov_toStrR 0 rfl rfl Tryd.underlying89 Tryd.underlying5 Tryd.underlying9 rfl) ?_
  refine al_val (ov_move rfl rfl) ?_
  obtain ⟨hc5, h⟩ := req_some h
  refine al_val (ov_strAdd hc5 rfl rfl rfl) ?_
  refine al_val (ov_assign rfl rfl) ?_
  refine al_nil ?_
  refine aq_then ?_
  refine aw_ret ?_
  obtain rfl := Option.some.inj h
  exact fn_ret () [] [] rfl rfl rfl rfl (res1 rfl rfl) rfl rfl rfl (by decide)
def f__binary_littleEndian__Uint64 (fu : Nat) (a0 : Unit) (a1 : (List UInt8)) : Option Int := (opt (at? a1 (7 : Int)) fun (u2 : UInt8) => (opt (at? a1 (0 : Int)) fun (u5 : UInt8) => (opt (at? a1 (1 : Int)) fun (u8 : UInt8) => (opt (at? a1 (2 : Int)) fun (u11 : UInt8) => (opt (at? a1 (3 : Int)) fun (u14 : UInt8) => (opt (at? a1 (4 : Int)) fun (u17 : UInt8) => (opt (at? a1 (5 : Int)) fun (u20 : UInt8) => (opt (at? a1 (6 : Int)) fun (u23 : UInt8) => (opt (at? a1 (7 : Int)) fun (u26 : UInt8) => (some (bits .or .u64 (bits .or .u64 (bits .or .u64 (bits .or .u64 (bits .or .u64 (bits .or .u64 (bits .or .u64 (IntKind.u64.wrap (u5.toNat : Int)) (IntKind.u64.wrap ((IntKind.u64.wrap (u8.toNat : Int)) * 2 ^ min ((8 : Int)).toNat (IntKind.bits .u64)))) (IntKind.u64.wrap ((IntKind.u64.wrap (u11.toNat : Int)) * 2 ^ min ((16 : Int)).toNat (IntKind.bits .u64)))) (IntKind.u64.wrap ((IntKind.u64.wrap (u14.toNat : Int)) * 2 ^ min ((24 : Int)).toNat (IntKind.bits .u64)))) (IntKind.u64.wrap ((IntKind.u64.wrap (u17.toNat : Int)) * 2 ^ min ((32 : Int)).toNat (IntKind.bits .u64)))) (IntKind.u64.wrap ((IntKind.u64.wrap (u20.toNat : Int)) * 2 ^ min ((40 : Int)).toNat (IntKind.bits .u64)))) (IntKind.u64.wrap ((IntKind.u64.wrap (u23.toNat : Int)) * 2 ^ min ((48 : Int)).toNat (IntKind.bits .u64)))) (IntKind.u64.wrap ((IntKind.u64.wrap (u26.toNat : Int)) * 2 ^ min ((56 : Int)).toNat (IntKind.bits .u64))))))))))))))
set_option maxRecDepth 100000 in
theorem f__binary_littleEndian__Uint64_ok (fu : Nat) (a0 : Unit) (v1_0 : Value) (a1 : (List UInt8)) {r : Int} (h : f__binary_littleEndian__Uint64 fu a0 a1 = some r) : FnOk Tryd.prog 154 [(ag []), v1_0] [(fDat (tyList tyU8) [v1_0] a1)] [] (fun (i : Unit) => { val := (Value.int .u64 r) }) := by
  unfold f__binary_littleEndian__Uint64 at h
  refine fn_enter Tryd.func154 rfl Tryd.ntmps154 rfl (fun w0 Z0 => ?_)
  refine aw_seq ?_
  refine aw_region ?_
  refine al_box (vs := []) rfl (cv_rfl rfl) rfl (fun g1 => ?_)
  refine al_val (ov_assign rfl rfl) ?_
  refine al_nil ?_
  refine aq_then ?_
  refine aw_seq ?_
  refine aw_region ?_
  refine al_val (ov_move rfl rfl) ?_
  obtain ⟨u2, hu3, h⟩ := opt_some h
  refine al_idxD 0 hu3 rfl rfl rfl Tryd.underlying89 sz5 rfl (fun p4 => ?_)
  refine al_val (ov_loadP (ds := [(Value.int .u8 (u2.toNat : Int))]) 0 rfl (fun h => h) rfl Tryd.underlying5 sz5 rfl rfl rfl) ?_
  refine al_nil ?_
  refine aq_then ?_
  refine aw_seq ?_
  obtain ⟨u5, hu6, h⟩ := opt_some h
  obtain ⟨u8, hu9, h⟩ := opt_some h
  obtain ⟨u11, hu12, h⟩ := opt_some h
  obtain ⟨u14, hu15, h⟩ := opt_some h
  obtain ⟨u17, hu18, h⟩ := opt_some h
  obtain ⟨u20, hu21, h⟩ := opt_some h
  obtain ⟨u23, hu24, h⟩ := opt_some h
  obtain ⟨u26, hu27, h⟩ := opt_some h
  refine aw_region_draw 46 [(8, (fun u => fEq u v1_0)), (9, (fun p7 => (fPtr tyU8 p7 u5))), (10, (fun u => fEq u (Value.int .u8 (u5.toNat : Int)))), (11, (fun u => fEq u (Value.int .u64 (IntKind.u64.wrap (u5.toNat : Int))))), (12, (fun u => fEq u v1_0)), (13, (fun p10 => (fPtr tyU8 p10 u8))), (14, (fun u => fEq u (Value.int .u8 (u8.toNat : Int)))), (15, (fun u => fEq u (Value.int .u64 (IntKind.u64.wrap (u8.toNat : Int))))), (16, (fun u => fEq u (Value.int .u64 (IntKind.u64.wrap ((IntKind.u64.wrap (u8.toNat : Int)) * 2 ^ min ((8 : Int)).toNat (IntKind.bits .u64)))))), (17, (fun u => fEq u (Value.int .u64 (bits .or .u64 (IntKind.u64.wrap (u5.toNat : Int)) (IntKind.u64.wrap ((IntKind.u64.wrap (u8.toNat : Int)) * 2 ^ min ((8 : Int)).toNat (IntKind.bits .u64))))))), (18, (fun u => fEq u v1_0)), (19, (fun p13 => (fPtr tyU8 p13 u11))), (20, (fun u => fEq u (Value.int .u8 (u11.toNat : Int)))), (21, (fun u => fEq u (Value.int .u64 (IntKind.u64.wrap (u11.toNat : Int))))), (22, (fun u => fEq u (Value.int .u64 (IntKind.u64.wrap ((IntKind.u64.wrap (u11.toNat : Int)) * 2 ^ min ((16 : Int)).toNat (IntKind.bits .u64)))))), (23, (fun u => fEq u (Value.int .u64 (bits .or .u64 (bits .or .u64 (IntKind.u64.wrap (u5.toNat : Int)) (IntKind.u64.wrap ((IntKind.u64.wrap (u8.toNat : Int)) * 2 ^ min ((8 : Int)).toNat (IntKind.bits .u64)))) (IntKind.u64.wrap ((IntKind.u64.wrap (u11.toNat : Int)) * 2 ^ min ((16 : Int)).toNat (IntKind.bits .u64))))))), (24, (fun u => fEq u v1_0)), (25, (fun p16 => (fPtr tyU8 p16 u14))), (26, (fun u => fEq u (Value.int .u8 (u14.toNat : Int)))), (27, (fun u => fEq u (Value.int .u64 (IntKind.u64.wrap (u14.toNat : Int))))), (28, (fun u => fEq u (Value.int .u64 (IntKind.u64.wrap ((IntKind.u64.wrap (u14.toNat : Int)) * 2 ^ min ((24 : Int)).toNat (IntKind.bits .u64)))))), (29, (fun u => fEq u (Value.int .u64 (bits .or .u64 (bits .or .u64 (bits .or .u64 (IntKind.u64.wrap (u5.toNat : Int)) (IntKind.u64.wrap ((IntKind.u64.wrap (u8.toNat : Int)) * 2 ^ min ((8 : Int)).toNat (IntKind.bits .u64)))) (IntKind.u64.wrap ((IntKind.u64.wrap (u11.toNat : Int)) * 2 ^ min ((16 : Int)).toNat (IntKind.bits .u64)))) (IntKind.u64.wrap ((IntKind.u64.wrap (u14.toNat : Int)) * 2 ^ min ((24 : Int)).toNat (IntKind.bits .u64))))))), (30, (fun u => fEq u v1_0)), (31, (fun p19 => (fPtr tyU8 p19 u17))), (32, (fun u => fEq u (Value.int .u8 (u17.toNat : Int)))), (33, (fun u => fEq u (Value.int .u64 (IntKind.u64.wrap (u17.toNat : Int))))), (34, (fun u => fEq u (Value.int .u64 (IntKind.u64.wrap ((IntKind.u64.wrap (u17.toNat : Int)) * 2 ^ min ((32 : Int)).toNat (IntKind.bits .u64)))))), (35, (fun u => fEq u (Value.int .u64 (bits .or .u64 (bits .or .u64 (bits .or .u64 (bits .or .u64 (IntKind.u64.wrap (u5.toNat : Int)) (IntKind.u64.wrap ((IntKind.u64.wrap (u8.toNat : Int)) * 2 ^ min ((8 : Int)).toNat (IntKind.bits .u64)))) (IntKind.u64.wrap ((IntKind.u64.wrap (u11.toNat : Int)) * 2 ^ min ((16 : Int)).toNat (IntKind.bits .u64)))) (IntKind.u64.wrap ((IntKind.u64.wrap (u14.toNat : Int)) * 2 ^ min ((24 : Int)).toNat (IntKind.bits .u64)))) (IntKind.u64.wrap ((IntKind.u64.wrap (u17.toNat : Int)) * 2 ^ min ((32 : Int)).toNat (IntKind.bits .u64))))))), (36, (fun u => fEq u v1_0)), (37, (fun p22 => (fPtr tyU8 p22 u20))), (38, (fun u => fEq u (Value.int .u8 (u20.toNat : Int)))), (39, (fun u => fEq u (Value.int .u64 (IntKind.u64.wrap (u20.toNat : Int))))), (40, (fun u => fEq u (Value.int .u64 (IntKind.u64.wrap ((IntKind.u64.wrap (u20.toNat : Int)) * 2 ^ min ((40 : Int)).toNat (IntKind.bits .u64)))))), (41, (fun u => fEq u (Value.int .u64 (bits .or .u64 (bits .or .u64 (bits .or .u64 (bits .or .u64 (bits .or .u64 (IntKind.u64.wrap (u5.toNat : Int)) (IntKind.u64.wrap ((IntKind.u64.wrap (u8.toNat : Int)) * 2 ^ min ((8 : Int)).toNat (IntKind.bits .u64)))) (IntKind.u64.wrap ((IntKind.u64.wrap (u11.toNat : Int)) * 2 ^ min ((16 : Int)).toNat (IntKind.bits .u64)))) (IntKind.u64.wrap ((IntKind.u64.wrap (u14.toNat : Int)) * 2 ^ min ((24 : Int)).toNat (IntKind.bits .u64)))) (IntKind.u64.wrap ((IntKind.u64.wrap (u17.toNat : Int)) * 2 ^ min ((32 : Int)).toNat (IntKind.bits .u64)))) (IntKind.u64.wrap ((IntKind.u64.wrap (u20.toNat : Int)) * 2 ^ min ((40 : Int)).toNat (IntKind.bits .u64))))))), (42, (fun u => fEq u v1_0)), (43, (fun p25 => (fPtr tyU8 p25 u23))), (44, (fun u => fEq u (Value.int .u8 (u23.toNat : Int)))), (45, (fun u => fEq u (Value.int .u64 (IntKind.u64.wrap (u23.toNat : Int))))), (46, (fun u => fEq u (Value.int .u64 (IntKind.u64.wrap ((IntKind.u64.wrap (u23.toNat : Int)) * 2 ^ min ((48 : Int)).toNat (IntKind.bits .u64)))))), (47, (fun u => fEq u (Value.int .u64 (bits .or .u64 (bits .or .u64 (bits .or .u64 (bits .or .u64 (bits .or .u64 (bits .or .u64 (IntKind.u64.wrap (u5.toNat : Int)) (IntKind.u64.wrap ((IntKind.u64.wrap (u8.toNat : Int)) * 2 ^ min ((8 : Int)).toNat (IntKind.bits .u64)))) (IntKind.u64.wrap ((IntKind.u64.wrap (u11.toNat : Int)) * 2 ^ min ((16 : Int)).toNat (IntKind.bits .u64)))) (IntKind.u64.wrap ((IntKind.u64.wrap (u14.toNat : Int)) * 2 ^ min ((24 : Int)).toNat (IntKind.bits .u64)))) (IntKind.u64.wrap ((IntKind.u64.wrap (u17.toNat : Int)) * 2 ^ min ((32 : Int)).toNat (IntKind.bits .u64)))) (IntKind.u64.wrap ((IntKind.u64.wrap (u20.toNat : Int)) * 2 ^ min ((40 : Int)).toNat (IntKind.bits .u64)))) (IntKind.u64.wrap ((IntKind.u64.wrap (u23.toNat : Int)) * 2 ^ min ((48 : Int)).toNat (IntKind.bits .u64))))))), (48, (fun u => fEq u v1_0)), (49, (fun p28 => (fPtr tyU8 p28 u26))), (50, (fun u => fEq u (Value.int .u8 (u26.toNat : Int)))), (51, (fun u => fEq u (Value.int .u64 (IntKind.u64.wrap (u26.toNat : Int))))), (52, (fun u => fEq u (Value.int .u64 (IntKind.u64.wrap ((IntKind.u64.wrap (u26.toNat : Int)) * 2 ^ min ((56 : Int)).toNat (IntKind.bits .u64)))))), (53, (fun u => fEq u (Value.int .u64 (bits .or .u64 (bits .or .u64 (bits .or .u64 (bits .or .u64 (bits .or .u64 (bits .or .u64 (bits .or .u64 (IntKind.u64.wrap (u5.toNat : Int)) (IntKind.u64.wrap ((IntKind.u64.wrap (u8.toNat : Int)) * 2 ^ min ((8 : Int)).toNat (IntKind.bits .u64)))) (IntKind.u64.wrap ((IntKind.u64.wrap (u11.toNat : Int)) * 2 ^ min ((16 : Int)).toNat (IntKind.bits .u64)))) (IntKind.u64.wrap ((IntKind.u64.wrap (u14.toNat : Int)) * 2 ^ min ((24 : Int)).toNat (IntKind.bits .u64)))) (IntKind.u64.wrap ((IntKind.u64.wrap (u17.toNat : Int)) * 2 ^ min ((32 : Int)).toNat (IntKind.bits .u64)))) (IntKind.u64.wrap ((IntKind.u64.wrap (u20.toNat : Int)) * 2 ^ min ((40 : Int)).toNat (IntKind.bits .u64)))) (IntKind.u64.wrap ((IntKind.u64.wrap (u23.toNat : Int)) * 2 ^ min ((48 : Int)).toNat (IntKind.bits .u64)))) (IntKind.u64.wrap ((IntKind.u64.wrap (u26.toNat : Int)) * 2 ^ min ((56 : Int)).toNat (IntKind.bits .u64)))))))] (tab [(1, v1_0), (4, (Value.int .u64 (0 : Int)))]) mixed (by kernel_rfl) rfl rfl rfl (fun a hs => hs.tab _ (allT_mem ⟨rfl, rfl, trivial⟩)) ⟨⟨rfl, ld_val (ov_move rfl rfl)⟩, ⟨rfl, ld_eq (j := 0) rfl rfl (ld_of (of_idxD 1 hu6 rfl rfl rfl Tryd.underlying89 sz5 rfl))⟩, ⟨rfl, ld_fact (j := 1) rfl rfl (fun p7 => ld_val (ov_loadP (ds := [(Value.int .u8 (u5.toNat : Int))]) 0 rfl (fun h => h) rfl Tryd.underlying5 sz5 rfl rfl rfl))⟩, ⟨rfl, ld_eq (j := 2) rfl rfl (ld_val (ov_convInt (by rw [Tryd.underlying5]; rfl) Tryd.underlying87 rfl rfl))⟩, ⟨rfl, ld_val (ov_move rfl rfl)⟩, ⟨rfl, ld_eq (j := 4) rfl rfl (ld_of (of_idxD 1 hu9 rfl rfl rfl Tryd.underlying89 sz5 rfl))⟩, ⟨rfl, ld_fact (j := 5) rfl rfl (fun p10 => ld_val (ov_loadP (ds := [(Value.int .u8 (u8.toNat : Int))]) 0 rfl (fun h => h) rfl Tryd.underlying5 sz5 rfl rfl rfl))⟩, ⟨rfl, ld_eq (j := 6) rfl rfl (ld_val (ov_convInt (by rw [Tryd.underlying5]; rfl) Tryd.underlying87 rfl rfl))⟩, ⟨rfl, ld_eq (j := 7) rfl rfl (ld_val (ov_shl (by decide) rfl rfl rfl))⟩, ⟨rfl, ld_eq (j := 3) rfl rfl (ld_eq (j := 8) rfl rfl (ld_val (ov_int rfl rfl rfl rfl)))⟩, ⟨rfl, ld_val (ov_move rfl rfl)⟩, ⟨rfl, ld_eq (j := 10) rfl rfl (ld_of (of_idxD 1 hu12 rfl rfl rfl Tryd.underlying89 sz5 rfl))⟩, ⟨rfl, ld_fact (j := 11) rfl rfl (fun p13 => ld_val (ov_loadP (ds := [(Value.int .u8 (u11.toNat : Int))]) 0 rfl (fun h => h) rfl Tryd.underlying5 sz5 rfl rfl rfl))⟩, ⟨rfl, ld_eq (j := 12) rfl rfl (ld_val (ov_convInt (by rw [Tryd.underlying5]; rfl) Tryd.underlying87 rfl rfl))⟩, ⟨rfl, ld_eq (j := 13) rfl rfl (ld_val (ov_shl (by decide) rfl rfl rfl))⟩, ⟨rfl, ld_eq (j := 9) rfl rfl (ld_eq (j := 14) rfl rfl (ld_val (ov_int rfl rfl rfl rfl)))⟩, ⟨rfl, ld_val (ov_move rfl rfl)⟩, ⟨rfl, ld_eq (j := 16) rfl rfl (ld_of (of_idxD 1 hu15 rfl rfl rfl Tryd.underlying89 sz5 rfl))⟩, ⟨rfl, ld_fact (j := 17) rfl rfl (fun p16 => ld_val (ov_loadP (ds := [(Value.int .u8 (u14.toNat : Int))]) 0 rfl (fun h => h) rfl Tryd.underlying5 sz5 rfl rfl rfl))⟩, ⟨rfl, ld_eq (j := 18) rfl rfl (ld_val (ov_convInt (by rw [Tryd.underlying5]; rfl) Tryd.underlying87 rfl rfl))⟩, ⟨rfl, ld_eq (j := 19) rfl rfl (ld_val (ov_shl (by decide) rfl rfl rfl))⟩, ⟨rfl, ld_eq (j := 15) rfl rfl (ld_eq (j := 20) rfl rfl (ld_val (ov_int rfl rfl rfl rfl)))⟩, ⟨rfl, ld_val (ov_move rfl rfl)⟩, ⟨rfl, ld_eq (j := 22) rfl rfl (ld_of (of_idxD 1 hu18 rfl rfl rfl Tryd.underlying89 sz5 rfl))⟩, ⟨rfl, ld_fact (j := 23) rfl rfl (fun p19 => ld_val (ov_loadP (ds := [(Value.int .u8 (u17.toNat : Int))]) 0 rfl (fun h => h) rfl Tryd.underlying5 sz5 rfl rfl rfl))⟩, ⟨rfl, ld_eq (j := 24) rfl rfl (ld_val (ov_convInt (by rw [Tryd.underlying5]; rfl) Tryd.underlying87 rfl rfl))⟩, ⟨rfl, ld_eq (j := 25) rfl rfl (ld_val (ov_shl (by decide) rfl rfl rfl))⟩, ⟨rfl, ld_eq (j := 21) rfl rfl (ld_eq (j := 26) rfl rfl (ld_val (ov_int rfl rfl rfl rfl)))⟩, ⟨rfl, ld_val (ov_move rfl rfl)⟩, ⟨rfl, ld_eq (j := 28) rfl rfl (ld_of (of_idxD 1 hu21 rfl rfl rfl Tryd.underlying89 sz5 rfl))⟩, ⟨rfl, ld_fact (j := 29) rfl rfl (fun p22 => ld_val (ov_loadP (ds := [(Value.int .u8 (u20.toNat : Int))]) 0 rfl (fun h => h) rfl Tryd.underlying5 sz5 rfl rfl rfl))⟩, ⟨rfl, ld_eq (j := 30) rfl rfl (ld_val (ov_convInt (by rw [Tryd.underlying5]; rfl) Tryd.underlying87 rfl rfl))⟩, ⟨rfl, ld_eq (j := 31) rfl rfl (ld_val (ov_shl (by decide) rfl rfl rfl))⟩, ⟨rfl, ld_eq (j := 27) rfl rfl (ld_eq (j := 32) rfl rfl (ld_val (ov_int rfl rfl rfl rfl)))⟩, ⟨rfl, ld_val (ov_move rfl rfl)⟩, ⟨rfl, ld_eq (j := 34) rfl rfl (ld_of (of_idxD 1 hu24 rfl rfl rfl Tryd.underlying89 sz5 rfl))⟩, ⟨rfl, ld_fact (j := 35) rfl rfl (fun p25 => ld_val (ov_loadP (ds := [(Value.int .u8 (u23.toNat : Int))]) 0 rfl (fun h => h) rfl Tryd.underlying5 sz5 rfl rfl rfl))⟩, ⟨rfl, ld_eq (j := 36) rfl rfl (ld_val (ov_convInt (by rw [Tryd.underlying5]; rfl) Tryd.underlying87 rfl rfl))⟩, ⟨rfl, ld_eq (j := 37) rfl rfl (ld_val (ov_shl (by decide) rfl rfl rfl))⟩, ⟨rfl, ld_eq (j := 33) rfl rfl (ld_eq (j := 38) rfl rfl (ld_val (ov_int rfl rfl rfl rfl)))⟩, ⟨rfl, ld_val (ov_move rfl rfl)⟩, ⟨rfl, ld_eq (j := 40) rfl rfl (ld_of (of_idxD 1 hu27 rfl rfl rfl Tryd.underlying89 sz5 rfl))⟩, ⟨rfl, ld_fact (j := 41) rfl rfl (fun p28 => ld_val (ov_loadP (ds := [(Value.int .u8 (u26.toNat : Int))]) 0 rfl (fun h => h) rfl Tryd.underlying5 sz5 rfl rfl rfl))⟩, ⟨rfl, ld_eq (j := 42) rfl rfl (ld_val (ov_convInt (by rw [Tryd.underlying5]; rfl) Tryd.underlying87 rfl rfl))⟩, ⟨rfl, ld_eq (j := 43) rfl rfl (ld_val (ov_shl (by decide) rfl rfl rfl))⟩, ⟨rfl, ld_eq (j := 39) rfl rfl (ld_eq (j := 44) rfl rfl (ld_val (ov_int rfl rfl rfl rfl)))⟩, trivial⟩ ?_
  refine tl_eq 45 rfl ?_
  refine tl_done ?_
  refine al_val (ov_assign rfl rfl) ?_
  refine al_nil ?_
  refine aq_then ?_
  refine aw_ret ?_
  obtain rfl := Option.some.inj h
  exact fn_ret () [] [] rfl rfl rfl rfl (res1 rfl rfl) rfl rfl rfl (by decide)
def f_mix_Step (fu : Nat) (a0 : Int) (a1 : Int) : Option Int := (some (bits .xor .u64 (IntKind.u64.wrap ((bits .xor .u64 (IntKind.u64.wrap ((bits .xor .u64 a0 a1) * (11400714819323198485 : Int))) (((IntKind.u64.wrap ((bits .xor .u64 a0 a1) * (11400714819323198485 : Int)))).fdiv (2 ^ min ((29 : Int)).toNat (IntKind.bits .u64)))) * (13787848793156543929 : Int))) (((IntKind.u64.wrap ((bits .xor .u64 (IntKind.u64.wrap ((bits .xor .u64 a0 a1) * (11400714819323198485 : Int))) (((IntKind.u64.wrap ((bits .xor .u64 a0 a1) * (11400714819323198485 : Int)))).fdiv (2 ^ min ((29 : Int)).toNat (IntKind.bits .u64)))) * (13787848793156543929 : Int)))).fdiv (2 ^ min ((32 : Int)).toNat (IntKind.bits .u64)))))
set_option maxRecDepth 100000 in
theorem f_mix_Step_ok (fu : Nat) (a0 : Int) (a1 : Int) {r : Int} (h : f_mix_Step fu a0 a1 = some r) : FnOk Tryd.prog 153 [(Value.int .u64 a0), (Value.int .u64 a1)] [] [] (fun (i : Unit) => { val := (Value.int .u64 r) }) := by
  unfold f_mix_Step at h
  refine fn_enter Tryd.func153 rfl Tryd.ntmps153 rfl (fun w0 Z0 => ?_)
  refine aw_seq ?_
  refine aw_region ?_
  refine al_val (ov_assign rfl rfl) ?_
  refine al_nil ?_
  refine aq_then ?_
  refine aw_seq ?_
  refine aw_region ?_
  refine al_val (ov_move rfl rfl) ?_
  refine al_val (ov_move rfl rfl) ?_
  refine al_val (ov_int rfl rfl rfl rfl) ?_
  refine al_val (ov_int rfl rfl rfl rfl) ?_
  refine al_val (ov_assign rfl rfl) ?_
  refine al_nil ?_
  refine aq_then ?_
  refine aw_seq ?_
  refine aw_region ?_
  refine al_val (ov_move rfl rfl) ?_
  refine al_val (ov_move rfl rfl) ?_
  refine al_val (ov_shr (by decide) rfl rfl rfl) ?_
  refine al_val (ov_int rfl rfl rfl rfl) ?_
  refine al_val (ov_int rfl rfl rfl rfl) ?_
  refine al_val (ov_assign rfl rfl) ?_
  refine al_nil ?_
  refine aq_then ?_
  refine aw_seq ?_
  refine aw_region ?_
  refine al_val (ov_move rfl rfl) ?_
  refine al_val (ov_move rfl rfl) ?_
  refine al_val (ov_shr (by decide) rfl rfl rfl) ?_
  refine al_val (ov_int rfl rfl rfl rfl) ?_
  refine al_val (ov_assign rfl rfl) ?_
  refine al_nil ?_
  refine aq_then ?_
  refine aw_ret ?_
  obtain rfl := Option.some.inj h
  exact fn_ret () [] [] rfl rfl rfl rfl (res1 rfl rfl) rfl rfl rfl (by decide)
def f_mix_sum_L7 (a1 : Int) (kk2 : (Int → Option Int)) (fu : Nat) : Nat → (List UInt8) → Int → Option Int
  | 0, _, _ => none
  | k6 + 1, l5s0, l5i5 => (bif (!(l5s0 == ([] : List UInt8))) then (req (0 ≤ ((Nat.min l5s0.length 8 : Nat) : Int) ∧ ((Nat.min l5s0.length 8 : Nat) : Int) ≤ (l5s0.length : Int)) (opt (f__binary_littleEndian__Uint64 fu () (lA8u8 (cpA8u8 (A8u8.mk (0 : UInt8) (0 : UInt8) (0 : UInt8) (0 : UInt8) (0 : UInt8) (0 : UInt8) (0 : UInt8) (0 : UInt8)) l5s0))) fun (r13 : Int) => (opt (f_mix_Step fu l5i5 r13) fun (r15 : Int) => (f_mix_sum_L7 a1 kk2 fu k6 (l5s0.drop (((Nat.min l5s0.length 8 : Nat) : Int)).toNat) (bits .and .u64 r15 a1))))) else (kk2 l5i5))
def f_mix_sum (fu : Nat) (a0 : (List UInt8)) (a1 : Int) : Option Int := (lt (fun (j1i5 : Int) => (opt (f_mix_Step fu j1i5 (IntKind.u64.wrap (a0.length : Int))) fun (r4 : Int) => (some (bits .and .u64 r4 a1)))) fun (kk2 : Int → Option Int) => (f_mix_sum_L7 a1 kk2 fu fu a0 (0 : Int)))
set_option maxRecDepth 100000 in
theorem f_mix_sum_ok (fu : Nat) (a0 : (List UInt8)) (a1 : Int) {r : Int} (h : f_mix_sum fu a0 a1 = some r) : FnOk Tryd.prog 130 [(str a0), (Value.int .u64 a1)] [] [] (fun (i : Unit) => { val := (Value.int .u64 r) }) := by
  unfold f_mix_sum at h
  refine fn_enter Tryd.func130 rfl Tryd.ntmps130 rfl (fun w0 Z0 => ?_)
  refine aw_seq ?_
  refine aw_region ?_
  refine al_val (ov_assign rfl rfl) ?_
  refine al_nil ?_
  refine aq_then ?_
  refine aw_seq ?_
  refine aw_region ?_
  refine al_val (ov_move rfl rfl) ?_
  refine al_val (ov_strLen Tryd.underlying9 rfl rfl) ?_
  refine al_val (ov_convInt (by rw [Tryd.underlying3]; rfl) Tryd.underlying87 rfl rfl) ?_
  refine al_val (ov_assign rfl rfl) ?_
  refine al_val (ov_assign rfl rfl) ?_
  refine al_nil ?_
  refine aq_then ?_
  obtain ⟨kk2, hkk2, h⟩ := lt_some h
  refine aw_seq_join (ι := Int) (fun i => (memOf w0 Z0 [] [] [])) (fun i => (tab [(1, (Value.int .u64 a1)), (5, (Value.int .u64 i)), (6, (Value.int .u64 (IntKind.u64.wrap (a0.length : Int))))])) (fun i => kk2 i = some r) ?_ ?_
  · rintro j1i5 h
    have h : kk2 j1i5 = some r := h
    rw [hkk2] at h
    dsimp only at h
    clear hkk2
    refine aw_show (m := (memOf w0 Z0 [] [] [])) (S := (tab [(1, (Value.int .u64 a1)), (5, (Value.int .u64 j1i5)), (6, (Value.int .u64 (IntKind.u64.wrap (a0.length : Int))))])) ?_
    refine aw_seq ?_
    refine aw_region ?_
    refine al_val (ov_move rfl rfl) ?_
    refine al_val (ov_move rfl rfl) ?_
    obtain ⟨r4, hc3, h⟩ := opt_some h
    refine al_call (vs := [(Value.int .u64 j1i5), (Value.int .u64 (IntKind.u64.wrap (a0.length : Int)))]) (f_mix_Step_ok fu j1i5 (IntKind.u64.wrap (a0.length : Int)) hc3) [] [] [] pre_nil rfl (by simp) (by decide) (.inl rfl) rfl Tryd.func153 rfl rfl rfl (fun _ => ?_)
    refine al_val (ov_move rfl rfl) ?_
    refine al_val (ov_int rfl rfl rfl rfl) ?_
    refine al_val (ov_assign rfl rfl) ?_
    refine al_nil ?_
    refine aq_then ?_
    refine aw_ret ?_
    obtain rfl := Option.some.inj h
    exact fn_ret () [] [] rfl rfl rfl rfl (res1 rfl rfl) rfl rfl rfl (by decide)
  · clear hkk2
    refine aw_block ?_
    refine aw_state (aw_loop (ι := (List UInt8) × Int) (fun i => (memOf w0 Z0 [] [] [])) (fun i => (tab [(0, (str i.1)), (1, (Value.int .u64 a1)), (5, (Value.int .u64 i.2)), (6, (Value.int .u64 (IntKind.u64.wrap (a0.length : Int))))])) (fun q i => f_mix_sum_L7 a1 kk2 fu q i.1 i.2 = some r) ?_ fu (a0, (0 : Int)) h) (fun w a hm hs => norm hm hs [] [] [(0, (str a0)), (1, (Value.int .u64 a1)), (5, (Value.int .u64 (0 : Int))), (6, (Value.int .u64 (IntKind.u64.wrap (a0.length : Int))))] (by decide) ⟨rfl, rfl, rfl, rfl, trivial⟩)
    clear h
    rintro k6 ⟨l5s0, l5i5⟩ h
    have h : f_mix_sum_L7 a1 kk2 fu k6 l5s0 l5i5 = some r := h
    obtain _ | k6 := k6
    · rw [f_mix_sum_L7] at h; cases h
    rw [f_mix_sum_L7] at h
    refine aw_show (m := (memOf w0 Z0 [] [] [])) (S := (tab [(0, (str l5s0)), (1, (Value.int .u64 a1)), (5, (Value.int .u64 l5i5)), (6, (Value.int .u64 (IntKind.u64.wrap (a0.length : Int))))])) ?_
    refine aw_seq ?_
    refine aw_seq ?_
    refine aw_region ?_
    refine al_val (ov_move rfl rfl) ?_
    refine al_val (ov_strCmp rfl rfl rfl rfl) ?_
    refine al_nil ?_
    refine aq_then ?_
    refine aw_cond rfl (fun hb8 => ?_) (fun hb8 => ?_)
    · replace h := bif_t hb8 h
      refine aw_skip ?_
      refine aq_then ?_
      refine aw_block ?_
      refine aw_seq ?_
      refine aw_region ?_
      refine al_alloc (zs := (cA8u8 (A8u8.mk (0 : UInt8) (0 : UInt8) (0 : UInt8) (0 : UInt8) (0 : UInt8) (0 : UInt8) (0 : UInt8) (0 : UInt8)))) (zeroOf_to to48) rfl rfl (fun g9 => ?_)
      refine al_nil ?_
      refine aq_then ?_
      refine aw_seq ?_
      refine aw_region ?_
      refine al_val (ov_move rfl rfl) ?_
      refine al_val (ov_sliceBox (i := 0) rfl rfl Tryd.underlying48 sz5 rfl) ?_
      refine al_val (ov_move rfl rfl) ?_
      refine al_copyS (i := 0) (cs := (cA8u8 (A8u8.mk (0 : UInt8) (0 : UInt8) (0 : UInt8) (0 : UInt8) (0 : UInt8) (0 : UInt8) (0 : UInt8) (0 : UInt8)))) (cs' := (cA8u8 (cpA8u8 (A8u8.mk (0 : UInt8) (0 : UInt8) (0 : UInt8) (0 : UInt8) (0 : UInt8) (0 : UInt8) (0 : UInt8) (0 : UInt8)) l5s0))) rfl rfl rfl Tryd.underlying89 sz5 rfl (cpcA8u8 (A8u8.mk (0 : UInt8) (0 : UInt8) (0 : UInt8) (0 : UInt8) (0 : UInt8) (0 : UInt8) (0 : UInt8) (0 : UInt8)) l5s0 [] []) rfl ?_
      obtain ⟨hc10, h⟩ := req_some h
      refine al_val (ov_strFrom hc10.1 hc10.2 Tryd.underlying9 rfl rfl rfl) ?_
      refine al_val (ov_assign rfl rfl) ?_
      refine al_nil ?_
      refine aq_then ?_
      refine aw_freezeB 0 ((cpA8u8 (A8u8.mk (0 : UInt8) (0 : UInt8) (0 : UInt8) (0 : UInt8) (0 : UInt8) (0 : UInt8) (0 : UInt8) (0 : UInt8)) l5s0)) rfl rfl (fun _ _ => mkA8u8 rfl) ?_
      obtain ⟨r13, hc12, h⟩ := opt_some h
      obtain ⟨r15, hc14, h⟩ := opt_some h
      refine aw_region_draw 7 [(18, (fun u => fEq u (Value.int .u64 l5i5))), (19, (fun u => fEq u (ag []))), (20, (fun s11 => (fDat (tyList tyU8) [s11] (lA8u8 (cpA8u8 (A8u8.mk (0 : UInt8) (0 : UInt8) (0 : UInt8) (0 : UInt8) (0 : UInt8) (0 : UInt8) (0 : UInt8) (0 : UInt8)) l5s0))))), (21, (fun u => fEq u (Value.int .u64 r13))), (22, (fun u => fEq u (Value.int .u64 r15))), (23, (fun u => fEq u (Value.int .u64 a1))), (24, (fun u => fEq u (Value.int .u64 (bits .and .u64 r15 a1))))] (tab [(0, (str (l5s0.drop (((Nat.min l5s0.length 8 : Nat) : Int)).toNat))), (1, (Value.int .u64 a1)), (5, (Value.int .u64 l5i5)), (6, (Value.int .u64 (IntKind.u64.wrap (a0.length : Int)))), (7, (ptr g9 0))]) mixed (by kernel_rfl) rfl rfl rfl (fun a hs => hs.tab _ (allT_mem ⟨rfl, rfl, rfl, rfl, rfl, trivial⟩)) ⟨⟨rfl, ld_val (ov_move rfl rfl)⟩, ⟨rfl, ld_val (ov_load0 Tryd.underlying186 sz186 rfl rfl rfl)⟩, ⟨rfl, ld_of (of_sliceP 0 lrepA8u8 rfl rfl rfl rfl Tryd.underlying48 sz5 rfl)⟩, ⟨rfl, ld_eq (j := 1) rfl rfl (ld_fact (j := 2) rfl rfl (fun s11 => ld_callV (vs := [(ag []), s11]) (f__binary_littleEndian__Uint64_ok fu () s11 (lA8u8 (cpA8u8 (A8u8.mk (0 : UInt8) (0 : UInt8) (0 : UInt8) (0 : UInt8) (0 : UInt8) (0 : UInt8) (0 : UInt8) (0 : UInt8)) l5s0)) hc12) [] (pre_fz 0 rfl pre_nil) rfl Tryd.func154 rfl rfl rfl))⟩, ⟨rfl, ld_eq (j := 0) rfl rfl (ld_eq (j := 3) rfl rfl (ld_callV (vs := [(Value.int .u64 l5i5), (Value.int .u64 r13)]) (f_mix_Step_ok fu l5i5 r13 hc14) [] pre_nil rfl Tryd.func153 rfl rfl rfl))⟩, ⟨rfl, ld_val (ov_move rfl rfl)⟩, ⟨rfl, ld_eq (j := 4) rfl rfl (ld_eq (j := 5) rfl rfl (ld_val (ov_int rfl rfl rfl rfl)))⟩, trivial⟩ ?_
      refine tl_eq 6 rfl ?_
      refine tl_done ?_
      refine al_val (ov_assign rfl rfl) ?_
      refine al_nil ?_
      refine aq_block ?_
      exact aq_again k6 ((l5s0.drop (((Nat.min l5s0.length 8 : Nat) : Int)).toNat), (bits .and .u64 r15 a1)) (Nat.lt_succ_self _) h (fun w a hm hs => norm hm hs [] [] [(0, (str (l5s0.drop (((Nat.min l5s0.length 8 : Nat) : Int)).toNat))), (1, (Value.int .u64 a1)), (5, (Value.int .u64 (bits .and .u64 r15 a1))), (6, (Value.int .u64 (IntKind.u64.wrap (a0.length : Int))))] (by decide) ⟨rfl, rfl, rfl, rfl, trivial⟩)
    · replace h := bif_f hb8 h
      refine aw_exit ?_
      refine aq_then_exit ?_
      refine aq_then_exit ?_
      refine aq_block_exit ?_
      exact aq_join l5i5 h (fun w a hm hs => norm hm hs [] [] [(1, (Value.int .u64 a1)), (5, (Value.int .u64 l5i5)), (6, (Value.int .u64 (IntKind.u64.wrap (a0.length : Int))))] (by decide) ⟨rfl, rfl, rfl, trivial⟩)
def f_mix_Sum (fu : Nat) (a0 : (List UInt8)) : Option Int := (opt (f_mix_sum fu a0 (18446744073709551615 : Int)) fun (r2 : Int) => (some r2))
set_option maxRecDepth 100000 in
theorem f_mix_Sum_ok (fu : Nat) (a0 : (List UInt8)) {r : Int} (h : f_mix_Sum fu a0 = some r) : FnOk Tryd.prog 97 [(str a0)] [] [] (fun (i : Unit) => { val := (Value.int .u64 r) }) := by
  unfold f_mix_Sum at h
  refine fn_enter Tryd.func97 rfl Tryd.ntmps97 rfl (fun w0 Z0 => ?_)
  refine aw_seq ?_
  refine aw_region ?_
  refine al_val (ov_assign rfl rfl) ?_
  refine al_nil ?_
  refine aq_then ?_
  refine aw_seq ?_
  refine aw_region ?_
  refine al_val (ov_move rfl rfl) ?_
  obtain ⟨r2, hc1, h⟩ := opt_some h
  refine al_call (vs := [(str a0), (Value.int .u64 (18446744073709551615 : Int))]) (f_mix_sum_ok fu a0 (18446744073709551615 : Int) hc1) [] [] [] pre_nil rfl (by simp) (by decide) (.inl rfl) rfl Tryd.func130 rfl rfl rfl (fun _ => ?_)
  refine al_val (ov_assign rfl rfl) ?_
  refine al_nil ?_
  refine aq_then ?_
  refine aw_ret ?_
  obtain rfl := Option.some.inj h
  exact fn_ret () [] [] rfl rfl rfl rfl (res1 rfl rfl) rfl rfl rfl (by decide)
-- STUCK (encoding/binary.bigEndian).PutUint64: binary.go:210: store: store to ('o', 'p7')
def f_mix_ID (fu : Nat) (a0 : (List UInt8)) : Option A8u8 := (opt (f_mix_Sum fu a0) fun (r4 : Int) => (req (0 ≤ r4 ∧ r4 < 18446744073709551616) (some (cpA8u8 (A8u8.mk (0 : UInt8) (0 : UInt8) (0 : UInt8) (0 : UInt8) (0 : UInt8) (0 : UInt8) (0 : UInt8) (0 : UInt8)) (Lib.beBytes 8 (r4).toNat)))))
set_option maxRecDepth 100000 in
theorem f_mix_ID_ok (fu : Nat) (a0 : (List UInt8)) {r : A8u8} (h : f_mix_ID fu a0 = some r) : FnOk Tryd.prog 55 [(str a0)] [] [] (fun (i : Unit) => { val := (ag (cA8u8 r)) }) := by
  unfold f_mix_ID at h
  refine fn_enter Tryd.func55 rfl Tryd.ntmps55 rfl (fun w0 Z0 => ?_)
  refine aw_seq ?_
  refine aw_region ?_
  refine al_alloc (zs := (cA8u8 (A8u8.mk (0 : UInt8) (0 : UInt8) (0 : UInt8) (0 : UInt8) (0 : UInt8) (0 : UInt8) (0 : UInt8) (0 : UInt8)))) (zeroOf_to to49) rfl rfl (fun g1 => ?_)
  refine al_nil ?_
  refine aq_then ?_
  refine aw_seq ?_
  refine aw_region ?_
  refine al_alloc (zs := (cA8u8 (A8u8.mk (0 : UInt8) (0 : UInt8) (0 : UInt8) (0 : UInt8) (0 : UInt8) (0 : UInt8) (0 : UInt8) (0 : UInt8)))) (zeroOf_to to49) rfl rfl (fun g2 => ?_)
  refine al_nil ?_
  refine aq_then ?_
  refine aw_seq ?_
  obtain ⟨r4, hc3, h⟩ := opt_some h
  refine aw_region_draw 4 [(4, (fun u => fEq u (ag []))), (5, (fun u => fEq u (sbx g2 0 8))), (6, (fun u => fEq u (str a0))), (7, (fun u => fEq u (Value.int .u64 r4)))] (tab [(0, (str a0)), (2, (ptr g1 0)), (3, (ptr g2 0))]) mixed (by kernel_rfl) rfl rfl rfl (fun a hs => hs.tab _ (allT_mem ⟨rfl, rfl, rfl, trivial⟩)) ⟨⟨rfl, ld_val (ov_load0 Tryd.underlying128 sz128 rfl rfl rfl)⟩, ⟨rfl, ld_val (ov_sliceBox (i := 0) rfl rfl Tryd.underlying49 sz5 rfl)⟩, ⟨rfl, ld_val (ov_move rfl rfl)⟩, ⟨rfl, ld_eq (j := 2) rfl rfl (ld_callV (vs := [(str a0)]) (f_mix_Sum_ok fu a0 hc3) [] pre_nil rfl Tryd.func97 rfl rfl rfl)⟩, trivial⟩ ?_
  refine tl_eq 0 rfl ?_
  refine tl_eq 1 rfl ?_
  refine tl_eq 3 rfl ?_
  refine tl_done ?_
  obtain ⟨hc5, h⟩ := req_some h
  refine al_call (vs := [(ag []), (sbx g2 0 8), (Value.int .u64 r4)]) (f_put8_ok (g := g2) (off := 0) (t := 49) (a2 := r4) (cs := (cA8u8 (A8u8.mk (0 : UInt8) (0 : UInt8) (0 : UInt8) (0 : UInt8) (0 : UInt8) (0 : UInt8) (0 : UInt8) (0 : UInt8)))) (cs' := (cA8u8 (cpA8u8 (A8u8.mk (0 : UInt8) (0 : UInt8) (0 : UInt8) (0 : UInt8) (0 : UInt8) (0 : UInt8) (0 : UInt8) (0 : UInt8)) (Lib.beBytes 8 (r4).toNat)))) hc5 (Nat.le_of_ble_eq_true rfl) (cpcA8u8 (A8u8.mk (0 : UInt8) (0 : UInt8) (0 : UInt8) (0 : UInt8) (0 : UInt8) (0 : UInt8) (0 : UInt8) (0 : UInt8)) (Lib.beBytes 8 (r4).toNat) [] [])) [] [0] [1] pre_nil rfl (by simp) (by decide) (.inl rfl) rfl Tryd.func96 rfl rfl rfl (fun _ => ?_)
  refine al_nil ?_
  refine aq_then ?_
  refine aw_seq ?_
  refine aw_region ?_
  refine al_val (ov_load (i := 0) (v := (ag (cA8u8 (cpA8u8 (A8u8.mk (0 : UInt8) (0 : UInt8) (0 : UInt8) (0 : UInt8) (0 : UInt8) (0 : UInt8) (0 : UInt8) (0 : UInt8)) (Lib.beBytes 8 (r4).toNat))))) rfl rfl Tryd.underlying49 sz49 rfl rfl rfl rfl) ?_
  refine al_store (i := 1) (vs := (cA8u8 (cpA8u8 (A8u8.mk (0 : UInt8) (0 : UInt8) (0 : UInt8) (0 : UInt8) (0 : UInt8) (0 : UInt8) (0 : UInt8) (0 : UInt8)) (Lib.beBytes 8 (r4).toNat)))) (cs' := (cA8u8 (cpA8u8 (A8u8.mk (0 : UInt8) (0 : UInt8) (0 : UInt8) (0 : UInt8) (0 : UInt8) (0 : UInt8) (0 : UInt8) (0 : UInt8)) (Lib.beBytes 8 (r4).toNat)))) rfl rfl rfl sz49 (cv_rfl rfl) rfl (co_all (oneA8u8 (cpA8u8 (A8u8.mk (0 : UInt8) (0 : UInt8) (0 : UInt8) (0 : UInt8) (0 : UInt8) (0 : UInt8) (0 : UInt8) (0 : UInt8)) (Lib.beBytes 8 (r4).toNat)))) (Nat.le_of_ble_eq_true rfl) rfl rfl ?_
  refine al_nil ?_
  refine aq_then ?_
  refine aw_ret ?_
  obtain rfl := Option.some.inj h
  exact fn_ret () [] [] rfl rfl rfl rfl (resC rfl (resB (i := 1) rfl rfl Tryd.underlying49 sz49 rfl rfl rfl (resN)) rfl) rfl rfl rfl (by decide)
def f_line_Pack (fu : Nat) (a0 : S_api_Packet) : Option ((List UInt8) × Int) := (lt (fun (j2b8 : Bool) => (bif j2b8 then (some (([] : List UInt8), (5 : Int))) else (lt (fun (j5b17 : Bool) => (bif j5b17 then (some (([] : List UInt8), (1 : Int))) else (opt (f_num_PutText fu a0.Text) fun (r9 : ((List UInt8) × Int)) => (bif (r9.2 != (0 : Int)) then (some (([] : List UInt8), r9.2)) else (req (0 ≤ (IntKind.u8.wrap a0.Kind) ∧ (IntKind.u8.wrap a0.Kind) ≤ 255) (opt (f_num_Put fu (IntKind.u64.wrap a0.Seq)) fun (r14 : (List UInt8)) => (req (([(UInt8.ofNat ((IntKind.u8.wrap a0.Kind)).toNat)]).length + r14.length ≤ 9223372036854775807) (req ((([(UInt8.ofNat ((IntKind.u8.wrap a0.Kind)).toNat)]) ++ r14).length + r9.1.length ≤ 9223372036854775807) (opt (f_mix_ID fu ((([(UInt8.ofNat ((IntKind.u8.wrap a0.Kind)).toNat)]) ++ r14) ++ r9.1)) fun (r18 : A8u8) => (req (((([(UInt8.ofNat ((IntKind.u8.wrap a0.Kind)).toNat)]) ++ r14) ++ r9.1).length + (lA8u8 r18).length ≤ 9223372036854775807) (some ((((([(UInt8.ofNat ((IntKind.u8.wrap a0.Kind)).toNat)]) ++ r14) ++ r9.1) ++ (lA8u8 r18)), (0 : Int))))))))))))) fun (kk6 : Bool → Option ((List UInt8) × Int)) => (bif (decide (a0.Seq < (0 : Int))) then (kk6 true) else (bif (decide (a0.Seq > (2000 : Int))) then (kk6 true) else (bif (a0.Kind == (2 : Int)) then (kk6 (!(a0.Text == ([] : List UInt8)))) else (kk6 false))))))) fun (kk3 : Bool → Option ((List UInt8) × Int)) => (bif (a0.Kind != (1 : Int)) then (kk3 (a0.Kind != (2 : Int))) else (kk3 false)))
set_option maxRecDepth 100000 in
theorem f_line_Pack_ok (fu : Nat) (a0 : S_api_Packet) {r : ((List UInt8) × Int)} (h : f_line_Pack fu a0 = some r) : FnOk Tryd.prog 28 [(ag [(Value.int .i64 a0.Kind), (Value.int .i64 a0.Seq), (str a0.Text)])] [uMax] [] (fun (i : Unit) => { val := (Value.tuple #[(str r.1), (Value.int .i64 r.2)]) }) := by
  unfold f_line_Pack at h
  refine fn_enter Tryd.func28 rfl Tryd.ntmps28 rfl (fun w0 Z0 => ?_)
  refine aw_seq ?_
  refine aw_region ?_
  refine al_box (vs := [(Value.int .i64 a0.Kind), (Value.int .i64 a0.Seq), (str a0.Text)]) rfl (cv_rfl rfl) rfl (fun g1 => ?_)
  refine al_val (ov_assign rfl rfl) ?_
  refine al_val (ov_assign rfl rfl) ?_
  refine al_nil ?_
  refine aq_then ?_
  refine aw_seq ?_
  refine aw_block ?_
  obtain ⟨kk3, hkk3, h⟩ := lt_some h
  refine aw_seq_join (ι := Bool) (fun i => (memOf w0 Z0 [] [(oBox g1 52 [(Value.int .i64 a0.Kind), (Value.int .i64 a0.Seq), (str a0.Text)])] [uMax])) (fun i => (tab [(1, (ptr g1 0)), (8, (Value.bool i))])) (fun i => kk3 i = some r) ?_ ?_
  · rintro j2b8 h
    have h : kk3 j2b8 = some r := h
    rw [hkk3] at h
    dsimp only at h
    clear hkk3
    refine aw_show (m := (memOf w0 Z0 [] [(oBox g1 52 [(Value.int .i64 a0.Kind), (Value.int .i64 a0.Seq), (str a0.Text)])] [uMax])) (S := (tab [(1, (ptr g1 0)), (8, (Value.bool j2b8))])) ?_
    refine aw_cond rfl (fun hb4 => ?_) (fun hb4 => ?_)
    · replace h := bif_t hb4 h
      refine aw_seq ?_
      refine aw_region ?_
      refine al_val (ov_assign rfl rfl) ?_
      refine al_val (ov_assign rfl rfl) ?_
      refine al_nil ?_
      refine aq_then ?_
      refine aw_ret ?_
      refine aq_block_ret ?_
      refine aq_then_ret ?_
      obtain rfl := Option.some.inj h
      exact fn_ret () [] [] rfl rfl rfl rfl (res2 rfl rfl rfl) rfl rfl rfl (by decide)
    · replace h := bif_f hb4 h
      obtain ⟨kk6, hkk6, h⟩ := lt_some h
      refine aw_seq_join (ι := Bool) (fun i => (memOf w0 Z0 [] [(oBox g1 52 [(Value.int .i64 a0.Kind), (Value.int .i64 a0.Seq), (str a0.Text)])] [uMax])) (fun i => (tab [(1, (ptr g1 0)), (17, (Value.bool i))])) (fun i => kk6 i = some r) ?_ ?_
      · rintro j5b17 h
        have h : kk6 j5b17 = some r := h
        rw [hkk6] at h
        dsimp only at h
        clear hkk6
        refine aw_show (m := (memOf w0 Z0 [] [(oBox g1 52 [(Value.int .i64 a0.Kind), (Value.int .i64 a0.Seq), (str a0.Text)])] [uMax])) (S := (tab [(1, (ptr g1 0)), (17, (Value.bool j5b17))])) ?_
        refine aw_cond rfl (fun hb7 => ?_) (fun hb7 => ?_)
        · replace h := bif_t hb7 h
          refine aw_seq ?_
          refine aw_region ?_
          refine al_val (ov_assign rfl rfl) ?_
          refine al_val (ov_assign rfl rfl) ?_
          refine al_nil ?_
          refine aq_then ?_
          refine aw_ret ?_
          refine aq_block_ret ?_
          refine aq_then_ret ?_
          obtain rfl := Option.some.inj h
          exact fn_ret () [] [] rfl rfl rfl rfl (res2 rfl rfl rfl) rfl rfl rfl (by decide)
        · replace h := bif_f hb7 h
          refine aw_skip ?_
          refine aq_block ?_
          refine aq_then ?_
          refine aw_seq ?_
          refine aw_region ?_
          refine al_val (ov_fieldA (p := 2) rfl Tryd.underlying52 rfl sz9 rfl rfl rfl) ?_
          refine al_val (ov_load (i := 0) (v := (str a0.Text)) rfl rfl Tryd.underlying9 sz9 rfl rfl rfl rfl) ?_
          obtain ⟨r9, hc8, h⟩ := opt_some h
          refine al_call (vs := [(str a0.Text)]) (f_num_PutText_ok fu a0.Text hc8) [] [] [0] (pre_fz 0 rfl pre_nil) rfl (by simp) (by decide) (.inl rfl) rfl Tryd.func62 rfl rfl rfl (fun _ => ?_)
          refine al_val (ov_move rfl rfl) ?_
          refine al_val (ov_extract rfl rfl rfl) ?_
          refine al_val (ov_extract rfl rfl rfl) ?_
          refine al_val (ov_assign rfl rfl) ?_
          refine al_val (ov_assign rfl rfl) ?_
          refine al_nil ?_
          refine aq_then ?_
          refine aw_seq ?_
          refine aw_seq ?_
          refine aw_region ?_
          refine al_val (ov_move rfl rfl) ?_
          refine al_val (ov_int rfl rfl rfl rfl) ?_
          refine al_nil ?_
          refine aq_then ?_
          refine aw_cond rfl (fun hb10 => ?_) (fun hb10 => ?_)
          · replace h := bif_t hb10 h
            refine aw_seq ?_
            refine aw_region ?_
            refine al_val (ov_move rfl rfl) ?_
            refine al_val (ov_assign rfl rfl) ?_
            refine al_val (ov_assign rfl rfl) ?_
            refine al_nil ?_
            refine aq_then ?_
            refine aw_ret ?_
            refine aq_then_ret ?_
            obtain rfl := Option.some.inj h
            exact fn_ret () [] [] rfl rfl rfl rfl (res2 rfl rfl rfl) rfl rfl rfl (by decide)
          · replace h := bif_f hb10 h
            refine aw_skip ?_
            refine aq_then ?_
            refine aw_seq ?_
            obtain ⟨hc12, h⟩ := req_some h
            obtain ⟨r14, hc13, h⟩ := opt_some h
            obtain ⟨hc15, h⟩ := req_some h
            obtain ⟨hc16, h⟩ := req_some h
            refine aw_region_draw 12 [(45, (fun u => fEq u (ptr g1 0))), (46, (fun u => fEq u (Value.int .i64 a0.Kind))), (47, (fun u => fEq u (Value.int .u8 (IntKind.u8.wrap a0.Kind)))), (48, (fun v11 => (fDat (tyList tyU8) [v11] [(UInt8.ofNat ((IntKind.u8.wrap a0.Kind)).toNat)]))), (49, (fun u => fEq u (str [(UInt8.ofNat ((IntKind.u8.wrap a0.Kind)).toNat)]))), (50, (fun u => fEq u (ptr g1 1))), (51, (fun u => fEq u (Value.int .i64 a0.Seq))), (52, (fun u => fEq u (Value.int .u64 (IntKind.u64.wrap a0.Seq)))), (53, (fun u => fEq u (str r14))), (54, (fun u => fEq u (str (([(UInt8.ofNat ((IntKind.u8.wrap a0.Kind)).toNat)]) ++ r14)))), (55, (fun u => fEq u (str r9.1))), (56, (fun u => fEq u (str ((([(UInt8.ofNat ((IntKind.u8.wrap a0.Kind)).toNat)]) ++ r14) ++ r9.1))))] (tab [(1, (ptr g1 0)), (4, (str r9.1))]) mixed (by kernel_rfl) rfl rfl rfl (fun a hs => hs.tab _ (allT_mem ⟨rfl, rfl, trivial⟩)) ⟨⟨rfl, ld_val (ov_fieldA (p := 0) rfl Tryd.underlying52 rfl sz3 rfl rfl rfl)⟩, ⟨rfl, ld_eq (j := 0) rfl rfl (ld_val (ov_load (i := 0) (v := (Value.int .i64 a0.Kind)) rfl rfl Tryd.underlying3 sz3 rfl rfl rfl rfl))⟩, ⟨rfl, ld_eq (j := 1) rfl rfl (ld_val (ov_convInt (by rw [Tryd.underlying3]; rfl) Tryd.underlying5 rfl rfl))⟩, ⟨rfl, ld_eq (j := 2) rfl rfl (ld_buildSlice (τ := tyU8) (e := 5) (k := 1) (cs := [(Value.int .u8 (IntKind.u8.wrap a0.Kind))]) (xs := [(UInt8.ofNat ((IntKind.u8.wrap a0.Kind)).toNat)]) rfl (by decide) rfl (fun w a hm hs => ⟨([(Value.int .u8 (IntKind.u8.wrap a0.Kind))]).toArray, rfl, by simp only [List.map_toArray, List.map_cons, List.map_nil, hs.ev (x := .tmp 47) rfl]; exact run_bs [(Value.int .u8 (IntKind.u8.wrap a0.Kind))] [(Value.int .u8 (IntKind.u8.wrap a0.Kind))] Tryd.underlying89 to5 rfl rfl (bs_cons (l := [(Value.int .u8 (IntKind.u8.wrap a0.Kind))]) (cs := []) (cv_rfl rfl) rfl bs_nil) hm⟩) (fun hm => ⟨_, _, rfl, (fun _ => u8_rep hc12) hm, rfl⟩) rfl)⟩, ⟨rfl, ld_fact (j := 3) rfl rfl (fun v11 => ld_val (ov_toStr 0 rfl rfl Tryd.underlying89 Tryd.underlying5 Tryd.underlying9 rfl))⟩, ⟨rfl, ld_val (ov_fieldA (p := 1) rfl Tryd.underlying52 rfl sz3 rfl rfl rfl)⟩, ⟨rfl, ld_eq (j := 5) rfl rfl (ld_val (ov_load (i := 0) (v := (Value.int .i64 a0.Seq)) rfl rfl Tryd.underlying3 sz3 rfl rfl rfl rfl))⟩, ⟨rfl, ld_eq (j := 6) rfl rfl (ld_val (ov_convInt (by rw [Tryd.underlying3]; rfl) Tryd.underlying87 rfl rfl))⟩, ⟨rfl, ld_eq (j := 7) rfl rfl (ld_callV (vs := [(Value.int .u64 (IntKind.u64.wrap a0.Seq))]) (f_num_Put_ok fu (IntKind.u64.wrap a0.Seq) hc13) [] pre_nil rfl Tryd.func54 rfl rfl rfl)⟩, ⟨rfl, ld_eq (j := 4) rfl rfl (ld_eq (j := 8) rfl rfl (ld_val (ov_strAdd hc15 rfl rfl rfl)))⟩, ⟨rfl, ld_val (ov_move rfl rfl)⟩, ⟨rfl, ld_eq (j := 9) rfl rfl (ld_eq (j := 10) rfl rfl (ld_val (ov_strAdd hc16 rfl rfl rfl)))⟩, trivial⟩ ?_
            refine tl_eq 11 rfl ?_
            refine tl_done ?_
            refine al_val (ov_assign rfl rfl) ?_
            refine al_nil ?_
            refine aq_then ?_
            refine aw_seq ?_
            refine aw_region ?_
            refine al_val (ov_move rfl rfl) ?_
            obtain ⟨r18, hc17, h⟩ := opt_some h
            refine al_call (vs := [(str ((([(UInt8.ofNat ((IntKind.u8.wrap a0.Kind)).toNat)]) ++ r14) ++ r9.1))]) (f_mix_ID_ok fu ((([(UInt8.ofNat ((IntKind.u8.wrap a0.Kind)).toNat)]) ++ r14) ++ r9.1) hc17) [] [] [0] pre_nil rfl (by simp) (by decide) (.inl rfl) rfl Tryd.func55 rfl rfl rfl (fun _ => ?_)
            refine al_alloc (zs := (cA8u8 (A8u8.mk (0 : UInt8) (0 : UInt8) (0 : UInt8) (0 : UInt8) (0 : UInt8) (0 : UInt8) (0 : UInt8) (0 : UInt8)))) (zeroOf_to to49) rfl rfl (fun g19 => ?_)
            refine al_store (i := 0) (vs := (cA8u8 r18)) (cs' := (cA8u8 r18)) rfl rfl rfl sz49 (cv_rfl rfl) rfl (co_all (oneA8u8 r18)) (Nat.le_of_ble_eq_true rfl) rfl rfl ?_
            refine al_nil ?_
            refine aq_then ?_
            refine aw_seq ?_
            refine aw_freezeB 0 (r18) rfl rfl (fun _ _ => mkA8u8 rfl) ?_
            refine aw_region ?_
            refine al_val (ov_move rfl rfl) ?_
            refine al_of (of_sliceP 0 lrepA8u8 rfl rfl rfl rfl Tryd.underlying49 sz5 rfl) (fun s20 => ?_)
            refine al_val (ov_toStr 0 rfl rfl Tryd.underlying89 Tryd.underlying5 Tryd.underlying9 rfl) ?_
            obtain ⟨hc21, h⟩ := req_some h
            refine al_val (ov_strAdd hc21 rfl rfl rfl) ?_
            refine al_val (ov_assign rfl rfl) ?_
            refine al_val (ov_assign rfl rfl) ?_
            refine al_nil ?_
            refine aq_then ?_
            refine aw_ret ?_
            obtain rfl := Option.some.inj h
            exact fn_ret () [] [] rfl rfl rfl rfl (res2 rfl rfl rfl) rfl rfl rfl (by decide)
      · clear hkk6
        refine aw_region ?_
        refine al_val (ov_fieldA (p := 1) rfl Tryd.underlying52 rfl sz3 rfl rfl rfl) ?_
        refine al_val (ov_load (i := 0) (v := (Value.int .i64 a0.Seq)) rfl rfl Tryd.underlying3 sz3 rfl rfl rfl rfl) ?_
        refine al_val (ov_int rfl rfl rfl rfl) ?_
        refine al_val (ov_move rfl rfl) ?_
        refine al_caseB 21 rfl (fun hb22 => ?_) (fun hb22 => ?_)
        · replace h := bif_t hb22 h
          refine al_skip ?_
          refine al_skip ?_
          refine al_skip ?_
          refine al_val (ov_pick_t rfl rfl rfl) ?_
          refine al_val (ov_move rfl rfl) ?_
          refine al_skip ?_
          refine al_skip ?_
          refine al_skip ?_
          refine al_skip ?_
          refine al_skip ?_
          refine al_skip ?_
          refine al_skip ?_
          refine al_skip ?_
          refine al_val (ov_pick_t rfl rfl rfl) ?_
          refine al_val (ov_assign rfl rfl) ?_
          refine al_nil ?_
          exact aq_join true h (fun w a hm hs => norm hm hs [0] [0] [(1, (ptr g1 0)), (17, (Value.bool true))] (by decide) ⟨rfl, rfl, trivial⟩)
        · replace h := bif_f hb22 h
          refine al_val (ov_fieldA (p := 1) rfl Tryd.underlying52 rfl sz3 rfl rfl rfl) ?_
          refine al_val (ov_load (i := 0) (v := (Value.int .i64 a0.Seq)) rfl rfl Tryd.underlying3 sz3 rfl rfl rfl rfl) ?_
          refine al_val (ov_int rfl rfl rfl rfl) ?_
          refine al_val (ov_pick_f rfl rfl rfl) ?_
          refine al_val (ov_move rfl rfl) ?_
          refine al_caseB 26 rfl (fun hb23 => ?_) (fun hb23 => ?_)
          · replace h := bif_t hb23 h
            refine al_skip ?_
            refine al_skip ?_
            refine al_skip ?_
            refine al_skip ?_
            refine al_skip ?_
            refine al_skip ?_
            refine al_skip ?_
            refine al_skip ?_
            refine al_val (ov_pick_t rfl rfl rfl) ?_
            refine al_val (ov_assign rfl rfl) ?_
            refine al_nil ?_
            exact aq_join true h (fun w a hm hs => norm hm hs [0] [0] [(1, (ptr g1 0)), (17, (Value.bool true))] (by decide) ⟨rfl, rfl, trivial⟩)
          · replace h := bif_f hb23 h
            refine al_val (ov_fieldA (p := 0) rfl Tryd.underlying52 rfl sz3 rfl rfl rfl) ?_
            refine al_val (ov_load (i := 0) (v := (Value.int .i64 a0.Kind)) rfl rfl Tryd.underlying3 sz3 rfl rfl rfl rfl) ?_
            refine al_val (ov_int rfl rfl rfl rfl) ?_
            refine al_val (ov_move rfl rfl) ?_
            refine al_caseB 30 rfl (fun hb24 => ?_) (fun hb24 => ?_)
            · replace h := bif_t hb24 h
              refine al_val (ov_fieldA (p := 2) rfl Tryd.underlying52 rfl sz9 rfl rfl rfl) ?_
              refine al_val (ov_load (i := 0) (v := (str a0.Text)) rfl rfl Tryd.underlying9 sz9 rfl rfl rfl rfl) ?_
              refine al_val (ov_strCmp rfl rfl rfl rfl) ?_
              refine al_val (ov_pick_t rfl rfl rfl) ?_
              refine al_val (ov_pick_f rfl rfl rfl) ?_
              refine al_val (ov_assign rfl rfl) ?_
              refine al_nil ?_
              exact aq_join (!(a0.Text == ([] : List UInt8))) h (fun w a hm hs => norm hm hs [0] [0] [(1, (ptr g1 0)), (17, (Value.bool (!(a0.Text == ([] : List UInt8)))))] (by decide) ⟨rfl, rfl, trivial⟩)
            · replace h := bif_f hb24 h
              refine al_skip ?_
              refine al_skip ?_
              refine al_skip ?_
              refine al_val (ov_pick_f rfl rfl rfl) ?_
              refine al_val (ov_pick_f rfl rfl rfl) ?_
              refine al_val (ov_assign rfl rfl) ?_
              refine al_nil ?_
              exact aq_join false h (fun w a hm hs => norm hm hs [0] [0] [(1, (ptr g1 0)), (17, (Value.bool false))] (by decide) ⟨rfl, rfl, trivial⟩)
  · clear hkk3
    refine aw_region ?_
    refine al_val (ov_fieldA (p := 0) rfl Tryd.underlying52 rfl sz3 rfl rfl rfl) ?_
    refine al_val (ov_load (i := 0) (v := (Value.int .i64 a0.Kind)) rfl rfl Tryd.underlying3 sz3 rfl rfl rfl rfl) ?_
    refine al_val (ov_int rfl rfl rfl rfl) ?_
    refine al_val (ov_move rfl rfl) ?_
    refine al_caseB 12 rfl (fun hb25 => ?_) (fun hb25 => ?_)
    · replace h := bif_t hb25 h
      refine al_val (ov_fieldA (p := 0) rfl Tryd.underlying52 rfl sz3 rfl rfl rfl) ?_
      refine al_val (ov_load (i := 0) (v := (Value.int .i64 a0.Kind)) rfl rfl Tryd.underlying3 sz3 rfl rfl rfl rfl) ?_
      refine al_val (ov_int rfl rfl rfl rfl) ?_
      refine al_val (ov_pick_t rfl rfl rfl) ?_
      refine al_val (ov_assign rfl rfl) ?_
      refine al_nil ?_
      exact aq_join (a0.Kind != (2 : Int)) h (fun w a hm hs => norm hm hs [0] [0] [(1, (ptr g1 0)), (8, (Value.bool (a0.Kind != (2 : Int))))] (by decide) ⟨rfl, rfl, trivial⟩)
    · replace h := bif_f hb25 h
      refine al_skip ?_
      refine al_skip ?_
      refine al_skip ?_
      refine al_val (ov_pick_f rfl rfl rfl) ?_
      refine al_val (ov_assign rfl rfl) ?_
      refine al_nil ?_
      exact aq_join false h (fun w a hm hs => norm hm hs [0] [0] [(1, (ptr g1 0)), (8, (Value.bool false))] (by decide) ⟨rfl, rfl, trivial⟩)
def f_lumref_PutText (fu : Nat) (a0 : (List UInt8)) : Option ((List UInt8) × Int) := (bif (decide ((a0.length : Int) > (1024 : Int))) then (some (([] : List UInt8), (2 : Int))) else (opt (f_strings_ReplaceAll fu a0 ([0] : List UInt8) ([0, 255] : List UInt8)) fun (r3 : (List UInt8)) => (req (r3.length + ([0, 0] : List UInt8).length ≤ 9223372036854775807) (some ((r3 ++ ([0, 0] : List UInt8)), (0 : Int))))))
set_option maxRecDepth 100000 in
theorem f_lumref_PutText_ok (fu : Nat) (a0 : (List UInt8)) {r : ((List UInt8) × Int)} (h : f_lumref_PutText fu a0 = some r) : FnOk Tryd.prog 64 [(str a0)] [uMax] [] (fun (i : Unit) => { val := (Value.tuple #[(str r.1), (Value.int .i64 r.2)]) }) := by
  unfold f_lumref_PutText at h
  refine fn_enter Tryd.func64 rfl Tryd.ntmps64 rfl (fun w0 Z0 => ?_)
  refine aw_seq ?_
  refine aw_region ?_
  refine al_val (ov_assign rfl rfl) ?_
  refine al_val (ov_assign rfl rfl) ?_
  refine al_nil ?_
  refine aq_then ?_
  refine aw_seq ?_
  refine aw_seq ?_
  refine aw_region ?_
  refine al_val (ov_move rfl rfl) ?_
  refine al_val (ov_strLen Tryd.underlying9 rfl rfl) ?_
  refine al_val (ov_int rfl rfl rfl rfl) ?_
  refine al_nil ?_
  refine aq_then ?_
  refine aw_cond rfl (fun hb1 => ?_) (fun hb1 => ?_)
  · replace h := bif_t hb1 h
    refine aw_seq ?_
    refine aw_region ?_
    refine al_val (ov_assign rfl rfl) ?_
    refine al_val (ov_assign rfl rfl) ?_
    refine al_nil ?_
    refine aq_then ?_
    refine aw_ret ?_
    refine aq_then_ret ?_
    obtain rfl := Option.some.inj h
    exact fn_ret () [] [] rfl rfl rfl rfl (res2 rfl rfl rfl) rfl rfl rfl (by decide)
  · replace h := bif_f hb1 h
    refine aw_skip ?_
    refine aq_then ?_
    refine aw_seq ?_
    refine aw_region ?_
    refine al_val (ov_move rfl rfl) ?_
    obtain ⟨r3, hc2, h⟩ := opt_some h
    refine al_call (vs := [(str a0), (str ([0] : List UInt8)), (str ([0, 255] : List UInt8))]) (f_strings_ReplaceAll_ok fu a0 ([0] : List UInt8) ([0, 255] : List UInt8) hc2) [] [] [] (pre_fz 0 rfl pre_nil) rfl (by simp) (by decide) (.inl rfl) rfl Tryd.func104 rfl rfl rfl (fun _ => ?_)
    obtain ⟨hc4, h⟩ := req_some h
    refine al_val (ov_strAdd hc4 rfl rfl rfl) ?_
    refine al_val (ov_assign rfl rfl) ?_
    refine al_val (ov_assign rfl rfl) ?_
    refine al_nil ?_
    refine aq_then ?_
    refine aw_ret ?_
    obtain rfl := Option.some.inj h
    exact fn_ret () [] [] rfl rfl rfl rfl (res2 rfl rfl rfl) rfl rfl rfl (by decide)
def f_lumref_digits : Nat → Int → Option (List UInt8)
  | 0, _ => none
  | fu + 1, a0 => (bif (a0 == (0 : Int)) then (some ([] : List UInt8)) else (opt (f_lumref_digits fu (IntKind.u64.wrap ((a0).tdiv (256 : Int)))) fun (r3 : (List UInt8)) => (req (0 ≤ (IntKind.u8.wrap ((a0).tmod (256 : Int))) ∧ (IntKind.u8.wrap ((a0).tmod (256 : Int))) ≤ 255) (req (r3.length + ([(UInt8.ofNat ((IntKind.u8.wrap ((a0).tmod (256 : Int)))).toNat)]).length ≤ 9223372036854775807) (some (r3 ++ ([(UInt8.ofNat ((IntKind.u8.wrap ((a0).tmod (256 : Int)))).toNat)])))))))
set_option maxRecDepth 100000 in
theorem f_lumref_digits_ok (fu : Nat) (a0 : Int) {r : (List UInt8)} (h : f_lumref_digits fu a0 = some r) : FnOk Tryd.prog 98 [(Value.int .u64 a0)] [] [] (fun (i : Unit) => { val := (str r) }) := by
  cases fu with
  | zero => rw [f_lumref_digits] at h; cases h
  | succ fu =>
    rw [f_lumref_digits] at h
    refine fn_enter Tryd.func98 rfl Tryd.ntmps98 rfl (fun w0 Z0 => ?_)
    refine aw_seq ?_
    refine aw_region ?_
    refine al_val (ov_assign rfl rfl) ?_
    refine al_nil ?_
    refine aq_then ?_
    refine aw_seq ?_
    refine aw_seq ?_
    refine aw_region ?_
    refine al_val (ov_move rfl rfl) ?_
    refine al_val (ov_int rfl rfl rfl rfl) ?_
    refine al_nil ?_
    refine aq_then ?_
    refine aw_cond rfl (fun hb1 => ?_) (fun hb1 => ?_)
    · replace h := bif_t hb1 h
      refine aw_seq ?_
      refine aw_region ?_
      refine al_val (ov_assign rfl rfl) ?_
      refine al_nil ?_
      refine aq_then ?_
      refine aw_ret ?_
      refine aq_then_ret ?_
      obtain rfl := Option.some.inj h
      exact fn_ret () [] [] rfl rfl rfl rfl (res1 rfl rfl) rfl rfl rfl (by decide)
    · replace h := bif_f hb1 h
      refine aw_skip ?_
      refine aq_then ?_
      refine aw_seq ?_
      obtain ⟨r3, hc2, h⟩ := opt_some h
      obtain ⟨hc5, h⟩ := req_some h
      obtain ⟨hc6, h⟩ := req_some h
      refine aw_region_draw 9 [(5, (fun u => fEq u (Value.int .u64 a0))), (6, (fun u => fEq u (Value.int .u64 (IntKind.u64.wrap ((a0).tdiv (256 : Int)))))), (7, (fun u => fEq u (str r3))), (8, (fun u => fEq u (Value.int .u64 a0))), (9, (fun u => fEq u (Value.int .u64 ((a0).tmod (256 : Int))))), (10, (fun u => fEq u (Value.int .u8 (IntKind.u8.wrap ((a0).tmod (256 : Int)))))), (11, (fun v4 => (fDat (tyList tyU8) [v4] [(UInt8.ofNat ((IntKind.u8.wrap ((a0).tmod (256 : Int)))).toNat)]))), (12, (fun u => fEq u (str [(UInt8.ofNat ((IntKind.u8.wrap ((a0).tmod (256 : Int)))).toNat)]))), (13, (fun u => fEq u (str (r3 ++ ([(UInt8.ofNat ((IntKind.u8.wrap ((a0).tmod (256 : Int)))).toNat)])))))] (tab [(0, (Value.int .u64 a0)), (2, (str ([] : List UInt8)))]) mixed (by kernel_rfl) rfl rfl rfl (fun a hs => hs.tab _ (allT_mem ⟨rfl, rfl, trivial⟩)) ⟨⟨rfl, ld_val (ov_move rfl rfl)⟩, ⟨rfl, ld_eq (j := 0) rfl rfl (ld_val (ov_quo (by decide) rfl rfl rfl))⟩, ⟨rfl, ld_eq (j := 1) rfl rfl (ld_callV (vs := [(Value.int .u64 (IntKind.u64.wrap ((a0).tdiv (256 : Int))))]) (f_lumref_digits_ok fu (IntKind.u64.wrap ((a0).tdiv (256 : Int))) hc2) [] pre_nil rfl Tryd.func98 rfl rfl rfl)⟩, ⟨rfl, ld_val (ov_move rfl rfl)⟩, ⟨rfl, ld_eq (j := 3) rfl rfl (ld_val (ov_rem (by decide) rfl rfl rfl))⟩, ⟨rfl, ld_eq (j := 4) rfl rfl (ld_val (ov_convInt (by rw [Tryd.underlying87]; rfl) Tryd.underlying5 rfl rfl))⟩, ⟨rfl, ld_eq (j := 5) rfl rfl (ld_buildSlice (τ := tyU8) (e := 5) (k := 1) (cs := [(Value.int .u8 (IntKind.u8.wrap ((a0).tmod (256 : Int))))]) (xs := [(UInt8.ofNat ((IntKind.u8.wrap ((a0).tmod (256 : Int)))).toNat)]) rfl (by decide) rfl (fun w a hm hs => ⟨([(Value.int .u8 (IntKind.u8.wrap ((a0).tmod (256 : Int))))]).toArray, rfl, by simp only [List.map_toArray, List.map_cons, List.map_nil, hs.ev (x := .tmp 10) rfl]; exact run_bs [(Value.int .u8 (IntKind.u8.wrap ((a0).tmod (256 : Int))))] [(Value.int .u8 (IntKind.u8.wrap ((a0).tmod (256 : Int))))] Tryd.underlying89 to5 rfl rfl (bs_cons (l := [(Value.int .u8 (IntKind.u8.wrap ((a0).tmod (256 : Int))))]) (cs := []) (cv_rfl rfl) rfl bs_nil) hm⟩) (fun hm => ⟨_, _, rfl, (fun _ => u8_rep hc5) hm, rfl⟩) rfl)⟩, ⟨rfl, ld_fact (j := 6) rfl rfl (fun v4 => ld_val (ov_toStr 0 rfl rfl Tryd.underlying89 Tryd.underlying5 Tryd.underlying9 rfl))⟩, ⟨rfl, ld_eq (j := 2) rfl rfl (ld_eq (j := 7) rfl rfl (ld_val (ov_strAdd hc6 rfl rfl rfl)))⟩, trivial⟩ ?_
      refine tl_eq 8 rfl ?_
      refine tl_done ?_
      refine al_val (ov_assign rfl rfl) ?_
      refine al_nil ?_
      refine aq_then ?_
      refine aw_ret ?_
      obtain rfl := Option.some.inj h
      exact fn_ret () [] [] rfl rfl rfl rfl (res1 rfl rfl) rfl rfl rfl (by decide)
def f_lumref_Put (fu : Nat) (a0 : Int) : Option (List UInt8) := (opt (f_lumref_digits fu a0) fun (r2 : (List UInt8)) => (req (0 ≤ (IntKind.u8.wrap (r2.length : Int)) ∧ (IntKind.u8.wrap (r2.length : Int)) ≤ 255) (req (([(UInt8.ofNat ((IntKind.u8.wrap (r2.length : Int))).toNat)]).length + r2.length ≤ 9223372036854775807) (some (([(UInt8.ofNat ((IntKind.u8.wrap (r2.length : Int))).toNat)]) ++ r2)))))
set_option maxRecDepth 100000 in
theorem f_lumref_Put_ok (fu : Nat) (a0 : Int) {r : (List UInt8)} (h : f_lumref_Put fu a0 = some r) : FnOk Tryd.prog 56 [(Value.int .u64 a0)] [] [] (fun (i : Unit) => { val := (str r) }) := by
  unfold f_lumref_Put at h
  refine fn_enter Tryd.func56 rfl Tryd.ntmps56 rfl (fun w0 Z0 => ?_)
  refine aw_seq ?_
  refine aw_region ?_
  refine al_val (ov_assign rfl rfl) ?_
  refine al_nil ?_
  refine aq_then ?_
  refine aw_seq ?_
  refine aw_region ?_
  refine al_val (ov_move rfl rfl) ?_
  obtain ⟨r2, hc1, h⟩ := opt_some h
  refine al_call (vs := [(Value.int .u64 a0)]) (f_lumref_digits_ok fu a0 hc1) [] [] [] pre_nil rfl (by simp) (by decide) (.inl rfl) rfl Tryd.func98 rfl rfl rfl (fun _ => ?_)
  refine al_val (ov_assign rfl rfl) ?_
  refine al_nil ?_
  refine aq_then ?_
  refine aw_seq ?_
  refine aw_region ?_
  refine al_val (ov_move rfl rfl) ?_
  refine al_val (ov_strLen Tryd.underlying9 rfl rfl) ?_
  refine al_val (ov_convInt (by rw [Tryd.underlying3]; rfl) Tryd.underlying5 rfl rfl) ?_
  obtain ⟨hc4, h⟩ := req_some h
  refine al_buildSlice (τ := tyU8) (e := 5) (k := 1) (sz := 0) (by_ := 0) (z := undef) (cs := [(Value.int .u8 (IntKind.u8.wrap (r2.length : Int)))]) (xs := [(UInt8.ofNat ((IntKind.u8.wrap (r2.length : Int))).toNat)]) rfl (by decide) (fun w a hm hs => ⟨([(Value.int .u8 (IntKind.u8.wrap (r2.length : Int)))]).toArray, rfl, by simp only [List.map_toArray, List.map_cons, List.map_nil, hs.ev (x := .tmp 8) rfl]; exact run_bs [(Value.int .u8 (IntKind.u8.wrap (r2.length : Int)))] [(Value.int .u8 (IntKind.u8.wrap (r2.length : Int)))] Tryd.underlying89 to5 rfl rfl (bs_cons (l := [(Value.int .u8 (IntKind.u8.wrap (r2.length : Int)))]) (cs := []) (cv_rfl rfl) rfl bs_nil) hm⟩) (fun hm => ⟨_, _, rfl, (fun _ => u8_rep hc4) hm, rfl⟩) rfl (fun v3 => ?_)
  refine al_val (ov_toStrR 0 rfl rfl Tryd.underlying89 Tryd.underlying5 Tryd.underlying9 rfl) ?_
  refine al_val (ov_move rfl rfl) ?_
  obtain ⟨hc5, h⟩ := req_some h
  refine al_val (ov_strAdd hc5 rfl rfl rfl) ?_
  refine al_val (ov_assign rfl rfl) ?_
  refine al_nil ?_
  refine aq_then ?_
  refine aw_ret ?_
  obtain rfl := Option.some.inj h
  exact fn_ret () [] [] rfl rfl rfl rfl (res1 rfl rfl) rfl rfl rfl (by decide)
def f_lumref_Narrow_1 (fu : Nat) (a0 : Int) (a1 : Int) : Option Int := (bif (a1 == (64 : Int)) then (some a0) else (req (0 ≤ a1) (req ((IntKind.u64.wrap ((1 : Int) * 2 ^ min (a1).toNat (IntKind.bits .u64))) ≠ 0) (some ((a0).tmod (IntKind.u64.wrap ((1 : Int) * 2 ^ min (a1).toNat (IntKind.bits .u64))))))))
set_option maxRecDepth 100000 in
theorem f_lumref_Narrow_1_ok (fu : Nat) (a0 : Int) (c1 : Value) (a1 : Int) {r : Int} (h : f_lumref_Narrow_1 fu a0 a1 = some r) : FnOk Tryd.prog 132 [(Value.int .u64 a0), c1] [(fPtr (tyInt .i64) c1 a1)] [] (fun (i : Unit) => { val := (Value.int .u64 r) }) := by
  unfold f_lumref_Narrow_1 at h
  refine fn_enter Tryd.func132 rfl Tryd.ntmps132 rfl (fun w0 Z0 => ?_)
  refine aw_seq ?_
  refine aw_region ?_
  refine al_val (ov_assign rfl rfl) ?_
  refine al_nil ?_
  refine aq_then ?_
  refine aw_seq ?_
  refine aw_seq ?_
  refine aw_region ?_
  refine al_val (ov_loadP (ds := [(Value.int .i64 a1)]) 0 rfl (fun h => h) rfl Tryd.underlying3 sz3 rfl rfl rfl) ?_
  refine al_val (ov_int rfl rfl rfl rfl) ?_
  refine al_nil ?_
  refine aq_then ?_
  refine aw_cond rfl (fun hb1 => ?_) (fun hb1 => ?_)
  · replace h := bif_t hb1 h
    refine aw_seq ?_
    refine aw_region ?_
    refine al_val (ov_move rfl rfl) ?_
    refine al_val (ov_assign rfl rfl) ?_
    refine al_nil ?_
    refine aq_then ?_
    refine aw_ret ?_
    refine aq_then_ret ?_
    obtain rfl := Option.some.inj h
    exact fn_ret () [] [] rfl rfl rfl rfl (res1 rfl rfl) rfl rfl rfl (by decide)
  · replace h := bif_f hb1 h
    refine aw_skip ?_
    refine aq_then ?_
    refine aw_seq ?_
    refine aw_region ?_
    refine al_val (ov_move rfl rfl) ?_
    refine al_val (ov_loadP (ds := [(Value.int .i64 a1)]) 0 rfl (fun h => h) rfl Tryd.underlying3 sz3 rfl rfl rfl) ?_
    obtain ⟨hc2, h⟩ := req_some h
    refine al_val (ov_shl hc2 rfl rfl rfl) ?_
    obtain ⟨hc3, h⟩ := req_some h
    refine al_val (ov_rem hc3 rfl rfl rfl) ?_
    refine al_val (ov_assign rfl rfl) ?_
    refine al_nil ?_
    refine aq_then ?_
    refine aw_ret ?_
    obtain rfl := Option.some.inj h
    exact fn_ret () [] [] rfl rfl rfl rfl (res1 rfl rfl) rfl rfl rfl (by decide)
def f_strings_Repeat (fu : Nat) (a0 : List UInt8) (a1 : Int) : Option (List UInt8) := req (0 ≤ a1 ∧ a1 ≤ 9223372036854775807 ∧ a0.length * a1.toNat ≤ 140737488355328) (some (Lib.repeatL a0 a1.toNat))
theorem f_strings_Repeat_ok (fu : Nat) (a0 : List UInt8) (a1 : Int) {r : List UInt8} (h : f_strings_Repeat fu a0 a1 = some r) : FnOk Tryd.prog 131 [(str a0), (Value.int .i64 a1)] [] [] (fun (i : Unit) => { val := (str r) }) := by
  unfold f_strings_Repeat at h
  obtain ⟨hc, h⟩ := req_some h
  obtain rfl := Option.some.inj h
  obtain ⟨n, rfl⟩ : ∃ n : Nat, a1 = n := ⟨a1.toNat, by omega⟩
  refine fnok_pure fun w => ?_
  exact (Tryd.strings_Repeat ⟨a0.toArray⟩ n w (by omega) (by simpa [ByteArray.size] using hc.2.2)).mono fun e w' h9 => by simpa [str] using h9
def f_lumref_product_L5 (a0 : Int) (a1 : Int) (kk2 : (Int → Option Int)) : Nat → Int → Int → Option Int
  | 0, _, _ => none
  | k4 + 1, l3i5, l3i7 => (bif (decide (l3i7 < (64 : Int))) then (lt (fun (j7i5 : Int) => (f_lumref_product_L5 a0 a1 kk2 k4 j7i5 (IntKind.i64.wrap (l3i7 + (1 : Int))))) fun (kk8 : Int → Option Int) => (req (0 ≤ l3i7) (bif ((bits .and .u64 ((a1).fdiv (2 ^ min (l3i7).toNat (IntKind.bits .u64))) (1 : Int)) == (1 : Int)) then (req (0 ≤ l3i7) (kk8 (IntKind.u64.wrap (l3i5 + (IntKind.u64.wrap (a0 * 2 ^ min (l3i7).toNat (IntKind.bits .u64))))))) else (kk8 l3i5)))) else (kk2 l3i5))
def f_lumref_product (fu : Nat) (a0 : Int) (a1 : Int) : Option Int := (lt (fun (j1i5 : Int) => (some j1i5)) fun (kk2 : Int → Option Int) => (f_lumref_product_L5 a0 a1 kk2 fu (0 : Int) (0 : Int)))
set_option maxRecDepth 100000 in
theorem f_lumref_product_ok (fu : Nat) (a0 : Int) (a1 : Int) {r : Int} (h : f_lumref_product fu a0 a1 = some r) : FnOk Tryd.prog 157 [(Value.int .u64 a0), (Value.int .u64 a1)] [] [] (fun (i : Unit) => { val := (Value.int .u64 r) }) := by
  unfold f_lumref_product at h
  refine fn_enter Tryd.func157 rfl Tryd.ntmps157 rfl (fun w0 Z0 => ?_)
  refine aw_seq ?_
  refine aw_region ?_
  refine al_val (ov_assign rfl rfl) ?_
  refine al_nil ?_
  refine aq_then ?_
  refine aw_seq ?_
  refine aw_region ?_
  refine al_val (ov_assign rfl rfl) ?_
  refine al_nil ?_
  refine aq_then ?_
  obtain ⟨kk2, hkk2, h⟩ := lt_some h
  refine aw_seq_join (ι := Int) (fun i => (memOf w0 Z0 [] [] [])) (fun i => (tab [(5, (Value.int .u64 i))])) (fun i => kk2 i = some r) ?_ ?_
  · rintro j1i5 h
    have h : kk2 j1i5 = some r := h
    rw [hkk2] at h
    dsimp only at h
    clear hkk2
    refine aw_show (m := (memOf w0 Z0 [] [] [])) (S := (tab [(5, (Value.int .u64 j1i5))])) ?_
    refine aw_seq ?_
    refine aw_region ?_
    refine al_val (ov_move rfl rfl) ?_
    refine al_val (ov_assign rfl rfl) ?_
    refine al_nil ?_
    refine aq_then ?_
    refine aw_ret ?_
    obtain rfl := Option.some.inj h
    exact fn_ret () [] [] rfl rfl rfl rfl (res1 rfl rfl) rfl rfl rfl (by decide)
  · clear hkk2
    refine aw_seq ?_
    refine aw_region ?_
    refine al_val (ov_move rfl rfl) ?_
    refine al_nil ?_
    refine aq_then ?_
    refine aw_block ?_
    refine aw_state (aw_loop (ι := Int × Int) (fun i => (memOf w0 Z0 [] [] [])) (fun i => (tab [(0, (Value.int .u64 a0)), (1, (Value.int .u64 a1)), (5, (Value.int .u64 i.1)), (7, (Value.int .i64 i.2))])) (fun q i => f_lumref_product_L5 a0 a1 kk2 q i.1 i.2 = some r) ?_ fu ((0 : Int), (0 : Int)) h) (fun w a hm hs => norm hm hs [] [] [(0, (Value.int .u64 a0)), (1, (Value.int .u64 a1)), (5, (Value.int .u64 (0 : Int))), (7, (Value.int .i64 (0 : Int)))] (by decide) ⟨rfl, rfl, rfl, rfl, trivial⟩)
    clear h
    rintro k4 ⟨l3i5, l3i7⟩ h
    have h : f_lumref_product_L5 a0 a1 kk2 k4 l3i5 l3i7 = some r := h
    obtain _ | k4 := k4
    · rw [f_lumref_product_L5] at h; cases h
    rw [f_lumref_product_L5] at h
    refine aw_show (m := (memOf w0 Z0 [] [] [])) (S := (tab [(0, (Value.int .u64 a0)), (1, (Value.int .u64 a1)), (5, (Value.int .u64 l3i5)), (7, (Value.int .i64 l3i7))])) ?_
    refine aw_seq ?_
    refine aw_region ?_
    refine al_val (ov_int rfl rfl rfl rfl) ?_
    refine al_nil ?_
    refine aq_then ?_
    refine aw_seq ?_
    refine aw_cond rfl (fun hb6 => ?_) (fun hb6 => ?_)
    · replace h := bif_t hb6 h
      refine aw_skip ?_
      refine aq_then ?_
      obtain ⟨kk8, hkk8, h⟩ := lt_some h
      refine aw_seq_join (ι := Int) (fun i => (memOf w0 Z0 [] [] [])) (fun i => (tab [(0, (Value.int .u64 a0)), (1, (Value.int .u64 a1)), (5, (Value.int .u64 i)), (7, (Value.int .i64 l3i7))])) (fun i => kk8 i = some r) ?_ ?_
      · rintro j7i5 h
        have h : kk8 j7i5 = some r := h
        rw [hkk8] at h
        dsimp only at h
        clear hkk8
        refine aw_show (m := (memOf w0 Z0 [] [] [])) (S := (tab [(0, (Value.int .u64 a0)), (1, (Value.int .u64 a1)), (5, (Value.int .u64 j7i5)), (7, (Value.int .i64 l3i7))])) ?_
        refine aw_region ?_
        refine al_val (ov_int rfl rfl rfl rfl) ?_
        refine al_val (ov_move rfl rfl) ?_
        refine al_nil ?_
        exact aq_again k4 (j7i5, (IntKind.i64.wrap (l3i7 + (1 : Int)))) (Nat.lt_succ_self _) h (fun w a hm hs => norm hm hs [] [] [(0, (Value.int .u64 a0)), (1, (Value.int .u64 a1)), (5, (Value.int .u64 j7i5)), (7, (Value.int .i64 (IntKind.i64.wrap (l3i7 + (1 : Int)))))] (by decide) ⟨rfl, rfl, rfl, rfl, trivial⟩)
      · clear hkk8
        refine aw_block ?_
        refine aw_seq ?_
        refine aw_region ?_
        refine al_val (ov_move rfl rfl) ?_
        refine al_val (ov_assign rfl rfl) ?_
        refine al_nil ?_
        refine aq_then ?_
        refine aw_seq ?_
        refine aw_region ?_
        refine al_val (ov_move rfl rfl) ?_
        refine al_val (ov_move rfl rfl) ?_
        obtain ⟨hc9, h⟩ := req_some h
        refine al_val (ov_shr hc9 rfl rfl rfl) ?_
        refine al_val (ov_int rfl rfl rfl rfl) ?_
        refine al_val (ov_int rfl rfl rfl rfl) ?_
        refine al_nil ?_
        refine aq_then ?_
        refine aw_cond rfl (fun hb10 => ?_) (fun hb10 => ?_)
        · replace h := bif_t hb10 h
          refine aw_region ?_
          refine al_val (ov_move rfl rfl) ?_
          refine al_val (ov_move rfl rfl) ?_
          refine al_val (ov_move rfl rfl) ?_
          obtain ⟨hc11, h⟩ := req_some h
          refine al_val (ov_shl hc11 rfl rfl rfl) ?_
          refine al_val (ov_int rfl rfl rfl rfl) ?_
          refine al_val (ov_assign rfl rfl) ?_
          refine al_nil ?_
          refine aq_block ?_
          exact aq_join (IntKind.u64.wrap (l3i5 + (IntKind.u64.wrap (a0 * 2 ^ min (l3i7).toNat (IntKind.bits .u64))))) h (fun w a hm hs => norm hm hs [] [] [(0, (Value.int .u64 a0)), (1, (Value.int .u64 a1)), (5, (Value.int .u64 (IntKind.u64.wrap (l3i5 + (IntKind.u64.wrap (a0 * 2 ^ min (l3i7).toNat (IntKind.bits .u64))))))), (7, (Value.int .i64 l3i7))] (by decide) ⟨rfl, rfl, rfl, rfl, trivial⟩)
        · replace h := bif_f hb10 h
          refine aw_skip ?_
          refine aq_block ?_
          exact aq_join l3i5 h (fun w a hm hs => norm hm hs [] [] [(0, (Value.int .u64 a0)), (1, (Value.int .u64 a1)), (5, (Value.int .u64 l3i5)), (7, (Value.int .i64 l3i7))] (by decide) ⟨rfl, rfl, rfl, rfl, trivial⟩)
    · replace h := bif_f hb6 h
      refine aw_exit ?_
      refine aq_then_exit ?_
      refine aq_then_exit ?_
      refine aq_block_exit ?_
      exact aq_join l3i5 h (fun w a hm hs => norm hm hs [] [] [(5, (Value.int .u64 l3i5))] (by decide) ⟨rfl, trivial⟩)
def f_lumref_Step (fu : Nat) (a0 : Int) (a1 : Int) : Option Int := (opt (f_lumref_product fu (bits .xor .u64 a0 a1) (11400714819323198485 : Int)) fun (r2 : Int) => (opt (f_lumref_product fu (bits .xor .u64 r2 (IntKind.u64.wrap ((r2).tdiv (536870912 : Int)))) (13787848793156543929 : Int)) fun (r4 : Int) => (some (bits .xor .u64 r4 (IntKind.u64.wrap ((r4).tdiv (4294967296 : Int)))))))
set_option maxRecDepth 100000 in
theorem f_lumref_Step_ok (fu : Nat) (a0 : Int) (a1 : Int) {r : Int} (h : f_lumref_Step fu a0 a1 = some r) : FnOk Tryd.prog 133 [(Value.int .u64 a0), (Value.int .u64 a1)] [] [] (fun (i : Unit) => { val := (Value.int .u64 r) }) := by
  unfold f_lumref_Step at h
  refine fn_enter Tryd.func133 rfl Tryd.ntmps133 rfl (fun w0 Z0 => ?_)
  refine aw_seq ?_
  refine aw_region ?_
  refine al_val (ov_assign rfl rfl) ?_
  refine al_nil ?_
  refine aq_then ?_
  refine aw_seq ?_
  refine aw_region ?_
  refine al_val (ov_move rfl rfl) ?_
  refine al_val (ov_move rfl rfl) ?_
  refine al_val (ov_int rfl rfl rfl rfl) ?_
  obtain ⟨r2, hc1, h⟩ := opt_some h
  refine al_call (vs := [(Value.int .u64 (bits .xor .u64 a0 a1)), (Value.int .u64 (11400714819323198485 : Int))]) (f_lumref_product_ok fu (bits .xor .u64 a0 a1) (11400714819323198485 : Int) hc1) [] [] [] pre_nil rfl (by simp) (by decide) (.inl rfl) rfl Tryd.func157 rfl rfl rfl (fun _ => ?_)
  refine al_val (ov_assign rfl rfl) ?_
  refine al_nil ?_
  refine aq_then ?_
  refine aw_seq ?_
  refine aw_region ?_
  refine al_val (ov_move rfl rfl) ?_
  refine al_val (ov_move rfl rfl) ?_
  refine al_val (ov_quo (by decide) rfl rfl rfl) ?_
  refine al_val (ov_int rfl rfl rfl rfl) ?_
  refine al_val (ov_assign rfl rfl) ?_
  refine al_nil ?_
  refine aq_then ?_
  refine aw_seq ?_
  refine aw_region ?_
  refine al_val (ov_move rfl rfl) ?_
  obtain ⟨r4, hc3, h⟩ := opt_some h
  refine al_call (vs := [(Value.int .u64 (bits .xor .u64 r2 (IntKind.u64.wrap ((r2).tdiv (536870912 : Int))))), (Value.int .u64 (13787848793156543929 : Int))]) (f_lumref_product_ok fu (bits .xor .u64 r2 (IntKind.u64.wrap ((r2).tdiv (536870912 : Int)))) (13787848793156543929 : Int) hc3) [] [] [] pre_nil rfl (by simp) (by decide) (.inl rfl) rfl Tryd.func157 rfl rfl rfl (fun _ => ?_)
  refine al_val (ov_assign rfl rfl) ?_
  refine al_nil ?_
  refine aq_then ?_
  refine aw_seq ?_
  refine aw_region ?_
  refine al_val (ov_move rfl rfl) ?_
  refine al_val (ov_move rfl rfl) ?_
  refine al_val (ov_quo (by decide) rfl rfl rfl) ?_
  refine al_val (ov_int rfl rfl rfl rfl) ?_
  refine al_val (ov_assign rfl rfl) ?_
  refine al_nil ?_
  refine aq_then ?_
  refine aw_ret ?_
  obtain rfl := Option.some.inj h
  exact fn_ret () [] [] rfl rfl rfl rfl (res1 rfl rfl) rfl rfl rfl (by decide)
def f_lumref_Narrow_L27 (l11s7 : (List UInt8)) (kk20 : (Int → Option Int)) : Nat → Int → Int → Option Int
  | 0, _, _ => none
  | k26 + 1, l25i8, l25i9 => (bif (decide (l25i9 ≥ (0 : Int))) then (req (0 ≤ l25i9 ∧ l25i9 < (l11s7.length : Int)) (f_lumref_Narrow_L27 l11s7 kk20 k26 (IntKind.u64.wrap ((IntKind.u64.wrap ((256 : Int) * l25i8)) + (IntKind.u64.wrap (En.bAt l11s7 l25i9)))) (IntKind.i64.wrap (l25i9 - (1 : Int))))) else (kk20 l25i8))
def f_lumref_Narrow_L13 (a0 : Int) (kk6 : (Int → Option Int)) (fu : Nat) : Nat → Int → (List UInt8) → Option Int
  | 0, _, _ => none
  | k12 + 1, l11i5, l11s7 => (lt (fun (l11i5 : Int) (l11s7 : (List UInt8)) => (f_lumref_Narrow_L13 a0 kk6 fu k12 l11i5 l11s7)) fun (kk14 : Int → (List UInt8) → Option Int) => (bif (!(l11s7 == ([] : List UInt8))) then (lt (fun (j16i5 : Int) => (req (0 ≤ (8 : Int) ∧ (8 : Int) ≤ (l11s7.length : Int)) (kk14 j16i5 (l11s7.drop ((8 : Int)).toNat)))) fun (kk17 : Int → Option Int) => (lt (fun (j19i8 : Int) => (opt (f_lumref_Step fu l11i5 j19i8) fun (r22 : Int) => (opt (f_lumref_Narrow_1 fu r22 a0) fun (r24 : Int) => (kk17 r24)))) fun (kk20 : Int → Option Int) => (f_lumref_Narrow_L27 l11s7 kk20 fu (0 : Int) (7 : Int)))) else (kk6 l11i5)))
def f_lumref_Narrow (fu : Nat) (a0 : Int) (a1 : (List UInt8)) : Option Int := (opt (f_strings_Repeat fu ([0] : List UInt8) (((IntKind.i64.wrap ((8 : Int) - (((a1.length : Int)).tmod (8 : Int))))).tmod (8 : Int))) fun (r3 : (List UInt8)) => (req (a1.length + r3.length ≤ 9223372036854775807) (lt (fun (j5i5 : Int) => (opt (f_lumref_Step fu j5i5 (IntKind.u64.wrap (a1.length : Int))) fun (r8 : Int) => (opt (f_lumref_Narrow_1 fu r8 a0) fun (r10 : Int) => (some r10)))) fun (kk6 : Int → Option Int) => (f_lumref_Narrow_L13 a0 kk6 fu fu (0 : Int) (a1 ++ r3)))))
set_option maxRecDepth 100000 in
theorem f_lumref_Narrow_ok (fu : Nat) (a0 : Int) (a1 : (List UInt8)) {r : Int} (h : f_lumref_Narrow fu a0 a1 = some r) : FnOk Tryd.prog 100 [(Value.int .i64 a0), (str a1)] [] [] (fun (i : Unit) => { val := (Value.int .u64 r) }) := by
  unfold f_lumref_Narrow at h
  refine fn_enter Tryd.func100 rfl Tryd.ntmps100 rfl (fun w0 Z0 => ?_)
  refine aw_seq ?_
  refine aw_region ?_
  refine al_box (vs := [(Value.int .i64 a0)]) rfl (cv_rfl rfl) rfl (fun g1 => ?_)
  refine al_val (ov_assign rfl rfl) ?_
  refine al_nil ?_
  refine aq_then ?_
  refine aw_seq ?_
  refine aw_region ?_
  refine al_val (ov_assign rfl rfl) ?_
  refine al_nil ?_
  refine aq_then ?_
  refine aw_seq ?_
  refine aw_region ?_
  refine al_val (ov_makeFunc2 (vs := [(ptr g1 0)]) rfl rfl) ?_
  refine al_val (ov_assign rfl rfl) ?_
  refine al_nil ?_
  refine aq_then ?_
  refine aw_seq ?_
  refine aw_region ?_
  refine al_val (ov_move rfl rfl) ?_
  refine al_val (ov_move rfl rfl) ?_
  refine al_val (ov_strLen Tryd.underlying9 rfl rfl) ?_
  refine al_val (ov_rem (by decide) rfl rfl rfl) ?_
  refine al_val (ov_int rfl rfl rfl rfl) ?_
  refine al_val (ov_rem (by decide) rfl rfl rfl) ?_
  obtain ⟨r3, hc2, h⟩ := opt_some h
  refine al_call (vs := [(str ([0] : List UInt8)), (Value.int .i64 (((IntKind.i64.wrap ((8 : Int) - (((a1.length : Int)).tmod (8 : Int))))).tmod (8 : Int)))]) (f_strings_Repeat_ok fu ([0] : List UInt8) (((IntKind.i64.wrap ((8 : Int) - (((a1.length : Int)).tmod (8 : Int))))).tmod (8 : Int)) hc2) [] [] [0] pre_nil rfl (by simp) (by decide) (.inl rfl) rfl Tryd.func131 rfl rfl rfl (fun _ => ?_)
  obtain ⟨hc4, h⟩ := req_some h
  refine al_val (ov_strAdd hc4 rfl rfl rfl) ?_
  refine al_val (ov_assign rfl rfl) ?_
  refine al_nil ?_
  refine aq_then ?_
  obtain ⟨kk6, hkk6, h⟩ := lt_some h
  refine aw_seq_join (ι := Int) (fun i => (memOf w0 Z0 [] [(oBox g1 3 [(Value.int .i64 a0)])] [])) (fun i => (tab [(1, (str a1)), (5, (Value.int .u64 i)), (6, (Value.func (.func 132) #[] #[(ptr g1 0)]))])) (fun i => kk6 i = some r) ?_ ?_
  · rintro j5i5 h
    have h : kk6 j5i5 = some r := h
    rw [hkk6] at h
    dsimp only at h
    clear hkk6
    refine aw_show (m := (memOf w0 Z0 [] [(oBox g1 3 [(Value.int .i64 a0)])] [])) (S := (tab [(1, (str a1)), (5, (Value.int .u64 j5i5)), (6, (Value.func (.func 132) #[] #[(ptr g1 0)]))])) ?_
    refine aw_seq ?_
    refine aw_region ?_
    refine al_val (ov_move rfl rfl) ?_
    refine al_val (ov_move rfl rfl) ?_
    refine al_val (ov_move rfl rfl) ?_
    refine al_val (ov_strLen Tryd.underlying9 rfl rfl) ?_
    refine al_val (ov_convInt (by rw [Tryd.underlying3]; rfl) Tryd.underlying87 rfl rfl) ?_
    obtain ⟨r8, hc7, h⟩ := opt_some h
    refine al_call (vs := [(Value.int .u64 j5i5), (Value.int .u64 (IntKind.u64.wrap (a1.length : Int)))]) (f_lumref_Step_ok fu j5i5 (IntKind.u64.wrap (a1.length : Int)) hc7) [] [] [0] pre_nil rfl (by simp) (by decide) (.inl rfl) rfl Tryd.func133 rfl rfl rfl (fun _ => ?_)
    obtain ⟨r10, hc9, h⟩ := opt_some h
    refine al_callF (vs := [(Value.int .u64 r8)]) (caps := [(ptr g1 0)]) (f_lumref_Narrow_1_ok fu r8 (ptr g1 0) a0 hc9) rfl [0] [] [0] (pre_boxP (x := a0) 0 rfl rfl (fun _ _ => rfl) pre_nil) rfl (by simp) (by decide) (.inr flat_res0) rfl rfl Tryd.func132 rfl rfl rfl (fun _ => ?_)
    refine al_val (ov_assign rfl rfl) ?_
    refine al_nil ?_
    refine aq_then ?_
    refine aw_ret ?_
    obtain rfl := Option.some.inj h
    exact fn_ret () [] [] rfl rfl rfl rfl (res1 rfl rfl) rfl rfl rfl (by decide)
  · clear hkk6
    refine aw_block ?_
    refine aw_state (aw_loop (ι := Int × (List UInt8)) (fun i => (memOf w0 Z0 [] [(oBox g1 3 [(Value.int .i64 a0)])] [])) (fun i => (tab [(1, (str a1)), (5, (Value.int .u64 i.1)), (6, (Value.func (.func 132) #[] #[(ptr g1 0)])), (7, (str i.2))])) (fun q i => f_lumref_Narrow_L13 a0 kk6 fu q i.1 i.2 = some r) ?_ fu ((0 : Int), (a1 ++ r3)) h) (fun w a hm hs => norm hm hs [0] [] [(1, (str a1)), (5, (Value.int .u64 (0 : Int))), (6, (Value.func (.func 132) #[] #[(ptr g1 0)])), (7, (str (a1 ++ r3)))] (by decide) ⟨rfl, rfl, rfl, rfl, trivial⟩)
    clear h
    rintro k12 ⟨l11i5, l11s7⟩ h
    have h : f_lumref_Narrow_L13 a0 kk6 fu k12 l11i5 l11s7 = some r := h
    obtain _ | k12 := k12
    · rw [f_lumref_Narrow_L13] at h; cases h
    rw [f_lumref_Narrow_L13] at h
    refine aw_show (m := (memOf w0 Z0 [] [(oBox g1 3 [(Value.int .i64 a0)])] [])) (S := (tab [(1, (str a1)), (5, (Value.int .u64 l11i5)), (6, (Value.func (.func 132) #[] #[(ptr g1 0)])), (7, (str l11s7))])) ?_
    obtain ⟨kk14, hkk14, h⟩ := lt_some h
    refine aw_body_join (ι := Int × (List UInt8)) (fun i => (memOf w0 Z0 [] [(oBox g1 3 [(Value.int .i64 a0)])] [])) (fun i => (tab [(1, (str a1)), (5, (Value.int .u64 i.1)), (6, (Value.func (.func 132) #[] #[(ptr g1 0)])), (7, (str i.2))])) (fun i => kk14 i.1 i.2 = some r) (fun i h => aq_again k12 i (Nat.lt_succ_self _) (by rw [hkk14] at h; exact h) (fun w a hm hs => ⟨hm, hs⟩)) ?_
    clear hkk14
    refine aw_seq ?_
    refine aw_seq ?_
    refine aw_region ?_
    refine al_val (ov_move rfl rfl) ?_
    refine al_val (ov_strCmp rfl rfl rfl rfl) ?_
    refine al_nil ?_
    refine aq_then ?_
    refine aw_cond rfl (fun hb15 => ?_) (fun hb15 => ?_)
    · replace h := bif_t hb15 h
      refine aw_skip ?_
      refine aq_then ?_
      obtain ⟨kk17, hkk17, h⟩ := lt_some h
      refine aw_seq_join (ι := Int) (fun i => (memOf w0 Z0 [] [(oBox g1 3 [(Value.int .i64 a0)])] [])) (fun i => (tab [(1, (str a1)), (5, (Value.int .u64 i)), (6, (Value.func (.func 132) #[] #[(ptr g1 0)])), (7, (str l11s7))])) (fun i => kk17 i = some r) ?_ ?_
      · rintro j16i5 h
        have h : kk17 j16i5 = some r := h
        rw [hkk17] at h
        dsimp only at h
        clear hkk17
        refine aw_show (m := (memOf w0 Z0 [] [(oBox g1 3 [(Value.int .i64 a0)])] [])) (S := (tab [(1, (str a1)), (5, (Value.int .u64 j16i5)), (6, (Value.func (.func 132) #[] #[(ptr g1 0)])), (7, (str l11s7))])) ?_
        refine aw_region ?_
        refine al_val (ov_move rfl rfl) ?_
        obtain ⟨hc18, h⟩ := req_some h
        refine al_val (ov_strFrom hc18.1 hc18.2 Tryd.underlying9 rfl rfl rfl) ?_
        refine al_val (ov_assign rfl rfl) ?_
        refine al_nil ?_
        exact aq_join (j16i5, (l11s7.drop ((8 : Int)).toNat)) h (fun w a hm hs => norm hm hs [0] [] [(1, (str a1)), (5, (Value.int .u64 j16i5)), (6, (Value.func (.func 132) #[] #[(ptr g1 0)])), (7, (str (l11s7.drop ((8 : Int)).toNat)))] (by decide) ⟨rfl, rfl, rfl, rfl, trivial⟩)
      · clear hkk17
        refine aw_block ?_
        refine aw_seq ?_
        refine aw_region ?_
        refine al_val (ov_assign rfl rfl) ?_
        refine al_nil ?_
        refine aq_then ?_
        obtain ⟨kk20, hkk20, h⟩ := lt_some h
        refine aw_seq_join (ι := Int) (fun i => (memOf w0 Z0 [] [(oBox g1 3 [(Value.int .i64 a0)])] [])) (fun i => (tab [(1, (str a1)), (5, (Value.int .u64 l11i5)), (6, (Value.func (.func 132) #[] #[(ptr g1 0)])), (7, (str l11s7)), (8, (Value.int .u64 i))])) (fun i => kk20 i = some r) ?_ ?_
        · rintro j19i8 h
          have h : kk20 j19i8 = some r := h
          rw [hkk20] at h
          dsimp only at h
          clear hkk20
          refine aw_show (m := (memOf w0 Z0 [] [(oBox g1 3 [(Value.int .i64 a0)])] [])) (S := (tab [(1, (str a1)), (5, (Value.int .u64 l11i5)), (6, (Value.func (.func 132) #[] #[(ptr g1 0)])), (7, (str l11s7)), (8, (Value.int .u64 j19i8))])) ?_
          refine aw_region ?_
          refine al_val (ov_move rfl rfl) ?_
          refine al_val (ov_move rfl rfl) ?_
          refine al_val (ov_move rfl rfl) ?_
          obtain ⟨r22, hc21, h⟩ := opt_some h
          refine al_call (vs := [(Value.int .u64 l11i5), (Value.int .u64 j19i8)]) (f_lumref_Step_ok fu l11i5 j19i8 hc21) [] [] [0] pre_nil rfl (by simp) (by decide) (.inl rfl) rfl Tryd.func133 rfl rfl rfl (fun _ => ?_)
          obtain ⟨r24, hc23, h⟩ := opt_some h
          refine al_callF (vs := [(Value.int .u64 r22)]) (caps := [(ptr g1 0)]) (f_lumref_Narrow_1_ok fu r22 (ptr g1 0) a0 hc23) rfl [0] [] [0] (pre_boxP (x := a0) 0 rfl rfl (fun _ _ => rfl) pre_nil) rfl (by simp) (by decide) (.inr flat_res0) rfl rfl Tryd.func132 rfl rfl rfl (fun _ => ?_)
          refine al_val (ov_assign rfl rfl) ?_
          refine al_nil ?_
          refine aq_block ?_
          exact aq_join r24 h (fun w a hm hs => norm hm hs [0] [] [(1, (str a1)), (5, (Value.int .u64 r24)), (6, (Value.func (.func 132) #[] #[(ptr g1 0)])), (7, (str l11s7))] (by decide) ⟨rfl, rfl, rfl, rfl, trivial⟩)
        · clear hkk20
          refine aw_seq ?_
          refine aw_region ?_
          refine al_val (ov_assign rfl rfl) ?_
          refine al_nil ?_
          refine aq_then ?_
          refine aw_block ?_
          refine aw_state (aw_loop (ι := Int × Int) (fun i => (memOf w0 Z0 [] [(oBox g1 3 [(Value.int .i64 a0)])] [])) (fun i => (tab [(1, (str a1)), (5, (Value.int .u64 l11i5)), (6, (Value.func (.func 132) #[] #[(ptr g1 0)])), (7, (str l11s7)), (8, (Value.int .u64 i.1)), (9, (Value.int .i64 i.2))])) (fun q i => f_lumref_Narrow_L27 l11s7 kk20 q i.1 i.2 = some r) ?_ fu ((0 : Int), (7 : Int)) h) (fun w a hm hs => norm hm hs [0] [] [(1, (str a1)), (5, (Value.int .u64 l11i5)), (6, (Value.func (.func 132) #[] #[(ptr g1 0)])), (7, (str l11s7)), (8, (Value.int .u64 (0 : Int))), (9, (Value.int .i64 (7 : Int)))] (by decide) ⟨rfl, rfl, rfl, rfl, rfl, rfl, trivial⟩)
          clear h
          rintro k26 ⟨l25i8, l25i9⟩ h
          have h : f_lumref_Narrow_L27 l11s7 kk20 k26 l25i8 l25i9 = some r := h
          obtain _ | k26 := k26
          · rw [f_lumref_Narrow_L27] at h; cases h
          rw [f_lumref_Narrow_L27] at h
          refine aw_show (m := (memOf w0 Z0 [] [(oBox g1 3 [(Value.int .i64 a0)])] [])) (S := (tab [(1, (str a1)), (5, (Value.int .u64 l11i5)), (6, (Value.func (.func 132) #[] #[(ptr g1 0)])), (7, (str l11s7)), (8, (Value.int .u64 l25i8)), (9, (Value.int .i64 l25i9))])) ?_
          refine aw_seq ?_
          refine aw_seq ?_
          refine aw_region ?_
          refine al_val (ov_move rfl rfl) ?_
          refine al_val (ov_int rfl rfl rfl rfl) ?_
          refine al_nil ?_
          refine aq_then ?_
          refine aw_cond rfl (fun hb28 => ?_) (fun hb28 => ?_)
          · replace h := bif_t hb28 h
            refine aw_skip ?_
            refine aq_then ?_
            refine aw_seq ?_
            refine aw_block ?_
            refine aw_region ?_
            refine al_val (ov_move rfl rfl) ?_
            refine al_val (ov_int rfl rfl rfl rfl) ?_
            refine al_val (ov_move rfl rfl) ?_
            refine al_val (ov_move rfl rfl) ?_
            obtain ⟨hc29, h⟩ := req_some h
            refine al_val (ov_strIdx hc29.1 hc29.2 Tryd.underlying9 rfl rfl rfl) ?_
            refine al_val (ov_convInt (by rw [Tryd.underlying5]; rfl) Tryd.underlying87 rfl rfl) ?_
            refine al_val (ov_int rfl rfl rfl rfl) ?_
            refine al_val (ov_assign rfl rfl) ?_
            refine al_nil ?_
            refine aq_block ?_
            refine aq_then ?_
            refine aw_region ?_
            refine al_val (ov_move rfl rfl) ?_
            refine al_val (ov_int rfl rfl rfl rfl) ?_
            refine al_val (ov_assign rfl rfl) ?_
            refine al_nil ?_
            exact aq_again k26 ((IntKind.u64.wrap ((IntKind.u64.wrap ((256 : Int) * l25i8)) + (IntKind.u64.wrap (En.bAt l11s7 l25i9)))), (IntKind.i64.wrap (l25i9 - (1 : Int)))) (Nat.lt_succ_self _) h (fun w a hm hs => norm hm hs [0] [] [(1, (str a1)), (5, (Value.int .u64 l11i5)), (6, (Value.func (.func 132) #[] #[(ptr g1 0)])), (7, (str l11s7)), (8, (Value.int .u64 (IntKind.u64.wrap ((IntKind.u64.wrap ((256 : Int) * l25i8)) + (IntKind.u64.wrap (En.bAt l11s7 l25i9)))))), (9, (Value.int .i64 (IntKind.i64.wrap (l25i9 - (1 : Int)))))] (by decide) ⟨rfl, rfl, rfl, rfl, rfl, rfl, trivial⟩)
          · replace h := bif_f hb28 h
            refine aw_exit ?_
            refine aq_then_exit ?_
            refine aq_then_exit ?_
            refine aq_block_exit ?_
            exact aq_join l25i8 h (fun w a hm hs => norm hm hs [0] [] [(1, (str a1)), (5, (Value.int .u64 l11i5)), (6, (Value.func (.func 132) #[] #[(ptr g1 0)])), (7, (str l11s7)), (8, (Value.int .u64 l25i8))] (by decide) ⟨rfl, rfl, rfl, rfl, rfl, trivial⟩)
    · replace h := bif_f hb15 h
      refine aw_exit ?_
      refine aq_then_exit ?_
      refine aq_then_exit ?_
      refine aq_block_exit ?_
      exact aq_join l11i5 h (fun w a hm hs => norm hm hs [0] [] [(1, (str a1)), (5, (Value.int .u64 l11i5)), (6, (Value.func (.func 132) #[] #[(ptr g1 0)]))] (by decide) ⟨rfl, rfl, rfl, trivial⟩)
def f_lumref_wide (fu : Nat) (a0 : Int) : Option (List UInt8) := (opt (f_lumref_digits fu a0) fun (r2 : (List UInt8)) => (opt (f_strings_Repeat fu ([0] : List UInt8) (IntKind.i64.wrap ((8 : Int) - (r2.length : Int)))) fun (r4 : (List UInt8)) => (req (r4.length + r2.length ≤ 9223372036854775807) (some (r4 ++ r2)))))
set_option maxRecDepth 100000 in
theorem f_lumref_wide_ok (fu : Nat) (a0 : Int) {r : (List UInt8)} (h : f_lumref_wide fu a0 = some r) : FnOk Tryd.prog 99 [(Value.int .u64 a0)] [] [] (fun (i : Unit) => { val := (str r) }) := by
  unfold f_lumref_wide at h
  refine fn_enter Tryd.func99 rfl Tryd.ntmps99 rfl (fun w0 Z0 => ?_)
  refine aw_seq ?_
  refine aw_region ?_
  refine al_val (ov_assign rfl rfl) ?_
  refine al_nil ?_
  refine aq_then ?_
  refine aw_seq ?_
  refine aw_region ?_
  refine al_val (ov_move rfl rfl) ?_
  obtain ⟨r2, hc1, h⟩ := opt_some h
  refine al_call (vs := [(Value.int .u64 a0)]) (f_lumref_digits_ok fu a0 hc1) [] [] [] pre_nil rfl (by simp) (by decide) (.inl rfl) rfl Tryd.func98 rfl rfl rfl (fun _ => ?_)
  refine al_val (ov_assign rfl rfl) ?_
  refine al_nil ?_
  refine aq_then ?_
  refine aw_seq ?_
  refine aw_region ?_
  refine al_val (ov_move rfl rfl) ?_
  refine al_val (ov_strLen Tryd.underlying9 rfl rfl) ?_
  refine al_val (ov_int rfl rfl rfl rfl) ?_
  obtain ⟨r4, hc3, h⟩ := opt_some h
  refine al_call (vs := [(str ([0] : List UInt8)), (Value.int .i64 (IntKind.i64.wrap ((8 : Int) - (r2.length : Int))))]) (f_strings_Repeat_ok fu ([0] : List UInt8) (IntKind.i64.wrap ((8 : Int) - (r2.length : Int))) hc3) [] [] [] pre_nil rfl (by simp) (by decide) (.inl rfl) rfl Tryd.func131 rfl rfl rfl (fun _ => ?_)
  refine al_val (ov_move rfl rfl) ?_
  obtain ⟨hc5, h⟩ := req_some h
  refine al_val (ov_strAdd hc5 rfl rfl rfl) ?_
  refine al_val (ov_assign rfl rfl) ?_
  refine al_nil ?_
  refine aq_then ?_
  refine aw_ret ?_
  obtain rfl := Option.some.inj h
  exact fn_ret () [] [] rfl rfl rfl rfl (res1 rfl rfl) rfl rfl rfl (by decide)
def f_lumref_ID (fu : Nat) (a0 : (List UInt8)) : Option A8u8 := (opt (f_lumref_Narrow fu (64 : Int) a0) fun (r3 : Int) => (opt (f_lumref_wide fu r3) fun (r5 : (List UInt8)) => (req (r5.length ≤ 9223372036854775807) (req (8 ≤ r5.length) (some (ofA8u8 r5))))))
set_option maxRecDepth 100000 in
theorem f_lumref_ID_ok (fu : Nat) (a0 : (List UInt8)) {r : A8u8} (h : f_lumref_ID fu a0 = some r) : FnOk Tryd.prog 57 [(str a0)] [] [] (fun (i : Unit) => { val := (ag (cA8u8 r)) }) := by
  unfold f_lumref_ID at h
  refine fn_enter Tryd.func57 rfl Tryd.ntmps57 rfl (fun w0 Z0 => ?_)
  refine aw_seq ?_
  refine aw_region ?_
  refine al_alloc (zs := (cA8u8 (A8u8.mk (0 : UInt8) (0 : UInt8) (0 : UInt8) (0 : UInt8) (0 : UInt8) (0 : UInt8) (0 : UInt8) (0 : UInt8)))) (zeroOf_to to49) rfl rfl (fun g1 => ?_)
  refine al_nil ?_
  refine aq_then ?_
  refine aw_seq ?_
  refine aw_region ?_
  refine al_val (ov_move rfl rfl) ?_
  obtain ⟨r3, hc2, h⟩ := opt_some h
  refine al_call (vs := [(Value.int .i64 (64 : Int)), (str a0)]) (f_lumref_Narrow_ok fu (64 : Int) a0 hc2) [] [] [0] pre_nil rfl (by simp) (by decide) (.inl rfl) rfl Tryd.func100 rfl rfl rfl (fun _ => ?_)
  obtain ⟨r5, hc4, h⟩ := opt_some h
  refine al_call (vs := [(Value.int .u64 r3)]) (f_lumref_wide_ok fu r3 hc4) [] [] [0] pre_nil rfl (by simp) (by decide) (.inl rfl) rfl Tryd.func99 rfl rfl rfl (fun _ => ?_)
  obtain ⟨hc6, h⟩ := req_some h
  refine al_bytes hc6 rfl Tryd.underlying9 Tryd.underlying89 Tryd.underlying5 rfl (fun s7 => ?_)
  obtain ⟨hc9, h⟩ := req_some h
  refine al_s2ap (τA := tyA8u8) (x := (ofA8u8 r5)) 0 8 hc9 rfl (fun h9 => oflA8u8 hc9 h9) rfl rfl Tryd.underlying49 rfl (fun p8 => ?_)
  refine al_val (ov_loadP (ds := (cA8u8 (ofA8u8 r5))) 0 rfl encA8u8 rfl Tryd.underlying49 sz49 rfl rfl rfl) ?_
  refine al_store (i := 0) (vs := (cA8u8 (ofA8u8 r5))) (cs' := (cA8u8 (ofA8u8 r5))) rfl rfl rfl sz49 (cv_rfl rfl) rfl (co_all (oneA8u8 (ofA8u8 r5))) (Nat.le_of_ble_eq_true rfl) rfl rfl ?_
  refine al_nil ?_
  refine aq_then ?_
  refine aw_ret ?_
  obtain rfl := Option.some.inj h
  exact fn_ret () [] [] rfl rfl rfl rfl (resC rfl (resB (i := 0) rfl rfl Tryd.underlying49 sz49 rfl rfl rfl (resN)) rfl) rfl rfl rfl (by decide)
def f_lumref_PacketText (fu : Nat) (a0 : S_api_Packet) : Option (List UInt8) := (opt (f_lumref_PutText fu a0.Text) fun (r3 : ((List UInt8) × Int)) => (req (0 ≤ (IntKind.u8.wrap a0.Kind) ∧ (IntKind.u8.wrap a0.Kind) ≤ 255) (opt (f_lumref_Put fu (IntKind.u64.wrap a0.Seq)) fun (r7 : (List UInt8)) => (req (([(UInt8.ofNat ((IntKind.u8.wrap a0.Kind)).toNat)]).length + r7.length ≤ 9223372036854775807) (req ((([(UInt8.ofNat ((IntKind.u8.wrap a0.Kind)).toNat)]) ++ r7).length + r3.1.length ≤ 9223372036854775807) (opt (f_lumref_ID fu ((([(UInt8.ofNat ((IntKind.u8.wrap a0.Kind)).toNat)]) ++ r7) ++ r3.1)) fun (r11 : A8u8) => (req (((([(UInt8.ofNat ((IntKind.u8.wrap a0.Kind)).toNat)]) ++ r7) ++ r3.1).length + (lA8u8 r11).length ≤ 9223372036854775807) (some (((([(UInt8.ofNat ((IntKind.u8.wrap a0.Kind)).toNat)]) ++ r7) ++ r3.1) ++ (lA8u8 r11))))))))))
set_option maxRecDepth 100000 in
theorem f_lumref_PacketText_ok (fu : Nat) (a0 : S_api_Packet) {r : (List UInt8)} (h : f_lumref_PacketText fu a0 = some r) : FnOk Tryd.prog 29 [(ag [(Value.int .i64 a0.Kind), (Value.int .i64 a0.Seq), (str a0.Text)])] [uMax] [] (fun (i : Unit) => { val := (str r) }) := by
  unfold f_lumref_PacketText at h
  refine fn_enter Tryd.func29 rfl Tryd.ntmps29 rfl (fun w0 Z0 => ?_)
  refine aw_seq ?_
  refine aw_region ?_
  refine al_box (vs := [(Value.int .i64 a0.Kind), (Value.int .i64 a0.Seq), (str a0.Text)]) rfl (cv_rfl rfl) rfl (fun g1 => ?_)
  refine al_val (ov_assign rfl rfl) ?_
  refine al_nil ?_
  refine aq_then ?_
  refine aw_seq ?_
  refine aw_region ?_
  refine al_val (ov_fieldA (p := 2) rfl Tryd.underlying52 rfl sz9 rfl rfl rfl) ?_
  refine al_val (ov_load (i := 0) (v := (str a0.Text)) rfl rfl Tryd.underlying9 sz9 rfl rfl rfl rfl) ?_
  obtain ⟨r3, hc2, h⟩ := opt_some h
  refine al_call (vs := [(str a0.Text)]) (f_lumref_PutText_ok fu a0.Text hc2) [] [] [0] (pre_fz 0 rfl pre_nil) rfl (by simp) (by decide) (.inl rfl) rfl Tryd.func64 rfl rfl rfl (fun _ => ?_)
  refine al_val (ov_move rfl rfl) ?_
  refine al_val (ov_extract rfl rfl rfl) ?_
  refine al_val (ov_extract rfl rfl rfl) ?_
  refine al_val (ov_assign rfl rfl) ?_
  refine al_val (ov_assign rfl rfl) ?_
  refine al_nil ?_
  refine aq_then ?_
  refine aw_seq ?_
  obtain ⟨hc5, h⟩ := req_some h
  obtain ⟨r7, hc6, h⟩ := opt_some h
  obtain ⟨hc8, h⟩ := req_some h
  obtain ⟨hc9, h⟩ := req_some h
  refine aw_region_draw 12 [(13, (fun u => fEq u (ptr g1 0))), (14, (fun u => fEq u (Value.int .i64 a0.Kind))), (15, (fun u => fEq u (Value.int .u8 (IntKind.u8.wrap a0.Kind)))), (16, (fun v4 => (fDat (tyList tyU8) [v4] [(UInt8.ofNat ((IntKind.u8.wrap a0.Kind)).toNat)]))), (17, (fun u => fEq u (str [(UInt8.ofNat ((IntKind.u8.wrap a0.Kind)).toNat)]))), (18, (fun u => fEq u (ptr g1 1))), (19, (fun u => fEq u (Value.int .i64 a0.Seq))), (20, (fun u => fEq u (Value.int .u64 (IntKind.u64.wrap a0.Seq)))), (21, (fun u => fEq u (str r7))), (22, (fun u => fEq u (str (([(UInt8.ofNat ((IntKind.u8.wrap a0.Kind)).toNat)]) ++ r7)))), (23, (fun u => fEq u (str r3.1))), (24, (fun u => fEq u (str ((([(UInt8.ofNat ((IntKind.u8.wrap a0.Kind)).toNat)]) ++ r7) ++ r3.1))))] (tab [(1, (ptr g1 0)), (3, (str r3.1))]) mixed (by kernel_rfl) rfl rfl rfl (fun a hs => hs.tab _ (allT_mem ⟨rfl, rfl, trivial⟩)) ⟨⟨rfl, ld_val (ov_fieldA (p := 0) rfl Tryd.underlying52 rfl sz3 rfl rfl rfl)⟩, ⟨rfl, ld_eq (j := 0) rfl rfl (ld_val (ov_load (i := 0) (v := (Value.int .i64 a0.Kind)) rfl rfl Tryd.underlying3 sz3 rfl rfl rfl rfl))⟩, ⟨rfl, ld_eq (j := 1) rfl rfl (ld_val (ov_convInt (by rw [Tryd.underlying3]; rfl) Tryd.underlying5 rfl rfl))⟩, ⟨rfl, ld_eq (j := 2) rfl rfl (ld_buildSlice (τ := tyU8) (e := 5) (k := 1) (cs := [(Value.int .u8 (IntKind.u8.wrap a0.Kind))]) (xs := [(UInt8.ofNat ((IntKind.u8.wrap a0.Kind)).toNat)]) rfl (by decide) rfl (fun w a hm hs => ⟨([(Value.int .u8 (IntKind.u8.wrap a0.Kind))]).toArray, rfl, by simp only [List.map_toArray, List.map_cons, List.map_nil, hs.ev (x := .tmp 15) rfl]; exact run_bs [(Value.int .u8 (IntKind.u8.wrap a0.Kind))] [(Value.int .u8 (IntKind.u8.wrap a0.Kind))] Tryd.underlying89 to5 rfl rfl (bs_cons (l := [(Value.int .u8 (IntKind.u8.wrap a0.Kind))]) (cs := []) (cv_rfl rfl) rfl bs_nil) hm⟩) (fun hm => ⟨_, _, rfl, (fun _ => u8_rep hc5) hm, rfl⟩) rfl)⟩, ⟨rfl, ld_fact (j := 3) rfl rfl (fun v4 => ld_val (ov_toStr 0 rfl rfl Tryd.underlying89 Tryd.underlying5 Tryd.underlying9 rfl))⟩, ⟨rfl, ld_val (ov_fieldA (p := 1) rfl Tryd.underlying52 rfl sz3 rfl rfl rfl)⟩, ⟨rfl, ld_eq (j := 5) rfl rfl (ld_val (ov_load (i := 0) (v := (Value.int .i64 a0.Seq)) rfl rfl Tryd.underlying3 sz3 rfl rfl rfl rfl))⟩, ⟨rfl, ld_eq (j := 6) rfl rfl (ld_val (ov_convInt (by rw [Tryd.underlying3]; rfl) Tryd.underlying87 rfl rfl))⟩, ⟨rfl, ld_eq (j := 7) rfl rfl (ld_callV (vs := [(Value.int .u64 (IntKind.u64.wrap a0.Seq))]) (f_lumref_Put_ok fu (IntKind.u64.wrap a0.Seq) hc6) [] pre_nil rfl Tryd.func56 rfl rfl rfl)⟩, ⟨rfl, ld_eq (j := 4) rfl rfl (ld_eq (j := 8) rfl rfl (ld_val (ov_strAdd hc8 rfl rfl rfl)))⟩, ⟨rfl, ld_val (ov_move rfl rfl)⟩, ⟨rfl, ld_eq (j := 9) rfl rfl (ld_eq (j := 10) rfl rfl (ld_val (ov_strAdd hc9 rfl rfl rfl)))⟩, trivial⟩ ?_
  refine tl_eq 11 rfl ?_
  refine tl_done ?_
  refine al_val (ov_assign rfl rfl) ?_
  refine al_nil ?_
  refine aq_then ?_
  refine aw_seq ?_
  refine aw_region ?_
  refine al_val (ov_move rfl rfl) ?_
  obtain ⟨r11, hc10, h⟩ := opt_some h
  refine al_call (vs := [(str ((([(UInt8.ofNat ((IntKind.u8.wrap a0.Kind)).toNat)]) ++ r7) ++ r3.1))]) (f_lumref_ID_ok fu ((([(UInt8.ofNat ((IntKind.u8.wrap a0.Kind)).toNat)]) ++ r7) ++ r3.1) hc10) [] [] [0] pre_nil rfl (by simp) (by decide) (.inl rfl) rfl Tryd.func57 rfl rfl rfl (fun _ => ?_)
  refine al_alloc (zs := (cA8u8 (A8u8.mk (0 : UInt8) (0 : UInt8) (0 : UInt8) (0 : UInt8) (0 : UInt8) (0 : UInt8) (0 : UInt8) (0 : UInt8)))) (zeroOf_to to49) rfl rfl (fun g12 => ?_)
  refine al_store (i := 0) (vs := (cA8u8 r11)) (cs' := (cA8u8 r11)) rfl rfl rfl sz49 (cv_rfl rfl) rfl (co_all (oneA8u8 r11)) (Nat.le_of_ble_eq_true rfl) rfl rfl ?_
  refine al_nil ?_
  refine aq_then ?_
  refine aw_seq ?_
  refine aw_freezeB 0 (r11) rfl rfl (fun _ _ => mkA8u8 rfl) ?_
  refine aw_region ?_
  refine al_val (ov_move rfl rfl) ?_
  refine al_of (of_sliceP 0 lrepA8u8 rfl rfl rfl rfl Tryd.underlying49 sz5 rfl) (fun s13 => ?_)
  refine al_val (ov_toStr 0 rfl rfl Tryd.underlying89 Tryd.underlying5 Tryd.underlying9 rfl) ?_
  obtain ⟨hc14, h⟩ := req_some h
  refine al_val (ov_strAdd hc14 rfl rfl rfl) ?_
  refine al_val (ov_assign rfl rfl) ?_
  refine al_nil ?_
  refine aq_then ?_
  refine aw_ret ?_
  obtain rfl := Option.some.inj h
  exact fn_ret () [] [] rfl rfl rfl rfl (res1 rfl rfl) rfl rfl rfl (by decide)
def f_num_value_L5 (a0 : (List UInt8)) (kk2 : (Int → Option Int)) : Nat → Int → Int → Option Int
  | 0, _, _ => none
  | k4 + 1, l3i3, l3i7 => (bif (decide (l3i7 < (a0.length : Int))) then (req (0 ≤ l3i7 ∧ l3i7 < (a0.length : Int)) (f_num_value_L5 a0 kk2 k4 (bits .or .u64 (IntKind.u64.wrap (l3i3 * 2 ^ min ((8 : Int)).toNat (IntKind.bits .u64))) (IntKind.u64.wrap (En.bAt a0 l3i7))) (IntKind.i64.wrap (l3i7 + (1 : Int))))) else (kk2 l3i3))
def f_num_value (fu : Nat) (a0 : (List UInt8)) : Option Int := (lt (fun (j1i3 : Int) => (some j1i3)) fun (kk2 : Int → Option Int) => (f_num_value_L5 a0 kk2 fu (0 : Int) (0 : Int)))
set_option maxRecDepth 100000 in
theorem f_num_value_ok (fu : Nat) (a0 : (List UInt8)) {r : Int} (h : f_num_value fu a0 = some r) : FnOk Tryd.prog 101 [(str a0)] [] [] (fun (i : Unit) => { val := (Value.int .u64 r) }) := by
  unfold f_num_value at h
  refine fn_enter Tryd.func101 rfl Tryd.ntmps101 rfl (fun w0 Z0 => ?_)
  refine aw_seq ?_
  refine aw_region ?_
  refine al_val (ov_assign rfl rfl) ?_
  refine al_nil ?_
  refine aq_then ?_
  refine aw_seq ?_
  refine aw_region ?_
  refine al_val (ov_assign rfl rfl) ?_
  refine al_nil ?_
  refine aq_then ?_
  obtain ⟨kk2, hkk2, h⟩ := lt_some h
  refine aw_seq_join (ι := Int) (fun i => (memOf w0 Z0 [] [] [])) (fun i => (tab [(3, (Value.int .u64 i))])) (fun i => kk2 i = some r) ?_ ?_
  · rintro j1i3 h
    have h : kk2 j1i3 = some r := h
    rw [hkk2] at h
    dsimp only at h
    clear hkk2
    refine aw_show (m := (memOf w0 Z0 [] [] [])) (S := (tab [(3, (Value.int .u64 j1i3))])) ?_
    refine aw_seq ?_
    refine aw_region ?_
    refine al_val (ov_move rfl rfl) ?_
    refine al_val (ov_assign rfl rfl) ?_
    refine al_nil ?_
    refine aq_then ?_
    refine aw_ret ?_
    obtain rfl := Option.some.inj h
    exact fn_ret () [] [] rfl rfl rfl rfl (res1 rfl rfl) rfl rfl rfl (by decide)
  · clear hkk2
    refine aw_seq ?_
    refine aw_region ?_
    refine al_val (ov_move rfl rfl) ?_
    refine al_val (ov_strLen Tryd.underlying9 rfl rfl) ?_
    refine al_val (ov_move rfl rfl) ?_
    refine al_nil ?_
    refine aq_then ?_
    refine aw_block ?_
    refine aw_state (aw_loop (ι := Int × Int) (fun i => (memOf w0 Z0 [] [] [])) (fun i => (tab [(0, (str a0)), (3, (Value.int .u64 i.1)), (6, (Value.int .i64 (a0.length : Int))), (7, (Value.int .i64 i.2))])) (fun q i => f_num_value_L5 a0 kk2 q i.1 i.2 = some r) ?_ fu ((0 : Int), (0 : Int)) h) (fun w a hm hs => norm hm hs [] [] [(0, (str a0)), (3, (Value.int .u64 (0 : Int))), (6, (Value.int .i64 (a0.length : Int))), (7, (Value.int .i64 (0 : Int)))] (by decide) ⟨rfl, rfl, rfl, rfl, trivial⟩)
    clear h
    rintro k4 ⟨l3i3, l3i7⟩ h
    have h : f_num_value_L5 a0 kk2 k4 l3i3 l3i7 = some r := h
    obtain _ | k4 := k4
    · rw [f_num_value_L5] at h; cases h
    rw [f_num_value_L5] at h
    refine aw_show (m := (memOf w0 Z0 [] [] [])) (S := (tab [(0, (str a0)), (3, (Value.int .u64 l3i3)), (6, (Value.int .i64 (a0.length : Int))), (7, (Value.int .i64 l3i7))])) ?_
    refine aw_seq ?_
    refine aw_region ?_
    refine al_val (ov_int rfl rfl rfl rfl) ?_
    refine al_nil ?_
    refine aq_then ?_
    refine aw_seq ?_
    refine aw_cond rfl (fun hb6 => ?_) (fun hb6 => ?_)
    · replace h := bif_t hb6 h
      refine aw_skip ?_
      refine aq_then ?_
      refine aw_seq ?_
      refine aw_block ?_
      refine aw_seq ?_
      refine aw_region ?_
      refine al_val (ov_move rfl rfl) ?_
      refine al_val (ov_assign rfl rfl) ?_
      refine al_nil ?_
      refine aq_then ?_
      refine aw_region ?_
      refine al_val (ov_move rfl rfl) ?_
      refine al_val (ov_shl (by decide) rfl rfl rfl) ?_
      refine al_val (ov_move rfl rfl) ?_
      refine al_val (ov_move rfl rfl) ?_
      obtain ⟨hc7, h⟩ := req_some h
      refine al_val (ov_strIdx hc7.1 hc7.2 Tryd.underlying9 rfl rfl rfl) ?_
      refine al_val (ov_convInt (by rw [Tryd.underlying5]; rfl) Tryd.underlying87 rfl rfl) ?_
      refine al_val (ov_int rfl rfl rfl rfl) ?_
      refine al_val (ov_assign rfl rfl) ?_
      refine al_nil ?_
      refine aq_block ?_
      refine aq_then ?_
      refine aw_region ?_
      refine al_val (ov_int rfl rfl rfl rfl) ?_
      refine al_val (ov_move rfl rfl) ?_
      refine al_nil ?_
      exact aq_again k4 ((bits .or .u64 (IntKind.u64.wrap (l3i3 * 2 ^ min ((8 : Int)).toNat (IntKind.bits .u64))) (IntKind.u64.wrap (En.bAt a0 l3i7))), (IntKind.i64.wrap (l3i7 + (1 : Int)))) (Nat.lt_succ_self _) h (fun w a hm hs => norm hm hs [] [] [(0, (str a0)), (3, (Value.int .u64 (bits .or .u64 (IntKind.u64.wrap (l3i3 * 2 ^ min ((8 : Int)).toNat (IntKind.bits .u64))) (IntKind.u64.wrap (En.bAt a0 l3i7))))), (6, (Value.int .i64 (a0.length : Int))), (7, (Value.int .i64 (IntKind.i64.wrap (l3i7 + (1 : Int)))))] (by decide) ⟨rfl, rfl, rfl, rfl, trivial⟩)
    · replace h := bif_f hb6 h
      refine aw_exit ?_
      refine aq_then_exit ?_
      refine aq_then_exit ?_
      refine aq_block_exit ?_
      exact aq_join l3i3 h (fun w a hm hs => norm hm hs [] [] [(3, (Value.int .u64 l3i3))] (by decide) ⟨rfl, trivial⟩)
def f_num_Get (fu : Nat) (a0 : (List UInt8)) : Option (Int × Int × Int) := (bif (a0 == ([] : List UInt8)) then (some ((0 : Int), (0 : Int), (3 : Int))) else (req (0 ≤ (0 : Int) ∧ (0 : Int) < (a0.length : Int)) (bif (decide ((IntKind.i64.wrap (En.bAt a0 (0 : Int))) > (8 : Int))) then (some ((0 : Int), (0 : Int), (4 : Int))) else (bif (decide ((a0.length : Int) < (IntKind.i64.wrap ((1 : Int) + (IntKind.i64.wrap (En.bAt a0 (0 : Int))))))) then (some ((0 : Int), (0 : Int), (3 : Int))) else (lt (fun (j5b20 : Bool) => (bif j5b20 then (some ((0 : Int), (0 : Int), (4 : Int))) else (req (0 ≤ (1 : Int) ∧ (1 : Int) ≤ (IntKind.i64.wrap ((1 : Int) + (IntKind.i64.wrap (En.bAt a0 (0 : Int))))) ∧ (IntKind.i64.wrap ((1 : Int) + (IntKind.i64.wrap (En.bAt a0 (0 : Int))))) ≤ (a0.length : Int)) (opt (f_num_value fu (cut a0 (1 : Int) (IntKind.i64.wrap ((1 : Int) + (IntKind.i64.wrap (En.bAt a0 (0 : Int))))))) fun (r10 : Int) => (some (r10, (IntKind.i64.wrap ((1 : Int) + (IntKind.i64.wrap (En.bAt a0 (0 : Int))))), (0 : Int))))))) fun (kk6 : Bool → Option (Int × Int × Int)) => (bif (decide ((IntKind.i64.wrap (En.bAt a0 (0 : Int))) > (0 : Int))) then (req (0 ≤ (1 : Int) ∧ (1 : Int) < (a0.length : Int)) (kk6 ((En.bAt a0 (1 : Int)) == (0 : Int)))) else (kk6 false)))))))
set_option maxRecDepth 100000 in
theorem f_num_Get_ok (fu : Nat) (a0 : (List UInt8)) {r : (Int × Int × Int)} (h : f_num_Get fu a0 = some r) : FnOk Tryd.prog 58 [(str a0)] [] [] (fun (i : Unit) => { val := (Value.tuple #[(Value.int .u64 r.1), (Value.int .i64 r.2.1), (Value.int .i64 r.2.2)]) }) := by
  unfold f_num_Get at h
  refine fn_enter Tryd.func58 rfl Tryd.ntmps58 rfl (fun w0 Z0 => ?_)
  refine aw_seq ?_
  refine aw_region ?_
  refine al_val (ov_assign rfl rfl) ?_
  refine al_val (ov_assign rfl rfl) ?_
  refine al_val (ov_assign rfl rfl) ?_
  refine al_nil ?_
  refine aq_then ?_
  refine aw_seq ?_
  refine aw_seq ?_
  refine aw_region ?_
  refine al_val (ov_move rfl rfl) ?_
  refine al_val (ov_strCmp rfl rfl rfl rfl) ?_
  refine al_nil ?_
  refine aq_then ?_
  refine aw_cond rfl (fun hb1 => ?_) (fun hb1 => ?_)
  · replace h := bif_t hb1 h
    refine aw_seq ?_
    refine aw_region ?_
    refine al_val (ov_assign rfl rfl) ?_
    refine al_val (ov_assign rfl rfl) ?_
    refine al_val (ov_assign rfl rfl) ?_
    refine al_nil ?_
    refine aq_then ?_
    refine aw_ret ?_
    refine aq_then_ret ?_
    obtain rfl := Option.some.inj h
    exact fn_ret () [] [] rfl rfl rfl rfl (res3 rfl rfl rfl rfl) rfl rfl rfl (by decide)
  · replace h := bif_f hb1 h
    refine aw_skip ?_
    refine aq_then ?_
    refine aw_seq ?_
    refine aw_region ?_
    refine al_val (ov_move rfl rfl) ?_
    obtain ⟨hc2, h⟩ := req_some h
    refine al_val (ov_strIdx hc2.1 hc2.2 Tryd.underlying9 rfl rfl rfl) ?_
    refine al_val (ov_convInt (by rw [Tryd.underlying5]; rfl) Tryd.underlying3 rfl rfl) ?_
    refine al_val (ov_assign rfl rfl) ?_
    refine al_nil ?_
    refine aq_then ?_
    refine aw_seq ?_
    refine aw_block ?_
    refine aw_seq ?_
    refine aw_region ?_
    refine al_val (ov_move rfl rfl) ?_
    refine al_val (ov_int rfl rfl rfl rfl) ?_
    refine al_val (ov_assign rfl rfl) ?_
    refine al_nil ?_
    refine aq_then ?_
    refine aw_cond rfl (fun hb3 => ?_) (fun hb3 => ?_)
    · replace h := bif_t hb3 h
      refine aw_seq ?_
      refine aw_region ?_
      refine al_val (ov_assign rfl rfl) ?_
      refine al_val (ov_assign rfl rfl) ?_
      refine al_val (ov_assign rfl rfl) ?_
      refine al_nil ?_
      refine aq_then ?_
      refine aw_ret ?_
      refine aq_block_ret ?_
      refine aq_then_ret ?_
      obtain rfl := Option.some.inj h
      exact fn_ret () [] [] rfl rfl rfl rfl (res3 rfl rfl rfl rfl) rfl rfl rfl (by decide)
    · replace h := bif_f hb3 h
      refine aw_seq ?_
      refine aw_region ?_
      refine al_val (ov_move rfl rfl) ?_
      refine al_val (ov_strLen Tryd.underlying9 rfl rfl) ?_
      refine al_val (ov_move rfl rfl) ?_
      refine al_val (ov_int rfl rfl rfl rfl) ?_
      refine al_val (ov_int rfl rfl rfl rfl) ?_
      refine al_val (ov_assign rfl rfl) ?_
      refine al_nil ?_
      refine aq_then ?_
      refine aw_cond rfl (fun hb4 => ?_) (fun hb4 => ?_)
      · replace h := bif_t hb4 h
        refine aw_seq ?_
        refine aw_region ?_
        refine al_val (ov_assign rfl rfl) ?_
        refine al_val (ov_assign rfl rfl) ?_
        refine al_val (ov_assign rfl rfl) ?_
        refine al_nil ?_
        refine aq_then ?_
        refine aw_ret ?_
        refine aq_block_ret ?_
        refine aq_then_ret ?_
        obtain rfl := Option.some.inj h
        exact fn_ret () [] [] rfl rfl rfl rfl (res3 rfl rfl rfl rfl) rfl rfl rfl (by decide)
      · replace h := bif_f hb4 h
        obtain ⟨kk6, hkk6, h⟩ := lt_some h
        refine aw_seq_join (ι := Bool) (fun i => (memOf w0 Z0 [] [] [])) (fun i => (tab [(0, (str a0)), (5, (Value.int .i64 (IntKind.i64.wrap (En.bAt a0 (0 : Int))))), (20, (Value.bool i))])) (fun i => kk6 i = some r) ?_ ?_
        · rintro j5b20 h
          have h : kk6 j5b20 = some r := h
          rw [hkk6] at h
          dsimp only at h
          clear hkk6
          refine aw_show (m := (memOf w0 Z0 [] [] [])) (S := (tab [(0, (str a0)), (5, (Value.int .i64 (IntKind.i64.wrap (En.bAt a0 (0 : Int))))), (20, (Value.bool j5b20))])) ?_
          refine aw_cond rfl (fun hb7 => ?_) (fun hb7 => ?_)
          · replace h := bif_t hb7 h
            refine aw_seq ?_
            refine aw_region ?_
            refine al_val (ov_assign rfl rfl) ?_
            refine al_val (ov_assign rfl rfl) ?_
            refine al_val (ov_assign rfl rfl) ?_
            refine al_nil ?_
            refine aq_then ?_
            refine aw_ret ?_
            refine aq_block_ret ?_
            refine aq_then_ret ?_
            obtain rfl := Option.some.inj h
            exact fn_ret () [] [] rfl rfl rfl rfl (res3 rfl rfl rfl rfl) rfl rfl rfl (by decide)
          · replace h := bif_f hb7 h
            refine aw_skip ?_
            refine aq_block ?_
            refine aq_then ?_
            refine aw_seq ?_
            refine aw_region ?_
            refine al_val (ov_move rfl rfl) ?_
            refine al_val (ov_move rfl rfl) ?_
            refine al_val (ov_int rfl rfl rfl rfl) ?_
            obtain ⟨hc8, h⟩ := req_some h
            refine al_val (ov_strCut hc8.1 hc8.2.1 hc8.2.2 Tryd.underlying9 rfl rfl rfl rfl) ?_
            obtain ⟨r10, hc9, h⟩ := opt_some h
            refine al_call (vs := [(str (cut a0 (1 : Int) (IntKind.i64.wrap ((1 : Int) + (IntKind.i64.wrap (En.bAt a0 (0 : Int)))))))]) (f_num_value_ok fu (cut a0 (1 : Int) (IntKind.i64.wrap ((1 : Int) + (IntKind.i64.wrap (En.bAt a0 (0 : Int)))))) hc9) [] [] [] pre_nil rfl (by simp) (by decide) (.inl rfl) rfl Tryd.func101 rfl rfl rfl (fun _ => ?_)
            refine al_val (ov_move rfl rfl) ?_
            refine al_val (ov_int rfl rfl rfl rfl) ?_
            refine al_val (ov_assign rfl rfl) ?_
            refine al_val (ov_assign rfl rfl) ?_
            refine al_val (ov_assign rfl rfl) ?_
            refine al_nil ?_
            refine aq_then ?_
            refine aw_ret ?_
            obtain rfl := Option.some.inj h
            exact fn_ret () [] [] rfl rfl rfl rfl (res3 rfl rfl rfl rfl) rfl rfl rfl (by decide)
        · clear hkk6
          refine aw_region ?_
          refine al_val (ov_move rfl rfl) ?_
          refine al_val (ov_int rfl rfl rfl rfl) ?_
          refine al_val (ov_move rfl rfl) ?_
          refine al_caseB 23 rfl (fun hb11 => ?_) (fun hb11 => ?_)
          · replace h := bif_t hb11 h
            refine al_val (ov_move rfl rfl) ?_
            obtain ⟨hc12, h⟩ := req_some h
            refine al_val (ov_strIdx hc12.1 hc12.2 Tryd.underlying9 rfl rfl rfl) ?_
            refine al_val (ov_int rfl rfl rfl rfl) ?_
            refine al_val (ov_pick_t rfl rfl rfl) ?_
            refine al_val (ov_assign rfl rfl) ?_
            refine al_nil ?_
            exact aq_join ((En.bAt a0 (1 : Int)) == (0 : Int)) h (fun w a hm hs => norm hm hs [] [] [(0, (str a0)), (5, (Value.int .i64 (IntKind.i64.wrap (En.bAt a0 (0 : Int))))), (20, (Value.bool ((En.bAt a0 (1 : Int)) == (0 : Int))))] (by decide) ⟨rfl, rfl, rfl, trivial⟩)
          · replace h := bif_f hb11 h
            refine al_skip ?_
            refine al_skip ?_
            refine al_skip ?_
            refine al_val (ov_pick_f rfl rfl rfl) ?_
            refine al_val (ov_assign rfl rfl) ?_
            refine al_nil ?_
            exact aq_join false h (fun w a hm hs => norm hm hs [] [] [(0, (str a0)), (5, (Value.int .i64 (IntKind.i64.wrap (En.bAt a0 (0 : Int))))), (20, (Value.bool false))] (by decide) ⟨rfl, rfl, rfl, trivial⟩)
def f_num_GetText_L5 (a0 : (List UInt8)) (kk2 : (Unit → Option ((List UInt8) × Int × Int))) : Nat → (List UInt8) → Int → Option ((List UInt8) × Int × Int)
  | 0, _, _ => none
  | k4 + 1, l3x5, l3i6 => (bif (decide (l3i6 < (a0.length : Int))) then (lt (fun (j7x5 : (List UInt8)) (j7i6 : Int) => (bif (decide ((j7x5.length : Int) > (1024 : Int))) then (some (([] : List UInt8), (0 : Int), (2 : Int))) else (f_num_GetText_L5 a0 kk2 k4 j7x5 (IntKind.i64.wrap (j7i6 + (1 : Int)))))) fun (kk8 : (List UInt8) → Int → Option ((List UInt8) × Int × Int)) => (req (0 ≤ l3i6 ∧ l3i6 < (a0.length : Int)) (bif ((En.bAt a0 l3i6) == (0 : Int)) then (bif ((IntKind.i64.wrap (l3i6 + (1 : Int))) == (a0.length : Int)) then (kk2 ()) else (req (0 ≤ (IntKind.i64.wrap (l3i6 + (1 : Int))) ∧ (IntKind.i64.wrap (l3i6 + (1 : Int))) < (a0.length : Int)) (bif ((En.bAt a0 (IntKind.i64.wrap (l3i6 + (1 : Int)))) == (0 : Int)) then (some (l3x5, (IntKind.i64.wrap ((IntKind.i64.wrap (l3i6 + (1 : Int))) + (1 : Int))), (0 : Int))) else (bif ((En.bAt a0 (IntKind.i64.wrap (l3i6 + (1 : Int)))) == (255 : Int)) then (req (0 ≤ (0 : Int) ∧ (0 : Int) ≤ 255) (req (((l3x5.length + ([(UInt8.ofNat ((0 : Int)).toNat)]).length) * 1 : Nat) ≤ 140737488355328 ∧ l3x5.length + ([(UInt8.ofNat ((0 : Int)).toNat)]).length ≤ 9223372036854775807) (kk8 (l3x5 ++ ([(UInt8.ofNat ((0 : Int)).toNat)])) (IntKind.i64.wrap (l3i6 + (1 : Int)))))) else (some (([] : List UInt8), (0 : Int), (4 : Int))))))) else (req (0 ≤ l3i6 ∧ l3i6 < (a0.length : Int)) (req (0 ≤ (En.bAt a0 l3i6) ∧ (En.bAt a0 l3i6) ≤ 255) (req (((l3x5.length + ([(UInt8.ofNat ((En.bAt a0 l3i6)).toNat)]).length) * 1 : Nat) ≤ 140737488355328 ∧ l3x5.length + ([(UInt8.ofNat ((En.bAt a0 l3i6)).toNat)]).length ≤ 9223372036854775807) (kk8 (l3x5 ++ ([(UInt8.ofNat ((En.bAt a0 l3i6)).toNat)])) l3i6))))))) else (kk2 ()))
def f_num_GetText (fu : Nat) (a0 : (List UInt8)) : Option ((List UInt8) × Int × Int) := (lt (fun (_ : Unit) => (some (([] : List UInt8), (0 : Int), (3 : Int)))) fun (kk2 : Unit → Option ((List UInt8) × Int × Int)) => (f_num_GetText_L5 a0 kk2 fu ([] : List UInt8) (0 : Int)))
set_option maxRecDepth 100000 in
theorem f_num_GetText_ok (fu : Nat) (a0 : (List UInt8)) {r : ((List UInt8) × Int × Int)} (h : f_num_GetText fu a0 = some r) : FnOk Tryd.prog 115 [(str a0)] [] [] (fun (i : Unit) => { val := (Value.tuple #[(str r.1), (Value.int .i64 r.2.1), (Value.int .i64 r.2.2)]) }) := by
  unfold f_num_GetText at h
  refine fn_enter Tryd.func115 rfl Tryd.ntmps115 rfl (fun w0 Z0 => ?_)
  refine aw_seq ?_
  refine aw_region ?_
  refine al_val (ov_assign rfl rfl) ?_
  refine al_val (ov_assign rfl rfl) ?_
  refine al_val (ov_assign rfl rfl) ?_
  refine al_nil ?_
  refine aq_then ?_
  refine aw_seq ?_
  refine aw_region ?_
  refine al_val (ov_assign rfl rfl) ?_
  refine al_nil ?_
  refine aq_then ?_
  obtain ⟨kk2, hkk2, h⟩ := lt_some h
  refine aw_seq_join (ι := Unit) (fun i => (memOf w0 Z0 [] [] [])) (fun i => (tab [])) (fun i => kk2 () = some r) ?_ ?_
  · rintro _ h
    have h : kk2 () = some r := h
    rw [hkk2] at h
    dsimp only at h
    clear hkk2
    refine aw_show (m := (memOf w0 Z0 [] [] [])) (S := (tab [])) ?_
    refine aw_seq ?_
    refine aw_region ?_
    refine al_val (ov_assign rfl rfl) ?_
    refine al_val (ov_assign rfl rfl) ?_
    refine al_val (ov_assign rfl rfl) ?_
    refine al_nil ?_
    refine aq_then ?_
    refine aw_ret ?_
    obtain rfl := Option.some.inj h
    exact fn_ret () [] [] rfl rfl rfl rfl (res3 rfl rfl rfl rfl) rfl rfl rfl (by decide)
  · clear hkk2
    refine aw_seq ?_
    refine aw_region ?_
    refine al_val (ov_assign rfl rfl) ?_
    refine al_nil ?_
    refine aq_then ?_
    refine aw_block ?_
    refine aw_nilR 5 tyU8 ?_
    refine aw_state (aw_loop (ι := Value × (List UInt8) × Int) (fun i => (memOf w0 Z0 [] [(oRow i.1 5 tyU8 i.2.1)] [])) (fun i => (tab [(0, (str a0)), (5, i.1), (6, (Value.int .i64 i.2.2))])) (fun q i => f_num_GetText_L5 a0 kk2 q i.2.1 i.2.2 = some r) ?_ fu ((Value.slice none 0 0), ([] : List UInt8), (0 : Int)) h) (fun w a hm hs => norm hm hs [0] [] [(0, (str a0)), (5, (Value.slice none 0 0)), (6, (Value.int .i64 (0 : Int)))] (by decide) ⟨rfl, rfl, rfl, trivial⟩)
    clear h
    rintro k4 ⟨l3v5, l3x5, l3i6⟩ h
    have h : f_num_GetText_L5 a0 kk2 k4 l3x5 l3i6 = some r := h
    obtain _ | k4 := k4
    · rw [f_num_GetText_L5] at h; cases h
    rw [f_num_GetText_L5] at h
    refine aw_show (m := (memOf w0 Z0 [] [(oRow l3v5 5 tyU8 l3x5)] [])) (S := (tab [(0, (str a0)), (5, l3v5), (6, (Value.int .i64 l3i6))])) ?_
    refine aw_seq ?_
    refine aw_seq ?_
    refine aw_region ?_
    refine al_val (ov_move rfl rfl) ?_
    refine al_val (ov_move rfl rfl) ?_
    refine al_val (ov_strLen Tryd.underlying9 rfl rfl) ?_
    refine al_val (ov_int rfl rfl rfl rfl) ?_
    refine al_nil ?_
    refine aq_then ?_
    refine aw_cond rfl (fun hb6 => ?_) (fun hb6 => ?_)
    · replace h := bif_t hb6 h
      refine aw_skip ?_
      refine aq_then ?_
      refine aw_seq ?_
      refine aw_block ?_
      obtain ⟨kk8, hkk8, h⟩ := lt_some h
      refine aw_seq_join (ι := Value × (List UInt8) × Int) (fun i => (memOf w0 Z0 [] [(oRow i.1 5 tyU8 i.2.1)] [])) (fun i => (tab [(0, (str a0)), (5, i.1), (6, (Value.int .i64 i.2.2))])) (fun i => kk8 i.2.1 i.2.2 = some r) ?_ ?_
      · rintro ⟨j7v5, j7x5, j7i6⟩ h
        have h : kk8 j7x5 j7i6 = some r := h
        rw [hkk8] at h
        dsimp only at h
        clear hkk8
        refine aw_show (m := (memOf w0 Z0 [] [(oRow j7v5 5 tyU8 j7x5)] [])) (S := (tab [(0, (str a0)), (5, j7v5), (6, (Value.int .i64 j7i6))])) ?_
        refine aw_seq ?_
        refine aw_region ?_
        refine al_val (ov_move rfl rfl) ?_
        refine al_val (ov_lenR 0 rfl rfl Tryd.underlying89 rfl) ?_
        refine al_val (ov_int rfl rfl rfl rfl) ?_
        refine al_nil ?_
        refine aq_then ?_
        refine aw_cond rfl (fun hb9 => ?_) (fun hb9 => ?_)
        · replace h := bif_t hb9 h
          refine aw_seq ?_
          refine aw_region ?_
          refine al_val (ov_assign rfl rfl) ?_
          refine al_val (ov_assign rfl rfl) ?_
          refine al_val (ov_assign rfl rfl) ?_
          refine al_nil ?_
          refine aq_then ?_
          refine aw_ret ?_
          refine aq_block_ret ?_
          refine aq_then_ret ?_
          refine aq_then_ret ?_
          refine aq_block_ret ?_
          refine aq_then_ret ?_
          obtain rfl := Option.some.inj h
          exact fn_ret () [] [] rfl rfl rfl rfl (res3 rfl rfl rfl rfl) rfl rfl rfl (by decide)
        · replace h := bif_f hb9 h
          refine aw_skip ?_
          refine aq_block ?_
          refine aq_then ?_
          refine aw_region ?_
          refine al_val (ov_move rfl rfl) ?_
          refine al_val (ov_int rfl rfl rfl rfl) ?_
          refine al_val (ov_assign rfl rfl) ?_
          refine al_nil ?_
          exact aq_again k4 (j7v5, j7x5, (IntKind.i64.wrap (j7i6 + (1 : Int)))) (Nat.lt_succ_self _) h (fun w a hm hs => norm hm hs [0] [] [(0, (str a0)), (5, j7v5), (6, (Value.int .i64 (IntKind.i64.wrap (j7i6 + (1 : Int)))))] (by decide) ⟨rfl, rfl, rfl, trivial⟩)
      · clear hkk8
        refine aw_seq ?_
        refine aw_region ?_
        refine al_val (ov_move rfl rfl) ?_
        refine al_val (ov_move rfl rfl) ?_
        obtain ⟨hc10, h⟩ := req_some h
        refine al_val (ov_strIdx hc10.1 hc10.2 Tryd.underlying9 rfl rfl rfl) ?_
        refine al_val (ov_int rfl rfl rfl rfl) ?_
        refine al_nil ?_
        refine aq_then ?_
        refine aw_cond rfl (fun hb11 => ?_) (fun hb11 => ?_)
        · replace h := bif_t hb11 h
          refine aw_seq ?_
          refine aw_seq ?_
          refine aw_region ?_
          refine al_val (ov_move rfl rfl) ?_
          refine al_val (ov_int rfl rfl rfl rfl) ?_
          refine al_val (ov_assign rfl rfl) ?_
          refine al_nil ?_
          refine aq_then ?_
          refine aw_seq ?_
          refine aw_region ?_
          refine al_val (ov_move rfl rfl) ?_
          refine al_val (ov_move rfl rfl) ?_
          refine al_val (ov_strLen Tryd.underlying9 rfl rfl) ?_
          refine al_val (ov_int rfl rfl rfl rfl) ?_
          refine al_nil ?_
          refine aq_then ?_
          refine aw_cond rfl (fun hb12 => ?_) (fun hb12 => ?_)
          · replace h := bif_t hb12 h
            refine aw_exit ?_
            refine aq_then_exit ?_
            refine aq_then_exit ?_
            refine aq_block_other rfl ?_
            refine aq_then_exit ?_
            refine aq_then_exit ?_
            refine aq_block_exit ?_
            exact aq_join () h (fun w a hm hs => norm hm hs [] [] [] (by decide) trivial)
          · replace h := bif_f hb12 h
            refine aw_skip ?_
            refine aq_then ?_
            refine aw_seq ?_
            refine aw_seq ?_
            refine aw_region ?_
            refine al_val (ov_move rfl rfl) ?_
            refine al_val (ov_move rfl rfl) ?_
            obtain ⟨hc13, h⟩ := req_some h
            refine al_val (ov_strIdx hc13.1 hc13.2 Tryd.underlying9 rfl rfl rfl) ?_
            refine al_nil ?_
            refine aq_then ?_
            refine aw_block ?_
            refine aw_seq ?_
            refine aw_region ?_
            refine al_val (ov_int rfl rfl rfl rfl) ?_
            refine al_val (ov_assign rfl rfl) ?_
            refine al_nil ?_
            refine aq_then ?_
            refine aw_cond rfl (fun hb14 => ?_) (fun hb14 => ?_)
            · replace h := bif_t hb14 h
              refine aw_seq ?_
              refine aw_region ?_
              refine al_val (ov_move rfl rfl) ?_
              refine al_val (ov_toStrR 0 rfl rfl Tryd.underlying89 Tryd.underlying5 Tryd.underlying9 rfl) ?_
              refine al_val (ov_move rfl rfl) ?_
              refine al_val (ov_int rfl rfl rfl rfl) ?_
              refine al_val (ov_assign rfl rfl) ?_
              refine al_val (ov_assign rfl rfl) ?_
              refine al_val (ov_assign rfl rfl) ?_
              refine al_nil ?_
              refine aq_then ?_
              refine aw_ret ?_
              refine aq_block_ret ?_
              refine aq_then_ret ?_
              refine aq_then_ret ?_
              refine aq_block_ret ?_
              refine aq_then_ret ?_
              refine aq_then_ret ?_
              refine aq_block_ret ?_
              refine aq_then_ret ?_
              obtain rfl := Option.some.inj h
              exact fn_ret () [] [] rfl rfl rfl rfl (res3 rfl rfl rfl rfl) rfl rfl rfl (by decide)
            · replace h := bif_f hb14 h
              refine aw_seq ?_
              refine aw_region ?_
              refine al_val (ov_int rfl rfl rfl rfl) ?_
              refine al_val (ov_assign rfl rfl) ?_
              refine al_nil ?_
              refine aq_then ?_
              refine aw_cond rfl (fun hb15 => ?_) (fun hb15 => ?_)
              · replace h := bif_t hb15 h
                refine aw_skip ?_
                refine aq_block ?_
                refine aq_then ?_
                refine aw_region ?_
                refine al_val (ov_move rfl rfl) ?_
                obtain ⟨hc17, h⟩ := req_some h
                refine al_buildSlice (τ := tyU8) (e := 5) (k := 1) (sz := 0) (by_ := 0) (z := undef) (cs := [(Value.int .u8 (0 : Int))]) (xs := [(UInt8.ofNat ((0 : Int)).toNat)]) rfl (by decide) (fun w a hm hs => ⟨([(Value.int .u8 (0 : Int))]).toArray, rfl, by simp only [List.map_toArray, List.map_cons, List.map_nil, hs.ev (x := .const (Value.int .u8 (0 : Int))) rfl]; exact run_bs [(Value.int .u8 (0 : Int))] [(Value.int .u8 (0 : Int))] Tryd.underlying89 to5 rfl rfl (bs_cons (l := [(Value.int .u8 (0 : Int))]) (cs := []) (cv_rfl rfl) rfl bs_nil) hm⟩) (fun hm => ⟨_, _, rfl, (fun _ => u8_rep hc17) hm, rfl⟩) rfl (fun v16 => ?_)
                obtain ⟨hc18, h⟩ := req_some h
                refine al_append 1 hc18.1 hc18.2 rfl (src_own (i := 1) 0 rfl) rfl rfl Tryd.underlying89 to5 rfl rfl rfl (fun v19 => ?_)
                refine al_val (ov_assign rfl rfl) ?_
                refine al_nil ?_
                exact aq_join (v19, (l3x5 ++ ([(UInt8.ofNat ((0 : Int)).toNat)])), (IntKind.i64.wrap (l3i6 + (1 : Int)))) h (fun w a hm hs => norm hm hs [1] [] [(0, (str a0)), (5, v19), (6, (Value.int .i64 (IntKind.i64.wrap (l3i6 + (1 : Int)))))] (by decide) ⟨rfl, rfl, rfl, trivial⟩)
              · replace h := bif_f hb15 h
                refine aw_seq ?_
                refine aw_region ?_
                refine al_val (ov_assign rfl rfl) ?_
                refine al_val (ov_assign rfl rfl) ?_
                refine al_val (ov_assign rfl rfl) ?_
                refine al_nil ?_
                refine aq_then ?_
                refine aw_ret ?_
                refine aq_block_ret ?_
                refine aq_then_ret ?_
                refine aq_then_ret ?_
                refine aq_block_ret ?_
                refine aq_then_ret ?_
                refine aq_then_ret ?_
                refine aq_block_ret ?_
                refine aq_then_ret ?_
                obtain rfl := Option.some.inj h
                exact fn_ret () [] [] rfl rfl rfl rfl (res3 rfl rfl rfl rfl) rfl rfl rfl (by decide)
        · replace h := bif_f hb11 h
          refine aw_region ?_
          refine al_val (ov_move rfl rfl) ?_
          refine al_val (ov_move rfl rfl) ?_
          refine al_val (ov_move rfl rfl) ?_
          obtain ⟨hc20, h⟩ := req_some h
          refine al_val (ov_strIdx hc20.1 hc20.2 Tryd.underlying9 rfl rfl rfl) ?_
          obtain ⟨hc22, h⟩ := req_some h
          refine al_buildSlice (τ := tyU8) (e := 5) (k := 1) (sz := 0) (by_ := 0) (z := undef) (cs := [(Value.int .u8 (En.bAt a0 l3i6))]) (xs := [(UInt8.ofNat ((En.bAt a0 l3i6)).toNat)]) rfl (by decide) (fun w a hm hs => ⟨([(Value.int .u8 (En.bAt a0 l3i6))]).toArray, rfl, by simp only [List.map_toArray, List.map_cons, List.map_nil, hs.ev (x := .tmp 40) rfl]; exact run_bs [(Value.int .u8 (En.bAt a0 l3i6))] [(Value.int .u8 (En.bAt a0 l3i6))] Tryd.underlying89 to5 rfl rfl (bs_cons (l := [(Value.int .u8 (En.bAt a0 l3i6))]) (cs := []) (cv_rfl rfl) rfl bs_nil) hm⟩) (fun hm => ⟨_, _, rfl, (fun _ => u8_rep hc22) hm, rfl⟩) rfl (fun v21 => ?_)
          obtain ⟨hc23, h⟩ := req_some h
          refine al_append 1 hc23.1 hc23.2 rfl (src_own (i := 1) 0 rfl) rfl rfl Tryd.underlying89 to5 rfl rfl rfl (fun v24 => ?_)
          refine al_val (ov_assign rfl rfl) ?_
          refine al_nil ?_
          exact aq_join (v24, (l3x5 ++ ([(UInt8.ofNat ((En.bAt a0 l3i6)).toNat)])), l3i6) h (fun w a hm hs => norm hm hs [1] [] [(0, (str a0)), (5, v24), (6, (Value.int .i64 l3i6))] (by decide) ⟨rfl, rfl, rfl, trivial⟩)
    · replace h := bif_f hb6 h
      refine aw_exit ?_
      refine aq_then_exit ?_
      refine aq_then_exit ?_
      refine aq_block_exit ?_
      exact aq_join () h (fun w a hm hs => norm hm hs [] [] [] (by decide) trivial)
def f_line_decode (fu : Nat) (a0 : (List UInt8)) : Option S_api_Packet := (bif (a0 == ([] : List UInt8)) then (some (S_api_Packet.mk (0 : Int) (0 : Int) ([] : List UInt8))) else (req (0 ≤ (1 : Int) ∧ (1 : Int) ≤ (a0.length : Int)) (opt (f_num_Get fu (a0.drop ((1 : Int)).toNat)) fun (r5 : (Int × Int × Int)) => (lt (fun (j6b24 : Bool) => (bif j6b24 then (some (S_api_Packet.mk (0 : Int) (0 : Int) ([] : List UInt8))) else (req (0 ≤ (IntKind.i64.wrap ((1 : Int) + r5.2.1)) ∧ (IntKind.i64.wrap ((1 : Int) + r5.2.1)) ≤ (a0.length : Int)) (opt (f_num_GetText fu (a0.drop ((IntKind.i64.wrap ((1 : Int) + r5.2.1))).toNat)) fun (r11 : ((List UInt8) × Int × Int)) => (req (0 ≤ (0 : Int) ∧ (0 : Int) < (a0.length : Int)) (some (S_api_Packet.mk (IntKind.i64.wrap (En.bAt a0 (0 : Int))) (IntKind.i64.wrap r5.1) r11.1))))))) fun (kk7 : Bool → Option S_api_Packet) => (bif (r5.2.2 != (0 : Int)) then (kk7 true) else (kk7 (decide (r5.1 > (2000 : Int)))))))))
set_option maxRecDepth 100000 in
theorem f_line_decode_ok (fu : Nat) (a0 : (List UInt8)) {r : S_api_Packet} (h : f_line_decode fu a0 = some r) : FnOk Tryd.prog 74 [(str a0)] [] [] (fun (i : Unit) => { val := (ag [(Value.int .i64 r.Kind), (Value.int .i64 r.Seq), (str r.Text)]) }) := by
  unfold f_line_decode at h
  refine fn_enter Tryd.func74 rfl Tryd.ntmps74 rfl (fun w0 Z0 => ?_)
  refine aw_seq ?_
  refine aw_region ?_
  refine al_alloc (zs := [(Value.int .i64 (0 : Int)), (Value.int .i64 (0 : Int)), (str ([] : List UInt8))]) (zeroOf_to to52) rfl rfl (fun g1 => ?_)
  refine al_nil ?_
  refine aq_then ?_
  refine aw_seq ?_
  refine aw_seq ?_
  refine aw_region ?_
  refine al_val (ov_move rfl rfl) ?_
  refine al_val (ov_strCmp rfl rfl rfl rfl) ?_
  refine al_nil ?_
  refine aq_then ?_
  refine aw_cond rfl (fun hb2 => ?_) (fun hb2 => ?_)
  · replace h := bif_t hb2 h
    refine aw_seq ?_
    refine aw_region ?_
    refine al_val (ov_build (cells := ([(Value.int .i64 (0 : Int)), (Value.int .i64 (0 : Int)), (str ([] : List UInt8))]).toArray) (cs := [(Value.int .i64 (0 : Int)), (Value.int .i64 (0 : Int)), (str ([] : List UInt8))]) rfl (fun w a hm hs => by simp only [List.map_toArray, List.map_cons, List.map_nil, List.toList_toArray]; kernel_rfl)) ?_
    refine al_store (i := 0) (vs := [(Value.int .i64 (0 : Int)), (Value.int .i64 (0 : Int)), (str ([] : List UInt8))]) (cs' := [(Value.int .i64 (0 : Int)), (Value.int .i64 (0 : Int)), (str ([] : List UInt8))]) rfl rfl rfl sz52 (cv_rfl rfl) rfl (co_val rfl (co_val rfl (co_val rfl co_nil))) (Nat.le_of_ble_eq_true rfl) rfl rfl ?_
    refine al_nil ?_
    refine aq_then ?_
    refine aw_ret ?_
    refine aq_then_ret ?_
    obtain rfl := Option.some.inj h
    exact fn_ret () [] [] rfl rfl rfl rfl (resC rfl (resB (i := 0) rfl rfl Tryd.underlying52 sz52 rfl rfl rfl (resN)) rfl) rfl rfl rfl (by decide)
  · replace h := bif_f hb2 h
    refine aw_skip ?_
    refine aq_then ?_
    refine aw_seq ?_
    refine aw_region ?_
    refine al_val (ov_move rfl rfl) ?_
    obtain ⟨hc3, h⟩ := req_some h
    refine al_val (ov_strFrom hc3.1 hc3.2 Tryd.underlying9 rfl rfl rfl) ?_
    obtain ⟨r5, hc4, h⟩ := opt_some h
    refine al_call (vs := [(str (a0.drop ((1 : Int)).toNat))]) (f_num_Get_ok fu (a0.drop ((1 : Int)).toNat) hc4) [] [] [0] pre_nil rfl (by simp) (by decide) (.inl rfl) rfl Tryd.func58 rfl rfl rfl (fun _ => ?_)
    refine al_val (ov_move rfl rfl) ?_
    refine al_val (ov_extract rfl rfl rfl) ?_
    refine al_val (ov_extract rfl rfl rfl) ?_
    refine al_val (ov_extract rfl rfl rfl) ?_
    refine al_val (ov_assign rfl rfl) ?_
    refine al_val (ov_assign rfl rfl) ?_
    refine al_val (ov_assign rfl rfl) ?_
    refine al_nil ?_
    refine aq_then ?_
    refine aw_seq ?_
    obtain ⟨kk7, hkk7, h⟩ := lt_some h
    refine aw_seq_join (ι := Bool) (fun i => (memOf w0 Z0 [] [(oBox g1 52 [(Value.int .i64 (0 : Int)), (Value.int .i64 (0 : Int)), (str ([] : List UInt8))])] [])) (fun i => (tab [(0, (str a0)), (2, (ptr g1 0)), (3, (Value.int .u64 r5.1)), (4, (Value.int .i64 r5.2.1)), (24, (Value.bool i))])) (fun i => kk7 i = some r) ?_ ?_
    · rintro j6b24 h
      have h : kk7 j6b24 = some r := h
      rw [hkk7] at h
      dsimp only at h
      clear hkk7
      refine aw_show (m := (memOf w0 Z0 [] [(oBox g1 52 [(Value.int .i64 (0 : Int)), (Value.int .i64 (0 : Int)), (str ([] : List UInt8))])] [])) (S := (tab [(0, (str a0)), (2, (ptr g1 0)), (3, (Value.int .u64 r5.1)), (4, (Value.int .i64 r5.2.1)), (24, (Value.bool j6b24))])) ?_
      refine aw_cond rfl (fun hb8 => ?_) (fun hb8 => ?_)
      · replace h := bif_t hb8 h
        refine aw_seq ?_
        refine aw_region ?_
        refine al_val (ov_build (cells := ([(Value.int .i64 (0 : Int)), (Value.int .i64 (0 : Int)), (str ([] : List UInt8))]).toArray) (cs := [(Value.int .i64 (0 : Int)), (Value.int .i64 (0 : Int)), (str ([] : List UInt8))]) rfl (fun w a hm hs => by simp only [List.map_toArray, List.map_cons, List.map_nil, List.toList_toArray]; kernel_rfl)) ?_
        refine al_store (i := 0) (vs := [(Value.int .i64 (0 : Int)), (Value.int .i64 (0 : Int)), (str ([] : List UInt8))]) (cs' := [(Value.int .i64 (0 : Int)), (Value.int .i64 (0 : Int)), (str ([] : List UInt8))]) rfl rfl rfl sz52 (cv_rfl rfl) rfl (co_val rfl (co_val rfl (co_val rfl co_nil))) (Nat.le_of_ble_eq_true rfl) rfl rfl ?_
        refine al_nil ?_
        refine aq_then ?_
        refine aw_ret ?_
        refine aq_then_ret ?_
        obtain rfl := Option.some.inj h
        exact fn_ret () [] [] rfl rfl rfl rfl (resC rfl (resB (i := 0) rfl rfl Tryd.underlying52 sz52 rfl rfl rfl (resN)) rfl) rfl rfl rfl (by decide)
      · replace h := bif_f hb8 h
        refine aw_skip ?_
        refine aq_then ?_
        refine aw_seq ?_
        refine aw_region ?_
        refine al_val (ov_move rfl rfl) ?_
        refine al_val (ov_move rfl rfl) ?_
        refine al_val (ov_int rfl rfl rfl rfl) ?_
        obtain ⟨hc9, h⟩ := req_some h
        refine al_val (ov_strFrom hc9.1 hc9.2 Tryd.underlying9 rfl rfl rfl) ?_
        obtain ⟨r11, hc10, h⟩ := opt_some h
        refine al_call (vs := [(str (a0.drop ((IntKind.i64.wrap ((1 : Int) + r5.2.1))).toNat))]) (f_num_GetText_ok fu (a0.drop ((IntKind.i64.wrap ((1 : Int) + r5.2.1))).toNat) hc10) [] [] [0] pre_nil rfl (by simp) (by decide) (.inl rfl) rfl Tryd.func115 rfl rfl rfl (fun _ => ?_)
        refine al_val (ov_move rfl rfl) ?_
        refine al_val (ov_extract rfl rfl rfl) ?_
        refine al_val (ov_extract rfl rfl rfl) ?_
        refine al_val (ov_extract rfl rfl rfl) ?_
        refine al_val (ov_assign rfl rfl) ?_
        refine al_val (ov_assign rfl rfl) ?_
        refine al_val (ov_assign rfl rfl) ?_
        refine al_nil ?_
        refine aq_then ?_
        refine aw_seq ?_
        refine aw_region ?_
        refine al_val (ov_move rfl rfl) ?_
        obtain ⟨hc12, h⟩ := req_some h
        refine al_val (ov_strIdx hc12.1 hc12.2 Tryd.underlying9 rfl rfl rfl) ?_
        refine al_val (ov_convInt (by rw [Tryd.underlying5]; rfl) Tryd.underlying3 rfl rfl) ?_
        refine al_val (ov_move rfl rfl) ?_
        refine al_val (ov_convInt (by rw [Tryd.underlying87]; rfl) Tryd.underlying3 rfl rfl) ?_
        refine al_val (ov_move rfl rfl) ?_
        refine al_val (ov_build (cells := ([(Value.int .i64 (IntKind.i64.wrap (En.bAt a0 (0 : Int)))), (Value.int .i64 (IntKind.i64.wrap r5.1)), (str r11.1)]).toArray) (cs := [(Value.int .i64 (IntKind.i64.wrap (En.bAt a0 (0 : Int)))), (Value.int .i64 (IntKind.i64.wrap r5.1)), (str r11.1)]) rfl (fun w a hm hs => by simp only [List.map_toArray, List.map_cons, List.map_nil, List.toList_toArray, hs.ev (x := .tmp 37) rfl, hs.ev (x := .tmp 39) rfl, hs.ev (x := .tmp 40) rfl]; kernel_rfl)) ?_
        refine al_store (i := 0) (vs := [(Value.int .i64 (IntKind.i64.wrap (En.bAt a0 (0 : Int)))), (Value.int .i64 (IntKind.i64.wrap r5.1)), (str r11.1)]) (cs' := [(Value.int .i64 (IntKind.i64.wrap (En.bAt a0 (0 : Int)))), (Value.int .i64 (IntKind.i64.wrap r5.1)), (str r11.1)]) rfl rfl rfl sz52 (cv_rfl rfl) rfl (co_val rfl (co_val rfl (co_val rfl co_nil))) (Nat.le_of_ble_eq_true rfl) rfl rfl ?_
        refine al_nil ?_
        refine aq_then ?_
        refine aw_ret ?_
        obtain rfl := Option.some.inj h
        exact fn_ret () [] [] rfl rfl rfl rfl (resC rfl (resB (i := 0) rfl rfl Tryd.underlying52 sz52 rfl rfl rfl (resN)) rfl) rfl rfl rfl (by decide)
    · clear hkk7
      refine aw_region ?_
      refine al_val (ov_move rfl rfl) ?_
      refine al_val (ov_int rfl rfl rfl rfl) ?_
      refine al_val (ov_move rfl rfl) ?_
      refine al_caseB 21 rfl (fun hb13 => ?_) (fun hb13 => ?_)
      · replace h := bif_t hb13 h
        refine al_skip ?_
        refine al_skip ?_
        refine al_val (ov_pick_t rfl rfl rfl) ?_
        refine al_nil ?_
        exact aq_join true h (fun w a hm hs => norm hm hs [0] [] [(0, (str a0)), (2, (ptr g1 0)), (3, (Value.int .u64 r5.1)), (4, (Value.int .i64 r5.2.1)), (24, (Value.bool true))] (by decide) ⟨rfl, rfl, rfl, rfl, rfl, trivial⟩)
      · replace h := bif_f hb13 h
        refine al_val (ov_move rfl rfl) ?_
        refine al_val (ov_int rfl rfl rfl rfl) ?_
        refine al_val (ov_pick_f rfl rfl rfl) ?_
        refine al_nil ?_
        exact aq_join (decide (r5.1 > (2000 : Int))) h (fun w a hm hs => norm hm hs [0] [] [(0, (str a0)), (2, (ptr g1 0)), (3, (Value.int .u64 r5.1)), (4, (Value.int .i64 r5.2.1)), (24, (Value.bool (decide (r5.1 > (2000 : Int)))))] (by decide) ⟨rfl, rfl, rfl, rfl, rfl, trivial⟩)
def f_line_Read (fu : Nat) (a0 : (List UInt8)) : Option (S_api_Packet × Int) := (bif (decide ((a0.length : Int) < (8 : Int))) then (some ((S_api_Packet.mk (0 : Int) (0 : Int) ([] : List UInt8)), (3 : Int))) else (req (0 ≤ (IntKind.i64.wrap ((a0.length : Int) - (8 : Int))) ∧ (IntKind.i64.wrap ((a0.length : Int) - (8 : Int))) ≤ (a0.length : Int)) (req (0 ≤ (IntKind.i64.wrap ((a0.length : Int) - (8 : Int))) ∧ (IntKind.i64.wrap ((a0.length : Int) - (8 : Int))) ≤ (a0.length : Int)) (req ((a0.drop ((IntKind.i64.wrap ((a0.length : Int) - (8 : Int)))).toNat).length ≤ 9223372036854775807) (req (8 ≤ (a0.drop ((IntKind.i64.wrap ((a0.length : Int) - (8 : Int)))).toNat).length) (opt (f_mix_ID fu (a0.take ((IntKind.i64.wrap ((a0.length : Int) - (8 : Int)))).toNat)) fun (r10 : A8u8) => (bif (!(r10 == (ofA8u8 (a0.drop ((IntKind.i64.wrap ((a0.length : Int) - (8 : Int)))).toNat)))) then (some ((S_api_Packet.mk (0 : Int) (0 : Int) ([] : List UInt8)), (6 : Int))) else (req (0 ≤ (IntKind.i64.wrap ((a0.length : Int) - (8 : Int))) ∧ (IntKind.i64.wrap ((a0.length : Int) - (8 : Int))) ≤ (a0.length : Int)) (opt (f_line_decode fu (a0.take ((IntKind.i64.wrap ((a0.length : Int) - (8 : Int)))).toNat)) fun (r14 : S_api_Packet) => (opt (f_line_Pack fu r14) fun (r17 : ((List UInt8) × Int)) => (lt (fun (j18b42 : Bool) => (bif j18b42 then (some ((S_api_Packet.mk (0 : Int) (0 : Int) ([] : List UInt8)), (4 : Int))) else (some (r14, (0 : Int))))) fun (kk19 : Bool → Option (S_api_Packet × Int)) => (bif (r17.2 != (0 : Int)) then (kk19 true) else (kk19 (!(r17.1 == a0)))))))))))))))
set_option maxRecDepth 100000 in
theorem f_line_Read_ok (fu : Nat) (a0 : (List UInt8)) {r : (S_api_Packet × Int)} (h : f_line_Read fu a0 = some r) : FnOk Tryd.prog 30 [(str a0)] [uMax] [] (fun (i : Unit) => { val := (Value.tuple #[(ag [(Value.int .i64 r.1.Kind), (Value.int .i64 r.1.Seq), (str r.1.Text)]), (Value.int .i64 r.2)]) }) := by
  unfold f_line_Read at h
  refine fn_enter Tryd.func30 rfl Tryd.ntmps30 rfl (fun w0 Z0 => ?_)
  refine aw_seq ?_
  refine aw_region ?_
  refine al_alloc (zs := [(Value.int .i64 (0 : Int)), (Value.int .i64 (0 : Int)), (str ([] : List UInt8))]) (zeroOf_to to52) rfl rfl (fun g1 => ?_)
  refine al_val (ov_assign rfl rfl) ?_
  refine al_nil ?_
  refine aq_then ?_
  refine aw_seq ?_
  refine aw_seq ?_
  refine aw_region ?_
  refine al_val (ov_move rfl rfl) ?_
  refine al_val (ov_strLen Tryd.underlying9 rfl rfl) ?_
  refine al_val (ov_int rfl rfl rfl rfl) ?_
  refine al_nil ?_
  refine aq_then ?_
  refine aw_cond rfl (fun hb2 => ?_) (fun hb2 => ?_)
  · replace h := bif_t hb2 h
    refine aw_seq ?_
    refine aw_region ?_
    refine al_val (ov_build (cells := ([(Value.int .i64 (0 : Int)), (Value.int .i64 (0 : Int)), (str ([] : List UInt8))]).toArray) (cs := [(Value.int .i64 (0 : Int)), (Value.int .i64 (0 : Int)), (str ([] : List UInt8))]) rfl (fun w a hm hs => by simp only [List.map_toArray, List.map_cons, List.map_nil, List.toList_toArray]; kernel_rfl)) ?_
    refine al_store (i := 0) (vs := [(Value.int .i64 (0 : Int)), (Value.int .i64 (0 : Int)), (str ([] : List UInt8))]) (cs' := [(Value.int .i64 (0 : Int)), (Value.int .i64 (0 : Int)), (str ([] : List UInt8))]) rfl rfl rfl sz52 (cv_rfl rfl) rfl (co_val rfl (co_val rfl (co_val rfl co_nil))) (Nat.le_of_ble_eq_true rfl) rfl rfl ?_
    refine al_val (ov_assign rfl rfl) ?_
    refine al_nil ?_
    refine aq_then ?_
    refine aw_ret ?_
    refine aq_then_ret ?_
    obtain rfl := Option.some.inj h
    exact fn_ret () [] [] rfl rfl rfl rfl (resC rfl (resB (i := 0) rfl rfl Tryd.underlying52 sz52 rfl rfl rfl (resT rfl (resN))) rfl) rfl rfl rfl (by decide)
  · replace h := bif_f hb2 h
    refine aw_skip ?_
    refine aq_then ?_
    refine aw_seq ?_
    refine aw_region ?_
    refine al_val (ov_move rfl rfl) ?_
    refine al_val (ov_strLen Tryd.underlying9 rfl rfl) ?_
    refine al_val (ov_int rfl rfl rfl rfl) ?_
    refine al_val (ov_assign rfl rfl) ?_
    refine al_nil ?_
    refine aq_then ?_
    refine aw_seq ?_
    refine aw_seq ?_
    obtain ⟨hc3, h⟩ := req_some h
    obtain ⟨hc4, h⟩ := req_some h
    obtain ⟨hc5, h⟩ := req_some h
    obtain ⟨hc8, h⟩ := req_some h
    refine aw_region_open [⟨0, 15, Unit, fun _ => { val := (str a0) }⟩, ⟨1, 16, Unit, fun _ => { val := (Value.int .i64 (IntKind.i64.wrap ((a0.length : Int) - (8 : Int)))) }⟩, ⟨2, 17, Unit, fun _ => { val := (str (a0.take ((IntKind.i64.wrap ((a0.length : Int) - (8 : Int)))).toNat)) }⟩, ⟨4, 19, Unit, fun _ => { val := (str a0) }⟩, ⟨5, 20, Unit, fun _ => { val := (Value.int .i64 (IntKind.i64.wrap ((a0.length : Int) - (8 : Int)))) }⟩, ⟨6, 21, Unit, fun _ => { val := (str (a0.drop ((IntKind.i64.wrap ((a0.length : Int) - (8 : Int)))).toNat)) }⟩, ⟨7, 22, Value, fun (i : Value) => { val := i, fz := [(fDat (tyList tyU8) [i] (a0.drop ((IntKind.i64.wrap ((a0.length : Int) - (8 : Int)))).toNat))] }⟩, ⟨8, 23, Value, fun (i : Value) => { val := i, fz := [(fPtr tyA8u8 i (ofA8u8 (a0.drop ((IntKind.i64.wrap ((a0.length : Int) - (8 : Int)))).toNat)))] }⟩, ⟨9, 24, Unit, fun _ => { val := (ag (cA8u8 (ofA8u8 (a0.drop ((IntKind.i64.wrap ((a0.length : Int) - (8 : Int)))).toNat)))) }⟩] (tab [(0, (str a0)), (2, (ptr g1 0)), (4, (Value.int .i64 (IntKind.i64.wrap ((a0.length : Int) - (8 : Int)))))]) mixed (fun a hs => hs.tab _ (allT_mem ⟨rfl, rfl, rfl, trivial⟩)) ?_
    refine ta_show (m := (memOf w0 Z0 [] [(oBox g1 52 [(Value.int .i64 (0 : Int)), (Value.int .i64 (0 : Int)), (str ([] : List UInt8))])] [uMax])) (S := (tab [(0, (str a0)), (2, (ptr g1 0)), (4, (Value.int .i64 (IntKind.i64.wrap ((a0.length : Int) - (8 : Int)))))])) ?_
    refine ta_step 3 _ [0, 1, 2, 4, 5, 6, 7, 8, 9] [15, 16, 17, 19, 20, 21, 22, 23, 24] [0, 1, 2] [10] [⟨0, 15, Unit, fun _ => { val := (str a0) }⟩, ⟨1, 16, Unit, fun _ => { val := (Value.int .i64 (IntKind.i64.wrap ((a0.length : Int) - (8 : Int)))) }⟩, ⟨2, 17, Unit, fun _ => { val := (str (a0.take ((IntKind.i64.wrap ((a0.length : Int) - (8 : Int)))).toNat)) }⟩] [⟨4, 19, Unit, fun _ => { val := (str a0) }⟩, ⟨5, 20, Unit, fun _ => { val := (Value.int .i64 (IntKind.i64.wrap ((a0.length : Int) - (8 : Int)))) }⟩, ⟨6, 21, Unit, fun _ => { val := (str (a0.drop ((IntKind.i64.wrap ((a0.length : Int) - (8 : Int)))).toNat)) }⟩, ⟨7, 22, Value, fun (i : Value) => { val := i, fz := [(fDat (tyList tyU8) [i] (a0.drop ((IntKind.i64.wrap ((a0.length : Int) - (8 : Int)))).toNat))] }⟩, ⟨8, 23, Value, fun (i : Value) => { val := i, fz := [(fPtr tyA8u8 i (ofA8u8 (a0.drop ((IntKind.i64.wrap ((a0.length : Int) - (8 : Int)))).toNat)))] }⟩, ⟨9, 24, Unit, fun _ => { val := (ag (cA8u8 (ofA8u8 (a0.drop ((IntKind.i64.wrap ((a0.length : Int) - (8 : Int)))).toNat)))) }⟩] rfl rfl rfl (by kernel_rfl) rfl rfl rfl ⟨⟨_, rfl, [], rfl, by
    intro X_ Y_ F_ K_ hK_
    refine al_show (m := Mem.plus (memOf w0 Z0 [] [(oBox g1 52 [(Value.int .i64 (0 : Int)), (Value.int .i64 (0 : Int)), (str ([] : List UInt8))])] [uMax]) X_ Y_) (S := over (tab [(0, (str a0)), (2, (ptr g1 0)), (4, (Value.int .i64 (IntKind.i64.wrap ((a0.length : Int) - (8 : Int)))))]) F_) ?_
    refine al_val (ov_move rfl rfl) ?_
    refine al_nil ?_
    exact fr_fin hK_ ()⟩, ⟨_, rfl, [], rfl, by
    intro X_ Y_ F_ K_ hK_
    refine al_show (m := Mem.plus (memOf w0 Z0 [] [(oBox g1 52 [(Value.int .i64 (0 : Int)), (Value.int .i64 (0 : Int)), (str ([] : List UInt8))])] [uMax]) X_ Y_) (S := over (tab [(0, (str a0)), (2, (ptr g1 0)), (4, (Value.int .i64 (IntKind.i64.wrap ((a0.length : Int) - (8 : Int)))))]) F_) ?_
    refine al_val (ov_move rfl rfl) ?_
    refine al_nil ?_
    exact fr_fin hK_ ()⟩, ⟨_, rfl, [0, 1], rfl, by
    intro _
    intro _
    intro X_ Y_ F_ K_ hK_
    refine al_show (m := Mem.plus (memOf w0 Z0 [] [(oBox g1 52 [(Value.int .i64 (0 : Int)), (Value.int .i64 (0 : Int)), (str ([] : List UInt8))])] [uMax]) X_ Y_) (S := over (put (put (tab [(0, (str a0)), (2, (ptr g1 0)), (4, (Value.int .i64 (IntKind.i64.wrap ((a0.length : Int) - (8 : Int)))))]) 15 (str a0)) 16 (Value.int .i64 (IntKind.i64.wrap ((a0.length : Int) - (8 : Int))))) F_) ?_
    refine al_val (ov_strTo hc3.1 hc3.2 Tryd.underlying9 rfl rfl rfl) ?_
    refine al_nil ?_
    exact fr_fin hK_ ()⟩, ⟨_, rfl, [], rfl, by
    intro X_ Y_ F_ K_ hK_
    refine al_show (m := Mem.plus (memOf w0 Z0 [] [(oBox g1 52 [(Value.int .i64 (0 : Int)), (Value.int .i64 (0 : Int)), (str ([] : List UInt8))])] [uMax]) X_ Y_) (S := over (tab [(0, (str a0)), (2, (ptr g1 0)), (4, (Value.int .i64 (IntKind.i64.wrap ((a0.length : Int) - (8 : Int)))))]) F_) ?_
    refine al_val (ov_move rfl rfl) ?_
    refine al_nil ?_
    exact fr_fin hK_ ()⟩, ⟨_, rfl, [], rfl, by
    intro X_ Y_ F_ K_ hK_
    refine al_show (m := Mem.plus (memOf w0 Z0 [] [(oBox g1 52 [(Value.int .i64 (0 : Int)), (Value.int .i64 (0 : Int)), (str ([] : List UInt8))])] [uMax]) X_ Y_) (S := over (tab [(0, (str a0)), (2, (ptr g1 0)), (4, (Value.int .i64 (IntKind.i64.wrap ((a0.length : Int) - (8 : Int)))))]) F_) ?_
    refine al_val (ov_move rfl rfl) ?_
    refine al_nil ?_
    exact fr_fin hK_ ()⟩, ⟨_, rfl, [3, 4], rfl, by
    intro _
    intro _
    intro X_ Y_ F_ K_ hK_
    refine al_show (m := Mem.plus (memOf w0 Z0 [] [(oBox g1 52 [(Value.int .i64 (0 : Int)), (Value.int .i64 (0 : Int)), (str ([] : List UInt8))])] [uMax]) X_ Y_) (S := over (put (put (tab [(0, (str a0)), (2, (ptr g1 0)), (4, (Value.int .i64 (IntKind.i64.wrap ((a0.length : Int) - (8 : Int)))))]) 19 (str a0)) 20 (Value.int .i64 (IntKind.i64.wrap ((a0.length : Int) - (8 : Int))))) F_) ?_
    refine al_val (ov_strFrom hc4.1 hc4.2 Tryd.underlying9 rfl rfl rfl) ?_
    refine al_nil ?_
    exact fr_fin hK_ ()⟩, ⟨_, rfl, [5], rfl, by
    intro _
    intro X_ Y_ F_ K_ hK_
    refine al_show (m := Mem.plus (memOf w0 Z0 [] [(oBox g1 52 [(Value.int .i64 (0 : Int)), (Value.int .i64 (0 : Int)), (str ([] : List UInt8))])] [uMax]) X_ Y_) (S := over (put (tab [(0, (str a0)), (2, (ptr g1 0)), (4, (Value.int .i64 (IntKind.i64.wrap ((a0.length : Int) - (8 : Int)))))]) 21 (str (a0.drop ((IntKind.i64.wrap ((a0.length : Int) - (8 : Int)))).toNat))) F_) ?_
    refine al_bytes hc5 rfl Tryd.underlying9 Tryd.underlying89 Tryd.underlying5 rfl (fun s6 => ?_)
    refine al_nil ?_
    exact fr_fin hK_ s6⟩, ⟨_, rfl, [6], rfl, by
    intro s6
    intro X_ Y_ F_ K_ hK_
    refine al_show (m := Mem.plus (memOf w0 Z0 [] [(oBox g1 52 [(Value.int .i64 (0 : Int)), (Value.int .i64 (0 : Int)), (str ([] : List UInt8))])] [(fDat (tyList tyU8) [s6] (a0.drop ((IntKind.i64.wrap ((a0.length : Int) - (8 : Int)))).toNat)), uMax]) X_ Y_) (S := over (put (tab [(0, (str a0)), (2, (ptr g1 0)), (4, (Value.int .i64 (IntKind.i64.wrap ((a0.length : Int) - (8 : Int)))))]) 22 s6) F_) ?_
    refine al_s2ap (τA := tyA8u8) (x := (ofA8u8 (a0.drop ((IntKind.i64.wrap ((a0.length : Int) - (8 : Int)))).toNat))) 0 8 hc8 rfl (fun h9 => oflA8u8 hc8 h9) rfl rfl Tryd.underlying49 rfl (fun p7 => ?_)
    refine al_nil ?_
    exact fr_fin hK_ p7⟩, ⟨_, rfl, [7], rfl, by
    intro p7
    intro X_ Y_ F_ K_ hK_
    refine al_show (m := Mem.plus (memOf w0 Z0 [] [(oBox g1 52 [(Value.int .i64 (0 : Int)), (Value.int .i64 (0 : Int)), (str ([] : List UInt8))])] [(fPtr tyA8u8 p7 (ofA8u8 (a0.drop ((IntKind.i64.wrap ((a0.length : Int) - (8 : Int)))).toNat))), uMax]) X_ Y_) (S := over (put (tab [(0, (str a0)), (2, (ptr g1 0)), (4, (Value.int .i64 (IntKind.i64.wrap ((a0.length : Int) - (8 : Int)))))]) 23 p7) F_) ?_
    refine al_val (ov_loadP (ds := (cA8u8 (ofA8u8 (a0.drop ((IntKind.i64.wrap ((a0.length : Int) - (8 : Int)))).toNat)))) 0 rfl encA8u8 rfl Tryd.underlying49 sz49 rfl rfl rfl) ?_
    refine al_nil ?_
    exact fr_fin hK_ ()⟩, trivial⟩ ?_
    intro _
    intro _
    intro _
    intro X_ Y_ F_ K_ hK_
    refine al_show (m := Mem.plus (memOf w0 Z0 [] [(oBox g1 52 [(Value.int .i64 (0 : Int)), (Value.int .i64 (0 : Int)), (str ([] : List UInt8))])] [uMax]) X_ Y_) (S := over (put (put (put (tab [(0, (str a0)), (2, (ptr g1 0)), (4, (Value.int .i64 (IntKind.i64.wrap ((a0.length : Int) - (8 : Int)))))]) 15 (str a0)) 16 (Value.int .i64 (IntKind.i64.wrap ((a0.length : Int) - (8 : Int))))) 17 (str (a0.take ((IntKind.i64.wrap ((a0.length : Int) - (8 : Int)))).toNat))) F_) ?_
    obtain ⟨r10, hc9, h⟩ := opt_some h
    refine al_callX (vs := [(str (a0.take ((IntKind.i64.wrap ((a0.length : Int) - (8 : Int)))).toNat))]) (f_mix_ID_ok fu (a0.take ((IntKind.i64.wrap ((a0.length : Int) - (8 : Int)))).toNat) hc9) [] [] [0] pre_nil rfl (by simp) (by decide) rfl (.inl rfl) rfl Tryd.func55 rfl rfl rfl (fun _ => ?_)
    refine al_nil ?_
    refine aq_show (m := Mem.plus (memOf w0 Z0 [] [(oBox g1 52 [(Value.int .i64 (0 : Int)), (Value.int .i64 (0 : Int)), (str ([] : List UInt8))])] [uMax]) X_ Y_) ?_
    refine aq_next hK_ [0] [0] [(0, (str a0)), (2, (ptr g1 0)), (4, (Value.int .i64 (IntKind.i64.wrap ((a0.length : Int) - (8 : Int))))), (18, (ag (cA8u8 r10)))] [19, 20, 21, 22, 23, 24] [⟨10, 25, Unit, fun _ => { val := (Value.bool (!(r10 == (ofA8u8 (a0.drop ((IntKind.i64.wrap ((a0.length : Int) - (8 : Int)))).toNat))))) }⟩] rfl rfl (by decide) rfl ⟨rfl, rfl, rfl, rfl, trivial⟩ ⟨rfl, rfl, rfl, rfl, rfl, rfl, trivial⟩ ?_
    clear hK_ K_ F_ X_ Y_
    refine ta_show (m := (memOf w0 Z0 [] [(oBox g1 52 [(Value.int .i64 (0 : Int)), (Value.int .i64 (0 : Int)), (str ([] : List UInt8))])] [uMax])) (S := (tab [(0, (str a0)), (2, (ptr g1 0)), (4, (Value.int .i64 (IntKind.i64.wrap ((a0.length : Int) - (8 : Int))))), (18, (ag (cA8u8 r10)))])) ?_
    refine ta_end [4, 5, 6, 7, 8, 9, 10] [19, 20, 21, 22, 23, 24, 25] rfl rfl (by kernel_rfl) rfl ⟨⟨_, rfl, [], rfl, by
    intro X_ Y_ F_ K_ hK_
    refine al_show (m := Mem.plus (memOf w0 Z0 [] [(oBox g1 52 [(Value.int .i64 (0 : Int)), (Value.int .i64 (0 : Int)), (str ([] : List UInt8))])] [uMax]) X_ Y_) (S := over (tab [(0, (str a0)), (2, (ptr g1 0)), (4, (Value.int .i64 (IntKind.i64.wrap ((a0.length : Int) - (8 : Int))))), (18, (ag (cA8u8 r10)))]) F_) ?_
    refine al_val (ov_move rfl rfl) ?_
    refine al_nil ?_
    exact fr_fin hK_ ()⟩, ⟨_, rfl, [], rfl, by
    intro X_ Y_ F_ K_ hK_
    refine al_show (m := Mem.plus (memOf w0 Z0 [] [(oBox g1 52 [(Value.int .i64 (0 : Int)), (Value.int .i64 (0 : Int)), (str ([] : List UInt8))])] [uMax]) X_ Y_) (S := over (tab [(0, (str a0)), (2, (ptr g1 0)), (4, (Value.int .i64 (IntKind.i64.wrap ((a0.length : Int) - (8 : Int))))), (18, (ag (cA8u8 r10)))]) F_) ?_
    refine al_val (ov_move rfl rfl) ?_
    refine al_nil ?_
    exact fr_fin hK_ ()⟩, ⟨_, rfl, [0, 1], rfl, by
    intro _
    intro _
    intro X_ Y_ F_ K_ hK_
    refine al_show (m := Mem.plus (memOf w0 Z0 [] [(oBox g1 52 [(Value.int .i64 (0 : Int)), (Value.int .i64 (0 : Int)), (str ([] : List UInt8))])] [uMax]) X_ Y_) (S := over (put (put (tab [(0, (str a0)), (2, (ptr g1 0)), (4, (Value.int .i64 (IntKind.i64.wrap ((a0.length : Int) - (8 : Int))))), (18, (ag (cA8u8 r10)))]) 19 (str a0)) 20 (Value.int .i64 (IntKind.i64.wrap ((a0.length : Int) - (8 : Int))))) F_) ?_
    refine al_val (ov_strFrom hc4.1 hc4.2 Tryd.underlying9 rfl rfl rfl) ?_
    refine al_nil ?_
    exact fr_fin hK_ ()⟩, ⟨_, rfl, [2], rfl, by
    intro _
    intro X_ Y_ F_ K_ hK_
    refine al_show (m := Mem.plus (memOf w0 Z0 [] [(oBox g1 52 [(Value.int .i64 (0 : Int)), (Value.int .i64 (0 : Int)), (str ([] : List UInt8))])] [uMax]) X_ Y_) (S := over (put (tab [(0, (str a0)), (2, (ptr g1 0)), (4, (Value.int .i64 (IntKind.i64.wrap ((a0.length : Int) - (8 : Int))))), (18, (ag (cA8u8 r10)))]) 21 (str (a0.drop ((IntKind.i64.wrap ((a0.length : Int) - (8 : Int)))).toNat))) F_) ?_
    refine al_bytes hc5 rfl Tryd.underlying9 Tryd.underlying89 Tryd.underlying5 rfl (fun s6 => ?_)
    refine al_nil ?_
    exact fr_fin hK_ s6⟩, ⟨_, rfl, [3], rfl, by
    intro s6
    intro X_ Y_ F_ K_ hK_
    refine al_show (m := Mem.plus (memOf w0 Z0 [] [(oBox g1 52 [(Value.int .i64 (0 : Int)), (Value.int .i64 (0 : Int)), (str ([] : List UInt8))])] [(fDat (tyList tyU8) [s6] (a0.drop ((IntKind.i64.wrap ((a0.length : Int) - (8 : Int)))).toNat)), uMax]) X_ Y_) (S := over (put (tab [(0, (str a0)), (2, (ptr g1 0)), (4, (Value.int .i64 (IntKind.i64.wrap ((a0.length : Int) - (8 : Int))))), (18, (ag (cA8u8 r10)))]) 22 s6) F_) ?_
    refine al_s2ap (τA := tyA8u8) (x := (ofA8u8 (a0.drop ((IntKind.i64.wrap ((a0.length : Int) - (8 : Int)))).toNat))) 0 8 hc8 rfl (fun h9 => oflA8u8 hc8 h9) rfl rfl Tryd.underlying49 rfl (fun p7 => ?_)
    refine al_nil ?_
    exact fr_fin hK_ p7⟩, ⟨_, rfl, [4], rfl, by
    intro p7
    intro X_ Y_ F_ K_ hK_
    refine al_show (m := Mem.plus (memOf w0 Z0 [] [(oBox g1 52 [(Value.int .i64 (0 : Int)), (Value.int .i64 (0 : Int)), (str ([] : List UInt8))])] [(fPtr tyA8u8 p7 (ofA8u8 (a0.drop ((IntKind.i64.wrap ((a0.length : Int) - (8 : Int)))).toNat))), uMax]) X_ Y_) (S := over (put (tab [(0, (str a0)), (2, (ptr g1 0)), (4, (Value.int .i64 (IntKind.i64.wrap ((a0.length : Int) - (8 : Int))))), (18, (ag (cA8u8 r10)))]) 23 p7) F_) ?_
    refine al_val (ov_loadP (ds := (cA8u8 (ofA8u8 (a0.drop ((IntKind.i64.wrap ((a0.length : Int) - (8 : Int)))).toNat)))) 0 rfl encA8u8 rfl Tryd.underlying49 sz49 rfl rfl rfl) ?_
    refine al_nil ?_
    exact fr_fin hK_ ()⟩, ⟨_, rfl, [5], rfl, by
    intro _
    intro X_ Y_ F_ K_ hK_
    refine al_show (m := Mem.plus (memOf w0 Z0 [] [(oBox g1 52 [(Value.int .i64 (0 : Int)), (Value.int .i64 (0 : Int)), (str ([] : List UInt8))])] [uMax]) X_ Y_) (S := over (put (tab [(0, (str a0)), (2, (ptr g1 0)), (4, (Value.int .i64 (IntKind.i64.wrap ((a0.length : Int) - (8 : Int))))), (18, (ag (cA8u8 r10)))]) 24 (ag (cA8u8 (ofA8u8 (a0.drop ((IntKind.i64.wrap ((a0.length : Int) - (8 : Int)))).toNat))))) F_) ?_
    refine al_val (ov_neqA (cs := (cA8u8 r10)) (ds := (cA8u8 (ofA8u8 (a0.drop ((IntKind.i64.wrap ((a0.length : Int) - (8 : Int)))).toNat)))) (ls := [5, 5, 5, 5, 5, 5, 5, 5]) (p := (r10 == (ofA8u8 (a0.drop ((IntKind.i64.wrap ((a0.length : Int) - (8 : Int)))).toNat)))) eg49 kt49 lv49 rfl rfl (by kernel_rfl) (by kernel_rfl) (fit_cons (fit_u8 Tryd.underlying5) (fit_cons (fit_u8 Tryd.underlying5) (fit_cons (fit_u8 Tryd.underlying5) (fit_cons (fit_u8 Tryd.underlying5) (fit_cons (fit_u8 Tryd.underlying5) (fit_cons (fit_u8 Tryd.underlying5) (fit_cons (fit_u8 Tryd.underlying5) (fit_cons (fit_u8 Tryd.underlying5) fit_nil)))))))) (fit_cons (fit_u8 Tryd.underlying5) (fit_cons (fit_u8 Tryd.underlying5) (fit_cons (fit_u8 Tryd.underlying5) (fit_cons (fit_u8 Tryd.underlying5) (fit_cons (fit_u8 Tryd.underlying5) (fit_cons (fit_u8 Tryd.underlying5) (fit_cons (fit_u8 Tryd.underlying5) (fit_cons (fit_u8 Tryd.underlying5) fit_nil)))))))) (injA8u8 (x := r10) (y := (ofA8u8 (a0.drop ((IntKind.i64.wrap ((a0.length : Int) - (8 : Int)))).toNat)))) rfl) ?_
    refine al_nil ?_
    exact fr_fin hK_ ()⟩, trivial⟩ ?_
    intro _
    intro _
    intro _
    intro s6
    intro p7
    intro _
    intro _
    refine aq_show (m := (memOf w0 Z0 [] [(oBox g1 52 [(Value.int .i64 (0 : Int)), (Value.int .i64 (0 : Int)), (str ([] : List UInt8))])] [(fPtr tyA8u8 p7 (ofA8u8 (a0.drop ((IntKind.i64.wrap ((a0.length : Int) - (8 : Int)))).toNat))), (fDat (tyList tyU8) [s6] (a0.drop ((IntKind.i64.wrap ((a0.length : Int) - (8 : Int)))).toNat)), uMax])) (S := (put (put (put (put (put (put (put (tab [(0, (str a0)), (2, (ptr g1 0)), (4, (Value.int .i64 (IntKind.i64.wrap ((a0.length : Int) - (8 : Int))))), (18, (ag (cA8u8 r10)))]) 19 (str a0)) 20 (Value.int .i64 (IntKind.i64.wrap ((a0.length : Int) - (8 : Int))))) 21 (str (a0.drop ((IntKind.i64.wrap ((a0.length : Int) - (8 : Int)))).toNat))) 22 s6) 23 p7) 24 (ag (cA8u8 (ofA8u8 (a0.drop ((IntKind.i64.wrap ((a0.length : Int) - (8 : Int)))).toNat))))) 25 (Value.bool (!(r10 == (ofA8u8 (a0.drop ((IntKind.i64.wrap ((a0.length : Int) - (8 : Int)))).toNat))))))) ?_
    refine aq_then ?_
    refine aw_cond rfl (fun hb11 => ?_) (fun hb11 => ?_)
    · replace h := bif_t hb11 h
      refine aw_seq ?_
      refine aw_region ?_
      refine al_val (ov_build (cells := ([(Value.int .i64 (0 : Int)), (Value.int .i64 (0 : Int)), (str ([] : List UInt8))]).toArray) (cs := [(Value.int .i64 (0 : Int)), (Value.int .i64 (0 : Int)), (str ([] : List UInt8))]) rfl (fun w a hm hs => by simp only [List.map_toArray, List.map_cons, List.map_nil, List.toList_toArray]; kernel_rfl)) ?_
      refine al_store (i := 0) (vs := [(Value.int .i64 (0 : Int)), (Value.int .i64 (0 : Int)), (str ([] : List UInt8))]) (cs' := [(Value.int .i64 (0 : Int)), (Value.int .i64 (0 : Int)), (str ([] : List UInt8))]) rfl rfl rfl sz52 (cv_rfl rfl) rfl (co_val rfl (co_val rfl (co_val rfl co_nil))) (Nat.le_of_ble_eq_true rfl) rfl rfl ?_
      refine al_val (ov_assign rfl rfl) ?_
      refine al_nil ?_
      refine aq_then ?_
      refine aw_ret ?_
      refine aq_then_ret ?_
      obtain rfl := Option.some.inj h
      exact fn_ret () [] [] rfl rfl rfl rfl (resC rfl (resB (i := 0) rfl rfl Tryd.underlying52 sz52 rfl rfl rfl (resT rfl (resN))) rfl) rfl rfl rfl (by decide)
    · replace h := bif_f hb11 h
      refine aw_skip ?_
      refine aq_then ?_
      refine aw_seq ?_
      refine aw_region ?_
      refine al_val (ov_move rfl rfl) ?_
      refine al_val (ov_move rfl rfl) ?_
      obtain ⟨hc12, h⟩ := req_some h
      refine al_val (ov_strTo hc12.1 hc12.2 Tryd.underlying9 rfl rfl rfl) ?_
      obtain ⟨r14, hc13, h⟩ := opt_some h
      refine al_call (vs := [(str (a0.take ((IntKind.i64.wrap ((a0.length : Int) - (8 : Int)))).toNat))]) (f_line_decode_ok fu (a0.take ((IntKind.i64.wrap ((a0.length : Int) - (8 : Int)))).toNat) hc13) [] [] [0] pre_nil rfl (by simp) (by decide) (.inl rfl) rfl Tryd.func74 rfl rfl rfl (fun _ => ?_)
      refine al_alloc (zs := [(Value.int .i64 (0 : Int)), (Value.int .i64 (0 : Int)), (str ([] : List UInt8))]) (zeroOf_to to52) rfl rfl (fun g15 => ?_)
      refine al_store (i := 0) (vs := [(Value.int .i64 r14.Kind), (Value.int .i64 r14.Seq), (str r14.Text)]) (cs' := [(Value.int .i64 r14.Kind), (Value.int .i64 r14.Seq), (str r14.Text)]) rfl rfl rfl sz52 (cv_rfl rfl) rfl (co_val rfl (co_val rfl (co_val rfl co_nil))) (Nat.le_of_ble_eq_true rfl) rfl rfl ?_
      refine al_nil ?_
      refine aq_then ?_
      refine aw_seq ?_
      refine aw_seq ?_
      refine aw_region ?_
      refine al_val (ov_load (i := 0) (v := (ag [(Value.int .i64 r14.Kind), (Value.int .i64 r14.Seq), (str r14.Text)])) rfl rfl Tryd.underlying52 sz52 rfl rfl rfl rfl) ?_
      obtain ⟨r17, hc16, h⟩ := opt_some h
      refine al_call (vs := [(ag [(Value.int .i64 r14.Kind), (Value.int .i64 r14.Seq), (str r14.Text)])]) (f_line_Pack_ok fu r14 hc16) [] [] [0, 1] (pre_fz 2 rfl pre_nil) rfl (by simp) (by decide) (.inl rfl) rfl Tryd.func28 rfl rfl rfl (fun _ => ?_)
      refine al_val (ov_move rfl rfl) ?_
      refine al_val (ov_extract rfl rfl rfl) ?_
      refine al_val (ov_extract rfl rfl rfl) ?_
      refine al_val (ov_assign rfl rfl) ?_
      refine al_val (ov_assign rfl rfl) ?_
      refine al_nil ?_
      refine aq_then ?_
      obtain ⟨kk19, hkk19, h⟩ := lt_some h
      refine aw_seq_join (ι := Bool) (fun i => (memOf w0 Z0 [] [(oBox g1 52 [(Value.int .i64 (0 : Int)), (Value.int .i64 (0 : Int)), (str ([] : List UInt8))]), (oBox g15 52 [(Value.int .i64 r14.Kind), (Value.int .i64 r14.Seq), (str r14.Text)])] [(fPtr tyA8u8 p7 (ofA8u8 (a0.drop ((IntKind.i64.wrap ((a0.length : Int) - (8 : Int)))).toNat))), (fDat (tyList tyU8) [s6] (a0.drop ((IntKind.i64.wrap ((a0.length : Int) - (8 : Int)))).toNat)), uMax])) (fun i => (tab [(2, (ptr g1 0)), (5, (ptr g15 0)), (42, (Value.bool i))])) (fun i => kk19 i = some r) ?_ ?_
      · rintro j18b42 h
        have h : kk19 j18b42 = some r := h
        rw [hkk19] at h
        dsimp only at h
        clear hkk19
        refine aw_show (m := (memOf w0 Z0 [] [(oBox g1 52 [(Value.int .i64 (0 : Int)), (Value.int .i64 (0 : Int)), (str ([] : List UInt8))]), (oBox g15 52 [(Value.int .i64 r14.Kind), (Value.int .i64 r14.Seq), (str r14.Text)])] [(fPtr tyA8u8 p7 (ofA8u8 (a0.drop ((IntKind.i64.wrap ((a0.length : Int) - (8 : Int)))).toNat))), (fDat (tyList tyU8) [s6] (a0.drop ((IntKind.i64.wrap ((a0.length : Int) - (8 : Int)))).toNat)), uMax])) (S := (tab [(2, (ptr g1 0)), (5, (ptr g15 0)), (42, (Value.bool j18b42))])) ?_
        refine aw_cond rfl (fun hb20 => ?_) (fun hb20 => ?_)
        · replace h := bif_t hb20 h
          refine aw_seq ?_
          refine aw_region ?_
          refine al_val (ov_build (cells := ([(Value.int .i64 (0 : Int)), (Value.int .i64 (0 : Int)), (str ([] : List UInt8))]).toArray) (cs := [(Value.int .i64 (0 : Int)), (Value.int .i64 (0 : Int)), (str ([] : List UInt8))]) rfl (fun w a hm hs => by simp only [List.map_toArray, List.map_cons, List.map_nil, List.toList_toArray]; kernel_rfl)) ?_
          refine al_store (i := 0) (vs := [(Value.int .i64 (0 : Int)), (Value.int .i64 (0 : Int)), (str ([] : List UInt8))]) (cs' := [(Value.int .i64 (0 : Int)), (Value.int .i64 (0 : Int)), (str ([] : List UInt8))]) rfl rfl rfl sz52 (cv_rfl rfl) rfl (co_val rfl (co_val rfl (co_val rfl co_nil))) (Nat.le_of_ble_eq_true rfl) rfl rfl ?_
          refine al_val (ov_assign rfl rfl) ?_
          refine al_nil ?_
          refine aq_then ?_
          refine aw_ret ?_
          refine aq_then_ret ?_
          obtain rfl := Option.some.inj h
          exact fn_ret () [] [] rfl rfl rfl rfl (resC rfl (resB (i := 0) rfl rfl Tryd.underlying52 sz52 rfl rfl rfl (resT rfl (resN))) rfl) rfl rfl rfl (by decide)
        · replace h := bif_f hb20 h
          refine aw_skip ?_
          refine aq_then ?_
          refine aw_seq ?_
          refine aw_region ?_
          refine al_val (ov_load (i := 1) (v := (ag [(Value.int .i64 r14.Kind), (Value.int .i64 r14.Seq), (str r14.Text)])) rfl rfl Tryd.underlying52 sz52 rfl rfl rfl rfl) ?_
          refine al_store (i := 0) (vs := [(Value.int .i64 r14.Kind), (Value.int .i64 r14.Seq), (str r14.Text)]) (cs' := [(Value.int .i64 r14.Kind), (Value.int .i64 r14.Seq), (str r14.Text)]) rfl rfl rfl sz52 (cv_rfl rfl) rfl (co_val rfl (co_val rfl (co_val rfl co_nil))) (Nat.le_of_ble_eq_true rfl) rfl rfl ?_
          refine al_val (ov_assign rfl rfl) ?_
          refine al_nil ?_
          refine aq_then ?_
          refine aw_ret ?_
          obtain rfl := Option.some.inj h
          exact fn_ret () [] [] rfl rfl rfl rfl (resC rfl (resB (i := 0) rfl rfl Tryd.underlying52 sz52 rfl rfl rfl (resT rfl (resN))) rfl) rfl rfl rfl (by decide)
      · clear hkk19
        refine aw_region ?_
        refine al_val (ov_move rfl rfl) ?_
        refine al_val (ov_int rfl rfl rfl rfl) ?_
        refine al_val (ov_move rfl rfl) ?_
        refine al_caseB 38 rfl (fun hb21 => ?_) (fun hb21 => ?_)
        · replace h := bif_t hb21 h
          refine al_skip ?_
          refine al_skip ?_
          refine al_skip ?_
          refine al_val (ov_pick_t rfl rfl rfl) ?_
          refine al_nil ?_
          exact aq_join true h (fun w a hm hs => norm hm hs [1, 0] [0, 1, 2] [(2, (ptr g1 0)), (5, (ptr g15 0)), (42, (Value.bool true))] (by decide) ⟨rfl, rfl, rfl, trivial⟩)
        · replace h := bif_f hb21 h
          refine al_val (ov_move rfl rfl) ?_
          refine al_val (ov_move rfl rfl) ?_
          refine al_val (ov_strCmp rfl rfl rfl rfl) ?_
          refine al_val (ov_pick_f rfl rfl rfl) ?_
          refine al_nil ?_
          exact aq_join (!(r17.1 == a0)) h (fun w a hm hs => norm hm hs [1, 0] [0, 1, 2] [(2, (ptr g1 0)), (5, (ptr g15 0)), (42, (Value.bool (!(r17.1 == a0))))] (by decide) ⟨rfl, rfl, rfl, trivial⟩)
def f_stringslite_HasPrefix (fu : Nat) (a0 : (List UInt8)) (a1 : (List UInt8)) : Option Bool := (lt (fun (j1b4 : Bool) => (some j1b4)) fun (kk2 : Bool → Option Bool) => (bif (decide ((a0.length : Int) ≥ (a1.length : Int))) then (req (0 ≤ (a1.length : Int) ∧ (a1.length : Int) ≤ (a0.length : Int)) (kk2 ((a0.take ((a1.length : Int)).toNat) == a1))) else (kk2 false)))
set_option maxRecDepth 100000 in
theorem f_stringslite_HasPrefix_ok (fu : Nat) (a0 : (List UInt8)) (a1 : (List UInt8)) {r : Bool} (h : f_stringslite_HasPrefix fu a0 a1 = some r) : FnOk Tryd.prog 134 [(str a0), (str a1)] [] [] (fun (i : Unit) => { val := (Value.bool r) }) := by
  unfold f_stringslite_HasPrefix at h
  refine fn_enter Tryd.func134 rfl Tryd.ntmps134 rfl (fun w0 Z0 => ?_)
  refine aw_seq ?_
  refine aw_region ?_
  refine al_val (ov_assign rfl rfl) ?_
  refine al_nil ?_
  refine aq_then ?_
  obtain ⟨kk2, hkk2, h⟩ := lt_some h
  refine aw_seq_join (ι := Bool) (fun i => (memOf w0 Z0 [] [] [])) (fun i => (tab [(4, (Value.bool i))])) (fun i => kk2 i = some r) ?_ ?_
  · rintro j1b4 h
    have h : kk2 j1b4 = some r := h
    rw [hkk2] at h
    dsimp only at h
    clear hkk2
    refine aw_show (m := (memOf w0 Z0 [] [] [])) (S := (tab [(4, (Value.bool j1b4))])) ?_
    refine aw_ret ?_
    obtain rfl := Option.some.inj h
    exact fn_ret () [] [] rfl rfl rfl rfl (res1 rfl rfl) rfl rfl rfl (by decide)
  · clear hkk2
    refine aw_region ?_
    refine al_val (ov_move rfl rfl) ?_
    refine al_val (ov_strLen Tryd.underlying9 rfl rfl) ?_
    refine al_val (ov_move rfl rfl) ?_
    refine al_val (ov_strLen Tryd.underlying9 rfl rfl) ?_
    refine al_val (ov_int rfl rfl rfl rfl) ?_
    refine al_val (ov_move rfl rfl) ?_
    refine al_caseB 10 rfl (fun hb3 => ?_) (fun hb3 => ?_)
    · replace h := bif_t hb3 h
      refine al_val (ov_move rfl rfl) ?_
      refine al_val (ov_move rfl rfl) ?_
      refine al_val (ov_strLen Tryd.underlying9 rfl rfl) ?_
      obtain ⟨hc4, h⟩ := req_some h
      refine al_val (ov_strTo hc4.1 hc4.2 Tryd.underlying9 rfl rfl rfl) ?_
      refine al_val (ov_move rfl rfl) ?_
      refine al_val (ov_strCmp rfl rfl rfl rfl) ?_
      refine al_val (ov_pick_t rfl rfl rfl) ?_
      refine al_val (ov_assign rfl rfl) ?_
      refine al_nil ?_
      exact aq_join ((a0.take ((a1.length : Int)).toNat) == a1) h (fun w a hm hs => norm hm hs [] [] [(4, (Value.bool ((a0.take ((a1.length : Int)).toNat) == a1)))] (by decide) ⟨rfl, trivial⟩)
    · replace h := bif_f hb3 h
      refine al_skip ?_
      refine al_skip ?_
      refine al_skip ?_
      refine al_skip ?_
      refine al_skip ?_
      refine al_skip ?_
      refine al_val (ov_pick_f rfl rfl rfl) ?_
      refine al_val (ov_assign rfl rfl) ?_
      refine al_nil ?_
      exact aq_join false h (fun w a hm hs => norm hm hs [] [] [(4, (Value.bool false))] (by decide) ⟨rfl, trivial⟩)
def f_strings_HasPrefix (fu : Nat) (a0 : (List UInt8)) (a1 : (List UInt8)) : Option Bool := (opt (f_stringslite_HasPrefix fu a0 a1) fun (r2 : Bool) => (some r2))
set_option maxRecDepth 100000 in
theorem f_strings_HasPrefix_ok (fu : Nat) (a0 : (List UInt8)) (a1 : (List UInt8)) {r : Bool} (h : f_strings_HasPrefix fu a0 a1 = some r) : FnOk Tryd.prog 102 [(str a0), (str a1)] [] [] (fun (i : Unit) => { val := (Value.bool r) }) := by
  unfold f_strings_HasPrefix at h
  refine fn_enter Tryd.func102 rfl Tryd.ntmps102 rfl (fun w0 Z0 => ?_)
  refine aw_seq ?_
  refine aw_region ?_
  refine al_val (ov_assign rfl rfl) ?_
  refine al_nil ?_
  refine aq_then ?_
  refine aw_seq ?_
  refine aw_region ?_
  refine al_val (ov_move rfl rfl) ?_
  refine al_val (ov_move rfl rfl) ?_
  obtain ⟨r2, hc1, h⟩ := opt_some h
  refine al_call (vs := [(str a0), (str a1)]) (f_stringslite_HasPrefix_ok fu a0 a1 hc1) [] [] [] pre_nil rfl (by simp) (by decide) (.inl rfl) rfl Tryd.func134 rfl rfl rfl (fun _ => ?_)
  refine al_val (ov_assign rfl rfl) ?_
  refine al_nil ?_
  refine aq_then ?_
  refine aw_ret ?_
  obtain rfl := Option.some.inj h
  exact fn_ret () [] [] rfl rfl rfl rfl (res1 rfl rfl) rfl rfl rfl (by decide)
def f_lumref_number : Nat → (List UInt8) → Option Int
  | 0, _ => none
  | fu + 1, a0 => (bif (a0 == ([] : List UInt8)) then (some (0 : Int)) else (req (0 ≤ (IntKind.i64.wrap ((a0.length : Int) - (1 : Int))) ∧ (IntKind.i64.wrap ((a0.length : Int) - (1 : Int))) ≤ (a0.length : Int)) (opt (f_lumref_number fu (a0.take ((IntKind.i64.wrap ((a0.length : Int) - (1 : Int)))).toNat)) fun (r4 : Int) => (req (0 ≤ (IntKind.i64.wrap ((a0.length : Int) - (1 : Int))) ∧ (IntKind.i64.wrap ((a0.length : Int) - (1 : Int))) < (a0.length : Int)) (some (IntKind.u64.wrap ((IntKind.u64.wrap ((256 : Int) * r4)) + (IntKind.u64.wrap (En.bAt a0 (IntKind.i64.wrap ((a0.length : Int) - (1 : Int))))))))))))
set_option maxRecDepth 100000 in
theorem f_lumref_number_ok (fu : Nat) (a0 : (List UInt8)) {r : Int} (h : f_lumref_number fu a0 = some r) : FnOk Tryd.prog 103 [(str a0)] [] [] (fun (i : Unit) => { val := (Value.int .u64 r) }) := by
  cases fu with
  | zero => rw [f_lumref_number] at h; cases h
  | succ fu =>
    rw [f_lumref_number] at h
    refine fn_enter Tryd.func103 rfl Tryd.ntmps103 rfl (fun w0 Z0 => ?_)
    refine aw_seq ?_
    refine aw_region ?_
    refine al_val (ov_assign rfl rfl) ?_
    refine al_nil ?_
    refine aq_then ?_
    refine aw_seq ?_
    refine aw_seq ?_
    refine aw_region ?_
    refine al_val (ov_move rfl rfl) ?_
    refine al_val (ov_strCmp rfl rfl rfl rfl) ?_
    refine al_nil ?_
    refine aq_then ?_
    refine aw_cond rfl (fun hb1 => ?_) (fun hb1 => ?_)
    · replace h := bif_t hb1 h
      refine aw_seq ?_
      refine aw_region ?_
      refine al_val (ov_assign rfl rfl) ?_
      refine al_nil ?_
      refine aq_then ?_
      refine aw_ret ?_
      refine aq_then_ret ?_
      obtain rfl := Option.some.inj h
      exact fn_ret () [] [] rfl rfl rfl rfl (res1 rfl rfl) rfl rfl rfl (by decide)
    · replace h := bif_f hb1 h
      refine aw_skip ?_
      refine aq_then ?_
      refine aw_seq ?_
      obtain ⟨hc2, h⟩ := req_some h
      obtain ⟨r4, hc3, h⟩ := opt_some h
      obtain ⟨hc5, h⟩ := req_some h
      refine aw_region_draw 14 [(5, (fun u => fEq u (str a0))), (6, (fun u => fEq u (str a0))), (7, (fun u => fEq u (Value.int .i64 (a0.length : Int)))), (8, (fun u => fEq u (Value.int .i64 (IntKind.i64.wrap ((a0.length : Int) - (1 : Int)))))), (9, (fun u => fEq u (str (a0.take ((IntKind.i64.wrap ((a0.length : Int) - (1 : Int)))).toNat)))), (10, (fun u => fEq u (Value.int .u64 r4))), (11, (fun u => fEq u (Value.int .u64 (IntKind.u64.wrap ((256 : Int) * r4))))), (12, (fun u => fEq u (str a0))), (13, (fun u => fEq u (str a0))), (14, (fun u => fEq u (Value.int .i64 (a0.length : Int)))), (15, (fun u => fEq u (Value.int .i64 (IntKind.i64.wrap ((a0.length : Int) - (1 : Int)))))), (16, (fun u => fEq u (Value.int .u8 (En.bAt a0 (IntKind.i64.wrap ((a0.length : Int) - (1 : Int))))))), (17, (fun u => fEq u (Value.int .u64 (IntKind.u64.wrap (En.bAt a0 (IntKind.i64.wrap ((a0.length : Int) - (1 : Int)))))))), (18, (fun u => fEq u (Value.int .u64 (IntKind.u64.wrap ((IntKind.u64.wrap ((256 : Int) * r4)) + (IntKind.u64.wrap (En.bAt a0 (IntKind.i64.wrap ((a0.length : Int) - (1 : Int))))))))))] (tab [(0, (str a0)), (2, (Value.int .u64 (0 : Int)))]) mixed (by kernel_rfl) rfl rfl rfl (fun a hs => hs.tab _ (allT_mem ⟨rfl, rfl, trivial⟩)) ⟨⟨rfl, ld_val (ov_move rfl rfl)⟩, ⟨rfl, ld_val (ov_move rfl rfl)⟩, ⟨rfl, ld_eq (j := 1) rfl rfl (ld_val (ov_strLen Tryd.underlying9 rfl rfl))⟩, ⟨rfl, ld_eq (j := 2) rfl rfl (ld_val (ov_int rfl rfl rfl rfl))⟩, ⟨rfl, ld_eq (j := 0) rfl rfl (ld_eq (j := 3) rfl rfl (ld_val (ov_strTo hc2.1 hc2.2 Tryd.underlying9 rfl rfl rfl)))⟩, ⟨rfl, ld_eq (j := 4) rfl rfl (ld_callV (vs := [(str (a0.take ((IntKind.i64.wrap ((a0.length : Int) - (1 : Int)))).toNat))]) (f_lumref_number_ok fu (a0.take ((IntKind.i64.wrap ((a0.length : Int) - (1 : Int)))).toNat) hc3) [] pre_nil rfl Tryd.func103 rfl rfl rfl)⟩, ⟨rfl, ld_eq (j := 5) rfl rfl (ld_val (ov_int rfl rfl rfl rfl))⟩, ⟨rfl, ld_val (ov_move rfl rfl)⟩, ⟨rfl, ld_val (ov_move rfl rfl)⟩, ⟨rfl, ld_eq (j := 8) rfl rfl (ld_val (ov_strLen Tryd.underlying9 rfl rfl))⟩, ⟨rfl, ld_eq (j := 9) rfl rfl (ld_val (ov_int rfl rfl rfl rfl))⟩, ⟨rfl, ld_eq (j := 7) rfl rfl (ld_eq (j := 10) rfl rfl (ld_val (ov_strIdx hc5.1 hc5.2 Tryd.underlying9 rfl rfl rfl)))⟩, ⟨rfl, ld_eq (j := 11) rfl rfl (ld_val (ov_convInt (by rw [Tryd.underlying5]; rfl) Tryd.underlying87 rfl rfl))⟩, ⟨rfl, ld_eq (j := 6) rfl rfl (ld_eq (j := 12) rfl rfl (ld_val (ov_int rfl rfl rfl rfl)))⟩, trivial⟩ ?_
      refine tl_eq 13 rfl ?_
      refine tl_done ?_
      refine al_val (ov_assign rfl rfl) ?_
      refine al_nil ?_
      refine aq_then ?_
      refine aw_ret ?_
      obtain rfl := Option.some.inj h
      exact fn_ret () [] [] rfl rfl rfl rfl (res1 rfl rfl) rfl rfl rfl (by decide)
def f_lumref_Get (fu : Nat) (a0 : (List UInt8)) : Option (Int × Int × Int) := (bif ((a0.length : Int) == (0 : Int)) then (some ((0 : Int), (0 : Int), (3 : Int))) else (req (0 ≤ (0 : Int) ∧ (0 : Int) < (a0.length : Int)) (bif (decide ((En.bAt a0 (0 : Int)) > (8 : Int))) then (some ((0 : Int), (0 : Int), (4 : Int))) else (req (0 ≤ (0 : Int) ∧ (0 : Int) < (a0.length : Int)) (bif (decide ((a0.length : Int) < (IntKind.i64.wrap ((1 : Int) + (IntKind.i64.wrap (En.bAt a0 (0 : Int))))))) then (some ((0 : Int), (0 : Int), (3 : Int))) else (req (0 ≤ (1 : Int) ∧ (1 : Int) ≤ (IntKind.i64.wrap ((1 : Int) + (IntKind.i64.wrap (En.bAt a0 (0 : Int))))) ∧ (IntKind.i64.wrap ((1 : Int) + (IntKind.i64.wrap (En.bAt a0 (0 : Int))))) ≤ (a0.length : Int)) (opt (f_strings_HasPrefix fu (cut a0 (1 : Int) (IntKind.i64.wrap ((1 : Int) + (IntKind.i64.wrap (En.bAt a0 (0 : Int)))))) ([0] : List UInt8)) fun (r8 : Bool) => (bif r8 then (some ((0 : Int), (0 : Int), (4 : Int))) else (req (0 ≤ (1 : Int) ∧ (1 : Int) ≤ (IntKind.i64.wrap ((1 : Int) + (IntKind.i64.wrap (En.bAt a0 (0 : Int))))) ∧ (IntKind.i64.wrap ((1 : Int) + (IntKind.i64.wrap (En.bAt a0 (0 : Int))))) ≤ (a0.length : Int)) (opt (f_lumref_number fu (cut a0 (1 : Int) (IntKind.i64.wrap ((1 : Int) + (IntKind.i64.wrap (En.bAt a0 (0 : Int))))))) fun (r12 : Int) => (some (r12, (IntKind.i64.wrap ((1 : Int) + (IntKind.i64.wrap (En.bAt a0 (0 : Int))))), (0 : Int)))))))))))))
set_option maxRecDepth 100000 in
theorem f_lumref_Get_ok (fu : Nat) (a0 : (List UInt8)) {r : (Int × Int × Int)} (h : f_lumref_Get fu a0 = some r) : FnOk Tryd.prog 59 [(str a0)] [] [] (fun (i : Unit) => { val := (Value.tuple #[(Value.int .u64 r.1), (Value.int .i64 r.2.1), (Value.int .i64 r.2.2)]) }) := by
  unfold f_lumref_Get at h
  refine fn_enter Tryd.func59 rfl Tryd.ntmps59 rfl (fun w0 Z0 => ?_)
  refine aw_seq ?_
  refine aw_region ?_
  refine al_val (ov_assign rfl rfl) ?_
  refine al_val (ov_assign rfl rfl) ?_
  refine al_val (ov_assign rfl rfl) ?_
  refine al_nil ?_
  refine aq_then ?_
  refine aw_seq ?_
  refine aw_seq ?_
  refine aw_region ?_
  refine al_val (ov_move rfl rfl) ?_
  refine al_val (ov_strLen Tryd.underlying9 rfl rfl) ?_
  refine al_val (ov_int rfl rfl rfl rfl) ?_
  refine al_nil ?_
  refine aq_then ?_
  refine aw_cond rfl (fun hb1 => ?_) (fun hb1 => ?_)
  · replace h := bif_t hb1 h
    refine aw_seq ?_
    refine aw_region ?_
    refine al_val (ov_assign rfl rfl) ?_
    refine al_val (ov_assign rfl rfl) ?_
    refine al_val (ov_assign rfl rfl) ?_
    refine al_nil ?_
    refine aq_then ?_
    refine aw_ret ?_
    refine aq_then_ret ?_
    obtain rfl := Option.some.inj h
    exact fn_ret () [] [] rfl rfl rfl rfl (res3 rfl rfl rfl rfl) rfl rfl rfl (by decide)
  · replace h := bif_f hb1 h
    refine aw_skip ?_
    refine aq_then ?_
    refine aw_seq ?_
    refine aw_seq ?_
    refine aw_region ?_
    refine al_val (ov_move rfl rfl) ?_
    obtain ⟨hc2, h⟩ := req_some h
    refine al_val (ov_strIdx hc2.1 hc2.2 Tryd.underlying9 rfl rfl rfl) ?_
    refine al_val (ov_int rfl rfl rfl rfl) ?_
    refine al_nil ?_
    refine aq_then ?_
    refine aw_cond rfl (fun hb3 => ?_) (fun hb3 => ?_)
    · replace h := bif_t hb3 h
      refine aw_seq ?_
      refine aw_region ?_
      refine al_val (ov_assign rfl rfl) ?_
      refine al_val (ov_assign rfl rfl) ?_
      refine al_val (ov_assign rfl rfl) ?_
      refine al_nil ?_
      refine aq_then ?_
      refine aw_ret ?_
      refine aq_then_ret ?_
      obtain rfl := Option.some.inj h
      exact fn_ret () [] [] rfl rfl rfl rfl (res3 rfl rfl rfl rfl) rfl rfl rfl (by decide)
    · replace h := bif_f hb3 h
      refine aw_skip ?_
      refine aq_then ?_
      refine aw_seq ?_
      refine aw_region ?_
      refine al_val (ov_move rfl rfl) ?_
      obtain ⟨hc4, h⟩ := req_some h
      refine al_val (ov_strIdx hc4.1 hc4.2 Tryd.underlying9 rfl rfl rfl) ?_
      refine al_val (ov_convInt (by rw [Tryd.underlying5]; rfl) Tryd.underlying3 rfl rfl) ?_
      refine al_val (ov_int rfl rfl rfl rfl) ?_
      refine al_val (ov_assign rfl rfl) ?_
      refine al_nil ?_
      refine aq_then ?_
      refine aw_seq ?_
      refine aw_seq ?_
      refine aw_region ?_
      refine al_val (ov_move rfl rfl) ?_
      refine al_val (ov_strLen Tryd.underlying9 rfl rfl) ?_
      refine al_val (ov_move rfl rfl) ?_
      refine al_val (ov_int rfl rfl rfl rfl) ?_
      refine al_nil ?_
      refine aq_then ?_
      refine aw_cond rfl (fun hb5 => ?_) (fun hb5 => ?_)
      · replace h := bif_t hb5 h
        refine aw_seq ?_
        refine aw_region ?_
        refine al_val (ov_assign rfl rfl) ?_
        refine al_val (ov_assign rfl rfl) ?_
        refine al_val (ov_assign rfl rfl) ?_
        refine al_nil ?_
        refine aq_then ?_
        refine aw_ret ?_
        refine aq_then_ret ?_
        obtain rfl := Option.some.inj h
        exact fn_ret () [] [] rfl rfl rfl rfl (res3 rfl rfl rfl rfl) rfl rfl rfl (by decide)
      · replace h := bif_f hb5 h
        refine aw_skip ?_
        refine aq_then ?_
        refine aw_seq ?_
        refine aw_seq ?_
        refine aw_region ?_
        refine al_val (ov_move rfl rfl) ?_
        refine al_val (ov_move rfl rfl) ?_
        obtain ⟨hc6, h⟩ := req_some h
        refine al_val (ov_strCut hc6.1 hc6.2.1 hc6.2.2 Tryd.underlying9 rfl rfl rfl rfl) ?_
        obtain ⟨r8, hc7, h⟩ := opt_some h
        refine al_call (vs := [(str (cut a0 (1 : Int) (IntKind.i64.wrap ((1 : Int) + (IntKind.i64.wrap (En.bAt a0 (0 : Int))))))), (str ([0] : List UInt8))]) (f_strings_HasPrefix_ok fu (cut a0 (1 : Int) (IntKind.i64.wrap ((1 : Int) + (IntKind.i64.wrap (En.bAt a0 (0 : Int)))))) ([0] : List UInt8) hc7) [] [] [] pre_nil rfl (by simp) (by decide) (.inl rfl) rfl Tryd.func102 rfl rfl rfl (fun _ => ?_)
        refine al_nil ?_
        refine aq_then ?_
        refine aw_cond rfl (fun hb9 => ?_) (fun hb9 => ?_)
        · replace h := bif_t hb9 h
          refine aw_seq ?_
          refine aw_region ?_
          refine al_val (ov_assign rfl rfl) ?_
          refine al_val (ov_assign rfl rfl) ?_
          refine al_val (ov_assign rfl rfl) ?_
          refine al_nil ?_
          refine aq_then ?_
          refine aw_ret ?_
          refine aq_then_ret ?_
          obtain rfl := Option.some.inj h
          exact fn_ret () [] [] rfl rfl rfl rfl (res3 rfl rfl rfl rfl) rfl rfl rfl (by decide)
        · replace h := bif_f hb9 h
          refine aw_skip ?_
          refine aq_then ?_
          refine aw_seq ?_
          refine aw_region ?_
          refine al_val (ov_move rfl rfl) ?_
          refine al_val (ov_move rfl rfl) ?_
          obtain ⟨hc10, h⟩ := req_some h
          refine al_val (ov_strCut hc10.1 hc10.2.1 hc10.2.2 Tryd.underlying9 rfl rfl rfl rfl) ?_
          obtain ⟨r12, hc11, h⟩ := opt_some h
          refine al_call (vs := [(str (cut a0 (1 : Int) (IntKind.i64.wrap ((1 : Int) + (IntKind.i64.wrap (En.bAt a0 (0 : Int)))))))]) (f_lumref_number_ok fu (cut a0 (1 : Int) (IntKind.i64.wrap ((1 : Int) + (IntKind.i64.wrap (En.bAt a0 (0 : Int)))))) hc11) [] [] [] pre_nil rfl (by simp) (by decide) (.inl rfl) rfl Tryd.func103 rfl rfl rfl (fun _ => ?_)
          refine al_val (ov_move rfl rfl) ?_
          refine al_val (ov_assign rfl rfl) ?_
          refine al_val (ov_assign rfl rfl) ?_
          refine al_val (ov_assign rfl rfl) ?_
          refine al_nil ?_
          refine aq_then ?_
          refine aw_ret ?_
          obtain rfl := Option.some.inj h
          exact fn_ret () [] [] rfl rfl rfl rfl (res3 rfl rfl rfl rfl) rfl rfl rfl (by decide)
def f_lumref_GetText_L3 (a0 : (List UInt8)) : Nat → (List UInt8) → Int → Option ((List UInt8) × Int × Int)
  | 0, _, _ => none
  | k2 + 1, l1s5, l1i6 => (lt (fun (j4b24 : Bool) => (bif j4b24 then (some (([] : List UInt8), (0 : Int), (3 : Int))) else (lt (fun (j7i7 : Int) => (bif ((l1s5.length : Int) == (1024 : Int)) then (some (([] : List UInt8), (0 : Int), (2 : Int))) else (req (0 ≤ l1i6 ∧ l1i6 ≤ (IntKind.i64.wrap (l1i6 + (1 : Int))) ∧ (IntKind.i64.wrap (l1i6 + (1 : Int))) ≤ (a0.length : Int)) (req (l1s5.length + (cut a0 l1i6 (IntKind.i64.wrap (l1i6 + (1 : Int)))).length ≤ 9223372036854775807) (f_lumref_GetText_L3 a0 k2 (l1s5 ++ (cut a0 l1i6 (IntKind.i64.wrap (l1i6 + (1 : Int))))) (IntKind.i64.wrap (l1i6 + j7i7))))))) fun (kk8 : Int → Option ((List UInt8) × Int × Int)) => (req (0 ≤ l1i6 ∧ l1i6 < (a0.length : Int)) (bif ((En.bAt a0 l1i6) == (0 : Int)) then (req (0 ≤ (IntKind.i64.wrap (l1i6 + (1 : Int))) ∧ (IntKind.i64.wrap (l1i6 + (1 : Int))) < (a0.length : Int)) (bif ((En.bAt a0 (IntKind.i64.wrap (l1i6 + (1 : Int)))) == (0 : Int)) then (some (l1s5, (IntKind.i64.wrap (l1i6 + (2 : Int))), (0 : Int))) else (req (0 ≤ (IntKind.i64.wrap (l1i6 + (1 : Int))) ∧ (IntKind.i64.wrap (l1i6 + (1 : Int))) < (a0.length : Int)) (bif ((En.bAt a0 (IntKind.i64.wrap (l1i6 + (1 : Int)))) != (255 : Int)) then (some (([] : List UInt8), (0 : Int), (4 : Int))) else (kk8 (2 : Int)))))) else (kk8 (1 : Int))))))) fun (kk5 : Bool → Option ((List UInt8) × Int × Int)) => (bif (decide (l1i6 ≥ (a0.length : Int))) then (kk5 true) else (req (0 ≤ l1i6 ∧ l1i6 < (a0.length : Int)) (bif ((En.bAt a0 l1i6) == (0 : Int)) then (kk5 (decide ((IntKind.i64.wrap (l1i6 + (1 : Int))) ≥ (a0.length : Int)))) else (kk5 false)))))
def f_lumref_GetText (fu : Nat) (a0 : (List UInt8)) : Option ((List UInt8) × Int × Int) := (f_lumref_GetText_L3 a0 fu ([] : List UInt8) (0 : Int))
set_option maxRecDepth 100000 in
theorem f_lumref_GetText_ok (fu : Nat) (a0 : (List UInt8)) {r : ((List UInt8) × Int × Int)} (h : f_lumref_GetText fu a0 = some r) : FnOk Tryd.prog 75 [(str a0)] [] [] (fun (i : Unit) => { val := (Value.tuple #[(str r.1), (Value.int .i64 r.2.1), (Value.int .i64 r.2.2)]) }) := by
  unfold f_lumref_GetText at h
  refine fn_enter Tryd.func75 rfl Tryd.ntmps75 rfl (fun w0 Z0 => ?_)
  refine aw_seq ?_
  refine aw_region ?_
  refine al_val (ov_assign rfl rfl) ?_
  refine al_val (ov_assign rfl rfl) ?_
  refine al_val (ov_assign rfl rfl) ?_
  refine al_nil ?_
  refine aq_then ?_
  refine aw_seq ?_
  refine aw_region ?_
  refine al_val (ov_assign rfl rfl) ?_
  refine al_val (ov_assign rfl rfl) ?_
  refine al_nil ?_
  refine aq_then ?_
  refine aw_block ?_
  refine aw_state (aw_loop (ι := (List UInt8) × Int) (fun i => (memOf w0 Z0 [] [] [])) (fun i => (tab [(0, (str a0)), (5, (str i.1)), (6, (Value.int .i64 i.2))])) (fun q i => f_lumref_GetText_L3 a0 q i.1 i.2 = some r) ?_ fu (([] : List UInt8), (0 : Int)) h) (fun w a hm hs => norm hm hs [] [] [(0, (str a0)), (5, (str ([] : List UInt8))), (6, (Value.int .i64 (0 : Int)))] (by decide) ⟨rfl, rfl, rfl, trivial⟩)
  clear h
  rintro k2 ⟨l1s5, l1i6⟩ h
  have h : f_lumref_GetText_L3 a0 k2 l1s5 l1i6 = some r := h
  obtain _ | k2 := k2
  · rw [f_lumref_GetText_L3] at h; cases h
  rw [f_lumref_GetText_L3] at h
  refine aw_show (m := (memOf w0 Z0 [] [] [])) (S := (tab [(0, (str a0)), (5, (str l1s5)), (6, (Value.int .i64 l1i6))])) ?_
  refine aw_block ?_
  refine aw_seq ?_
  obtain ⟨kk5, hkk5, h⟩ := lt_some h
  refine aw_seq_join (ι := Bool) (fun i => (memOf w0 Z0 [] [] [])) (fun i => (tab [(0, (str a0)), (5, (str l1s5)), (6, (Value.int .i64 l1i6)), (24, (Value.bool i))])) (fun i => kk5 i = some r) ?_ ?_
  · rintro j4b24 h
    have h : kk5 j4b24 = some r := h
    rw [hkk5] at h
    dsimp only at h
    clear hkk5
    refine aw_show (m := (memOf w0 Z0 [] [] [])) (S := (tab [(0, (str a0)), (5, (str l1s5)), (6, (Value.int .i64 l1i6)), (24, (Value.bool j4b24))])) ?_
    refine aw_cond rfl (fun hb6 => ?_) (fun hb6 => ?_)
    · replace h := bif_t hb6 h
      refine aw_seq ?_
      refine aw_region ?_
      refine al_val (ov_assign rfl rfl) ?_
      refine al_val (ov_assign rfl rfl) ?_
      refine al_val (ov_assign rfl rfl) ?_
      refine al_nil ?_
      refine aq_then ?_
      refine aw_ret ?_
      refine aq_then_ret ?_
      refine aq_block_ret ?_
      refine aq_then_ret ?_
      refine aq_block_ret ?_
      obtain rfl := Option.some.inj h
      exact fn_ret () [] [] rfl rfl rfl rfl (res3 rfl rfl rfl rfl) rfl rfl rfl (by decide)
    · replace h := bif_f hb6 h
      refine aw_skip ?_
      refine aq_then ?_
      refine aw_seq ?_
      refine aw_region ?_
      refine al_val (ov_assign rfl rfl) ?_
      refine al_nil ?_
      refine aq_then ?_
      obtain ⟨kk8, hkk8, h⟩ := lt_some h
      refine aw_seq_join (ι := Int) (fun i => (memOf w0 Z0 [] [] [])) (fun i => (tab [(0, (str a0)), (5, (str l1s5)), (6, (Value.int .i64 l1i6)), (7, (Value.int .i64 i))])) (fun i => kk8 i = some r) ?_ ?_
      · rintro j7i7 h
        have h : kk8 j7i7 = some r := h
        rw [hkk8] at h
        dsimp only at h
        clear hkk8
        refine aw_show (m := (memOf w0 Z0 [] [] [])) (S := (tab [(0, (str a0)), (5, (str l1s5)), (6, (Value.int .i64 l1i6)), (7, (Value.int .i64 j7i7))])) ?_
        refine aw_seq ?_
        refine aw_seq ?_
        refine aw_region ?_
        refine al_val (ov_move rfl rfl) ?_
        refine al_val (ov_strLen Tryd.underlying9 rfl rfl) ?_
        refine al_val (ov_int rfl rfl rfl rfl) ?_
        refine al_nil ?_
        refine aq_then ?_
        refine aw_cond rfl (fun hb9 => ?_) (fun hb9 => ?_)
        · replace h := bif_t hb9 h
          refine aw_seq ?_
          refine aw_region ?_
          refine al_val (ov_assign rfl rfl) ?_
          refine al_val (ov_assign rfl rfl) ?_
          refine al_val (ov_assign rfl rfl) ?_
          refine al_nil ?_
          refine aq_then ?_
          refine aw_ret ?_
          refine aq_then_ret ?_
          refine aq_block_ret ?_
          refine aq_then_ret ?_
          refine aq_block_ret ?_
          obtain rfl := Option.some.inj h
          exact fn_ret () [] [] rfl rfl rfl rfl (res3 rfl rfl rfl rfl) rfl rfl rfl (by decide)
        · replace h := bif_f hb9 h
          refine aw_skip ?_
          refine aq_then ?_
          refine aw_seq ?_
          refine aw_region ?_
          refine al_val (ov_move rfl rfl) ?_
          refine al_val (ov_move rfl rfl) ?_
          refine al_val (ov_move rfl rfl) ?_
          refine al_val (ov_move rfl rfl) ?_
          refine al_val (ov_int rfl rfl rfl rfl) ?_
          obtain ⟨hc10, h⟩ := req_some h
          refine al_val (ov_strCut hc10.1 hc10.2.1 hc10.2.2 Tryd.underlying9 rfl rfl rfl rfl) ?_
          obtain ⟨hc11, h⟩ := req_some h
          refine al_val (ov_strAdd hc11 rfl rfl rfl) ?_
          refine al_val (ov_assign rfl rfl) ?_
          refine al_nil ?_
          refine aq_then ?_
          refine aw_region ?_
          refine al_val (ov_move rfl rfl) ?_
          refine al_val (ov_move rfl rfl) ?_
          refine al_val (ov_int rfl rfl rfl rfl) ?_
          refine al_val (ov_assign rfl rfl) ?_
          refine al_nil ?_
          refine aq_block ?_
          exact aq_again k2 ((l1s5 ++ (cut a0 l1i6 (IntKind.i64.wrap (l1i6 + (1 : Int))))), (IntKind.i64.wrap (l1i6 + j7i7))) (Nat.lt_succ_self _) h (fun w a hm hs => norm hm hs [] [] [(0, (str a0)), (5, (str (l1s5 ++ (cut a0 l1i6 (IntKind.i64.wrap (l1i6 + (1 : Int))))))), (6, (Value.int .i64 (IntKind.i64.wrap (l1i6 + j7i7))))] (by decide) ⟨rfl, rfl, rfl, trivial⟩)
      · clear hkk8
        refine aw_seq ?_
        refine aw_region ?_
        refine al_val (ov_move rfl rfl) ?_
        refine al_val (ov_move rfl rfl) ?_
        obtain ⟨hc12, h⟩ := req_some h
        refine al_val (ov_strIdx hc12.1 hc12.2 Tryd.underlying9 rfl rfl rfl) ?_
        refine al_val (ov_int rfl rfl rfl rfl) ?_
        refine al_nil ?_
        refine aq_then ?_
        refine aw_cond rfl (fun hb13 => ?_) (fun hb13 => ?_)
        · replace h := bif_t hb13 h
          refine aw_seq ?_
          refine aw_seq ?_
          refine aw_region ?_
          refine al_val (ov_move rfl rfl) ?_
          refine al_val (ov_move rfl rfl) ?_
          refine al_val (ov_int rfl rfl rfl rfl) ?_
          obtain ⟨hc14, h⟩ := req_some h
          refine al_val (ov_strIdx hc14.1 hc14.2 Tryd.underlying9 rfl rfl rfl) ?_
          refine al_val (ov_int rfl rfl rfl rfl) ?_
          refine al_nil ?_
          refine aq_then ?_
          refine aw_cond rfl (fun hb15 => ?_) (fun hb15 => ?_)
          · replace h := bif_t hb15 h
            refine aw_seq ?_
            refine aw_region ?_
            refine al_val (ov_move rfl rfl) ?_
            refine al_val (ov_move rfl rfl) ?_
            refine al_val (ov_int rfl rfl rfl rfl) ?_
            refine al_val (ov_assign rfl rfl) ?_
            refine al_val (ov_assign rfl rfl) ?_
            refine al_val (ov_assign rfl rfl) ?_
            refine al_nil ?_
            refine aq_then ?_
            refine aw_ret ?_
            refine aq_then_ret ?_
            refine aq_then_ret ?_
            refine aq_block_ret ?_
            refine aq_then_ret ?_
            refine aq_block_ret ?_
            obtain rfl := Option.some.inj h
            exact fn_ret () [] [] rfl rfl rfl rfl (res3 rfl rfl rfl rfl) rfl rfl rfl (by decide)
          · replace h := bif_f hb15 h
            refine aw_skip ?_
            refine aq_then ?_
            refine aw_seq ?_
            refine aw_seq ?_
            refine aw_region ?_
            refine al_val (ov_move rfl rfl) ?_
            refine al_val (ov_move rfl rfl) ?_
            refine al_val (ov_int rfl rfl rfl rfl) ?_
            obtain ⟨hc16, h⟩ := req_some h
            refine al_val (ov_strIdx hc16.1 hc16.2 Tryd.underlying9 rfl rfl rfl) ?_
            refine al_val (ov_int rfl rfl rfl rfl) ?_
            refine al_nil ?_
            refine aq_then ?_
            refine aw_cond rfl (fun hb17 => ?_) (fun hb17 => ?_)
            · replace h := bif_t hb17 h
              refine aw_seq ?_
              refine aw_region ?_
              refine al_val (ov_assign rfl rfl) ?_
              refine al_val (ov_assign rfl rfl) ?_
              refine al_val (ov_assign rfl rfl) ?_
              refine al_nil ?_
              refine aq_then ?_
              refine aw_ret ?_
              refine aq_then_ret ?_
              refine aq_then_ret ?_
              refine aq_block_ret ?_
              refine aq_then_ret ?_
              refine aq_block_ret ?_
              obtain rfl := Option.some.inj h
              exact fn_ret () [] [] rfl rfl rfl rfl (res3 rfl rfl rfl rfl) rfl rfl rfl (by decide)
            · replace h := bif_f hb17 h
              refine aw_skip ?_
              refine aq_then ?_
              refine aw_region ?_
              refine al_val (ov_assign rfl rfl) ?_
              refine al_nil ?_
              exact aq_join (2 : Int) h (fun w a hm hs => norm hm hs [] [] [(0, (str a0)), (5, (str l1s5)), (6, (Value.int .i64 l1i6)), (7, (Value.int .i64 (2 : Int)))] (by decide) ⟨rfl, rfl, rfl, rfl, trivial⟩)
        · replace h := bif_f hb13 h
          refine aw_skip ?_
          exact aq_join (1 : Int) h (fun w a hm hs => norm hm hs [] [] [(0, (str a0)), (5, (str l1s5)), (6, (Value.int .i64 l1i6)), (7, (Value.int .i64 (1 : Int)))] (by decide) ⟨rfl, rfl, rfl, rfl, trivial⟩)
  · clear hkk5
    refine aw_region ?_
    refine al_val (ov_move rfl rfl) ?_
    refine al_val (ov_move rfl rfl) ?_
    refine al_val (ov_strLen Tryd.underlying9 rfl rfl) ?_
    refine al_val (ov_int rfl rfl rfl rfl) ?_
    refine al_val (ov_move rfl rfl) ?_
    refine al_caseB 12 rfl (fun hb18 => ?_) (fun hb18 => ?_)
    · replace h := bif_t hb18 h
      refine al_skip ?_
      refine al_skip ?_
      refine al_skip ?_
      refine al_skip ?_
      refine al_skip ?_
      refine al_skip ?_
      refine al_skip ?_
      refine al_skip ?_
      refine al_skip ?_
      refine al_skip ?_
      refine al_skip ?_
      refine al_val (ov_pick_t rfl rfl rfl) ?_
      refine al_nil ?_
      exact aq_join true h (fun w a hm hs => norm hm hs [] [] [(0, (str a0)), (5, (str l1s5)), (6, (Value.int .i64 l1i6)), (24, (Value.bool true))] (by decide) ⟨rfl, rfl, rfl, rfl, trivial⟩)
    · replace h := bif_f hb18 h
      refine al_val (ov_move rfl rfl) ?_
      refine al_val (ov_move rfl rfl) ?_
      obtain ⟨hc19, h⟩ := req_some h
      refine al_val (ov_strIdx hc19.1 hc19.2 Tryd.underlying9 rfl rfl rfl) ?_
      refine al_val (ov_int rfl rfl rfl rfl) ?_
      refine al_val (ov_move rfl rfl) ?_
      refine al_caseB 17 rfl (fun hb20 => ?_) (fun hb20 => ?_)
      · replace h := bif_t hb20 h
        refine al_val (ov_move rfl rfl) ?_
        refine al_val (ov_int rfl rfl rfl rfl) ?_
        refine al_val (ov_move rfl rfl) ?_
        refine al_val (ov_strLen Tryd.underlying9 rfl rfl) ?_
        refine al_val (ov_int rfl rfl rfl rfl) ?_
        refine al_val (ov_pick_t rfl rfl rfl) ?_
        refine al_val (ov_pick_f rfl rfl rfl) ?_
        refine al_nil ?_
        exact aq_join (decide ((IntKind.i64.wrap (l1i6 + (1 : Int))) ≥ (a0.length : Int))) h (fun w a hm hs => norm hm hs [] [] [(0, (str a0)), (5, (str l1s5)), (6, (Value.int .i64 l1i6)), (24, (Value.bool (decide ((IntKind.i64.wrap (l1i6 + (1 : Int))) ≥ (a0.length : Int)))))] (by decide) ⟨rfl, rfl, rfl, rfl, trivial⟩)
      · replace h := bif_f hb20 h
        refine al_skip ?_
        refine al_skip ?_
        refine al_skip ?_
        refine al_skip ?_
        refine al_skip ?_
        refine al_val (ov_pick_f rfl rfl rfl) ?_
        refine al_val (ov_pick_f rfl rfl rfl) ?_
        refine al_nil ?_
        exact aq_join false h (fun w a hm hs => norm hm hs [] [] [(0, (str a0)), (5, (str l1s5)), (6, (Value.int .i64 l1i6)), (24, (Value.bool false))] (by decide) ⟨rfl, rfl, rfl, rfl, trivial⟩)
def f_lumref_PacketRead (fu : Nat) (a0 : (List UInt8)) : Option (S_api_Packet × Int) := (bif (decide ((a0.length : Int) < (8 : Int))) then (some ((S_api_Packet.mk (0 : Int) (0 : Int) ([] : List UInt8)), (3 : Int))) else (req (0 ≤ (IntKind.i64.wrap ((a0.length : Int) - (8 : Int))) ∧ (IntKind.i64.wrap ((a0.length : Int) - (8 : Int))) ≤ (a0.length : Int)) (opt (f_lumref_ID fu (a0.take ((IntKind.i64.wrap ((a0.length : Int) - (8 : Int)))).toNat)) fun (r5 : A8u8) => (req (0 ≤ (IntKind.i64.wrap ((a0.length : Int) - (8 : Int))) ∧ (IntKind.i64.wrap ((a0.length : Int) - (8 : Int))) ≤ (a0.length : Int)) (bif (!((lA8u8 r5) == (a0.drop ((IntKind.i64.wrap ((a0.length : Int) - (8 : Int)))).toNat))) then (some ((S_api_Packet.mk (0 : Int) (0 : Int) ([] : List UInt8)), (6 : Int))) else (bif ((IntKind.i64.wrap ((a0.length : Int) - (8 : Int))) == (0 : Int)) then (some ((S_api_Packet.mk (0 : Int) (0 : Int) ([] : List UInt8)), (4 : Int))) else (req (0 ≤ (1 : Int) ∧ (1 : Int) ≤ (IntKind.i64.wrap ((a0.length : Int) - (8 : Int))) ∧ (IntKind.i64.wrap ((a0.length : Int) - (8 : Int))) ≤ (a0.length : Int)) (opt (f_lumref_Get fu (cut a0 (1 : Int) (IntKind.i64.wrap ((a0.length : Int) - (8 : Int))))) fun (r13 : (Int × Int × Int)) => (lt (fun (j14b46 : Bool) => (bif j14b46 then (some ((S_api_Packet.mk (0 : Int) (0 : Int) ([] : List UInt8)), (4 : Int))) else (req (0 ≤ (IntKind.i64.wrap ((1 : Int) + r13.2.1)) ∧ (IntKind.i64.wrap ((1 : Int) + r13.2.1)) ≤ (IntKind.i64.wrap ((a0.length : Int) - (8 : Int))) ∧ (IntKind.i64.wrap ((a0.length : Int) - (8 : Int))) ≤ (a0.length : Int)) (opt (f_lumref_GetText fu (cut a0 (IntKind.i64.wrap ((1 : Int) + r13.2.1)) (IntKind.i64.wrap ((a0.length : Int) - (8 : Int))))) fun (r19 : ((List UInt8) × Int × Int)) => (req (0 ≤ (0 : Int) ∧ (0 : Int) < (a0.length : Int)) (lt (fun (j22b77 : Bool) => (bif j22b77 then (some ((S_api_Packet.mk (0 : Int) (0 : Int) ([] : List UInt8)), (4 : Int))) else (some ((S_api_Packet.mk (IntKind.i64.wrap (En.bAt a0 (0 : Int))) (IntKind.i64.wrap r13.1) r19.1), (0 : Int))))) fun (kk23 : Bool → Option (S_api_Packet × Int)) => (bif (r19.2.2 != (0 : Int)) then (kk23 true) else (opt (f_lumref_PacketErr fu (S_api_Packet.mk (IntKind.i64.wrap (En.bAt a0 (0 : Int))) (IntKind.i64.wrap r13.1) r19.1)) fun (r27 : Int) => (bif (r27 != (0 : Int)) then (kk23 true) else (opt (f_lumref_PacketText fu (S_api_Packet.mk (IntKind.i64.wrap (En.bAt a0 (0 : Int))) (IntKind.i64.wrap r13.1) r19.1)) fun (r30 : (List UInt8)) => (kk23 (!(r30 == a0))))))))))))) fun (kk15 : Bool → Option (S_api_Packet × Int)) => (bif (r13.2.2 != (0 : Int)) then (kk15 true) else (kk15 (decide (r13.1 > (2000 : Int))))))))))))))
set_option maxRecDepth 100000 in
theorem f_lumref_PacketRead_ok (fu : Nat) (a0 : (List UInt8)) {r : (S_api_Packet × Int)} (h : f_lumref_PacketRead fu a0 = some r) : FnOk Tryd.prog 31 [(str a0)] [uMax] [] (fun (i : Unit) => { val := (Value.tuple #[(ag [(Value.int .i64 r.1.Kind), (Value.int .i64 r.1.Seq), (str r.1.Text)]), (Value.int .i64 r.2)]) }) := by
  unfold f_lumref_PacketRead at h
  refine fn_enter Tryd.func31 rfl Tryd.ntmps31 rfl (fun w0 Z0 => ?_)
  refine aw_seq ?_
  refine aw_region ?_
  refine al_alloc (zs := [(Value.int .i64 (0 : Int)), (Value.int .i64 (0 : Int)), (str ([] : List UInt8))]) (zeroOf_to to52) rfl rfl (fun g1 => ?_)
  refine al_val (ov_assign rfl rfl) ?_
  refine al_nil ?_
  refine aq_then ?_
  refine aw_seq ?_
  refine aw_seq ?_
  refine aw_region ?_
  refine al_val (ov_move rfl rfl) ?_
  refine al_val (ov_strLen Tryd.underlying9 rfl rfl) ?_
  refine al_val (ov_int rfl rfl rfl rfl) ?_
  refine al_nil ?_
  refine aq_then ?_
  refine aw_cond rfl (fun hb2 => ?_) (fun hb2 => ?_)
  · replace h := bif_t hb2 h
    refine aw_seq ?_
    refine aw_region ?_
    refine al_val (ov_build (cells := ([(Value.int .i64 (0 : Int)), (Value.int .i64 (0 : Int)), (str ([] : List UInt8))]).toArray) (cs := [(Value.int .i64 (0 : Int)), (Value.int .i64 (0 : Int)), (str ([] : List UInt8))]) rfl (fun w a hm hs => by simp only [List.map_toArray, List.map_cons, List.map_nil, List.toList_toArray]; kernel_rfl)) ?_
    refine al_store (i := 0) (vs := [(Value.int .i64 (0 : Int)), (Value.int .i64 (0 : Int)), (str ([] : List UInt8))]) (cs' := [(Value.int .i64 (0 : Int)), (Value.int .i64 (0 : Int)), (str ([] : List UInt8))]) rfl rfl rfl sz52 (cv_rfl rfl) rfl (co_val rfl (co_val rfl (co_val rfl co_nil))) (Nat.le_of_ble_eq_true rfl) rfl rfl ?_
    refine al_val (ov_assign rfl rfl) ?_
    refine al_nil ?_
    refine aq_then ?_
    refine aw_ret ?_
    refine aq_then_ret ?_
    obtain rfl := Option.some.inj h
    exact fn_ret () [] [] rfl rfl rfl rfl (resC rfl (resB (i := 0) rfl rfl Tryd.underlying52 sz52 rfl rfl rfl (resT rfl (resN))) rfl) rfl rfl rfl (by decide)
  · replace h := bif_f hb2 h
    refine aw_skip ?_
    refine aq_then ?_
    refine aw_seq ?_
    refine aw_region ?_
    refine al_val (ov_move rfl rfl) ?_
    refine al_val (ov_strLen Tryd.underlying9 rfl rfl) ?_
    refine al_val (ov_int rfl rfl rfl rfl) ?_
    refine al_val (ov_assign rfl rfl) ?_
    refine al_nil ?_
    refine aq_then ?_
    refine aw_seq ?_
    refine aw_seq ?_
    refine aw_region ?_
    refine al_val (ov_move rfl rfl) ?_
    refine al_val (ov_move rfl rfl) ?_
    obtain ⟨hc3, h⟩ := req_some h
    refine al_val (ov_strTo hc3.1 hc3.2 Tryd.underlying9 rfl rfl rfl) ?_
    obtain ⟨r5, hc4, h⟩ := opt_some h
    refine al_call (vs := [(str (a0.take ((IntKind.i64.wrap ((a0.length : Int) - (8 : Int)))).toNat))]) (f_lumref_ID_ok fu (a0.take ((IntKind.i64.wrap ((a0.length : Int) - (8 : Int)))).toNat) hc4) [] [] [0] pre_nil rfl (by simp) (by decide) (.inl rfl) rfl Tryd.func57 rfl rfl rfl (fun _ => ?_)
    refine al_alloc (zs := (cA8u8 (A8u8.mk (0 : UInt8) (0 : UInt8) (0 : UInt8) (0 : UInt8) (0 : UInt8) (0 : UInt8) (0 : UInt8) (0 : UInt8)))) (zeroOf_to to49) rfl rfl (fun g6 => ?_)
    refine al_store (i := 0) (vs := (cA8u8 r5)) (cs' := (cA8u8 r5)) rfl rfl rfl sz49 (cv_rfl rfl) rfl (co_all (oneA8u8 r5)) (Nat.le_of_ble_eq_true rfl) rfl rfl ?_
    refine al_nil ?_
    refine aq_then ?_
    refine aw_seq ?_
    refine aw_freezeB 0 (r5) rfl rfl (fun _ _ => mkA8u8 rfl) ?_
    obtain ⟨hc8, h⟩ := req_some h
    refine aw_region_draw 5 [(23, (fun s7 => (fDat (tyList tyU8) [s7] (lA8u8 r5)))), (24, (fun u => fEq u (str (lA8u8 r5)))), (25, (fun u => fEq u (str a0))), (26, (fun u => fEq u (Value.int .i64 (IntKind.i64.wrap ((a0.length : Int) - (8 : Int)))))), (27, (fun u => fEq u (str (a0.drop ((IntKind.i64.wrap ((a0.length : Int) - (8 : Int)))).toNat))))] (tab [(0, (str a0)), (2, (ptr g1 0)), (4, (Value.int .i64 (IntKind.i64.wrap ((a0.length : Int) - (8 : Int))))), (5, (ptr g6 0))]) mixed (by kernel_rfl) rfl rfl rfl (fun a hs => hs.tab _ (allT_mem ⟨rfl, rfl, rfl, rfl, trivial⟩)) ⟨⟨rfl, ld_of (of_sliceP 0 lrepA8u8 rfl rfl rfl rfl Tryd.underlying49 sz5 rfl)⟩, ⟨rfl, ld_fact (j := 0) rfl rfl (fun s7 => ld_val (ov_toStr 0 rfl rfl Tryd.underlying89 Tryd.underlying5 Tryd.underlying9 rfl))⟩, ⟨rfl, ld_val (ov_move rfl rfl)⟩, ⟨rfl, ld_val (ov_move rfl rfl)⟩, ⟨rfl, ld_eq (j := 2) rfl rfl (ld_eq (j := 3) rfl rfl (ld_val (ov_strFrom hc8.1 hc8.2 Tryd.underlying9 rfl rfl rfl)))⟩, trivial⟩ ?_
    refine tl_eq 1 rfl ?_
    refine tl_eq 4 rfl ?_
    refine tl_done ?_
    refine al_val (ov_strCmp rfl rfl rfl rfl) ?_
    refine al_nil ?_
    refine aq_then ?_
    refine aw_cond rfl (fun hb9 => ?_) (fun hb9 => ?_)
    · replace h := bif_t hb9 h
      refine aw_seq ?_
      refine aw_region ?_
      refine al_val (ov_build (cells := ([(Value.int .i64 (0 : Int)), (Value.int .i64 (0 : Int)), (str ([] : List UInt8))]).toArray) (cs := [(Value.int .i64 (0 : Int)), (Value.int .i64 (0 : Int)), (str ([] : List UInt8))]) rfl (fun w a hm hs => by simp only [List.map_toArray, List.map_cons, List.map_nil, List.toList_toArray]; kernel_rfl)) ?_
      refine al_store (i := 0) (vs := [(Value.int .i64 (0 : Int)), (Value.int .i64 (0 : Int)), (str ([] : List UInt8))]) (cs' := [(Value.int .i64 (0 : Int)), (Value.int .i64 (0 : Int)), (str ([] : List UInt8))]) rfl rfl rfl sz52 (cv_rfl rfl) rfl (co_val rfl (co_val rfl (co_val rfl co_nil))) (Nat.le_of_ble_eq_true rfl) rfl rfl ?_
      refine al_val (ov_assign rfl rfl) ?_
      refine al_nil ?_
      refine aq_then ?_
      refine aw_ret ?_
      refine aq_then_ret ?_
      obtain rfl := Option.some.inj h
      exact fn_ret () [] [] rfl rfl rfl rfl (resC rfl (resB (i := 0) rfl rfl Tryd.underlying52 sz52 rfl rfl rfl (resT rfl (resN))) rfl) rfl rfl rfl (by decide)
    · replace h := bif_f hb9 h
      refine aw_skip ?_
      refine aq_then ?_
      refine aw_seq ?_
      refine aw_seq ?_
      refine aw_region ?_
      refine al_val (ov_move rfl rfl) ?_
      refine al_val (ov_int rfl rfl rfl rfl) ?_
      refine al_nil ?_
      refine aq_then ?_
      refine aw_cond rfl (fun hb10 => ?_) (fun hb10 => ?_)
      · replace h := bif_t hb10 h
        refine aw_seq ?_
        refine aw_region ?_
        refine al_val (ov_build (cells := ([(Value.int .i64 (0 : Int)), (Value.int .i64 (0 : Int)), (str ([] : List UInt8))]).toArray) (cs := [(Value.int .i64 (0 : Int)), (Value.int .i64 (0 : Int)), (str ([] : List UInt8))]) rfl (fun w a hm hs => by simp only [List.map_toArray, List.map_cons, List.map_nil, List.toList_toArray]; kernel_rfl)) ?_
        refine al_store (i := 0) (vs := [(Value.int .i64 (0 : Int)), (Value.int .i64 (0 : Int)), (str ([] : List UInt8))]) (cs' := [(Value.int .i64 (0 : Int)), (Value.int .i64 (0 : Int)), (str ([] : List UInt8))]) rfl rfl rfl sz52 (cv_rfl rfl) rfl (co_val rfl (co_val rfl (co_val rfl co_nil))) (Nat.le_of_ble_eq_true rfl) rfl rfl ?_
        refine al_val (ov_assign rfl rfl) ?_
        refine al_nil ?_
        refine aq_then ?_
        refine aw_ret ?_
        refine aq_then_ret ?_
        obtain rfl := Option.some.inj h
        exact fn_ret () [] [] rfl rfl rfl rfl (resC rfl (resB (i := 0) rfl rfl Tryd.underlying52 sz52 rfl rfl rfl (resT rfl (resN))) rfl) rfl rfl rfl (by decide)
      · replace h := bif_f hb10 h
        refine aw_skip ?_
        refine aq_then ?_
        refine aw_seq ?_
        refine aw_region ?_
        refine al_val (ov_move rfl rfl) ?_
        refine al_val (ov_move rfl rfl) ?_
        obtain ⟨hc11, h⟩ := req_some h
        refine al_val (ov_strCut hc11.1 hc11.2.1 hc11.2.2 Tryd.underlying9 rfl rfl rfl rfl) ?_
        obtain ⟨r13, hc12, h⟩ := opt_some h
        refine al_call (vs := [(str (cut a0 (1 : Int) (IntKind.i64.wrap ((a0.length : Int) - (8 : Int)))))]) (f_lumref_Get_ok fu (cut a0 (1 : Int) (IntKind.i64.wrap ((a0.length : Int) - (8 : Int)))) hc12) [] [] [0] pre_nil rfl (by simp) (by decide) (.inl rfl) rfl Tryd.func59 rfl rfl rfl (fun _ => ?_)
        refine al_val (ov_move rfl rfl) ?_
        refine al_val (ov_extract rfl rfl rfl) ?_
        refine al_val (ov_extract rfl rfl rfl) ?_
        refine al_val (ov_extract rfl rfl rfl) ?_
        refine al_val (ov_assign rfl rfl) ?_
        refine al_val (ov_assign rfl rfl) ?_
        refine al_val (ov_assign rfl rfl) ?_
        refine al_nil ?_
        refine aq_then ?_
        refine aw_seq ?_
        obtain ⟨kk15, hkk15, h⟩ := lt_some h
        refine aw_seq_join (ι := Bool) (fun i => (memOf w0 Z0 [] [(oBox g1 52 [(Value.int .i64 (0 : Int)), (Value.int .i64 (0 : Int)), (str ([] : List UInt8))])] [(fPtr tyA8u8 (ptr g6 0) r5), uMax])) (fun i => (tab [(0, (str a0)), (2, (ptr g1 0)), (4, (Value.int .i64 (IntKind.i64.wrap ((a0.length : Int) - (8 : Int))))), (6, (Value.int .u64 r13.1)), (7, (Value.int .i64 r13.2.1)), (46, (Value.bool i))])) (fun i => kk15 i = some r) ?_ ?_
        · rintro j14b46 h
          have h : kk15 j14b46 = some r := h
          rw [hkk15] at h
          dsimp only at h
          clear hkk15
          refine aw_show (m := (memOf w0 Z0 [] [(oBox g1 52 [(Value.int .i64 (0 : Int)), (Value.int .i64 (0 : Int)), (str ([] : List UInt8))])] [(fPtr tyA8u8 (ptr g6 0) r5), uMax])) (S := (tab [(0, (str a0)), (2, (ptr g1 0)), (4, (Value.int .i64 (IntKind.i64.wrap ((a0.length : Int) - (8 : Int))))), (6, (Value.int .u64 r13.1)), (7, (Value.int .i64 r13.2.1)), (46, (Value.bool j14b46))])) ?_
          refine aw_cond rfl (fun hb16 => ?_) (fun hb16 => ?_)
          · replace h := bif_t hb16 h
            refine aw_seq ?_
            refine aw_region ?_
            refine al_val (ov_build (cells := ([(Value.int .i64 (0 : Int)), (Value.int .i64 (0 : Int)), (str ([] : List UInt8))]).toArray) (cs := [(Value.int .i64 (0 : Int)), (Value.int .i64 (0 : Int)), (str ([] : List UInt8))]) rfl (fun w a hm hs => by simp only [List.map_toArray, List.map_cons, List.map_nil, List.toList_toArray]; kernel_rfl)) ?_
            refine al_store (i := 0) (vs := [(Value.int .i64 (0 : Int)), (Value.int .i64 (0 : Int)), (str ([] : List UInt8))]) (cs' := [(Value.int .i64 (0 : Int)), (Value.int .i64 (0 : Int)), (str ([] : List UInt8))]) rfl rfl rfl sz52 (cv_rfl rfl) rfl (co_val rfl (co_val rfl (co_val rfl co_nil))) (Nat.le_of_ble_eq_true rfl) rfl rfl ?_
            refine al_val (ov_assign rfl rfl) ?_
            refine al_nil ?_
            refine aq_then ?_
            refine aw_ret ?_
            refine aq_then_ret ?_
            obtain rfl := Option.some.inj h
            exact fn_ret () [] [] rfl rfl rfl rfl (resC rfl (resB (i := 0) rfl rfl Tryd.underlying52 sz52 rfl rfl rfl (resT rfl (resN))) rfl) rfl rfl rfl (by decide)
          · replace h := bif_f hb16 h
            refine aw_skip ?_
            refine aq_then ?_
            refine aw_seq ?_
            refine aw_region ?_
            refine al_val (ov_move rfl rfl) ?_
            refine al_val (ov_move rfl rfl) ?_
            refine al_val (ov_int rfl rfl rfl rfl) ?_
            refine al_val (ov_move rfl rfl) ?_
            obtain ⟨hc17, h⟩ := req_some h
            refine al_val (ov_strCut hc17.1 hc17.2.1 hc17.2.2 Tryd.underlying9 rfl rfl rfl rfl) ?_
            obtain ⟨r19, hc18, h⟩ := opt_some h
            refine al_call (vs := [(str (cut a0 (IntKind.i64.wrap ((1 : Int) + r13.2.1)) (IntKind.i64.wrap ((a0.length : Int) - (8 : Int)))))]) (f_lumref_GetText_ok fu (cut a0 (IntKind.i64.wrap ((1 : Int) + r13.2.1)) (IntKind.i64.wrap ((a0.length : Int) - (8 : Int)))) hc18) [] [] [0] pre_nil rfl (by simp) (by decide) (.inl rfl) rfl Tryd.func75 rfl rfl rfl (fun _ => ?_)
            refine al_val (ov_move rfl rfl) ?_
            refine al_val (ov_extract rfl rfl rfl) ?_
            refine al_val (ov_extract rfl rfl rfl) ?_
            refine al_val (ov_extract rfl rfl rfl) ?_
            refine al_val (ov_assign rfl rfl) ?_
            refine al_val (ov_assign rfl rfl) ?_
            refine al_val (ov_assign rfl rfl) ?_
            refine al_nil ?_
            refine aq_then ?_
            refine aw_seq ?_
            refine aw_region ?_
            refine al_val (ov_move rfl rfl) ?_
            obtain ⟨hc20, h⟩ := req_some h
            refine al_val (ov_strIdx hc20.1 hc20.2 Tryd.underlying9 rfl rfl rfl) ?_
            refine al_val (ov_convInt (by rw [Tryd.underlying5]; rfl) Tryd.underlying3 rfl rfl) ?_
            refine al_val (ov_move rfl rfl) ?_
            refine al_val (ov_convInt (by rw [Tryd.underlying87]; rfl) Tryd.underlying3 rfl rfl) ?_
            refine al_val (ov_move rfl rfl) ?_
            refine al_val (ov_build (cells := ([(Value.int .i64 (IntKind.i64.wrap (En.bAt a0 (0 : Int)))), (Value.int .i64 (IntKind.i64.wrap r13.1)), (str r19.1)]).toArray) (cs := [(Value.int .i64 (IntKind.i64.wrap (En.bAt a0 (0 : Int)))), (Value.int .i64 (IntKind.i64.wrap r13.1)), (str r19.1)]) rfl (fun w a hm hs => by simp only [List.map_toArray, List.map_cons, List.map_nil, List.toList_toArray, hs.ev (x := .tmp 60) rfl, hs.ev (x := .tmp 62) rfl, hs.ev (x := .tmp 63) rfl]; kernel_rfl)) ?_
            refine al_alloc (zs := [(Value.int .i64 (0 : Int)), (Value.int .i64 (0 : Int)), (str ([] : List UInt8))]) (zeroOf_to to52) rfl rfl (fun g21 => ?_)
            refine al_store (i := 0) (vs := [(Value.int .i64 (IntKind.i64.wrap (En.bAt a0 (0 : Int)))), (Value.int .i64 (IntKind.i64.wrap r13.1)), (str r19.1)]) (cs' := [(Value.int .i64 (IntKind.i64.wrap (En.bAt a0 (0 : Int)))), (Value.int .i64 (IntKind.i64.wrap r13.1)), (str r19.1)]) rfl rfl rfl sz52 (cv_rfl rfl) rfl (co_val rfl (co_val rfl (co_val rfl co_nil))) (Nat.le_of_ble_eq_true rfl) rfl rfl ?_
            refine al_nil ?_
            refine aq_then ?_
            refine aw_seq ?_
            obtain ⟨kk23, hkk23, h⟩ := lt_some h
            refine aw_seq_join (ι := Bool) (fun i => (memOf w0 Z0 [] [(oBox g1 52 [(Value.int .i64 (0 : Int)), (Value.int .i64 (0 : Int)), (str ([] : List UInt8))]), (oBox g21 52 [(Value.int .i64 (IntKind.i64.wrap (En.bAt a0 (0 : Int)))), (Value.int .i64 (IntKind.i64.wrap r13.1)), (str r19.1)])] [(fPtr tyA8u8 (ptr g6 0) r5), uMax])) (fun i => (tab [(2, (ptr g1 0)), (11, (ptr g21 0)), (77, (Value.bool i))])) (fun i => kk23 i = some r) ?_ ?_
            · rintro j22b77 h
              have h : kk23 j22b77 = some r := h
              rw [hkk23] at h
              dsimp only at h
              clear hkk23
              refine aw_show (m := (memOf w0 Z0 [] [(oBox g1 52 [(Value.int .i64 (0 : Int)), (Value.int .i64 (0 : Int)), (str ([] : List UInt8))]), (oBox g21 52 [(Value.int .i64 (IntKind.i64.wrap (En.bAt a0 (0 : Int)))), (Value.int .i64 (IntKind.i64.wrap r13.1)), (str r19.1)])] [(fPtr tyA8u8 (ptr g6 0) r5), uMax])) (S := (tab [(2, (ptr g1 0)), (11, (ptr g21 0)), (77, (Value.bool j22b77))])) ?_
              refine aw_cond rfl (fun hb24 => ?_) (fun hb24 => ?_)
              · replace h := bif_t hb24 h
                refine aw_seq ?_
                refine aw_region ?_
                refine al_val (ov_build (cells := ([(Value.int .i64 (0 : Int)), (Value.int .i64 (0 : Int)), (str ([] : List UInt8))]).toArray) (cs := [(Value.int .i64 (0 : Int)), (Value.int .i64 (0 : Int)), (str ([] : List UInt8))]) rfl (fun w a hm hs => by simp only [List.map_toArray, List.map_cons, List.map_nil, List.toList_toArray]; kernel_rfl)) ?_
                refine al_store (i := 0) (vs := [(Value.int .i64 (0 : Int)), (Value.int .i64 (0 : Int)), (str ([] : List UInt8))]) (cs' := [(Value.int .i64 (0 : Int)), (Value.int .i64 (0 : Int)), (str ([] : List UInt8))]) rfl rfl rfl sz52 (cv_rfl rfl) rfl (co_val rfl (co_val rfl (co_val rfl co_nil))) (Nat.le_of_ble_eq_true rfl) rfl rfl ?_
                refine al_val (ov_assign rfl rfl) ?_
                refine al_nil ?_
                refine aq_then ?_
                refine aw_ret ?_
                refine aq_then_ret ?_
                obtain rfl := Option.some.inj h
                exact fn_ret () [] [] rfl rfl rfl rfl (resC rfl (resB (i := 0) rfl rfl Tryd.underlying52 sz52 rfl rfl rfl (resT rfl (resN))) rfl) rfl rfl rfl (by decide)
              · replace h := bif_f hb24 h
                refine aw_skip ?_
                refine aq_then ?_
                refine aw_seq ?_
                refine aw_region ?_
                refine al_val (ov_load (i := 1) (v := (ag [(Value.int .i64 (IntKind.i64.wrap (En.bAt a0 (0 : Int)))), (Value.int .i64 (IntKind.i64.wrap r13.1)), (str r19.1)])) rfl rfl Tryd.underlying52 sz52 rfl rfl rfl rfl) ?_
                refine al_store (i := 0) (vs := [(Value.int .i64 (IntKind.i64.wrap (En.bAt a0 (0 : Int)))), (Value.int .i64 (IntKind.i64.wrap r13.1)), (str r19.1)]) (cs' := [(Value.int .i64 (IntKind.i64.wrap (En.bAt a0 (0 : Int)))), (Value.int .i64 (IntKind.i64.wrap r13.1)), (str r19.1)]) rfl rfl rfl sz52 (cv_rfl rfl) rfl (co_val rfl (co_val rfl (co_val rfl co_nil))) (Nat.le_of_ble_eq_true rfl) rfl rfl ?_
                refine al_val (ov_assign rfl rfl) ?_
                refine al_nil ?_
                refine aq_then ?_
                refine aw_ret ?_
                obtain rfl := Option.some.inj h
                exact fn_ret () [] [] rfl rfl rfl rfl (resC rfl (resB (i := 0) rfl rfl Tryd.underlying52 sz52 rfl rfl rfl (resT rfl (resN))) rfl) rfl rfl rfl (by decide)
            · clear hkk23
              refine aw_region ?_
              refine al_val (ov_move rfl rfl) ?_
              refine al_val (ov_int rfl rfl rfl rfl) ?_
              refine al_val (ov_move rfl rfl) ?_
              refine al_caseB 67 rfl (fun hb25 => ?_) (fun hb25 => ?_)
              · replace h := bif_t hb25 h
                refine al_skip ?_
                refine al_skip ?_
                refine al_skip ?_
                refine al_val (ov_pick_t rfl rfl rfl) ?_
                refine al_val (ov_move rfl rfl) ?_
                refine al_skip ?_
                refine al_skip ?_
                refine al_skip ?_
                refine al_skip ?_
                refine al_val (ov_pick_t rfl rfl rfl) ?_
                refine al_nil ?_
                exact aq_join true h (fun w a hm hs => norm hm hs [1, 0] [0, 1] [(2, (ptr g1 0)), (11, (ptr g21 0)), (77, (Value.bool true))] (by decide) ⟨rfl, rfl, rfl, trivial⟩)
              · replace h := bif_f hb25 h
                refine al_val (ov_load (i := 0) (v := (ag [(Value.int .i64 (IntKind.i64.wrap (En.bAt a0 (0 : Int)))), (Value.int .i64 (IntKind.i64.wrap r13.1)), (str r19.1)])) rfl rfl Tryd.underlying52 sz52 rfl rfl rfl rfl) ?_
                obtain ⟨r27, hc26, h⟩ := opt_some h
                refine al_call (vs := [(ag [(Value.int .i64 (IntKind.i64.wrap (En.bAt a0 (0 : Int)))), (Value.int .i64 (IntKind.i64.wrap r13.1)), (str r19.1)])]) (f_lumref_PacketErr_ok fu (S_api_Packet.mk (IntKind.i64.wrap (En.bAt a0 (0 : Int))) (IntKind.i64.wrap r13.1) r19.1) hc26) [] [] [0, 1] pre_nil rfl (by simp) (by decide) (.inl rfl) rfl Tryd.func27 rfl rfl rfl (fun _ => ?_)
                refine al_val (ov_int rfl rfl rfl rfl) ?_
                refine al_val (ov_pick_f rfl rfl rfl) ?_
                refine al_val (ov_move rfl rfl) ?_
                refine al_caseB 72 rfl (fun hb28 => ?_) (fun hb28 => ?_)
                · replace h := bif_t hb28 h
                  refine al_skip ?_
                  refine al_skip ?_
                  refine al_skip ?_
                  refine al_skip ?_
                  refine al_val (ov_pick_t rfl rfl rfl) ?_
                  refine al_nil ?_
                  exact aq_join true h (fun w a hm hs => norm hm hs [1, 0] [0, 1] [(2, (ptr g1 0)), (11, (ptr g21 0)), (77, (Value.bool true))] (by decide) ⟨rfl, rfl, rfl, trivial⟩)
                · replace h := bif_f hb28 h
                  refine al_val (ov_load (i := 0) (v := (ag [(Value.int .i64 (IntKind.i64.wrap (En.bAt a0 (0 : Int)))), (Value.int .i64 (IntKind.i64.wrap r13.1)), (str r19.1)])) rfl rfl Tryd.underlying52 sz52 rfl rfl rfl rfl) ?_
                  obtain ⟨r30, hc29, h⟩ := opt_some h
                  refine al_call (vs := [(ag [(Value.int .i64 (IntKind.i64.wrap (En.bAt a0 (0 : Int)))), (Value.int .i64 (IntKind.i64.wrap r13.1)), (str r19.1)])]) (f_lumref_PacketText_ok fu (S_api_Packet.mk (IntKind.i64.wrap (En.bAt a0 (0 : Int))) (IntKind.i64.wrap r13.1) r19.1) hc29) [] [] [0, 1] (pre_fz 1 rfl pre_nil) rfl (by simp) (by decide) (.inl rfl) rfl Tryd.func29 rfl rfl rfl (fun _ => ?_)
                  refine al_val (ov_move rfl rfl) ?_
                  refine al_val (ov_strCmp rfl rfl rfl rfl) ?_
                  refine al_val (ov_pick_f rfl rfl rfl) ?_
                  refine al_nil ?_
                  exact aq_join (!(r30 == a0)) h (fun w a hm hs => norm hm hs [1, 0] [0, 1] [(2, (ptr g1 0)), (11, (ptr g21 0)), (77, (Value.bool (!(r30 == a0))))] (by decide) ⟨rfl, rfl, rfl, trivial⟩)
        · clear hkk15
          refine aw_region ?_
          refine al_val (ov_move rfl rfl) ?_
          refine al_val (ov_int rfl rfl rfl rfl) ?_
          refine al_val (ov_move rfl rfl) ?_
          refine al_caseB 43 rfl (fun hb31 => ?_) (fun hb31 => ?_)
          · replace h := bif_t hb31 h
            refine al_skip ?_
            refine al_skip ?_
            refine al_val (ov_pick_t rfl rfl rfl) ?_
            refine al_nil ?_
            exact aq_join true h (fun w a hm hs => norm hm hs [0] [0, 1] [(0, (str a0)), (2, (ptr g1 0)), (4, (Value.int .i64 (IntKind.i64.wrap ((a0.length : Int) - (8 : Int))))), (6, (Value.int .u64 r13.1)), (7, (Value.int .i64 r13.2.1)), (46, (Value.bool true))] (by decide) ⟨rfl, rfl, rfl, rfl, rfl, rfl, trivial⟩)
          · replace h := bif_f hb31 h
            refine al_val (ov_move rfl rfl) ?_
            refine al_val (ov_int rfl rfl rfl rfl) ?_
            refine al_val (ov_pick_f rfl rfl rfl) ?_
            refine al_nil ?_
            exact aq_join (decide (r13.1 > (2000 : Int))) h (fun w a hm hs => norm hm hs [0] [0, 1] [(0, (str a0)), (2, (ptr g1 0)), (4, (Value.int .i64 (IntKind.i64.wrap ((a0.length : Int) - (8 : Int))))), (6, (Value.int .u64 r13.1)), (7, (Value.int .i64 r13.2.1)), (46, (Value.bool (decide (r13.1 > (2000 : Int)))))] (by decide) ⟨rfl, rfl, rfl, rfl, rfl, rfl, trivial⟩)
def f_lumlaw_LinePackets (fu : Nat) (a0 : S_api_Packet) (a1 : (List UInt8)) : Option Bool := (opt (f_lumref_PacketErr fu a0) fun (r3 : Int) => (opt (f_line_Pack fu a0) fun (r5 : ((List UInt8) × Int)) => (lt (fun (j6s8 : (List UInt8)) => (opt (f_line_Read fu a1) fun (r9 : (S_api_Packet × Int)) => (opt (f_lumref_PacketRead fu a1) fun (r12 : (S_api_Packet × Int)) => (lt (fun (j14b4 : Bool) => (some j14b4)) fun (kk15 : Bool → Option Bool) => (bif (r5.1 == j6s8) then (bif (r5.2 == r3) then (req ((Lit.int .i64 r9.1.Kind).wf = true) (req ((Lit.int .i64 r9.1.Seq).wf = true) (req (r9.1.Text.length ≤ 9223372036854775807) (req ((Lit.int .i64 r12.1.Kind).wf = true) (req ((Lit.int .i64 r12.1.Seq).wf = true) (req (r12.1.Text.length ≤ 9223372036854775807) (bif ((S_api_Packet.mk r9.1.Kind r9.1.Seq r9.1.Text) == (S_api_Packet.mk r12.1.Kind r12.1.Seq r12.1.Text)) then (kk15 (r9.2 == r12.2)) else (kk15 false)))))))) else (kk15 false)) else (kk15 false)))))) fun (kk7 : (List UInt8) → Option Bool) => (bif (r3 == (0 : Int)) then (opt (f_lumref_PacketText fu a0) fun (r27 : (List UInt8)) => (kk7 r27)) else (kk7 ([] : List UInt8))))))
set_option maxRecDepth 100000 in
theorem f_lumlaw_LinePackets_ok (fu : Nat) (a0 : S_api_Packet) (a1 : (List UInt8)) {r : Bool} (h : f_lumlaw_LinePackets fu a0 a1 = some r) : FnOk Tryd.prog 6 [(ag [(Value.int .i64 a0.Kind), (Value.int .i64 a0.Seq), (str a0.Text)]), (str a1)] [uMax] [] (fun (i : Unit) => { val := (Value.bool r) }) := by
  unfold f_lumlaw_LinePackets at h
  refine fn_enter Tryd.func6 rfl Tryd.ntmps6 rfl (fun w0 Z0 => ?_)
  refine aw_seq ?_
  refine aw_region ?_
  refine al_box (vs := [(Value.int .i64 a0.Kind), (Value.int .i64 a0.Seq), (str a0.Text)]) rfl (cv_rfl rfl) rfl (fun g1 => ?_)
  refine al_val (ov_assign rfl rfl) ?_
  refine al_nil ?_
  refine aq_then ?_
  refine aw_seq ?_
  refine aw_region ?_
  refine al_val (ov_load (i := 0) (v := (ag [(Value.int .i64 a0.Kind), (Value.int .i64 a0.Seq), (str a0.Text)])) rfl rfl Tryd.underlying52 sz52 rfl rfl rfl rfl) ?_
  obtain ⟨r3, hc2, h⟩ := opt_some h
  refine al_call (vs := [(ag [(Value.int .i64 a0.Kind), (Value.int .i64 a0.Seq), (str a0.Text)])]) (f_lumref_PacketErr_ok fu a0 hc2) [] [] [0] pre_nil rfl (by simp) (by decide) (.inl rfl) rfl Tryd.func27 rfl rfl rfl (fun _ => ?_)
  refine al_val (ov_assign rfl rfl) ?_
  refine al_nil ?_
  refine aq_then ?_
  refine aw_seq ?_
  refine aw_region ?_
  refine al_val (ov_load (i := 0) (v := (ag [(Value.int .i64 a0.Kind), (Value.int .i64 a0.Seq), (str a0.Text)])) rfl rfl Tryd.underlying52 sz52 rfl rfl rfl rfl) ?_
  obtain ⟨r5, hc4, h⟩ := opt_some h
  refine al_call (vs := [(ag [(Value.int .i64 a0.Kind), (Value.int .i64 a0.Seq), (str a0.Text)])]) (f_line_Pack_ok fu a0 hc4) [] [] [0] (pre_fz 0 rfl pre_nil) rfl (by simp) (by decide) (.inl rfl) rfl Tryd.func28 rfl rfl rfl (fun _ => ?_)
  refine al_val (ov_move rfl rfl) ?_
  refine al_val (ov_extract rfl rfl rfl) ?_
  refine al_val (ov_extract rfl rfl rfl) ?_
  refine al_val (ov_assign rfl rfl) ?_
  refine al_val (ov_assign rfl rfl) ?_
  refine al_nil ?_
  refine aq_then ?_
  refine aw_seq ?_
  refine aw_region ?_
  refine al_val (ov_assign rfl rfl) ?_
  refine al_nil ?_
  refine aq_then ?_
  obtain ⟨kk7, hkk7, h⟩ := lt_some h
  refine aw_seq_join (ι := (List UInt8)) (fun i => (memOf w0 Z0 [] [] [uMax])) (fun i => (tab [(1, (str a1)), (5, (Value.int .i64 r3)), (6, (str r5.1)), (7, (Value.int .i64 r5.2)), (8, (str i))])) (fun i => kk7 i = some r) ?_ ?_
  · rintro j6s8 h
    have h : kk7 j6s8 = some r := h
    rw [hkk7] at h
    dsimp only at h
    clear hkk7
    refine aw_show (m := (memOf w0 Z0 [] [] [uMax])) (S := (tab [(1, (str a1)), (5, (Value.int .i64 r3)), (6, (str r5.1)), (7, (Value.int .i64 r5.2)), (8, (str j6s8))])) ?_
    refine aw_seq ?_
    refine aw_region ?_
    refine al_val (ov_move rfl rfl) ?_
    obtain ⟨r9, hc8, h⟩ := opt_some h
    refine al_call (vs := [(str a1)]) (f_line_Read_ok fu a1 hc8) [] [] [] (pre_fz 0 rfl pre_nil) rfl (by simp) (by decide) (.inl rfl) rfl Tryd.func30 rfl rfl rfl (fun _ => ?_)
    refine al_val (ov_move rfl rfl) ?_
    refine al_val (ov_extract rfl rfl rfl) ?_
    refine al_val (ov_extract rfl rfl rfl) ?_
    refine al_alloc (zs := [(Value.int .i64 (0 : Int)), (Value.int .i64 (0 : Int)), (str ([] : List UInt8))]) (zeroOf_to to52) rfl rfl (fun g10 => ?_)
    refine al_store (i := 0) (vs := [(Value.int .i64 r9.1.Kind), (Value.int .i64 r9.1.Seq), (str r9.1.Text)]) (cs' := [(Value.int .i64 r9.1.Kind), (Value.int .i64 r9.1.Seq), (str r9.1.Text)]) rfl rfl rfl sz52 (cv_rfl rfl) rfl (co_val rfl (co_val rfl (co_val rfl co_nil))) (Nat.le_of_ble_eq_true rfl) rfl rfl ?_
    refine al_val (ov_assign rfl rfl) ?_
    refine al_nil ?_
    refine aq_then ?_
    refine aw_seq ?_
    refine aw_region ?_
    refine al_val (ov_move rfl rfl) ?_
    obtain ⟨r12, hc11, h⟩ := opt_some h
    refine al_call (vs := [(str a1)]) (f_lumref_PacketRead_ok fu a1 hc11) [] [] [0] (pre_fz 0 rfl pre_nil) rfl (by simp) (by decide) (.inl rfl) rfl Tryd.func31 rfl rfl rfl (fun _ => ?_)
    refine al_val (ov_move rfl rfl) ?_
    refine al_val (ov_extract rfl rfl rfl) ?_
    refine al_val (ov_extract rfl rfl rfl) ?_
    refine al_alloc (zs := [(Value.int .i64 (0 : Int)), (Value.int .i64 (0 : Int)), (str ([] : List UInt8))]) (zeroOf_to to52) rfl rfl (fun g13 => ?_)
    refine al_store (i := 0) (vs := [(Value.int .i64 r12.1.Kind), (Value.int .i64 r12.1.Seq), (str r12.1.Text)]) (cs' := [(Value.int .i64 r12.1.Kind), (Value.int .i64 r12.1.Seq), (str r12.1.Text)]) rfl rfl rfl sz52 (cv_rfl rfl) rfl (co_val rfl (co_val rfl (co_val rfl co_nil))) (Nat.le_of_ble_eq_true rfl) rfl rfl ?_
    refine al_val (ov_assign rfl rfl) ?_
    refine al_nil ?_
    refine aq_then ?_
    obtain ⟨kk15, hkk15, h⟩ := lt_some h
    refine aw_seq_join (ι := Bool) (fun i => (memOf w0 Z0 [] [] [uMax])) (fun i => (tab [(4, (Value.bool i))])) (fun i => kk15 i = some r) ?_ ?_
    · rintro j14b4 h
      have h : kk15 j14b4 = some r := h
      rw [hkk15] at h
      dsimp only at h
      clear hkk15
      refine aw_show (m := (memOf w0 Z0 [] [] [uMax])) (S := (tab [(4, (Value.bool j14b4))])) ?_
      refine aw_ret ?_
      obtain rfl := Option.some.inj h
      exact fn_ret () [] [] rfl rfl rfl rfl (res1 rfl rfl) rfl rfl rfl (by decide)
    · clear hkk15
      refine aw_region ?_
      refine al_val (ov_move rfl rfl) ?_
      refine al_val (ov_move rfl rfl) ?_
      refine al_val (ov_strCmp rfl rfl rfl rfl) ?_
      refine al_val (ov_move rfl rfl) ?_
      refine al_caseB 37 rfl (fun hb16 => ?_) (fun hb16 => ?_)
      · replace h := bif_t hb16 h
        refine al_val (ov_move rfl rfl) ?_
        refine al_val (ov_move rfl rfl) ?_
        refine al_val (ov_int rfl rfl rfl rfl) ?_
        refine al_val (ov_pick_t rfl rfl rfl) ?_
        refine al_val (ov_move rfl rfl) ?_
        refine al_caseB 42 rfl (fun hb17 => ?_) (fun hb17 => ?_)
        · replace h := bif_t hb17 h
          refine al_val (ov_load (i := 1) (v := (ag [(Value.int .i64 r9.1.Kind), (Value.int .i64 r9.1.Seq), (str r9.1.Text)])) rfl rfl Tryd.underlying52 sz52 rfl rfl rfl rfl) ?_
          refine al_val (ov_load (i := 0) (v := (ag [(Value.int .i64 r12.1.Kind), (Value.int .i64 r12.1.Seq), (str r12.1.Text)])) rfl rfl Tryd.underlying52 sz52 rfl rfl rfl rfl) ?_
          obtain ⟨hc18, h⟩ := req_some h
          obtain ⟨hc19, h⟩ := req_some h
          obtain ⟨hc20, h⟩ := req_some h
          obtain ⟨hc21, h⟩ := req_some h
          obtain ⟨hc22, h⟩ := req_some h
          obtain ⟨hc23, h⟩ := req_some h
          refine al_val (ov_eqlA (cs := [(Value.int .i64 r9.1.Kind), (Value.int .i64 r9.1.Seq), (str r9.1.Text)]) (ds := [(Value.int .i64 r12.1.Kind), (Value.int .i64 r12.1.Seq), (str r12.1.Text)]) (ls := [3, 3, 9]) (p := ((S_api_Packet.mk r9.1.Kind r9.1.Seq r9.1.Text) == (S_api_Packet.mk r12.1.Kind r12.1.Seq r12.1.Text))) eg52 kt52 lv52 rfl rfl (by kernel_rfl) (by kernel_rfl) (fit_cons (fit_int Tryd.underlying3 hc18) (fit_cons (fit_int Tryd.underlying3 hc19) (fit_cons (fit_str Tryd.underlying9 hc20) fit_nil))) (fit_cons (fit_int Tryd.underlying3 hc21) (fit_cons (fit_int Tryd.underlying3 hc22) (fit_cons (fit_str Tryd.underlying9 hc23) fit_nil))) (injS_api_Packet (x := (S_api_Packet.mk r9.1.Kind r9.1.Seq r9.1.Text)) (y := (S_api_Packet.mk r12.1.Kind r12.1.Seq r12.1.Text))) rfl) ?_
          refine al_val (ov_pick_t rfl rfl rfl) ?_
          refine al_val (ov_move rfl rfl) ?_
          refine al_caseB 47 rfl (fun hb24 => ?_) (fun hb24 => ?_)
          · replace h := bif_t hb24 h
            refine al_val (ov_move rfl rfl) ?_
            refine al_val (ov_move rfl rfl) ?_
            refine al_val (ov_int rfl rfl rfl rfl) ?_
            refine al_val (ov_pick_t rfl rfl rfl) ?_
            refine al_val (ov_assign rfl rfl) ?_
            refine al_nil ?_
            exact aq_join (r9.2 == r12.2) h (fun w a hm hs => norm hm hs [] [0] [(4, (Value.bool (r9.2 == r12.2)))] (by decide) ⟨rfl, trivial⟩)
          · replace h := bif_f hb24 h
            refine al_skip ?_
            refine al_skip ?_
            refine al_skip ?_
            refine al_val (ov_pick_f rfl rfl rfl) ?_
            refine al_val (ov_assign rfl rfl) ?_
            refine al_nil ?_
            exact aq_join false h (fun w a hm hs => norm hm hs [] [0] [(4, (Value.bool false))] (by decide) ⟨rfl, trivial⟩)
        · replace h := bif_f hb17 h
          refine al_skip ?_
          refine al_skip ?_
          refine al_skip ?_
          refine al_val (ov_pick_f rfl rfl rfl) ?_
          refine al_val (ov_move rfl rfl) ?_
          refine al_skip ?_
          refine al_skip ?_
          refine al_skip ?_
          refine al_val (ov_pick_f rfl rfl rfl) ?_
          refine al_val (ov_assign rfl rfl) ?_
          refine al_nil ?_
          exact aq_join false h (fun w a hm hs => norm hm hs [] [0] [(4, (Value.bool false))] (by decide) ⟨rfl, trivial⟩)
      · replace h := bif_f hb16 h
        refine al_skip ?_
        refine al_skip ?_
        refine al_skip ?_
        refine al_val (ov_pick_f rfl rfl rfl) ?_
        refine al_val (ov_move rfl rfl) ?_
        refine al_skip ?_
        refine al_skip ?_
        refine al_skip ?_
        refine al_val (ov_pick_f rfl rfl rfl) ?_
        refine al_val (ov_move rfl rfl) ?_
        refine al_skip ?_
        refine al_skip ?_
        refine al_skip ?_
        refine al_val (ov_pick_f rfl rfl rfl) ?_
        refine al_val (ov_assign rfl rfl) ?_
        refine al_nil ?_
        exact aq_join false h (fun w a hm hs => norm hm hs [] [0] [(4, (Value.bool false))] (by decide) ⟨rfl, trivial⟩)
  · clear hkk7
    refine aw_seq ?_
    refine aw_region ?_
    refine al_val (ov_move rfl rfl) ?_
    refine al_val (ov_int rfl rfl rfl rfl) ?_
    refine al_nil ?_
    refine aq_then ?_
    refine aw_cond rfl (fun hb25 => ?_) (fun hb25 => ?_)
    · replace h := bif_t hb25 h
      refine aw_region ?_
      refine al_val (ov_load (i := 0) (v := (ag [(Value.int .i64 a0.Kind), (Value.int .i64 a0.Seq), (str a0.Text)])) rfl rfl Tryd.underlying52 sz52 rfl rfl rfl rfl) ?_
      obtain ⟨r27, hc26, h⟩ := opt_some h
      refine al_call (vs := [(ag [(Value.int .i64 a0.Kind), (Value.int .i64 a0.Seq), (str a0.Text)])]) (f_lumref_PacketText_ok fu a0 hc26) [] [] [0] (pre_fz 0 rfl pre_nil) rfl (by simp) (by decide) (.inl rfl) rfl Tryd.func29 rfl rfl rfl (fun _ => ?_)
      refine al_val (ov_assign rfl rfl) ?_
      refine al_nil ?_
      exact aq_join r27 h (fun w a hm hs => norm hm hs [] [0] [(1, (str a1)), (5, (Value.int .i64 r3)), (6, (str r5.1)), (7, (Value.int .i64 r5.2)), (8, (str r27))] (by decide) ⟨rfl, rfl, rfl, rfl, rfl, trivial⟩)
    · replace h := bif_f hb25 h
      refine aw_skip ?_
      exact aq_join ([] : List UInt8) h (fun w a hm hs => norm hm hs [] [0] [(1, (str a1)), (5, (Value.int .i64 r3)), (6, (str r5.1)), (7, (Value.int .i64 r5.2)), (8, (str ([] : List UInt8)))] (by decide) ⟨rfl, rfl, rfl, rfl, rfl, trivial⟩)
end Go.Proofs.YtjbgahmcobcojaaDoor
