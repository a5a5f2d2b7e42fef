/- What IndexMerges leans on, part 2. No condition. -/
import Derived.Test.YthdifoidlpiikaaQIndexMergesa
import Derived.Test.YthdifoidlpiikaaChecked
import Derived.WalkKit
import Derived.Lib.Hide
namespace Go.Proofs.Ythdifoidlpiikaa
open Go.RowKit Ythdifoidlpiikaa.En
set_option linter.unusedVariables false
set_option linter.unusedSimpArgs false
open Go.Value (int bool)
structure A8u8 where
  e0 : UInt8
  e1 : UInt8
  e2 : UInt8
  e3 : UInt8
  e4 : UInt8
  e5 : UInt8
  e6 : UInt8
  e7 : UInt8
  deriving DecidableEq
def tyA8u8 : Ty A8u8 := tyVia (fun x => (x.e0, (x.e1, (x.e2, (x.e3, (x.e4, (x.e5, (x.e6, x.e7)))))))) (tyPair tyU8 (tyPair tyU8 (tyPair tyU8 (tyPair tyU8 (tyPair tyU8 (tyPair tyU8 (tyPair tyU8 tyU8)))))))
def cA8u8 (x : A8u8) : List Value := [(int .u8 (x.e0.toNat : Int)), (int .u8 (x.e1.toNat : Int)), (int .u8 (x.e2.toNat : Int)), (int .u8 (x.e3.toNat : Int)), (int .u8 (x.e4.toNat : Int)), (int .u8 (x.e5.toNat : Int)), (int .u8 (x.e6.toNat : Int)), (int .u8 (x.e7.toNat : Int))]
def lA8u8 (x : A8u8) : List UInt8 := [x.e0, x.e1, x.e2, x.e3, x.e4, x.e5, x.e6, x.e7]
def vA8u8 (y : UInt8) : Value := (int .u8 (y.toNat : Int))
theorem oneA8u8 (x : A8u8) : ∀ u ∈ cA8u8 x, u.oneCell' = true := ones_map (enc := vA8u8) (xs := lA8u8 x) (fun _ => rfl)
theorem flatA8u8 : FlatTy tyA8u8 := flat_via (flat_pair flat_enc (flat_pair flat_enc (flat_pair flat_enc (flat_pair flat_enc (flat_pair flat_enc (flat_pair flat_enc (flat_pair flat_enc flat_enc)))))))
theorem encA8u8 {Z w cs} {x : A8u8} (h : tyA8u8.rep Z w cs x) : cs = (cA8u8 x) := by
  obtain ⟨c0, d0, rfl, p0, q0⟩ := h
  obtain ⟨c1, d1, rfl, p1, q1⟩ := q0
  obtain ⟨c2, d2, rfl, p2, q2⟩ := q1
  obtain ⟨c3, d3, rfl, p3, q3⟩ := q2
  obtain ⟨c4, d4, rfl, p4, q4⟩ := q3
  obtain ⟨c5, d5, rfl, p5, q5⟩ := q4
  obtain ⟨c6, d6, rfl, p6, q6⟩ := q5
  rw [show _ = _ from p0]
  rw [show _ = _ from p1]
  rw [show _ = _ from p2]
  rw [show _ = _ from p3]
  rw [show _ = _ from p4]
  rw [show _ = _ from p5]
  rw [show _ = _ from p6]
  rw [show _ = _ from q6]
  rfl
theorem mkA8u8 {Z w cs} {x : A8u8} (h : cs = (cA8u8 x)) : tyA8u8.rep Z w cs x := by
  subst h
  exact ⟨_, _, (List.take_append_drop 1 _).symm, rfl, ⟨_, _, (List.take_append_drop 1 _).symm, rfl, ⟨_, _, (List.take_append_drop 1 _).symm, rfl, ⟨_, _, (List.take_append_drop 1 _).symm, rfl, ⟨_, _, (List.take_append_drop 1 _).symm, rfl, ⟨_, _, (List.take_append_drop 1 _).symm, rfl, ⟨_, _, (List.take_append_drop 1 _).symm, rfl, rfl⟩⟩⟩⟩⟩⟩⟩
theorem lrepA8u8 {Z w cs} {x : A8u8} (h : tyA8u8.rep Z w cs x) : RepL tyU8 Z w cs (lA8u8 x) := by
  rw [encA8u8 h]
  exact ⟨[_], _, rfl, rfl, ⟨[_], _, rfl, rfl, ⟨[_], _, rfl, rfl, ⟨[_], _, rfl, rfl, ⟨[_], _, rfl, rfl, ⟨[_], _, rfl, rfl, ⟨[_], _, rfl, rfl, ⟨[_], _, rfl, rfl, rfl⟩⟩⟩⟩⟩⟩⟩⟩
structure S_api_Place where
  ID : A8u8
  Kind : Int
  Pack : Int
  At : Int
  Len : Int
  deriving DecidableEq
def tyS_api_Place : Ty S_api_Place := tyVia (fun x => (x.ID, (x.Kind, (x.Pack, (x.At, x.Len))))) (tyPair tyA8u8 (tyPair (tyInt .i64) (tyPair (tyInt .i64) (tyPair (tyInt .i64) (tyInt .i64)))))
theorem subS_api_Place_0 : Sub tyS_api_Place 0 tyA8u8 (fun x => x.ID) := Sub.via (Sub.fst (Sub.whole _))
theorem flatS_api_Place : FlatTy tyS_api_Place := flat_via (flat_pair flatA8u8 (flat_pair flat_enc (flat_pair flat_enc (flat_pair flat_enc flat_enc))))
theorem encS_api_Place {Z w cs} {x : S_api_Place} (h : tyS_api_Place.rep Z w cs x) : cs = ((cA8u8 x.ID) ++ [(int .i64 x.Kind), (int .i64 x.Pack), (int .i64 x.At), (int .i64 x.Len)]) := by
  obtain ⟨c0, d0, rfl, p0, q0⟩ := h
  obtain ⟨c1, d1, rfl, p1, q1⟩ := q0
  obtain ⟨c2, d2, rfl, p2, q2⟩ := q1
  obtain ⟨c3, d3, rfl, p3, q3⟩ := q2
  rw [encA8u8 p0]
  rw [show _ = _ from p1]
  rw [show _ = _ from p2]
  rw [show _ = _ from p3]
  rw [show _ = _ from q3]
  rfl
theorem mkS_api_Place {Z w cs} {x : S_api_Place} (h : cs = ((cA8u8 x.ID) ++ [(int .i64 x.Kind), (int .i64 x.Pack), (int .i64 x.At), (int .i64 x.Len)])) : tyS_api_Place.rep Z w cs x := by
  subst h
  exact ⟨_, _, (List.take_append_drop 8 _).symm, (mkA8u8 rfl), ⟨_, _, (List.take_append_drop 1 _).symm, rfl, ⟨_, _, (List.take_append_drop 1 _).symm, rfl, ⟨_, _, (List.take_append_drop 1 _).symm, rfl, rfl⟩⟩⟩⟩
structure S_api_Entry where
  ID : A8u8
  Kind : Int
  At : Int
  Len : Int
  deriving DecidableEq
def tyS_api_Entry : Ty S_api_Entry := tyVia (fun x => (x.ID, (x.Kind, (x.At, x.Len)))) (tyPair tyA8u8 (tyPair (tyInt .i64) (tyPair (tyInt .i64) (tyInt .i64))))
theorem encS_api_Entry {Z w cs} {x : S_api_Entry} (h : tyS_api_Entry.rep Z w cs x) : cs = ((cA8u8 x.ID) ++ [(int .i64 x.Kind), (int .i64 x.At), (int .i64 x.Len)]) := by
  obtain ⟨c0, d0, rfl, p0, q0⟩ := h
  obtain ⟨c1, d1, rfl, p1, q1⟩ := q0
  obtain ⟨c2, d2, rfl, p2, q2⟩ := q1
  rw [encA8u8 p0]
  rw [show _ = _ from p1]
  rw [show _ = _ from p2]
  rw [show _ = _ from q2]
  rfl
theorem sz3 : szOf Try.prog 3 = some 1 := by kernel_rfl
theorem to3 : tyOf Try.prog 3 = some (1, 8, some (int .i64 (0 : Int))) := by kernel_rfl
theorem sz5 : szOf Try.prog 5 = some 1 := by kernel_rfl
theorem sz22 : szOf Try.prog 22 = some 1 := by kernel_rfl
theorem to22 : tyOf Try.prog 22 = some (1, 24, some (Value.slice none 0 0)) := by kernel_rfl
theorem sz30 : szOf Try.prog 30 = some 8 := by kernel_rfl
theorem sz32 : szOf Try.prog 32 = some 12 := by kernel_rfl
theorem to32 : tyOf Try.prog 32 = some (12, 40, some (ag [(int .u8 (0 : Int)), (int .u8 (0 : Int)), (int .u8 (0 : Int)), (int .u8 (0 : Int)), (int .u8 (0 : Int)), (int .u8 (0 : Int)), (int .u8 (0 : Int)), (int .u8 (0 : Int)), (int .i64 (0 : Int)), (int .i64 (0 : Int)), (int .i64 (0 : Int)), (int .i64 (0 : Int))])) := by kernel_rfl
theorem sz123 : szOf Try.prog 123 = some 11 := by kernel_rfl
theorem to123 : tyOf Try.prog 123 = some (11, 32, some (ag [(int .u8 (0 : Int)), (int .u8 (0 : Int)), (int .u8 (0 : Int)), (int .u8 (0 : Int)), (int .u8 (0 : Int)), (int .u8 (0 : Int)), (int .u8 (0 : Int)), (int .u8 (0 : Int)), (int .i64 (0 : Int)), (int .i64 (0 : Int)), (int .i64 (0 : Int))])) := by kernel_rfl
theorem mixed : Try.prog.follows .mixedOrders = true := by kernel_rfl
theorem eg30 : Try.prog.eqGuardType Try.prog.depth 30 = false := by kernel_rfl
theorem kt30 : Try.prog.keyTypeAt 20 30 = true := by kernel_rfl
theorem lv30 : leaves Try.prog 20 30 = some [5, 5, 5, 5, 5, 5, 5, 5] := by kernel_rfl
theorem injA8u8 {x y : A8u8} : (x == y) = true ↔ (cA8u8 x) = (cA8u8 y) := by
  rw [beq_iff_eq]
  constructor
  · rintro rfl; rfl
  · intro h
    obtain ⟨⟩ := x
    obtain ⟨⟩ := y
    simp only [A8u8.mk.injEq, cA8u8, str, List.cons_append, List.nil_append, List.cons.injEq, Value.int.injEq, Value.bool.injEq, Value.string.injEq, ByteArray.mk.injEq, Array.mk.injEq, Int.natCast_inj, UInt8.toNat_inj, true_and, and_true] at h ⊢
    first | exact h | simpa [and_assoc] using h
theorem extA8u8 (x y : A8u8) : x = y ↔ x.e0 = y.e0 ∧ x.e1 = y.e1 ∧ x.e2 = y.e2 ∧ x.e3 = y.e3 ∧ x.e4 = y.e4 ∧ x.e5 = y.e5 ∧ x.e6 = y.e6 ∧ x.e7 = y.e7 := by
  constructor
  · rintro rfl; simp
  · intro h
    obtain ⟨⟩ := x
    obtain ⟨⟩ := y
    simpa using h
theorem eg32 : Try.prog.eqGuardType Try.prog.depth 32 = false := by kernel_rfl
theorem kt32 : Try.prog.keyTypeAt 20 32 = true := by kernel_rfl
theorem lv32 : leaves Try.prog 20 32 = some [5, 5, 5, 5, 5, 5, 5, 5, 3, 3, 3, 3] := by kernel_rfl
theorem injS_api_Place {x y : S_api_Place} : (x == y) = true ↔ ((cA8u8 x.ID) ++ [(int .i64 x.Kind), (int .i64 x.Pack), (int .i64 x.At), (int .i64 x.Len)]) = ((cA8u8 y.ID) ++ [(int .i64 y.Kind), (int .i64 y.Pack), (int .i64 y.At), (int .i64 y.Len)]) := by
  rw [beq_iff_eq]
  constructor
  · rintro rfl; rfl
  · intro h
    obtain ⟨⟩ := x
    obtain ⟨⟩ := y
    simp only [A8u8.mk.injEq, S_api_Place.mk.injEq, cA8u8, extA8u8, str, List.cons_append, List.nil_append, List.cons.injEq, Value.int.injEq, Value.bool.injEq, Value.string.injEq, ByteArray.mk.injEq, Array.mk.injEq, Int.natCast_inj, UInt8.toNat_inj, true_and, and_true] at h ⊢
    first | exact h | simpa [and_assoc] using h
def okA8u8 (x : A8u8) : Prop := (True) ∧ (True) ∧ (True) ∧ (True) ∧ (True) ∧ (True) ∧ (True) ∧ (True)
set_option maxRecDepth 100000 in
theorem opnA8u8 {H : Type} : Opn H Try.prog 30 tyA8u8 okA8u8 := opn_array (fun x => (x.e0, (x.e1, (x.e2, (x.e3, (x.e4, (x.e5, (x.e6, x.e7)))))))) (fun y => A8u8.mk y.1 y.2.1 y.2.2.1 y.2.2.2.1 y.2.2.2.2.1 y.2.2.2.2.2.1 y.2.2.2.2.2.2.1 y.2.2.2.2.2.2.2) (fun _ => rfl) Try.underlying30 sz30 (fields_cons sz5 (opn_u8 Try.underlying5) (fields_cons sz5 (opn_u8 Try.underlying5) (fields_cons sz5 (opn_u8 Try.underlying5) (fields_cons sz5 (opn_u8 Try.underlying5) (fields_cons sz5 (opn_u8 Try.underlying5) (fields_cons sz5 (opn_u8 Try.underlying5) (fields_cons sz5 (opn_u8 Try.underlying5) (fields_one sz5 (opn_u8 Try.underlying5)))))))))
def okS_api_Place (x : S_api_Place) : Prop := (okA8u8 x.ID) ∧ ((Lit.int .i64 x.Kind).wf = true) ∧ ((Lit.int .i64 x.Pack).wf = true) ∧ ((Lit.int .i64 x.At).wf = true) ∧ ((Lit.int .i64 x.Len).wf = true)
set_option maxRecDepth 100000 in
theorem opnS_api_Place {H : Type} : Opn H Try.prog 32 tyS_api_Place okS_api_Place := opn_struct (fun x => (x.ID, (x.Kind, (x.Pack, (x.At, x.Len))))) (fun y => S_api_Place.mk y.1 y.2.1 y.2.2.1 y.2.2.2.1 y.2.2.2.2) (fun _ => rfl) Try.underlying32 sz32 (fields_cons sz30 opnA8u8 (fields_cons sz3 (opn_int Try.underlying3) (fields_cons sz3 (opn_int Try.underlying3) (fields_cons sz3 (opn_int Try.underlying3) (fields_one sz3 (opn_int Try.underlying3))))))
def okS_api_Entry (x : S_api_Entry) : Prop := (okA8u8 x.ID) ∧ ((Lit.int .i64 x.Kind).wf = true) ∧ ((Lit.int .i64 x.At).wf = true) ∧ ((Lit.int .i64 x.Len).wf = true)
set_option maxRecDepth 100000 in
theorem opnS_api_Entry {H : Type} : Opn H Try.prog 123 tyS_api_Entry okS_api_Entry := opn_struct (fun x => (x.ID, (x.Kind, (x.At, x.Len)))) (fun y => S_api_Entry.mk y.1 y.2.1 y.2.2.1 y.2.2.2) (fun _ => rfl) Try.underlying123 sz123 (fields_cons sz30 opnA8u8 (fields_cons sz3 (opn_int Try.underlying3) (fields_cons sz3 (opn_int Try.underlying3) (fields_one sz3 (opn_int Try.underlying3)))))
instance : Inhabited S_api_Place := ⟨S_api_Place.mk ⟨0, 0, 0, 0, 0, 0, 0, 0⟩ 0 0 0 0⟩
def sortPl (xs : List S_api_Place) : List S_api_Place := ImC.sortL (fun x => lA8u8 x.ID) (fun x => x.Kind) (fun x => x.Pack) (fun x => x.At) (fun x => x.Len) xs
theorem sortPl_enc (x : S_api_Place) : ImC.encP (fun x => lA8u8 x.ID) (fun x => x.Kind) (fun x => x.Pack) (fun x => x.At) (fun x => x.Len) x = cA8u8 x.ID ++ [.int .i64 x.Kind, .int .i64 x.Pack, .int .i64 x.At, .int .i64 x.Len] := rfl
theorem sortPl_rep (Z : Nat → Prop) (w : World) (cs : List Value) (x : S_api_Place) : tyS_api_Place.rep Z w cs x ↔ cs = ImC.encP (fun x => lA8u8 x.ID) (fun x => x.Kind) (fun x => x.Pack) (fun x => x.At) (fun x => x.Len) x := by
  rw [sortPl_enc]; exact ⟨fun h => encS_api_Place h, fun h => mkS_api_Place h⟩
theorem sortPl_inj (x y : S_api_Place) (h1 : lA8u8 x.ID = lA8u8 y.ID) (h2 : x.Pack = y.Pack) (h3 : x.At = y.At) (h4 : x.Len = y.Len) (h5 : x.Kind = y.Kind) : x = y := by
  obtain ⟨⟨⟩⟩ := x
  obtain ⟨⟨⟩⟩ := y
  simp only [lA8u8, List.cons.injEq, and_true] at h1
  obtain ⟨rfl, rfl, rfl, rfl, rfl, rfl, rfl, rfl⟩ := h1
  simp only at h2 h3 h4 h5
  subst h2 h3 h4 h5; rfl
theorem sortPl_ok {v : Value} {xs : List S_api_Place} (hn : xs.length < 4611686018427387904) :
    FnOk Try.prog 124 [v, .func (.func 125) #[] #[]] [] [oRow v 32 tyS_api_Place xs] (fun _ : Unit => { val := .tuple #[], own := [oRow v 32 tyS_api_Place (sortPl xs)] }) := by
  have h1 : Ty.size tyS_api_Place = 12 := rfl
  have h2 : ∀ x : S_api_Place, (lA8u8 x.ID).length = 8 := fun x => rfl
  have h := ImC.sort_ok (v := v) (xs := xs) (fun x => lA8u8 x.ID) (fun x => x.Kind) (fun x => x.Pack) (fun x => x.At) (fun x => x.Len) tyS_api_Place h1 sortPl_rep h2 sortPl_inj hn
  exact h
def f_pack_Known (fu : Nat) (a0 : Int) : Option Bool := (lt (fun (j1b2 : Bool) => (some j1b2)) fun (kk2 : Bool → Option Bool) => (bif (decide (a0 ≥ (1 : Int))) then (kk2 (decide (a0 ≤ (3 : Int)))) else (kk2 false)))
set_option maxHeartbeats 2000000 in
set_option maxRecDepth 100000 in
theorem f_pack_Known_ok (fu : Nat) (a0 : Int) {r : Bool} (h : f_pack_Known fu a0 = some r) : FnOk Try.prog 131 [(int .i64 a0)] [] [] (fun (i : Unit) => { val := (bool r) }) := by
 unfold f_pack_Known at h
 refine fn_enter Try.func131 rfl Try.ntmps131 rfl (fun w0 Z0 => ?_)
 refine aw_sr ?_
 refine al_as rfl rfl ?_
 refine al_nt ?_
 obtain ⟨kk2, hkk2, h⟩ := lt_some h
 refine aw_seq_join (ι := Bool) (fun i => (memOf w0 Z0 [] [] [])) (fun i => (tab [(2, (bool i))])) (fun i => kk2 i = some r) ?_ ?_
 ·rintro j1b2 h
  have h : kk2 j1b2 = some r := h
  rw [hkk2] at h
  dsimp only at h
  clear hkk2
  refine aw_show (m := (memOf w0 Z0 [] [] [])) (S := (tab [(2, (bool j1b2))])) ?_
  refine aw_ret ?_
  obtain rfl := Option.some.inj h
  exact fn_ret () [] [] rfl rfl rfl rfl (res1 rfl rfl) rfl rfl rfl (by decide)
 ·clear hkk2
  refine aw_region ?_
  refine al_mv rfl rfl ?_
  refine al_in rfl rfl rfl rfl ?_
  refine al_mv rfl rfl ?_
  refine al_caseB 5 rfl (fun hb3 => ?_) (fun hb3 => ?_)
  ·replace h := bif_t hb3 h
   refine al_mv rfl rfl ?_
   refine al_in rfl rfl rfl rfl ?_
   refine al_val (ov_pick_t rfl rfl rfl) ?_
   refine al_as rfl rfl ?_
   refine al_nil ?_
   exact aq_join (decide (a0 ≤ (3 : Int))) h (fun w a hm hs => norm hm hs [] [] [(2, (bool (decide (a0 ≤ (3 : Int)))))] (by decide) ⟨rfl, trivial⟩)
  ·replace h := bif_f hb3 h
   refine al_skip ?_
   refine al_skip ?_
   refine al_val (ov_pick_f rfl rfl rfl) ?_
   refine al_as rfl rfl ?_
   refine al_nil ?_
   exact aq_join false h (fun w a hm hs => norm hm hs [] [] [(2, (bool false))] (by decide) ⟨rfl, trivial⟩)
def f_index_inRange (fu : Nat) (a0 : Int) : Option Bool := (lt (fun (j1b2 : Bool) => (some j1b2)) fun (kk2 : Bool → Option Bool) => (bif (decide (a0 ≥ (0 : Int))) then (kk2 (decide (a0 ≤ (1099511627776 : Int)))) else (kk2 false)))
set_option maxHeartbeats 2000000 in
set_option maxRecDepth 100000 in
theorem f_index_inRange_ok (fu : Nat) (a0 : Int) {r : Bool} (h : f_index_inRange fu a0 = some r) : FnOk Try.prog 62 [(int .i64 a0)] [] [] (fun (i : Unit) => { val := (bool r) }) := by
 unfold f_index_inRange at h
 refine fn_enter Try.func62 rfl Try.ntmps62 rfl (fun w0 Z0 => ?_)
 refine aw_sr ?_
 refine al_as rfl rfl ?_
 refine al_nt ?_
 obtain ⟨kk2, hkk2, h⟩ := lt_some h
 refine aw_seq_join (ι := Bool) (fun i => (memOf w0 Z0 [] [] [])) (fun i => (tab [(2, (bool i))])) (fun i => kk2 i = some r) ?_ ?_
 ·rintro j1b2 h
  have h : kk2 j1b2 = some r := h
  rw [hkk2] at h
  dsimp only at h
  clear hkk2
  refine aw_show (m := (memOf w0 Z0 [] [] [])) (S := (tab [(2, (bool j1b2))])) ?_
  refine aw_ret ?_
  obtain rfl := Option.some.inj h
  exact fn_ret () [] [] rfl rfl rfl rfl (res1 rfl rfl) rfl rfl rfl (by decide)
 ·clear hkk2
  refine aw_region ?_
  refine al_mv rfl rfl ?_
  refine al_in rfl rfl rfl rfl ?_
  refine al_mv rfl rfl ?_
  refine al_caseB 5 rfl (fun hb3 => ?_) (fun hb3 => ?_)
  ·replace h := bif_t hb3 h
   refine al_mv rfl rfl ?_
   refine al_in rfl rfl rfl rfl ?_
   refine al_val (ov_pick_t rfl rfl rfl) ?_
   refine al_as rfl rfl ?_
   refine al_nil ?_
   exact aq_join (decide (a0 ≤ (1099511627776 : Int))) h (fun w a hm hs => norm hm hs [] [] [(2, (bool (decide (a0 ≤ (1099511627776 : Int)))))] (by decide) ⟨rfl, trivial⟩)
  ·replace h := bif_f hb3 h
   refine al_skip ?_
   refine al_skip ?_
   refine al_val (ov_pick_f rfl rfl rfl) ?_
   refine al_as rfl rfl ?_
   refine al_nil ?_
   exact aq_join false h (fun w a hm hs => norm hm hs [] [] [(2, (bool false))] (by decide) ⟨rfl, trivial⟩)
def f_index_place (fu : Nat) (a0 : S_api_Place) : Option Int := (opt (f_pack_Known fu a0.Kind) fun (r3 : Bool) => (bif (!r3) then (some (5 : Int)) else (lt (fun (j5b8 : Bool) => (bif j5b8 then (some (1 : Int)) else (some (0 : Int)))) fun (kk6 : Bool → Option Int) => (opt (f_index_inRange fu a0.Pack) fun (r9 : Bool) => (bif (!r9) then (kk6 true) else (opt (f_index_inRange fu a0.At) fun (r12 : Bool) => (bif (!r12) then (kk6 true) else (opt (f_index_inRange fu a0.Len) fun (r15 : Bool) => (kk6 (!r15))))))))))
set_option maxHeartbeats 2000000 in
set_option maxRecDepth 100000 in
theorem f_index_place_ok (fu : Nat) (a0 : S_api_Place) {r : Int} (h : f_index_place fu a0 = some r) : FnOk Try.prog 63 [(ag ((cA8u8 a0.ID) ++ [(int .i64 a0.Kind), (int .i64 a0.Pack), (int .i64 a0.At), (int .i64 a0.Len)]))] [] [] (fun (i : Unit) => { val := (int .i64 r) }) := by
 unfold f_index_place at h
 refine fn_enter Try.func63 rfl Try.ntmps63 rfl (fun w0 Z0 => ?_)
 refine aw_sr ?_
 refine al_box (vs := ((cA8u8 a0.ID) ++ [(iq a0.Kind), (iq a0.Pack), (iq a0.At), (iq a0.Len)])) rfl (cv_rfl rfl) rfl (fun g1 => ?_)
 refine al_as rfl rfl ?_
 refine al_nt ?_
 refine aw_seq ?_
 refine aw_block ?_
 refine aw_sr ?_
 refine al_val (ov_fieldA (p := 8) rfl Try.underlying32 rfl sz3 rfl rfl rfl) ?_
 refine al_val (ov_load (i := 0) (v := (iq a0.Kind)) rfl rfl Try.underlying3 sz3 rfl rfl rfl rfl) ?_
 obtain ⟨r3, hc2, h⟩ := opt_some h
 refine al_call (vs := [(iq a0.Kind)]) (f_pack_Known_ok fu a0.Kind hc2) [] [] [0] pre_nil rfl (by simp) (by decide) (.inl rfl) rfl Try.func131 rfl rfl rfl (fun _ => ?_)
 refine al_val (ov_not rfl rfl) ?_
 refine al_as rfl rfl ?_
 refine al_nt ?_
 refine aw_cond rfl (fun hb4 => ?_) (fun hb4 => ?_)
 ·replace h := bif_t hb4 h
  refine aw_sr ?_
  refine al_as rfl rfl ?_
  refine al_nt ?_
  refine aw_ret ?_
  refine aq_block_ret ?_
  refine aq_then_ret ?_
  obtain rfl := Option.some.inj h
  exact fn_ret () [] [] rfl rfl rfl rfl (res1 rfl rfl) rfl rfl rfl (by decide)
 ·replace h := bif_f hb4 h
  obtain ⟨kk6, hkk6, h⟩ := lt_some h
  refine aw_seq_join (ι := Bool) (fun i => (memOf w0 Z0 [] [] [])) (fun i => (tab [(8, (bool i))])) (fun i => kk6 i = some r) ?_ ?_
  ·rintro j5b8 h
   have h : kk6 j5b8 = some r := h
   rw [hkk6] at h
   dsimp only at h
   clear hkk6
   refine aw_show (m := (memOf w0 Z0 [] [] [])) (S := (tab [(8, (bool j5b8))])) ?_
   refine aw_cond rfl (fun hb7 => ?_) (fun hb7 => ?_)
   ·replace h := bif_t hb7 h
    refine aw_sr ?_
    refine al_as rfl rfl ?_
    refine al_nt ?_
    refine aw_ret ?_
    refine aq_block_ret ?_
    refine aq_then_ret ?_
    obtain rfl := Option.some.inj h
    exact fn_ret () [] [] rfl rfl rfl rfl (res1 rfl rfl) rfl rfl rfl (by decide)
   ·replace h := bif_f hb7 h
    refine aw_skip ?_
    refine aq_block ?_
    refine aq_tr ?_
    refine al_as rfl rfl ?_
    refine al_nt ?_
    refine aw_ret ?_
    obtain rfl := Option.some.inj h
    exact fn_ret () [] [] rfl rfl rfl rfl (res1 rfl rfl) rfl rfl rfl (by decide)
  ·clear hkk6
   refine aw_region ?_
   refine al_val (ov_fieldA (p := 9) rfl Try.underlying32 rfl sz3 rfl rfl rfl) ?_
   refine al_val (ov_load (i := 0) (v := (iq a0.Pack)) rfl rfl Try.underlying3 sz3 rfl rfl rfl rfl) ?_
   obtain ⟨r9, hc8, h⟩ := opt_some h
   refine al_call (vs := [(iq a0.Pack)]) (f_index_inRange_ok fu a0.Pack hc8) [] [] [0] pre_nil rfl (by simp) (by decide) (.inl rfl) rfl Try.func62 rfl rfl rfl (fun _ => ?_)
   refine al_val (ov_not rfl rfl) ?_
   refine al_mv rfl rfl ?_
   refine al_caseB 13 rfl (fun hb10 => ?_) (fun hb10 => ?_)
   ·replace h := bif_t hb10 h
    refine al_skip ?_
    refine al_skip ?_
    refine al_skip ?_
    refine al_skip ?_
    refine al_val (ov_pick_t rfl rfl rfl) ?_
    refine al_mv rfl rfl ?_
    refine al_skip ?_
    refine al_skip ?_
    refine al_skip ?_
    refine al_skip ?_
    refine al_val (ov_pick_t rfl rfl rfl) ?_
    refine al_as rfl rfl ?_
    refine al_nil ?_
    exact aq_join true h (fun w a hm hs => norm hm hs [] [] [(8, (bool true))] (by decide) ⟨rfl, trivial⟩)
   ·replace h := bif_f hb10 h
    refine al_val (ov_fieldA (p := 10) rfl Try.underlying32 rfl sz3 rfl rfl rfl) ?_
    refine al_val (ov_load (i := 0) (v := (iq a0.At)) rfl rfl Try.underlying3 sz3 rfl rfl rfl rfl) ?_
    obtain ⟨r12, hc11, h⟩ := opt_some h
    refine al_call (vs := [(iq a0.At)]) (f_index_inRange_ok fu a0.At hc11) [] [] [0] pre_nil rfl (by simp) (by decide) (.inl rfl) rfl Try.func62 rfl rfl rfl (fun _ => ?_)
    refine al_val (ov_not rfl rfl) ?_
    refine al_val (ov_pick_f rfl rfl rfl) ?_
    refine al_mv rfl rfl ?_
    refine al_caseB 19 rfl (fun hb13 => ?_) (fun hb13 => ?_)
    ·replace h := bif_t hb13 h
     refine al_skip ?_
     refine al_skip ?_
     refine al_skip ?_
     refine al_skip ?_
     refine al_val (ov_pick_t rfl rfl rfl) ?_
     refine al_as rfl rfl ?_
     refine al_nil ?_
     exact aq_join true h (fun w a hm hs => norm hm hs [] [] [(8, (bool true))] (by decide) ⟨rfl, trivial⟩)
    ·replace h := bif_f hb13 h
     refine al_val (ov_fieldA (p := 11) rfl Try.underlying32 rfl sz3 rfl rfl rfl) ?_
     refine al_val (ov_load (i := 0) (v := (iq a0.Len)) rfl rfl Try.underlying3 sz3 rfl rfl rfl rfl) ?_
     obtain ⟨r15, hc14, h⟩ := opt_some h
     refine al_call (vs := [(iq a0.Len)]) (f_index_inRange_ok fu a0.Len hc14) [] [] [0] pre_nil rfl (by simp) (by decide) (.inl rfl) rfl Try.func62 rfl rfl rfl (fun _ => ?_)
     refine al_val (ov_not rfl rfl) ?_
     refine al_val (ov_pick_f rfl rfl rfl) ?_
     refine al_as rfl rfl ?_
     refine al_nil ?_
     exact aq_join (!r15) h (fun w a hm hs => norm hm hs [] [] [(8, (bool (!r15)))] (by decide) ⟨rfl, trivial⟩)
def f_bytes_Compare (fu : Nat) (a0 : (List UInt8)) (a1 : (List UInt8)) : Option Int := (some (Lib.compareBytes a0 a1))
set_option maxRecDepth 100000 in
theorem f_bytes_Compare_ok (fu : Nat) (v0_0 : Value) (a0 : (List UInt8)) (v1_0 : Value) (a1 : (List UInt8)) {r : Int} (h : f_bytes_Compare fu a0 a1 = some r) : FnOk Try.prog 165 [v0_0, v1_0] [(fDat (tyList tyU8) [v0_0] a0), (fDat (tyList tyU8) [v1_0] a1)] [] (fun (i : Unit) => { val := (int .i64 r) }) := by
 unfold f_bytes_Compare at h
 refine fn_enter Try.func165 rfl Try.ntmps165 rfl (fun w0 Z0 => ?_)
 refine aw_sr ?_
 refine al_as rfl rfl ?_
 refine al_nt ?_
 refine aw_sr ?_
 refine al_mv rfl rfl ?_
 refine al_mv rfl rfl ?_
 refine al_val (v := (iq (Lib.compareBytes a0 a1))) (ov_bytesCmp 0 1 rfl rfl rfl rfl Try.func184 rfl rfl rfl rfl rfl) ?_
 refine al_as rfl rfl ?_
 refine al_nt ?_
 refine aw_ret ?_
 obtain rfl := Option.some.inj h
 exact fn_ret () [] [] rfl rfl rfl rfl (res1 rfl rfl) rfl rfl rfl (by decide)
def f_index_Compare (fu : Nat) (a0 : A8u8) (a1 : A8u8) : Option Int := (opt (f_bytes_Compare fu (lA8u8 a0) (lA8u8 a1)) fun (r6 : Int) => (some r6))
set_option maxRecDepth 100000 in
theorem f_index_Compare_ok (fu : Nat) (a0 : A8u8) (a1 : A8u8) {r : Int} (h : f_index_Compare fu a0 a1 = some r) : FnOk Try.prog 123 [(ag (cA8u8 a0)), (ag (cA8u8 a1))] [] [] (fun (i : Unit) => { val := (int .i64 r) }) := by
 unfold f_index_Compare at h
 refine fn_enter Try.func123 rfl Try.ntmps123 rfl (fun w0 Z0 => ?_)
 refine aw_sr ?_
 refine al_box (vs := (cA8u8 a0)) rfl (cv_rfl rfl) rfl (fun g1 => ?_)
 refine al_box (vs := (cA8u8 a1)) rfl (cv_rfl rfl) rfl (fun g2 => ?_)
 refine al_as rfl rfl ?_
 refine al_nt ?_
 refine aw_seq ?_
 refine aw_freezeB 1 (a0) rfl rfl (fun _ _ => mkA8u8 rfl) ?_
 refine aw_freezeB 0 (a1) rfl rfl (fun _ _ => mkA8u8 rfl) ?_
 obtain ⟨r6, hc5, h⟩ := opt_some h
 refine aw_region_draw 3 [(5, (fun s3 => (fDat (tyList tyU8) [s3] (lA8u8 a0)))), (6, (fun s4 => (fDat (tyList tyU8) [s4] (lA8u8 a1)))), (7, (fun u => fEq u (iq r6)))] (tab [(2, (pq g1)), (3, (pq g2)), (4, (iq (0 : Int)))]) mixed (by kernel_rfl) rfl rfl rfl (fun a hs => hs.tab _ (allT_mem ⟨rfl, rfl, rfl, trivial⟩)) ⟨⟨rfl, ld_of (of_sliceP 1 lrepA8u8 rfl rfl rfl rfl Try.underlying30 sz5 rfl)⟩, ⟨rfl, ld_of (of_sliceP 0 lrepA8u8 rfl rfl rfl rfl Try.underlying30 sz5 rfl)⟩, ⟨rfl, ld_fact (j := 0) rfl rfl (fun s3 => ld_fact (j := 1) rfl rfl (fun s4 => ld_callV (vs := [s3, s4]) (f_bytes_Compare_ok fu s3 (lA8u8 a0) s4 (lA8u8 a1) hc5) [] (pre_fz 1 rfl (pre_fz 0 rfl pre_nil)) rfl Try.func165 rfl rfl rfl))⟩, trivial⟩ ?_
 refine tl_eq 2 rfl ?_
 refine tl_done ?_
 refine al_as rfl rfl ?_
 refine al_nt ?_
 refine aw_ret ?_
 obtain rfl := Option.some.inj h
 exact fn_ret () [] [] rfl rfl rfl rfl (res1 rfl rfl) rfl rfl rfl (by decide)
def f_index_Check_L6 (a0 : (List S_api_Place)) (kk3 : (Unit → Option Int)) (fu : Nat) : Nat → Int → Option Int
  | 0, _ => none
  | k5 + 1, l4i11 => (bif (decide (l4i11 < (a0.length : Int))) then (opt (at? a0 l4i11) fun (u8 : S_api_Place) => (opt (f_index_place fu u8) fun (r13 : Int) => (bif (r13 != (0 : Int)) then (some r13) else (lt (fun (j15b34 : Bool) => (bif j15b34 then (some (4 : Int)) else (f_index_Check_L6 a0 kk3 fu k5 (IntKind.i64.wrap (l4i11 + (1 : Int)))))) fun (kk16 : Bool → Option Int) => (bif (decide (l4i11 > (0 : Int))) then (opt (at? a0 (IntKind.i64.wrap (l4i11 - (1 : Int)))) fun (u19 : S_api_Place) => (opt (f_index_Compare fu u8.ID u19.ID) fun (r24 : Int) => (kk16 (decide (r24 ≤ (0 : Int)))))) else (kk16 false)))))) else (kk3 ()))
def f_index_Check (fu : Nat) (a0 : (List S_api_Place)) : Option Int := (bif (decide ((a0.length : Int) > (400 : Int))) then (some (2 : Int)) else (lt (fun (_ : Unit) => (some (0 : Int))) fun (kk3 : Unit → Option Int) => (f_index_Check_L6 a0 kk3 fu fu (0 : Int))))
set_option maxHeartbeats 2000000 in
set_option maxRecDepth 100000 in
theorem f_index_Check_ok (fu : Nat) (v0_0 : Value) (a0 : (List S_api_Place)) {r : Int} (h : f_index_Check fu a0 = some r) : FnOk Try.prog 56 [v0_0] [(fDat (tyList tyS_api_Place) [v0_0] a0)] [] (fun (i : Unit) => { val := (int .i64 r) }) := by
 unfold f_index_Check at h
 refine fn_enter Try.func56 rfl Try.ntmps56 rfl (fun w0 Z0 => ?_)
 refine aw_sr ?_
 refine al_as rfl rfl ?_
 refine al_nt ?_
 refine aw_seq ?_
 refine aw_sr ?_
 refine al_mv rfl rfl ?_
 refine al_val (ov_lenD 0 rfl rfl Try.underlying22 rfl) ?_
 refine al_in rfl rfl rfl rfl ?_
 refine al_nt ?_
 refine aw_cond rfl (fun hb1 => ?_) (fun hb1 => ?_)
 ·replace h := bif_t hb1 h
  refine aw_sr ?_
  refine al_as rfl rfl ?_
  refine al_nt ?_
  refine aw_ret ?_
  refine aq_then_ret ?_
  obtain rfl := Option.some.inj h
  exact fn_ret () [] [] rfl rfl rfl rfl (res1 rfl rfl) rfl rfl rfl (by decide)
 ·replace h := bif_f hb1 h
  refine aw_skip ?_
  refine aq_then ?_
  obtain ⟨kk3, hkk3, h⟩ := lt_some h
  refine aw_seq_join (ι := Unit) (fun i => (memOf w0 Z0 [] [] [(fDat (tyList tyS_api_Place) [v0_0] a0)])) (fun i => (tab [])) (fun i => kk3 () = some r) ?_ ?_
  ·rintro _ h
   have h : kk3 () = some r := h
   rw [hkk3] at h
   dsimp only at h
   clear hkk3
   refine aw_show (m := (memOf w0 Z0 [] [] [(fDat (tyList tyS_api_Place) [v0_0] a0)])) (S := (tab [])) ?_
   refine aw_sr ?_
   refine al_as rfl rfl ?_
   refine al_nt ?_
   refine aw_ret ?_
   obtain rfl := Option.some.inj h
   exact fn_ret () [] [] rfl rfl rfl rfl (res1 rfl rfl) rfl rfl rfl (by decide)
  ·clear hkk3
   refine aw_sr ?_
   refine al_mv rfl rfl ?_
   refine al_val (ov_lenD 0 rfl rfl Try.underlying22 rfl) ?_
   refine al_mv rfl rfl ?_
   refine al_nt ?_
   refine aw_block ?_
   refine aw_state (aw_loop (ι := Int) (fun i => (memOf w0 Z0 [] [] [(fDat (tyList tyS_api_Place) [v0_0] a0)])) (fun i => (tab [(0, v0_0), (9, v0_0), (10, (iq (a0.length : Int))), (11, (iq i))])) (fun q i => f_index_Check_L6 a0 kk3 fu q i = some r) ?_ fu (0 : Int) h) (fun w a hm hs => norm hm hs [] [0] [(0, v0_0), (9, v0_0), (10, (iq (a0.length : Int))), (11, (iq (0 : Int)))] (by decide) ⟨rfl, rfl, rfl, rfl, trivial⟩)
   clear h
   rintro k5 l4i11 h
   have h : f_index_Check_L6 a0 kk3 fu k5 l4i11 = some r := h
   obtain _ | k5 := k5
   · rw [f_index_Check_L6] at h; cases h
   rw [f_index_Check_L6] at h
   refine aw_show (m := (memOf w0 Z0 [] [] [(fDat (tyList tyS_api_Place) [v0_0] a0)])) (S := (tab [(0, v0_0), (9, v0_0), (10, (iq (a0.length : Int))), (11, (iq l4i11))])) ?_
   refine aw_sr ?_
   refine al_in rfl rfl rfl rfl ?_
   refine al_nt ?_
   refine aw_seq ?_
   refine aw_cond rfl (fun hb7 => ?_) (fun hb7 => ?_)
   ·replace h := bif_t hb7 h
    refine aw_skip ?_
    refine aq_then ?_
    refine aw_seq ?_
    refine aw_block ?_
    refine aw_sr ?_
    refine al_mv rfl rfl ?_
    obtain ⟨u8, hu9, h⟩ := opt_some h
    refine al_idxD 0 hu9 rfl rfl rfl Try.underlying22 sz32 rfl (fun p10 => ?_)
    refine al_val (ov_loadP (ds := ((cA8u8 u8.ID) ++ [(iq u8.Kind), (iq u8.Pack), (iq u8.At), (iq u8.Len)])) 0 rfl encS_api_Place rfl Try.underlying32 sz32 rfl rfl rfl) ?_
    refine al_alloc (zs := ((cA8u8 (A8u8.mk (0 : UInt8) (0 : UInt8) (0 : UInt8) (0 : UInt8) (0 : UInt8) (0 : UInt8) (0 : UInt8) (0 : UInt8))) ++ [(iq (0 : Int)), (iq (0 : Int)), (iq (0 : Int)), (iq (0 : Int))])) (zeroOf_to to32) rfl rfl (fun g11 => ?_)
    refine al_as rfl rfl ?_
    refine al_store (i := 0) (vs := ((cA8u8 u8.ID) ++ [(iq u8.Kind), (iq u8.Pack), (iq u8.At), (iq u8.Len)])) (cs' := ((cA8u8 u8.ID) ++ [(iq u8.Kind), (iq u8.Pack), (iq u8.At), (iq u8.Len)])) rfl rfl rfl sz32 (cv_rfl rfl) rfl (co_app (oneA8u8 u8.ID) (co_val rfl (co_val rfl (co_val rfl (co_val rfl co_nil))))) (Nat.le_of_ble_eq_true rfl) rfl rfl ?_
    refine al_nt ?_
    refine aw_seq ?_
    refine aw_sr ?_
    refine al_val (ov_load (i := 0) (v := (ag ((cA8u8 u8.ID) ++ [(iq u8.Kind), (iq u8.Pack), (iq u8.At), (iq u8.Len)]))) rfl rfl Try.underlying32 sz32 rfl rfl rfl rfl) ?_
    obtain ⟨r13, hc12, h⟩ := opt_some h
    refine al_call (vs := [(ag ((cA8u8 u8.ID) ++ [(iq u8.Kind), (iq u8.Pack), (iq u8.At), (iq u8.Len)]))]) (f_index_place_ok fu u8 hc12) [] [] [0] pre_nil rfl (by simp) (by decide) (.inl rfl) rfl Try.func63 rfl rfl rfl (fun _ => ?_)
    refine al_as rfl rfl ?_
    refine al_nt ?_
    refine aw_sr ?_
    refine al_mv rfl rfl ?_
    refine al_in rfl rfl rfl rfl ?_
    refine al_nt ?_
    refine aw_cond rfl (fun hb14 => ?_) (fun hb14 => ?_)
    ·replace h := bif_t hb14 h
     refine aw_sr ?_
     refine al_mv rfl rfl ?_
     refine al_as rfl rfl ?_
     refine al_nt ?_
     refine aw_ret ?_
     refine aq_then_ret ?_
     refine aq_block_ret ?_
     refine aq_then_ret ?_
     refine aq_then_ret ?_
     refine aq_block_ret ?_
     refine aq_then_ret ?_
     obtain rfl := Option.some.inj h
     exact fn_ret () [] [] rfl rfl rfl rfl (res1 rfl rfl) rfl rfl rfl (by decide)
    ·replace h := bif_f hb14 h
     refine aw_skip ?_
     refine aq_then ?_
     obtain ⟨kk16, hkk16, h⟩ := lt_some h
     refine aw_seq_join (ι := Bool) (fun i => (memOf w0 Z0 [] [] [(fDat (tyList tyS_api_Place) [v0_0] a0), (fPtr tyS_api_Place p10 u8)])) (fun i => (tab [(0, v0_0), (9, v0_0), (10, (iq (a0.length : Int))), (11, (iq l4i11)), (34, (bool i))])) (fun i => kk16 i = some r) ?_ ?_
     ·rintro j15b34 h
      have h : kk16 j15b34 = some r := h
      rw [hkk16] at h
      dsimp only at h
      clear hkk16
      refine aw_show (m := (memOf w0 Z0 [] [] [(fDat (tyList tyS_api_Place) [v0_0] a0), (fPtr tyS_api_Place p10 u8)])) (S := (tab [(0, v0_0), (9, v0_0), (10, (iq (a0.length : Int))), (11, (iq l4i11)), (34, (bool j15b34))])) ?_
      refine aw_cond rfl (fun hb17 => ?_) (fun hb17 => ?_)
      ·replace h := bif_t hb17 h
       refine aw_sr ?_
       refine al_as rfl rfl ?_
       refine al_nt ?_
       refine aw_ret ?_
       refine aq_block_ret ?_
       refine aq_then_ret ?_
       refine aq_then_ret ?_
       refine aq_block_ret ?_
       refine aq_then_ret ?_
       obtain rfl := Option.some.inj h
       exact fn_ret () [] [] rfl rfl rfl rfl (res1 rfl rfl) rfl rfl rfl (by decide)
      ·replace h := bif_f hb17 h
       refine aw_skip ?_
       refine aq_block ?_
       refine aq_then ?_
       refine aw_region ?_
       refine al_in rfl rfl rfl rfl ?_
       refine al_mv rfl rfl ?_
       refine al_nil ?_
       exact aq_again k5 (wq (l4i11 + (1 : Int))) (Nat.lt_succ_self _) h (fun w a hm hs => norm hm hs [] [0] [(0, v0_0), (9, v0_0), (10, (iq (a0.length : Int))), (11, (iq (wq (l4i11 + (1 : Int)))))] (by decide) ⟨rfl, rfl, rfl, rfl, trivial⟩)
     ·clear hkk16
      rcases Bool.eq_false_or_eq_true (decide (l4i11 > (0 : Int))) with hb18 | hb18
      ·replace h := bif_t hb18 h
       obtain ⟨u19, hu20, h⟩ := opt_some h
       obtain ⟨r24, hc23, h⟩ := opt_some h
       refine aw_region_draw 13 [(21, (fun u => fEq u (iq l4i11))), (22, (fun u => fEq u (bool true))), (23, (fun u => fEq u (bool true))), (24, (fun u => fEq u (pq g11))), (25, (fun u => fEq u (ag (cA8u8 u8.ID)))), (26, (fun u => fEq u v0_0)), (27, (fun u => fEq u (iq l4i11))), (28, (fun u => fEq u (iq (wq (l4i11 - (1 : Int)))))), (29, (fun p21 => (fPtr tyS_api_Place p21 u19))), (30, (fun p22 => (fPtr tyA8u8 p22 u19.ID))), (31, (fun u => fEq u (ag (cA8u8 u19.ID)))), (32, (fun u => fEq u (iq r24))), (33, (fun u => fEq u (bool (decide (r24 ≤ (0 : Int))))))] (tab [(0, v0_0), (3, (iq l4i11)), (4, (pq g11)), (9, v0_0), (10, (iq (a0.length : Int))), (11, (iq l4i11))]) mixed (by kernel_rfl) rfl rfl rfl (fun a hs => hs.tab _ (allT_mem ⟨rfl, rfl, rfl, rfl, rfl, rfl, trivial⟩)) ⟨⟨rfl, ld_val (ov_move rfl rfl)⟩, ⟨rfl, ld_eq (j := 0) rfl rfl (ld_val (ov_cast (by first | rw [hb18] | rfl) (ov_int rfl rfl rfl rfl)))⟩, ⟨rfl, ld_eq (j := 1) rfl rfl (ld_val (ov_cast (by first | rw [hb18] | rfl) (ov_move rfl rfl)))⟩, ⟨rfl, ld_eq (j := 2) rfl rfl (ld_val (ov_fieldA (p := 0) rfl Try.underlying32 rfl sz30 rfl rfl rfl))⟩, ⟨rfl, ld_eq (j := 2) rfl rfl (ld_eq (j := 3) rfl rfl (ld_val (ov_load (i := 0) (v := (ag (cA8u8 u8.ID))) rfl rfl Try.underlying30 sz30 rfl rfl rfl rfl)))⟩, ⟨rfl, ld_eq (j := 2) rfl rfl (ld_val (ov_move rfl rfl))⟩, ⟨rfl, ld_eq (j := 2) rfl rfl (ld_val (ov_move rfl rfl))⟩, ⟨rfl, ld_eq (j := 2) rfl rfl (ld_eq (j := 6) rfl rfl (ld_val (ov_int rfl rfl rfl rfl)))⟩, ⟨rfl, ld_eq (j := 2) rfl rfl (ld_eq (j := 5) rfl rfl (ld_eq (j := 7) rfl rfl (ld_of (of_idxD 1 hu20 rfl rfl rfl Try.underlying22 sz32 rfl))))⟩, ⟨rfl, ld_eq (j := 2) rfl rfl (ld_fact (j := 8) rfl rfl (fun p21 => ld_of (of_fieldD (pr := fun (y : S_api_Place) => y.ID) 0 rfl subS_api_Place_0 rfl Try.underlying32 rfl sz30 rfl rfl)))⟩, ⟨rfl, ld_eq (j := 2) rfl rfl (ld_fact (j := 9) rfl rfl (fun p22 => ld_val (ov_loadP (ds := (cA8u8 u19.ID)) 0 rfl encA8u8 rfl Try.underlying30 sz30 rfl rfl rfl)))⟩, ⟨rfl, ld_eq (j := 2) rfl rfl (ld_eq (j := 4) rfl rfl (ld_eq (j := 10) rfl rfl (ld_callV (vs := [(ag (cA8u8 u8.ID)), (ag (cA8u8 u19.ID))]) (f_index_Compare_ok fu u8.ID u19.ID hc23) [] pre_nil rfl Try.func123 rfl rfl rfl)))⟩, ⟨rfl, ld_eq (j := 2) rfl rfl (ld_eq (j := 11) rfl rfl (ld_val (ov_int rfl rfl rfl rfl)))⟩, trivial⟩ ?_
       refine tl_eq 2 rfl ?_
       refine tl_eq 12 rfl ?_
       refine tl_done ?_
       refine al_val (ov_pick_t rfl rfl rfl) ?_
       refine al_nil ?_
       exact aq_join (decide (r24 ≤ (0 : Int))) h (fun w a hm hs => norm hm hs [] [1, 0] [(0, v0_0), (9, v0_0), (10, (iq (a0.length : Int))), (11, (iq l4i11)), (34, (bool (decide (r24 ≤ (0 : Int)))))] (by decide) ⟨rfl, rfl, rfl, rfl, rfl, trivial⟩)
      ·replace h := bif_f hb18 h
       refine aw_region_draw 13 [(21, (fun u => fEq u (iq l4i11))), (22, (fun u => fEq u (bool false))), (23, (fun u => fEq u (bool false))), (24, (fun u => fEq u undef)), (25, (fun u => fEq u undef)), (26, (fun u => fEq u undef)), (27, (fun u => fEq u undef)), (28, (fun u => fEq u undef)), (29, (fun u => fEq u undef)), (30, (fun u => fEq u undef)), (31, (fun u => fEq u undef)), (32, (fun u => fEq u undef)), (33, (fun u => fEq u undef))] (tab [(0, v0_0), (3, (iq l4i11)), (4, (pq g11)), (9, v0_0), (10, (iq (a0.length : Int))), (11, (iq l4i11))]) mixed (by kernel_rfl) rfl rfl rfl (fun a hs => hs.tab _ (allT_mem ⟨rfl, rfl, rfl, rfl, rfl, rfl, trivial⟩)) ⟨⟨rfl, ld_val (ov_move rfl rfl)⟩, ⟨rfl, ld_eq (j := 0) rfl rfl (ld_val (ov_cast (by first | rw [hb18] | rfl) (ov_int rfl rfl rfl rfl)))⟩, ⟨rfl, ld_eq (j := 1) rfl rfl (ld_val (ov_cast (by first | rw [hb18] | rfl) (ov_move rfl rfl)))⟩, ⟨rfl, ld_eq (j := 2) rfl rfl (ld_skip)⟩, ⟨rfl, ld_eq (j := 2) rfl rfl (ld_skip)⟩, ⟨rfl, ld_eq (j := 2) rfl rfl (ld_skip)⟩, ⟨rfl, ld_eq (j := 2) rfl rfl (ld_skip)⟩, ⟨rfl, ld_eq (j := 2) rfl rfl (ld_skip)⟩, ⟨rfl, ld_eq (j := 2) rfl rfl (ld_skip)⟩, ⟨rfl, ld_eq (j := 2) rfl rfl (ld_skip)⟩, ⟨rfl, ld_eq (j := 2) rfl rfl (ld_skip)⟩, ⟨rfl, ld_eq (j := 2) rfl rfl (ld_skip)⟩, ⟨rfl, ld_eq (j := 2) rfl rfl (ld_skip)⟩, trivial⟩ ?_
       refine tl_eq 2 rfl ?_
       refine tl_eq 12 rfl ?_
       refine tl_done ?_
       refine al_val (ov_pick_f rfl rfl rfl) ?_
       refine al_nil ?_
       exact aq_join false h (fun w a hm hs => norm hm hs [] [1, 0] [(0, v0_0), (9, v0_0), (10, (iq (a0.length : Int))), (11, (iq l4i11)), (34, (bool false))] (by decide) ⟨rfl, rfl, rfl, rfl, rfl, trivial⟩)
   ·replace h := bif_f hb7 h
    refine aw_exit ?_
    refine aq_then_exit ?_
    refine aq_then_exit ?_
    refine aq_block_exit ?_
    exact aq_join () h (fun w a hm hs => norm hm hs [] [0] [] (by decide) trivial)
-- STUCK slices.Grow[[]lumberroom/api.Place,lumberroom/api.Place]: slices.go:426: call: builtin cap
def f_slices_Grow___api_Place_api_Place__nil (fu : Nat) (a1 : Int) : Option (List S_api_Place) := (bif (decide (a1 < (0 : Int))) then (none : Option (List S_api_Place)) else (lt (fun (j2x0 : (List S_api_Place)) => (some j2x0)) fun (kk3 : (List S_api_Place) → Option (List S_api_Place)) => (bif (decide ((IntKind.i64.wrap (a1 - (IntKind.i64.wrap (((0 : Nat) : Int) - ((0 : Nat) : Int))))) > (0 : Int))) then (req (0 < (IntKind.i64.wrap (a1 - (IntKind.i64.wrap (((0 : Nat) : Int) - ((0 : Nat) : Int))))) ∧ (IntKind.i64.wrap (a1 - (IntKind.i64.wrap (((0 : Nat) : Int) - ((0 : Nat) : Int))))) * 40 ≤ 140737488355328 ∧ (IntKind.i64.wrap (a1 - (IntKind.i64.wrap (((0 : Nat) : Int) - ((0 : Nat) : Int))))) ≤ 9223372036854775807) (req (0 ≤ ((0 : Nat) : Int) ∧ ((0 : Nat) : Int) ≤ ((List.replicate ((IntKind.i64.wrap (a1 - (IntKind.i64.wrap (((0 : Nat) : Int) - ((0 : Nat) : Int)))))).toNat ((S_api_Place.mk (A8u8.mk (0 : UInt8) (0 : UInt8) (0 : UInt8) (0 : UInt8) (0 : UInt8) (0 : UInt8) (0 : UInt8) (0 : UInt8)) (0 : Int) (0 : Int) (0 : Int) (0 : Int)) : S_api_Place)).length : Int)) (kk3 ((List.replicate ((IntKind.i64.wrap (a1 - (IntKind.i64.wrap (((0 : Nat) : Int) - ((0 : Nat) : Int)))))).toNat ((S_api_Place.mk (A8u8.mk (0 : UInt8) (0 : UInt8) (0 : UInt8) (0 : UInt8) (0 : UInt8) (0 : UInt8) (0 : UInt8) (0 : UInt8)) (0 : Int) (0 : Int) (0 : Int) (0 : Int)) : S_api_Place)).take (((0 : Nat) : Int)).toNat)))) else (kk3 ([] : List S_api_Place)))))
set_option maxHeartbeats 2000000 in
set_option maxRecDepth 100000 in
theorem f_slices_Grow___api_Place_api_Place__nil_ok (fu : Nat) (a1 : Int) {r : (List S_api_Place)} (h : f_slices_Grow___api_Place_api_Place__nil fu a1 = some r) : FnOk Try.prog 129 [(Value.slice none 0 0), (int .i64 a1)] [] [] (fun (i : Value) => { val := i, own := [(oRow i 32 tyS_api_Place r)] }) := by
 unfold f_slices_Grow___api_Place_api_Place__nil at h
 refine fn_enter Try.func129 rfl Try.ntmps129 rfl (fun w0 Z0 => ?_)
 refine aw_sr ?_
 refine al_as rfl rfl ?_
 refine al_nt ?_
 refine aw_seq ?_
 refine aw_sr ?_
 refine al_mv rfl rfl ?_
 refine al_in rfl rfl rfl rfl ?_
 refine al_nt ?_
 refine aw_cond rfl (fun hb1 => ?_) (fun hb1 => ?_)
 ·replace h := bif_t hb1 h
  refine aw_region ?_
  cases h
 ·replace h := bif_f hb1 h
  refine aw_skip ?_
  refine aq_then ?_
  obtain ⟨kk3, hkk3, h⟩ := lt_some h
  refine aw_seq_join (ι := Value × (List S_api_Place)) (fun i => (memOf w0 Z0 [] [(oRow i.1 32 tyS_api_Place i.2)] [])) (fun i => (tab [(0, i.1)])) (fun i => kk3 i.2 = some r) ?_ ?_
  ·rintro ⟨j2v0, j2x0⟩ h
   have h : kk3 j2x0 = some r := h
   rw [hkk3] at h
   dsimp only at h
   clear hkk3
   refine aw_show (m := (memOf w0 Z0 [] [(oRow j2v0 32 tyS_api_Place j2x0)] [])) (S := (tab [(0, j2v0)])) ?_
   refine aw_sr ?_
   refine al_mv rfl rfl ?_
   refine al_as rfl rfl ?_
   refine al_nt ?_
   refine aw_ret ?_
   obtain rfl := Option.some.inj h
   exact fn_ret j2v0 [0] [] rfl rfl rfl rfl (res1 rfl rfl) rfl rfl rfl (by decide)
  ·clear hkk3
   refine aw_sr ?_
   refine al_mv rfl rfl ?_
   refine al_mv rfl rfl ?_
   refine al_val (ov_capN rfl Try.underlying22 rfl) ?_
   refine al_mv rfl rfl ?_
   refine al_val (ov_lenN rfl Try.underlying22 rfl) ?_
   refine al_in rfl rfl rfl rfl ?_
   refine al_in rfl rfl rfl rfl ?_
   refine al_as rfl rfl ?_
   refine al_nt ?_
   refine aw_sr ?_
   refine al_mv rfl rfl ?_
   refine al_in rfl rfl rfl rfl ?_
   refine al_nt ?_
   refine aw_cond rfl (fun hb4 => ?_) (fun hb4 => ?_)
   ·replace h := bif_t hb4 h
    refine aw_region ?_
    refine al_mv rfl rfl ?_
    refine al_mv rfl rfl ?_
    refine al_val (ov_capN rfl Try.underlying22 rfl) ?_
    refine al_val (ov_cutN rfl rfl Try.underlying22 sz32 rfl) ?_
    refine al_mv rfl rfl ?_
    obtain ⟨hc5, h⟩ := req_some h
    refine al_appendZ (τ := tyS_api_Place) (x0 := (S_api_Place.mk (A8u8.mk (0 : UInt8) (0 : UInt8) (0 : UInt8) (0 : UInt8) (0 : UInt8) (0 : UInt8) (0 : UInt8) (0 : UInt8)) (0 : Int) (0 : Int) (0 : Int) (0 : Int))) hc5.1 hc5.2.1 hc5.2.2 rfl rfl Try.underlying22 Try.underlying3 to32 (fun _ _ => mkS_api_Place rfl) rfl rfl (fun v6 => ?_)
    refine al_mv rfl rfl ?_
    refine al_val (ov_lenN rfl Try.underlying22 rfl) ?_
    obtain ⟨hc7, h⟩ := req_some h
    refine al_cutR 0 hc7.1 hc7.2 rfl rfl rfl Try.underlying22 sz32 rfl (fun s8 => ?_)
    refine al_as rfl rfl ?_
    refine al_nil ?_
    exact aq_join (s8, ((List.replicate ((wq (a1 - (wq (((0 : Nat) : Int) - ((0 : Nat) : Int)))))).toNat ((S_api_Place.mk (A8u8.mk (0 : UInt8) (0 : UInt8) (0 : UInt8) (0 : UInt8) (0 : UInt8) (0 : UInt8) (0 : UInt8) (0 : UInt8)) (0 : Int) (0 : Int) (0 : Int) (0 : Int)) : S_api_Place)).take (((0 : Nat) : Int)).toNat)) h (fun w a hm hs => norm hm hs [0] [] [(0, s8)] (by decide) ⟨rfl, trivial⟩)
   ·replace h := bif_f hb4 h
    refine aw_skip ?_
    refine aq_nilR 32 tyS_api_Place ?_
    exact aq_join (nS, ([] : List S_api_Place)) h (fun w a hm hs => norm hm hs [0] [] [(0, nS)] (by decide) ⟨rfl, trivial⟩)
def f_slices_Concat___api_Place_api_Place__L10 (a0 : (List (List S_api_Place))) (kk7 : ((List S_api_Place) → Option (List S_api_Place))) : Nat → (List S_api_Place) → Int → Option (List S_api_Place)
  | 0, _, _ => none
  | k9 + 1, l8x6, l8i27 => (bif (decide (l8i27 < (a0.length : Int))) then (opt (at? a0 l8i27) fun (u12 : (List S_api_Place)) => (req (((l8x6.length + u12.length) * 40 : Nat) ≤ 140737488355328 ∧ l8x6.length + u12.length ≤ 9223372036854775807) (f_slices_Concat___api_Place_api_Place__L10 a0 kk7 k9 (l8x6 ++ u12) (IntKind.i64.wrap (l8i27 + (1 : Int)))))) else (kk7 l8x6))
def f_slices_Concat___api_Place_api_Place__L20 (a0 : (List (List S_api_Place))) (kk2 : (Int → Option (List S_api_Place))) : Nat → Int → Int → Option (List S_api_Place)
  | 0, _, _ => none
  | k19 + 1, l18i3, l18i11 => (bif (decide (l18i11 < (a0.length : Int))) then (opt (at? a0 l18i11) fun (u22 : (List S_api_Place)) => (bif (decide ((IntKind.i64.wrap (l18i3 + (u22.length : Int))) < (0 : Int))) then (none : Option (List S_api_Place)) else (f_slices_Concat___api_Place_api_Place__L20 a0 kk2 k19 (IntKind.i64.wrap (l18i3 + (u22.length : Int))) (IntKind.i64.wrap (l18i11 + (1 : Int)))))) else (kk2 l18i3))
def f_slices_Concat___api_Place_api_Place_ (fu : Nat) (a0 : (List (List S_api_Place))) : Option (List S_api_Place) := (lt (fun (j1i3 : Int) => (opt (f_slices_Grow___api_Place_api_Place__nil fu j1i3) fun (r4 : (List S_api_Place)) => (lt (fun (j6x6 : (List S_api_Place)) => (some j6x6)) fun (kk7 : (List S_api_Place) → Option (List S_api_Place)) => (f_slices_Concat___api_Place_api_Place__L10 a0 kk7 fu r4 (0 : Int))))) fun (kk2 : Int → Option (List S_api_Place)) => (f_slices_Concat___api_Place_api_Place__L20 a0 kk2 fu (0 : Int) (0 : Int)))
set_option maxHeartbeats 2000000 in
set_option maxRecDepth 100000 in
theorem f_slices_Concat___api_Place_api_Place__ok (fu : Nat) (v0_0 : Value) (a0 : (List (List S_api_Place))) {r : (List S_api_Place)} (h : f_slices_Concat___api_Place_api_Place_ fu a0 = some r) : FnOk Try.prog 58 [v0_0] [(fDat (tyList (tyList tyS_api_Place)) [v0_0] a0)] [] (fun (i : Value) => { val := i, own := [(oRow i 32 tyS_api_Place r)] }) := by
 unfold f_slices_Concat___api_Place_api_Place_ at h
 refine fn_enter Try.func58 rfl Try.ntmps58 rfl (fun w0 Z0 => ?_)
 refine aw_sr ?_
 refine al_as rfl rfl ?_
 refine al_nt ?_
 refine aw_sr ?_
 refine al_as rfl rfl ?_
 refine al_nt ?_
 obtain ⟨kk2, hkk2, h⟩ := lt_some h
 refine aw_seq_join (ι := Int) (fun i => (memOf w0 Z0 [] [] [(fDat (tyList (tyList tyS_api_Place)) [v0_0] a0)])) (fun i => (tab [(0, v0_0), (3, (iq i))])) (fun i => kk2 i = some r) ?_ ?_
 ·rintro j1i3 h
  have h : kk2 j1i3 = some r := h
  rw [hkk2] at h
  dsimp only at h
  clear hkk2
  refine aw_show (m := (memOf w0 Z0 [] [] [(fDat (tyList (tyList tyS_api_Place)) [v0_0] a0)])) (S := (tab [(0, v0_0), (3, (iq j1i3))])) ?_
  refine aw_sr ?_
  refine al_mv rfl rfl ?_
  obtain ⟨r4, hc3, h⟩ := opt_some h
  refine al_call (vs := [nS, (iq j1i3)]) (f_slices_Grow___api_Place_api_Place__nil_ok fu j1i3 hc3) [] [] [] pre_nil rfl (by simp) (by decide) (.inl rfl) rfl Try.func129 rfl rfl rfl (fun v5 => ?_)
  refine al_as rfl rfl ?_
  refine al_nt ?_
  obtain ⟨kk7, hkk7, h⟩ := lt_some h
  refine aw_seq_join (ι := Value × (List S_api_Place)) (fun i => (memOf w0 Z0 [] [(oRow i.1 32 tyS_api_Place i.2)] [(fDat (tyList (tyList tyS_api_Place)) [v0_0] a0)])) (fun i => (tab [(6, i.1)])) (fun i => kk7 i.2 = some r) ?_ ?_
  ·rintro ⟨j6v6, j6x6⟩ h
   have h : kk7 j6x6 = some r := h
   rw [hkk7] at h
   dsimp only at h
   clear hkk7
   refine aw_show (m := (memOf w0 Z0 [] [(oRow j6v6 32 tyS_api_Place j6x6)] [(fDat (tyList (tyList tyS_api_Place)) [v0_0] a0)])) (S := (tab [(6, j6v6)])) ?_
   refine aw_sr ?_
   refine al_mv rfl rfl ?_
   refine al_as rfl rfl ?_
   refine al_nt ?_
   refine aw_ret ?_
   obtain rfl := Option.some.inj h
   exact fn_ret j6v6 [0] [] rfl rfl rfl rfl (res1 rfl rfl) rfl rfl rfl (by decide)
  ·clear hkk7
   refine aw_sr ?_
   refine al_mv rfl rfl ?_
   refine al_val (ov_lenD 0 rfl rfl Try.underlying116 rfl) ?_
   refine al_mv rfl rfl ?_
   refine al_nt ?_
   refine aw_block ?_
   refine aw_state (aw_loop (ι := Value × (List S_api_Place) × Int) (fun i => (memOf w0 Z0 [] [(oRow i.1 32 tyS_api_Place i.2.1)] [(fDat (tyList (tyList tyS_api_Place)) [v0_0] a0)])) (fun i => (tab [(6, i.1), (25, v0_0), (26, (iq (a0.length : Int))), (27, (iq i.2.2))])) (fun q i => f_slices_Concat___api_Place_api_Place__L10 a0 kk7 q i.2.1 i.2.2 = some r) ?_ fu (v5, r4, (0 : Int)) h) (fun w a hm hs => norm hm hs [0] [0] [(6, v5), (25, v0_0), (26, (iq (a0.length : Int))), (27, (iq (0 : Int)))] (by decide) ⟨rfl, rfl, rfl, rfl, trivial⟩)
   clear h
   rintro k9 ⟨l8v6, l8x6, l8i27⟩ h
   have h : f_slices_Concat___api_Place_api_Place__L10 a0 kk7 k9 l8x6 l8i27 = some r := h
   obtain _ | k9 := k9
   · rw [f_slices_Concat___api_Place_api_Place__L10] at h; cases h
   rw [f_slices_Concat___api_Place_api_Place__L10] at h
   refine aw_show (m := (memOf w0 Z0 [] [(oRow l8v6 32 tyS_api_Place l8x6)] [(fDat (tyList (tyList tyS_api_Place)) [v0_0] a0)])) (S := (tab [(6, l8v6), (25, v0_0), (26, (iq (a0.length : Int))), (27, (iq l8i27))])) ?_
   refine aw_sr ?_
   refine al_in rfl rfl rfl rfl ?_
   refine al_nt ?_
   refine aw_seq ?_
   refine aw_cond rfl (fun hb11 => ?_) (fun hb11 => ?_)
   ·replace h := bif_t hb11 h
    refine aw_skip ?_
    refine aq_then ?_
    refine aw_seq ?_
    refine aw_block ?_
    refine aw_sr ?_
    obtain ⟨u12, hu13, h⟩ := opt_some h
    refine al_idxD 0 hu13 rfl rfl rfl Try.underlying116 sz22 rfl (fun p14 => ?_)
    refine al_loadP1 0 rfl rfl Try.underlying22 sz22 rfl rfl rfl (fun s15 => ?_)
    refine al_as rfl rfl ?_
    refine al_nt ?_
    refine aw_region ?_
    refine al_mv rfl rfl ?_
    refine al_mv rfl rfl ?_
    obtain ⟨hc16, h⟩ := req_some h
    refine al_append 0 hc16.1 hc16.2 rfl (src_dat (i := 0) 0 rfl) rfl rfl Try.underlying22 to32 rfl rfl rfl (fun v17 => ?_)
    refine al_as rfl rfl ?_
    refine al_nil ?_
    refine aq_block ?_
    refine aq_then ?_
    refine aw_region ?_
    refine al_in rfl rfl rfl rfl ?_
    refine al_mv rfl rfl ?_
    refine al_nil ?_
    exact aq_again k9 (v17, (l8x6 ++ u12), (wq (l8i27 + (1 : Int)))) (Nat.lt_succ_self _) h (fun w a hm hs => norm hm hs [0] [2] [(6, v17), (25, v0_0), (26, (iq (a0.length : Int))), (27, (iq (wq (l8i27 + (1 : Int)))))] (by decide) ⟨rfl, rfl, rfl, rfl, trivial⟩)
   ·replace h := bif_f hb11 h
    refine aw_exit ?_
    refine aq_then_exit ?_
    refine aq_then_exit ?_
    refine aq_block_exit ?_
    exact aq_join (l8v6, l8x6) h (fun w a hm hs => norm hm hs [0] [0] [(6, l8v6)] (by decide) ⟨rfl, trivial⟩)
 ·clear hkk2
  refine aw_sr ?_
  refine al_mv rfl rfl ?_
  refine al_val (ov_lenD 0 rfl rfl Try.underlying116 rfl) ?_
  refine al_mv rfl rfl ?_
  refine al_nt ?_
  refine aw_block ?_
  refine aw_state (aw_loop (ι := Int × Int) (fun i => (memOf w0 Z0 [] [] [(fDat (tyList (tyList tyS_api_Place)) [v0_0] a0)])) (fun i => (tab [(0, v0_0), (3, (iq i.1)), (9, v0_0), (10, (iq (a0.length : Int))), (11, (iq i.2))])) (fun q i => f_slices_Concat___api_Place_api_Place__L20 a0 kk2 q i.1 i.2 = some r) ?_ fu ((0 : Int), (0 : Int)) h) (fun w a hm hs => norm hm hs [] [0] [(0, v0_0), (3, (iq (0 : Int))), (9, v0_0), (10, (iq (a0.length : Int))), (11, (iq (0 : Int)))] (by decide) ⟨rfl, rfl, rfl, rfl, rfl, trivial⟩)
  clear h
  rintro k19 ⟨l18i3, l18i11⟩ h
  have h : f_slices_Concat___api_Place_api_Place__L20 a0 kk2 k19 l18i3 l18i11 = some r := h
  obtain _ | k19 := k19
  · rw [f_slices_Concat___api_Place_api_Place__L20] at h; cases h
  rw [f_slices_Concat___api_Place_api_Place__L20] at h
  refine aw_show (m := (memOf w0 Z0 [] [] [(fDat (tyList (tyList tyS_api_Place)) [v0_0] a0)])) (S := (tab [(0, v0_0), (3, (iq l18i3)), (9, v0_0), (10, (iq (a0.length : Int))), (11, (iq l18i11))])) ?_
  refine aw_sr ?_
  refine al_in rfl rfl rfl rfl ?_
  refine al_nt ?_
  refine aw_seq ?_
  refine aw_cond rfl (fun hb21 => ?_) (fun hb21 => ?_)
  ·replace h := bif_t hb21 h
   refine aw_skip ?_
   refine aq_then ?_
   refine aw_seq ?_
   refine aw_block ?_
   refine aw_sr ?_
   obtain ⟨u22, hu23, h⟩ := opt_some h
   refine al_idxD 0 hu23 rfl rfl rfl Try.underlying116 sz22 rfl (fun p24 => ?_)
   refine al_loadP1 0 rfl rfl Try.underlying22 sz22 rfl rfl rfl (fun s25 => ?_)
   refine al_as rfl rfl ?_
   refine al_nt ?_
   refine aw_sr ?_
   refine al_mv rfl rfl ?_
   refine al_mv rfl rfl ?_
   refine al_val (ov_lenD 0 rfl rfl Try.underlying22 rfl) ?_
   refine al_in rfl rfl rfl rfl ?_
   refine al_as rfl rfl ?_
   refine al_nt ?_
   refine aw_sr ?_
   refine al_mv rfl rfl ?_
   refine al_in rfl rfl rfl rfl ?_
   refine al_nt ?_
   refine aw_cond rfl (fun hb26 => ?_) (fun hb26 => ?_)
   ·replace h := bif_t hb26 h
    refine aw_region ?_
    cases h
   ·replace h := bif_f hb26 h
    refine aw_skip ?_
    refine aq_block ?_
    refine aq_then ?_
    refine aw_region ?_
    refine al_in rfl rfl rfl rfl ?_
    refine al_mv rfl rfl ?_
    refine al_nil ?_
    exact aq_again k19 ((wq (l18i3 + (u22.length : Int))), (wq (l18i11 + (1 : Int)))) (Nat.lt_succ_self _) h (fun w a hm hs => norm hm hs [] [2] [(0, v0_0), (3, (iq (wq (l18i3 + (u22.length : Int))))), (9, v0_0), (10, (iq (a0.length : Int))), (11, (iq (wq (l18i11 + (1 : Int)))))] (by decide) ⟨rfl, rfl, rfl, rfl, rfl, trivial⟩)
  ·replace h := bif_f hb21 h
   refine aw_exit ?_
   refine aq_then_exit ?_
   refine aq_then_exit ?_
   refine aq_block_exit ?_
   exact aq_join l18i3 h (fun w a hm hs => norm hm hs [] [0] [(0, v0_0), (3, (iq l18i3))] (by decide) ⟨rfl, rfl, trivial⟩)
def f_cmp_isNaN_int_ (fu : Nat) (a0 : Int) : Option Bool := (some (a0 != a0))
set_option maxRecDepth 100000 in
theorem f_cmp_isNaN_int__ok (fu : Nat) (a0 : Int) {r : Bool} (h : f_cmp_isNaN_int_ fu a0 = some r) : FnOk Try.prog 151 [(int .i64 a0)] [] [] (fun (i : Unit) => { val := (bool r) }) := by
 unfold f_cmp_isNaN_int_ at h
 refine fn_enter Try.func151 rfl Try.ntmps151 rfl (fun w0 Z0 => ?_)
 refine aw_sr ?_
 refine al_as rfl rfl ?_
 refine al_nt ?_
 refine aw_sr ?_
 refine al_mv rfl rfl ?_
 refine al_mv rfl rfl ?_
 refine al_in rfl rfl rfl rfl ?_
 refine al_as rfl rfl ?_
 refine al_nt ?_
 refine aw_ret ?_
 obtain rfl := Option.some.inj h
 exact fn_ret () [] [] rfl rfl rfl rfl (res1 rfl rfl) rfl rfl rfl (by decide)
def f_cmp_Compare_int_ (fu : Nat) (a0 : Int) (a1 : Int) : Option Int := (opt (f_cmp_isNaN_int_ fu a0) fun (r2 : Bool) => (opt (f_cmp_isNaN_int_ fu a1) fun (r4 : Bool) => (bif r2 then (bif r4 then (some (0 : Int)) else (some (-1 : Int))) else (bif r4 then (some (1 : Int)) else (bif (decide (a0 < a1)) then (some (-1 : Int)) else (bif (decide (a0 > a1)) then (some (1 : Int)) else (some (0 : Int))))))))
set_option maxHeartbeats 2000000 in
set_option maxRecDepth 100000 in
theorem f_cmp_Compare_int__ok (fu : Nat) (a0 : Int) (a1 : Int) {r : Int} (h : f_cmp_Compare_int_ fu a0 a1 = some r) : FnOk Try.prog 103 [(int .i64 a0), (int .i64 a1)] [] [] (fun (i : Unit) => { val := (int .i64 r) }) := by
 unfold f_cmp_Compare_int_ at h
 refine fn_enter Try.func103 rfl Try.ntmps103 rfl (fun w0 Z0 => ?_)
 refine aw_sr ?_
 refine al_as rfl rfl ?_
 refine al_nt ?_
 refine aw_sr ?_
 refine al_mv rfl rfl ?_
 obtain ⟨r2, hc1, h⟩ := opt_some h
 refine al_call (vs := [(iq a0)]) (f_cmp_isNaN_int__ok fu a0 hc1) [] [] [] pre_nil rfl (by simp) (by decide) (.inl rfl) rfl Try.func151 rfl rfl rfl (fun _ => ?_)
 refine al_as rfl rfl ?_
 refine al_nt ?_
 refine aw_sr ?_
 refine al_mv rfl rfl ?_
 obtain ⟨r4, hc3, h⟩ := opt_some h
 refine al_call (vs := [(iq a1)]) (f_cmp_isNaN_int__ok fu a1 hc3) [] [] [] pre_nil rfl (by simp) (by decide) (.inl rfl) rfl Try.func151 rfl rfl rfl (fun _ => ?_)
 refine al_as rfl rfl ?_
 refine al_nt ?_
 refine aw_seq ?_
 refine aw_sr ?_
 refine al_mv rfl rfl ?_
 refine al_nt ?_
 refine aw_cond rfl (fun hb5 => ?_) (fun hb5 => ?_)
 ·replace h := bif_t hb5 h
  refine aw_seq ?_
  refine aw_sr ?_
  refine al_mv rfl rfl ?_
  refine al_nt ?_
  refine aw_cond rfl (fun hb6 => ?_) (fun hb6 => ?_)
  ·replace h := bif_t hb6 h
   refine aw_sr ?_
   refine al_as rfl rfl ?_
   refine al_nt ?_
   refine aw_ret ?_
   refine aq_then_ret ?_
   refine aq_then_ret ?_
   obtain rfl := Option.some.inj h
   exact fn_ret () [] [] rfl rfl rfl rfl (res1 rfl rfl) rfl rfl rfl (by decide)
  ·replace h := bif_f hb6 h
   refine aw_skip ?_
   refine aq_tr ?_
   refine al_as rfl rfl ?_
   refine al_nt ?_
   refine aw_ret ?_
   refine aq_then_ret ?_
   obtain rfl := Option.some.inj h
   exact fn_ret () [] [] rfl rfl rfl rfl (res1 rfl rfl) rfl rfl rfl (by decide)
 ·replace h := bif_f hb5 h
  refine aw_skip ?_
  refine aq_then ?_
  refine aw_seq ?_
  refine aw_sr ?_
  refine al_mv rfl rfl ?_
  refine al_nt ?_
  refine aw_cond rfl (fun hb7 => ?_) (fun hb7 => ?_)
  ·replace h := bif_t hb7 h
   refine aw_sr ?_
   refine al_as rfl rfl ?_
   refine al_nt ?_
   refine aw_ret ?_
   refine aq_then_ret ?_
   obtain rfl := Option.some.inj h
   exact fn_ret () [] [] rfl rfl rfl rfl (res1 rfl rfl) rfl rfl rfl (by decide)
  ·replace h := bif_f hb7 h
   refine aw_skip ?_
   refine aq_then ?_
   refine aw_seq ?_
   refine aw_sr ?_
   refine al_mv rfl rfl ?_
   refine al_mv rfl rfl ?_
   refine al_in rfl rfl rfl rfl ?_
   refine al_nt ?_
   refine aw_cond rfl (fun hb8 => ?_) (fun hb8 => ?_)
   ·replace h := bif_t hb8 h
    refine aw_sr ?_
    refine al_as rfl rfl ?_
    refine al_nt ?_
    refine aw_ret ?_
    refine aq_then_ret ?_
    obtain rfl := Option.some.inj h
    exact fn_ret () [] [] rfl rfl rfl rfl (res1 rfl rfl) rfl rfl rfl (by decide)
   ·replace h := bif_f hb8 h
    refine aw_skip ?_
    refine aq_then ?_
    refine aw_seq ?_
    refine aw_sr ?_
    refine al_mv rfl rfl ?_
    refine al_mv rfl rfl ?_
    refine al_in rfl rfl rfl rfl ?_
    refine al_nt ?_
    refine aw_cond rfl (fun hb9 => ?_) (fun hb9 => ?_)
    ·replace h := bif_t hb9 h
     refine aw_sr ?_
     refine al_as rfl rfl ?_
     refine al_nt ?_
     refine aw_ret ?_
     refine aq_then_ret ?_
     obtain rfl := Option.some.inj h
     exact fn_ret () [] [] rfl rfl rfl rfl (res1 rfl rfl) rfl rfl rfl (by decide)
    ·replace h := bif_f hb9 h
     refine aw_skip ?_
     refine aq_tr ?_
     refine al_as rfl rfl ?_
     refine al_nt ?_
     refine aw_ret ?_
     obtain rfl := Option.some.inj h
     exact fn_ret () [] [] rfl rfl rfl rfl (res1 rfl rfl) rfl rfl rfl (by decide)
def f_index_sorted_2 (fu : Nat) (a0 : S_api_Place) (a1 : S_api_Place) : Option Bool := (some (a0.ID == a1.ID))
set_option maxRecDepth 100000 in
theorem f_index_sorted_2_ok (fu : Nat) (a0 : S_api_Place) (a1 : S_api_Place) {r : Bool} (h : f_index_sorted_2 fu a0 a1 = some r) : FnOk Try.prog 128 [(ag ((cA8u8 a0.ID) ++ [(int .i64 a0.Kind), (int .i64 a0.Pack), (int .i64 a0.At), (int .i64 a0.Len)])), (ag ((cA8u8 a1.ID) ++ [(int .i64 a1.Kind), (int .i64 a1.Pack), (int .i64 a1.At), (int .i64 a1.Len)]))] [] [] (fun (i : Unit) => { val := (bool r) }) := by
 unfold f_index_sorted_2 at h
 refine fn_enter Try.func128 rfl Try.ntmps128 rfl (fun w0 Z0 => ?_)
 refine aw_sr ?_
 refine al_box (vs := ((cA8u8 a0.ID) ++ [(iq a0.Kind), (iq a0.Pack), (iq a0.At), (iq a0.Len)])) rfl (cv_rfl rfl) rfl (fun g1 => ?_)
 refine al_box (vs := ((cA8u8 a1.ID) ++ [(iq a1.Kind), (iq a1.Pack), (iq a1.At), (iq a1.Len)])) rfl (cv_rfl rfl) rfl (fun g2 => ?_)
 refine al_as rfl rfl ?_
 refine al_nt ?_
 refine aw_sr ?_
 refine al_val (ov_fieldA (p := 0) rfl Try.underlying32 rfl sz30 rfl rfl rfl) ?_
 refine al_val (ov_load (i := 1) (v := (ag (cA8u8 a0.ID))) rfl rfl Try.underlying30 sz30 rfl rfl rfl rfl) ?_
 refine al_val (ov_fieldA (p := 0) rfl Try.underlying32 rfl sz30 rfl rfl rfl) ?_
 refine al_val (ov_load (i := 0) (v := (ag (cA8u8 a1.ID))) rfl rfl Try.underlying30 sz30 rfl rfl rfl rfl) ?_
 refine al_val (ov_eqlA (cs := (cA8u8 a0.ID)) (ds := (cA8u8 a1.ID)) (ls := [5, 5, 5, 5, 5, 5, 5, 5]) (p := (a0.ID == a1.ID)) eg30 kt30 lv30 rfl rfl (by kernel_rfl) (by kernel_rfl) (fit_cons (fit_u8 Try.underlying5) (fit_cons (fit_u8 Try.underlying5) (fit_cons (fit_u8 Try.underlying5) (fit_cons (fit_u8 Try.underlying5) (fit_cons (fit_u8 Try.underlying5) (fit_cons (fit_u8 Try.underlying5) (fit_cons (fit_u8 Try.underlying5) (fit_cons (fit_u8 Try.underlying5) fit_nil)))))))) (fit_cons (fit_u8 Try.underlying5) (fit_cons (fit_u8 Try.underlying5) (fit_cons (fit_u8 Try.underlying5) (fit_cons (fit_u8 Try.underlying5) (fit_cons (fit_u8 Try.underlying5) (fit_cons (fit_u8 Try.underlying5) (fit_cons (fit_u8 Try.underlying5) (fit_cons (fit_u8 Try.underlying5) fit_nil)))))))) (injA8u8 (x := a0.ID) (y := a1.ID)) rfl) ?_
 refine al_as rfl rfl ?_
 refine al_nt ?_
 refine aw_ret ?_
 obtain rfl := Option.some.inj h
 exact fn_ret () [] [] rfl rfl rfl rfl (res1 rfl rfl) rfl rfl rfl (by decide)
-- STUCK lumberroom/index.sorted: index.go:62: call: a sort of ('o', 'v0_0')
def f_slices_Clone___api_Place_api_Place_ (fu : Nat) (a0 : (List S_api_Place)) : Option (List S_api_Place) := (amb (a0.isEmpty) (some ([] : List S_api_Place)) (req (((([] : List S_api_Place).length + a0.length) * 40 : Nat) ≤ 140737488355328 ∧ ([] : List S_api_Place).length + a0.length ≤ 9223372036854775807) (some (([] : List S_api_Place) ++ a0))))
set_option maxHeartbeats 2000000 in
set_option maxRecDepth 100000 in
theorem f_slices_Clone___api_Place_api_Place__ok (fu : Nat) (v0_0 : Value) (a0 : (List S_api_Place)) {r : (List S_api_Place)} (h : f_slices_Clone___api_Place_api_Place_ fu a0 = some r) : FnOk Try.prog 59 [v0_0] [(fDat (tyList tyS_api_Place) [v0_0] a0)] [] (fun (i : Value) => { val := i, own := [(oRow i 32 tyS_api_Place r)] }) := by
 unfold f_slices_Clone___api_Place_api_Place_ at h
 refine fn_enter Try.func59 rfl Try.ntmps59 rfl (fun w0 Z0 => ?_)
 refine aw_sr ?_
 refine al_as rfl rfl ?_
 refine al_nt ?_
 refine aw_seq ?_
 refine aw_sr ?_
 refine al_mv rfl rfl ?_
 refine al_isNilD 0 rfl rfl rfl Try.underlying22 rfl (fun nb1 hn2 => ?_)
 refine al_nt ?_
 refine aw_cond rfl (fun hb3 => ?_) (fun hb3 => ?_)
 ·replace h := (amb_some h).2 (isEmpty_of (hn2 hb3))
  refine aw_sr ?_
  refine al_as rfl rfl ?_
  refine al_nt ?_
  refine aw_ret ?_
  refine aq_then_ret ?_
  refine aq_nilR 32 tyS_api_Place ?_
  obtain rfl := Option.some.inj h
  exact fn_ret nS [0] [] rfl rfl rfl rfl (res1 rfl rfl) rfl rfl rfl (by decide)
 ·replace h := (amb_some h).1
  refine aw_skip ?_
  refine aq_tr ?_
  refine al_buildSlice (τ := tyS_api_Place) (e := 32) (k := 0) (sz := 0) (by_ := 0) (z := undef) (cs := []) (xs := ([] : List S_api_Place)) rfl (by decide) (fun w a hm hs => ⟨([]).toArray, rfl, by simp only [List.map_toArray, List.map_cons, List.map_nil]; exact run_bs [] [] Try.underlying22 to32 rfl rfl bs_nil hm⟩) (fun hm => rfl) rfl (fun v4 => ?_)
  refine al_mv rfl rfl ?_
  obtain ⟨hc5, h⟩ := req_some h
  refine al_append 0 hc5.1 hc5.2 rfl (src_dat (i := 0) 0 rfl) rfl rfl Try.underlying22 to32 rfl rfl rfl (fun v6 => ?_)
  refine al_as rfl rfl ?_
  refine al_nt ?_
  refine aw_ret ?_
  obtain rfl := Option.some.inj h
  exact fn_ret v6 [0] [] rfl rfl rfl rfl (res1 rfl rfl) rfl rfl rfl (by decide)
def f_slices_CompactFunc___api_Place_api_Place__own_F128_L34 (l4i5 : Int) (kk26 : ((List S_api_Place) → Int → Option (List S_api_Place))) (fu : Nat) : Nat → (List S_api_Place) → Int → Int → Option (List S_api_Place)
  | 0, _, _, _ => none
  | k33 + 1, l32x0, l32i5, l32i7 => (bif (decide (l32i7 < ((l32x0.length - (l4i5).toNat : Nat) : Int))) then (lt (fun (j36x0 : (List S_api_Place)) (j36i5 : Int) => (f_slices_CompactFunc___api_Place_api_Place__own_F128_L34 l4i5 kk26 fu k33 j36x0 j36i5 (IntKind.i64.wrap (l32i7 + (1 : Int))))) fun (kk37 : (List S_api_Place) → Int → Option (List S_api_Place)) => (req (0 ≤ l32i7) (opt (at? l32x0 ((((l4i5).toNat : Nat) : Int) + l32i7)) fun (u39 : S_api_Place) => (req (0 ≤ (IntKind.i64.wrap (l32i7 - (1 : Int)))) (opt (at? l32x0 ((((l4i5).toNat : Nat) : Int) + (IntKind.i64.wrap (l32i7 - (1 : Int))))) fun (u44 : S_api_Place) => (opt (f_index_sorted_2 fu u39 u44) fun (r49 : Bool) => (bif (!r49) then (req (0 ≤ l32i7) (opt (at? l32x0 ((((l4i5).toNat : Nat) : Int) + l32i7)) fun (u52 : S_api_Place) => (opt (at? l32x0 l32i5) fun (u56 : S_api_Place) => (kk37 (l32x0.set (l32i5).toNat u52) (IntKind.i64.wrap (l32i5 + (1 : Int))))))) else (kk37 l32x0 l32i5)))))))) else (kk26 l32x0 l32i5))
def f_slices_CompactFunc___api_Place_api_Place__own_F128_L6 (a0 : (List S_api_Place)) (kk3 : (Unit → Option (List S_api_Place))) (fu : Nat) : Nat → Int → Option (List S_api_Place)
  | 0, _ => none
  | k5 + 1, l4i5 => (lt (fun (l4i5 : Int) => (f_slices_CompactFunc___api_Place_api_Place__own_F128_L6 a0 kk3 fu k5 l4i5)) fun (kk7 : Int → Option (List S_api_Place)) => (bif (decide (l4i5 < (a0.length : Int))) then (lt (fun (_ : Unit) => (kk7 (IntKind.i64.wrap (l4i5 + (1 : Int))))) fun (kk10 : Unit → Option (List S_api_Place)) => (opt (at? a0 l4i5) fun (u11 : S_api_Place) => (opt (at? a0 (IntKind.i64.wrap (l4i5 - (1 : Int)))) fun (u15 : S_api_Place) => (opt (f_index_sorted_2 fu u11 u15) fun (r20 : Bool) => (bif r20 then (req (0 ≤ l4i5 ∧ l4i5 ≤ (a0.length : Int)) (lt (fun (j25x0 : (List S_api_Place)) (j25i5 : Int) => (req (0 ≤ j25i5 ∧ j25i5 ≤ (j25x0.length : Int)) (req (0 ≤ j25i5 ∧ j25i5 ≤ ((j25x0.take (j25i5).toNat ++ List.replicate (j25x0.length - (j25i5).toNat) (S_api_Place.mk (A8u8.mk (0 : UInt8) (0 : UInt8) (0 : UInt8) (0 : UInt8) (0 : UInt8) (0 : UInt8) (0 : UInt8) (0 : UInt8)) (0 : Int) (0 : Int) (0 : Int) (0 : Int))).length : Int)) (some ((j25x0.take (j25i5).toNat ++ List.replicate (j25x0.length - (j25i5).toNat) (S_api_Place.mk (A8u8.mk (0 : UInt8) (0 : UInt8) (0 : UInt8) (0 : UInt8) (0 : UInt8) (0 : UInt8) (0 : UInt8) (0 : UInt8)) (0 : Int) (0 : Int) (0 : Int) (0 : Int))).take (j25i5).toNat))))) fun (kk26 : (List S_api_Place) → Int → Option (List S_api_Place)) => (f_slices_CompactFunc___api_Place_api_Place__own_F128_L34 l4i5 kk26 fu fu a0 l4i5 (1 : Int)))) else (kk10 ())))))) else (kk3 ())))
def f_slices_CompactFunc___api_Place_api_Place__own_F128 (fu : Nat) (a0 : (List S_api_Place)) : Option (List S_api_Place) := (bif (decide ((a0.length : Int) < (2 : Int))) then (some a0) else (lt (fun (_ : Unit) => (some a0)) fun (kk3 : Unit → Option (List S_api_Place)) => (f_slices_CompactFunc___api_Place_api_Place__own_F128_L6 a0 kk3 fu fu (1 : Int))))
set_option maxHeartbeats 2000000 in
set_option maxRecDepth 100000 in
theorem f_slices_CompactFunc___api_Place_api_Place__own_F128_ok (fu : Nat) (v0_0 : Value) (a0 : (List S_api_Place)) {r : (List S_api_Place)} (h : f_slices_CompactFunc___api_Place_api_Place__own_F128 fu a0 = some r) : FnOk Try.prog 127 [v0_0, (Value.func (.func 128) #[] #[])] [] [(oRow v0_0 32 tyS_api_Place a0)] (fun (i : Value) => { val := i, own := [(oRow i 32 tyS_api_Place r)] }) := by
 unfold f_slices_CompactFunc___api_Place_api_Place__own_F128 at h
 refine fn_enter Try.func127 rfl Try.ntmps127 rfl (fun w0 Z0 => ?_)
 refine aw_sr ?_
 refine al_as rfl rfl ?_
 refine al_nt ?_
 refine aw_seq ?_
 refine aw_sr ?_
 refine al_mv rfl rfl ?_
 refine al_val (ov_lenR 0 rfl rfl Try.underlying22 rfl) ?_
 refine al_in rfl rfl rfl rfl ?_
 refine al_nt ?_
 refine aw_cond rfl (fun hb1 => ?_) (fun hb1 => ?_)
 ·replace h := bif_t hb1 h
  refine aw_sr ?_
  refine al_mv rfl rfl ?_
  refine al_as rfl rfl ?_
  refine al_nt ?_
  refine aw_ret ?_
  refine aq_then_ret ?_
  obtain rfl := Option.some.inj h
  exact fn_ret v0_0 [0] [] rfl rfl rfl rfl (res1 rfl rfl) rfl rfl rfl (by decide)
 ·replace h := bif_f hb1 h
  refine aw_skip ?_
  refine aq_then ?_
  obtain ⟨kk3, hkk3, h⟩ := lt_some h
  refine aw_seq_join (ι := Unit) (fun i => (memOf w0 Z0 [(oRow v0_0 32 tyS_api_Place a0)] [(oRow v0_0 32 tyS_api_Place a0)] [])) (fun i => (tab [(0, v0_0)])) (fun i => kk3 () = some r) ?_ ?_
  ·rintro _ h
   have h : kk3 () = some r := h
   rw [hkk3] at h
   dsimp only at h
   clear hkk3
   refine aw_show (m := (memOf w0 Z0 [(oRow v0_0 32 tyS_api_Place a0)] [(oRow v0_0 32 tyS_api_Place a0)] [])) (S := (tab [(0, v0_0)])) ?_
   refine aw_sr ?_
   refine al_mv rfl rfl ?_
   refine al_as rfl rfl ?_
   refine al_nt ?_
   refine aw_ret ?_
   obtain rfl := Option.some.inj h
   exact fn_ret v0_0 [0] [] rfl rfl rfl rfl (res1 rfl rfl) rfl rfl rfl (by decide)
  ·clear hkk3
   refine aw_sr ?_
   refine al_as rfl rfl ?_
   refine al_nt ?_
   refine aw_block ?_
   refine aw_state (aw_loop (ι := Int) (fun i => (memOf w0 Z0 [(oRow v0_0 32 tyS_api_Place a0)] [(oRow v0_0 32 tyS_api_Place a0)] [])) (fun i => (tab [(0, v0_0), (1, (fq 128)), (5, (iq i))])) (fun q i => f_slices_CompactFunc___api_Place_api_Place__own_F128_L6 a0 kk3 fu q i = some r) ?_ fu (1 : Int) h) (fun w a hm hs => norm hm hs [0] [] [(0, v0_0), (1, (fq 128)), (5, (iq (1 : Int)))] (by decide) ⟨rfl, rfl, rfl, trivial⟩)
   clear h
   rintro k5 l4i5 h
   have h : f_slices_CompactFunc___api_Place_api_Place__own_F128_L6 a0 kk3 fu k5 l4i5 = some r := h
   obtain _ | k5 := k5
   · rw [f_slices_CompactFunc___api_Place_api_Place__own_F128_L6] at h; cases h
   rw [f_slices_CompactFunc___api_Place_api_Place__own_F128_L6] at h
   refine aw_show (m := (memOf w0 Z0 [(oRow v0_0 32 tyS_api_Place a0)] [(oRow v0_0 32 tyS_api_Place a0)] [])) (S := (tab [(0, v0_0), (1, (fq 128)), (5, (iq l4i5))])) ?_
   obtain ⟨kk7, hkk7, h⟩ := lt_some h
   refine aw_body_join (ι := Int) (fun i => (memOf w0 Z0 [(oRow v0_0 32 tyS_api_Place a0)] [(oRow v0_0 32 tyS_api_Place a0)] [])) (fun i => (tab [(0, v0_0), (1, (fq 128)), (5, (iq i))])) (fun i => kk7 i = some r) (fun i h => aq_again k5 i (Nat.lt_succ_self _) (by rw [hkk7] at h; exact h) (fun w a hm hs => ⟨hm, hs⟩)) ?_
   clear hkk7
   refine aw_seq ?_
   refine aw_sr ?_
   refine al_mv rfl rfl ?_
   refine al_mv rfl rfl ?_
   refine al_val (ov_lenR 0 rfl rfl Try.underlying22 rfl) ?_
   refine al_in rfl rfl rfl rfl ?_
   refine al_nt ?_
   refine aw_cond rfl (fun hb8 => ?_) (fun hb8 => ?_)
   ·replace h := bif_t hb8 h
    refine aw_skip ?_
    refine aq_then ?_
    obtain ⟨kk10, hkk10, h⟩ := lt_some h
    refine aw_seq_join (ι := Unit) (fun i => (memOf w0 Z0 [(oRow v0_0 32 tyS_api_Place a0)] [(oRow v0_0 32 tyS_api_Place a0)] [])) (fun i => (tab [(0, v0_0), (1, (fq 128)), (5, (iq l4i5))])) (fun i => kk10 () = some r) ?_ ?_
    ·rintro _ h
     have h : kk10 () = some r := h
     rw [hkk10] at h
     dsimp only at h
     clear hkk10
     refine aw_show (m := (memOf w0 Z0 [(oRow v0_0 32 tyS_api_Place a0)] [(oRow v0_0 32 tyS_api_Place a0)] [])) (S := (tab [(0, v0_0), (1, (fq 128)), (5, (iq l4i5))])) ?_
     refine aw_region ?_
     refine al_mv rfl rfl ?_
     refine al_in rfl rfl rfl rfl ?_
     refine al_as rfl rfl ?_
     refine al_nil ?_
     exact aq_join (wq (l4i5 + (1 : Int))) h (fun w a hm hs => norm hm hs [0] [] [(0, v0_0), (1, (fq 128)), (5, (iq (wq (l4i5 + (1 : Int)))))] (by decide) ⟨rfl, rfl, rfl, trivial⟩)
    ·clear hkk10
     refine aw_block ?_
     refine aw_seq ?_
     obtain ⟨u11, hu12, h⟩ := opt_some h
     obtain ⟨u15, hu16, h⟩ := opt_some h
     refine aw_region_draw 10 [(18, (fun u => fEq u (fq 128))), (19, (fun u => fEq u v0_0)), (20, (fun u => fEq u (iq l4i5))), (21, (fun p => fElt v0_0 p ((l4i5).toNat * Ty.size tyS_api_Place))), (22, (fun u => fEq u (ag ((cA8u8 u11.ID) ++ [(iq u11.Kind), (iq u11.Pack), (iq u11.At), (iq u11.Len)])))), (23, (fun u => fEq u v0_0)), (24, (fun u => fEq u (iq l4i5))), (25, (fun u => fEq u (iq (wq (l4i5 - (1 : Int)))))), (26, (fun p => fElt v0_0 p (((wq (l4i5 - (1 : Int)))).toNat * Ty.size tyS_api_Place))), (27, (fun u => fEq u (ag ((cA8u8 u15.ID) ++ [(iq u15.Kind), (iq u15.Pack), (iq u15.At), (iq u15.Len)]))))] (tab [(0, v0_0), (1, (fq 128)), (5, (iq l4i5))]) mixed (by kernel_rfl) rfl rfl rfl (fun a hs => hs.tab _ (allT_mem ⟨rfl, rfl, rfl, trivial⟩)) ⟨⟨rfl, ld_val (ov_move rfl rfl)⟩, ⟨rfl, ld_val (ov_move rfl rfl)⟩, ⟨rfl, ld_val (ov_move rfl rfl)⟩, ⟨rfl, ld_eq (j := 1) rfl rfl (ld_eq (j := 2) rfl rfl (ld_of (of_idxR 0 (at_some hu12).1 (at_some hu12).2.1 rfl rfl rfl Try.underlying22 sz32 rfl)))⟩, ⟨rfl, ld_elt (j := 3) rfl rfl (fun p13 hp14 => ld_val (ov_loadR (ds := ((cA8u8 u11.ID) ++ [(iq u11.Kind), (iq u11.Pack), (iq u11.At), (iq u11.Len)])) 0 rfl hp14 (at_some hu12).2.2 encS_api_Place rfl Try.underlying32 sz32 rfl rfl rfl))⟩, ⟨rfl, ld_val (ov_move rfl rfl)⟩, ⟨rfl, ld_val (ov_move rfl rfl)⟩, ⟨rfl, ld_eq (j := 6) rfl rfl (ld_val (ov_int rfl rfl rfl rfl))⟩, ⟨rfl, ld_eq (j := 5) rfl rfl (ld_eq (j := 7) rfl rfl (ld_of (of_idxR 0 (at_some hu16).1 (at_some hu16).2.1 rfl rfl rfl Try.underlying22 sz32 rfl)))⟩, ⟨rfl, ld_elt (j := 8) rfl rfl (fun p17 hp18 => ld_val (ov_loadR (ds := ((cA8u8 u15.ID) ++ [(iq u15.Kind), (iq u15.Pack), (iq u15.At), (iq u15.Len)])) 0 rfl hp18 (at_some hu16).2.2 encS_api_Place rfl Try.underlying32 sz32 rfl rfl rfl))⟩, trivial⟩ ?_
     refine tl_eq 0 rfl ?_
     refine tl_eq 4 rfl ?_
     refine tl_eq 9 rfl ?_
     refine tl_done ?_
     obtain ⟨r20, hc19, h⟩ := opt_some h
     refine al_callF (vs := [(ag ((cA8u8 u11.ID) ++ [(iq u11.Kind), (iq u11.Pack), (iq u11.At), (iq u11.Len)])), (ag ((cA8u8 u15.ID) ++ [(iq u15.Kind), (iq u15.Pack), (iq u15.At), (iq u15.Len)]))]) (caps := []) (f_index_sorted_2_ok fu u11 u15 hc19) rfl [] [] [0] pre_nil rfl (by simp) (by decide) (.inl rfl) rfl rfl Try.func128 rfl rfl rfl (fun _ => ?_)
     refine al_nt ?_
     refine aw_cond rfl (fun hb21 => ?_) (fun hb21 => ?_)
     ·replace h := bif_t hb21 h
      refine aw_sr ?_
      refine al_mv rfl rfl ?_
      refine al_mv rfl rfl ?_
      obtain ⟨hc22, h⟩ := req_some h
      refine al_winR 0 hc22.1 hc22.2 rfl rfl rfl Try.underlying22 sz32 rfl (fun s23 hw24 => ?_)
      refine al_as rfl rfl ?_
      refine al_nt ?_
      obtain ⟨kk26, hkk26, h⟩ := lt_some h
      refine aw_seq_join (ι := (List S_api_Place) × Int) (fun i => (memOf w0 Z0 [(oRow v0_0 32 tyS_api_Place a0)] [(oRow v0_0 32 tyS_api_Place i.1)] [])) (fun i => (tab [(0, v0_0), (5, (iq i.2))])) (fun i => kk26 i.1 i.2 = some r) ?_ ?_
      ·rintro ⟨j25x0, j25i5⟩ h
       have h : kk26 j25x0 j25i5 = some r := h
       rw [hkk26] at h
       dsimp only at h
       clear hkk26
       refine aw_show (m := (memOf w0 Z0 [(oRow v0_0 32 tyS_api_Place a0)] [(oRow v0_0 32 tyS_api_Place j25x0)] [])) (S := (tab [(0, v0_0), (5, (iq j25i5))])) ?_
       refine aw_sr ?_
       refine al_mv rfl rfl ?_
       refine al_mv rfl rfl ?_
       obtain ⟨hc27, h⟩ := req_some h
       refine al_winR 0 hc27.1 hc27.2 rfl rfl rfl Try.underlying22 sz32 rfl (fun s28 hw29 => ?_)
       refine al_clearW (x0 := (S_api_Place.mk (A8u8.mk (0 : UInt8) (0 : UInt8) (0 : UInt8) (0 : UInt8) (0 : UInt8) (0 : UInt8) (0 : UInt8) (0 : UInt8)) (0 : Int) (0 : Int) (0 : Int) (0 : Int))) 0 rfl hw29 rfl Try.underlying22 to32 (fun _ _ => mkS_api_Place rfl) rfl ?_
       refine al_nt ?_
       refine aw_sr ?_
       refine al_mv rfl rfl ?_
       refine al_mv rfl rfl ?_
       obtain ⟨hc30, h⟩ := req_some h
       refine al_cutR 0 hc30.1 hc30.2 rfl rfl rfl Try.underlying22 sz32 rfl (fun s31 => ?_)
       refine al_as rfl rfl ?_
       refine al_nt ?_
       refine aw_ret ?_
       refine aq_block_ret ?_
       refine aq_then_ret ?_
       refine aq_then_ret ?_
       refine aq_block_ret ?_
       refine aq_then_ret ?_
       obtain rfl := Option.some.inj h
       exact fn_ret s31 [0] [] rfl rfl rfl rfl (res1 rfl rfl) rfl rfl rfl (by decide)
      ·clear hkk26
       refine aw_sr ?_
       refine al_as rfl rfl ?_
       refine al_nt ?_
       refine aw_block ?_
       refine aw_state (aw_loop (ι := (List S_api_Place) × Int × Int) (fun i => (memOf w0 Z0 [(oRow v0_0 32 tyS_api_Place a0)] [(oRow v0_0 32 tyS_api_Place i.1)] [])) (fun i => (tab [(0, v0_0), (1, (fq 128)), (5, (iq i.2.1)), (6, s23), (7, (iq i.2.2))])) (fun q i => f_slices_CompactFunc___api_Place_api_Place__own_F128_L34 l4i5 kk26 fu q i.1 i.2.1 i.2.2 = some r) ?_ fu (a0, l4i5, (1 : Int)) h) (fun w a hm hs => norm hm hs [0] [] [(0, v0_0), (1, (fq 128)), (5, (iq l4i5)), (6, s23), (7, (iq (1 : Int)))] (by decide) ⟨rfl, rfl, rfl, rfl, rfl, trivial⟩)
       clear h
       rintro k33 ⟨l32x0, l32i5, l32i7⟩ h
       have h : f_slices_CompactFunc___api_Place_api_Place__own_F128_L34 l4i5 kk26 fu k33 l32x0 l32i5 l32i7 = some r := h
       obtain _ | k33 := k33
       · rw [f_slices_CompactFunc___api_Place_api_Place__own_F128_L34] at h; cases h
       rw [f_slices_CompactFunc___api_Place_api_Place__own_F128_L34] at h
       refine aw_show (m := (memOf w0 Z0 [(oRow v0_0 32 tyS_api_Place a0)] [(oRow v0_0 32 tyS_api_Place l32x0)] [])) (S := (tab [(0, v0_0), (1, (fq 128)), (5, (iq l32i5)), (6, s23), (7, (iq l32i7))])) ?_
       refine aw_seq ?_
       refine aw_sr ?_
       refine al_mv rfl rfl ?_
       refine al_mv rfl rfl ?_
       refine al_val (v := (iq ((l32x0.length - (l4i5).toNat : Nat) : Int))) (ov_lenW 0 rfl hw24 rfl Try.underlying22 rfl) ?_
       refine al_in rfl rfl rfl rfl ?_
       refine al_nt ?_
       refine aw_cond rfl (fun hb35 => ?_) (fun hb35 => ?_)
       ·replace h := bif_t hb35 h
        refine aw_skip ?_
        refine aq_then ?_
        obtain ⟨kk37, hkk37, h⟩ := lt_some h
        refine aw_seq_join (ι := (List S_api_Place) × Int) (fun i => (memOf w0 Z0 [(oRow v0_0 32 tyS_api_Place a0)] [(oRow v0_0 32 tyS_api_Place i.1)] [])) (fun i => (tab [(0, v0_0), (1, (fq 128)), (5, (iq i.2)), (6, s23), (7, (iq l32i7))])) (fun i => kk37 i.1 i.2 = some r) ?_ ?_
        ·rintro ⟨j36x0, j36i5⟩ h
         have h : kk37 j36x0 j36i5 = some r := h
         rw [hkk37] at h
         dsimp only at h
         clear hkk37
         refine aw_show (m := (memOf w0 Z0 [(oRow v0_0 32 tyS_api_Place a0)] [(oRow v0_0 32 tyS_api_Place j36x0)] [])) (S := (tab [(0, v0_0), (1, (fq 128)), (5, (iq j36i5)), (6, s23), (7, (iq l32i7))])) ?_
         refine aw_region ?_
         refine al_mv rfl rfl ?_
         refine al_in rfl rfl rfl rfl ?_
         refine al_as rfl rfl ?_
         refine al_nil ?_
         exact aq_again k33 (j36x0, j36i5, (wq (l32i7 + (1 : Int)))) (Nat.lt_succ_self _) h (fun w a hm hs => norm hm hs [0] [] [(0, v0_0), (1, (fq 128)), (5, (iq j36i5)), (6, s23), (7, (iq (wq (l32i7 + (1 : Int)))))] (by decide) ⟨rfl, rfl, rfl, rfl, rfl, trivial⟩)
        ·clear hkk37
         refine aw_block ?_
         refine aw_seq ?_
         obtain ⟨hc38, h⟩ := req_some h
         obtain ⟨u39, hu40, h⟩ := opt_some h
         obtain ⟨hc43, h⟩ := req_some h
         obtain ⟨u44, hu45, h⟩ := opt_some h
         obtain ⟨r49, hc48, h⟩ := opt_some h
         refine aw_region_draw 11 [(38, (fun u => fEq u (fq 128))), (39, (fun u => fEq u s23)), (40, (fun u => fEq u (iq l32i7))), (41, (fun p => fElt v0_0 p ((((((l4i5).toNat : Nat) : Int) + l32i7)).toNat * Ty.size tyS_api_Place))), (42, (fun u => fEq u (ag ((cA8u8 u39.ID) ++ [(iq u39.Kind), (iq u39.Pack), (iq u39.At), (iq u39.Len)])))), (43, (fun u => fEq u s23)), (44, (fun u => fEq u (iq l32i7))), (45, (fun u => fEq u (iq (wq (l32i7 - (1 : Int)))))), (46, (fun p => fElt v0_0 p ((((((l4i5).toNat : Nat) : Int) + (wq (l32i7 - (1 : Int))))).toNat * Ty.size tyS_api_Place))), (47, (fun u => fEq u (ag ((cA8u8 u44.ID) ++ [(iq u44.Kind), (iq u44.Pack), (iq u44.At), (iq u44.Len)])))), (48, (fun u => fEq u (bool r49)))] (tab [(0, v0_0), (1, (fq 128)), (5, (iq l32i5)), (6, s23), (7, (iq l32i7))]) mixed (by kernel_rfl) rfl rfl rfl (fun a hs => hs.tab _ (allT_mem ⟨rfl, rfl, rfl, rfl, rfl, trivial⟩)) ⟨⟨rfl, ld_val (ov_move rfl rfl)⟩, ⟨rfl, ld_val (ov_move rfl rfl)⟩, ⟨rfl, ld_val (ov_move rfl rfl)⟩, ⟨rfl, ld_eq (j := 1) rfl rfl (ld_eq (j := 2) rfl rfl (ld_of (of_idxW 0 hc38 hu40 rfl hw24 rfl rfl Try.underlying22 sz32 rfl)))⟩, ⟨rfl, ld_elt (j := 3) rfl rfl (fun p41 hp42 => ld_val (ov_loadR (ds := ((cA8u8 u39.ID) ++ [(iq u39.Kind), (iq u39.Pack), (iq u39.At), (iq u39.Len)])) 0 rfl hp42 (at_some hu40).2.2 encS_api_Place rfl Try.underlying32 sz32 rfl rfl rfl))⟩, ⟨rfl, ld_val (ov_move rfl rfl)⟩, ⟨rfl, ld_val (ov_move rfl rfl)⟩, ⟨rfl, ld_eq (j := 6) rfl rfl (ld_val (ov_int rfl rfl rfl rfl))⟩, ⟨rfl, ld_eq (j := 5) rfl rfl (ld_eq (j := 7) rfl rfl (ld_of (of_idxW 0 hc43 hu45 rfl hw24 rfl rfl Try.underlying22 sz32 rfl)))⟩, ⟨rfl, ld_elt (j := 8) rfl rfl (fun p46 hp47 => ld_val (ov_loadR (ds := ((cA8u8 u44.ID) ++ [(iq u44.Kind), (iq u44.Pack), (iq u44.At), (iq u44.Len)])) 0 rfl hp47 (at_some hu45).2.2 encS_api_Place rfl Try.underlying32 sz32 rfl rfl rfl))⟩, ⟨rfl, ld_eq (j := 0) rfl rfl (ld_eq (j := 4) rfl rfl (ld_eq (j := 9) rfl rfl (ld_callF (vs := [(ag ((cA8u8 u39.ID) ++ [(iq u39.Kind), (iq u39.Pack), (iq u39.At), (iq u39.Len)])), (ag ((cA8u8 u44.ID) ++ [(iq u44.Kind), (iq u44.Pack), (iq u44.At), (iq u44.Len)]))]) (caps := []) (f_index_sorted_2_ok fu u39 u44 hc48) rfl [] pre_nil rfl rfl Try.func128 rfl rfl rfl)))⟩, trivial⟩ ?_
         refine tl_eq 10 rfl ?_
         refine tl_done ?_
         refine al_val (ov_not rfl rfl) ?_
         refine al_nt ?_
         refine aw_cond rfl (fun hb50 => ?_) (fun hb50 => ?_)
         ·replace h := bif_t hb50 h
          refine aw_sr ?_
          refine al_mv rfl rfl ?_
          refine al_mv rfl rfl ?_
          refine al_mv rfl rfl ?_
          refine al_mv rfl rfl ?_
          obtain ⟨hc51, h⟩ := req_some h
          obtain ⟨u52, hu53, h⟩ := opt_some h
          refine al_idxW 0 hc51 hu53 rfl hw24 rfl rfl Try.underlying22 sz32 rfl (fun p54 hp55 => ?_)
          refine al_val (ov_loadR (ds := ((cA8u8 u52.ID) ++ [(iq u52.Kind), (iq u52.Pack), (iq u52.At), (iq u52.Len)])) 0 rfl hp55 (at_some hu53).2.2 encS_api_Place rfl Try.underlying32 sz32 rfl rfl rfl) ?_
          obtain ⟨u56, hu57, h⟩ := opt_some h
          refine al_idxR 0 (at_some hu57).1 (at_some hu57).2.1 rfl rfl rfl Try.underlying22 sz32 rfl (fun p58 hp59 => ?_)
          refine al_storeR (k := (l32i5).toNat) (x := u52) (vs := ((cA8u8 u52.ID) ++ [(iq u52.Kind), (iq u52.Pack), (iq u52.At), (iq u52.Len)])) 0 rfl hp59 (idx_lt hu57) rfl rfl (cv_rfl rfl) (fun _ => mkS_api_Place rfl) sz32 rfl ?_
          refine al_nt ?_
          refine aw_region ?_
          refine al_mv rfl rfl ?_
          refine al_in rfl rfl rfl rfl ?_
          refine al_as rfl rfl ?_
          refine al_nil ?_
          refine aq_block ?_
          exact aq_join ((l32x0.set (l32i5).toNat u52), (wq (l32i5 + (1 : Int)))) h (fun w a hm hs => norm hm hs [0] [] [(0, v0_0), (1, (fq 128)), (5, (iq (wq (l32i5 + (1 : Int))))), (6, s23), (7, (iq l32i7))] (by decide) ⟨rfl, rfl, rfl, rfl, rfl, trivial⟩)
         ·replace h := bif_f hb50 h
          refine aw_skip ?_
          refine aq_block ?_
          exact aq_join (l32x0, l32i5) h (fun w a hm hs => norm hm hs [0] [] [(0, v0_0), (1, (fq 128)), (5, (iq l32i5)), (6, s23), (7, (iq l32i7))] (by decide) ⟨rfl, rfl, rfl, rfl, rfl, trivial⟩)
       ·replace h := bif_f hb35 h
        refine aw_exit ?_
        refine aq_then_exit ?_
        refine aq_then_exit ?_
        refine aq_block_exit ?_
        exact aq_join (l32x0, l32i5) h (fun w a hm hs => norm hm hs [0] [] [(0, v0_0), (5, (iq l32i5))] (by decide) ⟨rfl, rfl, trivial⟩)
     ·replace h := bif_f hb21 h
      refine aw_skip ?_
      refine aq_block ?_
      exact aq_join () h (fun w a hm hs => norm hm hs [0] [] [(0, v0_0), (1, (fq 128)), (5, (iq l4i5))] (by decide) ⟨rfl, rfl, rfl, trivial⟩)
   ·replace h := bif_f hb8 h
    refine aw_exit ?_
    refine aq_then_exit ?_
    refine aq_then_exit ?_
    refine aq_block_exit ?_
    exact aq_join () h (fun w a hm hs => norm hm hs [0] [] [(0, v0_0)] (by decide) ⟨rfl, trivial⟩)
def f_index_sorted_own (fu : Nat) (a0 : (List S_api_Place)) : Option (List S_api_Place) := (req (a0.length < 4611686018427387904) (opt (f_slices_CompactFunc___api_Place_api_Place__own_F128 fu (sortPl a0)) fun (r3 : (List S_api_Place)) => (some r3)))
set_option maxRecDepth 100000 in
theorem f_index_sorted_own_ok (fu : Nat) (v0_0 : Value) (a0 : (List S_api_Place)) {r : (List S_api_Place)} (h : f_index_sorted_own fu a0 = some r) : FnOk Try.prog 57 [v0_0] [] [(oRow v0_0 32 tyS_api_Place a0)] (fun (i : Value) => { val := i, own := [(oRow i 32 tyS_api_Place r)] }) := by
 unfold f_index_sorted_own at h
 refine fn_enter Try.func57 rfl Try.ntmps57 rfl (fun w0 Z0 => ?_)
 refine aw_sr ?_
 refine al_as rfl rfl ?_
 refine al_nt ?_
 refine aw_sr ?_
 refine al_mv rfl rfl ?_
 obtain ⟨hc1, h⟩ := req_some h
 refine al_call (vs := [v0_0, (fq 125)]) (sortPl_ok hc1) [] [0] [] pre_nil rfl (by simp) (by decide) (.inl rfl) rfl Try.func124 rfl rfl rfl (fun _ => ?_)
 refine al_nt ?_
 refine aw_sr ?_
 refine al_mv rfl rfl ?_
 obtain ⟨r3, hc2, h⟩ := opt_some h
 refine al_call (vs := [v0_0, (fq 128)]) (f_slices_CompactFunc___api_Place_api_Place__own_F128_ok fu v0_0 (sortPl a0) hc2) [] [0] [] pre_nil rfl (by simp) (by decide) (.inl rfl) rfl Try.func127 rfl rfl rfl (fun v4 => ?_)
 refine al_as rfl rfl ?_
 refine al_nt ?_
 refine aw_ret ?_
 obtain rfl := Option.some.inj h
 exact fn_ret v4 [0] [] rfl rfl rfl rfl (res1 rfl rfl) rfl rfl rfl (by decide)
def f_index_Merge_L17 (a0 : (List S_api_Place)) (a1 : (List S_api_Place)) (kk2 : (Unit → Option ((List S_api_Place) × Int))) (fu : Nat) : Nat → Int → Option ((List S_api_Place) × Int)
  | 0, _ => none
  | k16 + 1, l15i14 => (bif (decide (l15i14 < (([a0, a1]).length : Int))) then (opt (at? ([a0, a1]) l15i14) fun (u19 : (List S_api_Place)) => (opt (f_index_Check fu u19) fun (r25 : Int) => (bif (r25 != (0 : Int)) then (some (([] : List S_api_Place), r25)) else (f_index_Merge_L17 a0 a1 kk2 fu k16 (IntKind.i64.wrap (l15i14 + (1 : Int))))))) else (kk2 ()))
def f_index_Merge (fu : Nat) (a0 : (List S_api_Place)) (a1 : (List S_api_Place)) : Option ((List S_api_Place) × Int) := (lt (fun (_ : Unit) => (opt (f_slices_Concat___api_Place_api_Place_ fu ([a0, a1])) fun (r5 : (List S_api_Place)) => (opt (f_index_sorted_own fu r5) fun (r8 : (List S_api_Place)) => (bif (decide ((r8.length : Int) > (400 : Int))) then (some (([] : List S_api_Place), (2 : Int))) else (opt (f_slices_Clone___api_Place_api_Place_ fu r8) fun (r12 : (List S_api_Place)) => (some (r12, (0 : Int)))))))) fun (kk2 : Unit → Option ((List S_api_Place) × Int)) => (f_index_Merge_L17 a0 a1 kk2 fu fu (0 : Int)))
set_option maxHeartbeats 2000000 in
set_option maxRecDepth 100000 in
theorem f_index_Merge_ok (fu : Nat) (v0_0 : Value) (a0 : (List S_api_Place)) (v1_0 : Value) (a1 : (List S_api_Place)) {r : ((List S_api_Place) × Int)} (h : f_index_Merge fu a0 a1 = some r) : FnOk Try.prog 10 [v0_0, v1_0] [(fDat (tyList tyS_api_Place) [v0_0] a0), (fDat (tyList tyS_api_Place) [v1_0] a1)] [] (fun (i : Value) => { val := (Value.tuple #[i, (int .i64 r.2)]), own := [(oRow i 32 tyS_api_Place r.1)] }) := by
 unfold f_index_Merge at h
 refine fn_enter Try.func10 rfl Try.ntmps10 rfl (fun w0 Z0 => ?_)
 refine aw_sr ?_
 refine al_as rfl rfl ?_
 refine al_as rfl rfl ?_
 refine al_nt ?_
 obtain ⟨kk2, hkk2, h⟩ := lt_some h
 refine aw_seq_join (ι := Unit) (fun i => (memOf w0 Z0 [] [] [(fDat (tyList tyS_api_Place) [v0_0] a0), (fDat (tyList tyS_api_Place) [v1_0] a1)])) (fun i => (tab [(0, v0_0), (1, v1_0)])) (fun i => kk2 () = some r) ?_ ?_
 ·rintro _ h
  have h : kk2 () = some r := h
  rw [hkk2] at h
  dsimp only at h
  clear hkk2
  refine aw_show (m := (memOf w0 Z0 [] [] [(fDat (tyList tyS_api_Place) [v0_0] a0), (fDat (tyList tyS_api_Place) [v1_0] a1)])) (S := (tab [(0, v0_0), (1, v1_0)])) ?_
  refine aw_sr ?_
  refine al_mv rfl rfl ?_
  refine al_mv rfl rfl ?_
  refine al_buildSlice (τ := (tyList tyS_api_Place)) (e := 22) (k := 2) (sz := 0) (by_ := 0) (z := undef) (cs := [v0_0, v1_0]) (xs := [a0, a1]) rfl (by decide) (fun w a hm hs => ⟨([v0_0, v1_0]).toArray, rfl, by simp only [List.map_toArray, List.map_cons, List.map_nil, hs.ev (x := .tmp 24) rfl, hs.ev (x := .tmp 25) rfl]; exact run_bs [v0_0, v1_0] [v0_0, v1_0] Try.underlying116 to22 rfl rfl (bs_cons (l := [v0_0]) (cs := [v1_0]) (cv_fz 0 rfl) rfl (bs_cons (l := [v1_0]) (cs := []) (cv_fz 1 rfl) rfl bs_nil)) hm⟩) (fun hm => ⟨_, _, rfl, (fun hm => fz_at (i := 0) hm rfl) hm, ⟨_, _, rfl, (fun hm => fz_at (i := 1) hm rfl) hm, rfl⟩⟩) rfl (fun v3 => ?_)
  obtain ⟨r5, hc4, h⟩ := opt_some h
  refine al_call (vs := [v3]) (f_slices_Concat___api_Place_api_Place__ok fu v3 ([a0, a1]) hc4) [0] [] [0] (pre_own 0 rfl rfl pre_nil) rfl (by simp) (by decide) (.inr (flat_res1 (fun _ => flat_row flatS_api_Place))) rfl Try.func58 rfl rfl rfl (fun v6 => ?_)
  obtain ⟨r8, hc7, h⟩ := opt_some h
  refine al_call (vs := [v6]) (f_index_sorted_own_ok fu v6 r5 hc7) [] [0] [1] pre_nil rfl (by simp) (by decide) (.inl rfl) rfl Try.func57 rfl rfl rfl (fun v9 => ?_)
  refine al_as rfl rfl ?_
  refine al_nt ?_
  refine aw_seq ?_
  refine aw_sr ?_
  refine al_mv rfl rfl ?_
  refine al_val (ov_lenR 0 rfl rfl Try.underlying22 rfl) ?_
  refine al_in rfl rfl rfl rfl ?_
  refine al_nt ?_
  refine aw_cond rfl (fun hb10 => ?_) (fun hb10 => ?_)
  ·replace h := bif_t hb10 h
   refine aw_sr ?_
   refine al_as rfl rfl ?_
   refine al_as rfl rfl ?_
   refine al_nt ?_
   refine aw_ret ?_
   refine aq_then_ret ?_
   refine aq_nilR 32 tyS_api_Place ?_
   obtain rfl := Option.some.inj h
   exact fn_ret nS [0] [] rfl rfl rfl rfl (res2 rfl rfl rfl) rfl rfl rfl (by decide)
  ·replace h := bif_f hb10 h
   refine aw_skip ?_
   refine aq_tr ?_
   refine al_mv rfl rfl ?_
   obtain ⟨r12, hc11, h⟩ := opt_some h
   refine al_call (vs := [v9]) (f_slices_Clone___api_Place_api_Place__ok fu v9 r8 hc11) [0] [] [0, 1] (pre_own 0 rfl rfl pre_nil) rfl (by simp) (by decide) (.inr (flat_res1 (fun _ => flat_row flatS_api_Place))) rfl Try.func59 rfl rfl rfl (fun v13 => ?_)
   refine al_as rfl rfl ?_
   refine al_as rfl rfl ?_
   refine al_nt ?_
   refine aw_ret ?_
   obtain rfl := Option.some.inj h
   exact fn_ret v13 [0] [] rfl rfl rfl rfl (res2 rfl rfl rfl) rfl rfl rfl (by decide)
 ·clear hkk2
  refine aw_sr ?_
  refine al_mv rfl rfl ?_
  refine al_mv rfl rfl ?_
  refine al_buildSlice (τ := (tyList tyS_api_Place)) (e := 22) (k := 2) (sz := 0) (by_ := 0) (z := undef) (cs := [v0_0, v1_0]) (xs := [a0, a1]) rfl (by decide) (fun w a hm hs => ⟨([v0_0, v1_0]).toArray, rfl, by simp only [List.map_toArray, List.map_cons, List.map_nil, hs.ev (x := .tmp 10) rfl, hs.ev (x := .tmp 11) rfl]; exact run_bs [v0_0, v1_0] [v0_0, v1_0] Try.underlying116 to22 rfl rfl (bs_cons (l := [v0_0]) (cs := [v1_0]) (cv_fz 0 rfl) rfl (bs_cons (l := [v1_0]) (cs := []) (cv_fz 1 rfl) rfl bs_nil)) hm⟩) (fun hm => ⟨_, _, rfl, (fun hm => fz_at (i := 0) hm rfl) hm, ⟨_, _, rfl, (fun hm => fz_at (i := 1) hm rfl) hm, rfl⟩⟩) rfl (fun v14 => ?_)
  refine al_val (ov_lenR 0 rfl rfl Try.underlying116 rfl) ?_
  refine al_mv rfl rfl ?_
  refine al_nt ?_
  refine aw_block ?_
  refine aw_state (aw_loop (ι := Int) (fun i => (memOf w0 Z0 [] [(oRow v14 22 (tyList tyS_api_Place) [a0, a1])] [(fDat (tyList tyS_api_Place) [v0_0] a0), (fDat (tyList tyS_api_Place) [v1_0] a1)])) (fun i => (tab [(0, v0_0), (1, v1_0), (12, v14), (13, (iq (([a0, a1]).length : Int))), (14, (iq i))])) (fun q i => f_index_Merge_L17 a0 a1 kk2 fu q i = some r) ?_ fu (0 : Int) h) (fun w a hm hs => norm hm hs [0] [0, 1] [(0, v0_0), (1, v1_0), (12, v14), (13, (iq (([a0, a1]).length : Int))), (14, (iq (0 : Int)))] (by decide) ⟨rfl, rfl, rfl, rfl, rfl, trivial⟩)
  clear h
  rintro k16 l15i14 h
  have h : f_index_Merge_L17 a0 a1 kk2 fu k16 l15i14 = some r := h
  obtain _ | k16 := k16
  · rw [f_index_Merge_L17] at h; cases h
  rw [f_index_Merge_L17] at h
  refine aw_show (m := (memOf w0 Z0 [] [(oRow v14 22 (tyList tyS_api_Place) [a0, a1])] [(fDat (tyList tyS_api_Place) [v0_0] a0), (fDat (tyList tyS_api_Place) [v1_0] a1)])) (S := (tab [(0, v0_0), (1, v1_0), (12, v14), (13, (iq (([a0, a1]).length : Int))), (14, (iq l15i14))])) ?_
  refine aw_sr ?_
  refine al_in rfl rfl rfl rfl ?_
  refine al_nt ?_
  refine aw_seq ?_
  refine aw_cond rfl (fun hb18 => ?_) (fun hb18 => ?_)
  ·replace h := bif_t hb18 h
   refine aw_skip ?_
   refine aq_then ?_
   refine aw_seq ?_
   refine aw_block ?_
   refine aw_sr ?_
   obtain ⟨u19, hu20, h⟩ := opt_some h
   refine al_idxR 0 (at_some hu20).1 (at_some hu20).2.1 rfl rfl rfl Try.underlying116 sz22 rfl (fun p21 hp22 => ?_)
   refine al_loadR1 0 rfl hp22 (at_some hu20).2.2 rfl Try.underlying22 sz22 rfl rfl rfl (fun s23 => ?_)
   refine al_as rfl rfl ?_
   refine al_nt ?_
   refine aw_sr ?_
   refine al_mv rfl rfl ?_
   obtain ⟨r25, hc24, h⟩ := opt_some h
   refine al_call (vs := [s23]) (f_index_Check_ok fu s23 u19 hc24) [] [] [0] (pre_fz 0 rfl pre_nil) rfl (by simp) (by decide) (.inl rfl) rfl Try.func56 rfl rfl rfl (fun _ => ?_)
   refine al_as rfl rfl ?_
   refine al_nt ?_
   refine aw_sr ?_
   refine al_mv rfl rfl ?_
   refine al_in rfl rfl rfl rfl ?_
   refine al_nt ?_
   refine aw_cond rfl (fun hb26 => ?_) (fun hb26 => ?_)
   ·replace h := bif_t hb26 h
    refine aw_sr ?_
    refine al_mv rfl rfl ?_
    refine al_as rfl rfl ?_
    refine al_as rfl rfl ?_
    refine al_nt ?_
    refine aw_ret ?_
    refine aq_block_ret ?_
    refine aq_then_ret ?_
    refine aq_then_ret ?_
    refine aq_block_ret ?_
    refine aq_then_ret ?_
    refine aq_nilR 32 tyS_api_Place ?_
    obtain rfl := Option.some.inj h
    exact fn_ret nS [0] [] rfl rfl rfl rfl (res2 rfl rfl rfl) rfl rfl rfl (by decide)
   ·replace h := bif_f hb26 h
    refine aw_skip ?_
    refine aq_block ?_
    refine aq_then ?_
    refine aw_region ?_
    refine al_in rfl rfl rfl rfl ?_
    refine al_mv rfl rfl ?_
    refine al_nil ?_
    exact aq_again k16 (wq (l15i14 + (1 : Int))) (Nat.lt_succ_self _) h (fun w a hm hs => norm hm hs [0] [1, 2] [(0, v0_0), (1, v1_0), (12, v14), (13, (iq (([a0, a1]).length : Int))), (14, (iq (wq (l15i14 + (1 : Int)))))] (by decide) ⟨rfl, rfl, rfl, rfl, rfl, trivial⟩)
  ·replace h := bif_f hb18 h
   refine aw_exit ?_
   refine aq_then_exit ?_
   refine aq_then_exit ?_
   refine aq_block_exit ?_
   exact aq_join () h (fun w a hm hs => norm hm hs [] [0, 1] [(0, v0_0), (1, v1_0)] (by decide) ⟨rfl, rfl, trivial⟩)
def f_lumref_kindOK (fu : Nat) (a0 : Int) : Option Bool := (lt (fun (j1b2 : Bool) => (some j1b2)) fun (kk2 : Bool → Option Bool) => (bif (a0 == (1 : Int)) then (kk2 true) else (bif (a0 == (2 : Int)) then (kk2 true) else (kk2 (a0 == (3 : Int))))))
set_option maxHeartbeats 2000000 in
set_option maxRecDepth 100000 in
theorem f_lumref_kindOK_ok (fu : Nat) (a0 : Int) {r : Bool} (h : f_lumref_kindOK fu a0 = some r) : FnOk Try.prog 132 [(int .i64 a0)] [] [] (fun (i : Unit) => { val := (bool r) }) := by
 unfold f_lumref_kindOK at h
 refine fn_enter Try.func132 rfl Try.ntmps132 rfl (fun w0 Z0 => ?_)
 refine aw_sr ?_
 refine al_as rfl rfl ?_
 refine al_nt ?_
 obtain ⟨kk2, hkk2, h⟩ := lt_some h
 refine aw_seq_join (ι := Bool) (fun i => (memOf w0 Z0 [] [] [])) (fun i => (tab [(2, (bool i))])) (fun i => kk2 i = some r) ?_ ?_
 ·rintro j1b2 h
  have h : kk2 j1b2 = some r := h
  rw [hkk2] at h
  dsimp only at h
  clear hkk2
  refine aw_show (m := (memOf w0 Z0 [] [] [])) (S := (tab [(2, (bool j1b2))])) ?_
  refine aw_ret ?_
  obtain rfl := Option.some.inj h
  exact fn_ret () [] [] rfl rfl rfl rfl (res1 rfl rfl) rfl rfl rfl (by decide)
 ·clear hkk2
  refine aw_region ?_
  refine al_mv rfl rfl ?_
  refine al_in rfl rfl rfl rfl ?_
  refine al_mv rfl rfl ?_
  refine al_caseB 5 rfl (fun hb3 => ?_) (fun hb3 => ?_)
  ·replace h := bif_t hb3 h
   refine al_skip ?_
   refine al_skip ?_
   refine al_val (ov_pick_t rfl rfl rfl) ?_
   refine al_mv rfl rfl ?_
   refine al_skip ?_
   refine al_skip ?_
   refine al_val (ov_pick_t rfl rfl rfl) ?_
   refine al_as rfl rfl ?_
   refine al_nil ?_
   exact aq_join true h (fun w a hm hs => norm hm hs [] [] [(2, (bool true))] (by decide) ⟨rfl, trivial⟩)
  ·replace h := bif_f hb3 h
   refine al_mv rfl rfl ?_
   refine al_in rfl rfl rfl rfl ?_
   refine al_val (ov_pick_f rfl rfl rfl) ?_
   refine al_mv rfl rfl ?_
   refine al_caseB 9 rfl (fun hb4 => ?_) (fun hb4 => ?_)
   ·replace h := bif_t hb4 h
    refine al_skip ?_
    refine al_skip ?_
    refine al_val (ov_pick_t rfl rfl rfl) ?_
    refine al_as rfl rfl ?_
    refine al_nil ?_
    exact aq_join true h (fun w a hm hs => norm hm hs [] [] [(2, (bool true))] (by decide) ⟨rfl, trivial⟩)
   ·replace h := bif_f hb4 h
    refine al_mv rfl rfl ?_
    refine al_in rfl rfl rfl rfl ?_
    refine al_val (ov_pick_f rfl rfl rfl) ?_
    refine al_as rfl rfl ?_
    refine al_nil ?_
    exact aq_join (a0 == (3 : Int)) h (fun w a hm hs => norm hm hs [] [] [(2, (bool (a0 == (3 : Int))))] (by decide) ⟨rfl, trivial⟩)
def f_lumref_placeErr (fu : Nat) (a0 : S_api_Place) : Option Int := (opt (f_lumref_kindOK fu a0.Kind) fun (r3 : Bool) => (bif (!r3) then (some (5 : Int)) else (lt (fun (j5b24 : Bool) => (bif j5b24 then (some (1 : Int)) else (some (0 : Int)))) fun (kk6 : Bool → Option Int) => (bif (decide ((if a0.Len < (if a0.At < a0.Pack then a0.At else a0.Pack) then a0.Len else (if a0.At < a0.Pack then a0.At else a0.Pack)) < (0 : Int))) then (kk6 true) else (kk6 (decide ((if a0.Len > (if a0.At > a0.Pack then a0.At else a0.Pack) then a0.Len else (if a0.At > a0.Pack then a0.At else a0.Pack)) > (1099511627776 : Int))))))))
set_option maxHeartbeats 2000000 in
set_option maxRecDepth 100000 in
theorem f_lumref_placeErr_ok (fu : Nat) (a0 : S_api_Place) {r : Int} (h : f_lumref_placeErr fu a0 = some r) : FnOk Try.prog 64 [(ag ((cA8u8 a0.ID) ++ [(int .i64 a0.Kind), (int .i64 a0.Pack), (int .i64 a0.At), (int .i64 a0.Len)]))] [] [] (fun (i : Unit) => { val := (int .i64 r) }) := by
 unfold f_lumref_placeErr at h
 refine fn_enter Try.func64 rfl Try.ntmps64 rfl (fun w0 Z0 => ?_)
 refine aw_sr ?_
 refine al_box (vs := ((cA8u8 a0.ID) ++ [(iq a0.Kind), (iq a0.Pack), (iq a0.At), (iq a0.Len)])) rfl (cv_rfl rfl) rfl (fun g1 => ?_)
 refine al_as rfl rfl ?_
 refine al_nt ?_
 refine aw_seq ?_
 refine aw_sr ?_
 refine al_val (ov_fieldA (p := 8) rfl Try.underlying32 rfl sz3 rfl rfl rfl) ?_
 refine al_val (ov_load (i := 0) (v := (iq a0.Kind)) rfl rfl Try.underlying3 sz3 rfl rfl rfl rfl) ?_
 obtain ⟨r3, hc2, h⟩ := opt_some h
 refine al_call (vs := [(iq a0.Kind)]) (f_lumref_kindOK_ok fu a0.Kind hc2) [] [] [0] pre_nil rfl (by simp) (by decide) (.inl rfl) rfl Try.func132 rfl rfl rfl (fun _ => ?_)
 refine al_val (ov_not rfl rfl) ?_
 refine al_nt ?_
 refine aw_cond rfl (fun hb4 => ?_) (fun hb4 => ?_)
 ·replace h := bif_t hb4 h
  refine aw_sr ?_
  refine al_as rfl rfl ?_
  refine al_nt ?_
  refine aw_ret ?_
  refine aq_then_ret ?_
  obtain rfl := Option.some.inj h
  exact fn_ret () [] [] rfl rfl rfl rfl (res1 rfl rfl) rfl rfl rfl (by decide)
 ·replace h := bif_f hb4 h
  refine aw_skip ?_
  refine aq_then ?_
  refine aw_seq ?_
  obtain ⟨kk6, hkk6, h⟩ := lt_some h
  refine aw_seq_join (ι := Bool) (fun i => (memOf w0 Z0 [] [] [])) (fun i => (tab [(24, (bool i))])) (fun i => kk6 i = some r) ?_ ?_
  ·rintro j5b24 h
   have h : kk6 j5b24 = some r := h
   rw [hkk6] at h
   dsimp only at h
   clear hkk6
   refine aw_show (m := (memOf w0 Z0 [] [] [])) (S := (tab [(24, (bool j5b24))])) ?_
   refine aw_cond rfl (fun hb7 => ?_) (fun hb7 => ?_)
   ·replace h := bif_t hb7 h
    refine aw_sr ?_
    refine al_as rfl rfl ?_
    refine al_nt ?_
    refine aw_ret ?_
    refine aq_then_ret ?_
    obtain rfl := Option.some.inj h
    exact fn_ret () [] [] rfl rfl rfl rfl (res1 rfl rfl) rfl rfl rfl (by decide)
   ·replace h := bif_f hb7 h
    refine aw_skip ?_
    refine aq_tr ?_
    refine al_as rfl rfl ?_
    refine al_nt ?_
    refine aw_ret ?_
    obtain rfl := Option.some.inj h
    exact fn_ret () [] [] rfl rfl rfl rfl (res1 rfl rfl) rfl rfl rfl (by decide)
  ·clear hkk6
   refine aw_region ?_
   refine al_val (ov_fieldA (p := 9) rfl Try.underlying32 rfl sz3 rfl rfl rfl) ?_
   refine al_val (ov_load (i := 0) (v := (iq a0.Pack)) rfl rfl Try.underlying3 sz3 rfl rfl rfl rfl) ?_
   refine al_val (ov_fieldA (p := 10) rfl Try.underlying32 rfl sz3 rfl rfl rfl) ?_
   refine al_val (ov_load (i := 0) (v := (iq a0.At)) rfl rfl Try.underlying3 sz3 rfl rfl rfl rfl) ?_
   refine al_val (ov_fieldA (p := 11) rfl Try.underlying32 rfl sz3 rfl rfl rfl) ?_
   refine al_val (ov_load (i := 0) (v := (iq a0.Len)) rfl rfl Try.underlying3 sz3 rfl rfl rfl rfl) ?_
   refine al_val (ov_min3 rfl rfl rfl rfl) ?_
   refine al_in rfl rfl rfl rfl ?_
   refine al_mv rfl rfl ?_
   refine al_caseB 15 rfl (fun hb8 => ?_) (fun hb8 => ?_)
   ·replace h := bif_t hb8 h
    refine al_skip ?_
    refine al_skip ?_
    refine al_skip ?_
    refine al_skip ?_
    refine al_skip ?_
    refine al_skip ?_
    refine al_skip ?_
    refine al_skip ?_
    refine al_val (ov_pick_t rfl rfl rfl) ?_
    refine al_nil ?_
    exact aq_join true h (fun w a hm hs => norm hm hs [] [] [(24, (bool true))] (by decide) ⟨rfl, trivial⟩)
   ·replace h := bif_f hb8 h
    refine al_val (ov_fieldA (p := 9) rfl Try.underlying32 rfl sz3 rfl rfl rfl) ?_
    refine al_val (ov_load (i := 0) (v := (iq a0.Pack)) rfl rfl Try.underlying3 sz3 rfl rfl rfl rfl) ?_
    refine al_val (ov_fieldA (p := 10) rfl Try.underlying32 rfl sz3 rfl rfl rfl) ?_
    refine al_val (ov_load (i := 0) (v := (iq a0.At)) rfl rfl Try.underlying3 sz3 rfl rfl rfl rfl) ?_
    refine al_val (ov_fieldA (p := 11) rfl Try.underlying32 rfl sz3 rfl rfl rfl) ?_
    refine al_val (ov_load (i := 0) (v := (iq a0.Len)) rfl rfl Try.underlying3 sz3 rfl rfl rfl rfl) ?_
    refine al_val (ov_max3 rfl rfl rfl rfl) ?_
    refine al_in rfl rfl rfl rfl ?_
    refine al_val (ov_pick_f rfl rfl rfl) ?_
    refine al_nil ?_
    exact aq_join (decide ((if a0.Len > (if a0.At > a0.Pack then a0.At else a0.Pack) then a0.Len else (if a0.At > a0.Pack then a0.At else a0.Pack)) > (1099511627776 : Int))) h (fun w a hm hs => norm hm hs [] [] [(24, (bool (decide ((if a0.Len > (if a0.At > a0.Pack then a0.At else a0.Pack) then a0.Len else (if a0.At > a0.Pack then a0.At else a0.Pack)) > (1099511627776 : Int)))))] (by decide) ⟨rfl, trivial⟩)
def f_lumref_Index_L6 (a0 : (List S_api_Place)) (kk3 : (Unit → Option Int)) (fu : Nat) : Nat → Int → Option Int
  | 0, _ => none
  | k5 + 1, l4i11 => (bif (decide (l4i11 < (a0.length : Int))) then (opt (at? a0 l4i11) fun (u8 : S_api_Place) => (opt (f_lumref_placeErr fu u8) fun (r13 : Int) => (bif (r13 != (0 : Int)) then (some r13) else (lt (fun (j15b35 : Bool) => (bif j15b35 then (some (4 : Int)) else (f_lumref_Index_L6 a0 kk3 fu k5 (IntKind.i64.wrap (l4i11 + (1 : Int)))))) fun (kk16 : Bool → Option Int) => (bif (decide (l4i11 > (0 : Int))) then (opt (at? a0 (IntKind.i64.wrap (l4i11 - (1 : Int)))) fun (u19 : S_api_Place) => (kk16 (!Op.bytesLess (lA8u8 u19.ID) (lA8u8 u8.ID)))) else (kk16 false)))))) else (kk3 ()))
def f_lumref_Index (fu : Nat) (a0 : (List S_api_Place)) : Option Int := (bif (decide ((a0.length : Int) > (400 : Int))) then (some (2 : Int)) else (lt (fun (_ : Unit) => (some (0 : Int))) fun (kk3 : Unit → Option Int) => (f_lumref_Index_L6 a0 kk3 fu fu (0 : Int))))
set_option maxHeartbeats 2000000 in
set_option maxRecDepth 100000 in
theorem f_lumref_Index_ok (fu : Nat) (v0_0 : Value) (a0 : (List S_api_Place)) {r : Int} (h : f_lumref_Index fu a0 = some r) : FnOk Try.prog 60 [v0_0] [(fDat (tyList tyS_api_Place) [v0_0] a0)] [] (fun (i : Unit) => { val := (int .i64 r) }) := by
 unfold f_lumref_Index at h
 refine fn_enter Try.func60 rfl Try.ntmps60 rfl (fun w0 Z0 => ?_)
 refine aw_sr ?_
 refine al_as rfl rfl ?_
 refine al_nt ?_
 refine aw_seq ?_
 refine aw_sr ?_
 refine al_mv rfl rfl ?_
 refine al_val (ov_lenD 0 rfl rfl Try.underlying22 rfl) ?_
 refine al_in rfl rfl rfl rfl ?_
 refine al_nt ?_
 refine aw_cond rfl (fun hb1 => ?_) (fun hb1 => ?_)
 ·replace h := bif_t hb1 h
  refine aw_sr ?_
  refine al_as rfl rfl ?_
  refine al_nt ?_
  refine aw_ret ?_
  refine aq_then_ret ?_
  obtain rfl := Option.some.inj h
  exact fn_ret () [] [] rfl rfl rfl rfl (res1 rfl rfl) rfl rfl rfl (by decide)
 ·replace h := bif_f hb1 h
  refine aw_skip ?_
  refine aq_then ?_
  obtain ⟨kk3, hkk3, h⟩ := lt_some h
  refine aw_seq_join (ι := Unit) (fun i => (memOf w0 Z0 [] [] [(fDat (tyList tyS_api_Place) [v0_0] a0)])) (fun i => (tab [])) (fun i => kk3 () = some r) ?_ ?_
  ·rintro _ h
   have h : kk3 () = some r := h
   rw [hkk3] at h
   dsimp only at h
   clear hkk3
   refine aw_show (m := (memOf w0 Z0 [] [] [(fDat (tyList tyS_api_Place) [v0_0] a0)])) (S := (tab [])) ?_
   refine aw_sr ?_
   refine al_as rfl rfl ?_
   refine al_nt ?_
   refine aw_ret ?_
   obtain rfl := Option.some.inj h
   exact fn_ret () [] [] rfl rfl rfl rfl (res1 rfl rfl) rfl rfl rfl (by decide)
  ·clear hkk3
   refine aw_sr ?_
   refine al_mv rfl rfl ?_
   refine al_val (ov_lenD 0 rfl rfl Try.underlying22 rfl) ?_
   refine al_mv rfl rfl ?_
   refine al_nt ?_
   refine aw_block ?_
   refine aw_state (aw_loop (ι := Int) (fun i => (memOf w0 Z0 [] [] [(fDat (tyList tyS_api_Place) [v0_0] a0)])) (fun i => (tab [(0, v0_0), (9, v0_0), (10, (iq (a0.length : Int))), (11, (iq i))])) (fun q i => f_lumref_Index_L6 a0 kk3 fu q i = some r) ?_ fu (0 : Int) h) (fun w a hm hs => norm hm hs [] [0] [(0, v0_0), (9, v0_0), (10, (iq (a0.length : Int))), (11, (iq (0 : Int)))] (by decide) ⟨rfl, rfl, rfl, rfl, trivial⟩)
   clear h
   rintro k5 l4i11 h
   have h : f_lumref_Index_L6 a0 kk3 fu k5 l4i11 = some r := h
   obtain _ | k5 := k5
   · rw [f_lumref_Index_L6] at h; cases h
   rw [f_lumref_Index_L6] at h
   refine aw_show (m := (memOf w0 Z0 [] [] [(fDat (tyList tyS_api_Place) [v0_0] a0)])) (S := (tab [(0, v0_0), (9, v0_0), (10, (iq (a0.length : Int))), (11, (iq l4i11))])) ?_
   refine aw_sr ?_
   refine al_in rfl rfl rfl rfl ?_
   refine al_nt ?_
   refine aw_seq ?_
   refine aw_cond rfl (fun hb7 => ?_) (fun hb7 => ?_)
   ·replace h := bif_t hb7 h
    refine aw_skip ?_
    refine aq_then ?_
    refine aw_seq ?_
    refine aw_block ?_
    refine aw_sr ?_
    refine al_mv rfl rfl ?_
    obtain ⟨u8, hu9, h⟩ := opt_some h
    refine al_idxD 0 hu9 rfl rfl rfl Try.underlying22 sz32 rfl (fun p10 => ?_)
    refine al_val (ov_loadP (ds := ((cA8u8 u8.ID) ++ [(iq u8.Kind), (iq u8.Pack), (iq u8.At), (iq u8.Len)])) 0 rfl encS_api_Place rfl Try.underlying32 sz32 rfl rfl rfl) ?_
    refine al_alloc (zs := ((cA8u8 (A8u8.mk (0 : UInt8) (0 : UInt8) (0 : UInt8) (0 : UInt8) (0 : UInt8) (0 : UInt8) (0 : UInt8) (0 : UInt8))) ++ [(iq (0 : Int)), (iq (0 : Int)), (iq (0 : Int)), (iq (0 : Int))])) (zeroOf_to to32) rfl rfl (fun g11 => ?_)
    refine al_as rfl rfl ?_
    refine al_store (i := 0) (vs := ((cA8u8 u8.ID) ++ [(iq u8.Kind), (iq u8.Pack), (iq u8.At), (iq u8.Len)])) (cs' := ((cA8u8 u8.ID) ++ [(iq u8.Kind), (iq u8.Pack), (iq u8.At), (iq u8.Len)])) rfl rfl rfl sz32 (cv_rfl rfl) rfl (co_app (oneA8u8 u8.ID) (co_val rfl (co_val rfl (co_val rfl (co_val rfl co_nil))))) (Nat.le_of_ble_eq_true rfl) rfl rfl ?_
    refine al_nt ?_
    refine aw_seq ?_
    refine aw_sr ?_
    refine al_val (ov_load (i := 0) (v := (ag ((cA8u8 u8.ID) ++ [(iq u8.Kind), (iq u8.Pack), (iq u8.At), (iq u8.Len)]))) rfl rfl Try.underlying32 sz32 rfl rfl rfl rfl) ?_
    obtain ⟨r13, hc12, h⟩ := opt_some h
    refine al_call (vs := [(ag ((cA8u8 u8.ID) ++ [(iq u8.Kind), (iq u8.Pack), (iq u8.At), (iq u8.Len)]))]) (f_lumref_placeErr_ok fu u8 hc12) [] [] [0] pre_nil rfl (by simp) (by decide) (.inl rfl) rfl Try.func64 rfl rfl rfl (fun _ => ?_)
    refine al_as rfl rfl ?_
    refine al_nt ?_
    refine aw_sr ?_
    refine al_mv rfl rfl ?_
    refine al_in rfl rfl rfl rfl ?_
    refine al_nt ?_
    refine aw_cond rfl (fun hb14 => ?_) (fun hb14 => ?_)
    ·replace h := bif_t hb14 h
     refine aw_sr ?_
     refine al_mv rfl rfl ?_
     refine al_as rfl rfl ?_
     refine al_nt ?_
     refine aw_ret ?_
     refine aq_then_ret ?_
     refine aq_block_ret ?_
     refine aq_then_ret ?_
     refine aq_then_ret ?_
     refine aq_block_ret ?_
     refine aq_then_ret ?_
     obtain rfl := Option.some.inj h
     exact fn_ret () [] [] rfl rfl rfl rfl (res1 rfl rfl) rfl rfl rfl (by decide)
    ·replace h := bif_f hb14 h
     refine aw_skip ?_
     refine aq_then ?_
     obtain ⟨kk16, hkk16, h⟩ := lt_some h
     refine aw_seq_join (ι := Bool) (fun i => (memOf w0 Z0 [] [] [(fDat (tyList tyS_api_Place) [v0_0] a0), (fPtr tyS_api_Place p10 u8)])) (fun i => (tab [(0, v0_0), (9, v0_0), (10, (iq (a0.length : Int))), (11, (iq l4i11)), (35, (bool i))])) (fun i => kk16 i = some r) ?_ ?_
     ·rintro j15b35 h
      have h : kk16 j15b35 = some r := h
      rw [hkk16] at h
      dsimp only at h
      clear hkk16
      refine aw_show (m := (memOf w0 Z0 [] [] [(fDat (tyList tyS_api_Place) [v0_0] a0), (fPtr tyS_api_Place p10 u8)])) (S := (tab [(0, v0_0), (9, v0_0), (10, (iq (a0.length : Int))), (11, (iq l4i11)), (35, (bool j15b35))])) ?_
      refine aw_cond rfl (fun hb17 => ?_) (fun hb17 => ?_)
      ·replace h := bif_t hb17 h
       refine aw_sr ?_
       refine al_as rfl rfl ?_
       refine al_nt ?_
       refine aw_ret ?_
       refine aq_block_ret ?_
       refine aq_then_ret ?_
       refine aq_then_ret ?_
       refine aq_block_ret ?_
       refine aq_then_ret ?_
       obtain rfl := Option.some.inj h
       exact fn_ret () [] [] rfl rfl rfl rfl (res1 rfl rfl) rfl rfl rfl (by decide)
      ·replace h := bif_f hb17 h
       refine aw_skip ?_
       refine aq_block ?_
       refine aq_then ?_
       refine aw_region ?_
       refine al_in rfl rfl rfl rfl ?_
       refine al_mv rfl rfl ?_
       refine al_nil ?_
       exact aq_again k5 (wq (l4i11 + (1 : Int))) (Nat.lt_succ_self _) h (fun w a hm hs => norm hm hs [] [0] [(0, v0_0), (9, v0_0), (10, (iq (a0.length : Int))), (11, (iq (wq (l4i11 + (1 : Int)))))] (by decide) ⟨rfl, rfl, rfl, rfl, trivial⟩)
     ·clear hkk16
      refine aw_freezeB 0 (u8) rfl rfl (fun _ _ => mkS_api_Place rfl) ?_
      rcases Bool.eq_false_or_eq_true (decide (l4i11 > (0 : Int))) with hb18 | hb18
      ·replace h := bif_t hb18 h
       obtain ⟨u19, hu20, h⟩ := opt_some h
       refine aw_region_draw 14 [(21, (fun u => fEq u (iq l4i11))), (22, (fun u => fEq u (bool true))), (23, (fun u => fEq u (bool true))), (24, (fun u => fEq u v0_0)), (25, (fun u => fEq u (iq l4i11))), (26, (fun u => fEq u (iq (wq (l4i11 - (1 : Int)))))), (27, (fun p21 => (fPtr tyS_api_Place p21 u19))), (28, (fun p22 => (fPtr tyA8u8 p22 u19.ID))), (29, (fun s23 => (fDat (tyList tyU8) [s23] (lA8u8 u19.ID)))), (30, (fun u => fEq u (str (lA8u8 u19.ID)))), (31, (fun p24 => (fPtr tyA8u8 p24 u8.ID))), (32, (fun s25 => (fDat (tyList tyU8) [s25] (lA8u8 u8.ID)))), (33, (fun u => fEq u (str (lA8u8 u8.ID)))), (34, (fun u => fEq u (bool (!Op.bytesLess (lA8u8 u19.ID) (lA8u8 u8.ID)))))] (tab [(0, v0_0), (3, (iq l4i11)), (4, (pq g11)), (9, v0_0), (10, (iq (a0.length : Int))), (11, (iq l4i11))]) mixed (by kernel_rfl) rfl rfl rfl (fun a hs => hs.tab _ (allT_mem ⟨rfl, rfl, rfl, rfl, rfl, rfl, trivial⟩)) ⟨⟨rfl, ld_val (ov_move rfl rfl)⟩, ⟨rfl, ld_eq (j := 0) rfl rfl (ld_val (ov_cast (by first | rw [hb18] | rfl) (ov_int rfl rfl rfl rfl)))⟩, ⟨rfl, ld_eq (j := 1) rfl rfl (ld_val (ov_cast (by first | rw [hb18] | rfl) (ov_move rfl rfl)))⟩, ⟨rfl, ld_eq (j := 2) rfl rfl (ld_val (ov_move rfl rfl))⟩, ⟨rfl, ld_eq (j := 2) rfl rfl (ld_val (ov_move rfl rfl))⟩, ⟨rfl, ld_eq (j := 2) rfl rfl (ld_eq (j := 4) rfl rfl (ld_val (ov_int rfl rfl rfl rfl)))⟩, ⟨rfl, ld_eq (j := 2) rfl rfl (ld_eq (j := 3) rfl rfl (ld_eq (j := 5) rfl rfl (ld_of (of_idxD 2 hu20 rfl rfl rfl Try.underlying22 sz32 rfl))))⟩, ⟨rfl, ld_eq (j := 2) rfl rfl (ld_fact (j := 6) rfl rfl (fun p21 => ld_of (of_fieldD (pr := fun (y : S_api_Place) => y.ID) 0 rfl subS_api_Place_0 rfl Try.underlying32 rfl sz30 rfl rfl)))⟩, ⟨rfl, ld_eq (j := 2) rfl rfl (ld_fact (j := 7) rfl rfl (fun p22 => ld_of (of_sliceP 0 lrepA8u8 rfl rfl rfl rfl Try.underlying30 sz5 rfl)))⟩, ⟨rfl, ld_eq (j := 2) rfl rfl (ld_fact (j := 8) rfl rfl (fun s23 => ld_val (ov_toStr 0 rfl rfl Try.underlying127 Try.underlying5 Try.underlying9 rfl)))⟩, ⟨rfl, ld_eq (j := 2) rfl rfl (ld_of (of_fieldD (pr := fun (y : S_api_Place) => y.ID) 0 rfl subS_api_Place_0 rfl Try.underlying32 rfl sz30 rfl rfl))⟩, ⟨rfl, ld_eq (j := 2) rfl rfl (ld_fact (j := 10) rfl rfl (fun p24 => ld_of (of_sliceP 0 lrepA8u8 rfl rfl rfl rfl Try.underlying30 sz5 rfl)))⟩, ⟨rfl, ld_eq (j := 2) rfl rfl (ld_fact (j := 11) rfl rfl (fun s25 => ld_val (ov_toStr 0 rfl rfl Try.underlying127 Try.underlying5 Try.underlying9 rfl)))⟩, ⟨rfl, ld_eq (j := 2) rfl rfl (ld_eq (j := 9) rfl rfl (ld_eq (j := 12) rfl rfl (ld_val (ov_strCmp rfl rfl rfl rfl))))⟩, trivial⟩ ?_
       refine tl_eq 2 rfl ?_
       refine tl_eq 13 rfl ?_
       refine tl_done ?_
       refine al_val (ov_pick_t rfl rfl rfl) ?_
       refine al_nil ?_
       exact aq_join (!Op.bytesLess (lA8u8 u19.ID) (lA8u8 u8.ID)) h (fun w a hm hs => norm hm hs [] [2, 1] [(0, v0_0), (9, v0_0), (10, (iq (a0.length : Int))), (11, (iq l4i11)), (35, (bool (!Op.bytesLess (lA8u8 u19.ID) (lA8u8 u8.ID))))] (by decide) ⟨rfl, rfl, rfl, rfl, rfl, trivial⟩)
      ·replace h := bif_f hb18 h
       refine aw_region_draw 14 [(21, (fun u => fEq u (iq l4i11))), (22, (fun u => fEq u (bool false))), (23, (fun u => fEq u (bool false))), (24, (fun u => fEq u undef)), (25, (fun u => fEq u undef)), (26, (fun u => fEq u undef)), (27, (fun u => fEq u undef)), (28, (fun u => fEq u undef)), (29, (fun u => fEq u undef)), (30, (fun u => fEq u undef)), (31, (fun u => fEq u undef)), (32, (fun u => fEq u undef)), (33, (fun u => fEq u undef)), (34, (fun u => fEq u undef))] (tab [(0, v0_0), (3, (iq l4i11)), (4, (pq g11)), (9, v0_0), (10, (iq (a0.length : Int))), (11, (iq l4i11))]) mixed (by kernel_rfl) rfl rfl rfl (fun a hs => hs.tab _ (allT_mem ⟨rfl, rfl, rfl, rfl, rfl, rfl, trivial⟩)) ⟨⟨rfl, ld_val (ov_move rfl rfl)⟩, ⟨rfl, ld_eq (j := 0) rfl rfl (ld_val (ov_cast (by first | rw [hb18] | rfl) (ov_int rfl rfl rfl rfl)))⟩, ⟨rfl, ld_eq (j := 1) rfl rfl (ld_val (ov_cast (by first | rw [hb18] | rfl) (ov_move rfl rfl)))⟩, ⟨rfl, ld_eq (j := 2) rfl rfl (ld_skip)⟩, ⟨rfl, ld_eq (j := 2) rfl rfl (ld_skip)⟩, ⟨rfl, ld_eq (j := 2) rfl rfl (ld_skip)⟩, ⟨rfl, ld_eq (j := 2) rfl rfl (ld_skip)⟩, ⟨rfl, ld_eq (j := 2) rfl rfl (ld_skip)⟩, ⟨rfl, ld_eq (j := 2) rfl rfl (ld_skip)⟩, ⟨rfl, ld_eq (j := 2) rfl rfl (ld_skip)⟩, ⟨rfl, ld_eq (j := 2) rfl rfl (ld_skip)⟩, ⟨rfl, ld_eq (j := 2) rfl rfl (ld_skip)⟩, ⟨rfl, ld_eq (j := 2) rfl rfl (ld_skip)⟩, ⟨rfl, ld_eq (j := 2) rfl rfl (ld_skip)⟩, trivial⟩ ?_
       refine tl_eq 2 rfl ?_
       refine tl_eq 13 rfl ?_
       refine tl_done ?_
       refine al_val (ov_pick_f rfl rfl rfl) ?_
       refine al_nil ?_
       exact aq_join false h (fun w a hm hs => norm hm hs [] [2, 1] [(0, v0_0), (9, v0_0), (10, (iq (a0.length : Int))), (11, (iq l4i11)), (35, (bool false))] (by decide) ⟨rfl, rfl, rfl, rfl, rfl, trivial⟩)
   ·replace h := bif_f hb7 h
    refine aw_exit ?_
    refine aq_then_exit ?_
    refine aq_then_exit ?_
    refine aq_block_exit ?_
    exact aq_join () h (fun w a hm hs => norm hm hs [] [0] [] (by decide) trivial)
def f_slices_Compare___int_int__L6 (a0 : (List Int)) (a1 : (List Int)) (kk2 : (Unit → Option Int)) (fu : Nat) : Nat → Int → Option Int
  | 0, _ => none
  | k5 + 1, l4i11 => (bif (decide (l4i11 < (a0.length : Int))) then (opt (at? a0 l4i11) fun (u8 : Int) => (bif (decide (l4i11 ≥ (a1.length : Int))) then (some (1 : Int)) else (opt (at? a1 l4i11) fun (u12 : Int) => (opt (f_cmp_Compare_int_ fu u8 u12) fun (r16 : Int) => (bif (r16 != (0 : Int)) then (some r16) else (f_slices_Compare___int_int__L6 a0 a1 kk2 fu k5 (IntKind.i64.wrap (l4i11 + (1 : Int))))))))) else (kk2 ()))
def f_slices_Compare___int_int_ (fu : Nat) (a0 : (List Int)) (a1 : (List Int)) : Option Int := (lt (fun (_ : Unit) => (bif (decide ((a0.length : Int) < (a1.length : Int))) then (some (-1 : Int)) else (some (0 : Int)))) fun (kk2 : Unit → Option Int) => (f_slices_Compare___int_int__L6 a0 a1 kk2 fu fu (0 : Int)))
set_option maxHeartbeats 2000000 in
set_option maxRecDepth 100000 in
theorem f_slices_Compare___int_int__ok (fu : Nat) (v0_0 : Value) (a0 : (List Int)) (v1_0 : Value) (a1 : (List Int)) {r : Int} (h : f_slices_Compare___int_int_ fu a0 a1 = some r) : FnOk Try.prog 168 [v0_0, v1_0] [(fDat (tyList (tyInt .i64)) [v0_0] a0), (fDat (tyList (tyInt .i64)) [v1_0] a1)] [] (fun (i : Unit) => { val := (int .i64 r) }) := by
 unfold f_slices_Compare___int_int_ at h
 refine fn_enter Try.func168 rfl Try.ntmps168 rfl (fun w0 Z0 => ?_)
 refine aw_sr ?_
 refine al_as rfl rfl ?_
 refine al_nt ?_
 obtain ⟨kk2, hkk2, h⟩ := lt_some h
 refine aw_seq_join (ι := Unit) (fun i => (memOf w0 Z0 [] [] [(fDat (tyList tq) [v0_0] a0), (fDat (tyList tq) [v1_0] a1)])) (fun i => (tab [(0, v0_0), (1, v1_0)])) (fun i => kk2 () = some r) ?_ ?_
 ·rintro _ h
  have h : kk2 () = some r := h
  rw [hkk2] at h
  dsimp only at h
  clear hkk2
  refine aw_show (m := (memOf w0 Z0 [] [] [(fDat (tyList tq) [v0_0] a0), (fDat (tyList tq) [v1_0] a1)])) (S := (tab [(0, v0_0), (1, v1_0)])) ?_
  refine aw_seq ?_
  refine aw_sr ?_
  refine al_mv rfl rfl ?_
  refine al_val (ov_lenD 0 rfl rfl Try.underlying49 rfl) ?_
  refine al_mv rfl rfl ?_
  refine al_val (ov_lenD 1 rfl rfl Try.underlying49 rfl) ?_
  refine al_in rfl rfl rfl rfl ?_
  refine al_nt ?_
  refine aw_cond rfl (fun hb3 => ?_) (fun hb3 => ?_)
  ·replace h := bif_t hb3 h
   refine aw_sr ?_
   refine al_as rfl rfl ?_
   refine al_nt ?_
   refine aw_ret ?_
   refine aq_then_ret ?_
   obtain rfl := Option.some.inj h
   exact fn_ret () [] [] rfl rfl rfl rfl (res1 rfl rfl) rfl rfl rfl (by decide)
  ·replace h := bif_f hb3 h
   refine aw_skip ?_
   refine aq_tr ?_
   refine al_as rfl rfl ?_
   refine al_nt ?_
   refine aw_ret ?_
   obtain rfl := Option.some.inj h
   exact fn_ret () [] [] rfl rfl rfl rfl (res1 rfl rfl) rfl rfl rfl (by decide)
 ·clear hkk2
  refine aw_sr ?_
  refine al_mv rfl rfl ?_
  refine al_val (ov_lenD 0 rfl rfl Try.underlying49 rfl) ?_
  refine al_mv rfl rfl ?_
  refine al_nt ?_
  refine aw_block ?_
  refine aw_state (aw_loop (ι := Int) (fun i => (memOf w0 Z0 [] [] [(fDat (tyList tq) [v0_0] a0), (fDat (tyList tq) [v1_0] a1)])) (fun i => (tab [(0, v0_0), (1, v1_0), (9, v0_0), (10, (iq (a0.length : Int))), (11, (iq i))])) (fun q i => f_slices_Compare___int_int__L6 a0 a1 kk2 fu q i = some r) ?_ fu (0 : Int) h) (fun w a hm hs => norm hm hs [] [0, 1] [(0, v0_0), (1, v1_0), (9, v0_0), (10, (iq (a0.length : Int))), (11, (iq (0 : Int)))] (by decide) ⟨rfl, rfl, rfl, rfl, rfl, trivial⟩)
  clear h
  rintro k5 l4i11 h
  have h : f_slices_Compare___int_int__L6 a0 a1 kk2 fu k5 l4i11 = some r := h
  obtain _ | k5 := k5
  · rw [f_slices_Compare___int_int__L6] at h; cases h
  rw [f_slices_Compare___int_int__L6] at h
  refine aw_show (m := (memOf w0 Z0 [] [] [(fDat (tyList tq) [v0_0] a0), (fDat (tyList tq) [v1_0] a1)])) (S := (tab [(0, v0_0), (1, v1_0), (9, v0_0), (10, (iq (a0.length : Int))), (11, (iq l4i11))])) ?_
  refine aw_sr ?_
  refine al_in rfl rfl rfl rfl ?_
  refine al_nt ?_
  refine aw_seq ?_
  refine aw_cond rfl (fun hb7 => ?_) (fun hb7 => ?_)
  ·replace h := bif_t hb7 h
   refine aw_skip ?_
   refine aq_then ?_
   refine aw_seq ?_
   refine aw_block ?_
   refine aw_sr ?_
   refine al_mv rfl rfl ?_
   obtain ⟨u8, hu9, h⟩ := opt_some h
   refine al_idxD 0 hu9 rfl rfl rfl Try.underlying49 sz3 rfl (fun p10 => ?_)
   refine al_val (ov_loadP (ds := [(iq u8)]) 0 rfl (fun h => h) rfl Try.underlying3 sz3 rfl rfl rfl) ?_
   refine al_as rfl rfl ?_
   refine al_as rfl rfl ?_
   refine al_nt ?_
   refine aw_seq ?_
   refine aw_sr ?_
   refine al_mv rfl rfl ?_
   refine al_mv rfl rfl ?_
   refine al_val (ov_lenD 2 rfl rfl Try.underlying49 rfl) ?_
   refine al_in rfl rfl rfl rfl ?_
   refine al_nt ?_
   refine aw_cond rfl (fun hb11 => ?_) (fun hb11 => ?_)
   ·replace h := bif_t hb11 h
    refine aw_sr ?_
    refine al_as rfl rfl ?_
    refine al_nt ?_
    refine aw_ret ?_
    refine aq_then_ret ?_
    refine aq_block_ret ?_
    refine aq_then_ret ?_
    refine aq_then_ret ?_
    refine aq_block_ret ?_
    refine aq_then_ret ?_
    obtain rfl := Option.some.inj h
    exact fn_ret () [] [] rfl rfl rfl rfl (res1 rfl rfl) rfl rfl rfl (by decide)
   ·replace h := bif_f hb11 h
    refine aw_skip ?_
    refine aq_tr ?_
    refine al_mv rfl rfl ?_
    refine al_mv rfl rfl ?_
    obtain ⟨u12, hu13, h⟩ := opt_some h
    refine al_idxD 2 hu13 rfl rfl rfl Try.underlying49 sz3 rfl (fun p14 => ?_)
    refine al_val (ov_loadP (ds := [(iq u12)]) 0 rfl (fun h => h) rfl Try.underlying3 sz3 rfl rfl rfl) ?_
    refine al_as rfl rfl ?_
    refine al_nt ?_
    refine aw_sr ?_
    refine al_mv rfl rfl ?_
    refine al_mv rfl rfl ?_
    obtain ⟨r16, hc15, h⟩ := opt_some h
    refine al_call (vs := [(iq u8), (iq u12)]) (f_cmp_Compare_int__ok fu u8 u12 hc15) [] [] [] pre_nil rfl (by simp) (by decide) (.inl rfl) rfl Try.func103 rfl rfl rfl (fun _ => ?_)
    refine al_as rfl rfl ?_
    refine al_nt ?_
    refine aw_sr ?_
    refine al_mv rfl rfl ?_
    refine al_in rfl rfl rfl rfl ?_
    refine al_nt ?_
    refine aw_cond rfl (fun hb17 => ?_) (fun hb17 => ?_)
    ·replace h := bif_t hb17 h
     refine aw_sr ?_
     refine al_mv rfl rfl ?_
     refine al_as rfl rfl ?_
     refine al_nt ?_
     refine aw_ret ?_
     refine aq_block_ret ?_
     refine aq_then_ret ?_
     refine aq_then_ret ?_
     refine aq_block_ret ?_
     refine aq_then_ret ?_
     obtain rfl := Option.some.inj h
     exact fn_ret () [] [] rfl rfl rfl rfl (res1 rfl rfl) rfl rfl rfl (by decide)
    ·replace h := bif_f hb17 h
     refine aw_skip ?_
     refine aq_block ?_
     refine aq_then ?_
     refine aw_region ?_
     refine al_in rfl rfl rfl rfl ?_
     refine al_mv rfl rfl ?_
     refine al_nil ?_
     exact aq_again k5 (wq (l4i11 + (1 : Int))) (Nat.lt_succ_self _) h (fun w a hm hs => norm hm hs [] [2, 3] [(0, v0_0), (1, v1_0), (9, v0_0), (10, (iq (a0.length : Int))), (11, (iq (wq (l4i11 + (1 : Int)))))] (by decide) ⟨rfl, rfl, rfl, rfl, rfl, trivial⟩)
  ·replace h := bif_f hb7 h
   refine aw_exit ?_
   refine aq_then_exit ?_
   refine aq_then_exit ?_
   refine aq_block_exit ?_
   exact aq_join () h (fun w a hm hs => norm hm hs [] [0, 1] [(0, v0_0), (1, v1_0)] (by decide) ⟨rfl, rfl, trivial⟩)
def f_lumref_smaller (fu : Nat) (a0 : S_api_Place) (a1 : S_api_Place) : Option Bool := (opt (f_slices_Compare___int_int_ fu ([a0.Pack, a0.At, a0.Len, a0.Kind]) ([a1.Pack, a1.At, a1.Len, a1.Kind])) fun (r6 : Int) => (some (decide (r6 < (0 : Int)))))
set_option maxHeartbeats 2000000 in
set_option maxRecDepth 100000 in
theorem f_lumref_smaller_ok (fu : Nat) (a0 : S_api_Place) (a1 : S_api_Place) {r : Bool} (h : f_lumref_smaller fu a0 a1 = some r) : FnOk Try.prog 130 [(ag ((cA8u8 a0.ID) ++ [(int .i64 a0.Kind), (int .i64 a0.Pack), (int .i64 a0.At), (int .i64 a0.Len)])), (ag ((cA8u8 a1.ID) ++ [(int .i64 a1.Kind), (int .i64 a1.Pack), (int .i64 a1.At), (int .i64 a1.Len)]))] [] [] (fun (i : Unit) => { val := (bool r) }) := by
 unfold f_lumref_smaller at h
 refine fn_enter Try.func130 rfl Try.ntmps130 rfl (fun w0 Z0 => ?_)
 refine aw_sr ?_
 refine al_box (vs := ((cA8u8 a0.ID) ++ [(iq a0.Kind), (iq a0.Pack), (iq a0.At), (iq a0.Len)])) rfl (cv_rfl rfl) rfl (fun g1 => ?_)
 refine al_box (vs := ((cA8u8 a1.ID) ++ [(iq a1.Kind), (iq a1.Pack), (iq a1.At), (iq a1.Len)])) rfl (cv_rfl rfl) rfl (fun g2 => ?_)
 refine al_as rfl rfl ?_
 refine al_nt ?_
 refine aw_sr ?_
 refine al_val (ov_fieldA (p := 9) rfl Try.underlying32 rfl sz3 rfl rfl rfl) ?_
 refine al_val (ov_load (i := 1) (v := (iq a0.Pack)) rfl rfl Try.underlying3 sz3 rfl rfl rfl rfl) ?_
 refine al_val (ov_fieldA (p := 10) rfl Try.underlying32 rfl sz3 rfl rfl rfl) ?_
 refine al_val (ov_load (i := 1) (v := (iq a0.At)) rfl rfl Try.underlying3 sz3 rfl rfl rfl rfl) ?_
 refine al_val (ov_fieldA (p := 11) rfl Try.underlying32 rfl sz3 rfl rfl rfl) ?_
 refine al_val (ov_load (i := 1) (v := (iq a0.Len)) rfl rfl Try.underlying3 sz3 rfl rfl rfl rfl) ?_
 refine al_val (ov_fieldA (p := 8) rfl Try.underlying32 rfl sz3 rfl rfl rfl) ?_
 refine al_val (ov_load (i := 1) (v := (iq a0.Kind)) rfl rfl Try.underlying3 sz3 rfl rfl rfl rfl) ?_
 refine al_buildSlice (τ := tq) (e := 3) (k := 4) (sz := 0) (by_ := 0) (z := undef) (cs := [(iq a0.Pack), (iq a0.At), (iq a0.Len), (iq a0.Kind)]) (xs := [a0.Pack, a0.At, a0.Len, a0.Kind]) rfl (by decide) (fun w a hm hs => ⟨([(iq a0.Pack), (iq a0.At), (iq a0.Len), (iq a0.Kind)]).toArray, rfl, by simp only [List.map_toArray, List.map_cons, List.map_nil, hs.ev (x := .tmp 6) rfl, hs.ev (x := .tmp 8) rfl, hs.ev (x := .tmp 10) rfl, hs.ev (x := .tmp 12) rfl]; exact run_bs [(iq a0.Pack), (iq a0.At), (iq a0.Len), (iq a0.Kind)] [(iq a0.Pack), (iq a0.At), (iq a0.Len), (iq a0.Kind)] Try.underlying49 to3 rfl rfl (bs_cons (l := [(iq a0.Pack)]) (cs := [(iq a0.At), (iq a0.Len), (iq a0.Kind)]) (cv_rfl rfl) rfl (bs_cons (l := [(iq a0.At)]) (cs := [(iq a0.Len), (iq a0.Kind)]) (cv_rfl rfl) rfl (bs_cons (l := [(iq a0.Len)]) (cs := [(iq a0.Kind)]) (cv_rfl rfl) rfl (bs_cons (l := [(iq a0.Kind)]) (cs := []) (cv_rfl rfl) rfl bs_nil)))) hm⟩) (fun hm => ⟨_, _, rfl, (fun _ => rfl) hm, ⟨_, _, rfl, (fun _ => rfl) hm, ⟨_, _, rfl, (fun _ => rfl) hm, ⟨_, _, rfl, (fun _ => rfl) hm, rfl⟩⟩⟩⟩) rfl (fun v3 => ?_)
 refine al_val (ov_fieldA (p := 9) rfl Try.underlying32 rfl sz3 rfl rfl rfl) ?_
 refine al_val (ov_load (i := 1) (v := (iq a1.Pack)) rfl rfl Try.underlying3 sz3 rfl rfl rfl rfl) ?_
 refine al_val (ov_fieldA (p := 10) rfl Try.underlying32 rfl sz3 rfl rfl rfl) ?_
 refine al_val (ov_load (i := 1) (v := (iq a1.At)) rfl rfl Try.underlying3 sz3 rfl rfl rfl rfl) ?_
 refine al_val (ov_fieldA (p := 11) rfl Try.underlying32 rfl sz3 rfl rfl rfl) ?_
 refine al_val (ov_load (i := 1) (v := (iq a1.Len)) rfl rfl Try.underlying3 sz3 rfl rfl rfl rfl) ?_
 refine al_val (ov_fieldA (p := 8) rfl Try.underlying32 rfl sz3 rfl rfl rfl) ?_
 refine al_val (ov_load (i := 1) (v := (iq a1.Kind)) rfl rfl Try.underlying3 sz3 rfl rfl rfl rfl) ?_
 refine al_buildSlice (τ := tq) (e := 3) (k := 4) (sz := 0) (by_ := 0) (z := undef) (cs := [(iq a1.Pack), (iq a1.At), (iq a1.Len), (iq a1.Kind)]) (xs := [a1.Pack, a1.At, a1.Len, a1.Kind]) rfl (by decide) (fun w a hm hs => ⟨([(iq a1.Pack), (iq a1.At), (iq a1.Len), (iq a1.Kind)]).toArray, rfl, by simp only [List.map_toArray, List.map_cons, List.map_nil, hs.ev (x := .tmp 15) rfl, hs.ev (x := .tmp 17) rfl, hs.ev (x := .tmp 19) rfl, hs.ev (x := .tmp 21) rfl]; exact run_bs [(iq a1.Pack), (iq a1.At), (iq a1.Len), (iq a1.Kind)] [(iq a1.Pack), (iq a1.At), (iq a1.Len), (iq a1.Kind)] Try.underlying49 to3 rfl rfl (bs_cons (l := [(iq a1.Pack)]) (cs := [(iq a1.At), (iq a1.Len), (iq a1.Kind)]) (cv_rfl rfl) rfl (bs_cons (l := [(iq a1.At)]) (cs := [(iq a1.Len), (iq a1.Kind)]) (cv_rfl rfl) rfl (bs_cons (l := [(iq a1.Len)]) (cs := [(iq a1.Kind)]) (cv_rfl rfl) rfl (bs_cons (l := [(iq a1.Kind)]) (cs := []) (cv_rfl rfl) rfl bs_nil)))) hm⟩) (fun hm => ⟨_, _, rfl, (fun _ => rfl) hm, ⟨_, _, rfl, (fun _ => rfl) hm, ⟨_, _, rfl, (fun _ => rfl) hm, ⟨_, _, rfl, (fun _ => rfl) hm, rfl⟩⟩⟩⟩) rfl (fun v4 => ?_)
 obtain ⟨r6, hc5, h⟩ := opt_some h
 refine al_call (vs := [v3, v4]) (f_slices_Compare___int_int__ok fu v3 ([a0.Pack, a0.At, a0.Len, a0.Kind]) v4 ([a1.Pack, a1.At, a1.Len, a1.Kind]) hc5) [0, 1] [] [0, 1, 2, 3] (pre_own 1 rfl rfl (pre_own 0 rfl rfl pre_nil)) rfl (by simp) (by decide) (.inr flat_res0) rfl Try.func168 rfl rfl rfl (fun _ => ?_)
 refine al_in rfl rfl rfl rfl ?_
 refine al_as rfl rfl ?_
 refine al_nt ?_
 refine aw_ret ?_
 obtain rfl := Option.some.inj h
 exact fn_ret () [] [] rfl rfl rfl rfl (res1 rfl rfl) rfl rfl rfl (by decide)
def f_lumref_put_L12 (a0 : (List S_api_Place)) (kk3 : (A8u8 → Int → Int → Int → Int → (List S_api_Place) → Bool → Option (List S_api_Place))) (fu : Nat) : Nat → A8u8 → Int → Int → Int → Int → (List S_api_Place) → Bool → Int → Option (List S_api_Place)
  | 0, _, _, _, _, _, _, _, _ => none
  | k11 + 1, l10A3_0, l10i3_1, l10i3_2, l10i3_3, l10i3_4, l10x5, l10b6, l10i11 => (bif (decide (l10i11 < (a0.length : Int))) then (lt (fun (j14A3_0 : A8u8) (j14i3_1 : Int) (j14i3_2 : Int) (j14i3_3 : Int) (j14i3_4 : Int) (j14x5 : (List S_api_Place)) (j14b6 : Bool) => (f_lumref_put_L12 a0 kk3 fu k11 j14A3_0 j14i3_1 j14i3_2 j14i3_3 j14i3_4 j14x5 j14b6 (IntKind.i64.wrap (l10i11 + (1 : Int))))) fun (kk15 : A8u8 → Int → Int → Int → Int → (List S_api_Place) → Bool → Option (List S_api_Place)) => (opt (at? a0 l10i11) fun (u16 : S_api_Place) => (lt (fun (j20x5 : (List S_api_Place)) (j20b6 : Bool) => (req (((j20x5.length + ([u16]).length) * 40 : Nat) ≤ 140737488355328 ∧ j20x5.length + ([u16]).length ≤ 9223372036854775807) (kk15 l10A3_0 l10i3_1 l10i3_2 l10i3_3 l10i3_4 (j20x5 ++ ([u16])) j20b6))) fun (kk21 : (List S_api_Place) → Bool → Option (List S_api_Place)) => (lt (fun (j25b25 : Bool) => (bif j25b25 then (bif (l10A3_0 == u16.ID) then (lt (fun (j29A3_0 : A8u8) (j29i3_1 : Int) (j29i3_2 : Int) (j29i3_3 : Int) (j29i3_4 : Int) => (req (((l10x5.length + ([(S_api_Place.mk j29A3_0 j29i3_1 j29i3_2 j29i3_3 j29i3_4)]).length) * 40 : Nat) ≤ 140737488355328 ∧ l10x5.length + ([(S_api_Place.mk j29A3_0 j29i3_1 j29i3_2 j29i3_3 j29i3_4)]).length ≤ 9223372036854775807) (kk15 j29A3_0 j29i3_1 j29i3_2 j29i3_3 j29i3_4 (l10x5 ++ ([(S_api_Place.mk j29A3_0 j29i3_1 j29i3_2 j29i3_3 j29i3_4)])) true))) fun (kk30 : A8u8 → Int → Int → Int → Int → Option (List S_api_Place)) => (opt (f_lumref_smaller fu u16 (S_api_Place.mk l10A3_0 l10i3_1 l10i3_2 l10i3_3 l10i3_4)) fun (r35 : Bool) => (bif r35 then (kk30 u16.ID u16.Kind u16.Pack u16.At u16.Len) else (kk30 l10A3_0 l10i3_1 l10i3_2 l10i3_3 l10i3_4)))) else (req (((l10x5.length + ([(S_api_Place.mk l10A3_0 l10i3_1 l10i3_2 l10i3_3 l10i3_4)]).length) * 40 : Nat) ≤ 140737488355328 ∧ l10x5.length + ([(S_api_Place.mk l10A3_0 l10i3_1 l10i3_2 l10i3_3 l10i3_4)]).length ≤ 9223372036854775807) (kk21 (l10x5 ++ ([(S_api_Place.mk l10A3_0 l10i3_1 l10i3_2 l10i3_3 l10i3_4)])) true))) else (kk21 l10x5 l10b6))) fun (kk26 : Bool → Option (List S_api_Place)) => (bif (!l10b6) then (kk26 (Op.bytesLess (lA8u8 l10A3_0) (lA8u8 u16.ID) || (lA8u8 l10A3_0) == (lA8u8 u16.ID))) else (kk26 false)))))) else (kk3 l10A3_0 l10i3_1 l10i3_2 l10i3_3 l10i3_4 l10x5 l10b6))
def f_lumref_put (fu : Nat) (a0 : (List S_api_Place)) (a1 : S_api_Place) : Option (List S_api_Place) := (lt (fun (j2A3_0 : A8u8) (j2i3_1 : Int) (j2i3_2 : Int) (j2i3_3 : Int) (j2i3_4 : Int) (j2x5 : (List S_api_Place)) (j2b6 : Bool) => (lt (fun (j4x5 : (List S_api_Place)) => (some j4x5)) fun (kk5 : (List S_api_Place) → Option (List S_api_Place)) => (bif (!j2b6) then (req (((j2x5.length + ([(S_api_Place.mk j2A3_0 j2i3_1 j2i3_2 j2i3_3 j2i3_4)]).length) * 40 : Nat) ≤ 140737488355328 ∧ j2x5.length + ([(S_api_Place.mk j2A3_0 j2i3_1 j2i3_2 j2i3_3 j2i3_4)]).length ≤ 9223372036854775807) (kk5 (j2x5 ++ ([(S_api_Place.mk j2A3_0 j2i3_1 j2i3_2 j2i3_3 j2i3_4)])))) else (kk5 j2x5)))) fun (kk3 : A8u8 → Int → Int → Int → Int → (List S_api_Place) → Bool → Option (List S_api_Place)) => (f_lumref_put_L12 a0 kk3 fu fu a1.ID a1.Kind a1.Pack a1.At a1.Len ([] : List S_api_Place) false (0 : Int)))
set_option maxHeartbeats 2000000 in
set_option maxRecDepth 100000 in
theorem f_lumref_put_ok (fu : Nat) (v0_0 : Value) (a0 : (List S_api_Place)) (a1 : S_api_Place) {r : (List S_api_Place)} (h : f_lumref_put fu a0 a1 = some r) : FnOk Try.prog 61 [v0_0, (ag ((cA8u8 a1.ID) ++ [(int .i64 a1.Kind), (int .i64 a1.Pack), (int .i64 a1.At), (int .i64 a1.Len)]))] [(fDat (tyList tyS_api_Place) [v0_0] a0)] [] (fun (i : Value) => { val := i, own := [(oRow i 32 tyS_api_Place r)] }) := by
 unfold f_lumref_put at h
 refine fn_enter Try.func61 rfl Try.ntmps61 rfl (fun w0 Z0 => ?_)
 refine aw_sr ?_
 refine al_box (vs := ((cA8u8 a1.ID) ++ [(iq a1.Kind), (iq a1.Pack), (iq a1.At), (iq a1.Len)])) rfl (cv_rfl rfl) rfl (fun g1 => ?_)
 refine al_as rfl rfl ?_
 refine al_nt ?_
 refine aw_sr ?_
 refine al_as rfl rfl ?_
 refine al_nt ?_
 refine aw_sr ?_
 refine al_as rfl rfl ?_
 refine al_nt ?_
 obtain ⟨kk3, hkk3, h⟩ := lt_some h
 refine aw_seq_join (ι := A8u8 × Int × Int × Int × Int × Value × (List S_api_Place) × Bool) (fun i => (memOf w0 Z0 [] [(oBox g1 32 ((cA8u8 i.1) ++ [(iq i.2.1), (iq i.2.2.1), (iq i.2.2.2.1), (iq i.2.2.2.2.1)])), (oRow i.2.2.2.2.2.1 32 tyS_api_Place i.2.2.2.2.2.2.1)] [(fDat (tyList tyS_api_Place) [v0_0] a0)])) (fun i => (tab [(3, (pq g1)), (5, i.2.2.2.2.2.1), (6, (bool i.2.2.2.2.2.2.2))])) (fun i => kk3 i.1 i.2.1 i.2.2.1 i.2.2.2.1 i.2.2.2.2.1 i.2.2.2.2.2.2.1 i.2.2.2.2.2.2.2 = some r) ?_ ?_
 ·rintro ⟨j2A3_0, j2i3_1, j2i3_2, j2i3_3, j2i3_4, j2v5, j2x5, j2b6⟩ h
  have h : kk3 j2A3_0 j2i3_1 j2i3_2 j2i3_3 j2i3_4 j2x5 j2b6 = some r := h
  rw [hkk3] at h
  dsimp only at h
  clear hkk3
  refine aw_show (m := (memOf w0 Z0 [] [(oBox g1 32 ((cA8u8 j2A3_0) ++ [(iq j2i3_1), (iq j2i3_2), (iq j2i3_3), (iq j2i3_4)])), (oRow j2v5 32 tyS_api_Place j2x5)] [(fDat (tyList tyS_api_Place) [v0_0] a0)])) (S := (tab [(3, (pq g1)), (5, j2v5), (6, (bool j2b6))])) ?_
  obtain ⟨kk5, hkk5, h⟩ := lt_some h
  refine aw_seq_join (ι := Value × (List S_api_Place)) (fun i => (memOf w0 Z0 [] [(oRow i.1 32 tyS_api_Place i.2)] [(fDat (tyList tyS_api_Place) [v0_0] a0)])) (fun i => (tab [(5, i.1)])) (fun i => kk5 i.2 = some r) ?_ ?_
  ·rintro ⟨j4v5, j4x5⟩ h
   have h : kk5 j4x5 = some r := h
   rw [hkk5] at h
   dsimp only at h
   clear hkk5
   refine aw_show (m := (memOf w0 Z0 [] [(oRow j4v5 32 tyS_api_Place j4x5)] [(fDat (tyList tyS_api_Place) [v0_0] a0)])) (S := (tab [(5, j4v5)])) ?_
   refine aw_sr ?_
   refine al_mv rfl rfl ?_
   refine al_as rfl rfl ?_
   refine al_nt ?_
   refine aw_ret ?_
   obtain rfl := Option.some.inj h
   exact fn_ret j4v5 [0] [] rfl rfl rfl rfl (res1 rfl rfl) rfl rfl rfl (by decide)
  ·clear hkk5
   refine aw_sr ?_
   refine al_mv rfl rfl ?_
   refine al_val (ov_not rfl rfl) ?_
   refine al_nt ?_
   refine aw_cond rfl (fun hb6 => ?_) (fun hb6 => ?_)
   ·replace h := bif_t hb6 h
    refine aw_region ?_
    refine al_mv rfl rfl ?_
    refine al_val (ov_load (i := 0) (v := (ag ((cA8u8 j2A3_0) ++ [(iq j2i3_1), (iq j2i3_2), (iq j2i3_3), (iq j2i3_4)]))) rfl rfl Try.underlying32 sz32 rfl rfl rfl rfl) ?_
    refine al_buildSlice (τ := tyS_api_Place) (e := 32) (k := 1) (sz := 0) (by_ := 0) (z := undef) (cs := ((cA8u8 j2A3_0) ++ [(iq j2i3_1), (iq j2i3_2), (iq j2i3_3), (iq j2i3_4)])) (xs := [(S_api_Place.mk j2A3_0 j2i3_1 j2i3_2 j2i3_3 j2i3_4)]) rfl (by decide) (fun w a hm hs => ⟨(((cA8u8 j2A3_0) ++ [(iq j2i3_1), (iq j2i3_2), (iq j2i3_3), (iq j2i3_4)])).toArray, rfl, by simp only [List.map_toArray, List.map_cons, List.map_nil, hs.ev (x := .tmp 51) rfl]; exact run_bs [(ag ((cA8u8 j2A3_0) ++ [(iq j2i3_1), (iq j2i3_2), (iq j2i3_3), (iq j2i3_4)]))] ((cA8u8 j2A3_0) ++ [(iq j2i3_1), (iq j2i3_2), (iq j2i3_3), (iq j2i3_4)]) Try.underlying22 to32 rfl rfl (bs_cons (l := ((cA8u8 j2A3_0) ++ [(iq j2i3_1), (iq j2i3_2), (iq j2i3_3), (iq j2i3_4)])) (cs := []) (cv_rfl rfl) rfl bs_nil) hm⟩) (fun hm => ⟨((cA8u8 j2A3_0) ++ [(iq j2i3_1), (iq j2i3_2), (iq j2i3_3), (iq j2i3_4)]), [], rfl, mkS_api_Place rfl, rfl⟩) rfl (fun v7 => ?_)
    obtain ⟨hc8, h⟩ := req_some h
    refine al_append 2 hc8.1 hc8.2 rfl (src_own (i := 2) 0 rfl) rfl rfl Try.underlying22 to32 rfl rfl rfl (fun v9 => ?_)
    refine al_as rfl rfl ?_
    refine al_nil ?_
    exact aq_join (v9, (j2x5 ++ ([(S_api_Place.mk j2A3_0 j2i3_1 j2i3_2 j2i3_3 j2i3_4)]))) h (fun w a hm hs => norm hm hs [2] [0] [(5, v9)] (by decide) ⟨rfl, trivial⟩)
   ·replace h := bif_f hb6 h
    refine aw_skip ?_
    exact aq_join (j2v5, j2x5) h (fun w a hm hs => norm hm hs [1] [0] [(5, j2v5)] (by decide) ⟨rfl, trivial⟩)
 ·clear hkk3
  refine aw_sr ?_
  refine al_mv rfl rfl ?_
  refine al_val (ov_lenD 0 rfl rfl Try.underlying22 rfl) ?_
  refine al_mv rfl rfl ?_
  refine al_nt ?_
  refine aw_block ?_
  refine aw_nilR 32 tyS_api_Place ?_
  refine aw_state (aw_loop (ι := A8u8 × Int × Int × Int × Int × Value × (List S_api_Place) × Bool × Int) (fun i => (memOf w0 Z0 [] [(oBox g1 32 ((cA8u8 i.1) ++ [(iq i.2.1), (iq i.2.2.1), (iq i.2.2.2.1), (iq i.2.2.2.2.1)])), (oRow i.2.2.2.2.2.1 32 tyS_api_Place i.2.2.2.2.2.2.1)] [(fDat (tyList tyS_api_Place) [v0_0] a0)])) (fun i => (tab [(3, (pq g1)), (5, i.2.2.2.2.2.1), (6, (bool i.2.2.2.2.2.2.2.1)), (9, v0_0), (10, (iq (a0.length : Int))), (11, (iq i.2.2.2.2.2.2.2.2))])) (fun q i => f_lumref_put_L12 a0 kk3 fu q i.1 i.2.1 i.2.2.1 i.2.2.2.1 i.2.2.2.2.1 i.2.2.2.2.2.2.1 i.2.2.2.2.2.2.2.1 i.2.2.2.2.2.2.2.2 = some r) ?_ fu (a1.ID, a1.Kind, a1.Pack, a1.At, a1.Len, nS, ([] : List S_api_Place), false, (0 : Int)) h) (fun w a hm hs => norm hm hs [1, 0] [0] [(3, (pq g1)), (5, nS), (6, (bool false)), (9, v0_0), (10, (iq (a0.length : Int))), (11, (iq (0 : Int)))] (by decide) ⟨rfl, rfl, rfl, rfl, rfl, rfl, trivial⟩)
  clear h
  rintro k11 ⟨l10A3_0, l10i3_1, l10i3_2, l10i3_3, l10i3_4, l10v5, l10x5, l10b6, l10i11⟩ h
  have h : f_lumref_put_L12 a0 kk3 fu k11 l10A3_0 l10i3_1 l10i3_2 l10i3_3 l10i3_4 l10x5 l10b6 l10i11 = some r := h
  obtain _ | k11 := k11
  · rw [f_lumref_put_L12] at h; cases h
  rw [f_lumref_put_L12] at h
  refine aw_show (m := (memOf w0 Z0 [] [(oBox g1 32 ((cA8u8 l10A3_0) ++ [(iq l10i3_1), (iq l10i3_2), (iq l10i3_3), (iq l10i3_4)])), (oRow l10v5 32 tyS_api_Place l10x5)] [(fDat (tyList tyS_api_Place) [v0_0] a0)])) (S := (tab [(3, (pq g1)), (5, l10v5), (6, (bool l10b6)), (9, v0_0), (10, (iq (a0.length : Int))), (11, (iq l10i11))])) ?_
  refine aw_sr ?_
  refine al_in rfl rfl rfl rfl ?_
  refine al_nt ?_
  refine aw_seq ?_
  refine aw_cond rfl (fun hb13 => ?_) (fun hb13 => ?_)
  ·replace h := bif_t hb13 h
   refine aw_skip ?_
   refine aq_then ?_
   obtain ⟨kk15, hkk15, h⟩ := lt_some h
   refine aw_seq_join (ι := A8u8 × Int × Int × Int × Int × Value × (List S_api_Place) × Bool) (fun i => (memOf w0 Z0 [] [(oBox g1 32 ((cA8u8 i.1) ++ [(iq i.2.1), (iq i.2.2.1), (iq i.2.2.2.1), (iq i.2.2.2.2.1)])), (oRow i.2.2.2.2.2.1 32 tyS_api_Place i.2.2.2.2.2.2.1)] [(fDat (tyList tyS_api_Place) [v0_0] a0)])) (fun i => (tab [(3, (pq g1)), (5, i.2.2.2.2.2.1), (6, (bool i.2.2.2.2.2.2.2)), (9, v0_0), (10, (iq (a0.length : Int))), (11, (iq l10i11))])) (fun i => kk15 i.1 i.2.1 i.2.2.1 i.2.2.2.1 i.2.2.2.2.1 i.2.2.2.2.2.2.1 i.2.2.2.2.2.2.2 = some r) ?_ ?_
   ·rintro ⟨j14A3_0, j14i3_1, j14i3_2, j14i3_3, j14i3_4, j14v5, j14x5, j14b6⟩ h
    have h : kk15 j14A3_0 j14i3_1 j14i3_2 j14i3_3 j14i3_4 j14x5 j14b6 = some r := h
    rw [hkk15] at h
    dsimp only at h
    clear hkk15
    refine aw_show (m := (memOf w0 Z0 [] [(oBox g1 32 ((cA8u8 j14A3_0) ++ [(iq j14i3_1), (iq j14i3_2), (iq j14i3_3), (iq j14i3_4)])), (oRow j14v5 32 tyS_api_Place j14x5)] [(fDat (tyList tyS_api_Place) [v0_0] a0)])) (S := (tab [(3, (pq g1)), (5, j14v5), (6, (bool j14b6)), (9, v0_0), (10, (iq (a0.length : Int))), (11, (iq l10i11))])) ?_
    refine aw_region ?_
    refine al_in rfl rfl rfl rfl ?_
    refine al_mv rfl rfl ?_
    refine al_nil ?_
    exact aq_again k11 (j14A3_0, j14i3_1, j14i3_2, j14i3_3, j14i3_4, j14v5, j14x5, j14b6, (wq (l10i11 + (1 : Int)))) (Nat.lt_succ_self _) h (fun w a hm hs => norm hm hs [0, 1] [0] [(3, (pq g1)), (5, j14v5), (6, (bool j14b6)), (9, v0_0), (10, (iq (a0.length : Int))), (11, (iq (wq (l10i11 + (1 : Int)))))] (by decide) ⟨rfl, rfl, rfl, rfl, rfl, rfl, trivial⟩)
   ·clear hkk15
    refine aw_block ?_
    refine aw_sr ?_
    obtain ⟨u16, hu17, h⟩ := opt_some h
    refine al_idxD 0 hu17 rfl rfl rfl Try.underlying22 sz32 rfl (fun p18 => ?_)
    refine al_val (ov_loadP (ds := ((cA8u8 u16.ID) ++ [(iq u16.Kind), (iq u16.Pack), (iq u16.At), (iq u16.Len)])) 0 rfl encS_api_Place rfl Try.underlying32 sz32 rfl rfl rfl) ?_
    refine al_alloc (zs := ((cA8u8 (A8u8.mk (0 : UInt8) (0 : UInt8) (0 : UInt8) (0 : UInt8) (0 : UInt8) (0 : UInt8) (0 : UInt8) (0 : UInt8))) ++ [(iq (0 : Int)), (iq (0 : Int)), (iq (0 : Int)), (iq (0 : Int))])) (zeroOf_to to32) rfl rfl (fun g19 => ?_)
    refine al_store (i := 0) (vs := ((cA8u8 u16.ID) ++ [(iq u16.Kind), (iq u16.Pack), (iq u16.At), (iq u16.Len)])) (cs' := ((cA8u8 u16.ID) ++ [(iq u16.Kind), (iq u16.Pack), (iq u16.At), (iq u16.Len)])) rfl rfl rfl sz32 (cv_rfl rfl) rfl (co_app (oneA8u8 u16.ID) (co_val rfl (co_val rfl (co_val rfl (co_val rfl co_nil))))) (Nat.le_of_ble_eq_true rfl) rfl rfl ?_
    refine al_nt ?_
    obtain ⟨kk21, hkk21, h⟩ := lt_some h
    refine aw_seq_join (ι := Value × (List S_api_Place) × Bool) (fun i => (memOf w0 Z0 [] [(oBox g1 32 ((cA8u8 l10A3_0) ++ [(iq l10i3_1), (iq l10i3_2), (iq l10i3_3), (iq l10i3_4)])), (oRow i.1 32 tyS_api_Place i.2.1), (oBox g19 32 ((cA8u8 u16.ID) ++ [(iq u16.Kind), (iq u16.Pack), (iq u16.At), (iq u16.Len)]))] [(fDat (tyList tyS_api_Place) [v0_0] a0), (fPtr tyS_api_Place p18 u16)])) (fun i => (tab [(3, (pq g1)), (5, i.1), (6, (bool i.2.2)), (8, (pq g19)), (9, v0_0), (10, (iq (a0.length : Int))), (11, (iq l10i11))])) (fun i => kk21 i.2.1 i.2.2 = some r) ?_ ?_
    ·rintro ⟨j20v5, j20x5, j20b6⟩ h
     have h : kk21 j20x5 j20b6 = some r := h
     rw [hkk21] at h
     dsimp only at h
     clear hkk21
     refine aw_show (m := (memOf w0 Z0 [] [(oBox g1 32 ((cA8u8 l10A3_0) ++ [(iq l10i3_1), (iq l10i3_2), (iq l10i3_3), (iq l10i3_4)])), (oRow j20v5 32 tyS_api_Place j20x5), (oBox g19 32 ((cA8u8 u16.ID) ++ [(iq u16.Kind), (iq u16.Pack), (iq u16.At), (iq u16.Len)]))] [(fDat (tyList tyS_api_Place) [v0_0] a0), (fPtr tyS_api_Place p18 u16)])) (S := (tab [(3, (pq g1)), (5, j20v5), (6, (bool j20b6)), (8, (pq g19)), (9, v0_0), (10, (iq (a0.length : Int))), (11, (iq l10i11))])) ?_
     refine aw_region ?_
     refine al_mv rfl rfl ?_
     refine al_val (ov_load (i := 2) (v := (ag ((cA8u8 u16.ID) ++ [(iq u16.Kind), (iq u16.Pack), (iq u16.At), (iq u16.Len)]))) rfl rfl Try.underlying32 sz32 rfl rfl rfl rfl) ?_
     refine al_buildSlice (τ := tyS_api_Place) (e := 32) (k := 1) (sz := 0) (by_ := 0) (z := undef) (cs := ((cA8u8 u16.ID) ++ [(iq u16.Kind), (iq u16.Pack), (iq u16.At), (iq u16.Len)])) (xs := [u16]) rfl (by decide) (fun w a hm hs => ⟨(((cA8u8 u16.ID) ++ [(iq u16.Kind), (iq u16.Pack), (iq u16.At), (iq u16.Len)])).toArray, rfl, by simp only [List.map_toArray, List.map_cons, List.map_nil, hs.ev (x := .tmp 44) rfl]; exact run_bs [(ag ((cA8u8 u16.ID) ++ [(iq u16.Kind), (iq u16.Pack), (iq u16.At), (iq u16.Len)]))] ((cA8u8 u16.ID) ++ [(iq u16.Kind), (iq u16.Pack), (iq u16.At), (iq u16.Len)]) Try.underlying22 to32 rfl rfl (bs_cons (l := ((cA8u8 u16.ID) ++ [(iq u16.Kind), (iq u16.Pack), (iq u16.At), (iq u16.Len)])) (cs := []) (cv_rfl rfl) rfl bs_nil) hm⟩) (fun hm => ⟨((cA8u8 u16.ID) ++ [(iq u16.Kind), (iq u16.Pack), (iq u16.At), (iq u16.Len)]), [], rfl, mkS_api_Place rfl, rfl⟩) rfl (fun v22 => ?_)
     obtain ⟨hc23, h⟩ := req_some h
     refine al_append 2 hc23.1 hc23.2 rfl (src_own (i := 2) 0 rfl) rfl rfl Try.underlying22 to32 rfl rfl rfl (fun v24 => ?_)
     refine al_as rfl rfl ?_
     refine al_nil ?_
     refine aq_block ?_
     exact aq_join (l10A3_0, l10i3_1, l10i3_2, l10i3_3, l10i3_4, v24, (j20x5 ++ ([u16])), j20b6) h (fun w a hm hs => norm hm hs [1, 2] [0] [(3, (pq g1)), (5, v24), (6, (bool j20b6)), (9, v0_0), (10, (iq (a0.length : Int))), (11, (iq l10i11))] (by decide) ⟨rfl, rfl, rfl, rfl, rfl, rfl, trivial⟩)
    ·clear hkk21
     obtain ⟨kk26, hkk26, h⟩ := lt_some h
     refine aw_seq_join (ι := Bool) (fun i => (memOf w0 Z0 [] [(oBox g1 32 ((cA8u8 l10A3_0) ++ [(iq l10i3_1), (iq l10i3_2), (iq l10i3_3), (iq l10i3_4)])), (oRow l10v5 32 tyS_api_Place l10x5), (oBox g19 32 ((cA8u8 u16.ID) ++ [(iq u16.Kind), (iq u16.Pack), (iq u16.At), (iq u16.Len)]))] [(fDat (tyList tyS_api_Place) [v0_0] a0), (fPtr tyS_api_Place p18 u16)])) (fun i => (tab [(3, (pq g1)), (5, l10v5), (6, (bool l10b6)), (8, (pq g19)), (9, v0_0), (10, (iq (a0.length : Int))), (11, (iq l10i11)), (25, (bool i))])) (fun i => kk26 i = some r) ?_ ?_
     ·rintro j25b25 h
      have h : kk26 j25b25 = some r := h
      rw [hkk26] at h
      dsimp only at h
      clear hkk26
      refine aw_show (m := (memOf w0 Z0 [] [(oBox g1 32 ((cA8u8 l10A3_0) ++ [(iq l10i3_1), (iq l10i3_2), (iq l10i3_3), (iq l10i3_4)])), (oRow l10v5 32 tyS_api_Place l10x5), (oBox g19 32 ((cA8u8 u16.ID) ++ [(iq u16.Kind), (iq u16.Pack), (iq u16.At), (iq u16.Len)]))] [(fDat (tyList tyS_api_Place) [v0_0] a0), (fPtr tyS_api_Place p18 u16)])) (S := (tab [(3, (pq g1)), (5, l10v5), (6, (bool l10b6)), (8, (pq g19)), (9, v0_0), (10, (iq (a0.length : Int))), (11, (iq l10i11)), (25, (bool j25b25))])) ?_
      refine aw_cond rfl (fun hb27 => ?_) (fun hb27 => ?_)
      ·replace h := bif_t hb27 h
       refine aw_sr ?_
       refine al_as rfl rfl ?_
       refine al_nt ?_
       refine aw_seq ?_
       refine aw_sr ?_
       refine al_val (ov_fieldA (p := 0) rfl Try.underlying32 rfl sz30 rfl rfl rfl) ?_
       refine al_val (ov_load (i := 0) (v := (ag (cA8u8 l10A3_0))) rfl rfl Try.underlying30 sz30 rfl rfl rfl rfl) ?_
       refine al_val (ov_fieldA (p := 0) rfl Try.underlying32 rfl sz30 rfl rfl rfl) ?_
       refine al_val (ov_load (i := 2) (v := (ag (cA8u8 u16.ID))) rfl rfl Try.underlying30 sz30 rfl rfl rfl rfl) ?_
       refine al_val (ov_eqlA (cs := (cA8u8 l10A3_0)) (ds := (cA8u8 u16.ID)) (ls := [5, 5, 5, 5, 5, 5, 5, 5]) (p := (l10A3_0 == u16.ID)) eg30 kt30 lv30 rfl rfl (by kernel_rfl) (by kernel_rfl) (fit_cons (fit_u8 Try.underlying5) (fit_cons (fit_u8 Try.underlying5) (fit_cons (fit_u8 Try.underlying5) (fit_cons (fit_u8 Try.underlying5) (fit_cons (fit_u8 Try.underlying5) (fit_cons (fit_u8 Try.underlying5) (fit_cons (fit_u8 Try.underlying5) (fit_cons (fit_u8 Try.underlying5) fit_nil)))))))) (fit_cons (fit_u8 Try.underlying5) (fit_cons (fit_u8 Try.underlying5) (fit_cons (fit_u8 Try.underlying5) (fit_cons (fit_u8 Try.underlying5) (fit_cons (fit_u8 Try.underlying5) (fit_cons (fit_u8 Try.underlying5) (fit_cons (fit_u8 Try.underlying5) (fit_cons (fit_u8 Try.underlying5) fit_nil)))))))) (injA8u8 (x := l10A3_0) (y := u16.ID)) rfl) ?_
       refine al_nt ?_
       refine aw_cond rfl (fun hb28 => ?_) (fun hb28 => ?_)
       ·replace h := bif_t hb28 h
        obtain ⟨kk30, hkk30, h⟩ := lt_some h
        refine aw_seq_join (ι := A8u8 × Int × Int × Int × Int) (fun i => (memOf w0 Z0 [] [(oBox g1 32 ((cA8u8 i.1) ++ [(iq i.2.1), (iq i.2.2.1), (iq i.2.2.2.1), (iq i.2.2.2.2)])), (oRow l10v5 32 tyS_api_Place l10x5)] [(fDat (tyList tyS_api_Place) [v0_0] a0), (fPtr tyS_api_Place p18 u16)])) (fun i => (tab [(3, (pq g1)), (5, l10v5), (6, (bool true)), (9, v0_0), (10, (iq (a0.length : Int))), (11, (iq l10i11))])) (fun i => kk30 i.1 i.2.1 i.2.2.1 i.2.2.2.1 i.2.2.2.2 = some r) ?_ ?_
        ·rintro ⟨j29A3_0, j29i3_1, j29i3_2, j29i3_3, j29i3_4⟩ h
         have h : kk30 j29A3_0 j29i3_1 j29i3_2 j29i3_3 j29i3_4 = some r := h
         rw [hkk30] at h
         dsimp only at h
         clear hkk30
         refine aw_show (m := (memOf w0 Z0 [] [(oBox g1 32 ((cA8u8 j29A3_0) ++ [(iq j29i3_1), (iq j29i3_2), (iq j29i3_3), (iq j29i3_4)])), (oRow l10v5 32 tyS_api_Place l10x5)] [(fDat (tyList tyS_api_Place) [v0_0] a0), (fPtr tyS_api_Place p18 u16)])) (S := (tab [(3, (pq g1)), (5, l10v5), (6, (bool true)), (9, v0_0), (10, (iq (a0.length : Int))), (11, (iq l10i11))])) ?_
         refine aw_sr ?_
         refine al_mv rfl rfl ?_
         refine al_val (ov_load (i := 0) (v := (ag ((cA8u8 j29A3_0) ++ [(iq j29i3_1), (iq j29i3_2), (iq j29i3_3), (iq j29i3_4)]))) rfl rfl Try.underlying32 sz32 rfl rfl rfl rfl) ?_
         refine al_buildSlice (τ := tyS_api_Place) (e := 32) (k := 1) (sz := 0) (by_ := 0) (z := undef) (cs := ((cA8u8 j29A3_0) ++ [(iq j29i3_1), (iq j29i3_2), (iq j29i3_3), (iq j29i3_4)])) (xs := [(S_api_Place.mk j29A3_0 j29i3_1 j29i3_2 j29i3_3 j29i3_4)]) rfl (by decide) (fun w a hm hs => ⟨(((cA8u8 j29A3_0) ++ [(iq j29i3_1), (iq j29i3_2), (iq j29i3_3), (iq j29i3_4)])).toArray, rfl, by simp only [List.map_toArray, List.map_cons, List.map_nil, hs.ev (x := .tmp 36) rfl]; exact run_bs [(ag ((cA8u8 j29A3_0) ++ [(iq j29i3_1), (iq j29i3_2), (iq j29i3_3), (iq j29i3_4)]))] ((cA8u8 j29A3_0) ++ [(iq j29i3_1), (iq j29i3_2), (iq j29i3_3), (iq j29i3_4)]) Try.underlying22 to32 rfl rfl (bs_cons (l := ((cA8u8 j29A3_0) ++ [(iq j29i3_1), (iq j29i3_2), (iq j29i3_3), (iq j29i3_4)])) (cs := []) (cv_rfl rfl) rfl bs_nil) hm⟩) (fun hm => ⟨((cA8u8 j29A3_0) ++ [(iq j29i3_1), (iq j29i3_2), (iq j29i3_3), (iq j29i3_4)]), [], rfl, mkS_api_Place rfl, rfl⟩) rfl (fun v31 => ?_)
         obtain ⟨hc32, h⟩ := req_some h
         refine al_append 2 hc32.1 hc32.2 rfl (src_own (i := 2) 0 rfl) rfl rfl Try.underlying22 to32 rfl rfl rfl (fun v33 => ?_)
         refine al_as rfl rfl ?_
         refine al_nt ?_
         refine aw_exit ?_
         refine aq_then_exit ?_
         refine aq_then_exit ?_
         refine aq_block_exit ?_
         exact aq_join (j29A3_0, j29i3_1, j29i3_2, j29i3_3, j29i3_4, v33, (l10x5 ++ ([(S_api_Place.mk j29A3_0 j29i3_1 j29i3_2 j29i3_3 j29i3_4)])), true) h (fun w a hm hs => norm hm hs [1, 2] [0] [(3, (pq g1)), (5, v33), (6, (bool true)), (9, v0_0), (10, (iq (a0.length : Int))), (11, (iq l10i11))] (by decide) ⟨rfl, rfl, rfl, rfl, rfl, rfl, trivial⟩)
        ·clear hkk30
         refine aw_sr ?_
         refine al_val (ov_load (i := 2) (v := (ag ((cA8u8 u16.ID) ++ [(iq u16.Kind), (iq u16.Pack), (iq u16.At), (iq u16.Len)]))) rfl rfl Try.underlying32 sz32 rfl rfl rfl rfl) ?_
         refine al_val (ov_load (i := 0) (v := (ag ((cA8u8 l10A3_0) ++ [(iq l10i3_1), (iq l10i3_2), (iq l10i3_3), (iq l10i3_4)]))) rfl rfl Try.underlying32 sz32 rfl rfl rfl rfl) ?_
         obtain ⟨r35, hc34, h⟩ := opt_some h
         refine al_call (vs := [(ag ((cA8u8 u16.ID) ++ [(iq u16.Kind), (iq u16.Pack), (iq u16.At), (iq u16.Len)])), (ag ((cA8u8 l10A3_0) ++ [(iq l10i3_1), (iq l10i3_2), (iq l10i3_3), (iq l10i3_4)]))]) (f_lumref_smaller_ok fu u16 (S_api_Place.mk l10A3_0 l10i3_1 l10i3_2 l10i3_3 l10i3_4) hc34) [] [] [0, 1, 2] pre_nil rfl (by simp) (by decide) (.inl rfl) rfl Try.func130 rfl rfl rfl (fun _ => ?_)
         refine al_nt ?_
         refine aw_cond rfl (fun hb36 => ?_) (fun hb36 => ?_)
         ·replace h := bif_t hb36 h
          refine aw_region ?_
          refine al_val (ov_load (i := 2) (v := (ag ((cA8u8 u16.ID) ++ [(iq u16.Kind), (iq u16.Pack), (iq u16.At), (iq u16.Len)]))) rfl rfl Try.underlying32 sz32 rfl rfl rfl rfl) ?_
          refine al_store (i := 0) (vs := ((cA8u8 u16.ID) ++ [(iq u16.Kind), (iq u16.Pack), (iq u16.At), (iq u16.Len)])) (cs' := ((cA8u8 u16.ID) ++ [(iq u16.Kind), (iq u16.Pack), (iq u16.At), (iq u16.Len)])) rfl rfl rfl sz32 (cv_rfl rfl) rfl (co_app (oneA8u8 u16.ID) (co_val rfl (co_val rfl (co_val rfl (co_val rfl co_nil))))) (Nat.le_of_ble_eq_true rfl) rfl rfl ?_
          refine al_nil ?_
          exact aq_join (u16.ID, u16.Kind, u16.Pack, u16.At, u16.Len) h (fun w a hm hs => norm hm hs [0, 1] [0, 1] [(3, (pq g1)), (5, l10v5), (6, (bool true)), (9, v0_0), (10, (iq (a0.length : Int))), (11, (iq l10i11))] (by decide) ⟨rfl, rfl, rfl, rfl, rfl, rfl, trivial⟩)
         ·replace h := bif_f hb36 h
          refine aw_skip ?_
          exact aq_join (l10A3_0, l10i3_1, l10i3_2, l10i3_3, l10i3_4) h (fun w a hm hs => norm hm hs [0, 1] [0, 1] [(3, (pq g1)), (5, l10v5), (6, (bool true)), (9, v0_0), (10, (iq (a0.length : Int))), (11, (iq l10i11))] (by decide) ⟨rfl, rfl, rfl, rfl, rfl, rfl, trivial⟩)
       ·replace h := bif_f hb28 h
        refine aw_skip ?_
        refine aq_then ?_
        refine aw_region ?_
        refine al_mv rfl rfl ?_
        refine al_val (ov_load (i := 0) (v := (ag ((cA8u8 l10A3_0) ++ [(iq l10i3_1), (iq l10i3_2), (iq l10i3_3), (iq l10i3_4)]))) rfl rfl Try.underlying32 sz32 rfl rfl rfl rfl) ?_
        refine al_buildSlice (τ := tyS_api_Place) (e := 32) (k := 1) (sz := 0) (by_ := 0) (z := undef) (cs := ((cA8u8 l10A3_0) ++ [(iq l10i3_1), (iq l10i3_2), (iq l10i3_3), (iq l10i3_4)])) (xs := [(S_api_Place.mk l10A3_0 l10i3_1 l10i3_2 l10i3_3 l10i3_4)]) rfl (by decide) (fun w a hm hs => ⟨(((cA8u8 l10A3_0) ++ [(iq l10i3_1), (iq l10i3_2), (iq l10i3_3), (iq l10i3_4)])).toArray, rfl, by simp only [List.map_toArray, List.map_cons, List.map_nil, hs.ev (x := .tmp 40) rfl]; exact run_bs [(ag ((cA8u8 l10A3_0) ++ [(iq l10i3_1), (iq l10i3_2), (iq l10i3_3), (iq l10i3_4)]))] ((cA8u8 l10A3_0) ++ [(iq l10i3_1), (iq l10i3_2), (iq l10i3_3), (iq l10i3_4)]) Try.underlying22 to32 rfl rfl (bs_cons (l := ((cA8u8 l10A3_0) ++ [(iq l10i3_1), (iq l10i3_2), (iq l10i3_3), (iq l10i3_4)])) (cs := []) (cv_rfl rfl) rfl bs_nil) hm⟩) (fun hm => ⟨((cA8u8 l10A3_0) ++ [(iq l10i3_1), (iq l10i3_2), (iq l10i3_3), (iq l10i3_4)]), [], rfl, mkS_api_Place rfl, rfl⟩) rfl (fun v37 => ?_)
        obtain ⟨hc38, h⟩ := req_some h
        refine al_append 2 hc38.1 hc38.2 rfl (src_own (i := 2) 0 rfl) rfl rfl Try.underlying22 to32 rfl rfl rfl (fun v39 => ?_)
        refine al_as rfl rfl ?_
        refine al_nil ?_
        exact aq_join (v39, (l10x5 ++ ([(S_api_Place.mk l10A3_0 l10i3_1 l10i3_2 l10i3_3 l10i3_4)])), true) h (fun w a hm hs => norm hm hs [1, 2, 3] [0, 1] [(3, (pq g1)), (5, v39), (6, (bool true)), (8, (pq g19)), (9, v0_0), (10, (iq (a0.length : Int))), (11, (iq l10i11))] (by decide) ⟨rfl, rfl, rfl, rfl, rfl, rfl, rfl, trivial⟩)
      ·replace h := bif_f hb27 h
       refine aw_skip ?_
       exact aq_join (l10v5, l10x5, l10b6) h (fun w a hm hs => norm hm hs [0, 1, 2] [0, 1] [(3, (pq g1)), (5, l10v5), (6, (bool l10b6)), (8, (pq g19)), (9, v0_0), (10, (iq (a0.length : Int))), (11, (iq l10i11))] (by decide) ⟨rfl, rfl, rfl, rfl, rfl, rfl, rfl, trivial⟩)
     ·clear hkk26
      rcases Bool.eq_false_or_eq_true (!l10b6) with hb40 | hb40
      ·replace h := bif_t hb40 h
       refine aw_region_draw 10 [(15, (fun u => fEq u (bool l10b6))), (16, (fun u => fEq u (bool true))), (17, (fun u => fEq u (bool true))), (18, (fun u => fEq u (pq g1))), (19, (fun u => fEq u (sbx g1 0 8))), (20, (fun u => fEq u (str (lA8u8 l10A3_0)))), (21, (fun u => fEq u (pq g19))), (22, (fun u => fEq u (sbx g19 0 8))), (23, (fun u => fEq u (str (lA8u8 u16.ID)))), (24, (fun u => fEq u (bool (Op.bytesLess (lA8u8 l10A3_0) (lA8u8 u16.ID) || (lA8u8 l10A3_0) == (lA8u8 u16.ID)))))] (tab [(3, (pq g1)), (5, l10v5), (6, (bool l10b6)), (8, (pq g19)), (9, v0_0), (10, (iq (a0.length : Int))), (11, (iq l10i11))]) mixed (by kernel_rfl) rfl rfl rfl (fun a hs => hs.tab _ (allT_mem ⟨rfl, rfl, rfl, rfl, rfl, rfl, rfl, trivial⟩)) ⟨⟨rfl, ld_val (ov_move rfl rfl)⟩, ⟨rfl, ld_eq (j := 0) rfl rfl (ld_val (ov_cast (by first | rw [hb40] | rfl) (ov_not rfl rfl)))⟩, ⟨rfl, ld_eq (j := 1) rfl rfl (ld_val (ov_cast (by first | rw [hb40] | rfl) (ov_move rfl rfl)))⟩, ⟨rfl, ld_eq (j := 2) rfl rfl (ld_val (ov_fieldA (p := 0) rfl Try.underlying32 rfl sz30 rfl rfl rfl))⟩, ⟨rfl, ld_eq (j := 2) rfl rfl (ld_eq (j := 3) rfl rfl (ld_val (ov_sliceBox (i := 1) rfl rfl Try.underlying30 sz5 rfl)))⟩, ⟨rfl, ld_eq (j := 2) rfl rfl (ld_eq (j := 4) rfl rfl (ld_val (ov_toStrB (i := 1) (l := lA8u8 l10A3_0) rfl rfl rfl (box_bytes (pre := []) (post := [(iq l10i3_1), (iq l10i3_2), (iq l10i3_3), (iq l10i3_4)]) rfl rfl) Try.underlying127 Try.underlying5 Try.underlying9 rfl)))⟩, ⟨rfl, ld_eq (j := 2) rfl rfl (ld_val (ov_fieldA (p := 0) rfl Try.underlying32 rfl sz30 rfl rfl rfl))⟩, ⟨rfl, ld_eq (j := 2) rfl rfl (ld_eq (j := 6) rfl rfl (ld_val (ov_sliceBox (i := 0) rfl rfl Try.underlying30 sz5 rfl)))⟩, ⟨rfl, ld_eq (j := 2) rfl rfl (ld_eq (j := 7) rfl rfl (ld_val (ov_toStrB (i := 0) (l := lA8u8 u16.ID) rfl rfl rfl (box_bytes (pre := []) (post := [(iq u16.Kind), (iq u16.Pack), (iq u16.At), (iq u16.Len)]) rfl rfl) Try.underlying127 Try.underlying5 Try.underlying9 rfl)))⟩, ⟨rfl, ld_eq (j := 2) rfl rfl (ld_eq (j := 5) rfl rfl (ld_eq (j := 8) rfl rfl (ld_val (ov_strCmp rfl rfl rfl rfl))))⟩, trivial⟩ ?_
       refine tl_eq 2 rfl ?_
       refine tl_eq 9 rfl ?_
       refine tl_done ?_
       refine al_val (ov_pick_t rfl rfl rfl) ?_
       refine al_nil ?_
       exact aq_join (Op.bytesLess (lA8u8 l10A3_0) (lA8u8 u16.ID) || (lA8u8 l10A3_0) == (lA8u8 u16.ID)) h (fun w a hm hs => norm hm hs [1, 2, 0] [1, 0] [(3, (pq g1)), (5, l10v5), (6, (bool l10b6)), (8, (pq g19)), (9, v0_0), (10, (iq (a0.length : Int))), (11, (iq l10i11)), (25, (bool (Op.bytesLess (lA8u8 l10A3_0) (lA8u8 u16.ID) || (lA8u8 l10A3_0) == (lA8u8 u16.ID))))] (by decide) ⟨rfl, rfl, rfl, rfl, rfl, rfl, rfl, rfl, trivial⟩)
      ·replace h := bif_f hb40 h
       refine aw_region_draw 10 [(15, (fun u => fEq u (bool l10b6))), (16, (fun u => fEq u (bool false))), (17, (fun u => fEq u (bool false))), (18, (fun u => fEq u undef)), (19, (fun u => fEq u undef)), (20, (fun u => fEq u undef)), (21, (fun u => fEq u undef)), (22, (fun u => fEq u undef)), (23, (fun u => fEq u undef)), (24, (fun u => fEq u undef))] (tab [(3, (pq g1)), (5, l10v5), (6, (bool l10b6)), (8, (pq g19)), (9, v0_0), (10, (iq (a0.length : Int))), (11, (iq l10i11))]) mixed (by kernel_rfl) rfl rfl rfl (fun a hs => hs.tab _ (allT_mem ⟨rfl, rfl, rfl, rfl, rfl, rfl, rfl, trivial⟩)) ⟨⟨rfl, ld_val (ov_move rfl rfl)⟩, ⟨rfl, ld_eq (j := 0) rfl rfl (ld_val (ov_cast (by first | rw [hb40] | rfl) (ov_not rfl rfl)))⟩, ⟨rfl, ld_eq (j := 1) rfl rfl (ld_val (ov_cast (by first | rw [hb40] | rfl) (ov_move rfl rfl)))⟩, ⟨rfl, ld_eq (j := 2) rfl rfl (ld_skip)⟩, ⟨rfl, ld_eq (j := 2) rfl rfl (ld_skip)⟩, ⟨rfl, ld_eq (j := 2) rfl rfl (ld_skip)⟩, ⟨rfl, ld_eq (j := 2) rfl rfl (ld_skip)⟩, ⟨rfl, ld_eq (j := 2) rfl rfl (ld_skip)⟩, ⟨rfl, ld_eq (j := 2) rfl rfl (ld_skip)⟩, ⟨rfl, ld_eq (j := 2) rfl rfl (ld_skip)⟩, trivial⟩ ?_
       refine tl_eq 2 rfl ?_
       refine tl_eq 9 rfl ?_
       refine tl_done ?_
       refine al_val (ov_pick_f rfl rfl rfl) ?_
       refine al_nil ?_
       exact aq_join false h (fun w a hm hs => norm hm hs [1, 2, 0] [1, 0] [(3, (pq g1)), (5, l10v5), (6, (bool l10b6)), (8, (pq g19)), (9, v0_0), (10, (iq (a0.length : Int))), (11, (iq l10i11)), (25, (bool false))] (by decide) ⟨rfl, rfl, rfl, rfl, rfl, rfl, rfl, rfl, trivial⟩)
  ·replace h := bif_f hb13 h
   refine aw_exit ?_
   refine aq_then_exit ?_
   refine aq_then_exit ?_
   refine aq_block_exit ?_
   exact aq_join (l10A3_0, l10i3_1, l10i3_2, l10i3_3, l10i3_4, l10v5, l10x5, l10b6) h (fun w a hm hs => norm hm hs [0, 1] [0] [(3, (pq g1)), (5, l10v5), (6, (bool l10b6))] (by decide) ⟨rfl, rfl, rfl, trivial⟩)
def f_lumref_Merge_L15 (a1 : (List S_api_Place)) (kk11 : ((List S_api_Place) → Option ((List S_api_Place) × Int))) (fu : Nat) : Nat → (List S_api_Place) → Int → Option ((List S_api_Place) × Int)
  | 0, _, _ => none
  | k14 + 1, l13x8, l13i25 => (bif (decide (l13i25 < (a1.length : Int))) then (opt (at? a1 l13i25) fun (u17 : S_api_Place) => (opt (f_lumref_put fu l13x8 u17) fun (r22 : (List S_api_Place)) => (f_lumref_Merge_L15 a1 kk11 fu k14 r22 (IntKind.i64.wrap (l13i25 + (1 : Int)))))) else (kk11 l13x8))
def f_lumref_Merge (fu : Nat) (a0 : (List S_api_Place)) (a1 : (List S_api_Place)) : Option ((List S_api_Place) × Int) := (opt (f_lumref_Index fu a0) fun (r2 : Int) => (bif (r2 != (0 : Int)) then (some (([] : List S_api_Place), r2)) else (opt (f_lumref_Index fu a1) fun (r5 : Int) => (bif (r5 != (0 : Int)) then (some (([] : List S_api_Place), r5)) else (opt (f_slices_Clone___api_Place_api_Place_ fu a0) fun (r8 : (List S_api_Place)) => (lt (fun (j10x8 : (List S_api_Place)) => (bif (decide ((j10x8.length : Int) > (400 : Int))) then (some (([] : List S_api_Place), (2 : Int))) else (some (j10x8, (0 : Int))))) fun (kk11 : (List S_api_Place) → Option ((List S_api_Place) × Int)) => (f_lumref_Merge_L15 a1 kk11 fu fu r8 (0 : Int))))))))
set_option maxHeartbeats 2000000 in
set_option maxRecDepth 100000 in
theorem f_lumref_Merge_ok (fu : Nat) (v0_0 : Value) (a0 : (List S_api_Place)) (v1_0 : Value) (a1 : (List S_api_Place)) {r : ((List S_api_Place) × Int)} (h : f_lumref_Merge fu a0 a1 = some r) : FnOk Try.prog 11 [v0_0, v1_0] [(fDat (tyList tyS_api_Place) [v0_0] a0), (fDat (tyList tyS_api_Place) [v1_0] a1)] [] (fun (i : Value) => { val := (Value.tuple #[i, (int .i64 r.2)]), own := [(oRow i 32 tyS_api_Place r.1)] }) := by
 unfold f_lumref_Merge at h
 refine fn_enter Try.func11 rfl Try.ntmps11 rfl (fun w0 Z0 => ?_)
 refine aw_sr ?_
 refine al_as rfl rfl ?_
 refine al_as rfl rfl ?_
 refine al_nt ?_
 refine aw_seq ?_
 refine aw_sr ?_
 refine al_mv rfl rfl ?_
 obtain ⟨r2, hc1, h⟩ := opt_some h
 refine al_call (vs := [v0_0]) (f_lumref_Index_ok fu v0_0 a0 hc1) [] [] [] (pre_fz 0 rfl pre_nil) rfl (by simp) (by decide) (.inl rfl) rfl Try.func60 rfl rfl rfl (fun _ => ?_)
 refine al_as rfl rfl ?_
 refine al_nt ?_
 refine aw_sr ?_
 refine al_mv rfl rfl ?_
 refine al_in rfl rfl rfl rfl ?_
 refine al_nt ?_
 refine aw_cond rfl (fun hb3 => ?_) (fun hb3 => ?_)
 ·replace h := bif_t hb3 h
  refine aw_sr ?_
  refine al_mv rfl rfl ?_
  refine al_as rfl rfl ?_
  refine al_as rfl rfl ?_
  refine al_nt ?_
  refine aw_ret ?_
  refine aq_then_ret ?_
  refine aq_nilR 32 tyS_api_Place ?_
  obtain rfl := Option.some.inj h
  exact fn_ret nS [0] [] rfl rfl rfl rfl (res2 rfl rfl rfl) rfl rfl rfl (by decide)
 ·replace h := bif_f hb3 h
  refine aw_skip ?_
  refine aq_then ?_
  refine aw_seq ?_
  refine aw_sr ?_
  refine al_mv rfl rfl ?_
  obtain ⟨r5, hc4, h⟩ := opt_some h
  refine al_call (vs := [v1_0]) (f_lumref_Index_ok fu v1_0 a1 hc4) [] [] [] (pre_fz 1 rfl pre_nil) rfl (by simp) (by decide) (.inl rfl) rfl Try.func60 rfl rfl rfl (fun _ => ?_)
  refine al_as rfl rfl ?_
  refine al_nt ?_
  refine aw_sr ?_
  refine al_mv rfl rfl ?_
  refine al_in rfl rfl rfl rfl ?_
  refine al_nt ?_
  refine aw_cond rfl (fun hb6 => ?_) (fun hb6 => ?_)
  ·replace h := bif_t hb6 h
   refine aw_sr ?_
   refine al_mv rfl rfl ?_
   refine al_as rfl rfl ?_
   refine al_as rfl rfl ?_
   refine al_nt ?_
   refine aw_ret ?_
   refine aq_then_ret ?_
   refine aq_nilR 32 tyS_api_Place ?_
   obtain rfl := Option.some.inj h
   exact fn_ret nS [0] [] rfl rfl rfl rfl (res2 rfl rfl rfl) rfl rfl rfl (by decide)
  ·replace h := bif_f hb6 h
   refine aw_skip ?_
   refine aq_tr ?_
   refine al_mv rfl rfl ?_
   obtain ⟨r8, hc7, h⟩ := opt_some h
   refine al_call (vs := [v0_0]) (f_slices_Clone___api_Place_api_Place__ok fu v0_0 a0 hc7) [] [] [] (pre_fz 0 rfl pre_nil) rfl (by simp) (by decide) (.inl rfl) rfl Try.func59 rfl rfl rfl (fun v9 => ?_)
   refine al_as rfl rfl ?_
   refine al_nt ?_
   obtain ⟨kk11, hkk11, h⟩ := lt_some h
   refine aw_seq_join (ι := Value × (List S_api_Place)) (fun i => (memOf w0 Z0 [] [(oRow i.1 32 tyS_api_Place i.2)] [(fDat (tyList tyS_api_Place) [v0_0] a0), (fDat (tyList tyS_api_Place) [v1_0] a1)])) (fun i => (tab [(8, i.1)])) (fun i => kk11 i.2 = some r) ?_ ?_
   ·rintro ⟨j10v8, j10x8⟩ h
    have h : kk11 j10x8 = some r := h
    rw [hkk11] at h
    dsimp only at h
    clear hkk11
    refine aw_show (m := (memOf w0 Z0 [] [(oRow j10v8 32 tyS_api_Place j10x8)] [(fDat (tyList tyS_api_Place) [v0_0] a0), (fDat (tyList tyS_api_Place) [v1_0] a1)])) (S := (tab [(8, j10v8)])) ?_
    refine aw_seq ?_
    refine aw_sr ?_
    refine al_mv rfl rfl ?_
    refine al_val (ov_lenR 0 rfl rfl Try.underlying22 rfl) ?_
    refine al_in rfl rfl rfl rfl ?_
    refine al_nt ?_
    refine aw_cond rfl (fun hb12 => ?_) (fun hb12 => ?_)
    ·replace h := bif_t hb12 h
     refine aw_sr ?_
     refine al_as rfl rfl ?_
     refine al_as rfl rfl ?_
     refine al_nt ?_
     refine aw_ret ?_
     refine aq_then_ret ?_
     refine aq_nilR 32 tyS_api_Place ?_
     obtain rfl := Option.some.inj h
     exact fn_ret nS [0] [] rfl rfl rfl rfl (res2 rfl rfl rfl) rfl rfl rfl (by decide)
    ·replace h := bif_f hb12 h
     refine aw_skip ?_
     refine aq_tr ?_
     refine al_mv rfl rfl ?_
     refine al_as rfl rfl ?_
     refine al_as rfl rfl ?_
     refine al_nt ?_
     refine aw_ret ?_
     obtain rfl := Option.some.inj h
     exact fn_ret j10v8 [0] [] rfl rfl rfl rfl (res2 rfl rfl rfl) rfl rfl rfl (by decide)
   ·clear hkk11
    refine aw_sr ?_
    refine al_mv rfl rfl ?_
    refine al_val (ov_lenD 1 rfl rfl Try.underlying22 rfl) ?_
    refine al_mv rfl rfl ?_
    refine al_nt ?_
    refine aw_block ?_
    refine aw_state (aw_loop (ι := Value × (List S_api_Place) × Int) (fun i => (memOf w0 Z0 [] [(oRow i.1 32 tyS_api_Place i.2.1)] [(fDat (tyList tyS_api_Place) [v1_0] a1), (fDat (tyList tyS_api_Place) [v0_0] a0)])) (fun i => (tab [(8, i.1), (23, v1_0), (24, (iq (a1.length : Int))), (25, (iq i.2.2))])) (fun q i => f_lumref_Merge_L15 a1 kk11 fu q i.2.1 i.2.2 = some r) ?_ fu (v9, r8, (0 : Int)) h) (fun w a hm hs => norm hm hs [0] [1, 0] [(8, v9), (23, v1_0), (24, (iq (a1.length : Int))), (25, (iq (0 : Int)))] (by decide) ⟨rfl, rfl, rfl, rfl, trivial⟩)
    clear h
    rintro k14 ⟨l13v8, l13x8, l13i25⟩ h
    have h : f_lumref_Merge_L15 a1 kk11 fu k14 l13x8 l13i25 = some r := h
    obtain _ | k14 := k14
    · rw [f_lumref_Merge_L15] at h; cases h
    rw [f_lumref_Merge_L15] at h
    refine aw_show (m := (memOf w0 Z0 [] [(oRow l13v8 32 tyS_api_Place l13x8)] [(fDat (tyList tyS_api_Place) [v1_0] a1), (fDat (tyList tyS_api_Place) [v0_0] a0)])) (S := (tab [(8, l13v8), (23, v1_0), (24, (iq (a1.length : Int))), (25, (iq l13i25))])) ?_
    refine aw_sr ?_
    refine al_in rfl rfl rfl rfl ?_
    refine al_nt ?_
    refine aw_seq ?_
    refine aw_cond rfl (fun hb16 => ?_) (fun hb16 => ?_)
    ·replace h := bif_t hb16 h
     refine aw_skip ?_
     refine aq_then ?_
     refine aw_seq ?_
     refine aw_block ?_
     refine aw_sr ?_
     obtain ⟨u17, hu18, h⟩ := opt_some h
     refine al_idxD 0 hu18 rfl rfl rfl Try.underlying22 sz32 rfl (fun p19 => ?_)
     refine al_val (ov_loadP (ds := ((cA8u8 u17.ID) ++ [(iq u17.Kind), (iq u17.Pack), (iq u17.At), (iq u17.Len)])) 0 rfl encS_api_Place rfl Try.underlying32 sz32 rfl rfl rfl) ?_
     refine al_alloc (zs := ((cA8u8 (A8u8.mk (0 : UInt8) (0 : UInt8) (0 : UInt8) (0 : UInt8) (0 : UInt8) (0 : UInt8) (0 : UInt8) (0 : UInt8))) ++ [(iq (0 : Int)), (iq (0 : Int)), (iq (0 : Int)), (iq (0 : Int))])) (zeroOf_to to32) rfl rfl (fun g20 => ?_)
     refine al_store (i := 0) (vs := ((cA8u8 u17.ID) ++ [(iq u17.Kind), (iq u17.Pack), (iq u17.At), (iq u17.Len)])) (cs' := ((cA8u8 u17.ID) ++ [(iq u17.Kind), (iq u17.Pack), (iq u17.At), (iq u17.Len)])) rfl rfl rfl sz32 (cv_rfl rfl) rfl (co_app (oneA8u8 u17.ID) (co_val rfl (co_val rfl (co_val rfl (co_val rfl co_nil))))) (Nat.le_of_ble_eq_true rfl) rfl rfl ?_
     refine al_nt ?_
     refine aw_region ?_
     refine al_mv rfl rfl ?_
     refine al_val (ov_load (i := 0) (v := (ag ((cA8u8 u17.ID) ++ [(iq u17.Kind), (iq u17.Pack), (iq u17.At), (iq u17.Len)]))) rfl rfl Try.underlying32 sz32 rfl rfl rfl rfl) ?_
     obtain ⟨r22, hc21, h⟩ := opt_some h
     refine al_call (vs := [l13v8, (ag ((cA8u8 u17.ID) ++ [(iq u17.Kind), (iq u17.Pack), (iq u17.At), (iq u17.Len)]))]) (f_lumref_put_ok fu l13v8 l13x8 u17 hc21) [1] [] [0, 1] (pre_own 1 rfl rfl pre_nil) rfl (by simp) (by decide) (.inr (flat_res1 (fun _ => flat_row flatS_api_Place))) rfl Try.func61 rfl rfl rfl (fun v23 => ?_)
     refine al_as rfl rfl ?_
     refine al_nil ?_
     refine aq_block ?_
     refine aq_then ?_
     refine aw_region ?_
     refine al_in rfl rfl rfl rfl ?_
     refine al_mv rfl rfl ?_
     refine al_nil ?_
     exact aq_again k14 (v23, r22, (wq (l13i25 + (1 : Int)))) (Nat.lt_succ_self _) h (fun w a hm hs => norm hm hs [0] [1, 2] [(8, v23), (23, v1_0), (24, (iq (a1.length : Int))), (25, (iq (wq (l13i25 + (1 : Int)))))] (by decide) ⟨rfl, rfl, rfl, rfl, trivial⟩)
    ·replace h := bif_f hb16 h
     refine aw_exit ?_
     refine aq_then_exit ?_
     refine aq_then_exit ?_
     refine aq_block_exit ?_
     exact aq_join (l13v8, l13x8) h (fun w a hm hs => norm hm hs [0] [1, 0] [(8, l13v8)] (by decide) ⟨rfl, trivial⟩)
def f_index_Of_L12 (a0 : Int) (a1 : (List S_api_Entry)) (kk6 : ((List S_api_Place) → Option ((List S_api_Place) × Int))) (fu : Nat) : Nat → (List S_api_Place) → Int → Option ((List S_api_Place) × Int)
  | 0, _, _ => none
  | k11 + 1, l10x6, l10i21 => (bif (decide (l10i21 < (a1.length : Int))) then (opt (at? a1 l10i21) fun (u14 : S_api_Entry) => (opt (f_index_place fu (S_api_Place.mk u14.ID u14.Kind a0 u14.At u14.Len)) fun (r20 : Int) => (bif (r20 != (0 : Int)) then (some (([] : List S_api_Place), r20)) else (req (((l10x6.length + ([(S_api_Place.mk u14.ID u14.Kind a0 u14.At u14.Len)]).length) * 40 : Nat) ≤ 140737488355328 ∧ l10x6.length + ([(S_api_Place.mk u14.ID u14.Kind a0 u14.At u14.Len)]).length ≤ 9223372036854775807) (f_index_Of_L12 a0 a1 kk6 fu k11 (l10x6 ++ ([(S_api_Place.mk u14.ID u14.Kind a0 u14.At u14.Len)])) (IntKind.i64.wrap (l10i21 + (1 : Int)))))))) else (kk6 l10x6))
def f_index_Of (fu : Nat) (a0 : Int) (a1 : (List S_api_Entry)) : Option ((List S_api_Place) × Int) := (opt (f_index_inRange fu a0) fun (r2 : Bool) => (bif (!r2) then (some (([] : List S_api_Place), (1 : Int))) else (bif (decide ((a1.length : Int) > (400 : Int))) then (some (([] : List S_api_Place), (2 : Int))) else (lt (fun (j5x6 : (List S_api_Place)) => (opt (f_index_sorted_own fu j5x6) fun (r8 : (List S_api_Place)) => (some (r8, (0 : Int))))) fun (kk6 : (List S_api_Place) → Option ((List S_api_Place) × Int)) => (f_index_Of_L12 a0 a1 kk6 fu fu ([] : List S_api_Place) (0 : Int))))))
set_option maxHeartbeats 2000000 in
set_option maxRecDepth 100000 in
theorem f_index_Of_ok (fu : Nat) (a0 : Int) (v1_0 : Value) (a1 : (List S_api_Entry)) {r : ((List S_api_Place) × Int)} (h : f_index_Of fu a0 a1 = some r) : FnOk Try.prog 12 [(int .i64 a0), v1_0] [(fDat (tyList tyS_api_Entry) [v1_0] a1)] [] (fun (i : Value) => { val := (Value.tuple #[i, (int .i64 r.2)]), own := [(oRow i 32 tyS_api_Place r.1)] }) := by
 unfold f_index_Of at h
 refine fn_enter Try.func12 rfl Try.ntmps12 rfl (fun w0 Z0 => ?_)
 refine aw_sr ?_
 refine al_as rfl rfl ?_
 refine al_as rfl rfl ?_
 refine al_nt ?_
 refine aw_seq ?_
 refine aw_block ?_
 refine aw_sr ?_
 refine al_mv rfl rfl ?_
 obtain ⟨r2, hc1, h⟩ := opt_some h
 refine al_call (vs := [(iq a0)]) (f_index_inRange_ok fu a0 hc1) [] [] [] pre_nil rfl (by simp) (by decide) (.inl rfl) rfl Try.func62 rfl rfl rfl (fun _ => ?_)
 refine al_val (ov_not rfl rfl) ?_
 refine al_as rfl rfl ?_
 refine al_nt ?_
 refine aw_cond rfl (fun hb3 => ?_) (fun hb3 => ?_)
 ·replace h := bif_t hb3 h
  refine aw_sr ?_
  refine al_as rfl rfl ?_
  refine al_as rfl rfl ?_
  refine al_nt ?_
  refine aw_ret ?_
  refine aq_block_ret ?_
  refine aq_then_ret ?_
  refine aq_nilR 32 tyS_api_Place ?_
  obtain rfl := Option.some.inj h
  exact fn_ret nS [0] [] rfl rfl rfl rfl (res2 rfl rfl rfl) rfl rfl rfl (by decide)
 ·replace h := bif_f hb3 h
  refine aw_sr ?_
  refine al_mv rfl rfl ?_
  refine al_val (ov_lenD 0 rfl rfl Try.underlying23 rfl) ?_
  refine al_in rfl rfl rfl rfl ?_
  refine al_as rfl rfl ?_
  refine al_nt ?_
  refine aw_cond rfl (fun hb4 => ?_) (fun hb4 => ?_)
  ·replace h := bif_t hb4 h
   refine aw_sr ?_
   refine al_as rfl rfl ?_
   refine al_as rfl rfl ?_
   refine al_nt ?_
   refine aw_ret ?_
   refine aq_block_ret ?_
   refine aq_then_ret ?_
   refine aq_nilR 32 tyS_api_Place ?_
   obtain rfl := Option.some.inj h
   exact fn_ret nS [0] [] rfl rfl rfl rfl (res2 rfl rfl rfl) rfl rfl rfl (by decide)
  ·replace h := bif_f hb4 h
   refine aw_skip ?_
   refine aq_block ?_
   refine aq_tr ?_
   refine al_as rfl rfl ?_
   refine al_nt ?_
   obtain ⟨kk6, hkk6, h⟩ := lt_some h
   refine aw_seq_join (ι := Value × (List S_api_Place)) (fun i => (memOf w0 Z0 [] [(oRow i.1 32 tyS_api_Place i.2)] [(fDat (tyList tyS_api_Entry) [v1_0] a1)])) (fun i => (tab [(6, i.1)])) (fun i => kk6 i.2 = some r) ?_ ?_
   ·rintro ⟨j5v6, j5x6⟩ h
    have h : kk6 j5x6 = some r := h
    rw [hkk6] at h
    dsimp only at h
    clear hkk6
    refine aw_show (m := (memOf w0 Z0 [] [(oRow j5v6 32 tyS_api_Place j5x6)] [(fDat (tyList tyS_api_Entry) [v1_0] a1)])) (S := (tab [(6, j5v6)])) ?_
    refine aw_sr ?_
    refine al_mv rfl rfl ?_
    obtain ⟨r8, hc7, h⟩ := opt_some h
    refine al_call (vs := [j5v6]) (f_index_sorted_own_ok fu j5v6 j5x6 hc7) [] [0] [] pre_nil rfl (by simp) (by decide) (.inl rfl) rfl Try.func57 rfl rfl rfl (fun v9 => ?_)
    refine al_as rfl rfl ?_
    refine al_as rfl rfl ?_
    refine al_nt ?_
    refine aw_ret ?_
    obtain rfl := Option.some.inj h
    exact fn_ret v9 [0] [] rfl rfl rfl rfl (res2 rfl rfl rfl) rfl rfl rfl (by decide)
   ·clear hkk6
    refine aw_sr ?_
    refine al_mv rfl rfl ?_
    refine al_val (ov_lenD 0 rfl rfl Try.underlying23 rfl) ?_
    refine al_mv rfl rfl ?_
    refine al_nt ?_
    refine aw_block ?_
    refine aw_nilR 32 tyS_api_Place ?_
    refine aw_state (aw_loop (ι := Value × (List S_api_Place) × Int) (fun i => (memOf w0 Z0 [] [(oRow i.1 32 tyS_api_Place i.2.1)] [(fDat (tyList tyS_api_Entry) [v1_0] a1)])) (fun i => (tab [(0, (iq a0)), (6, i.1), (19, v1_0), (20, (iq (a1.length : Int))), (21, (iq i.2.2))])) (fun q i => f_index_Of_L12 a0 a1 kk6 fu q i.2.1 i.2.2 = some r) ?_ fu (nS, ([] : List S_api_Place), (0 : Int)) h) (fun w a hm hs => norm hm hs [0] [0] [(0, (iq a0)), (6, nS), (19, v1_0), (20, (iq (a1.length : Int))), (21, (iq (0 : Int)))] (by decide) ⟨rfl, rfl, rfl, rfl, rfl, trivial⟩)
    clear h
    rintro k11 ⟨l10v6, l10x6, l10i21⟩ h
    have h : f_index_Of_L12 a0 a1 kk6 fu k11 l10x6 l10i21 = some r := h
    obtain _ | k11 := k11
    · rw [f_index_Of_L12] at h; cases h
    rw [f_index_Of_L12] at h
    refine aw_show (m := (memOf w0 Z0 [] [(oRow l10v6 32 tyS_api_Place l10x6)] [(fDat (tyList tyS_api_Entry) [v1_0] a1)])) (S := (tab [(0, (iq a0)), (6, l10v6), (19, v1_0), (20, (iq (a1.length : Int))), (21, (iq l10i21))])) ?_
    refine aw_sr ?_
    refine al_in rfl rfl rfl rfl ?_
    refine al_nt ?_
    refine aw_seq ?_
    refine aw_cond rfl (fun hb13 => ?_) (fun hb13 => ?_)
    ·replace h := bif_t hb13 h
     refine aw_skip ?_
     refine aq_then ?_
     refine aw_seq ?_
     refine aw_block ?_
     refine aw_sr ?_
     obtain ⟨u14, hu15, h⟩ := opt_some h
     refine al_idxD 0 hu15 rfl rfl rfl Try.underlying23 sz123 rfl (fun p16 => ?_)
     refine al_val (ov_loadP (ds := ((cA8u8 u14.ID) ++ [(iq u14.Kind), (iq u14.At), (iq u14.Len)])) 0 rfl encS_api_Entry rfl Try.underlying123 sz123 rfl rfl rfl) ?_
     refine al_alloc (zs := ((cA8u8 (A8u8.mk (0 : UInt8) (0 : UInt8) (0 : UInt8) (0 : UInt8) (0 : UInt8) (0 : UInt8) (0 : UInt8) (0 : UInt8))) ++ [(iq (0 : Int)), (iq (0 : Int)), (iq (0 : Int))])) (zeroOf_to to123) rfl rfl (fun g17 => ?_)
     refine al_store (i := 0) (vs := ((cA8u8 u14.ID) ++ [(iq u14.Kind), (iq u14.At), (iq u14.Len)])) (cs' := ((cA8u8 u14.ID) ++ [(iq u14.Kind), (iq u14.At), (iq u14.Len)])) rfl rfl rfl sz123 (cv_rfl rfl) rfl (co_app (oneA8u8 u14.ID) (co_val rfl (co_val rfl (co_val rfl co_nil)))) (Nat.le_of_ble_eq_true rfl) rfl rfl ?_
     refine al_nt ?_
     refine aw_sr ?_
     refine al_val (ov_fieldA (p := 0) rfl Try.underlying123 rfl sz30 rfl rfl rfl) ?_
     refine al_val (ov_load (i := 0) (v := (ag (cA8u8 u14.ID))) rfl rfl Try.underlying30 sz30 rfl rfl rfl rfl) ?_
     refine al_val (ov_fieldA (p := 8) rfl Try.underlying123 rfl sz3 rfl rfl rfl) ?_
     refine al_val (ov_load (i := 0) (v := (iq u14.Kind)) rfl rfl Try.underlying3 sz3 rfl rfl rfl rfl) ?_
     refine al_mv rfl rfl ?_
     refine al_val (ov_fieldA (p := 9) rfl Try.underlying123 rfl sz3 rfl rfl rfl) ?_
     refine al_val (ov_load (i := 0) (v := (iq u14.At)) rfl rfl Try.underlying3 sz3 rfl rfl rfl rfl) ?_
     refine al_val (ov_fieldA (p := 10) rfl Try.underlying123 rfl sz3 rfl rfl rfl) ?_
     refine al_val (ov_load (i := 0) (v := (iq u14.Len)) rfl rfl Try.underlying3 sz3 rfl rfl rfl rfl) ?_
     refine al_val (ov_build (cells := (((cA8u8 u14.ID) ++ [(iq u14.Kind), (iq a0), (iq u14.At), (iq u14.Len)])).toArray) (cs := ((cA8u8 u14.ID) ++ [(iq u14.Kind), (iq a0), (iq u14.At), (iq u14.Len)])) rfl (fun w a hm hs => by simp only [List.map_toArray, List.map_cons, List.map_nil, List.toList_toArray, hs.ev (x := .tmp 26) rfl, hs.ev (x := .tmp 28) rfl, hs.ev (x := .tmp 29) rfl, hs.ev (x := .tmp 31) rfl, hs.ev (x := .tmp 33) rfl]; kernel_rfl)) ?_
     refine al_alloc (zs := ((cA8u8 (A8u8.mk (0 : UInt8) (0 : UInt8) (0 : UInt8) (0 : UInt8) (0 : UInt8) (0 : UInt8) (0 : UInt8) (0 : UInt8))) ++ [(iq (0 : Int)), (iq (0 : Int)), (iq (0 : Int)), (iq (0 : Int))])) (zeroOf_to to32) rfl rfl (fun g18 => ?_)
     refine al_store (i := 0) (vs := ((cA8u8 u14.ID) ++ [(iq u14.Kind), (iq a0), (iq u14.At), (iq u14.Len)])) (cs' := ((cA8u8 u14.ID) ++ [(iq u14.Kind), (iq a0), (iq u14.At), (iq u14.Len)])) rfl rfl rfl sz32 (cv_rfl rfl) rfl (co_app (oneA8u8 u14.ID) (co_val rfl (co_val rfl (co_val rfl (co_val rfl co_nil))))) (Nat.le_of_ble_eq_true rfl) rfl rfl ?_
     refine al_nt ?_
     refine aw_seq ?_
     refine aw_sr ?_
     refine al_val (ov_load (i := 0) (v := (ag ((cA8u8 u14.ID) ++ [(iq u14.Kind), (iq a0), (iq u14.At), (iq u14.Len)]))) rfl rfl Try.underlying32 sz32 rfl rfl rfl rfl) ?_
     obtain ⟨r20, hc19, h⟩ := opt_some h
     refine al_call (vs := [(ag ((cA8u8 u14.ID) ++ [(iq u14.Kind), (iq a0), (iq u14.At), (iq u14.Len)]))]) (f_index_place_ok fu (S_api_Place.mk u14.ID u14.Kind a0 u14.At u14.Len) hc19) [] [] [0, 1, 2] pre_nil rfl (by simp) (by decide) (.inl rfl) rfl Try.func63 rfl rfl rfl (fun _ => ?_)
     refine al_as rfl rfl ?_
     refine al_nt ?_
     refine aw_sr ?_
     refine al_mv rfl rfl ?_
     refine al_in rfl rfl rfl rfl ?_
     refine al_nt ?_
     refine aw_cond rfl (fun hb21 => ?_) (fun hb21 => ?_)
     ·replace h := bif_t hb21 h
      refine aw_sr ?_
      refine al_mv rfl rfl ?_
      refine al_as rfl rfl ?_
      refine al_as rfl rfl ?_
      refine al_nt ?_
      refine aw_ret ?_
      refine aq_then_ret ?_
      refine aq_block_ret ?_
      refine aq_then_ret ?_
      refine aq_then_ret ?_
      refine aq_block_ret ?_
      refine aq_then_ret ?_
      refine aq_nilR 32 tyS_api_Place ?_
      obtain rfl := Option.some.inj h
      exact fn_ret nS [0] [] rfl rfl rfl rfl (res2 rfl rfl rfl) rfl rfl rfl (by decide)
     ·replace h := bif_f hb21 h
      refine aw_skip ?_
      refine aq_then ?_
      refine aw_region ?_
      refine al_mv rfl rfl ?_
      refine al_val (ov_load (i := 0) (v := (ag ((cA8u8 u14.ID) ++ [(iq u14.Kind), (iq a0), (iq u14.At), (iq u14.Len)]))) rfl rfl Try.underlying32 sz32 rfl rfl rfl rfl) ?_
      refine al_buildSlice (τ := tyS_api_Place) (e := 32) (k := 1) (sz := 0) (by_ := 0) (z := undef) (cs := ((cA8u8 u14.ID) ++ [(iq u14.Kind), (iq a0), (iq u14.At), (iq u14.Len)])) (xs := [(S_api_Place.mk u14.ID u14.Kind a0 u14.At u14.Len)]) rfl (by decide) (fun w a hm hs => ⟨(((cA8u8 u14.ID) ++ [(iq u14.Kind), (iq a0), (iq u14.At), (iq u14.Len)])).toArray, rfl, by simp only [List.map_toArray, List.map_cons, List.map_nil, hs.ev (x := .tmp 41) rfl]; exact run_bs [(ag ((cA8u8 u14.ID) ++ [(iq u14.Kind), (iq a0), (iq u14.At), (iq u14.Len)]))] ((cA8u8 u14.ID) ++ [(iq u14.Kind), (iq a0), (iq u14.At), (iq u14.Len)]) Try.underlying22 to32 rfl rfl (bs_cons (l := ((cA8u8 u14.ID) ++ [(iq u14.Kind), (iq a0), (iq u14.At), (iq u14.Len)])) (cs := []) (cv_rfl rfl) rfl bs_nil) hm⟩) (fun hm => ⟨((cA8u8 u14.ID) ++ [(iq u14.Kind), (iq a0), (iq u14.At), (iq u14.Len)]), [], rfl, mkS_api_Place rfl, rfl⟩) rfl (fun v22 => ?_)
      obtain ⟨hc23, h⟩ := req_some h
      refine al_append 3 hc23.1 hc23.2 rfl (src_own (i := 3) 0 rfl) rfl rfl Try.underlying22 to32 rfl rfl rfl (fun v24 => ?_)
      refine al_as rfl rfl ?_
      refine al_nil ?_
      refine aq_block ?_
      refine aq_then ?_
      refine aw_region ?_
      refine al_in rfl rfl rfl rfl ?_
      refine al_mv rfl rfl ?_
      refine al_nil ?_
      exact aq_again k11 (v24, (l10x6 ++ ([(S_api_Place.mk u14.ID u14.Kind a0 u14.At u14.Len)])), (wq (l10i21 + (1 : Int)))) (Nat.lt_succ_self _) h (fun w a hm hs => norm hm hs [3] [1] [(0, (iq a0)), (6, v24), (19, v1_0), (20, (iq (a1.length : Int))), (21, (iq (wq (l10i21 + (1 : Int)))))] (by decide) ⟨rfl, rfl, rfl, rfl, rfl, trivial⟩)
    ·replace h := bif_f hb13 h
     refine aw_exit ?_
     refine aq_then_exit ?_
     refine aq_then_exit ?_
     refine aq_block_exit ?_
     exact aq_join (l10v6, l10x6) h (fun w a hm hs => norm hm hs [0] [0] [(6, l10v6)] (by decide) ⟨rfl, trivial⟩)
def f_lumref_IndexOf_L9 (a0 : Int) (a1 : (List S_api_Entry)) (kk6 : ((List S_api_Place) → Option ((List S_api_Place) × Int))) (fu : Nat) : Nat → (List S_api_Place) → Int → Option ((List S_api_Place) × Int)
  | 0, _, _ => none
  | k8 + 1, l7x6, l7i22 => (bif (decide (l7i22 < (a1.length : Int))) then (opt (at? a1 l7i22) fun (u11 : S_api_Entry) => (opt (f_lumref_placeErr fu (S_api_Place.mk u11.ID u11.Kind a0 u11.At u11.Len)) fun (r17 : Int) => (bif (r17 != (0 : Int)) then (some (([] : List S_api_Place), r17)) else (opt (f_lumref_put fu l7x6 (S_api_Place.mk u11.ID u11.Kind a0 u11.At u11.Len)) fun (r20 : (List S_api_Place)) => (f_lumref_IndexOf_L9 a0 a1 kk6 fu k8 r20 (IntKind.i64.wrap (l7i22 + (1 : Int)))))))) else (kk6 l7x6))
def f_lumref_IndexOf (fu : Nat) (a0 : Int) (a1 : (List S_api_Entry)) : Option ((List S_api_Place) × Int) := (lt (fun (j1b16 : Bool) => (bif j1b16 then (some (([] : List S_api_Place), (1 : Int))) else (bif (decide ((a1.length : Int) > (400 : Int))) then (some (([] : List S_api_Place), (2 : Int))) else (lt (fun (j5x6 : (List S_api_Place)) => (some (j5x6, (0 : Int)))) fun (kk6 : (List S_api_Place) → Option ((List S_api_Place) × Int)) => (f_lumref_IndexOf_L9 a0 a1 kk6 fu fu ([] : List S_api_Place) (0 : Int)))))) fun (kk2 : Bool → Option ((List S_api_Place) × Int)) => (bif (decide (a0 < (0 : Int))) then (kk2 true) else (kk2 (decide (a0 > (1099511627776 : Int))))))
set_option maxHeartbeats 2000000 in
set_option maxRecDepth 100000 in
theorem f_lumref_IndexOf_ok (fu : Nat) (a0 : Int) (v1_0 : Value) (a1 : (List S_api_Entry)) {r : ((List S_api_Place) × Int)} (h : f_lumref_IndexOf fu a0 a1 = some r) : FnOk Try.prog 13 [(int .i64 a0), v1_0] [(fDat (tyList tyS_api_Entry) [v1_0] a1)] [] (fun (i : Value) => { val := (Value.tuple #[i, (int .i64 r.2)]), own := [(oRow i 32 tyS_api_Place r.1)] }) := by
 unfold f_lumref_IndexOf at h
 refine fn_enter Try.func13 rfl Try.ntmps13 rfl (fun w0 Z0 => ?_)
 refine aw_sr ?_
 refine al_as rfl rfl ?_
 refine al_as rfl rfl ?_
 refine al_nt ?_
 refine aw_seq ?_
 obtain ⟨kk2, hkk2, h⟩ := lt_some h
 refine aw_seq_join (ι := Bool) (fun i => (memOf w0 Z0 [] [] [(fDat (tyList tyS_api_Entry) [v1_0] a1)])) (fun i => (tab [(0, (iq a0)), (1, v1_0), (16, (bool i))])) (fun i => kk2 i = some r) ?_ ?_
 ·rintro j1b16 h
  have h : kk2 j1b16 = some r := h
  rw [hkk2] at h
  dsimp only at h
  clear hkk2
  refine aw_show (m := (memOf w0 Z0 [] [] [(fDat (tyList tyS_api_Entry) [v1_0] a1)])) (S := (tab [(0, (iq a0)), (1, v1_0), (16, (bool j1b16))])) ?_
  refine aw_cond rfl (fun hb3 => ?_) (fun hb3 => ?_)
  ·replace h := bif_t hb3 h
   refine aw_sr ?_
   refine al_as rfl rfl ?_
   refine al_as rfl rfl ?_
   refine al_nt ?_
   refine aw_ret ?_
   refine aq_then_ret ?_
   refine aq_nilR 32 tyS_api_Place ?_
   obtain rfl := Option.some.inj h
   exact fn_ret nS [0] [] rfl rfl rfl rfl (res2 rfl rfl rfl) rfl rfl rfl (by decide)
  ·replace h := bif_f hb3 h
   refine aw_skip ?_
   refine aq_then ?_
   refine aw_seq ?_
   refine aw_sr ?_
   refine al_mv rfl rfl ?_
   refine al_val (ov_lenD 0 rfl rfl Try.underlying23 rfl) ?_
   refine al_in rfl rfl rfl rfl ?_
   refine al_nt ?_
   refine aw_cond rfl (fun hb4 => ?_) (fun hb4 => ?_)
   ·replace h := bif_t hb4 h
    refine aw_sr ?_
    refine al_as rfl rfl ?_
    refine al_as rfl rfl ?_
    refine al_nt ?_
    refine aw_ret ?_
    refine aq_then_ret ?_
    refine aq_nilR 32 tyS_api_Place ?_
    obtain rfl := Option.some.inj h
    exact fn_ret nS [0] [] rfl rfl rfl rfl (res2 rfl rfl rfl) rfl rfl rfl (by decide)
   ·replace h := bif_f hb4 h
    refine aw_skip ?_
    refine aq_tr ?_
    refine al_as rfl rfl ?_
    refine al_nt ?_
    obtain ⟨kk6, hkk6, h⟩ := lt_some h
    refine aw_seq_join (ι := Value × (List S_api_Place)) (fun i => (memOf w0 Z0 [] [(oRow i.1 32 tyS_api_Place i.2)] [(fDat (tyList tyS_api_Entry) [v1_0] a1)])) (fun i => (tab [(6, i.1)])) (fun i => kk6 i.2 = some r) ?_ ?_
    ·rintro ⟨j5v6, j5x6⟩ h
     have h : kk6 j5x6 = some r := h
     rw [hkk6] at h
     dsimp only at h
     clear hkk6
     refine aw_show (m := (memOf w0 Z0 [] [(oRow j5v6 32 tyS_api_Place j5x6)] [(fDat (tyList tyS_api_Entry) [v1_0] a1)])) (S := (tab [(6, j5v6)])) ?_
     refine aw_sr ?_
     refine al_mv rfl rfl ?_
     refine al_as rfl rfl ?_
     refine al_as rfl rfl ?_
     refine al_nt ?_
     refine aw_ret ?_
     obtain rfl := Option.some.inj h
     exact fn_ret j5v6 [0] [] rfl rfl rfl rfl (res2 rfl rfl rfl) rfl rfl rfl (by decide)
    ·clear hkk6
     refine aw_sr ?_
     refine al_mv rfl rfl ?_
     refine al_val (ov_lenD 0 rfl rfl Try.underlying23 rfl) ?_
     refine al_mv rfl rfl ?_
     refine al_nt ?_
     refine aw_block ?_
     refine aw_nilR 32 tyS_api_Place ?_
     refine aw_state (aw_loop (ι := Value × (List S_api_Place) × Int) (fun i => (memOf w0 Z0 [] [(oRow i.1 32 tyS_api_Place i.2.1)] [(fDat (tyList tyS_api_Entry) [v1_0] a1)])) (fun i => (tab [(0, (iq a0)), (6, i.1), (20, v1_0), (21, (iq (a1.length : Int))), (22, (iq i.2.2))])) (fun q i => f_lumref_IndexOf_L9 a0 a1 kk6 fu q i.2.1 i.2.2 = some r) ?_ fu (nS, ([] : List S_api_Place), (0 : Int)) h) (fun w a hm hs => norm hm hs [0] [0] [(0, (iq a0)), (6, nS), (20, v1_0), (21, (iq (a1.length : Int))), (22, (iq (0 : Int)))] (by decide) ⟨rfl, rfl, rfl, rfl, rfl, trivial⟩)
     clear h
     rintro k8 ⟨l7v6, l7x6, l7i22⟩ h
     have h : f_lumref_IndexOf_L9 a0 a1 kk6 fu k8 l7x6 l7i22 = some r := h
     obtain _ | k8 := k8
     · rw [f_lumref_IndexOf_L9] at h; cases h
     rw [f_lumref_IndexOf_L9] at h
     refine aw_show (m := (memOf w0 Z0 [] [(oRow l7v6 32 tyS_api_Place l7x6)] [(fDat (tyList tyS_api_Entry) [v1_0] a1)])) (S := (tab [(0, (iq a0)), (6, l7v6), (20, v1_0), (21, (iq (a1.length : Int))), (22, (iq l7i22))])) ?_
     refine aw_sr ?_
     refine al_in rfl rfl rfl rfl ?_
     refine al_nt ?_
     refine aw_seq ?_
     refine aw_cond rfl (fun hb10 => ?_) (fun hb10 => ?_)
     ·replace h := bif_t hb10 h
      refine aw_skip ?_
      refine aq_then ?_
      refine aw_seq ?_
      refine aw_block ?_
      refine aw_sr ?_
      obtain ⟨u11, hu12, h⟩ := opt_some h
      refine al_idxD 0 hu12 rfl rfl rfl Try.underlying23 sz123 rfl (fun p13 => ?_)
      refine al_val (ov_loadP (ds := ((cA8u8 u11.ID) ++ [(iq u11.Kind), (iq u11.At), (iq u11.Len)])) 0 rfl encS_api_Entry rfl Try.underlying123 sz123 rfl rfl rfl) ?_
      refine al_alloc (zs := ((cA8u8 (A8u8.mk (0 : UInt8) (0 : UInt8) (0 : UInt8) (0 : UInt8) (0 : UInt8) (0 : UInt8) (0 : UInt8) (0 : UInt8))) ++ [(iq (0 : Int)), (iq (0 : Int)), (iq (0 : Int))])) (zeroOf_to to123) rfl rfl (fun g14 => ?_)
      refine al_store (i := 0) (vs := ((cA8u8 u11.ID) ++ [(iq u11.Kind), (iq u11.At), (iq u11.Len)])) (cs' := ((cA8u8 u11.ID) ++ [(iq u11.Kind), (iq u11.At), (iq u11.Len)])) rfl rfl rfl sz123 (cv_rfl rfl) rfl (co_app (oneA8u8 u11.ID) (co_val rfl (co_val rfl (co_val rfl co_nil)))) (Nat.le_of_ble_eq_true rfl) rfl rfl ?_
      refine al_nt ?_
      refine aw_sr ?_
      refine al_val (ov_fieldA (p := 0) rfl Try.underlying123 rfl sz30 rfl rfl rfl) ?_
      refine al_val (ov_load (i := 0) (v := (ag (cA8u8 u11.ID))) rfl rfl Try.underlying30 sz30 rfl rfl rfl rfl) ?_
      refine al_val (ov_fieldA (p := 8) rfl Try.underlying123 rfl sz3 rfl rfl rfl) ?_
      refine al_val (ov_load (i := 0) (v := (iq u11.Kind)) rfl rfl Try.underlying3 sz3 rfl rfl rfl rfl) ?_
      refine al_mv rfl rfl ?_
      refine al_val (ov_fieldA (p := 9) rfl Try.underlying123 rfl sz3 rfl rfl rfl) ?_
      refine al_val (ov_load (i := 0) (v := (iq u11.At)) rfl rfl Try.underlying3 sz3 rfl rfl rfl rfl) ?_
      refine al_val (ov_fieldA (p := 10) rfl Try.underlying123 rfl sz3 rfl rfl rfl) ?_
      refine al_val (ov_load (i := 0) (v := (iq u11.Len)) rfl rfl Try.underlying3 sz3 rfl rfl rfl rfl) ?_
      refine al_val (ov_build (cells := (((cA8u8 u11.ID) ++ [(iq u11.Kind), (iq a0), (iq u11.At), (iq u11.Len)])).toArray) (cs := ((cA8u8 u11.ID) ++ [(iq u11.Kind), (iq a0), (iq u11.At), (iq u11.Len)])) rfl (fun w a hm hs => by simp only [List.map_toArray, List.map_cons, List.map_nil, List.toList_toArray, hs.ev (x := .tmp 27) rfl, hs.ev (x := .tmp 29) rfl, hs.ev (x := .tmp 30) rfl, hs.ev (x := .tmp 32) rfl, hs.ev (x := .tmp 34) rfl]; kernel_rfl)) ?_
      refine al_alloc (zs := ((cA8u8 (A8u8.mk (0 : UInt8) (0 : UInt8) (0 : UInt8) (0 : UInt8) (0 : UInt8) (0 : UInt8) (0 : UInt8) (0 : UInt8))) ++ [(iq (0 : Int)), (iq (0 : Int)), (iq (0 : Int)), (iq (0 : Int))])) (zeroOf_to to32) rfl rfl (fun g15 => ?_)
      refine al_store (i := 0) (vs := ((cA8u8 u11.ID) ++ [(iq u11.Kind), (iq a0), (iq u11.At), (iq u11.Len)])) (cs' := ((cA8u8 u11.ID) ++ [(iq u11.Kind), (iq a0), (iq u11.At), (iq u11.Len)])) rfl rfl rfl sz32 (cv_rfl rfl) rfl (co_app (oneA8u8 u11.ID) (co_val rfl (co_val rfl (co_val rfl (co_val rfl co_nil))))) (Nat.le_of_ble_eq_true rfl) rfl rfl ?_
      refine al_nt ?_
      refine aw_seq ?_
      refine aw_sr ?_
      refine al_val (ov_load (i := 0) (v := (ag ((cA8u8 u11.ID) ++ [(iq u11.Kind), (iq a0), (iq u11.At), (iq u11.Len)]))) rfl rfl Try.underlying32 sz32 rfl rfl rfl rfl) ?_
      obtain ⟨r17, hc16, h⟩ := opt_some h
      refine al_call (vs := [(ag ((cA8u8 u11.ID) ++ [(iq u11.Kind), (iq a0), (iq u11.At), (iq u11.Len)]))]) (f_lumref_placeErr_ok fu (S_api_Place.mk u11.ID u11.Kind a0 u11.At u11.Len) hc16) [] [] [0, 1, 2] pre_nil rfl (by simp) (by decide) (.inl rfl) rfl Try.func64 rfl rfl rfl (fun _ => ?_)
      refine al_as rfl rfl ?_
      refine al_nt ?_
      refine aw_sr ?_
      refine al_mv rfl rfl ?_
      refine al_in rfl rfl rfl rfl ?_
      refine al_nt ?_
      refine aw_cond rfl (fun hb18 => ?_) (fun hb18 => ?_)
      ·replace h := bif_t hb18 h
       refine aw_sr ?_
       refine al_mv rfl rfl ?_
       refine al_as rfl rfl ?_
       refine al_as rfl rfl ?_
       refine al_nt ?_
       refine aw_ret ?_
       refine aq_then_ret ?_
       refine aq_block_ret ?_
       refine aq_then_ret ?_
       refine aq_then_ret ?_
       refine aq_block_ret ?_
       refine aq_then_ret ?_
       refine aq_nilR 32 tyS_api_Place ?_
       obtain rfl := Option.some.inj h
       exact fn_ret nS [0] [] rfl rfl rfl rfl (res2 rfl rfl rfl) rfl rfl rfl (by decide)
      ·replace h := bif_f hb18 h
       refine aw_skip ?_
       refine aq_then ?_
       refine aw_region ?_
       refine al_mv rfl rfl ?_
       refine al_val (ov_load (i := 0) (v := (ag ((cA8u8 u11.ID) ++ [(iq u11.Kind), (iq a0), (iq u11.At), (iq u11.Len)]))) rfl rfl Try.underlying32 sz32 rfl rfl rfl rfl) ?_
       obtain ⟨r20, hc19, h⟩ := opt_some h
       refine al_call (vs := [l7v6, (ag ((cA8u8 u11.ID) ++ [(iq u11.Kind), (iq a0), (iq u11.At), (iq u11.Len)]))]) (f_lumref_put_ok fu l7v6 l7x6 (S_api_Place.mk u11.ID u11.Kind a0 u11.At u11.Len) hc19) [2] [] [0, 1, 2] (pre_own 2 rfl rfl pre_nil) rfl (by simp) (by decide) (.inr (flat_res1 (fun _ => flat_row flatS_api_Place))) rfl Try.func61 rfl rfl rfl (fun v21 => ?_)
       refine al_as rfl rfl ?_
       refine al_nil ?_
       refine aq_block ?_
       refine aq_then ?_
       refine aw_region ?_
       refine al_in rfl rfl rfl rfl ?_
       refine al_mv rfl rfl ?_
       refine al_nil ?_
       exact aq_again k8 (v21, r20, (wq (l7i22 + (1 : Int)))) (Nat.lt_succ_self _) h (fun w a hm hs => norm hm hs [0] [1] [(0, (iq a0)), (6, v21), (20, v1_0), (21, (iq (a1.length : Int))), (22, (iq (wq (l7i22 + (1 : Int)))))] (by decide) ⟨rfl, rfl, rfl, rfl, rfl, trivial⟩)
     ·replace h := bif_f hb10 h
      refine aw_exit ?_
      refine aq_then_exit ?_
      refine aq_then_exit ?_
      refine aq_block_exit ?_
      exact aq_join (l7v6, l7x6) h (fun w a hm hs => norm hm hs [0] [0] [(6, l7v6)] (by decide) ⟨rfl, trivial⟩)
 ·clear hkk2
  refine aw_region ?_
  refine al_mv rfl rfl ?_
  refine al_in rfl rfl rfl rfl ?_
  refine al_mv rfl rfl ?_
  refine al_caseB 13 rfl (fun hb22 => ?_) (fun hb22 => ?_)
  ·replace h := bif_t hb22 h
   refine al_skip ?_
   refine al_skip ?_
   refine al_val (ov_pick_t rfl rfl rfl) ?_
   refine al_nil ?_
   exact aq_join true h (fun w a hm hs => norm hm hs [] [0] [(0, (iq a0)), (1, v1_0), (16, (bool true))] (by decide) ⟨rfl, rfl, rfl, trivial⟩)
  ·replace h := bif_f hb22 h
   refine al_mv rfl rfl ?_
   refine al_in rfl rfl rfl rfl ?_
   refine al_val (ov_pick_f rfl rfl rfl) ?_
   refine al_nil ?_
   exact aq_join (decide (a0 > (1099511627776 : Int))) h (fun w a hm hs => norm hm hs [] [0] [(0, (iq a0)), (1, v1_0), (16, (bool (decide (a0 > (1099511627776 : Int)))))] (by decide) ⟨rfl, rfl, rfl, trivial⟩)
def f_slices_Equal___api_Place_api_Place__L6 (a0 : (List S_api_Place)) (a1 : (List S_api_Place)) (kk3 : (Unit → Option Bool)) : Nat → Int → Option Bool
  | 0, _ => none
  | k5 + 1, l4i13 => (bif (decide (l4i13 < (a0.length : Int))) then (opt (at? a0 l4i13) fun (u8 : S_api_Place) => (opt (at? a1 l4i13) fun (u11 : S_api_Place) => (req ((Lit.int .i64 u8.Kind).wf = true) (req ((Lit.int .i64 u8.Pack).wf = true) (req ((Lit.int .i64 u8.At).wf = true) (req ((Lit.int .i64 u8.Len).wf = true) (req ((Lit.int .i64 u11.Kind).wf = true) (req ((Lit.int .i64 u11.Pack).wf = true) (req ((Lit.int .i64 u11.At).wf = true) (req ((Lit.int .i64 u11.Len).wf = true) (bif (!(u8 == u11)) then (some false) else (f_slices_Equal___api_Place_api_Place__L6 a0 a1 kk3 k5 (IntKind.i64.wrap (l4i13 + (1 : Int))))))))))))))) else (kk3 ()))
def f_slices_Equal___api_Place_api_Place_ (fu : Nat) (a0 : (List S_api_Place)) (a1 : (List S_api_Place)) : Option Bool := (bif ((a0.length : Int) != (a1.length : Int)) then (some false) else (lt (fun (_ : Unit) => (some true)) fun (kk3 : Unit → Option Bool) => (f_slices_Equal___api_Place_api_Place__L6 a0 a1 kk3 fu (0 : Int))))
set_option maxHeartbeats 2000000 in
set_option maxRecDepth 100000 in
theorem f_slices_Equal___api_Place_api_Place__ok (fu : Nat) (v0_0 : Value) (a0 : (List S_api_Place)) (v1_0 : Value) (a1 : (List S_api_Place)) {r : Bool} (h : f_slices_Equal___api_Place_api_Place_ fu a0 a1 = some r) : FnOk Try.prog 14 [v0_0, v1_0] [(fDat (tyList tyS_api_Place) [v0_0] a0), (fDat (tyList tyS_api_Place) [v1_0] a1)] [] (fun (i : Unit) => { val := (bool r) }) := by
 unfold f_slices_Equal___api_Place_api_Place_ at h
 refine fn_enter Try.func14 rfl Try.ntmps14 rfl (fun w0 Z0 => ?_)
 refine aw_sr ?_
 refine al_as rfl rfl ?_
 refine al_nt ?_
 refine aw_seq ?_
 refine aw_sr ?_
 refine al_mv rfl rfl ?_
 refine al_val (ov_lenD 0 rfl rfl Try.underlying22 rfl) ?_
 refine al_mv rfl rfl ?_
 refine al_val (ov_lenD 1 rfl rfl Try.underlying22 rfl) ?_
 refine al_in rfl rfl rfl rfl ?_
 refine al_nt ?_
 refine aw_cond rfl (fun hb1 => ?_) (fun hb1 => ?_)
 ·replace h := bif_t hb1 h
  refine aw_sr ?_
  refine al_as rfl rfl ?_
  refine al_nt ?_
  refine aw_ret ?_
  refine aq_then_ret ?_
  obtain rfl := Option.some.inj h
  exact fn_ret () [] [] rfl rfl rfl rfl (res1 rfl rfl) rfl rfl rfl (by decide)
 ·replace h := bif_f hb1 h
  refine aw_skip ?_
  refine aq_then ?_
  obtain ⟨kk3, hkk3, h⟩ := lt_some h
  refine aw_seq_join (ι := Unit) (fun i => (memOf w0 Z0 [] [] [(fDat (tyList tyS_api_Place) [v0_0] a0), (fDat (tyList tyS_api_Place) [v1_0] a1)])) (fun i => (tab [])) (fun i => kk3 () = some r) ?_ ?_
  ·rintro _ h
   have h : kk3 () = some r := h
   rw [hkk3] at h
   dsimp only at h
   clear hkk3
   refine aw_show (m := (memOf w0 Z0 [] [] [(fDat (tyList tyS_api_Place) [v0_0] a0), (fDat (tyList tyS_api_Place) [v1_0] a1)])) (S := (tab [])) ?_
   refine aw_sr ?_
   refine al_as rfl rfl ?_
   refine al_nt ?_
   refine aw_ret ?_
   obtain rfl := Option.some.inj h
   exact fn_ret () [] [] rfl rfl rfl rfl (res1 rfl rfl) rfl rfl rfl (by decide)
  ·clear hkk3
   refine aw_sr ?_
   refine al_mv rfl rfl ?_
   refine al_val (ov_lenD 0 rfl rfl Try.underlying22 rfl) ?_
   refine al_mv rfl rfl ?_
   refine al_nt ?_
   refine aw_block ?_
   refine aw_state (aw_loop (ι := Int) (fun i => (memOf w0 Z0 [] [] [(fDat (tyList tyS_api_Place) [v0_0] a0), (fDat (tyList tyS_api_Place) [v1_0] a1)])) (fun i => (tab [(0, v0_0), (1, v1_0), (12, (iq (a0.length : Int))), (13, (iq i))])) (fun q i => f_slices_Equal___api_Place_api_Place__L6 a0 a1 kk3 q i = some r) ?_ fu (0 : Int) h) (fun w a hm hs => norm hm hs [] [0, 1] [(0, v0_0), (1, v1_0), (12, (iq (a0.length : Int))), (13, (iq (0 : Int)))] (by decide) ⟨rfl, rfl, rfl, rfl, trivial⟩)
   clear h
   rintro k5 l4i13 h
   have h : f_slices_Equal___api_Place_api_Place__L6 a0 a1 kk3 k5 l4i13 = some r := h
   obtain _ | k5 := k5
   · rw [f_slices_Equal___api_Place_api_Place__L6] at h; cases h
   rw [f_slices_Equal___api_Place_api_Place__L6] at h
   refine aw_show (m := (memOf w0 Z0 [] [] [(fDat (tyList tyS_api_Place) [v0_0] a0), (fDat (tyList tyS_api_Place) [v1_0] a1)])) (S := (tab [(0, v0_0), (1, v1_0), (12, (iq (a0.length : Int))), (13, (iq l4i13))])) ?_
   refine aw_sr ?_
   refine al_in rfl rfl rfl rfl ?_
   refine al_nt ?_
   refine aw_seq ?_
   refine aw_cond rfl (fun hb7 => ?_) (fun hb7 => ?_)
   ·replace h := bif_t hb7 h
    refine aw_skip ?_
    refine aq_then ?_
    refine aw_seq ?_
    refine aw_block ?_
    refine aw_sr ?_
    refine al_mv rfl rfl ?_
    refine al_as rfl rfl ?_
    refine al_nt ?_
    refine aw_seq ?_
    obtain ⟨u8, hu9, h⟩ := opt_some h
    obtain ⟨u11, hu12, h⟩ := opt_some h
    refine aw_region_draw 8 [(16, (fun u => fEq u v0_0)), (17, (fun u => fEq u (iq l4i13))), (18, (fun p10 => (fPtr tyS_api_Place p10 u8))), (19, (fun u => fEq u (ag ((cA8u8 u8.ID) ++ [(iq u8.Kind), (iq u8.Pack), (iq u8.At), (iq u8.Len)])))), (20, (fun u => fEq u v1_0)), (21, (fun u => fEq u (iq l4i13))), (22, (fun p13 => (fPtr tyS_api_Place p13 u11))), (23, (fun u => fEq u (ag ((cA8u8 u11.ID) ++ [(iq u11.Kind), (iq u11.Pack), (iq u11.At), (iq u11.Len)]))))] (tab [(0, v0_0), (1, v1_0), (5, (iq l4i13)), (12, (iq (a0.length : Int))), (13, (iq l4i13))]) mixed (by kernel_rfl) rfl rfl rfl (fun a hs => hs.tab _ (allT_mem ⟨rfl, rfl, rfl, rfl, rfl, trivial⟩)) ⟨⟨rfl, ld_val (ov_move rfl rfl)⟩, ⟨rfl, ld_val (ov_move rfl rfl)⟩, ⟨rfl, ld_eq (j := 0) rfl rfl (ld_eq (j := 1) rfl rfl (ld_of (of_idxD 0 hu9 rfl rfl rfl Try.underlying22 sz32 rfl)))⟩, ⟨rfl, ld_fact (j := 2) rfl rfl (fun p10 => ld_val (ov_loadP (ds := ((cA8u8 u8.ID) ++ [(iq u8.Kind), (iq u8.Pack), (iq u8.At), (iq u8.Len)])) 0 rfl encS_api_Place rfl Try.underlying32 sz32 rfl rfl rfl))⟩, ⟨rfl, ld_val (ov_move rfl rfl)⟩, ⟨rfl, ld_val (ov_move rfl rfl)⟩, ⟨rfl, ld_eq (j := 4) rfl rfl (ld_eq (j := 5) rfl rfl (ld_of (of_idxD 1 hu12 rfl rfl rfl Try.underlying22 sz32 rfl)))⟩, ⟨rfl, ld_fact (j := 6) rfl rfl (fun p13 => ld_val (ov_loadP (ds := ((cA8u8 u11.ID) ++ [(iq u11.Kind), (iq u11.Pack), (iq u11.At), (iq u11.Len)])) 0 rfl encS_api_Place rfl Try.underlying32 sz32 rfl rfl rfl))⟩, trivial⟩ ?_
    refine tl_eq 3 rfl ?_
    refine tl_eq 7 rfl ?_
    refine tl_done ?_
    obtain ⟨hc14, h⟩ := req_some h
    obtain ⟨hc15, h⟩ := req_some h
    obtain ⟨hc16, h⟩ := req_some h
    obtain ⟨hc17, h⟩ := req_some h
    obtain ⟨hc18, h⟩ := req_some h
    obtain ⟨hc19, h⟩ := req_some h
    obtain ⟨hc20, h⟩ := req_some h
    obtain ⟨hc21, h⟩ := req_some h
    refine al_val (ov_neqA (cs := ((cA8u8 u8.ID) ++ [(iq u8.Kind), (iq u8.Pack), (iq u8.At), (iq u8.Len)])) (ds := ((cA8u8 u11.ID) ++ [(iq u11.Kind), (iq u11.Pack), (iq u11.At), (iq u11.Len)])) (ls := [5, 5, 5, 5, 5, 5, 5, 5, 3, 3, 3, 3]) (p := (u8 == u11)) eg32 kt32 lv32 rfl rfl (by kernel_rfl) (by kernel_rfl) (fit_cons (fit_u8 Try.underlying5) (fit_cons (fit_u8 Try.underlying5) (fit_cons (fit_u8 Try.underlying5) (fit_cons (fit_u8 Try.underlying5) (fit_cons (fit_u8 Try.underlying5) (fit_cons (fit_u8 Try.underlying5) (fit_cons (fit_u8 Try.underlying5) (fit_cons (fit_u8 Try.underlying5) (fit_cons (fit_int Try.underlying3 hc14) (fit_cons (fit_int Try.underlying3 hc15) (fit_cons (fit_int Try.underlying3 hc16) (fit_cons (fit_int Try.underlying3 hc17) fit_nil)))))))))))) (fit_cons (fit_u8 Try.underlying5) (fit_cons (fit_u8 Try.underlying5) (fit_cons (fit_u8 Try.underlying5) (fit_cons (fit_u8 Try.underlying5) (fit_cons (fit_u8 Try.underlying5) (fit_cons (fit_u8 Try.underlying5) (fit_cons (fit_u8 Try.underlying5) (fit_cons (fit_u8 Try.underlying5) (fit_cons (fit_int Try.underlying3 hc18) (fit_cons (fit_int Try.underlying3 hc19) (fit_cons (fit_int Try.underlying3 hc20) (fit_cons (fit_int Try.underlying3 hc21) fit_nil)))))))))))) (injS_api_Place (x := u8) (y := u11)) rfl) ?_
    refine al_nt ?_
    refine aw_cond rfl (fun hb22 => ?_) (fun hb22 => ?_)
    ·replace h := bif_t hb22 h
     refine aw_sr ?_
     refine al_as rfl rfl ?_
     refine al_nt ?_
     refine aw_ret ?_
     refine aq_block_ret ?_
     refine aq_then_ret ?_
     refine aq_then_ret ?_
     refine aq_block_ret ?_
     refine aq_then_ret ?_
     obtain rfl := Option.some.inj h
     exact fn_ret () [] [] rfl rfl rfl rfl (res1 rfl rfl) rfl rfl rfl (by decide)
    ·replace h := bif_f hb22 h
     refine aw_skip ?_
     refine aq_block ?_
     refine aq_then ?_
     refine aw_region ?_
     refine al_in rfl rfl rfl rfl ?_
     refine al_mv rfl rfl ?_
     refine al_nil ?_
     exact aq_again k5 (wq (l4i13 + (1 : Int))) (Nat.lt_succ_self _) h (fun w a hm hs => norm hm hs [] [0, 1] [(0, v0_0), (1, v1_0), (12, (iq (a0.length : Int))), (13, (iq (wq (l4i13 + (1 : Int)))))] (by decide) ⟨rfl, rfl, rfl, rfl, trivial⟩)
   ·replace h := bif_f hb7 h
    refine aw_exit ?_
    refine aq_then_exit ?_
    refine aq_then_exit ?_
    refine aq_block_exit ?_
    exact aq_join () h (fun w a hm hs => norm hm hs [] [0, 1] [] (by decide) trivial)
def f_lumlaw_IndexMerges (fu : Nat) (a0 : (List S_api_Place)) (a1 : (List S_api_Place)) (a2 : Int) (a3 : (List S_api_Entry)) : Option Bool := (opt (f_index_Merge fu a0 a1) fun (r2 : ((List S_api_Place) × Int)) => (opt (f_lumref_Merge fu a0 a1) fun (r5 : ((List S_api_Place) × Int)) => (opt (f_index_Of fu a2 a3) fun (r8 : ((List S_api_Place) × Int)) => (opt (f_lumref_IndexOf fu a2 a3) fun (r11 : ((List S_api_Place) × Int)) => (lt (fun (j13b8 : Bool) => (some j13b8)) fun (kk14 : Bool → Option Bool) => (opt (f_slices_Equal___api_Place_api_Place_ fu r2.1 r5.1) fun (r16 : Bool) => (bif r16 then (bif (r2.2 == r5.2) then (opt (f_slices_Equal___api_Place_api_Place_ fu r8.1 r11.1) fun (r20 : Bool) => (bif r20 then (kk14 (r8.2 == r11.2)) else (kk14 false))) else (kk14 false)) else (kk14 false))))))))
set_option maxHeartbeats 2000000 in
set_option maxRecDepth 100000 in
theorem f_lumlaw_IndexMerges_ok (fu : Nat) (v0_0 : Value) (a0 : (List S_api_Place)) (v1_0 : Value) (a1 : (List S_api_Place)) (a2 : Int) (v3_0 : Value) (a3 : (List S_api_Entry)) {r : Bool} (h : f_lumlaw_IndexMerges fu a0 a1 a2 a3 = some r) : FnOk Try.prog 3 [v0_0, v1_0, (int .i64 a2), v3_0] [(fDat (tyList tyS_api_Place) [v0_0] a0), (fDat (tyList tyS_api_Place) [v1_0] a1), (fDat (tyList tyS_api_Entry) [v3_0] a3)] [] (fun (i : Unit) => { val := (bool r) }) := by
 unfold f_lumlaw_IndexMerges at h
 refine fn_enter Try.func3 rfl Try.ntmps3 rfl (fun w0 Z0 => ?_)
 refine aw_sr ?_
 refine al_as rfl rfl ?_
 refine al_nt ?_
 refine aw_sr ?_
 refine al_mv rfl rfl ?_
 refine al_mv rfl rfl ?_
 obtain ⟨r2, hc1, h⟩ := opt_some h
 refine al_call (vs := [v0_0, v1_0]) (f_index_Merge_ok fu v0_0 a0 v1_0 a1 hc1) [] [] [] (pre_fz 0 rfl (pre_fz 1 rfl pre_nil)) rfl (by simp) (by decide) (.inl rfl) rfl Try.func10 rfl rfl rfl (fun v3 => ?_)
 refine al_mv rfl rfl ?_
 refine al_ex rfl rfl rfl ?_
 refine al_ex rfl rfl rfl ?_
 refine al_as rfl rfl ?_
 refine al_as rfl rfl ?_
 refine al_nt ?_
 refine aw_sr ?_
 refine al_mv rfl rfl ?_
 refine al_mv rfl rfl ?_
 obtain ⟨r5, hc4, h⟩ := opt_some h
 refine al_call (vs := [v0_0, v1_0]) (f_lumref_Merge_ok fu v0_0 a0 v1_0 a1 hc4) [] [] [0] (pre_fz 0 rfl (pre_fz 1 rfl pre_nil)) rfl (by simp) (by decide) (.inl rfl) rfl Try.func11 rfl rfl rfl (fun v6 => ?_)
 refine al_mv rfl rfl ?_
 refine al_ex rfl rfl rfl ?_
 refine al_ex rfl rfl rfl ?_
 refine al_as rfl rfl ?_
 refine al_as rfl rfl ?_
 refine al_nt ?_
 refine aw_sr ?_
 refine al_mv rfl rfl ?_
 refine al_mv rfl rfl ?_
 obtain ⟨r8, hc7, h⟩ := opt_some h
 refine al_call (vs := [(iq a2), v3_0]) (f_index_Of_ok fu a2 v3_0 a3 hc7) [] [] [0, 1] (pre_fz 2 rfl pre_nil) rfl (by simp) (by decide) (.inl rfl) rfl Try.func12 rfl rfl rfl (fun v9 => ?_)
 refine al_mv rfl rfl ?_
 refine al_ex rfl rfl rfl ?_
 refine al_ex rfl rfl rfl ?_
 refine al_as rfl rfl ?_
 refine al_as rfl rfl ?_
 refine al_nt ?_
 refine aw_sr ?_
 refine al_mv rfl rfl ?_
 refine al_mv rfl rfl ?_
 obtain ⟨r11, hc10, h⟩ := opt_some h
 refine al_call (vs := [(iq a2), v3_0]) (f_lumref_IndexOf_ok fu a2 v3_0 a3 hc10) [] [] [0, 1, 2] (pre_fz 2 rfl pre_nil) rfl (by simp) (by decide) (.inl rfl) rfl Try.func13 rfl rfl rfl (fun v12 => ?_)
 refine al_mv rfl rfl ?_
 refine al_ex rfl rfl rfl ?_
 refine al_ex rfl rfl rfl ?_
 refine al_as rfl rfl ?_
 refine al_as rfl rfl ?_
 refine al_nt ?_
 obtain ⟨kk14, hkk14, h⟩ := lt_some h
 refine aw_seq_join (ι := Bool) (fun i => (memOf w0 Z0 [] [] [(fDat (tyList tyS_api_Place) [v0_0] a0), (fDat (tyList tyS_api_Place) [v1_0] a1), (fDat (tyList tyS_api_Entry) [v3_0] a3)])) (fun i => (tab [(8, (bool i))])) (fun i => kk14 i = some r) ?_ ?_
 ·rintro j13b8 h
  have h : kk14 j13b8 = some r := h
  rw [hkk14] at h
  dsimp only at h
  clear hkk14
  refine aw_show (m := (memOf w0 Z0 [] [] [(fDat (tyList tyS_api_Place) [v0_0] a0), (fDat (tyList tyS_api_Place) [v1_0] a1), (fDat (tyList tyS_api_Entry) [v3_0] a3)])) (S := (tab [(8, (bool j13b8))])) ?_
  refine aw_ret ?_
  obtain rfl := Option.some.inj h
  exact fn_ret () [] [] rfl rfl rfl rfl (res1 rfl rfl) rfl rfl rfl (by decide)
 ·clear hkk14
  refine aw_region ?_
  refine al_mv rfl rfl ?_
  refine al_mv rfl rfl ?_
  obtain ⟨r16, hc15, h⟩ := opt_some h
  refine al_call (vs := [v3, v6]) (f_slices_Equal___api_Place_api_Place__ok fu v3 r2.1 v6 r5.1 hc15) [2, 3] [] [0, 1, 2, 3] (pre_own 3 rfl rfl (pre_own 2 rfl rfl pre_nil)) rfl (by simp) (by decide) (.inr flat_res0) rfl Try.func14 rfl rfl rfl (fun _ => ?_)
  refine al_mv rfl rfl ?_
  refine al_caseB 44 rfl (fun hb17 => ?_) (fun hb17 => ?_)
  ·replace h := bif_t hb17 h
   refine al_mv rfl rfl ?_
   refine al_mv rfl rfl ?_
   refine al_in rfl rfl rfl rfl ?_
   refine al_val (ov_pick_t rfl rfl rfl) ?_
   refine al_mv rfl rfl ?_
   refine al_caseB 49 rfl (fun hb18 => ?_) (fun hb18 => ?_)
   ·replace h := bif_t hb18 h
    refine al_mv rfl rfl ?_
    refine al_mv rfl rfl ?_
    obtain ⟨r20, hc19, h⟩ := opt_some h
    refine al_call (vs := [v9, v12]) (f_slices_Equal___api_Place_api_Place__ok fu v9 r8.1 v12 r11.1 hc19) [0, 1] [] [0, 1, 2, 3] (pre_own 1 rfl rfl (pre_own 0 rfl rfl pre_nil)) rfl (by simp) (by decide) (.inr flat_res0) rfl Try.func14 rfl rfl rfl (fun _ => ?_)
    refine al_val (ov_pick_t rfl rfl rfl) ?_
    refine al_mv rfl rfl ?_
    refine al_caseB 54 rfl (fun hb21 => ?_) (fun hb21 => ?_)
    ·replace h := bif_t hb21 h
     refine al_mv rfl rfl ?_
     refine al_mv rfl rfl ?_
     refine al_in rfl rfl rfl rfl ?_
     refine al_val (ov_pick_t rfl rfl rfl) ?_
     refine al_as rfl rfl ?_
     refine al_nil ?_
     exact aq_join (r8.2 == r11.2) h (fun w a hm hs => norm hm hs [] [0, 1, 2] [(8, (bool (r8.2 == r11.2)))] (by decide) ⟨rfl, trivial⟩)
    ·replace h := bif_f hb21 h
     refine al_skip ?_
     refine al_skip ?_
     refine al_skip ?_
     refine al_val (ov_pick_f rfl rfl rfl) ?_
     refine al_as rfl rfl ?_
     refine al_nil ?_
     exact aq_join false h (fun w a hm hs => norm hm hs [] [0, 1, 2] [(8, (bool false))] (by decide) ⟨rfl, trivial⟩)
   ·replace h := bif_f hb18 h
    refine al_skip ?_
    refine al_skip ?_
    refine al_skip ?_
    refine al_val (ov_pick_f rfl rfl rfl) ?_
    refine al_mv rfl rfl ?_
    refine al_skip ?_
    refine al_skip ?_
    refine al_skip ?_
    refine al_val (ov_pick_f rfl rfl rfl) ?_
    refine al_as rfl rfl ?_
    refine al_nil ?_
    exact aq_join false h (fun w a hm hs => norm hm hs [] [0, 1, 2] [(8, (bool false))] (by decide) ⟨rfl, trivial⟩)
  ·replace h := bif_f hb17 h
   refine al_skip ?_
   refine al_skip ?_
   refine al_skip ?_
   refine al_val (ov_pick_f rfl rfl rfl) ?_
   refine al_mv rfl rfl ?_
   refine al_skip ?_
   refine al_skip ?_
   refine al_skip ?_
   refine al_val (ov_pick_f rfl rfl rfl) ?_
   refine al_mv rfl rfl ?_
   refine al_skip ?_
   refine al_skip ?_
   refine al_skip ?_
   refine al_val (ov_pick_f rfl rfl rfl) ?_
   refine al_as rfl rfl ?_
   refine al_nil ?_
   exact aq_join false h (fun w a hm hs => norm hm hs [] [0, 1, 2] [(8, (bool false))] (by decide) ⟨rfl, trivial⟩)
end Go.Proofs.Ythdifoidlpiikaa
namespace Go.Proofs.Ythdifoidlpiikaa.Mrg
set_option linter.unusedVariables false
set_option linter.unusedSimpArgs false
variable {P α β : Type} [DecidableEq P]
structure Ord (lt : P → P → Bool) (V : P → Prop) : Prop where
  irr : ∀ p, lt p p = false
  trans : ∀ {p q r}, lt p q = true → lt q r = true → lt p r = true
  tri : ∀ p q, V p → V q → lt p q = true ∨ p = q ∨ lt q p = true
def Srt (lt : P → P → Bool) (l : List P) : Prop := l.Pairwise (fun p q => lt p q = true)
def ins (lt : P → P → Bool) (p : P) : List P → List P
  | [] => [p]
  | q :: l => if lt q p = true then q :: ins lt p l else if q = p then q :: l else p :: q :: l
def all (lt : P → P → Bool) (l : List P) : List P := l.foldl (fun out p => ins lt p out) []
variable {lt : P → P → Bool} {V : P → Prop}
theorem Ord.asymm {P : Type} {lt : P → P → Bool} {V : P → Prop} (o : Ord lt V) {p q : P} (h : lt p q = true) : lt q p = false := by
  cases h' : lt q p with
  | false => rfl
  | true => have := o.trans h h'; rw [o.irr] at this; cases this
theorem ins_mem (p x : P) : ∀ l : List P, x ∈ ins lt p l ↔ x = p ∨ x ∈ l
  | [] => by simp [ins]
  | q :: l => by
    unfold ins
    by_cases h : lt q p = true
    · rw [if_pos h, List.mem_cons, ins_mem p x l, List.mem_cons]
      constructor
      · rintro (h | h | h)
        · exact .inr (.inl h)
        · exact .inl h
        · exact .inr (.inr h)
      · rintro (h | h | h)
        · exact .inr (.inl h)
        · exact .inl h
        · exact .inr (.inr h)
    · rw [if_neg h]
      by_cases h2 : q = p
      · rw [if_pos h2, List.mem_cons]
        constructor
        · rintro (h | h)
          · exact .inl (h.trans h2)
          · exact .inr (.inr h)
        · rintro (h | h | h)
          · exact .inl (h.trans h2.symm)
          · exact .inl h
          · exact .inr h
      · rw [if_neg h2, List.mem_cons]
theorem ins_srt (o : Ord lt V) (p : P) (hp : V p) : ∀ l : List P, (∀ x ∈ l, V x) → Srt lt l → Srt lt (ins lt p l)
  | [], _, _ => List.pairwise_singleton _ _
  | q :: l, hv, hs => by
    obtain ⟨h1, h2⟩ := List.pairwise_cons.1 hs
    unfold ins
    by_cases h : lt q p = true
    · rw [if_pos h]
      refine List.pairwise_cons.2 ⟨fun x hx => ?_, ins_srt o p hp l (fun x hx => hv x (by simp [hx])) h2⟩
      rcases (ins_mem p x l).1 hx with rfl | hx
      · exact h
      · exact h1 x hx
    · rw [if_neg h]
      by_cases h3 : q = p
      · rw [if_pos h3]; exact hs
      · rw [if_neg h3]
        have hpq : lt p q = true := by
          rcases o.tri q p (hv q (by simp)) hp with h' | h' | h'
          · exact absurd h' h
          · exact absurd h' h3
          · exact h'
        refine List.pairwise_cons.2 ⟨fun x hx => ?_, hs⟩
        rcases List.mem_cons.1 hx with rfl | hx
        · exact hpq
        · exact o.trans hpq (h1 x hx)
theorem ins_len (p : P) : ∀ l : List P, (ins lt p l).length ≤ l.length + 1
  | [] => by simp [ins]
  | q :: l => by
    have := ins_len p l
    unfold ins
    split
    · rw [List.length_cons, List.length_cons]; omega
    · split
      · omega
      · simp
theorem uniq {P : Type} {lt : P → P → Bool} {V : P → Prop} (o : Ord lt V) : ∀ (l m : List P), Srt lt l → Srt lt m → (∀ x, x ∈ l ↔ x ∈ m) → l = m
  | [], [], _, _, _ => rfl
  | [], y :: m, _, _, h => by have := (h y).2 (by simp); cases this
  | x :: l, [], _, _, h => by have := (h x).1 (by simp); cases this
  | x :: l, y :: m, hl, hm, h => by
    obtain ⟨a1, a2⟩ := List.pairwise_cons.1 hl
    obtain ⟨b1, b2⟩ := List.pairwise_cons.1 hm
    have e : x = y := by
      rcases List.mem_cons.1 ((h x).1 (by simp)) with e | e
      · exact e
      · rcases List.mem_cons.1 ((h y).2 (by simp)) with e' | e'
        · exact e'.symm
        · have := o.asymm (b1 x e); rw [a1 y e'] at this; cases this
    subst e
    rw [uniq o l m a2 b2 (fun z => ?_)]
    constructor
    · intro hz
      rcases List.mem_cons.1 ((h z).1 (by simp [hz])) with e | e
      · subst e; have := a1 z hz; rw [o.irr] at this; cases this
      · exact e
    · intro hz
      rcases List.mem_cons.1 ((h z).2 (by simp [hz])) with e | e
      · subst e; have := b1 z hz; rw [o.irr] at this; cases this
      · exact e
end Go.Proofs.Ythdifoidlpiikaa.Mrg
namespace Go.Proofs.Ythdifoidlpiikaa.ImM
open Go.Proofs.Ythdifoidlpiikaa.ImC StrOrd
set_option linter.unusedVariables false
set_option linter.unusedSimpArgs false
variable {α : Type} (d : α → List UInt8) (c : α → α → Int)
def ins (p : α) : List α → List α
  | [] => [p]
  | q :: l => if L (d q) (d p) then q :: ins p l else if d p = d q then (if c q p < 0 then q else p) :: l else p :: q :: l
def keep (p : α) : List α → List α
  | [] => []
  | x :: l => if d x = d p then keep x l else x :: keep x l
def comp : List α → List α
  | [] => []
  | x :: l => x :: keep d x l
abbrev Sr (l : List α) : Prop := l.Pairwise fun a b => L (d a) (d b)
structure Mn (l out : List α) : Prop where
  srt : Sr d out
  mem : ∀ x, x ∈ out ↔ x ∈ l ∧ ∀ y ∈ l, d y = d x → ¬ c y x < 0
  ex : ∀ y ∈ l, ∃ q ∈ out, d q = d y
variable {d c}
theorem ins_mem (p : α) (x : α) : ∀ {out : List α}, Sr d out → (x ∈ ins d c p out ↔ (x = p ∧ ∀ q ∈ out, d q = d p → ¬ c q p < 0) ∨ (x ∈ out ∧ (d x = d p → c x p < 0)))
  | [], _ => by simp [ins]
  | q :: l, hs => by
    obtain ⟨h1, h2⟩ := List.pairwise_cons.1 hs
    unfold ins
    by_cases hq : L (d q) (d p)
    · have hne : d q ≠ d p := fun e => irr _ (e ▸ hq)
      rw [if_pos hq, List.mem_cons, ins_mem p x h2]
      constructor
      · rintro (rfl | ⟨rfl, h⟩ | ⟨h, h'⟩)
        · exact .inr ⟨by simp, fun e => absurd e hne⟩
        · refine .inl ⟨rfl, fun y hy e => ?_⟩
          rcases List.mem_cons.1 hy with rfl | hy
          · exact absurd e hne
          · exact h y hy e
        · exact .inr ⟨by simp [h], h'⟩
      · rintro (⟨rfl, h⟩ | ⟨h, h'⟩)
        · exact .inr (.inl ⟨rfl, fun y hy e => h y (by simp [hy]) e⟩)
        · rcases List.mem_cons.1 h with rfl | h
          · exact .inl rfl
          · exact .inr (.inr ⟨h, h'⟩)
    · rw [if_neg hq]
      by_cases he : d p = d q
      · have hl : ∀ y ∈ l, d y ≠ d p := fun y hy e => irr (d q) (by have := h1 y hy; rw [e, he] at this; exact this)
        rw [if_pos he]
        by_cases hc : c q p < 0
        · rw [if_pos hc, List.mem_cons]
          constructor
          · rintro (rfl | h)
            · exact .inr ⟨by simp, fun _ => hc⟩
            · exact .inr ⟨by simp [h], fun e => absurd e (hl x h)⟩
          · rintro (⟨rfl, h⟩ | ⟨h, h'⟩)
            · exact absurd hc (h q (by simp) he.symm)
            · exact h
        · rw [if_neg hc, List.mem_cons]
          constructor
          · rintro (rfl | h)
            · refine .inl ⟨rfl, fun y hy e => ?_⟩
              rcases List.mem_cons.1 hy with rfl | hy
              · exact hc
              · exact absurd e (hl y hy)
            · exact .inr ⟨by simp [h], fun e => absurd e (hl x h)⟩
          · rintro (⟨rfl, h⟩ | ⟨h, h'⟩)
            · exact .inl rfl
            · rcases List.mem_cons.1 h with rfl | h
              · exact absurd (h' he.symm) hc
              · exact .inr h
      · have hpq : L (d p) (d q) := by
          rcases tri (d q) (d p) with h | h | h
          · exact absurd h hq
          · exact absurd h.symm he
          · exact h
        have hl : ∀ y ∈ q :: l, d y ≠ d p := fun y hy e => by
          rcases List.mem_cons.1 hy with rfl | hy
          · exact he e.symm
          · exact irr (d p) (by have := StrOrd.trans hpq (h1 y hy); rw [e] at this; exact this)
        rw [if_neg he, List.mem_cons]
        constructor
        · rintro (rfl | h)
          · exact .inl ⟨rfl, fun y hy e => absurd e (hl y hy)⟩
          · exact .inr ⟨h, fun e => absurd e (hl x h)⟩
        · rintro (⟨rfl, h⟩ | ⟨h, h'⟩)
          · exact .inl rfl
          · exact .inr h
theorem ins_srt (p : α) : ∀ {out : List α}, Sr d out → Sr d (ins d c p out)
  | [], _ => List.pairwise_singleton _ _
  | q :: l, hs => by
    obtain ⟨h1, h2⟩ := List.pairwise_cons.1 hs
    unfold ins
    by_cases hq : L (d q) (d p)
    · rw [if_pos hq]
      refine List.pairwise_cons.2 ⟨fun x hx => ?_, ins_srt p h2⟩
      rcases (ins_mem p x h2).1 hx with ⟨rfl, _⟩ | ⟨h, _⟩
      · exact hq
      · exact h1 x h
    · rw [if_neg hq]
      by_cases he : d p = d q
      · rw [if_pos he]
        refine List.pairwise_cons.2 ⟨fun x hx => ?_, h2⟩
        split
        · exact h1 x hx
        · rw [he]; exact h1 x hx
      · rw [if_neg he]
        have hpq : L (d p) (d q) := by
          rcases tri (d q) (d p) with h | h | h
          · exact absurd h hq
          · exact absurd h.symm he
          · exact h
        refine List.pairwise_cons.2 ⟨fun x hx => ?_, hs⟩
        rcases List.mem_cons.1 hx with rfl | hx
        · exact hpq
        · exact StrOrd.trans hpq (h1 x hx)
theorem ins_len (p : α) : ∀ l : List α, (ins d c p l).length ≤ l.length + 1
  | [] => by simp [ins]
  | q :: l => by
    have := ins_len p l
    unfold ins
    split
    · rw [List.length_cons, List.length_cons]; omega
    · split
      · rw [List.length_cons, List.length_cons]; omega
      · simp
theorem Mn.self (hc : Tot c) {l : List α} (h : Sr d l) : Mn d c l l := by
  have hu : ∀ x ∈ l, ∀ y ∈ l, d y = d x → y = x := fun x hx y hy e => by
    obtain ⟨i, hi, rfl⟩ := List.getElem_of_mem hx
    obtain ⟨j, hj, rfl⟩ := List.getElem_of_mem hy
    rcases Nat.lt_trichotomy i j with h1 | h1 | h1
    · have := List.pairwise_iff_getElem.1 h i j hi hj h1; rw [e] at this; exact absurd this (irr _)
    · subst h1; rfl
    · have := List.pairwise_iff_getElem.1 h j i hj hi h1; rw [e] at this; exact absurd this (irr _)
  refine ⟨h, fun x => ⟨fun hx => ⟨hx, fun y hy e => ?_⟩, fun hx => hx.1⟩, fun y hy => ⟨y, hy, rfl⟩⟩
  rw [hu x hx y hy e, hc.refl]; omega
section
variable (hc : Tot c) (hz : ∀ x y, c x y = 0 → x = y)
include hc hz
theorem Mn.put {l out : List α} (h : Mn d c l out) (p : α) : Mn d c (l ++ [p]) (ins d c p out) := by
  have key : ∀ q ∈ out, d q = d p → ¬ c q p < 0 → ∀ y ∈ l, d y = d p → ¬ c y p < 0 := fun q hq e hn y hy ey hlt => by
    have h1 := ((h.mem q).1 hq).2 y hy (ey.trans e.symm)
    by_cases h0 : c p q = 0
    · rw [hc.eqr p q y h0] at hlt; exact h1 hlt
    · have : c p q < 0 := by
        have := hc.anti q p; have := hc.anti p q; omega
      exact h1 (hc.trans y p q hlt this)
  refine ⟨ins_srt p h.srt, fun x => ?_, fun y hy => ?_⟩
  · rw [ins_mem p x h.srt]
    constructor
    · rintro (⟨rfl, h1⟩ | ⟨h1, h2⟩)
      · refine ⟨by simp, fun y hy e => ?_⟩
        rcases List.mem_append.1 hy with hy | hy
        · obtain ⟨q, hq, eq⟩ := h.ex y hy
          exact key q hq (eq.trans e) (h1 q hq (eq.trans e)) y hy e
        · obtain rfl := List.mem_singleton.1 hy
          rw [hc.refl]; omega
      · obtain ⟨h3, h4⟩ := (h.mem x).1 h1
        refine ⟨by simp [h3], fun y hy e => ?_⟩
        rcases List.mem_append.1 hy with hy | hy
        · exact h4 y hy e
        · obtain rfl := List.mem_singleton.1 hy
          have := h2 e.symm
          have := hc.anti x y; omega
    · rintro ⟨h1, h2⟩
      by_cases hxp : x = p
      · subst hxp
        exact .inl ⟨rfl, fun q hq e => h2 q (by simp [((h.mem q).1 hq).1]) e⟩
      · rcases List.mem_append.1 h1 with h1 | h1
        · refine .inr ⟨(h.mem x).2 ⟨h1, fun y hy e => h2 y (by simp [hy]) e⟩, fun e => ?_⟩
          have h3 := h2 p (by simp) e.symm
          have h4 : c p x ≠ 0 := fun h => hxp (hz p x h).symm
          have := hc.anti x p; omega
        · exact absurd (List.mem_singleton.1 h1) hxp
  · have hp : ∃ q ∈ ins d c p out, d q = d p := by
      by_cases he : ∃ q ∈ out, d q = d p ∧ c q p < 0
      · obtain ⟨q, hq, e, hlt⟩ := he
        exact ⟨q, (ins_mem p q h.srt).2 (.inr ⟨hq, fun _ => hlt⟩), e⟩
      · exact ⟨p, (ins_mem p p h.srt).2 (.inl ⟨rfl, fun q hq e hlt => he ⟨q, hq, e, hlt⟩⟩), rfl⟩
    rcases List.mem_append.1 hy with hy | hy
    · obtain ⟨q, hq, e⟩ := h.ex y hy
      by_cases h3 : d q = d p
      · obtain ⟨z, hz1, hz2⟩ := hp
        exact ⟨z, hz1, hz2.trans (h3.symm.trans e)⟩
      · exact ⟨q, (ins_mem p q h.srt).2 (.inr ⟨hq, fun e => absurd e h3⟩), e⟩
    · obtain rfl := List.mem_singleton.1 hy
      exact hp
theorem Mn.foldl {l out : List α} (h : Mn d c l out) : ∀ ps : List α, Mn d c (l ++ ps) (ps.foldl (fun o p => ins d c p o) out)
  | [] => by simpa using h
  | p :: ps => by
    have := Mn.foldl (h.put hc hz p) ps
    rw [List.append_assoc] at this
    exact this
end
theorem Mn.nil : Mn d c ([] : List α) [] := ⟨.nil, by simp, by simp⟩
theorem Mn.uniq {l l' out out' : List α} (h : Mn d c l out) (h' : Mn d c l' out') (hl : ∀ x, x ∈ l ↔ x ∈ l') : out = out' := by
  refine Mrg.uniq (lt := fun a b => Op.bytesLess (d a) (d b)) (V := fun _ => False) ⟨fun p => by simpa [L] using irr (d p), fun h1 h2 => StrOrd.trans h1 h2, fun _ _ h => h.elim⟩ out out' h.srt h'.srt fun x => ?_
  rw [h.mem x, h'.mem x, hl x]
  exact ⟨fun ⟨a, b⟩ => ⟨a, fun y hy => b y ((hl y).2 hy)⟩, fun ⟨a, b⟩ => ⟨a, fun y hy => b y ((hl y).1 hy)⟩⟩
section
variable (hc : Tot c) (hz : ∀ x y, c x y = 0 → x = y) (hlt : ∀ x y, L (d x) (d y) → c x y < 0)
include hc hz hlt
theorem keep_spec : ∀ (l : List α) (p : α), (p :: l).Pairwise (fun x y => ¬ c y x < 0) →
    Sr d (keep d p l) ∧ (∀ x, x ∈ keep d p l ↔ x ∈ l ∧ d x ≠ d p ∧ ∀ y ∈ l, d y = d x → ¬ c y x < 0) ∧ (∀ y ∈ l, d y ≠ d p → ∃ q ∈ keep d p l, d q = d y)
  | [], p, _ => ⟨by simp [keep], by simp [keep], by simp⟩
  | x :: l, p, h => by
    obtain ⟨h1, h2⟩ := List.pairwise_cons.1 h
    obtain ⟨h3, h4⟩ := List.pairwise_cons.1 h2
    obtain ⟨a1, a2, a3⟩ := keep_spec l x h2
    unfold keep
    by_cases he : d x = d p
    · rw [if_pos he]
      refine ⟨a1, fun z => ?_, fun y hy hne => ?_⟩
      · rw [a2 z]
        constructor
        · rintro ⟨b1, b2, b3⟩
          refine ⟨by simp [b1], fun e => b2 (e.trans he.symm), fun y hy e => ?_⟩
          rcases List.mem_cons.1 hy with rfl | hy
          · exact absurd e.symm b2
          · exact b3 y hy e
        · rintro ⟨b1, b2, b3⟩
          rcases List.mem_cons.1 b1 with rfl | b1
          · exact absurd he b2
          · exact ⟨b1, fun e => b2 (e.trans he), fun y hy e => b3 y (by simp [hy]) e⟩
      · rcases List.mem_cons.1 hy with rfl | hy
        · exact absurd he hne
        · exact a3 y hy (fun e => hne (e.trans he))
    · rw [if_neg he]
      have hpx : L (d p) (d x) := by
        rcases tri (d p) (d x) with h | h | h
        · exact h
        · exact absurd h.symm he
        · exact absurd (hlt x p h) (h1 x (by simp))
      have hgt : ∀ z ∈ l, d z ≠ d x → L (d x) (d z) := fun z hz' hne => by
        rcases tri (d x) (d z) with h | h | h
        · exact h
        · exact absurd h.symm hne
        · exact absurd (hlt z x h) (h3 z hz')
      refine ⟨List.pairwise_cons.2 ⟨fun z hz' => ?_, a1⟩, fun z => ?_, fun y hy hne => ?_⟩
      · obtain ⟨b1, b2, _⟩ := (a2 z).1 hz'
        exact hgt z b1 b2
      · rw [List.mem_cons, a2 z]
        constructor
        · rintro (rfl | ⟨b1, b2, b3⟩)
          · refine ⟨by simp, he, fun y hy e => ?_⟩
            rcases List.mem_cons.1 hy with rfl | hy
            · rw [hc.refl]; omega
            · exact h3 y hy
          · refine ⟨by simp [b1], fun e => ?_, fun y hy e => ?_⟩
            · have := StrOrd.trans hpx (hgt z b1 b2); rw [e] at this; exact irr _ this
            · rcases List.mem_cons.1 hy with rfl | hy
              · exact absurd e.symm b2
              · exact b3 y hy e
        · rintro ⟨b1, b2, b3⟩
          rcases List.mem_cons.1 b1 with rfl | b1
          · exact .inl rfl
          · by_cases e : d z = d x
            · left
              have h5 := b3 x (by simp) e.symm
              have h6 := h3 z b1
              have := hc.anti z x
              exact hz z x (by have := hc.anti x z; omega)
            · exact .inr ⟨b1, e, fun y hy e => b3 y (by simp [hy]) e⟩
      · rcases List.mem_cons.1 hy with rfl | hy
        · exact ⟨y, by simp, rfl⟩
        · by_cases e : d y = d x
          · exact ⟨x, by simp, e.symm⟩
          · obtain ⟨q, hq, eq⟩ := a3 y hy e
            exact ⟨q, by simp [hq], eq⟩
theorem comp_mn {l : List α} (h : l.Pairwise (fun x y => ¬ c y x < 0)) : Mn d c l (comp d l) := by
  cases l with
  | nil => exact Mn.nil
  | cons p l =>
    obtain ⟨h1, h2⟩ := List.pairwise_cons.1 h
    obtain ⟨a1, a2, a3⟩ := keep_spec hc hz hlt l p h
    have hgt : ∀ z ∈ l, d z ≠ d p → L (d p) (d z) := fun z hz' hne => by
      rcases tri (d p) (d z) with h | h | h
      · exact h
      · exact absurd h.symm hne
      · exact absurd (hlt z p h) (h1 z hz')
    refine ⟨List.pairwise_cons.2 ⟨fun z hz' => ?_, a1⟩, fun z => ?_, fun y hy => ?_⟩
    · obtain ⟨b1, b2, _⟩ := (a2 z).1 hz'
      exact hgt z b1 b2
    · show z ∈ p :: keep d p l ↔ _
      rw [List.mem_cons, a2 z]
      constructor
      · rintro (rfl | ⟨b1, b2, b3⟩)
        · refine ⟨by simp, fun y hy e => ?_⟩
          rcases List.mem_cons.1 hy with rfl | hy
          · rw [hc.refl]; omega
          · exact h1 y hy
        · refine ⟨by simp [b1], fun y hy e => ?_⟩
          rcases List.mem_cons.1 hy with rfl | hy
          · exact absurd e.symm b2
          · exact b3 y hy e
      · rintro ⟨b1, b3⟩
        rcases List.mem_cons.1 b1 with rfl | b1
        · exact .inl rfl
        · by_cases e : d z = d p
          · left
            have h5 := b3 p (by simp) e.symm
            have h6 := h1 z b1
            have := hc.anti z p
            exact hz z p (by have := hc.anti p z; omega)
          · exact .inr ⟨b1, e, fun y hy e => b3 y (by simp [hy]) e⟩
    · rcases List.mem_cons.1 hy with rfl | hy
      · exact ⟨y, by simp [comp], rfl⟩
      · by_cases e : d y = d p
        · exact ⟨p, by simp [comp], e.symm⟩
        · obtain ⟨q, hq, eq⟩ := a3 y hy e
          exact ⟨q, by simp [comp, hq], eq⟩
end
theorem keep_snoc (x y : α) : ∀ (l : List α) (p : α), (p :: l).getLast? = some y → keep d p (l ++ [x]) = keep d p l ++ (if d x = d y then [] else [x])
  | [], p, h => by
    obtain rfl : p = y := by simpa using h
    simp [keep]
  | z :: l, p, h => by
    have ih := keep_snoc x y l z (by simpa using h)
    rw [List.cons_append, keep, keep]
    split
    · exact ih
    · rw [ih]; rfl
theorem comp_take {l : List α} {m : Nat} (h0 : 0 < m) (hm : m < l.length) : comp d (l.take (m + 1)) = comp d (l.take m) ++ (if d l[m] = d (l[m - 1]'(by omega)) then [] else [l[m]]) := by
  cases l with
  | nil => simp at hm
  | cons p l =>
    obtain ⟨k, rfl⟩ : ∃ k, m = k + 1 := ⟨m - 1, by omega⟩
    have hk : k < l.length := by simpa using hm
    rw [List.take_succ_cons, List.take_succ_cons]
    have e1 : l.take (k + 1) = l.take k ++ [l[k]] := by rw [List.take_succ_eq_append_getElem hk]
    rw [comp, e1, keep_snoc l[k] ((p :: l)[k]'(by simp; omega)) (l.take k) p ?_]
    · rfl
    · rw [← List.take_succ_cons, List.getLast?_eq_getElem?, List.getElem?_take, if_pos (by simp; omega), List.getElem?_eq_getElem (by simp; omega)]
      simp [Nat.min_eq_left (Nat.le_of_lt hk)]
theorem keep_len (p : α) : ∀ l : List α, (keep d p l).length ≤ l.length
  | [] => by simp [keep]
  | x :: l => by
    have := keep_len x l
    unfold keep; split <;> simp <;> omega
theorem comp_len (l : List α) : (comp d l).length ≤ l.length := by
  cases l with
  | nil => simp [comp]
  | cons x l => have := keep_len (d := d) x l; simp [comp]; omega
end Go.Proofs.Ythdifoidlpiikaa.ImM
namespace Go.Proofs.Ythdifoidlpiikaa
open Go.RowKit
theorem ret_int {k : IntKind} {a b : Int} (h : a = b) : Ending.returned (.int k a) = .returned (.int k b) := by rw [h]
end Go.Proofs.Ythdifoidlpiikaa
namespace Go.Proofs.Ythdifoidlpiikaa.ImIdx
open Go.RowKit Ythdifoidlpiikaa.En Ythdifoidlpiikaa StrOrd
set_option linter.unusedVariables false
set_option linter.unusedSimpArgs false
abbrev Pl := S_api_Place
def key (p : Pl) : List UInt8 := lA8u8 p.ID
theorem key_inj {a b : A8u8} (h : lA8u8 a = lA8u8 b) : a = b := by
  cases a; cases b
  simpa [lA8u8] using h
def lim : Int := 1099511627776
def perr (p : Pl) : Int := if p.Kind < 1 ∨ 3 < p.Kind then 5 else if p.Pack < 0 ∨ lim < p.Pack ∨ p.At < 0 ∨ lim < p.At ∨ p.Len < 0 ∨ lim < p.Len then 1 else 0
theorem min3 (a b c : Int) : (if c < (if b < a then b else a) then c else (if b < a then b else a)) < 0 ↔ a < 0 ∨ b < 0 ∨ c < 0 := by
  by_cases h : b < a
  · rw [if_pos h]; by_cases h' : c < b
    · rw [if_pos h']; omega
    · rw [if_neg h']; omega
  · rw [if_neg h]; by_cases h' : c < a
    · rw [if_pos h']; omega
    · rw [if_neg h']; omega
theorem max3 (a b c : Int) : (if c > (if b > a then b else a) then c else (if b > a then b else a)) > 1099511627776 ↔ 1099511627776 < a ∨ 1099511627776 < b ∨ 1099511627776 < c := by
  by_cases h : b > a
  · rw [if_pos h]; by_cases h' : c > b
    · rw [if_pos h']; omega
    · rw [if_neg h']; omega
  · rw [if_neg h]; by_cases h' : c > a
    · rw [if_pos h']; omega
    · rw [if_neg h']; omega
theorem ref_place (fu : Nat) (p : Pl) : f_lumref_placeErr fu p = some (perr p) := by
  unfold f_lumref_placeErr f_lumref_kindOK perr lim
  rw [lt_of]
  dsimp only
  have hk : ∀ b : Bool, b = decide (1 ≤ p.Kind ∧ p.Kind ≤ 3) → (opt (some b) fun r3 => bif !r3 then some (5 : Int) else lt (fun j5b24 => bif j5b24 then some 1 else some 0) fun kk6 => bif decide ((if p.Len < (if p.At < p.Pack then p.At else p.Pack) then p.Len else (if p.At < p.Pack then p.At else p.Pack)) < 0) then kk6 true else kk6 (decide ((if p.Len > (if p.At > p.Pack then p.At else p.Pack) then p.Len else (if p.At > p.Pack then p.At else p.Pack)) > 1099511627776)))
      = some (if p.Kind < 1 ∨ 3 < p.Kind then 5 else if p.Pack < 0 ∨ 1099511627776 < p.Pack ∨ p.At < 0 ∨ 1099511627776 < p.At ∨ p.Len < 0 ∨ 1099511627776 < p.Len then 1 else 0) := by
    intro b hb
    rw [opt_of, lt_of]
    by_cases h : 1 ≤ p.Kind ∧ p.Kind ≤ 3
    · rw [hb, decide_eq_true h, cond_ff (show (!true) = false from rfl), if_neg (c := p.Kind < 1 ∨ 3 < p.Kind) (by omega)]
      dsimp only
      by_cases h1 : p.Pack < 0 ∨ p.At < 0 ∨ p.Len < 0
      · rw [cond_tt (decide_eq_true ((min3 p.Pack p.At p.Len).2 h1)), cond_tt rfl, if_pos (by omega)]
      · rw [cond_ff (decide_eq_false (fun h' => h1 ((min3 p.Pack p.At p.Len).1 h')))]
        by_cases h2 : 1099511627776 < p.Pack ∨ 1099511627776 < p.At ∨ 1099511627776 < p.Len
        · rw [decide_eq_true ((max3 p.Pack p.At p.Len).2 h2), cond_tt rfl, if_pos (by omega)]
        · rw [decide_eq_false (fun h' => h2 ((max3 p.Pack p.At p.Len).1 h')), cond_ff rfl, if_neg (by omega)]
    · rw [hb, decide_eq_false h, cond_tt (show (!false) = true from rfl), if_pos (c := p.Kind < 1 ∨ 3 < p.Kind) (by omega)]
  by_cases h1 : p.Kind = 1
  · rw [cond_tt (by simpa using h1)]; exact hk true (by simp [h1])
  · rw [cond_ff (by simpa using h1)]
    by_cases h2 : p.Kind = 2
    · rw [cond_tt (by simpa using h2)]; exact hk true (by simp [h2])
    · rw [cond_ff (by simpa using h2)]
      refine hk _ ?_
      by_cases h3 : p.Kind = 3
      · simp [h3]
      · rw [show (p.Kind == 3) = false by simpa using h3]
        exact (decide_eq_false (by omega)).symm
def inr (x : Int) : Bool := decide (0 ≤ x) && decide (x ≤ lim)
theorem range (fu : Nat) (x : Int) : f_index_inRange fu x = some (inr x) := by
  unfold f_index_inRange inr lim
  rw [lt_of]
  by_cases h : x ≥ 0
  · rw [cond_tt (decide_eq_true h), decide_eq_true (show 0 ≤ x from h)]; rfl
  · rw [cond_ff (decide_eq_false h), decide_eq_false (show ¬ 0 ≤ x from h)]; rfl
theorem known (fu : Nat) (x : Int) : f_pack_Known fu x = some (decide (1 ≤ x) && decide (x ≤ 3)) := by
  unfold f_pack_Known
  rw [lt_of]
  by_cases h : x ≥ 1
  · rw [cond_tt (decide_eq_true h), decide_eq_true (show 1 ≤ x from h)]; rfl
  · rw [cond_ff (decide_eq_false h), decide_eq_false (show ¬ 1 ≤ x from h)]; rfl
theorem inr_tt {x : Int} (h : 0 ≤ x ∧ x ≤ lim) : inr x = true := by unfold inr; rw [decide_eq_true h.1, decide_eq_true h.2]; rfl
theorem inr_ff {x : Int} (h : ¬(0 ≤ x ∧ x ≤ lim)) : inr x = false := by
  unfold inr
  by_cases h0 : 0 ≤ x
  · rw [decide_eq_false (show ¬ x ≤ lim from fun h1 => h ⟨h0, h1⟩)]; simp
  · rw [decide_eq_false h0]; rfl
theorem code_place (fu : Nat) (p : Pl) : f_index_place fu p = some (perr p) := by
  unfold f_index_place perr
  rw [known, opt_of]
  by_cases hk : 1 ≤ p.Kind ∧ p.Kind ≤ 3
  · rw [decide_eq_true hk.1, decide_eq_true hk.2, cond_ff (show (!(true && true)) = false from rfl), lt_of, if_neg (c := p.Kind < 1 ∨ 3 < p.Kind) (by omega), range, range, range, opt_of]
    dsimp only
    by_cases h1 : 0 ≤ p.Pack ∧ p.Pack ≤ lim
    · rw [inr_tt h1, cond_ff (show (!true) = false from rfl), opt_of]
      by_cases h2 : 0 ≤ p.At ∧ p.At ≤ lim
      · rw [inr_tt h2, cond_ff (show (!true) = false from rfl), opt_of]
        by_cases h3 : 0 ≤ p.Len ∧ p.Len ≤ lim
        · rw [inr_tt h3, if_neg (by omega)]; rfl
        · rw [inr_ff h3, if_pos (by omega)]; rfl
      · rw [inr_ff h2, if_pos (by omega)]; rfl
    · rw [inr_ff h1, if_pos (by omega)]; rfl
  · rw [if_pos (c := p.Kind < 1 ∨ 3 < p.Kind) (by omega)]
    by_cases h1 : 1 ≤ p.Kind
    · rw [decide_eq_true h1, decide_eq_false (show ¬ p.Kind ≤ 3 from fun h => hk ⟨h1, h⟩)]; rfl
    · rw [decide_eq_false h1]; rfl
def prev (l : List Pl) : Nat → Option Pl
  | 0 => none
  | k + 1 => l[k]?
def late (q : Option Pl) (p : Pl) : Bool := match q with
  | some q => !Op.bytesLess (key q) (key p)
  | none => false
def errs : Option Pl → List Pl → Int
  | _, [] => 0
  | q, p :: ps => if perr p ≠ 0 then perr p else if late q p = true then 4 else errs (some p) ps
def chk (l : List Pl) : Int := if l.length > 400 then 2 else errs none l
theorem cmp_late (a b : List UInt8) : decide (Lib.compareBytes a b ≤ 0) = !Op.bytesLess b a := by
  by_cases h : Op.bytesLess b a = true
  · rw [h, decide_eq_false (fun h' => cmp_le.1 h' h)]; rfl
  · rw [decide_eq_true (cmp_le.2 h)]; simp [h]
theorem ref_loop (l : List Pl) (fu : Nat) (hm : l.length ≤ 400) : ∀ (fuel k : Nat), k ≤ l.length → l.length - k < fuel →
    f_lumref_Index_L6 l (fun _ => some 0) fu fuel (k : Int) = some (errs (prev l k) (l.drop k))
  | 0, k, _, hf => absurd hf (Nat.not_lt_zero _)
  | fuel + 1, k, hk, hf => by
    rw [f_lumref_Index_L6]
    by_cases hlt : k < l.length
    · rw [cond_tt (dlt (by omega)), at_lt hlt, opt_of, ref_place, opt_of, List.drop_eq_getElem_cons hlt, wsucc (by omega), lt_of]
      dsimp only
      rw [ref_loop l fu hm fuel (k + 1) (by omega) (by omega), errs]
      by_cases h0 : perr l[k] = 0
      · rw [cond_ff (by simp [h0]), if_neg (fun h => h h0), show prev l (k + 1) = some l[k] from List.getElem?_eq_getElem hlt]
        cases k with
        | zero => rw [cond_ff (by simp)]; rfl
        | succ k =>
          rw [cond_tt (decide_eq_true (by omega)), show IntKind.i64.wrap (((k + 1 : Nat) : Int) - 1) = (k : Int) by rw [w64 (by omega) (by omega)]; omega, at_lt (show k < l.length by omega), opt_of,
            show prev l (k + 1) = some l[k] from List.getElem?_eq_getElem (by omega)]
          show (bif !Op.bytesLess (key l[k]) (key l[k + 1]) then _ else _) = some (if (!Op.bytesLess (key l[k]) (key l[k + 1])) = true then _ else _)
          cases Op.bytesLess (key l[k]) (key l[k + 1]) <;> rfl
      · rw [cond_tt (by simpa using h0), if_pos h0]
    · rw [cond_ff (dge (by omega)), List.drop_of_length_le (by omega)]; rfl
theorem compare (fu : Nat) (a b : A8u8) : f_index_Compare fu a b = some (Lib.compareBytes (lA8u8 a) (lA8u8 b)) := rfl
theorem code_loop (l : List Pl) (fu : Nat) (hm : l.length ≤ 400) : ∀ (fuel k : Nat), k ≤ l.length → l.length - k < fuel →
    f_index_Check_L6 l (fun _ => some 0) fu fuel (k : Int) = some (errs (prev l k) (l.drop k))
  | 0, k, _, hf => absurd hf (Nat.not_lt_zero _)
  | fuel + 1, k, hk, hf => by
    rw [f_index_Check_L6]
    by_cases hlt : k < l.length
    · rw [cond_tt (dlt (by omega)), at_lt hlt, opt_of, code_place, opt_of, List.drop_eq_getElem_cons hlt, wsucc (by omega), lt_of]
      dsimp only
      rw [code_loop l fu hm fuel (k + 1) (by omega) (by omega), errs]
      by_cases h0 : perr l[k] = 0
      · rw [cond_ff (by simp [h0]), if_neg (fun h => h h0), show prev l (k + 1) = some l[k] from List.getElem?_eq_getElem hlt]
        cases k with
        | zero => rw [cond_ff (by simp)]; rfl
        | succ k =>
          rw [cond_tt (decide_eq_true (by omega)), show IntKind.i64.wrap (((k + 1 : Nat) : Int) - 1) = (k : Int) by rw [w64 (by omega) (by omega)]; omega, at_lt (show k < l.length by omega), opt_of, compare, opt_of, cmp_late,
            show prev l (k + 1) = some l[k] from List.getElem?_eq_getElem (by omega)]
          show (bif !Op.bytesLess (key l[k]) (key l[k + 1]) then _ else _) = some (if (!Op.bytesLess (key l[k]) (key l[k + 1])) = true then _ else _)
          cases Op.bytesLess (key l[k]) (key l[k + 1]) <;> rfl
      · rw [cond_tt (by simpa using h0), if_pos h0]
    · rw [cond_ff (dge (by omega)), List.drop_of_length_le (by omega)]; rfl
theorem ref_any (l : List Pl) (fu : Nat) (hf : 500 ≤ fu) : f_lumref_Index fu l = some (chk l) := by
  unfold f_lumref_Index chk
  by_cases h : l.length > 400
  · rw [cond_tt (decide_eq_true (by omega)), if_pos h]
  · rw [cond_ff (decide_eq_false (by omega)), if_neg h, lt_of]
    exact ref_loop l fu (by omega) fu 0 (by omega) (by omega)
theorem code_any (l : List Pl) (fu : Nat) (hf : 500 ≤ fu) : f_index_Check fu l = some (chk l) := by
  unfold f_index_Check chk
  by_cases h : l.length > 400
  · rw [cond_tt (decide_eq_true (by omega)), if_pos h]
  · rw [cond_ff (decide_eq_false (by omega)), if_neg h, lt_of]
    exact code_loop l fu (by omega) fu 0 (by omega) (by omega)
abbrev Srt (l : List Pl) : Prop := l.Pairwise fun a b => L (key a) (key b)
theorem errs_step {q : Option Pl} {y : Pl} {ys : List Pl} (h : errs q (y :: ys) = 0) : late q y = false ∧ errs (some y) ys = 0 := by
  unfold errs at h
  by_cases h0 : perr y = 0
  · rw [if_neg (fun h => h h0)] at h
    by_cases h1 : late q y = true
    · rw [if_pos h1] at h; cases h
    · rw [if_neg h1] at h; exact ⟨by simpa using h1, h⟩
  · rw [if_pos h0] at h; exact absurd h h0
theorem errs_sorted : ∀ (ps : List Pl) (p : Pl), errs (some p) ps = 0 → (∀ x ∈ ps, L (key p) (key x)) ∧ Srt ps
  | [], p, _ => ⟨by simp, .nil⟩
  | y :: ys, p, h => by
    obtain ⟨h1, h2⟩ := errs_step h
    obtain ⟨h3, h4⟩ := errs_sorted ys y h2
    have hpy : L (key p) (key y) := by simpa [late] using h1
    refine ⟨fun x hx => ?_, .cons h3 h4⟩
    rcases List.mem_cons.1 hx with rfl | hx
    · exact hpy
    · exact trans hpy (h3 x hx)
theorem chk_sorted {l : List Pl} (h : chk l = 0) : l.length ≤ 400 ∧ Srt l := by
  unfold chk at h
  by_cases h1 : l.length > 400
  · rw [if_pos h1] at h; cases h
  · rw [if_neg h1] at h
    refine ⟨by omega, ?_⟩
    cases l with
    | nil => exact .nil
    | cons y ys => exact .cons (errs_sorted ys y (errs_step h).2).1 (errs_sorted ys y (errs_step h).2).2
end Go.Proofs.Ythdifoidlpiikaa.ImIdx
namespace Go.Proofs.Ythdifoidlpiikaa.PIndexMerges
open Go.RowKit Ythdifoidlpiikaa.En Ythdifoidlpiikaa StrOrd Go.Sort Go.Proofs.Ythdifoidlpiikaa.ImC Go.Proofs.Ythdifoidlpiikaa.ImM Go.Proofs.Ythdifoidlpiikaa.ImIdx
set_option linter.unusedVariables false
set_option linter.unusedSimpArgs false
def cc : Pl → Pl → Int := plc key (fun x => x.Kind) (fun x => x.Pack) (fun x => x.At) (fun x => x.Len)
theorem cc_tot : Tot cc := plc_tot _ _ _ _ _
theorem cc_zero (x y : Pl) (h : cc x y = 0) : x = y := by
  obtain ⟨h1, h2, h3, h4, h5⟩ := plc_zero x y h
  exact sortPl_inj x y h1 h2 h3 h4 h5
theorem cc_lt (x y : Pl) (h : L (key x) (key y)) : cc x y < 0 := by
  have h1 := cmp_neg.2 h
  unfold cc plc
  rw [orL, if_pos (by omega)]; exact h1
theorem cc_same (x y : Pl) (h : key x = key y) : cc x y = orL [cI x.Pack y.Pack, cI x.At y.At, cI x.Len y.Len, cI x.Kind y.Kind] := by
  unfold cc plc
  rw [orL, if_neg (by rw [cmp_zero.2 h]; simp)]
theorem sort_pw (l : List Pl) : (sortPl l).Pairwise (fun x y => ¬ cc y x < 0) := by
  have hs := cc_tot.swo
  have := List.pairwise_mergeSort (le := fun x y => !(ltOf cc) y x) (fun a b c h1 h2 => by
      have h1 : ltOf cc b a = false := by simpa using h1
      have h2 : ltOf cc c b = false := by simpa using h2
      simpa using hs.ntrans c b a h2 h1) (fun a b => by
      by_cases h : ltOf cc b a = true
      · have : ltOf cc a b = false := by
          cases h' : ltOf cc a b with
          | false => rfl
          | true => have := hs.trans _ _ _ h h'; rw [hs.irrefl] at this; cases this
        simp [this]
      · simp [h]) l
  refine List.Pairwise.imp (fun {a b} h => ?_) this
  have h : ltOf cc b a = false := by simpa using h
  unfold ltOf at h
  exact of_decide_eq_false h
theorem sort_mem (l : List Pl) (x : Pl) : x ∈ sortPl l ↔ x ∈ l := List.mem_mergeSort
theorem sort_len (l : List Pl) : (sortPl l).length = l.length := List.length_mergeSort _
theorem sort_mn (l : List Pl) : Mn key cc l (comp key (sortPl l)) := by
  have h := comp_mn (d := key) cc_tot cc_zero cc_lt (sort_pw l)
  exact ⟨h.srt, fun x => by rw [h.mem x, sort_mem]; exact ⟨fun ⟨a, b⟩ => ⟨a, fun y hy => b y ((sort_mem l y).2 hy)⟩, fun ⟨a, b⟩ => ⟨a, fun y hy => b y ((sort_mem l y).1 hy)⟩⟩, fun y hy => h.ex y ((sort_mem l y).2 hy)⟩
theorem same2 (fu : Nat) (x y : Pl) : f_index_sorted_2 fu x y = some (decide (key x = key y)) := by
  unfold f_index_sorted_2
  congr 1
  by_cases h : x.ID = y.ID
  · have hk : key x = key y := by unfold key; rw [h]
    rw [decide_eq_true hk]; simp [h]
  · have hk : ¬ key x = key y := fun e => h (key_inj e)
    rw [decide_eq_false hk]; simpa using h
theorem drop_get {α : Type} {a b : List α} {k i : Nat} (h : a.drop k = b.drop k) (hi : k ≤ i) : a[i]? = b[i]? := by
  have h1 : (a.drop k)[i - k]? = (b.drop k)[i - k]? := by rw [h]
  rw [List.getElem?_drop, List.getElem?_drop, show k + (i - k) = i by omega] at h1
  exact h1
theorem cf_inner (l : List Pl) (k0 : Nat) (kk : List Pl → Int → Option (List Pl)) (fu : Nat) (hn : l.length ≤ 1000000) : ∀ (fuel k2 k : Nat) (row : List Pl), k0 + k2 ≤ l.length → 1 ≤ k2 → row.length = l.length → row.take k = comp key (l.take (k0 + k2)) → row.drop k = l.drop k → k + 1 ≤ k0 + k2 → l.length - (k0 + k2) < fuel →
    ∃ (row' : List Pl) (k' : Nat), f_slices_CompactFunc___api_Place_api_Place__own_F128_L34 (k0 : Int) kk fu fuel row (k : Int) (k2 : Int) = kk row' (k' : Int) ∧ row'.length = l.length ∧ k' ≤ l.length ∧ row'.take k' = comp key l
  | 0, _, _, _, _, _, _, _, _, _, hf => absurd hf (Nat.not_lt_zero _)
  | fuel + 1, k2, k, row, h1, h2, h3, h4, h5, h6, hf => by
    rw [f_slices_CompactFunc___api_Place_api_Place__own_F128_L34]
    by_cases hlt : k0 + k2 < l.length
    · have hr1 : row[k0 + k2]? = some l[k0 + k2] := by rw [drop_get h5 (by omega), List.getElem?_eq_getElem hlt]
      have hr2 : row[k0 + k2 - 1]? = some (l[k0 + k2 - 1]'(by omega)) := by rw [drop_get h5 (by omega), List.getElem?_eq_getElem (by omega)]
      have hkr : k < row.length := by omega
      have e1 : (k0 : Int) + (k2 : Int) = ((k0 + k2 : Nat) : Int) := by omega
      have e2 : IntKind.i64.wrap ((k2 : Int) - 1) = ((k2 - 1 : Nat) : Int) := by rw [w64 (by omega) (by omega)]; omega
      have e3 : (k0 : Int) + ((k2 - 1 : Nat) : Int) = ((k0 + k2 - 1 : Nat) : Int) := by omega
      rw [cond_tt (dlt (by rw [Int.toNat_natCast, h3]; omega)), lt_of]
      simp only [e1, e2, e3, req_pos (show (0 : Int) ≤ (k2 : Int) by omega), req_pos (show (0 : Int) ≤ ((k2 - 1 : Nat) : Int) by omega), at_of hr1, at_of hr2, opt_of, same2, at_lt hkr, wsucc (show k2 < 9223372036854775807 by omega), wsucc (show k < 9223372036854775807 by omega), Int.toNat_natCast]
      have hc := comp_take (d := key) (l := l) (m := k0 + k2) (by omega) hlt
      by_cases he : key l[k0 + k2] = key (l[k0 + k2 - 1]'(by omega))
      · rw [decide_eq_true he, cond_ff (show (!true) = false from rfl)]
        refine cf_inner l k0 kk fu hn fuel (k2 + 1) k row (by omega) (by omega) h3 ?_ h5 (by omega) (by omega)
        rw [← Nat.add_assoc, hc, if_pos he, List.append_nil]; exact h4
      · rw [decide_eq_false he, cond_tt (show (!false) = true from rfl)]
        refine cf_inner l k0 kk fu hn fuel (k2 + 1) (k + 1) (row.set k l[k0 + k2]) (by omega) (by omega) (by simpa using h3) ?_ ?_ (by omega) (by omega)
        · rw [← Nat.add_assoc, hc, if_neg he, ← h4, List.take_succ_eq_append_getElem (by simpa using hkr)]
          simp [List.take_set_of_le]
        · apply List.ext_getElem?
          intro i
          rw [List.getElem?_drop, List.getElem?_drop, List.getElem?_set_ne (by omega)]
          exact drop_get h5 (by omega)
    · rw [cond_ff (dge (by rw [Int.toNat_natCast, h3]; omega))]
      refine ⟨row, k, rfl, h3, by omega, ?_⟩
      rw [h4, List.take_of_length_le (by omega)]
theorem cf_outer (l : List Pl) (fu : Nat) (hn : l.length ≤ 1000000) (hfu : l.length < fu) : ∀ (fuel k : Nat), 1 ≤ k → k ≤ l.length → comp key (l.take k) = l.take k → l.length - k < fuel →
    f_slices_CompactFunc___api_Place_api_Place__own_F128_L6 l (fun _ => some l) fu fuel (k : Int) = some (comp key l)
  | 0, _, _, _, _, hf => absurd hf (Nat.not_lt_zero _)
  | fuel + 1, k, h1, h2, h3, hf => by
    rw [f_slices_CompactFunc___api_Place_api_Place__own_F128_L6, lt_of]
    by_cases hlt : k < l.length
    · have e2 : IntKind.i64.wrap ((k : Int) - 1) = ((k - 1 : Nat) : Int) := by rw [w64 (by omega) (by omega)]; omega
      rw [cond_tt (dlt (by omega)), lt_of]
      simp only [at_lt hlt, e2, at_lt (show k - 1 < l.length by omega), opt_of, same2]
      have hc := comp_take (d := key) (l := l) (m := k) h1 hlt
      by_cases he : key l[k] = key (l[k - 1]'(by omega))
      · rw [decide_eq_true he, cond_tt rfl, req_pos (by omega), lt_of]
        rw [if_pos he, List.append_nil, h3] at hc
        obtain ⟨row', k', g1, g2, g3, g4⟩ := cf_inner l k _ fu hn fu 1 k l (by omega) (by omega) rfl hc.symm rfl (by omega) (by omega)
        rw [show (1 : Int) = ((1 : Nat) : Int) from rfl, g1, req_pos (by omega), req_pos (by simp; omega), Int.toNat_natCast]
        rw [List.take_append_of_le_length (by simp; omega), List.take_of_length_le (by simp; omega), g4]
      · rw [decide_eq_false he, cond_ff rfl, wsucc (by omega)]
        rw [if_neg he, h3] at hc
        exact cf_outer l fu hn hfu fuel (k + 1) (by omega) (by omega) (by rw [hc, List.take_succ_eq_append_getElem hlt]) (by omega)
    · rw [cond_ff (dge (by omega))]
      have : k = l.length := by omega
      rw [this, List.take_length] at h3
      rw [h3]
theorem compact_ok (l : List Pl) (fu : Nat) (hn : l.length ≤ 1000000) (hfu : l.length < fu) : f_slices_CompactFunc___api_Place_api_Place__own_F128 fu l = some (comp key l) := by
  unfold f_slices_CompactFunc___api_Place_api_Place__own_F128
  by_cases h : l.length < 2
  · rw [cond_tt (dlt (by omega))]
    match l, h with
    | [], _ => rfl
    | [x], _ => rfl
  · rw [cond_ff (dge (by omega)), lt_of]
    refine cf_outer l fu hn hfu fu 1 (by omega) (by omega) ?_ (by omega)
    match l, h with
    | [], h => exact absurd (by simp) h
    | [_], h => exact absurd (by simp) h
    | x :: _ :: _, _ => rfl
theorem sorted_ok (l : List Pl) (fu : Nat) (hn : l.length ≤ 1000000) (hfu : l.length < fu) : f_index_sorted_own fu l = some (comp key (sortPl l)) := by
  unfold f_index_sorted_own
  rw [req_pos (by omega), compact_ok _ fu (by rw [sort_len]; exact hn) (by rw [sort_len]; exact hfu), opt_of]
theorem cmp_int (fu : Nat) (x y : Int) : f_cmp_Compare_int_ fu x y = some (cI x y) := by
  unfold f_cmp_Compare_int_ f_cmp_isNaN_int_
  simp only [bne_self_eq_false, opt_of, cond_false]
  unfold cI
  by_cases h : x < y
  · rw [cond_tt (dlt h), if_pos h]
  · rw [cond_ff (dge (by omega)), if_neg h]
    by_cases h' : y < x
    · rw [cond_tt (decide_eq_true (show x > y from h')), if_pos h']
    · rw [cond_ff (decide_eq_false h'), if_neg h']
theorem cmp_loop (a b : List Int) (X : Option Int) (hl : a.length = b.length) (hn : a.length ≤ 1000) (fu : Nat) : ∀ (fuel k : Nat), k ≤ a.length → a.length - k < fuel →
    f_slices_Compare___int_int__L6 a b (fun _ => X) fu fuel (k : Int) = if orL (List.zipWith cI (a.drop k) (b.drop k)) ≠ 0 then some (orL (List.zipWith cI (a.drop k) (b.drop k))) else X
  | 0, _, _, hf => absurd hf (Nat.not_lt_zero _)
  | fuel + 1, k, hk, hf => by
    rw [f_slices_Compare___int_int__L6]
    by_cases hlt : k < a.length
    · have hlb : k < b.length := by omega
      rw [cond_tt (dlt (by omega)), at_lt hlt, opt_of, cond_ff (decide_eq_false (by omega)), at_lt hlb, opt_of, cmp_int, opt_of, wsucc (by omega), cmp_loop a b X hl hn fu fuel (k + 1) (by omega) (by omega), List.drop_eq_getElem_cons hlt, List.drop_eq_getElem_cons hlb, List.zipWith_cons_cons, orL]
      by_cases h0 : cI a[k] b[k] = 0
      · rw [cond_ff (by simp [h0])]; simp only [h0, ne_eq, not_true_eq_false, if_false]
      · rw [cond_tt (by simpa using h0)]; simp only [h0, ne_eq, not_false_eq_true, if_true]
    · rw [cond_ff (dge (by omega)), List.drop_of_length_le (by omega), List.drop_of_length_le (by omega)]; rfl
theorem smaller_ok (fu : Nat) (hfu : 10 ≤ fu) (q p : Pl) (h : key p = key q) : f_lumref_smaller fu q p = some (decide (cc q p < 0)) := by
  unfold f_lumref_smaller f_slices_Compare___int_int_
  have hl := cmp_loop [q.Pack, q.At, q.Len, q.Kind] [p.Pack, p.At, p.Len, p.Kind] (some 0) rfl (by simp) fu fu 0 (by simp) (by simp; omega)
  rw [show ((0 : Nat) : Int) = 0 from rfl] at hl
  rw [lt_of, show (bif decide ((([q.Pack, q.At, q.Len, q.Kind] : List Int).length : Int) < (([p.Pack, p.At, p.Len, p.Kind] : List Int).length : Int)) then some (-1 : Int) else some 0) = some 0 from rfl, hl, cc_same q p h.symm]
  simp only [List.drop_zero, List.zipWith_cons_cons, List.zipWith_nil_right]
  split
  · rw [opt_of]
  · rename_i h0
    have h0 : orL [cI q.Pack p.Pack, cI q.At p.At, cI q.Len p.Len, cI q.Kind p.Kind] = 0 := Decidable.of_not_not h0
    rw [h0]; rfl
theorem put_done (x : List Pl) (kk : A8u8 → Int → Int → Int → Int → List Pl → Bool → Option (List Pl)) (fu : Nat) (hn : x.length ≤ 10000) (a : A8u8) (b c e f : Int) : ∀ (fuel k : Nat) (out : List Pl), k ≤ x.length → out.length + x.length ≤ 30000 + k → x.length - k < fuel →
    f_lumref_put_L12 x kk fu fuel a b c e f out true (k : Int) = kk a b c e f (out ++ x.drop k) true
  | 0, _, _, _, _, hf => absurd hf (Nat.not_lt_zero _)
  | fuel + 1, k, out, hk, ho, hf => by
    rw [f_lumref_put_L12]
    by_cases hlt : k < x.length
    · rw [cond_tt (dlt (by omega)), lt_of]
      simp only [at_lt hlt, opt_of, lt_of, Bool.not_true, cond_false]
      rw [req_pos (by simp; omega), wsucc (by omega), put_done x kk fu hn a b c e f fuel (k + 1) _ (by omega) (by simp; omega) (by omega), List.drop_eq_getElem_cons hlt, List.append_assoc]
      rfl
    · rw [cond_ff (dge (by omega)), List.drop_of_length_le (by omega), List.append_nil]
theorem le_key (p q : Pl) : (Op.bytesLess (lA8u8 p.ID) (lA8u8 q.ID) || lA8u8 p.ID == lA8u8 q.ID) = !decide (L (key q) (key p)) := by
  have e : (lA8u8 p.ID == lA8u8 q.ID) = decide (key p = key q) := by
    by_cases h : key p = key q
    · rw [decide_eq_true h]; simpa [key] using h
    · rw [decide_eq_false h]; simpa [key] using h
  rw [e]
  rcases tri (key p) (key q) with h | h | h
  · rw [decide_eq_false (StrOrd.asymm h), show Op.bytesLess (lA8u8 p.ID) (lA8u8 q.ID) = true from h]; rfl
  · rw [decide_eq_true h, decide_eq_false (by rw [h]; exact irr _)]; simp
  · rw [decide_eq_true h, decide_eq_false (fun e => irr (key p) (by rw [← e] at h; exact h))]
    have := StrOrd.asymm h
    have : Op.bytesLess (lA8u8 p.ID) (lA8u8 q.ID) = false := by simpa [L, key] using this
    rw [this]; rfl
theorem put_go (x : List Pl) (kk : A8u8 → Int → Int → Int → Int → List Pl → Bool → Option (List Pl)) (fu : Nat) (hfu : 10 ≤ fu) (hn : x.length ≤ 10000) (p : Pl)
    (h1 : ∀ a b c e f (o : List Pl), kk a b c e f o true = some o) (h2 : ∀ (o : List Pl), o.length ≤ 30000 → kk p.ID p.Kind p.Pack p.At p.Len o false = some (o ++ [p])) : ∀ (fuel k : Nat) (out : List Pl), k ≤ x.length → out.length + x.length ≤ 20000 + k → x.length - k < fuel →
    f_lumref_put_L12 x kk fu fuel p.ID p.Kind p.Pack p.At p.Len out false (k : Int) = some (out ++ ins key cc p (x.drop k))
  | 0, _, _, _, _, hf => absurd hf (Nat.not_lt_zero _)
  | fuel + 1, k, out, hk, ho, hf => by
    rw [f_lumref_put_L12]
    by_cases hlt : k < x.length
    · rw [cond_tt (dlt (by omega)), lt_of]
      simp only [at_lt hlt, opt_of, lt_of, Bool.not_false, cond_true]
      rw [le_key, List.drop_eq_getElem_cons hlt, ins]
      by_cases hq : L (key x[k]) (key p)
      · rw [decide_eq_true hq, show (!true) = false from rfl, cond_ff rfl, if_pos hq, req_pos (by simp; omega), wsucc (by omega), put_go x kk fu hfu hn p h1 h2 fuel (k + 1) _ (by omega) (by simp; omega) (by omega), List.append_assoc]
        rfl
      · rw [decide_eq_false hq, show (!false) = true from rfl, cond_tt rfl, if_neg hq]
        by_cases he : key p = key x[k]
        · rw [cond_tt (by simpa using key_inj he), if_pos he, smaller_ok fu hfu _ _ he, opt_of]
          by_cases hs : cc x[k] p < 0
          · rw [decide_eq_true hs, cond_tt rfl, if_pos hs, req_pos (by simp; omega), wsucc (by omega), put_done x kk fu hn _ _ _ _ _ fuel (k + 1) _ (by omega) (by simp; omega) (by omega), h1, List.append_assoc]
            rfl
          · rw [decide_eq_false hs, cond_ff rfl, if_neg hs, req_pos (by simp; omega), wsucc (by omega), put_done x kk fu hn _ _ _ _ _ fuel (k + 1) _ (by omega) (by simp; omega) (by omega), h1, List.append_assoc]
            rfl
        · rw [cond_ff (by simpa using fun e => he (by unfold key; rw [e])), if_neg he, req_pos (by simp; omega), req_pos (by simp; omega), wsucc (by omega), put_done x kk fu hn _ _ _ _ _ fuel (k + 1) _ (by omega) (by simp; omega) (by omega), h1, List.append_assoc, List.append_assoc]
          rfl
    · rw [cond_ff (dge (by omega)), List.drop_of_length_le (by omega), h2 out (by omega)]
      rfl
theorem put_ok (x : List Pl) (p : Pl) (fu : Nat) (hfu : 20000 ≤ fu) (hn : x.length ≤ 10000) : f_lumref_put fu x p = some (ins key cc p x) := by
  unfold f_lumref_put
  rw [lt_of]
  refine (put_go x _ fu (by omega) hn p (fun a b c e f o => ?_) (fun o ho => ?_) fu 0 [] (by omega) (by simp; omega) (by omega)).trans (by simp)
  · rw [lt_of, Bool.not_true, cond_ff rfl]
  · rw [lt_of, Bool.not_false, cond_tt rfl, req_pos (by simp; omega)]
theorem grow_nil (fu n : Nat) (h : n ≤ 1000000) : f_slices_Grow___api_Place_api_Place__nil fu (n : Int) = some [] := by
  unfold f_slices_Grow___api_Place_api_Place__nil
  have hz : IntKind.i64.wrap (((0 : Nat) : Int) - ((0 : Nat) : Int)) = 0 := by decide
  have hn : IntKind.i64.wrap ((n : Int) - 0) = (n : Int) := by rw [w64 (by omega) (by omega)]; omega
  rw [cond_ff (dge (Int.natCast_nonneg n)), lt_of, hz, hn]
  by_cases h0 : 0 < n
  · rw [cond_tt (decide_eq_true (show (n : Int) > 0 by omega)), req_pos (by omega), req_pos (by simp)]
    simp
  · rw [cond_ff (decide_eq_false (by omega))]
theorem cat_sum (a b : List Pl) (h : a.length + b.length ≤ 1000000) (kk : Int → Option (List Pl)) (fu : Nat) (hf : 3 ≤ fu) : f_slices_Concat___api_Place_api_Place__L20 [a, b] kk fu 0 0 = kk ((a.length + b.length : Nat) : Int) := by
  obtain ⟨k, rfl⟩ : ∃ k, fu = k + 3 := ⟨fu - 3, by omega⟩
  have e1 : IntKind.i64.wrap ((0 : Int) + (a.length : Int)) = (a.length : Int) := by rw [w64 (by omega) (by omega)]; omega
  have e2 : IntKind.i64.wrap ((a.length : Int) + (b.length : Int)) = ((a.length + b.length : Nat) : Int) := by rw [w64 (by omega) (by omega)]; omega
  rw [f_slices_Concat___api_Place_api_Place__L20, cond_tt (by simp), show at? [a, b] (0 : Int) = some a from rfl, opt_of, e1, cond_ff (decide_eq_false (by omega)), show IntKind.i64.wrap ((0 : Int) + 1) = 1 by decide, f_slices_Concat___api_Place_api_Place__L20, cond_tt (by simp), show at? [a, b] (1 : Int) = some b from rfl, opt_of, e2, cond_ff (decide_eq_false (by omega)), show IntKind.i64.wrap ((1 : Int) + 1) = 2 by decide, f_slices_Concat___api_Place_api_Place__L20, cond_ff (by simp)]
theorem cat_app (a b : List Pl) (h : a.length + b.length ≤ 1000000) (kk : List Pl → Option (List Pl)) (fu : Nat) (hf : 3 ≤ fu) : f_slices_Concat___api_Place_api_Place__L10 [a, b] kk fu [] 0 = kk (a ++ b) := by
  obtain ⟨k, rfl⟩ : ∃ k, fu = k + 3 := ⟨fu - 3, by omega⟩
  rw [f_slices_Concat___api_Place_api_Place__L10, cond_tt (by simp), show at? [a, b] (0 : Int) = some a from rfl, opt_of, req_pos (by simp; omega), List.nil_append, show IntKind.i64.wrap ((0 : Int) + 1) = 1 by decide, f_slices_Concat___api_Place_api_Place__L10, cond_tt (by simp), show at? [a, b] (1 : Int) = some b from rfl, opt_of, req_pos (by omega), show IntKind.i64.wrap ((1 : Int) + 1) = 2 by decide, f_slices_Concat___api_Place_api_Place__L10, cond_ff (by simp)]
theorem concat_ok (a b : List Pl) (h : a.length + b.length ≤ 1000000) (fu : Nat) (hf : 3 ≤ fu) : f_slices_Concat___api_Place_api_Place_ fu [a, b] = some (a ++ b) := by
  unfold f_slices_Concat___api_Place_api_Place_
  rw [lt_of, cat_sum a b h _ fu hf, grow_nil fu _ h, opt_of, lt_of, cat_app a b h _ fu hf]
theorem clone_ok (a : List Pl) (h : a.length ≤ 1000000) (fu : Nat) : f_slices_Clone___api_Place_api_Place_ fu a = some a := by
  unfold f_slices_Clone___api_Place_api_Place_
  cases a with
  | nil => simp [amb, req]
  | cons x l => simp [amb]; simp at h; rw [req_pos (by omega)]
def merged (a b : List Pl) : List Pl × Int := if chk a ≠ 0 then ([], chk a) else if chk b ≠ 0 then ([], chk b) else if (comp key (sortPl (a ++ b))).length > 400 then ([], 2) else (comp key (sortPl (a ++ b)), 0)
theorem merge_code (a b : List Pl) (fu : Nat) (hfu : 20000 ≤ fu) : f_index_Merge fu a b = some (merged a b) := by
  unfold f_index_Merge merged
  rw [lt_of]
  obtain ⟨k, hk⟩ : ∃ k, fu = k + 3 := ⟨fu - 3, by omega⟩
  have e0 : ∀ kk, f_index_Merge_L17 a b kk fu fu 0 = if chk a ≠ 0 then some ([], chk a) else if chk b ≠ 0 then some ([], chk b) else kk () := fun kk => by
    conv => lhs; arg 5; rw [hk]
    rw [f_index_Merge_L17, cond_tt (by simp), show at? [a, b] (0 : Int) = some a from rfl, opt_of, code_any a fu (by omega), opt_of]
    by_cases h1 : chk a = 0
    · rw [cond_ff (by simpa using h1), if_neg (by simpa using h1), show IntKind.i64.wrap ((0 : Int) + 1) = 1 by decide, f_index_Merge_L17, cond_tt (by simp), show at? [a, b] (1 : Int) = some b from rfl, opt_of, code_any b fu (by omega), opt_of]
      by_cases h2 : chk b = 0
      · rw [cond_ff (by simpa using h2), if_neg (by simpa using h2), show IntKind.i64.wrap ((1 : Int) + 1) = 2 by decide, f_index_Merge_L17, cond_ff (by simp)]
      · rw [cond_tt (by simpa using h2), if_pos h2]
    · rw [cond_tt (by simpa using h1), if_pos h1]
  rw [e0]
  by_cases h1 : chk a = 0
  · by_cases h2 : chk b = 0
    · have l1 := (chk_sorted h1).1
      have l2 := (chk_sorted h2).1
      have l3 := comp_len (d := key) (sortPl (a ++ b))
      rw [sort_len, List.length_append] at l3
      rw [if_neg (by simpa using h1), if_neg (by simpa using h2), if_neg (by simpa using h1), if_neg (by simpa using h2), concat_ok a b (by omega) fu (by omega), opt_of, sorted_ok _ fu (by simp; omega) (by simp; omega), opt_of]
      by_cases h3 : (comp key (sortPl (a ++ b))).length > 400
      · rw [cond_tt (decide_eq_true (by omega)), if_pos h3]
      · rw [cond_ff (decide_eq_false (by omega)), if_neg h3, clone_ok _ (by omega), opt_of]
    · rw [if_neg (by simpa using h1), if_pos h2, if_neg (by simpa using h1), if_pos h2]
  · rw [if_pos h1, if_pos h1]
theorem ref_loop (b : List Pl) (kk : List Pl → Option (List Pl × Int)) (fu : Nat) (hfu : 20000 ≤ fu) (hb : b.length ≤ 5000) : ∀ (fuel k : Nat) (out : List Pl), k ≤ b.length → out.length + b.length ≤ 10000 + k → b.length - k < fuel →
    f_lumref_Merge_L15 b kk fu fuel out (k : Int) = kk ((b.drop k).foldl (fun o p => ins key cc p o) out)
  | 0, _, _, _, _, hf => absurd hf (Nat.not_lt_zero _)
  | fuel + 1, k, out, hk, ho, hf => by
    rw [f_lumref_Merge_L15]
    by_cases hlt : k < b.length
    · have := ins_len (d := key) (c := cc) b[k] out
      rw [cond_tt (dlt (by omega)), at_lt hlt, opt_of, put_ok out _ fu hfu (by omega), opt_of, wsucc (by omega), ref_loop b kk fu hfu hb fuel (k + 1) _ (by omega) (by omega) (by omega), List.drop_eq_getElem_cons hlt, List.foldl_cons]
    · rw [cond_ff (dge (by omega)), List.drop_of_length_le (by omega)]; rfl
theorem both (a b : List Pl) (h : chk a = 0) : b.foldl (fun o p => ins key cc p o) a = comp key (sortPl (a ++ b)) :=
  Mn.uniq (Mn.foldl cc_tot cc_zero (Mn.self cc_tot (chk_sorted h).2) b) (sort_mn (a ++ b)) (fun _ => Iff.rfl)
theorem merge_ref (a b : List Pl) (fu : Nat) (hfu : 20000 ≤ fu) : f_lumref_Merge fu a b = some (merged a b) := by
  unfold f_lumref_Merge merged
  rw [ref_any a fu (by omega), opt_of]
  by_cases h1 : chk a = 0
  · rw [cond_ff (by simpa using h1), if_neg (by simpa using h1), ref_any b fu (by omega), opt_of]
    by_cases h2 : chk b = 0
    · have l1 := (chk_sorted h1).1
      have l2 := (chk_sorted h2).1
      rw [cond_ff (by simpa using h2), if_neg (by simpa using h2), clone_ok a (by omega), opt_of, lt_of, show (0 : Int) = ((0 : Nat) : Int) from rfl, ref_loop b _ fu hfu (by omega) fu 0 a (by omega) (by omega) (by omega), List.drop_zero, both a b h1]
      by_cases h3 : (comp key (sortPl (a ++ b))).length > 400
      · rw [cond_tt (decide_eq_true (by omega)), if_pos h3]
      · rw [cond_ff (decide_eq_false (by omega)), if_neg h3]
    · rw [cond_tt (by simpa using h2), if_pos h2]
  · rw [cond_tt (by simpa using h1), if_pos h1]
def mkP (n : Int) (x : S_api_Entry) : Pl := S_api_Place.mk x.ID x.Kind n x.At x.Len
def ferr (n : Int) : List S_api_Entry → Int
  | [] => 0
  | x :: l => if perr (mkP n x) ≠ 0 then perr (mkP n x) else ferr n l
theorem of_loop (n : Int) (l : List S_api_Entry) (kk : List Pl → Option (List Pl × Int)) (fu : Nat) (hl : l.length ≤ 5000) : ∀ (fuel k : Nat) (out : List Pl), k ≤ l.length → out.length + l.length ≤ 10000 + k → l.length - k < fuel →
    f_index_Of_L12 n l kk fu fuel out (k : Int) = if ferr n (l.drop k) ≠ 0 then some ([], ferr n (l.drop k)) else kk (out ++ (l.drop k).map (mkP n))
  | 0, _, _, _, _, hf => absurd hf (Nat.not_lt_zero _)
  | fuel + 1, k, out, hk, ho, hf => by
    rw [f_index_Of_L12]
    by_cases hlt : k < l.length
    · rw [cond_tt (dlt (by omega)), at_lt hlt, opt_of, code_place, opt_of, List.drop_eq_getElem_cons hlt, ferr]
      show (bif (perr (mkP n l[k]) != 0) then _ else _) = _
      by_cases h0 : perr (mkP n l[k]) = 0
      · rw [cond_ff (by simpa using h0), if_neg (c := perr (mkP n l[k]) ≠ 0) (by simpa using h0), req_pos (by simp; omega), wsucc (by omega), of_loop n l kk fu hl fuel (k + 1) _ (by omega) (by simp; omega) (by omega), List.map_cons, List.append_assoc]
        rfl
      · rw [cond_tt (by simpa using h0), if_pos (c := perr (mkP n l[k]) ≠ 0) h0, if_pos h0]; rfl
    · rw [cond_ff (dge (by omega)), List.drop_of_length_le (by omega)]; simp [ferr]
theorem of_ref (n : Int) (l : List S_api_Entry) (kk : List Pl → Option (List Pl × Int)) (fu : Nat) (hfu : 20000 ≤ fu) (hl : l.length ≤ 5000) : ∀ (fuel k : Nat) (out : List Pl), k ≤ l.length → out.length + l.length ≤ 10000 + k → l.length - k < fuel →
    f_lumref_IndexOf_L9 n l kk fu fuel out (k : Int) = if ferr n (l.drop k) ≠ 0 then some ([], ferr n (l.drop k)) else kk (((l.drop k).map (mkP n)).foldl (fun o p => ins key cc p o) out)
  | 0, _, _, _, _, hf => absurd hf (Nat.not_lt_zero _)
  | fuel + 1, k, out, hk, ho, hf => by
    rw [f_lumref_IndexOf_L9]
    by_cases hlt : k < l.length
    · have := ins_len (d := key) (c := cc) (mkP n l[k]) out
      rw [cond_tt (dlt (by omega)), at_lt hlt, opt_of, ref_place, opt_of, List.drop_eq_getElem_cons hlt, ferr]
      show (bif (perr (mkP n l[k]) != 0) then _ else opt (f_lumref_put fu out (mkP n l[k])) _) = _
      by_cases h0 : perr (mkP n l[k]) = 0
      · rw [cond_ff (by simpa using h0), if_neg (c := perr (mkP n l[k]) ≠ 0) (by simpa using h0), put_ok out _ fu hfu (by omega), opt_of, wsucc (by omega), of_ref n l kk fu hfu hl fuel (k + 1) _ (by omega) (by omega) (by omega), List.map_cons, List.foldl_cons]
      · rw [cond_tt (by simpa using h0), if_pos (c := perr (mkP n l[k]) ≠ 0) h0, if_pos h0]; rfl
    · rw [cond_ff (dge (by omega)), List.drop_of_length_le (by omega)]; simp [ferr]
def ofV (n : Int) (l : List S_api_Entry) : List Pl × Int := if inr n = false then ([], 1) else if l.length > 400 then ([], 2) else if ferr n l ≠ 0 then ([], ferr n l) else (comp key (sortPl (l.map (mkP n))), 0)
theorem of_code (n : Int) (l : List S_api_Entry) (fu : Nat) (hfu : 20000 ≤ fu) : f_index_Of fu n l = some (ofV n l) := by
  unfold f_index_Of ofV
  rw [range, opt_of]
  by_cases h0 : inr n = false
  · rw [h0, cond_tt (show (!false) = true from rfl), if_pos rfl]
  · have h0' : inr n = true := by simpa using h0
    rw [h0', cond_ff (show (!true) = false from rfl), if_neg (by simp)]
    by_cases h1 : l.length > 400
    · rw [cond_tt (decide_eq_true (by omega)), if_pos h1]
    · rw [cond_ff (decide_eq_false (by omega)), if_neg h1, lt_of, show (0 : Int) = ((0 : Nat) : Int) from rfl, of_loop n l _ fu (by omega) fu 0 [] (by omega) (by simp; omega) (by omega), List.drop_zero, List.nil_append, sorted_ok _ fu (by simp; omega) (by simp; omega), opt_of]
      by_cases h2 : ferr n l = 0
      · rw [if_neg (by simpa using h2), if_neg (by simpa using h2)]; try rfl
      · rw [if_pos h2, if_pos (show ferr n l ≠ ((0 : Nat) : Int) from h2)]
theorem of_ref_ok (n : Int) (l : List S_api_Entry) (fu : Nat) (hfu : 20000 ≤ fu) : f_lumref_IndexOf fu n l = some (ofV n l) := by
  unfold f_lumref_IndexOf ofV
  have hc : ∀ kk : Bool → Option (List Pl × Int), (lt kk fun kk2 => (bif decide (n < 0) then kk2 true else kk2 (decide (n > 1099511627776)))) = kk (!inr n) := fun kk => by
    rw [lt_of]
    by_cases h : n < 0
    · rw [cond_tt (decide_eq_true h), inr_ff (by omega)]; rfl
    · rw [cond_ff (decide_eq_false h)]
      by_cases h' : n > 1099511627776
      · rw [decide_eq_true h', inr_ff (by unfold lim; omega)]; rfl
      · rw [decide_eq_false h', inr_tt (by unfold lim; omega)]; rfl
  rw [hc]
  by_cases h0 : inr n = false
  · rw [h0, cond_tt (show (!false) = true from rfl), if_pos rfl]
  · have h0' : inr n = true := by simpa using h0
    rw [h0', cond_ff (show (!true) = false from rfl), if_neg (by simp)]
    by_cases h1 : l.length > 400
    · rw [cond_tt (decide_eq_true (by omega)), if_pos h1]
    · rw [cond_ff (decide_eq_false (by omega)), if_neg h1, lt_of, show (0 : Int) = ((0 : Nat) : Int) from rfl, of_ref n l _ fu hfu (by omega) fu 0 [] (by omega) (by simp; omega) (by omega), List.drop_zero]
      have hb : (l.map (mkP n)).foldl (fun o p => ins key cc p o) [] = comp key (sortPl (l.map (mkP n))) := by
        have := Mn.uniq (Mn.foldl cc_tot cc_zero (Mn.nil (d := key) (c := cc)) (l.map (mkP n))) (sort_mn (l.map (mkP n))) (fun x => by rw [List.nil_append])
        exact this
      rw [hb]
      by_cases h2 : ferr n l = 0
      · rw [if_neg (by simpa using h2), if_neg (by simpa using h2)]; try rfl
      · rw [if_pos h2, if_pos (show ferr n l ≠ ((0 : Nat) : Int) from h2)]
def Wf (u : Pl) : Prop := (Lit.int .i64 u.Kind).wf = true ∧ (Lit.int .i64 u.Pack).wf = true ∧ (Lit.int .i64 u.At).wf = true ∧ (Lit.int .i64 u.Len).wf = true
theorem eq_go (a : List Pl) (ha : a.length ≤ 10000) (hw : ∀ u ∈ a, Wf u) (kk : Unit → Option Bool) : ∀ (d j fu : Nat), a.length - j = d → j ≤ a.length → d < fu → f_slices_Equal___api_Place_api_Place__L6 a a kk fu (j : Int) = kk ()
  | _, _, 0, _, _, hf => absurd hf (Nat.not_lt_zero _)
  | 0, j, fu + 1, hd, hj, _ => by rw [f_slices_Equal___api_Place_api_Place__L6, cond_ff (dge (by omega))]
  | d + 1, j, fu + 1, hd, hj, hf => by
    have hlt : j < a.length := by omega
    obtain ⟨w1, w2, w3, w4⟩ := hw a[j] (List.getElem_mem hlt)
    rw [f_slices_Equal___api_Place_api_Place__L6, cond_tt (dlt (by omega)), at_lt hlt, opt_of, opt_of, req_pos w1, req_pos w2, req_pos w3, req_pos w4, req_pos w1, req_pos w2, req_pos w3, req_pos w4, beq_self_eq_true, show (!true) = false from rfl, cond_ff rfl, wsucc (by omega)]
    exact eq_go a ha hw kk d (j + 1) fu (by omega) (by omega) (by omega)
theorem eq_ok (a : List Pl) (ha : a.length ≤ 10000) (hw : ∀ u ∈ a, Wf u) (fu : Nat) (hf : a.length < fu) : f_slices_Equal___api_Place_api_Place_ fu a a = some true := by
  unfold f_slices_Equal___api_Place_api_Place_
  rw [bne_self_eq_false, cond_ff rfl, lt_of]
  exact eq_go a ha hw _ a.length 0 fu (by omega) (by omega) (by omega)
theorem comp_mem (l : List Pl) (x : Pl) (h : x ∈ comp key (sortPl l)) : x ∈ l := (((sort_mn l).mem x).1 h).1
def fuel (a b : List Pl) (n : Int) (l : List S_api_Entry) : Nat := 30000
theorem says (a b : List Pl) (n : Int) (l : List S_api_Entry) (ok0 : okL (fun y => okS_api_Place y) a) (ok1 : okL (fun y => okS_api_Place y) b) (ok2 : (Lit.int .i64 n).wf = true) (ok3 : okL (fun y => okS_api_Entry y) l) : f_lumlaw_IndexMerges (fuel a b n l) a b n l = some true := by
  unfold f_lumlaw_IndexMerges fuel
  rw [merge_code a b _ (by omega), opt_of, merge_ref a b _ (by omega), opt_of, of_code n l _ (by omega), opt_of, of_ref_ok n l _ (by omega), opt_of, lt_of]
  have h1 : f_slices_Equal___api_Place_api_Place_ 30000 (merged a b).1 (merged a b).1 = some true := by
    refine eq_ok _ ?_ ?_ _ ?_ <;> unfold merged <;> split <;> (try split) <;> (try split) <;> (try simp) <;> (try omega)
    intro u hu
    have := comp_mem _ u hu
    rcases List.mem_append.1 this with h | h
    · exact (ok0.2 u h).2
    · exact (ok1.2 u h).2
  have h2 : f_slices_Equal___api_Place_api_Place_ 30000 (ofV n l).1 (ofV n l).1 = some true := by
    have hlen := comp_len (d := key) (sortPl (l.map (mkP n)))
    rw [sort_len, List.length_map] at hlen
    refine eq_ok _ ?_ ?_ _ ?_ <;> unfold ofV <;> split <;> (try split) <;> (try split) <;> (try simp) <;> (try omega)
    intro u hu
    obtain ⟨x, hx, rfl⟩ := List.mem_map.1 (comp_mem _ u hu)
    obtain ⟨_, w1, w2, w3⟩ := ok3.2 x hx
    exact ⟨w1, ok2, w2, w3⟩
  rw [h1, opt_of, cond_tt rfl, beq_self_eq_true, cond_tt rfl, h2, opt_of, cond_tt rfl, beq_self_eq_true]
end Go.Proofs.Ythdifoidlpiikaa.PIndexMerges
