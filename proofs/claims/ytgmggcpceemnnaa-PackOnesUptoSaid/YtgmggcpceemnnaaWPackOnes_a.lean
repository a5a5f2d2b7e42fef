/- Walks by program. No condition. -/
import Derived.Test.YtgmggcpceemnnaaEn25
import Derived.Test.YtgmggcpceemnnaaChecked
import Derived.Test.YtgmggcpceemnnaaEn25
import Derived.Test.YtgmggcpceemnnaaShBEPut
import Derived.Test.YtgmggcpceemnnaaShCont
import Derived.Test.YtgmggcpceemnnaaShRepeat
import Derived.Test.YtgmggcpceemnnaaEnS
namespace Go.Proofs.Ytgmggcpceemnnaa
open Go.RowKit Ytgmggcpceemnnaa.En
set_option linter.unusedVariables false
set_option linter.unusedSimpArgs false
open Go.Value (int bool)
structure A3i64 where
  e0 : Int
  e1 : Int
  e2 : Int
  deriving DecidableEq
def tyA3i64 : Ty A3i64 := tyVia (fun x => (x.e0, (x.e1, x.e2))) (tyPair (tyInt .i64) (tyPair (tyInt .i64) (tyInt .i64)))
theorem subA3i64_0 : Sub tyA3i64 0 (tyInt .i64) (fun x => x.e0) := Sub.via (Sub.fst (Sub.whole _))
theorem subA3i64_1 : Sub tyA3i64 1 (tyInt .i64) (fun x => x.e1) := Sub.via (Sub.snd (Sub.fst (Sub.whole _)))
theorem subA3i64_2 : Sub tyA3i64 2 (tyInt .i64) (fun x => x.e2) := Sub.via (Sub.snd (Sub.snd (Sub.whole _)))
def cA3i64 (x : A3i64) : List Value := [(int .i64 x.e0), (int .i64 x.e1), (int .i64 x.e2)]
def lA3i64 (x : A3i64) : List Int := [x.e0, x.e1, x.e2]
def vA3i64 (y : Int) : Value := (int .i64 y)
def setA3i64 (x : A3i64) (j : Int) (y : Int) : A3i64 := ⟨if j = 0 then y else x.e0, if j = 1 then y else x.e1, if j = 2 then y else x.e2⟩
theorem oneA3i64 (x : A3i64) : ∀ u ∈ cA3i64 x, u.oneCell' = true := ones_map (enc := vA3i64) (xs := lA3i64 x) (fun _ => rfl)
theorem lenA3i64 (x : A3i64) : (lA3i64 x).length = 3 := rfl
theorem lsetA3i64 {x : A3i64} {j : Int} {y : Int} (h0 : 0 ≤ j) (h1 : j < 3) : lA3i64 (setA3i64 x j y) = (lA3i64 x).set j.toNat y := by
  obtain ⟨q, rfl⟩ : ∃ q : Nat, j = q := ⟨j.toNat, by omega⟩
  match q, h1 with
  | 0, _ => rfl
  | 1, _ => rfl
  | 2, _ => rfl
  | n + 3, h => omega
theorem csetA3i64 {x : A3i64} {j : Int} {y : Int} (h0 : 0 ≤ j) (h1 : j < 3) (pre post : List Value) : pre ++ (cA3i64 (setA3i64 x j y) ++ post) = (pre ++ (cA3i64 x ++ post)).set (pre.length + j.toNat) (vA3i64 y) := by
  have h : cA3i64 (setA3i64 x j y) = (cA3i64 x).set j.toNat (vA3i64 y) := by
    have e : ∀ z : A3i64, cA3i64 z = (lA3i64 z).map vA3i64 := fun _ => rfl
    rw [e, e, lsetA3i64 h0 h1, List.map_set]
  rw [h, List.set_append_right _ _ (by omega), Nat.add_sub_cancel_left, List.set_append_left _ _ (by show j.toNat < 3; omega)]
theorem flatA3i64 : FlatTy tyA3i64 := flat_via (flat_pair flat_enc (flat_pair flat_enc flat_enc))
theorem encA3i64 {Z w cs} {x : A3i64} (h : tyA3i64.rep Z w cs x) : cs = (cA3i64 x) := by
  obtain ⟨c0, d0, rfl, p0, q0⟩ := h
  obtain ⟨c1, d1, rfl, p1, q1⟩ := q0
  rw [show _ = _ from p0]
  rw [show _ = _ from p1]
  rw [show _ = _ from q1]
  rfl
theorem mkA3i64 {Z w cs} {x : A3i64} (h : cs = (cA3i64 x)) : tyA3i64.rep Z w cs x := by
  subst h
  exact ⟨_, _, (List.take_append_drop 1 _).symm, rfl, ⟨_, _, (List.take_append_drop 1 _).symm, rfl, rfl⟩⟩
theorem lrepA3i64 {Z w cs} {x : A3i64} (h : tyA3i64.rep Z w cs x) : RepL (tyInt .i64) Z w cs (lA3i64 x) := by
  rw [encA3i64 h]
  exact ⟨[_], _, rfl, rfl, ⟨[_], _, rfl, rfl, ⟨[_], _, rfl, rfl, rfl⟩⟩⟩
structure A3u64 where
  e0 : Int
  e1 : Int
  e2 : Int
  deriving DecidableEq
def tyA3u64 : Ty A3u64 := tyVia (fun x => (x.e0, (x.e1, x.e2))) (tyPair (tyInt .u64) (tyPair (tyInt .u64) (tyInt .u64)))
theorem subA3u64_0 : Sub tyA3u64 0 (tyInt .u64) (fun x => x.e0) := Sub.via (Sub.fst (Sub.whole _))
theorem subA3u64_1 : Sub tyA3u64 1 (tyInt .u64) (fun x => x.e1) := Sub.via (Sub.snd (Sub.fst (Sub.whole _)))
theorem subA3u64_2 : Sub tyA3u64 2 (tyInt .u64) (fun x => x.e2) := Sub.via (Sub.snd (Sub.snd (Sub.whole _)))
def cA3u64 (x : A3u64) : List Value := [(int .u64 x.e0), (int .u64 x.e1), (int .u64 x.e2)]
def lA3u64 (x : A3u64) : List Int := [x.e0, x.e1, x.e2]
def vA3u64 (y : Int) : Value := (int .u64 y)
def setA3u64 (x : A3u64) (j : Int) (y : Int) : A3u64 := ⟨if j = 0 then y else x.e0, if j = 1 then y else x.e1, if j = 2 then y else x.e2⟩
theorem oneA3u64 (x : A3u64) : ∀ u ∈ cA3u64 x, u.oneCell' = true := ones_map (enc := vA3u64) (xs := lA3u64 x) (fun _ => rfl)
theorem lenA3u64 (x : A3u64) : (lA3u64 x).length = 3 := rfl
theorem lsetA3u64 {x : A3u64} {j : Int} {y : Int} (h0 : 0 ≤ j) (h1 : j < 3) : lA3u64 (setA3u64 x j y) = (lA3u64 x).set j.toNat y := by
  obtain ⟨q, rfl⟩ : ∃ q : Nat, j = q := ⟨j.toNat, by omega⟩
  match q, h1 with
  | 0, _ => rfl
  | 1, _ => rfl
  | 2, _ => rfl
  | n + 3, h => omega
theorem csetA3u64 {x : A3u64} {j : Int} {y : Int} (h0 : 0 ≤ j) (h1 : j < 3) (pre post : List Value) : pre ++ (cA3u64 (setA3u64 x j y) ++ post) = (pre ++ (cA3u64 x ++ post)).set (pre.length + j.toNat) (vA3u64 y) := by
  have h : cA3u64 (setA3u64 x j y) = (cA3u64 x).set j.toNat (vA3u64 y) := by
    have e : ∀ z : A3u64, cA3u64 z = (lA3u64 z).map vA3u64 := fun _ => rfl
    rw [e, e, lsetA3u64 h0 h1, List.map_set]
  rw [h, List.set_append_right _ _ (by omega), Nat.add_sub_cancel_left, List.set_append_left _ _ (by show j.toNat < 3; omega)]
theorem flatA3u64 : FlatTy tyA3u64 := flat_via (flat_pair flat_enc (flat_pair flat_enc flat_enc))
theorem encA3u64 {Z w cs} {x : A3u64} (h : tyA3u64.rep Z w cs x) : cs = (cA3u64 x) := by
  obtain ⟨c0, d0, rfl, p0, q0⟩ := h
  obtain ⟨c1, d1, rfl, p1, q1⟩ := q0
  rw [show _ = _ from p0]
  rw [show _ = _ from p1]
  rw [show _ = _ from q1]
  rfl
theorem mkA3u64 {Z w cs} {x : A3u64} (h : cs = (cA3u64 x)) : tyA3u64.rep Z w cs x := by
  subst h
  exact ⟨_, _, (List.take_append_drop 1 _).symm, rfl, ⟨_, _, (List.take_append_drop 1 _).symm, rfl, rfl⟩⟩
theorem lrepA3u64 {Z w cs} {x : A3u64} (h : tyA3u64.rep Z w cs x) : RepL (tyInt .u64) Z w cs (lA3u64 x) := by
  rw [encA3u64 h]
  exact ⟨[_], _, rfl, rfl, ⟨[_], _, rfl, rfl, ⟨[_], _, rfl, rfl, rfl⟩⟩⟩
structure S_api_Token where
  Lit : Int
  Len : Int
  Dist : Int
  deriving DecidableEq
def tyS_api_Token : Ty S_api_Token := tyVia (fun x => (x.Lit, (x.Len, x.Dist))) (tyPair (tyInt .u8) (tyPair (tyInt .i64) (tyInt .i64)))
theorem subS_api_Token_0 : Sub tyS_api_Token 0 (tyInt .u8) (fun x => x.Lit) := Sub.via (Sub.fst (Sub.whole _))
theorem subS_api_Token_1 : Sub tyS_api_Token 1 (tyInt .i64) (fun x => x.Len) := Sub.via (Sub.snd (Sub.fst (Sub.whole _)))
theorem subS_api_Token_2 : Sub tyS_api_Token 2 (tyInt .i64) (fun x => x.Dist) := Sub.via (Sub.snd (Sub.snd (Sub.whole _)))
theorem flatS_api_Token : FlatTy tyS_api_Token := flat_via (flat_pair flat_enc (flat_pair flat_enc flat_enc))
theorem encS_api_Token {Z w cs} {x : S_api_Token} (h : tyS_api_Token.rep Z w cs x) : cs = [(int .u8 x.Lit), (int .i64 x.Len), (int .i64 x.Dist)] := by
  obtain ⟨c0, d0, rfl, p0, q0⟩ := h
  obtain ⟨c1, d1, rfl, p1, q1⟩ := q0
  rw [show _ = _ from p0]
  rw [show _ = _ from p1]
  rw [show _ = _ from q1]
  rfl
theorem mkS_api_Token {Z w cs} {x : S_api_Token} (h : cs = [(int .u8 x.Lit), (int .i64 x.Len), (int .i64 x.Dist)]) : tyS_api_Token.rep Z w cs x := by
  subst h
  exact ⟨_, _, (List.take_append_drop 1 _).symm, rfl, ⟨_, _, (List.take_append_drop 1 _).symm, rfl, rfl⟩⟩
structure S_press_code where
  bits : Int
  n : Int
  deriving DecidableEq
def tyS_press_code : Ty S_press_code := tyVia (fun x => (x.bits, x.n)) (tyPair (tyInt .i64) (tyInt .i64))
theorem subS_press_code_0 : Sub tyS_press_code 0 (tyInt .i64) (fun x => x.bits) := Sub.via (Sub.fst (Sub.whole _))
theorem subS_press_code_1 : Sub tyS_press_code 1 (tyInt .i64) (fun x => x.n) := Sub.via (Sub.snd (Sub.whole _))
theorem flatS_press_code : FlatTy tyS_press_code := flat_via (flat_pair flat_enc flat_enc)
theorem encS_press_code {Z w cs} {x : S_press_code} (h : tyS_press_code.rep Z w cs x) : cs = [(int .i64 x.bits), (int .i64 x.n)] := by
  obtain ⟨c0, d0, rfl, p0, q0⟩ := h
  rw [show _ = _ from p0]
  rw [show _ = _ from q0]
  rfl
theorem mkS_press_code {Z w cs} {x : S_press_code} (h : cs = [(int .i64 x.bits), (int .i64 x.n)]) : tyS_press_code.rep Z w cs x := by
  subst h
  exact ⟨_, _, (List.take_append_drop 1 _).symm, rfl, rfl⟩
structure S_press_reader where
  s : (List UInt8)
  left : Int
  deriving DecidableEq
def tyS_press_reader : Ty S_press_reader := tyVia (fun x => (x.s, x.left)) (tyPair tyStr (tyInt .i64))
theorem subS_press_reader_0 : Sub tyS_press_reader 0 tyStr (fun x => x.s) := Sub.via (Sub.fst (Sub.whole _))
theorem subS_press_reader_1 : Sub tyS_press_reader 1 (tyInt .i64) (fun x => x.left) := Sub.via (Sub.snd (Sub.whole _))
theorem flatS_press_reader : FlatTy tyS_press_reader := flat_via (flat_pair flat_enc flat_enc)
theorem encS_press_reader {Z w cs} {x : S_press_reader} (h : tyS_press_reader.rep Z w cs x) : cs = [(str x.s), (int .i64 x.left)] := by
  obtain ⟨c0, d0, rfl, p0, q0⟩ := h
  rw [show _ = _ from p0]
  rw [show _ = _ from q0]
  rfl
theorem mkS_press_reader {Z w cs} {x : S_press_reader} (h : cs = [(str x.s), (int .i64 x.left)]) : tyS_press_reader.rep Z w cs x := by
  subst h
  exact ⟨_, _, (List.take_append_drop 1 _).symm, rfl, rfl⟩
structure A8u8 where
  e0 : UInt8
  e1 : UInt8
  e2 : UInt8
  e3 : UInt8
  e4 : UInt8
  e5 : UInt8
  e6 : UInt8
  e7 : UInt8
  deriving DecidableEq
def tyA8u8 : Ty A8u8 := tyVia (fun x => (x.e0, (x.e1, (x.e2, (x.e3, (x.e4, (x.e5, (x.e6, x.e7)))))))) (tyPair tyU8 (tyPair tyU8 (tyPair tyU8 (tyPair tyU8 (tyPair tyU8 (tyPair tyU8 (tyPair tyU8 tyU8)))))))
theorem subA8u8_0 : Sub tyA8u8 0 tyU8 (fun x => x.e0) := Sub.via (Sub.fst (Sub.whole _))
theorem subA8u8_1 : Sub tyA8u8 1 tyU8 (fun x => x.e1) := Sub.via (Sub.snd (Sub.fst (Sub.whole _)))
theorem subA8u8_2 : Sub tyA8u8 2 tyU8 (fun x => x.e2) := Sub.via (Sub.snd (Sub.snd (Sub.fst (Sub.whole _))))
theorem subA8u8_3 : Sub tyA8u8 3 tyU8 (fun x => x.e3) := Sub.via (Sub.snd (Sub.snd (Sub.snd (Sub.fst (Sub.whole _)))))
theorem subA8u8_4 : Sub tyA8u8 4 tyU8 (fun x => x.e4) := Sub.via (Sub.snd (Sub.snd (Sub.snd (Sub.snd (Sub.fst (Sub.whole _))))))
theorem subA8u8_5 : Sub tyA8u8 5 tyU8 (fun x => x.e5) := Sub.via (Sub.snd (Sub.snd (Sub.snd (Sub.snd (Sub.snd (Sub.fst (Sub.whole _)))))))
theorem subA8u8_6 : Sub tyA8u8 6 tyU8 (fun x => x.e6) := Sub.via (Sub.snd (Sub.snd (Sub.snd (Sub.snd (Sub.snd (Sub.snd (Sub.fst (Sub.whole _))))))))
theorem subA8u8_7 : Sub tyA8u8 7 tyU8 (fun x => x.e7) := Sub.via (Sub.snd (Sub.snd (Sub.snd (Sub.snd (Sub.snd (Sub.snd (Sub.snd (Sub.whole _))))))))
def cA8u8 (x : A8u8) : List Value := [(int .u8 (x.e0.toNat : Int)), (int .u8 (x.e1.toNat : Int)), (int .u8 (x.e2.toNat : Int)), (int .u8 (x.e3.toNat : Int)), (int .u8 (x.e4.toNat : Int)), (int .u8 (x.e5.toNat : Int)), (int .u8 (x.e6.toNat : Int)), (int .u8 (x.e7.toNat : Int))]
def lA8u8 (x : A8u8) : List UInt8 := [x.e0, x.e1, x.e2, x.e3, x.e4, x.e5, x.e6, x.e7]
def vA8u8 (y : UInt8) : Value := (int .u8 (y.toNat : Int))
def setA8u8 (x : A8u8) (j : Int) (y : UInt8) : A8u8 := ⟨if j = 0 then y else x.e0, if j = 1 then y else x.e1, if j = 2 then y else x.e2, if j = 3 then y else x.e3, if j = 4 then y else x.e4, if j = 5 then y else x.e5, if j = 6 then y else x.e6, if j = 7 then y else x.e7⟩
theorem oneA8u8 (x : A8u8) : ∀ u ∈ cA8u8 x, u.oneCell' = true := ones_map (enc := vA8u8) (xs := lA8u8 x) (fun _ => rfl)
theorem lenA8u8 (x : A8u8) : (lA8u8 x).length = 8 := rfl
theorem lsetA8u8 {x : A8u8} {j : Int} {y : UInt8} (h0 : 0 ≤ j) (h1 : j < 8) : lA8u8 (setA8u8 x j y) = (lA8u8 x).set j.toNat y := by
  obtain ⟨q, rfl⟩ : ∃ q : Nat, j = q := ⟨j.toNat, by omega⟩
  match q, h1 with
  | 0, _ => rfl
  | 1, _ => rfl
  | 2, _ => rfl
  | 3, _ => rfl
  | 4, _ => rfl
  | 5, _ => rfl
  | 6, _ => rfl
  | 7, _ => rfl
  | n + 8, h => omega
theorem csetA8u8 {x : A8u8} {j : Int} {y : UInt8} (h0 : 0 ≤ j) (h1 : j < 8) (pre post : List Value) : pre ++ (cA8u8 (setA8u8 x j y) ++ post) = (pre ++ (cA8u8 x ++ post)).set (pre.length + j.toNat) (vA8u8 y) := by
  have h : cA8u8 (setA8u8 x j y) = (cA8u8 x).set j.toNat (vA8u8 y) := by
    have e : ∀ z : A8u8, cA8u8 z = (lA8u8 z).map vA8u8 := fun _ => rfl
    rw [e, e, lsetA8u8 h0 h1, List.map_set]
  rw [h, List.set_append_right _ _ (by omega), Nat.add_sub_cancel_left, List.set_append_left _ _ (by show j.toNat < 8; omega)]
theorem flatA8u8 : FlatTy tyA8u8 := flat_via (flat_pair flat_enc (flat_pair flat_enc (flat_pair flat_enc (flat_pair flat_enc (flat_pair flat_enc (flat_pair flat_enc (flat_pair flat_enc flat_enc)))))))
theorem encA8u8 {Z w cs} {x : A8u8} (h : tyA8u8.rep Z w cs x) : cs = (cA8u8 x) := by
  obtain ⟨c0, d0, rfl, p0, q0⟩ := h
  obtain ⟨c1, d1, rfl, p1, q1⟩ := q0
  obtain ⟨c2, d2, rfl, p2, q2⟩ := q1
  obtain ⟨c3, d3, rfl, p3, q3⟩ := q2
  obtain ⟨c4, d4, rfl, p4, q4⟩ := q3
  obtain ⟨c5, d5, rfl, p5, q5⟩ := q4
  obtain ⟨c6, d6, rfl, p6, q6⟩ := q5
  rw [show _ = _ from p0]
  rw [show _ = _ from p1]
  rw [show _ = _ from p2]
  rw [show _ = _ from p3]
  rw [show _ = _ from p4]
  rw [show _ = _ from p5]
  rw [show _ = _ from p6]
  rw [show _ = _ from q6]
  rfl
theorem mkA8u8 {Z w cs} {x : A8u8} (h : cs = (cA8u8 x)) : tyA8u8.rep Z w cs x := by
  subst h
  exact ⟨_, _, (List.take_append_drop 1 _).symm, rfl, ⟨_, _, (List.take_append_drop 1 _).symm, rfl, ⟨_, _, (List.take_append_drop 1 _).symm, rfl, ⟨_, _, (List.take_append_drop 1 _).symm, rfl, ⟨_, _, (List.take_append_drop 1 _).symm, rfl, ⟨_, _, (List.take_append_drop 1 _).symm, rfl, ⟨_, _, (List.take_append_drop 1 _).symm, rfl, rfl⟩⟩⟩⟩⟩⟩⟩
theorem lrepA8u8 {Z w cs} {x : A8u8} (h : tyA8u8.rep Z w cs x) : RepL tyU8 Z w cs (lA8u8 x) := by
  rw [encA8u8 h]
  exact ⟨[_], _, rfl, rfl, ⟨[_], _, rfl, rfl, ⟨[_], _, rfl, rfl, ⟨[_], _, rfl, rfl, ⟨[_], _, rfl, rfl, ⟨[_], _, rfl, rfl, ⟨[_], _, rfl, rfl, ⟨[_], _, rfl, rfl, rfl⟩⟩⟩⟩⟩⟩⟩⟩
structure S_api_Blob where
  Kind : Int
  Bytes : (List UInt8)
  deriving DecidableEq
def tyS_api_Blob : Ty S_api_Blob := tyVia (fun x => (x.Kind, x.Bytes)) (tyPair (tyInt .i64) tyStr)
theorem subS_api_Blob_0 : Sub tyS_api_Blob 0 (tyInt .i64) (fun x => x.Kind) := Sub.via (Sub.fst (Sub.whole _))
theorem subS_api_Blob_1 : Sub tyS_api_Blob 1 tyStr (fun x => x.Bytes) := Sub.via (Sub.snd (Sub.whole _))
theorem flatS_api_Blob : FlatTy tyS_api_Blob := flat_via (flat_pair flat_enc flat_enc)
theorem encS_api_Blob {Z w cs} {x : S_api_Blob} (h : tyS_api_Blob.rep Z w cs x) : cs = [(int .i64 x.Kind), (str x.Bytes)] := by
  obtain ⟨c0, d0, rfl, p0, q0⟩ := h
  rw [show _ = _ from p0]
  rw [show _ = _ from q0]
  rfl
theorem mkS_api_Blob {Z w cs} {x : S_api_Blob} (h : cs = [(int .i64 x.Kind), (str x.Bytes)]) : tyS_api_Blob.rep Z w cs x := by
  subst h
  exact ⟨_, _, (List.take_append_drop 1 _).symm, rfl, rfl⟩
structure S_api_Entry where
  ID : A8u8
  Kind : Int
  At : Int
  Len : Int
  deriving DecidableEq
def tyS_api_Entry : Ty S_api_Entry := tyVia (fun x => (x.ID, (x.Kind, (x.At, x.Len)))) (tyPair tyA8u8 (tyPair (tyInt .i64) (tyPair (tyInt .i64) (tyInt .i64))))
theorem subS_api_Entry_0 : Sub tyS_api_Entry 0 tyA8u8 (fun x => x.ID) := Sub.via (Sub.fst (Sub.whole _))
theorem subS_api_Entry_1 : Sub tyS_api_Entry 8 (tyInt .i64) (fun x => x.Kind) := Sub.via (Sub.snd (Sub.fst (Sub.whole _)))
theorem subS_api_Entry_2 : Sub tyS_api_Entry 9 (tyInt .i64) (fun x => x.At) := Sub.via (Sub.snd (Sub.snd (Sub.fst (Sub.whole _))))
theorem subS_api_Entry_3 : Sub tyS_api_Entry 10 (tyInt .i64) (fun x => x.Len) := Sub.via (Sub.snd (Sub.snd (Sub.snd (Sub.whole _))))
theorem flatS_api_Entry : FlatTy tyS_api_Entry := flat_via (flat_pair flatA8u8 (flat_pair flat_enc (flat_pair flat_enc flat_enc)))
theorem encS_api_Entry {Z w cs} {x : S_api_Entry} (h : tyS_api_Entry.rep Z w cs x) : cs = ((cA8u8 x.ID) ++ [(int .i64 x.Kind), (int .i64 x.At), (int .i64 x.Len)]) := by
  obtain ⟨c0, d0, rfl, p0, q0⟩ := h
  obtain ⟨c1, d1, rfl, p1, q1⟩ := q0
  obtain ⟨c2, d2, rfl, p2, q2⟩ := q1
  rw [encA8u8 p0]
  rw [show _ = _ from p1]
  rw [show _ = _ from p2]
  rw [show _ = _ from q2]
  rfl
theorem mkS_api_Entry {Z w cs} {x : S_api_Entry} (h : cs = ((cA8u8 x.ID) ++ [(int .i64 x.Kind), (int .i64 x.At), (int .i64 x.Len)])) : tyS_api_Entry.rep Z w cs x := by
  subst h
  exact ⟨_, _, (List.take_append_drop 8 _).symm, (mkA8u8 rfl), ⟨_, _, (List.take_append_drop 1 _).symm, rfl, ⟨_, _, (List.take_append_drop 1 _).symm, rfl, rfl⟩⟩⟩
def ofA8u8 (l : List UInt8) : A8u8 := match l.take 8 with | [e0, e1, e2, e3, e4, e5, e6, e7] => ⟨e0, e1, e2, e3, e4, e5, e6, e7⟩ | _ => ⟨0, 0, 0, 0, 0, 0, 0, 0⟩
theorem oflA8u8 {l : List UInt8} (hl : 8 ≤ l.length) {Z w cs} (hr : RepL tyU8 Z w cs (l.take 8)) : tyA8u8.rep Z w cs (ofA8u8 l) := by
  unfold ofA8u8
  have h8 : (l.take 8).length = 8 := by rw [List.length_take]; omega
  generalize l.take 8 = m at hr h8
  match m, h8, hr with
  | [e0, e1, e2, e3, e4, e5, e6, e7], _, hr => exact mkA8u8 (by rw [u8_cells hr]; rfl)
theorem coftA8u8 (l : List UInt8) (hl : l.length = 8) : cA8u8 (ofA8u8 l) = Lib.byteCells l := by
  match l, hl with
  | [e0, e1, e2, e3, e4, e5, e6, e7], _ => rfl
def cpA8u8 (x : A8u8) (l : List UInt8) : A8u8 := ofA8u8 (l.take 8 ++ (lA8u8 x).drop (l.take 8).length)
theorem ccpA8u8 (x : A8u8) (l : List UInt8) : cA8u8 (cpA8u8 x l) = Lib.byteCells (l.take 8) ++ (cA8u8 x).drop (l.take 8).length := by
  have h1 : (l.take 8).length ≤ 8 := by rw [List.length_take]; omega
  unfold cpA8u8
  rw [coftA8u8 _ (by rw [List.length_append, List.length_drop, lenA8u8]; omega)]
  unfold Lib.byteCells
  rw [List.map_append, List.map_drop]
  rfl
theorem cpcA8u8 (x : A8u8) (l : List UInt8) (pre post : List Value) : (pre ++ (cA8u8 x ++ post)).take pre.length ++ Lib.byteCells (l.take 8) ++ (pre ++ (cA8u8 x ++ post)).drop (pre.length + (l.take 8).length) = pre ++ (cA8u8 (cpA8u8 x l) ++ post) := by
  have h1 : (l.take 8).length ≤ (cA8u8 x).length := by rw [List.length_take]; exact Nat.min_le_left _ _
  rw [ccpA8u8, List.take_left, List.drop_append, List.drop_of_length_le (by omega), Nat.add_sub_cancel_left, List.drop_append_of_le_length h1]
  simp
theorem sz3 : szOf Try.prog 3 = some 1 := by kernel_rfl
theorem to3 : tyOf Try.prog 3 = some (1, 8, some (int .i64 (0 : Int))) := by kernel_rfl
theorem sz4 : szOf Try.prog 4 = some 1 := by kernel_rfl
theorem to4 : tyOf Try.prog 4 = some (1, 1, some (bool false)) := by kernel_rfl
theorem sz5 : szOf Try.prog 5 = some 1 := by kernel_rfl
theorem to5 : tyOf Try.prog 5 = some (1, 1, some (int .u8 (0 : Int))) := by kernel_rfl
theorem sz9 : szOf Try.prog 9 = some 1 := by kernel_rfl
theorem to9 : tyOf Try.prog 9 = some (1, 16, some (str ([] : List UInt8))) := by kernel_rfl
theorem sz55 : szOf Try.prog 55 = some 1 := by kernel_rfl
theorem to55 : tyOf Try.prog 55 = some (1, 8, some (int .u64 (0 : Int))) := by kernel_rfl
theorem sz68 : szOf Try.prog 68 = some 8 := by kernel_rfl
theorem to68 : tyOf Try.prog 68 = some (8, 8, some (ag [(int .u8 (0 : Int)), (int .u8 (0 : Int)), (int .u8 (0 : Int)), (int .u8 (0 : Int)), (int .u8 (0 : Int)), (int .u8 (0 : Int)), (int .u8 (0 : Int)), (int .u8 (0 : Int))])) := by kernel_rfl
theorem sz69 : szOf Try.prog 69 = some 8 := by kernel_rfl
theorem to69 : tyOf Try.prog 69 = some (8, 8, some (ag [(int .u8 (0 : Int)), (int .u8 (0 : Int)), (int .u8 (0 : Int)), (int .u8 (0 : Int)), (int .u8 (0 : Int)), (int .u8 (0 : Int)), (int .u8 (0 : Int)), (int .u8 (0 : Int))])) := by kernel_rfl
theorem sz86 : szOf Try.prog 86 = some 11 := by kernel_rfl
theorem to86 : tyOf Try.prog 86 = some (11, 32, some (ag [(int .u8 (0 : Int)), (int .u8 (0 : Int)), (int .u8 (0 : Int)), (int .u8 (0 : Int)), (int .u8 (0 : Int)), (int .u8 (0 : Int)), (int .u8 (0 : Int)), (int .u8 (0 : Int)), (int .i64 (0 : Int)), (int .i64 (0 : Int)), (int .i64 (0 : Int))])) := by kernel_rfl
theorem sz88 : szOf Try.prog 88 = some 2 := by kernel_rfl
theorem to88 : tyOf Try.prog 88 = some (2, 24, some (ag [(int .i64 (0 : Int)), (str ([] : List UInt8))])) := by kernel_rfl
theorem sz121 : szOf Try.prog 121 = some 1 := by kernel_rfl
theorem to121 : tyOf Try.prog 121 = some (1, 24, some (Value.slice none 0 0)) := by kernel_rfl
theorem sz132 : szOf Try.prog 132 = some 3 := by kernel_rfl
theorem to132 : tyOf Try.prog 132 = some (3, 24, some (ag [(int .i64 (0 : Int)), (int .i64 (0 : Int)), (int .i64 (0 : Int))])) := by kernel_rfl
theorem sz138 : szOf Try.prog 138 = some 2 := by kernel_rfl
theorem to138 : tyOf Try.prog 138 = some (2, 32, some (ag [(Value.pointer none), (Value.slice none 0 0)])) := by kernel_rfl
theorem sz191 : szOf Try.prog 191 = some 2 := by kernel_rfl
theorem to191 : tyOf Try.prog 191 = some (2, 16, some (ag [(int .i64 (0 : Int)), (int .i64 (0 : Int))])) := by kernel_rfl
theorem sz205 : szOf Try.prog 205 = some 3 := by kernel_rfl
theorem to205 : tyOf Try.prog 205 = some (3, 24, some (ag [(int .u8 (0 : Int)), (int .i64 (0 : Int)), (int .i64 (0 : Int))])) := by kernel_rfl
theorem sz263 : szOf Try.prog 263 = some 0 := by kernel_rfl
theorem to263 : tyOf Try.prog 263 = some (0, 0, some (ag [])) := by kernel_rfl
theorem sz311 : szOf Try.prog 311 = some 0 := by kernel_rfl
theorem to311 : tyOf Try.prog 311 = some (0, 0, some (ag [])) := by kernel_rfl
theorem mixed : Try.prog.follows .mixedOrders = true := by kernel_rfl
theorem eg69 : Try.prog.eqGuardType Try.prog.depth 69 = false := by kernel_rfl
theorem kt69 : Try.prog.keyTypeAt 20 69 = true := by kernel_rfl
theorem lv69 : leaves Try.prog 20 69 = some [5, 5, 5, 5, 5, 5, 5, 5] := by kernel_rfl
theorem injA8u8 {x y : A8u8} : (x == y) = true ↔ (cA8u8 x) = (cA8u8 y) := by
  rw [beq_iff_eq]
  constructor
  · rintro rfl; rfl
  · intro h
    obtain ⟨⟩ := x
    obtain ⟨⟩ := y
    simp only [A8u8.mk.injEq, cA8u8, str, List.cons_append, List.nil_append, List.cons.injEq, Value.int.injEq, Value.bool.injEq, Value.string.injEq, ByteArray.mk.injEq, Array.mk.injEq, Int.natCast_inj, UInt8.toNat_inj, true_and, and_true] at h ⊢
    first | exact h | simpa [and_assoc] using h
theorem eg88 : Try.prog.eqGuardType Try.prog.depth 88 = false := by kernel_rfl
theorem kt88 : Try.prog.keyTypeAt 20 88 = true := by kernel_rfl
theorem lv88 : leaves Try.prog 20 88 = some [3, 9] := by kernel_rfl
theorem injS_api_Blob {x y : S_api_Blob} : (x == y) = true ↔ [(int .i64 x.Kind), (str x.Bytes)] = [(int .i64 y.Kind), (str y.Bytes)] := by
  rw [beq_iff_eq]
  constructor
  · rintro rfl; rfl
  · intro h
    obtain ⟨⟩ := x
    obtain ⟨⟩ := y
    simp only [S_api_Blob.mk.injEq, str, List.cons_append, List.nil_append, List.cons.injEq, Value.int.injEq, Value.bool.injEq, Value.string.injEq, ByteArray.mk.injEq, Array.mk.injEq, Int.natCast_inj, UInt8.toNat_inj, true_and, and_true] at h ⊢
    first | exact h | simpa [and_assoc] using h
theorem eg191 : Try.prog.eqGuardType Try.prog.depth 191 = false := by kernel_rfl
theorem kt191 : Try.prog.keyTypeAt 20 191 = true := by kernel_rfl
theorem lv191 : leaves Try.prog 20 191 = some [3, 3] := by kernel_rfl
theorem injS_press_code {x y : S_press_code} : (x == y) = true ↔ [(int .i64 x.bits), (int .i64 x.n)] = [(int .i64 y.bits), (int .i64 y.n)] := by
  rw [beq_iff_eq]
  constructor
  · rintro rfl; rfl
  · intro h
    obtain ⟨⟩ := x
    obtain ⟨⟩ := y
    simp only [S_press_code.mk.injEq, str, List.cons_append, List.nil_append, List.cons.injEq, Value.int.injEq, Value.bool.injEq, Value.string.injEq, ByteArray.mk.injEq, Array.mk.injEq, Int.natCast_inj, UInt8.toNat_inj, true_and, and_true] at h ⊢
    first | exact h | simpa [and_assoc] using h
theorem kd69 : Go.Maps.Keyed Try.prog 69 := Go.Maps.Keyed.of_law (Go.deep_law_laid (by kernel_rfl) (m := 20) (by decide) (Nat.le_of_ble_eq_true (by kernel_rfl)) (by kernel_rfl) (by kernel_rfl))
theorem kw69 (x : A8u8) : ∃ t, keyOf Try.prog 69 (ag (cA8u8 x)) = some t := key_wide (ls := [5, 5, 5, 5, 5, 5, 5, 5]) (by kernel_rfl) (by kernel_rfl) (by kernel_rfl) (by kernel_rfl) (fit_cons (fit_u8 Try.underlying5) (fit_cons (fit_u8 Try.underlying5) (fit_cons (fit_u8 Try.underlying5) (fit_cons (fit_u8 Try.underlying5) (fit_cons (fit_u8 Try.underlying5) (fit_cons (fit_u8 Try.underlying5) (fit_cons (fit_u8 Try.underlying5) (fit_cons (fit_u8 Try.underlying5) fit_nil))))))))
theorem ki69 (a b : A8u8) (h : (fun x : A8u8 => ag (cA8u8 x)) a = (fun x : A8u8 => ag (cA8u8 x)) b) : a = b := eq_of_beq (injA8u8.2 (ag_inj h))
theorem kd191 : Go.Maps.Keyed Try.prog 191 := Go.Maps.Keyed.of_law (Go.deep_law_laid (by kernel_rfl) (m := 20) (by decide) (Nat.le_of_ble_eq_true (by kernel_rfl)) (by kernel_rfl) (by kernel_rfl))
theorem kw191 (x : S_press_code) (h0 : (Lit.int .i64 x.bits).wf = true) (h1 : (Lit.int .i64 x.n).wf = true) : ∃ t, keyOf Try.prog 191 (ag [(int .i64 x.bits), (int .i64 x.n)]) = some t := key_wide (ls := [3, 3]) (by kernel_rfl) (by kernel_rfl) (by kernel_rfl) (by kernel_rfl) (fit_cons (fit_int Try.underlying3 h0) (fit_cons (fit_int Try.underlying3 h1) fit_nil))
theorem ki191 (a b : S_press_code) (h : (fun x : S_press_code => ag [(int .i64 x.bits), (int .i64 x.n)]) a = (fun x : S_press_code => ag [(int .i64 x.bits), (int .i64 x.n)]) b) : a = b := eq_of_beq (injS_press_code.2 (ag_inj h))
def okA8u8 (x : A8u8) : Prop := (True) ∧ (True) ∧ (True) ∧ (True) ∧ (True) ∧ (True) ∧ (True) ∧ (True)
set_option maxRecDepth 100000 in
theorem opnA8u8 {H : Type} : Opn H Try.prog 69 tyA8u8 okA8u8 := opn_array (fun x => (x.e0, (x.e1, (x.e2, (x.e3, (x.e4, (x.e5, (x.e6, x.e7)))))))) (fun y => A8u8.mk y.1 y.2.1 y.2.2.1 y.2.2.2.1 y.2.2.2.2.1 y.2.2.2.2.2.1 y.2.2.2.2.2.2.1 y.2.2.2.2.2.2.2) (fun _ => rfl) Try.underlying69 sz69 (fields_cons sz5 (opn_u8 Try.underlying5) (fields_cons sz5 (opn_u8 Try.underlying5) (fields_cons sz5 (opn_u8 Try.underlying5) (fields_cons sz5 (opn_u8 Try.underlying5) (fields_cons sz5 (opn_u8 Try.underlying5) (fields_cons sz5 (opn_u8 Try.underlying5) (fields_cons sz5 (opn_u8 Try.underlying5) (fields_one sz5 (opn_u8 Try.underlying5)))))))))
def okS_api_Entry (x : S_api_Entry) : Prop := (okA8u8 x.ID) ∧ ((Lit.int .i64 x.Kind).wf = true) ∧ ((Lit.int .i64 x.At).wf = true) ∧ ((Lit.int .i64 x.Len).wf = true)
set_option maxRecDepth 100000 in
theorem opnS_api_Entry {H : Type} : Opn H Try.prog 86 tyS_api_Entry okS_api_Entry := opn_struct (fun x => (x.ID, (x.Kind, (x.At, x.Len)))) (fun y => S_api_Entry.mk y.1 y.2.1 y.2.2.1 y.2.2.2) (fun _ => rfl) Try.underlying86 sz86 (fields_cons sz69 opnA8u8 (fields_cons sz3 (opn_int Try.underlying3) (fields_cons sz3 (opn_int Try.underlying3) (fields_one sz3 (opn_int Try.underlying3)))))
theorem f_put8_ok {g off t : Nat} {a2 : Int} {cs cs' : List Value} (hc : 0 ≤ a2 ∧ a2 < 18446744073709551616) (hfit : off + 8 ≤ cs.length) (hcs : cs.take off ++ Lib.byteCells ((Lib.beBytes 8 a2.toNat).take 8) ++ cs.drop (off + ((Lib.beBytes 8 a2.toNat).take 8).length) = cs') :
    FnOk Try.prog 186 [(ag []), (sbx g off 8), (int .u64 a2)] [] [oBox g t cs] (fun _ : Unit => { val := .tuple #[], own := [oBox g t cs'] }) := by
  obtain ⟨n, rfl⟩ : ∃ n : Nat, a2 = n := ⟨a2.toNat, by omega⟩
  have hl : (Lib.beBytes 8 n).length = 8 := Lib.beBytes_length 8 n
  have hcs' : cs.take off ++ Lib.byteCells (Lib.beBytes 8 n) ++ cs.drop (off + 8) = cs' := by
    have e : (Lib.beBytes 8 ((n : Int).toNat)).take 8 = Lib.beBytes 8 n := by rw [Int.toNat_natCast, List.take_of_length_le (by omega)]
    rw [e, hl] at hcs; exact hcs
  exact fnok_put8 hl hfit hcs' (fun x0 x1 x2 x3 x4 x5 x6 x7 w c0 c1 c2 c3 c4 c5 c6 c7 f0 f1 f2 f3 f4 f5 f6 f7 => Try.binary_BE_PutUint64 g off 8 8 n (by omega) x0 x1 x2 x3 x4 x5 x6 x7 w (by omega) c0 c1 c2 c3 c4 c5 c6 c7 f0 f1 f2 f3 f4 f5 f6 f7)
def f_pack_Known (fu : Nat) (a0 : Int) : Option Bool := (lt (fun (j1b2 : Bool) => (some j1b2)) fun (kk2 : Bool → Option Bool) => (bif (decide (a0 ≥ (1 : Int))) then (kk2 (decide (a0 ≤ (3 : Int)))) else (kk2 false)))
set_option maxRecDepth 100000 in
theorem f_pack_Known_ok (fu : Nat) (a0 : Int) {r : Bool} (h : f_pack_Known fu a0 = some r) : FnOk Try.prog 106 [(int .i64 a0)] [] [] (fun (i : Unit) => { val := (bool r) }) := by
 unfold f_pack_Known at h
 refine fn_enter Try.func106 rfl Try.ntmps106 rfl (fun w0 Z0 => ?_)
 refine aw_sr ?_
 refine al_as rfl rfl ?_
 refine al_nt ?_
 obtain ⟨kk2, hkk2, h⟩ := lt_some h
 refine aw_seq_join (ι := Bool) (fun i => (memOf w0 Z0 [] [] [])) (fun i => (tab [(2, (bool i))])) (fun i => kk2 i = some r) ?_ ?_
 ·rintro j1b2 h
  have h : kk2 j1b2 = some r := h
  rw [hkk2] at h
  dsimp only at h
  clear hkk2
  refine aw_show (m := (memOf w0 Z0 [] [] [])) (S := (tab [(2, (bool j1b2))])) ?_
  refine aw_ret ?_
  obtain rfl := Option.some.inj h
  exact fn_ret () [] [] rfl rfl rfl rfl (res1 rfl rfl) rfl rfl rfl (by decide)
 ·clear hkk2
  refine aw_region ?_
  refine al_mv rfl rfl ?_
  refine al_in rfl rfl rfl rfl ?_
  refine al_mv rfl rfl ?_
  refine al_caseB 5 rfl (fun hb3 => ?_) (fun hb3 => ?_)
  ·replace h := bif_t hb3 h
   refine al_mv rfl rfl ?_
   refine al_in rfl rfl rfl rfl ?_
   refine al_val (ov_pick_t rfl rfl rfl) ?_
   refine al_as rfl rfl ?_
   refine al_nil ?_
   exact aq_join (decide (a0 ≤ (3 : Int))) h (fun w a hm hs => norm hm hs [] [] [(2, (bool (decide (a0 ≤ (3 : Int)))))] (by decide) ⟨rfl, trivial⟩)
  ·replace h := bif_f hb3 h
   refine al_skip ?_
   refine al_skip ?_
   refine al_val (ov_pick_f rfl rfl rfl) ?_
   refine al_as rfl rfl ?_
   refine al_nil ?_
   exact aq_join false h (fun w a hm hs => norm hm hs [] [] [(2, (bool false))] (by decide) ⟨rfl, trivial⟩)
def f_num_value_L5 (a0 : (List UInt8)) (kk2 : (Int → Option Int)) : Nat → Int → Int → Option Int
  | 0, _, _ => none
  | k4 + 1, l3i3, l3i7 => (bif (decide (l3i7 < (a0.length : Int))) then (req (0 ≤ l3i7 ∧ l3i7 < (a0.length : Int)) (f_num_value_L5 a0 kk2 k4 (bits .or .u64 (IntKind.u64.wrap (l3i3 * 2 ^ min ((8 : Int)).toNat (IntKind.bits .u64))) (IntKind.u64.wrap (En.bAt a0 l3i7))) (IntKind.i64.wrap (l3i7 + (1 : Int))))) else (kk2 l3i3))
def f_num_value (fu : Nat) (a0 : (List UInt8)) : Option Int := (lt (fun (j1i3 : Int) => (some j1i3)) fun (kk2 : Int → Option Int) => (f_num_value_L5 a0 kk2 fu (0 : Int) (0 : Int)))
set_option maxRecDepth 100000 in
theorem f_num_value_ok (fu : Nat) (a0 : (List UInt8)) {r : Int} (h : f_num_value fu a0 = some r) : FnOk Try.prog 193 [(str a0)] [] [] (fun (i : Unit) => { val := (int .u64 r) }) := by
 unfold f_num_value at h
 refine fn_enter Try.func193 rfl Try.ntmps193 rfl (fun w0 Z0 => ?_)
 refine aw_sr ?_
 refine al_as rfl rfl ?_
 refine al_nt ?_
 refine aw_sr ?_
 refine al_as rfl rfl ?_
 refine al_nt ?_
 obtain ⟨kk2, hkk2, h⟩ := lt_some h
 refine aw_seq_join (ι := Int) (fun i => (memOf w0 Z0 [] [] [])) (fun i => (tab [(3, (int .u64 i))])) (fun i => kk2 i = some r) ?_ ?_
 ·rintro j1i3 h
  have h : kk2 j1i3 = some r := h
  rw [hkk2] at h
  dsimp only at h
  clear hkk2
  refine aw_show (m := (memOf w0 Z0 [] [] [])) (S := (tab [(3, (int .u64 j1i3))])) ?_
  refine aw_sr ?_
  refine al_mv rfl rfl ?_
  refine al_as rfl rfl ?_
  refine al_nt ?_
  refine aw_ret ?_
  obtain rfl := Option.some.inj h
  exact fn_ret () [] [] rfl rfl rfl rfl (res1 rfl rfl) rfl rfl rfl (by decide)
 ·clear hkk2
  refine aw_sr ?_
  refine al_mv rfl rfl ?_
  refine al_val (ov_strLen Try.underlying9 rfl rfl) ?_
  refine al_mv rfl rfl ?_
  refine al_nt ?_
  refine aw_block ?_
  refine aw_state (aw_loop (ι := Int × Int) (fun i => (memOf w0 Z0 [] [] [])) (fun i => (tab [(0, (str a0)), (3, (int .u64 i.1)), (6, (int .i64 (a0.length : Int))), (7, (int .i64 i.2))])) (fun q i => f_num_value_L5 a0 kk2 q i.1 i.2 = some r) ?_ fu ((0 : Int), (0 : Int)) h) (fun w a hm hs => norm hm hs [] [] [(0, (str a0)), (3, (int .u64 (0 : Int))), (6, (int .i64 (a0.length : Int))), (7, (int .i64 (0 : Int)))] (by decide) ⟨rfl, rfl, rfl, rfl, trivial⟩)
  clear h
  rintro k4 ⟨l3i3, l3i7⟩ h
  have h : f_num_value_L5 a0 kk2 k4 l3i3 l3i7 = some r := h
  obtain _ | k4 := k4
  · rw [f_num_value_L5] at h; cases h
  rw [f_num_value_L5] at h
  refine aw_show (m := (memOf w0 Z0 [] [] [])) (S := (tab [(0, (str a0)), (3, (int .u64 l3i3)), (6, (int .i64 (a0.length : Int))), (7, (int .i64 l3i7))])) ?_
  refine aw_sr ?_
  refine al_in rfl rfl rfl rfl ?_
  refine al_nt ?_
  refine aw_seq ?_
  refine aw_cond rfl (fun hb6 => ?_) (fun hb6 => ?_)
  ·replace h := bif_t hb6 h
   refine aw_skip ?_
   refine aq_then ?_
   refine aw_seq ?_
   refine aw_block ?_
   refine aw_sr ?_
   refine al_mv rfl rfl ?_
   refine al_as rfl rfl ?_
   refine al_nt ?_
   refine aw_region ?_
   refine al_mv rfl rfl ?_
   refine al_val (ov_shl (by decide) rfl rfl rfl) ?_
   refine al_mv rfl rfl ?_
   refine al_mv rfl rfl ?_
   obtain ⟨hc7, h⟩ := req_some h
   refine al_val (ov_strIdx hc7.1 hc7.2 Try.underlying9 rfl rfl rfl) ?_
   refine al_val (ov_convInt (by rw [Try.underlying5]; rfl) Try.underlying55 rfl rfl) ?_
   refine al_in rfl rfl rfl rfl ?_
   refine al_as rfl rfl ?_
   refine al_nil ?_
   refine aq_block ?_
   refine aq_then ?_
   refine aw_region ?_
   refine al_in rfl rfl rfl rfl ?_
   refine al_mv rfl rfl ?_
   refine al_nil ?_
   exact aq_again k4 ((bits .or .u64 (IntKind.u64.wrap (l3i3 * 2 ^ min ((8 : Int)).toNat (IntKind.bits .u64))) (IntKind.u64.wrap (En.bAt a0 l3i7))), (IntKind.i64.wrap (l3i7 + (1 : Int)))) (Nat.lt_succ_self _) h (fun w a hm hs => norm hm hs [] [] [(0, (str a0)), (3, (int .u64 (bits .or .u64 (IntKind.u64.wrap (l3i3 * 2 ^ min ((8 : Int)).toNat (IntKind.bits .u64))) (IntKind.u64.wrap (En.bAt a0 l3i7))))), (6, (int .i64 (a0.length : Int))), (7, (int .i64 (IntKind.i64.wrap (l3i7 + (1 : Int)))))] (by decide) ⟨rfl, rfl, rfl, rfl, trivial⟩)
  ·replace h := bif_f hb6 h
   refine aw_exit ?_
   refine aq_then_exit ?_
   refine aq_then_exit ?_
   refine aq_block_exit ?_
   exact aq_join l3i3 h (fun w a hm hs => norm hm hs [] [] [(3, (int .u64 l3i3))] (by decide) ⟨rfl, trivial⟩)
def f_num_Get (fu : Nat) (a0 : (List UInt8)) : Option (Int × Int × Int) := (bif (a0 == ([] : List UInt8)) then (some ((0 : Int), (0 : Int), (3 : Int))) else (req (0 ≤ (0 : Int) ∧ (0 : Int) < (a0.length : Int)) (bif (decide ((IntKind.i64.wrap (En.bAt a0 (0 : Int))) > (8 : Int))) then (some ((0 : Int), (0 : Int), (4 : Int))) else (bif (decide ((a0.length : Int) < (IntKind.i64.wrap ((1 : Int) + (IntKind.i64.wrap (En.bAt a0 (0 : Int))))))) then (some ((0 : Int), (0 : Int), (3 : Int))) else (lt (fun (j5b20 : Bool) => (bif j5b20 then (some ((0 : Int), (0 : Int), (4 : Int))) else (req (0 ≤ (1 : Int) ∧ (1 : Int) ≤ (IntKind.i64.wrap ((1 : Int) + (IntKind.i64.wrap (En.bAt a0 (0 : Int))))) ∧ (IntKind.i64.wrap ((1 : Int) + (IntKind.i64.wrap (En.bAt a0 (0 : Int))))) ≤ (a0.length : Int)) (opt (f_num_value fu (cut a0 (1 : Int) (IntKind.i64.wrap ((1 : Int) + (IntKind.i64.wrap (En.bAt a0 (0 : Int))))))) fun (r10 : Int) => (some (r10, (IntKind.i64.wrap ((1 : Int) + (IntKind.i64.wrap (En.bAt a0 (0 : Int))))), (0 : Int))))))) fun (kk6 : Bool → Option (Int × Int × Int)) => (bif (decide ((IntKind.i64.wrap (En.bAt a0 (0 : Int))) > (0 : Int))) then (req (0 ≤ (1 : Int) ∧ (1 : Int) < (a0.length : Int)) (kk6 ((En.bAt a0 (1 : Int)) == (0 : Int)))) else (kk6 false)))))))
set_option maxRecDepth 100000 in
theorem f_num_Get_ok (fu : Nat) (a0 : (List UInt8)) {r : (Int × Int × Int)} (h : f_num_Get fu a0 = some r) : FnOk Try.prog 163 [(str a0)] [] [] (fun (i : Unit) => { val := (Value.tuple #[(int .u64 r.1), (int .i64 r.2.1), (int .i64 r.2.2)]) }) := by
 unfold f_num_Get at h
 refine fn_enter Try.func163 rfl Try.ntmps163 rfl (fun w0 Z0 => ?_)
 refine aw_sr ?_
 refine al_as rfl rfl ?_
 refine al_as rfl rfl ?_
 refine al_as rfl rfl ?_
 refine al_nt ?_
 refine aw_seq ?_
 refine aw_sr ?_
 refine al_mv rfl rfl ?_
 refine al_val (ov_strCmp rfl rfl rfl rfl) ?_
 refine al_nt ?_
 refine aw_cond rfl (fun hb1 => ?_) (fun hb1 => ?_)
 ·replace h := bif_t hb1 h
  refine aw_sr ?_
  refine al_as rfl rfl ?_
  refine al_as rfl rfl ?_
  refine al_as rfl rfl ?_
  refine al_nt ?_
  refine aw_ret ?_
  refine aq_then_ret ?_
  obtain rfl := Option.some.inj h
  exact fn_ret () [] [] rfl rfl rfl rfl (res3 rfl rfl rfl rfl) rfl rfl rfl (by decide)
 ·replace h := bif_f hb1 h
  refine aw_skip ?_
  refine aq_tr ?_
  refine al_mv rfl rfl ?_
  obtain ⟨hc2, h⟩ := req_some h
  refine al_val (ov_strIdx hc2.1 hc2.2 Try.underlying9 rfl rfl rfl) ?_
  refine al_val (ov_convInt (by rw [Try.underlying5]; rfl) Try.underlying3 rfl rfl) ?_
  refine al_as rfl rfl ?_
  refine al_nt ?_
  refine aw_seq ?_
  refine aw_block ?_
  refine aw_sr ?_
  refine al_mv rfl rfl ?_
  refine al_in rfl rfl rfl rfl ?_
  refine al_as rfl rfl ?_
  refine al_nt ?_
  refine aw_cond rfl (fun hb3 => ?_) (fun hb3 => ?_)
  ·replace h := bif_t hb3 h
   refine aw_sr ?_
   refine al_as rfl rfl ?_
   refine al_as rfl rfl ?_
   refine al_as rfl rfl ?_
   refine al_nt ?_
   refine aw_ret ?_
   refine aq_block_ret ?_
   refine aq_then_ret ?_
   obtain rfl := Option.some.inj h
   exact fn_ret () [] [] rfl rfl rfl rfl (res3 rfl rfl rfl rfl) rfl rfl rfl (by decide)
  ·replace h := bif_f hb3 h
   refine aw_sr ?_
   refine al_mv rfl rfl ?_
   refine al_val (ov_strLen Try.underlying9 rfl rfl) ?_
   refine al_mv rfl rfl ?_
   refine al_in rfl rfl rfl rfl ?_
   refine al_in rfl rfl rfl rfl ?_
   refine al_as rfl rfl ?_
   refine al_nt ?_
   refine aw_cond rfl (fun hb4 => ?_) (fun hb4 => ?_)
   ·replace h := bif_t hb4 h
    refine aw_sr ?_
    refine al_as rfl rfl ?_
    refine al_as rfl rfl ?_
    refine al_as rfl rfl ?_
    refine al_nt ?_
    refine aw_ret ?_
    refine aq_block_ret ?_
    refine aq_then_ret ?_
    obtain rfl := Option.some.inj h
    exact fn_ret () [] [] rfl rfl rfl rfl (res3 rfl rfl rfl rfl) rfl rfl rfl (by decide)
   ·replace h := bif_f hb4 h
    obtain ⟨kk6, hkk6, h⟩ := lt_some h
    refine aw_seq_join (ι := Bool) (fun i => (memOf w0 Z0 [] [] [])) (fun i => (tab [(0, (str a0)), (5, (int .i64 (IntKind.i64.wrap (En.bAt a0 (0 : Int))))), (20, (bool i))])) (fun i => kk6 i = some r) ?_ ?_
    ·rintro j5b20 h
     have h : kk6 j5b20 = some r := h
     rw [hkk6] at h
     dsimp only at h
     clear hkk6
     refine aw_show (m := (memOf w0 Z0 [] [] [])) (S := (tab [(0, (str a0)), (5, (int .i64 (IntKind.i64.wrap (En.bAt a0 (0 : Int))))), (20, (bool j5b20))])) ?_
     refine aw_cond rfl (fun hb7 => ?_) (fun hb7 => ?_)
     ·replace h := bif_t hb7 h
      refine aw_sr ?_
      refine al_as rfl rfl ?_
      refine al_as rfl rfl ?_
      refine al_as rfl rfl ?_
      refine al_nt ?_
      refine aw_ret ?_
      refine aq_block_ret ?_
      refine aq_then_ret ?_
      obtain rfl := Option.some.inj h
      exact fn_ret () [] [] rfl rfl rfl rfl (res3 rfl rfl rfl rfl) rfl rfl rfl (by decide)
     ·replace h := bif_f hb7 h
      refine aw_skip ?_
      refine aq_block ?_
      refine aq_tr ?_
      refine al_mv rfl rfl ?_
      refine al_mv rfl rfl ?_
      refine al_in rfl rfl rfl rfl ?_
      obtain ⟨hc8, h⟩ := req_some h
      refine al_val (ov_strCut hc8.1 hc8.2.1 hc8.2.2 Try.underlying9 rfl rfl rfl rfl) ?_
      obtain ⟨r10, hc9, h⟩ := opt_some h
      refine al_call (vs := [(str (cut a0 (1 : Int) (IntKind.i64.wrap ((1 : Int) + (IntKind.i64.wrap (En.bAt a0 (0 : Int)))))))]) (f_num_value_ok fu (cut a0 (1 : Int) (IntKind.i64.wrap ((1 : Int) + (IntKind.i64.wrap (En.bAt a0 (0 : Int)))))) hc9) [] [] [] pre_nil rfl (by simp) (by decide) (.inl rfl) rfl Try.func193 rfl rfl rfl (fun _ => ?_)
      refine al_mv rfl rfl ?_
      refine al_in rfl rfl rfl rfl ?_
      refine al_as rfl rfl ?_
      refine al_as rfl rfl ?_
      refine al_as rfl rfl ?_
      refine al_nt ?_
      refine aw_ret ?_
      obtain rfl := Option.some.inj h
      exact fn_ret () [] [] rfl rfl rfl rfl (res3 rfl rfl rfl rfl) rfl rfl rfl (by decide)
    ·clear hkk6
     refine aw_region ?_
     refine al_mv rfl rfl ?_
     refine al_in rfl rfl rfl rfl ?_
     refine al_mv rfl rfl ?_
     refine al_caseB 23 rfl (fun hb11 => ?_) (fun hb11 => ?_)
     ·replace h := bif_t hb11 h
      refine al_mv rfl rfl ?_
      obtain ⟨hc12, h⟩ := req_some h
      refine al_val (ov_strIdx hc12.1 hc12.2 Try.underlying9 rfl rfl rfl) ?_
      refine al_in rfl rfl rfl rfl ?_
      refine al_val (ov_pick_t rfl rfl rfl) ?_
      refine al_as rfl rfl ?_
      refine al_nil ?_
      exact aq_join ((En.bAt a0 (1 : Int)) == (0 : Int)) h (fun w a hm hs => norm hm hs [] [] [(0, (str a0)), (5, (int .i64 (IntKind.i64.wrap (En.bAt a0 (0 : Int))))), (20, (bool ((En.bAt a0 (1 : Int)) == (0 : Int))))] (by decide) ⟨rfl, rfl, rfl, trivial⟩)
     ·replace h := bif_f hb11 h
      refine al_skip ?_
      refine al_skip ?_
      refine al_skip ?_
      refine al_val (ov_pick_f rfl rfl rfl) ?_
      refine al_as rfl rfl ?_
      refine al_nil ?_
      exact aq_join false h (fun w a hm hs => norm hm hs [] [] [(0, (str a0)), (5, (int .i64 (IntKind.i64.wrap (En.bAt a0 (0 : Int))))), (20, (bool false))] (by decide) ⟨rfl, rfl, rfl, trivial⟩)
def f_press_numbers_L7 (kk4 : ((List UInt8) → A3i64 → Option (A3i64 × (List UInt8) × Int))) (fu : Nat) : Nat → (List UInt8) → A3i64 → Int → Option (A3i64 × (List UInt8) × Int)
  | 0, _, _, _ => none
  | k6 + 1, l5s0, l5A5_0, l5i12 => (bif (decide (l5i12 < (3 : Int))) then (opt (at? (lA3u64 (A3u64.mk (4096 : Int) (12288 : Int) (256 : Int))) l5i12) fun (u9 : Int) => (opt (f_num_Get fu l5s0) fun (r12 : (Int × Int × Int)) => (bif (r12.2.2 != (0 : Int)) then (some (l5A5_0, ([] : List UInt8), r12.2.2)) else (bif (decide (r12.1 > u9)) then (some (l5A5_0, ([] : List UInt8), (2 : Int))) else (req (0 ≤ r12.2.1 ∧ r12.2.1 ≤ (l5s0.length : Int)) (opt (at? (lA3i64 l5A5_0) l5i12) fun (u16 : Int) => (f_press_numbers_L7 kk4 fu k6 (l5s0.drop (r12.2.1).toNat) (setA3i64 l5A5_0 l5i12 (IntKind.i64.wrap r12.1)) (IntKind.i64.wrap (l5i12 + (1 : Int)))))))))) else (kk4 l5s0 l5A5_0))
def f_press_numbers (fu : Nat) (a0 : (List UInt8)) : Option (A3i64 × (List UInt8) × Int) := (lt (fun (j3s0 : (List UInt8)) (j3A5_0 : A3i64) => (some (j3A5_0, j3s0, (0 : Int)))) fun (kk4 : (List UInt8) → A3i64 → Option (A3i64 × (List UInt8) × Int)) => (f_press_numbers_L7 kk4 fu fu a0 (A3i64.mk (0 : Int) (0 : Int) (0 : Int)) (0 : Int)))
set_option maxRecDepth 100000 in
theorem f_press_numbers_ok (fu : Nat) (a0 : (List UInt8)) {r : (A3i64 × (List UInt8) × Int)} (h : f_press_numbers fu a0 = some r) : FnOk Try.prog 120 [(str a0)] [] [] (fun (i : Unit) => { val := (Value.tuple #[(ag (cA3i64 r.1)), (str r.2.1), (int .i64 r.2.2)]) }) := by
 unfold f_press_numbers at h
 refine fn_enter Try.func120 rfl Try.ntmps120 rfl (fun w0 Z0 => ?_)
 refine aw_sr ?_
 refine al_alloc (zs := (cA3i64 (A3i64.mk (0 : Int) (0 : Int) (0 : Int)))) (zeroOf_to to132) rfl rfl (fun g1 => ?_)
 refine al_as rfl rfl ?_
 refine al_as rfl rfl ?_
 refine al_nt ?_
 refine aw_sr ?_
 refine al_alloc (zs := (cA3i64 (A3i64.mk (0 : Int) (0 : Int) (0 : Int)))) (zeroOf_to to132) rfl rfl (fun g2 => ?_)
 refine al_nt ?_
 obtain ⟨kk4, hkk4, h⟩ := lt_some h
 refine aw_seq_join (ι := (List UInt8) × A3i64) (fun i => (memOf w0 Z0 [] [(oBox g1 132 (cA3i64 (A3i64.mk (0 : Int) (0 : Int) (0 : Int)))), (oBox g2 132 (cA3i64 i.2))] [])) (fun i => (tab [(0, (str i.1)), (2, (ptr g1 0)), (5, (ptr g2 0))])) (fun i => kk4 i.1 i.2 = some r) ?_ ?_
 ·rintro ⟨j3s0, j3A5_0⟩ h
  have h : kk4 j3s0 j3A5_0 = some r := h
  rw [hkk4] at h
  dsimp only at h
  clear hkk4
  refine aw_show (m := (memOf w0 Z0 [] [(oBox g1 132 (cA3i64 (A3i64.mk (0 : Int) (0 : Int) (0 : Int)))), (oBox g2 132 (cA3i64 j3A5_0))] [])) (S := (tab [(0, (str j3s0)), (2, (ptr g1 0)), (5, (ptr g2 0))])) ?_
  refine aw_sr ?_
  refine al_val (ov_load (i := 1) (v := (ag (cA3i64 j3A5_0))) rfl rfl Try.underlying132 sz132 rfl rfl rfl rfl) ?_
  refine al_mv rfl rfl ?_
  refine al_store (i := 0) (vs := (cA3i64 j3A5_0)) (cs' := (cA3i64 j3A5_0)) rfl rfl rfl sz132 (cv_rfl rfl) rfl (co_all (oneA3i64 j3A5_0)) (Nat.le_of_ble_eq_true rfl) rfl rfl ?_
  refine al_as rfl rfl ?_
  refine al_as rfl rfl ?_
  refine al_nt ?_
  refine aw_ret ?_
  obtain rfl := Option.some.inj h
  exact fn_ret () [] [] rfl rfl rfl rfl (resC rfl (resB (i := 0) rfl rfl Try.underlying132 sz132 rfl rfl rfl (resT rfl (resT rfl (resN)))) rfl) rfl rfl rfl (by decide)
 ·clear hkk4
  refine aw_sr ?_
  refine al_val (ov_build (cells := ((cA3u64 (A3u64.mk (4096 : Int) (12288 : Int) (256 : Int)))).toArray) (cs := (cA3u64 (A3u64.mk (4096 : Int) (12288 : Int) (256 : Int)))) rfl (fun w a hm hs => by simp only [List.map_toArray, List.map_cons, List.map_nil, List.toList_toArray, hs.ev (x := .const (int .u64 (4096 : Int))) rfl, hs.ev (x := .const (int .u64 (12288 : Int))) rfl, hs.ev (x := .const (int .u64 (256 : Int))) rfl]; kernel_rfl)) ?_
  refine al_mv rfl rfl ?_
  refine al_nt ?_
  refine aw_block ?_
  refine aw_state (aw_loop (ι := (List UInt8) × A3i64 × Int) (fun i => (memOf w0 Z0 [] [(oBox g1 132 (cA3i64 (A3i64.mk (0 : Int) (0 : Int) (0 : Int)))), (oBox g2 132 (cA3i64 i.2.1))] [])) (fun i => (tab [(0, (str i.1)), (2, (ptr g1 0)), (5, (ptr g2 0)), (11, (ag (cA3u64 (A3u64.mk (4096 : Int) (12288 : Int) (256 : Int))))), (12, (int .i64 i.2.2))])) (fun q i => f_press_numbers_L7 kk4 fu q i.1 i.2.1 i.2.2 = some r) ?_ fu (a0, (A3i64.mk (0 : Int) (0 : Int) (0 : Int)), (0 : Int)) h) (fun w a hm hs => norm hm hs [1, 0] [] [(0, (str a0)), (2, (ptr g1 0)), (5, (ptr g2 0)), (11, (ag (cA3u64 (A3u64.mk (4096 : Int) (12288 : Int) (256 : Int))))), (12, (int .i64 (0 : Int)))] (by decide) ⟨rfl, rfl, rfl, rfl, rfl, trivial⟩)
  clear h
  rintro k6 ⟨l5s0, l5A5_0, l5i12⟩ h
  have h : f_press_numbers_L7 kk4 fu k6 l5s0 l5A5_0 l5i12 = some r := h
  obtain _ | k6 := k6
  · rw [f_press_numbers_L7] at h; cases h
  rw [f_press_numbers_L7] at h
  refine aw_show (m := (memOf w0 Z0 [] [(oBox g1 132 (cA3i64 (A3i64.mk (0 : Int) (0 : Int) (0 : Int)))), (oBox g2 132 (cA3i64 l5A5_0))] [])) (S := (tab [(0, (str l5s0)), (2, (ptr g1 0)), (5, (ptr g2 0)), (11, (ag (cA3u64 (A3u64.mk (4096 : Int) (12288 : Int) (256 : Int))))), (12, (int .i64 l5i12))])) ?_
  refine aw_sr ?_
  refine al_in rfl rfl rfl rfl ?_
  refine al_nt ?_
  refine aw_seq ?_
  refine aw_cond rfl (fun hb8 => ?_) (fun hb8 => ?_)
  ·replace h := bif_t hb8 h
   refine aw_skip ?_
   refine aq_then ?_
   refine aw_seq ?_
   refine aw_block ?_
   refine aw_sr ?_
   refine al_mv rfl rfl ?_
   obtain ⟨u9, hu10, h⟩ := opt_some h
   refine al_val (v := (int .u64 u9)) (ov_idxAgg (u := u9) (enc := vA3u64) (xs := lA3u64 (A3u64.mk (4096 : Int) (12288 : Int) (256 : Int))) hu10 rfl rfl rfl rfl Try.underlying244 Try.underlying55 rfl sz55 rfl) ?_
   refine al_as rfl rfl ?_
   refine al_as rfl rfl ?_
   refine al_nt ?_
   refine aw_sr ?_
   refine al_mv rfl rfl ?_
   obtain ⟨r12, hc11, h⟩ := opt_some h
   refine al_call (vs := [(str l5s0)]) (f_num_Get_ok fu l5s0 hc11) [] [] [0, 1] pre_nil rfl (by simp) (by decide) (.inl rfl) rfl Try.func163 rfl rfl rfl (fun _ => ?_)
   refine al_mv rfl rfl ?_
   refine al_ex rfl rfl rfl ?_
   refine al_ex rfl rfl rfl ?_
   refine al_ex rfl rfl rfl ?_
   refine al_as rfl rfl ?_
   refine al_as rfl rfl ?_
   refine al_as rfl rfl ?_
   refine al_nt ?_
   refine aw_seq ?_
   refine aw_sr ?_
   refine al_mv rfl rfl ?_
   refine al_in rfl rfl rfl rfl ?_
   refine al_nt ?_
   refine aw_cond rfl (fun hb13 => ?_) (fun hb13 => ?_)
   ·replace h := bif_t hb13 h
    refine aw_sr ?_
    refine al_val (ov_load (i := 1) (v := (ag (cA3i64 l5A5_0))) rfl rfl Try.underlying132 sz132 rfl rfl rfl rfl) ?_
    refine al_mv rfl rfl ?_
    refine al_store (i := 0) (vs := (cA3i64 l5A5_0)) (cs' := (cA3i64 l5A5_0)) rfl rfl rfl sz132 (cv_rfl rfl) rfl (co_all (oneA3i64 l5A5_0)) (Nat.le_of_ble_eq_true rfl) rfl rfl ?_
    refine al_as rfl rfl ?_
    refine al_as rfl rfl ?_
    refine al_nt ?_
    refine aw_ret ?_
    refine aq_then_ret ?_
    refine aq_block_ret ?_
    refine aq_then_ret ?_
    refine aq_then_ret ?_
    refine aq_block_ret ?_
    refine aq_then_ret ?_
    obtain rfl := Option.some.inj h
    exact fn_ret () [] [] rfl rfl rfl rfl (resC rfl (resB (i := 0) rfl rfl Try.underlying132 sz132 rfl rfl rfl (resT rfl (resT rfl (resN)))) rfl) rfl rfl rfl (by decide)
   ·replace h := bif_f hb13 h
    refine aw_skip ?_
    refine aq_then ?_
    refine aw_seq ?_
    refine aw_sr ?_
    refine al_mv rfl rfl ?_
    refine al_mv rfl rfl ?_
    refine al_in rfl rfl rfl rfl ?_
    refine al_nt ?_
    refine aw_cond rfl (fun hb14 => ?_) (fun hb14 => ?_)
    ·replace h := bif_t hb14 h
     refine aw_sr ?_
     refine al_val (ov_load (i := 1) (v := (ag (cA3i64 l5A5_0))) rfl rfl Try.underlying132 sz132 rfl rfl rfl rfl) ?_
     refine al_store (i := 0) (vs := (cA3i64 l5A5_0)) (cs' := (cA3i64 l5A5_0)) rfl rfl rfl sz132 (cv_rfl rfl) rfl (co_all (oneA3i64 l5A5_0)) (Nat.le_of_ble_eq_true rfl) rfl rfl ?_
     refine al_as rfl rfl ?_
     refine al_as rfl rfl ?_
     refine al_nt ?_
     refine aw_ret ?_
     refine aq_then_ret ?_
     refine aq_block_ret ?_
     refine aq_then_ret ?_
     refine aq_then_ret ?_
     refine aq_block_ret ?_
     refine aq_then_ret ?_
     obtain rfl := Option.some.inj h
     exact fn_ret () [] [] rfl rfl rfl rfl (resC rfl (resB (i := 0) rfl rfl Try.underlying132 sz132 rfl rfl rfl (resT rfl (resT rfl (resN)))) rfl) rfl rfl rfl (by decide)
    ·replace h := bif_f hb14 h
     refine aw_skip ?_
     refine aq_then ?_
     obtain ⟨hc15, h⟩ := req_some h
     obtain ⟨u16, hu17, h⟩ := opt_some h
     refine aw_region_open [⟨0, 30, Unit, fun _ => { val := (int .i64 l5i12) }⟩, ⟨1, 31, Unit, fun _ => { val := (int .u64 r12.1) }⟩, ⟨2, 32, Unit, fun _ => { val := (int .i64 (IntKind.i64.wrap r12.1)) }⟩, ⟨3, 33, Unit, fun _ => { val := (str l5s0) }⟩, ⟨4, 34, Unit, fun _ => { val := (int .i64 r12.2.1) }⟩, ⟨5, 35, Unit, fun _ => { val := (str (l5s0.drop (r12.2.1).toNat)) }⟩, ⟨6, 36, Unit, fun _ => { val := (ptr g2 (0 + (l5i12).toNat)) }⟩] (tab [(0, (str l5s0)), (2, (ptr g1 0)), (5, (ptr g2 0)), (6, (int .i64 l5i12)), (8, (int .u64 r12.1)), (9, (int .i64 r12.2.1)), (11, (ag (cA3u64 (A3u64.mk (4096 : Int) (12288 : Int) (256 : Int))))), (12, (int .i64 l5i12))]) mixed (fun a hs => hs.tab _ (allT_mem ⟨rfl, rfl, rfl, rfl, rfl, rfl, rfl, rfl, trivial⟩)) ?_
     refine ta_show (m := (memOf w0 Z0 [] [(oBox g1 132 (cA3i64 (A3i64.mk (0 : Int) (0 : Int) (0 : Int)))), (oBox g2 132 (cA3i64 l5A5_0))] [])) (S := (tab [(0, (str l5s0)), (2, (ptr g1 0)), (5, (ptr g2 0)), (6, (int .i64 l5i12)), (8, (int .u64 r12.1)), (9, (int .i64 r12.2.1)), (11, (ag (cA3u64 (A3u64.mk (4096 : Int) (12288 : Int) (256 : Int))))), (12, (int .i64 l5i12))])) ?_
     refine ta_step 7 _ [0, 1, 2, 3, 4, 5, 6] [30, 31, 32, 33, 34, 35, 36] [0, 1, 2, 6] [] [⟨0, 30, Unit, fun _ => { val := (int .i64 l5i12) }⟩, ⟨1, 31, Unit, fun _ => { val := (int .u64 r12.1) }⟩, ⟨2, 32, Unit, fun _ => { val := (int .i64 (IntKind.i64.wrap r12.1)) }⟩, ⟨6, 36, Unit, fun _ => { val := (ptr g2 (0 + (l5i12).toNat)) }⟩] [⟨3, 33, Unit, fun _ => { val := (str l5s0) }⟩, ⟨4, 34, Unit, fun _ => { val := (int .i64 r12.2.1) }⟩, ⟨5, 35, Unit, fun _ => { val := (str (l5s0.drop (r12.2.1).toNat)) }⟩] rfl rfl rfl (by kernel_rfl) rfl rfl rfl ⟨⟨_, rfl, [], rfl, by
 intro X_ Y_ F_ K_ hK_
 refine al_show (m := Mem.plus (memOf w0 Z0 [] [(oBox g1 132 (cA3i64 (A3i64.mk (0 : Int) (0 : Int) (0 : Int)))), (oBox g2 132 (cA3i64 l5A5_0))] []) X_ Y_) (S := over (tab [(0, (str l5s0)), (2, (ptr g1 0)), (5, (ptr g2 0)), (6, (int .i64 l5i12)), (8, (int .u64 r12.1)), (9, (int .i64 r12.2.1)), (11, (ag (cA3u64 (A3u64.mk (4096 : Int) (12288 : Int) (256 : Int))))), (12, (int .i64 l5i12))]) F_) ?_
 refine al_mv rfl rfl ?_
 refine al_nil ?_
 exact fr_fin hK_ ()⟩, ⟨_, rfl, [], rfl, by
 intro X_ Y_ F_ K_ hK_
 refine al_show (m := Mem.plus (memOf w0 Z0 [] [(oBox g1 132 (cA3i64 (A3i64.mk (0 : Int) (0 : Int) (0 : Int)))), (oBox g2 132 (cA3i64 l5A5_0))] []) X_ Y_) (S := over (tab [(0, (str l5s0)), (2, (ptr g1 0)), (5, (ptr g2 0)), (6, (int .i64 l5i12)), (8, (int .u64 r12.1)), (9, (int .i64 r12.2.1)), (11, (ag (cA3u64 (A3u64.mk (4096 : Int) (12288 : Int) (256 : Int))))), (12, (int .i64 l5i12))]) F_) ?_
 refine al_mv rfl rfl ?_
 refine al_nil ?_
 exact fr_fin hK_ ()⟩, ⟨_, rfl, [1], rfl, by
 intro _
 intro X_ Y_ F_ K_ hK_
 refine al_show (m := Mem.plus (memOf w0 Z0 [] [(oBox g1 132 (cA3i64 (A3i64.mk (0 : Int) (0 : Int) (0 : Int)))), (oBox g2 132 (cA3i64 l5A5_0))] []) X_ Y_) (S := over (put (tab [(0, (str l5s0)), (2, (ptr g1 0)), (5, (ptr g2 0)), (6, (int .i64 l5i12)), (8, (int .u64 r12.1)), (9, (int .i64 r12.2.1)), (11, (ag (cA3u64 (A3u64.mk (4096 : Int) (12288 : Int) (256 : Int))))), (12, (int .i64 l5i12))]) 31 (int .u64 r12.1)) F_) ?_
 refine al_val (ov_convInt (by rw [Try.underlying55]; rfl) Try.underlying3 rfl rfl) ?_
 refine al_nil ?_
 exact fr_fin hK_ ()⟩, ⟨_, rfl, [], rfl, by
 intro X_ Y_ F_ K_ hK_
 refine al_show (m := Mem.plus (memOf w0 Z0 [] [(oBox g1 132 (cA3i64 (A3i64.mk (0 : Int) (0 : Int) (0 : Int)))), (oBox g2 132 (cA3i64 l5A5_0))] []) X_ Y_) (S := over (tab [(0, (str l5s0)), (2, (ptr g1 0)), (5, (ptr g2 0)), (6, (int .i64 l5i12)), (8, (int .u64 r12.1)), (9, (int .i64 r12.2.1)), (11, (ag (cA3u64 (A3u64.mk (4096 : Int) (12288 : Int) (256 : Int))))), (12, (int .i64 l5i12))]) F_) ?_
 refine al_mv rfl rfl ?_
 refine al_nil ?_
 exact fr_fin hK_ ()⟩, ⟨_, rfl, [], rfl, by
 intro X_ Y_ F_ K_ hK_
 refine al_show (m := Mem.plus (memOf w0 Z0 [] [(oBox g1 132 (cA3i64 (A3i64.mk (0 : Int) (0 : Int) (0 : Int)))), (oBox g2 132 (cA3i64 l5A5_0))] []) X_ Y_) (S := over (tab [(0, (str l5s0)), (2, (ptr g1 0)), (5, (ptr g2 0)), (6, (int .i64 l5i12)), (8, (int .u64 r12.1)), (9, (int .i64 r12.2.1)), (11, (ag (cA3u64 (A3u64.mk (4096 : Int) (12288 : Int) (256 : Int))))), (12, (int .i64 l5i12))]) F_) ?_
 refine al_mv rfl rfl ?_
 refine al_nil ?_
 exact fr_fin hK_ ()⟩, ⟨_, rfl, [3, 4], rfl, by
 intro _
 intro _
 intro X_ Y_ F_ K_ hK_
 refine al_show (m := Mem.plus (memOf w0 Z0 [] [(oBox g1 132 (cA3i64 (A3i64.mk (0 : Int) (0 : Int) (0 : Int)))), (oBox g2 132 (cA3i64 l5A5_0))] []) X_ Y_) (S := over (put (put (tab [(0, (str l5s0)), (2, (ptr g1 0)), (5, (ptr g2 0)), (6, (int .i64 l5i12)), (8, (int .u64 r12.1)), (9, (int .i64 r12.2.1)), (11, (ag (cA3u64 (A3u64.mk (4096 : Int) (12288 : Int) (256 : Int))))), (12, (int .i64 l5i12))]) 33 (str l5s0)) 34 (int .i64 r12.2.1)) F_) ?_
 refine al_val (ov_strFrom hc15.1 hc15.2 Try.underlying9 rfl rfl rfl) ?_
 refine al_nil ?_
 exact fr_fin hK_ ()⟩, ⟨_, rfl, [0, 1, 2], rfl, by
 intro _
 intro _
 intro _
 intro X_ Y_ F_ K_ hK_
 refine al_show (m := Mem.plus (memOf w0 Z0 [] [(oBox g1 132 (cA3i64 (A3i64.mk (0 : Int) (0 : Int) (0 : Int)))), (oBox g2 132 (cA3i64 l5A5_0))] []) X_ Y_) (S := over (put (put (put (tab [(0, (str l5s0)), (2, (ptr g1 0)), (5, (ptr g2 0)), (6, (int .i64 l5i12)), (8, (int .u64 r12.1)), (9, (int .i64 r12.2.1)), (11, (ag (cA3u64 (A3u64.mk (4096 : Int) (12288 : Int) (256 : Int))))), (12, (int .i64 l5i12))]) 30 (int .i64 l5i12)) 31 (int .u64 r12.1)) 32 (int .i64 (IntKind.i64.wrap r12.1))) F_) ?_
 refine al_val (ov_idxArrV hu17 rfl rfl rfl Try.underlying132 sz3 rfl) ?_
 refine al_nil ?_
 exact fr_fin hK_ ()⟩, trivial⟩ ?_
     intro _
     intro _
     intro _
     intro _
     intro X_ Y_ F_ K_ hK_
     refine al_show (m := Mem.plus (memOf w0 Z0 [] [(oBox g1 132 (cA3i64 (A3i64.mk (0 : Int) (0 : Int) (0 : Int)))), (oBox g2 132 (cA3i64 l5A5_0))] []) X_ Y_) (S := over (put (put (put (put (tab [(0, (str l5s0)), (2, (ptr g1 0)), (5, (ptr g2 0)), (6, (int .i64 l5i12)), (8, (int .u64 r12.1)), (9, (int .i64 r12.2.1)), (11, (ag (cA3u64 (A3u64.mk (4096 : Int) (12288 : Int) (256 : Int))))), (12, (int .i64 l5i12))]) 30 (int .i64 l5i12)) 31 (int .u64 r12.1)) 32 (int .i64 (IntKind.i64.wrap r12.1))) 36 (ptr g2 (0 + (l5i12).toNat))) F_) ?_
     refine al_storeV (cs := (cA3i64 l5A5_0)) (cs' := (cA3i64 (setA3i64 l5A5_0 l5i12 (IntKind.i64.wrap r12.1)))) 1 rfl rfl rfl sz3 rfl (by have h1 := (at_some hu17).2.1; have h0 := (at_some hu17).1; have h2 : ((lA3i64 l5A5_0).length : Int) = 3 := rfl; show 0 + (l5i12).toNat < 3; omega) (csetA3i64 (at_some hu17).1 (at_some hu17).2.1 [] []) rfl ?_
     refine al_nil ?_
     refine aq_show (m := Mem.plus (memOf w0 Z0 [] [(oBox g1 132 (cA3i64 (A3i64.mk (0 : Int) (0 : Int) (0 : Int)))), (oBox g2 132 (cA3i64 (setA3i64 l5A5_0 l5i12 (IntKind.i64.wrap r12.1))))] []) X_ Y_) ?_
     refine aq_next hK_ [0, 1] [] [(0, (str l5s0)), (2, (ptr g1 0)), (5, (ptr g2 0)), (9, (int .i64 r12.2.1)), (11, (ag (cA3u64 (A3u64.mk (4096 : Int) (12288 : Int) (256 : Int))))), (12, (int .i64 l5i12))] [33, 34, 35] [] rfl rfl (by decide) rfl ⟨rfl, rfl, rfl, rfl, rfl, rfl, trivial⟩ ⟨rfl, rfl, rfl, trivial⟩ ?_
     clear hK_ K_ F_ X_ Y_
     refine ta_show (m := (memOf w0 Z0 [] [(oBox g1 132 (cA3i64 (A3i64.mk (0 : Int) (0 : Int) (0 : Int)))), (oBox g2 132 (cA3i64 (setA3i64 l5A5_0 l5i12 (IntKind.i64.wrap r12.1))))] [])) (S := (tab [(0, (str l5s0)), (2, (ptr g1 0)), (5, (ptr g2 0)), (9, (int .i64 r12.2.1)), (11, (ag (cA3u64 (A3u64.mk (4096 : Int) (12288 : Int) (256 : Int))))), (12, (int .i64 l5i12))])) ?_
     refine ta_step 8 _ [3, 4, 5] [33, 34, 35] [3, 4, 5] [] [⟨3, 33, Unit, fun _ => { val := (str l5s0) }⟩, ⟨4, 34, Unit, fun _ => { val := (int .i64 r12.2.1) }⟩, ⟨5, 35, Unit, fun _ => { val := (str (l5s0.drop (r12.2.1).toNat)) }⟩] [] rfl rfl rfl (by kernel_rfl) rfl rfl rfl ⟨⟨_, rfl, [], rfl, by
 intro X_ Y_ F_ K_ hK_
 refine al_show (m := Mem.plus (memOf w0 Z0 [] [(oBox g1 132 (cA3i64 (A3i64.mk (0 : Int) (0 : Int) (0 : Int)))), (oBox g2 132 (cA3i64 (setA3i64 l5A5_0 l5i12 (IntKind.i64.wrap r12.1))))] []) X_ Y_) (S := over (tab [(0, (str l5s0)), (2, (ptr g1 0)), (5, (ptr g2 0)), (9, (int .i64 r12.2.1)), (11, (ag (cA3u64 (A3u64.mk (4096 : Int) (12288 : Int) (256 : Int))))), (12, (int .i64 l5i12))]) F_) ?_
 refine al_mv rfl rfl ?_
 refine al_nil ?_
 exact fr_fin hK_ ()⟩, ⟨_, rfl, [], rfl, by
 intro X_ Y_ F_ K_ hK_
 refine al_show (m := Mem.plus (memOf w0 Z0 [] [(oBox g1 132 (cA3i64 (A3i64.mk (0 : Int) (0 : Int) (0 : Int)))), (oBox g2 132 (cA3i64 (setA3i64 l5A5_0 l5i12 (IntKind.i64.wrap r12.1))))] []) X_ Y_) (S := over (tab [(0, (str l5s0)), (2, (ptr g1 0)), (5, (ptr g2 0)), (9, (int .i64 r12.2.1)), (11, (ag (cA3u64 (A3u64.mk (4096 : Int) (12288 : Int) (256 : Int))))), (12, (int .i64 l5i12))]) F_) ?_
 refine al_mv rfl rfl ?_
 refine al_nil ?_
 exact fr_fin hK_ ()⟩, ⟨_, rfl, [0, 1], rfl, by
 intro _
 intro _
 intro X_ Y_ F_ K_ hK_
 refine al_show (m := Mem.plus (memOf w0 Z0 [] [(oBox g1 132 (cA3i64 (A3i64.mk (0 : Int) (0 : Int) (0 : Int)))), (oBox g2 132 (cA3i64 (setA3i64 l5A5_0 l5i12 (IntKind.i64.wrap r12.1))))] []) X_ Y_) (S := over (put (put (tab [(0, (str l5s0)), (2, (ptr g1 0)), (5, (ptr g2 0)), (9, (int .i64 r12.2.1)), (11, (ag (cA3u64 (A3u64.mk (4096 : Int) (12288 : Int) (256 : Int))))), (12, (int .i64 l5i12))]) 33 (str l5s0)) 34 (int .i64 r12.2.1)) F_) ?_
 refine al_val (ov_strFrom hc15.1 hc15.2 Try.underlying9 rfl rfl rfl) ?_
 refine al_nil ?_
 exact fr_fin hK_ ()⟩, trivial⟩ ?_
     intro _
     intro _
     intro _
     intro X_ Y_ F_ K_ hK_
     refine al_show (m := Mem.plus (memOf w0 Z0 [] [(oBox g1 132 (cA3i64 (A3i64.mk (0 : Int) (0 : Int) (0 : Int)))), (oBox g2 132 (cA3i64 (setA3i64 l5A5_0 l5i12 (IntKind.i64.wrap r12.1))))] []) X_ Y_) (S := over (put (put (put (tab [(0, (str l5s0)), (2, (ptr g1 0)), (5, (ptr g2 0)), (9, (int .i64 r12.2.1)), (11, (ag (cA3u64 (A3u64.mk (4096 : Int) (12288 : Int) (256 : Int))))), (12, (int .i64 l5i12))]) 33 (str l5s0)) 34 (int .i64 r12.2.1)) 35 (str (l5s0.drop (r12.2.1).toNat))) F_) ?_
     refine al_as rfl rfl ?_
     refine al_nil ?_
     refine aq_show (m := Mem.plus (memOf w0 Z0 [] [(oBox g1 132 (cA3i64 (A3i64.mk (0 : Int) (0 : Int) (0 : Int)))), (oBox g2 132 (cA3i64 (setA3i64 l5A5_0 l5i12 (IntKind.i64.wrap r12.1))))] []) X_ Y_) ?_
     refine aq_next hK_ [0, 1] [] [(0, (str (l5s0.drop (r12.2.1).toNat))), (2, (ptr g1 0)), (5, (ptr g2 0)), (11, (ag (cA3u64 (A3u64.mk (4096 : Int) (12288 : Int) (256 : Int))))), (12, (int .i64 l5i12))] [] [] rfl rfl (by decide) rfl ⟨rfl, rfl, rfl, rfl, rfl, trivial⟩ trivial ?_
     clear hK_ K_ F_ X_ Y_
     refine ta_show (m := (memOf w0 Z0 [] [(oBox g1 132 (cA3i64 (A3i64.mk (0 : Int) (0 : Int) (0 : Int)))), (oBox g2 132 (cA3i64 (setA3i64 l5A5_0 l5i12 (IntKind.i64.wrap r12.1))))] [])) (S := (tab [(0, (str (l5s0.drop (r12.2.1).toNat))), (2, (ptr g1 0)), (5, (ptr g2 0)), (11, (ag (cA3u64 (A3u64.mk (4096 : Int) (12288 : Int) (256 : Int))))), (12, (int .i64 l5i12))])) ?_
     refine ta_end [] [] rfl rfl (by kernel_rfl) rfl trivial ?_
     refine aq_show (m := (memOf w0 Z0 [] [(oBox g1 132 (cA3i64 (A3i64.mk (0 : Int) (0 : Int) (0 : Int)))), (oBox g2 132 (cA3i64 (setA3i64 l5A5_0 l5i12 (IntKind.i64.wrap r12.1))))] [])) (S := (tab [(0, (str (l5s0.drop (r12.2.1).toNat))), (2, (ptr g1 0)), (5, (ptr g2 0)), (11, (ag (cA3u64 (A3u64.mk (4096 : Int) (12288 : Int) (256 : Int))))), (12, (int .i64 l5i12))])) ?_
     refine aq_block ?_
     refine aq_then ?_
     refine aw_region ?_
     refine al_in rfl rfl rfl rfl ?_
     refine al_mv rfl rfl ?_
     refine al_nil ?_
     exact aq_again k6 ((l5s0.drop (r12.2.1).toNat), (setA3i64 l5A5_0 l5i12 (IntKind.i64.wrap r12.1)), (IntKind.i64.wrap (l5i12 + (1 : Int)))) (Nat.lt_succ_self _) h (fun w a hm hs => norm hm hs [0, 1] [] [(0, (str (l5s0.drop (r12.2.1).toNat))), (2, (ptr g1 0)), (5, (ptr g2 0)), (11, (ag (cA3u64 (A3u64.mk (4096 : Int) (12288 : Int) (256 : Int))))), (12, (int .i64 (IntKind.i64.wrap (l5i12 + (1 : Int)))))] (by decide) ⟨rfl, rfl, rfl, rfl, rfl, trivial⟩)
  ·replace h := bif_f hb8 h
   refine aw_exit ?_
   refine aq_then_exit ?_
   refine aq_then_exit ?_
   refine aq_block_exit ?_
   exact aq_join (l5s0, l5A5_0) h (fun w a hm hs => norm hm hs [0, 1] [] [(0, (str l5s0)), (2, (ptr g1 0)), (5, (ptr g2 0))] (by decide) ⟨rfl, rfl, rfl, trivial⟩)
def f_press_lengths_L7 (a1 : Int) (kk4 : ((List UInt8) → (List Int) → Option ((List Int) × (List UInt8) × Int))) : Nat → (List UInt8) → (List Int) → Int → Int → Option ((List Int) × (List UInt8) × Int)
  | 0, _, _, _, _ => none
  | k6 + 1, l5s0, l5x7, l5i8, l5i13 => (bif (decide (l5i13 < a1)) then (bif (decide ((l5s0.length : Int) < (2 : Int))) then (some (([] : List Int), ([] : List UInt8), (3 : Int))) else (req (0 ≤ (0 : Int) ∧ (0 : Int) < (l5s0.length : Int)) (req (0 ≤ (1 : Int) ∧ (1 : Int) < (l5s0.length : Int)) (lt (fun (j12b34 : Bool) => (bif j12b34 then (some (([] : List Int), ([] : List UInt8), (4 : Int))) else (req (0 ≤ (2 : Int) ∧ (2 : Int) ≤ (l5s0.length : Int)) (opt (at? l5x7 (IntKind.i64.wrap (En.bAt l5s0 (0 : Int)))) fun (u16 : Int) => (f_press_lengths_L7 a1 kk4 k6 (l5s0.drop ((2 : Int)).toNat) (l5x7.set ((IntKind.i64.wrap (En.bAt l5s0 (0 : Int)))).toNat (IntKind.i64.wrap (En.bAt l5s0 (1 : Int)))) (IntKind.i64.wrap (En.bAt l5s0 (0 : Int))) (IntKind.i64.wrap (l5i13 + (1 : Int)))))))) fun (kk13 : Bool → Option ((List Int) × (List UInt8) × Int)) => (bif (decide ((IntKind.i64.wrap (En.bAt l5s0 (0 : Int))) ≤ l5i8)) then (kk13 true) else (bif (decide ((IntKind.i64.wrap (En.bAt l5s0 (1 : Int))) < (1 : Int))) then (kk13 true) else (kk13 (decide ((IntKind.i64.wrap (En.bAt l5s0 (1 : Int))) > (48 : Int)))))))))) else (kk4 l5s0 l5x7))
def f_press_lengths (fu : Nat) (a0 : (List UInt8)) (a1 : Int) : Option ((List Int) × (List UInt8) × Int) := (req (0 ≤ (256 : Int) ∧ 8 * (256 : Int) ≤ 281474976710656 ∧ (256 : Int) ≤ 9223372036854775807) (lt (fun (j3s0 : (List UInt8)) (j3x7 : (List Int)) => (some (j3x7, j3s0, (0 : Int)))) fun (kk4 : (List UInt8) → (List Int) → Option ((List Int) × (List UInt8) × Int)) => (f_press_lengths_L7 a1 kk4 fu a0 (List.replicate ((256 : Int)).toNat 0) (-1 : Int) (0 : Int))))
set_option maxRecDepth 100000 in
theorem f_press_lengths_ok (fu : Nat) (a0 : (List UInt8)) (a1 : Int) {r : ((List Int) × (List UInt8) × Int)} (h : f_press_lengths fu a0 a1 = some r) : FnOk Try.prog 121 [(str a0), (int .i64 a1)] [] [] (fun (i : Value) => { val := (Value.tuple #[i, (str r.2.1), (int .i64 r.2.2)]), own := [(oRow i 3 (tyInt .i64) r.1)] }) := by
 unfold f_press_lengths at h
 refine fn_enter Try.func121 rfl Try.ntmps121 rfl (fun w0 Z0 => ?_)
 refine aw_sr ?_
 refine al_as rfl rfl ?_
 refine al_as rfl rfl ?_
 refine al_as rfl rfl ?_
 refine al_nt ?_
 refine aw_sr ?_
 obtain ⟨hc1, h⟩ := req_some h
 refine al_make (τ := (tyInt .i64)) (x0 := 0) hc1.1 hc1.2.1 hc1.2.2 rfl rfl Try.underlying34 to3 (fun _ _ => rfl) rfl rfl (fun v2 => ?_)
 refine al_as rfl rfl ?_
 refine al_nt ?_
 refine aw_sr ?_
 refine al_as rfl rfl ?_
 refine al_nt ?_
 obtain ⟨kk4, hkk4, h⟩ := lt_some h
 refine aw_seq_join (ι := (List UInt8) × (List Int)) (fun i => (memOf w0 Z0 [] [(oRow v2 3 (tyInt .i64) i.2)] [])) (fun i => (tab [(0, (str i.1)), (7, v2)])) (fun i => kk4 i.1 i.2 = some r) ?_ ?_
 ·rintro ⟨j3s0, j3x7⟩ h
  have h : kk4 j3s0 j3x7 = some r := h
  rw [hkk4] at h
  dsimp only at h
  clear hkk4
  refine aw_show (m := (memOf w0 Z0 [] [(oRow v2 3 (tyInt .i64) j3x7)] [])) (S := (tab [(0, (str j3s0)), (7, v2)])) ?_
  refine aw_sr ?_
  refine al_mv rfl rfl ?_
  refine al_mv rfl rfl ?_
  refine al_as rfl rfl ?_
  refine al_as rfl rfl ?_
  refine al_as rfl rfl ?_
  refine al_nt ?_
  refine aw_ret ?_
  obtain rfl := Option.some.inj h
  exact fn_ret v2 [0] [] rfl rfl rfl rfl (res3 rfl rfl rfl rfl) rfl rfl rfl (by decide)
 ·clear hkk4
  refine aw_sr ?_
  refine al_mv rfl rfl ?_
  refine al_mv rfl rfl ?_
  refine al_nt ?_
  refine aw_block ?_
  refine aw_state (aw_loop (ι := (List UInt8) × (List Int) × Int × Int) (fun i => (memOf w0 Z0 [] [(oRow v2 3 (tyInt .i64) i.2.1)] [])) (fun i => (tab [(0, (str i.1)), (7, v2), (8, (int .i64 i.2.2.1)), (12, (int .i64 a1)), (13, (int .i64 i.2.2.2))])) (fun q i => f_press_lengths_L7 a1 kk4 q i.1 i.2.1 i.2.2.1 i.2.2.2 = some r) ?_ fu (a0, (List.replicate ((256 : Int)).toNat 0), (-1 : Int), (0 : Int)) h) (fun w a hm hs => norm hm hs [0] [] [(0, (str a0)), (7, v2), (8, (int .i64 (-1 : Int))), (12, (int .i64 a1)), (13, (int .i64 (0 : Int)))] (by decide) ⟨rfl, rfl, rfl, rfl, rfl, trivial⟩)
  clear h
  rintro k6 ⟨l5s0, l5x7, l5i8, l5i13⟩ h
  have h : f_press_lengths_L7 a1 kk4 k6 l5s0 l5x7 l5i8 l5i13 = some r := h
  obtain _ | k6 := k6
  · rw [f_press_lengths_L7] at h; cases h
  rw [f_press_lengths_L7] at h
  refine aw_show (m := (memOf w0 Z0 [] [(oRow v2 3 (tyInt .i64) l5x7)] [])) (S := (tab [(0, (str l5s0)), (7, v2), (8, (int .i64 l5i8)), (12, (int .i64 a1)), (13, (int .i64 l5i13))])) ?_
  refine aw_sr ?_
  refine al_in rfl rfl rfl rfl ?_
  refine al_nt ?_
  refine aw_seq ?_
  refine aw_cond rfl (fun hb8 => ?_) (fun hb8 => ?_)
  ·replace h := bif_t hb8 h
   refine aw_skip ?_
   refine aq_then ?_
   refine aw_seq ?_
   refine aw_block ?_
   refine aw_seq ?_
   refine aw_sr ?_
   refine al_mv rfl rfl ?_
   refine al_val (ov_strLen Try.underlying9 rfl rfl) ?_
   refine al_in rfl rfl rfl rfl ?_
   refine al_nt ?_
   refine aw_cond rfl (fun hb9 => ?_) (fun hb9 => ?_)
   ·replace h := bif_t hb9 h
    refine aw_sr ?_
    refine al_as rfl rfl ?_
    refine al_as rfl rfl ?_
    refine al_as rfl rfl ?_
    refine al_nt ?_
    refine aw_ret ?_
    refine aq_then_ret ?_
    refine aq_block_ret ?_
    refine aq_then_ret ?_
    refine aq_then_ret ?_
    refine aq_block_ret ?_
    refine aq_then_ret ?_
    refine aq_nilR 3 (tyInt .i64) ?_
    obtain rfl := Option.some.inj h
    exact fn_ret (Value.slice none 0 0) [0] [] rfl rfl rfl rfl (res3 rfl rfl rfl rfl) rfl rfl rfl (by decide)
   ·replace h := bif_f hb9 h
    refine aw_skip ?_
    refine aq_then ?_
    refine aw_seq ?_
    obtain ⟨hc10, h⟩ := req_some h
    obtain ⟨hc11, h⟩ := req_some h
    refine aw_region_draw 7 [(18, (fun u => fEq u (str l5s0))), (19, (fun u => fEq u (int .u8 (En.bAt l5s0 (0 : Int))))), (20, (fun u => fEq u (int .i64 (IntKind.i64.wrap (En.bAt l5s0 (0 : Int)))))), (21, (fun u => fEq u (str l5s0))), (22, (fun u => fEq u (int .u8 (En.bAt l5s0 (1 : Int))))), (23, (fun u => fEq u (int .i64 (IntKind.i64.wrap (En.bAt l5s0 (1 : Int)))))), (9, (fun u => fEq u (int .i64 (IntKind.i64.wrap (En.bAt l5s0 (0 : Int))))))] (tab [(0, (str l5s0)), (7, v2), (8, (int .i64 l5i8)), (12, (int .i64 a1)), (13, (int .i64 l5i13))]) mixed (by kernel_rfl) rfl rfl rfl (fun a hs => hs.tab _ (allT_mem ⟨rfl, rfl, rfl, rfl, rfl, trivial⟩)) ⟨⟨rfl, ld_val (ov_move rfl rfl)⟩, ⟨rfl, ld_eq (j := 0) rfl rfl (ld_val (ov_strIdx hc10.1 hc10.2 Try.underlying9 rfl rfl rfl))⟩, ⟨rfl, ld_eq (j := 1) rfl rfl (ld_val (ov_convInt (by rw [Try.underlying5]; rfl) Try.underlying3 rfl rfl))⟩, ⟨rfl, ld_val (ov_move rfl rfl)⟩, ⟨rfl, ld_eq (j := 3) rfl rfl (ld_val (ov_strIdx hc11.1 hc11.2 Try.underlying9 rfl rfl rfl))⟩, ⟨rfl, ld_eq (j := 4) rfl rfl (ld_val (ov_convInt (by rw [Try.underlying5]; rfl) Try.underlying3 rfl rfl))⟩, ⟨rfl, ld_eq (j := 2) rfl rfl (ld_val (ov_assign rfl rfl))⟩, trivial⟩ ?_
    refine tl_eq 5 rfl ?_
    refine tl_eq 6 rfl ?_
    refine tl_done ?_
    refine al_as rfl rfl ?_
    refine al_nt ?_
    refine aw_seq ?_
    obtain ⟨kk13, hkk13, h⟩ := lt_some h
    refine aw_seq_join (ι := Bool) (fun i => (memOf w0 Z0 [] [(oRow v2 3 (tyInt .i64) l5x7)] [])) (fun i => (tab [(0, (str l5s0)), (7, v2), (9, (int .i64 (IntKind.i64.wrap (En.bAt l5s0 (0 : Int))))), (10, (int .i64 (IntKind.i64.wrap (En.bAt l5s0 (1 : Int))))), (12, (int .i64 a1)), (13, (int .i64 l5i13)), (34, (bool i))])) (fun i => kk13 i = some r) ?_ ?_
    ·rintro j12b34 h
     have h : kk13 j12b34 = some r := h
     rw [hkk13] at h
     dsimp only at h
     clear hkk13
     refine aw_show (m := (memOf w0 Z0 [] [(oRow v2 3 (tyInt .i64) l5x7)] [])) (S := (tab [(0, (str l5s0)), (7, v2), (9, (int .i64 (IntKind.i64.wrap (En.bAt l5s0 (0 : Int))))), (10, (int .i64 (IntKind.i64.wrap (En.bAt l5s0 (1 : Int))))), (12, (int .i64 a1)), (13, (int .i64 l5i13)), (34, (bool j12b34))])) ?_
     refine aw_cond rfl (fun hb14 => ?_) (fun hb14 => ?_)
     ·replace h := bif_t hb14 h
      refine aw_sr ?_
      refine al_as rfl rfl ?_
      refine al_as rfl rfl ?_
      refine al_as rfl rfl ?_
      refine al_nt ?_
      refine aw_ret ?_
      refine aq_then_ret ?_
      refine aq_block_ret ?_
      refine aq_then_ret ?_
      refine aq_then_ret ?_
      refine aq_block_ret ?_
      refine aq_then_ret ?_
      refine aq_nilR 3 (tyInt .i64) ?_
      obtain rfl := Option.some.inj h
      exact fn_ret (Value.slice none 0 0) [0] [] rfl rfl rfl rfl (res3 rfl rfl rfl rfl) rfl rfl rfl (by decide)
     ·replace h := bif_f hb14 h
      refine aw_skip ?_
      refine aq_then ?_
      obtain ⟨hc15, h⟩ := req_some h
      obtain ⟨u16, hu17, h⟩ := opt_some h
      refine aw_region_open [⟨0, 35, Unit, fun _ => { val := v2 }⟩, ⟨1, 36, Unit, fun _ => { val := (int .i64 (IntKind.i64.wrap (En.bAt l5s0 (0 : Int)))) }⟩, ⟨2, 37, Unit, fun _ => { val := (int .i64 (IntKind.i64.wrap (En.bAt l5s0 (1 : Int)))) }⟩, ⟨3, 38, Unit, fun _ => { val := (int .i64 (IntKind.i64.wrap (En.bAt l5s0 (0 : Int)))) }⟩, ⟨4, 39, Unit, fun _ => { val := (str l5s0) }⟩, ⟨5, 40, Unit, fun _ => { val := (str (l5s0.drop ((2 : Int)).toNat)) }⟩, ⟨6, 41, {p : Value // EltOf v2 p (((IntKind.i64.wrap (En.bAt l5s0 (0 : Int)))).toNat * Ty.size (tyInt .i64))}, fun p => { val := p.1 }⟩] (tab [(0, (str l5s0)), (7, v2), (9, (int .i64 (IntKind.i64.wrap (En.bAt l5s0 (0 : Int))))), (10, (int .i64 (IntKind.i64.wrap (En.bAt l5s0 (1 : Int))))), (12, (int .i64 a1)), (13, (int .i64 l5i13))]) mixed (fun a hs => hs.tab _ (allT_mem ⟨rfl, rfl, rfl, rfl, rfl, rfl, trivial⟩)) ?_
      refine ta_show (m := (memOf w0 Z0 [] [(oRow v2 3 (tyInt .i64) l5x7)] [])) (S := (tab [(0, (str l5s0)), (7, v2), (9, (int .i64 (IntKind.i64.wrap (En.bAt l5s0 (0 : Int))))), (10, (int .i64 (IntKind.i64.wrap (En.bAt l5s0 (1 : Int))))), (12, (int .i64 a1)), (13, (int .i64 l5i13))])) ?_
      refine ta_step 7 _ [0, 1, 2, 3, 4, 5, 6] [35, 36, 37, 38, 39, 40, 41] [0, 1, 2, 6] [] [⟨0, 35, Unit, fun _ => { val := v2 }⟩, ⟨1, 36, Unit, fun _ => { val := (int .i64 (IntKind.i64.wrap (En.bAt l5s0 (0 : Int)))) }⟩, ⟨2, 37, Unit, fun _ => { val := (int .i64 (IntKind.i64.wrap (En.bAt l5s0 (1 : Int)))) }⟩, ⟨6, 41, {p : Value // EltOf v2 p (((IntKind.i64.wrap (En.bAt l5s0 (0 : Int)))).toNat * Ty.size (tyInt .i64))}, fun p => { val := p.1 }⟩] [⟨3, 38, Unit, fun _ => { val := (int .i64 (IntKind.i64.wrap (En.bAt l5s0 (0 : Int)))) }⟩, ⟨4, 39, Unit, fun _ => { val := (str l5s0) }⟩, ⟨5, 40, Unit, fun _ => { val := (str (l5s0.drop ((2 : Int)).toNat)) }⟩] rfl rfl rfl (by kernel_rfl) rfl rfl rfl ⟨⟨_, rfl, [], rfl, by
 intro X_ Y_ F_ K_ hK_
 refine al_show (m := Mem.plus (memOf w0 Z0 [] [(oRow v2 3 (tyInt .i64) l5x7)] []) X_ Y_) (S := over (tab [(0, (str l5s0)), (7, v2), (9, (int .i64 (IntKind.i64.wrap (En.bAt l5s0 (0 : Int))))), (10, (int .i64 (IntKind.i64.wrap (En.bAt l5s0 (1 : Int))))), (12, (int .i64 a1)), (13, (int .i64 l5i13))]) F_) ?_
 refine al_mv rfl rfl ?_
 refine al_nil ?_
 exact fr_fin hK_ ()⟩, ⟨_, rfl, [], rfl, by
 intro X_ Y_ F_ K_ hK_
 refine al_show (m := Mem.plus (memOf w0 Z0 [] [(oRow v2 3 (tyInt .i64) l5x7)] []) X_ Y_) (S := over (tab [(0, (str l5s0)), (7, v2), (9, (int .i64 (IntKind.i64.wrap (En.bAt l5s0 (0 : Int))))), (10, (int .i64 (IntKind.i64.wrap (En.bAt l5s0 (1 : Int))))), (12, (int .i64 a1)), (13, (int .i64 l5i13))]) F_) ?_
 refine al_mv rfl rfl ?_
 refine al_nil ?_
 exact fr_fin hK_ ()⟩, ⟨_, rfl, [], rfl, by
 intro X_ Y_ F_ K_ hK_
 refine al_show (m := Mem.plus (memOf w0 Z0 [] [(oRow v2 3 (tyInt .i64) l5x7)] []) X_ Y_) (S := over (tab [(0, (str l5s0)), (7, v2), (9, (int .i64 (IntKind.i64.wrap (En.bAt l5s0 (0 : Int))))), (10, (int .i64 (IntKind.i64.wrap (En.bAt l5s0 (1 : Int))))), (12, (int .i64 a1)), (13, (int .i64 l5i13))]) F_) ?_
 refine al_mv rfl rfl ?_
 refine al_nil ?_
 exact fr_fin hK_ ()⟩, ⟨_, rfl, [], rfl, by
 intro X_ Y_ F_ K_ hK_
 refine al_show (m := Mem.plus (memOf w0 Z0 [] [(oRow v2 3 (tyInt .i64) l5x7)] []) X_ Y_) (S := over (tab [(0, (str l5s0)), (7, v2), (9, (int .i64 (IntKind.i64.wrap (En.bAt l5s0 (0 : Int))))), (10, (int .i64 (IntKind.i64.wrap (En.bAt l5s0 (1 : Int))))), (12, (int .i64 a1)), (13, (int .i64 l5i13))]) F_) ?_
 refine al_mv rfl rfl ?_
 refine al_nil ?_
 exact fr_fin hK_ ()⟩, ⟨_, rfl, [], rfl, by
 intro X_ Y_ F_ K_ hK_
 refine al_show (m := Mem.plus (memOf w0 Z0 [] [(oRow v2 3 (tyInt .i64) l5x7)] []) X_ Y_) (S := over (tab [(0, (str l5s0)), (7, v2), (9, (int .i64 (IntKind.i64.wrap (En.bAt l5s0 (0 : Int))))), (10, (int .i64 (IntKind.i64.wrap (En.bAt l5s0 (1 : Int))))), (12, (int .i64 a1)), (13, (int .i64 l5i13))]) F_) ?_
 refine al_mv rfl rfl ?_
 refine al_nil ?_
 exact fr_fin hK_ ()⟩, ⟨_, rfl, [4], rfl, by
 intro _
 intro X_ Y_ F_ K_ hK_
 refine al_show (m := Mem.plus (memOf w0 Z0 [] [(oRow v2 3 (tyInt .i64) l5x7)] []) X_ Y_) (S := over (put (tab [(0, (str l5s0)), (7, v2), (9, (int .i64 (IntKind.i64.wrap (En.bAt l5s0 (0 : Int))))), (10, (int .i64 (IntKind.i64.wrap (En.bAt l5s0 (1 : Int))))), (12, (int .i64 a1)), (13, (int .i64 l5i13))]) 39 (str l5s0)) F_) ?_
 refine al_val (ov_strFrom hc15.1 hc15.2 Try.underlying9 rfl rfl rfl) ?_
 refine al_nil ?_
 exact fr_fin hK_ ()⟩, ⟨_, rfl, [0, 1, 2], rfl, by
 intro _
 intro _
 intro _
 intro X_ Y_ F_ K_ hK_
 refine al_show (m := Mem.plus (memOf w0 Z0 [] [(oRow v2 3 (tyInt .i64) l5x7)] []) X_ Y_) (S := over (put (put (put (tab [(0, (str l5s0)), (7, v2), (9, (int .i64 (IntKind.i64.wrap (En.bAt l5s0 (0 : Int))))), (10, (int .i64 (IntKind.i64.wrap (En.bAt l5s0 (1 : Int))))), (12, (int .i64 a1)), (13, (int .i64 l5i13))]) 35 v2) 36 (int .i64 (IntKind.i64.wrap (En.bAt l5s0 (0 : Int))))) 37 (int .i64 (IntKind.i64.wrap (En.bAt l5s0 (1 : Int))))) F_) ?_
 refine al_idxR 0 (at_some hu17).1 (at_some hu17).2.1 rfl rfl rfl Try.underlying34 sz3 rfl (fun p18 hp19 => ?_)
 refine al_nil ?_
 exact fr_fin hK_ ⟨p18, hp19⟩⟩, trivial⟩ ?_
      intro _
      intro _
      intro _
      rintro ⟨p18, hp19⟩
      intro X_ Y_ F_ K_ hK_
      refine al_show (m := Mem.plus (memOf w0 Z0 [] [(oRow v2 3 (tyInt .i64) l5x7)] []) X_ Y_) (S := over (put (put (put (put (tab [(0, (str l5s0)), (7, v2), (9, (int .i64 (IntKind.i64.wrap (En.bAt l5s0 (0 : Int))))), (10, (int .i64 (IntKind.i64.wrap (En.bAt l5s0 (1 : Int))))), (12, (int .i64 a1)), (13, (int .i64 l5i13))]) 35 v2) 36 (int .i64 (IntKind.i64.wrap (En.bAt l5s0 (0 : Int))))) 37 (int .i64 (IntKind.i64.wrap (En.bAt l5s0 (1 : Int))))) 41 p18) F_) ?_
      refine al_storeR (k := ((IntKind.i64.wrap (En.bAt l5s0 (0 : Int)))).toNat) (x := (IntKind.i64.wrap (En.bAt l5s0 (1 : Int)))) (vs := [(int .i64 (IntKind.i64.wrap (En.bAt l5s0 (1 : Int))))]) 0 rfl hp19 (idx_lt hu17) rfl rfl (cv_rfl rfl) (fun _ => rfl) sz3 rfl ?_
      refine al_nil ?_
      refine aq_show (m := Mem.plus (memOf w0 Z0 [] [(oRow v2 3 (tyInt .i64) (l5x7.set ((IntKind.i64.wrap (En.bAt l5s0 (0 : Int)))).toNat (IntKind.i64.wrap (En.bAt l5s0 (1 : Int)))))] []) X_ Y_) ?_
      refine aq_next hK_ [0] [] [(0, (str l5s0)), (7, v2), (9, (int .i64 (IntKind.i64.wrap (En.bAt l5s0 (0 : Int))))), (12, (int .i64 a1)), (13, (int .i64 l5i13))] [38, 39, 40] [] rfl rfl (by decide) rfl ⟨rfl, rfl, rfl, rfl, rfl, trivial⟩ ⟨rfl, rfl, rfl, trivial⟩ ?_
      clear hK_ K_ F_ X_ Y_
      refine ta_show (m := (memOf w0 Z0 [] [(oRow v2 3 (tyInt .i64) (l5x7.set ((IntKind.i64.wrap (En.bAt l5s0 (0 : Int)))).toNat (IntKind.i64.wrap (En.bAt l5s0 (1 : Int)))))] [])) (S := (tab [(0, (str l5s0)), (7, v2), (9, (int .i64 (IntKind.i64.wrap (En.bAt l5s0 (0 : Int))))), (12, (int .i64 a1)), (13, (int .i64 l5i13))])) ?_
      refine ta_step 8 _ [3, 4, 5] [38, 39, 40] [3] [] [⟨3, 38, Unit, fun _ => { val := (int .i64 (IntKind.i64.wrap (En.bAt l5s0 (0 : Int)))) }⟩] [⟨4, 39, Unit, fun _ => { val := (str l5s0) }⟩, ⟨5, 40, Unit, fun _ => { val := (str (l5s0.drop ((2 : Int)).toNat)) }⟩] rfl rfl rfl (by kernel_rfl) rfl rfl rfl ⟨⟨_, rfl, [], rfl, by
 intro X_ Y_ F_ K_ hK_
 refine al_show (m := Mem.plus (memOf w0 Z0 [] [(oRow v2 3 (tyInt .i64) (l5x7.set ((IntKind.i64.wrap (En.bAt l5s0 (0 : Int)))).toNat (IntKind.i64.wrap (En.bAt l5s0 (1 : Int)))))] []) X_ Y_) (S := over (tab [(0, (str l5s0)), (7, v2), (9, (int .i64 (IntKind.i64.wrap (En.bAt l5s0 (0 : Int))))), (12, (int .i64 a1)), (13, (int .i64 l5i13))]) F_) ?_
 refine al_mv rfl rfl ?_
 refine al_nil ?_
 exact fr_fin hK_ ()⟩, ⟨_, rfl, [], rfl, by
 intro X_ Y_ F_ K_ hK_
 refine al_show (m := Mem.plus (memOf w0 Z0 [] [(oRow v2 3 (tyInt .i64) (l5x7.set ((IntKind.i64.wrap (En.bAt l5s0 (0 : Int)))).toNat (IntKind.i64.wrap (En.bAt l5s0 (1 : Int)))))] []) X_ Y_) (S := over (tab [(0, (str l5s0)), (7, v2), (9, (int .i64 (IntKind.i64.wrap (En.bAt l5s0 (0 : Int))))), (12, (int .i64 a1)), (13, (int .i64 l5i13))]) F_) ?_
 refine al_mv rfl rfl ?_
 refine al_nil ?_
 exact fr_fin hK_ ()⟩, ⟨_, rfl, [1], rfl, by
 intro _
 intro X_ Y_ F_ K_ hK_
 refine al_show (m := Mem.plus (memOf w0 Z0 [] [(oRow v2 3 (tyInt .i64) (l5x7.set ((IntKind.i64.wrap (En.bAt l5s0 (0 : Int)))).toNat (IntKind.i64.wrap (En.bAt l5s0 (1 : Int)))))] []) X_ Y_) (S := over (put (tab [(0, (str l5s0)), (7, v2), (9, (int .i64 (IntKind.i64.wrap (En.bAt l5s0 (0 : Int))))), (12, (int .i64 a1)), (13, (int .i64 l5i13))]) 39 (str l5s0)) F_) ?_
 refine al_val (ov_strFrom hc15.1 hc15.2 Try.underlying9 rfl rfl rfl) ?_
 refine al_nil ?_
 exact fr_fin hK_ ()⟩, trivial⟩ ?_
      intro _
      intro X_ Y_ F_ K_ hK_
      refine al_show (m := Mem.plus (memOf w0 Z0 [] [(oRow v2 3 (tyInt .i64) (l5x7.set ((IntKind.i64.wrap (En.bAt l5s0 (0 : Int)))).toNat (IntKind.i64.wrap (En.bAt l5s0 (1 : Int)))))] []) X_ Y_) (S := over (put (tab [(0, (str l5s0)), (7, v2), (9, (int .i64 (IntKind.i64.wrap (En.bAt l5s0 (0 : Int))))), (12, (int .i64 a1)), (13, (int .i64 l5i13))]) 38 (int .i64 (IntKind.i64.wrap (En.bAt l5s0 (0 : Int))))) F_) ?_
      refine al_as rfl rfl ?_
      refine al_nil ?_
      refine aq_show (m := Mem.plus (memOf w0 Z0 [] [(oRow v2 3 (tyInt .i64) (l5x7.set ((IntKind.i64.wrap (En.bAt l5s0 (0 : Int)))).toNat (IntKind.i64.wrap (En.bAt l5s0 (1 : Int)))))] []) X_ Y_) ?_
      refine aq_next hK_ [0] [] [(0, (str l5s0)), (7, v2), (8, (int .i64 (IntKind.i64.wrap (En.bAt l5s0 (0 : Int))))), (12, (int .i64 a1)), (13, (int .i64 l5i13))] [39, 40] [] rfl rfl (by decide) rfl ⟨rfl, rfl, rfl, rfl, rfl, trivial⟩ ⟨rfl, rfl, trivial⟩ ?_
      clear hK_ K_ F_ X_ Y_
      refine ta_show (m := (memOf w0 Z0 [] [(oRow v2 3 (tyInt .i64) (l5x7.set ((IntKind.i64.wrap (En.bAt l5s0 (0 : Int)))).toNat (IntKind.i64.wrap (En.bAt l5s0 (1 : Int)))))] [])) (S := (tab [(0, (str l5s0)), (7, v2), (8, (int .i64 (IntKind.i64.wrap (En.bAt l5s0 (0 : Int))))), (12, (int .i64 a1)), (13, (int .i64 l5i13))])) ?_
      refine ta_step 9 _ [4, 5] [39, 40] [4, 5] [] [⟨4, 39, Unit, fun _ => { val := (str l5s0) }⟩, ⟨5, 40, Unit, fun _ => { val := (str (l5s0.drop ((2 : Int)).toNat)) }⟩] [] rfl rfl rfl (by kernel_rfl) rfl rfl rfl ⟨⟨_, rfl, [], rfl, by
 intro X_ Y_ F_ K_ hK_
 refine al_show (m := Mem.plus (memOf w0 Z0 [] [(oRow v2 3 (tyInt .i64) (l5x7.set ((IntKind.i64.wrap (En.bAt l5s0 (0 : Int)))).toNat (IntKind.i64.wrap (En.bAt l5s0 (1 : Int)))))] []) X_ Y_) (S := over (tab [(0, (str l5s0)), (7, v2), (8, (int .i64 (IntKind.i64.wrap (En.bAt l5s0 (0 : Int))))), (12, (int .i64 a1)), (13, (int .i64 l5i13))]) F_) ?_
 refine al_mv rfl rfl ?_
 refine al_nil ?_
 exact fr_fin hK_ ()⟩, ⟨_, rfl, [0], rfl, by
 intro _
 intro X_ Y_ F_ K_ hK_
 refine al_show (m := Mem.plus (memOf w0 Z0 [] [(oRow v2 3 (tyInt .i64) (l5x7.set ((IntKind.i64.wrap (En.bAt l5s0 (0 : Int)))).toNat (IntKind.i64.wrap (En.bAt l5s0 (1 : Int)))))] []) X_ Y_) (S := over (put (tab [(0, (str l5s0)), (7, v2), (8, (int .i64 (IntKind.i64.wrap (En.bAt l5s0 (0 : Int))))), (12, (int .i64 a1)), (13, (int .i64 l5i13))]) 39 (str l5s0)) F_) ?_
 refine al_val (ov_strFrom hc15.1 hc15.2 Try.underlying9 rfl rfl rfl) ?_
 refine al_nil ?_
 exact fr_fin hK_ ()⟩, trivial⟩ ?_
      intro _
      intro _
      intro X_ Y_ F_ K_ hK_
      refine al_show (m := Mem.plus (memOf w0 Z0 [] [(oRow v2 3 (tyInt .i64) (l5x7.set ((IntKind.i64.wrap (En.bAt l5s0 (0 : Int)))).toNat (IntKind.i64.wrap (En.bAt l5s0 (1 : Int)))))] []) X_ Y_) (S := over (put (put (tab [(0, (str l5s0)), (7, v2), (8, (int .i64 (IntKind.i64.wrap (En.bAt l5s0 (0 : Int))))), (12, (int .i64 a1)), (13, (int .i64 l5i13))]) 39 (str l5s0)) 40 (str (l5s0.drop ((2 : Int)).toNat))) F_) ?_
      refine al_as rfl rfl ?_
      refine al_nil ?_
      refine aq_show (m := Mem.plus (memOf w0 Z0 [] [(oRow v2 3 (tyInt .i64) (l5x7.set ((IntKind.i64.wrap (En.bAt l5s0 (0 : Int)))).toNat (IntKind.i64.wrap (En.bAt l5s0 (1 : Int)))))] []) X_ Y_) ?_
      refine aq_next hK_ [0] [] [(0, (str (l5s0.drop ((2 : Int)).toNat))), (7, v2), (8, (int .i64 (IntKind.i64.wrap (En.bAt l5s0 (0 : Int))))), (12, (int .i64 a1)), (13, (int .i64 l5i13))] [] [] rfl rfl (by decide) rfl ⟨rfl, rfl, rfl, rfl, rfl, trivial⟩ trivial ?_
      clear hK_ K_ F_ X_ Y_
      refine ta_show (m := (memOf w0 Z0 [] [(oRow v2 3 (tyInt .i64) (l5x7.set ((IntKind.i64.wrap (En.bAt l5s0 (0 : Int)))).toNat (IntKind.i64.wrap (En.bAt l5s0 (1 : Int)))))] [])) (S := (tab [(0, (str (l5s0.drop ((2 : Int)).toNat))), (7, v2), (8, (int .i64 (IntKind.i64.wrap (En.bAt l5s0 (0 : Int))))), (12, (int .i64 a1)), (13, (int .i64 l5i13))])) ?_
      refine ta_end [] [] rfl rfl (by kernel_rfl) rfl trivial ?_
      refine aq_show (m := (memOf w0 Z0 [] [(oRow v2 3 (tyInt .i64) (l5x7.set ((IntKind.i64.wrap (En.bAt l5s0 (0 : Int)))).toNat (IntKind.i64.wrap (En.bAt l5s0 (1 : Int)))))] [])) (S := (tab [(0, (str (l5s0.drop ((2 : Int)).toNat))), (7, v2), (8, (int .i64 (IntKind.i64.wrap (En.bAt l5s0 (0 : Int))))), (12, (int .i64 a1)), (13, (int .i64 l5i13))])) ?_
      refine aq_block ?_
      refine aq_then ?_
      refine aw_region ?_
      refine al_in rfl rfl rfl rfl ?_
      refine al_mv rfl rfl ?_
      refine al_nil ?_
      exact aq_again k6 ((l5s0.drop ((2 : Int)).toNat), (l5x7.set ((IntKind.i64.wrap (En.bAt l5s0 (0 : Int)))).toNat (IntKind.i64.wrap (En.bAt l5s0 (1 : Int)))), (IntKind.i64.wrap (En.bAt l5s0 (0 : Int))), (IntKind.i64.wrap (l5i13 + (1 : Int)))) (Nat.lt_succ_self _) h (fun w a hm hs => norm hm hs [0] [] [(0, (str (l5s0.drop ((2 : Int)).toNat))), (7, v2), (8, (int .i64 (IntKind.i64.wrap (En.bAt l5s0 (0 : Int))))), (12, (int .i64 a1)), (13, (int .i64 (IntKind.i64.wrap (l5i13 + (1 : Int)))))] (by decide) ⟨rfl, rfl, rfl, rfl, rfl, trivial⟩)
    ·clear hkk13
     refine aw_region ?_
     refine al_mv rfl rfl ?_
     refine al_mv rfl rfl ?_
     refine al_in rfl rfl rfl rfl ?_
     refine al_mv rfl rfl ?_
     refine al_caseB 27 rfl (fun hb20 => ?_) (fun hb20 => ?_)
     ·replace h := bif_t hb20 h
      refine al_skip ?_
      refine al_skip ?_
      refine al_val (ov_pick_t rfl rfl rfl) ?_
      refine al_mv rfl rfl ?_
      refine al_skip ?_
      refine al_skip ?_
      refine al_val (ov_pick_t rfl rfl rfl) ?_
      refine al_nil ?_
      exact aq_join true h (fun w a hm hs => norm hm hs [0] [] [(0, (str l5s0)), (7, v2), (9, (int .i64 (IntKind.i64.wrap (En.bAt l5s0 (0 : Int))))), (10, (int .i64 (IntKind.i64.wrap (En.bAt l5s0 (1 : Int))))), (12, (int .i64 a1)), (13, (int .i64 l5i13)), (34, (bool true))] (by decide) ⟨rfl, rfl, rfl, rfl, rfl, rfl, rfl, trivial⟩)
     ·replace h := bif_f hb20 h
      refine al_mv rfl rfl ?_
      refine al_in rfl rfl rfl rfl ?_
      refine al_val (ov_pick_f rfl rfl rfl) ?_
      refine al_mv rfl rfl ?_
      refine al_caseB 31 rfl (fun hb21 => ?_) (fun hb21 => ?_)
      ·replace h := bif_t hb21 h
       refine al_skip ?_
       refine al_skip ?_
       refine al_val (ov_pick_t rfl rfl rfl) ?_
       refine al_nil ?_
       exact aq_join true h (fun w a hm hs => norm hm hs [0] [] [(0, (str l5s0)), (7, v2), (9, (int .i64 (IntKind.i64.wrap (En.bAt l5s0 (0 : Int))))), (10, (int .i64 (IntKind.i64.wrap (En.bAt l5s0 (1 : Int))))), (12, (int .i64 a1)), (13, (int .i64 l5i13)), (34, (bool true))] (by decide) ⟨rfl, rfl, rfl, rfl, rfl, rfl, rfl, trivial⟩)
      ·replace h := bif_f hb21 h
       refine al_mv rfl rfl ?_
       refine al_in rfl rfl rfl rfl ?_
       refine al_val (ov_pick_f rfl rfl rfl) ?_
       refine al_nil ?_
       exact aq_join (decide ((IntKind.i64.wrap (En.bAt l5s0 (1 : Int))) > (48 : Int))) h (fun w a hm hs => norm hm hs [0] [] [(0, (str l5s0)), (7, v2), (9, (int .i64 (IntKind.i64.wrap (En.bAt l5s0 (0 : Int))))), (10, (int .i64 (IntKind.i64.wrap (En.bAt l5s0 (1 : Int))))), (12, (int .i64 a1)), (13, (int .i64 l5i13)), (34, (bool (decide ((IntKind.i64.wrap (En.bAt l5s0 (1 : Int))) > (48 : Int)))))] (by decide) ⟨rfl, rfl, rfl, rfl, rfl, rfl, rfl, trivial⟩)
  ·replace h := bif_f hb8 h
   refine aw_exit ?_
   refine aq_then_exit ?_
   refine aq_then_exit ?_
   refine aq_block_exit ?_
   exact aq_join (l5s0, l5x7) h (fun w a hm hs => norm hm hs [0] [] [(0, (str l5s0)), (7, v2)] (by decide) ⟨rfl, rfl, trivial⟩)
-- STUCK slices.IndexFunc[[]int,int]: lty ['func', [3], [4], False]
-- STUCK slices.ContainsFunc[[]int,int]: lty ['func', [3], [4], False]
def f_huff_Kraft_1 (fu : Nat) (a0 : Int) : Option Bool := (lt (fun (j1b2 : Bool) => (some j1b2)) fun (kk2 : Bool → Option Bool) => (bif (decide (a0 < (0 : Int))) then (kk2 true) else (kk2 (decide (a0 > (48 : Int))))))
set_option maxRecDepth 100000 in
theorem f_huff_Kraft_1_ok (fu : Nat) (a0 : Int) {r : Bool} (h : f_huff_Kraft_1 fu a0 = some r) : FnOk Try.prog 194 [(int .i64 a0)] [] [] (fun (i : Unit) => { val := (bool r) }) := by
 unfold f_huff_Kraft_1 at h
 refine fn_enter Try.func194 rfl Try.ntmps194 rfl (fun w0 Z0 => ?_)
 refine aw_sr ?_
 refine al_as rfl rfl ?_
 refine al_nt ?_
 obtain ⟨kk2, hkk2, h⟩ := lt_some h
 refine aw_seq_join (ι := Bool) (fun i => (memOf w0 Z0 [] [] [])) (fun i => (tab [(2, (bool i))])) (fun i => kk2 i = some r) ?_ ?_
 ·rintro j1b2 h
  have h : kk2 j1b2 = some r := h
  rw [hkk2] at h
  dsimp only at h
  clear hkk2
  refine aw_show (m := (memOf w0 Z0 [] [] [])) (S := (tab [(2, (bool j1b2))])) ?_
  refine aw_ret ?_
  obtain rfl := Option.some.inj h
  exact fn_ret () [] [] rfl rfl rfl rfl (res1 rfl rfl) rfl rfl rfl (by decide)
 ·clear hkk2
  refine aw_region ?_
  refine al_mv rfl rfl ?_
  refine al_in rfl rfl rfl rfl ?_
  refine al_mv rfl rfl ?_
  refine al_caseB 5 rfl (fun hb3 => ?_) (fun hb3 => ?_)
  ·replace h := bif_t hb3 h
   refine al_skip ?_
   refine al_skip ?_
   refine al_val (ov_pick_t rfl rfl rfl) ?_
   refine al_as rfl rfl ?_
   refine al_nil ?_
   exact aq_join true h (fun w a hm hs => norm hm hs [] [] [(2, (bool true))] (by decide) ⟨rfl, trivial⟩)
  ·replace h := bif_f hb3 h
   refine al_mv rfl rfl ?_
   refine al_in rfl rfl rfl rfl ?_
   refine al_val (ov_pick_f rfl rfl rfl) ?_
   refine al_as rfl rfl ?_
   refine al_nil ?_
   exact aq_join (decide (a0 > (48 : Int))) h (fun w a hm hs => norm hm hs [] [] [(2, (bool (decide (a0 > (48 : Int)))))] (by decide) ⟨rfl, trivial⟩)
def f_slices_IndexFunc___int_int__F194_L5 (a0 : (List Int)) (kk2 : (Unit → Option Int)) (fu : Nat) : Nat → Int → Option Int
  | 0, _ => none
  | k4 + 1, l3i8 => (bif (decide (l3i8 < (a0.length : Int))) then (opt (at? a0 l3i8) fun (u7 : Int) => (opt (f_huff_Kraft_1 fu u7) fun (r11 : Bool) => (bif r11 then (some l3i8) else (f_slices_IndexFunc___int_int__F194_L5 a0 kk2 fu k4 (IntKind.i64.wrap (l3i8 + (1 : Int))))))) else (kk2 ()))
def f_slices_IndexFunc___int_int__F194 (fu : Nat) (a0 : (List Int)) : Option Int := (lt (fun (_ : Unit) => (some (-1 : Int))) fun (kk2 : Unit → Option Int) => (f_slices_IndexFunc___int_int__F194_L5 a0 kk2 fu fu (0 : Int)))
set_option maxRecDepth 100000 in
theorem f_slices_IndexFunc___int_int__F194_ok (fu : Nat) (v0_0 : Value) (a0 : (List Int)) {r : Int} (h : f_slices_IndexFunc___int_int__F194 fu a0 = some r) : FnOk Try.prog 114 [v0_0, (Value.func (.func 194) #[] #[])] [(fDat (tyList (tyInt .i64)) [v0_0] a0)] [] (fun (i : Unit) => { val := (int .i64 r) }) := by
 unfold f_slices_IndexFunc___int_int__F194 at h
 refine fn_enter Try.func114 rfl Try.ntmps114 rfl (fun w0 Z0 => ?_)
 refine aw_sr ?_
 refine al_as rfl rfl ?_
 refine al_nt ?_
 obtain ⟨kk2, hkk2, h⟩ := lt_some h
 refine aw_seq_join (ι := Unit) (fun i => (memOf w0 Z0 [] [] [(fDat (tyList (tyInt .i64)) [v0_0] a0)])) (fun i => (tab [])) (fun i => kk2 () = some r) ?_ ?_
 ·rintro _ h
  have h : kk2 () = some r := h
  rw [hkk2] at h
  dsimp only at h
  clear hkk2
  refine aw_show (m := (memOf w0 Z0 [] [] [(fDat (tyList (tyInt .i64)) [v0_0] a0)])) (S := (tab [])) ?_
  refine aw_sr ?_
  refine al_as rfl rfl ?_
  refine al_nt ?_
  refine aw_ret ?_
  obtain rfl := Option.some.inj h
  exact fn_ret () [] [] rfl rfl rfl rfl (res1 rfl rfl) rfl rfl rfl (by decide)
 ·clear hkk2
  refine aw_sr ?_
  refine al_mv rfl rfl ?_
  refine al_val (ov_lenD 0 rfl rfl Try.underlying34 rfl) ?_
  refine al_mv rfl rfl ?_
  refine al_nt ?_
  refine aw_block ?_
  refine aw_state (aw_loop (ι := Int) (fun i => (memOf w0 Z0 [] [] [(fDat (tyList (tyInt .i64)) [v0_0] a0)])) (fun i => (tab [(0, v0_0), (1, (Value.func (.func 194) #[] #[])), (7, (int .i64 (a0.length : Int))), (8, (int .i64 i))])) (fun q i => f_slices_IndexFunc___int_int__F194_L5 a0 kk2 fu q i = some r) ?_ fu (0 : Int) h) (fun w a hm hs => norm hm hs [] [0] [(0, v0_0), (1, (Value.func (.func 194) #[] #[])), (7, (int .i64 (a0.length : Int))), (8, (int .i64 (0 : Int)))] (by decide) ⟨rfl, rfl, rfl, rfl, trivial⟩)
  clear h
  rintro k4 l3i8 h
  have h : f_slices_IndexFunc___int_int__F194_L5 a0 kk2 fu k4 l3i8 = some r := h
  obtain _ | k4 := k4
  · rw [f_slices_IndexFunc___int_int__F194_L5] at h; cases h
  rw [f_slices_IndexFunc___int_int__F194_L5] at h
  refine aw_show (m := (memOf w0 Z0 [] [] [(fDat (tyList (tyInt .i64)) [v0_0] a0)])) (S := (tab [(0, v0_0), (1, (Value.func (.func 194) #[] #[])), (7, (int .i64 (a0.length : Int))), (8, (int .i64 l3i8))])) ?_
  refine aw_sr ?_
  refine al_in rfl rfl rfl rfl ?_
  refine al_nt ?_
  refine aw_seq ?_
  refine aw_cond rfl (fun hb6 => ?_) (fun hb6 => ?_)
  ·replace h := bif_t hb6 h
   refine aw_skip ?_
   refine aq_then ?_
   refine aw_seq ?_
   refine aw_block ?_
   refine aw_sr ?_
   refine al_mv rfl rfl ?_
   refine al_as rfl rfl ?_
   refine al_nt ?_
   refine aw_sr ?_
   refine al_mv rfl rfl ?_
   refine al_mv rfl rfl ?_
   refine al_mv rfl rfl ?_
   obtain ⟨u7, hu8, h⟩ := opt_some h
   refine al_idxD 0 hu8 rfl rfl rfl Try.underlying34 sz3 rfl (fun p9 => ?_)
   refine al_val (ov_loadP (ds := [(int .i64 u7)]) 0 rfl (fun h => h) rfl Try.underlying3 sz3 rfl rfl rfl) ?_
   obtain ⟨r11, hc10, h⟩ := opt_some h
   refine al_callF (vs := [(int .i64 u7)]) (caps := []) (f_huff_Kraft_1_ok fu u7 hc10) rfl [] [] [] pre_nil rfl (by simp) (by decide) (.inl rfl) rfl rfl Try.func194 rfl rfl rfl (fun _ => ?_)
   refine al_nt ?_
   refine aw_cond rfl (fun hb12 => ?_) (fun hb12 => ?_)
   ·replace h := bif_t hb12 h
    refine aw_sr ?_
    refine al_mv rfl rfl ?_
    refine al_as rfl rfl ?_
    refine al_nt ?_
    refine aw_ret ?_
    refine aq_block_ret ?_
    refine aq_then_ret ?_
    refine aq_then_ret ?_
    refine aq_block_ret ?_
    refine aq_then_ret ?_
    obtain rfl := Option.some.inj h
    exact fn_ret () [] [] rfl rfl rfl rfl (res1 rfl rfl) rfl rfl rfl (by decide)
   ·replace h := bif_f hb12 h
    refine aw_skip ?_
    refine aq_block ?_
    refine aq_then ?_
    refine aw_region ?_
    refine al_in rfl rfl rfl rfl ?_
    refine al_mv rfl rfl ?_
    refine al_nil ?_
    exact aq_again k4 (IntKind.i64.wrap (l3i8 + (1 : Int))) (Nat.lt_succ_self _) h (fun w a hm hs => norm hm hs [] [1] [(0, v0_0), (1, (Value.func (.func 194) #[] #[])), (7, (int .i64 (a0.length : Int))), (8, (int .i64 (IntKind.i64.wrap (l3i8 + (1 : Int)))))] (by decide) ⟨rfl, rfl, rfl, rfl, trivial⟩)
  ·replace h := bif_f hb6 h
   refine aw_exit ?_
   refine aq_then_exit ?_
   refine aq_then_exit ?_
   refine aq_block_exit ?_
   exact aq_join () h (fun w a hm hs => norm hm hs [] [0] [] (by decide) trivial)
def f_slices_ContainsFunc___int_int__F194 (fu : Nat) (a0 : (List Int)) : Option Bool := (opt (f_slices_IndexFunc___int_int__F194 fu a0) fun (r2 : Int) => (some (decide (r2 ≥ (0 : Int)))))
set_option maxRecDepth 100000 in
theorem f_slices_ContainsFunc___int_int__F194_ok (fu : Nat) (v0_0 : Value) (a0 : (List Int)) {r : Bool} (h : f_slices_ContainsFunc___int_int__F194 fu a0 = some r) : FnOk Try.prog 52 [v0_0, (Value.func (.func 194) #[] #[])] [(fDat (tyList (tyInt .i64)) [v0_0] a0)] [] (fun (i : Unit) => { val := (bool r) }) := by
 unfold f_slices_ContainsFunc___int_int__F194 at h
 refine fn_enter Try.func52 rfl Try.ntmps52 rfl (fun w0 Z0 => ?_)
 refine aw_sr ?_
 refine al_as rfl rfl ?_
 refine al_nt ?_
 refine aw_sr ?_
 refine al_mv rfl rfl ?_
 refine al_mv rfl rfl ?_
 obtain ⟨r2, hc1, h⟩ := opt_some h
 refine al_call (vs := [v0_0, (Value.func (.func 194) #[] #[])]) (f_slices_IndexFunc___int_int__F194_ok fu v0_0 a0 hc1) [] [] [] (pre_fz 0 rfl pre_nil) rfl (by simp) (by decide) (.inl rfl) rfl Try.func114 rfl rfl rfl (fun _ => ?_)
 refine al_in rfl rfl rfl rfl ?_
 refine al_as rfl rfl ?_
 refine al_nt ?_
 refine aw_ret ?_
 obtain rfl := Option.some.inj h
 exact fn_ret () [] [] rfl rfl rfl rfl (res1 rfl rfl) rfl rfl rfl (by decide)
def f_huff_Kraft_L8 (a0 : (List Int)) (kk5 : (Int → Option (Int × Int))) : Nat → Int → Int → Option (Int × Int)
  | 0, _, _ => none
  | k7 + 1, l6i4, l6i21 => (bif (decide (l6i21 < (a0.length : Int))) then (lt (fun (j10i4 : Int) => (f_huff_Kraft_L8 a0 kk5 k7 j10i4 (IntKind.i64.wrap (l6i21 + (1 : Int))))) fun (kk11 : Int → Option (Int × Int)) => (opt (at? a0 l6i21) fun (u12 : Int) => (bif (decide (u12 > (0 : Int))) then (req (0 ≤ (IntKind.i64.wrap ((48 : Int) - u12))) (kk11 (IntKind.i64.wrap (l6i4 + (IntKind.i64.wrap ((1 : Int) * 2 ^ min ((IntKind.i64.wrap ((48 : Int) - u12))).toNat (IntKind.bits .i64))))))) else (kk11 l6i4)))) else (kk5 l6i4))
def f_huff_Kraft (fu : Nat) (a0 : (List Int)) : Option (Int × Int) := (lt (fun (j1b18 : Bool) => (bif j1b18 then (some ((0 : Int), (1 : Int))) else (lt (fun (j4i4 : Int) => (some (j4i4, (0 : Int)))) fun (kk5 : Int → Option (Int × Int)) => (f_huff_Kraft_L8 a0 kk5 fu (0 : Int) (0 : Int))))) fun (kk2 : Bool → Option (Int × Int)) => (bif (decide ((a0.length : Int) < (1 : Int))) then (kk2 true) else (bif (decide ((a0.length : Int) > (256 : Int))) then (kk2 true) else (opt (f_slices_ContainsFunc___int_int__F194 fu a0) fun (r20 : Bool) => (kk2 r20)))))
set_option maxRecDepth 100000 in
theorem f_huff_Kraft_ok (fu : Nat) (v0_0 : Value) (a0 : (List Int)) {r : (Int × Int)} (h : f_huff_Kraft fu a0 = some r) : FnOk Try.prog 164 [v0_0] [(fDat (tyList (tyInt .i64)) [v0_0] a0)] [] (fun (i : Unit) => { val := (Value.tuple #[(int .i64 r.1), (int .i64 r.2)]) }) := by
 unfold f_huff_Kraft at h
 refine fn_enter Try.func164 rfl Try.ntmps164 rfl (fun w0 Z0 => ?_)
 refine aw_sr ?_
 refine al_as rfl rfl ?_
 refine al_as rfl rfl ?_
 refine al_nt ?_
 refine aw_seq ?_
 obtain ⟨kk2, hkk2, h⟩ := lt_some h
 refine aw_seq_join (ι := Bool) (fun i => (memOf w0 Z0 [] [] [(fDat (tyList (tyInt .i64)) [v0_0] a0)])) (fun i => (tab [(0, v0_0), (18, (bool i))])) (fun i => kk2 i = some r) ?_ ?_
 ·rintro j1b18 h
  have h : kk2 j1b18 = some r := h
  rw [hkk2] at h
  dsimp only at h
  clear hkk2
  refine aw_show (m := (memOf w0 Z0 [] [] [(fDat (tyList (tyInt .i64)) [v0_0] a0)])) (S := (tab [(0, v0_0), (18, (bool j1b18))])) ?_
  refine aw_cond rfl (fun hb3 => ?_) (fun hb3 => ?_)
  ·replace h := bif_t hb3 h
   refine aw_sr ?_
   refine al_as rfl rfl ?_
   refine al_as rfl rfl ?_
   refine al_nt ?_
   refine aw_ret ?_
   refine aq_then_ret ?_
   obtain rfl := Option.some.inj h
   exact fn_ret () [] [] rfl rfl rfl rfl (res2 rfl rfl rfl) rfl rfl rfl (by decide)
  ·replace h := bif_f hb3 h
   refine aw_skip ?_
   refine aq_tr ?_
   refine al_as rfl rfl ?_
   refine al_nt ?_
   obtain ⟨kk5, hkk5, h⟩ := lt_some h
   refine aw_seq_join (ι := Int) (fun i => (memOf w0 Z0 [] [] [(fDat (tyList (tyInt .i64)) [v0_0] a0)])) (fun i => (tab [(4, (int .i64 i))])) (fun i => kk5 i = some r) ?_ ?_
   ·rintro j4i4 h
    have h : kk5 j4i4 = some r := h
    rw [hkk5] at h
    dsimp only at h
    clear hkk5
    refine aw_show (m := (memOf w0 Z0 [] [] [(fDat (tyList (tyInt .i64)) [v0_0] a0)])) (S := (tab [(4, (int .i64 j4i4))])) ?_
    refine aw_sr ?_
    refine al_mv rfl rfl ?_
    refine al_as rfl rfl ?_
    refine al_as rfl rfl ?_
    refine al_nt ?_
    refine aw_ret ?_
    obtain rfl := Option.some.inj h
    exact fn_ret () [] [] rfl rfl rfl rfl (res2 rfl rfl rfl) rfl rfl rfl (by decide)
   ·clear hkk5
    refine aw_sr ?_
    refine al_mv rfl rfl ?_
    refine al_val (ov_lenD 0 rfl rfl Try.underlying34 rfl) ?_
    refine al_mv rfl rfl ?_
    refine al_nt ?_
    refine aw_block ?_
    refine aw_state (aw_loop (ι := Int × Int) (fun i => (memOf w0 Z0 [] [] [(fDat (tyList (tyInt .i64)) [v0_0] a0)])) (fun i => (tab [(4, (int .i64 i.1)), (19, v0_0), (20, (int .i64 (a0.length : Int))), (21, (int .i64 i.2))])) (fun q i => f_huff_Kraft_L8 a0 kk5 q i.1 i.2 = some r) ?_ fu ((0 : Int), (0 : Int)) h) (fun w a hm hs => norm hm hs [] [0] [(4, (int .i64 (0 : Int))), (19, v0_0), (20, (int .i64 (a0.length : Int))), (21, (int .i64 (0 : Int)))] (by decide) ⟨rfl, rfl, rfl, rfl, trivial⟩)
    clear h
    rintro k7 ⟨l6i4, l6i21⟩ h
    have h : f_huff_Kraft_L8 a0 kk5 k7 l6i4 l6i21 = some r := h
    obtain _ | k7 := k7
    · rw [f_huff_Kraft_L8] at h; cases h
    rw [f_huff_Kraft_L8] at h
    refine aw_show (m := (memOf w0 Z0 [] [] [(fDat (tyList (tyInt .i64)) [v0_0] a0)])) (S := (tab [(4, (int .i64 l6i4)), (19, v0_0), (20, (int .i64 (a0.length : Int))), (21, (int .i64 l6i21))])) ?_
    refine aw_sr ?_
    refine al_in rfl rfl rfl rfl ?_
    refine al_nt ?_
    refine aw_seq ?_
    refine aw_cond rfl (fun hb9 => ?_) (fun hb9 => ?_)
    ·replace h := bif_t hb9 h
     refine aw_skip ?_
     refine aq_then ?_
     obtain ⟨kk11, hkk11, h⟩ := lt_some h
     refine aw_seq_join (ι := Int) (fun i => (memOf w0 Z0 [] [] [(fDat (tyList (tyInt .i64)) [v0_0] a0)])) (fun i => (tab [(4, (int .i64 i)), (19, v0_0), (20, (int .i64 (a0.length : Int))), (21, (int .i64 l6i21))])) (fun i => kk11 i = some r) ?_ ?_
     ·rintro j10i4 h
      have h : kk11 j10i4 = some r := h
      rw [hkk11] at h
      dsimp only at h
      clear hkk11
      refine aw_show (m := (memOf w0 Z0 [] [] [(fDat (tyList (tyInt .i64)) [v0_0] a0)])) (S := (tab [(4, (int .i64 j10i4)), (19, v0_0), (20, (int .i64 (a0.length : Int))), (21, (int .i64 l6i21))])) ?_
      refine aw_region ?_
      refine al_in rfl rfl rfl rfl ?_
      refine al_mv rfl rfl ?_
      refine al_nil ?_
      exact aq_again k7 (j10i4, (IntKind.i64.wrap (l6i21 + (1 : Int)))) (Nat.lt_succ_self _) h (fun w a hm hs => norm hm hs [] [0] [(4, (int .i64 j10i4)), (19, v0_0), (20, (int .i64 (a0.length : Int))), (21, (int .i64 (IntKind.i64.wrap (l6i21 + (1 : Int)))))] (by decide) ⟨rfl, rfl, rfl, rfl, trivial⟩)
     ·clear hkk11
      refine aw_block ?_
      refine aw_sr ?_
      obtain ⟨u12, hu13, h⟩ := opt_some h
      refine al_idxD 0 hu13 rfl rfl rfl Try.underlying34 sz3 rfl (fun p14 => ?_)
      refine al_val (ov_loadP (ds := [(int .i64 u12)]) 0 rfl (fun h => h) rfl Try.underlying3 sz3 rfl rfl rfl) ?_
      refine al_as rfl rfl ?_
      refine al_nt ?_
      refine aw_sr ?_
      refine al_mv rfl rfl ?_
      refine al_in rfl rfl rfl rfl ?_
      refine al_nt ?_
      refine aw_cond rfl (fun hb15 => ?_) (fun hb15 => ?_)
      ·replace h := bif_t hb15 h
       refine aw_region ?_
       refine al_mv rfl rfl ?_
       refine al_mv rfl rfl ?_
       refine al_in rfl rfl rfl rfl ?_
       obtain ⟨hc16, h⟩ := req_some h
       refine al_val (ov_shl hc16 rfl rfl rfl) ?_
       refine al_in rfl rfl rfl rfl ?_
       refine al_as rfl rfl ?_
       refine al_nil ?_
       refine aq_block ?_
       exact aq_join (IntKind.i64.wrap (l6i4 + (IntKind.i64.wrap ((1 : Int) * 2 ^ min ((IntKind.i64.wrap ((48 : Int) - u12))).toNat (IntKind.bits .i64))))) h (fun w a hm hs => norm hm hs [] [1] [(4, (int .i64 (IntKind.i64.wrap (l6i4 + (IntKind.i64.wrap ((1 : Int) * 2 ^ min ((IntKind.i64.wrap ((48 : Int) - u12))).toNat (IntKind.bits .i64))))))), (19, v0_0), (20, (int .i64 (a0.length : Int))), (21, (int .i64 l6i21))] (by decide) ⟨rfl, rfl, rfl, rfl, trivial⟩)
      ·replace h := bif_f hb15 h
       refine aw_skip ?_
       refine aq_block ?_
       exact aq_join l6i4 h (fun w a hm hs => norm hm hs [] [1] [(4, (int .i64 l6i4)), (19, v0_0), (20, (int .i64 (a0.length : Int))), (21, (int .i64 l6i21))] (by decide) ⟨rfl, rfl, rfl, rfl, trivial⟩)
    ·replace h := bif_f hb9 h
     refine aw_exit ?_
     refine aq_then_exit ?_
     refine aq_then_exit ?_
     refine aq_block_exit ?_
     exact aq_join l6i4 h (fun w a hm hs => norm hm hs [] [0] [(4, (int .i64 l6i4))] (by decide) ⟨rfl, trivial⟩)
 ·clear hkk2
  refine aw_region ?_
  refine al_mv rfl rfl ?_
  refine al_val (ov_lenD 0 rfl rfl Try.underlying34 rfl) ?_
  refine al_in rfl rfl rfl rfl ?_
  refine al_mv rfl rfl ?_
  refine al_caseB 10 rfl (fun hb17 => ?_) (fun hb17 => ?_)
  ·replace h := bif_t hb17 h
   refine al_skip ?_
   refine al_skip ?_
   refine al_skip ?_
   refine al_val (ov_pick_t rfl rfl rfl) ?_
   refine al_mv rfl rfl ?_
   refine al_skip ?_
   refine al_skip ?_
   refine al_val (ov_pick_t rfl rfl rfl) ?_
   refine al_nil ?_
   exact aq_join true h (fun w a hm hs => norm hm hs [] [0] [(0, v0_0), (18, (bool true))] (by decide) ⟨rfl, rfl, trivial⟩)
  ·replace h := bif_f hb17 h
   refine al_mv rfl rfl ?_
   refine al_val (ov_lenD 0 rfl rfl Try.underlying34 rfl) ?_
   refine al_in rfl rfl rfl rfl ?_
   refine al_val (ov_pick_f rfl rfl rfl) ?_
   refine al_mv rfl rfl ?_
   refine al_caseB 15 rfl (fun hb18 => ?_) (fun hb18 => ?_)
   ·replace h := bif_t hb18 h
    refine al_skip ?_
    refine al_skip ?_
    refine al_val (ov_pick_t rfl rfl rfl) ?_
    refine al_nil ?_
    exact aq_join true h (fun w a hm hs => norm hm hs [] [0] [(0, v0_0), (18, (bool true))] (by decide) ⟨rfl, rfl, trivial⟩)
   ·replace h := bif_f hb18 h
    refine al_mv rfl rfl ?_
    obtain ⟨r20, hc19, h⟩ := opt_some h
    refine al_call (vs := [v0_0, (Value.func (.func 194) #[] #[])]) (f_slices_ContainsFunc___int_int__F194_ok fu v0_0 a0 hc19) [] [] [] (pre_fz 0 rfl pre_nil) rfl (by simp) (by decide) (.inl rfl) rfl Try.func52 rfl rfl rfl (fun _ => ?_)
    refine al_val (ov_pick_f rfl rfl rfl) ?_
    refine al_nil ?_
    exact aq_join r20 h (fun w a hm hs => norm hm hs [] [0] [(0, v0_0), (18, (bool r20))] (by decide) ⟨rfl, rfl, trivial⟩)
def f_huff_Codes_L18 (a0 : (List Int)) (l9i9 : Int) (kk15 : ((List Int) → Int → Int → Option ((List Int) × Int))) : Nat → (List Int) → Int → Int → Int → Option ((List Int) × Int)
  | 0, _, _, _, _ => none
  | k17 + 1, l16x6, l16i7, l16i8, l16i31 => (bif (decide (l16i31 < (a0.length : Int))) then (lt (fun (j20x6 : (List Int)) (j20i7 : Int) (j20i8 : Int) => (f_huff_Codes_L18 a0 l9i9 kk15 k17 j20x6 j20i7 j20i8 (IntKind.i64.wrap (l16i31 + (1 : Int))))) fun (kk21 : (List Int) → Int → Int → Option ((List Int) × Int)) => (opt (at? a0 l16i31) fun (u22 : Int) => (bif (u22 == l9i9) then (req (0 ≤ (IntKind.i64.wrap (l9i9 - l16i8))) (opt (at? l16x6 l16i31) fun (u27 : Int) => (kk21 (l16x6.set (l16i31).toNat (IntKind.i64.wrap (l16i7 * 2 ^ min ((IntKind.i64.wrap (l9i9 - l16i8))).toNat (IntKind.bits .i64)))) (IntKind.i64.wrap ((IntKind.i64.wrap (l16i7 * 2 ^ min ((IntKind.i64.wrap (l9i9 - l16i8))).toNat (IntKind.bits .i64))) + (1 : Int))) l9i9))) else (kk21 l16x6 l16i7 l16i8)))) else (kk15 l16x6 l16i7 l16i8))
def f_huff_Codes_L11 (a0 : (List Int)) (kk8 : ((List Int) → Option ((List Int) × Int))) (fu : Nat) : Nat → (List Int) → Int → Int → Int → Option ((List Int) × Int)
  | 0, _, _, _, _ => none
  | k10 + 1, l9x6, l9i7, l9i8, l9i9 => (lt (fun (l9x6 : (List Int)) (l9i7 : Int) (l9i8 : Int) (l9i9 : Int) => (f_huff_Codes_L11 a0 kk8 fu k10 l9x6 l9i7 l9i8 l9i9)) fun (kk12 : (List Int) → Int → Int → Int → Option ((List Int) × Int)) => (bif (decide (l9i9 ≤ (48 : Int))) then (lt (fun (j14x6 : (List Int)) (j14i7 : Int) (j14i8 : Int) => (kk12 j14x6 j14i7 j14i8 (IntKind.i64.wrap (l9i9 + (1 : Int))))) fun (kk15 : (List Int) → Int → Int → Option ((List Int) × Int)) => (f_huff_Codes_L18 a0 l9i9 kk15 fu l9x6 l9i7 l9i8 (0 : Int))) else (kk8 l9x6)))
def f_huff_Codes (fu : Nat) (a0 : (List Int)) : Option ((List Int) × Int) := (opt (f_huff_Kraft fu a0) fun (r2 : (Int × Int)) => (bif (r2.2 != (0 : Int)) then (some (([] : List Int), r2.2)) else (bif (decide (r2.1 > (281474976710656 : Int))) then (some (([] : List Int), (4 : Int))) else (req (0 ≤ (a0.length : Int) ∧ 8 * (a0.length : Int) ≤ 281474976710656 ∧ (a0.length : Int) ≤ 9223372036854775807) (lt (fun (j7x6 : (List Int)) => (some (j7x6, (0 : Int)))) fun (kk8 : (List Int) → Option ((List Int) × Int)) => (f_huff_Codes_L11 a0 kk8 fu fu (List.replicate ((a0.length : Int)).toNat 0) (0 : Int) (0 : Int) (1 : Int)))))))
set_option maxRecDepth 100000 in
set_option maxHeartbeats 2000000 in
theorem f_huff_Codes_ok (fu : Nat) (v0_0 : Value) (a0 : (List Int)) {r : ((List Int) × Int)} (h : f_huff_Codes fu a0 = some r) : FnOk Try.prog 122 [v0_0] [(fDat (tyList (tyInt .i64)) [v0_0] a0)] [] (fun (i : Value) => { val := (Value.tuple #[i, (int .i64 r.2)]), own := [(oRow i 3 (tyInt .i64) r.1)] }) := by
 unfold f_huff_Codes at h
 refine fn_enter Try.func122 rfl Try.ntmps122 rfl (fun w0 Z0 => ?_)
 refine aw_sr ?_
 refine al_as rfl rfl ?_
 refine al_as rfl rfl ?_
 refine al_nt ?_
 refine aw_sr ?_
 refine al_mv rfl rfl ?_
 obtain ⟨r2, hc1, h⟩ := opt_some h
 refine al_call (vs := [v0_0]) (f_huff_Kraft_ok fu v0_0 a0 hc1) [] [] [] (pre_fz 0 rfl pre_nil) rfl (by simp) (by decide) (.inl rfl) rfl Try.func164 rfl rfl rfl (fun _ => ?_)
 refine al_mv rfl rfl ?_
 refine al_ex rfl rfl rfl ?_
 refine al_ex rfl rfl rfl ?_
 refine al_as rfl rfl ?_
 refine al_as rfl rfl ?_
 refine al_nt ?_
 refine aw_seq ?_
 refine aw_sr ?_
 refine al_mv rfl rfl ?_
 refine al_in rfl rfl rfl rfl ?_
 refine al_nt ?_
 refine aw_cond rfl (fun hb3 => ?_) (fun hb3 => ?_)
 ·replace h := bif_t hb3 h
  refine aw_sr ?_
  refine al_mv rfl rfl ?_
  refine al_as rfl rfl ?_
  refine al_as rfl rfl ?_
  refine al_nt ?_
  refine aw_ret ?_
  refine aq_then_ret ?_
  refine aq_nilR 3 (tyInt .i64) ?_
  obtain rfl := Option.some.inj h
  exact fn_ret (Value.slice none 0 0) [0] [] rfl rfl rfl rfl (res2 rfl rfl rfl) rfl rfl rfl (by decide)
 ·replace h := bif_f hb3 h
  refine aw_skip ?_
  refine aq_then ?_
  refine aw_seq ?_
  refine aw_sr ?_
  refine al_mv rfl rfl ?_
  refine al_in rfl rfl rfl rfl ?_
  refine al_nt ?_
  refine aw_cond rfl (fun hb4 => ?_) (fun hb4 => ?_)
  ·replace h := bif_t hb4 h
   refine aw_sr ?_
   refine al_as rfl rfl ?_
   refine al_as rfl rfl ?_
   refine al_nt ?_
   refine aw_ret ?_
   refine aq_then_ret ?_
   refine aq_nilR 3 (tyInt .i64) ?_
   obtain rfl := Option.some.inj h
   exact fn_ret (Value.slice none 0 0) [0] [] rfl rfl rfl rfl (res2 rfl rfl rfl) rfl rfl rfl (by decide)
  ·replace h := bif_f hb4 h
   refine aw_skip ?_
   refine aq_tr ?_
   refine al_mv rfl rfl ?_
   refine al_val (ov_lenD 0 rfl rfl Try.underlying34 rfl) ?_
   obtain ⟨hc5, h⟩ := req_some h
   refine al_make (τ := (tyInt .i64)) (x0 := 0) hc5.1 hc5.2.1 hc5.2.2 rfl rfl Try.underlying34 to3 (fun _ _ => rfl) rfl rfl (fun v6 => ?_)
   refine al_as rfl rfl ?_
   refine al_nt ?_
   refine aw_sr ?_
   refine al_as rfl rfl ?_
   refine al_as rfl rfl ?_
   refine al_nt ?_
   obtain ⟨kk8, hkk8, h⟩ := lt_some h
   refine aw_seq_join (ι := (List Int)) (fun i => (memOf w0 Z0 [] [(oRow v6 3 (tyInt .i64) i)] [(fDat (tyList (tyInt .i64)) [v0_0] a0)])) (fun i => (tab [(6, v6)])) (fun i => kk8 i = some r) ?_ ?_
   ·rintro j7x6 h
    have h : kk8 j7x6 = some r := h
    rw [hkk8] at h
    dsimp only at h
    clear hkk8
    refine aw_show (m := (memOf w0 Z0 [] [(oRow v6 3 (tyInt .i64) j7x6)] [(fDat (tyList (tyInt .i64)) [v0_0] a0)])) (S := (tab [(6, v6)])) ?_
    refine aw_sr ?_
    refine al_mv rfl rfl ?_
    refine al_as rfl rfl ?_
    refine al_as rfl rfl ?_
    refine al_nt ?_
    refine aw_ret ?_
    obtain rfl := Option.some.inj h
    exact fn_ret v6 [0] [] rfl rfl rfl rfl (res2 rfl rfl rfl) rfl rfl rfl (by decide)
   ·clear hkk8
    refine aw_sr ?_
    refine al_as rfl rfl ?_
    refine al_nt ?_
    refine aw_block ?_
    refine aw_state (aw_loop (ι := (List Int) × Int × Int × Int) (fun i => (memOf w0 Z0 [] [(oRow v6 3 (tyInt .i64) i.1)] [(fDat (tyList (tyInt .i64)) [v0_0] a0)])) (fun i => (tab [(0, v0_0), (6, v6), (7, (int .i64 i.2.1)), (8, (int .i64 i.2.2.1)), (9, (int .i64 i.2.2.2))])) (fun q i => f_huff_Codes_L11 a0 kk8 fu q i.1 i.2.1 i.2.2.1 i.2.2.2 = some r) ?_ fu ((List.replicate ((a0.length : Int)).toNat 0), (0 : Int), (0 : Int), (1 : Int)) h) (fun w a hm hs => norm hm hs [0] [0] [(0, v0_0), (6, v6), (7, (int .i64 (0 : Int))), (8, (int .i64 (0 : Int))), (9, (int .i64 (1 : Int)))] (by decide) ⟨rfl, rfl, rfl, rfl, rfl, trivial⟩)
    clear h
    rintro k10 ⟨l9x6, l9i7, l9i8, l9i9⟩ h
    have h : f_huff_Codes_L11 a0 kk8 fu k10 l9x6 l9i7 l9i8 l9i9 = some r := h
    obtain _ | k10 := k10
    · rw [f_huff_Codes_L11] at h; cases h
    rw [f_huff_Codes_L11] at h
    refine aw_show (m := (memOf w0 Z0 [] [(oRow v6 3 (tyInt .i64) l9x6)] [(fDat (tyList (tyInt .i64)) [v0_0] a0)])) (S := (tab [(0, v0_0), (6, v6), (7, (int .i64 l9i7)), (8, (int .i64 l9i8)), (9, (int .i64 l9i9))])) ?_
    obtain ⟨kk12, hkk12, h⟩ := lt_some h
    refine aw_body_join (ι := (List Int) × Int × Int × Int) (fun i => (memOf w0 Z0 [] [(oRow v6 3 (tyInt .i64) i.1)] [(fDat (tyList (tyInt .i64)) [v0_0] a0)])) (fun i => (tab [(0, v0_0), (6, v6), (7, (int .i64 i.2.1)), (8, (int .i64 i.2.2.1)), (9, (int .i64 i.2.2.2))])) (fun i => kk12 i.1 i.2.1 i.2.2.1 i.2.2.2 = some r) (fun i h => aq_again k10 i (Nat.lt_succ_self _) (by rw [hkk12] at h; exact h) (fun w a hm hs => ⟨hm, hs⟩)) ?_
    clear hkk12
    refine aw_seq ?_
    refine aw_sr ?_
    refine al_mv rfl rfl ?_
    refine al_in rfl rfl rfl rfl ?_
    refine al_nt ?_
    refine aw_cond rfl (fun hb13 => ?_) (fun hb13 => ?_)
    ·replace h := bif_t hb13 h
     refine aw_skip ?_
     refine aq_then ?_
     obtain ⟨kk15, hkk15, h⟩ := lt_some h
     refine aw_seq_join (ι := (List Int) × Int × Int) (fun i => (memOf w0 Z0 [] [(oRow v6 3 (tyInt .i64) i.1)] [(fDat (tyList (tyInt .i64)) [v0_0] a0)])) (fun i => (tab [(0, v0_0), (6, v6), (7, (int .i64 i.2.1)), (8, (int .i64 i.2.2)), (9, (int .i64 l9i9))])) (fun i => kk15 i.1 i.2.1 i.2.2 = some r) ?_ ?_
     ·rintro ⟨j14x6, j14i7, j14i8⟩ h
      have h : kk15 j14x6 j14i7 j14i8 = some r := h
      rw [hkk15] at h
      dsimp only at h
      clear hkk15
      refine aw_show (m := (memOf w0 Z0 [] [(oRow v6 3 (tyInt .i64) j14x6)] [(fDat (tyList (tyInt .i64)) [v0_0] a0)])) (S := (tab [(0, v0_0), (6, v6), (7, (int .i64 j14i7)), (8, (int .i64 j14i8)), (9, (int .i64 l9i9))])) ?_
      refine aw_region ?_
      refine al_mv rfl rfl ?_
      refine al_in rfl rfl rfl rfl ?_
      refine al_as rfl rfl ?_
      refine al_nil ?_
      exact aq_join (j14x6, j14i7, j14i8, (IntKind.i64.wrap (l9i9 + (1 : Int)))) h (fun w a hm hs => norm hm hs [0] [0] [(0, v0_0), (6, v6), (7, (int .i64 j14i7)), (8, (int .i64 j14i8)), (9, (int .i64 (IntKind.i64.wrap (l9i9 + (1 : Int)))))] (by decide) ⟨rfl, rfl, rfl, rfl, rfl, trivial⟩)
     ·clear hkk15
      refine aw_block ?_
      refine aw_sr ?_
      refine al_mv rfl rfl ?_
      refine al_val (ov_lenD 0 rfl rfl Try.underlying34 rfl) ?_
      refine al_mv rfl rfl ?_
      refine al_nt ?_
      refine aw_block ?_
      refine aw_state (aw_loop (ι := (List Int) × Int × Int × Int) (fun i => (memOf w0 Z0 [] [(oRow v6 3 (tyInt .i64) i.1)] [(fDat (tyList (tyInt .i64)) [v0_0] a0)])) (fun i => (tab [(0, v0_0), (6, v6), (7, (int .i64 i.2.1)), (8, (int .i64 i.2.2.1)), (9, (int .i64 l9i9)), (29, v0_0), (30, (int .i64 (a0.length : Int))), (31, (int .i64 i.2.2.2))])) (fun q i => f_huff_Codes_L18 a0 l9i9 kk15 q i.1 i.2.1 i.2.2.1 i.2.2.2 = some r) ?_ fu (l9x6, l9i7, l9i8, (0 : Int)) h) (fun w a hm hs => norm hm hs [0] [0] [(0, v0_0), (6, v6), (7, (int .i64 l9i7)), (8, (int .i64 l9i8)), (9, (int .i64 l9i9)), (29, v0_0), (30, (int .i64 (a0.length : Int))), (31, (int .i64 (0 : Int)))] (by decide) ⟨rfl, rfl, rfl, rfl, rfl, rfl, rfl, rfl, trivial⟩)
      clear h
      rintro k17 ⟨l16x6, l16i7, l16i8, l16i31⟩ h
      have h : f_huff_Codes_L18 a0 l9i9 kk15 k17 l16x6 l16i7 l16i8 l16i31 = some r := h
      obtain _ | k17 := k17
      · rw [f_huff_Codes_L18] at h; cases h
      rw [f_huff_Codes_L18] at h
      refine aw_show (m := (memOf w0 Z0 [] [(oRow v6 3 (tyInt .i64) l16x6)] [(fDat (tyList (tyInt .i64)) [v0_0] a0)])) (S := (tab [(0, v0_0), (6, v6), (7, (int .i64 l16i7)), (8, (int .i64 l16i8)), (9, (int .i64 l9i9)), (29, v0_0), (30, (int .i64 (a0.length : Int))), (31, (int .i64 l16i31))])) ?_
      refine aw_sr ?_
      refine al_in rfl rfl rfl rfl ?_
      refine al_nt ?_
      refine aw_seq ?_
      refine aw_cond rfl (fun hb19 => ?_) (fun hb19 => ?_)
      ·replace h := bif_t hb19 h
       refine aw_skip ?_
       refine aq_then ?_
       obtain ⟨kk21, hkk21, h⟩ := lt_some h
       refine aw_seq_join (ι := (List Int) × Int × Int) (fun i => (memOf w0 Z0 [] [(oRow v6 3 (tyInt .i64) i.1)] [(fDat (tyList (tyInt .i64)) [v0_0] a0)])) (fun i => (tab [(0, v0_0), (6, v6), (7, (int .i64 i.2.1)), (8, (int .i64 i.2.2)), (9, (int .i64 l9i9)), (29, v0_0), (30, (int .i64 (a0.length : Int))), (31, (int .i64 l16i31))])) (fun i => kk21 i.1 i.2.1 i.2.2 = some r) ?_ ?_
       ·rintro ⟨j20x6, j20i7, j20i8⟩ h
        have h : kk21 j20x6 j20i7 j20i8 = some r := h
        rw [hkk21] at h
        dsimp only at h
        clear hkk21
        refine aw_show (m := (memOf w0 Z0 [] [(oRow v6 3 (tyInt .i64) j20x6)] [(fDat (tyList (tyInt .i64)) [v0_0] a0)])) (S := (tab [(0, v0_0), (6, v6), (7, (int .i64 j20i7)), (8, (int .i64 j20i8)), (9, (int .i64 l9i9)), (29, v0_0), (30, (int .i64 (a0.length : Int))), (31, (int .i64 l16i31))])) ?_
        refine aw_region ?_
        refine al_in rfl rfl rfl rfl ?_
        refine al_mv rfl rfl ?_
        refine al_nil ?_
        exact aq_again k17 (j20x6, j20i7, j20i8, (IntKind.i64.wrap (l16i31 + (1 : Int)))) (Nat.lt_succ_self _) h (fun w a hm hs => norm hm hs [0] [0] [(0, v0_0), (6, v6), (7, (int .i64 j20i7)), (8, (int .i64 j20i8)), (9, (int .i64 l9i9)), (29, v0_0), (30, (int .i64 (a0.length : Int))), (31, (int .i64 (IntKind.i64.wrap (l16i31 + (1 : Int)))))] (by decide) ⟨rfl, rfl, rfl, rfl, rfl, rfl, rfl, rfl, trivial⟩)
       ·clear hkk21
        refine aw_block ?_
        refine aw_sr ?_
        refine al_mv rfl rfl ?_
        obtain ⟨u22, hu23, h⟩ := opt_some h
        refine al_idxD 0 hu23 rfl rfl rfl Try.underlying34 sz3 rfl (fun p24 => ?_)
        refine al_val (ov_loadP (ds := [(int .i64 u22)]) 0 rfl (fun h => h) rfl Try.underlying3 sz3 rfl rfl rfl) ?_
        refine al_as rfl rfl ?_
        refine al_as rfl rfl ?_
        refine al_nt ?_
        refine aw_sr ?_
        refine al_mv rfl rfl ?_
        refine al_mv rfl rfl ?_
        refine al_in rfl rfl rfl rfl ?_
        refine al_nt ?_
        refine aw_cond rfl (fun hb25 => ?_) (fun hb25 => ?_)
        ·replace h := bif_t hb25 h
         refine aw_sr ?_
         refine al_mv rfl rfl ?_
         refine al_mv rfl rfl ?_
         refine al_mv rfl rfl ?_
         refine al_in rfl rfl rfl rfl ?_
         obtain ⟨hc26, h⟩ := req_some h
         refine al_val (ov_shl hc26 rfl rfl rfl) ?_
         refine al_as rfl rfl ?_
         refine al_nt ?_
         refine aw_sr ?_
         refine al_mv rfl rfl ?_
         refine al_as rfl rfl ?_
         refine al_nt ?_
         refine aw_sr ?_
         refine al_mv rfl rfl ?_
         refine al_mv rfl rfl ?_
         refine al_mv rfl rfl ?_
         obtain ⟨u27, hu28, h⟩ := opt_some h
         refine al_idxR 0 (at_some hu28).1 (at_some hu28).2.1 rfl rfl rfl Try.underlying34 sz3 rfl (fun p29 hp30 => ?_)
         refine al_storeR (k := (l16i31).toNat) (x := (IntKind.i64.wrap (l16i7 * 2 ^ min ((IntKind.i64.wrap (l9i9 - l16i8))).toNat (IntKind.bits .i64)))) (vs := [(int .i64 (IntKind.i64.wrap (l16i7 * 2 ^ min ((IntKind.i64.wrap (l9i9 - l16i8))).toNat (IntKind.bits .i64))))]) 0 rfl hp30 (idx_lt hu28) rfl rfl (cv_rfl rfl) (fun _ => rfl) sz3 rfl ?_
         refine al_nt ?_
         refine aw_region ?_
         refine al_mv rfl rfl ?_
         refine al_in rfl rfl rfl rfl ?_
         refine al_as rfl rfl ?_
         refine al_nil ?_
         refine aq_block ?_
         exact aq_join ((l16x6.set (l16i31).toNat (IntKind.i64.wrap (l16i7 * 2 ^ min ((IntKind.i64.wrap (l9i9 - l16i8))).toNat (IntKind.bits .i64)))), (IntKind.i64.wrap ((IntKind.i64.wrap (l16i7 * 2 ^ min ((IntKind.i64.wrap (l9i9 - l16i8))).toNat (IntKind.bits .i64))) + (1 : Int))), l9i9) h (fun w a hm hs => norm hm hs [0] [1] [(0, v0_0), (6, v6), (7, (int .i64 (IntKind.i64.wrap ((IntKind.i64.wrap (l16i7 * 2 ^ min ((IntKind.i64.wrap (l9i9 - l16i8))).toNat (IntKind.bits .i64))) + (1 : Int))))), (8, (int .i64 l9i9)), (9, (int .i64 l9i9)), (29, v0_0), (30, (int .i64 (a0.length : Int))), (31, (int .i64 l16i31))] (by decide) ⟨rfl, rfl, rfl, rfl, rfl, rfl, rfl, rfl, trivial⟩)
        ·replace h := bif_f hb25 h
         refine aw_skip ?_
         refine aq_block ?_
         exact aq_join (l16x6, l16i7, l16i8) h (fun w a hm hs => norm hm hs [0] [1] [(0, v0_0), (6, v6), (7, (int .i64 l16i7)), (8, (int .i64 l16i8)), (9, (int .i64 l9i9)), (29, v0_0), (30, (int .i64 (a0.length : Int))), (31, (int .i64 l16i31))] (by decide) ⟨rfl, rfl, rfl, rfl, rfl, rfl, rfl, rfl, trivial⟩)
      ·replace h := bif_f hb19 h
       refine aw_exit ?_
       refine aq_then_exit ?_
       refine aq_then_exit ?_
       refine aq_block_exit ?_
       refine aq_block ?_
       exact aq_join (l16x6, l16i7, l16i8) h (fun w a hm hs => norm hm hs [0] [0] [(0, v0_0), (6, v6), (7, (int .i64 l16i7)), (8, (int .i64 l16i8)), (9, (int .i64 l9i9))] (by decide) ⟨rfl, rfl, rfl, rfl, rfl, trivial⟩)
    ·replace h := bif_f hb13 h
     refine aw_exit ?_
     refine aq_then_exit ?_
     refine aq_then_exit ?_
     refine aq_block_exit ?_
     exact aq_join l9x6 h (fun w a hm hs => norm hm hs [0] [0] [(6, v6)] (by decide) ⟨rfl, trivial⟩)
-- STUCK (*lumberroom/press.reader).next: lty ['pointer', 194]
-- STUCK (*lumberroom/press.reader).bit: lty ['pointer', 194]
-- STUCK (*lumberroom/press.reader).symbol: lty ['pointer', 194]
-- STUCK (*lumberroom/press.reader).rest: lty ['pointer', 194]
def f_lz_formed (fu : Nat) (a0 : S_api_Token) : Option Bool := (bif (a0.Len == (0 : Int)) then (some (a0.Dist == (0 : Int))) else (lt (fun (j3b2 : Bool) => (some j3b2)) fun (kk4 : Bool → Option Bool) => (bif (a0.Lit == (0 : Int)) then (bif (decide (a0.Len ≥ (1 : Int))) then (bif (decide (a0.Len ≤ (255 : Int))) then (bif (decide (a0.Dist ≥ (1 : Int))) then (kk4 (decide (a0.Dist ≤ (1024 : Int)))) else (kk4 false)) else (kk4 false)) else (kk4 false)) else (kk4 false))))
set_option maxRecDepth 100000 in
theorem f_lz_formed_ok (fu : Nat) (a0 : S_api_Token) {r : Bool} (h : f_lz_formed fu a0 = some r) : FnOk Try.prog 166 [(ag [(int .u8 a0.Lit), (int .i64 a0.Len), (int .i64 a0.Dist)])] [] [] (fun (i : Unit) => { val := (bool r) }) := by
 unfold f_lz_formed at h
 refine fn_enter Try.func166 rfl Try.ntmps166 rfl (fun w0 Z0 => ?_)
 refine aw_sr ?_
 refine al_box (vs := [(int .u8 a0.Lit), (int .i64 a0.Len), (int .i64 a0.Dist)]) rfl (cv_rfl rfl) rfl (fun g1 => ?_)
 refine al_as rfl rfl ?_
 refine al_nt ?_
 refine aw_seq ?_
 refine aw_sr ?_
 refine al_val (ov_fieldA (p := 1) rfl Try.underlying205 rfl sz3 rfl rfl rfl) ?_
 refine al_val (ov_load (i := 0) (v := (int .i64 a0.Len)) rfl rfl Try.underlying3 sz3 rfl rfl rfl rfl) ?_
 refine al_in rfl rfl rfl rfl ?_
 refine al_nt ?_
 refine aw_cond rfl (fun hb2 => ?_) (fun hb2 => ?_)
 ·replace h := bif_t hb2 h
  refine aw_sr ?_
  refine al_val (ov_fieldA (p := 2) rfl Try.underlying205 rfl sz3 rfl rfl rfl) ?_
  refine al_val (ov_load (i := 0) (v := (int .i64 a0.Dist)) rfl rfl Try.underlying3 sz3 rfl rfl rfl rfl) ?_
  refine al_in rfl rfl rfl rfl ?_
  refine al_as rfl rfl ?_
  refine al_nt ?_
  refine aw_ret ?_
  refine aq_then_ret ?_
  obtain rfl := Option.some.inj h
  exact fn_ret () [] [] rfl rfl rfl rfl (res1 rfl rfl) rfl rfl rfl (by decide)
 ·replace h := bif_f hb2 h
  refine aw_skip ?_
  refine aq_then ?_
  obtain ⟨kk4, hkk4, h⟩ := lt_some h
  refine aw_seq_join (ι := Bool) (fun i => (memOf w0 Z0 [] [] [])) (fun i => (tab [(2, (bool i))])) (fun i => kk4 i = some r) ?_ ?_
  ·rintro j3b2 h
   have h : kk4 j3b2 = some r := h
   rw [hkk4] at h
   dsimp only at h
   clear hkk4
   refine aw_show (m := (memOf w0 Z0 [] [] [])) (S := (tab [(2, (bool j3b2))])) ?_
   refine aw_ret ?_
   obtain rfl := Option.some.inj h
   exact fn_ret () [] [] rfl rfl rfl rfl (res1 rfl rfl) rfl rfl rfl (by decide)
  ·clear hkk4
   refine aw_region ?_
   refine al_val (ov_fieldA (p := 0) rfl Try.underlying205 rfl sz5 rfl rfl rfl) ?_
   refine al_val (ov_load (i := 0) (v := (int .u8 a0.Lit)) rfl rfl Try.underlying5 sz5 rfl rfl rfl rfl) ?_
   refine al_in rfl rfl rfl rfl ?_
   refine al_mv rfl rfl ?_
   refine al_caseB 12 rfl (fun hb5 => ?_) (fun hb5 => ?_)
   ·replace h := bif_t hb5 h
    refine al_val (ov_fieldA (p := 1) rfl Try.underlying205 rfl sz3 rfl rfl rfl) ?_
    refine al_val (ov_load (i := 0) (v := (int .i64 a0.Len)) rfl rfl Try.underlying3 sz3 rfl rfl rfl rfl) ?_
    refine al_in rfl rfl rfl rfl ?_
    refine al_val (ov_pick_t rfl rfl rfl) ?_
    refine al_mv rfl rfl ?_
    refine al_caseB 17 rfl (fun hb6 => ?_) (fun hb6 => ?_)
    ·replace h := bif_t hb6 h
     refine al_val (ov_fieldA (p := 1) rfl Try.underlying205 rfl sz3 rfl rfl rfl) ?_
     refine al_val (ov_load (i := 0) (v := (int .i64 a0.Len)) rfl rfl Try.underlying3 sz3 rfl rfl rfl rfl) ?_
     refine al_in rfl rfl rfl rfl ?_
     refine al_val (ov_pick_t rfl rfl rfl) ?_
     refine al_mv rfl rfl ?_
     refine al_caseB 22 rfl (fun hb7 => ?_) (fun hb7 => ?_)
     ·replace h := bif_t hb7 h
      refine al_val (ov_fieldA (p := 2) rfl Try.underlying205 rfl sz3 rfl rfl rfl) ?_
      refine al_val (ov_load (i := 0) (v := (int .i64 a0.Dist)) rfl rfl Try.underlying3 sz3 rfl rfl rfl rfl) ?_
      refine al_in rfl rfl rfl rfl ?_
      refine al_val (ov_pick_t rfl rfl rfl) ?_
      refine al_mv rfl rfl ?_
      refine al_caseB 27 rfl (fun hb8 => ?_) (fun hb8 => ?_)
      ·replace h := bif_t hb8 h
       refine al_val (ov_fieldA (p := 2) rfl Try.underlying205 rfl sz3 rfl rfl rfl) ?_
       refine al_val (ov_load (i := 0) (v := (int .i64 a0.Dist)) rfl rfl Try.underlying3 sz3 rfl rfl rfl rfl) ?_
       refine al_in rfl rfl rfl rfl ?_
       refine al_val (ov_pick_t rfl rfl rfl) ?_
       refine al_as rfl rfl ?_
       refine al_nil ?_
       exact aq_join (decide (a0.Dist ≤ (1024 : Int))) h (fun w a hm hs => norm hm hs [] [] [(2, (bool (decide (a0.Dist ≤ (1024 : Int)))))] (by decide) ⟨rfl, trivial⟩)
      ·replace h := bif_f hb8 h
       refine al_skip ?_
       refine al_skip ?_
       refine al_skip ?_
       refine al_val (ov_pick_f rfl rfl rfl) ?_
       refine al_as rfl rfl ?_
       refine al_nil ?_
       exact aq_join false h (fun w a hm hs => norm hm hs [] [] [(2, (bool false))] (by decide) ⟨rfl, trivial⟩)
     ·replace h := bif_f hb7 h
      refine al_skip ?_
      refine al_skip ?_
      refine al_skip ?_
      refine al_val (ov_pick_f rfl rfl rfl) ?_
      refine al_mv rfl rfl ?_
      refine al_skip ?_
      refine al_skip ?_
      refine al_skip ?_
      refine al_val (ov_pick_f rfl rfl rfl) ?_
      refine al_as rfl rfl ?_
      refine al_nil ?_
      exact aq_join false h (fun w a hm hs => norm hm hs [] [] [(2, (bool false))] (by decide) ⟨rfl, trivial⟩)
    ·replace h := bif_f hb6 h
     refine al_skip ?_
     refine al_skip ?_
     refine al_skip ?_
     refine al_val (ov_pick_f rfl rfl rfl) ?_
     refine al_mv rfl rfl ?_
     refine al_skip ?_
     refine al_skip ?_
     refine al_skip ?_
     refine al_val (ov_pick_f rfl rfl rfl) ?_
     refine al_mv rfl rfl ?_
     refine al_skip ?_
     refine al_skip ?_
     refine al_skip ?_
     refine al_val (ov_pick_f rfl rfl rfl) ?_
     refine al_as rfl rfl ?_
     refine al_nil ?_
     exact aq_join false h (fun w a hm hs => norm hm hs [] [] [(2, (bool false))] (by decide) ⟨rfl, trivial⟩)
   ·replace h := bif_f hb5 h
    refine al_skip ?_
    refine al_skip ?_
    refine al_skip ?_
    refine al_val (ov_pick_f rfl rfl rfl) ?_
    refine al_mv rfl rfl ?_
    refine al_skip ?_
    refine al_skip ?_
    refine al_skip ?_
    refine al_val (ov_pick_f rfl rfl rfl) ?_
    refine al_mv rfl rfl ?_
    refine al_skip ?_
    refine al_skip ?_
    refine al_skip ?_
    refine al_val (ov_pick_f rfl rfl rfl) ?_
    refine al_mv rfl rfl ?_
    refine al_skip ?_
    refine al_skip ?_
    refine al_skip ?_
    refine al_val (ov_pick_f rfl rfl rfl) ?_
    refine al_as rfl rfl ?_
    refine al_nil ?_
    exact aq_join false h (fun w a hm hs => norm hm hs [] [] [(2, (bool false))] (by decide) ⟨rfl, trivial⟩)
def f_lz_Read_L5 (kk2 : ((List S_api_Token) → Option ((List S_api_Token) × Int))) (fu : Nat) : Nat → (List UInt8) → (List S_api_Token) → Option ((List S_api_Token) × Int)
  | 0, _, _ => none
  | k4 + 1, l3s0, l3x4 => (bif (!(l3s0 == ([] : List UInt8))) then (lt (fun (j7i5 : Int) => (bif (decide ((l3s0.length : Int) < j7i5)) then (some (([] : List S_api_Token), (3 : Int))) else (req (0 ≤ (1 : Int) ∧ (1 : Int) < (l3s0.length : Int)) (lt (fun (j12i6_0 : Int) (j12i6_1 : Int) (j12i6_2 : Int) => (opt (f_lz_formed fu (S_api_Token.mk j12i6_0 j12i6_1 j12i6_2)) fun (r15 : Bool) => (bif (!r15) then (some (([] : List S_api_Token), (4 : Int))) else (bif ((l3x4.length : Int) == (4096 : Int)) then (some (([] : List S_api_Token), (2 : Int))) else (req (((l3x4.length + ([(S_api_Token.mk j12i6_0 j12i6_1 j12i6_2)]).length) * 24 : Nat) ≤ 140737488355328 ∧ l3x4.length + ([(S_api_Token.mk j12i6_0 j12i6_1 j12i6_2)]).length ≤ 9223372036854775807) (req (0 ≤ j7i5 ∧ j7i5 ≤ (l3s0.length : Int)) (f_lz_Read_L5 kk2 fu k4 (l3s0.drop (j7i5).toNat) (l3x4 ++ ([(S_api_Token.mk j12i6_0 j12i6_1 j12i6_2)]))))))))) fun (kk13 : Int → Int → Int → Option ((List S_api_Token) × Int)) => (bif (j7i5 == (3 : Int)) then (req (0 ≤ (0 : Int) ∧ (0 : Int) < (l3s0.length : Int)) (req (0 ≤ (1 : Int) ∧ (1 : Int) < (l3s0.length : Int)) (req (0 ≤ (2 : Int) ∧ (2 : Int) < (l3s0.length : Int)) (kk13 (0 : Int) (IntKind.i64.wrap (En.bAt l3s0 (0 : Int))) (bits .or .i64 (IntKind.i64.wrap (En.bAt l3s0 (1 : Int))) (IntKind.i64.wrap ((IntKind.i64.wrap (En.bAt l3s0 (2 : Int))) * 2 ^ min ((8 : Int)).toNat (IntKind.bits .i64)))))))) else (kk13 (En.bAt l3s0 (1 : Int)) (0 : Int) (0 : Int))))))) fun (kk8 : Int → Option ((List S_api_Token) × Int)) => (req (0 ≤ (0 : Int) ∧ (0 : Int) < (l3s0.length : Int)) (bif ((En.bAt l3s0 (0 : Int)) == (0 : Int)) then (kk8 (2 : Int)) else (kk8 (3 : Int))))) else (kk2 l3x4))
def f_lz_Read (fu : Nat) (a0 : (List UInt8)) : Option ((List S_api_Token) × Int) := (lt (fun (j1x4 : (List S_api_Token)) => (some (j1x4, (0 : Int)))) fun (kk2 : (List S_api_Token) → Option ((List S_api_Token) × Int)) => (f_lz_Read_L5 kk2 fu fu a0 ([] : List S_api_Token)))
set_option maxRecDepth 100000 in
theorem f_lz_Read_ok (fu : Nat) (a0 : (List UInt8)) {r : ((List S_api_Token) × Int)} (h : f_lz_Read fu a0 = some r) : FnOk Try.prog 125 [(str a0)] [] [] (fun (i : Value) => { val := (Value.tuple #[i, (int .i64 r.2)]), own := [(oRow i 205 tyS_api_Token r.1)] }) := by
 unfold f_lz_Read at h
 refine fn_enter Try.func125 rfl Try.ntmps125 rfl (fun w0 Z0 => ?_)
 refine aw_sr ?_
 refine al_as rfl rfl ?_
 refine al_as rfl rfl ?_
 refine al_nt ?_
 refine aw_sr ?_
 refine al_as rfl rfl ?_
 refine al_nt ?_
 obtain ⟨kk2, hkk2, h⟩ := lt_some h
 refine aw_seq_join (ι := Value × (List S_api_Token)) (fun i => (memOf w0 Z0 [] [(oRow i.1 205 tyS_api_Token i.2)] [])) (fun i => (tab [(4, i.1)])) (fun i => kk2 i.2 = some r) ?_ ?_
 ·rintro ⟨j1v4, j1x4⟩ h
  have h : kk2 j1x4 = some r := h
  rw [hkk2] at h
  dsimp only at h
  clear hkk2
  refine aw_show (m := (memOf w0 Z0 [] [(oRow j1v4 205 tyS_api_Token j1x4)] [])) (S := (tab [(4, j1v4)])) ?_
  refine aw_sr ?_
  refine al_mv rfl rfl ?_
  refine al_as rfl rfl ?_
  refine al_as rfl rfl ?_
  refine al_nt ?_
  refine aw_ret ?_
  obtain rfl := Option.some.inj h
  exact fn_ret j1v4 [0] [] rfl rfl rfl rfl (res2 rfl rfl rfl) rfl rfl rfl (by decide)
 ·clear hkk2
  refine aw_block ?_
  refine aw_nilR 205 tyS_api_Token ?_
  refine aw_state (aw_loop (ι := (List UInt8) × Value × (List S_api_Token)) (fun i => (memOf w0 Z0 [] [(oRow i.2.1 205 tyS_api_Token i.2.2)] [])) (fun i => (tab [(0, (str i.1)), (4, i.2.1)])) (fun q i => f_lz_Read_L5 kk2 fu q i.1 i.2.2 = some r) ?_ fu (a0, (Value.slice none 0 0), ([] : List S_api_Token)) h) (fun w a hm hs => norm hm hs [0] [] [(0, (str a0)), (4, (Value.slice none 0 0))] (by decide) ⟨rfl, rfl, trivial⟩)
  clear h
  rintro k4 ⟨l3s0, l3v4, l3x4⟩ h
  have h : f_lz_Read_L5 kk2 fu k4 l3s0 l3x4 = some r := h
  obtain _ | k4 := k4
  · rw [f_lz_Read_L5] at h; cases h
  rw [f_lz_Read_L5] at h
  refine aw_show (m := (memOf w0 Z0 [] [(oRow l3v4 205 tyS_api_Token l3x4)] [])) (S := (tab [(0, (str l3s0)), (4, l3v4)])) ?_
  refine aw_seq ?_
  refine aw_sr ?_
  refine al_mv rfl rfl ?_
  refine al_val (ov_strCmp rfl rfl rfl rfl) ?_
  refine al_nt ?_
  refine aw_cond rfl (fun hb6 => ?_) (fun hb6 => ?_)
  ·replace h := bif_t hb6 h
   refine aw_skip ?_
   refine aq_then ?_
   refine aw_block ?_
   refine aw_sr ?_
   refine al_as rfl rfl ?_
   refine al_nt ?_
   obtain ⟨kk8, hkk8, h⟩ := lt_some h
   refine aw_seq_join (ι := Int) (fun i => (memOf w0 Z0 [] [(oRow l3v4 205 tyS_api_Token l3x4)] [])) (fun i => (tab [(0, (str l3s0)), (4, l3v4), (5, (int .i64 i))])) (fun i => kk8 i = some r) ?_ ?_
   ·rintro j7i5 h
    have h : kk8 j7i5 = some r := h
    rw [hkk8] at h
    dsimp only at h
    clear hkk8
    refine aw_show (m := (memOf w0 Z0 [] [(oRow l3v4 205 tyS_api_Token l3x4)] [])) (S := (tab [(0, (str l3s0)), (4, l3v4), (5, (int .i64 j7i5))])) ?_
    refine aw_seq ?_
    refine aw_sr ?_
    refine al_mv rfl rfl ?_
    refine al_val (ov_strLen Try.underlying9 rfl rfl) ?_
    refine al_mv rfl rfl ?_
    refine al_in rfl rfl rfl rfl ?_
    refine al_nt ?_
    refine aw_cond rfl (fun hb9 => ?_) (fun hb9 => ?_)
    ·replace h := bif_t hb9 h
     refine aw_sr ?_
     refine al_as rfl rfl ?_
     refine al_as rfl rfl ?_
     refine al_nt ?_
     refine aw_ret ?_
     refine aq_then_ret ?_
     refine aq_block_ret ?_
     refine aq_then_ret ?_
     refine aq_block_ret ?_
     refine aq_then_ret ?_
     refine aq_nilR 205 tyS_api_Token ?_
     obtain rfl := Option.some.inj h
     exact fn_ret (Value.slice none 0 0) [0] [] rfl rfl rfl rfl (res2 rfl rfl rfl) rfl rfl rfl (by decide)
    ·replace h := bif_f hb9 h
     refine aw_skip ?_
     refine aq_tr ?_
     refine al_mv rfl rfl ?_
     obtain ⟨hc10, h⟩ := req_some h
     refine al_val (ov_strIdx hc10.1 hc10.2 Try.underlying9 rfl rfl rfl) ?_
     refine al_val (ov_build (cells := ([(int .u8 (En.bAt l3s0 (1 : Int))), (int .i64 (0 : Int)), (int .i64 (0 : Int))]).toArray) (cs := [(int .u8 (En.bAt l3s0 (1 : Int))), (int .i64 (0 : Int)), (int .i64 (0 : Int))]) rfl (fun w a hm hs => by simp only [List.map_toArray, List.map_cons, List.map_nil, List.toList_toArray, hs.ev (x := .tmp 17) rfl]; kernel_rfl)) ?_
     refine al_alloc (zs := [(int .u8 (0 : Int)), (int .i64 (0 : Int)), (int .i64 (0 : Int))]) (zeroOf_to to205) rfl rfl (fun g11 => ?_)
     refine al_store (i := 0) (vs := [(int .u8 (En.bAt l3s0 (1 : Int))), (int .i64 (0 : Int)), (int .i64 (0 : Int))]) (cs' := [(int .u8 (En.bAt l3s0 (1 : Int))), (int .i64 (0 : Int)), (int .i64 (0 : Int))]) rfl rfl rfl sz205 (cv_rfl rfl) rfl (co_val rfl (co_val rfl (co_val rfl co_nil))) (Nat.le_of_ble_eq_true rfl) rfl rfl ?_
     refine al_nt ?_
     obtain ⟨kk13, hkk13, h⟩ := lt_some h
     refine aw_seq_join (ι := Int × Int × Int) (fun i => (memOf w0 Z0 [] [(oRow l3v4 205 tyS_api_Token l3x4), (oBox g11 205 [(int .u8 i.1), (int .i64 i.2.1), (int .i64 i.2.2)])] [])) (fun i => (tab [(0, (str l3s0)), (4, l3v4), (5, (int .i64 j7i5)), (6, (ptr g11 0))])) (fun i => kk13 i.1 i.2.1 i.2.2 = some r) ?_ ?_
     ·rintro ⟨j12i6_0, j12i6_1, j12i6_2⟩ h
      have h : kk13 j12i6_0 j12i6_1 j12i6_2 = some r := h
      rw [hkk13] at h
      dsimp only at h
      clear hkk13
      refine aw_show (m := (memOf w0 Z0 [] [(oRow l3v4 205 tyS_api_Token l3x4), (oBox g11 205 [(int .u8 j12i6_0), (int .i64 j12i6_1), (int .i64 j12i6_2)])] [])) (S := (tab [(0, (str l3s0)), (4, l3v4), (5, (int .i64 j7i5)), (6, (ptr g11 0))])) ?_
      refine aw_seq ?_
      refine aw_sr ?_
      refine al_val (ov_load (i := 1) (v := (ag [(int .u8 j12i6_0), (int .i64 j12i6_1), (int .i64 j12i6_2)])) rfl rfl Try.underlying205 sz205 rfl rfl rfl rfl) ?_
      obtain ⟨r15, hc14, h⟩ := opt_some h
      refine al_call (vs := [(ag [(int .u8 j12i6_0), (int .i64 j12i6_1), (int .i64 j12i6_2)])]) (f_lz_formed_ok fu (S_api_Token.mk j12i6_0 j12i6_1 j12i6_2) hc14) [] [] [0, 1] pre_nil rfl (by simp) (by decide) (.inl rfl) rfl Try.func166 rfl rfl rfl (fun _ => ?_)
      refine al_val (ov_not rfl rfl) ?_
      refine al_nt ?_
      refine aw_cond rfl (fun hb16 => ?_) (fun hb16 => ?_)
      ·replace h := bif_t hb16 h
       refine aw_sr ?_
       refine al_as rfl rfl ?_
       refine al_as rfl rfl ?_
       refine al_nt ?_
       refine aw_ret ?_
       refine aq_then_ret ?_
       refine aq_block_ret ?_
       refine aq_then_ret ?_
       refine aq_block_ret ?_
       refine aq_then_ret ?_
       refine aq_nilR 205 tyS_api_Token ?_
       obtain rfl := Option.some.inj h
       exact fn_ret (Value.slice none 0 0) [0] [] rfl rfl rfl rfl (res2 rfl rfl rfl) rfl rfl rfl (by decide)
      ·replace h := bif_f hb16 h
       refine aw_skip ?_
       refine aq_then ?_
       refine aw_seq ?_
       refine aw_sr ?_
       refine al_mv rfl rfl ?_
       refine al_val (ov_lenR 0 rfl rfl Try.underlying147 rfl) ?_
       refine al_in rfl rfl rfl rfl ?_
       refine al_nt ?_
       refine aw_cond rfl (fun hb17 => ?_) (fun hb17 => ?_)
       ·replace h := bif_t hb17 h
        refine aw_sr ?_
        refine al_as rfl rfl ?_
        refine al_as rfl rfl ?_
        refine al_nt ?_
        refine aw_ret ?_
        refine aq_then_ret ?_
        refine aq_block_ret ?_
        refine aq_then_ret ?_
        refine aq_block_ret ?_
        refine aq_then_ret ?_
        refine aq_nilR 205 tyS_api_Token ?_
        obtain rfl := Option.some.inj h
        exact fn_ret (Value.slice none 0 0) [0] [] rfl rfl rfl rfl (res2 rfl rfl rfl) rfl rfl rfl (by decide)
       ·replace h := bif_f hb17 h
        refine aw_skip ?_
        refine aq_tr ?_
        refine al_mv rfl rfl ?_
        refine al_val (ov_load (i := 1) (v := (ag [(int .u8 j12i6_0), (int .i64 j12i6_1), (int .i64 j12i6_2)])) rfl rfl Try.underlying205 sz205 rfl rfl rfl rfl) ?_
        refine al_buildSlice (τ := tyS_api_Token) (e := 205) (k := 1) (sz := 0) (by_ := 0) (z := undef) (cs := [(int .u8 j12i6_0), (int .i64 j12i6_1), (int .i64 j12i6_2)]) (xs := [(S_api_Token.mk j12i6_0 j12i6_1 j12i6_2)]) rfl (by decide) (fun w a hm hs => ⟨([(int .u8 j12i6_0), (int .i64 j12i6_1), (int .i64 j12i6_2)]).toArray, rfl, by simp only [List.map_toArray, List.map_cons, List.map_nil, hs.ev (x := .tmp 40) rfl]; exact run_bs [(ag [(int .u8 j12i6_0), (int .i64 j12i6_1), (int .i64 j12i6_2)])] [(int .u8 j12i6_0), (int .i64 j12i6_1), (int .i64 j12i6_2)] Try.underlying147 to205 rfl rfl (bs_cons (l := [(int .u8 j12i6_0), (int .i64 j12i6_1), (int .i64 j12i6_2)]) (cs := []) (cv_rfl rfl) rfl bs_nil) hm⟩) (fun hm => ⟨_, _, rfl, (fun _ => mkS_api_Token rfl) hm, rfl⟩) rfl (fun v18 => ?_)
        obtain ⟨hc19, h⟩ := req_some h
        refine al_append 1 hc19.1 hc19.2 rfl (src_own (i := 1) 0 rfl) rfl rfl Try.underlying147 to205 rfl rfl rfl (fun v20 => ?_)
        refine al_as rfl rfl ?_
        refine al_nt ?_
        refine aw_region ?_
        refine al_mv rfl rfl ?_
        refine al_mv rfl rfl ?_
        obtain ⟨hc21, h⟩ := req_some h
        refine al_val (ov_strFrom hc21.1 hc21.2 Try.underlying9 rfl rfl rfl) ?_
        refine al_as rfl rfl ?_
        refine al_nil ?_
        refine aq_block ?_
        exact aq_again k4 ((l3s0.drop (j7i5).toNat), v20, (l3x4 ++ ([(S_api_Token.mk j12i6_0 j12i6_1 j12i6_2)]))) (Nat.lt_succ_self _) h (fun w a hm hs => norm hm hs [1] [] [(0, (str (l3s0.drop (j7i5).toNat))), (4, v20)] (by decide) ⟨rfl, rfl, trivial⟩)
     ·clear hkk13
      refine aw_sr ?_
      refine al_mv rfl rfl ?_
      refine al_in rfl rfl rfl rfl ?_
      refine al_nt ?_
      refine aw_cond rfl (fun hb22 => ?_) (fun hb22 => ?_)
      ·replace h := bif_t hb22 h
       obtain ⟨hc23, h⟩ := req_some h
       obtain ⟨hc24, h⟩ := req_some h
       obtain ⟨hc25, h⟩ := req_some h
       refine aw_region_draw 11 [(21, (fun u => fEq u (str l3s0))), (22, (fun u => fEq u (int .u8 (En.bAt l3s0 (0 : Int))))), (23, (fun u => fEq u (int .i64 (IntKind.i64.wrap (En.bAt l3s0 (0 : Int)))))), (24, (fun u => fEq u (str l3s0))), (25, (fun u => fEq u (int .u8 (En.bAt l3s0 (1 : Int))))), (26, (fun u => fEq u (int .i64 (IntKind.i64.wrap (En.bAt l3s0 (1 : Int)))))), (27, (fun u => fEq u (str l3s0))), (28, (fun u => fEq u (int .u8 (En.bAt l3s0 (2 : Int))))), (29, (fun u => fEq u (int .i64 (IntKind.i64.wrap (En.bAt l3s0 (2 : Int)))))), (30, (fun u => fEq u (int .i64 (IntKind.i64.wrap ((IntKind.i64.wrap (En.bAt l3s0 (2 : Int))) * 2 ^ min ((8 : Int)).toNat (IntKind.bits .i64)))))), (31, (fun u => fEq u (int .i64 (bits .or .i64 (IntKind.i64.wrap (En.bAt l3s0 (1 : Int))) (IntKind.i64.wrap ((IntKind.i64.wrap (En.bAt l3s0 (2 : Int))) * 2 ^ min ((8 : Int)).toNat (IntKind.bits .i64)))))))] (tab [(0, (str l3s0)), (4, l3v4), (5, (int .i64 j7i5)), (6, (ptr g11 0))]) mixed (by kernel_rfl) rfl rfl rfl (fun a hs => hs.tab _ (allT_mem ⟨rfl, rfl, rfl, rfl, trivial⟩)) ⟨⟨rfl, ld_val (ov_move rfl rfl)⟩, ⟨rfl, ld_eq (j := 0) rfl rfl (ld_val (ov_strIdx hc23.1 hc23.2 Try.underlying9 rfl rfl rfl))⟩, ⟨rfl, ld_eq (j := 1) rfl rfl (ld_val (ov_convInt (by rw [Try.underlying5]; rfl) Try.underlying3 rfl rfl))⟩, ⟨rfl, ld_val (ov_move rfl rfl)⟩, ⟨rfl, ld_eq (j := 3) rfl rfl (ld_val (ov_strIdx hc24.1 hc24.2 Try.underlying9 rfl rfl rfl))⟩, ⟨rfl, ld_eq (j := 4) rfl rfl (ld_val (ov_convInt (by rw [Try.underlying5]; rfl) Try.underlying3 rfl rfl))⟩, ⟨rfl, ld_val (ov_move rfl rfl)⟩, ⟨rfl, ld_eq (j := 6) rfl rfl (ld_val (ov_strIdx hc25.1 hc25.2 Try.underlying9 rfl rfl rfl))⟩, ⟨rfl, ld_eq (j := 7) rfl rfl (ld_val (ov_convInt (by rw [Try.underlying5]; rfl) Try.underlying3 rfl rfl))⟩, ⟨rfl, ld_eq (j := 8) rfl rfl (ld_val (ov_shl (by decide) rfl rfl rfl))⟩, ⟨rfl, ld_eq (j := 5) rfl rfl (ld_eq (j := 9) rfl rfl (ld_val (ov_int rfl rfl rfl rfl)))⟩, trivial⟩ ?_
       refine tl_eq 2 rfl ?_
       refine tl_eq 10 rfl ?_
       refine tl_done ?_
       refine al_val (ov_build (cells := ([(int .u8 (0 : Int)), (int .i64 (IntKind.i64.wrap (En.bAt l3s0 (0 : Int)))), (int .i64 (bits .or .i64 (IntKind.i64.wrap (En.bAt l3s0 (1 : Int))) (IntKind.i64.wrap ((IntKind.i64.wrap (En.bAt l3s0 (2 : Int))) * 2 ^ min ((8 : Int)).toNat (IntKind.bits .i64)))))]).toArray) (cs := [(int .u8 (0 : Int)), (int .i64 (IntKind.i64.wrap (En.bAt l3s0 (0 : Int)))), (int .i64 (bits .or .i64 (IntKind.i64.wrap (En.bAt l3s0 (1 : Int))) (IntKind.i64.wrap ((IntKind.i64.wrap (En.bAt l3s0 (2 : Int))) * 2 ^ min ((8 : Int)).toNat (IntKind.bits .i64)))))]) rfl (fun w a hm hs => by simp only [List.map_toArray, List.map_cons, List.map_nil, List.toList_toArray, hs.ev (x := .tmp 23) rfl, hs.ev (x := .tmp 31) rfl]; kernel_rfl)) ?_
       refine al_store (i := 0) (vs := [(int .u8 (0 : Int)), (int .i64 (IntKind.i64.wrap (En.bAt l3s0 (0 : Int)))), (int .i64 (bits .or .i64 (IntKind.i64.wrap (En.bAt l3s0 (1 : Int))) (IntKind.i64.wrap ((IntKind.i64.wrap (En.bAt l3s0 (2 : Int))) * 2 ^ min ((8 : Int)).toNat (IntKind.bits .i64)))))]) (cs' := [(int .u8 (0 : Int)), (int .i64 (IntKind.i64.wrap (En.bAt l3s0 (0 : Int)))), (int .i64 (bits .or .i64 (IntKind.i64.wrap (En.bAt l3s0 (1 : Int))) (IntKind.i64.wrap ((IntKind.i64.wrap (En.bAt l3s0 (2 : Int))) * 2 ^ min ((8 : Int)).toNat (IntKind.bits .i64)))))]) rfl rfl rfl sz205 (cv_rfl rfl) rfl (co_val rfl (co_val rfl (co_val rfl co_nil))) (Nat.le_of_ble_eq_true rfl) rfl rfl ?_
       refine al_nil ?_
       exact aq_join ((0 : Int), (IntKind.i64.wrap (En.bAt l3s0 (0 : Int))), (bits .or .i64 (IntKind.i64.wrap (En.bAt l3s0 (1 : Int))) (IntKind.i64.wrap ((IntKind.i64.wrap (En.bAt l3s0 (2 : Int))) * 2 ^ min ((8 : Int)).toNat (IntKind.bits .i64))))) h (fun w a hm hs => norm hm hs [1, 0] [] [(0, (str l3s0)), (4, l3v4), (5, (int .i64 j7i5)), (6, (ptr g11 0))] (by decide) ⟨rfl, rfl, rfl, rfl, trivial⟩)
      ·replace h := bif_f hb22 h
       refine aw_skip ?_
       exact aq_join ((En.bAt l3s0 (1 : Int)), (0 : Int), (0 : Int)) h (fun w a hm hs => norm hm hs [1, 0] [] [(0, (str l3s0)), (4, l3v4), (5, (int .i64 j7i5)), (6, (ptr g11 0))] (by decide) ⟨rfl, rfl, rfl, rfl, trivial⟩)
   ·clear hkk8
    refine aw_sr ?_
    refine al_mv rfl rfl ?_
    obtain ⟨hc26, h⟩ := req_some h
    refine al_val (ov_strIdx hc26.1 hc26.2 Try.underlying9 rfl rfl rfl) ?_
    refine al_in rfl rfl rfl rfl ?_
    refine al_nt ?_
    refine aw_cond rfl (fun hb27 => ?_) (fun hb27 => ?_)
    ·replace h := bif_t hb27 h
     refine aw_region ?_
     refine al_as rfl rfl ?_
     refine al_nil ?_
     exact aq_join (2 : Int) h (fun w a hm hs => norm hm hs [0] [] [(0, (str l3s0)), (4, l3v4), (5, (int .i64 (2 : Int)))] (by decide) ⟨rfl, rfl, rfl, trivial⟩)
    ·replace h := bif_f hb27 h
     refine aw_skip ?_
     exact aq_join (3 : Int) h (fun w a hm hs => norm hm hs [0] [] [(0, (str l3s0)), (4, l3v4), (5, (int .i64 (3 : Int)))] (by decide) ⟨rfl, rfl, rfl, trivial⟩)
  ·replace h := bif_f hb6 h
   refine aw_exit ?_
   refine aq_then_exit ?_
   refine aq_then_exit ?_
   refine aq_block_exit ?_
   exact aq_join (l3v4, l3x4) h (fun w a hm hs => norm hm hs [0] [] [(4, l3v4)] (by decide) ⟨rfl, trivial⟩)
def f_lz_Check_L6 (a0 : (List S_api_Token)) (kk3 : (Unit → Option Int)) (fu : Nat) : Nat → Int → Option Int
  | 0, _ => none
  | k5 + 1, l4i10 => (bif (decide (l4i10 < (a0.length : Int))) then (opt (at? a0 l4i10) fun (u8 : S_api_Token) => (opt (f_lz_formed fu u8) fun (r13 : Bool) => (bif (!r13) then (some (4 : Int)) else (f_lz_Check_L6 a0 kk3 fu k5 (IntKind.i64.wrap (l4i10 + (1 : Int))))))) else (kk3 ()))
def f_lz_Check (fu : Nat) (a0 : (List S_api_Token)) : Option Int := (bif (decide ((a0.length : Int) > (4096 : Int))) then (some (2 : Int)) else (lt (fun (_ : Unit) => (some (0 : Int))) fun (kk3 : Unit → Option Int) => (f_lz_Check_L6 a0 kk3 fu fu (0 : Int))))
set_option maxRecDepth 100000 in
theorem f_lz_Check_ok (fu : Nat) (v0_0 : Value) (a0 : (List S_api_Token)) {r : Int} (h : f_lz_Check fu a0 = some r) : FnOk Try.prog 167 [v0_0] [(fDat (tyList tyS_api_Token) [v0_0] a0)] [] (fun (i : Unit) => { val := (int .i64 r) }) := by
 unfold f_lz_Check at h
 refine fn_enter Try.func167 rfl Try.ntmps167 rfl (fun w0 Z0 => ?_)
 refine aw_sr ?_
 refine al_as rfl rfl ?_
 refine al_nt ?_
 refine aw_seq ?_
 refine aw_sr ?_
 refine al_mv rfl rfl ?_
 refine al_val (ov_lenD 0 rfl rfl Try.underlying147 rfl) ?_
 refine al_in rfl rfl rfl rfl ?_
 refine al_nt ?_
 refine aw_cond rfl (fun hb1 => ?_) (fun hb1 => ?_)
 ·replace h := bif_t hb1 h
  refine aw_sr ?_
  refine al_as rfl rfl ?_
  refine al_nt ?_
  refine aw_ret ?_
  refine aq_then_ret ?_
  obtain rfl := Option.some.inj h
  exact fn_ret () [] [] rfl rfl rfl rfl (res1 rfl rfl) rfl rfl rfl (by decide)
 ·replace h := bif_f hb1 h
  refine aw_skip ?_
  refine aq_then ?_
  obtain ⟨kk3, hkk3, h⟩ := lt_some h
  refine aw_seq_join (ι := Unit) (fun i => (memOf w0 Z0 [] [] [(fDat (tyList tyS_api_Token) [v0_0] a0)])) (fun i => (tab [])) (fun i => kk3 () = some r) ?_ ?_
  ·rintro _ h
   have h : kk3 () = some r := h
   rw [hkk3] at h
   dsimp only at h
   clear hkk3
   refine aw_show (m := (memOf w0 Z0 [] [] [(fDat (tyList tyS_api_Token) [v0_0] a0)])) (S := (tab [])) ?_
   refine aw_sr ?_
   refine al_as rfl rfl ?_
   refine al_nt ?_
   refine aw_ret ?_
   obtain rfl := Option.some.inj h
   exact fn_ret () [] [] rfl rfl rfl rfl (res1 rfl rfl) rfl rfl rfl (by decide)
  ·clear hkk3
   refine aw_sr ?_
   refine al_mv rfl rfl ?_
   refine al_val (ov_lenD 0 rfl rfl Try.underlying147 rfl) ?_
   refine al_mv rfl rfl ?_
   refine al_nt ?_
   refine aw_block ?_
   refine aw_state (aw_loop (ι := Int) (fun i => (memOf w0 Z0 [] [] [(fDat (tyList tyS_api_Token) [v0_0] a0)])) (fun i => (tab [(8, v0_0), (9, (int .i64 (a0.length : Int))), (10, (int .i64 i))])) (fun q i => f_lz_Check_L6 a0 kk3 fu q i = some r) ?_ fu (0 : Int) h) (fun w a hm hs => norm hm hs [] [0] [(8, v0_0), (9, (int .i64 (a0.length : Int))), (10, (int .i64 (0 : Int)))] (by decide) ⟨rfl, rfl, rfl, trivial⟩)
   clear h
   rintro k5 l4i10 h
   have h : f_lz_Check_L6 a0 kk3 fu k5 l4i10 = some r := h
   obtain _ | k5 := k5
   · rw [f_lz_Check_L6] at h; cases h
   rw [f_lz_Check_L6] at h
   refine aw_show (m := (memOf w0 Z0 [] [] [(fDat (tyList tyS_api_Token) [v0_0] a0)])) (S := (tab [(8, v0_0), (9, (int .i64 (a0.length : Int))), (10, (int .i64 l4i10))])) ?_
   refine aw_sr ?_
   refine al_in rfl rfl rfl rfl ?_
   refine al_nt ?_
   refine aw_seq ?_
   refine aw_cond rfl (fun hb7 => ?_) (fun hb7 => ?_)
   ·replace h := bif_t hb7 h
    refine aw_skip ?_
    refine aq_then ?_
    refine aw_seq ?_
    refine aw_block ?_
    refine aw_sr ?_
    obtain ⟨u8, hu9, h⟩ := opt_some h
    refine al_idxD 0 hu9 rfl rfl rfl Try.underlying147 sz205 rfl (fun p10 => ?_)
    refine al_val (ov_loadP (ds := [(int .u8 u8.Lit), (int .i64 u8.Len), (int .i64 u8.Dist)]) 0 rfl encS_api_Token rfl Try.underlying205 sz205 rfl rfl rfl) ?_
    refine al_alloc (zs := [(int .u8 (0 : Int)), (int .i64 (0 : Int)), (int .i64 (0 : Int))]) (zeroOf_to to205) rfl rfl (fun g11 => ?_)
    refine al_store (i := 0) (vs := [(int .u8 u8.Lit), (int .i64 u8.Len), (int .i64 u8.Dist)]) (cs' := [(int .u8 u8.Lit), (int .i64 u8.Len), (int .i64 u8.Dist)]) rfl rfl rfl sz205 (cv_rfl rfl) rfl (co_val rfl (co_val rfl (co_val rfl co_nil))) (Nat.le_of_ble_eq_true rfl) rfl rfl ?_
    refine al_nt ?_
    refine aw_sr ?_
    refine al_val (ov_load (i := 0) (v := (ag [(int .u8 u8.Lit), (int .i64 u8.Len), (int .i64 u8.Dist)])) rfl rfl Try.underlying205 sz205 rfl rfl rfl rfl) ?_
    obtain ⟨r13, hc12, h⟩ := opt_some h
    refine al_call (vs := [(ag [(int .u8 u8.Lit), (int .i64 u8.Len), (int .i64 u8.Dist)])]) (f_lz_formed_ok fu u8 hc12) [] [] [0] pre_nil rfl (by simp) (by decide) (.inl rfl) rfl Try.func166 rfl rfl rfl (fun _ => ?_)
    refine al_val (ov_not rfl rfl) ?_
    refine al_nt ?_
    refine aw_cond rfl (fun hb14 => ?_) (fun hb14 => ?_)
    ·replace h := bif_t hb14 h
     refine aw_sr ?_
     refine al_as rfl rfl ?_
     refine al_nt ?_
     refine aw_ret ?_
     refine aq_block_ret ?_
     refine aq_then_ret ?_
     refine aq_then_ret ?_
     refine aq_block_ret ?_
     refine aq_then_ret ?_
     obtain rfl := Option.some.inj h
     exact fn_ret () [] [] rfl rfl rfl rfl (res1 rfl rfl) rfl rfl rfl (by decide)
    ·replace h := bif_f hb14 h
     refine aw_skip ?_
     refine aq_block ?_
     refine aq_then ?_
     refine aw_region ?_
     refine al_in rfl rfl rfl rfl ?_
     refine al_mv rfl rfl ?_
     refine al_nil ?_
     exact aq_again k5 (IntKind.i64.wrap (l4i10 + (1 : Int))) (Nat.lt_succ_self _) h (fun w a hm hs => norm hm hs [] [1] [(8, v0_0), (9, (int .i64 (a0.length : Int))), (10, (int .i64 (IntKind.i64.wrap (l4i10 + (1 : Int)))))] (by decide) ⟨rfl, rfl, rfl, trivial⟩)
   ·replace h := bif_f hb7 h
    refine aw_exit ?_
    refine aq_then_exit ?_
    refine aq_then_exit ?_
    refine aq_block_exit ?_
    exact aq_join () h (fun w a hm hs => norm hm hs [] [0] [] (by decide) trivial)
def f_lz_Expand_L26 (kk15 : ((List UInt8) → Option ((List UInt8) × Int))) (u16 : S_api_Token) : Nat → (List UInt8) → Int → Option ((List UInt8) × Int)
  | 0, _, _ => none
  | k25 + 1, l24x7, l24i50 => (bif (decide (l24i50 < u16.Len)) then (opt (at? l24x7 (IntKind.i64.wrap ((l24x7.length : Int) - u16.Dist))) fun (u28 : UInt8) => (req (((l24x7.length + ([u28]).length) * 1 : Nat) ≤ 140737488355328 ∧ l24x7.length + ([u28]).length ≤ 9223372036854775807) (f_lz_Expand_L26 kk15 u16 k25 (l24x7 ++ ([u28])) (IntKind.i64.wrap (l24i50 + (1 : Int)))))) else (kk15 l24x7))
def f_lz_Expand_L11 (a0 : (List S_api_Token)) (a1 : Int) (kk8 : ((List UInt8) → Option ((List UInt8) × Int))) (fu : Nat) : Nat → (List UInt8) → Int → Option ((List UInt8) × Int)
  | 0, _, _ => none
  | k10 + 1, l9x7, l9i23 => (lt (fun (l9x7 : (List UInt8)) (l9i23 : Int) => (f_lz_Expand_L11 a0 a1 kk8 fu k10 l9x7 l9i23)) fun (kk12 : (List UInt8) → Int → Option ((List UInt8) × Int)) => (bif (decide (l9i23 < (a0.length : Int))) then (lt (fun (j14x7 : (List UInt8)) => (kk12 j14x7 (IntKind.i64.wrap (l9i23 + (1 : Int))))) fun (kk15 : (List UInt8) → Option ((List UInt8) × Int)) => (opt (at? a0 l9i23) fun (u16 : S_api_Token) => (bif (decide (u16.Dist > (l9x7.length : Int))) then (some (([] : List UInt8), (4 : Int))) else (bif (decide ((IntKind.i64.wrap ((l9x7.length : Int) + (if (1 : Int) > u16.Len then (1 : Int) else u16.Len))) > a1)) then (some (([] : List UInt8), (2 : Int))) else (lt (fun (j22x7 : (List UInt8)) => (f_lz_Expand_L26 kk15 u16 fu j22x7 (0 : Int))) fun (kk23 : (List UInt8) → Option ((List UInt8) × Int)) => (bif (u16.Len == (0 : Int)) then (req (0 ≤ u16.Lit ∧ u16.Lit ≤ 255) (req (((l9x7.length + ([(UInt8.ofNat (u16.Lit).toNat)]).length) * 1 : Nat) ≤ 140737488355328 ∧ l9x7.length + ([(UInt8.ofNat (u16.Lit).toNat)]).length ≤ 9223372036854775807) (kk23 (l9x7 ++ ([(UInt8.ofNat (u16.Lit).toNat)]))))) else (kk23 l9x7))))))) else (kk8 l9x7)))
def f_lz_Expand (fu : Nat) (a0 : (List S_api_Token)) (a1 : Int) : Option ((List UInt8) × Int) := (lt (fun (j1b15 : Bool) => (bif j1b15 then (some (([] : List UInt8), (1 : Int))) else (opt (f_lz_Check fu a0) fun (r5 : Int) => (bif (r5 != (0 : Int)) then (some (([] : List UInt8), r5)) else (lt (fun (j7x7 : (List UInt8)) => (some (j7x7, (0 : Int)))) fun (kk8 : (List UInt8) → Option ((List UInt8) × Int)) => (f_lz_Expand_L11 a0 a1 kk8 fu fu ([] : List UInt8) (0 : Int))))))) fun (kk2 : Bool → Option ((List UInt8) × Int)) => (bif (decide (a1 < (0 : Int))) then (kk2 true) else (kk2 (decide (a1 > (4096 : Int))))))
set_option maxRecDepth 100000 in
set_option maxHeartbeats 2000000 in
theorem f_lz_Expand_ok (fu : Nat) (v0_0 : Value) (a0 : (List S_api_Token)) (a1 : Int) {r : ((List UInt8) × Int)} (h : f_lz_Expand fu a0 a1 = some r) : FnOk Try.prog 126 [v0_0, (int .i64 a1)] [(fDat (tyList tyS_api_Token) [v0_0] a0)] [] (fun (i : Unit) => { val := (Value.tuple #[(str r.1), (int .i64 r.2)]) }) := by
 unfold f_lz_Expand at h
 refine fn_enter Try.func126 rfl Try.ntmps126 rfl (fun w0 Z0 => ?_)
 refine aw_sr ?_
 refine al_as rfl rfl ?_
 refine al_as rfl rfl ?_
 refine al_nt ?_
 refine aw_seq ?_
 obtain ⟨kk2, hkk2, h⟩ := lt_some h
 refine aw_seq_join (ι := Bool) (fun i => (memOf w0 Z0 [] [] [(fDat (tyList tyS_api_Token) [v0_0] a0)])) (fun i => (tab [(0, v0_0), (1, (int .i64 a1)), (15, (bool i))])) (fun i => kk2 i = some r) ?_ ?_
 ·rintro j1b15 h
  have h : kk2 j1b15 = some r := h
  rw [hkk2] at h
  dsimp only at h
  clear hkk2
  refine aw_show (m := (memOf w0 Z0 [] [] [(fDat (tyList tyS_api_Token) [v0_0] a0)])) (S := (tab [(0, v0_0), (1, (int .i64 a1)), (15, (bool j1b15))])) ?_
  refine aw_cond rfl (fun hb3 => ?_) (fun hb3 => ?_)
  ·replace h := bif_t hb3 h
   refine aw_sr ?_
   refine al_as rfl rfl ?_
   refine al_as rfl rfl ?_
   refine al_nt ?_
   refine aw_ret ?_
   refine aq_then_ret ?_
   obtain rfl := Option.some.inj h
   exact fn_ret () [] [] rfl rfl rfl rfl (res2 rfl rfl rfl) rfl rfl rfl (by decide)
  ·replace h := bif_f hb3 h
   refine aw_skip ?_
   refine aq_then ?_
   refine aw_seq ?_
   refine aw_sr ?_
   refine al_mv rfl rfl ?_
   obtain ⟨r5, hc4, h⟩ := opt_some h
   refine al_call (vs := [v0_0]) (f_lz_Check_ok fu v0_0 a0 hc4) [] [] [] (pre_fz 0 rfl pre_nil) rfl (by simp) (by decide) (.inl rfl) rfl Try.func167 rfl rfl rfl (fun _ => ?_)
   refine al_as rfl rfl ?_
   refine al_nt ?_
   refine aw_sr ?_
   refine al_mv rfl rfl ?_
   refine al_in rfl rfl rfl rfl ?_
   refine al_nt ?_
   refine aw_cond rfl (fun hb6 => ?_) (fun hb6 => ?_)
   ·replace h := bif_t hb6 h
    refine aw_sr ?_
    refine al_mv rfl rfl ?_
    refine al_as rfl rfl ?_
    refine al_as rfl rfl ?_
    refine al_nt ?_
    refine aw_ret ?_
    refine aq_then_ret ?_
    obtain rfl := Option.some.inj h
    exact fn_ret () [] [] rfl rfl rfl rfl (res2 rfl rfl rfl) rfl rfl rfl (by decide)
   ·replace h := bif_f hb6 h
    refine aw_skip ?_
    refine aq_tr ?_
    refine al_as rfl rfl ?_
    refine al_nt ?_
    obtain ⟨kk8, hkk8, h⟩ := lt_some h
    refine aw_seq_join (ι := Value × (List UInt8)) (fun i => (memOf w0 Z0 [] [(oRow i.1 5 tyU8 i.2)] [(fDat (tyList tyS_api_Token) [v0_0] a0)])) (fun i => (tab [(7, i.1)])) (fun i => kk8 i.2 = some r) ?_ ?_
    ·rintro ⟨j7v7, j7x7⟩ h
     have h : kk8 j7x7 = some r := h
     rw [hkk8] at h
     dsimp only at h
     clear hkk8
     refine aw_show (m := (memOf w0 Z0 [] [(oRow j7v7 5 tyU8 j7x7)] [(fDat (tyList tyS_api_Token) [v0_0] a0)])) (S := (tab [(7, j7v7)])) ?_
     refine aw_sr ?_
     refine al_mv rfl rfl ?_
     refine al_val (ov_toStrR 0 rfl rfl Try.underlying121 Try.underlying5 Try.underlying9 rfl) ?_
     refine al_as rfl rfl ?_
     refine al_as rfl rfl ?_
     refine al_nt ?_
     refine aw_ret ?_
     obtain rfl := Option.some.inj h
     exact fn_ret () [] [] rfl rfl rfl rfl (res2 rfl rfl rfl) rfl rfl rfl (by decide)
    ·clear hkk8
     refine aw_sr ?_
     refine al_mv rfl rfl ?_
     refine al_val (ov_lenD 0 rfl rfl Try.underlying147 rfl) ?_
     refine al_mv rfl rfl ?_
     refine al_nt ?_
     refine aw_block ?_
     refine aw_nilR 5 tyU8 ?_
     refine aw_state (aw_loop (ι := Value × (List UInt8) × Int) (fun i => (memOf w0 Z0 [] [(oRow i.1 5 tyU8 i.2.1)] [(fDat (tyList tyS_api_Token) [v0_0] a0)])) (fun i => (tab [(1, (int .i64 a1)), (7, i.1), (21, v0_0), (22, (int .i64 (a0.length : Int))), (23, (int .i64 i.2.2))])) (fun q i => f_lz_Expand_L11 a0 a1 kk8 fu q i.2.1 i.2.2 = some r) ?_ fu ((Value.slice none 0 0), ([] : List UInt8), (0 : Int)) h) (fun w a hm hs => norm hm hs [0] [0] [(1, (int .i64 a1)), (7, (Value.slice none 0 0)), (21, v0_0), (22, (int .i64 (a0.length : Int))), (23, (int .i64 (0 : Int)))] (by decide) ⟨rfl, rfl, rfl, rfl, rfl, trivial⟩)
     clear h
     rintro k10 ⟨l9v7, l9x7, l9i23⟩ h
     have h : f_lz_Expand_L11 a0 a1 kk8 fu k10 l9x7 l9i23 = some r := h
     obtain _ | k10 := k10
     · rw [f_lz_Expand_L11] at h; cases h
     rw [f_lz_Expand_L11] at h
     refine aw_show (m := (memOf w0 Z0 [] [(oRow l9v7 5 tyU8 l9x7)] [(fDat (tyList tyS_api_Token) [v0_0] a0)])) (S := (tab [(1, (int .i64 a1)), (7, l9v7), (21, v0_0), (22, (int .i64 (a0.length : Int))), (23, (int .i64 l9i23))])) ?_
     obtain ⟨kk12, hkk12, h⟩ := lt_some h
     refine aw_body_join (ι := Value × (List UInt8) × Int) (fun i => (memOf w0 Z0 [] [(oRow i.1 5 tyU8 i.2.1)] [(fDat (tyList tyS_api_Token) [v0_0] a0)])) (fun i => (tab [(1, (int .i64 a1)), (7, i.1), (21, v0_0), (22, (int .i64 (a0.length : Int))), (23, (int .i64 i.2.2))])) (fun i => kk12 i.2.1 i.2.2 = some r) (fun i h => aq_again k10 i (Nat.lt_succ_self _) (by rw [hkk12] at h; exact h) (fun w a hm hs => ⟨hm, hs⟩)) ?_
     clear hkk12
     refine aw_sr ?_
     refine al_in rfl rfl rfl rfl ?_
     refine al_nt ?_
     refine aw_seq ?_
     refine aw_cond rfl (fun hb13 => ?_) (fun hb13 => ?_)
     ·replace h := bif_t hb13 h
      refine aw_skip ?_
      refine aq_then ?_
      obtain ⟨kk15, hkk15, h⟩ := lt_some h
      refine aw_seq_join (ι := Value × (List UInt8)) (fun i => (memOf w0 Z0 [] [(oRow i.1 5 tyU8 i.2)] [(fDat (tyList tyS_api_Token) [v0_0] a0)])) (fun i => (tab [(1, (int .i64 a1)), (7, i.1), (21, v0_0), (22, (int .i64 (a0.length : Int))), (23, (int .i64 l9i23))])) (fun i => kk15 i.2 = some r) ?_ ?_
      ·rintro ⟨j14v7, j14x7⟩ h
       have h : kk15 j14x7 = some r := h
       rw [hkk15] at h
       dsimp only at h
       clear hkk15
       refine aw_show (m := (memOf w0 Z0 [] [(oRow j14v7 5 tyU8 j14x7)] [(fDat (tyList tyS_api_Token) [v0_0] a0)])) (S := (tab [(1, (int .i64 a1)), (7, j14v7), (21, v0_0), (22, (int .i64 (a0.length : Int))), (23, (int .i64 l9i23))])) ?_
       refine aw_region ?_
       refine al_in rfl rfl rfl rfl ?_
       refine al_mv rfl rfl ?_
       refine al_nil ?_
       exact aq_join (j14v7, j14x7, (IntKind.i64.wrap (l9i23 + (1 : Int)))) h (fun w a hm hs => norm hm hs [0] [0] [(1, (int .i64 a1)), (7, j14v7), (21, v0_0), (22, (int .i64 (a0.length : Int))), (23, (int .i64 (IntKind.i64.wrap (l9i23 + (1 : Int)))))] (by decide) ⟨rfl, rfl, rfl, rfl, rfl, trivial⟩)
      ·clear hkk15
       refine aw_block ?_
       refine aw_sr ?_
       obtain ⟨u16, hu17, h⟩ := opt_some h
       refine al_idxD 0 hu17 rfl rfl rfl Try.underlying147 sz205 rfl (fun p18 => ?_)
       refine al_val (ov_loadP (ds := [(int .u8 u16.Lit), (int .i64 u16.Len), (int .i64 u16.Dist)]) 0 rfl encS_api_Token rfl Try.underlying205 sz205 rfl rfl rfl) ?_
       refine al_alloc (zs := [(int .u8 (0 : Int)), (int .i64 (0 : Int)), (int .i64 (0 : Int))]) (zeroOf_to to205) rfl rfl (fun g19 => ?_)
       refine al_store (i := 0) (vs := [(int .u8 u16.Lit), (int .i64 u16.Len), (int .i64 u16.Dist)]) (cs' := [(int .u8 u16.Lit), (int .i64 u16.Len), (int .i64 u16.Dist)]) rfl rfl rfl sz205 (cv_rfl rfl) rfl (co_val rfl (co_val rfl (co_val rfl co_nil))) (Nat.le_of_ble_eq_true rfl) rfl rfl ?_
       refine al_nt ?_
       refine aw_seq ?_
       refine aw_sr ?_
       refine al_val (ov_fieldA (p := 2) rfl Try.underlying205 rfl sz3 rfl rfl rfl) ?_
       refine al_val (ov_load (i := 0) (v := (int .i64 u16.Dist)) rfl rfl Try.underlying3 sz3 rfl rfl rfl rfl) ?_
       refine al_mv rfl rfl ?_
       refine al_val (ov_lenR 1 rfl rfl Try.underlying121 rfl) ?_
       refine al_in rfl rfl rfl rfl ?_
       refine al_nt ?_
       refine aw_cond rfl (fun hb20 => ?_) (fun hb20 => ?_)
       ·replace h := bif_t hb20 h
        refine aw_sr ?_
        refine al_as rfl rfl ?_
        refine al_as rfl rfl ?_
        refine al_nt ?_
        refine aw_ret ?_
        refine aq_then_ret ?_
        refine aq_block_ret ?_
        refine aq_then_ret ?_
        refine aq_then_ret ?_
        refine aq_block_ret ?_
        refine aq_then_ret ?_
        obtain rfl := Option.some.inj h
        exact fn_ret () [] [] rfl rfl rfl rfl (res2 rfl rfl rfl) rfl rfl rfl (by decide)
       ·replace h := bif_f hb20 h
        refine aw_skip ?_
        refine aq_then ?_
        refine aw_seq ?_
        refine aw_sr ?_
        refine al_mv rfl rfl ?_
        refine al_val (ov_lenR 1 rfl rfl Try.underlying121 rfl) ?_
        refine al_val (ov_fieldA (p := 1) rfl Try.underlying205 rfl sz3 rfl rfl rfl) ?_
        refine al_val (ov_load (i := 0) (v := (int .i64 u16.Len)) rfl rfl Try.underlying3 sz3 rfl rfl rfl rfl) ?_
        refine al_val (ov_max rfl rfl rfl) ?_
        refine al_in rfl rfl rfl rfl ?_
        refine al_mv rfl rfl ?_
        refine al_in rfl rfl rfl rfl ?_
        refine al_nt ?_
        refine aw_cond rfl (fun hb21 => ?_) (fun hb21 => ?_)
        ·replace h := bif_t hb21 h
         refine aw_sr ?_
         refine al_as rfl rfl ?_
         refine al_as rfl rfl ?_
         refine al_nt ?_
         refine aw_ret ?_
         refine aq_then_ret ?_
         refine aq_block_ret ?_
         refine aq_then_ret ?_
         refine aq_then_ret ?_
         refine aq_block_ret ?_
         refine aq_then_ret ?_
         obtain rfl := Option.some.inj h
         exact fn_ret () [] [] rfl rfl rfl rfl (res2 rfl rfl rfl) rfl rfl rfl (by decide)
        ·replace h := bif_f hb21 h
         refine aw_skip ?_
         refine aq_then ?_
         obtain ⟨kk23, hkk23, h⟩ := lt_some h
         refine aw_seq_join (ι := Value × (List UInt8)) (fun i => (memOf w0 Z0 [] [(oRow i.1 5 tyU8 i.2), (oBox g19 205 [(int .u8 u16.Lit), (int .i64 u16.Len), (int .i64 u16.Dist)])] [(fDat (tyList tyS_api_Token) [v0_0] a0), (fPtr tyS_api_Token p18 u16)])) (fun i => (tab [(1, (int .i64 a1)), (7, i.1), (9, (ptr g19 0)), (21, v0_0), (22, (int .i64 (a0.length : Int))), (23, (int .i64 l9i23))])) (fun i => kk23 i.2 = some r) ?_ ?_
         ·rintro ⟨j22v7, j22x7⟩ h
          have h : kk23 j22x7 = some r := h
          rw [hkk23] at h
          dsimp only at h
          clear hkk23
          refine aw_show (m := (memOf w0 Z0 [] [(oRow j22v7 5 tyU8 j22x7), (oBox g19 205 [(int .u8 u16.Lit), (int .i64 u16.Len), (int .i64 u16.Dist)])] [(fDat (tyList tyS_api_Token) [v0_0] a0), (fPtr tyS_api_Token p18 u16)])) (S := (tab [(1, (int .i64 a1)), (7, j22v7), (9, (ptr g19 0)), (21, v0_0), (22, (int .i64 (a0.length : Int))), (23, (int .i64 l9i23))])) ?_
          refine aw_sr ?_
          refine al_val (ov_fieldA (p := 1) rfl Try.underlying205 rfl sz3 rfl rfl rfl) ?_
          refine al_val (ov_load (i := 1) (v := (int .i64 u16.Len)) rfl rfl Try.underlying3 sz3 rfl rfl rfl rfl) ?_
          refine al_mv rfl rfl ?_
          refine al_nt ?_
          refine aw_block ?_
          refine aw_state (aw_loop (ι := Value × (List UInt8) × Int) (fun i => (memOf w0 Z0 [] [(oRow i.1 5 tyU8 i.2.1), (oBox g19 205 [(int .u8 u16.Lit), (int .i64 u16.Len), (int .i64 u16.Dist)])] [(fDat (tyList tyS_api_Token) [v0_0] a0), (fPtr tyS_api_Token p18 u16)])) (fun i => (tab [(1, (int .i64 a1)), (7, i.1), (9, (ptr g19 0)), (21, v0_0), (22, (int .i64 (a0.length : Int))), (23, (int .i64 l9i23)), (49, (int .i64 u16.Len)), (50, (int .i64 i.2.2))])) (fun q i => f_lz_Expand_L26 kk15 u16 q i.2.1 i.2.2 = some r) ?_ fu (j22v7, j22x7, (0 : Int)) h) (fun w a hm hs => norm hm hs [0, 1] [0, 1] [(1, (int .i64 a1)), (7, j22v7), (9, (ptr g19 0)), (21, v0_0), (22, (int .i64 (a0.length : Int))), (23, (int .i64 l9i23)), (49, (int .i64 u16.Len)), (50, (int .i64 (0 : Int)))] (by decide) ⟨rfl, rfl, rfl, rfl, rfl, rfl, rfl, rfl, trivial⟩)
          clear h
          rintro k25 ⟨l24v7, l24x7, l24i50⟩ h
          have h : f_lz_Expand_L26 kk15 u16 k25 l24x7 l24i50 = some r := h
          obtain _ | k25 := k25
          · rw [f_lz_Expand_L26] at h; cases h
          rw [f_lz_Expand_L26] at h
          refine aw_show (m := (memOf w0 Z0 [] [(oRow l24v7 5 tyU8 l24x7), (oBox g19 205 [(int .u8 u16.Lit), (int .i64 u16.Len), (int .i64 u16.Dist)])] [(fDat (tyList tyS_api_Token) [v0_0] a0), (fPtr tyS_api_Token p18 u16)])) (S := (tab [(1, (int .i64 a1)), (7, l24v7), (9, (ptr g19 0)), (21, v0_0), (22, (int .i64 (a0.length : Int))), (23, (int .i64 l9i23)), (49, (int .i64 u16.Len)), (50, (int .i64 l24i50))])) ?_
          refine aw_sr ?_
          refine al_in rfl rfl rfl rfl ?_
          refine al_nt ?_
          refine aw_seq ?_
          refine aw_cond rfl (fun hb27 => ?_) (fun hb27 => ?_)
          ·replace h := bif_t hb27 h
           refine aw_skip ?_
           refine aq_then ?_
           refine aw_seq ?_
           refine aw_block ?_
           refine aw_region ?_
           refine al_mv rfl rfl ?_
           refine al_mv rfl rfl ?_
           refine al_mv rfl rfl ?_
           refine al_val (ov_lenR 0 rfl rfl Try.underlying121 rfl) ?_
           refine al_val (ov_fieldA (p := 2) rfl Try.underlying205 rfl sz3 rfl rfl rfl) ?_
           refine al_val (ov_load (i := 1) (v := (int .i64 u16.Dist)) rfl rfl Try.underlying3 sz3 rfl rfl rfl rfl) ?_
           refine al_in rfl rfl rfl rfl ?_
           obtain ⟨u28, hu29, h⟩ := opt_some h
           refine al_idxR 0 (at_some hu29).1 (at_some hu29).2.1 rfl rfl rfl Try.underlying121 sz5 rfl (fun p30 hp31 => ?_)
           refine al_val (ov_loadR (ds := [(int .u8 (u28.toNat : Int))]) 0 rfl hp31 (at_some hu29).2.2 (fun h => h) rfl Try.underlying5 sz5 rfl rfl rfl) ?_
           refine al_buildSlice (τ := tyU8) (e := 5) (k := 1) (sz := 0) (by_ := 0) (z := undef) (cs := [(int .u8 (u28.toNat : Int))]) (xs := [u28]) rfl (by decide) (fun w a hm hs => ⟨([(int .u8 (u28.toNat : Int))]).toArray, rfl, by simp only [List.map_toArray, List.map_cons, List.map_nil, hs.ev (x := .tmp 60) rfl]; exact run_bs [(int .u8 (u28.toNat : Int))] [(int .u8 (u28.toNat : Int))] Try.underlying121 to5 rfl rfl (bs_cons (l := [(int .u8 (u28.toNat : Int))]) (cs := []) (cv_rfl rfl) rfl bs_nil) hm⟩) (fun hm => ⟨_, _, rfl, (fun _ => rfl) hm, rfl⟩) rfl (fun v32 => ?_)
           obtain ⟨hc34, h⟩ := req_some h
           refine al_append 1 hc34.1 hc34.2 rfl (src_own (i := 1) 0 rfl) rfl rfl Try.underlying121 to5 rfl rfl rfl (fun v35 => ?_)
           refine al_as rfl rfl ?_
           refine al_nil ?_
           refine aq_block ?_
           refine aq_then ?_
           refine aw_region ?_
           refine al_in rfl rfl rfl rfl ?_
           refine al_mv rfl rfl ?_
           refine al_nil ?_
           exact aq_again k25 (v35, (l24x7 ++ ([u28])), (IntKind.i64.wrap (l24i50 + (1 : Int)))) (Nat.lt_succ_self _) h (fun w a hm hs => norm hm hs [1, 2] [0, 1] [(1, (int .i64 a1)), (7, v35), (9, (ptr g19 0)), (21, v0_0), (22, (int .i64 (a0.length : Int))), (23, (int .i64 l9i23)), (49, (int .i64 u16.Len)), (50, (int .i64 (IntKind.i64.wrap (l24i50 + (1 : Int)))))] (by decide) ⟨rfl, rfl, rfl, rfl, rfl, rfl, rfl, rfl, trivial⟩)
          ·replace h := bif_f hb27 h
           refine aw_exit ?_
           refine aq_then_exit ?_
           refine aq_then_exit ?_
           refine aq_block_exit ?_
           refine aq_block ?_
           exact aq_join (l24v7, l24x7) h (fun w a hm hs => norm hm hs [0] [0] [(1, (int .i64 a1)), (7, l24v7), (21, v0_0), (22, (int .i64 (a0.length : Int))), (23, (int .i64 l9i23))] (by decide) ⟨rfl, rfl, rfl, rfl, rfl, trivial⟩)
         ·clear hkk23
          refine aw_sr ?_
          refine al_val (ov_fieldA (p := 1) rfl Try.underlying205 rfl sz3 rfl rfl rfl) ?_
          refine al_val (ov_load (i := 0) (v := (int .i64 u16.Len)) rfl rfl Try.underlying3 sz3 rfl rfl rfl rfl) ?_
          refine al_in rfl rfl rfl rfl ?_
          refine al_nt ?_
          refine aw_cond rfl (fun hb36 => ?_) (fun hb36 => ?_)
          ·replace h := bif_t hb36 h
           refine aw_region ?_
           refine al_mv rfl rfl ?_
           refine al_val (ov_fieldA (p := 0) rfl Try.underlying205 rfl sz5 rfl rfl rfl) ?_
           refine al_val (ov_load (i := 0) (v := (int .u8 u16.Lit)) rfl rfl Try.underlying5 sz5 rfl rfl rfl rfl) ?_
           obtain ⟨hc38, h⟩ := req_some h
           refine al_buildSlice (τ := tyU8) (e := 5) (k := 1) (sz := 0) (by_ := 0) (z := undef) (cs := [(int .u8 u16.Lit)]) (xs := [(UInt8.ofNat (u16.Lit).toNat)]) rfl (by decide) (fun w a hm hs => ⟨([(int .u8 u16.Lit)]).toArray, rfl, by simp only [List.map_toArray, List.map_cons, List.map_nil, hs.ev (x := .tmp 45) rfl]; exact run_bs [(int .u8 u16.Lit)] [(int .u8 u16.Lit)] Try.underlying121 to5 rfl rfl (bs_cons (l := [(int .u8 u16.Lit)]) (cs := []) (cv_rfl rfl) rfl bs_nil) hm⟩) (fun hm => ⟨_, _, rfl, (fun _ => u8_rep hc38) hm, rfl⟩) rfl (fun v37 => ?_)
           obtain ⟨hc39, h⟩ := req_some h
           refine al_append 2 hc39.1 hc39.2 rfl (src_own (i := 2) 0 rfl) rfl rfl Try.underlying121 to5 rfl rfl rfl (fun v40 => ?_)
           refine al_as rfl rfl ?_
           refine al_nil ?_
           exact aq_join (v40, (l9x7 ++ ([(UInt8.ofNat (u16.Lit).toNat)]))) h (fun w a hm hs => norm hm hs [2, 1] [1, 0] [(1, (int .i64 a1)), (7, v40), (9, (ptr g19 0)), (21, v0_0), (22, (int .i64 (a0.length : Int))), (23, (int .i64 l9i23))] (by decide) ⟨rfl, rfl, rfl, rfl, rfl, rfl, trivial⟩)
          ·replace h := bif_f hb36 h
           refine aw_skip ?_
           exact aq_join (l9v7, l9x7) h (fun w a hm hs => norm hm hs [1, 0] [1, 0] [(1, (int .i64 a1)), (7, l9v7), (9, (ptr g19 0)), (21, v0_0), (22, (int .i64 (a0.length : Int))), (23, (int .i64 l9i23))] (by decide) ⟨rfl, rfl, rfl, rfl, rfl, rfl, trivial⟩)
     ·replace h := bif_f hb13 h
      refine aw_exit ?_
      refine aq_then_exit ?_
      refine aq_then_exit ?_
      refine aq_block_exit ?_
      exact aq_join (l9v7, l9x7) h (fun w a hm hs => norm hm hs [0] [0] [(7, l9v7)] (by decide) ⟨rfl, trivial⟩)
 ·clear hkk2
  refine aw_region ?_
  refine al_mv rfl rfl ?_
  refine al_in rfl rfl rfl rfl ?_
  refine al_mv rfl rfl ?_
  refine al_caseB 12 rfl (fun hb41 => ?_) (fun hb41 => ?_)
  ·replace h := bif_t hb41 h
   refine al_skip ?_
   refine al_skip ?_
   refine al_val (ov_pick_t rfl rfl rfl) ?_
   refine al_nil ?_
   exact aq_join true h (fun w a hm hs => norm hm hs [] [0] [(0, v0_0), (1, (int .i64 a1)), (15, (bool true))] (by decide) ⟨rfl, rfl, rfl, trivial⟩)
  ·replace h := bif_f hb41 h
   refine al_mv rfl rfl ?_
   refine al_in rfl rfl rfl rfl ?_
   refine al_val (ov_pick_f rfl rfl rfl) ?_
   refine al_nil ?_
   exact aq_join (decide (a1 > (4096 : Int))) h (fun w a hm hs => norm hm hs [] [0] [(0, v0_0), (1, (int .i64 a1)), (15, (bool (decide (a1 > (4096 : Int)))))] (by decide) ⟨rfl, rfl, rfl, trivial⟩)
def f___press_reader__next (fu : Nat) (a0 : S_press_reader) : Option S_press_reader := (lt (fun (j1s0_0 : (List UInt8)) => (bif (!(j1s0_0 == ([] : List UInt8))) then (some (S_press_reader.mk j1s0_0 (8 : Int))) else (some (S_press_reader.mk j1s0_0 a0.left)))) fun (kk2 : (List UInt8) → Option S_press_reader) => (bif (!(a0.s == ([] : List UInt8))) then (req (0 ≤ (1 : Int) ∧ (1 : Int) ≤ (a0.s.length : Int)) (kk2 (a0.s.drop ((1 : Int)).toNat))) else (kk2 a0.s)))
set_option maxRecDepth 100000 in
theorem f___press_reader__next_ok (fu : Nat) (bx0 : Nat) (a0 : S_press_reader) {r : S_press_reader} (h : f___press_reader__next fu a0 = some r) : FnOk Try.prog 195 [(ptr bx0 0)] [] [(oBox bx0 194 [(str a0.s), (int .i64 a0.left)])] (fun (i : Unit) => { val := (Value.tuple #[]), own := [(oBox bx0 194 [(str r.s), (int .i64 r.left)])] }) := by
 unfold f___press_reader__next at h
 refine fn_enter Try.func195 rfl Try.ntmps195 rfl (fun w0 Z0 => ?_)
 obtain ⟨kk2, hkk2, h⟩ := lt_some h
 refine aw_seq_join (ι := (List UInt8)) (fun i => (memOf w0 Z0 [(oBox bx0 194 [(str a0.s), (int .i64 a0.left)])] [(oBox bx0 194 [(str i), (int .i64 a0.left)])] [])) (fun i => (tab [(0, (ptr bx0 0))])) (fun i => kk2 i = some r) ?_ ?_
 ·rintro j1s0_0 h
  have h : kk2 j1s0_0 = some r := h
  rw [hkk2] at h
  dsimp only at h
  clear hkk2
  refine aw_show (m := (memOf w0 Z0 [(oBox bx0 194 [(str a0.s), (int .i64 a0.left)])] [(oBox bx0 194 [(str j1s0_0), (int .i64 a0.left)])] [])) (S := (tab [(0, (ptr bx0 0))])) ?_
  refine aw_sr ?_
  refine al_mv rfl rfl ?_
  refine al_val (ov_nilCheck rfl rfl) ?_
  refine al_val (ov_fieldA (p := 0) rfl Try.underlying194 rfl sz9 rfl rfl rfl) ?_
  refine al_val (ov_load (i := 0) (v := (str j1s0_0)) rfl rfl Try.underlying9 sz9 rfl rfl rfl rfl) ?_
  refine al_val (ov_strCmp rfl rfl rfl rfl) ?_
  refine al_nt ?_
  refine aw_cond rfl (fun hb3 => ?_) (fun hb3 => ?_)
  ·replace h := bif_t hb3 h
   refine aw_region ?_
   refine al_mv rfl rfl ?_
   refine al_val (ov_nilCheck rfl rfl) ?_
   refine al_val (ov_fieldA (p := 1) rfl Try.underlying194 rfl sz3 rfl rfl rfl) ?_
   refine al_store (i := 0) (vs := [(int .i64 (8 : Int))]) (cs' := [(str j1s0_0), (int .i64 (8 : Int))]) rfl rfl rfl sz3 (cv_rfl rfl) rfl (co_val rfl co_nil) (Nat.le_of_ble_eq_true rfl) rfl rfl ?_
   refine al_nil ?_
   refine fn_end ?_
   obtain rfl := Option.some.inj h
   exact fn_ret () [0] [] rfl rfl rfl rfl (resC rfl (resN) rfl) rfl rfl rfl (by decide)
  ·replace h := bif_f hb3 h
   refine aw_skip ?_
   refine fn_end ?_
   obtain rfl := Option.some.inj h
   exact fn_ret () [0] [] rfl rfl rfl rfl (resC rfl (resN) rfl) rfl rfl rfl (by decide)
 ·clear hkk2
  refine aw_sr ?_
  refine al_mv rfl rfl ?_
  refine al_val (ov_nilCheck rfl rfl) ?_
  refine al_val (ov_fieldA (p := 0) rfl Try.underlying194 rfl sz9 rfl rfl rfl) ?_
  refine al_val (ov_load (i := 0) (v := (str a0.s)) rfl rfl Try.underlying9 sz9 rfl rfl rfl rfl) ?_
  refine al_val (ov_strCmp rfl rfl rfl rfl) ?_
  refine al_nt ?_
  refine aw_cond rfl (fun hb4 => ?_) (fun hb4 => ?_)
  ·replace h := bif_t hb4 h
   refine aw_region ?_
   refine al_mv rfl rfl ?_
   refine al_mv rfl rfl ?_
   refine al_val (ov_nilCheck rfl rfl) ?_
   refine al_val (ov_fieldA (p := 0) rfl Try.underlying194 rfl sz9 rfl rfl rfl) ?_
   refine al_val (ov_load (i := 0) (v := (str a0.s)) rfl rfl Try.underlying9 sz9 rfl rfl rfl rfl) ?_
   obtain ⟨hc5, h⟩ := req_some h
   refine al_val (ov_strFrom hc5.1 hc5.2 Try.underlying9 rfl rfl rfl) ?_
   refine al_val (ov_nilCheck rfl rfl) ?_
   refine al_val (ov_fieldA (p := 0) rfl Try.underlying194 rfl sz9 rfl rfl rfl) ?_
   refine al_store (i := 0) (vs := [(str (a0.s.drop ((1 : Int)).toNat))]) (cs' := [(str (a0.s.drop ((1 : Int)).toNat)), (int .i64 a0.left)]) rfl rfl rfl sz9 (cv_rfl rfl) rfl (co_val rfl co_nil) (Nat.le_of_ble_eq_true rfl) rfl rfl ?_
   refine al_nil ?_
   exact aq_join (a0.s.drop ((1 : Int)).toNat) h (fun w a hm hs => norm hm hs [0] [] [(0, (ptr bx0 0))] (by decide) ⟨rfl, trivial⟩)
  ·replace h := bif_f hb4 h
   refine aw_skip ?_
   exact aq_join a0.s h (fun w a hm hs => norm hm hs [0] [] [(0, (ptr bx0 0))] (by decide) ⟨rfl, trivial⟩)
def f___press_reader__bit (fu : Nat) (a0 : S_press_reader) : Option (Int × Bool × S_press_reader) := (bif (a0.left == (0 : Int)) then (some ((0 : Int), false, a0)) else (req (0 ≤ (0 : Int) ∧ (0 : Int) < (a0.s.length : Int)) (req (0 ≤ (IntKind.i64.wrap (a0.left - (1 : Int)))) (lt (fun (j4s0_0 : (List UInt8)) (j4i0_1 : Int) => (some ((IntKind.i64.wrap (bits .and .u8 (((En.bAt a0.s (0 : Int))).fdiv (2 ^ min ((IntKind.i64.wrap (a0.left - (1 : Int)))).toNat (IntKind.bits .u8))) (1 : Int))), true, (S_press_reader.mk j4s0_0 j4i0_1)))) fun (kk5 : (List UInt8) → Int → Option (Int × Bool × S_press_reader)) => (bif ((IntKind.i64.wrap (a0.left - (1 : Int))) == (0 : Int)) then (opt (f___press_reader__next fu (S_press_reader.mk a0.s (IntKind.i64.wrap (a0.left - (1 : Int))))) fun (r8 : S_press_reader) => (kk5 r8.s r8.left)) else (kk5 a0.s (IntKind.i64.wrap (a0.left - (1 : Int)))))))))
set_option maxRecDepth 100000 in
theorem f___press_reader__bit_ok (fu : Nat) (bx0 : Nat) (a0 : S_press_reader) {r : (Int × Bool × S_press_reader)} (h : f___press_reader__bit fu a0 = some r) : FnOk Try.prog 165 [(ptr bx0 0)] [] [(oBox bx0 194 [(str a0.s), (int .i64 a0.left)])] (fun (i : Unit) => { val := (Value.tuple #[(int .i64 r.1), (bool r.2.1)]), own := [(oBox bx0 194 [(str r.2.2.s), (int .i64 r.2.2.left)])] }) := by
 unfold f___press_reader__bit at h
 refine fn_enter Try.func165 rfl Try.ntmps165 rfl (fun w0 Z0 => ?_)
 refine aw_sr ?_
 refine al_as rfl rfl ?_
 refine al_as rfl rfl ?_
 refine al_nt ?_
 refine aw_seq ?_
 refine aw_sr ?_
 refine al_mv rfl rfl ?_
 refine al_val (ov_nilCheck rfl rfl) ?_
 refine al_val (ov_fieldA (p := 1) rfl Try.underlying194 rfl sz3 rfl rfl rfl) ?_
 refine al_val (ov_load (i := 0) (v := (int .i64 a0.left)) rfl rfl Try.underlying3 sz3 rfl rfl rfl rfl) ?_
 refine al_in rfl rfl rfl rfl ?_
 refine al_nt ?_
 refine aw_cond rfl (fun hb1 => ?_) (fun hb1 => ?_)
 ·replace h := bif_t hb1 h
  refine aw_sr ?_
  refine al_as rfl rfl ?_
  refine al_as rfl rfl ?_
  refine al_nt ?_
  refine aw_ret ?_
  refine aq_then_ret ?_
  obtain rfl := Option.some.inj h
  exact fn_ret () [0] [] rfl rfl rfl rfl (res2 rfl rfl rfl) rfl rfl rfl (by decide)
 ·replace h := bif_f hb1 h
  refine aw_skip ?_
  refine aq_tr ?_
  refine al_mv rfl rfl ?_
  refine al_val (ov_nilCheck rfl rfl) ?_
  refine al_val (ov_fieldA (p := 1) rfl Try.underlying194 rfl sz3 rfl rfl rfl) ?_
  refine al_val (ov_load (i := 0) (v := (int .i64 a0.left)) rfl rfl Try.underlying3 sz3 rfl rfl rfl rfl) ?_
  refine al_in rfl rfl rfl rfl ?_
  refine al_val (ov_nilCheck rfl rfl) ?_
  refine al_val (ov_fieldA (p := 1) rfl Try.underlying194 rfl sz3 rfl rfl rfl) ?_
  refine al_store (i := 0) (vs := [(int .i64 (IntKind.i64.wrap (a0.left - (1 : Int))))]) (cs' := [(str a0.s), (int .i64 (IntKind.i64.wrap (a0.left - (1 : Int))))]) rfl rfl rfl sz3 (cv_rfl rfl) rfl (co_val rfl co_nil) (Nat.le_of_ble_eq_true rfl) rfl rfl ?_
  refine al_nt ?_
  refine aw_seq ?_
  obtain ⟨hc2, h⟩ := req_some h
  obtain ⟨hc3, h⟩ := req_some h
  refine aw_region_open [⟨0, 17, Unit, fun _ => { val := (ptr bx0 0) }⟩, ⟨1, 18, Unit, fun _ => { val := (ptr bx0 0) }⟩, ⟨2, 19, Unit, fun _ => { val := (ptr bx0 0) }⟩, ⟨3, 20, Unit, fun _ => { val := (str a0.s) }⟩, ⟨4, 21, Unit, fun _ => { val := (int .u8 (En.bAt a0.s (0 : Int))) }⟩, ⟨5, 22, Unit, fun _ => { val := (ptr bx0 0) }⟩, ⟨6, 23, Unit, fun _ => { val := (ptr bx0 0) }⟩, ⟨7, 24, Unit, fun _ => { val := (ptr bx0 1) }⟩, ⟨8, 25, Unit, fun _ => { val := (int .i64 (IntKind.i64.wrap (a0.left - (1 : Int)))) }⟩, ⟨9, 26, Unit, fun _ => { val := (int .u8 (((En.bAt a0.s (0 : Int))).fdiv (2 ^ min ((IntKind.i64.wrap (a0.left - (1 : Int)))).toNat (IntKind.bits .u8)))) }⟩, ⟨10, 27, Unit, fun _ => { val := (int .u8 (bits .and .u8 (((En.bAt a0.s (0 : Int))).fdiv (2 ^ min ((IntKind.i64.wrap (a0.left - (1 : Int)))).toNat (IntKind.bits .u8))) (1 : Int))) }⟩, ⟨11, 28, Unit, fun _ => { val := (int .i64 (IntKind.i64.wrap (bits .and .u8 (((En.bAt a0.s (0 : Int))).fdiv (2 ^ min ((IntKind.i64.wrap (a0.left - (1 : Int)))).toNat (IntKind.bits .u8))) (1 : Int)))) }⟩] (tab [(0, (ptr bx0 0))]) mixed (fun a hs => hs.tab _ (allT_mem ⟨rfl, trivial⟩)) ?_
  refine ta_show (m := (memOf w0 Z0 [(oBox bx0 194 [(str a0.s), (int .i64 a0.left)])] [(oBox bx0 194 [(str a0.s), (int .i64 (IntKind.i64.wrap (a0.left - (1 : Int))))])] [])) (S := (tab [(0, (ptr bx0 0))])) ?_
  refine ta_step 12 _ [0, 1, 2, 3, 4, 5, 6, 7, 8, 9, 10, 11] [17, 18, 19, 20, 21, 22, 23, 24, 25, 26, 27, 28] [0, 1, 2, 3, 4, 5, 6, 7, 8, 9, 10, 11] [] [⟨0, 17, Unit, fun _ => { val := (ptr bx0 0) }⟩, ⟨1, 18, Unit, fun _ => { val := (ptr bx0 0) }⟩, ⟨2, 19, Unit, fun _ => { val := (ptr bx0 0) }⟩, ⟨3, 20, Unit, fun _ => { val := (str a0.s) }⟩, ⟨4, 21, Unit, fun _ => { val := (int .u8 (En.bAt a0.s (0 : Int))) }⟩, ⟨5, 22, Unit, fun _ => { val := (ptr bx0 0) }⟩, ⟨6, 23, Unit, fun _ => { val := (ptr bx0 0) }⟩, ⟨7, 24, Unit, fun _ => { val := (ptr bx0 1) }⟩, ⟨8, 25, Unit, fun _ => { val := (int .i64 (IntKind.i64.wrap (a0.left - (1 : Int)))) }⟩, ⟨9, 26, Unit, fun _ => { val := (int .u8 (((En.bAt a0.s (0 : Int))).fdiv (2 ^ min ((IntKind.i64.wrap (a0.left - (1 : Int)))).toNat (IntKind.bits .u8)))) }⟩, ⟨10, 27, Unit, fun _ => { val := (int .u8 (bits .and .u8 (((En.bAt a0.s (0 : Int))).fdiv (2 ^ min ((IntKind.i64.wrap (a0.left - (1 : Int)))).toNat (IntKind.bits .u8))) (1 : Int))) }⟩, ⟨11, 28, Unit, fun _ => { val := (int .i64 (IntKind.i64.wrap (bits .and .u8 (((En.bAt a0.s (0 : Int))).fdiv (2 ^ min ((IntKind.i64.wrap (a0.left - (1 : Int)))).toNat (IntKind.bits .u8))) (1 : Int)))) }⟩] [] rfl rfl rfl (by kernel_rfl) rfl rfl rfl ⟨⟨_, rfl, [], rfl, by
 intro X_ Y_ F_ K_ hK_
 refine al_show (m := Mem.plus (memOf w0 Z0 [(oBox bx0 194 [(str a0.s), (int .i64 a0.left)])] [(oBox bx0 194 [(str a0.s), (int .i64 (IntKind.i64.wrap (a0.left - (1 : Int))))])] []) X_ Y_) (S := over (tab [(0, (ptr bx0 0))]) F_) ?_
 refine al_mv rfl rfl ?_
 refine al_nil ?_
 exact fr_fin hK_ ()⟩, ⟨_, rfl, [0], rfl, by
 intro _
 intro X_ Y_ F_ K_ hK_
 refine al_show (m := Mem.plus (memOf w0 Z0 [(oBox bx0 194 [(str a0.s), (int .i64 a0.left)])] [(oBox bx0 194 [(str a0.s), (int .i64 (IntKind.i64.wrap (a0.left - (1 : Int))))])] []) X_ Y_) (S := over (put (tab [(0, (ptr bx0 0))]) 17 (ptr bx0 0)) F_) ?_
 refine al_val (ov_nilCheck rfl rfl) ?_
 refine al_nil ?_
 exact fr_fin hK_ ()⟩, ⟨_, rfl, [1], rfl, by
 intro _
 intro X_ Y_ F_ K_ hK_
 refine al_show (m := Mem.plus (memOf w0 Z0 [(oBox bx0 194 [(str a0.s), (int .i64 a0.left)])] [(oBox bx0 194 [(str a0.s), (int .i64 (IntKind.i64.wrap (a0.left - (1 : Int))))])] []) X_ Y_) (S := over (put (tab [(0, (ptr bx0 0))]) 18 (ptr bx0 0)) F_) ?_
 refine al_val (ov_fieldA (p := 0) rfl Try.underlying194 rfl sz9 rfl rfl rfl) ?_
 refine al_nil ?_
 exact fr_fin hK_ ()⟩, ⟨_, rfl, [2], rfl, by
 intro _
 intro X_ Y_ F_ K_ hK_
 refine al_show (m := Mem.plus (memOf w0 Z0 [(oBox bx0 194 [(str a0.s), (int .i64 a0.left)])] [(oBox bx0 194 [(str a0.s), (int .i64 (IntKind.i64.wrap (a0.left - (1 : Int))))])] []) X_ Y_) (S := over (put (tab [(0, (ptr bx0 0))]) 19 (ptr bx0 0)) F_) ?_
 refine al_val (ov_load (i := 0) (v := (str a0.s)) rfl rfl Try.underlying9 sz9 rfl rfl rfl rfl) ?_
 refine al_nil ?_
 exact fr_fin hK_ ()⟩, ⟨_, rfl, [3], rfl, by
 intro _
 intro X_ Y_ F_ K_ hK_
 refine al_show (m := Mem.plus (memOf w0 Z0 [(oBox bx0 194 [(str a0.s), (int .i64 a0.left)])] [(oBox bx0 194 [(str a0.s), (int .i64 (IntKind.i64.wrap (a0.left - (1 : Int))))])] []) X_ Y_) (S := over (put (tab [(0, (ptr bx0 0))]) 20 (str a0.s)) F_) ?_
 refine al_val (ov_strIdx hc2.1 hc2.2 Try.underlying9 rfl rfl rfl) ?_
 refine al_nil ?_
 exact fr_fin hK_ ()⟩, ⟨_, rfl, [], rfl, by
 intro X_ Y_ F_ K_ hK_
 refine al_show (m := Mem.plus (memOf w0 Z0 [(oBox bx0 194 [(str a0.s), (int .i64 a0.left)])] [(oBox bx0 194 [(str a0.s), (int .i64 (IntKind.i64.wrap (a0.left - (1 : Int))))])] []) X_ Y_) (S := over (tab [(0, (ptr bx0 0))]) F_) ?_
 refine al_mv rfl rfl ?_
 refine al_nil ?_
 exact fr_fin hK_ ()⟩, ⟨_, rfl, [5], rfl, by
 intro _
 intro X_ Y_ F_ K_ hK_
 refine al_show (m := Mem.plus (memOf w0 Z0 [(oBox bx0 194 [(str a0.s), (int .i64 a0.left)])] [(oBox bx0 194 [(str a0.s), (int .i64 (IntKind.i64.wrap (a0.left - (1 : Int))))])] []) X_ Y_) (S := over (put (tab [(0, (ptr bx0 0))]) 22 (ptr bx0 0)) F_) ?_
 refine al_val (ov_nilCheck rfl rfl) ?_
 refine al_nil ?_
 exact fr_fin hK_ ()⟩, ⟨_, rfl, [6], rfl, by
 intro _
 intro X_ Y_ F_ K_ hK_
 refine al_show (m := Mem.plus (memOf w0 Z0 [(oBox bx0 194 [(str a0.s), (int .i64 a0.left)])] [(oBox bx0 194 [(str a0.s), (int .i64 (IntKind.i64.wrap (a0.left - (1 : Int))))])] []) X_ Y_) (S := over (put (tab [(0, (ptr bx0 0))]) 23 (ptr bx0 0)) F_) ?_
 refine al_val (ov_fieldA (p := 1) rfl Try.underlying194 rfl sz3 rfl rfl rfl) ?_
 refine al_nil ?_
 exact fr_fin hK_ ()⟩, ⟨_, rfl, [7], rfl, by
 intro _
 intro X_ Y_ F_ K_ hK_
 refine al_show (m := Mem.plus (memOf w0 Z0 [(oBox bx0 194 [(str a0.s), (int .i64 a0.left)])] [(oBox bx0 194 [(str a0.s), (int .i64 (IntKind.i64.wrap (a0.left - (1 : Int))))])] []) X_ Y_) (S := over (put (tab [(0, (ptr bx0 0))]) 24 (ptr bx0 1)) F_) ?_
 refine al_val (ov_load (i := 0) (v := (int .i64 (IntKind.i64.wrap (a0.left - (1 : Int))))) rfl rfl Try.underlying3 sz3 rfl rfl rfl rfl) ?_
 refine al_nil ?_
 exact fr_fin hK_ ()⟩, ⟨_, rfl, [4, 8], rfl, by
 intro _
 intro _
 intro X_ Y_ F_ K_ hK_
 refine al_show (m := Mem.plus (memOf w0 Z0 [(oBox bx0 194 [(str a0.s), (int .i64 a0.left)])] [(oBox bx0 194 [(str a0.s), (int .i64 (IntKind.i64.wrap (a0.left - (1 : Int))))])] []) X_ Y_) (S := over (put (put (tab [(0, (ptr bx0 0))]) 21 (int .u8 (En.bAt a0.s (0 : Int)))) 25 (int .i64 (IntKind.i64.wrap (a0.left - (1 : Int))))) F_) ?_
 refine al_val (ov_shr hc3 rfl rfl rfl) ?_
 refine al_nil ?_
 exact fr_fin hK_ ()⟩, ⟨_, rfl, [9], rfl, by
 intro _
 intro X_ Y_ F_ K_ hK_
 refine al_show (m := Mem.plus (memOf w0 Z0 [(oBox bx0 194 [(str a0.s), (int .i64 a0.left)])] [(oBox bx0 194 [(str a0.s), (int .i64 (IntKind.i64.wrap (a0.left - (1 : Int))))])] []) X_ Y_) (S := over (put (tab [(0, (ptr bx0 0))]) 26 (int .u8 (((En.bAt a0.s (0 : Int))).fdiv (2 ^ min ((IntKind.i64.wrap (a0.left - (1 : Int)))).toNat (IntKind.bits .u8))))) F_) ?_
 refine al_in rfl rfl rfl rfl ?_
 refine al_nil ?_
 exact fr_fin hK_ ()⟩, ⟨_, rfl, [10], rfl, by
 intro _
 intro X_ Y_ F_ K_ hK_
 refine al_show (m := Mem.plus (memOf w0 Z0 [(oBox bx0 194 [(str a0.s), (int .i64 a0.left)])] [(oBox bx0 194 [(str a0.s), (int .i64 (IntKind.i64.wrap (a0.left - (1 : Int))))])] []) X_ Y_) (S := over (put (tab [(0, (ptr bx0 0))]) 27 (int .u8 (bits .and .u8 (((En.bAt a0.s (0 : Int))).fdiv (2 ^ min ((IntKind.i64.wrap (a0.left - (1 : Int)))).toNat (IntKind.bits .u8))) (1 : Int)))) F_) ?_
 refine al_val (ov_convInt (by rw [Try.underlying5]; rfl) Try.underlying3 rfl rfl) ?_
 refine al_nil ?_
 exact fr_fin hK_ ()⟩, trivial⟩ ?_
  intro _
  intro _
  intro _
  intro _
  intro _
  intro _
  intro _
  intro _
  intro _
  intro _
  intro _
  intro _
  intro X_ Y_ F_ K_ hK_
  refine al_show (m := Mem.plus (memOf w0 Z0 [(oBox bx0 194 [(str a0.s), (int .i64 a0.left)])] [(oBox bx0 194 [(str a0.s), (int .i64 (IntKind.i64.wrap (a0.left - (1 : Int))))])] []) X_ Y_) (S := over (put (put (put (put (put (put (put (put (put (put (put (put (tab [(0, (ptr bx0 0))]) 17 (ptr bx0 0)) 18 (ptr bx0 0)) 19 (ptr bx0 0)) 20 (str a0.s)) 21 (int .u8 (En.bAt a0.s (0 : Int)))) 22 (ptr bx0 0)) 23 (ptr bx0 0)) 24 (ptr bx0 1)) 25 (int .i64 (IntKind.i64.wrap (a0.left - (1 : Int))))) 26 (int .u8 (((En.bAt a0.s (0 : Int))).fdiv (2 ^ min ((IntKind.i64.wrap (a0.left - (1 : Int)))).toNat (IntKind.bits .u8))))) 27 (int .u8 (bits .and .u8 (((En.bAt a0.s (0 : Int))).fdiv (2 ^ min ((IntKind.i64.wrap (a0.left - (1 : Int)))).toNat (IntKind.bits .u8))) (1 : Int)))) 28 (int .i64 (IntKind.i64.wrap (bits .and .u8 (((En.bAt a0.s (0 : Int))).fdiv (2 ^ min ((IntKind.i64.wrap (a0.left - (1 : Int)))).toNat (IntKind.bits .u8))) (1 : Int))))) F_) ?_
  refine al_as rfl rfl ?_
  refine al_nil ?_
  refine aq_show (m := Mem.plus (memOf w0 Z0 [(oBox bx0 194 [(str a0.s), (int .i64 a0.left)])] [(oBox bx0 194 [(str a0.s), (int .i64 (IntKind.i64.wrap (a0.left - (1 : Int))))])] []) X_ Y_) ?_
  refine aq_next hK_ [0] [] [(0, (ptr bx0 0)), (4, (int .i64 (IntKind.i64.wrap (bits .and .u8 (((En.bAt a0.s (0 : Int))).fdiv (2 ^ min ((IntKind.i64.wrap (a0.left - (1 : Int)))).toNat (IntKind.bits .u8))) (1 : Int)))))] [] [] rfl rfl (by decide) rfl ⟨rfl, rfl, trivial⟩ trivial ?_
  clear hK_ K_ F_ X_ Y_
  refine ta_show (m := (memOf w0 Z0 [(oBox bx0 194 [(str a0.s), (int .i64 a0.left)])] [(oBox bx0 194 [(str a0.s), (int .i64 (IntKind.i64.wrap (a0.left - (1 : Int))))])] [])) (S := (tab [(0, (ptr bx0 0)), (4, (int .i64 (IntKind.i64.wrap (bits .and .u8 (((En.bAt a0.s (0 : Int))).fdiv (2 ^ min ((IntKind.i64.wrap (a0.left - (1 : Int)))).toNat (IntKind.bits .u8))) (1 : Int)))))])) ?_
  refine ta_end [] [] rfl rfl (by kernel_rfl) rfl trivial ?_
  refine aq_show (m := (memOf w0 Z0 [(oBox bx0 194 [(str a0.s), (int .i64 a0.left)])] [(oBox bx0 194 [(str a0.s), (int .i64 (IntKind.i64.wrap (a0.left - (1 : Int))))])] [])) (S := (tab [(0, (ptr bx0 0)), (4, (int .i64 (IntKind.i64.wrap (bits .and .u8 (((En.bAt a0.s (0 : Int))).fdiv (2 ^ min ((IntKind.i64.wrap (a0.left - (1 : Int)))).toNat (IntKind.bits .u8))) (1 : Int)))))])) ?_
  refine aq_then ?_
  obtain ⟨kk5, hkk5, h⟩ := lt_some h
  refine aw_seq_join (ι := (List UInt8) × Int) (fun i => (memOf w0 Z0 [(oBox bx0 194 [(str a0.s), (int .i64 a0.left)])] [(oBox bx0 194 [(str i.1), (int .i64 i.2)])] [])) (fun i => (tab [(0, (ptr bx0 0)), (4, (int .i64 (IntKind.i64.wrap (bits .and .u8 (((En.bAt a0.s (0 : Int))).fdiv (2 ^ min ((IntKind.i64.wrap (a0.left - (1 : Int)))).toNat (IntKind.bits .u8))) (1 : Int)))))])) (fun i => kk5 i.1 i.2 = some r) ?_ ?_
  ·rintro ⟨j4s0_0, j4i0_1⟩ h
   have h : kk5 j4s0_0 j4i0_1 = some r := h
   rw [hkk5] at h
   dsimp only at h
   clear hkk5
   refine aw_show (m := (memOf w0 Z0 [(oBox bx0 194 [(str a0.s), (int .i64 a0.left)])] [(oBox bx0 194 [(str j4s0_0), (int .i64 j4i0_1)])] [])) (S := (tab [(0, (ptr bx0 0)), (4, (int .i64 (IntKind.i64.wrap (bits .and .u8 (((En.bAt a0.s (0 : Int))).fdiv (2 ^ min ((IntKind.i64.wrap (a0.left - (1 : Int)))).toNat (IntKind.bits .u8))) (1 : Int)))))])) ?_
   refine aw_sr ?_
   refine al_mv rfl rfl ?_
   refine al_as rfl rfl ?_
   refine al_as rfl rfl ?_
   refine al_nt ?_
   refine aw_ret ?_
   obtain rfl := Option.some.inj h
   exact fn_ret () [0] [] rfl rfl rfl rfl (res2 rfl rfl rfl) rfl rfl rfl (by decide)
  ·clear hkk5
   refine aw_sr ?_
   refine al_mv rfl rfl ?_
   refine al_val (ov_nilCheck rfl rfl) ?_
   refine al_val (ov_fieldA (p := 1) rfl Try.underlying194 rfl sz3 rfl rfl rfl) ?_
   refine al_val (ov_load (i := 0) (v := (int .i64 (IntKind.i64.wrap (a0.left - (1 : Int))))) rfl rfl Try.underlying3 sz3 rfl rfl rfl rfl) ?_
   refine al_in rfl rfl rfl rfl ?_
   refine al_nt ?_
   refine aw_cond rfl (fun hb6 => ?_) (fun hb6 => ?_)
   ·replace h := bif_t hb6 h
    refine aw_region ?_
    refine al_mv rfl rfl ?_
    obtain ⟨r8, hc7, h⟩ := opt_some h
    refine al_call (vs := [(ptr bx0 0)]) (f___press_reader__next_ok fu bx0 (S_press_reader.mk a0.s (IntKind.i64.wrap (a0.left - (1 : Int)))) hc7) [] [0] [] pre_nil rfl (by simp) (by decide) (.inl rfl) rfl Try.func195 rfl rfl rfl (fun _ => ?_)
    refine al_nil ?_
    exact aq_join (r8.s, r8.left) h (fun w a hm hs => norm hm hs [0] [] [(0, (ptr bx0 0)), (4, (int .i64 (IntKind.i64.wrap (bits .and .u8 (((En.bAt a0.s (0 : Int))).fdiv (2 ^ min ((IntKind.i64.wrap (a0.left - (1 : Int)))).toNat (IntKind.bits .u8))) (1 : Int)))))] (by decide) ⟨rfl, rfl, trivial⟩)
   ·replace h := bif_f hb6 h
    refine aw_skip ?_
    exact aq_join (a0.s, (IntKind.i64.wrap (a0.left - (1 : Int)))) h (fun w a hm hs => norm hm hs [0] [] [(0, (ptr bx0 0)), (4, (int .i64 (IntKind.i64.wrap (bits .and .u8 (((En.bAt a0.s (0 : Int))).fdiv (2 ^ min ((IntKind.i64.wrap (a0.left - (1 : Int)))).toNat (IntKind.bits .u8))) (1 : Int)))))] (by decide) ⟨rfl, rfl, trivial⟩)
def f___press_reader__symbol_L4 (a1 : (List (S_press_code × Int))) (fu : Nat) : Nat → (List UInt8) → Int → Int → Int → Option (Int × Int × S_press_reader × (List (S_press_code × Int)))
  | 0, _, _, _, _ => none
  | k3 + 1, l2s0_0, l2i0_1, l2i6_0, l2i6_1 => (bif (l2i6_1 == (48 : Int)) then (some ((0 : Int), (4 : Int), (S_press_reader.mk l2s0_0 l2i0_1), a1)) else (opt (f___press_reader__bit fu (S_press_reader.mk l2s0_0 l2i0_1)) fun (r7 : (Int × Bool × S_press_reader)) => (bif (!r7.2.1) then (some ((0 : Int), (3 : Int), (S_press_reader.mk r7.2.2.s r7.2.2.left), a1)) else (req ((Lit.int .i64 ((S_press_code.mk (bits .or .i64 (IntKind.i64.wrap (l2i6_0 * 2 ^ min ((1 : Int)).toNat (IntKind.bits .i64))) r7.1) (IntKind.i64.wrap (l2i6_1 + (1 : Int)))).bits)).wf = true) (req ((Lit.int .i64 ((S_press_code.mk (bits .or .i64 (IntKind.i64.wrap (l2i6_0 * 2 ^ min ((1 : Int)).toNat (IntKind.bits .i64))) r7.1) (IntKind.i64.wrap (l2i6_1 + (1 : Int)))).n)).wf = true) (bif (gget a1 (S_press_code.mk (bits .or .i64 (IntKind.i64.wrap (l2i6_0 * 2 ^ min ((1 : Int)).toNat (IntKind.bits .i64))) r7.1) (IntKind.i64.wrap (l2i6_1 + (1 : Int))))).isSome then (some (((gget a1 (S_press_code.mk (bits .or .i64 (IntKind.i64.wrap (l2i6_0 * 2 ^ min ((1 : Int)).toNat (IntKind.bits .i64))) r7.1) (IntKind.i64.wrap (l2i6_1 + (1 : Int))))).getD (0 : Int)), (0 : Int), (S_press_reader.mk r7.2.2.s r7.2.2.left), a1)) else (f___press_reader__symbol_L4 a1 fu k3 r7.2.2.s r7.2.2.left (bits .or .i64 (IntKind.i64.wrap (l2i6_0 * 2 ^ min ((1 : Int)).toNat (IntKind.bits .i64))) r7.1) (IntKind.i64.wrap (l2i6_1 + (1 : Int))))))))))
def f___press_reader__symbol (fu : Nat) (a0 : S_press_reader) (a1 : (List (S_press_code × Int))) : Option (Int × Int × S_press_reader × (List (S_press_code × Int))) := (f___press_reader__symbol_L4 a1 fu fu a0.s a0.left (0 : Int) (0 : Int))
set_option maxRecDepth 100000 in
theorem f___press_reader__symbol_ok (fu : Nat) (bx0 : Nat) (a0 : S_press_reader) (gm1 : Nat) (a1 : (List (S_press_code × Int))) {r : (Int × Int × S_press_reader × (List (S_press_code × Int)))} (h : f___press_reader__symbol fu a0 a1 = some r) : FnOk Try.prog 123 [(ptr bx0 0), (Value.map (some gm1))] [] [(oBox bx0 194 [(str a0.s), (int .i64 a0.left)]), (oMapK Try.prog 191 gm1 (fun x : S_press_code => ag [(int .i64 x.bits), (int .i64 x.n)]) (fun x : Int => int .u8 x) a1)] (fun (i : Unit) => { val := (Value.tuple #[(int .u8 r.1), (int .i64 r.2.1)]), own := [(oBox bx0 194 [(str r.2.2.1.s), (int .i64 r.2.2.1.left)]), (oMapK Try.prog 191 gm1 (fun x : S_press_code => ag [(int .i64 x.bits), (int .i64 x.n)]) (fun x : Int => int .u8 x) r.2.2.2)] }) := by
 unfold f___press_reader__symbol at h
 refine fn_enter Try.func123 rfl Try.ntmps123 rfl (fun w0 Z0 => ?_)
 refine aw_sr ?_
 refine al_as rfl rfl ?_
 refine al_as rfl rfl ?_
 refine al_nt ?_
 refine aw_sr ?_
 refine al_val (ov_build (cells := ([(int .i64 (0 : Int)), (int .i64 (0 : Int))]).toArray) (cs := [(int .i64 (0 : Int)), (int .i64 (0 : Int))]) rfl (fun w a hm hs => by simp only [List.map_toArray, List.map_cons, List.map_nil, List.toList_toArray]; kernel_rfl)) ?_
 refine al_alloc (zs := [(int .i64 (0 : Int)), (int .i64 (0 : Int))]) (zeroOf_to to191) rfl rfl (fun g1 => ?_)
 refine al_store (i := 0) (vs := [(int .i64 (0 : Int)), (int .i64 (0 : Int))]) (cs' := [(int .i64 (0 : Int)), (int .i64 (0 : Int))]) rfl rfl rfl sz191 (cv_rfl rfl) rfl (co_val rfl (co_val rfl co_nil)) (Nat.le_of_ble_eq_true rfl) rfl rfl ?_
 refine al_nt ?_
 refine aw_block ?_
 refine aw_state (aw_loop (ι := (List UInt8) × Int × Int × Int) (fun i => (memOf w0 Z0 [(oBox bx0 194 [(str a0.s), (int .i64 a0.left)]), (oMapK Try.prog 191 gm1 (fun x : S_press_code => ag [(int .i64 x.bits), (int .i64 x.n)]) (fun x : Int => int .u8 x) a1)] [(oBox bx0 194 [(str i.1), (int .i64 i.2.1)]), (oMapK Try.prog 191 gm1 (fun x : S_press_code => ag [(int .i64 x.bits), (int .i64 x.n)]) (fun x : Int => int .u8 x) a1), (oBox g1 191 [(int .i64 i.2.2.1), (int .i64 i.2.2.2)])] [])) (fun i => (tab [(0, (ptr bx0 0)), (1, (Value.map (some gm1))), (6, (ptr g1 0))])) (fun q i => f___press_reader__symbol_L4 a1 fu q i.1 i.2.1 i.2.2.1 i.2.2.2 = some r) ?_ fu (a0.s, a0.left, (0 : Int), (0 : Int)) h) (fun w a hm hs => norm hm hs [1, 2, 0] [] [(0, (ptr bx0 0)), (1, (Value.map (some gm1))), (6, (ptr g1 0))] (by decide) ⟨rfl, rfl, rfl, trivial⟩)
 clear h
 rintro k3 ⟨l2s0_0, l2i0_1, l2i6_0, l2i6_1⟩ h
 have h : f___press_reader__symbol_L4 a1 fu k3 l2s0_0 l2i0_1 l2i6_0 l2i6_1 = some r := h
 obtain _ | k3 := k3
 · rw [f___press_reader__symbol_L4] at h; cases h
 rw [f___press_reader__symbol_L4] at h
 refine aw_show (m := (memOf w0 Z0 [(oBox bx0 194 [(str a0.s), (int .i64 a0.left)]), (oMapK Try.prog 191 gm1 (fun x : S_press_code => ag [(int .i64 x.bits), (int .i64 x.n)]) (fun x : Int => int .u8 x) a1)] [(oBox bx0 194 [(str l2s0_0), (int .i64 l2i0_1)]), (oMapK Try.prog 191 gm1 (fun x : S_press_code => ag [(int .i64 x.bits), (int .i64 x.n)]) (fun x : Int => int .u8 x) a1), (oBox g1 191 [(int .i64 l2i6_0), (int .i64 l2i6_1)])] [])) (S := (tab [(0, (ptr bx0 0)), (1, (Value.map (some gm1))), (6, (ptr g1 0))])) ?_
 refine aw_block ?_
 refine aw_seq ?_
 refine aw_sr ?_
 refine al_val (ov_fieldA (p := 1) rfl Try.underlying191 rfl sz3 rfl rfl rfl) ?_
 refine al_val (ov_load (i := 2) (v := (int .i64 l2i6_1)) rfl rfl Try.underlying3 sz3 rfl rfl rfl rfl) ?_
 refine al_in rfl rfl rfl rfl ?_
 refine al_nt ?_
 refine aw_cond rfl (fun hb5 => ?_) (fun hb5 => ?_)
 ·replace h := bif_t hb5 h
  refine aw_sr ?_
  refine al_as rfl rfl ?_
  refine al_as rfl rfl ?_
  refine al_nt ?_
  refine aw_ret ?_
  refine aq_then_ret ?_
  refine aq_block_ret ?_
  refine aq_then_ret ?_
  refine aq_block_ret ?_
  obtain rfl := Option.some.inj h
  exact fn_ret () [0, 1] [] rfl rfl rfl rfl (res2 rfl rfl rfl) rfl rfl rfl (by decide)
 ·replace h := bif_f hb5 h
  refine aw_skip ?_
  refine aq_tr ?_
  refine al_mv rfl rfl ?_
  obtain ⟨r7, hc6, h⟩ := opt_some h
  refine al_call (vs := [(ptr bx0 0)]) (f___press_reader__bit_ok fu bx0 (S_press_reader.mk l2s0_0 l2i0_1) hc6) [] [0] [1, 2] pre_nil rfl (by simp) (by decide) (.inl rfl) rfl Try.func165 rfl rfl rfl (fun _ => ?_)
  refine al_mv rfl rfl ?_
  refine al_ex rfl rfl rfl ?_
  refine al_ex rfl rfl rfl ?_
  refine al_as rfl rfl ?_
  refine al_as rfl rfl ?_
  refine al_nt ?_
  refine aw_seq ?_
  refine aw_sr ?_
  refine al_mv rfl rfl ?_
  refine al_val (ov_not rfl rfl) ?_
  refine al_nt ?_
  refine aw_cond rfl (fun hb8 => ?_) (fun hb8 => ?_)
  ·replace h := bif_t hb8 h
   refine aw_sr ?_
   refine al_as rfl rfl ?_
   refine al_as rfl rfl ?_
   refine al_nt ?_
   refine aw_ret ?_
   refine aq_then_ret ?_
   refine aq_block_ret ?_
   refine aq_then_ret ?_
   refine aq_block_ret ?_
   obtain rfl := Option.some.inj h
   exact fn_ret () [0, 1] [] rfl rfl rfl rfl (res2 rfl rfl rfl) rfl rfl rfl (by decide)
  ·replace h := bif_f hb8 h
   refine aw_skip ?_
   refine aq_tr ?_
   refine al_val (ov_fieldA (p := 0) rfl Try.underlying191 rfl sz3 rfl rfl rfl) ?_
   refine al_val (ov_load (i := 2) (v := (int .i64 l2i6_0)) rfl rfl Try.underlying3 sz3 rfl rfl rfl rfl) ?_
   refine al_val (ov_shl (by decide) rfl rfl rfl) ?_
   refine al_mv rfl rfl ?_
   refine al_in rfl rfl rfl rfl ?_
   refine al_val (ov_fieldA (p := 1) rfl Try.underlying191 rfl sz3 rfl rfl rfl) ?_
   refine al_val (ov_load (i := 2) (v := (int .i64 l2i6_1)) rfl rfl Try.underlying3 sz3 rfl rfl rfl rfl) ?_
   refine al_in rfl rfl rfl rfl ?_
   refine al_val (ov_build (cells := ([(int .i64 (bits .or .i64 (IntKind.i64.wrap (l2i6_0 * 2 ^ min ((1 : Int)).toNat (IntKind.bits .i64))) r7.1)), (int .i64 (IntKind.i64.wrap (l2i6_1 + (1 : Int))))]).toArray) (cs := [(int .i64 (bits .or .i64 (IntKind.i64.wrap (l2i6_0 * 2 ^ min ((1 : Int)).toNat (IntKind.bits .i64))) r7.1)), (int .i64 (IntKind.i64.wrap (l2i6_1 + (1 : Int))))]) rfl (fun w a hm hs => by simp only [List.map_toArray, List.map_cons, List.map_nil, List.toList_toArray, hs.ev (x := .tmp 26) rfl, hs.ev (x := .tmp 29) rfl]; kernel_rfl)) ?_
   refine al_store (i := 2) (vs := [(int .i64 (bits .or .i64 (IntKind.i64.wrap (l2i6_0 * 2 ^ min ((1 : Int)).toNat (IntKind.bits .i64))) r7.1)), (int .i64 (IntKind.i64.wrap (l2i6_1 + (1 : Int))))]) (cs' := [(int .i64 (bits .or .i64 (IntKind.i64.wrap (l2i6_0 * 2 ^ min ((1 : Int)).toNat (IntKind.bits .i64))) r7.1)), (int .i64 (IntKind.i64.wrap (l2i6_1 + (1 : Int))))]) rfl rfl rfl sz191 (cv_rfl rfl) rfl (co_val rfl (co_val rfl co_nil)) (Nat.le_of_ble_eq_true rfl) rfl rfl ?_
   refine al_nt ?_
   refine aw_sr ?_
   refine al_mv rfl rfl ?_
   refine al_val (ov_load (i := 2) (v := (ag [(int .i64 (bits .or .i64 (IntKind.i64.wrap (l2i6_0 * 2 ^ min ((1 : Int)).toNat (IntKind.bits .i64))) r7.1)), (int .i64 (IntKind.i64.wrap (l2i6_1 + (1 : Int))))])) rfl rfl Try.underlying191 sz191 rfl rfl rfl rfl) ?_
   obtain ⟨hc9, h⟩ := req_some h
   obtain ⟨hc10, h⟩ := req_some h
   refine al_val (v := (Value.tuple #[(int .u8 ((gget a1 (S_press_code.mk (bits .or .i64 (IntKind.i64.wrap (l2i6_0 * 2 ^ min ((1 : Int)).toNat (IntKind.bits .i64))) r7.1) (IntKind.i64.wrap (l2i6_1 + (1 : Int))))).getD (0 : Int))), (bool (gget a1 (S_press_code.mk (bits .or .i64 (IntKind.i64.wrap (l2i6_0 * 2 ^ min ((1 : Int)).toNat (IntKind.bits .i64))) r7.1) (IntKind.i64.wrap (l2i6_1 + (1 : Int))))).isSome)])) (ov_lookupOkK (k := (S_press_code.mk (bits .or .i64 (IntKind.i64.wrap (l2i6_0 * 2 ^ min ((1 : Int)).toNat (IntKind.bits .i64))) r7.1) (IntKind.i64.wrap (l2i6_1 + (1 : Int))))) (ek := (fun x : S_press_code => ag [(int .i64 x.bits), (int .i64 x.n)])) (ew := (fun x : Int => int .u8 x)) (z := (0 : Int)) 1 kd191 ki191 (kw191 (S_press_code.mk (bits .or .i64 (IntKind.i64.wrap (l2i6_0 * 2 ^ min ((1 : Int)).toNat (IntKind.bits .i64))) r7.1) (IntKind.i64.wrap (l2i6_1 + (1 : Int)))) hc9 hc10) rfl rfl rfl Try.underlying189 (zeroOf_to to5) rfl) ?_
   refine al_mv rfl rfl ?_
   refine al_ex rfl rfl rfl ?_
   refine al_ex rfl rfl rfl ?_
   refine al_as rfl rfl ?_
   refine al_as rfl rfl ?_
   refine al_nt ?_
   refine aw_sr ?_
   refine al_mv rfl rfl ?_
   refine al_nt ?_
   refine aw_cond rfl (fun hb11 => ?_) (fun hb11 => ?_)
   ·replace h := bif_t hb11 h
    refine aw_sr ?_
    refine al_mv rfl rfl ?_
    refine al_as rfl rfl ?_
    refine al_as rfl rfl ?_
    refine al_nt ?_
    refine aw_ret ?_
    refine aq_block_ret ?_
    refine aq_then_ret ?_
    refine aq_block_ret ?_
    obtain rfl := Option.some.inj h
    exact fn_ret () [0, 1] [] rfl rfl rfl rfl (res2 rfl rfl rfl) rfl rfl rfl (by decide)
   ·replace h := bif_f hb11 h
    refine aw_skip ?_
    refine aq_block ?_
    exact aq_again k3 (r7.2.2.s, r7.2.2.left, (bits .or .i64 (IntKind.i64.wrap (l2i6_0 * 2 ^ min ((1 : Int)).toNat (IntKind.bits .i64))) r7.1), (IntKind.i64.wrap (l2i6_1 + (1 : Int)))) (Nat.lt_succ_self _) h (fun w a hm hs => norm hm hs [0, 1, 2] [] [(0, (ptr bx0 0)), (1, (Value.map (some gm1))), (6, (ptr g1 0))] (by decide) ⟨rfl, rfl, rfl, trivial⟩)
def f___press_reader__rest (fu : Nat) (a0 : S_press_reader) : Option (Bool × S_press_reader) := (bif (a0.s == ([] : List UInt8)) then (some (true, a0)) else (lt (fun (j2b9 : Bool) => (bif j2b9 then (some (false, a0)) else (req (0 ≤ (0 : Int) ∧ (0 : Int) < (a0.s.length : Int)) (req (0 ≤ a0.left) (some (((bits .and .u8 (En.bAt a0.s (0 : Int)) (IntKind.u8.wrap ((IntKind.u8.wrap ((1 : Int) * 2 ^ min (a0.left).toNat (IntKind.bits .u8))) - (1 : Int)))) == (0 : Int)), a0)))))) fun (kk3 : Bool → Option (Bool × S_press_reader)) => (bif (a0.left == (8 : Int)) then (kk3 true) else (kk3 (decide ((a0.s.length : Int) > (1 : Int)))))))
set_option maxRecDepth 100000 in
theorem f___press_reader__rest_ok (fu : Nat) (bx0 : Nat) (a0 : S_press_reader) {r : (Bool × S_press_reader)} (h : f___press_reader__rest fu a0 = some r) : FnOk Try.prog 124 [(ptr bx0 0)] [] [(oBox bx0 194 [(str a0.s), (int .i64 a0.left)])] (fun (i : Unit) => { val := (bool r.1), own := [(oBox bx0 194 [(str r.2.s), (int .i64 r.2.left)])] }) := by
 unfold f___press_reader__rest at h
 refine fn_enter Try.func124 rfl Try.ntmps124 rfl (fun w0 Z0 => ?_)
 refine aw_sr ?_
 refine al_as rfl rfl ?_
 refine al_nt ?_
 refine aw_seq ?_
 refine aw_block ?_
 refine aw_sr ?_
 refine al_mv rfl rfl ?_
 refine al_val (ov_nilCheck rfl rfl) ?_
 refine al_val (ov_fieldA (p := 0) rfl Try.underlying194 rfl sz9 rfl rfl rfl) ?_
 refine al_val (ov_load (i := 0) (v := (str a0.s)) rfl rfl Try.underlying9 sz9 rfl rfl rfl rfl) ?_
 refine al_val (ov_strCmp rfl rfl rfl rfl) ?_
 refine al_as rfl rfl ?_
 refine al_nt ?_
 refine aw_cond rfl (fun hb1 => ?_) (fun hb1 => ?_)
 ·replace h := bif_t hb1 h
  refine aw_sr ?_
  refine al_as rfl rfl ?_
  refine al_nt ?_
  refine aw_ret ?_
  refine aq_block_ret ?_
  refine aq_then_ret ?_
  obtain rfl := Option.some.inj h
  exact fn_ret () [0] [] rfl rfl rfl rfl (res1 rfl rfl) rfl rfl rfl (by decide)
 ·replace h := bif_f hb1 h
  obtain ⟨kk3, hkk3, h⟩ := lt_some h
  refine aw_seq_join (ι := Bool) (fun i => (memOf w0 Z0 [(oBox bx0 194 [(str a0.s), (int .i64 a0.left)])] [(oBox bx0 194 [(str a0.s), (int .i64 a0.left)])] [])) (fun i => (tab [(0, (ptr bx0 0)), (9, (bool i))])) (fun i => kk3 i = some r) ?_ ?_
  ·rintro j2b9 h
   have h : kk3 j2b9 = some r := h
   rw [hkk3] at h
   dsimp only at h
   clear hkk3
   refine aw_show (m := (memOf w0 Z0 [(oBox bx0 194 [(str a0.s), (int .i64 a0.left)])] [(oBox bx0 194 [(str a0.s), (int .i64 a0.left)])] [])) (S := (tab [(0, (ptr bx0 0)), (9, (bool j2b9))])) ?_
   refine aw_cond rfl (fun hb4 => ?_) (fun hb4 => ?_)
   ·replace h := bif_t hb4 h
    refine aw_sr ?_
    refine al_as rfl rfl ?_
    refine al_nt ?_
    refine aw_ret ?_
    refine aq_block_ret ?_
    refine aq_then_ret ?_
    obtain rfl := Option.some.inj h
    exact fn_ret () [0] [] rfl rfl rfl rfl (res1 rfl rfl) rfl rfl rfl (by decide)
   ·replace h := bif_f hb4 h
    refine aw_skip ?_
    refine aq_block ?_
    refine aq_then ?_
    refine aw_seq ?_
    obtain ⟨hc5, h⟩ := req_some h
    obtain ⟨hc6, h⟩ := req_some h
    refine aw_region_open [⟨0, 23, Unit, fun _ => { val := (ptr bx0 0) }⟩, ⟨1, 24, Unit, fun _ => { val := (ptr bx0 0) }⟩, ⟨2, 25, Unit, fun _ => { val := (ptr bx0 0) }⟩, ⟨3, 26, Unit, fun _ => { val := (str a0.s) }⟩, ⟨4, 27, Unit, fun _ => { val := (int .u8 (En.bAt a0.s (0 : Int))) }⟩, ⟨5, 28, Unit, fun _ => { val := (ptr bx0 0) }⟩, ⟨6, 29, Unit, fun _ => { val := (ptr bx0 0) }⟩, ⟨7, 30, Unit, fun _ => { val := (ptr bx0 1) }⟩, ⟨8, 31, Unit, fun _ => { val := (int .i64 a0.left) }⟩, ⟨9, 32, Unit, fun _ => { val := (int .u8 (IntKind.u8.wrap ((1 : Int) * 2 ^ min (a0.left).toNat (IntKind.bits .u8)))) }⟩, ⟨10, 33, Unit, fun _ => { val := (int .u8 (IntKind.u8.wrap ((IntKind.u8.wrap ((1 : Int) * 2 ^ min (a0.left).toNat (IntKind.bits .u8))) - (1 : Int)))) }⟩, ⟨11, 34, Unit, fun _ => { val := (int .u8 (bits .and .u8 (En.bAt a0.s (0 : Int)) (IntKind.u8.wrap ((IntKind.u8.wrap ((1 : Int) * 2 ^ min (a0.left).toNat (IntKind.bits .u8))) - (1 : Int))))) }⟩, ⟨12, 35, Unit, fun _ => { val := (bool ((bits .and .u8 (En.bAt a0.s (0 : Int)) (IntKind.u8.wrap ((IntKind.u8.wrap ((1 : Int) * 2 ^ min (a0.left).toNat (IntKind.bits .u8))) - (1 : Int)))) == (0 : Int))) }⟩] (tab [(0, (ptr bx0 0))]) mixed (fun a hs => hs.tab _ (allT_mem ⟨rfl, trivial⟩)) ?_
    refine ta_show (m := (memOf w0 Z0 [(oBox bx0 194 [(str a0.s), (int .i64 a0.left)])] [(oBox bx0 194 [(str a0.s), (int .i64 a0.left)])] [])) (S := (tab [(0, (ptr bx0 0))])) ?_
    refine ta_step 13 _ [0, 1, 2, 3, 4, 5, 6, 7, 8, 9, 10, 11, 12] [23, 24, 25, 26, 27, 28, 29, 30, 31, 32, 33, 34, 35] [0, 1, 2, 3, 4, 5, 6, 7, 8, 9, 10, 11, 12] [] [⟨0, 23, Unit, fun _ => { val := (ptr bx0 0) }⟩, ⟨1, 24, Unit, fun _ => { val := (ptr bx0 0) }⟩, ⟨2, 25, Unit, fun _ => { val := (ptr bx0 0) }⟩, ⟨3, 26, Unit, fun _ => { val := (str a0.s) }⟩, ⟨4, 27, Unit, fun _ => { val := (int .u8 (En.bAt a0.s (0 : Int))) }⟩, ⟨5, 28, Unit, fun _ => { val := (ptr bx0 0) }⟩, ⟨6, 29, Unit, fun _ => { val := (ptr bx0 0) }⟩, ⟨7, 30, Unit, fun _ => { val := (ptr bx0 1) }⟩, ⟨8, 31, Unit, fun _ => { val := (int .i64 a0.left) }⟩, ⟨9, 32, Unit, fun _ => { val := (int .u8 (IntKind.u8.wrap ((1 : Int) * 2 ^ min (a0.left).toNat (IntKind.bits .u8)))) }⟩, ⟨10, 33, Unit, fun _ => { val := (int .u8 (IntKind.u8.wrap ((IntKind.u8.wrap ((1 : Int) * 2 ^ min (a0.left).toNat (IntKind.bits .u8))) - (1 : Int)))) }⟩, ⟨11, 34, Unit, fun _ => { val := (int .u8 (bits .and .u8 (En.bAt a0.s (0 : Int)) (IntKind.u8.wrap ((IntKind.u8.wrap ((1 : Int) * 2 ^ min (a0.left).toNat (IntKind.bits .u8))) - (1 : Int))))) }⟩, ⟨12, 35, Unit, fun _ => { val := (bool ((bits .and .u8 (En.bAt a0.s (0 : Int)) (IntKind.u8.wrap ((IntKind.u8.wrap ((1 : Int) * 2 ^ min (a0.left).toNat (IntKind.bits .u8))) - (1 : Int)))) == (0 : Int))) }⟩] [] rfl rfl rfl (by kernel_rfl) rfl rfl rfl ⟨⟨_, rfl, [], rfl, by
 intro X_ Y_ F_ K_ hK_
 refine al_show (m := Mem.plus (memOf w0 Z0 [(oBox bx0 194 [(str a0.s), (int .i64 a0.left)])] [(oBox bx0 194 [(str a0.s), (int .i64 a0.left)])] []) X_ Y_) (S := over (tab [(0, (ptr bx0 0))]) F_) ?_
 refine al_mv rfl rfl ?_
 refine al_nil ?_
 exact fr_fin hK_ ()⟩, ⟨_, rfl, [0], rfl, by
 intro _
 intro X_ Y_ F_ K_ hK_
 refine al_show (m := Mem.plus (memOf w0 Z0 [(oBox bx0 194 [(str a0.s), (int .i64 a0.left)])] [(oBox bx0 194 [(str a0.s), (int .i64 a0.left)])] []) X_ Y_) (S := over (put (tab [(0, (ptr bx0 0))]) 23 (ptr bx0 0)) F_) ?_
 refine al_val (ov_nilCheck rfl rfl) ?_
 refine al_nil ?_
 exact fr_fin hK_ ()⟩, ⟨_, rfl, [1], rfl, by
 intro _
 intro X_ Y_ F_ K_ hK_
 refine al_show (m := Mem.plus (memOf w0 Z0 [(oBox bx0 194 [(str a0.s), (int .i64 a0.left)])] [(oBox bx0 194 [(str a0.s), (int .i64 a0.left)])] []) X_ Y_) (S := over (put (tab [(0, (ptr bx0 0))]) 24 (ptr bx0 0)) F_) ?_
 refine al_val (ov_fieldA (p := 0) rfl Try.underlying194 rfl sz9 rfl rfl rfl) ?_
 refine al_nil ?_
 exact fr_fin hK_ ()⟩, ⟨_, rfl, [2], rfl, by
 intro _
 intro X_ Y_ F_ K_ hK_
 refine al_show (m := Mem.plus (memOf w0 Z0 [(oBox bx0 194 [(str a0.s), (int .i64 a0.left)])] [(oBox bx0 194 [(str a0.s), (int .i64 a0.left)])] []) X_ Y_) (S := over (put (tab [(0, (ptr bx0 0))]) 25 (ptr bx0 0)) F_) ?_
 refine al_val (ov_load (i := 0) (v := (str a0.s)) rfl rfl Try.underlying9 sz9 rfl rfl rfl rfl) ?_
 refine al_nil ?_
 exact fr_fin hK_ ()⟩, ⟨_, rfl, [3], rfl, by
 intro _
 intro X_ Y_ F_ K_ hK_
 refine al_show (m := Mem.plus (memOf w0 Z0 [(oBox bx0 194 [(str a0.s), (int .i64 a0.left)])] [(oBox bx0 194 [(str a0.s), (int .i64 a0.left)])] []) X_ Y_) (S := over (put (tab [(0, (ptr bx0 0))]) 26 (str a0.s)) F_) ?_
 refine al_val (ov_strIdx hc5.1 hc5.2 Try.underlying9 rfl rfl rfl) ?_
 refine al_nil ?_
 exact fr_fin hK_ ()⟩, ⟨_, rfl, [], rfl, by
 intro X_ Y_ F_ K_ hK_
 refine al_show (m := Mem.plus (memOf w0 Z0 [(oBox bx0 194 [(str a0.s), (int .i64 a0.left)])] [(oBox bx0 194 [(str a0.s), (int .i64 a0.left)])] []) X_ Y_) (S := over (tab [(0, (ptr bx0 0))]) F_) ?_
 refine al_mv rfl rfl ?_
 refine al_nil ?_
 exact fr_fin hK_ ()⟩, ⟨_, rfl, [5], rfl, by
 intro _
 intro X_ Y_ F_ K_ hK_
 refine al_show (m := Mem.plus (memOf w0 Z0 [(oBox bx0 194 [(str a0.s), (int .i64 a0.left)])] [(oBox bx0 194 [(str a0.s), (int .i64 a0.left)])] []) X_ Y_) (S := over (put (tab [(0, (ptr bx0 0))]) 28 (ptr bx0 0)) F_) ?_
 refine al_val (ov_nilCheck rfl rfl) ?_
 refine al_nil ?_
 exact fr_fin hK_ ()⟩, ⟨_, rfl, [6], rfl, by
 intro _
 intro X_ Y_ F_ K_ hK_
 refine al_show (m := Mem.plus (memOf w0 Z0 [(oBox bx0 194 [(str a0.s), (int .i64 a0.left)])] [(oBox bx0 194 [(str a0.s), (int .i64 a0.left)])] []) X_ Y_) (S := over (put (tab [(0, (ptr bx0 0))]) 29 (ptr bx0 0)) F_) ?_
 refine al_val (ov_fieldA (p := 1) rfl Try.underlying194 rfl sz3 rfl rfl rfl) ?_
 refine al_nil ?_
 exact fr_fin hK_ ()⟩, ⟨_, rfl, [7], rfl, by
 intro _
 intro X_ Y_ F_ K_ hK_
 refine al_show (m := Mem.plus (memOf w0 Z0 [(oBox bx0 194 [(str a0.s), (int .i64 a0.left)])] [(oBox bx0 194 [(str a0.s), (int .i64 a0.left)])] []) X_ Y_) (S := over (put (tab [(0, (ptr bx0 0))]) 30 (ptr bx0 1)) F_) ?_
 refine al_val (ov_load (i := 0) (v := (int .i64 a0.left)) rfl rfl Try.underlying3 sz3 rfl rfl rfl rfl) ?_
 refine al_nil ?_
 exact fr_fin hK_ ()⟩, ⟨_, rfl, [8], rfl, by
 intro _
 intro X_ Y_ F_ K_ hK_
 refine al_show (m := Mem.plus (memOf w0 Z0 [(oBox bx0 194 [(str a0.s), (int .i64 a0.left)])] [(oBox bx0 194 [(str a0.s), (int .i64 a0.left)])] []) X_ Y_) (S := over (put (tab [(0, (ptr bx0 0))]) 31 (int .i64 a0.left)) F_) ?_
 refine al_val (ov_shl hc6 rfl rfl rfl) ?_
 refine al_nil ?_
 exact fr_fin hK_ ()⟩, ⟨_, rfl, [9], rfl, by
 intro _
 intro X_ Y_ F_ K_ hK_
 refine al_show (m := Mem.plus (memOf w0 Z0 [(oBox bx0 194 [(str a0.s), (int .i64 a0.left)])] [(oBox bx0 194 [(str a0.s), (int .i64 a0.left)])] []) X_ Y_) (S := over (put (tab [(0, (ptr bx0 0))]) 32 (int .u8 (IntKind.u8.wrap ((1 : Int) * 2 ^ min (a0.left).toNat (IntKind.bits .u8))))) F_) ?_
 refine al_in rfl rfl rfl rfl ?_
 refine al_nil ?_
 exact fr_fin hK_ ()⟩, ⟨_, rfl, [4, 10], rfl, by
 intro _
 intro _
 intro X_ Y_ F_ K_ hK_
 refine al_show (m := Mem.plus (memOf w0 Z0 [(oBox bx0 194 [(str a0.s), (int .i64 a0.left)])] [(oBox bx0 194 [(str a0.s), (int .i64 a0.left)])] []) X_ Y_) (S := over (put (put (tab [(0, (ptr bx0 0))]) 27 (int .u8 (En.bAt a0.s (0 : Int)))) 33 (int .u8 (IntKind.u8.wrap ((IntKind.u8.wrap ((1 : Int) * 2 ^ min (a0.left).toNat (IntKind.bits .u8))) - (1 : Int))))) F_) ?_
 refine al_in rfl rfl rfl rfl ?_
 refine al_nil ?_
 exact fr_fin hK_ ()⟩, ⟨_, rfl, [11], rfl, by
 intro _
 intro X_ Y_ F_ K_ hK_
 refine al_show (m := Mem.plus (memOf w0 Z0 [(oBox bx0 194 [(str a0.s), (int .i64 a0.left)])] [(oBox bx0 194 [(str a0.s), (int .i64 a0.left)])] []) X_ Y_) (S := over (put (tab [(0, (ptr bx0 0))]) 34 (int .u8 (bits .and .u8 (En.bAt a0.s (0 : Int)) (IntKind.u8.wrap ((IntKind.u8.wrap ((1 : Int) * 2 ^ min (a0.left).toNat (IntKind.bits .u8))) - (1 : Int)))))) F_) ?_
 refine al_in rfl rfl rfl rfl ?_
 refine al_nil ?_
 exact fr_fin hK_ ()⟩, trivial⟩ ?_
    intro _
    intro _
    intro _
    intro _
    intro _
    intro _
    intro _
    intro _
    intro _
    intro _
    intro _
    intro _
    intro _
    intro X_ Y_ F_ K_ hK_
    refine al_show (m := Mem.plus (memOf w0 Z0 [(oBox bx0 194 [(str a0.s), (int .i64 a0.left)])] [(oBox bx0 194 [(str a0.s), (int .i64 a0.left)])] []) X_ Y_) (S := over (put (put (put (put (put (put (put (put (put (put (put (put (put (tab [(0, (ptr bx0 0))]) 23 (ptr bx0 0)) 24 (ptr bx0 0)) 25 (ptr bx0 0)) 26 (str a0.s)) 27 (int .u8 (En.bAt a0.s (0 : Int)))) 28 (ptr bx0 0)) 29 (ptr bx0 0)) 30 (ptr bx0 1)) 31 (int .i64 a0.left)) 32 (int .u8 (IntKind.u8.wrap ((1 : Int) * 2 ^ min (a0.left).toNat (IntKind.bits .u8))))) 33 (int .u8 (IntKind.u8.wrap ((IntKind.u8.wrap ((1 : Int) * 2 ^ min (a0.left).toNat (IntKind.bits .u8))) - (1 : Int))))) 34 (int .u8 (bits .and .u8 (En.bAt a0.s (0 : Int)) (IntKind.u8.wrap ((IntKind.u8.wrap ((1 : Int) * 2 ^ min (a0.left).toNat (IntKind.bits .u8))) - (1 : Int)))))) 35 (bool ((bits .and .u8 (En.bAt a0.s (0 : Int)) (IntKind.u8.wrap ((IntKind.u8.wrap ((1 : Int) * 2 ^ min (a0.left).toNat (IntKind.bits .u8))) - (1 : Int)))) == (0 : Int)))) F_) ?_
    refine al_as rfl rfl ?_
    refine al_nil ?_
    refine aq_show (m := Mem.plus (memOf w0 Z0 [(oBox bx0 194 [(str a0.s), (int .i64 a0.left)])] [(oBox bx0 194 [(str a0.s), (int .i64 a0.left)])] []) X_ Y_) ?_
    refine aq_next hK_ [0] [] [(0, (ptr bx0 0)), (2, (bool ((bits .and .u8 (En.bAt a0.s (0 : Int)) (IntKind.u8.wrap ((IntKind.u8.wrap ((1 : Int) * 2 ^ min (a0.left).toNat (IntKind.bits .u8))) - (1 : Int)))) == (0 : Int))))] [] [] rfl rfl (by decide) rfl ⟨rfl, rfl, trivial⟩ trivial ?_
    clear hK_ K_ F_ X_ Y_
    refine ta_show (m := (memOf w0 Z0 [(oBox bx0 194 [(str a0.s), (int .i64 a0.left)])] [(oBox bx0 194 [(str a0.s), (int .i64 a0.left)])] [])) (S := (tab [(0, (ptr bx0 0)), (2, (bool ((bits .and .u8 (En.bAt a0.s (0 : Int)) (IntKind.u8.wrap ((IntKind.u8.wrap ((1 : Int) * 2 ^ min (a0.left).toNat (IntKind.bits .u8))) - (1 : Int)))) == (0 : Int))))])) ?_
    refine ta_end [] [] rfl rfl (by kernel_rfl) rfl trivial ?_
    refine aq_show (m := (memOf w0 Z0 [(oBox bx0 194 [(str a0.s), (int .i64 a0.left)])] [(oBox bx0 194 [(str a0.s), (int .i64 a0.left)])] [])) (S := (tab [(0, (ptr bx0 0)), (2, (bool ((bits .and .u8 (En.bAt a0.s (0 : Int)) (IntKind.u8.wrap ((IntKind.u8.wrap ((1 : Int) * 2 ^ min (a0.left).toNat (IntKind.bits .u8))) - (1 : Int)))) == (0 : Int))))])) ?_
    refine aq_then ?_
    refine aw_ret ?_
    obtain rfl := Option.some.inj h
    exact fn_ret () [0] [] rfl rfl rfl rfl (res1 rfl rfl) rfl rfl rfl (by decide)
  ·clear hkk3
   refine aw_region ?_
   refine al_mv rfl rfl ?_
   refine al_val (ov_nilCheck rfl rfl) ?_
   refine al_val (ov_fieldA (p := 1) rfl Try.underlying194 rfl sz3 rfl rfl rfl) ?_
   refine al_val (ov_load (i := 0) (v := (int .i64 a0.left)) rfl rfl Try.underlying3 sz3 rfl rfl rfl rfl) ?_
   refine al_in rfl rfl rfl rfl ?_
   refine al_mv rfl rfl ?_
   refine al_caseB 15 rfl (fun hb7 => ?_) (fun hb7 => ?_)
   ·replace h := bif_t hb7 h
    refine al_skip ?_
    refine al_skip ?_
    refine al_skip ?_
    refine al_skip ?_
    refine al_skip ?_
    refine al_skip ?_
    refine al_val (ov_pick_t rfl rfl rfl) ?_
    refine al_as rfl rfl ?_
    refine al_nil ?_
    exact aq_join true h (fun w a hm hs => norm hm hs [0] [] [(0, (ptr bx0 0)), (9, (bool true))] (by decide) ⟨rfl, rfl, trivial⟩)
   ·replace h := bif_f hb7 h
    refine al_mv rfl rfl ?_
    refine al_val (ov_nilCheck rfl rfl) ?_
    refine al_val (ov_fieldA (p := 0) rfl Try.underlying194 rfl sz9 rfl rfl rfl) ?_
    refine al_val (ov_load (i := 0) (v := (str a0.s)) rfl rfl Try.underlying9 sz9 rfl rfl rfl rfl) ?_
    refine al_val (ov_strLen Try.underlying9 rfl rfl) ?_
    refine al_in rfl rfl rfl rfl ?_
    refine al_val (ov_pick_f rfl rfl rfl) ?_
    refine al_as rfl rfl ?_
    refine al_nil ?_
    exact aq_join (decide ((a0.s.length : Int) > (1 : Int))) h (fun w a hm hs => norm hm hs [0] [] [(0, (ptr bx0 0)), (9, (bool (decide ((a0.s.length : Int) > (1 : Int)))))] (by decide) ⟨rfl, rfl, trivial⟩)
def f_press_open_L34 (r2 : (A3i64 × (List UInt8) × Int)) (kk20 : ((List UInt8) → Int → (List UInt8) → Option ((List UInt8) × Int))) (fu : Nat) : Nat → (List (S_press_code × Int)) → (List UInt8) → Int → (List UInt8) → Int → Option ((List UInt8) × Int)
  | 0, _, _, _, _, _ => none
  | k33 + 1, l32xm8, l32s11_0, l32i11_1, l32x12, l32i75 => (bif (decide (l32i75 < r2.1.e1)) then (opt (f___press_reader__symbol fu (S_press_reader.mk l32s11_0 l32i11_1) l32xm8) fun (r37 : (Int × Int × S_press_reader × (List (S_press_code × Int)))) => (bif (r37.2.1 != (0 : Int)) then (some (([] : List UInt8), r37.2.1)) else (req (0 ≤ r37.1 ∧ r37.1 ≤ 255) (req (((l32x12.length + ([(UInt8.ofNat (r37.1).toNat)]).length) * 1 : Nat) ≤ 140737488355328 ∧ l32x12.length + ([(UInt8.ofNat (r37.1).toNat)]).length ≤ 9223372036854775807) (f_press_open_L34 r2 kk20 fu k33 r37.2.2.2 r37.2.2.1.s r37.2.2.1.left (l32x12 ++ ([(UInt8.ofNat (r37.1).toNat)])) (IntKind.i64.wrap (l32i75 + (1 : Int)))))))) else (kk20 l32s11_0 l32i11_1 l32x12))
def f_press_open_L46 (r6 : ((List Int) × (List UInt8) × Int)) (r10 : ((List Int) × Int)) (kk15 : ((List (S_press_code × Int)) → Option ((List UInt8) × Int))) : Nat → (List (S_press_code × Int)) → Int → Option ((List UInt8) × Int)
  | 0, _, _ => none
  | k45 + 1, l44xm8, l44i48 => (bif (decide (l44i48 < (r6.1.length : Int))) then (lt (fun (j48xm8 : (List (S_press_code × Int))) => (f_press_open_L46 r6 r10 kk15 k45 j48xm8 (IntKind.i64.wrap (l44i48 + (1 : Int))))) fun (kk49 : (List (S_press_code × Int)) → Option ((List UInt8) × Int)) => (opt (at? r6.1 l44i48) fun (u50 : Int) => (bif (decide (u50 > (0 : Int))) then (opt (at? r10.1 l44i48) fun (u55 : Int) => (req ((Lit.int .i64 ((S_press_code.mk u55 u50).bits)).wf = true) (req ((Lit.int .i64 ((S_press_code.mk u55 u50).n)).wf = true) (kk49 (gset l44xm8 (S_press_code.mk u55 u50) (IntKind.u8.wrap l44i48)))))) else (kk49 l44xm8)))) else (kk15 l44xm8))
def f_press_open (fu : Nat) (a0 : (List UInt8)) : Option ((List UInt8) × Int) := (opt (f_press_numbers fu a0) fun (r2 : (A3i64 × (List UInt8) × Int)) => (bif (r2.2.2 != (0 : Int)) then (some (([] : List UInt8), r2.2.2)) else (opt (f_press_lengths fu r2.2.1 r2.1.e2) fun (r6 : ((List Int) × (List UInt8) × Int)) => (bif (r6.2.2 != (0 : Int)) then (some (([] : List UInt8), r6.2.2)) else (opt (f_huff_Codes fu r6.1) fun (r10 : ((List Int) × Int)) => (bif (r10.2 != (0 : Int)) then (some (([] : List UInt8), r10.2)) else (lt (fun (j14xm8 : (List (S_press_code × Int))) => (lt (fun (j17i11_1 : Int) => (lt (fun (j19s11_0 : (List UInt8)) (j19i11_1 : Int) (j19x12 : (List UInt8)) => (opt (f___press_reader__rest fu (S_press_reader.mk j19s11_0 j19i11_1)) fun (r22 : (Bool × S_press_reader)) => (bif (!r22.1) then (some (([] : List UInt8), (4 : Int))) else (opt (f_lz_Read fu j19x12) fun (r25 : ((List S_api_Token) × Int)) => (bif (r25.2 != (0 : Int)) then (some (([] : List UInt8), r25.2)) else (opt (f_lz_Expand fu r25.1 r2.1.e0) fun (r29 : ((List UInt8) × Int)) => (bif (r29.2 != (0 : Int)) then (some (([] : List UInt8), r29.2)) else (bif (decide ((r29.1.length : Int) < r2.1.e0)) then (some (([] : List UInt8), (4 : Int))) else (some (r29.1, (0 : Int))))))))))) fun (kk20 : (List UInt8) → Int → (List UInt8) → Option ((List UInt8) × Int)) => (f_press_open_L34 r2 kk20 fu fu j14xm8 r6.2.1 j17i11_1 ([] : List UInt8) (0 : Int)))) fun (kk18 : Int → Option ((List UInt8) × Int)) => (bif (!(r6.2.1 == ([] : List UInt8))) then (kk18 (8 : Int)) else (kk18 (0 : Int))))) fun (kk15 : (List (S_press_code × Int)) → Option ((List UInt8) × Int)) => (f_press_open_L46 r6 r10 kk15 fu ([] : List (S_press_code × Int)) (0 : Int)))))))))
set_option maxRecDepth 100000 in
set_option maxHeartbeats 2000000 in
theorem f_press_open_ok (fu : Nat) (a0 : (List UInt8)) {r : ((List UInt8) × Int)} (h : f_press_open fu a0 = some r) : FnOk Try.prog 71 [(str a0)] [] [] (fun (i : Unit) => { val := (Value.tuple #[(str r.1), (int .i64 r.2)]) }) := by
 unfold f_press_open at h
 refine fn_enter Try.func71 rfl Try.ntmps71 rfl (fun w0 Z0 => ?_)
 refine aw_sr ?_
 refine al_as rfl rfl ?_
 refine al_as rfl rfl ?_
 refine al_nt ?_
 refine aw_sr ?_
 refine al_mv rfl rfl ?_
 obtain ⟨r2, hc1, h⟩ := opt_some h
 refine al_call (vs := [(str a0)]) (f_press_numbers_ok fu a0 hc1) [] [] [] pre_nil rfl (by simp) (by decide) (.inl rfl) rfl Try.func120 rfl rfl rfl (fun _ => ?_)
 refine al_mv rfl rfl ?_
 refine al_ex rfl rfl rfl ?_
 refine al_ex rfl rfl rfl ?_
 refine al_ex rfl rfl rfl ?_
 refine al_alloc (zs := (cA3i64 (A3i64.mk (0 : Int) (0 : Int) (0 : Int)))) (zeroOf_to to132) rfl rfl (fun g3 => ?_)
 refine al_store (i := 0) (vs := (cA3i64 r2.1)) (cs' := (cA3i64 r2.1)) rfl rfl rfl sz132 (cv_rfl rfl) rfl (co_all (oneA3i64 r2.1)) (Nat.le_of_ble_eq_true rfl) rfl rfl ?_
 refine al_as rfl rfl ?_
 refine al_as rfl rfl ?_
 refine al_nt ?_
 refine aw_seq ?_
 refine aw_sr ?_
 refine al_mv rfl rfl ?_
 refine al_in rfl rfl rfl rfl ?_
 refine al_nt ?_
 refine aw_cond rfl (fun hb4 => ?_) (fun hb4 => ?_)
 ·replace h := bif_t hb4 h
  refine aw_sr ?_
  refine al_mv rfl rfl ?_
  refine al_as rfl rfl ?_
  refine al_as rfl rfl ?_
  refine al_nt ?_
  refine aw_ret ?_
  refine aq_then_ret ?_
  obtain rfl := Option.some.inj h
  exact fn_ret () [] [] rfl rfl rfl rfl (res2 rfl rfl rfl) rfl rfl rfl (by decide)
 ·replace h := bif_f hb4 h
  refine aw_skip ?_
  refine aq_tr ?_
  refine al_mv rfl rfl ?_
  refine al_val (ov_idxArr (by decide) (by decide) rfl rfl Try.underlying132 sz3 rfl) ?_
  refine al_val (ov_load (i := 0) (v := (int .i64 r2.1.e2)) rfl rfl Try.underlying3 sz3 rfl rfl rfl rfl) ?_
  obtain ⟨r6, hc5, h⟩ := opt_some h
  refine al_call (vs := [(str r2.2.1), (int .i64 r2.1.e2)]) (f_press_lengths_ok fu r2.2.1 r2.1.e2 hc5) [] [] [0] pre_nil rfl (by simp) (by decide) (.inl rfl) rfl Try.func121 rfl rfl rfl (fun v7 => ?_)
  refine al_mv rfl rfl ?_
  refine al_ex rfl rfl rfl ?_
  refine al_ex rfl rfl rfl ?_
  refine al_ex rfl rfl rfl ?_
  refine al_as rfl rfl ?_
  refine al_as rfl rfl ?_
  refine al_as rfl rfl ?_
  refine al_nt ?_
  refine aw_seq ?_
  refine aw_sr ?_
  refine al_mv rfl rfl ?_
  refine al_in rfl rfl rfl rfl ?_
  refine al_nt ?_
  refine aw_cond rfl (fun hb8 => ?_) (fun hb8 => ?_)
  ·replace h := bif_t hb8 h
   refine aw_sr ?_
   refine al_mv rfl rfl ?_
   refine al_as rfl rfl ?_
   refine al_as rfl rfl ?_
   refine al_nt ?_
   refine aw_ret ?_
   refine aq_then_ret ?_
   obtain rfl := Option.some.inj h
   exact fn_ret () [] [] rfl rfl rfl rfl (res2 rfl rfl rfl) rfl rfl rfl (by decide)
  ·replace h := bif_f hb8 h
   refine aw_skip ?_
   refine aq_tr ?_
   refine al_mv rfl rfl ?_
   obtain ⟨r10, hc9, h⟩ := opt_some h
   refine al_call (vs := [v7]) (f_huff_Codes_ok fu v7 r6.1 hc9) [0] [] [0, 1] (pre_own 0 rfl rfl pre_nil) rfl (by simp) (by decide) (.inr (flat_res1 (fun _ => flat_row flat_enc))) rfl Try.func122 rfl rfl rfl (fun v11 => ?_)
   refine al_mv rfl rfl ?_
   refine al_ex rfl rfl rfl ?_
   refine al_ex rfl rfl rfl ?_
   refine al_as rfl rfl ?_
   refine al_as rfl rfl ?_
   refine al_nt ?_
   refine aw_seq ?_
   refine aw_sr ?_
   refine al_mv rfl rfl ?_
   refine al_in rfl rfl rfl rfl ?_
   refine al_nt ?_
   refine aw_cond rfl (fun hb12 => ?_) (fun hb12 => ?_)
   ·replace h := bif_t hb12 h
    refine aw_sr ?_
    refine al_mv rfl rfl ?_
    refine al_as rfl rfl ?_
    refine al_as rfl rfl ?_
    refine al_nt ?_
    refine aw_ret ?_
    refine aq_then_ret ?_
    obtain rfl := Option.some.inj h
    exact fn_ret () [] [] rfl rfl rfl rfl (res2 rfl rfl rfl) rfl rfl rfl (by decide)
   ·replace h := bif_f hb12 h
    refine aw_skip ?_
    refine aq_tr ?_
    refine al_makeMapK (ν := Int) 191 (fun x : S_press_code => ag [(int .i64 x.bits), (int .i64 x.n)]) (fun x : Int => int .u8 x) rfl (fun g13 => ?_)
    refine al_as rfl rfl ?_
    refine al_nt ?_
    obtain ⟨kk15, hkk15, h⟩ := lt_some h
    refine aw_seq_join (ι := (List (S_press_code × Int))) (fun i => (memOf w0 Z0 [] [(oBox g3 132 (cA3i64 r2.1)), (oMapK Try.prog 191 g13 (fun x : S_press_code => ag [(int .i64 x.bits), (int .i64 x.n)]) (fun x : Int => int .u8 x) i)] [])) (fun i => (tab [(0, (str r6.2.1)), (4, (ptr g3 0)), (8, (Value.map (some g13)))])) (fun i => kk15 i = some r) ?_ ?_
    ·rintro j14xm8 h
     have h : kk15 j14xm8 = some r := h
     rw [hkk15] at h
     dsimp only at h
     clear hkk15
     refine aw_show (m := (memOf w0 Z0 [] [(oBox g3 132 (cA3i64 r2.1)), (oMapK Try.prog 191 g13 (fun x : S_press_code => ag [(int .i64 x.bits), (int .i64 x.n)]) (fun x : Int => int .u8 x) j14xm8)] [])) (S := (tab [(0, (str r6.2.1)), (4, (ptr g3 0)), (8, (Value.map (some g13)))])) ?_
     refine aw_sr ?_
     refine al_mv rfl rfl ?_
     refine al_val (ov_build (cells := ([(str r6.2.1), (int .i64 (0 : Int))]).toArray) (cs := [(str r6.2.1), (int .i64 (0 : Int))]) rfl (fun w a hm hs => by simp only [List.map_toArray, List.map_cons, List.map_nil, List.toList_toArray, hs.ev (x := .tmp 65) rfl]; kernel_rfl)) ?_
     refine al_box (vs := [(str r6.2.1), (int .i64 (0 : Int))]) rfl (cv_rfl rfl) rfl (fun g16 => ?_)
     refine al_as rfl rfl ?_
     refine al_nt ?_
     obtain ⟨kk18, hkk18, h⟩ := lt_some h
     refine aw_seq_join (ι := Int) (fun i => (memOf w0 Z0 [] [(oBox g3 132 (cA3i64 r2.1)), (oMapK Try.prog 191 g13 (fun x : S_press_code => ag [(int .i64 x.bits), (int .i64 x.n)]) (fun x : Int => int .u8 x) j14xm8), (oBox g16 194 [(str r6.2.1), (int .i64 i)])] [])) (fun i => (tab [(4, (ptr g3 0)), (8, (Value.map (some g13))), (11, (ptr g16 0))])) (fun i => kk18 i = some r) ?_ ?_
     ·rintro j17i11_1 h
      have h : kk18 j17i11_1 = some r := h
      rw [hkk18] at h
      dsimp only at h
      clear hkk18
      refine aw_show (m := (memOf w0 Z0 [] [(oBox g3 132 (cA3i64 r2.1)), (oMapK Try.prog 191 g13 (fun x : S_press_code => ag [(int .i64 x.bits), (int .i64 x.n)]) (fun x : Int => int .u8 x) j14xm8), (oBox g16 194 [(str r6.2.1), (int .i64 j17i11_1)])] [])) (S := (tab [(4, (ptr g3 0)), (8, (Value.map (some g13))), (11, (ptr g16 0))])) ?_
      refine aw_sr ?_
      refine al_as rfl rfl ?_
      refine al_nt ?_
      obtain ⟨kk20, hkk20, h⟩ := lt_some h
      refine aw_seq_join (ι := (List UInt8) × Int × Value × (List UInt8)) (fun i => (memOf w0 Z0 [] [(oBox g3 132 (cA3i64 r2.1)), (oBox g16 194 [(str i.1), (int .i64 i.2.1)]), (oRow i.2.2.1 5 tyU8 i.2.2.2)] [])) (fun i => (tab [(4, (ptr g3 0)), (11, (ptr g16 0)), (12, i.2.2.1)])) (fun i => kk20 i.1 i.2.1 i.2.2.2 = some r) ?_ ?_
      ·rintro ⟨j19s11_0, j19i11_1, j19v12, j19x12⟩ h
       have h : kk20 j19s11_0 j19i11_1 j19x12 = some r := h
       rw [hkk20] at h
       dsimp only at h
       clear hkk20
       refine aw_show (m := (memOf w0 Z0 [] [(oBox g3 132 (cA3i64 r2.1)), (oBox g16 194 [(str j19s11_0), (int .i64 j19i11_1)]), (oRow j19v12 5 tyU8 j19x12)] [])) (S := (tab [(4, (ptr g3 0)), (11, (ptr g16 0)), (12, j19v12)])) ?_
       refine aw_seq ?_
       refine aw_sr ?_
       refine al_mv rfl rfl ?_
       obtain ⟨r22, hc21, h⟩ := opt_some h
       refine al_call (vs := [(ptr g16 0)]) (f___press_reader__rest_ok fu g16 (S_press_reader.mk j19s11_0 j19i11_1) hc21) [] [1] [0, 2] pre_nil rfl (by simp) (by decide) (.inl rfl) rfl Try.func124 rfl rfl rfl (fun _ => ?_)
       refine al_val (ov_not rfl rfl) ?_
       refine al_nt ?_
       refine aw_cond rfl (fun hb23 => ?_) (fun hb23 => ?_)
       ·replace h := bif_t hb23 h
        refine aw_sr ?_
        refine al_as rfl rfl ?_
        refine al_as rfl rfl ?_
        refine al_nt ?_
        refine aw_ret ?_
        refine aq_then_ret ?_
        obtain rfl := Option.some.inj h
        exact fn_ret () [] [] rfl rfl rfl rfl (res2 rfl rfl rfl) rfl rfl rfl (by decide)
       ·replace h := bif_f hb23 h
        refine aw_skip ?_
        refine aq_tr ?_
        refine al_mv rfl rfl ?_
        refine al_val (ov_toStrR 2 rfl rfl Try.underlying121 Try.underlying5 Try.underlying9 rfl) ?_
        obtain ⟨r25, hc24, h⟩ := opt_some h
        refine al_call (vs := [(str j19x12)]) (f_lz_Read_ok fu j19x12 hc24) [] [] [0, 1, 2] pre_nil rfl (by simp) (by decide) (.inl rfl) rfl Try.func125 rfl rfl rfl (fun v26 => ?_)
        refine al_mv rfl rfl ?_
        refine al_ex rfl rfl rfl ?_
        refine al_ex rfl rfl rfl ?_
        refine al_as rfl rfl ?_
        refine al_as rfl rfl ?_
        refine al_nt ?_
        refine aw_seq ?_
        refine aw_sr ?_
        refine al_mv rfl rfl ?_
        refine al_in rfl rfl rfl rfl ?_
        refine al_nt ?_
        refine aw_cond rfl (fun hb27 => ?_) (fun hb27 => ?_)
        ·replace h := bif_t hb27 h
         refine aw_sr ?_
         refine al_mv rfl rfl ?_
         refine al_as rfl rfl ?_
         refine al_as rfl rfl ?_
         refine al_nt ?_
         refine aw_ret ?_
         refine aq_then_ret ?_
         obtain rfl := Option.some.inj h
         exact fn_ret () [] [] rfl rfl rfl rfl (res2 rfl rfl rfl) rfl rfl rfl (by decide)
        ·replace h := bif_f hb27 h
         refine aw_skip ?_
         refine aq_tr ?_
         refine al_mv rfl rfl ?_
         refine al_val (ov_idxArr (by decide) (by decide) rfl rfl Try.underlying132 sz3 rfl) ?_
         refine al_val (ov_load (i := 2) (v := (int .i64 r2.1.e0)) rfl rfl Try.underlying3 sz3 rfl rfl rfl rfl) ?_
         obtain ⟨r29, hc28, h⟩ := opt_some h
         refine al_call (vs := [v26, (int .i64 r2.1.e0)]) (f_lz_Expand_ok fu v26 r25.1 r2.1.e0 hc28) [0] [] [0, 1, 2, 3] (pre_own 0 rfl rfl pre_nil) rfl (by simp) (by decide) (.inr flat_res0) rfl Try.func126 rfl rfl rfl (fun _ => ?_)
         refine al_mv rfl rfl ?_
         refine al_ex rfl rfl rfl ?_
         refine al_ex rfl rfl rfl ?_
         refine al_as rfl rfl ?_
         refine al_as rfl rfl ?_
         refine al_nt ?_
         refine aw_seq ?_
         refine aw_block ?_
         refine aw_sr ?_
         refine al_mv rfl rfl ?_
         refine al_in rfl rfl rfl rfl ?_
         refine al_as rfl rfl ?_
         refine al_nt ?_
         refine aw_cond rfl (fun hb30 => ?_) (fun hb30 => ?_)
         ·replace h := bif_t hb30 h
          refine aw_sr ?_
          refine al_mv rfl rfl ?_
          refine al_as rfl rfl ?_
          refine al_as rfl rfl ?_
          refine al_nt ?_
          refine aw_ret ?_
          refine aq_block_ret ?_
          refine aq_then_ret ?_
          obtain rfl := Option.some.inj h
          exact fn_ret () [] [] rfl rfl rfl rfl (res2 rfl rfl rfl) rfl rfl rfl (by decide)
         ·replace h := bif_f hb30 h
          refine aw_sr ?_
          refine al_mv rfl rfl ?_
          refine al_val (ov_strLen Try.underlying9 rfl rfl) ?_
          refine al_val (ov_idxArr (by decide) (by decide) rfl rfl Try.underlying132 sz3 rfl) ?_
          refine al_val (ov_load (i := 2) (v := (int .i64 r2.1.e0)) rfl rfl Try.underlying3 sz3 rfl rfl rfl rfl) ?_
          refine al_in rfl rfl rfl rfl ?_
          refine al_as rfl rfl ?_
          refine al_nt ?_
          refine aw_cond rfl (fun hb31 => ?_) (fun hb31 => ?_)
          ·replace h := bif_t hb31 h
           refine aw_sr ?_
           refine al_as rfl rfl ?_
           refine al_as rfl rfl ?_
           refine al_nt ?_
           refine aw_ret ?_
           refine aq_block_ret ?_
           refine aq_then_ret ?_
           obtain rfl := Option.some.inj h
           exact fn_ret () [] [] rfl rfl rfl rfl (res2 rfl rfl rfl) rfl rfl rfl (by decide)
          ·replace h := bif_f hb31 h
           refine aw_skip ?_
           refine aq_block ?_
           refine aq_tr ?_
           refine al_mv rfl rfl ?_
           refine al_as rfl rfl ?_
           refine al_as rfl rfl ?_
           refine al_nt ?_
           refine aw_ret ?_
           obtain rfl := Option.some.inj h
           exact fn_ret () [] [] rfl rfl rfl rfl (res2 rfl rfl rfl) rfl rfl rfl (by decide)
      ·clear hkk20
       refine aw_sr ?_
       refine al_val (ov_idxArr (by decide) (by decide) rfl rfl Try.underlying132 sz3 rfl) ?_
       refine al_val (ov_load (i := 0) (v := (int .i64 r2.1.e1)) rfl rfl Try.underlying3 sz3 rfl rfl rfl rfl) ?_
       refine al_mv rfl rfl ?_
       refine al_nt ?_
       refine aw_block ?_
       refine aw_nilR 5 tyU8 ?_
       refine aw_state (aw_loop (ι := (List (S_press_code × Int)) × (List UInt8) × Int × Value × (List UInt8) × Int) (fun i => (memOf w0 Z0 [] [(oBox g3 132 (cA3i64 r2.1)), (oMapK Try.prog 191 g13 (fun x : S_press_code => ag [(int .i64 x.bits), (int .i64 x.n)]) (fun x : Int => int .u8 x) i.1), (oBox g16 194 [(str i.2.1), (int .i64 i.2.2.1)]), (oRow i.2.2.2.1 5 tyU8 i.2.2.2.2.1)] [])) (fun i => (tab [(4, (ptr g3 0)), (8, (Value.map (some g13))), (11, (ptr g16 0)), (12, i.2.2.2.1), (74, (int .i64 r2.1.e1)), (75, (int .i64 i.2.2.2.2.2))])) (fun q i => f_press_open_L34 r2 kk20 fu q i.1 i.2.1 i.2.2.1 i.2.2.2.2.1 i.2.2.2.2.2 = some r) ?_ fu (j14xm8, r6.2.1, j17i11_1, (Value.slice none 0 0), ([] : List UInt8), (0 : Int)) h) (fun w a hm hs => norm hm hs [1, 2, 3, 0] [] [(4, (ptr g3 0)), (8, (Value.map (some g13))), (11, (ptr g16 0)), (12, (Value.slice none 0 0)), (74, (int .i64 r2.1.e1)), (75, (int .i64 (0 : Int)))] (by decide) ⟨rfl, rfl, rfl, rfl, rfl, rfl, trivial⟩)
       clear h
       rintro k33 ⟨l32xm8, l32s11_0, l32i11_1, l32v12, l32x12, l32i75⟩ h
       have h : f_press_open_L34 r2 kk20 fu k33 l32xm8 l32s11_0 l32i11_1 l32x12 l32i75 = some r := h
       obtain _ | k33 := k33
       · rw [f_press_open_L34] at h; cases h
       rw [f_press_open_L34] at h
       refine aw_show (m := (memOf w0 Z0 [] [(oBox g3 132 (cA3i64 r2.1)), (oMapK Try.prog 191 g13 (fun x : S_press_code => ag [(int .i64 x.bits), (int .i64 x.n)]) (fun x : Int => int .u8 x) l32xm8), (oBox g16 194 [(str l32s11_0), (int .i64 l32i11_1)]), (oRow l32v12 5 tyU8 l32x12)] [])) (S := (tab [(4, (ptr g3 0)), (8, (Value.map (some g13))), (11, (ptr g16 0)), (12, l32v12), (74, (int .i64 r2.1.e1)), (75, (int .i64 l32i75))])) ?_
       refine aw_sr ?_
       refine al_in rfl rfl rfl rfl ?_
       refine al_nt ?_
       refine aw_seq ?_
       refine aw_cond rfl (fun hb35 => ?_) (fun hb35 => ?_)
       ·replace h := bif_t hb35 h
        refine aw_skip ?_
        refine aq_then ?_
        refine aw_seq ?_
        refine aw_block ?_
        refine aw_sr ?_
        refine al_mv rfl rfl ?_
        refine al_mv rfl rfl ?_
        obtain ⟨r37, hc36, h⟩ := opt_some h
        refine al_call (vs := [(ptr g16 0), (Value.map (some g13))]) (f___press_reader__symbol_ok fu g16 (S_press_reader.mk l32s11_0 l32i11_1) g13 l32xm8 hc36) [] [2, 1] [0, 3] pre_nil rfl (by simp) (by decide) (.inl rfl) rfl Try.func123 rfl rfl rfl (fun _ => ?_)
        refine al_mv rfl rfl ?_
        refine al_ex rfl rfl rfl ?_
        refine al_ex rfl rfl rfl ?_
        refine al_as rfl rfl ?_
        refine al_as rfl rfl ?_
        refine al_nt ?_
        refine aw_seq ?_
        refine aw_sr ?_
        refine al_mv rfl rfl ?_
        refine al_in rfl rfl rfl rfl ?_
        refine al_nt ?_
        refine aw_cond rfl (fun hb38 => ?_) (fun hb38 => ?_)
        ·replace h := bif_t hb38 h
         refine aw_sr ?_
         refine al_mv rfl rfl ?_
         refine al_as rfl rfl ?_
         refine al_as rfl rfl ?_
         refine al_nt ?_
         refine aw_ret ?_
         refine aq_then_ret ?_
         refine aq_block_ret ?_
         refine aq_then_ret ?_
         refine aq_then_ret ?_
         refine aq_block_ret ?_
         refine aq_then_ret ?_
         obtain rfl := Option.some.inj h
         exact fn_ret () [] [] rfl rfl rfl rfl (res2 rfl rfl rfl) rfl rfl rfl (by decide)
        ·replace h := bif_f hb38 h
         refine aw_skip ?_
         refine aq_then ?_
         refine aw_region ?_
         refine al_mv rfl rfl ?_
         refine al_mv rfl rfl ?_
         obtain ⟨hc40, h⟩ := req_some h
         refine al_buildSlice (τ := tyU8) (e := 5) (k := 1) (sz := 0) (by_ := 0) (z := undef) (cs := [(int .u8 r37.1)]) (xs := [(UInt8.ofNat (r37.1).toNat)]) rfl (by decide) (fun w a hm hs => ⟨([(int .u8 r37.1)]).toArray, rfl, by simp only [List.map_toArray, List.map_cons, List.map_nil, hs.ev (x := .tmp 87) rfl]; exact run_bs [(int .u8 r37.1)] [(int .u8 r37.1)] Try.underlying121 to5 rfl rfl (bs_cons (l := [(int .u8 r37.1)]) (cs := []) (cv_rfl rfl) rfl bs_nil) hm⟩) (fun hm => ⟨_, _, rfl, (fun _ => u8_rep hc40) hm, rfl⟩) rfl (fun v39 => ?_)
         obtain ⟨hc41, h⟩ := req_some h
         refine al_append 4 hc41.1 hc41.2 rfl (src_own (i := 4) 0 rfl) rfl rfl Try.underlying121 to5 rfl rfl rfl (fun v42 => ?_)
         refine al_as rfl rfl ?_
         refine al_nil ?_
         refine aq_block ?_
         refine aq_then ?_
         refine aw_region ?_
         refine al_in rfl rfl rfl rfl ?_
         refine al_mv rfl rfl ?_
         refine al_nil ?_
         exact aq_again k33 (r37.2.2.2, r37.2.2.1.s, r37.2.2.1.left, v42, (l32x12 ++ ([(UInt8.ofNat (r37.1).toNat)])), (IntKind.i64.wrap (l32i75 + (1 : Int)))) (Nat.lt_succ_self _) h (fun w a hm hs => norm hm hs [3, 2, 1, 4] [] [(4, (ptr g3 0)), (8, (Value.map (some g13))), (11, (ptr g16 0)), (12, v42), (74, (int .i64 r2.1.e1)), (75, (int .i64 (IntKind.i64.wrap (l32i75 + (1 : Int)))))] (by decide) ⟨rfl, rfl, rfl, rfl, rfl, rfl, trivial⟩)
       ·replace h := bif_f hb35 h
        refine aw_exit ?_
        refine aq_then_exit ?_
        refine aq_then_exit ?_
        refine aq_block_exit ?_
        exact aq_join (l32s11_0, l32i11_1, l32v12, l32x12) h (fun w a hm hs => norm hm hs [0, 2, 3] [] [(4, (ptr g3 0)), (11, (ptr g16 0)), (12, l32v12)] (by decide) ⟨rfl, rfl, rfl, trivial⟩)
     ·clear hkk18
      refine aw_sr ?_
      refine al_mv rfl rfl ?_
      refine al_val (ov_strCmp rfl rfl rfl rfl) ?_
      refine al_nt ?_
      refine aw_cond rfl (fun hb43 => ?_) (fun hb43 => ?_)
      ·replace h := bif_t hb43 h
       refine aw_region ?_
       refine al_mv rfl rfl ?_
       refine al_val (ov_nilCheck rfl rfl) ?_
       refine al_val (ov_fieldA (p := 1) rfl Try.underlying194 rfl sz3 rfl rfl rfl) ?_
       refine al_store (i := 0) (vs := [(int .i64 (8 : Int))]) (cs' := [(str r6.2.1), (int .i64 (8 : Int))]) rfl rfl rfl sz3 (cv_rfl rfl) rfl (co_val rfl co_nil) (Nat.le_of_ble_eq_true rfl) rfl rfl ?_
       refine al_nil ?_
       exact aq_join (8 : Int) h (fun w a hm hs => norm hm hs [1, 2, 0] [] [(4, (ptr g3 0)), (8, (Value.map (some g13))), (11, (ptr g16 0))] (by decide) ⟨rfl, rfl, rfl, trivial⟩)
      ·replace h := bif_f hb43 h
       refine aw_skip ?_
       exact aq_join (0 : Int) h (fun w a hm hs => norm hm hs [1, 2, 0] [] [(4, (ptr g3 0)), (8, (Value.map (some g13))), (11, (ptr g16 0))] (by decide) ⟨rfl, rfl, rfl, trivial⟩)
    ·clear hkk15
     refine aw_sr ?_
     refine al_mv rfl rfl ?_
     refine al_val (ov_lenR 2 rfl rfl Try.underlying34 rfl) ?_
     refine al_mv rfl rfl ?_
     refine al_nt ?_
     refine aw_block ?_
     refine aw_state (aw_loop (ι := (List (S_press_code × Int)) × Int) (fun i => (memOf w0 Z0 [] [(oBox g3 132 (cA3i64 r2.1)), (oRow v11 3 (tyInt .i64) r10.1), (oMapK Try.prog 191 g13 (fun x : S_press_code => ag [(int .i64 x.bits), (int .i64 x.n)]) (fun x : Int => int .u8 x) i.1), (oRow v7 3 (tyInt .i64) r6.1)] [])) (fun i => (tab [(0, (str r6.2.1)), (4, (ptr g3 0)), (7, v11), (8, (Value.map (some g13))), (46, v7), (47, (int .i64 (r6.1.length : Int))), (48, (int .i64 i.2))])) (fun q i => f_press_open_L46 r6 r10 kk15 q i.1 i.2 = some r) ?_ fu (([] : List (S_press_code × Int)), (0 : Int)) h) (fun w a hm hs => norm hm hs [3, 1, 0, 2] [] [(0, (str r6.2.1)), (4, (ptr g3 0)), (7, v11), (8, (Value.map (some g13))), (46, v7), (47, (int .i64 (r6.1.length : Int))), (48, (int .i64 (0 : Int)))] (by decide) ⟨rfl, rfl, rfl, rfl, rfl, rfl, rfl, trivial⟩)
     clear h
     rintro k45 ⟨l44xm8, l44i48⟩ h
     have h : f_press_open_L46 r6 r10 kk15 k45 l44xm8 l44i48 = some r := h
     obtain _ | k45 := k45
     · rw [f_press_open_L46] at h; cases h
     rw [f_press_open_L46] at h
     refine aw_show (m := (memOf w0 Z0 [] [(oBox g3 132 (cA3i64 r2.1)), (oRow v11 3 (tyInt .i64) r10.1), (oMapK Try.prog 191 g13 (fun x : S_press_code => ag [(int .i64 x.bits), (int .i64 x.n)]) (fun x : Int => int .u8 x) l44xm8), (oRow v7 3 (tyInt .i64) r6.1)] [])) (S := (tab [(0, (str r6.2.1)), (4, (ptr g3 0)), (7, v11), (8, (Value.map (some g13))), (46, v7), (47, (int .i64 (r6.1.length : Int))), (48, (int .i64 l44i48))])) ?_
     refine aw_sr ?_
     refine al_in rfl rfl rfl rfl ?_
     refine al_nt ?_
     refine aw_seq ?_
     refine aw_cond rfl (fun hb47 => ?_) (fun hb47 => ?_)
     ·replace h := bif_t hb47 h
      refine aw_skip ?_
      refine aq_then ?_
      obtain ⟨kk49, hkk49, h⟩ := lt_some h
      refine aw_seq_join (ι := (List (S_press_code × Int))) (fun i => (memOf w0 Z0 [] [(oBox g3 132 (cA3i64 r2.1)), (oRow v11 3 (tyInt .i64) r10.1), (oMapK Try.prog 191 g13 (fun x : S_press_code => ag [(int .i64 x.bits), (int .i64 x.n)]) (fun x : Int => int .u8 x) i), (oRow v7 3 (tyInt .i64) r6.1)] [])) (fun i => (tab [(0, (str r6.2.1)), (4, (ptr g3 0)), (7, v11), (8, (Value.map (some g13))), (46, v7), (47, (int .i64 (r6.1.length : Int))), (48, (int .i64 l44i48))])) (fun i => kk49 i = some r) ?_ ?_
      ·rintro j48xm8 h
       have h : kk49 j48xm8 = some r := h
       rw [hkk49] at h
       dsimp only at h
       clear hkk49
       refine aw_show (m := (memOf w0 Z0 [] [(oBox g3 132 (cA3i64 r2.1)), (oRow v11 3 (tyInt .i64) r10.1), (oMapK Try.prog 191 g13 (fun x : S_press_code => ag [(int .i64 x.bits), (int .i64 x.n)]) (fun x : Int => int .u8 x) j48xm8), (oRow v7 3 (tyInt .i64) r6.1)] [])) (S := (tab [(0, (str r6.2.1)), (4, (ptr g3 0)), (7, v11), (8, (Value.map (some g13))), (46, v7), (47, (int .i64 (r6.1.length : Int))), (48, (int .i64 l44i48))])) ?_
       refine aw_region ?_
       refine al_in rfl rfl rfl rfl ?_
       refine al_mv rfl rfl ?_
       refine al_nil ?_
       exact aq_again k45 (j48xm8, (IntKind.i64.wrap (l44i48 + (1 : Int)))) (Nat.lt_succ_self _) h (fun w a hm hs => norm hm hs [0, 1, 2, 3] [] [(0, (str r6.2.1)), (4, (ptr g3 0)), (7, v11), (8, (Value.map (some g13))), (46, v7), (47, (int .i64 (r6.1.length : Int))), (48, (int .i64 (IntKind.i64.wrap (l44i48 + (1 : Int)))))] (by decide) ⟨rfl, rfl, rfl, rfl, rfl, rfl, rfl, trivial⟩)
      ·clear hkk49
       refine aw_block ?_
       refine aw_sr ?_
       refine al_mv rfl rfl ?_
       obtain ⟨u50, hu51, h⟩ := opt_some h
       refine al_idxR 3 (at_some hu51).1 (at_some hu51).2.1 rfl rfl rfl Try.underlying34 sz3 rfl (fun p52 hp53 => ?_)
       refine al_val (ov_loadR (ds := [(int .i64 u50)]) 3 rfl hp53 (at_some hu51).2.2 (fun h => h) rfl Try.underlying3 sz3 rfl rfl rfl) ?_
       refine al_as rfl rfl ?_
       refine al_as rfl rfl ?_
       refine al_nt ?_
       refine aw_sr ?_
       refine al_mv rfl rfl ?_
       refine al_in rfl rfl rfl rfl ?_
       refine al_nt ?_
       refine aw_cond rfl (fun hb54 => ?_) (fun hb54 => ?_)
       ·replace h := bif_t hb54 h
        refine aw_region ?_
        refine al_mv rfl rfl ?_
        refine al_mv rfl rfl ?_
        refine al_mv rfl rfl ?_
        obtain ⟨u55, hu56, h⟩ := opt_some h
        refine al_idxR 1 (at_some hu56).1 (at_some hu56).2.1 rfl rfl rfl Try.underlying34 sz3 rfl (fun p57 hp58 => ?_)
        refine al_val (ov_loadR (ds := [(int .i64 u55)]) 1 rfl hp58 (at_some hu56).2.2 (fun h => h) rfl Try.underlying3 sz3 rfl rfl rfl) ?_
        refine al_mv rfl rfl ?_
        refine al_val (ov_build (cells := ([(int .i64 u55), (int .i64 u50)]).toArray) (cs := [(int .i64 u55), (int .i64 u50)]) rfl (fun w a hm hs => by simp only [List.map_toArray, List.map_cons, List.map_nil, List.toList_toArray, hs.ev (x := .tmp 59) rfl, hs.ev (x := .tmp 60) rfl]; kernel_rfl)) ?_
        refine al_mv rfl rfl ?_
        refine al_val (ov_convInt (by rw [Try.underlying3]; rfl) Try.underlying5 rfl rfl) ?_
        obtain ⟨hc59, h⟩ := req_some h
        obtain ⟨hc60, h⟩ := req_some h
        refine al_mapSetK (ek := (fun x : S_press_code => ag [(int .i64 x.bits), (int .i64 x.n)])) (ew := (fun x : Int => int .u8 x)) (k := (S_press_code.mk u55 u50)) (v := (IntKind.u8.wrap l44i48)) 2 kd191 ki191 (kw191 (S_press_code.mk u55 u50) hc59 hc60) rfl rfl rfl rfl Try.underlying189 rfl ?_
        refine al_nil ?_
        refine aq_block ?_
        exact aq_join (gset l44xm8 (S_press_code.mk u55 u50) (IntKind.u8.wrap l44i48)) h (fun w a hm hs => norm hm hs [0, 1, 2, 3] [] [(0, (str r6.2.1)), (4, (ptr g3 0)), (7, v11), (8, (Value.map (some g13))), (46, v7), (47, (int .i64 (r6.1.length : Int))), (48, (int .i64 l44i48))] (by decide) ⟨rfl, rfl, rfl, rfl, rfl, rfl, rfl, trivial⟩)
       ·replace h := bif_f hb54 h
        refine aw_skip ?_
        refine aq_block ?_
        exact aq_join l44xm8 h (fun w a hm hs => norm hm hs [0, 1, 2, 3] [] [(0, (str r6.2.1)), (4, (ptr g3 0)), (7, v11), (8, (Value.map (some g13))), (46, v7), (47, (int .i64 (r6.1.length : Int))), (48, (int .i64 l44i48))] (by decide) ⟨rfl, rfl, rfl, rfl, rfl, rfl, rfl, trivial⟩)
     ·replace h := bif_f hb47 h
      refine aw_exit ?_
      refine aq_then_exit ?_
      refine aq_then_exit ?_
      refine aq_block_exit ?_
      exact aq_join l44xm8 h (fun w a hm hs => norm hm hs [0, 2] [] [(0, (str r6.2.1)), (4, (ptr g3 0)), (8, (Value.map (some g13)))] (by decide) ⟨rfl, rfl, rfl, trivial⟩)
def f_press_Open (fu : Nat) (a0 : (List UInt8)) : Option ((List UInt8) × Int) := (bif (a0 == ([] : List UInt8)) then (some (([] : List UInt8), (3 : Int))) else (lt (fun (j2b7 : Bool) => (bif j2b7 then (some (([] : List UInt8), (2 : Int))) else (req (0 ≤ (0 : Int) ∧ (0 : Int) < (a0.length : Int)) (bif ((En.bAt a0 (0 : Int)) == (0 : Int)) then (req (0 ≤ (1 : Int) ∧ (1 : Int) ≤ (a0.length : Int)) (some ((a0.drop ((1 : Int)).toNat), (0 : Int)))) else (req (0 ≤ (0 : Int) ∧ (0 : Int) < (a0.length : Int)) (bif ((En.bAt a0 (0 : Int)) == (1 : Int)) then (req (0 ≤ (1 : Int) ∧ (1 : Int) ≤ (a0.length : Int)) (opt (f_press_open fu (a0.drop ((1 : Int)).toNat)) fun (r12 : ((List UInt8) × Int)) => (some (r12.1, r12.2)))) else (some (([] : List UInt8), (5 : Int))))))))) fun (kk3 : Bool → Option ((List UInt8) × Int)) => (req (0 ≤ (0 : Int) ∧ (0 : Int) < (a0.length : Int)) (bif ((En.bAt a0 (0 : Int)) == (0 : Int)) then (kk3 (decide ((IntKind.i64.wrap ((a0.length : Int) - (1 : Int))) > (4096 : Int)))) else (kk3 false)))))
set_option maxRecDepth 100000 in
theorem f_press_Open_ok (fu : Nat) (a0 : (List UInt8)) {r : ((List UInt8) × Int)} (h : f_press_Open fu a0 = some r) : FnOk Try.prog 32 [(str a0)] [] [] (fun (i : Unit) => { val := (Value.tuple #[(str r.1), (int .i64 r.2)]) }) := by
 unfold f_press_Open at h
 refine fn_enter Try.func32 rfl Try.ntmps32 rfl (fun w0 Z0 => ?_)
 refine aw_sr ?_
 refine al_as rfl rfl ?_
 refine al_as rfl rfl ?_
 refine al_nt ?_
 refine aw_seq ?_
 refine aw_block ?_
 refine aw_sr ?_
 refine al_mv rfl rfl ?_
 refine al_val (ov_strCmp rfl rfl rfl rfl) ?_
 refine al_as rfl rfl ?_
 refine al_nt ?_
 refine aw_cond rfl (fun hb1 => ?_) (fun hb1 => ?_)
 ·replace h := bif_t hb1 h
  refine aw_sr ?_
  refine al_as rfl rfl ?_
  refine al_as rfl rfl ?_
  refine al_nt ?_
  refine aw_ret ?_
  refine aq_block_ret ?_
  refine aq_then_ret ?_
  obtain rfl := Option.some.inj h
  exact fn_ret () [] [] rfl rfl rfl rfl (res2 rfl rfl rfl) rfl rfl rfl (by decide)
 ·replace h := bif_f hb1 h
  obtain ⟨kk3, hkk3, h⟩ := lt_some h
  refine aw_seq_join (ι := Bool) (fun i => (memOf w0 Z0 [] [] [])) (fun i => (tab [(0, (str a0)), (7, (bool i))])) (fun i => kk3 i = some r) ?_ ?_
  ·rintro j2b7 h
   have h : kk3 j2b7 = some r := h
   rw [hkk3] at h
   dsimp only at h
   clear hkk3
   refine aw_show (m := (memOf w0 Z0 [] [] [])) (S := (tab [(0, (str a0)), (7, (bool j2b7))])) ?_
   refine aw_cond rfl (fun hb4 => ?_) (fun hb4 => ?_)
   ·replace h := bif_t hb4 h
    refine aw_sr ?_
    refine al_as rfl rfl ?_
    refine al_as rfl rfl ?_
    refine al_nt ?_
    refine aw_ret ?_
    refine aq_block_ret ?_
    refine aq_then_ret ?_
    obtain rfl := Option.some.inj h
    exact fn_ret () [] [] rfl rfl rfl rfl (res2 rfl rfl rfl) rfl rfl rfl (by decide)
   ·replace h := bif_f hb4 h
    refine aw_sr ?_
    refine al_mv rfl rfl ?_
    obtain ⟨hc5, h⟩ := req_some h
    refine al_val (ov_strIdx hc5.1 hc5.2 Try.underlying9 rfl rfl rfl) ?_
    refine al_in rfl rfl rfl rfl ?_
    refine al_as rfl rfl ?_
    refine al_nt ?_
    refine aw_cond rfl (fun hb6 => ?_) (fun hb6 => ?_)
    ·replace h := bif_t hb6 h
     refine aw_sr ?_
     refine al_mv rfl rfl ?_
     obtain ⟨hc7, h⟩ := req_some h
     refine al_val (ov_strFrom hc7.1 hc7.2 Try.underlying9 rfl rfl rfl) ?_
     refine al_as rfl rfl ?_
     refine al_as rfl rfl ?_
     refine al_nt ?_
     refine aw_ret ?_
     refine aq_block_ret ?_
     refine aq_then_ret ?_
     obtain rfl := Option.some.inj h
     exact fn_ret () [] [] rfl rfl rfl rfl (res2 rfl rfl rfl) rfl rfl rfl (by decide)
    ·replace h := bif_f hb6 h
     refine aw_sr ?_
     refine al_mv rfl rfl ?_
     obtain ⟨hc8, h⟩ := req_some h
     refine al_val (ov_strIdx hc8.1 hc8.2 Try.underlying9 rfl rfl rfl) ?_
     refine al_in rfl rfl rfl rfl ?_
     refine al_as rfl rfl ?_
     refine al_nt ?_
     refine aw_cond rfl (fun hb9 => ?_) (fun hb9 => ?_)
     ·replace h := bif_t hb9 h
      refine aw_sr ?_
      refine al_mv rfl rfl ?_
      obtain ⟨hc10, h⟩ := req_some h
      refine al_val (ov_strFrom hc10.1 hc10.2 Try.underlying9 rfl rfl rfl) ?_
      obtain ⟨r12, hc11, h⟩ := opt_some h
      refine al_call (vs := [(str (a0.drop ((1 : Int)).toNat))]) (f_press_open_ok fu (a0.drop ((1 : Int)).toNat) hc11) [] [] [] pre_nil rfl (by simp) (by decide) (.inl rfl) rfl Try.func71 rfl rfl rfl (fun _ => ?_)
      refine al_ex rfl rfl rfl ?_
      refine al_ex rfl rfl rfl ?_
      refine al_as rfl rfl ?_
      refine al_as rfl rfl ?_
      refine al_nt ?_
      refine aw_ret ?_
      refine aq_block_ret ?_
      refine aq_then_ret ?_
      obtain rfl := Option.some.inj h
      exact fn_ret () [] [] rfl rfl rfl rfl (res2 rfl rfl rfl) rfl rfl rfl (by decide)
     ·replace h := bif_f hb9 h
      refine aw_skip ?_
      refine aq_block ?_
      refine aq_tr ?_
      refine al_as rfl rfl ?_
      refine al_as rfl rfl ?_
      refine al_nt ?_
      refine aw_ret ?_
      obtain rfl := Option.some.inj h
      exact fn_ret () [] [] rfl rfl rfl rfl (res2 rfl rfl rfl) rfl rfl rfl (by decide)
  ·clear hkk3
   refine aw_region ?_
   refine al_mv rfl rfl ?_
   obtain ⟨hc13, h⟩ := req_some h
   refine al_val (ov_strIdx hc13.1 hc13.2 Try.underlying9 rfl rfl rfl) ?_
   refine al_in rfl rfl rfl rfl ?_
   refine al_mv rfl rfl ?_
   refine al_caseB 11 rfl (fun hb14 => ?_) (fun hb14 => ?_)
   ·replace h := bif_t hb14 h
    refine al_mv rfl rfl ?_
    refine al_val (ov_strLen Try.underlying9 rfl rfl) ?_
    refine al_in rfl rfl rfl rfl ?_
    refine al_in rfl rfl rfl rfl ?_
    refine al_val (ov_pick_t rfl rfl rfl) ?_
    refine al_as rfl rfl ?_
    refine al_nil ?_
    exact aq_join (decide ((IntKind.i64.wrap ((a0.length : Int) - (1 : Int))) > (4096 : Int))) h (fun w a hm hs => norm hm hs [] [] [(0, (str a0)), (7, (bool (decide ((IntKind.i64.wrap ((a0.length : Int) - (1 : Int))) > (4096 : Int)))))] (by decide) ⟨rfl, rfl, trivial⟩)
   ·replace h := bif_f hb14 h
    refine al_skip ?_
    refine al_skip ?_
    refine al_skip ?_
    refine al_skip ?_
    refine al_val (ov_pick_f rfl rfl rfl) ?_
    refine al_as rfl rfl ?_
    refine al_nil ?_
    exact aq_join false h (fun w a hm hs => norm hm hs [] [] [(0, (str a0)), (7, (bool false))] (by decide) ⟨rfl, rfl, trivial⟩)
def f__binary_littleEndian__Uint64 (fu : Nat) (a0 : Unit) (a1 : (List UInt8)) : Option Int := (opt (at? a1 (7 : Int)) fun (u2 : UInt8) => (opt (at? a1 (0 : Int)) fun (u5 : UInt8) => (opt (at? a1 (1 : Int)) fun (u8 : UInt8) => (opt (at? a1 (2 : Int)) fun (u11 : UInt8) => (opt (at? a1 (3 : Int)) fun (u14 : UInt8) => (opt (at? a1 (4 : Int)) fun (u17 : UInt8) => (opt (at? a1 (5 : Int)) fun (u20 : UInt8) => (opt (at? a1 (6 : Int)) fun (u23 : UInt8) => (opt (at? a1 (7 : Int)) fun (u26 : UInt8) => (some (bits .or .u64 (bits .or .u64 (bits .or .u64 (bits .or .u64 (bits .or .u64 (bits .or .u64 (bits .or .u64 (IntKind.u64.wrap (u5.toNat : Int)) (IntKind.u64.wrap ((IntKind.u64.wrap (u8.toNat : Int)) * 2 ^ min ((8 : Int)).toNat (IntKind.bits .u64)))) (IntKind.u64.wrap ((IntKind.u64.wrap (u11.toNat : Int)) * 2 ^ min ((16 : Int)).toNat (IntKind.bits .u64)))) (IntKind.u64.wrap ((IntKind.u64.wrap (u14.toNat : Int)) * 2 ^ min ((24 : Int)).toNat (IntKind.bits .u64)))) (IntKind.u64.wrap ((IntKind.u64.wrap (u17.toNat : Int)) * 2 ^ min ((32 : Int)).toNat (IntKind.bits .u64)))) (IntKind.u64.wrap ((IntKind.u64.wrap (u20.toNat : Int)) * 2 ^ min ((40 : Int)).toNat (IntKind.bits .u64)))) (IntKind.u64.wrap ((IntKind.u64.wrap (u23.toNat : Int)) * 2 ^ min ((48 : Int)).toNat (IntKind.bits .u64)))) (IntKind.u64.wrap ((IntKind.u64.wrap (u26.toNat : Int)) * 2 ^ min ((56 : Int)).toNat (IntKind.bits .u64))))))))))))))
set_option maxRecDepth 100000 in
theorem f__binary_littleEndian__Uint64_ok (fu : Nat) (a0 : Unit) (v1_0 : Value) (a1 : (List UInt8)) {r : Int} (h : f__binary_littleEndian__Uint64 fu a0 a1 = some r) : FnOk Try.prog 243 [(ag []), v1_0] [(fDat (tyList tyU8) [v1_0] a1)] [] (fun (i : Unit) => { val := (int .u64 r) }) := by
 unfold f__binary_littleEndian__Uint64 at h
 refine fn_enter Try.func243 rfl Try.ntmps243 rfl (fun w0 Z0 => ?_)
 refine aw_sr ?_
 refine al_box (vs := []) rfl (cv_rfl rfl) rfl (fun g1 => ?_)
 refine al_as rfl rfl ?_
 refine al_nt ?_
 refine aw_sr ?_
 refine al_mv rfl rfl ?_
 obtain ⟨u2, hu3, h⟩ := opt_some h
 refine al_idxD 0 hu3 rfl rfl rfl Try.underlying121 sz5 rfl (fun p4 => ?_)
 refine al_val (ov_loadP (ds := [(int .u8 (u2.toNat : Int))]) 0 rfl (fun h => h) rfl Try.underlying5 sz5 rfl rfl rfl) ?_
 refine al_nt ?_
 refine aw_seq ?_
 obtain ⟨u5, hu6, h⟩ := opt_some h
 obtain ⟨u8, hu9, h⟩ := opt_some h
 obtain ⟨u11, hu12, h⟩ := opt_some h
 obtain ⟨u14, hu15, h⟩ := opt_some h
 obtain ⟨u17, hu18, h⟩ := opt_some h
 obtain ⟨u20, hu21, h⟩ := opt_some h
 obtain ⟨u23, hu24, h⟩ := opt_some h
 obtain ⟨u26, hu27, h⟩ := opt_some h
 refine aw_region_draw 46 [(8, (fun u => fEq u v1_0)), (9, (fun p7 => (fPtr tyU8 p7 u5))), (10, (fun u => fEq u (int .u8 (u5.toNat : Int)))), (11, (fun u => fEq u (int .u64 (IntKind.u64.wrap (u5.toNat : Int))))), (12, (fun u => fEq u v1_0)), (13, (fun p10 => (fPtr tyU8 p10 u8))), (14, (fun u => fEq u (int .u8 (u8.toNat : Int)))), (15, (fun u => fEq u (int .u64 (IntKind.u64.wrap (u8.toNat : Int))))), (16, (fun u => fEq u (int .u64 (IntKind.u64.wrap ((IntKind.u64.wrap (u8.toNat : Int)) * 2 ^ min ((8 : Int)).toNat (IntKind.bits .u64)))))), (17, (fun u => fEq u (int .u64 (bits .or .u64 (IntKind.u64.wrap (u5.toNat : Int)) (IntKind.u64.wrap ((IntKind.u64.wrap (u8.toNat : Int)) * 2 ^ min ((8 : Int)).toNat (IntKind.bits .u64))))))), (18, (fun u => fEq u v1_0)), (19, (fun p13 => (fPtr tyU8 p13 u11))), (20, (fun u => fEq u (int .u8 (u11.toNat : Int)))), (21, (fun u => fEq u (int .u64 (IntKind.u64.wrap (u11.toNat : Int))))), (22, (fun u => fEq u (int .u64 (IntKind.u64.wrap ((IntKind.u64.wrap (u11.toNat : Int)) * 2 ^ min ((16 : Int)).toNat (IntKind.bits .u64)))))), (23, (fun u => fEq u (int .u64 (bits .or .u64 (bits .or .u64 (IntKind.u64.wrap (u5.toNat : Int)) (IntKind.u64.wrap ((IntKind.u64.wrap (u8.toNat : Int)) * 2 ^ min ((8 : Int)).toNat (IntKind.bits .u64)))) (IntKind.u64.wrap ((IntKind.u64.wrap (u11.toNat : Int)) * 2 ^ min ((16 : Int)).toNat (IntKind.bits .u64))))))), (24, (fun u => fEq u v1_0)), (25, (fun p16 => (fPtr tyU8 p16 u14))), (26, (fun u => fEq u (int .u8 (u14.toNat : Int)))), (27, (fun u => fEq u (int .u64 (IntKind.u64.wrap (u14.toNat : Int))))), (28, (fun u => fEq u (int .u64 (IntKind.u64.wrap ((IntKind.u64.wrap (u14.toNat : Int)) * 2 ^ min ((24 : Int)).toNat (IntKind.bits .u64)))))), (29, (fun u => fEq u (int .u64 (bits .or .u64 (bits .or .u64 (bits .or .u64 (IntKind.u64.wrap (u5.toNat : Int)) (IntKind.u64.wrap ((IntKind.u64.wrap (u8.toNat : Int)) * 2 ^ min ((8 : Int)).toNat (IntKind.bits .u64)))) (IntKind.u64.wrap ((IntKind.u64.wrap (u11.toNat : Int)) * 2 ^ min ((16 : Int)).toNat (IntKind.bits .u64)))) (IntKind.u64.wrap ((IntKind.u64.wrap (u14.toNat : Int)) * 2 ^ min ((24 : Int)).toNat (IntKind.bits .u64))))))), (30, (fun u => fEq u v1_0)), (31, (fun p19 => (fPtr tyU8 p19 u17))), (32, (fun u => fEq u (int .u8 (u17.toNat : Int)))), (33, (fun u => fEq u (int .u64 (IntKind.u64.wrap (u17.toNat : Int))))), (34, (fun u => fEq u (int .u64 (IntKind.u64.wrap ((IntKind.u64.wrap (u17.toNat : Int)) * 2 ^ min ((32 : Int)).toNat (IntKind.bits .u64)))))), (35, (fun u => fEq u (int .u64 (bits .or .u64 (bits .or .u64 (bits .or .u64 (bits .or .u64 (IntKind.u64.wrap (u5.toNat : Int)) (IntKind.u64.wrap ((IntKind.u64.wrap (u8.toNat : Int)) * 2 ^ min ((8 : Int)).toNat (IntKind.bits .u64)))) (IntKind.u64.wrap ((IntKind.u64.wrap (u11.toNat : Int)) * 2 ^ min ((16 : Int)).toNat (IntKind.bits .u64)))) (IntKind.u64.wrap ((IntKind.u64.wrap (u14.toNat : Int)) * 2 ^ min ((24 : Int)).toNat (IntKind.bits .u64)))) (IntKind.u64.wrap ((IntKind.u64.wrap (u17.toNat : Int)) * 2 ^ min ((32 : Int)).toNat (IntKind.bits .u64))))))), (36, (fun u => fEq u v1_0)), (37, (fun p22 => (fPtr tyU8 p22 u20))), (38, (fun u => fEq u (int .u8 (u20.toNat : Int)))), (39, (fun u => fEq u (int .u64 (IntKind.u64.wrap (u20.toNat : Int))))), (40, (fun u => fEq u (int .u64 (IntKind.u64.wrap ((IntKind.u64.wrap (u20.toNat : Int)) * 2 ^ min ((40 : Int)).toNat (IntKind.bits .u64)))))), (41, (fun u => fEq u (int .u64 (bits .or .u64 (bits .or .u64 (bits .or .u64 (bits .or .u64 (bits .or .u64 (IntKind.u64.wrap (u5.toNat : Int)) (IntKind.u64.wrap ((IntKind.u64.wrap (u8.toNat : Int)) * 2 ^ min ((8 : Int)).toNat (IntKind.bits .u64)))) (IntKind.u64.wrap ((IntKind.u64.wrap (u11.toNat : Int)) * 2 ^ min ((16 : Int)).toNat (IntKind.bits .u64)))) (IntKind.u64.wrap ((IntKind.u64.wrap (u14.toNat : Int)) * 2 ^ min ((24 : Int)).toNat (IntKind.bits .u64)))) (IntKind.u64.wrap ((IntKind.u64.wrap (u17.toNat : Int)) * 2 ^ min ((32 : Int)).toNat (IntKind.bits .u64)))) (IntKind.u64.wrap ((IntKind.u64.wrap (u20.toNat : Int)) * 2 ^ min ((40 : Int)).toNat (IntKind.bits .u64))))))), (42, (fun u => fEq u v1_0)), (43, (fun p25 => (fPtr tyU8 p25 u23))), (44, (fun u => fEq u (int .u8 (u23.toNat : Int)))), (45, (fun u => fEq u (int .u64 (IntKind.u64.wrap (u23.toNat : Int))))), (46, (fun u => fEq u (int .u64 (IntKind.u64.wrap ((IntKind.u64.wrap (u23.toNat : Int)) * 2 ^ min ((48 : Int)).toNat (IntKind.bits .u64)))))), (47, (fun u => fEq u (int .u64 (bits .or .u64 (bits .or .u64 (bits .or .u64 (bits .or .u64 (bits .or .u64 (bits .or .u64 (IntKind.u64.wrap (u5.toNat : Int)) (IntKind.u64.wrap ((IntKind.u64.wrap (u8.toNat : Int)) * 2 ^ min ((8 : Int)).toNat (IntKind.bits .u64)))) (IntKind.u64.wrap ((IntKind.u64.wrap (u11.toNat : Int)) * 2 ^ min ((16 : Int)).toNat (IntKind.bits .u64)))) (IntKind.u64.wrap ((IntKind.u64.wrap (u14.toNat : Int)) * 2 ^ min ((24 : Int)).toNat (IntKind.bits .u64)))) (IntKind.u64.wrap ((IntKind.u64.wrap (u17.toNat : Int)) * 2 ^ min ((32 : Int)).toNat (IntKind.bits .u64)))) (IntKind.u64.wrap ((IntKind.u64.wrap (u20.toNat : Int)) * 2 ^ min ((40 : Int)).toNat (IntKind.bits .u64)))) (IntKind.u64.wrap ((IntKind.u64.wrap (u23.toNat : Int)) * 2 ^ min ((48 : Int)).toNat (IntKind.bits .u64))))))), (48, (fun u => fEq u v1_0)), (49, (fun p28 => (fPtr tyU8 p28 u26))), (50, (fun u => fEq u (int .u8 (u26.toNat : Int)))), (51, (fun u => fEq u (int .u64 (IntKind.u64.wrap (u26.toNat : Int))))), (52, (fun u => fEq u (int .u64 (IntKind.u64.wrap ((IntKind.u64.wrap (u26.toNat : Int)) * 2 ^ min ((56 : Int)).toNat (IntKind.bits .u64)))))), (53, (fun u => fEq u (int .u64 (bits .or .u64 (bits .or .u64 (bits .or .u64 (bits .or .u64 (bits .or .u64 (bits .or .u64 (bits .or .u64 (IntKind.u64.wrap (u5.toNat : Int)) (IntKind.u64.wrap ((IntKind.u64.wrap (u8.toNat : Int)) * 2 ^ min ((8 : Int)).toNat (IntKind.bits .u64)))) (IntKind.u64.wrap ((IntKind.u64.wrap (u11.toNat : Int)) * 2 ^ min ((16 : Int)).toNat (IntKind.bits .u64)))) (IntKind.u64.wrap ((IntKind.u64.wrap (u14.toNat : Int)) * 2 ^ min ((24 : Int)).toNat (IntKind.bits .u64)))) (IntKind.u64.wrap ((IntKind.u64.wrap (u17.toNat : Int)) * 2 ^ min ((32 : Int)).toNat (IntKind.bits .u64)))) (IntKind.u64.wrap ((IntKind.u64.wrap (u20.toNat : Int)) * 2 ^ min ((40 : Int)).toNat (IntKind.bits .u64)))) (IntKind.u64.wrap ((IntKind.u64.wrap (u23.toNat : Int)) * 2 ^ min ((48 : Int)).toNat (IntKind.bits .u64)))) (IntKind.u64.wrap ((IntKind.u64.wrap (u26.toNat : Int)) * 2 ^ min ((56 : Int)).toNat (IntKind.bits .u64)))))))] (tab [(1, v1_0), (4, (int .u64 (0 : Int)))]) mixed (by kernel_rfl) rfl rfl rfl (fun a hs => hs.tab _ (allT_mem ⟨rfl, rfl, trivial⟩)) ⟨⟨rfl, ld_val (ov_move rfl rfl)⟩, ⟨rfl, ld_eq (j := 0) rfl rfl (ld_of (of_idxD 1 hu6 rfl rfl rfl Try.underlying121 sz5 rfl))⟩, ⟨rfl, ld_fact (j := 1) rfl rfl (fun p7 => ld_val (ov_loadP (ds := [(int .u8 (u5.toNat : Int))]) 0 rfl (fun h => h) rfl Try.underlying5 sz5 rfl rfl rfl))⟩, ⟨rfl, ld_eq (j := 2) rfl rfl (ld_val (ov_convInt (by rw [Try.underlying5]; rfl) Try.underlying55 rfl rfl))⟩, ⟨rfl, ld_val (ov_move rfl rfl)⟩, ⟨rfl, ld_eq (j := 4) rfl rfl (ld_of (of_idxD 1 hu9 rfl rfl rfl Try.underlying121 sz5 rfl))⟩, ⟨rfl, ld_fact (j := 5) rfl rfl (fun p10 => ld_val (ov_loadP (ds := [(int .u8 (u8.toNat : Int))]) 0 rfl (fun h => h) rfl Try.underlying5 sz5 rfl rfl rfl))⟩, ⟨rfl, ld_eq (j := 6) rfl rfl (ld_val (ov_convInt (by rw [Try.underlying5]; rfl) Try.underlying55 rfl rfl))⟩, ⟨rfl, ld_eq (j := 7) rfl rfl (ld_val (ov_shl (by decide) rfl rfl rfl))⟩, ⟨rfl, ld_eq (j := 3) rfl rfl (ld_eq (j := 8) rfl rfl (ld_val (ov_int rfl rfl rfl rfl)))⟩, ⟨rfl, ld_val (ov_move rfl rfl)⟩, ⟨rfl, ld_eq (j := 10) rfl rfl (ld_of (of_idxD 1 hu12 rfl rfl rfl Try.underlying121 sz5 rfl))⟩, ⟨rfl, ld_fact (j := 11) rfl rfl (fun p13 => ld_val (ov_loadP (ds := [(int .u8 (u11.toNat : Int))]) 0 rfl (fun h => h) rfl Try.underlying5 sz5 rfl rfl rfl))⟩, ⟨rfl, ld_eq (j := 12) rfl rfl (ld_val (ov_convInt (by rw [Try.underlying5]; rfl) Try.underlying55 rfl rfl))⟩, ⟨rfl, ld_eq (j := 13) rfl rfl (ld_val (ov_shl (by decide) rfl rfl rfl))⟩, ⟨rfl, ld_eq (j := 9) rfl rfl (ld_eq (j := 14) rfl rfl (ld_val (ov_int rfl rfl rfl rfl)))⟩, ⟨rfl, ld_val (ov_move rfl rfl)⟩, ⟨rfl, ld_eq (j := 16) rfl rfl (ld_of (of_idxD 1 hu15 rfl rfl rfl Try.underlying121 sz5 rfl))⟩, ⟨rfl, ld_fact (j := 17) rfl rfl (fun p16 => ld_val (ov_loadP (ds := [(int .u8 (u14.toNat : Int))]) 0 rfl (fun h => h) rfl Try.underlying5 sz5 rfl rfl rfl))⟩, ⟨rfl, ld_eq (j := 18) rfl rfl (ld_val (ov_convInt (by rw [Try.underlying5]; rfl) Try.underlying55 rfl rfl))⟩, ⟨rfl, ld_eq (j := 19) rfl rfl (ld_val (ov_shl (by decide) rfl rfl rfl))⟩, ⟨rfl, ld_eq (j := 15) rfl rfl (ld_eq (j := 20) rfl rfl (ld_val (ov_int rfl rfl rfl rfl)))⟩, ⟨rfl, ld_val (ov_move rfl rfl)⟩, ⟨rfl, ld_eq (j := 22) rfl rfl (ld_of (of_idxD 1 hu18 rfl rfl rfl Try.underlying121 sz5 rfl))⟩, ⟨rfl, ld_fact (j := 23) rfl rfl (fun p19 => ld_val (ov_loadP (ds := [(int .u8 (u17.toNat : Int))]) 0 rfl (fun h => h) rfl Try.underlying5 sz5 rfl rfl rfl))⟩, ⟨rfl, ld_eq (j := 24) rfl rfl (ld_val (ov_convInt (by rw [Try.underlying5]; rfl) Try.underlying55 rfl rfl))⟩, ⟨rfl, ld_eq (j := 25) rfl rfl (ld_val (ov_shl (by decide) rfl rfl rfl))⟩, ⟨rfl, ld_eq (j := 21) rfl rfl (ld_eq (j := 26) rfl rfl (ld_val (ov_int rfl rfl rfl rfl)))⟩, ⟨rfl, ld_val (ov_move rfl rfl)⟩, ⟨rfl, ld_eq (j := 28) rfl rfl (ld_of (of_idxD 1 hu21 rfl rfl rfl Try.underlying121 sz5 rfl))⟩, ⟨rfl, ld_fact (j := 29) rfl rfl (fun p22 => ld_val (ov_loadP (ds := [(int .u8 (u20.toNat : Int))]) 0 rfl (fun h => h) rfl Try.underlying5 sz5 rfl rfl rfl))⟩, ⟨rfl, ld_eq (j := 30) rfl rfl (ld_val (ov_convInt (by rw [Try.underlying5]; rfl) Try.underlying55 rfl rfl))⟩, ⟨rfl, ld_eq (j := 31) rfl rfl (ld_val (ov_shl (by decide) rfl rfl rfl))⟩, ⟨rfl, ld_eq (j := 27) rfl rfl (ld_eq (j := 32) rfl rfl (ld_val (ov_int rfl rfl rfl rfl)))⟩, ⟨rfl, ld_val (ov_move rfl rfl)⟩, ⟨rfl, ld_eq (j := 34) rfl rfl (ld_of (of_idxD 1 hu24 rfl rfl rfl Try.underlying121 sz5 rfl))⟩, ⟨rfl, ld_fact (j := 35) rfl rfl (fun p25 => ld_val (ov_loadP (ds := [(int .u8 (u23.toNat : Int))]) 0 rfl (fun h => h) rfl Try.underlying5 sz5 rfl rfl rfl))⟩, ⟨rfl, ld_eq (j := 36) rfl rfl (ld_val (ov_convInt (by rw [Try.underlying5]; rfl) Try.underlying55 rfl rfl))⟩, ⟨rfl, ld_eq (j := 37) rfl rfl (ld_val (ov_shl (by decide) rfl rfl rfl))⟩, ⟨rfl, ld_eq (j := 33) rfl rfl (ld_eq (j := 38) rfl rfl (ld_val (ov_int rfl rfl rfl rfl)))⟩, ⟨rfl, ld_val (ov_move rfl rfl)⟩, ⟨rfl, ld_eq (j := 40) rfl rfl (ld_of (of_idxD 1 hu27 rfl rfl rfl Try.underlying121 sz5 rfl))⟩, ⟨rfl, ld_fact (j := 41) rfl rfl (fun p28 => ld_val (ov_loadP (ds := [(int .u8 (u26.toNat : Int))]) 0 rfl (fun h => h) rfl Try.underlying5 sz5 rfl rfl rfl))⟩, ⟨rfl, ld_eq (j := 42) rfl rfl (ld_val (ov_convInt (by rw [Try.underlying5]; rfl) Try.underlying55 rfl rfl))⟩, ⟨rfl, ld_eq (j := 43) rfl rfl (ld_val (ov_shl (by decide) rfl rfl rfl))⟩, ⟨rfl, ld_eq (j := 39) rfl rfl (ld_eq (j := 44) rfl rfl (ld_val (ov_int rfl rfl rfl rfl)))⟩, trivial⟩ ?_
 refine tl_eq 45 rfl ?_
 refine tl_done ?_
 refine al_as rfl rfl ?_
 refine al_nt ?_
 refine aw_ret ?_
 obtain rfl := Option.some.inj h
 exact fn_ret () [] [] rfl rfl rfl rfl (res1 rfl rfl) rfl rfl rfl (by decide)
def f_mix_Step (fu : Nat) (a0 : Int) (a1 : Int) : Option Int := (some (bits .xor .u64 (IntKind.u64.wrap ((bits .xor .u64 (IntKind.u64.wrap ((bits .xor .u64 a0 a1) * (11400714819323198485 : Int))) (((IntKind.u64.wrap ((bits .xor .u64 a0 a1) * (11400714819323198485 : Int)))).fdiv (2 ^ min ((29 : Int)).toNat (IntKind.bits .u64)))) * (13787848793156543929 : Int))) (((IntKind.u64.wrap ((bits .xor .u64 (IntKind.u64.wrap ((bits .xor .u64 a0 a1) * (11400714819323198485 : Int))) (((IntKind.u64.wrap ((bits .xor .u64 a0 a1) * (11400714819323198485 : Int)))).fdiv (2 ^ min ((29 : Int)).toNat (IntKind.bits .u64)))) * (13787848793156543929 : Int)))).fdiv (2 ^ min ((32 : Int)).toNat (IntKind.bits .u64)))))
set_option maxRecDepth 100000 in
theorem f_mix_Step_ok (fu : Nat) (a0 : Int) (a1 : Int) {r : Int} (h : f_mix_Step fu a0 a1 = some r) : FnOk Try.prog 242 [(int .u64 a0), (int .u64 a1)] [] [] (fun (i : Unit) => { val := (int .u64 r) }) := by
 unfold f_mix_Step at h
 refine fn_enter Try.func242 rfl Try.ntmps242 rfl (fun w0 Z0 => ?_)
 refine aw_sr ?_
 refine al_as rfl rfl ?_
 refine al_nt ?_
 refine aw_sr ?_
 refine al_mv rfl rfl ?_
 refine al_mv rfl rfl ?_
 refine al_in rfl rfl rfl rfl ?_
 refine al_in rfl rfl rfl rfl ?_
 refine al_as rfl rfl ?_
 refine al_nt ?_
 refine aw_sr ?_
 refine al_mv rfl rfl ?_
 refine al_mv rfl rfl ?_
 refine al_val (ov_shr (by decide) rfl rfl rfl) ?_
 refine al_in rfl rfl rfl rfl ?_
 refine al_in rfl rfl rfl rfl ?_
 refine al_as rfl rfl ?_
 refine al_nt ?_
 refine aw_sr ?_
 refine al_mv rfl rfl ?_
 refine al_mv rfl rfl ?_
 refine al_val (ov_shr (by decide) rfl rfl rfl) ?_
 refine al_in rfl rfl rfl rfl ?_
 refine al_as rfl rfl ?_
 refine al_nt ?_
 refine aw_ret ?_
 obtain rfl := Option.some.inj h
 exact fn_ret () [] [] rfl rfl rfl rfl (res1 rfl rfl) rfl rfl rfl (by decide)
def f_mix_sum_L7 (a1 : Int) (kk2 : (Int → Option Int)) (fu : Nat) : Nat → (List UInt8) → Int → Option Int
  | 0, _, _ => none
  | k6 + 1, l5s0, l5i5 => (bif (!(l5s0 == ([] : List UInt8))) then (req (0 ≤ ((Nat.min l5s0.length 8 : Nat) : Int) ∧ ((Nat.min l5s0.length 8 : Nat) : Int) ≤ (l5s0.length : Int)) (opt (f__binary_littleEndian__Uint64 fu () (lA8u8 (cpA8u8 (A8u8.mk (0 : UInt8) (0 : UInt8) (0 : UInt8) (0 : UInt8) (0 : UInt8) (0 : UInt8) (0 : UInt8) (0 : UInt8)) l5s0))) fun (r13 : Int) => (opt (f_mix_Step fu l5i5 r13) fun (r15 : Int) => (f_mix_sum_L7 a1 kk2 fu k6 (l5s0.drop (((Nat.min l5s0.length 8 : Nat) : Int)).toNat) (bits .and .u64 r15 a1))))) else (kk2 l5i5))
def f_mix_sum (fu : Nat) (a0 : (List UInt8)) (a1 : Int) : Option Int := (lt (fun (j1i5 : Int) => (opt (f_mix_Step fu j1i5 (IntKind.u64.wrap (a0.length : Int))) fun (r4 : Int) => (some (bits .and .u64 r4 a1)))) fun (kk2 : Int → Option Int) => (f_mix_sum_L7 a1 kk2 fu fu a0 (0 : Int)))
end Go.Proofs.Ytgmggcpceemnnaa
