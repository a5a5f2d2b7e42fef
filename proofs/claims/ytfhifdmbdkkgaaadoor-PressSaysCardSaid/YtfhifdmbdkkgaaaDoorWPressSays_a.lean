/- Walks by program. No condition. -/
import Derived.Test.YtfhifdmbdkkgaaaDoorEn25
import Derived.Test.YtfhifdmbdkkgaaaDoorChecked
import Derived.Test.YtfhifdmbdkkgaaaDoorEn24
import Derived.Test.YtfhifdmbdkkgaaaDoorEn26
import Derived.Test.YtfhifdmbdkkgaaaDoorShTrim
import Derived.Test.YtfhifdmbdkkgaaaDoorShBEApp
import Derived.Test.YtfhifdmbdkkgaaaDoorEn25
import Derived.Test.YtfhifdmbdkkgaaaDoorShRepeat
import Derived.Test.YtfhifdmbdkkgaaaDoorEnS
namespace Go.Proofs.YtfhifdmbdkkgaaaDoor
open Go.RowKit YtfhifdmbdkkgaaaDoor.En
set_option linter.unusedVariables false
set_option linter.unusedSimpArgs false
open Go.Value (int bool)
structure S_api_Token where
  Lit : Int
  Len : Int
  Dist : Int
  deriving DecidableEq
def tyS_api_Token : Ty S_api_Token := tyVia (fun x => (x.Lit, (x.Len, x.Dist))) (tyPair (tyInt .u8) (tyPair (tyInt .i64) (tyInt .i64)))
theorem subS_api_Token_0 : Sub tyS_api_Token 0 (tyInt .u8) (fun x => x.Lit) := Sub.via (Sub.fst (Sub.whole _))
theorem subS_api_Token_1 : Sub tyS_api_Token 1 (tyInt .i64) (fun x => x.Len) := Sub.via (Sub.snd (Sub.fst (Sub.whole _)))
theorem subS_api_Token_2 : Sub tyS_api_Token 2 (tyInt .i64) (fun x => x.Dist) := Sub.via (Sub.snd (Sub.snd (Sub.whole _)))
theorem flatS_api_Token : FlatTy tyS_api_Token := flat_via (flat_pair flat_enc (flat_pair flat_enc flat_enc))
theorem encS_api_Token {Z w cs} {x : S_api_Token} (h : tyS_api_Token.rep Z w cs x) : cs = [(int .u8 x.Lit), (int .i64 x.Len), (int .i64 x.Dist)] := by
  obtain ⟨c0, d0, rfl, p0, q0⟩ := h
  obtain ⟨c1, d1, rfl, p1, q1⟩ := q0
  rw [show _ = _ from p0]
  rw [show _ = _ from p1]
  rw [show _ = _ from q1]
  rfl
theorem mkS_api_Token {Z w cs} {x : S_api_Token} (h : cs = [(int .u8 x.Lit), (int .i64 x.Len), (int .i64 x.Dist)]) : tyS_api_Token.rep Z w cs x := by
  subst h
  exact ⟨_, _, (List.take_append_drop 1 _).symm, rfl, ⟨_, _, (List.take_append_drop 1 _).symm, rfl, rfl⟩⟩
structure S_huff_tree where
  weight : Int
  least : Int
  symbols : (List Int)
  deriving DecidableEq
def tyS_huff_tree : Ty S_huff_tree := tyVia (fun x => (x.weight, (x.least, x.symbols))) (tyPair (tyInt .i64) (tyPair (tyInt .i64) (tyList (tyInt .i64))))
theorem subS_huff_tree_0 : Sub tyS_huff_tree 0 (tyInt .i64) (fun x => x.weight) := Sub.via (Sub.fst (Sub.whole _))
theorem subS_huff_tree_1 : Sub tyS_huff_tree 1 (tyInt .i64) (fun x => x.least) := Sub.via (Sub.snd (Sub.fst (Sub.whole _)))
theorem subS_huff_tree_2 : Sub tyS_huff_tree 2 (tyList (tyInt .i64)) (fun x => x.symbols) := Sub.via (Sub.snd (Sub.snd (Sub.whole _)))
theorem encnS_huff_tree {cs} {x : S_huff_tree} : ∀ Z w, (fDat tyS_huff_tree cs x).p Z w → ∃ j : Value, cs = [(int .i64 x.weight), (int .i64 x.least), j] ∧ ∀ g ∈ [(fDat (tyList (tyInt .i64)) [j] x.symbols)], g.p Z w := by
  intro Z w h
  obtain ⟨c0, d0, rfl, p0, q0⟩ := h
  obtain ⟨c1, d1, rfl, p1, q1⟩ := q0
  obtain rfl : c0 = [(int .i64 x.weight)] := p0
  obtain rfl : c1 = [(int .i64 x.least)] := p1
  obtain ⟨v2, rfl⟩ := one_of q1
  exact ⟨v2, rfl, (fall_cons q1 fall_nil)⟩
theorem mknS_huff_tree {Z w cs} {x : S_huff_tree} {v0 : Value} (hc : cs = [(int .i64 x.weight), (int .i64 x.least), v0]) (h0 : (tyList (tyInt .i64)).rep Z w [v0] x.symbols) : tyS_huff_tree.rep Z w cs x := by
  subst hc
  exact ⟨_, _, (List.take_append_drop 1 _).symm, rfl, ⟨_, _, (List.take_append_drop 1 _).symm, rfl, h0⟩⟩
structure A2i64 where
  e0 : Int
  e1 : Int
  deriving DecidableEq
def tyA2i64 : Ty A2i64 := tyVia (fun x => (x.e0, x.e1)) (tyPair (tyInt .i64) (tyInt .i64))
theorem subA2i64_0 : Sub tyA2i64 0 (tyInt .i64) (fun x => x.e0) := Sub.via (Sub.fst (Sub.whole _))
theorem subA2i64_1 : Sub tyA2i64 1 (tyInt .i64) (fun x => x.e1) := Sub.via (Sub.snd (Sub.whole _))
def cA2i64 (x : A2i64) : List Value := [(int .i64 x.e0), (int .i64 x.e1)]
def lA2i64 (x : A2i64) : List Int := [x.e0, x.e1]
def vA2i64 (y : Int) : Value := (int .i64 y)
def setA2i64 (x : A2i64) (j : Int) (y : Int) : A2i64 := ⟨if j = 0 then y else x.e0, if j = 1 then y else x.e1⟩
theorem oneA2i64 (x : A2i64) : ∀ u ∈ cA2i64 x, u.oneCell' = true := ones_map (enc := vA2i64) (xs := lA2i64 x) (fun _ => rfl)
theorem lenA2i64 (x : A2i64) : (lA2i64 x).length = 2 := rfl
theorem lsetA2i64 {x : A2i64} {j : Int} {y : Int} (h0 : 0 ≤ j) (h1 : j < 2) : lA2i64 (setA2i64 x j y) = (lA2i64 x).set j.toNat y := by
  obtain ⟨q, rfl⟩ : ∃ q : Nat, j = q := ⟨j.toNat, by omega⟩
  match q, h1 with
  | 0, _ => rfl
  | 1, _ => rfl
  | n + 2, h => omega
theorem csetA2i64 {x : A2i64} {j : Int} {y : Int} (h0 : 0 ≤ j) (h1 : j < 2) (pre post : List Value) : pre ++ (cA2i64 (setA2i64 x j y) ++ post) = (pre ++ (cA2i64 x ++ post)).set (pre.length + j.toNat) (vA2i64 y) := by
  have h : cA2i64 (setA2i64 x j y) = (cA2i64 x).set j.toNat (vA2i64 y) := by
    have e : ∀ z : A2i64, cA2i64 z = (lA2i64 z).map vA2i64 := fun _ => rfl
    rw [e, e, lsetA2i64 h0 h1, List.map_set]
  rw [h, List.set_append_right _ _ (by omega), Nat.add_sub_cancel_left, List.set_append_left _ _ (by show j.toNat < 2; omega)]
theorem flatA2i64 : FlatTy tyA2i64 := flat_via (flat_pair flat_enc flat_enc)
theorem encA2i64 {Z w cs} {x : A2i64} (h : tyA2i64.rep Z w cs x) : cs = (cA2i64 x) := by
  obtain ⟨c0, d0, rfl, p0, q0⟩ := h
  rw [show _ = _ from p0]
  rw [show _ = _ from q0]
  rfl
theorem mkA2i64 {Z w cs} {x : A2i64} (h : cs = (cA2i64 x)) : tyA2i64.rep Z w cs x := by
  subst h
  exact ⟨_, _, (List.take_append_drop 1 _).symm, rfl, rfl⟩
theorem lrepA2i64 {Z w cs} {x : A2i64} (h : tyA2i64.rep Z w cs x) : RepL (tyInt .i64) Z w cs (lA2i64 x) := by
  rw [encA2i64 h]
  exact ⟨[_], _, rfl, rfl, ⟨[_], _, rfl, rfl, rfl⟩⟩
structure S_lumref_bunch where
  weight : Int
  signs : (List Int)
  deriving DecidableEq
def tyS_lumref_bunch : Ty S_lumref_bunch := tyVia (fun x => (x.weight, x.signs)) (tyPair (tyInt .i64) (tyList (tyInt .i64)))
theorem subS_lumref_bunch_0 : Sub tyS_lumref_bunch 0 (tyInt .i64) (fun x => x.weight) := Sub.via (Sub.fst (Sub.whole _))
theorem subS_lumref_bunch_1 : Sub tyS_lumref_bunch 1 (tyList (tyInt .i64)) (fun x => x.signs) := Sub.via (Sub.snd (Sub.whole _))
theorem encnS_lumref_bunch {cs} {x : S_lumref_bunch} : ∀ Z w, (fDat tyS_lumref_bunch cs x).p Z w → ∃ j : Value, cs = [(int .i64 x.weight), j] ∧ ∀ g ∈ [(fDat (tyList (tyInt .i64)) [j] x.signs)], g.p Z w := by
  intro Z w h
  obtain ⟨c0, d0, rfl, p0, q0⟩ := h
  obtain rfl : c0 = [(int .i64 x.weight)] := p0
  obtain ⟨v1, rfl⟩ := one_of q0
  exact ⟨v1, rfl, (fall_cons q0 fall_nil)⟩
theorem mknS_lumref_bunch {Z w cs} {x : S_lumref_bunch} {v0 : Value} (hc : cs = [(int .i64 x.weight), v0]) (h0 : (tyList (tyInt .i64)).rep Z w [v0] x.signs) : tyS_lumref_bunch.rep Z w cs x := by
  subst hc
  exact ⟨_, _, (List.take_append_drop 1 _).symm, rfl, h0⟩
structure D_huff_heap_huff_tree_ where
  items : (List S_huff_tree)
structure D_press_writer where
  out : (List UInt8)
  free : Int
theorem sz3 : szOf Tryd.prog 3 = some 1 := by kernel_rfl
theorem to3 : tyOf Tryd.prog 3 = some (1, 8, some (int .i64 (0 : Int))) := by kernel_rfl
theorem sz5 : szOf Tryd.prog 5 = some 1 := by kernel_rfl
theorem to5 : tyOf Tryd.prog 5 = some (1, 1, some (int .u8 (0 : Int))) := by kernel_rfl
theorem sz9 : szOf Tryd.prog 9 = some 1 := by kernel_rfl
theorem to9 : tyOf Tryd.prog 9 = some (1, 16, some (str ([] : List UInt8))) := by kernel_rfl
theorem sz71 : szOf Tryd.prog 71 = some 1 := by kernel_rfl
theorem to71 : tyOf Tryd.prog 71 = some (1, 24, some (Value.slice none 0 0)) := by kernel_rfl
theorem sz74 : szOf Tryd.prog 74 = some 1 := by kernel_rfl
theorem to74 : tyOf Tryd.prog 74 = some (1, 24, some (Value.slice none 0 0)) := by kernel_rfl
theorem sz132 : szOf Tryd.prog 132 = some 3 := by kernel_rfl
theorem to132 : tyOf Tryd.prog 132 = some (3, 24, some (ag [(int .u8 (0 : Int)), (int .i64 (0 : Int)), (int .i64 (0 : Int))])) := by kernel_rfl
theorem sz138 : szOf Tryd.prog 138 = some 3 := by kernel_rfl
theorem to138 : tyOf Tryd.prog 138 = some (3, 40, some (ag [(int .i64 (0 : Int)), (int .i64 (0 : Int)), (Value.slice none 0 0)])) := by kernel_rfl
theorem sz140 : szOf Tryd.prog 140 = some 1 := by kernel_rfl
theorem to140 : tyOf Tryd.prog 140 = some (1, 8, some Value.nilFunc) := by kernel_rfl
theorem sz141 : szOf Tryd.prog 141 = some 1 := by kernel_rfl
theorem to141 : tyOf Tryd.prog 141 = some (1, 24, some (Value.slice none 0 0)) := by kernel_rfl
theorem sz154 : szOf Tryd.prog 154 = some 2 := by kernel_rfl
theorem to154 : tyOf Tryd.prog 154 = some (2, 32, some (ag [(Value.pointer none), (Value.slice none 0 0)])) := by kernel_rfl
theorem sz162 : szOf Tryd.prog 162 = some 0 := by kernel_rfl
theorem to162 : tyOf Tryd.prog 162 = some (0, 0, some (ag [])) := by kernel_rfl
theorem sz204 : szOf Tryd.prog 204 = some 2 := by kernel_rfl
theorem to204 : tyOf Tryd.prog 204 = some (2, 32, some (ag [(int .i64 (0 : Int)), (Value.slice none 0 0)])) := by kernel_rfl
theorem mixed : Tryd.prog.follows .mixedOrders = true := by kernel_rfl
def f_lz_longest_L19 (a0 : (List UInt8)) (a1 : Int) (l5i7 : Int) (kk15 : (Int → Option S_api_Token)) : Nat → Int → Option S_api_Token
  | 0, _ => none
  | k18 + 1, l17i8 => (lt (fun (j20b43 : Bool) => (bif j20b43 then (f_lz_longest_L19 a0 a1 l5i7 kk15 k18 (IntKind.i64.wrap (l17i8 + (1 : Int)))) else (kk15 l17i8))) fun (kk21 : Bool → Option S_api_Token) => (bif (decide (l17i8 < (if (IntKind.i64.wrap ((a0.length : Int) - a1)) < (255 : Int) then (IntKind.i64.wrap ((a0.length : Int) - a1)) else (255 : Int)))) then (req (0 ≤ (IntKind.i64.wrap (a1 + l17i8)) ∧ (IntKind.i64.wrap (a1 + l17i8)) < (a0.length : Int)) (req (0 ≤ (IntKind.i64.wrap ((IntKind.i64.wrap (a1 + l17i8)) - l5i7)) ∧ (IntKind.i64.wrap ((IntKind.i64.wrap (a1 + l17i8)) - l5i7)) < (a0.length : Int)) (kk21 ((En.bAt a0 (IntKind.i64.wrap (a1 + l17i8))) == (En.bAt a0 (IntKind.i64.wrap ((IntKind.i64.wrap (a1 + l17i8)) - l5i7))))))) else (kk21 false)))
def f_lz_longest_L7 (a0 : (List UInt8)) (a1 : Int) (kk4 : (Int → Int → Option S_api_Token)) (fu : Nat) : Nat → Int → Int → Int → Option S_api_Token
  | 0, _, _, _ => none
  | k6 + 1, l5i5_1, l5i5_2, l5i7 => (lt (fun (l5i5_1 : Int) (l5i5_2 : Int) (l5i7 : Int) => (f_lz_longest_L7 a0 a1 kk4 fu k6 l5i5_1 l5i5_2 l5i7)) fun (kk8 : Int → Int → Int → Option S_api_Token) => (lt (fun (j9b23 : Bool) => (bif j9b23 then (lt (fun (j12i5_1 : Int) (j12i5_2 : Int) => (kk8 j12i5_1 j12i5_2 (IntKind.i64.wrap (l5i7 + (1 : Int))))) fun (kk13 : Int → Int → Option S_api_Token) => (lt (fun (j14i8 : Int) => (bif (decide (j14i8 > l5i5_1)) then (kk13 j14i8 l5i7) else (kk13 l5i5_1 l5i5_2))) fun (kk15 : Int → Option S_api_Token) => (f_lz_longest_L19 a0 a1 l5i7 kk15 fu (0 : Int)))) else (kk4 l5i5_1 l5i5_2))) fun (kk10 : Bool → Option S_api_Token) => (bif (decide (l5i7 ≤ (if a1 < (1024 : Int) then a1 else (1024 : Int)))) then (kk10 (decide (l5i5_1 < (if (IntKind.i64.wrap ((a0.length : Int) - a1)) < (255 : Int) then (IntKind.i64.wrap ((a0.length : Int) - a1)) else (255 : Int))))) else (kk10 false))))
def f_lz_longest (fu : Nat) (a0 : (List UInt8)) (a1 : Int) : Option S_api_Token := (lt (fun (j3i5_1 : Int) (j3i5_2 : Int) => (some (S_api_Token.mk (0 : Int) j3i5_1 j3i5_2))) fun (kk4 : Int → Int → Option S_api_Token) => (f_lz_longest_L7 a0 a1 kk4 fu fu (0 : Int) (0 : Int) (1 : Int)))
set_option maxRecDepth 100000 in
theorem f_lz_longest_ok (fu : Nat) (a0 : (List UInt8)) (a1 : Int) {r : S_api_Token} (h : f_lz_longest fu a0 a1 = some r) : FnOk Tryd.prog 84 [(str a0), (int .i64 a1)] [] [] (fun (i : Unit) => { val := (ag [(int .u8 r.Lit), (int .i64 r.Len), (int .i64 r.Dist)]) }) := by
 unfold f_lz_longest at h
 refine fn_enter Tryd.func84 rfl Tryd.ntmps84 rfl (fun w0 Z0 => ?_)
 refine aw_sr ?_
 refine al_alloc (zs := [(int .u8 (0 : Int)), (int .i64 (0 : Int)), (int .i64 (0 : Int))]) (zeroOf_to to132) rfl rfl (fun g1 => ?_)
 refine al_nt ?_
 refine aw_sr ?_
 refine al_alloc (zs := [(int .u8 (0 : Int)), (int .i64 (0 : Int)), (int .i64 (0 : Int))]) (zeroOf_to to132) rfl rfl (fun g2 => ?_)
 refine al_nt ?_
 refine aw_sr ?_
 refine al_mv rfl rfl ?_
 refine al_val (ov_strLen Tryd.underlying9 rfl rfl) ?_
 refine al_mv rfl rfl ?_
 refine al_in rfl rfl rfl rfl ?_
 refine al_val (ov_min rfl rfl rfl) ?_
 refine al_as rfl rfl ?_
 refine al_nt ?_
 obtain ⟨kk4, hkk4, h⟩ := lt_some h
 refine aw_seq_join (ι := Int × Int) (fun i => (memOf w0 Z0 [] [(oBox g1 132 [(int .u8 (0 : Int)), (int .i64 (0 : Int)), (int .i64 (0 : Int))]), (oBox g2 132 [(int .u8 (0 : Int)), (int .i64 i.1), (int .i64 i.2)])] [])) (fun i => (tab [(4, (ptr g1 0)), (5, (ptr g2 0))])) (fun i => kk4 i.1 i.2 = some r) ?_ ?_
 ·rintro ⟨j3i5_1, j3i5_2⟩ h
  have h : kk4 j3i5_1 j3i5_2 = some r := h
  rw [hkk4] at h
  dsimp only at h
  clear hkk4
  refine aw_show (m := (memOf w0 Z0 [] [(oBox g1 132 [(int .u8 (0 : Int)), (int .i64 (0 : Int)), (int .i64 (0 : Int))]), (oBox g2 132 [(int .u8 (0 : Int)), (int .i64 j3i5_1), (int .i64 j3i5_2)])] [])) (S := (tab [(4, (ptr g1 0)), (5, (ptr g2 0))])) ?_
  refine aw_sr ?_
  refine al_val (ov_load (i := 1) (v := (ag [(int .u8 (0 : Int)), (int .i64 j3i5_1), (int .i64 j3i5_2)])) rfl rfl Tryd.underlying132 sz132 rfl rfl rfl rfl) ?_
  refine al_store (i := 0) (vs := [(int .u8 (0 : Int)), (int .i64 j3i5_1), (int .i64 j3i5_2)]) (cs' := [(int .u8 (0 : Int)), (int .i64 j3i5_1), (int .i64 j3i5_2)]) rfl rfl rfl sz132 (cv_rfl rfl) rfl (co_val rfl (co_val rfl (co_val rfl co_nil))) (Nat.le_of_ble_eq_true rfl) rfl rfl ?_
  refine al_nt ?_
  refine aw_ret ?_
  obtain rfl := Option.some.inj h
  exact fn_ret () [] [] rfl rfl rfl rfl (resC rfl (resB (i := 0) rfl rfl Tryd.underlying132 sz132 rfl rfl rfl (resN)) rfl) rfl rfl rfl (by decide)
 ·clear hkk4
  refine aw_sr ?_
  refine al_as rfl rfl ?_
  refine al_nt ?_
  refine aw_block ?_
  refine aw_state (aw_loop (ι := Int × Int × Int) (fun i => (memOf w0 Z0 [] [(oBox g1 132 [(int .u8 (0 : Int)), (int .i64 (0 : Int)), (int .i64 (0 : Int))]), (oBox g2 132 [(int .u8 (0 : Int)), (int .i64 i.1), (int .i64 i.2.1)])] [])) (fun i => (tab [(0, (str a0)), (1, (int .i64 a1)), (4, (ptr g1 0)), (5, (ptr g2 0)), (6, (int .i64 (if (IntKind.i64.wrap ((a0.length : Int) - a1)) < (255 : Int) then (IntKind.i64.wrap ((a0.length : Int) - a1)) else (255 : Int)))), (7, (int .i64 i.2.2))])) (fun q i => f_lz_longest_L7 a0 a1 kk4 fu q i.1 i.2.1 i.2.2 = some r) ?_ fu ((0 : Int), (0 : Int), (1 : Int)) h) (fun w a hm hs => norm hm hs [1, 0] [] [(0, (str a0)), (1, (int .i64 a1)), (4, (ptr g1 0)), (5, (ptr g2 0)), (6, (int .i64 (if (IntKind.i64.wrap ((a0.length : Int) - a1)) < (255 : Int) then (IntKind.i64.wrap ((a0.length : Int) - a1)) else (255 : Int)))), (7, (int .i64 (1 : Int)))] (by decide) ⟨rfl, rfl, rfl, rfl, rfl, rfl, trivial⟩)
  clear h
  rintro k6 ⟨l5i5_1, l5i5_2, l5i7⟩ h
  have h : f_lz_longest_L7 a0 a1 kk4 fu k6 l5i5_1 l5i5_2 l5i7 = some r := h
  obtain _ | k6 := k6
  · rw [f_lz_longest_L7] at h; cases h
  rw [f_lz_longest_L7] at h
  refine aw_show (m := (memOf w0 Z0 [] [(oBox g1 132 [(int .u8 (0 : Int)), (int .i64 (0 : Int)), (int .i64 (0 : Int))]), (oBox g2 132 [(int .u8 (0 : Int)), (int .i64 l5i5_1), (int .i64 l5i5_2)])] [])) (S := (tab [(0, (str a0)), (1, (int .i64 a1)), (4, (ptr g1 0)), (5, (ptr g2 0)), (6, (int .i64 (if (IntKind.i64.wrap ((a0.length : Int) - a1)) < (255 : Int) then (IntKind.i64.wrap ((a0.length : Int) - a1)) else (255 : Int)))), (7, (int .i64 l5i7))])) ?_
  obtain ⟨kk8, hkk8, h⟩ := lt_some h
  refine aw_body_join (ι := Int × Int × Int) (fun i => (memOf w0 Z0 [] [(oBox g1 132 [(int .u8 (0 : Int)), (int .i64 (0 : Int)), (int .i64 (0 : Int))]), (oBox g2 132 [(int .u8 (0 : Int)), (int .i64 i.1), (int .i64 i.2.1)])] [])) (fun i => (tab [(0, (str a0)), (1, (int .i64 a1)), (4, (ptr g1 0)), (5, (ptr g2 0)), (6, (int .i64 (if (IntKind.i64.wrap ((a0.length : Int) - a1)) < (255 : Int) then (IntKind.i64.wrap ((a0.length : Int) - a1)) else (255 : Int)))), (7, (int .i64 i.2.2))])) (fun i => kk8 i.1 i.2.1 i.2.2 = some r) (fun i h => aq_again k6 i (Nat.lt_succ_self _) (by rw [hkk8] at h; exact h) (fun w a hm hs => ⟨hm, hs⟩)) ?_
  clear hkk8
  refine aw_seq ?_
  obtain ⟨kk10, hkk10, h⟩ := lt_some h
  refine aw_seq_join (ι := Bool) (fun i => (memOf w0 Z0 [] [(oBox g1 132 [(int .u8 (0 : Int)), (int .i64 (0 : Int)), (int .i64 (0 : Int))]), (oBox g2 132 [(int .u8 (0 : Int)), (int .i64 l5i5_1), (int .i64 l5i5_2)])] [])) (fun i => (tab [(0, (str a0)), (1, (int .i64 a1)), (4, (ptr g1 0)), (5, (ptr g2 0)), (6, (int .i64 (if (IntKind.i64.wrap ((a0.length : Int) - a1)) < (255 : Int) then (IntKind.i64.wrap ((a0.length : Int) - a1)) else (255 : Int)))), (7, (int .i64 l5i7)), (23, (bool i))])) (fun i => kk10 i = some r) ?_ ?_
  ·rintro j9b23 h
   have h : kk10 j9b23 = some r := h
   rw [hkk10] at h
   dsimp only at h
   clear hkk10
   refine aw_show (m := (memOf w0 Z0 [] [(oBox g1 132 [(int .u8 (0 : Int)), (int .i64 (0 : Int)), (int .i64 (0 : Int))]), (oBox g2 132 [(int .u8 (0 : Int)), (int .i64 l5i5_1), (int .i64 l5i5_2)])] [])) (S := (tab [(0, (str a0)), (1, (int .i64 a1)), (4, (ptr g1 0)), (5, (ptr g2 0)), (6, (int .i64 (if (IntKind.i64.wrap ((a0.length : Int) - a1)) < (255 : Int) then (IntKind.i64.wrap ((a0.length : Int) - a1)) else (255 : Int)))), (7, (int .i64 l5i7)), (23, (bool j9b23))])) ?_
   refine aw_cond rfl (fun hb11 => ?_) (fun hb11 => ?_)
   ·replace h := bif_t hb11 h
    refine aw_skip ?_
    refine aq_then ?_
    obtain ⟨kk13, hkk13, h⟩ := lt_some h
    refine aw_seq_join (ι := Int × Int) (fun i => (memOf w0 Z0 [] [(oBox g1 132 [(int .u8 (0 : Int)), (int .i64 (0 : Int)), (int .i64 (0 : Int))]), (oBox g2 132 [(int .u8 (0 : Int)), (int .i64 i.1), (int .i64 i.2)])] [])) (fun i => (tab [(0, (str a0)), (1, (int .i64 a1)), (4, (ptr g1 0)), (5, (ptr g2 0)), (6, (int .i64 (if (IntKind.i64.wrap ((a0.length : Int) - a1)) < (255 : Int) then (IntKind.i64.wrap ((a0.length : Int) - a1)) else (255 : Int)))), (7, (int .i64 l5i7))])) (fun i => kk13 i.1 i.2 = some r) ?_ ?_
    ·rintro ⟨j12i5_1, j12i5_2⟩ h
     have h : kk13 j12i5_1 j12i5_2 = some r := h
     rw [hkk13] at h
     dsimp only at h
     clear hkk13
     refine aw_show (m := (memOf w0 Z0 [] [(oBox g1 132 [(int .u8 (0 : Int)), (int .i64 (0 : Int)), (int .i64 (0 : Int))]), (oBox g2 132 [(int .u8 (0 : Int)), (int .i64 j12i5_1), (int .i64 j12i5_2)])] [])) (S := (tab [(0, (str a0)), (1, (int .i64 a1)), (4, (ptr g1 0)), (5, (ptr g2 0)), (6, (int .i64 (if (IntKind.i64.wrap ((a0.length : Int) - a1)) < (255 : Int) then (IntKind.i64.wrap ((a0.length : Int) - a1)) else (255 : Int)))), (7, (int .i64 l5i7))])) ?_
     refine aw_region ?_
     refine al_mv rfl rfl ?_
     refine al_in rfl rfl rfl rfl ?_
     refine al_as rfl rfl ?_
     refine al_nil ?_
     exact aq_join (j12i5_1, j12i5_2, (IntKind.i64.wrap (l5i7 + (1 : Int)))) h (fun w a hm hs => norm hm hs [0, 1] [] [(0, (str a0)), (1, (int .i64 a1)), (4, (ptr g1 0)), (5, (ptr g2 0)), (6, (int .i64 (if (IntKind.i64.wrap ((a0.length : Int) - a1)) < (255 : Int) then (IntKind.i64.wrap ((a0.length : Int) - a1)) else (255 : Int)))), (7, (int .i64 (IntKind.i64.wrap (l5i7 + (1 : Int)))))] (by decide) ⟨rfl, rfl, rfl, rfl, rfl, rfl, trivial⟩)
    ·clear hkk13
     refine aw_block ?_
     refine aw_sr ?_
     refine al_as rfl rfl ?_
     refine al_nt ?_
     obtain ⟨kk15, hkk15, h⟩ := lt_some h
     refine aw_seq_join (ι := Int) (fun i => (memOf w0 Z0 [] [(oBox g1 132 [(int .u8 (0 : Int)), (int .i64 (0 : Int)), (int .i64 (0 : Int))]), (oBox g2 132 [(int .u8 (0 : Int)), (int .i64 l5i5_1), (int .i64 l5i5_2)])] [])) (fun i => (tab [(0, (str a0)), (1, (int .i64 a1)), (4, (ptr g1 0)), (5, (ptr g2 0)), (6, (int .i64 (if (IntKind.i64.wrap ((a0.length : Int) - a1)) < (255 : Int) then (IntKind.i64.wrap ((a0.length : Int) - a1)) else (255 : Int)))), (7, (int .i64 l5i7)), (8, (int .i64 i))])) (fun i => kk15 i = some r) ?_ ?_
     ·rintro j14i8 h
      have h : kk15 j14i8 = some r := h
      rw [hkk15] at h
      dsimp only at h
      clear hkk15
      refine aw_show (m := (memOf w0 Z0 [] [(oBox g1 132 [(int .u8 (0 : Int)), (int .i64 (0 : Int)), (int .i64 (0 : Int))]), (oBox g2 132 [(int .u8 (0 : Int)), (int .i64 l5i5_1), (int .i64 l5i5_2)])] [])) (S := (tab [(0, (str a0)), (1, (int .i64 a1)), (4, (ptr g1 0)), (5, (ptr g2 0)), (6, (int .i64 (if (IntKind.i64.wrap ((a0.length : Int) - a1)) < (255 : Int) then (IntKind.i64.wrap ((a0.length : Int) - a1)) else (255 : Int)))), (7, (int .i64 l5i7)), (8, (int .i64 j14i8))])) ?_
      refine aw_sr ?_
      refine al_mv rfl rfl ?_
      refine al_val (ov_fieldA (p := 1) rfl Tryd.underlying132 rfl sz3 rfl rfl rfl) ?_
      refine al_val (ov_load (i := 1) (v := (int .i64 l5i5_1)) rfl rfl Tryd.underlying3 sz3 rfl rfl rfl rfl) ?_
      refine al_in rfl rfl rfl rfl ?_
      refine al_nt ?_
      refine aw_cond rfl (fun hb16 => ?_) (fun hb16 => ?_)
      ·replace h := bif_t hb16 h
       refine aw_region ?_
       refine al_mv rfl rfl ?_
       refine al_mv rfl rfl ?_
       refine al_val (ov_build (cells := ([(int .u8 (0 : Int)), (int .i64 j14i8), (int .i64 l5i7)]).toArray) (cs := [(int .u8 (0 : Int)), (int .i64 j14i8), (int .i64 l5i7)]) rfl (fun w a hm hs => by simp only [List.map_toArray, List.map_cons, List.map_nil, List.toList_toArray, hs.ev (x := .tmp 50) rfl, hs.ev (x := .tmp 51) rfl]; kernel_rfl)) ?_
       refine al_store (i := 1) (vs := [(int .u8 (0 : Int)), (int .i64 j14i8), (int .i64 l5i7)]) (cs' := [(int .u8 (0 : Int)), (int .i64 j14i8), (int .i64 l5i7)]) rfl rfl rfl sz132 (cv_rfl rfl) rfl (co_val rfl (co_val rfl (co_val rfl co_nil))) (Nat.le_of_ble_eq_true rfl) rfl rfl ?_
       refine al_nil ?_
       refine aq_block ?_
       exact aq_join (j14i8, l5i7) h (fun w a hm hs => norm hm hs [0, 1] [] [(0, (str a0)), (1, (int .i64 a1)), (4, (ptr g1 0)), (5, (ptr g2 0)), (6, (int .i64 (if (IntKind.i64.wrap ((a0.length : Int) - a1)) < (255 : Int) then (IntKind.i64.wrap ((a0.length : Int) - a1)) else (255 : Int)))), (7, (int .i64 l5i7))] (by decide) ⟨rfl, rfl, rfl, rfl, rfl, rfl, trivial⟩)
      ·replace h := bif_f hb16 h
       refine aw_skip ?_
       refine aq_block ?_
       exact aq_join (l5i5_1, l5i5_2) h (fun w a hm hs => norm hm hs [0, 1] [] [(0, (str a0)), (1, (int .i64 a1)), (4, (ptr g1 0)), (5, (ptr g2 0)), (6, (int .i64 (if (IntKind.i64.wrap ((a0.length : Int) - a1)) < (255 : Int) then (IntKind.i64.wrap ((a0.length : Int) - a1)) else (255 : Int)))), (7, (int .i64 l5i7))] (by decide) ⟨rfl, rfl, rfl, rfl, rfl, rfl, trivial⟩)
     ·clear hkk15
      refine aw_block ?_
      refine aw_state (aw_loop (ι := Int) (fun i => (memOf w0 Z0 [] [(oBox g1 132 [(int .u8 (0 : Int)), (int .i64 (0 : Int)), (int .i64 (0 : Int))]), (oBox g2 132 [(int .u8 (0 : Int)), (int .i64 l5i5_1), (int .i64 l5i5_2)])] [])) (fun i => (tab [(0, (str a0)), (1, (int .i64 a1)), (4, (ptr g1 0)), (5, (ptr g2 0)), (6, (int .i64 (if (IntKind.i64.wrap ((a0.length : Int) - a1)) < (255 : Int) then (IntKind.i64.wrap ((a0.length : Int) - a1)) else (255 : Int)))), (7, (int .i64 l5i7)), (8, (int .i64 i))])) (fun q i => f_lz_longest_L19 a0 a1 l5i7 kk15 q i = some r) ?_ fu (0 : Int) h) (fun w a hm hs => norm hm hs [0, 1] [] [(0, (str a0)), (1, (int .i64 a1)), (4, (ptr g1 0)), (5, (ptr g2 0)), (6, (int .i64 (if (IntKind.i64.wrap ((a0.length : Int) - a1)) < (255 : Int) then (IntKind.i64.wrap ((a0.length : Int) - a1)) else (255 : Int)))), (7, (int .i64 l5i7)), (8, (int .i64 (0 : Int)))] (by decide) ⟨rfl, rfl, rfl, rfl, rfl, rfl, rfl, trivial⟩)
      clear h
      rintro k18 l17i8 h
      have h : f_lz_longest_L19 a0 a1 l5i7 kk15 k18 l17i8 = some r := h
      obtain _ | k18 := k18
      · rw [f_lz_longest_L19] at h; cases h
      rw [f_lz_longest_L19] at h
      refine aw_show (m := (memOf w0 Z0 [] [(oBox g1 132 [(int .u8 (0 : Int)), (int .i64 (0 : Int)), (int .i64 (0 : Int))]), (oBox g2 132 [(int .u8 (0 : Int)), (int .i64 l5i5_1), (int .i64 l5i5_2)])] [])) (S := (tab [(0, (str a0)), (1, (int .i64 a1)), (4, (ptr g1 0)), (5, (ptr g2 0)), (6, (int .i64 (if (IntKind.i64.wrap ((a0.length : Int) - a1)) < (255 : Int) then (IntKind.i64.wrap ((a0.length : Int) - a1)) else (255 : Int)))), (7, (int .i64 l5i7)), (8, (int .i64 l17i8))])) ?_
      refine aw_seq ?_
      obtain ⟨kk21, hkk21, h⟩ := lt_some h
      refine aw_seq_join (ι := Bool) (fun i => (memOf w0 Z0 [] [(oBox g1 132 [(int .u8 (0 : Int)), (int .i64 (0 : Int)), (int .i64 (0 : Int))]), (oBox g2 132 [(int .u8 (0 : Int)), (int .i64 l5i5_1), (int .i64 l5i5_2)])] [])) (fun i => (tab [(0, (str a0)), (1, (int .i64 a1)), (4, (ptr g1 0)), (5, (ptr g2 0)), (6, (int .i64 (if (IntKind.i64.wrap ((a0.length : Int) - a1)) < (255 : Int) then (IntKind.i64.wrap ((a0.length : Int) - a1)) else (255 : Int)))), (7, (int .i64 l5i7)), (8, (int .i64 l17i8)), (43, (bool i))])) (fun i => kk21 i = some r) ?_ ?_
      ·rintro j20b43 h
       have h : kk21 j20b43 = some r := h
       rw [hkk21] at h
       dsimp only at h
       clear hkk21
       refine aw_show (m := (memOf w0 Z0 [] [(oBox g1 132 [(int .u8 (0 : Int)), (int .i64 (0 : Int)), (int .i64 (0 : Int))]), (oBox g2 132 [(int .u8 (0 : Int)), (int .i64 l5i5_1), (int .i64 l5i5_2)])] [])) (S := (tab [(0, (str a0)), (1, (int .i64 a1)), (4, (ptr g1 0)), (5, (ptr g2 0)), (6, (int .i64 (if (IntKind.i64.wrap ((a0.length : Int) - a1)) < (255 : Int) then (IntKind.i64.wrap ((a0.length : Int) - a1)) else (255 : Int)))), (7, (int .i64 l5i7)), (8, (int .i64 l17i8)), (43, (bool j20b43))])) ?_
       refine aw_cond rfl (fun hb22 => ?_) (fun hb22 => ?_)
       ·replace h := bif_t hb22 h
        refine aw_skip ?_
        refine aq_then ?_
        refine aw_block ?_
        refine aw_region ?_
        refine al_mv rfl rfl ?_
        refine al_in rfl rfl rfl rfl ?_
        refine al_as rfl rfl ?_
        refine al_nil ?_
        refine aq_block ?_
        exact aq_again k18 (IntKind.i64.wrap (l17i8 + (1 : Int))) (Nat.lt_succ_self _) h (fun w a hm hs => norm hm hs [0, 1] [] [(0, (str a0)), (1, (int .i64 a1)), (4, (ptr g1 0)), (5, (ptr g2 0)), (6, (int .i64 (if (IntKind.i64.wrap ((a0.length : Int) - a1)) < (255 : Int) then (IntKind.i64.wrap ((a0.length : Int) - a1)) else (255 : Int)))), (7, (int .i64 l5i7)), (8, (int .i64 (IntKind.i64.wrap (l17i8 + (1 : Int)))))] (by decide) ⟨rfl, rfl, rfl, rfl, rfl, rfl, rfl, trivial⟩)
       ·replace h := bif_f hb22 h
        refine aw_exit ?_
        refine aq_then_exit ?_
        refine aq_then_exit ?_
        refine aq_block_exit ?_
        exact aq_join l17i8 h (fun w a hm hs => norm hm hs [0, 1] [] [(0, (str a0)), (1, (int .i64 a1)), (4, (ptr g1 0)), (5, (ptr g2 0)), (6, (int .i64 (if (IntKind.i64.wrap ((a0.length : Int) - a1)) < (255 : Int) then (IntKind.i64.wrap ((a0.length : Int) - a1)) else (255 : Int)))), (7, (int .i64 l5i7)), (8, (int .i64 l17i8))] (by decide) ⟨rfl, rfl, rfl, rfl, rfl, rfl, rfl, trivial⟩)
      ·clear hkk21
       rcases Bool.eq_false_or_eq_true (decide (l17i8 < (if (IntKind.i64.wrap ((a0.length : Int) - a1)) < (255 : Int) then (IntKind.i64.wrap ((a0.length : Int) - a1)) else (255 : Int)))) with hb23 | hb23
       ·replace h := bif_t hb23 h
        obtain ⟨hc24, h⟩ := req_some h
        obtain ⟨hc25, h⟩ := req_some h
        refine aw_region_draw 17 [(26, (fun u => fEq u (int .i64 l17i8))), (27, (fun u => fEq u (int .i64 (if (IntKind.i64.wrap ((a0.length : Int) - a1)) < (255 : Int) then (IntKind.i64.wrap ((a0.length : Int) - a1)) else (255 : Int))))), (28, (fun u => fEq u (bool true))), (29, (fun u => fEq u (bool true))), (30, (fun u => fEq u (str a0))), (31, (fun u => fEq u (int .i64 a1))), (32, (fun u => fEq u (int .i64 l17i8))), (33, (fun u => fEq u (int .i64 (IntKind.i64.wrap (a1 + l17i8))))), (34, (fun u => fEq u (int .u8 (En.bAt a0 (IntKind.i64.wrap (a1 + l17i8)))))), (35, (fun u => fEq u (str a0))), (36, (fun u => fEq u (int .i64 a1))), (37, (fun u => fEq u (int .i64 l17i8))), (38, (fun u => fEq u (int .i64 (IntKind.i64.wrap (a1 + l17i8))))), (39, (fun u => fEq u (int .i64 l5i7))), (40, (fun u => fEq u (int .i64 (IntKind.i64.wrap ((IntKind.i64.wrap (a1 + l17i8)) - l5i7))))), (41, (fun u => fEq u (int .u8 (En.bAt a0 (IntKind.i64.wrap ((IntKind.i64.wrap (a1 + l17i8)) - l5i7)))))), (42, (fun u => fEq u (bool ((En.bAt a0 (IntKind.i64.wrap (a1 + l17i8))) == (En.bAt a0 (IntKind.i64.wrap ((IntKind.i64.wrap (a1 + l17i8)) - l5i7)))))))] (tab [(0, (str a0)), (1, (int .i64 a1)), (4, (ptr g1 0)), (5, (ptr g2 0)), (6, (int .i64 (if (IntKind.i64.wrap ((a0.length : Int) - a1)) < (255 : Int) then (IntKind.i64.wrap ((a0.length : Int) - a1)) else (255 : Int)))), (7, (int .i64 l5i7)), (8, (int .i64 l17i8))]) mixed (by kernel_rfl) rfl rfl rfl (fun a hs => hs.tab _ (allT_mem ⟨rfl, rfl, rfl, rfl, rfl, rfl, rfl, trivial⟩)) ⟨⟨rfl, ld_val (ov_move rfl rfl)⟩, ⟨rfl, ld_val (ov_move rfl rfl)⟩, ⟨rfl, ld_eq (j := 0) rfl rfl (ld_eq (j := 1) rfl rfl (ld_val (ov_cast (by first | rw [hb23] | rfl) (ov_int rfl rfl rfl rfl))))⟩, ⟨rfl, ld_eq (j := 2) rfl rfl (ld_val (ov_cast (by first | rw [hb23] | rfl) (ov_move rfl rfl)))⟩, ⟨rfl, ld_eq (j := 3) rfl rfl (ld_val (ov_move rfl rfl))⟩, ⟨rfl, ld_eq (j := 3) rfl rfl (ld_val (ov_move rfl rfl))⟩, ⟨rfl, ld_eq (j := 3) rfl rfl (ld_val (ov_move rfl rfl))⟩, ⟨rfl, ld_eq (j := 3) rfl rfl (ld_eq (j := 5) rfl rfl (ld_eq (j := 6) rfl rfl (ld_val (ov_int rfl rfl rfl rfl))))⟩, ⟨rfl, ld_eq (j := 3) rfl rfl (ld_eq (j := 4) rfl rfl (ld_eq (j := 7) rfl rfl (ld_val (ov_strIdx hc24.1 hc24.2 Tryd.underlying9 rfl rfl rfl))))⟩, ⟨rfl, ld_eq (j := 3) rfl rfl (ld_val (ov_move rfl rfl))⟩, ⟨rfl, ld_eq (j := 3) rfl rfl (ld_val (ov_move rfl rfl))⟩, ⟨rfl, ld_eq (j := 3) rfl rfl (ld_val (ov_move rfl rfl))⟩, ⟨rfl, ld_eq (j := 3) rfl rfl (ld_eq (j := 10) rfl rfl (ld_eq (j := 11) rfl rfl (ld_val (ov_int rfl rfl rfl rfl))))⟩, ⟨rfl, ld_eq (j := 3) rfl rfl (ld_val (ov_move rfl rfl))⟩, ⟨rfl, ld_eq (j := 3) rfl rfl (ld_eq (j := 12) rfl rfl (ld_eq (j := 13) rfl rfl (ld_val (ov_int rfl rfl rfl rfl))))⟩, ⟨rfl, ld_eq (j := 3) rfl rfl (ld_eq (j := 9) rfl rfl (ld_eq (j := 14) rfl rfl (ld_val (ov_strIdx hc25.1 hc25.2 Tryd.underlying9 rfl rfl rfl))))⟩, ⟨rfl, ld_eq (j := 3) rfl rfl (ld_eq (j := 8) rfl rfl (ld_eq (j := 15) rfl rfl (ld_val (ov_int rfl rfl rfl rfl))))⟩, trivial⟩ ?_
        refine tl_eq 3 rfl ?_
        refine tl_eq 16 rfl ?_
        refine tl_done ?_
        refine al_val (ov_pick_t rfl rfl rfl) ?_
        refine al_nil ?_
        exact aq_join ((En.bAt a0 (IntKind.i64.wrap (a1 + l17i8))) == (En.bAt a0 (IntKind.i64.wrap ((IntKind.i64.wrap (a1 + l17i8)) - l5i7)))) h (fun w a hm hs => norm hm hs [0, 1] [] [(0, (str a0)), (1, (int .i64 a1)), (4, (ptr g1 0)), (5, (ptr g2 0)), (6, (int .i64 (if (IntKind.i64.wrap ((a0.length : Int) - a1)) < (255 : Int) then (IntKind.i64.wrap ((a0.length : Int) - a1)) else (255 : Int)))), (7, (int .i64 l5i7)), (8, (int .i64 l17i8)), (43, (bool ((En.bAt a0 (IntKind.i64.wrap (a1 + l17i8))) == (En.bAt a0 (IntKind.i64.wrap ((IntKind.i64.wrap (a1 + l17i8)) - l5i7))))))] (by decide) ⟨rfl, rfl, rfl, rfl, rfl, rfl, rfl, rfl, trivial⟩)
       ·replace h := bif_f hb23 h
        refine aw_region_draw 17 [(26, (fun u => fEq u (int .i64 l17i8))), (27, (fun u => fEq u (int .i64 (if (IntKind.i64.wrap ((a0.length : Int) - a1)) < (255 : Int) then (IntKind.i64.wrap ((a0.length : Int) - a1)) else (255 : Int))))), (28, (fun u => fEq u (bool false))), (29, (fun u => fEq u (bool false))), (30, (fun u => fEq u undef)), (31, (fun u => fEq u undef)), (32, (fun u => fEq u undef)), (33, (fun u => fEq u undef)), (34, (fun u => fEq u undef)), (35, (fun u => fEq u undef)), (36, (fun u => fEq u undef)), (37, (fun u => fEq u undef)), (38, (fun u => fEq u undef)), (39, (fun u => fEq u undef)), (40, (fun u => fEq u undef)), (41, (fun u => fEq u undef)), (42, (fun u => fEq u undef))] (tab [(0, (str a0)), (1, (int .i64 a1)), (4, (ptr g1 0)), (5, (ptr g2 0)), (6, (int .i64 (if (IntKind.i64.wrap ((a0.length : Int) - a1)) < (255 : Int) then (IntKind.i64.wrap ((a0.length : Int) - a1)) else (255 : Int)))), (7, (int .i64 l5i7)), (8, (int .i64 l17i8))]) mixed (by kernel_rfl) rfl rfl rfl (fun a hs => hs.tab _ (allT_mem ⟨rfl, rfl, rfl, rfl, rfl, rfl, rfl, trivial⟩)) ⟨⟨rfl, ld_val (ov_move rfl rfl)⟩, ⟨rfl, ld_val (ov_move rfl rfl)⟩, ⟨rfl, ld_eq (j := 0) rfl rfl (ld_eq (j := 1) rfl rfl (ld_val (ov_cast (by first | rw [hb23] | rfl) (ov_int rfl rfl rfl rfl))))⟩, ⟨rfl, ld_eq (j := 2) rfl rfl (ld_val (ov_cast (by first | rw [hb23] | rfl) (ov_move rfl rfl)))⟩, ⟨rfl, ld_eq (j := 3) rfl rfl (ld_skip)⟩, ⟨rfl, ld_eq (j := 3) rfl rfl (ld_skip)⟩, ⟨rfl, ld_eq (j := 3) rfl rfl (ld_skip)⟩, ⟨rfl, ld_eq (j := 3) rfl rfl (ld_skip)⟩, ⟨rfl, ld_eq (j := 3) rfl rfl (ld_skip)⟩, ⟨rfl, ld_eq (j := 3) rfl rfl (ld_skip)⟩, ⟨rfl, ld_eq (j := 3) rfl rfl (ld_skip)⟩, ⟨rfl, ld_eq (j := 3) rfl rfl (ld_skip)⟩, ⟨rfl, ld_eq (j := 3) rfl rfl (ld_skip)⟩, ⟨rfl, ld_eq (j := 3) rfl rfl (ld_skip)⟩, ⟨rfl, ld_eq (j := 3) rfl rfl (ld_skip)⟩, ⟨rfl, ld_eq (j := 3) rfl rfl (ld_skip)⟩, ⟨rfl, ld_eq (j := 3) rfl rfl (ld_skip)⟩, trivial⟩ ?_
        refine tl_eq 3 rfl ?_
        refine tl_eq 16 rfl ?_
        refine tl_done ?_
        refine al_val (ov_pick_f rfl rfl rfl) ?_
        refine al_nil ?_
        exact aq_join false h (fun w a hm hs => norm hm hs [0, 1] [] [(0, (str a0)), (1, (int .i64 a1)), (4, (ptr g1 0)), (5, (ptr g2 0)), (6, (int .i64 (if (IntKind.i64.wrap ((a0.length : Int) - a1)) < (255 : Int) then (IntKind.i64.wrap ((a0.length : Int) - a1)) else (255 : Int)))), (7, (int .i64 l5i7)), (8, (int .i64 l17i8)), (43, (bool false))] (by decide) ⟨rfl, rfl, rfl, rfl, rfl, rfl, rfl, rfl, trivial⟩)
   ·replace h := bif_f hb11 h
    refine aw_exit ?_
    refine aq_then_exit ?_
    refine aq_then_exit ?_
    refine aq_block_exit ?_
    exact aq_join (l5i5_1, l5i5_2) h (fun w a hm hs => norm hm hs [0, 1] [] [(4, (ptr g1 0)), (5, (ptr g2 0))] (by decide) ⟨rfl, rfl, trivial⟩)
  ·clear hkk10
   refine aw_region ?_
   refine al_mv rfl rfl ?_
   refine al_mv rfl rfl ?_
   refine al_val (ov_min rfl rfl rfl) ?_
   refine al_in rfl rfl rfl rfl ?_
   refine al_mv rfl rfl ?_
   refine al_caseB 18 rfl (fun hb26 => ?_) (fun hb26 => ?_)
   ·replace h := bif_t hb26 h
    refine al_val (ov_fieldA (p := 1) rfl Tryd.underlying132 rfl sz3 rfl rfl rfl) ?_
    refine al_val (ov_load (i := 1) (v := (int .i64 l5i5_1)) rfl rfl Tryd.underlying3 sz3 rfl rfl rfl rfl) ?_
    refine al_mv rfl rfl ?_
    refine al_in rfl rfl rfl rfl ?_
    refine al_val (ov_pick_t rfl rfl rfl) ?_
    refine al_nil ?_
    exact aq_join (decide (l5i5_1 < (if (IntKind.i64.wrap ((a0.length : Int) - a1)) < (255 : Int) then (IntKind.i64.wrap ((a0.length : Int) - a1)) else (255 : Int)))) h (fun w a hm hs => norm hm hs [0, 1] [] [(0, (str a0)), (1, (int .i64 a1)), (4, (ptr g1 0)), (5, (ptr g2 0)), (6, (int .i64 (if (IntKind.i64.wrap ((a0.length : Int) - a1)) < (255 : Int) then (IntKind.i64.wrap ((a0.length : Int) - a1)) else (255 : Int)))), (7, (int .i64 l5i7)), (23, (bool (decide (l5i5_1 < (if (IntKind.i64.wrap ((a0.length : Int) - a1)) < (255 : Int) then (IntKind.i64.wrap ((a0.length : Int) - a1)) else (255 : Int))))))] (by decide) ⟨rfl, rfl, rfl, rfl, rfl, rfl, rfl, trivial⟩)
   ·replace h := bif_f hb26 h
    refine al_skip ?_
    refine al_skip ?_
    refine al_skip ?_
    refine al_skip ?_
    refine al_val (ov_pick_f rfl rfl rfl) ?_
    refine al_nil ?_
    exact aq_join false h (fun w a hm hs => norm hm hs [0, 1] [] [(0, (str a0)), (1, (int .i64 a1)), (4, (ptr g1 0)), (5, (ptr g2 0)), (6, (int .i64 (if (IntKind.i64.wrap ((a0.length : Int) - a1)) < (255 : Int) then (IntKind.i64.wrap ((a0.length : Int) - a1)) else (255 : Int)))), (7, (int .i64 l5i7)), (23, (bool false))] (by decide) ⟨rfl, rfl, rfl, rfl, rfl, rfl, rfl, trivial⟩)
def f_lz_Greedy_L6 (a0 : (List UInt8)) (kk3 : ((List S_api_Token) → Option ((List S_api_Token) × Int))) (fu : Nat) : Nat → (List S_api_Token) → Int → Option ((List S_api_Token) × Int)
  | 0, _, _ => none
  | k5 + 1, l4x4, l4i5 => (bif (decide (l4i5 < (a0.length : Int))) then (opt (f_lz_longest fu a0 l4i5) fun (r9 : S_api_Token) => (lt (fun (j11i6_0 : Int) => (req (((l4x4.length + ([(S_api_Token.mk j11i6_0 r9.Len r9.Dist)]).length) * 24 : Nat) ≤ 140737488355328 ∧ l4x4.length + ([(S_api_Token.mk j11i6_0 r9.Len r9.Dist)]).length ≤ 9223372036854775807) (f_lz_Greedy_L6 a0 kk3 fu k5 (l4x4 ++ ([(S_api_Token.mk j11i6_0 r9.Len r9.Dist)])) (IntKind.i64.wrap (l4i5 + (if (1 : Int) > r9.Len then (1 : Int) else r9.Len)))))) fun (kk12 : Int → Option ((List S_api_Token) × Int)) => (bif (r9.Len == (0 : Int)) then (req (0 ≤ l4i5 ∧ l4i5 < (a0.length : Int)) (kk12 (En.bAt a0 l4i5))) else (kk12 r9.Lit)))) else (kk3 l4x4))
def f_lz_Greedy (fu : Nat) (a0 : (List UInt8)) : Option ((List S_api_Token) × Int) := (bif (decide ((a0.length : Int) > (4096 : Int))) then (some (([] : List S_api_Token), (2 : Int))) else (lt (fun (j2x4 : (List S_api_Token)) => (some (j2x4, (0 : Int)))) fun (kk3 : (List S_api_Token) → Option ((List S_api_Token) × Int)) => (f_lz_Greedy_L6 a0 kk3 fu fu ([] : List S_api_Token) (0 : Int))))
set_option maxRecDepth 100000 in
theorem f_lz_Greedy_ok (fu : Nat) (a0 : (List UInt8)) {r : ((List S_api_Token) × Int)} (h : f_lz_Greedy fu a0 = some r) : FnOk Tryd.prog 38 [(str a0)] [] [] (fun (i : Value) => { val := (Value.tuple #[i, (int .i64 r.2)]), own := [(oRow i 132 tyS_api_Token r.1)] }) := by
 unfold f_lz_Greedy at h
 refine fn_enter Tryd.func38 rfl Tryd.ntmps38 rfl (fun w0 Z0 => ?_)
 refine aw_sr ?_
 refine al_as rfl rfl ?_
 refine al_as rfl rfl ?_
 refine al_nt ?_
 refine aw_seq ?_
 refine aw_sr ?_
 refine al_mv rfl rfl ?_
 refine al_val (ov_strLen Tryd.underlying9 rfl rfl) ?_
 refine al_in rfl rfl rfl rfl ?_
 refine al_nt ?_
 refine aw_cond rfl (fun hb1 => ?_) (fun hb1 => ?_)
 ·replace h := bif_t hb1 h
  refine aw_sr ?_
  refine al_as rfl rfl ?_
  refine al_as rfl rfl ?_
  refine al_nt ?_
  refine aw_ret ?_
  refine aq_then_ret ?_
  refine aq_nilR 132 tyS_api_Token ?_
  obtain rfl := Option.some.inj h
  exact fn_ret (Value.slice none 0 0) [0] [] rfl rfl rfl rfl (res2 rfl rfl rfl) rfl rfl rfl (by decide)
 ·replace h := bif_f hb1 h
  refine aw_skip ?_
  refine aq_tr ?_
  refine al_as rfl rfl ?_
  refine al_nt ?_
  obtain ⟨kk3, hkk3, h⟩ := lt_some h
  refine aw_seq_join (ι := Value × (List S_api_Token)) (fun i => (memOf w0 Z0 [] [(oRow i.1 132 tyS_api_Token i.2)] [])) (fun i => (tab [(4, i.1)])) (fun i => kk3 i.2 = some r) ?_ ?_
  ·rintro ⟨j2v4, j2x4⟩ h
   have h : kk3 j2x4 = some r := h
   rw [hkk3] at h
   dsimp only at h
   clear hkk3
   refine aw_show (m := (memOf w0 Z0 [] [(oRow j2v4 132 tyS_api_Token j2x4)] [])) (S := (tab [(4, j2v4)])) ?_
   refine aw_sr ?_
   refine al_mv rfl rfl ?_
   refine al_as rfl rfl ?_
   refine al_as rfl rfl ?_
   refine al_nt ?_
   refine aw_ret ?_
   obtain rfl := Option.some.inj h
   exact fn_ret j2v4 [0] [] rfl rfl rfl rfl (res2 rfl rfl rfl) rfl rfl rfl (by decide)
  ·clear hkk3
   refine aw_sr ?_
   refine al_as rfl rfl ?_
   refine al_nt ?_
   refine aw_block ?_
   refine aw_nilR 132 tyS_api_Token ?_
   refine aw_state (aw_loop (ι := Value × (List S_api_Token) × Int) (fun i => (memOf w0 Z0 [] [(oRow i.1 132 tyS_api_Token i.2.1)] [])) (fun i => (tab [(0, (str a0)), (4, i.1), (5, (int .i64 i.2.2))])) (fun q i => f_lz_Greedy_L6 a0 kk3 fu q i.2.1 i.2.2 = some r) ?_ fu ((Value.slice none 0 0), ([] : List S_api_Token), (0 : Int)) h) (fun w a hm hs => norm hm hs [0] [] [(0, (str a0)), (4, (Value.slice none 0 0)), (5, (int .i64 (0 : Int)))] (by decide) ⟨rfl, rfl, rfl, trivial⟩)
   clear h
   rintro k5 ⟨l4v4, l4x4, l4i5⟩ h
   have h : f_lz_Greedy_L6 a0 kk3 fu k5 l4x4 l4i5 = some r := h
   obtain _ | k5 := k5
   · rw [f_lz_Greedy_L6] at h; cases h
   rw [f_lz_Greedy_L6] at h
   refine aw_show (m := (memOf w0 Z0 [] [(oRow l4v4 132 tyS_api_Token l4x4)] [])) (S := (tab [(0, (str a0)), (4, l4v4), (5, (int .i64 l4i5))])) ?_
   refine aw_seq ?_
   refine aw_sr ?_
   refine al_mv rfl rfl ?_
   refine al_mv rfl rfl ?_
   refine al_val (ov_strLen Tryd.underlying9 rfl rfl) ?_
   refine al_in rfl rfl rfl rfl ?_
   refine al_nt ?_
   refine aw_cond rfl (fun hb7 => ?_) (fun hb7 => ?_)
   ·replace h := bif_t hb7 h
    refine aw_skip ?_
    refine aq_then ?_
    refine aw_block ?_
    refine aw_sr ?_
    refine al_mv rfl rfl ?_
    refine al_mv rfl rfl ?_
    obtain ⟨r9, hc8, h⟩ := opt_some h
    refine al_call (vs := [(str a0), (int .i64 l4i5)]) (f_lz_longest_ok fu a0 l4i5 hc8) [] [] [0] pre_nil rfl (by simp) (by decide) (.inl rfl) rfl Tryd.func84 rfl rfl rfl (fun _ => ?_)
    refine al_alloc (zs := [(int .u8 (0 : Int)), (int .i64 (0 : Int)), (int .i64 (0 : Int))]) (zeroOf_to to132) rfl rfl (fun g10 => ?_)
    refine al_store (i := 0) (vs := [(int .u8 r9.Lit), (int .i64 r9.Len), (int .i64 r9.Dist)]) (cs' := [(int .u8 r9.Lit), (int .i64 r9.Len), (int .i64 r9.Dist)]) rfl rfl rfl sz132 (cv_rfl rfl) rfl (co_val rfl (co_val rfl (co_val rfl co_nil))) (Nat.le_of_ble_eq_true rfl) rfl rfl ?_
    refine al_nt ?_
    obtain ⟨kk12, hkk12, h⟩ := lt_some h
    refine aw_seq_join (ι := Int) (fun i => (memOf w0 Z0 [] [(oRow l4v4 132 tyS_api_Token l4x4), (oBox g10 132 [(int .u8 i), (int .i64 r9.Len), (int .i64 r9.Dist)])] [])) (fun i => (tab [(0, (str a0)), (4, l4v4), (5, (int .i64 l4i5)), (6, (ptr g10 0))])) (fun i => kk12 i = some r) ?_ ?_
    ·rintro j11i6_0 h
     have h : kk12 j11i6_0 = some r := h
     rw [hkk12] at h
     dsimp only at h
     clear hkk12
     refine aw_show (m := (memOf w0 Z0 [] [(oRow l4v4 132 tyS_api_Token l4x4), (oBox g10 132 [(int .u8 j11i6_0), (int .i64 r9.Len), (int .i64 r9.Dist)])] [])) (S := (tab [(0, (str a0)), (4, l4v4), (5, (int .i64 l4i5)), (6, (ptr g10 0))])) ?_
     refine aw_sr ?_
     refine al_mv rfl rfl ?_
     refine al_val (ov_load (i := 1) (v := (ag [(int .u8 j11i6_0), (int .i64 r9.Len), (int .i64 r9.Dist)])) rfl rfl Tryd.underlying132 sz132 rfl rfl rfl rfl) ?_
     refine al_buildSlice (τ := tyS_api_Token) (e := 132) (k := 1) (sz := 0) (by_ := 0) (z := undef) (cs := [(int .u8 j11i6_0), (int .i64 r9.Len), (int .i64 r9.Dist)]) (xs := [(S_api_Token.mk j11i6_0 r9.Len r9.Dist)]) rfl (by decide) (fun w a hm hs => ⟨([(int .u8 j11i6_0), (int .i64 r9.Len), (int .i64 r9.Dist)]).toArray, rfl, by simp only [List.map_toArray, List.map_cons, List.map_nil, hs.ev (x := .tmp 25) rfl]; exact run_bs [(ag [(int .u8 j11i6_0), (int .i64 r9.Len), (int .i64 r9.Dist)])] [(int .u8 j11i6_0), (int .i64 r9.Len), (int .i64 r9.Dist)] Tryd.underlying67 to132 rfl rfl (bs_cons (l := [(int .u8 j11i6_0), (int .i64 r9.Len), (int .i64 r9.Dist)]) (cs := []) (cv_rfl rfl) rfl bs_nil) hm⟩) (fun hm => ⟨_, _, rfl, (fun _ => mkS_api_Token rfl) hm, rfl⟩) rfl (fun v13 => ?_)
     obtain ⟨hc14, h⟩ := req_some h
     refine al_append 1 hc14.1 hc14.2 rfl (src_own (i := 1) 0 rfl) rfl rfl Tryd.underlying67 to132 rfl rfl rfl (fun v15 => ?_)
     refine al_as rfl rfl ?_
     refine al_nt ?_
     refine aw_region ?_
     refine al_mv rfl rfl ?_
     refine al_val (ov_fieldA (p := 1) rfl Tryd.underlying132 rfl sz3 rfl rfl rfl) ?_
     refine al_val (ov_load (i := 2) (v := (int .i64 r9.Len)) rfl rfl Tryd.underlying3 sz3 rfl rfl rfl rfl) ?_
     refine al_val (ov_max rfl rfl rfl) ?_
     refine al_in rfl rfl rfl rfl ?_
     refine al_as rfl rfl ?_
     refine al_nil ?_
     refine aq_block ?_
     exact aq_again k5 (v15, (l4x4 ++ ([(S_api_Token.mk j11i6_0 r9.Len r9.Dist)])), (IntKind.i64.wrap (l4i5 + (if (1 : Int) > r9.Len then (1 : Int) else r9.Len)))) (Nat.lt_succ_self _) h (fun w a hm hs => norm hm hs [1] [] [(0, (str a0)), (4, v15), (5, (int .i64 (IntKind.i64.wrap (l4i5 + (if (1 : Int) > r9.Len then (1 : Int) else r9.Len)))))] (by decide) ⟨rfl, rfl, rfl, trivial⟩)
    ·clear hkk12
     refine aw_sr ?_
     refine al_val (ov_fieldA (p := 1) rfl Tryd.underlying132 rfl sz3 rfl rfl rfl) ?_
     refine al_val (ov_load (i := 0) (v := (int .i64 r9.Len)) rfl rfl Tryd.underlying3 sz3 rfl rfl rfl rfl) ?_
     refine al_in rfl rfl rfl rfl ?_
     refine al_nt ?_
     refine aw_cond rfl (fun hb16 => ?_) (fun hb16 => ?_)
     ·replace h := bif_t hb16 h
      refine aw_region ?_
      refine al_mv rfl rfl ?_
      refine al_mv rfl rfl ?_
      obtain ⟨hc17, h⟩ := req_some h
      refine al_val (ov_strIdx hc17.1 hc17.2 Tryd.underlying9 rfl rfl rfl) ?_
      refine al_val (ov_fieldA (p := 0) rfl Tryd.underlying132 rfl sz5 rfl rfl rfl) ?_
      refine al_store (i := 0) (vs := [(int .u8 (En.bAt a0 l4i5))]) (cs' := [(int .u8 (En.bAt a0 l4i5)), (int .i64 r9.Len), (int .i64 r9.Dist)]) rfl rfl rfl sz5 (cv_rfl rfl) rfl (co_val rfl co_nil) (Nat.le_of_ble_eq_true rfl) rfl rfl ?_
      refine al_nil ?_
      exact aq_join (En.bAt a0 l4i5) h (fun w a hm hs => norm hm hs [1, 0] [] [(0, (str a0)), (4, l4v4), (5, (int .i64 l4i5)), (6, (ptr g10 0))] (by decide) ⟨rfl, rfl, rfl, rfl, trivial⟩)
     ·replace h := bif_f hb16 h
      refine aw_skip ?_
      exact aq_join r9.Lit h (fun w a hm hs => norm hm hs [1, 0] [] [(0, (str a0)), (4, l4v4), (5, (int .i64 l4i5)), (6, (ptr g10 0))] (by decide) ⟨rfl, rfl, rfl, rfl, trivial⟩)
   ·replace h := bif_f hb7 h
    refine aw_exit ?_
    refine aq_then_exit ?_
    refine aq_then_exit ?_
    refine aq_block_exit ?_
    exact aq_join (l4v4, l4x4) h (fun w a hm hs => norm hm hs [0] [] [(4, l4v4)] (by decide) ⟨rfl, trivial⟩)
def f_lz_formed (fu : Nat) (a0 : S_api_Token) : Option Bool := (bif (a0.Len == (0 : Int)) then (some (a0.Dist == (0 : Int))) else (lt (fun (j3b2 : Bool) => (some j3b2)) fun (kk4 : Bool → Option Bool) => (bif (a0.Lit == (0 : Int)) then (bif (decide (a0.Len ≥ (1 : Int))) then (bif (decide (a0.Len ≤ (255 : Int))) then (bif (decide (a0.Dist ≥ (1 : Int))) then (kk4 (decide (a0.Dist ≤ (1024 : Int)))) else (kk4 false)) else (kk4 false)) else (kk4 false)) else (kk4 false))))
set_option maxRecDepth 100000 in
theorem f_lz_formed_ok (fu : Nat) (a0 : S_api_Token) {r : Bool} (h : f_lz_formed fu a0 = some r) : FnOk Tryd.prog 141 [(ag [(int .u8 a0.Lit), (int .i64 a0.Len), (int .i64 a0.Dist)])] [] [] (fun (i : Unit) => { val := (bool r) }) := by
 unfold f_lz_formed at h
 refine fn_enter Tryd.func141 rfl Tryd.ntmps141 rfl (fun w0 Z0 => ?_)
 refine aw_sr ?_
 refine al_box (vs := [(int .u8 a0.Lit), (int .i64 a0.Len), (int .i64 a0.Dist)]) rfl (cv_rfl rfl) rfl (fun g1 => ?_)
 refine al_as rfl rfl ?_
 refine al_nt ?_
 refine aw_seq ?_
 refine aw_sr ?_
 refine al_val (ov_fieldA (p := 1) rfl Tryd.underlying132 rfl sz3 rfl rfl rfl) ?_
 refine al_val (ov_load (i := 0) (v := (int .i64 a0.Len)) rfl rfl Tryd.underlying3 sz3 rfl rfl rfl rfl) ?_
 refine al_in rfl rfl rfl rfl ?_
 refine al_nt ?_
 refine aw_cond rfl (fun hb2 => ?_) (fun hb2 => ?_)
 ·replace h := bif_t hb2 h
  refine aw_sr ?_
  refine al_val (ov_fieldA (p := 2) rfl Tryd.underlying132 rfl sz3 rfl rfl rfl) ?_
  refine al_val (ov_load (i := 0) (v := (int .i64 a0.Dist)) rfl rfl Tryd.underlying3 sz3 rfl rfl rfl rfl) ?_
  refine al_in rfl rfl rfl rfl ?_
  refine al_as rfl rfl ?_
  refine al_nt ?_
  refine aw_ret ?_
  refine aq_then_ret ?_
  obtain rfl := Option.some.inj h
  exact fn_ret () [] [] rfl rfl rfl rfl (res1 rfl rfl) rfl rfl rfl (by decide)
 ·replace h := bif_f hb2 h
  refine aw_skip ?_
  refine aq_then ?_
  obtain ⟨kk4, hkk4, h⟩ := lt_some h
  refine aw_seq_join (ι := Bool) (fun i => (memOf w0 Z0 [] [] [])) (fun i => (tab [(2, (bool i))])) (fun i => kk4 i = some r) ?_ ?_
  ·rintro j3b2 h
   have h : kk4 j3b2 = some r := h
   rw [hkk4] at h
   dsimp only at h
   clear hkk4
   refine aw_show (m := (memOf w0 Z0 [] [] [])) (S := (tab [(2, (bool j3b2))])) ?_
   refine aw_ret ?_
   obtain rfl := Option.some.inj h
   exact fn_ret () [] [] rfl rfl rfl rfl (res1 rfl rfl) rfl rfl rfl (by decide)
  ·clear hkk4
   refine aw_region ?_
   refine al_val (ov_fieldA (p := 0) rfl Tryd.underlying132 rfl sz5 rfl rfl rfl) ?_
   refine al_val (ov_load (i := 0) (v := (int .u8 a0.Lit)) rfl rfl Tryd.underlying5 sz5 rfl rfl rfl rfl) ?_
   refine al_in rfl rfl rfl rfl ?_
   refine al_mv rfl rfl ?_
   refine al_caseB 12 rfl (fun hb5 => ?_) (fun hb5 => ?_)
   ·replace h := bif_t hb5 h
    refine al_val (ov_fieldA (p := 1) rfl Tryd.underlying132 rfl sz3 rfl rfl rfl) ?_
    refine al_val (ov_load (i := 0) (v := (int .i64 a0.Len)) rfl rfl Tryd.underlying3 sz3 rfl rfl rfl rfl) ?_
    refine al_in rfl rfl rfl rfl ?_
    refine al_val (ov_pick_t rfl rfl rfl) ?_
    refine al_mv rfl rfl ?_
    refine al_caseB 17 rfl (fun hb6 => ?_) (fun hb6 => ?_)
    ·replace h := bif_t hb6 h
     refine al_val (ov_fieldA (p := 1) rfl Tryd.underlying132 rfl sz3 rfl rfl rfl) ?_
     refine al_val (ov_load (i := 0) (v := (int .i64 a0.Len)) rfl rfl Tryd.underlying3 sz3 rfl rfl rfl rfl) ?_
     refine al_in rfl rfl rfl rfl ?_
     refine al_val (ov_pick_t rfl rfl rfl) ?_
     refine al_mv rfl rfl ?_
     refine al_caseB 22 rfl (fun hb7 => ?_) (fun hb7 => ?_)
     ·replace h := bif_t hb7 h
      refine al_val (ov_fieldA (p := 2) rfl Tryd.underlying132 rfl sz3 rfl rfl rfl) ?_
      refine al_val (ov_load (i := 0) (v := (int .i64 a0.Dist)) rfl rfl Tryd.underlying3 sz3 rfl rfl rfl rfl) ?_
      refine al_in rfl rfl rfl rfl ?_
      refine al_val (ov_pick_t rfl rfl rfl) ?_
      refine al_mv rfl rfl ?_
      refine al_caseB 27 rfl (fun hb8 => ?_) (fun hb8 => ?_)
      ·replace h := bif_t hb8 h
       refine al_val (ov_fieldA (p := 2) rfl Tryd.underlying132 rfl sz3 rfl rfl rfl) ?_
       refine al_val (ov_load (i := 0) (v := (int .i64 a0.Dist)) rfl rfl Tryd.underlying3 sz3 rfl rfl rfl rfl) ?_
       refine al_in rfl rfl rfl rfl ?_
       refine al_val (ov_pick_t rfl rfl rfl) ?_
       refine al_as rfl rfl ?_
       refine al_nil ?_
       exact aq_join (decide (a0.Dist ≤ (1024 : Int))) h (fun w a hm hs => norm hm hs [] [] [(2, (bool (decide (a0.Dist ≤ (1024 : Int)))))] (by decide) ⟨rfl, trivial⟩)
      ·replace h := bif_f hb8 h
       refine al_skip ?_
       refine al_skip ?_
       refine al_skip ?_
       refine al_val (ov_pick_f rfl rfl rfl) ?_
       refine al_as rfl rfl ?_
       refine al_nil ?_
       exact aq_join false h (fun w a hm hs => norm hm hs [] [] [(2, (bool false))] (by decide) ⟨rfl, trivial⟩)
     ·replace h := bif_f hb7 h
      refine al_skip ?_
      refine al_skip ?_
      refine al_skip ?_
      refine al_val (ov_pick_f rfl rfl rfl) ?_
      refine al_mv rfl rfl ?_
      refine al_skip ?_
      refine al_skip ?_
      refine al_skip ?_
      refine al_val (ov_pick_f rfl rfl rfl) ?_
      refine al_as rfl rfl ?_
      refine al_nil ?_
      exact aq_join false h (fun w a hm hs => norm hm hs [] [] [(2, (bool false))] (by decide) ⟨rfl, trivial⟩)
    ·replace h := bif_f hb6 h
     refine al_skip ?_
     refine al_skip ?_
     refine al_skip ?_
     refine al_val (ov_pick_f rfl rfl rfl) ?_
     refine al_mv rfl rfl ?_
     refine al_skip ?_
     refine al_skip ?_
     refine al_skip ?_
     refine al_val (ov_pick_f rfl rfl rfl) ?_
     refine al_mv rfl rfl ?_
     refine al_skip ?_
     refine al_skip ?_
     refine al_skip ?_
     refine al_val (ov_pick_f rfl rfl rfl) ?_
     refine al_as rfl rfl ?_
     refine al_nil ?_
     exact aq_join false h (fun w a hm hs => norm hm hs [] [] [(2, (bool false))] (by decide) ⟨rfl, trivial⟩)
   ·replace h := bif_f hb5 h
    refine al_skip ?_
    refine al_skip ?_
    refine al_skip ?_
    refine al_val (ov_pick_f rfl rfl rfl) ?_
    refine al_mv rfl rfl ?_
    refine al_skip ?_
    refine al_skip ?_
    refine al_skip ?_
    refine al_val (ov_pick_f rfl rfl rfl) ?_
    refine al_mv rfl rfl ?_
    refine al_skip ?_
    refine al_skip ?_
    refine al_skip ?_
    refine al_val (ov_pick_f rfl rfl rfl) ?_
    refine al_mv rfl rfl ?_
    refine al_skip ?_
    refine al_skip ?_
    refine al_skip ?_
    refine al_val (ov_pick_f rfl rfl rfl) ?_
    refine al_as rfl rfl ?_
    refine al_nil ?_
    exact aq_join false h (fun w a hm hs => norm hm hs [] [] [(2, (bool false))] (by decide) ⟨rfl, trivial⟩)
def f_lz_Check_L6 (a0 : (List S_api_Token)) (kk3 : (Unit → Option Int)) (fu : Nat) : Nat → Int → Option Int
  | 0, _ => none
  | k5 + 1, l4i10 => (bif (decide (l4i10 < (a0.length : Int))) then (opt (at? a0 l4i10) fun (u8 : S_api_Token) => (opt (f_lz_formed fu u8) fun (r13 : Bool) => (bif (!r13) then (some (4 : Int)) else (f_lz_Check_L6 a0 kk3 fu k5 (IntKind.i64.wrap (l4i10 + (1 : Int))))))) else (kk3 ()))
def f_lz_Check (fu : Nat) (a0 : (List S_api_Token)) : Option Int := (bif (decide ((a0.length : Int) > (4096 : Int))) then (some (2 : Int)) else (lt (fun (_ : Unit) => (some (0 : Int))) fun (kk3 : Unit → Option Int) => (f_lz_Check_L6 a0 kk3 fu fu (0 : Int))))
set_option maxRecDepth 100000 in
theorem f_lz_Check_ok (fu : Nat) (v0_0 : Value) (a0 : (List S_api_Token)) {r : Int} (h : f_lz_Check fu a0 = some r) : FnOk Tryd.prog 85 [v0_0] [(fDat (tyList tyS_api_Token) [v0_0] a0)] [] (fun (i : Unit) => { val := (int .i64 r) }) := by
 unfold f_lz_Check at h
 refine fn_enter Tryd.func85 rfl Tryd.ntmps85 rfl (fun w0 Z0 => ?_)
 refine aw_sr ?_
 refine al_as rfl rfl ?_
 refine al_nt ?_
 refine aw_seq ?_
 refine aw_sr ?_
 refine al_mv rfl rfl ?_
 refine al_val (ov_lenD 0 rfl rfl Tryd.underlying67 rfl) ?_
 refine al_in rfl rfl rfl rfl ?_
 refine al_nt ?_
 refine aw_cond rfl (fun hb1 => ?_) (fun hb1 => ?_)
 ·replace h := bif_t hb1 h
  refine aw_sr ?_
  refine al_as rfl rfl ?_
  refine al_nt ?_
  refine aw_ret ?_
  refine aq_then_ret ?_
  obtain rfl := Option.some.inj h
  exact fn_ret () [] [] rfl rfl rfl rfl (res1 rfl rfl) rfl rfl rfl (by decide)
 ·replace h := bif_f hb1 h
  refine aw_skip ?_
  refine aq_then ?_
  obtain ⟨kk3, hkk3, h⟩ := lt_some h
  refine aw_seq_join (ι := Unit) (fun i => (memOf w0 Z0 [] [] [(fDat (tyList tyS_api_Token) [v0_0] a0)])) (fun i => (tab [])) (fun i => kk3 () = some r) ?_ ?_
  ·rintro _ h
   have h : kk3 () = some r := h
   rw [hkk3] at h
   dsimp only at h
   clear hkk3
   refine aw_show (m := (memOf w0 Z0 [] [] [(fDat (tyList tyS_api_Token) [v0_0] a0)])) (S := (tab [])) ?_
   refine aw_sr ?_
   refine al_as rfl rfl ?_
   refine al_nt ?_
   refine aw_ret ?_
   obtain rfl := Option.some.inj h
   exact fn_ret () [] [] rfl rfl rfl rfl (res1 rfl rfl) rfl rfl rfl (by decide)
  ·clear hkk3
   refine aw_sr ?_
   refine al_mv rfl rfl ?_
   refine al_val (ov_lenD 0 rfl rfl Tryd.underlying67 rfl) ?_
   refine al_mv rfl rfl ?_
   refine al_nt ?_
   refine aw_block ?_
   refine aw_state (aw_loop (ι := Int) (fun i => (memOf w0 Z0 [] [] [(fDat (tyList tyS_api_Token) [v0_0] a0)])) (fun i => (tab [(8, v0_0), (9, (int .i64 (a0.length : Int))), (10, (int .i64 i))])) (fun q i => f_lz_Check_L6 a0 kk3 fu q i = some r) ?_ fu (0 : Int) h) (fun w a hm hs => norm hm hs [] [0] [(8, v0_0), (9, (int .i64 (a0.length : Int))), (10, (int .i64 (0 : Int)))] (by decide) ⟨rfl, rfl, rfl, trivial⟩)
   clear h
   rintro k5 l4i10 h
   have h : f_lz_Check_L6 a0 kk3 fu k5 l4i10 = some r := h
   obtain _ | k5 := k5
   · rw [f_lz_Check_L6] at h; cases h
   rw [f_lz_Check_L6] at h
   refine aw_show (m := (memOf w0 Z0 [] [] [(fDat (tyList tyS_api_Token) [v0_0] a0)])) (S := (tab [(8, v0_0), (9, (int .i64 (a0.length : Int))), (10, (int .i64 l4i10))])) ?_
   refine aw_sr ?_
   refine al_in rfl rfl rfl rfl ?_
   refine al_nt ?_
   refine aw_seq ?_
   refine aw_cond rfl (fun hb7 => ?_) (fun hb7 => ?_)
   ·replace h := bif_t hb7 h
    refine aw_skip ?_
    refine aq_then ?_
    refine aw_seq ?_
    refine aw_block ?_
    refine aw_sr ?_
    obtain ⟨u8, hu9, h⟩ := opt_some h
    refine al_idxD 0 hu9 rfl rfl rfl Tryd.underlying67 sz132 rfl (fun p10 => ?_)
    refine al_val (ov_loadP (ds := [(int .u8 u8.Lit), (int .i64 u8.Len), (int .i64 u8.Dist)]) 0 rfl encS_api_Token rfl Tryd.underlying132 sz132 rfl rfl rfl) ?_
    refine al_alloc (zs := [(int .u8 (0 : Int)), (int .i64 (0 : Int)), (int .i64 (0 : Int))]) (zeroOf_to to132) rfl rfl (fun g11 => ?_)
    refine al_store (i := 0) (vs := [(int .u8 u8.Lit), (int .i64 u8.Len), (int .i64 u8.Dist)]) (cs' := [(int .u8 u8.Lit), (int .i64 u8.Len), (int .i64 u8.Dist)]) rfl rfl rfl sz132 (cv_rfl rfl) rfl (co_val rfl (co_val rfl (co_val rfl co_nil))) (Nat.le_of_ble_eq_true rfl) rfl rfl ?_
    refine al_nt ?_
    refine aw_sr ?_
    refine al_val (ov_load (i := 0) (v := (ag [(int .u8 u8.Lit), (int .i64 u8.Len), (int .i64 u8.Dist)])) rfl rfl Tryd.underlying132 sz132 rfl rfl rfl rfl) ?_
    obtain ⟨r13, hc12, h⟩ := opt_some h
    refine al_call (vs := [(ag [(int .u8 u8.Lit), (int .i64 u8.Len), (int .i64 u8.Dist)])]) (f_lz_formed_ok fu u8 hc12) [] [] [0] pre_nil rfl (by simp) (by decide) (.inl rfl) rfl Tryd.func141 rfl rfl rfl (fun _ => ?_)
    refine al_val (ov_not rfl rfl) ?_
    refine al_nt ?_
    refine aw_cond rfl (fun hb14 => ?_) (fun hb14 => ?_)
    ·replace h := bif_t hb14 h
     refine aw_sr ?_
     refine al_as rfl rfl ?_
     refine al_nt ?_
     refine aw_ret ?_
     refine aq_block_ret ?_
     refine aq_then_ret ?_
     refine aq_then_ret ?_
     refine aq_block_ret ?_
     refine aq_then_ret ?_
     obtain rfl := Option.some.inj h
     exact fn_ret () [] [] rfl rfl rfl rfl (res1 rfl rfl) rfl rfl rfl (by decide)
    ·replace h := bif_f hb14 h
     refine aw_skip ?_
     refine aq_block ?_
     refine aq_then ?_
     refine aw_region ?_
     refine al_in rfl rfl rfl rfl ?_
     refine al_mv rfl rfl ?_
     refine al_nil ?_
     exact aq_again k5 (IntKind.i64.wrap (l4i10 + (1 : Int))) (Nat.lt_succ_self _) h (fun w a hm hs => norm hm hs [] [1] [(8, v0_0), (9, (int .i64 (a0.length : Int))), (10, (int .i64 (IntKind.i64.wrap (l4i10 + (1 : Int)))))] (by decide) ⟨rfl, rfl, rfl, trivial⟩)
   ·replace h := bif_f hb7 h
    refine aw_exit ?_
    refine aq_then_exit ?_
    refine aq_then_exit ?_
    refine aq_block_exit ?_
    exact aq_join () h (fun w a hm hs => norm hm hs [] [0] [] (by decide) trivial)
def f_lz_Pack_L8 (a0 : (List S_api_Token)) (kk5 : ((List UInt8) → Option ((List UInt8) × Int))) : Nat → (List UInt8) → Int → Option ((List UInt8) × Int)
  | 0, _, _ => none
  | k7 + 1, l6x5, l6i15 => (bif (decide (l6i15 < (a0.length : Int))) then (lt (fun (j10x5 : (List UInt8)) => (f_lz_Pack_L8 a0 kk5 k7 j10x5 (IntKind.i64.wrap (l6i15 + (1 : Int))))) fun (kk11 : (List UInt8) → Option ((List UInt8) × Int)) => (opt (at? a0 l6i15) fun (u12 : S_api_Token) => (bif (u12.Len == (0 : Int)) then (req (0 ≤ (0 : Int) ∧ (0 : Int) ≤ 255) (req (0 ≤ u12.Lit ∧ u12.Lit ≤ 255) (req (((l6x5.length + ([(UInt8.ofNat ((0 : Int)).toNat), (UInt8.ofNat (u12.Lit).toNat)]).length) * 1 : Nat) ≤ 140737488355328 ∧ l6x5.length + ([(UInt8.ofNat ((0 : Int)).toNat), (UInt8.ofNat (u12.Lit).toNat)]).length ≤ 9223372036854775807) (kk11 (l6x5 ++ ([(UInt8.ofNat ((0 : Int)).toNat), (UInt8.ofNat (u12.Lit).toNat)])))))) else (req (0 ≤ (IntKind.u8.wrap u12.Len) ∧ (IntKind.u8.wrap u12.Len) ≤ 255) (req (0 ≤ (IntKind.u8.wrap u12.Dist) ∧ (IntKind.u8.wrap u12.Dist) ≤ 255) (req (0 ≤ (IntKind.u8.wrap ((u12.Dist).fdiv (2 ^ min ((8 : Int)).toNat (IntKind.bits .i64)))) ∧ (IntKind.u8.wrap ((u12.Dist).fdiv (2 ^ min ((8 : Int)).toNat (IntKind.bits .i64)))) ≤ 255) (req (((l6x5.length + ([(UInt8.ofNat ((IntKind.u8.wrap u12.Len)).toNat), (UInt8.ofNat ((IntKind.u8.wrap u12.Dist)).toNat), (UInt8.ofNat ((IntKind.u8.wrap ((u12.Dist).fdiv (2 ^ min ((8 : Int)).toNat (IntKind.bits .i64))))).toNat)]).length) * 1 : Nat) ≤ 140737488355328 ∧ l6x5.length + ([(UInt8.ofNat ((IntKind.u8.wrap u12.Len)).toNat), (UInt8.ofNat ((IntKind.u8.wrap u12.Dist)).toNat), (UInt8.ofNat ((IntKind.u8.wrap ((u12.Dist).fdiv (2 ^ min ((8 : Int)).toNat (IntKind.bits .i64))))).toNat)]).length ≤ 9223372036854775807) (kk11 (l6x5 ++ ([(UInt8.ofNat ((IntKind.u8.wrap u12.Len)).toNat), (UInt8.ofNat ((IntKind.u8.wrap u12.Dist)).toNat), (UInt8.ofNat ((IntKind.u8.wrap ((u12.Dist).fdiv (2 ^ min ((8 : Int)).toNat (IntKind.bits .i64))))).toNat)])))))))))) else (kk5 l6x5))
def f_lz_Pack (fu : Nat) (a0 : (List S_api_Token)) : Option ((List UInt8) × Int) := (opt (f_lz_Check fu a0) fun (r2 : Int) => (bif (r2 != (0 : Int)) then (some (([] : List UInt8), r2)) else (lt (fun (j4x5 : (List UInt8)) => (some (j4x5, (0 : Int)))) fun (kk5 : (List UInt8) → Option ((List UInt8) × Int)) => (f_lz_Pack_L8 a0 kk5 fu ([] : List UInt8) (0 : Int)))))
set_option maxRecDepth 100000 in
theorem f_lz_Pack_ok (fu : Nat) (v0_0 : Value) (a0 : (List S_api_Token)) {r : ((List UInt8) × Int)} (h : f_lz_Pack fu a0 = some r) : FnOk Tryd.prog 39 [v0_0] [(fDat (tyList tyS_api_Token) [v0_0] a0)] [] (fun (i : Unit) => { val := (Value.tuple #[(str r.1), (int .i64 r.2)]) }) := by
 unfold f_lz_Pack at h
 refine fn_enter Tryd.func39 rfl Tryd.ntmps39 rfl (fun w0 Z0 => ?_)
 refine aw_sr ?_
 refine al_as rfl rfl ?_
 refine al_as rfl rfl ?_
 refine al_nt ?_
 refine aw_seq ?_
 refine aw_sr ?_
 refine al_mv rfl rfl ?_
 obtain ⟨r2, hc1, h⟩ := opt_some h
 refine al_call (vs := [v0_0]) (f_lz_Check_ok fu v0_0 a0 hc1) [] [] [] (pre_fz 0 rfl pre_nil) rfl (by simp) (by decide) (.inl rfl) rfl Tryd.func85 rfl rfl rfl (fun _ => ?_)
 refine al_as rfl rfl ?_
 refine al_nt ?_
 refine aw_sr ?_
 refine al_mv rfl rfl ?_
 refine al_in rfl rfl rfl rfl ?_
 refine al_nt ?_
 refine aw_cond rfl (fun hb3 => ?_) (fun hb3 => ?_)
 ·replace h := bif_t hb3 h
  refine aw_sr ?_
  refine al_mv rfl rfl ?_
  refine al_as rfl rfl ?_
  refine al_as rfl rfl ?_
  refine al_nt ?_
  refine aw_ret ?_
  refine aq_then_ret ?_
  obtain rfl := Option.some.inj h
  exact fn_ret () [] [] rfl rfl rfl rfl (res2 rfl rfl rfl) rfl rfl rfl (by decide)
 ·replace h := bif_f hb3 h
  refine aw_skip ?_
  refine aq_tr ?_
  refine al_as rfl rfl ?_
  refine al_nt ?_
  obtain ⟨kk5, hkk5, h⟩ := lt_some h
  refine aw_seq_join (ι := Value × (List UInt8)) (fun i => (memOf w0 Z0 [] [(oRow i.1 5 tyU8 i.2)] [(fDat (tyList tyS_api_Token) [v0_0] a0)])) (fun i => (tab [(5, i.1)])) (fun i => kk5 i.2 = some r) ?_ ?_
  ·rintro ⟨j4v5, j4x5⟩ h
   have h : kk5 j4x5 = some r := h
   rw [hkk5] at h
   dsimp only at h
   clear hkk5
   refine aw_show (m := (memOf w0 Z0 [] [(oRow j4v5 5 tyU8 j4x5)] [(fDat (tyList tyS_api_Token) [v0_0] a0)])) (S := (tab [(5, j4v5)])) ?_
   refine aw_sr ?_
   refine al_mv rfl rfl ?_
   refine al_val (ov_toStrR 0 rfl rfl Tryd.underlying74 Tryd.underlying5 Tryd.underlying9 rfl) ?_
   refine al_as rfl rfl ?_
   refine al_as rfl rfl ?_
   refine al_nt ?_
   refine aw_ret ?_
   obtain rfl := Option.some.inj h
   exact fn_ret () [] [] rfl rfl rfl rfl (res2 rfl rfl rfl) rfl rfl rfl (by decide)
  ·clear hkk5
   refine aw_sr ?_
   refine al_mv rfl rfl ?_
   refine al_val (ov_lenD 0 rfl rfl Tryd.underlying67 rfl) ?_
   refine al_mv rfl rfl ?_
   refine al_nt ?_
   refine aw_block ?_
   refine aw_nilR 5 tyU8 ?_
   refine aw_state (aw_loop (ι := Value × (List UInt8) × Int) (fun i => (memOf w0 Z0 [] [(oRow i.1 5 tyU8 i.2.1)] [(fDat (tyList tyS_api_Token) [v0_0] a0)])) (fun i => (tab [(5, i.1), (13, v0_0), (14, (int .i64 (a0.length : Int))), (15, (int .i64 i.2.2))])) (fun q i => f_lz_Pack_L8 a0 kk5 q i.2.1 i.2.2 = some r) ?_ fu ((Value.slice none 0 0), ([] : List UInt8), (0 : Int)) h) (fun w a hm hs => norm hm hs [0] [0] [(5, (Value.slice none 0 0)), (13, v0_0), (14, (int .i64 (a0.length : Int))), (15, (int .i64 (0 : Int)))] (by decide) ⟨rfl, rfl, rfl, rfl, trivial⟩)
   clear h
   rintro k7 ⟨l6v5, l6x5, l6i15⟩ h
   have h : f_lz_Pack_L8 a0 kk5 k7 l6x5 l6i15 = some r := h
   obtain _ | k7 := k7
   · rw [f_lz_Pack_L8] at h; cases h
   rw [f_lz_Pack_L8] at h
   refine aw_show (m := (memOf w0 Z0 [] [(oRow l6v5 5 tyU8 l6x5)] [(fDat (tyList tyS_api_Token) [v0_0] a0)])) (S := (tab [(5, l6v5), (13, v0_0), (14, (int .i64 (a0.length : Int))), (15, (int .i64 l6i15))])) ?_
   refine aw_sr ?_
   refine al_in rfl rfl rfl rfl ?_
   refine al_nt ?_
   refine aw_seq ?_
   refine aw_cond rfl (fun hb9 => ?_) (fun hb9 => ?_)
   ·replace h := bif_t hb9 h
    refine aw_skip ?_
    refine aq_then ?_
    obtain ⟨kk11, hkk11, h⟩ := lt_some h
    refine aw_seq_join (ι := Value × (List UInt8)) (fun i => (memOf w0 Z0 [] [(oRow i.1 5 tyU8 i.2)] [(fDat (tyList tyS_api_Token) [v0_0] a0)])) (fun i => (tab [(5, i.1), (13, v0_0), (14, (int .i64 (a0.length : Int))), (15, (int .i64 l6i15))])) (fun i => kk11 i.2 = some r) ?_ ?_
    ·rintro ⟨j10v5, j10x5⟩ h
     have h : kk11 j10x5 = some r := h
     rw [hkk11] at h
     dsimp only at h
     clear hkk11
     refine aw_show (m := (memOf w0 Z0 [] [(oRow j10v5 5 tyU8 j10x5)] [(fDat (tyList tyS_api_Token) [v0_0] a0)])) (S := (tab [(5, j10v5), (13, v0_0), (14, (int .i64 (a0.length : Int))), (15, (int .i64 l6i15))])) ?_
     refine aw_region ?_
     refine al_in rfl rfl rfl rfl ?_
     refine al_mv rfl rfl ?_
     refine al_nil ?_
     exact aq_again k7 (j10v5, j10x5, (IntKind.i64.wrap (l6i15 + (1 : Int)))) (Nat.lt_succ_self _) h (fun w a hm hs => norm hm hs [0] [0] [(5, j10v5), (13, v0_0), (14, (int .i64 (a0.length : Int))), (15, (int .i64 (IntKind.i64.wrap (l6i15 + (1 : Int)))))] (by decide) ⟨rfl, rfl, rfl, rfl, trivial⟩)
    ·clear hkk11
     refine aw_block ?_
     refine aw_sr ?_
     obtain ⟨u12, hu13, h⟩ := opt_some h
     refine al_idxD 0 hu13 rfl rfl rfl Tryd.underlying67 sz132 rfl (fun p14 => ?_)
     refine al_val (ov_loadP (ds := [(int .u8 u12.Lit), (int .i64 u12.Len), (int .i64 u12.Dist)]) 0 rfl encS_api_Token rfl Tryd.underlying132 sz132 rfl rfl rfl) ?_
     refine al_alloc (zs := [(int .u8 (0 : Int)), (int .i64 (0 : Int)), (int .i64 (0 : Int))]) (zeroOf_to to132) rfl rfl (fun g15 => ?_)
     refine al_store (i := 0) (vs := [(int .u8 u12.Lit), (int .i64 u12.Len), (int .i64 u12.Dist)]) (cs' := [(int .u8 u12.Lit), (int .i64 u12.Len), (int .i64 u12.Dist)]) rfl rfl rfl sz132 (cv_rfl rfl) rfl (co_val rfl (co_val rfl (co_val rfl co_nil))) (Nat.le_of_ble_eq_true rfl) rfl rfl ?_
     refine al_nt ?_
     refine aw_sr ?_
     refine al_val (ov_fieldA (p := 1) rfl Tryd.underlying132 rfl sz3 rfl rfl rfl) ?_
     refine al_val (ov_load (i := 0) (v := (int .i64 u12.Len)) rfl rfl Tryd.underlying3 sz3 rfl rfl rfl rfl) ?_
     refine al_in rfl rfl rfl rfl ?_
     refine al_nt ?_
     refine aw_cond rfl (fun hb16 => ?_) (fun hb16 => ?_)
     ·replace h := bif_t hb16 h
      refine aw_region ?_
      refine al_mv rfl rfl ?_
      refine al_val (ov_fieldA (p := 0) rfl Tryd.underlying132 rfl sz5 rfl rfl rfl) ?_
      refine al_val (ov_load (i := 0) (v := (int .u8 u12.Lit)) rfl rfl Tryd.underlying5 sz5 rfl rfl rfl rfl) ?_
      obtain ⟨hc18, h⟩ := req_some h
      obtain ⟨hc19, h⟩ := req_some h
      refine al_buildSlice (τ := tyU8) (e := 5) (k := 2) (sz := 0) (by_ := 0) (z := undef) (cs := [(int .u8 (0 : Int)), (int .u8 u12.Lit)]) (xs := [(UInt8.ofNat ((0 : Int)).toNat), (UInt8.ofNat (u12.Lit).toNat)]) rfl (by decide) (fun w a hm hs => ⟨([(int .u8 (0 : Int)), (int .u8 u12.Lit)]).toArray, rfl, by simp only [List.map_toArray, List.map_cons, List.map_nil, hs.ev (x := .const (int .u8 (0 : Int))) rfl, hs.ev (x := .tmp 24) rfl]; exact run_bs [(int .u8 (0 : Int)), (int .u8 u12.Lit)] [(int .u8 (0 : Int)), (int .u8 u12.Lit)] Tryd.underlying74 to5 rfl rfl (bs_cons (l := [(int .u8 (0 : Int))]) (cs := [(int .u8 u12.Lit)]) (cv_rfl rfl) rfl (bs_cons (l := [(int .u8 u12.Lit)]) (cs := []) (cv_rfl rfl) rfl bs_nil)) hm⟩) (fun hm => ⟨_, _, rfl, (fun _ => u8_rep hc18) hm, ⟨_, _, rfl, (fun _ => u8_rep hc19) hm, rfl⟩⟩) rfl (fun v17 => ?_)
      obtain ⟨hc20, h⟩ := req_some h
      refine al_append 2 hc20.1 hc20.2 rfl (src_own (i := 2) 0 rfl) rfl rfl Tryd.underlying74 to5 rfl rfl rfl (fun v21 => ?_)
      refine al_as rfl rfl ?_
      refine al_nil ?_
      refine aq_block ?_
      exact aq_join (v21, (l6x5 ++ ([(UInt8.ofNat ((0 : Int)).toNat), (UInt8.ofNat (u12.Lit).toNat)]))) h (fun w a hm hs => norm hm hs [2] [1] [(5, v21), (13, v0_0), (14, (int .i64 (a0.length : Int))), (15, (int .i64 l6i15))] (by decide) ⟨rfl, rfl, rfl, rfl, trivial⟩)
     ·replace h := bif_f hb16 h
      refine aw_region ?_
      refine al_mv rfl rfl ?_
      refine al_val (ov_fieldA (p := 1) rfl Tryd.underlying132 rfl sz3 rfl rfl rfl) ?_
      refine al_val (ov_load (i := 0) (v := (int .i64 u12.Len)) rfl rfl Tryd.underlying3 sz3 rfl rfl rfl rfl) ?_
      refine al_val (ov_convInt (by rw [Tryd.underlying3]; rfl) Tryd.underlying5 rfl rfl) ?_
      refine al_val (ov_fieldA (p := 2) rfl Tryd.underlying132 rfl sz3 rfl rfl rfl) ?_
      refine al_val (ov_load (i := 0) (v := (int .i64 u12.Dist)) rfl rfl Tryd.underlying3 sz3 rfl rfl rfl rfl) ?_
      refine al_val (ov_convInt (by rw [Tryd.underlying3]; rfl) Tryd.underlying5 rfl rfl) ?_
      refine al_val (ov_fieldA (p := 2) rfl Tryd.underlying132 rfl sz3 rfl rfl rfl) ?_
      refine al_val (ov_load (i := 0) (v := (int .i64 u12.Dist)) rfl rfl Tryd.underlying3 sz3 rfl rfl rfl rfl) ?_
      refine al_val (ov_shr (by decide) rfl rfl rfl) ?_
      refine al_val (ov_convInt (by rw [Tryd.underlying3]; rfl) Tryd.underlying5 rfl rfl) ?_
      obtain ⟨hc23, h⟩ := req_some h
      obtain ⟨hc24, h⟩ := req_some h
      obtain ⟨hc25, h⟩ := req_some h
      refine al_buildSlice (τ := tyU8) (e := 5) (k := 3) (sz := 0) (by_ := 0) (z := undef) (cs := [(int .u8 (IntKind.u8.wrap u12.Len)), (int .u8 (IntKind.u8.wrap u12.Dist)), (int .u8 (IntKind.u8.wrap ((u12.Dist).fdiv (2 ^ min ((8 : Int)).toNat (IntKind.bits .i64)))))]) (xs := [(UInt8.ofNat ((IntKind.u8.wrap u12.Len)).toNat), (UInt8.ofNat ((IntKind.u8.wrap u12.Dist)).toNat), (UInt8.ofNat ((IntKind.u8.wrap ((u12.Dist).fdiv (2 ^ min ((8 : Int)).toNat (IntKind.bits .i64))))).toNat)]) rfl (by decide) (fun w a hm hs => ⟨([(int .u8 (IntKind.u8.wrap u12.Len)), (int .u8 (IntKind.u8.wrap u12.Dist)), (int .u8 (IntKind.u8.wrap ((u12.Dist).fdiv (2 ^ min ((8 : Int)).toNat (IntKind.bits .i64)))))]).toArray, rfl, by simp only [List.map_toArray, List.map_cons, List.map_nil, hs.ev (x := .tmp 30) rfl, hs.ev (x := .tmp 33) rfl, hs.ev (x := .tmp 37) rfl]; exact run_bs [(int .u8 (IntKind.u8.wrap u12.Len)), (int .u8 (IntKind.u8.wrap u12.Dist)), (int .u8 (IntKind.u8.wrap ((u12.Dist).fdiv (2 ^ min ((8 : Int)).toNat (IntKind.bits .i64)))))] [(int .u8 (IntKind.u8.wrap u12.Len)), (int .u8 (IntKind.u8.wrap u12.Dist)), (int .u8 (IntKind.u8.wrap ((u12.Dist).fdiv (2 ^ min ((8 : Int)).toNat (IntKind.bits .i64)))))] Tryd.underlying74 to5 rfl rfl (bs_cons (l := [(int .u8 (IntKind.u8.wrap u12.Len))]) (cs := [(int .u8 (IntKind.u8.wrap u12.Dist)), (int .u8 (IntKind.u8.wrap ((u12.Dist).fdiv (2 ^ min ((8 : Int)).toNat (IntKind.bits .i64)))))]) (cv_rfl rfl) rfl (bs_cons (l := [(int .u8 (IntKind.u8.wrap u12.Dist))]) (cs := [(int .u8 (IntKind.u8.wrap ((u12.Dist).fdiv (2 ^ min ((8 : Int)).toNat (IntKind.bits .i64)))))]) (cv_rfl rfl) rfl (bs_cons (l := [(int .u8 (IntKind.u8.wrap ((u12.Dist).fdiv (2 ^ min ((8 : Int)).toNat (IntKind.bits .i64)))))]) (cs := []) (cv_rfl rfl) rfl bs_nil))) hm⟩) (fun hm => ⟨_, _, rfl, (fun _ => u8_rep hc23) hm, ⟨_, _, rfl, (fun _ => u8_rep hc24) hm, ⟨_, _, rfl, (fun _ => u8_rep hc25) hm, rfl⟩⟩⟩) rfl (fun v22 => ?_)
      obtain ⟨hc26, h⟩ := req_some h
      refine al_append 2 hc26.1 hc26.2 rfl (src_own (i := 2) 0 rfl) rfl rfl Tryd.underlying74 to5 rfl rfl rfl (fun v27 => ?_)
      refine al_as rfl rfl ?_
      refine al_nil ?_
      refine aq_block ?_
      exact aq_join (v27, (l6x5 ++ ([(UInt8.ofNat ((IntKind.u8.wrap u12.Len)).toNat), (UInt8.ofNat ((IntKind.u8.wrap u12.Dist)).toNat), (UInt8.ofNat ((IntKind.u8.wrap ((u12.Dist).fdiv (2 ^ min ((8 : Int)).toNat (IntKind.bits .i64))))).toNat)]))) h (fun w a hm hs => norm hm hs [2] [1] [(5, v27), (13, v0_0), (14, (int .i64 (a0.length : Int))), (15, (int .i64 l6i15))] (by decide) ⟨rfl, rfl, rfl, rfl, trivial⟩)
   ·replace h := bif_f hb9 h
    refine aw_exit ?_
    refine aq_then_exit ?_
    refine aq_then_exit ?_
    refine aq_block_exit ?_
    exact aq_join (l6v5, l6x5) h (fun w a hm hs => norm hm hs [0] [0] [(5, l6v5)] (by decide) ⟨rfl, trivial⟩)
def f_lumref_marks_2 (fu : Nat) (a0 : Int) : Option Bool := (some true)
set_option maxRecDepth 100000 in
theorem f_lumref_marks_2_ok (fu : Nat) (a0 : Int) {r : Bool} (h : f_lumref_marks_2 fu a0 = some r) : FnOk Tryd.prog 130 [(int .i64 a0)] [] [] (fun (i : Unit) => { val := (bool r) }) := by
 unfold f_lumref_marks_2 at h
 refine fn_enter Tryd.func130 rfl Tryd.ntmps130 rfl (fun w0 Z0 => ?_)
 refine aw_sr ?_
 refine al_as rfl rfl ?_
 refine al_nt ?_
 refine aw_sr ?_
 refine al_as rfl rfl ?_
 refine al_nt ?_
 refine aw_ret ?_
 obtain rfl := Option.some.inj h
 exact fn_ret () [] [] rfl rfl rfl rfl (res1 rfl rfl) rfl rfl rfl (by decide)
def f_slices_IndexFunc___int_int__L5 (a0 : (List Int)) (a1 : Int) (kk2 : (Unit → Option Int)) (fu : Nat) : Nat → Int → Option Int
  | 0, _ => none
  | k4 + 1, l3i8 => (bif (decide (l3i8 < (a0.length : Int))) then (opt (at? a0 l3i8) fun (u7 : Int) => (bif (a1 == (130 : Int)) then (opt (f_lumref_marks_2 fu u7) fun (r12 : Bool) => (bif r12 then (some l3i8) else (f_slices_IndexFunc___int_int__L5 a0 a1 kk2 fu k4 (IntKind.i64.wrap (l3i8 + (1 : Int)))))) else (none : Option Int))) else (kk2 ()))
def f_slices_IndexFunc___int_int_ (fu : Nat) (a0 : (List Int)) (a1 : Int) : Option Int := (lt (fun (_ : Unit) => (some (-1 : Int))) fun (kk2 : Unit → Option Int) => (f_slices_IndexFunc___int_int__L5 a0 a1 kk2 fu fu (0 : Int)))
set_option maxRecDepth 100000 in
theorem f_slices_IndexFunc___int_int__ok (fu : Nat) (v0_0 : Value) (a0 : (List Int)) (a1 : Int) {r : Int} (h : f_slices_IndexFunc___int_int_ fu a0 a1 = some r) : FnOk Tryd.prog 142 [v0_0, (Value.func (.func (a1).toNat) #[] #[])] [(fDat (tyList (tyInt .i64)) [v0_0] a0)] [] (fun (i : Unit) => { val := (int .i64 r) }) := by
 unfold f_slices_IndexFunc___int_int_ at h
 refine fn_enter Tryd.func142 rfl Tryd.ntmps142 rfl (fun w0 Z0 => ?_)
 refine aw_sr ?_
 refine al_as rfl rfl ?_
 refine al_nt ?_
 obtain ⟨kk2, hkk2, h⟩ := lt_some h
 refine aw_seq_join (ι := Unit) (fun i => (memOf w0 Z0 [] [] [(fDat (tyList (tyInt .i64)) [v0_0] a0)])) (fun i => (tab [])) (fun i => kk2 () = some r) ?_ ?_
 ·rintro _ h
  have h : kk2 () = some r := h
  rw [hkk2] at h
  dsimp only at h
  clear hkk2
  refine aw_show (m := (memOf w0 Z0 [] [] [(fDat (tyList (tyInt .i64)) [v0_0] a0)])) (S := (tab [])) ?_
  refine aw_sr ?_
  refine al_as rfl rfl ?_
  refine al_nt ?_
  refine aw_ret ?_
  obtain rfl := Option.some.inj h
  exact fn_ret () [] [] rfl rfl rfl rfl (res1 rfl rfl) rfl rfl rfl (by decide)
 ·clear hkk2
  refine aw_sr ?_
  refine al_mv rfl rfl ?_
  refine al_val (ov_lenD 0 rfl rfl Tryd.underlying71 rfl) ?_
  refine al_mv rfl rfl ?_
  refine al_nt ?_
  refine aw_block ?_
  refine aw_state (aw_loop (ι := Int) (fun i => (memOf w0 Z0 [] [] [(fDat (tyList (tyInt .i64)) [v0_0] a0)])) (fun i => (tab [(0, v0_0), (1, (Value.func (.func (a1).toNat) #[] #[])), (7, (int .i64 (a0.length : Int))), (8, (int .i64 i))])) (fun q i => f_slices_IndexFunc___int_int__L5 a0 a1 kk2 fu q i = some r) ?_ fu (0 : Int) h) (fun w a hm hs => norm hm hs [] [0] [(0, v0_0), (1, (Value.func (.func (a1).toNat) #[] #[])), (7, (int .i64 (a0.length : Int))), (8, (int .i64 (0 : Int)))] (by decide) ⟨rfl, rfl, rfl, rfl, trivial⟩)
  clear h
  rintro k4 l3i8 h
  have h : f_slices_IndexFunc___int_int__L5 a0 a1 kk2 fu k4 l3i8 = some r := h
  obtain _ | k4 := k4
  · rw [f_slices_IndexFunc___int_int__L5] at h; cases h
  rw [f_slices_IndexFunc___int_int__L5] at h
  refine aw_show (m := (memOf w0 Z0 [] [] [(fDat (tyList (tyInt .i64)) [v0_0] a0)])) (S := (tab [(0, v0_0), (1, (Value.func (.func (a1).toNat) #[] #[])), (7, (int .i64 (a0.length : Int))), (8, (int .i64 l3i8))])) ?_
  refine aw_sr ?_
  refine al_in rfl rfl rfl rfl ?_
  refine al_nt ?_
  refine aw_seq ?_
  refine aw_cond rfl (fun hb6 => ?_) (fun hb6 => ?_)
  ·replace h := bif_t hb6 h
   refine aw_skip ?_
   refine aq_then ?_
   refine aw_seq ?_
   refine aw_block ?_
   refine aw_sr ?_
   refine al_mv rfl rfl ?_
   refine al_as rfl rfl ?_
   refine al_nt ?_
   refine aw_sr ?_
   refine al_mv rfl rfl ?_
   refine al_mv rfl rfl ?_
   refine al_mv rfl rfl ?_
   obtain ⟨u7, hu8, h⟩ := opt_some h
   refine al_idxD 0 hu8 rfl rfl rfl Tryd.underlying71 sz3 rfl (fun p9 => ?_)
   refine al_val (ov_loadP (ds := [(int .i64 u7)]) 0 rfl (fun h => h) rfl Tryd.underlying3 sz3 rfl rfl rfl) ?_
   rcases Bool.eq_false_or_eq_true (a1 == (130 : Int)) with hb10 | hb10
   ·replace h := bif_t hb10 h
    refine al_recast (d := 11) (v' := (Value.func (.func 130) #[] #[])) rfl (by rw [eq_of_beq hb10]; rfl) ?_
    obtain ⟨r12, hc11, h⟩ := opt_some h
    refine al_callF (vs := [(int .i64 u7)]) (caps := []) (f_lumref_marks_2_ok fu u7 hc11) rfl [] [] [] pre_nil rfl (by simp) (by decide) (.inl rfl) rfl rfl Tryd.func130 rfl rfl rfl (fun _ => ?_)
    refine al_nt ?_
    refine aw_cond rfl (fun hb13 => ?_) (fun hb13 => ?_)
    ·replace h := bif_t hb13 h
     refine aw_sr ?_
     refine al_mv rfl rfl ?_
     refine al_as rfl rfl ?_
     refine al_nt ?_
     refine aw_ret ?_
     refine aq_block_ret ?_
     refine aq_then_ret ?_
     refine aq_then_ret ?_
     refine aq_block_ret ?_
     refine aq_then_ret ?_
     obtain rfl := Option.some.inj h
     exact fn_ret () [] [] rfl rfl rfl rfl (res1 rfl rfl) rfl rfl rfl (by decide)
    ·replace h := bif_f hb13 h
     refine aw_skip ?_
     refine aq_block ?_
     refine aq_then ?_
     refine aw_region ?_
     refine al_in rfl rfl rfl rfl ?_
     refine al_mv rfl rfl ?_
     refine al_nil ?_
     exact aq_again k4 (IntKind.i64.wrap (l3i8 + (1 : Int))) (Nat.lt_succ_self _) h (fun w a hm hs => norm hm hs [] [1] [(0, v0_0), (1, (Value.func (.func (a1).toNat) #[] #[])), (7, (int .i64 (a0.length : Int))), (8, (int .i64 (IntKind.i64.wrap (l3i8 + (1 : Int)))))] (by decide) ⟨rfl, rfl, rfl, rfl, trivial⟩)
   ·replace h := bif_f hb10 h
    cases h
  ·replace h := bif_f hb6 h
   refine aw_exit ?_
   refine aq_then_exit ?_
   refine aq_then_exit ?_
   refine aq_block_exit ?_
   exact aq_join () h (fun w a hm hs => norm hm hs [] [0] [] (by decide) trivial)
def f_slices_ContainsFunc___int_int_ (fu : Nat) (a0 : (List Int)) (a1 : Int) : Option Bool := (opt (f_slices_IndexFunc___int_int_ fu a0 a1) fun (r2 : Int) => (some (decide (r2 ≥ (0 : Int)))))
set_option maxRecDepth 100000 in
theorem f_slices_ContainsFunc___int_int__ok (fu : Nat) (v0_0 : Value) (a0 : (List Int)) (a1 : Int) {r : Bool} (h : f_slices_ContainsFunc___int_int_ fu a0 a1 = some r) : FnOk Tryd.prog 86 [v0_0, (Value.func (.func (a1).toNat) #[] #[])] [(fDat (tyList (tyInt .i64)) [v0_0] a0)] [] (fun (i : Unit) => { val := (bool r) }) := by
 unfold f_slices_ContainsFunc___int_int_ at h
 refine fn_enter Tryd.func86 rfl Tryd.ntmps86 rfl (fun w0 Z0 => ?_)
 refine aw_sr ?_
 refine al_as rfl rfl ?_
 refine al_nt ?_
 refine aw_sr ?_
 refine al_mv rfl rfl ?_
 refine al_mv rfl rfl ?_
 obtain ⟨r2, hc1, h⟩ := opt_some h
 refine al_call (vs := [v0_0, (Value.func (.func (a1).toNat) #[] #[])]) (f_slices_IndexFunc___int_int__ok fu v0_0 a0 a1 hc1) [] [] [] (pre_fz 0 rfl pre_nil) rfl (by simp) (by decide) (.inl rfl) rfl Tryd.func142 rfl rfl rfl (fun _ => ?_)
 refine al_in rfl rfl rfl rfl ?_
 refine al_as rfl rfl ?_
 refine al_nt ?_
 refine aw_ret ?_
 obtain rfl := Option.some.inj h
 exact fn_ret () [] [] rfl rfl rfl rfl (res1 rfl rfl) rfl rfl rfl (by decide)
def f_huff_Lengths_1 (fu : Nat) (a0 : Int) : Option Bool := (lt (fun (j1b2 : Bool) => (some j1b2)) fun (kk2 : Bool → Option Bool) => (bif (decide (a0 < (0 : Int))) then (kk2 true) else (kk2 (decide (a0 > (1048576 : Int))))))
set_option maxRecDepth 100000 in
theorem f_huff_Lengths_1_ok (fu : Nat) (a0 : Int) {r : Bool} (h : f_huff_Lengths_1 fu a0 = some r) : FnOk Tryd.prog 87 [(int .i64 a0)] [] [] (fun (i : Unit) => { val := (bool r) }) := by
 unfold f_huff_Lengths_1 at h
 refine fn_enter Tryd.func87 rfl Tryd.ntmps87 rfl (fun w0 Z0 => ?_)
 refine aw_sr ?_
 refine al_as rfl rfl ?_
 refine al_nt ?_
 obtain ⟨kk2, hkk2, h⟩ := lt_some h
 refine aw_seq_join (ι := Bool) (fun i => (memOf w0 Z0 [] [] [])) (fun i => (tab [(2, (bool i))])) (fun i => kk2 i = some r) ?_ ?_
 ·rintro j1b2 h
  have h : kk2 j1b2 = some r := h
  rw [hkk2] at h
  dsimp only at h
  clear hkk2
  refine aw_show (m := (memOf w0 Z0 [] [] [])) (S := (tab [(2, (bool j1b2))])) ?_
  refine aw_ret ?_
  obtain rfl := Option.some.inj h
  exact fn_ret () [] [] rfl rfl rfl rfl (res1 rfl rfl) rfl rfl rfl (by decide)
 ·clear hkk2
  refine aw_region ?_
  refine al_mv rfl rfl ?_
  refine al_in rfl rfl rfl rfl ?_
  refine al_mv rfl rfl ?_
  refine al_caseB 5 rfl (fun hb3 => ?_) (fun hb3 => ?_)
  ·replace h := bif_t hb3 h
   refine al_skip ?_
   refine al_skip ?_
   refine al_val (ov_pick_t rfl rfl rfl) ?_
   refine al_as rfl rfl ?_
   refine al_nil ?_
   exact aq_join true h (fun w a hm hs => norm hm hs [] [] [(2, (bool true))] (by decide) ⟨rfl, trivial⟩)
  ·replace h := bif_f hb3 h
   refine al_mv rfl rfl ?_
   refine al_in rfl rfl rfl rfl ?_
   refine al_val (ov_pick_f rfl rfl rfl) ?_
   refine al_as rfl rfl ?_
   refine al_nil ?_
   exact aq_join (decide (a0 > (1048576 : Int))) h (fun w a hm hs => norm hm hs [] [] [(2, (bool (decide (a0 > (1048576 : Int)))))] (by decide) ⟨rfl, trivial⟩)
def f_cmp_Or_int__L5 (a0 : (List Int)) (kk2 : (Unit → Option Int)) : Nat → Int → Option Int
  | 0, _ => none
  | k4 + 1, l3i8 => (bif (decide (l3i8 < (a0.length : Int))) then (opt (at? a0 l3i8) fun (u7 : Int) => (bif (u7 != (0 : Int)) then (some u7) else (f_cmp_Or_int__L5 a0 kk2 k4 (IntKind.i64.wrap (l3i8 + (1 : Int)))))) else (kk2 ()))
def f_cmp_Or_int_ (fu : Nat) (a0 : (List Int)) : Option Int := (lt (fun (_ : Unit) => (some (0 : Int))) fun (kk2 : Unit → Option Int) => (f_cmp_Or_int__L5 a0 kk2 fu (0 : Int)))
set_option maxRecDepth 100000 in
theorem f_cmp_Or_int__ok (fu : Nat) (v0_0 : Value) (a0 : (List Int)) {r : Int} (h : f_cmp_Or_int_ fu a0 = some r) : FnOk Tryd.prog 89 [v0_0] [(fDat (tyList (tyInt .i64)) [v0_0] a0)] [] (fun (i : Unit) => { val := (int .i64 r) }) := by
 unfold f_cmp_Or_int_ at h
 refine fn_enter Tryd.func89 rfl Tryd.ntmps89 rfl (fun w0 Z0 => ?_)
 refine aw_sr ?_
 refine al_as rfl rfl ?_
 refine al_nt ?_
 refine aw_sr ?_
 refine al_as rfl rfl ?_
 refine al_nt ?_
 obtain ⟨kk2, hkk2, h⟩ := lt_some h
 refine aw_seq_join (ι := Unit) (fun i => (memOf w0 Z0 [] [] [(fDat (tyList (tyInt .i64)) [v0_0] a0)])) (fun i => (tab [(3, (int .i64 (0 : Int)))])) (fun i => kk2 () = some r) ?_ ?_
 ·rintro _ h
  have h : kk2 () = some r := h
  rw [hkk2] at h
  dsimp only at h
  clear hkk2
  refine aw_show (m := (memOf w0 Z0 [] [] [(fDat (tyList (tyInt .i64)) [v0_0] a0)])) (S := (tab [(3, (int .i64 (0 : Int)))])) ?_
  refine aw_sr ?_
  refine al_mv rfl rfl ?_
  refine al_as rfl rfl ?_
  refine al_nt ?_
  refine aw_ret ?_
  obtain rfl := Option.some.inj h
  exact fn_ret () [] [] rfl rfl rfl rfl (res1 rfl rfl) rfl rfl rfl (by decide)
 ·clear hkk2
  refine aw_sr ?_
  refine al_mv rfl rfl ?_
  refine al_val (ov_lenD 0 rfl rfl Tryd.underlying71 rfl) ?_
  refine al_mv rfl rfl ?_
  refine al_nt ?_
  refine aw_block ?_
  refine aw_state (aw_loop (ι := Int) (fun i => (memOf w0 Z0 [] [] [(fDat (tyList (tyInt .i64)) [v0_0] a0)])) (fun i => (tab [(3, (int .i64 (0 : Int))), (6, v0_0), (7, (int .i64 (a0.length : Int))), (8, (int .i64 i))])) (fun q i => f_cmp_Or_int__L5 a0 kk2 q i = some r) ?_ fu (0 : Int) h) (fun w a hm hs => norm hm hs [] [0] [(3, (int .i64 (0 : Int))), (6, v0_0), (7, (int .i64 (a0.length : Int))), (8, (int .i64 (0 : Int)))] (by decide) ⟨rfl, rfl, rfl, rfl, trivial⟩)
  clear h
  rintro k4 l3i8 h
  have h : f_cmp_Or_int__L5 a0 kk2 k4 l3i8 = some r := h
  obtain _ | k4 := k4
  · rw [f_cmp_Or_int__L5] at h; cases h
  rw [f_cmp_Or_int__L5] at h
  refine aw_show (m := (memOf w0 Z0 [] [] [(fDat (tyList (tyInt .i64)) [v0_0] a0)])) (S := (tab [(3, (int .i64 (0 : Int))), (6, v0_0), (7, (int .i64 (a0.length : Int))), (8, (int .i64 l3i8))])) ?_
  refine aw_sr ?_
  refine al_in rfl rfl rfl rfl ?_
  refine al_nt ?_
  refine aw_seq ?_
  refine aw_cond rfl (fun hb6 => ?_) (fun hb6 => ?_)
  ·replace h := bif_t hb6 h
   refine aw_skip ?_
   refine aq_then ?_
   refine aw_seq ?_
   refine aw_block ?_
   refine aw_sr ?_
   obtain ⟨u7, hu8, h⟩ := opt_some h
   refine al_idxD 0 hu8 rfl rfl rfl Tryd.underlying71 sz3 rfl (fun p9 => ?_)
   refine al_val (ov_loadP (ds := [(int .i64 u7)]) 0 rfl (fun h => h) rfl Tryd.underlying3 sz3 rfl rfl rfl) ?_
   refine al_as rfl rfl ?_
   refine al_nt ?_
   refine aw_sr ?_
   refine al_mv rfl rfl ?_
   refine al_mv rfl rfl ?_
   refine al_in rfl rfl rfl rfl ?_
   refine al_nt ?_
   refine aw_cond rfl (fun hb10 => ?_) (fun hb10 => ?_)
   ·replace h := bif_t hb10 h
    refine aw_sr ?_
    refine al_mv rfl rfl ?_
    refine al_as rfl rfl ?_
    refine al_nt ?_
    refine aw_ret ?_
    refine aq_block_ret ?_
    refine aq_then_ret ?_
    refine aq_then_ret ?_
    refine aq_block_ret ?_
    refine aq_then_ret ?_
    obtain rfl := Option.some.inj h
    exact fn_ret () [] [] rfl rfl rfl rfl (res1 rfl rfl) rfl rfl rfl (by decide)
   ·replace h := bif_f hb10 h
    refine aw_skip ?_
    refine aq_block ?_
    refine aq_then ?_
    refine aw_region ?_
    refine al_in rfl rfl rfl rfl ?_
    refine al_mv rfl rfl ?_
    refine al_nil ?_
    exact aq_again k4 (IntKind.i64.wrap (l3i8 + (1 : Int))) (Nat.lt_succ_self _) h (fun w a hm hs => norm hm hs [] [1] [(3, (int .i64 (0 : Int))), (6, v0_0), (7, (int .i64 (a0.length : Int))), (8, (int .i64 (IntKind.i64.wrap (l3i8 + (1 : Int)))))] (by decide) ⟨rfl, rfl, rfl, rfl, trivial⟩)
  ·replace h := bif_f hb6 h
   refine aw_exit ?_
   refine aq_then_exit ?_
   refine aq_then_exit ?_
   refine aq_block_exit ?_
   exact aq_join () h (fun w a hm hs => norm hm hs [] [0] [(3, (int .i64 (0 : Int)))] (by decide) ⟨rfl, trivial⟩)
def f_huff_Lengths_2 (fu : Nat) (a0 : S_huff_tree) (a1 : S_huff_tree) : Option Int := (opt (f_cmp_Or_int_ fu ([(IntKind.i64.wrap (a0.weight - a1.weight)), (IntKind.i64.wrap (a0.least - a1.least))])) fun (r5 : Int) => (some r5))
set_option maxRecDepth 100000 in
theorem f_huff_Lengths_2_ok (fu : Nat) (v0_2 : Value) (a0 : S_huff_tree) (v1_2 : Value) (a1 : S_huff_tree) {r : Int} (h : f_huff_Lengths_2 fu a0 a1 = some r) : FnOk Tryd.prog 88 [(ag [(int .i64 a0.weight), (int .i64 a0.least), v0_2]), (ag [(int .i64 a1.weight), (int .i64 a1.least), v1_2])] [(fDat (tyList (tyInt .i64)) [v0_2] a0.symbols), (fDat (tyList (tyInt .i64)) [v1_2] a1.symbols)] [] (fun (i : Unit) => { val := (int .i64 r) }) := by
 unfold f_huff_Lengths_2 at h
 refine fn_enter Tryd.func88 rfl Tryd.ntmps88 rfl (fun w0 Z0 => ?_)
 refine aw_sr ?_
 refine al_box (vs := [(int .i64 a0.weight), (int .i64 a0.least), v0_2]) rfl (cv_rfl rfl) rfl (fun g1 => ?_)
 refine al_box (vs := [(int .i64 a1.weight), (int .i64 a1.least), v1_2]) rfl (cv_rfl rfl) rfl (fun g2 => ?_)
 refine al_as rfl rfl ?_
 refine al_nt ?_
 refine aw_sr ?_
 refine al_val (ov_fieldA (p := 0) rfl Tryd.underlying138 rfl sz3 rfl rfl rfl) ?_
 refine al_val (ov_load (i := 1) (v := (int .i64 a0.weight)) rfl rfl Tryd.underlying3 sz3 rfl rfl rfl rfl) ?_
 refine al_val (ov_fieldA (p := 0) rfl Tryd.underlying138 rfl sz3 rfl rfl rfl) ?_
 refine al_val (ov_load (i := 0) (v := (int .i64 a1.weight)) rfl rfl Tryd.underlying3 sz3 rfl rfl rfl rfl) ?_
 refine al_in rfl rfl rfl rfl ?_
 refine al_val (ov_fieldA (p := 1) rfl Tryd.underlying138 rfl sz3 rfl rfl rfl) ?_
 refine al_val (ov_load (i := 1) (v := (int .i64 a0.least)) rfl rfl Tryd.underlying3 sz3 rfl rfl rfl rfl) ?_
 refine al_val (ov_fieldA (p := 1) rfl Tryd.underlying138 rfl sz3 rfl rfl rfl) ?_
 refine al_val (ov_load (i := 0) (v := (int .i64 a1.least)) rfl rfl Tryd.underlying3 sz3 rfl rfl rfl rfl) ?_
 refine al_in rfl rfl rfl rfl ?_
 refine al_buildSlice (τ := (tyInt .i64)) (e := 3) (k := 2) (sz := 0) (by_ := 0) (z := undef) (cs := [(int .i64 (IntKind.i64.wrap (a0.weight - a1.weight))), (int .i64 (IntKind.i64.wrap (a0.least - a1.least)))]) (xs := [(IntKind.i64.wrap (a0.weight - a1.weight)), (IntKind.i64.wrap (a0.least - a1.least))]) rfl (by decide) (fun w a hm hs => ⟨([(int .i64 (IntKind.i64.wrap (a0.weight - a1.weight))), (int .i64 (IntKind.i64.wrap (a0.least - a1.least)))]).toArray, rfl, by simp only [List.map_toArray, List.map_cons, List.map_nil, hs.ev (x := .tmp 9) rfl, hs.ev (x := .tmp 14) rfl]; exact run_bs [(int .i64 (IntKind.i64.wrap (a0.weight - a1.weight))), (int .i64 (IntKind.i64.wrap (a0.least - a1.least)))] [(int .i64 (IntKind.i64.wrap (a0.weight - a1.weight))), (int .i64 (IntKind.i64.wrap (a0.least - a1.least)))] Tryd.underlying71 to3 rfl rfl (bs_cons (l := [(int .i64 (IntKind.i64.wrap (a0.weight - a1.weight)))]) (cs := [(int .i64 (IntKind.i64.wrap (a0.least - a1.least)))]) (cv_rfl rfl) rfl (bs_cons (l := [(int .i64 (IntKind.i64.wrap (a0.least - a1.least)))]) (cs := []) (cv_rfl rfl) rfl bs_nil)) hm⟩) (fun hm => ⟨_, _, rfl, (fun _ => rfl) hm, ⟨_, _, rfl, (fun _ => rfl) hm, rfl⟩⟩) rfl (fun v3 => ?_)
 obtain ⟨r5, hc4, h⟩ := opt_some h
 refine al_call (vs := [v3]) (f_cmp_Or_int__ok fu v3 ([(IntKind.i64.wrap (a0.weight - a1.weight)), (IntKind.i64.wrap (a0.least - a1.least))]) hc4) [0] [] [0, 1, 2] (pre_own 0 rfl rfl pre_nil) rfl (by simp) (by decide) (.inr flat_res0) rfl Tryd.func89 rfl rfl rfl (fun _ => ?_)
 refine al_as rfl rfl ?_
 refine al_nt ?_
 refine aw_ret ?_
 obtain rfl := Option.some.inj h
 exact fn_ret () [] [] rfl rfl rfl rfl (res1 rfl rfl) rfl rfl rfl (by decide)
-- STUCK (*lumberroom/huff.heap[lumberroom/huff.tree]).push: lty ['pointer', 143]
-- STUCK (*lumberroom/huff.heap[lumberroom/huff.tree]).pop: lty ['pointer', 143]
-- STUCK slices.Grow[[]int,int]: slices.go:426: call: builtin cap
def f_slices_Grow___int_int__nil (fu : Nat) (a1 : Int) : Option (List Int) := (bif (decide (a1 < (0 : Int))) then (none : Option (List Int)) else (lt (fun (j2x0 : (List Int)) => (some j2x0)) fun (kk3 : (List Int) → Option (List Int)) => (bif (decide ((IntKind.i64.wrap (a1 - (IntKind.i64.wrap (((0 : Nat) : Int) - ((0 : Nat) : Int))))) > (0 : Int))) then (req (0 < (IntKind.i64.wrap (a1 - (IntKind.i64.wrap (((0 : Nat) : Int) - ((0 : Nat) : Int))))) ∧ (IntKind.i64.wrap (a1 - (IntKind.i64.wrap (((0 : Nat) : Int) - ((0 : Nat) : Int))))) * 8 ≤ 140737488355328 ∧ (IntKind.i64.wrap (a1 - (IntKind.i64.wrap (((0 : Nat) : Int) - ((0 : Nat) : Int))))) ≤ 9223372036854775807) (req (0 ≤ ((0 : Nat) : Int) ∧ ((0 : Nat) : Int) ≤ ((List.replicate ((IntKind.i64.wrap (a1 - (IntKind.i64.wrap (((0 : Nat) : Int) - ((0 : Nat) : Int)))))).toNat (0 : Int)).length : Int)) (kk3 ((List.replicate ((IntKind.i64.wrap (a1 - (IntKind.i64.wrap (((0 : Nat) : Int) - ((0 : Nat) : Int)))))).toNat (0 : Int)).take (((0 : Nat) : Int)).toNat)))) else (kk3 ([] : List Int)))))
set_option maxRecDepth 100000 in
theorem f_slices_Grow___int_int__nil_ok (fu : Nat) (a1 : Int) {r : (List Int)} (h : f_slices_Grow___int_int__nil fu a1 = some r) : FnOk Tryd.prog 143 [(Value.slice none 0 0), (int .i64 a1)] [] [] (fun (i : Value) => { val := i, own := [(oRow i 3 (tyInt .i64) r)] }) := by
 unfold f_slices_Grow___int_int__nil at h
 refine fn_enter Tryd.func143 rfl Tryd.ntmps143 rfl (fun w0 Z0 => ?_)
 refine aw_sr ?_
 refine al_as rfl rfl ?_
 refine al_nt ?_
 refine aw_seq ?_
 refine aw_sr ?_
 refine al_mv rfl rfl ?_
 refine al_in rfl rfl rfl rfl ?_
 refine al_nt ?_
 refine aw_cond rfl (fun hb1 => ?_) (fun hb1 => ?_)
 ·replace h := bif_t hb1 h
  refine aw_region ?_
  cases h
 ·replace h := bif_f hb1 h
  refine aw_skip ?_
  refine aq_then ?_
  obtain ⟨kk3, hkk3, h⟩ := lt_some h
  refine aw_seq_join (ι := Value × (List Int)) (fun i => (memOf w0 Z0 [] [(oRow i.1 3 (tyInt .i64) i.2)] [])) (fun i => (tab [(0, i.1)])) (fun i => kk3 i.2 = some r) ?_ ?_
  ·rintro ⟨j2v0, j2x0⟩ h
   have h : kk3 j2x0 = some r := h
   rw [hkk3] at h
   dsimp only at h
   clear hkk3
   refine aw_show (m := (memOf w0 Z0 [] [(oRow j2v0 3 (tyInt .i64) j2x0)] [])) (S := (tab [(0, j2v0)])) ?_
   refine aw_sr ?_
   refine al_mv rfl rfl ?_
   refine al_as rfl rfl ?_
   refine al_nt ?_
   refine aw_ret ?_
   obtain rfl := Option.some.inj h
   exact fn_ret j2v0 [0] [] rfl rfl rfl rfl (res1 rfl rfl) rfl rfl rfl (by decide)
  ·clear hkk3
   refine aw_sr ?_
   refine al_mv rfl rfl ?_
   refine al_mv rfl rfl ?_
   refine al_val (ov_capN rfl Tryd.underlying71 rfl) ?_
   refine al_mv rfl rfl ?_
   refine al_val (ov_lenN rfl Tryd.underlying71 rfl) ?_
   refine al_in rfl rfl rfl rfl ?_
   refine al_in rfl rfl rfl rfl ?_
   refine al_as rfl rfl ?_
   refine al_nt ?_
   refine aw_sr ?_
   refine al_mv rfl rfl ?_
   refine al_in rfl rfl rfl rfl ?_
   refine al_nt ?_
   refine aw_cond rfl (fun hb4 => ?_) (fun hb4 => ?_)
   ·replace h := bif_t hb4 h
    refine aw_region ?_
    refine al_mv rfl rfl ?_
    refine al_mv rfl rfl ?_
    refine al_val (ov_capN rfl Tryd.underlying71 rfl) ?_
    refine al_val (ov_cutN rfl rfl Tryd.underlying71 sz3 rfl) ?_
    refine al_mv rfl rfl ?_
    obtain ⟨hc5, h⟩ := req_some h
    refine al_appendZ (τ := (tyInt .i64)) (x0 := 0) hc5.1 hc5.2.1 hc5.2.2 rfl rfl Tryd.underlying71 Tryd.underlying3 to3 (fun _ _ => rfl) rfl rfl (fun v6 => ?_)
    refine al_mv rfl rfl ?_
    refine al_val (ov_lenN rfl Tryd.underlying71 rfl) ?_
    obtain ⟨hc7, h⟩ := req_some h
    refine al_cutR 0 hc7.1 hc7.2 rfl rfl rfl Tryd.underlying71 sz3 rfl (fun s8 => ?_)
    refine al_as rfl rfl ?_
    refine al_nil ?_
    exact aq_join (s8, ((List.replicate ((IntKind.i64.wrap (a1 - (IntKind.i64.wrap (((0 : Nat) : Int) - ((0 : Nat) : Int)))))).toNat (0 : Int)).take (((0 : Nat) : Int)).toNat)) h (fun w a hm hs => norm hm hs [0] [] [(0, s8)] (by decide) ⟨rfl, trivial⟩)
   ·replace h := bif_f hb4 h
    refine aw_skip ?_
    refine aq_nilR 3 (tyInt .i64) ?_
    exact aq_join ((Value.slice none 0 0), ([] : List Int)) h (fun w a hm hs => norm hm hs [0] [] [(0, (Value.slice none 0 0))] (by decide) ⟨rfl, trivial⟩)
def f_slices_Concat___int_int__L10 (a0 : (List (List Int))) (kk7 : ((List Int) → Option (List Int))) : Nat → (List Int) → Int → Option (List Int)
  | 0, _, _ => none
  | k9 + 1, l8x6, l8i27 => (bif (decide (l8i27 < (a0.length : Int))) then (opt (at? a0 l8i27) fun (u12 : (List Int)) => (req (((l8x6.length + u12.length) * 8 : Nat) ≤ 140737488355328 ∧ l8x6.length + u12.length ≤ 9223372036854775807) (f_slices_Concat___int_int__L10 a0 kk7 k9 (l8x6 ++ u12) (IntKind.i64.wrap (l8i27 + (1 : Int)))))) else (kk7 l8x6))
def f_slices_Concat___int_int__L20 (a0 : (List (List Int))) (kk2 : (Int → Option (List Int))) : Nat → Int → Int → Option (List Int)
  | 0, _, _ => none
  | k19 + 1, l18i3, l18i11 => (bif (decide (l18i11 < (a0.length : Int))) then (opt (at? a0 l18i11) fun (u22 : (List Int)) => (bif (decide ((IntKind.i64.wrap (l18i3 + (u22.length : Int))) < (0 : Int))) then (none : Option (List Int)) else (f_slices_Concat___int_int__L20 a0 kk2 k19 (IntKind.i64.wrap (l18i3 + (u22.length : Int))) (IntKind.i64.wrap (l18i11 + (1 : Int)))))) else (kk2 l18i3))
def f_slices_Concat___int_int_ (fu : Nat) (a0 : (List (List Int))) : Option (List Int) := (lt (fun (j1i3 : Int) => (opt (f_slices_Grow___int_int__nil fu j1i3) fun (r4 : (List Int)) => (lt (fun (j6x6 : (List Int)) => (some j6x6)) fun (kk7 : (List Int) → Option (List Int)) => (f_slices_Concat___int_int__L10 a0 kk7 fu r4 (0 : Int))))) fun (kk2 : Int → Option (List Int)) => (f_slices_Concat___int_int__L20 a0 kk2 fu (0 : Int) (0 : Int)))
set_option maxRecDepth 100000 in
theorem f_slices_Concat___int_int__ok (fu : Nat) (v0_0 : Value) (a0 : (List (List Int))) {r : (List Int)} (h : f_slices_Concat___int_int_ fu a0 = some r) : FnOk Tryd.prog 92 [v0_0] [(fDat (tyList (tyList (tyInt .i64))) [v0_0] a0)] [] (fun (i : Value) => { val := i, own := [(oRow i 3 (tyInt .i64) r)] }) := by
 unfold f_slices_Concat___int_int_ at h
 refine fn_enter Tryd.func92 rfl Tryd.ntmps92 rfl (fun w0 Z0 => ?_)
 refine aw_sr ?_
 refine al_as rfl rfl ?_
 refine al_nt ?_
 refine aw_sr ?_
 refine al_as rfl rfl ?_
 refine al_nt ?_
 obtain ⟨kk2, hkk2, h⟩ := lt_some h
 refine aw_seq_join (ι := Int) (fun i => (memOf w0 Z0 [] [] [(fDat (tyList (tyList (tyInt .i64))) [v0_0] a0)])) (fun i => (tab [(0, v0_0), (3, (int .i64 i))])) (fun i => kk2 i = some r) ?_ ?_
 ·rintro j1i3 h
  have h : kk2 j1i3 = some r := h
  rw [hkk2] at h
  dsimp only at h
  clear hkk2
  refine aw_show (m := (memOf w0 Z0 [] [] [(fDat (tyList (tyList (tyInt .i64))) [v0_0] a0)])) (S := (tab [(0, v0_0), (3, (int .i64 j1i3))])) ?_
  refine aw_sr ?_
  refine al_mv rfl rfl ?_
  obtain ⟨r4, hc3, h⟩ := opt_some h
  refine al_call (vs := [(Value.slice none 0 0), (int .i64 j1i3)]) (f_slices_Grow___int_int__nil_ok fu j1i3 hc3) [] [] [] pre_nil rfl (by simp) (by decide) (.inl rfl) rfl Tryd.func143 rfl rfl rfl (fun v5 => ?_)
  refine al_as rfl rfl ?_
  refine al_nt ?_
  obtain ⟨kk7, hkk7, h⟩ := lt_some h
  refine aw_seq_join (ι := Value × (List Int)) (fun i => (memOf w0 Z0 [] [(oRow i.1 3 (tyInt .i64) i.2)] [(fDat (tyList (tyList (tyInt .i64))) [v0_0] a0)])) (fun i => (tab [(6, i.1)])) (fun i => kk7 i.2 = some r) ?_ ?_
  ·rintro ⟨j6v6, j6x6⟩ h
   have h : kk7 j6x6 = some r := h
   rw [hkk7] at h
   dsimp only at h
   clear hkk7
   refine aw_show (m := (memOf w0 Z0 [] [(oRow j6v6 3 (tyInt .i64) j6x6)] [(fDat (tyList (tyList (tyInt .i64))) [v0_0] a0)])) (S := (tab [(6, j6v6)])) ?_
   refine aw_sr ?_
   refine al_mv rfl rfl ?_
   refine al_as rfl rfl ?_
   refine al_nt ?_
   refine aw_ret ?_
   obtain rfl := Option.some.inj h
   exact fn_ret j6v6 [0] [] rfl rfl rfl rfl (res1 rfl rfl) rfl rfl rfl (by decide)
  ·clear hkk7
   refine aw_sr ?_
   refine al_mv rfl rfl ?_
   refine al_val (ov_lenD 0 rfl rfl Tryd.underlying198 rfl) ?_
   refine al_mv rfl rfl ?_
   refine al_nt ?_
   refine aw_block ?_
   refine aw_state (aw_loop (ι := Value × (List Int) × Int) (fun i => (memOf w0 Z0 [] [(oRow i.1 3 (tyInt .i64) i.2.1)] [(fDat (tyList (tyList (tyInt .i64))) [v0_0] a0)])) (fun i => (tab [(6, i.1), (25, v0_0), (26, (int .i64 (a0.length : Int))), (27, (int .i64 i.2.2))])) (fun q i => f_slices_Concat___int_int__L10 a0 kk7 q i.2.1 i.2.2 = some r) ?_ fu (v5, r4, (0 : Int)) h) (fun w a hm hs => norm hm hs [0] [0] [(6, v5), (25, v0_0), (26, (int .i64 (a0.length : Int))), (27, (int .i64 (0 : Int)))] (by decide) ⟨rfl, rfl, rfl, rfl, trivial⟩)
   clear h
   rintro k9 ⟨l8v6, l8x6, l8i27⟩ h
   have h : f_slices_Concat___int_int__L10 a0 kk7 k9 l8x6 l8i27 = some r := h
   obtain _ | k9 := k9
   · rw [f_slices_Concat___int_int__L10] at h; cases h
   rw [f_slices_Concat___int_int__L10] at h
   refine aw_show (m := (memOf w0 Z0 [] [(oRow l8v6 3 (tyInt .i64) l8x6)] [(fDat (tyList (tyList (tyInt .i64))) [v0_0] a0)])) (S := (tab [(6, l8v6), (25, v0_0), (26, (int .i64 (a0.length : Int))), (27, (int .i64 l8i27))])) ?_
   refine aw_sr ?_
   refine al_in rfl rfl rfl rfl ?_
   refine al_nt ?_
   refine aw_seq ?_
   refine aw_cond rfl (fun hb11 => ?_) (fun hb11 => ?_)
   ·replace h := bif_t hb11 h
    refine aw_skip ?_
    refine aq_then ?_
    refine aw_seq ?_
    refine aw_block ?_
    refine aw_sr ?_
    obtain ⟨u12, hu13, h⟩ := opt_some h
    refine al_idxD 0 hu13 rfl rfl rfl Tryd.underlying198 sz71 rfl (fun p14 => ?_)
    refine al_loadP1 0 rfl rfl Tryd.underlying71 sz71 rfl rfl rfl (fun s15 => ?_)
    refine al_as rfl rfl ?_
    refine al_nt ?_
    refine aw_region ?_
    refine al_mv rfl rfl ?_
    refine al_mv rfl rfl ?_
    obtain ⟨hc16, h⟩ := req_some h
    refine al_append 0 hc16.1 hc16.2 rfl (src_dat (i := 0) 0 rfl) rfl rfl Tryd.underlying71 to3 rfl rfl rfl (fun v17 => ?_)
    refine al_as rfl rfl ?_
    refine al_nil ?_
    refine aq_block ?_
    refine aq_then ?_
    refine aw_region ?_
    refine al_in rfl rfl rfl rfl ?_
    refine al_mv rfl rfl ?_
    refine al_nil ?_
    exact aq_again k9 (v17, (l8x6 ++ u12), (IntKind.i64.wrap (l8i27 + (1 : Int)))) (Nat.lt_succ_self _) h (fun w a hm hs => norm hm hs [0] [2] [(6, v17), (25, v0_0), (26, (int .i64 (a0.length : Int))), (27, (int .i64 (IntKind.i64.wrap (l8i27 + (1 : Int)))))] (by decide) ⟨rfl, rfl, rfl, rfl, trivial⟩)
   ·replace h := bif_f hb11 h
    refine aw_exit ?_
    refine aq_then_exit ?_
    refine aq_then_exit ?_
    refine aq_block_exit ?_
    exact aq_join (l8v6, l8x6) h (fun w a hm hs => norm hm hs [0] [0] [(6, l8v6)] (by decide) ⟨rfl, trivial⟩)
 ·clear hkk2
  refine aw_sr ?_
  refine al_mv rfl rfl ?_
  refine al_val (ov_lenD 0 rfl rfl Tryd.underlying198 rfl) ?_
  refine al_mv rfl rfl ?_
  refine al_nt ?_
  refine aw_block ?_
  refine aw_state (aw_loop (ι := Int × Int) (fun i => (memOf w0 Z0 [] [] [(fDat (tyList (tyList (tyInt .i64))) [v0_0] a0)])) (fun i => (tab [(0, v0_0), (3, (int .i64 i.1)), (9, v0_0), (10, (int .i64 (a0.length : Int))), (11, (int .i64 i.2))])) (fun q i => f_slices_Concat___int_int__L20 a0 kk2 q i.1 i.2 = some r) ?_ fu ((0 : Int), (0 : Int)) h) (fun w a hm hs => norm hm hs [] [0] [(0, v0_0), (3, (int .i64 (0 : Int))), (9, v0_0), (10, (int .i64 (a0.length : Int))), (11, (int .i64 (0 : Int)))] (by decide) ⟨rfl, rfl, rfl, rfl, rfl, trivial⟩)
  clear h
  rintro k19 ⟨l18i3, l18i11⟩ h
  have h : f_slices_Concat___int_int__L20 a0 kk2 k19 l18i3 l18i11 = some r := h
  obtain _ | k19 := k19
  · rw [f_slices_Concat___int_int__L20] at h; cases h
  rw [f_slices_Concat___int_int__L20] at h
  refine aw_show (m := (memOf w0 Z0 [] [] [(fDat (tyList (tyList (tyInt .i64))) [v0_0] a0)])) (S := (tab [(0, v0_0), (3, (int .i64 l18i3)), (9, v0_0), (10, (int .i64 (a0.length : Int))), (11, (int .i64 l18i11))])) ?_
  refine aw_sr ?_
  refine al_in rfl rfl rfl rfl ?_
  refine al_nt ?_
  refine aw_seq ?_
  refine aw_cond rfl (fun hb21 => ?_) (fun hb21 => ?_)
  ·replace h := bif_t hb21 h
   refine aw_skip ?_
   refine aq_then ?_
   refine aw_seq ?_
   refine aw_block ?_
   refine aw_sr ?_
   obtain ⟨u22, hu23, h⟩ := opt_some h
   refine al_idxD 0 hu23 rfl rfl rfl Tryd.underlying198 sz71 rfl (fun p24 => ?_)
   refine al_loadP1 0 rfl rfl Tryd.underlying71 sz71 rfl rfl rfl (fun s25 => ?_)
   refine al_as rfl rfl ?_
   refine al_nt ?_
   refine aw_sr ?_
   refine al_mv rfl rfl ?_
   refine al_mv rfl rfl ?_
   refine al_val (ov_lenD 0 rfl rfl Tryd.underlying71 rfl) ?_
   refine al_in rfl rfl rfl rfl ?_
   refine al_as rfl rfl ?_
   refine al_nt ?_
   refine aw_sr ?_
   refine al_mv rfl rfl ?_
   refine al_in rfl rfl rfl rfl ?_
   refine al_nt ?_
   refine aw_cond rfl (fun hb26 => ?_) (fun hb26 => ?_)
   ·replace h := bif_t hb26 h
    refine aw_region ?_
    cases h
   ·replace h := bif_f hb26 h
    refine aw_skip ?_
    refine aq_block ?_
    refine aq_then ?_
    refine aw_region ?_
    refine al_in rfl rfl rfl rfl ?_
    refine al_mv rfl rfl ?_
    refine al_nil ?_
    exact aq_again k19 ((IntKind.i64.wrap (l18i3 + (u22.length : Int))), (IntKind.i64.wrap (l18i11 + (1 : Int)))) (Nat.lt_succ_self _) h (fun w a hm hs => norm hm hs [] [2] [(0, v0_0), (3, (int .i64 (IntKind.i64.wrap (l18i3 + (u22.length : Int))))), (9, v0_0), (10, (int .i64 (a0.length : Int))), (11, (int .i64 (IntKind.i64.wrap (l18i11 + (1 : Int)))))] (by decide) ⟨rfl, rfl, rfl, rfl, rfl, trivial⟩)
  ·replace h := bif_f hb21 h
   refine aw_exit ?_
   refine aq_then_exit ?_
   refine aq_then_exit ?_
   refine aq_block_exit ?_
   exact aq_join l18i3 h (fun w a hm hs => norm hm hs [] [0] [(0, v0_0), (3, (int .i64 l18i3))] (by decide) ⟨rfl, rfl, trivial⟩)
def f_slices_IndexFunc___int_int__F87_L5 (a0 : (List Int)) (kk2 : (Unit → Option Int)) (fu : Nat) : Nat → Int → Option Int
  | 0, _ => none
  | k4 + 1, l3i8 => (bif (decide (l3i8 < (a0.length : Int))) then (opt (at? a0 l3i8) fun (u7 : Int) => (opt (f_huff_Lengths_1 fu u7) fun (r11 : Bool) => (bif r11 then (some l3i8) else (f_slices_IndexFunc___int_int__F87_L5 a0 kk2 fu k4 (IntKind.i64.wrap (l3i8 + (1 : Int))))))) else (kk2 ()))
def f_slices_IndexFunc___int_int__F87 (fu : Nat) (a0 : (List Int)) : Option Int := (lt (fun (_ : Unit) => (some (-1 : Int))) fun (kk2 : Unit → Option Int) => (f_slices_IndexFunc___int_int__F87_L5 a0 kk2 fu fu (0 : Int)))
set_option maxRecDepth 100000 in
theorem f_slices_IndexFunc___int_int__F87_ok (fu : Nat) (v0_0 : Value) (a0 : (List Int)) {r : Int} (h : f_slices_IndexFunc___int_int__F87 fu a0 = some r) : FnOk Tryd.prog 142 [v0_0, (Value.func (.func 87) #[] #[])] [(fDat (tyList (tyInt .i64)) [v0_0] a0)] [] (fun (i : Unit) => { val := (int .i64 r) }) := by
 unfold f_slices_IndexFunc___int_int__F87 at h
 refine fn_enter Tryd.func142 rfl Tryd.ntmps142 rfl (fun w0 Z0 => ?_)
 refine aw_sr ?_
 refine al_as rfl rfl ?_
 refine al_nt ?_
 obtain ⟨kk2, hkk2, h⟩ := lt_some h
 refine aw_seq_join (ι := Unit) (fun i => (memOf w0 Z0 [] [] [(fDat (tyList (tyInt .i64)) [v0_0] a0)])) (fun i => (tab [])) (fun i => kk2 () = some r) ?_ ?_
 ·rintro _ h
  have h : kk2 () = some r := h
  rw [hkk2] at h
  dsimp only at h
  clear hkk2
  refine aw_show (m := (memOf w0 Z0 [] [] [(fDat (tyList (tyInt .i64)) [v0_0] a0)])) (S := (tab [])) ?_
  refine aw_sr ?_
  refine al_as rfl rfl ?_
  refine al_nt ?_
  refine aw_ret ?_
  obtain rfl := Option.some.inj h
  exact fn_ret () [] [] rfl rfl rfl rfl (res1 rfl rfl) rfl rfl rfl (by decide)
 ·clear hkk2
  refine aw_sr ?_
  refine al_mv rfl rfl ?_
  refine al_val (ov_lenD 0 rfl rfl Tryd.underlying71 rfl) ?_
  refine al_mv rfl rfl ?_
  refine al_nt ?_
  refine aw_block ?_
  refine aw_state (aw_loop (ι := Int) (fun i => (memOf w0 Z0 [] [] [(fDat (tyList (tyInt .i64)) [v0_0] a0)])) (fun i => (tab [(0, v0_0), (1, (Value.func (.func 87) #[] #[])), (7, (int .i64 (a0.length : Int))), (8, (int .i64 i))])) (fun q i => f_slices_IndexFunc___int_int__F87_L5 a0 kk2 fu q i = some r) ?_ fu (0 : Int) h) (fun w a hm hs => norm hm hs [] [0] [(0, v0_0), (1, (Value.func (.func 87) #[] #[])), (7, (int .i64 (a0.length : Int))), (8, (int .i64 (0 : Int)))] (by decide) ⟨rfl, rfl, rfl, rfl, trivial⟩)
  clear h
  rintro k4 l3i8 h
  have h : f_slices_IndexFunc___int_int__F87_L5 a0 kk2 fu k4 l3i8 = some r := h
  obtain _ | k4 := k4
  · rw [f_slices_IndexFunc___int_int__F87_L5] at h; cases h
  rw [f_slices_IndexFunc___int_int__F87_L5] at h
  refine aw_show (m := (memOf w0 Z0 [] [] [(fDat (tyList (tyInt .i64)) [v0_0] a0)])) (S := (tab [(0, v0_0), (1, (Value.func (.func 87) #[] #[])), (7, (int .i64 (a0.length : Int))), (8, (int .i64 l3i8))])) ?_
  refine aw_sr ?_
  refine al_in rfl rfl rfl rfl ?_
  refine al_nt ?_
  refine aw_seq ?_
  refine aw_cond rfl (fun hb6 => ?_) (fun hb6 => ?_)
  ·replace h := bif_t hb6 h
   refine aw_skip ?_
   refine aq_then ?_
   refine aw_seq ?_
   refine aw_block ?_
   refine aw_sr ?_
   refine al_mv rfl rfl ?_
   refine al_as rfl rfl ?_
   refine al_nt ?_
   refine aw_sr ?_
   refine al_mv rfl rfl ?_
   refine al_mv rfl rfl ?_
   refine al_mv rfl rfl ?_
   obtain ⟨u7, hu8, h⟩ := opt_some h
   refine al_idxD 0 hu8 rfl rfl rfl Tryd.underlying71 sz3 rfl (fun p9 => ?_)
   refine al_val (ov_loadP (ds := [(int .i64 u7)]) 0 rfl (fun h => h) rfl Tryd.underlying3 sz3 rfl rfl rfl) ?_
   obtain ⟨r11, hc10, h⟩ := opt_some h
   refine al_callF (vs := [(int .i64 u7)]) (caps := []) (f_huff_Lengths_1_ok fu u7 hc10) rfl [] [] [] pre_nil rfl (by simp) (by decide) (.inl rfl) rfl rfl Tryd.func87 rfl rfl rfl (fun _ => ?_)
   refine al_nt ?_
   refine aw_cond rfl (fun hb12 => ?_) (fun hb12 => ?_)
   ·replace h := bif_t hb12 h
    refine aw_sr ?_
    refine al_mv rfl rfl ?_
    refine al_as rfl rfl ?_
    refine al_nt ?_
    refine aw_ret ?_
    refine aq_block_ret ?_
    refine aq_then_ret ?_
    refine aq_then_ret ?_
    refine aq_block_ret ?_
    refine aq_then_ret ?_
    obtain rfl := Option.some.inj h
    exact fn_ret () [] [] rfl rfl rfl rfl (res1 rfl rfl) rfl rfl rfl (by decide)
   ·replace h := bif_f hb12 h
    refine aw_skip ?_
    refine aq_block ?_
    refine aq_then ?_
    refine aw_region ?_
    refine al_in rfl rfl rfl rfl ?_
    refine al_mv rfl rfl ?_
    refine al_nil ?_
    exact aq_again k4 (IntKind.i64.wrap (l3i8 + (1 : Int))) (Nat.lt_succ_self _) h (fun w a hm hs => norm hm hs [] [1] [(0, v0_0), (1, (Value.func (.func 87) #[] #[])), (7, (int .i64 (a0.length : Int))), (8, (int .i64 (IntKind.i64.wrap (l3i8 + (1 : Int)))))] (by decide) ⟨rfl, rfl, rfl, rfl, trivial⟩)
  ·replace h := bif_f hb6 h
   refine aw_exit ?_
   refine aq_then_exit ?_
   refine aq_then_exit ?_
   refine aq_block_exit ?_
   exact aq_join () h (fun w a hm hs => norm hm hs [] [0] [] (by decide) trivial)
def f_slices_ContainsFunc___int_int__F87 (fu : Nat) (a0 : (List Int)) : Option Bool := (opt (f_slices_IndexFunc___int_int__F87 fu a0) fun (r2 : Int) => (some (decide (r2 ≥ (0 : Int)))))
set_option maxRecDepth 100000 in
theorem f_slices_ContainsFunc___int_int__F87_ok (fu : Nat) (v0_0 : Value) (a0 : (List Int)) {r : Bool} (h : f_slices_ContainsFunc___int_int__F87 fu a0 = some r) : FnOk Tryd.prog 86 [v0_0, (Value.func (.func 87) #[] #[])] [(fDat (tyList (tyInt .i64)) [v0_0] a0)] [] (fun (i : Unit) => { val := (bool r) }) := by
 unfold f_slices_ContainsFunc___int_int__F87 at h
 refine fn_enter Tryd.func86 rfl Tryd.ntmps86 rfl (fun w0 Z0 => ?_)
 refine aw_sr ?_
 refine al_as rfl rfl ?_
 refine al_nt ?_
 refine aw_sr ?_
 refine al_mv rfl rfl ?_
 refine al_mv rfl rfl ?_
 obtain ⟨r2, hc1, h⟩ := opt_some h
 refine al_call (vs := [v0_0, (Value.func (.func 87) #[] #[])]) (f_slices_IndexFunc___int_int__F87_ok fu v0_0 a0 hc1) [] [] [] (pre_fz 0 rfl pre_nil) rfl (by simp) (by decide) (.inl rfl) rfl Tryd.func142 rfl rfl rfl (fun _ => ?_)
 refine al_in rfl rfl rfl rfl ?_
 refine al_as rfl rfl ?_
 refine al_nt ?_
 refine aw_ret ?_
 obtain rfl := Option.some.inj h
 exact fn_ret () [] [] rfl rfl rfl rfl (res1 rfl rfl) rfl rfl rfl (by decide)
def f___huff_heap_huff_tree___push_L7 (fu : Nat) : Nat → (List S_huff_tree) → Int → Option D_huff_heap_huff_tree_
  | 0, _, _ => none
  | k6 + 1, l5x0_0, l5i4 => (bif (decide (l5i4 > (0 : Int))) then (opt (at? l5x0_0 (IntKind.i64.wrap (((IntKind.i64.wrap (l5i4 - (1 : Int)))).tdiv (2 : Int)))) fun (u9 : S_huff_tree) => (opt (at? l5x0_0 l5i4) fun (u15 : S_huff_tree) => (opt (f_huff_Lengths_2 fu u9 u15) fun (r22 : Int) => (bif (decide (r22 ≤ (0 : Int))) then (some (D_huff_heap_huff_tree_.mk l5x0_0)) else (opt (at? l5x0_0 l5i4) fun (u24 : S_huff_tree) => (opt (at? l5x0_0 (IntKind.i64.wrap (((IntKind.i64.wrap (l5i4 - (1 : Int)))).tdiv (2 : Int)))) fun (u30 : S_huff_tree) => (opt (at? l5x0_0 (IntKind.i64.wrap (((IntKind.i64.wrap (l5i4 - (1 : Int)))).tdiv (2 : Int)))) fun (u36 : S_huff_tree) => (opt (at? (l5x0_0.set ((IntKind.i64.wrap (((IntKind.i64.wrap (l5i4 - (1 : Int)))).tdiv (2 : Int)))).toNat u24) l5i4) fun (u40 : S_huff_tree) => (f___huff_heap_huff_tree___push_L7 fu k6 ((l5x0_0.set ((IntKind.i64.wrap (((IntKind.i64.wrap (l5i4 - (1 : Int)))).tdiv (2 : Int)))).toNat u24).set (l5i4).toNat u30) (IntKind.i64.wrap (((IntKind.i64.wrap (l5i4 - (1 : Int)))).tdiv (2 : Int)))))))))))) else (some (D_huff_heap_huff_tree_.mk l5x0_0)))
def f___huff_heap_huff_tree___push (fu : Nat) (a0 : D_huff_heap_huff_tree_) (a1 : S_huff_tree) : Option D_huff_heap_huff_tree_ := (req (((a0.items.length + ([a1]).length) * 40 : Nat) ≤ 140737488355328 ∧ a0.items.length + ([a1]).length ≤ 9223372036854775807) (f___huff_heap_huff_tree___push_L7 fu fu (a0.items ++ ([a1])) (IntKind.i64.wrap (((a0.items ++ ([a1])).length : Int) - (1 : Int)))))
set_option maxRecDepth 100000 in
theorem f___huff_heap_huff_tree___push_ok (fu : Nat) (bx0 : Nat) (v0_0 : Value) (a0 : D_huff_heap_huff_tree_) (v1_2 : Value) (a1 : S_huff_tree) {r : D_huff_heap_huff_tree_} (h : f___huff_heap_huff_tree___push fu a0 a1 = some r) : FnOk Tryd.prog 90 [(ptr bx0 0), (ag [(int .i64 a1.weight), (int .i64 a1.least), v1_2])] [(fDat (tyList (tyInt .i64)) [v1_2] a1.symbols)] [(oBox bx0 143 [v0_0, (Value.func (.func 88) #[] #[])]), (oRow v0_0 138 tyS_huff_tree a0.items)] (fun (i : Value) => { val := (Value.tuple #[]), own := [(oBox bx0 143 [i, (Value.func (.func 88) #[] #[])]), (oRow i 138 tyS_huff_tree r.items)] }) := by
 unfold f___huff_heap_huff_tree___push at h
 refine fn_enter Tryd.func90 rfl Tryd.ntmps90 rfl (fun w0 Z0 => ?_)
 refine aw_sr ?_
 refine al_box (vs := [(int .i64 a1.weight), (int .i64 a1.least), v1_2]) rfl (cv_rfl rfl) rfl (fun g1 => ?_)
 refine al_nt ?_
 refine aw_seq ?_
 refine aw_region_open [⟨0, 6, Unit, fun _ => { val := (ptr bx0 0) }⟩, ⟨1, 7, Unit, fun _ => { val := (ptr bx0 0) }⟩, ⟨2, 8, Unit, fun _ => { val := (ptr bx0 0) }⟩, ⟨3, 9, Unit, fun _ => { val := (ptr bx0 0) }⟩, ⟨4, 10, Unit, fun _ => { val := v0_0 }⟩, ⟨5, 11, Unit, fun _ => { val := (ag [(int .i64 a1.weight), (int .i64 a1.least), v1_2]) }⟩, ⟨6, 12, Value, fun (i : Value) => { val := i, own := [(oRow i 138 tyS_huff_tree [a1])] }⟩] (tab [(0, (ptr bx0 0)), (3, (ptr g1 0))]) mixed (fun a hs => hs.tab _ (allT_mem ⟨rfl, rfl, trivial⟩)) ?_
 refine ta_show (m := (memOf w0 Z0 [(oBox bx0 143 [v0_0, (Value.func (.func 88) #[] #[])]), (oRow v0_0 138 tyS_huff_tree a0.items)] [(oBox g1 138 [(int .i64 a1.weight), (int .i64 a1.least), v1_2]), (oBox bx0 143 [v0_0, (Value.func (.func 88) #[] #[])]), (oRow v0_0 138 tyS_huff_tree a0.items)] [(fDat (tyList (tyInt .i64)) [v1_2] a1.symbols)])) (S := (tab [(0, (ptr bx0 0)), (3, (ptr g1 0))])) ?_
 refine ta_step 7 _ [0, 1, 2, 3, 4, 5, 6] [6, 7, 8, 9, 10, 11, 12] [1, 2, 3, 4, 5, 6] [8, 9] [⟨1, 7, Unit, fun _ => { val := (ptr bx0 0) }⟩, ⟨2, 8, Unit, fun _ => { val := (ptr bx0 0) }⟩, ⟨3, 9, Unit, fun _ => { val := (ptr bx0 0) }⟩, ⟨4, 10, Unit, fun _ => { val := v0_0 }⟩, ⟨5, 11, Unit, fun _ => { val := (ag [(int .i64 a1.weight), (int .i64 a1.least), v1_2]) }⟩, ⟨6, 12, Value, fun (i : Value) => { val := i, own := [(oRow i 138 tyS_huff_tree [a1])] }⟩] [⟨0, 6, Unit, fun _ => { val := (ptr bx0 0) }⟩] rfl rfl rfl (by kernel_rfl) rfl rfl rfl ⟨⟨_, rfl, [], rfl, by
 intro X_ Y_ F_ K_ hK_
 refine al_show (m := Mem.plus (memOf w0 Z0 [(oBox bx0 143 [v0_0, (Value.func (.func 88) #[] #[])]), (oRow v0_0 138 tyS_huff_tree a0.items)] [(oBox g1 138 [(int .i64 a1.weight), (int .i64 a1.least), v1_2]), (oBox bx0 143 [v0_0, (Value.func (.func 88) #[] #[])]), (oRow v0_0 138 tyS_huff_tree a0.items)] [(fDat (tyList (tyInt .i64)) [v1_2] a1.symbols)]) X_ Y_) (S := over (tab [(0, (ptr bx0 0)), (3, (ptr g1 0))]) F_) ?_
 refine al_mv rfl rfl ?_
 refine al_nil ?_
 exact fr_fin hK_ ()⟩, ⟨_, rfl, [], rfl, by
 intro X_ Y_ F_ K_ hK_
 refine al_show (m := Mem.plus (memOf w0 Z0 [(oBox bx0 143 [v0_0, (Value.func (.func 88) #[] #[])]), (oRow v0_0 138 tyS_huff_tree a0.items)] [(oBox g1 138 [(int .i64 a1.weight), (int .i64 a1.least), v1_2]), (oBox bx0 143 [v0_0, (Value.func (.func 88) #[] #[])]), (oRow v0_0 138 tyS_huff_tree a0.items)] [(fDat (tyList (tyInt .i64)) [v1_2] a1.symbols)]) X_ Y_) (S := over (tab [(0, (ptr bx0 0)), (3, (ptr g1 0))]) F_) ?_
 refine al_mv rfl rfl ?_
 refine al_nil ?_
 exact fr_fin hK_ ()⟩, ⟨_, rfl, [1], rfl, by
 intro _
 intro X_ Y_ F_ K_ hK_
 refine al_show (m := Mem.plus (memOf w0 Z0 [(oBox bx0 143 [v0_0, (Value.func (.func 88) #[] #[])]), (oRow v0_0 138 tyS_huff_tree a0.items)] [(oBox g1 138 [(int .i64 a1.weight), (int .i64 a1.least), v1_2]), (oBox bx0 143 [v0_0, (Value.func (.func 88) #[] #[])]), (oRow v0_0 138 tyS_huff_tree a0.items)] [(fDat (tyList (tyInt .i64)) [v1_2] a1.symbols)]) X_ Y_) (S := over (put (tab [(0, (ptr bx0 0)), (3, (ptr g1 0))]) 7 (ptr bx0 0)) F_) ?_
 refine al_val (ov_nilCheck rfl rfl) ?_
 refine al_nil ?_
 exact fr_fin hK_ ()⟩, ⟨_, rfl, [2], rfl, by
 intro _
 intro X_ Y_ F_ K_ hK_
 refine al_show (m := Mem.plus (memOf w0 Z0 [(oBox bx0 143 [v0_0, (Value.func (.func 88) #[] #[])]), (oRow v0_0 138 tyS_huff_tree a0.items)] [(oBox g1 138 [(int .i64 a1.weight), (int .i64 a1.least), v1_2]), (oBox bx0 143 [v0_0, (Value.func (.func 88) #[] #[])]), (oRow v0_0 138 tyS_huff_tree a0.items)] [(fDat (tyList (tyInt .i64)) [v1_2] a1.symbols)]) X_ Y_) (S := over (put (tab [(0, (ptr bx0 0)), (3, (ptr g1 0))]) 8 (ptr bx0 0)) F_) ?_
 refine al_val (ov_fieldA (p := 0) rfl Tryd.underlying143 rfl sz141 rfl rfl rfl) ?_
 refine al_nil ?_
 exact fr_fin hK_ ()⟩, ⟨_, rfl, [3], rfl, by
 intro _
 intro X_ Y_ F_ K_ hK_
 refine al_show (m := Mem.plus (memOf w0 Z0 [(oBox bx0 143 [v0_0, (Value.func (.func 88) #[] #[])]), (oRow v0_0 138 tyS_huff_tree a0.items)] [(oBox g1 138 [(int .i64 a1.weight), (int .i64 a1.least), v1_2]), (oBox bx0 143 [v0_0, (Value.func (.func 88) #[] #[])]), (oRow v0_0 138 tyS_huff_tree a0.items)] [(fDat (tyList (tyInt .i64)) [v1_2] a1.symbols)]) X_ Y_) (S := over (put (tab [(0, (ptr bx0 0)), (3, (ptr g1 0))]) 9 (ptr bx0 0)) F_) ?_
 refine al_val (ov_load (i := 1) (v := v0_0) rfl rfl Tryd.underlying141 sz141 rfl rfl rfl rfl) ?_
 refine al_nil ?_
 exact fr_fin hK_ ()⟩, ⟨_, rfl, [], rfl, by
 intro X_ Y_ F_ K_ hK_
 refine al_show (m := Mem.plus (memOf w0 Z0 [(oBox bx0 143 [v0_0, (Value.func (.func 88) #[] #[])]), (oRow v0_0 138 tyS_huff_tree a0.items)] [(oBox g1 138 [(int .i64 a1.weight), (int .i64 a1.least), v1_2]), (oBox bx0 143 [v0_0, (Value.func (.func 88) #[] #[])]), (oRow v0_0 138 tyS_huff_tree a0.items)] [(fDat (tyList (tyInt .i64)) [v1_2] a1.symbols)]) X_ Y_) (S := over (tab [(0, (ptr bx0 0)), (3, (ptr g1 0))]) F_) ?_
 refine al_val (ov_load (i := 0) (v := (ag [(int .i64 a1.weight), (int .i64 a1.least), v1_2])) rfl rfl Tryd.underlying138 sz138 rfl rfl rfl rfl) ?_
 refine al_nil ?_
 exact fr_fin hK_ ()⟩, ⟨_, rfl, [5], rfl, by
 intro _
 intro X_ Y_ F_ K_ hK_
 refine al_show (m := Mem.plus (memOf w0 Z0 [(oBox bx0 143 [v0_0, (Value.func (.func 88) #[] #[])]), (oRow v0_0 138 tyS_huff_tree a0.items)] [(oBox g1 138 [(int .i64 a1.weight), (int .i64 a1.least), v1_2]), (oBox bx0 143 [v0_0, (Value.func (.func 88) #[] #[])]), (oRow v0_0 138 tyS_huff_tree a0.items)] [(fDat (tyList (tyInt .i64)) [v1_2] a1.symbols)]) X_ Y_) (S := over (put (tab [(0, (ptr bx0 0)), (3, (ptr g1 0))]) 11 (ag [(int .i64 a1.weight), (int .i64 a1.least), v1_2])) F_) ?_
 refine al_buildSlice (τ := tyS_huff_tree) (e := 138) (k := 1) (sz := 0) (by_ := 0) (z := undef) (cs := [(int .i64 a1.weight), (int .i64 a1.least), v1_2]) (xs := [a1]) rfl (by decide) (fun w a hm hs => ⟨([(int .i64 a1.weight), (int .i64 a1.least), v1_2]).toArray, rfl, by simp only [List.map_toArray, List.map_cons, List.map_nil, hs.ev (x := .tmp 11) rfl]; exact run_bs [(ag [(int .i64 a1.weight), (int .i64 a1.least), v1_2])] [(int .i64 a1.weight), (int .i64 a1.least), v1_2] Tryd.underlying141 to138 rfl rfl (bs_cons (l := [(int .i64 a1.weight), (int .i64 a1.least), v1_2]) (cs := []) (cv_rfl rfl) rfl bs_nil) hm⟩) (fun hm => ⟨_, _, rfl, (fun hm => mknS_huff_tree rfl (fz_at (i := 0) hm rfl)) hm, rfl⟩) rfl (fun v2 => ?_)
 refine al_nil ?_
 exact fr_fin hK_ v2⟩, trivial⟩ ?_
 intro _
 intro _
 intro _
 intro _
 intro _
 intro v2
 intro X_ Y_ F_ K_ hK_
 refine al_show (m := Mem.plus (memOf w0 Z0 [(oBox bx0 143 [v0_0, (Value.func (.func 88) #[] #[])]), (oRow v0_0 138 tyS_huff_tree a0.items)] [(oRow v2 138 tyS_huff_tree [a1]), (oBox g1 138 [(int .i64 a1.weight), (int .i64 a1.least), v1_2]), (oBox bx0 143 [v0_0, (Value.func (.func 88) #[] #[])]), (oRow v0_0 138 tyS_huff_tree a0.items)] [(fDat (tyList (tyInt .i64)) [v1_2] a1.symbols)]) X_ Y_) (S := over (put (put (put (put (put (put (tab [(0, (ptr bx0 0)), (3, (ptr g1 0))]) 7 (ptr bx0 0)) 8 (ptr bx0 0)) 9 (ptr bx0 0)) 10 v0_0) 11 (ag [(int .i64 a1.weight), (int .i64 a1.least), v1_2])) 12 v2) F_) ?_
 obtain ⟨hc3, h⟩ := req_some h
 refine al_append 3 hc3.1 hc3.2 rfl (src_own (i := 3) 0 rfl) rfl rfl Tryd.underlying141 to138 rfl rfl rfl (fun v4 => ?_)
 refine al_nil ?_
 refine aq_show (m := Mem.plus (memOf w0 Z0 [(oBox bx0 143 [v0_0, (Value.func (.func 88) #[] #[])]), (oRow v0_0 138 tyS_huff_tree a0.items)] [(oRow v2 138 tyS_huff_tree [a1]), (oBox g1 138 [(int .i64 a1.weight), (int .i64 a1.least), v1_2]), (oBox bx0 143 [v0_0, (Value.func (.func 88) #[] #[])]), (oRow v4 138 tyS_huff_tree (a0.items ++ ([a1])))] [(fDat (tyList (tyInt .i64)) [v1_2] a1.symbols)]) X_ Y_) ?_
 refine aq_next hK_ [0, 1, 2, 3] [0] [(0, (ptr bx0 0)), (13, v4)] [6] [⟨8, 14, Unit, fun _ => { val := (ptr bx0 0) }⟩, ⟨9, 15, Unit, fun _ => { val := (ptr bx0 0) }⟩] rfl rfl (by decide) rfl ⟨rfl, rfl, trivial⟩ ⟨rfl, trivial⟩ ?_
 clear hK_ K_ F_ X_ Y_
 refine ta_show (m := (memOf w0 Z0 [(oBox bx0 143 [v0_0, (Value.func (.func 88) #[] #[])]), (oRow v0_0 138 tyS_huff_tree a0.items)] [(oRow v2 138 tyS_huff_tree [a1]), (oBox g1 138 [(int .i64 a1.weight), (int .i64 a1.least), v1_2]), (oBox bx0 143 [v0_0, (Value.func (.func 88) #[] #[])]), (oRow v4 138 tyS_huff_tree (a0.items ++ ([a1])))] [(fDat (tyList (tyInt .i64)) [v1_2] a1.symbols)])) (S := (tab [(0, (ptr bx0 0)), (13, v4)])) ?_
 refine ta_step 10 _ [0, 8, 9] [6, 14, 15] [0, 8, 9] [] [⟨0, 6, Unit, fun _ => { val := (ptr bx0 0) }⟩, ⟨8, 14, Unit, fun _ => { val := (ptr bx0 0) }⟩, ⟨9, 15, Unit, fun _ => { val := (ptr bx0 0) }⟩] [] rfl rfl rfl (by kernel_rfl) rfl rfl rfl ⟨⟨_, rfl, [], rfl, by
 intro X_ Y_ F_ K_ hK_
 refine al_show (m := Mem.plus (memOf w0 Z0 [(oBox bx0 143 [v0_0, (Value.func (.func 88) #[] #[])]), (oRow v0_0 138 tyS_huff_tree a0.items)] [(oRow v2 138 tyS_huff_tree [a1]), (oBox g1 138 [(int .i64 a1.weight), (int .i64 a1.least), v1_2]), (oBox bx0 143 [v0_0, (Value.func (.func 88) #[] #[])]), (oRow v4 138 tyS_huff_tree (a0.items ++ ([a1])))] [(fDat (tyList (tyInt .i64)) [v1_2] a1.symbols)]) X_ Y_) (S := over (tab [(0, (ptr bx0 0)), (13, v4)]) F_) ?_
 refine al_mv rfl rfl ?_
 refine al_nil ?_
 exact fr_fin hK_ ()⟩, ⟨_, rfl, [0], rfl, by
 intro _
 intro X_ Y_ F_ K_ hK_
 refine al_show (m := Mem.plus (memOf w0 Z0 [(oBox bx0 143 [v0_0, (Value.func (.func 88) #[] #[])]), (oRow v0_0 138 tyS_huff_tree a0.items)] [(oRow v2 138 tyS_huff_tree [a1]), (oBox g1 138 [(int .i64 a1.weight), (int .i64 a1.least), v1_2]), (oBox bx0 143 [v0_0, (Value.func (.func 88) #[] #[])]), (oRow v4 138 tyS_huff_tree (a0.items ++ ([a1])))] [(fDat (tyList (tyInt .i64)) [v1_2] a1.symbols)]) X_ Y_) (S := over (put (tab [(0, (ptr bx0 0)), (13, v4)]) 6 (ptr bx0 0)) F_) ?_
 refine al_val (ov_nilCheck rfl rfl) ?_
 refine al_nil ?_
 exact fr_fin hK_ ()⟩, ⟨_, rfl, [0, 1], rfl, by
 intro _
 intro _
 intro X_ Y_ F_ K_ hK_
 refine al_show (m := Mem.plus (memOf w0 Z0 [(oBox bx0 143 [v0_0, (Value.func (.func 88) #[] #[])]), (oRow v0_0 138 tyS_huff_tree a0.items)] [(oRow v2 138 tyS_huff_tree [a1]), (oBox g1 138 [(int .i64 a1.weight), (int .i64 a1.least), v1_2]), (oBox bx0 143 [v0_0, (Value.func (.func 88) #[] #[])]), (oRow v4 138 tyS_huff_tree (a0.items ++ ([a1])))] [(fDat (tyList (tyInt .i64)) [v1_2] a1.symbols)]) X_ Y_) (S := over (put (put (tab [(0, (ptr bx0 0)), (13, v4)]) 6 (ptr bx0 0)) 14 (ptr bx0 0)) F_) ?_
 refine al_val (ov_fieldA (p := 0) rfl Tryd.underlying143 rfl sz141 rfl rfl rfl) ?_
 refine al_nil ?_
 exact fr_fin hK_ ()⟩, trivial⟩ ?_
 intro _
 intro _
 intro _
 intro X_ Y_ F_ K_ hK_
 refine al_show (m := Mem.plus (memOf w0 Z0 [(oBox bx0 143 [v0_0, (Value.func (.func 88) #[] #[])]), (oRow v0_0 138 tyS_huff_tree a0.items)] [(oRow v2 138 tyS_huff_tree [a1]), (oBox g1 138 [(int .i64 a1.weight), (int .i64 a1.least), v1_2]), (oBox bx0 143 [v0_0, (Value.func (.func 88) #[] #[])]), (oRow v4 138 tyS_huff_tree (a0.items ++ ([a1])))] [(fDat (tyList (tyInt .i64)) [v1_2] a1.symbols)]) X_ Y_) (S := over (put (put (put (tab [(0, (ptr bx0 0)), (13, v4)]) 6 (ptr bx0 0)) 14 (ptr bx0 0)) 15 (ptr bx0 0)) F_) ?_
 refine al_store (i := 2) (vs := [v4]) (cs' := [v4, (Value.func (.func 88) #[] #[])]) rfl rfl rfl sz141 (cv_own 3 rfl) rfl (co_own 3 rfl co_nil) (Nat.le_of_ble_eq_true rfl) rfl rfl ?_
 refine al_nil ?_
 refine aq_show (m := Mem.plus (memOf w0 Z0 [(oBox bx0 143 [v0_0, (Value.func (.func 88) #[] #[])]), (oRow v0_0 138 tyS_huff_tree a0.items)] [(oRow v2 138 tyS_huff_tree [a1]), (oBox g1 138 [(int .i64 a1.weight), (int .i64 a1.least), v1_2]), (oBox bx0 143 [v4, (Value.func (.func 88) #[] #[])]), (oRow v4 138 tyS_huff_tree (a0.items ++ ([a1])))] [(fDat (tyList (tyInt .i64)) [v1_2] a1.symbols)]) X_ Y_) ?_
 refine aq_next hK_ [0, 1, 2, 3] [0] [(0, (ptr bx0 0))] [] [] rfl rfl (by decide) rfl ⟨rfl, trivial⟩ trivial ?_
 clear hK_ K_ F_ X_ Y_
 refine ta_show (m := (memOf w0 Z0 [(oBox bx0 143 [v0_0, (Value.func (.func 88) #[] #[])]), (oRow v0_0 138 tyS_huff_tree a0.items)] [(oRow v2 138 tyS_huff_tree [a1]), (oBox g1 138 [(int .i64 a1.weight), (int .i64 a1.least), v1_2]), (oBox bx0 143 [v4, (Value.func (.func 88) #[] #[])]), (oRow v4 138 tyS_huff_tree (a0.items ++ ([a1])))] [(fDat (tyList (tyInt .i64)) [v1_2] a1.symbols)])) (S := (tab [(0, (ptr bx0 0))])) ?_
 refine ta_end [] [] rfl rfl (by kernel_rfl) rfl trivial ?_
 refine aq_show (m := (memOf w0 Z0 [(oBox bx0 143 [v0_0, (Value.func (.func 88) #[] #[])]), (oRow v0_0 138 tyS_huff_tree a0.items)] [(oRow v2 138 tyS_huff_tree [a1]), (oBox g1 138 [(int .i64 a1.weight), (int .i64 a1.least), v1_2]), (oBox bx0 143 [v4, (Value.func (.func 88) #[] #[])]), (oRow v4 138 tyS_huff_tree (a0.items ++ ([a1])))] [(fDat (tyList (tyInt .i64)) [v1_2] a1.symbols)])) (S := (tab [(0, (ptr bx0 0))])) ?_
 refine aq_tr ?_
 refine al_mv rfl rfl ?_
 refine al_val (ov_nilCheck rfl rfl) ?_
 refine al_val (ov_fieldA (p := 0) rfl Tryd.underlying143 rfl sz141 rfl rfl rfl) ?_
 refine al_val (ov_load (i := 2) (v := v4) rfl rfl Tryd.underlying141 sz141 rfl rfl rfl rfl) ?_
 refine al_val (ov_lenR 3 rfl rfl Tryd.underlying141 rfl) ?_
 refine al_in rfl rfl rfl rfl ?_
 refine al_as rfl rfl ?_
 refine al_nt ?_
 refine aw_block ?_
 refine aw_state (aw_loop (ι := (List S_huff_tree) × Int) (fun i => (memOf w0 Z0 [(oBox bx0 143 [v0_0, (Value.func (.func 88) #[] #[])]), (oRow v0_0 138 tyS_huff_tree a0.items)] [(oRow v4 138 tyS_huff_tree i.1), (oBox bx0 143 [v4, (Value.func (.func 88) #[] #[])])] [(fDat (tyList (tyInt .i64)) [v1_2] a1.symbols)])) (fun i => (tab [(0, (ptr bx0 0)), (4, (int .i64 i.2))])) (fun q i => f___huff_heap_huff_tree___push_L7 fu q i.1 i.2 = some r) ?_ fu ((a0.items ++ ([a1])), (IntKind.i64.wrap (((a0.items ++ ([a1])).length : Int) - (1 : Int)))) h) (fun w a hm hs => norm hm hs [3, 2] [0] [(0, (ptr bx0 0)), (4, (int .i64 (IntKind.i64.wrap (((a0.items ++ ([a1])).length : Int) - (1 : Int)))))] (by decide) ⟨rfl, rfl, trivial⟩)
 clear h
 rintro k6 ⟨l5x0_0, l5i4⟩ h
 have h : f___huff_heap_huff_tree___push_L7 fu k6 l5x0_0 l5i4 = some r := h
 obtain _ | k6 := k6
 · rw [f___huff_heap_huff_tree___push_L7] at h; cases h
 rw [f___huff_heap_huff_tree___push_L7] at h
 refine aw_show (m := (memOf w0 Z0 [(oBox bx0 143 [v0_0, (Value.func (.func 88) #[] #[])]), (oRow v0_0 138 tyS_huff_tree a0.items)] [(oRow v4 138 tyS_huff_tree l5x0_0), (oBox bx0 143 [v4, (Value.func (.func 88) #[] #[])])] [(fDat (tyList (tyInt .i64)) [v1_2] a1.symbols)])) (S := (tab [(0, (ptr bx0 0)), (4, (int .i64 l5i4))])) ?_
 refine aw_seq ?_
 refine aw_sr ?_
 refine al_mv rfl rfl ?_
 refine al_in rfl rfl rfl rfl ?_
 refine al_nt ?_
 refine aw_cond rfl (fun hb8 => ?_) (fun hb8 => ?_)
 ·replace h := bif_t hb8 h
  refine aw_skip ?_
  refine aq_then ?_
  refine aw_block ?_
  refine aw_sr ?_
  refine al_mv rfl rfl ?_
  refine al_in rfl rfl rfl rfl ?_
  refine al_val (ov_quo (by decide) rfl rfl rfl) ?_
  refine al_as rfl rfl ?_
  refine al_nt ?_
  refine aw_seq ?_
  refine aw_seq ?_
  obtain ⟨u9, hu10, h⟩ := opt_some h
  obtain ⟨u15, hu16, h⟩ := opt_some h
  refine aw_region_open [⟨0, 27, Unit, fun _ => { val := (ptr bx0 0) }⟩, ⟨1, 28, Unit, fun _ => { val := (ptr bx0 0) }⟩, ⟨2, 29, Unit, fun _ => { val := (ptr bx0 1) }⟩, ⟨3, 30, Unit, fun _ => { val := (Value.func (.func 88) #[] #[]) }⟩, ⟨4, 31, Unit, fun _ => { val := (ptr bx0 0) }⟩, ⟨5, 32, Unit, fun _ => { val := (ptr bx0 0) }⟩, ⟨6, 33, Unit, fun _ => { val := (ptr bx0 0) }⟩, ⟨7, 34, Unit, fun _ => { val := v4 }⟩, ⟨8, 35, Unit, fun _ => { val := (int .i64 (IntKind.i64.wrap (((IntKind.i64.wrap (l5i4 - (1 : Int)))).tdiv (2 : Int)))) }⟩, ⟨9, 36, {p : Value // EltOf v4 p (((IntKind.i64.wrap (((IntKind.i64.wrap (l5i4 - (1 : Int)))).tdiv (2 : Int)))).toNat * Ty.size tyS_huff_tree)}, fun p => { val := p.1 }⟩, ⟨10, 37, Value, fun (i : Value) => { val := (ag [(int .i64 u9.weight), (int .i64 u9.least), i]), fz := [(fDat (tyList (tyInt .i64)) [i] u9.symbols), (fDat tyS_huff_tree [(int .i64 u9.weight), (int .i64 u9.least), i] u9)] }⟩, ⟨11, 38, Unit, fun _ => { val := (ptr bx0 0) }⟩, ⟨12, 39, Unit, fun _ => { val := (ptr bx0 0) }⟩, ⟨13, 40, Unit, fun _ => { val := (ptr bx0 0) }⟩, ⟨14, 41, Unit, fun _ => { val := v4 }⟩, ⟨15, 42, Unit, fun _ => { val := (int .i64 l5i4) }⟩, ⟨16, 43, {p : Value // EltOf v4 p ((l5i4).toNat * Ty.size tyS_huff_tree)}, fun p => { val := p.1 }⟩, ⟨17, 44, Value, fun (i : Value) => { val := (ag [(int .i64 u15.weight), (int .i64 u15.least), i]), fz := [(fDat (tyList (tyInt .i64)) [i] u15.symbols), (fDat tyS_huff_tree [(int .i64 u15.weight), (int .i64 u15.least), i] u15)] }⟩] (tab [(0, (ptr bx0 0)), (4, (int .i64 l5i4)), (5, (int .i64 (IntKind.i64.wrap (((IntKind.i64.wrap (l5i4 - (1 : Int)))).tdiv (2 : Int)))))]) mixed (fun a hs => hs.tab _ (allT_mem ⟨rfl, rfl, rfl, trivial⟩)) ?_
  refine ta_show (m := (memOf w0 Z0 [(oBox bx0 143 [v0_0, (Value.func (.func 88) #[] #[])]), (oRow v0_0 138 tyS_huff_tree a0.items)] [(oRow v4 138 tyS_huff_tree l5x0_0), (oBox bx0 143 [v4, (Value.func (.func 88) #[] #[])])] [(fDat (tyList (tyInt .i64)) [v1_2] a1.symbols)])) (S := (tab [(0, (ptr bx0 0)), (4, (int .i64 l5i4)), (5, (int .i64 (IntKind.i64.wrap (((IntKind.i64.wrap (l5i4 - (1 : Int)))).tdiv (2 : Int)))))])) ?_
  refine ta_step 18 _ [0, 1, 2, 3, 4, 5, 6, 7, 8, 9, 10, 11, 12, 13, 14, 15, 16, 17] [27, 28, 29, 30, 31, 32, 33, 34, 35, 36, 37, 38, 39, 40, 41, 42, 43, 44] [0, 1, 2, 3, 4, 5, 6, 7, 8, 9, 10, 11, 12, 13, 14, 15, 16, 17] [19] [⟨0, 27, Unit, fun _ => { val := (ptr bx0 0) }⟩, ⟨1, 28, Unit, fun _ => { val := (ptr bx0 0) }⟩, ⟨2, 29, Unit, fun _ => { val := (ptr bx0 1) }⟩, ⟨3, 30, Unit, fun _ => { val := (Value.func (.func 88) #[] #[]) }⟩, ⟨4, 31, Unit, fun _ => { val := (ptr bx0 0) }⟩, ⟨5, 32, Unit, fun _ => { val := (ptr bx0 0) }⟩, ⟨6, 33, Unit, fun _ => { val := (ptr bx0 0) }⟩, ⟨7, 34, Unit, fun _ => { val := v4 }⟩, ⟨8, 35, Unit, fun _ => { val := (int .i64 (IntKind.i64.wrap (((IntKind.i64.wrap (l5i4 - (1 : Int)))).tdiv (2 : Int)))) }⟩, ⟨9, 36, {p : Value // EltOf v4 p (((IntKind.i64.wrap (((IntKind.i64.wrap (l5i4 - (1 : Int)))).tdiv (2 : Int)))).toNat * Ty.size tyS_huff_tree)}, fun p => { val := p.1 }⟩, ⟨10, 37, Value, fun (i : Value) => { val := (ag [(int .i64 u9.weight), (int .i64 u9.least), i]), fz := [(fDat (tyList (tyInt .i64)) [i] u9.symbols), (fDat tyS_huff_tree [(int .i64 u9.weight), (int .i64 u9.least), i] u9)] }⟩, ⟨11, 38, Unit, fun _ => { val := (ptr bx0 0) }⟩, ⟨12, 39, Unit, fun _ => { val := (ptr bx0 0) }⟩, ⟨13, 40, Unit, fun _ => { val := (ptr bx0 0) }⟩, ⟨14, 41, Unit, fun _ => { val := v4 }⟩, ⟨15, 42, Unit, fun _ => { val := (int .i64 l5i4) }⟩, ⟨16, 43, {p : Value // EltOf v4 p ((l5i4).toNat * Ty.size tyS_huff_tree)}, fun p => { val := p.1 }⟩, ⟨17, 44, Value, fun (i : Value) => { val := (ag [(int .i64 u15.weight), (int .i64 u15.least), i]), fz := [(fDat (tyList (tyInt .i64)) [i] u15.symbols), (fDat tyS_huff_tree [(int .i64 u15.weight), (int .i64 u15.least), i] u15)] }⟩] [] rfl rfl rfl (by kernel_rfl) rfl rfl rfl ⟨⟨_, rfl, [], rfl, by
 intro X_ Y_ F_ K_ hK_
 refine al_show (m := Mem.plus (memOf w0 Z0 [(oBox bx0 143 [v0_0, (Value.func (.func 88) #[] #[])]), (oRow v0_0 138 tyS_huff_tree a0.items)] [(oRow v4 138 tyS_huff_tree l5x0_0), (oBox bx0 143 [v4, (Value.func (.func 88) #[] #[])])] [(fDat (tyList (tyInt .i64)) [v1_2] a1.symbols)]) X_ Y_) (S := over (tab [(0, (ptr bx0 0)), (4, (int .i64 l5i4)), (5, (int .i64 (IntKind.i64.wrap (((IntKind.i64.wrap (l5i4 - (1 : Int)))).tdiv (2 : Int)))))]) F_) ?_
 refine al_mv rfl rfl ?_
 refine al_nil ?_
 exact fr_fin hK_ ()⟩, ⟨_, rfl, [0], rfl, by
 intro _
 intro X_ Y_ F_ K_ hK_
 refine al_show (m := Mem.plus (memOf w0 Z0 [(oBox bx0 143 [v0_0, (Value.func (.func 88) #[] #[])]), (oRow v0_0 138 tyS_huff_tree a0.items)] [(oRow v4 138 tyS_huff_tree l5x0_0), (oBox bx0 143 [v4, (Value.func (.func 88) #[] #[])])] [(fDat (tyList (tyInt .i64)) [v1_2] a1.symbols)]) X_ Y_) (S := over (put (tab [(0, (ptr bx0 0)), (4, (int .i64 l5i4)), (5, (int .i64 (IntKind.i64.wrap (((IntKind.i64.wrap (l5i4 - (1 : Int)))).tdiv (2 : Int)))))]) 27 (ptr bx0 0)) F_) ?_
 refine al_val (ov_nilCheck rfl rfl) ?_
 refine al_nil ?_
 exact fr_fin hK_ ()⟩, ⟨_, rfl, [1], rfl, by
 intro _
 intro X_ Y_ F_ K_ hK_
 refine al_show (m := Mem.plus (memOf w0 Z0 [(oBox bx0 143 [v0_0, (Value.func (.func 88) #[] #[])]), (oRow v0_0 138 tyS_huff_tree a0.items)] [(oRow v4 138 tyS_huff_tree l5x0_0), (oBox bx0 143 [v4, (Value.func (.func 88) #[] #[])])] [(fDat (tyList (tyInt .i64)) [v1_2] a1.symbols)]) X_ Y_) (S := over (put (tab [(0, (ptr bx0 0)), (4, (int .i64 l5i4)), (5, (int .i64 (IntKind.i64.wrap (((IntKind.i64.wrap (l5i4 - (1 : Int)))).tdiv (2 : Int)))))]) 28 (ptr bx0 0)) F_) ?_
 refine al_val (ov_fieldA (p := 1) rfl Tryd.underlying143 rfl sz140 rfl rfl rfl) ?_
 refine al_nil ?_
 exact fr_fin hK_ ()⟩, ⟨_, rfl, [2], rfl, by
 intro _
 intro X_ Y_ F_ K_ hK_
 refine al_show (m := Mem.plus (memOf w0 Z0 [(oBox bx0 143 [v0_0, (Value.func (.func 88) #[] #[])]), (oRow v0_0 138 tyS_huff_tree a0.items)] [(oRow v4 138 tyS_huff_tree l5x0_0), (oBox bx0 143 [v4, (Value.func (.func 88) #[] #[])])] [(fDat (tyList (tyInt .i64)) [v1_2] a1.symbols)]) X_ Y_) (S := over (put (tab [(0, (ptr bx0 0)), (4, (int .i64 l5i4)), (5, (int .i64 (IntKind.i64.wrap (((IntKind.i64.wrap (l5i4 - (1 : Int)))).tdiv (2 : Int)))))]) 29 (ptr bx0 1)) F_) ?_
 refine al_val (ov_load (i := 1) (v := (Value.func (.func 88) #[] #[])) rfl rfl Tryd.underlying140 sz140 rfl rfl rfl rfl) ?_
 refine al_nil ?_
 exact fr_fin hK_ ()⟩, ⟨_, rfl, [], rfl, by
 intro X_ Y_ F_ K_ hK_
 refine al_show (m := Mem.plus (memOf w0 Z0 [(oBox bx0 143 [v0_0, (Value.func (.func 88) #[] #[])]), (oRow v0_0 138 tyS_huff_tree a0.items)] [(oRow v4 138 tyS_huff_tree l5x0_0), (oBox bx0 143 [v4, (Value.func (.func 88) #[] #[])])] [(fDat (tyList (tyInt .i64)) [v1_2] a1.symbols)]) X_ Y_) (S := over (tab [(0, (ptr bx0 0)), (4, (int .i64 l5i4)), (5, (int .i64 (IntKind.i64.wrap (((IntKind.i64.wrap (l5i4 - (1 : Int)))).tdiv (2 : Int)))))]) F_) ?_
 refine al_mv rfl rfl ?_
 refine al_nil ?_
 exact fr_fin hK_ ()⟩, ⟨_, rfl, [4], rfl, by
 intro _
 intro X_ Y_ F_ K_ hK_
 refine al_show (m := Mem.plus (memOf w0 Z0 [(oBox bx0 143 [v0_0, (Value.func (.func 88) #[] #[])]), (oRow v0_0 138 tyS_huff_tree a0.items)] [(oRow v4 138 tyS_huff_tree l5x0_0), (oBox bx0 143 [v4, (Value.func (.func 88) #[] #[])])] [(fDat (tyList (tyInt .i64)) [v1_2] a1.symbols)]) X_ Y_) (S := over (put (tab [(0, (ptr bx0 0)), (4, (int .i64 l5i4)), (5, (int .i64 (IntKind.i64.wrap (((IntKind.i64.wrap (l5i4 - (1 : Int)))).tdiv (2 : Int)))))]) 31 (ptr bx0 0)) F_) ?_
 refine al_val (ov_nilCheck rfl rfl) ?_
 refine al_nil ?_
 exact fr_fin hK_ ()⟩, ⟨_, rfl, [5], rfl, by
 intro _
 intro X_ Y_ F_ K_ hK_
 refine al_show (m := Mem.plus (memOf w0 Z0 [(oBox bx0 143 [v0_0, (Value.func (.func 88) #[] #[])]), (oRow v0_0 138 tyS_huff_tree a0.items)] [(oRow v4 138 tyS_huff_tree l5x0_0), (oBox bx0 143 [v4, (Value.func (.func 88) #[] #[])])] [(fDat (tyList (tyInt .i64)) [v1_2] a1.symbols)]) X_ Y_) (S := over (put (tab [(0, (ptr bx0 0)), (4, (int .i64 l5i4)), (5, (int .i64 (IntKind.i64.wrap (((IntKind.i64.wrap (l5i4 - (1 : Int)))).tdiv (2 : Int)))))]) 32 (ptr bx0 0)) F_) ?_
 refine al_val (ov_fieldA (p := 0) rfl Tryd.underlying143 rfl sz141 rfl rfl rfl) ?_
 refine al_nil ?_
 exact fr_fin hK_ ()⟩, ⟨_, rfl, [6], rfl, by
 intro _
 intro X_ Y_ F_ K_ hK_
 refine al_show (m := Mem.plus (memOf w0 Z0 [(oBox bx0 143 [v0_0, (Value.func (.func 88) #[] #[])]), (oRow v0_0 138 tyS_huff_tree a0.items)] [(oRow v4 138 tyS_huff_tree l5x0_0), (oBox bx0 143 [v4, (Value.func (.func 88) #[] #[])])] [(fDat (tyList (tyInt .i64)) [v1_2] a1.symbols)]) X_ Y_) (S := over (put (tab [(0, (ptr bx0 0)), (4, (int .i64 l5i4)), (5, (int .i64 (IntKind.i64.wrap (((IntKind.i64.wrap (l5i4 - (1 : Int)))).tdiv (2 : Int)))))]) 33 (ptr bx0 0)) F_) ?_
 refine al_val (ov_load (i := 1) (v := v4) rfl rfl Tryd.underlying141 sz141 rfl rfl rfl rfl) ?_
 refine al_nil ?_
 exact fr_fin hK_ ()⟩, ⟨_, rfl, [], rfl, by
 intro X_ Y_ F_ K_ hK_
 refine al_show (m := Mem.plus (memOf w0 Z0 [(oBox bx0 143 [v0_0, (Value.func (.func 88) #[] #[])]), (oRow v0_0 138 tyS_huff_tree a0.items)] [(oRow v4 138 tyS_huff_tree l5x0_0), (oBox bx0 143 [v4, (Value.func (.func 88) #[] #[])])] [(fDat (tyList (tyInt .i64)) [v1_2] a1.symbols)]) X_ Y_) (S := over (tab [(0, (ptr bx0 0)), (4, (int .i64 l5i4)), (5, (int .i64 (IntKind.i64.wrap (((IntKind.i64.wrap (l5i4 - (1 : Int)))).tdiv (2 : Int)))))]) F_) ?_
 refine al_mv rfl rfl ?_
 refine al_nil ?_
 exact fr_fin hK_ ()⟩, ⟨_, rfl, [7, 8], rfl, by
 intro _
 intro _
 intro X_ Y_ F_ K_ hK_
 refine al_show (m := Mem.plus (memOf w0 Z0 [(oBox bx0 143 [v0_0, (Value.func (.func 88) #[] #[])]), (oRow v0_0 138 tyS_huff_tree a0.items)] [(oRow v4 138 tyS_huff_tree l5x0_0), (oBox bx0 143 [v4, (Value.func (.func 88) #[] #[])])] [(fDat (tyList (tyInt .i64)) [v1_2] a1.symbols)]) X_ Y_) (S := over (put (put (tab [(0, (ptr bx0 0)), (4, (int .i64 l5i4)), (5, (int .i64 (IntKind.i64.wrap (((IntKind.i64.wrap (l5i4 - (1 : Int)))).tdiv (2 : Int)))))]) 34 v4) 35 (int .i64 (IntKind.i64.wrap (((IntKind.i64.wrap (l5i4 - (1 : Int)))).tdiv (2 : Int))))) F_) ?_
 refine al_idxR 0 (at_some hu10).1 (at_some hu10).2.1 rfl rfl rfl Tryd.underlying141 sz138 rfl (fun p11 hp12 => ?_)
 refine al_nil ?_
 exact fr_fin hK_ ⟨p11, hp12⟩⟩, ⟨_, rfl, [9], rfl, by
 rintro ⟨p11, hp12⟩
 intro X_ Y_ F_ K_ hK_
 refine al_show (m := Mem.plus (memOf w0 Z0 [(oBox bx0 143 [v0_0, (Value.func (.func 88) #[] #[])]), (oRow v0_0 138 tyS_huff_tree a0.items)] [(oRow v4 138 tyS_huff_tree l5x0_0), (oBox bx0 143 [v4, (Value.func (.func 88) #[] #[])])] [(fDat (tyList (tyInt .i64)) [v1_2] a1.symbols)]) X_ Y_) (S := over (put (tab [(0, (ptr bx0 0)), (4, (int .i64 l5i4)), (5, (int .i64 (IntKind.i64.wrap (((IntKind.i64.wrap (l5i4 - (1 : Int)))).tdiv (2 : Int)))))]) 36 p11) F_) ?_
 refine al_loadRA 0 rfl hp12 (at_some hu10).2.2 rfl Tryd.underlying138 sz138 rfl rfl (fun cs14 => ?_)
 refine al_use (ι := Value) 0 rfl (fun j => cs14 = [(int .i64 u9.weight), (int .i64 u9.least), j]) (fun j => [(fDat (tyList (tyInt .i64)) [j] u9.symbols)]) encnS_huff_tree (fun s13 hq => ?_)
 subst hq
 refine al_nil ?_
 exact fr_fin hK_ s13⟩, ⟨_, rfl, [], rfl, by
 intro X_ Y_ F_ K_ hK_
 refine al_show (m := Mem.plus (memOf w0 Z0 [(oBox bx0 143 [v0_0, (Value.func (.func 88) #[] #[])]), (oRow v0_0 138 tyS_huff_tree a0.items)] [(oRow v4 138 tyS_huff_tree l5x0_0), (oBox bx0 143 [v4, (Value.func (.func 88) #[] #[])])] [(fDat (tyList (tyInt .i64)) [v1_2] a1.symbols)]) X_ Y_) (S := over (tab [(0, (ptr bx0 0)), (4, (int .i64 l5i4)), (5, (int .i64 (IntKind.i64.wrap (((IntKind.i64.wrap (l5i4 - (1 : Int)))).tdiv (2 : Int)))))]) F_) ?_
 refine al_mv rfl rfl ?_
 refine al_nil ?_
 exact fr_fin hK_ ()⟩, ⟨_, rfl, [11], rfl, by
 intro _
 intro X_ Y_ F_ K_ hK_
 refine al_show (m := Mem.plus (memOf w0 Z0 [(oBox bx0 143 [v0_0, (Value.func (.func 88) #[] #[])]), (oRow v0_0 138 tyS_huff_tree a0.items)] [(oRow v4 138 tyS_huff_tree l5x0_0), (oBox bx0 143 [v4, (Value.func (.func 88) #[] #[])])] [(fDat (tyList (tyInt .i64)) [v1_2] a1.symbols)]) X_ Y_) (S := over (put (tab [(0, (ptr bx0 0)), (4, (int .i64 l5i4)), (5, (int .i64 (IntKind.i64.wrap (((IntKind.i64.wrap (l5i4 - (1 : Int)))).tdiv (2 : Int)))))]) 38 (ptr bx0 0)) F_) ?_
 refine al_val (ov_nilCheck rfl rfl) ?_
 refine al_nil ?_
 exact fr_fin hK_ ()⟩, ⟨_, rfl, [12], rfl, by
 intro _
 intro X_ Y_ F_ K_ hK_
 refine al_show (m := Mem.plus (memOf w0 Z0 [(oBox bx0 143 [v0_0, (Value.func (.func 88) #[] #[])]), (oRow v0_0 138 tyS_huff_tree a0.items)] [(oRow v4 138 tyS_huff_tree l5x0_0), (oBox bx0 143 [v4, (Value.func (.func 88) #[] #[])])] [(fDat (tyList (tyInt .i64)) [v1_2] a1.symbols)]) X_ Y_) (S := over (put (tab [(0, (ptr bx0 0)), (4, (int .i64 l5i4)), (5, (int .i64 (IntKind.i64.wrap (((IntKind.i64.wrap (l5i4 - (1 : Int)))).tdiv (2 : Int)))))]) 39 (ptr bx0 0)) F_) ?_
 refine al_val (ov_fieldA (p := 0) rfl Tryd.underlying143 rfl sz141 rfl rfl rfl) ?_
 refine al_nil ?_
 exact fr_fin hK_ ()⟩, ⟨_, rfl, [13], rfl, by
 intro _
 intro X_ Y_ F_ K_ hK_
 refine al_show (m := Mem.plus (memOf w0 Z0 [(oBox bx0 143 [v0_0, (Value.func (.func 88) #[] #[])]), (oRow v0_0 138 tyS_huff_tree a0.items)] [(oRow v4 138 tyS_huff_tree l5x0_0), (oBox bx0 143 [v4, (Value.func (.func 88) #[] #[])])] [(fDat (tyList (tyInt .i64)) [v1_2] a1.symbols)]) X_ Y_) (S := over (put (tab [(0, (ptr bx0 0)), (4, (int .i64 l5i4)), (5, (int .i64 (IntKind.i64.wrap (((IntKind.i64.wrap (l5i4 - (1 : Int)))).tdiv (2 : Int)))))]) 40 (ptr bx0 0)) F_) ?_
 refine al_val (ov_load (i := 1) (v := v4) rfl rfl Tryd.underlying141 sz141 rfl rfl rfl rfl) ?_
 refine al_nil ?_
 exact fr_fin hK_ ()⟩, ⟨_, rfl, [], rfl, by
 intro X_ Y_ F_ K_ hK_
 refine al_show (m := Mem.plus (memOf w0 Z0 [(oBox bx0 143 [v0_0, (Value.func (.func 88) #[] #[])]), (oRow v0_0 138 tyS_huff_tree a0.items)] [(oRow v4 138 tyS_huff_tree l5x0_0), (oBox bx0 143 [v4, (Value.func (.func 88) #[] #[])])] [(fDat (tyList (tyInt .i64)) [v1_2] a1.symbols)]) X_ Y_) (S := over (tab [(0, (ptr bx0 0)), (4, (int .i64 l5i4)), (5, (int .i64 (IntKind.i64.wrap (((IntKind.i64.wrap (l5i4 - (1 : Int)))).tdiv (2 : Int)))))]) F_) ?_
 refine al_mv rfl rfl ?_
 refine al_nil ?_
 exact fr_fin hK_ ()⟩, ⟨_, rfl, [14, 15], rfl, by
 intro _
 intro _
 intro X_ Y_ F_ K_ hK_
 refine al_show (m := Mem.plus (memOf w0 Z0 [(oBox bx0 143 [v0_0, (Value.func (.func 88) #[] #[])]), (oRow v0_0 138 tyS_huff_tree a0.items)] [(oRow v4 138 tyS_huff_tree l5x0_0), (oBox bx0 143 [v4, (Value.func (.func 88) #[] #[])])] [(fDat (tyList (tyInt .i64)) [v1_2] a1.symbols)]) X_ Y_) (S := over (put (put (tab [(0, (ptr bx0 0)), (4, (int .i64 l5i4)), (5, (int .i64 (IntKind.i64.wrap (((IntKind.i64.wrap (l5i4 - (1 : Int)))).tdiv (2 : Int)))))]) 41 v4) 42 (int .i64 l5i4)) F_) ?_
 refine al_idxR 0 (at_some hu16).1 (at_some hu16).2.1 rfl rfl rfl Tryd.underlying141 sz138 rfl (fun p17 hp18 => ?_)
 refine al_nil ?_
 exact fr_fin hK_ ⟨p17, hp18⟩⟩, ⟨_, rfl, [16], rfl, by
 rintro ⟨p17, hp18⟩
 intro X_ Y_ F_ K_ hK_
 refine al_show (m := Mem.plus (memOf w0 Z0 [(oBox bx0 143 [v0_0, (Value.func (.func 88) #[] #[])]), (oRow v0_0 138 tyS_huff_tree a0.items)] [(oRow v4 138 tyS_huff_tree l5x0_0), (oBox bx0 143 [v4, (Value.func (.func 88) #[] #[])])] [(fDat (tyList (tyInt .i64)) [v1_2] a1.symbols)]) X_ Y_) (S := over (put (tab [(0, (ptr bx0 0)), (4, (int .i64 l5i4)), (5, (int .i64 (IntKind.i64.wrap (((IntKind.i64.wrap (l5i4 - (1 : Int)))).tdiv (2 : Int)))))]) 43 p17) F_) ?_
 refine al_loadRA 0 rfl hp18 (at_some hu16).2.2 rfl Tryd.underlying138 sz138 rfl rfl (fun cs20 => ?_)
 refine al_use (ι := Value) 0 rfl (fun j => cs20 = [(int .i64 u15.weight), (int .i64 u15.least), j]) (fun j => [(fDat (tyList (tyInt .i64)) [j] u15.symbols)]) encnS_huff_tree (fun s19 hq => ?_)
 subst hq
 refine al_nil ?_
 exact fr_fin hK_ s19⟩, trivial⟩ ?_
  intro _
  intro _
  intro _
  intro _
  intro _
  intro _
  intro _
  intro _
  intro _
  rintro ⟨p11, hp12⟩
  intro s13
  intro _
  intro _
  intro _
  intro _
  intro _
  rintro ⟨p17, hp18⟩
  intro s19
  intro X_ Y_ F_ K_ hK_
  refine al_show (m := Mem.plus (memOf w0 Z0 [(oBox bx0 143 [v0_0, (Value.func (.func 88) #[] #[])]), (oRow v0_0 138 tyS_huff_tree a0.items)] [(oRow v4 138 tyS_huff_tree l5x0_0), (oBox bx0 143 [v4, (Value.func (.func 88) #[] #[])])] [(fDat (tyList (tyInt .i64)) [s19] u15.symbols), (fDat tyS_huff_tree [(int .i64 u15.weight), (int .i64 u15.least), s19] u15), (fDat (tyList (tyInt .i64)) [s13] u9.symbols), (fDat tyS_huff_tree [(int .i64 u9.weight), (int .i64 u9.least), s13] u9), (fDat (tyList (tyInt .i64)) [v1_2] a1.symbols)]) X_ Y_) (S := over (put (put (put (put (put (put (put (put (put (put (put (put (put (put (put (put (put (put (tab [(0, (ptr bx0 0)), (4, (int .i64 l5i4)), (5, (int .i64 (IntKind.i64.wrap (((IntKind.i64.wrap (l5i4 - (1 : Int)))).tdiv (2 : Int)))))]) 27 (ptr bx0 0)) 28 (ptr bx0 0)) 29 (ptr bx0 1)) 30 (Value.func (.func 88) #[] #[])) 31 (ptr bx0 0)) 32 (ptr bx0 0)) 33 (ptr bx0 0)) 34 v4) 35 (int .i64 (IntKind.i64.wrap (((IntKind.i64.wrap (l5i4 - (1 : Int)))).tdiv (2 : Int))))) 36 p11) 37 (ag [(int .i64 u9.weight), (int .i64 u9.least), s13])) 38 (ptr bx0 0)) 39 (ptr bx0 0)) 40 (ptr bx0 0)) 41 v4) 42 (int .i64 l5i4)) 43 p17) 44 (ag [(int .i64 u15.weight), (int .i64 u15.least), s19])) F_) ?_
  obtain ⟨r22, hc21, h⟩ := opt_some h
  refine al_callFX (vs := [(ag [(int .i64 u9.weight), (int .i64 u9.least), s13]), (ag [(int .i64 u15.weight), (int .i64 u15.least), s19])]) (caps := []) (f_huff_Lengths_2_ok fu s13 u9 s19 u15 hc21) rfl [] [] [0, 1] (pre_fz 2 rfl (pre_fz 0 rfl pre_nil)) rfl (by simp) (by decide) rfl (.inl rfl) rfl rfl Tryd.func88 rfl rfl rfl (fun _ => ?_)
  refine al_nil ?_
  refine aq_show (m := Mem.plus (memOf w0 Z0 [(oBox bx0 143 [v0_0, (Value.func (.func 88) #[] #[])]), (oRow v0_0 138 tyS_huff_tree a0.items)] [(oRow v4 138 tyS_huff_tree l5x0_0), (oBox bx0 143 [v4, (Value.func (.func 88) #[] #[])])] [(fDat (tyList (tyInt .i64)) [s19] u15.symbols), (fDat tyS_huff_tree [(int .i64 u15.weight), (int .i64 u15.least), s19] u15), (fDat (tyList (tyInt .i64)) [s13] u9.symbols), (fDat tyS_huff_tree [(int .i64 u9.weight), (int .i64 u9.least), s13] u9), (fDat (tyList (tyInt .i64)) [v1_2] a1.symbols)]) X_ Y_) ?_
  refine aq_next hK_ [0, 1] [1, 3, 4] [(0, (ptr bx0 0)), (4, (int .i64 l5i4)), (5, (int .i64 (IntKind.i64.wrap (((IntKind.i64.wrap (l5i4 - (1 : Int)))).tdiv (2 : Int))))), (45, (int .i64 r22))] [] [⟨19, 46, Unit, fun _ => { val := (bool (decide (r22 ≤ (0 : Int)))) }⟩] rfl rfl (by decide) rfl ⟨rfl, rfl, rfl, rfl, trivial⟩ trivial ?_
  clear hK_ K_ F_ X_ Y_
  refine ta_show (m := (memOf w0 Z0 [(oBox bx0 143 [v0_0, (Value.func (.func 88) #[] #[])]), (oRow v0_0 138 tyS_huff_tree a0.items)] [(oRow v4 138 tyS_huff_tree l5x0_0), (oBox bx0 143 [v4, (Value.func (.func 88) #[] #[])])] [(fDat tyS_huff_tree [(int .i64 u15.weight), (int .i64 u15.least), s19] u15), (fDat tyS_huff_tree [(int .i64 u9.weight), (int .i64 u9.least), s13] u9), (fDat (tyList (tyInt .i64)) [v1_2] a1.symbols)])) (S := (tab [(0, (ptr bx0 0)), (4, (int .i64 l5i4)), (5, (int .i64 (IntKind.i64.wrap (((IntKind.i64.wrap (l5i4 - (1 : Int)))).tdiv (2 : Int))))), (45, (int .i64 r22))])) ?_
  refine ta_end [19] [46] rfl rfl (by kernel_rfl) rfl ⟨⟨_, rfl, [], rfl, by
 intro X_ Y_ F_ K_ hK_
 refine al_show (m := Mem.plus (memOf w0 Z0 [(oBox bx0 143 [v0_0, (Value.func (.func 88) #[] #[])]), (oRow v0_0 138 tyS_huff_tree a0.items)] [(oRow v4 138 tyS_huff_tree l5x0_0), (oBox bx0 143 [v4, (Value.func (.func 88) #[] #[])])] [(fDat tyS_huff_tree [(int .i64 u15.weight), (int .i64 u15.least), s19] u15), (fDat tyS_huff_tree [(int .i64 u9.weight), (int .i64 u9.least), s13] u9), (fDat (tyList (tyInt .i64)) [v1_2] a1.symbols)]) X_ Y_) (S := over (tab [(0, (ptr bx0 0)), (4, (int .i64 l5i4)), (5, (int .i64 (IntKind.i64.wrap (((IntKind.i64.wrap (l5i4 - (1 : Int)))).tdiv (2 : Int))))), (45, (int .i64 r22))]) F_) ?_
 refine al_in rfl rfl rfl rfl ?_
 refine al_nil ?_
 exact fr_fin hK_ ()⟩, trivial⟩ ?_
  intro _
  refine aq_show (m := (memOf w0 Z0 [(oBox bx0 143 [v0_0, (Value.func (.func 88) #[] #[])]), (oRow v0_0 138 tyS_huff_tree a0.items)] [(oRow v4 138 tyS_huff_tree l5x0_0), (oBox bx0 143 [v4, (Value.func (.func 88) #[] #[])])] [(fDat tyS_huff_tree [(int .i64 u15.weight), (int .i64 u15.least), s19] u15), (fDat tyS_huff_tree [(int .i64 u9.weight), (int .i64 u9.least), s13] u9), (fDat (tyList (tyInt .i64)) [v1_2] a1.symbols)])) (S := (put (tab [(0, (ptr bx0 0)), (4, (int .i64 l5i4)), (5, (int .i64 (IntKind.i64.wrap (((IntKind.i64.wrap (l5i4 - (1 : Int)))).tdiv (2 : Int))))), (45, (int .i64 r22))]) 46 (bool (decide (r22 ≤ (0 : Int)))))) ?_
  refine aq_then ?_
  refine aw_cond rfl (fun hb23 => ?_) (fun hb23 => ?_)
  ·replace h := bif_t hb23 h
   refine aw_ret ?_
   refine aq_then_ret ?_
   refine aq_block_ret ?_
   refine aq_then_ret ?_
   refine aq_block_ret ?_
   obtain rfl := Option.some.inj h
   exact fn_ret v4 [1, 0] [] rfl rfl rfl rfl (resC rfl (resN) rfl) rfl rfl rfl (by decide)
  ·replace h := bif_f hb23 h
   refine aw_skip ?_
   refine aq_then ?_
   refine aw_seq ?_
   obtain ⟨u24, hu25, h⟩ := opt_some h
   obtain ⟨u30, hu31, h⟩ := opt_some h
   obtain ⟨u36, hu37, h⟩ := opt_some h
   refine aw_region_open [⟨0, 47, Unit, fun _ => { val := (ptr bx0 0) }⟩, ⟨1, 48, Unit, fun _ => { val := (ptr bx0 0) }⟩, ⟨2, 49, Unit, fun _ => { val := (ptr bx0 0) }⟩, ⟨3, 50, Unit, fun _ => { val := v4 }⟩, ⟨4, 51, Unit, fun _ => { val := (int .i64 (IntKind.i64.wrap (((IntKind.i64.wrap (l5i4 - (1 : Int)))).tdiv (2 : Int)))) }⟩, ⟨5, 52, Unit, fun _ => { val := (ptr bx0 0) }⟩, ⟨6, 53, Unit, fun _ => { val := (ptr bx0 0) }⟩, ⟨7, 54, Unit, fun _ => { val := (ptr bx0 0) }⟩, ⟨8, 55, Unit, fun _ => { val := v4 }⟩, ⟨9, 56, Unit, fun _ => { val := (int .i64 l5i4) }⟩, ⟨10, 57, Unit, fun _ => { val := (ptr bx0 0) }⟩, ⟨11, 58, Unit, fun _ => { val := (ptr bx0 0) }⟩, ⟨12, 59, Unit, fun _ => { val := (ptr bx0 0) }⟩, ⟨13, 60, Unit, fun _ => { val := v4 }⟩, ⟨14, 61, Unit, fun _ => { val := (int .i64 l5i4) }⟩, ⟨15, 62, {p : Value // EltOf v4 p ((l5i4).toNat * Ty.size tyS_huff_tree)}, fun p => { val := p.1 }⟩, ⟨16, 63, Value, fun (i : Value) => { val := (ag [(int .i64 u24.weight), (int .i64 u24.least), i]), fz := [(fDat (tyList (tyInt .i64)) [i] u24.symbols), (fDat tyS_huff_tree [(int .i64 u24.weight), (int .i64 u24.least), i] u24)] }⟩, ⟨17, 64, Unit, fun _ => { val := (ptr bx0 0) }⟩, ⟨18, 65, Unit, fun _ => { val := (ptr bx0 0) }⟩, ⟨19, 66, Unit, fun _ => { val := (ptr bx0 0) }⟩, ⟨20, 67, Unit, fun _ => { val := v4 }⟩, ⟨21, 68, Unit, fun _ => { val := (int .i64 (IntKind.i64.wrap (((IntKind.i64.wrap (l5i4 - (1 : Int)))).tdiv (2 : Int)))) }⟩, ⟨22, 69, {p : Value // EltOf v4 p (((IntKind.i64.wrap (((IntKind.i64.wrap (l5i4 - (1 : Int)))).tdiv (2 : Int)))).toNat * Ty.size tyS_huff_tree)}, fun p => { val := p.1 }⟩, ⟨23, 70, Value, fun (i : Value) => { val := (ag [(int .i64 u30.weight), (int .i64 u30.least), i]), fz := [(fDat (tyList (tyInt .i64)) [i] u30.symbols), (fDat tyS_huff_tree [(int .i64 u30.weight), (int .i64 u30.least), i] u30)] }⟩, ⟨24, 71, {p : Value // EltOf v4 p (((IntKind.i64.wrap (((IntKind.i64.wrap (l5i4 - (1 : Int)))).tdiv (2 : Int)))).toNat * Ty.size tyS_huff_tree)}, fun p => { val := p.1 }⟩] (tab [(0, (ptr bx0 0)), (4, (int .i64 l5i4)), (5, (int .i64 (IntKind.i64.wrap (((IntKind.i64.wrap (l5i4 - (1 : Int)))).tdiv (2 : Int)))))]) mixed (fun a hs => hs.tab _ (allT_mem ⟨rfl, rfl, rfl, trivial⟩)) ?_
   refine ta_show (m := (memOf w0 Z0 [(oBox bx0 143 [v0_0, (Value.func (.func 88) #[] #[])]), (oRow v0_0 138 tyS_huff_tree a0.items)] [(oRow v4 138 tyS_huff_tree l5x0_0), (oBox bx0 143 [v4, (Value.func (.func 88) #[] #[])])] [(fDat tyS_huff_tree [(int .i64 u15.weight), (int .i64 u15.least), s19] u15), (fDat tyS_huff_tree [(int .i64 u9.weight), (int .i64 u9.least), s13] u9), (fDat (tyList (tyInt .i64)) [v1_2] a1.symbols)])) (S := (tab [(0, (ptr bx0 0)), (4, (int .i64 l5i4)), (5, (int .i64 (IntKind.i64.wrap (((IntKind.i64.wrap (l5i4 - (1 : Int)))).tdiv (2 : Int)))))])) ?_
   refine ta_step 25 _ [0, 1, 2, 3, 4, 5, 6, 7, 8, 9, 10, 11, 12, 13, 14, 15, 16, 17, 18, 19, 20, 21, 22, 23, 24] [47, 48, 49, 50, 51, 52, 53, 54, 55, 56, 57, 58, 59, 60, 61, 62, 63, 64, 65, 66, 67, 68, 69, 70, 71] [0, 1, 2, 3, 4, 5, 6, 7, 8, 10, 11, 12, 13, 14, 15, 16, 17, 18, 19, 20, 21, 22, 23, 24] [26] [⟨0, 47, Unit, fun _ => { val := (ptr bx0 0) }⟩, ⟨1, 48, Unit, fun _ => { val := (ptr bx0 0) }⟩, ⟨2, 49, Unit, fun _ => { val := (ptr bx0 0) }⟩, ⟨3, 50, Unit, fun _ => { val := v4 }⟩, ⟨4, 51, Unit, fun _ => { val := (int .i64 (IntKind.i64.wrap (((IntKind.i64.wrap (l5i4 - (1 : Int)))).tdiv (2 : Int)))) }⟩, ⟨5, 52, Unit, fun _ => { val := (ptr bx0 0) }⟩, ⟨6, 53, Unit, fun _ => { val := (ptr bx0 0) }⟩, ⟨7, 54, Unit, fun _ => { val := (ptr bx0 0) }⟩, ⟨8, 55, Unit, fun _ => { val := v4 }⟩, ⟨10, 57, Unit, fun _ => { val := (ptr bx0 0) }⟩, ⟨11, 58, Unit, fun _ => { val := (ptr bx0 0) }⟩, ⟨12, 59, Unit, fun _ => { val := (ptr bx0 0) }⟩, ⟨13, 60, Unit, fun _ => { val := v4 }⟩, ⟨14, 61, Unit, fun _ => { val := (int .i64 l5i4) }⟩, ⟨15, 62, {p : Value // EltOf v4 p ((l5i4).toNat * Ty.size tyS_huff_tree)}, fun p => { val := p.1 }⟩, ⟨16, 63, Value, fun (i : Value) => { val := (ag [(int .i64 u24.weight), (int .i64 u24.least), i]), fz := [(fDat (tyList (tyInt .i64)) [i] u24.symbols), (fDat tyS_huff_tree [(int .i64 u24.weight), (int .i64 u24.least), i] u24)] }⟩, ⟨17, 64, Unit, fun _ => { val := (ptr bx0 0) }⟩, ⟨18, 65, Unit, fun _ => { val := (ptr bx0 0) }⟩, ⟨19, 66, Unit, fun _ => { val := (ptr bx0 0) }⟩, ⟨20, 67, Unit, fun _ => { val := v4 }⟩, ⟨21, 68, Unit, fun _ => { val := (int .i64 (IntKind.i64.wrap (((IntKind.i64.wrap (l5i4 - (1 : Int)))).tdiv (2 : Int)))) }⟩, ⟨22, 69, {p : Value // EltOf v4 p (((IntKind.i64.wrap (((IntKind.i64.wrap (l5i4 - (1 : Int)))).tdiv (2 : Int)))).toNat * Ty.size tyS_huff_tree)}, fun p => { val := p.1 }⟩, ⟨23, 70, Value, fun (i : Value) => { val := (ag [(int .i64 u30.weight), (int .i64 u30.least), i]), fz := [(fDat (tyList (tyInt .i64)) [i] u30.symbols), (fDat tyS_huff_tree [(int .i64 u30.weight), (int .i64 u30.least), i] u30)] }⟩, ⟨24, 71, {p : Value // EltOf v4 p (((IntKind.i64.wrap (((IntKind.i64.wrap (l5i4 - (1 : Int)))).tdiv (2 : Int)))).toNat * Ty.size tyS_huff_tree)}, fun p => { val := p.1 }⟩] [⟨9, 56, Unit, fun _ => { val := (int .i64 l5i4) }⟩] rfl rfl rfl (by kernel_rfl) rfl rfl rfl ⟨⟨_, rfl, [], rfl, by
 intro X_ Y_ F_ K_ hK_
 refine al_show (m := Mem.plus (memOf w0 Z0 [(oBox bx0 143 [v0_0, (Value.func (.func 88) #[] #[])]), (oRow v0_0 138 tyS_huff_tree a0.items)] [(oRow v4 138 tyS_huff_tree l5x0_0), (oBox bx0 143 [v4, (Value.func (.func 88) #[] #[])])] [(fDat tyS_huff_tree [(int .i64 u15.weight), (int .i64 u15.least), s19] u15), (fDat tyS_huff_tree [(int .i64 u9.weight), (int .i64 u9.least), s13] u9), (fDat (tyList (tyInt .i64)) [v1_2] a1.symbols)]) X_ Y_) (S := over (tab [(0, (ptr bx0 0)), (4, (int .i64 l5i4)), (5, (int .i64 (IntKind.i64.wrap (((IntKind.i64.wrap (l5i4 - (1 : Int)))).tdiv (2 : Int)))))]) F_) ?_
 refine al_mv rfl rfl ?_
 refine al_nil ?_
 exact fr_fin hK_ ()⟩, ⟨_, rfl, [0], rfl, by
 intro _
 intro X_ Y_ F_ K_ hK_
 refine al_show (m := Mem.plus (memOf w0 Z0 [(oBox bx0 143 [v0_0, (Value.func (.func 88) #[] #[])]), (oRow v0_0 138 tyS_huff_tree a0.items)] [(oRow v4 138 tyS_huff_tree l5x0_0), (oBox bx0 143 [v4, (Value.func (.func 88) #[] #[])])] [(fDat tyS_huff_tree [(int .i64 u15.weight), (int .i64 u15.least), s19] u15), (fDat tyS_huff_tree [(int .i64 u9.weight), (int .i64 u9.least), s13] u9), (fDat (tyList (tyInt .i64)) [v1_2] a1.symbols)]) X_ Y_) (S := over (put (tab [(0, (ptr bx0 0)), (4, (int .i64 l5i4)), (5, (int .i64 (IntKind.i64.wrap (((IntKind.i64.wrap (l5i4 - (1 : Int)))).tdiv (2 : Int)))))]) 47 (ptr bx0 0)) F_) ?_
 refine al_val (ov_nilCheck rfl rfl) ?_
 refine al_nil ?_
 exact fr_fin hK_ ()⟩, ⟨_, rfl, [1], rfl, by
 intro _
 intro X_ Y_ F_ K_ hK_
 refine al_show (m := Mem.plus (memOf w0 Z0 [(oBox bx0 143 [v0_0, (Value.func (.func 88) #[] #[])]), (oRow v0_0 138 tyS_huff_tree a0.items)] [(oRow v4 138 tyS_huff_tree l5x0_0), (oBox bx0 143 [v4, (Value.func (.func 88) #[] #[])])] [(fDat tyS_huff_tree [(int .i64 u15.weight), (int .i64 u15.least), s19] u15), (fDat tyS_huff_tree [(int .i64 u9.weight), (int .i64 u9.least), s13] u9), (fDat (tyList (tyInt .i64)) [v1_2] a1.symbols)]) X_ Y_) (S := over (put (tab [(0, (ptr bx0 0)), (4, (int .i64 l5i4)), (5, (int .i64 (IntKind.i64.wrap (((IntKind.i64.wrap (l5i4 - (1 : Int)))).tdiv (2 : Int)))))]) 48 (ptr bx0 0)) F_) ?_
 refine al_val (ov_fieldA (p := 0) rfl Tryd.underlying143 rfl sz141 rfl rfl rfl) ?_
 refine al_nil ?_
 exact fr_fin hK_ ()⟩, ⟨_, rfl, [2], rfl, by
 intro _
 intro X_ Y_ F_ K_ hK_
 refine al_show (m := Mem.plus (memOf w0 Z0 [(oBox bx0 143 [v0_0, (Value.func (.func 88) #[] #[])]), (oRow v0_0 138 tyS_huff_tree a0.items)] [(oRow v4 138 tyS_huff_tree l5x0_0), (oBox bx0 143 [v4, (Value.func (.func 88) #[] #[])])] [(fDat tyS_huff_tree [(int .i64 u15.weight), (int .i64 u15.least), s19] u15), (fDat tyS_huff_tree [(int .i64 u9.weight), (int .i64 u9.least), s13] u9), (fDat (tyList (tyInt .i64)) [v1_2] a1.symbols)]) X_ Y_) (S := over (put (tab [(0, (ptr bx0 0)), (4, (int .i64 l5i4)), (5, (int .i64 (IntKind.i64.wrap (((IntKind.i64.wrap (l5i4 - (1 : Int)))).tdiv (2 : Int)))))]) 49 (ptr bx0 0)) F_) ?_
 refine al_val (ov_load (i := 1) (v := v4) rfl rfl Tryd.underlying141 sz141 rfl rfl rfl rfl) ?_
 refine al_nil ?_
 exact fr_fin hK_ ()⟩, ⟨_, rfl, [], rfl, by
 intro X_ Y_ F_ K_ hK_
 refine al_show (m := Mem.plus (memOf w0 Z0 [(oBox bx0 143 [v0_0, (Value.func (.func 88) #[] #[])]), (oRow v0_0 138 tyS_huff_tree a0.items)] [(oRow v4 138 tyS_huff_tree l5x0_0), (oBox bx0 143 [v4, (Value.func (.func 88) #[] #[])])] [(fDat tyS_huff_tree [(int .i64 u15.weight), (int .i64 u15.least), s19] u15), (fDat tyS_huff_tree [(int .i64 u9.weight), (int .i64 u9.least), s13] u9), (fDat (tyList (tyInt .i64)) [v1_2] a1.symbols)]) X_ Y_) (S := over (tab [(0, (ptr bx0 0)), (4, (int .i64 l5i4)), (5, (int .i64 (IntKind.i64.wrap (((IntKind.i64.wrap (l5i4 - (1 : Int)))).tdiv (2 : Int)))))]) F_) ?_
 refine al_mv rfl rfl ?_
 refine al_nil ?_
 exact fr_fin hK_ ()⟩, ⟨_, rfl, [], rfl, by
 intro X_ Y_ F_ K_ hK_
 refine al_show (m := Mem.plus (memOf w0 Z0 [(oBox bx0 143 [v0_0, (Value.func (.func 88) #[] #[])]), (oRow v0_0 138 tyS_huff_tree a0.items)] [(oRow v4 138 tyS_huff_tree l5x0_0), (oBox bx0 143 [v4, (Value.func (.func 88) #[] #[])])] [(fDat tyS_huff_tree [(int .i64 u15.weight), (int .i64 u15.least), s19] u15), (fDat tyS_huff_tree [(int .i64 u9.weight), (int .i64 u9.least), s13] u9), (fDat (tyList (tyInt .i64)) [v1_2] a1.symbols)]) X_ Y_) (S := over (tab [(0, (ptr bx0 0)), (4, (int .i64 l5i4)), (5, (int .i64 (IntKind.i64.wrap (((IntKind.i64.wrap (l5i4 - (1 : Int)))).tdiv (2 : Int)))))]) F_) ?_
 refine al_mv rfl rfl ?_
 refine al_nil ?_
 exact fr_fin hK_ ()⟩, ⟨_, rfl, [5], rfl, by
 intro _
 intro X_ Y_ F_ K_ hK_
 refine al_show (m := Mem.plus (memOf w0 Z0 [(oBox bx0 143 [v0_0, (Value.func (.func 88) #[] #[])]), (oRow v0_0 138 tyS_huff_tree a0.items)] [(oRow v4 138 tyS_huff_tree l5x0_0), (oBox bx0 143 [v4, (Value.func (.func 88) #[] #[])])] [(fDat tyS_huff_tree [(int .i64 u15.weight), (int .i64 u15.least), s19] u15), (fDat tyS_huff_tree [(int .i64 u9.weight), (int .i64 u9.least), s13] u9), (fDat (tyList (tyInt .i64)) [v1_2] a1.symbols)]) X_ Y_) (S := over (put (tab [(0, (ptr bx0 0)), (4, (int .i64 l5i4)), (5, (int .i64 (IntKind.i64.wrap (((IntKind.i64.wrap (l5i4 - (1 : Int)))).tdiv (2 : Int)))))]) 52 (ptr bx0 0)) F_) ?_
 refine al_val (ov_nilCheck rfl rfl) ?_
 refine al_nil ?_
 exact fr_fin hK_ ()⟩, ⟨_, rfl, [6], rfl, by
 intro _
 intro X_ Y_ F_ K_ hK_
 refine al_show (m := Mem.plus (memOf w0 Z0 [(oBox bx0 143 [v0_0, (Value.func (.func 88) #[] #[])]), (oRow v0_0 138 tyS_huff_tree a0.items)] [(oRow v4 138 tyS_huff_tree l5x0_0), (oBox bx0 143 [v4, (Value.func (.func 88) #[] #[])])] [(fDat tyS_huff_tree [(int .i64 u15.weight), (int .i64 u15.least), s19] u15), (fDat tyS_huff_tree [(int .i64 u9.weight), (int .i64 u9.least), s13] u9), (fDat (tyList (tyInt .i64)) [v1_2] a1.symbols)]) X_ Y_) (S := over (put (tab [(0, (ptr bx0 0)), (4, (int .i64 l5i4)), (5, (int .i64 (IntKind.i64.wrap (((IntKind.i64.wrap (l5i4 - (1 : Int)))).tdiv (2 : Int)))))]) 53 (ptr bx0 0)) F_) ?_
 refine al_val (ov_fieldA (p := 0) rfl Tryd.underlying143 rfl sz141 rfl rfl rfl) ?_
 refine al_nil ?_
 exact fr_fin hK_ ()⟩, ⟨_, rfl, [7], rfl, by
 intro _
 intro X_ Y_ F_ K_ hK_
 refine al_show (m := Mem.plus (memOf w0 Z0 [(oBox bx0 143 [v0_0, (Value.func (.func 88) #[] #[])]), (oRow v0_0 138 tyS_huff_tree a0.items)] [(oRow v4 138 tyS_huff_tree l5x0_0), (oBox bx0 143 [v4, (Value.func (.func 88) #[] #[])])] [(fDat tyS_huff_tree [(int .i64 u15.weight), (int .i64 u15.least), s19] u15), (fDat tyS_huff_tree [(int .i64 u9.weight), (int .i64 u9.least), s13] u9), (fDat (tyList (tyInt .i64)) [v1_2] a1.symbols)]) X_ Y_) (S := over (put (tab [(0, (ptr bx0 0)), (4, (int .i64 l5i4)), (5, (int .i64 (IntKind.i64.wrap (((IntKind.i64.wrap (l5i4 - (1 : Int)))).tdiv (2 : Int)))))]) 54 (ptr bx0 0)) F_) ?_
 refine al_val (ov_load (i := 1) (v := v4) rfl rfl Tryd.underlying141 sz141 rfl rfl rfl rfl) ?_
 refine al_nil ?_
 exact fr_fin hK_ ()⟩, ⟨_, rfl, [], rfl, by
 intro X_ Y_ F_ K_ hK_
 refine al_show (m := Mem.plus (memOf w0 Z0 [(oBox bx0 143 [v0_0, (Value.func (.func 88) #[] #[])]), (oRow v0_0 138 tyS_huff_tree a0.items)] [(oRow v4 138 tyS_huff_tree l5x0_0), (oBox bx0 143 [v4, (Value.func (.func 88) #[] #[])])] [(fDat tyS_huff_tree [(int .i64 u15.weight), (int .i64 u15.least), s19] u15), (fDat tyS_huff_tree [(int .i64 u9.weight), (int .i64 u9.least), s13] u9), (fDat (tyList (tyInt .i64)) [v1_2] a1.symbols)]) X_ Y_) (S := over (tab [(0, (ptr bx0 0)), (4, (int .i64 l5i4)), (5, (int .i64 (IntKind.i64.wrap (((IntKind.i64.wrap (l5i4 - (1 : Int)))).tdiv (2 : Int)))))]) F_) ?_
 refine al_mv rfl rfl ?_
 refine al_nil ?_
 exact fr_fin hK_ ()⟩, ⟨_, rfl, [], rfl, by
 intro X_ Y_ F_ K_ hK_
 refine al_show (m := Mem.plus (memOf w0 Z0 [(oBox bx0 143 [v0_0, (Value.func (.func 88) #[] #[])]), (oRow v0_0 138 tyS_huff_tree a0.items)] [(oRow v4 138 tyS_huff_tree l5x0_0), (oBox bx0 143 [v4, (Value.func (.func 88) #[] #[])])] [(fDat tyS_huff_tree [(int .i64 u15.weight), (int .i64 u15.least), s19] u15), (fDat tyS_huff_tree [(int .i64 u9.weight), (int .i64 u9.least), s13] u9), (fDat (tyList (tyInt .i64)) [v1_2] a1.symbols)]) X_ Y_) (S := over (tab [(0, (ptr bx0 0)), (4, (int .i64 l5i4)), (5, (int .i64 (IntKind.i64.wrap (((IntKind.i64.wrap (l5i4 - (1 : Int)))).tdiv (2 : Int)))))]) F_) ?_
 refine al_mv rfl rfl ?_
 refine al_nil ?_
 exact fr_fin hK_ ()⟩, ⟨_, rfl, [10], rfl, by
 intro _
 intro X_ Y_ F_ K_ hK_
 refine al_show (m := Mem.plus (memOf w0 Z0 [(oBox bx0 143 [v0_0, (Value.func (.func 88) #[] #[])]), (oRow v0_0 138 tyS_huff_tree a0.items)] [(oRow v4 138 tyS_huff_tree l5x0_0), (oBox bx0 143 [v4, (Value.func (.func 88) #[] #[])])] [(fDat tyS_huff_tree [(int .i64 u15.weight), (int .i64 u15.least), s19] u15), (fDat tyS_huff_tree [(int .i64 u9.weight), (int .i64 u9.least), s13] u9), (fDat (tyList (tyInt .i64)) [v1_2] a1.symbols)]) X_ Y_) (S := over (put (tab [(0, (ptr bx0 0)), (4, (int .i64 l5i4)), (5, (int .i64 (IntKind.i64.wrap (((IntKind.i64.wrap (l5i4 - (1 : Int)))).tdiv (2 : Int)))))]) 57 (ptr bx0 0)) F_) ?_
 refine al_val (ov_nilCheck rfl rfl) ?_
 refine al_nil ?_
 exact fr_fin hK_ ()⟩, ⟨_, rfl, [11], rfl, by
 intro _
 intro X_ Y_ F_ K_ hK_
 refine al_show (m := Mem.plus (memOf w0 Z0 [(oBox bx0 143 [v0_0, (Value.func (.func 88) #[] #[])]), (oRow v0_0 138 tyS_huff_tree a0.items)] [(oRow v4 138 tyS_huff_tree l5x0_0), (oBox bx0 143 [v4, (Value.func (.func 88) #[] #[])])] [(fDat tyS_huff_tree [(int .i64 u15.weight), (int .i64 u15.least), s19] u15), (fDat tyS_huff_tree [(int .i64 u9.weight), (int .i64 u9.least), s13] u9), (fDat (tyList (tyInt .i64)) [v1_2] a1.symbols)]) X_ Y_) (S := over (put (tab [(0, (ptr bx0 0)), (4, (int .i64 l5i4)), (5, (int .i64 (IntKind.i64.wrap (((IntKind.i64.wrap (l5i4 - (1 : Int)))).tdiv (2 : Int)))))]) 58 (ptr bx0 0)) F_) ?_
 refine al_val (ov_fieldA (p := 0) rfl Tryd.underlying143 rfl sz141 rfl rfl rfl) ?_
 refine al_nil ?_
 exact fr_fin hK_ ()⟩, ⟨_, rfl, [12], rfl, by
 intro _
 intro X_ Y_ F_ K_ hK_
 refine al_show (m := Mem.plus (memOf w0 Z0 [(oBox bx0 143 [v0_0, (Value.func (.func 88) #[] #[])]), (oRow v0_0 138 tyS_huff_tree a0.items)] [(oRow v4 138 tyS_huff_tree l5x0_0), (oBox bx0 143 [v4, (Value.func (.func 88) #[] #[])])] [(fDat tyS_huff_tree [(int .i64 u15.weight), (int .i64 u15.least), s19] u15), (fDat tyS_huff_tree [(int .i64 u9.weight), (int .i64 u9.least), s13] u9), (fDat (tyList (tyInt .i64)) [v1_2] a1.symbols)]) X_ Y_) (S := over (put (tab [(0, (ptr bx0 0)), (4, (int .i64 l5i4)), (5, (int .i64 (IntKind.i64.wrap (((IntKind.i64.wrap (l5i4 - (1 : Int)))).tdiv (2 : Int)))))]) 59 (ptr bx0 0)) F_) ?_
 refine al_val (ov_load (i := 1) (v := v4) rfl rfl Tryd.underlying141 sz141 rfl rfl rfl rfl) ?_
 refine al_nil ?_
 exact fr_fin hK_ ()⟩, ⟨_, rfl, [], rfl, by
 intro X_ Y_ F_ K_ hK_
 refine al_show (m := Mem.plus (memOf w0 Z0 [(oBox bx0 143 [v0_0, (Value.func (.func 88) #[] #[])]), (oRow v0_0 138 tyS_huff_tree a0.items)] [(oRow v4 138 tyS_huff_tree l5x0_0), (oBox bx0 143 [v4, (Value.func (.func 88) #[] #[])])] [(fDat tyS_huff_tree [(int .i64 u15.weight), (int .i64 u15.least), s19] u15), (fDat tyS_huff_tree [(int .i64 u9.weight), (int .i64 u9.least), s13] u9), (fDat (tyList (tyInt .i64)) [v1_2] a1.symbols)]) X_ Y_) (S := over (tab [(0, (ptr bx0 0)), (4, (int .i64 l5i4)), (5, (int .i64 (IntKind.i64.wrap (((IntKind.i64.wrap (l5i4 - (1 : Int)))).tdiv (2 : Int)))))]) F_) ?_
 refine al_mv rfl rfl ?_
 refine al_nil ?_
 exact fr_fin hK_ ()⟩, ⟨_, rfl, [13, 14], rfl, by
 intro _
 intro _
 intro X_ Y_ F_ K_ hK_
 refine al_show (m := Mem.plus (memOf w0 Z0 [(oBox bx0 143 [v0_0, (Value.func (.func 88) #[] #[])]), (oRow v0_0 138 tyS_huff_tree a0.items)] [(oRow v4 138 tyS_huff_tree l5x0_0), (oBox bx0 143 [v4, (Value.func (.func 88) #[] #[])])] [(fDat tyS_huff_tree [(int .i64 u15.weight), (int .i64 u15.least), s19] u15), (fDat tyS_huff_tree [(int .i64 u9.weight), (int .i64 u9.least), s13] u9), (fDat (tyList (tyInt .i64)) [v1_2] a1.symbols)]) X_ Y_) (S := over (put (put (tab [(0, (ptr bx0 0)), (4, (int .i64 l5i4)), (5, (int .i64 (IntKind.i64.wrap (((IntKind.i64.wrap (l5i4 - (1 : Int)))).tdiv (2 : Int)))))]) 60 v4) 61 (int .i64 l5i4)) F_) ?_
 refine al_idxR 0 (at_some hu25).1 (at_some hu25).2.1 rfl rfl rfl Tryd.underlying141 sz138 rfl (fun p26 hp27 => ?_)
 refine al_nil ?_
 exact fr_fin hK_ ⟨p26, hp27⟩⟩, ⟨_, rfl, [15], rfl, by
 rintro ⟨p26, hp27⟩
 intro X_ Y_ F_ K_ hK_
 refine al_show (m := Mem.plus (memOf w0 Z0 [(oBox bx0 143 [v0_0, (Value.func (.func 88) #[] #[])]), (oRow v0_0 138 tyS_huff_tree a0.items)] [(oRow v4 138 tyS_huff_tree l5x0_0), (oBox bx0 143 [v4, (Value.func (.func 88) #[] #[])])] [(fDat tyS_huff_tree [(int .i64 u15.weight), (int .i64 u15.least), s19] u15), (fDat tyS_huff_tree [(int .i64 u9.weight), (int .i64 u9.least), s13] u9), (fDat (tyList (tyInt .i64)) [v1_2] a1.symbols)]) X_ Y_) (S := over (put (tab [(0, (ptr bx0 0)), (4, (int .i64 l5i4)), (5, (int .i64 (IntKind.i64.wrap (((IntKind.i64.wrap (l5i4 - (1 : Int)))).tdiv (2 : Int)))))]) 62 p26) F_) ?_
 refine al_loadRA 0 rfl hp27 (at_some hu25).2.2 rfl Tryd.underlying138 sz138 rfl rfl (fun cs29 => ?_)
 refine al_use (ι := Value) 0 rfl (fun j => cs29 = [(int .i64 u24.weight), (int .i64 u24.least), j]) (fun j => [(fDat (tyList (tyInt .i64)) [j] u24.symbols)]) encnS_huff_tree (fun s28 hq => ?_)
 subst hq
 refine al_nil ?_
 exact fr_fin hK_ s28⟩, ⟨_, rfl, [], rfl, by
 intro X_ Y_ F_ K_ hK_
 refine al_show (m := Mem.plus (memOf w0 Z0 [(oBox bx0 143 [v0_0, (Value.func (.func 88) #[] #[])]), (oRow v0_0 138 tyS_huff_tree a0.items)] [(oRow v4 138 tyS_huff_tree l5x0_0), (oBox bx0 143 [v4, (Value.func (.func 88) #[] #[])])] [(fDat tyS_huff_tree [(int .i64 u15.weight), (int .i64 u15.least), s19] u15), (fDat tyS_huff_tree [(int .i64 u9.weight), (int .i64 u9.least), s13] u9), (fDat (tyList (tyInt .i64)) [v1_2] a1.symbols)]) X_ Y_) (S := over (tab [(0, (ptr bx0 0)), (4, (int .i64 l5i4)), (5, (int .i64 (IntKind.i64.wrap (((IntKind.i64.wrap (l5i4 - (1 : Int)))).tdiv (2 : Int)))))]) F_) ?_
 refine al_mv rfl rfl ?_
 refine al_nil ?_
 exact fr_fin hK_ ()⟩, ⟨_, rfl, [17], rfl, by
 intro _
 intro X_ Y_ F_ K_ hK_
 refine al_show (m := Mem.plus (memOf w0 Z0 [(oBox bx0 143 [v0_0, (Value.func (.func 88) #[] #[])]), (oRow v0_0 138 tyS_huff_tree a0.items)] [(oRow v4 138 tyS_huff_tree l5x0_0), (oBox bx0 143 [v4, (Value.func (.func 88) #[] #[])])] [(fDat tyS_huff_tree [(int .i64 u15.weight), (int .i64 u15.least), s19] u15), (fDat tyS_huff_tree [(int .i64 u9.weight), (int .i64 u9.least), s13] u9), (fDat (tyList (tyInt .i64)) [v1_2] a1.symbols)]) X_ Y_) (S := over (put (tab [(0, (ptr bx0 0)), (4, (int .i64 l5i4)), (5, (int .i64 (IntKind.i64.wrap (((IntKind.i64.wrap (l5i4 - (1 : Int)))).tdiv (2 : Int)))))]) 64 (ptr bx0 0)) F_) ?_
 refine al_val (ov_nilCheck rfl rfl) ?_
 refine al_nil ?_
 exact fr_fin hK_ ()⟩, ⟨_, rfl, [18], rfl, by
 intro _
 intro X_ Y_ F_ K_ hK_
 refine al_show (m := Mem.plus (memOf w0 Z0 [(oBox bx0 143 [v0_0, (Value.func (.func 88) #[] #[])]), (oRow v0_0 138 tyS_huff_tree a0.items)] [(oRow v4 138 tyS_huff_tree l5x0_0), (oBox bx0 143 [v4, (Value.func (.func 88) #[] #[])])] [(fDat tyS_huff_tree [(int .i64 u15.weight), (int .i64 u15.least), s19] u15), (fDat tyS_huff_tree [(int .i64 u9.weight), (int .i64 u9.least), s13] u9), (fDat (tyList (tyInt .i64)) [v1_2] a1.symbols)]) X_ Y_) (S := over (put (tab [(0, (ptr bx0 0)), (4, (int .i64 l5i4)), (5, (int .i64 (IntKind.i64.wrap (((IntKind.i64.wrap (l5i4 - (1 : Int)))).tdiv (2 : Int)))))]) 65 (ptr bx0 0)) F_) ?_
 refine al_val (ov_fieldA (p := 0) rfl Tryd.underlying143 rfl sz141 rfl rfl rfl) ?_
 refine al_nil ?_
 exact fr_fin hK_ ()⟩, ⟨_, rfl, [19], rfl, by
 intro _
 intro X_ Y_ F_ K_ hK_
 refine al_show (m := Mem.plus (memOf w0 Z0 [(oBox bx0 143 [v0_0, (Value.func (.func 88) #[] #[])]), (oRow v0_0 138 tyS_huff_tree a0.items)] [(oRow v4 138 tyS_huff_tree l5x0_0), (oBox bx0 143 [v4, (Value.func (.func 88) #[] #[])])] [(fDat tyS_huff_tree [(int .i64 u15.weight), (int .i64 u15.least), s19] u15), (fDat tyS_huff_tree [(int .i64 u9.weight), (int .i64 u9.least), s13] u9), (fDat (tyList (tyInt .i64)) [v1_2] a1.symbols)]) X_ Y_) (S := over (put (tab [(0, (ptr bx0 0)), (4, (int .i64 l5i4)), (5, (int .i64 (IntKind.i64.wrap (((IntKind.i64.wrap (l5i4 - (1 : Int)))).tdiv (2 : Int)))))]) 66 (ptr bx0 0)) F_) ?_
 refine al_val (ov_load (i := 1) (v := v4) rfl rfl Tryd.underlying141 sz141 rfl rfl rfl rfl) ?_
 refine al_nil ?_
 exact fr_fin hK_ ()⟩, ⟨_, rfl, [], rfl, by
 intro X_ Y_ F_ K_ hK_
 refine al_show (m := Mem.plus (memOf w0 Z0 [(oBox bx0 143 [v0_0, (Value.func (.func 88) #[] #[])]), (oRow v0_0 138 tyS_huff_tree a0.items)] [(oRow v4 138 tyS_huff_tree l5x0_0), (oBox bx0 143 [v4, (Value.func (.func 88) #[] #[])])] [(fDat tyS_huff_tree [(int .i64 u15.weight), (int .i64 u15.least), s19] u15), (fDat tyS_huff_tree [(int .i64 u9.weight), (int .i64 u9.least), s13] u9), (fDat (tyList (tyInt .i64)) [v1_2] a1.symbols)]) X_ Y_) (S := over (tab [(0, (ptr bx0 0)), (4, (int .i64 l5i4)), (5, (int .i64 (IntKind.i64.wrap (((IntKind.i64.wrap (l5i4 - (1 : Int)))).tdiv (2 : Int)))))]) F_) ?_
 refine al_mv rfl rfl ?_
 refine al_nil ?_
 exact fr_fin hK_ ()⟩, ⟨_, rfl, [20, 21], rfl, by
 intro _
 intro _
 intro X_ Y_ F_ K_ hK_
 refine al_show (m := Mem.plus (memOf w0 Z0 [(oBox bx0 143 [v0_0, (Value.func (.func 88) #[] #[])]), (oRow v0_0 138 tyS_huff_tree a0.items)] [(oRow v4 138 tyS_huff_tree l5x0_0), (oBox bx0 143 [v4, (Value.func (.func 88) #[] #[])])] [(fDat tyS_huff_tree [(int .i64 u15.weight), (int .i64 u15.least), s19] u15), (fDat tyS_huff_tree [(int .i64 u9.weight), (int .i64 u9.least), s13] u9), (fDat (tyList (tyInt .i64)) [v1_2] a1.symbols)]) X_ Y_) (S := over (put (put (tab [(0, (ptr bx0 0)), (4, (int .i64 l5i4)), (5, (int .i64 (IntKind.i64.wrap (((IntKind.i64.wrap (l5i4 - (1 : Int)))).tdiv (2 : Int)))))]) 67 v4) 68 (int .i64 (IntKind.i64.wrap (((IntKind.i64.wrap (l5i4 - (1 : Int)))).tdiv (2 : Int))))) F_) ?_
 refine al_idxR 0 (at_some hu31).1 (at_some hu31).2.1 rfl rfl rfl Tryd.underlying141 sz138 rfl (fun p32 hp33 => ?_)
 refine al_nil ?_
 exact fr_fin hK_ ⟨p32, hp33⟩⟩, ⟨_, rfl, [22], rfl, by
 rintro ⟨p32, hp33⟩
 intro X_ Y_ F_ K_ hK_
 refine al_show (m := Mem.plus (memOf w0 Z0 [(oBox bx0 143 [v0_0, (Value.func (.func 88) #[] #[])]), (oRow v0_0 138 tyS_huff_tree a0.items)] [(oRow v4 138 tyS_huff_tree l5x0_0), (oBox bx0 143 [v4, (Value.func (.func 88) #[] #[])])] [(fDat tyS_huff_tree [(int .i64 u15.weight), (int .i64 u15.least), s19] u15), (fDat tyS_huff_tree [(int .i64 u9.weight), (int .i64 u9.least), s13] u9), (fDat (tyList (tyInt .i64)) [v1_2] a1.symbols)]) X_ Y_) (S := over (put (tab [(0, (ptr bx0 0)), (4, (int .i64 l5i4)), (5, (int .i64 (IntKind.i64.wrap (((IntKind.i64.wrap (l5i4 - (1 : Int)))).tdiv (2 : Int)))))]) 69 p32) F_) ?_
 refine al_loadRA 0 rfl hp33 (at_some hu31).2.2 rfl Tryd.underlying138 sz138 rfl rfl (fun cs35 => ?_)
 refine al_use (ι := Value) 0 rfl (fun j => cs35 = [(int .i64 u30.weight), (int .i64 u30.least), j]) (fun j => [(fDat (tyList (tyInt .i64)) [j] u30.symbols)]) encnS_huff_tree (fun s34 hq => ?_)
 subst hq
 refine al_nil ?_
 exact fr_fin hK_ s34⟩, ⟨_, rfl, [0, 1, 2, 3, 4, 8, 10, 11, 12, 13, 14, 15, 16, 20, 23], rfl, by
 intro _
 intro _
 intro _
 intro _
 intro _
 intro _
 intro _
 intro _
 intro _
 intro _
 intro _
 rintro ⟨p26, hp27⟩
 intro s28
 intro _
 intro s34
 intro X_ Y_ F_ K_ hK_
 refine al_show (m := Mem.plus (memOf w0 Z0 [(oBox bx0 143 [v0_0, (Value.func (.func 88) #[] #[])]), (oRow v0_0 138 tyS_huff_tree a0.items)] [(oRow v4 138 tyS_huff_tree l5x0_0), (oBox bx0 143 [v4, (Value.func (.func 88) #[] #[])])] [(fDat (tyList (tyInt .i64)) [s34] u30.symbols), (fDat tyS_huff_tree [(int .i64 u30.weight), (int .i64 u30.least), s34] u30), (fDat (tyList (tyInt .i64)) [s28] u24.symbols), (fDat tyS_huff_tree [(int .i64 u24.weight), (int .i64 u24.least), s28] u24), (fDat tyS_huff_tree [(int .i64 u15.weight), (int .i64 u15.least), s19] u15), (fDat tyS_huff_tree [(int .i64 u9.weight), (int .i64 u9.least), s13] u9), (fDat (tyList (tyInt .i64)) [v1_2] a1.symbols)]) X_ Y_) (S := over (put (put (put (put (put (put (put (put (put (put (put (put (put (put (put (tab [(0, (ptr bx0 0)), (4, (int .i64 l5i4)), (5, (int .i64 (IntKind.i64.wrap (((IntKind.i64.wrap (l5i4 - (1 : Int)))).tdiv (2 : Int)))))]) 47 (ptr bx0 0)) 48 (ptr bx0 0)) 49 (ptr bx0 0)) 50 v4) 51 (int .i64 (IntKind.i64.wrap (((IntKind.i64.wrap (l5i4 - (1 : Int)))).tdiv (2 : Int))))) 55 v4) 57 (ptr bx0 0)) 58 (ptr bx0 0)) 59 (ptr bx0 0)) 60 v4) 61 (int .i64 l5i4)) 62 p26) 63 (ag [(int .i64 u24.weight), (int .i64 u24.least), s28])) 67 v4) 70 (ag [(int .i64 u30.weight), (int .i64 u30.least), s34])) F_) ?_
 refine al_idxR 0 (at_some hu37).1 (at_some hu37).2.1 rfl rfl rfl Tryd.underlying141 sz138 rfl (fun p38 hp39 => ?_)
 refine al_nil ?_
 exact fr_fin hK_ ⟨p38, hp39⟩⟩, trivial⟩ ?_
   intro _
   intro _
   intro _
   intro _
   intro _
   intro _
   intro _
   intro _
   intro _
   intro _
   intro _
   intro _
   intro _
   intro _
   rintro ⟨p26, hp27⟩
   intro s28
   intro _
   intro _
   intro _
   intro _
   intro _
   rintro ⟨p32, hp33⟩
   intro s34
   rintro ⟨p38, hp39⟩
   intro X_ Y_ F_ K_ hK_
   refine al_show (m := Mem.plus (memOf w0 Z0 [(oBox bx0 143 [v0_0, (Value.func (.func 88) #[] #[])]), (oRow v0_0 138 tyS_huff_tree a0.items)] [(oRow v4 138 tyS_huff_tree l5x0_0), (oBox bx0 143 [v4, (Value.func (.func 88) #[] #[])])] [(fDat (tyList (tyInt .i64)) [s34] u30.symbols), (fDat tyS_huff_tree [(int .i64 u30.weight), (int .i64 u30.least), s34] u30), (fDat (tyList (tyInt .i64)) [s28] u24.symbols), (fDat tyS_huff_tree [(int .i64 u24.weight), (int .i64 u24.least), s28] u24), (fDat tyS_huff_tree [(int .i64 u15.weight), (int .i64 u15.least), s19] u15), (fDat tyS_huff_tree [(int .i64 u9.weight), (int .i64 u9.least), s13] u9), (fDat (tyList (tyInt .i64)) [v1_2] a1.symbols)]) X_ Y_) (S := over (put (put (put (put (put (put (put (put (put (put (put (put (put (put (put (put (put (put (put (put (put (put (put (put (tab [(0, (ptr bx0 0)), (4, (int .i64 l5i4)), (5, (int .i64 (IntKind.i64.wrap (((IntKind.i64.wrap (l5i4 - (1 : Int)))).tdiv (2 : Int)))))]) 47 (ptr bx0 0)) 48 (ptr bx0 0)) 49 (ptr bx0 0)) 50 v4) 51 (int .i64 (IntKind.i64.wrap (((IntKind.i64.wrap (l5i4 - (1 : Int)))).tdiv (2 : Int))))) 52 (ptr bx0 0)) 53 (ptr bx0 0)) 54 (ptr bx0 0)) 55 v4) 57 (ptr bx0 0)) 58 (ptr bx0 0)) 59 (ptr bx0 0)) 60 v4) 61 (int .i64 l5i4)) 62 p26) 63 (ag [(int .i64 u24.weight), (int .i64 u24.least), s28])) 64 (ptr bx0 0)) 65 (ptr bx0 0)) 66 (ptr bx0 0)) 67 v4) 68 (int .i64 (IntKind.i64.wrap (((IntKind.i64.wrap (l5i4 - (1 : Int)))).tdiv (2 : Int))))) 69 p32) 70 (ag [(int .i64 u30.weight), (int .i64 u30.least), s34])) 71 p38) F_) ?_
   refine al_storeR (k := ((IntKind.i64.wrap (((IntKind.i64.wrap (l5i4 - (1 : Int)))).tdiv (2 : Int)))).toNat) (x := u24) (vs := [(int .i64 u24.weight), (int .i64 u24.least), s28]) 0 rfl hp39 (idx_lt hu37) rfl rfl (cv_rfl rfl) (fun hm => mknS_huff_tree rfl (fz_at (i := 2) hm rfl)) sz138 rfl ?_
   refine al_nil ?_
   obtain ⟨u40, hu41, h⟩ := opt_some h
   refine aq_show (m := Mem.plus (memOf w0 Z0 [(oBox bx0 143 [v0_0, (Value.func (.func 88) #[] #[])]), (oRow v0_0 138 tyS_huff_tree a0.items)] [(oRow v4 138 tyS_huff_tree (l5x0_0.set ((IntKind.i64.wrap (((IntKind.i64.wrap (l5i4 - (1 : Int)))).tdiv (2 : Int)))).toNat u24)), (oBox bx0 143 [v4, (Value.func (.func 88) #[] #[])])] [(fDat (tyList (tyInt .i64)) [s34] u30.symbols), (fDat tyS_huff_tree [(int .i64 u30.weight), (int .i64 u30.least), s34] u30), (fDat (tyList (tyInt .i64)) [s28] u24.symbols), (fDat tyS_huff_tree [(int .i64 u24.weight), (int .i64 u24.least), s28] u24), (fDat tyS_huff_tree [(int .i64 u15.weight), (int .i64 u15.least), s19] u15), (fDat tyS_huff_tree [(int .i64 u9.weight), (int .i64 u9.least), s13] u9), (fDat (tyList (tyInt .i64)) [v1_2] a1.symbols)]) X_ Y_) ?_
   refine aq_next hK_ [0, 1] [0, 1, 3, 4, 5, 6] [(0, (ptr bx0 0)), (4, (int .i64 l5i4)), (5, (int .i64 (IntKind.i64.wrap (((IntKind.i64.wrap (l5i4 - (1 : Int)))).tdiv (2 : Int))))), (55, v4), (70, (ag [(int .i64 u30.weight), (int .i64 u30.least), s34]))] [56] [⟨26, 72, {p : Value // EltOf v4 p ((l5i4).toNat * Ty.size tyS_huff_tree)}, fun p => { val := p.1 }⟩] rfl rfl (by decide) rfl ⟨rfl, rfl, rfl, rfl, rfl, trivial⟩ ⟨rfl, trivial⟩ ?_
   clear hK_ K_ F_ X_ Y_
   refine ta_show (m := (memOf w0 Z0 [(oBox bx0 143 [v0_0, (Value.func (.func 88) #[] #[])]), (oRow v0_0 138 tyS_huff_tree a0.items)] [(oRow v4 138 tyS_huff_tree (l5x0_0.set ((IntKind.i64.wrap (((IntKind.i64.wrap (l5i4 - (1 : Int)))).tdiv (2 : Int)))).toNat u24)), (oBox bx0 143 [v4, (Value.func (.func 88) #[] #[])])] [(fDat (tyList (tyInt .i64)) [s34] u30.symbols), (fDat tyS_huff_tree [(int .i64 u30.weight), (int .i64 u30.least), s34] u30), (fDat tyS_huff_tree [(int .i64 u24.weight), (int .i64 u24.least), s28] u24), (fDat tyS_huff_tree [(int .i64 u15.weight), (int .i64 u15.least), s19] u15), (fDat tyS_huff_tree [(int .i64 u9.weight), (int .i64 u9.least), s13] u9), (fDat (tyList (tyInt .i64)) [v1_2] a1.symbols)])) (S := (tab [(0, (ptr bx0 0)), (4, (int .i64 l5i4)), (5, (int .i64 (IntKind.i64.wrap (((IntKind.i64.wrap (l5i4 - (1 : Int)))).tdiv (2 : Int))))), (55, v4), (70, (ag [(int .i64 u30.weight), (int .i64 u30.least), s34]))])) ?_
   refine ta_step 27 _ [9, 26] [56, 72] [9, 26] [] [⟨9, 56, Unit, fun _ => { val := (int .i64 l5i4) }⟩, ⟨26, 72, {p : Value // EltOf v4 p ((l5i4).toNat * Ty.size tyS_huff_tree)}, fun p => { val := p.1 }⟩] [] rfl rfl rfl (by kernel_rfl) rfl rfl rfl ⟨⟨_, rfl, [], rfl, by
 intro X_ Y_ F_ K_ hK_
 refine al_show (m := Mem.plus (memOf w0 Z0 [(oBox bx0 143 [v0_0, (Value.func (.func 88) #[] #[])]), (oRow v0_0 138 tyS_huff_tree a0.items)] [(oRow v4 138 tyS_huff_tree (l5x0_0.set ((IntKind.i64.wrap (((IntKind.i64.wrap (l5i4 - (1 : Int)))).tdiv (2 : Int)))).toNat u24)), (oBox bx0 143 [v4, (Value.func (.func 88) #[] #[])])] [(fDat (tyList (tyInt .i64)) [s34] u30.symbols), (fDat tyS_huff_tree [(int .i64 u30.weight), (int .i64 u30.least), s34] u30), (fDat tyS_huff_tree [(int .i64 u24.weight), (int .i64 u24.least), s28] u24), (fDat tyS_huff_tree [(int .i64 u15.weight), (int .i64 u15.least), s19] u15), (fDat tyS_huff_tree [(int .i64 u9.weight), (int .i64 u9.least), s13] u9), (fDat (tyList (tyInt .i64)) [v1_2] a1.symbols)]) X_ Y_) (S := over (tab [(0, (ptr bx0 0)), (4, (int .i64 l5i4)), (5, (int .i64 (IntKind.i64.wrap (((IntKind.i64.wrap (l5i4 - (1 : Int)))).tdiv (2 : Int))))), (55, v4), (70, (ag [(int .i64 u30.weight), (int .i64 u30.least), s34]))]) F_) ?_
 refine al_mv rfl rfl ?_
 refine al_nil ?_
 exact fr_fin hK_ ()⟩, ⟨_, rfl, [0], rfl, by
 intro _
 intro X_ Y_ F_ K_ hK_
 refine al_show (m := Mem.plus (memOf w0 Z0 [(oBox bx0 143 [v0_0, (Value.func (.func 88) #[] #[])]), (oRow v0_0 138 tyS_huff_tree a0.items)] [(oRow v4 138 tyS_huff_tree (l5x0_0.set ((IntKind.i64.wrap (((IntKind.i64.wrap (l5i4 - (1 : Int)))).tdiv (2 : Int)))).toNat u24)), (oBox bx0 143 [v4, (Value.func (.func 88) #[] #[])])] [(fDat (tyList (tyInt .i64)) [s34] u30.symbols), (fDat tyS_huff_tree [(int .i64 u30.weight), (int .i64 u30.least), s34] u30), (fDat tyS_huff_tree [(int .i64 u24.weight), (int .i64 u24.least), s28] u24), (fDat tyS_huff_tree [(int .i64 u15.weight), (int .i64 u15.least), s19] u15), (fDat tyS_huff_tree [(int .i64 u9.weight), (int .i64 u9.least), s13] u9), (fDat (tyList (tyInt .i64)) [v1_2] a1.symbols)]) X_ Y_) (S := over (put (tab [(0, (ptr bx0 0)), (4, (int .i64 l5i4)), (5, (int .i64 (IntKind.i64.wrap (((IntKind.i64.wrap (l5i4 - (1 : Int)))).tdiv (2 : Int))))), (55, v4), (70, (ag [(int .i64 u30.weight), (int .i64 u30.least), s34]))]) 56 (int .i64 l5i4)) F_) ?_
 refine al_idxR 0 (at_some hu41).1 (at_some hu41).2.1 rfl rfl rfl Tryd.underlying141 sz138 rfl (fun p42 hp43 => ?_)
 refine al_nil ?_
 exact fr_fin hK_ ⟨p42, hp43⟩⟩, trivial⟩ ?_
   intro _
   rintro ⟨p42, hp43⟩
   intro X_ Y_ F_ K_ hK_
   refine al_show (m := Mem.plus (memOf w0 Z0 [(oBox bx0 143 [v0_0, (Value.func (.func 88) #[] #[])]), (oRow v0_0 138 tyS_huff_tree a0.items)] [(oRow v4 138 tyS_huff_tree (l5x0_0.set ((IntKind.i64.wrap (((IntKind.i64.wrap (l5i4 - (1 : Int)))).tdiv (2 : Int)))).toNat u24)), (oBox bx0 143 [v4, (Value.func (.func 88) #[] #[])])] [(fDat (tyList (tyInt .i64)) [s34] u30.symbols), (fDat tyS_huff_tree [(int .i64 u30.weight), (int .i64 u30.least), s34] u30), (fDat tyS_huff_tree [(int .i64 u24.weight), (int .i64 u24.least), s28] u24), (fDat tyS_huff_tree [(int .i64 u15.weight), (int .i64 u15.least), s19] u15), (fDat tyS_huff_tree [(int .i64 u9.weight), (int .i64 u9.least), s13] u9), (fDat (tyList (tyInt .i64)) [v1_2] a1.symbols)]) X_ Y_) (S := over (put (put (tab [(0, (ptr bx0 0)), (4, (int .i64 l5i4)), (5, (int .i64 (IntKind.i64.wrap (((IntKind.i64.wrap (l5i4 - (1 : Int)))).tdiv (2 : Int))))), (55, v4), (70, (ag [(int .i64 u30.weight), (int .i64 u30.least), s34]))]) 56 (int .i64 l5i4)) 72 p42) F_) ?_
   refine al_storeR (k := (l5i4).toNat) (x := u30) (vs := [(int .i64 u30.weight), (int .i64 u30.least), s34]) 0 rfl hp43 (idx_lt hu41) rfl rfl (cv_rfl rfl) (fun hm => mknS_huff_tree rfl (fz_at (i := 0) hm rfl)) sz138 rfl ?_
   refine al_nil ?_
   refine aq_show (m := Mem.plus (memOf w0 Z0 [(oBox bx0 143 [v0_0, (Value.func (.func 88) #[] #[])]), (oRow v0_0 138 tyS_huff_tree a0.items)] [(oRow v4 138 tyS_huff_tree ((l5x0_0.set ((IntKind.i64.wrap (((IntKind.i64.wrap (l5i4 - (1 : Int)))).tdiv (2 : Int)))).toNat u24).set (l5i4).toNat u30)), (oBox bx0 143 [v4, (Value.func (.func 88) #[] #[])])] [(fDat (tyList (tyInt .i64)) [s34] u30.symbols), (fDat tyS_huff_tree [(int .i64 u30.weight), (int .i64 u30.least), s34] u30), (fDat tyS_huff_tree [(int .i64 u24.weight), (int .i64 u24.least), s28] u24), (fDat tyS_huff_tree [(int .i64 u15.weight), (int .i64 u15.least), s19] u15), (fDat tyS_huff_tree [(int .i64 u9.weight), (int .i64 u9.least), s13] u9), (fDat (tyList (tyInt .i64)) [v1_2] a1.symbols)]) X_ Y_) ?_
   refine aq_next hK_ [0, 1] [0, 1, 2, 3, 4, 5] [(0, (ptr bx0 0)), (5, (int .i64 (IntKind.i64.wrap (((IntKind.i64.wrap (l5i4 - (1 : Int)))).tdiv (2 : Int)))))] [] [] rfl rfl (by decide) rfl ⟨rfl, rfl, trivial⟩ trivial ?_
   clear hK_ K_ F_ X_ Y_
   refine ta_show (m := (memOf w0 Z0 [(oBox bx0 143 [v0_0, (Value.func (.func 88) #[] #[])]), (oRow v0_0 138 tyS_huff_tree a0.items)] [(oRow v4 138 tyS_huff_tree ((l5x0_0.set ((IntKind.i64.wrap (((IntKind.i64.wrap (l5i4 - (1 : Int)))).tdiv (2 : Int)))).toNat u24).set (l5i4).toNat u30)), (oBox bx0 143 [v4, (Value.func (.func 88) #[] #[])])] [(fDat (tyList (tyInt .i64)) [s34] u30.symbols), (fDat tyS_huff_tree [(int .i64 u30.weight), (int .i64 u30.least), s34] u30), (fDat tyS_huff_tree [(int .i64 u24.weight), (int .i64 u24.least), s28] u24), (fDat tyS_huff_tree [(int .i64 u15.weight), (int .i64 u15.least), s19] u15), (fDat tyS_huff_tree [(int .i64 u9.weight), (int .i64 u9.least), s13] u9), (fDat (tyList (tyInt .i64)) [v1_2] a1.symbols)])) (S := (tab [(0, (ptr bx0 0)), (5, (int .i64 (IntKind.i64.wrap (((IntKind.i64.wrap (l5i4 - (1 : Int)))).tdiv (2 : Int)))))])) ?_
   refine ta_end [] [] rfl rfl (by kernel_rfl) rfl trivial ?_
   refine aq_show (m := (memOf w0 Z0 [(oBox bx0 143 [v0_0, (Value.func (.func 88) #[] #[])]), (oRow v0_0 138 tyS_huff_tree a0.items)] [(oRow v4 138 tyS_huff_tree ((l5x0_0.set ((IntKind.i64.wrap (((IntKind.i64.wrap (l5i4 - (1 : Int)))).tdiv (2 : Int)))).toNat u24).set (l5i4).toNat u30)), (oBox bx0 143 [v4, (Value.func (.func 88) #[] #[])])] [(fDat (tyList (tyInt .i64)) [s34] u30.symbols), (fDat tyS_huff_tree [(int .i64 u30.weight), (int .i64 u30.least), s34] u30), (fDat tyS_huff_tree [(int .i64 u24.weight), (int .i64 u24.least), s28] u24), (fDat tyS_huff_tree [(int .i64 u15.weight), (int .i64 u15.least), s19] u15), (fDat tyS_huff_tree [(int .i64 u9.weight), (int .i64 u9.least), s13] u9), (fDat (tyList (tyInt .i64)) [v1_2] a1.symbols)])) (S := (tab [(0, (ptr bx0 0)), (5, (int .i64 (IntKind.i64.wrap (((IntKind.i64.wrap (l5i4 - (1 : Int)))).tdiv (2 : Int)))))])) ?_
   refine aq_then ?_
   refine aw_region ?_
   refine al_mv rfl rfl ?_
   refine al_as rfl rfl ?_
   refine al_nil ?_
   refine aq_block ?_
   exact aq_again k6 (((l5x0_0.set ((IntKind.i64.wrap (((IntKind.i64.wrap (l5i4 - (1 : Int)))).tdiv (2 : Int)))).toNat u24).set (l5i4).toNat u30), (IntKind.i64.wrap (((IntKind.i64.wrap (l5i4 - (1 : Int)))).tdiv (2 : Int)))) (Nat.lt_succ_self _) h (fun w a hm hs => norm hm hs [0, 1] [5] [(0, (ptr bx0 0)), (4, (int .i64 (IntKind.i64.wrap (((IntKind.i64.wrap (l5i4 - (1 : Int)))).tdiv (2 : Int)))))] (by decide) ⟨rfl, rfl, trivial⟩)
 ·replace h := bif_f hb8 h
  refine aw_exit ?_
  refine aq_then_exit ?_
  refine aq_then_exit ?_
  refine aq_block_exit ?_
  refine fn_end ?_
  obtain rfl := Option.some.inj h
  exact fn_ret v4 [1, 0] [] rfl rfl rfl rfl (resC rfl (resN) rfl) rfl rfl rfl (by decide)
def f___huff_heap_huff_tree___pop_L50 (a0 : D_huff_heap_huff_tree_) (l21x0_0 : (List S_huff_tree)) (l21i5 : Int) (kk26 : (Int → Option (S_huff_tree × D_huff_heap_huff_tree_))) (fu : Nat) : Nat → Int → Int → Option (S_huff_tree × D_huff_heap_huff_tree_)
  | 0, _, _ => none
  | k49 + 1, l48i6, l48i50 => (bif (decide (l48i50 < (2 : Int))) then (lt (fun (j52i6 : Int) => (f___huff_heap_huff_tree___pop_L50 a0 l21x0_0 l21i5 kk26 fu k49 j52i6 (IntKind.i64.wrap (l48i50 + (1 : Int))))) fun (kk53 : Int → Option (S_huff_tree × D_huff_heap_huff_tree_)) => (opt (at? (lA2i64 (A2i64.mk (IntKind.i64.wrap ((IntKind.i64.wrap ((2 : Int) * l21i5)) + (1 : Int))) (IntKind.i64.wrap ((IntKind.i64.wrap ((2 : Int) * l21i5)) + (2 : Int))))) l48i50) fun (u54 : Int) => (lt (fun (j56b77 : Bool) => (bif j56b77 then (kk53 u54) else (kk53 l48i6))) fun (kk57 : Bool → Option (S_huff_tree × D_huff_heap_huff_tree_)) => (bif (decide (u54 < (IntKind.i64.wrap ((a0.items.length : Int) - (1 : Int))))) then (opt (at? l21x0_0 u54) fun (u60 : S_huff_tree) => (opt (at? l21x0_0 l48i6) fun (u66 : S_huff_tree) => (opt (f_huff_Lengths_2 fu u60 u66) fun (r73 : Int) => (kk57 (decide (r73 < (0 : Int))))))) else (kk57 false))))) else (kk26 l48i6))
def f___huff_heap_huff_tree___pop_L23 (a0 : D_huff_heap_huff_tree_) (u2 : S_huff_tree) (fu : Nat) : Nat → (List S_huff_tree) → Int → Option (S_huff_tree × D_huff_heap_huff_tree_)
  | 0, _, _ => none
  | k22 + 1, l21x0_0, l21i5 => (lt (fun (l21x0_0 : (List S_huff_tree)) (l21i5 : Int) => (f___huff_heap_huff_tree___pop_L23 a0 u2 fu k22 l21x0_0 l21i5)) fun (kk24 : (List S_huff_tree) → Int → Option (S_huff_tree × D_huff_heap_huff_tree_)) => (lt (fun (j25i6 : Int) => (bif (j25i6 == l21i5) then (some (u2, (D_huff_heap_huff_tree_.mk l21x0_0))) else (opt (at? l21x0_0 l21i5) fun (u28 : S_huff_tree) => (opt (at? l21x0_0 j25i6) fun (u34 : S_huff_tree) => (opt (at? l21x0_0 j25i6) fun (u40 : S_huff_tree) => (opt (at? (l21x0_0.set (j25i6).toNat u28) l21i5) fun (u44 : S_huff_tree) => (kk24 ((l21x0_0.set (j25i6).toNat u28).set (l21i5).toNat u34) j25i6))))))) fun (kk26 : Int → Option (S_huff_tree × D_huff_heap_huff_tree_)) => (f___huff_heap_huff_tree___pop_L50 a0 l21x0_0 l21i5 kk26 fu fu l21i5 (0 : Int))))
def f___huff_heap_huff_tree___pop (fu : Nat) (a0 : D_huff_heap_huff_tree_) : Option (S_huff_tree × D_huff_heap_huff_tree_) := (opt (at? a0.items (0 : Int)) fun (u2 : S_huff_tree) => (opt (at? a0.items (IntKind.i64.wrap ((a0.items.length : Int) - (1 : Int)))) fun (u9 : S_huff_tree) => (opt (at? a0.items (0 : Int)) fun (u15 : S_huff_tree) => (req (0 ≤ (IntKind.i64.wrap ((a0.items.length : Int) - (1 : Int))) ∧ (IntKind.i64.wrap ((a0.items.length : Int) - (1 : Int))) ≤ ((a0.items.set ((0 : Int)).toNat u9).length : Int)) (f___huff_heap_huff_tree___pop_L23 a0 u2 fu fu ((a0.items.set ((0 : Int)).toNat u9).take ((IntKind.i64.wrap ((a0.items.length : Int) - (1 : Int)))).toNat) (0 : Int))))))
end Go.Proofs.YtfhifdmbdkkgaaaDoor
