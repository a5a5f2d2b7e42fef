/- Walks by program. No condition. -/
import Derived.Test.YtfhifdmbdkkgaaaEn25
import Derived.Test.YtfhifdmbdkkgaaaChecked
import Derived.Test.YtfhifdmbdkkgaaaEn26
import Derived.Test.YtfhifdmbdkkgaaaEn25
namespace Go.Proofs.Ytfhifdmbdkkgaaa
open Go.RowKit Ytfhifdmbdkkgaaa.En
set_option linter.unusedVariables false
set_option linter.unusedSimpArgs false
open Go.Value (int bool)
structure S_huff_tree where
  weight : Int
  least : Int
  symbols : (List Int)
  deriving DecidableEq
def tyS_huff_tree : Ty S_huff_tree := tyVia (fun x => (x.weight, (x.least, x.symbols))) (tyPair (tyInt .i64) (tyPair (tyInt .i64) (tyList (tyInt .i64))))
theorem subS_huff_tree_0 : Sub tyS_huff_tree 0 (tyInt .i64) (fun x => x.weight) := Sub.via (Sub.fst (Sub.whole _))
theorem subS_huff_tree_1 : Sub tyS_huff_tree 1 (tyInt .i64) (fun x => x.least) := Sub.via (Sub.snd (Sub.fst (Sub.whole _)))
theorem subS_huff_tree_2 : Sub tyS_huff_tree 2 (tyList (tyInt .i64)) (fun x => x.symbols) := Sub.via (Sub.snd (Sub.snd (Sub.whole _)))
theorem encnS_huff_tree {cs} {x : S_huff_tree} : ∀ Z w, (fDat tyS_huff_tree cs x).p Z w → ∃ j : Value, cs = [(int .i64 x.weight), (int .i64 x.least), j] ∧ ∀ g ∈ [(fDat (tyList (tyInt .i64)) [j] x.symbols)], g.p Z w := by
  intro Z w h
  obtain ⟨c0, d0, rfl, p0, q0⟩ := h
  obtain ⟨c1, d1, rfl, p1, q1⟩ := q0
  obtain rfl : c0 = [(int .i64 x.weight)] := p0
  obtain rfl : c1 = [(int .i64 x.least)] := p1
  obtain ⟨v2, rfl⟩ := one_of q1
  exact ⟨v2, rfl, (fall_cons q1 fall_nil)⟩
theorem mknS_huff_tree {Z w cs} {x : S_huff_tree} {v0 : Value} (hc : cs = [(int .i64 x.weight), (int .i64 x.least), v0]) (h0 : (tyList (tyInt .i64)).rep Z w [v0] x.symbols) : tyS_huff_tree.rep Z w cs x := by
  subst hc
  exact ⟨_, _, (List.take_append_drop 1 _).symm, rfl, ⟨_, _, (List.take_append_drop 1 _).symm, rfl, h0⟩⟩
structure A2i64 where
  e0 : Int
  e1 : Int
  deriving DecidableEq
def tyA2i64 : Ty A2i64 := tyVia (fun x => (x.e0, x.e1)) (tyPair (tyInt .i64) (tyInt .i64))
theorem subA2i64_0 : Sub tyA2i64 0 (tyInt .i64) (fun x => x.e0) := Sub.via (Sub.fst (Sub.whole _))
theorem subA2i64_1 : Sub tyA2i64 1 (tyInt .i64) (fun x => x.e1) := Sub.via (Sub.snd (Sub.whole _))
def cA2i64 (x : A2i64) : List Value := [(int .i64 x.e0), (int .i64 x.e1)]
def lA2i64 (x : A2i64) : List Int := [x.e0, x.e1]
def vA2i64 (y : Int) : Value := (int .i64 y)
def setA2i64 (x : A2i64) (j : Int) (y : Int) : A2i64 := ⟨if j = 0 then y else x.e0, if j = 1 then y else x.e1⟩
theorem oneA2i64 (x : A2i64) : ∀ u ∈ cA2i64 x, u.oneCell' = true := ones_map (enc := vA2i64) (xs := lA2i64 x) (fun _ => rfl)
theorem lenA2i64 (x : A2i64) : (lA2i64 x).length = 2 := rfl
theorem lsetA2i64 {x : A2i64} {j : Int} {y : Int} (h0 : 0 ≤ j) (h1 : j < 2) : lA2i64 (setA2i64 x j y) = (lA2i64 x).set j.toNat y := by
  obtain ⟨q, rfl⟩ : ∃ q : Nat, j = q := ⟨j.toNat, by omega⟩
  match q, h1 with
  | 0, _ => rfl
  | 1, _ => rfl
  | n + 2, h => omega
theorem csetA2i64 {x : A2i64} {j : Int} {y : Int} (h0 : 0 ≤ j) (h1 : j < 2) (pre post : List Value) : pre ++ (cA2i64 (setA2i64 x j y) ++ post) = (pre ++ (cA2i64 x ++ post)).set (pre.length + j.toNat) (vA2i64 y) := by
  have h : cA2i64 (setA2i64 x j y) = (cA2i64 x).set j.toNat (vA2i64 y) := by
    have e : ∀ z : A2i64, cA2i64 z = (lA2i64 z).map vA2i64 := fun _ => rfl
    rw [e, e, lsetA2i64 h0 h1, List.map_set]
  rw [h, List.set_append_right _ _ (by omega), Nat.add_sub_cancel_left, List.set_append_left _ _ (by show j.toNat < 2; omega)]
theorem flatA2i64 : FlatTy tyA2i64 := flat_via (flat_pair flat_enc flat_enc)
theorem encA2i64 {Z w cs} {x : A2i64} (h : tyA2i64.rep Z w cs x) : cs = (cA2i64 x) := by
  obtain ⟨c0, d0, rfl, p0, q0⟩ := h
  rw [show _ = _ from p0]
  rw [show _ = _ from q0]
  rfl
theorem mkA2i64 {Z w cs} {x : A2i64} (h : cs = (cA2i64 x)) : tyA2i64.rep Z w cs x := by
  subst h
  exact ⟨_, _, (List.take_append_drop 1 _).symm, rfl, rfl⟩
theorem lrepA2i64 {Z w cs} {x : A2i64} (h : tyA2i64.rep Z w cs x) : RepL (tyInt .i64) Z w cs (lA2i64 x) := by
  rw [encA2i64 h]
  exact ⟨[_], _, rfl, rfl, ⟨[_], _, rfl, rfl, rfl⟩⟩
structure S_lumref_bunch where
  weight : Int
  signs : (List Int)
  deriving DecidableEq
def tyS_lumref_bunch : Ty S_lumref_bunch := tyVia (fun x => (x.weight, x.signs)) (tyPair (tyInt .i64) (tyList (tyInt .i64)))
theorem subS_lumref_bunch_0 : Sub tyS_lumref_bunch 0 (tyInt .i64) (fun x => x.weight) := Sub.via (Sub.fst (Sub.whole _))
theorem subS_lumref_bunch_1 : Sub tyS_lumref_bunch 1 (tyList (tyInt .i64)) (fun x => x.signs) := Sub.via (Sub.snd (Sub.whole _))
theorem encnS_lumref_bunch {cs} {x : S_lumref_bunch} : ∀ Z w, (fDat tyS_lumref_bunch cs x).p Z w → ∃ j : Value, cs = [(int .i64 x.weight), j] ∧ ∀ g ∈ [(fDat (tyList (tyInt .i64)) [j] x.signs)], g.p Z w := by
  intro Z w h
  obtain ⟨c0, d0, rfl, p0, q0⟩ := h
  obtain rfl : c0 = [(int .i64 x.weight)] := p0
  obtain ⟨v1, rfl⟩ := one_of q0
  exact ⟨v1, rfl, (fall_cons q0 fall_nil)⟩
theorem mknS_lumref_bunch {Z w cs} {x : S_lumref_bunch} {v0 : Value} (hc : cs = [(int .i64 x.weight), v0]) (h0 : (tyList (tyInt .i64)).rep Z w [v0] x.signs) : tyS_lumref_bunch.rep Z w cs x := by
  subst hc
  exact ⟨_, _, (List.take_append_drop 1 _).symm, rfl, h0⟩
structure D_huff_heap_huff_tree_ where
  items : (List S_huff_tree)
theorem sz3 : szOf Try.prog 3 = some 1 := by kernel_rfl
theorem to3 : tyOf Try.prog 3 = some (1, 8, some (int .i64 (0 : Int))) := by kernel_rfl
theorem sz22 : szOf Try.prog 22 = some 1 := by kernel_rfl
theorem to22 : tyOf Try.prog 22 = some (1, 24, some (Value.slice none 0 0)) := by kernel_rfl
theorem sz122 : szOf Try.prog 122 = some 3 := by kernel_rfl
theorem to122 : tyOf Try.prog 122 = some (3, 40, some (ag [(int .i64 (0 : Int)), (int .i64 (0 : Int)), (Value.slice none 0 0)])) := by kernel_rfl
theorem sz124 : szOf Try.prog 124 = some 1 := by kernel_rfl
theorem to124 : tyOf Try.prog 124 = some (1, 8, some Value.nilFunc) := by kernel_rfl
theorem sz125 : szOf Try.prog 125 = some 1 := by kernel_rfl
theorem to125 : tyOf Try.prog 125 = some (1, 24, some (Value.slice none 0 0)) := by kernel_rfl
theorem sz133 : szOf Try.prog 133 = some 2 := by kernel_rfl
theorem to133 : tyOf Try.prog 133 = some (2, 32, some (ag [(int .i64 (0 : Int)), (Value.slice none 0 0)])) := by kernel_rfl
theorem mixed : Try.prog.follows .mixedOrders = true := by kernel_rfl
-- STUCK slices.IndexFunc[[]int,int]: lty ['func', [3], [4], False]
-- STUCK slices.ContainsFunc[[]int,int]: lty ['func', [3], [4], False]
def f_huff_Lengths_1 (fu : Nat) (a0 : Int) : Option Bool := (lt (fun (j1b2 : Bool) => (some j1b2)) fun (kk2 : Bool → Option Bool) => (bif (decide (a0 < (0 : Int))) then (kk2 true) else (kk2 (decide (a0 > (1048576 : Int))))))
set_option maxRecDepth 100000 in
theorem f_huff_Lengths_1_ok (fu : Nat) (a0 : Int) {r : Bool} (h : f_huff_Lengths_1 fu a0 = some r) : FnOk Try.prog 60 [(int .i64 a0)] [] [] (fun (i : Unit) => { val := (bool r) }) := by
 unfold f_huff_Lengths_1 at h
 refine fn_enter Try.func60 rfl Try.ntmps60 rfl (fun w0 Z0 => ?_)
 refine aw_sr ?_
 refine al_as rfl rfl ?_
 refine al_nt ?_
 obtain ⟨kk2, hkk2, h⟩ := lt_some h
 refine aw_seq_join (ι := Bool) (fun i => (memOf w0 Z0 [] [] [])) (fun i => (tab [(2, (bool i))])) (fun i => kk2 i = some r) ?_ ?_
 ·rintro j1b2 h
  have h : kk2 j1b2 = some r := h
  rw [hkk2] at h
  dsimp only at h
  clear hkk2
  refine aw_show (m := (memOf w0 Z0 [] [] [])) (S := (tab [(2, (bool j1b2))])) ?_
  refine aw_ret ?_
  obtain rfl := Option.some.inj h
  exact fn_ret () [] [] rfl rfl rfl rfl (res1 rfl rfl) rfl rfl rfl (by decide)
 ·clear hkk2
  refine aw_region ?_
  refine al_mv rfl rfl ?_
  refine al_in rfl rfl rfl rfl ?_
  refine al_mv rfl rfl ?_
  refine al_caseB 5 rfl (fun hb3 => ?_) (fun hb3 => ?_)
  ·replace h := bif_t hb3 h
   refine al_skip ?_
   refine al_skip ?_
   refine al_val (ov_pick_t rfl rfl rfl) ?_
   refine al_as rfl rfl ?_
   refine al_nil ?_
   exact aq_join true h (fun w a hm hs => norm hm hs [] [] [(2, (bool true))] (by decide) ⟨rfl, trivial⟩)
  ·replace h := bif_f hb3 h
   refine al_mv rfl rfl ?_
   refine al_in rfl rfl rfl rfl ?_
   refine al_val (ov_pick_f rfl rfl rfl) ?_
   refine al_as rfl rfl ?_
   refine al_nil ?_
   exact aq_join (decide (a0 > (1048576 : Int))) h (fun w a hm hs => norm hm hs [] [] [(2, (bool (decide (a0 > (1048576 : Int)))))] (by decide) ⟨rfl, trivial⟩)
def f_cmp_Or_int__L5 (a0 : (List Int)) (kk2 : (Unit → Option Int)) : Nat → Int → Option Int
  | 0, _ => none
  | k4 + 1, l3i8 => (bif (decide (l3i8 < (a0.length : Int))) then (opt (at? a0 l3i8) fun (u7 : Int) => (bif (u7 != (0 : Int)) then (some u7) else (f_cmp_Or_int__L5 a0 kk2 k4 (IntKind.i64.wrap (l3i8 + (1 : Int)))))) else (kk2 ()))
def f_cmp_Or_int_ (fu : Nat) (a0 : (List Int)) : Option Int := (lt (fun (_ : Unit) => (some (0 : Int))) fun (kk2 : Unit → Option Int) => (f_cmp_Or_int__L5 a0 kk2 fu (0 : Int)))
set_option maxRecDepth 100000 in
theorem f_cmp_Or_int__ok (fu : Nat) (v0_0 : Value) (a0 : (List Int)) {r : Int} (h : f_cmp_Or_int_ fu a0 = some r) : FnOk Try.prog 62 [v0_0] [(fDat (tyList (tyInt .i64)) [v0_0] a0)] [] (fun (i : Unit) => { val := (int .i64 r) }) := by
 unfold f_cmp_Or_int_ at h
 refine fn_enter Try.func62 rfl Try.ntmps62 rfl (fun w0 Z0 => ?_)
 refine aw_sr ?_
 refine al_as rfl rfl ?_
 refine al_nt ?_
 refine aw_sr ?_
 refine al_as rfl rfl ?_
 refine al_nt ?_
 obtain ⟨kk2, hkk2, h⟩ := lt_some h
 refine aw_seq_join (ι := Unit) (fun i => (memOf w0 Z0 [] [] [(fDat (tyList (tyInt .i64)) [v0_0] a0)])) (fun i => (tab [(3, (int .i64 (0 : Int)))])) (fun i => kk2 () = some r) ?_ ?_
 ·rintro _ h
  have h : kk2 () = some r := h
  rw [hkk2] at h
  dsimp only at h
  clear hkk2
  refine aw_show (m := (memOf w0 Z0 [] [] [(fDat (tyList (tyInt .i64)) [v0_0] a0)])) (S := (tab [(3, (int .i64 (0 : Int)))])) ?_
  refine aw_sr ?_
  refine al_mv rfl rfl ?_
  refine al_as rfl rfl ?_
  refine al_nt ?_
  refine aw_ret ?_
  obtain rfl := Option.some.inj h
  exact fn_ret () [] [] rfl rfl rfl rfl (res1 rfl rfl) rfl rfl rfl (by decide)
 ·clear hkk2
  refine aw_sr ?_
  refine al_mv rfl rfl ?_
  refine al_val (ov_lenD 0 rfl rfl Try.underlying22 rfl) ?_
  refine al_mv rfl rfl ?_
  refine al_nt ?_
  refine aw_block ?_
  refine aw_state (aw_loop (ι := Int) (fun i => (memOf w0 Z0 [] [] [(fDat (tyList (tyInt .i64)) [v0_0] a0)])) (fun i => (tab [(3, (int .i64 (0 : Int))), (6, v0_0), (7, (int .i64 (a0.length : Int))), (8, (int .i64 i))])) (fun q i => f_cmp_Or_int__L5 a0 kk2 q i = some r) ?_ fu (0 : Int) h) (fun w a hm hs => norm hm hs [] [0] [(3, (int .i64 (0 : Int))), (6, v0_0), (7, (int .i64 (a0.length : Int))), (8, (int .i64 (0 : Int)))] (by decide) ⟨rfl, rfl, rfl, rfl, trivial⟩)
  clear h
  rintro k4 l3i8 h
  have h : f_cmp_Or_int__L5 a0 kk2 k4 l3i8 = some r := h
  obtain _ | k4 := k4
  · rw [f_cmp_Or_int__L5] at h; cases h
  rw [f_cmp_Or_int__L5] at h
  refine aw_show (m := (memOf w0 Z0 [] [] [(fDat (tyList (tyInt .i64)) [v0_0] a0)])) (S := (tab [(3, (int .i64 (0 : Int))), (6, v0_0), (7, (int .i64 (a0.length : Int))), (8, (int .i64 l3i8))])) ?_
  refine aw_sr ?_
  refine al_in rfl rfl rfl rfl ?_
  refine al_nt ?_
  refine aw_seq ?_
  refine aw_cond rfl (fun hb6 => ?_) (fun hb6 => ?_)
  ·replace h := bif_t hb6 h
   refine aw_skip ?_
   refine aq_then ?_
   refine aw_seq ?_
   refine aw_block ?_
   refine aw_sr ?_
   obtain ⟨u7, hu8, h⟩ := opt_some h
   refine al_idxD 0 hu8 rfl rfl rfl Try.underlying22 sz3 rfl (fun p9 => ?_)
   refine al_val (ov_loadP (ds := [(int .i64 u7)]) 0 rfl (fun h => h) rfl Try.underlying3 sz3 rfl rfl rfl) ?_
   refine al_as rfl rfl ?_
   refine al_nt ?_
   refine aw_sr ?_
   refine al_mv rfl rfl ?_
   refine al_mv rfl rfl ?_
   refine al_in rfl rfl rfl rfl ?_
   refine al_nt ?_
   refine aw_cond rfl (fun hb10 => ?_) (fun hb10 => ?_)
   ·replace h := bif_t hb10 h
    refine aw_sr ?_
    refine al_mv rfl rfl ?_
    refine al_as rfl rfl ?_
    refine al_nt ?_
    refine aw_ret ?_
    refine aq_block_ret ?_
    refine aq_then_ret ?_
    refine aq_then_ret ?_
    refine aq_block_ret ?_
    refine aq_then_ret ?_
    obtain rfl := Option.some.inj h
    exact fn_ret () [] [] rfl rfl rfl rfl (res1 rfl rfl) rfl rfl rfl (by decide)
   ·replace h := bif_f hb10 h
    refine aw_skip ?_
    refine aq_block ?_
    refine aq_then ?_
    refine aw_region ?_
    refine al_in rfl rfl rfl rfl ?_
    refine al_mv rfl rfl ?_
    refine al_nil ?_
    exact aq_again k4 (IntKind.i64.wrap (l3i8 + (1 : Int))) (Nat.lt_succ_self _) h (fun w a hm hs => norm hm hs [] [1] [(3, (int .i64 (0 : Int))), (6, v0_0), (7, (int .i64 (a0.length : Int))), (8, (int .i64 (IntKind.i64.wrap (l3i8 + (1 : Int)))))] (by decide) ⟨rfl, rfl, rfl, rfl, trivial⟩)
  ·replace h := bif_f hb6 h
   refine aw_exit ?_
   refine aq_then_exit ?_
   refine aq_then_exit ?_
   refine aq_block_exit ?_
   exact aq_join () h (fun w a hm hs => norm hm hs [] [0] [(3, (int .i64 (0 : Int)))] (by decide) ⟨rfl, trivial⟩)
def f_huff_Lengths_2 (fu : Nat) (a0 : S_huff_tree) (a1 : S_huff_tree) : Option Int := (opt (f_cmp_Or_int_ fu ([(IntKind.i64.wrap (a0.weight - a1.weight)), (IntKind.i64.wrap (a0.least - a1.least))])) fun (r5 : Int) => (some r5))
set_option maxRecDepth 100000 in
theorem f_huff_Lengths_2_ok (fu : Nat) (v0_2 : Value) (a0 : S_huff_tree) (v1_2 : Value) (a1 : S_huff_tree) {r : Int} (h : f_huff_Lengths_2 fu a0 a1 = some r) : FnOk Try.prog 61 [(ag [(int .i64 a0.weight), (int .i64 a0.least), v0_2]), (ag [(int .i64 a1.weight), (int .i64 a1.least), v1_2])] [(fDat (tyList (tyInt .i64)) [v0_2] a0.symbols), (fDat (tyList (tyInt .i64)) [v1_2] a1.symbols)] [] (fun (i : Unit) => { val := (int .i64 r) }) := by
 unfold f_huff_Lengths_2 at h
 refine fn_enter Try.func61 rfl Try.ntmps61 rfl (fun w0 Z0 => ?_)
 refine aw_sr ?_
 refine al_box (vs := [(int .i64 a0.weight), (int .i64 a0.least), v0_2]) rfl (cv_rfl rfl) rfl (fun g1 => ?_)
 refine al_box (vs := [(int .i64 a1.weight), (int .i64 a1.least), v1_2]) rfl (cv_rfl rfl) rfl (fun g2 => ?_)
 refine al_as rfl rfl ?_
 refine al_nt ?_
 refine aw_sr ?_
 refine al_val (ov_fieldA (p := 0) rfl Try.underlying122 rfl sz3 rfl rfl rfl) ?_
 refine al_val (ov_load (i := 1) (v := (int .i64 a0.weight)) rfl rfl Try.underlying3 sz3 rfl rfl rfl rfl) ?_
 refine al_val (ov_fieldA (p := 0) rfl Try.underlying122 rfl sz3 rfl rfl rfl) ?_
 refine al_val (ov_load (i := 0) (v := (int .i64 a1.weight)) rfl rfl Try.underlying3 sz3 rfl rfl rfl rfl) ?_
 refine al_in rfl rfl rfl rfl ?_
 refine al_val (ov_fieldA (p := 1) rfl Try.underlying122 rfl sz3 rfl rfl rfl) ?_
 refine al_val (ov_load (i := 1) (v := (int .i64 a0.least)) rfl rfl Try.underlying3 sz3 rfl rfl rfl rfl) ?_
 refine al_val (ov_fieldA (p := 1) rfl Try.underlying122 rfl sz3 rfl rfl rfl) ?_
 refine al_val (ov_load (i := 0) (v := (int .i64 a1.least)) rfl rfl Try.underlying3 sz3 rfl rfl rfl rfl) ?_
 refine al_in rfl rfl rfl rfl ?_
 refine al_buildSlice (τ := (tyInt .i64)) (e := 3) (k := 2) (sz := 0) (by_ := 0) (z := undef) (cs := [(int .i64 (IntKind.i64.wrap (a0.weight - a1.weight))), (int .i64 (IntKind.i64.wrap (a0.least - a1.least)))]) (xs := [(IntKind.i64.wrap (a0.weight - a1.weight)), (IntKind.i64.wrap (a0.least - a1.least))]) rfl (by decide) (fun w a hm hs => ⟨([(int .i64 (IntKind.i64.wrap (a0.weight - a1.weight))), (int .i64 (IntKind.i64.wrap (a0.least - a1.least)))]).toArray, rfl, by simp only [List.map_toArray, List.map_cons, List.map_nil, hs.ev (x := .tmp 9) rfl, hs.ev (x := .tmp 14) rfl]; exact run_bs [(int .i64 (IntKind.i64.wrap (a0.weight - a1.weight))), (int .i64 (IntKind.i64.wrap (a0.least - a1.least)))] [(int .i64 (IntKind.i64.wrap (a0.weight - a1.weight))), (int .i64 (IntKind.i64.wrap (a0.least - a1.least)))] Try.underlying22 to3 rfl rfl (bs_cons (l := [(int .i64 (IntKind.i64.wrap (a0.weight - a1.weight)))]) (cs := [(int .i64 (IntKind.i64.wrap (a0.least - a1.least)))]) (cv_rfl rfl) rfl (bs_cons (l := [(int .i64 (IntKind.i64.wrap (a0.least - a1.least)))]) (cs := []) (cv_rfl rfl) rfl bs_nil)) hm⟩) (fun hm => ⟨_, _, rfl, (fun _ => rfl) hm, ⟨_, _, rfl, (fun _ => rfl) hm, rfl⟩⟩) rfl (fun v3 => ?_)
 obtain ⟨r5, hc4, h⟩ := opt_some h
 refine al_call (vs := [v3]) (f_cmp_Or_int__ok fu v3 ([(IntKind.i64.wrap (a0.weight - a1.weight)), (IntKind.i64.wrap (a0.least - a1.least))]) hc4) [0] [] [0, 1, 2] (pre_own 0 rfl rfl pre_nil) rfl (by simp) (by decide) (.inr flat_res0) rfl Try.func62 rfl rfl rfl (fun _ => ?_)
 refine al_as rfl rfl ?_
 refine al_nt ?_
 refine aw_ret ?_
 obtain rfl := Option.some.inj h
 exact fn_ret () [] [] rfl rfl rfl rfl (res1 rfl rfl) rfl rfl rfl (by decide)
-- STUCK (*lumberroom/huff.heap[lumberroom/huff.tree]).push: lty ['pointer', 127]
-- STUCK (*lumberroom/huff.heap[lumberroom/huff.tree]).pop: lty ['pointer', 127]
-- STUCK slices.Grow[[]int,int]: slices.go:426: call: builtin cap
def f_slices_Grow___int_int__nil (fu : Nat) (a1 : Int) : Option (List Int) := (bif (decide (a1 < (0 : Int))) then (none : Option (List Int)) else (lt (fun (j2x0 : (List Int)) => (some j2x0)) fun (kk3 : (List Int) → Option (List Int)) => (bif (decide ((IntKind.i64.wrap (a1 - (IntKind.i64.wrap (((0 : Nat) : Int) - ((0 : Nat) : Int))))) > (0 : Int))) then (req (0 < (IntKind.i64.wrap (a1 - (IntKind.i64.wrap (((0 : Nat) : Int) - ((0 : Nat) : Int))))) ∧ (IntKind.i64.wrap (a1 - (IntKind.i64.wrap (((0 : Nat) : Int) - ((0 : Nat) : Int))))) * 8 ≤ 140737488355328 ∧ (IntKind.i64.wrap (a1 - (IntKind.i64.wrap (((0 : Nat) : Int) - ((0 : Nat) : Int))))) ≤ 9223372036854775807) (req (0 ≤ ((0 : Nat) : Int) ∧ ((0 : Nat) : Int) ≤ ((List.replicate ((IntKind.i64.wrap (a1 - (IntKind.i64.wrap (((0 : Nat) : Int) - ((0 : Nat) : Int)))))).toNat (0 : Int)).length : Int)) (kk3 ((List.replicate ((IntKind.i64.wrap (a1 - (IntKind.i64.wrap (((0 : Nat) : Int) - ((0 : Nat) : Int)))))).toNat (0 : Int)).take (((0 : Nat) : Int)).toNat)))) else (kk3 ([] : List Int)))))
set_option maxRecDepth 100000 in
theorem f_slices_Grow___int_int__nil_ok (fu : Nat) (a1 : Int) {r : (List Int)} (h : f_slices_Grow___int_int__nil fu a1 = some r) : FnOk Try.prog 134 [(Value.slice none 0 0), (int .i64 a1)] [] [] (fun (i : Value) => { val := i, own := [(oRow i 3 (tyInt .i64) r)] }) := by
 unfold f_slices_Grow___int_int__nil at h
 refine fn_enter Try.func134 rfl Try.ntmps134 rfl (fun w0 Z0 => ?_)
 refine aw_sr ?_
 refine al_as rfl rfl ?_
 refine al_nt ?_
 refine aw_seq ?_
 refine aw_sr ?_
 refine al_mv rfl rfl ?_
 refine al_in rfl rfl rfl rfl ?_
 refine al_nt ?_
 refine aw_cond rfl (fun hb1 => ?_) (fun hb1 => ?_)
 ·replace h := bif_t hb1 h
  refine aw_region ?_
  cases h
 ·replace h := bif_f hb1 h
  refine aw_skip ?_
  refine aq_then ?_
  obtain ⟨kk3, hkk3, h⟩ := lt_some h
  refine aw_seq_join (ι := Value × (List Int)) (fun i => (memOf w0 Z0 [] [(oRow i.1 3 (tyInt .i64) i.2)] [])) (fun i => (tab [(0, i.1)])) (fun i => kk3 i.2 = some r) ?_ ?_
  ·rintro ⟨j2v0, j2x0⟩ h
   have h : kk3 j2x0 = some r := h
   rw [hkk3] at h
   dsimp only at h
   clear hkk3
   refine aw_show (m := (memOf w0 Z0 [] [(oRow j2v0 3 (tyInt .i64) j2x0)] [])) (S := (tab [(0, j2v0)])) ?_
   refine aw_sr ?_
   refine al_mv rfl rfl ?_
   refine al_as rfl rfl ?_
   refine al_nt ?_
   refine aw_ret ?_
   obtain rfl := Option.some.inj h
   exact fn_ret j2v0 [0] [] rfl rfl rfl rfl (res1 rfl rfl) rfl rfl rfl (by decide)
  ·clear hkk3
   refine aw_sr ?_
   refine al_mv rfl rfl ?_
   refine al_mv rfl rfl ?_
   refine al_val (ov_capN rfl Try.underlying22 rfl) ?_
   refine al_mv rfl rfl ?_
   refine al_val (ov_lenN rfl Try.underlying22 rfl) ?_
   refine al_in rfl rfl rfl rfl ?_
   refine al_in rfl rfl rfl rfl ?_
   refine al_as rfl rfl ?_
   refine al_nt ?_
   refine aw_sr ?_
   refine al_mv rfl rfl ?_
   refine al_in rfl rfl rfl rfl ?_
   refine al_nt ?_
   refine aw_cond rfl (fun hb4 => ?_) (fun hb4 => ?_)
   ·replace h := bif_t hb4 h
    refine aw_region ?_
    refine al_mv rfl rfl ?_
    refine al_mv rfl rfl ?_
    refine al_val (ov_capN rfl Try.underlying22 rfl) ?_
    refine al_val (ov_cutN rfl rfl Try.underlying22 sz3 rfl) ?_
    refine al_mv rfl rfl ?_
    obtain ⟨hc5, h⟩ := req_some h
    refine al_appendZ (τ := (tyInt .i64)) (x0 := 0) hc5.1 hc5.2.1 hc5.2.2 rfl rfl Try.underlying22 Try.underlying3 to3 (fun _ _ => rfl) rfl rfl (fun v6 => ?_)
    refine al_mv rfl rfl ?_
    refine al_val (ov_lenN rfl Try.underlying22 rfl) ?_
    obtain ⟨hc7, h⟩ := req_some h
    refine al_cutR 0 hc7.1 hc7.2 rfl rfl rfl Try.underlying22 sz3 rfl (fun s8 => ?_)
    refine al_as rfl rfl ?_
    refine al_nil ?_
    exact aq_join (s8, ((List.replicate ((IntKind.i64.wrap (a1 - (IntKind.i64.wrap (((0 : Nat) : Int) - ((0 : Nat) : Int)))))).toNat (0 : Int)).take (((0 : Nat) : Int)).toNat)) h (fun w a hm hs => norm hm hs [0] [] [(0, s8)] (by decide) ⟨rfl, trivial⟩)
   ·replace h := bif_f hb4 h
    refine aw_skip ?_
    refine aq_nilR 3 (tyInt .i64) ?_
    exact aq_join ((Value.slice none 0 0), ([] : List Int)) h (fun w a hm hs => norm hm hs [0] [] [(0, (Value.slice none 0 0))] (by decide) ⟨rfl, trivial⟩)
def f_slices_Concat___int_int__L10 (a0 : (List (List Int))) (kk7 : ((List Int) → Option (List Int))) : Nat → (List Int) → Int → Option (List Int)
  | 0, _, _ => none
  | k9 + 1, l8x6, l8i27 => (bif (decide (l8i27 < (a0.length : Int))) then (opt (at? a0 l8i27) fun (u12 : (List Int)) => (req (((l8x6.length + u12.length) * 8 : Nat) ≤ 140737488355328 ∧ l8x6.length + u12.length ≤ 9223372036854775807) (f_slices_Concat___int_int__L10 a0 kk7 k9 (l8x6 ++ u12) (IntKind.i64.wrap (l8i27 + (1 : Int)))))) else (kk7 l8x6))
def f_slices_Concat___int_int__L20 (a0 : (List (List Int))) (kk2 : (Int → Option (List Int))) : Nat → Int → Int → Option (List Int)
  | 0, _, _ => none
  | k19 + 1, l18i3, l18i11 => (bif (decide (l18i11 < (a0.length : Int))) then (opt (at? a0 l18i11) fun (u22 : (List Int)) => (bif (decide ((IntKind.i64.wrap (l18i3 + (u22.length : Int))) < (0 : Int))) then (none : Option (List Int)) else (f_slices_Concat___int_int__L20 a0 kk2 k19 (IntKind.i64.wrap (l18i3 + (u22.length : Int))) (IntKind.i64.wrap (l18i11 + (1 : Int)))))) else (kk2 l18i3))
def f_slices_Concat___int_int_ (fu : Nat) (a0 : (List (List Int))) : Option (List Int) := (lt (fun (j1i3 : Int) => (opt (f_slices_Grow___int_int__nil fu j1i3) fun (r4 : (List Int)) => (lt (fun (j6x6 : (List Int)) => (some j6x6)) fun (kk7 : (List Int) → Option (List Int)) => (f_slices_Concat___int_int__L10 a0 kk7 fu r4 (0 : Int))))) fun (kk2 : Int → Option (List Int)) => (f_slices_Concat___int_int__L20 a0 kk2 fu (0 : Int) (0 : Int)))
set_option maxRecDepth 100000 in
theorem f_slices_Concat___int_int__ok (fu : Nat) (v0_0 : Value) (a0 : (List (List Int))) {r : (List Int)} (h : f_slices_Concat___int_int_ fu a0 = some r) : FnOk Try.prog 65 [v0_0] [(fDat (tyList (tyList (tyInt .i64))) [v0_0] a0)] [] (fun (i : Value) => { val := i, own := [(oRow i 3 (tyInt .i64) r)] }) := by
 unfold f_slices_Concat___int_int_ at h
 refine fn_enter Try.func65 rfl Try.ntmps65 rfl (fun w0 Z0 => ?_)
 refine aw_sr ?_
 refine al_as rfl rfl ?_
 refine al_nt ?_
 refine aw_sr ?_
 refine al_as rfl rfl ?_
 refine al_nt ?_
 obtain ⟨kk2, hkk2, h⟩ := lt_some h
 refine aw_seq_join (ι := Int) (fun i => (memOf w0 Z0 [] [] [(fDat (tyList (tyList (tyInt .i64))) [v0_0] a0)])) (fun i => (tab [(0, v0_0), (3, (int .i64 i))])) (fun i => kk2 i = some r) ?_ ?_
 ·rintro j1i3 h
  have h : kk2 j1i3 = some r := h
  rw [hkk2] at h
  dsimp only at h
  clear hkk2
  refine aw_show (m := (memOf w0 Z0 [] [] [(fDat (tyList (tyList (tyInt .i64))) [v0_0] a0)])) (S := (tab [(0, v0_0), (3, (int .i64 j1i3))])) ?_
  refine aw_sr ?_
  refine al_mv rfl rfl ?_
  obtain ⟨r4, hc3, h⟩ := opt_some h
  refine al_call (vs := [(Value.slice none 0 0), (int .i64 j1i3)]) (f_slices_Grow___int_int__nil_ok fu j1i3 hc3) [] [] [] pre_nil rfl (by simp) (by decide) (.inl rfl) rfl Try.func134 rfl rfl rfl (fun v5 => ?_)
  refine al_as rfl rfl ?_
  refine al_nt ?_
  obtain ⟨kk7, hkk7, h⟩ := lt_some h
  refine aw_seq_join (ι := Value × (List Int)) (fun i => (memOf w0 Z0 [] [(oRow i.1 3 (tyInt .i64) i.2)] [(fDat (tyList (tyList (tyInt .i64))) [v0_0] a0)])) (fun i => (tab [(6, i.1)])) (fun i => kk7 i.2 = some r) ?_ ?_
  ·rintro ⟨j6v6, j6x6⟩ h
   have h : kk7 j6x6 = some r := h
   rw [hkk7] at h
   dsimp only at h
   clear hkk7
   refine aw_show (m := (memOf w0 Z0 [] [(oRow j6v6 3 (tyInt .i64) j6x6)] [(fDat (tyList (tyList (tyInt .i64))) [v0_0] a0)])) (S := (tab [(6, j6v6)])) ?_
   refine aw_sr ?_
   refine al_mv rfl rfl ?_
   refine al_as rfl rfl ?_
   refine al_nt ?_
   refine aw_ret ?_
   obtain rfl := Option.some.inj h
   exact fn_ret j6v6 [0] [] rfl rfl rfl rfl (res1 rfl rfl) rfl rfl rfl (by decide)
  ·clear hkk7
   refine aw_sr ?_
   refine al_mv rfl rfl ?_
   refine al_val (ov_lenD 0 rfl rfl Try.underlying204 rfl) ?_
   refine al_mv rfl rfl ?_
   refine al_nt ?_
   refine aw_block ?_
   refine aw_state (aw_loop (ι := Value × (List Int) × Int) (fun i => (memOf w0 Z0 [] [(oRow i.1 3 (tyInt .i64) i.2.1)] [(fDat (tyList (tyList (tyInt .i64))) [v0_0] a0)])) (fun i => (tab [(6, i.1), (25, v0_0), (26, (int .i64 (a0.length : Int))), (27, (int .i64 i.2.2))])) (fun q i => f_slices_Concat___int_int__L10 a0 kk7 q i.2.1 i.2.2 = some r) ?_ fu (v5, r4, (0 : Int)) h) (fun w a hm hs => norm hm hs [0] [0] [(6, v5), (25, v0_0), (26, (int .i64 (a0.length : Int))), (27, (int .i64 (0 : Int)))] (by decide) ⟨rfl, rfl, rfl, rfl, trivial⟩)
   clear h
   rintro k9 ⟨l8v6, l8x6, l8i27⟩ h
   have h : f_slices_Concat___int_int__L10 a0 kk7 k9 l8x6 l8i27 = some r := h
   obtain _ | k9 := k9
   · rw [f_slices_Concat___int_int__L10] at h; cases h
   rw [f_slices_Concat___int_int__L10] at h
   refine aw_show (m := (memOf w0 Z0 [] [(oRow l8v6 3 (tyInt .i64) l8x6)] [(fDat (tyList (tyList (tyInt .i64))) [v0_0] a0)])) (S := (tab [(6, l8v6), (25, v0_0), (26, (int .i64 (a0.length : Int))), (27, (int .i64 l8i27))])) ?_
   refine aw_sr ?_
   refine al_in rfl rfl rfl rfl ?_
   refine al_nt ?_
   refine aw_seq ?_
   refine aw_cond rfl (fun hb11 => ?_) (fun hb11 => ?_)
   ·replace h := bif_t hb11 h
    refine aw_skip ?_
    refine aq_then ?_
    refine aw_seq ?_
    refine aw_block ?_
    refine aw_sr ?_
    obtain ⟨u12, hu13, h⟩ := opt_some h
    refine al_idxD 0 hu13 rfl rfl rfl Try.underlying204 sz22 rfl (fun p14 => ?_)
    refine al_loadP1 0 rfl rfl Try.underlying22 sz22 rfl rfl rfl (fun s15 => ?_)
    refine al_as rfl rfl ?_
    refine al_nt ?_
    refine aw_region ?_
    refine al_mv rfl rfl ?_
    refine al_mv rfl rfl ?_
    obtain ⟨hc16, h⟩ := req_some h
    refine al_append 0 hc16.1 hc16.2 rfl (src_dat (i := 0) 0 rfl) rfl rfl Try.underlying22 to3 rfl rfl rfl (fun v17 => ?_)
    refine al_as rfl rfl ?_
    refine al_nil ?_
    refine aq_block ?_
    refine aq_then ?_
    refine aw_region ?_
    refine al_in rfl rfl rfl rfl ?_
    refine al_mv rfl rfl ?_
    refine al_nil ?_
    exact aq_again k9 (v17, (l8x6 ++ u12), (IntKind.i64.wrap (l8i27 + (1 : Int)))) (Nat.lt_succ_self _) h (fun w a hm hs => norm hm hs [0] [2] [(6, v17), (25, v0_0), (26, (int .i64 (a0.length : Int))), (27, (int .i64 (IntKind.i64.wrap (l8i27 + (1 : Int)))))] (by decide) ⟨rfl, rfl, rfl, rfl, trivial⟩)
   ·replace h := bif_f hb11 h
    refine aw_exit ?_
    refine aq_then_exit ?_
    refine aq_then_exit ?_
    refine aq_block_exit ?_
    exact aq_join (l8v6, l8x6) h (fun w a hm hs => norm hm hs [0] [0] [(6, l8v6)] (by decide) ⟨rfl, trivial⟩)
 ·clear hkk2
  refine aw_sr ?_
  refine al_mv rfl rfl ?_
  refine al_val (ov_lenD 0 rfl rfl Try.underlying204 rfl) ?_
  refine al_mv rfl rfl ?_
  refine al_nt ?_
  refine aw_block ?_
  refine aw_state (aw_loop (ι := Int × Int) (fun i => (memOf w0 Z0 [] [] [(fDat (tyList (tyList (tyInt .i64))) [v0_0] a0)])) (fun i => (tab [(0, v0_0), (3, (int .i64 i.1)), (9, v0_0), (10, (int .i64 (a0.length : Int))), (11, (int .i64 i.2))])) (fun q i => f_slices_Concat___int_int__L20 a0 kk2 q i.1 i.2 = some r) ?_ fu ((0 : Int), (0 : Int)) h) (fun w a hm hs => norm hm hs [] [0] [(0, v0_0), (3, (int .i64 (0 : Int))), (9, v0_0), (10, (int .i64 (a0.length : Int))), (11, (int .i64 (0 : Int)))] (by decide) ⟨rfl, rfl, rfl, rfl, rfl, trivial⟩)
  clear h
  rintro k19 ⟨l18i3, l18i11⟩ h
  have h : f_slices_Concat___int_int__L20 a0 kk2 k19 l18i3 l18i11 = some r := h
  obtain _ | k19 := k19
  · rw [f_slices_Concat___int_int__L20] at h; cases h
  rw [f_slices_Concat___int_int__L20] at h
  refine aw_show (m := (memOf w0 Z0 [] [] [(fDat (tyList (tyList (tyInt .i64))) [v0_0] a0)])) (S := (tab [(0, v0_0), (3, (int .i64 l18i3)), (9, v0_0), (10, (int .i64 (a0.length : Int))), (11, (int .i64 l18i11))])) ?_
  refine aw_sr ?_
  refine al_in rfl rfl rfl rfl ?_
  refine al_nt ?_
  refine aw_seq ?_
  refine aw_cond rfl (fun hb21 => ?_) (fun hb21 => ?_)
  ·replace h := bif_t hb21 h
   refine aw_skip ?_
   refine aq_then ?_
   refine aw_seq ?_
   refine aw_block ?_
   refine aw_sr ?_
   obtain ⟨u22, hu23, h⟩ := opt_some h
   refine al_idxD 0 hu23 rfl rfl rfl Try.underlying204 sz22 rfl (fun p24 => ?_)
   refine al_loadP1 0 rfl rfl Try.underlying22 sz22 rfl rfl rfl (fun s25 => ?_)
   refine al_as rfl rfl ?_
   refine al_nt ?_
   refine aw_sr ?_
   refine al_mv rfl rfl ?_
   refine al_mv rfl rfl ?_
   refine al_val (ov_lenD 0 rfl rfl Try.underlying22 rfl) ?_
   refine al_in rfl rfl rfl rfl ?_
   refine al_as rfl rfl ?_
   refine al_nt ?_
   refine aw_sr ?_
   refine al_mv rfl rfl ?_
   refine al_in rfl rfl rfl rfl ?_
   refine al_nt ?_
   refine aw_cond rfl (fun hb26 => ?_) (fun hb26 => ?_)
   ·replace h := bif_t hb26 h
    refine aw_region ?_
    cases h
   ·replace h := bif_f hb26 h
    refine aw_skip ?_
    refine aq_block ?_
    refine aq_then ?_
    refine aw_region ?_
    refine al_in rfl rfl rfl rfl ?_
    refine al_mv rfl rfl ?_
    refine al_nil ?_
    exact aq_again k19 ((IntKind.i64.wrap (l18i3 + (u22.length : Int))), (IntKind.i64.wrap (l18i11 + (1 : Int)))) (Nat.lt_succ_self _) h (fun w a hm hs => norm hm hs [] [2] [(0, v0_0), (3, (int .i64 (IntKind.i64.wrap (l18i3 + (u22.length : Int))))), (9, v0_0), (10, (int .i64 (a0.length : Int))), (11, (int .i64 (IntKind.i64.wrap (l18i11 + (1 : Int)))))] (by decide) ⟨rfl, rfl, rfl, rfl, rfl, trivial⟩)
  ·replace h := bif_f hb21 h
   refine aw_exit ?_
   refine aq_then_exit ?_
   refine aq_then_exit ?_
   refine aq_block_exit ?_
   exact aq_join l18i3 h (fun w a hm hs => norm hm hs [] [0] [(0, v0_0), (3, (int .i64 l18i3))] (by decide) ⟨rfl, rfl, trivial⟩)
def f_slices_IndexFunc___int_int__F60_L5 (a0 : (List Int)) (kk2 : (Unit → Option Int)) (fu : Nat) : Nat → Int → Option Int
  | 0, _ => none
  | k4 + 1, l3i8 => (bif (decide (l3i8 < (a0.length : Int))) then (opt (at? a0 l3i8) fun (u7 : Int) => (opt (f_huff_Lengths_1 fu u7) fun (r11 : Bool) => (bif r11 then (some l3i8) else (f_slices_IndexFunc___int_int__F60_L5 a0 kk2 fu k4 (IntKind.i64.wrap (l3i8 + (1 : Int))))))) else (kk2 ()))
def f_slices_IndexFunc___int_int__F60 (fu : Nat) (a0 : (List Int)) : Option Int := (lt (fun (_ : Unit) => (some (-1 : Int))) fun (kk2 : Unit → Option Int) => (f_slices_IndexFunc___int_int__F60_L5 a0 kk2 fu fu (0 : Int)))
set_option maxRecDepth 100000 in
theorem f_slices_IndexFunc___int_int__F60_ok (fu : Nat) (v0_0 : Value) (a0 : (List Int)) {r : Int} (h : f_slices_IndexFunc___int_int__F60 fu a0 = some r) : FnOk Try.prog 133 [v0_0, (Value.func (.func 60) #[] #[])] [(fDat (tyList (tyInt .i64)) [v0_0] a0)] [] (fun (i : Unit) => { val := (int .i64 r) }) := by
 unfold f_slices_IndexFunc___int_int__F60 at h
 refine fn_enter Try.func133 rfl Try.ntmps133 rfl (fun w0 Z0 => ?_)
 refine aw_sr ?_
 refine al_as rfl rfl ?_
 refine al_nt ?_
 obtain ⟨kk2, hkk2, h⟩ := lt_some h
 refine aw_seq_join (ι := Unit) (fun i => (memOf w0 Z0 [] [] [(fDat (tyList (tyInt .i64)) [v0_0] a0)])) (fun i => (tab [])) (fun i => kk2 () = some r) ?_ ?_
 ·rintro _ h
  have h : kk2 () = some r := h
  rw [hkk2] at h
  dsimp only at h
  clear hkk2
  refine aw_show (m := (memOf w0 Z0 [] [] [(fDat (tyList (tyInt .i64)) [v0_0] a0)])) (S := (tab [])) ?_
  refine aw_sr ?_
  refine al_as rfl rfl ?_
  refine al_nt ?_
  refine aw_ret ?_
  obtain rfl := Option.some.inj h
  exact fn_ret () [] [] rfl rfl rfl rfl (res1 rfl rfl) rfl rfl rfl (by decide)
 ·clear hkk2
  refine aw_sr ?_
  refine al_mv rfl rfl ?_
  refine al_val (ov_lenD 0 rfl rfl Try.underlying22 rfl) ?_
  refine al_mv rfl rfl ?_
  refine al_nt ?_
  refine aw_block ?_
  refine aw_state (aw_loop (ι := Int) (fun i => (memOf w0 Z0 [] [] [(fDat (tyList (tyInt .i64)) [v0_0] a0)])) (fun i => (tab [(0, v0_0), (1, (Value.func (.func 60) #[] #[])), (7, (int .i64 (a0.length : Int))), (8, (int .i64 i))])) (fun q i => f_slices_IndexFunc___int_int__F60_L5 a0 kk2 fu q i = some r) ?_ fu (0 : Int) h) (fun w a hm hs => norm hm hs [] [0] [(0, v0_0), (1, (Value.func (.func 60) #[] #[])), (7, (int .i64 (a0.length : Int))), (8, (int .i64 (0 : Int)))] (by decide) ⟨rfl, rfl, rfl, rfl, trivial⟩)
  clear h
  rintro k4 l3i8 h
  have h : f_slices_IndexFunc___int_int__F60_L5 a0 kk2 fu k4 l3i8 = some r := h
  obtain _ | k4 := k4
  · rw [f_slices_IndexFunc___int_int__F60_L5] at h; cases h
  rw [f_slices_IndexFunc___int_int__F60_L5] at h
  refine aw_show (m := (memOf w0 Z0 [] [] [(fDat (tyList (tyInt .i64)) [v0_0] a0)])) (S := (tab [(0, v0_0), (1, (Value.func (.func 60) #[] #[])), (7, (int .i64 (a0.length : Int))), (8, (int .i64 l3i8))])) ?_
  refine aw_sr ?_
  refine al_in rfl rfl rfl rfl ?_
  refine al_nt ?_
  refine aw_seq ?_
  refine aw_cond rfl (fun hb6 => ?_) (fun hb6 => ?_)
  ·replace h := bif_t hb6 h
   refine aw_skip ?_
   refine aq_then ?_
   refine aw_seq ?_
   refine aw_block ?_
   refine aw_sr ?_
   refine al_mv rfl rfl ?_
   refine al_as rfl rfl ?_
   refine al_nt ?_
   refine aw_sr ?_
   refine al_mv rfl rfl ?_
   refine al_mv rfl rfl ?_
   refine al_mv rfl rfl ?_
   obtain ⟨u7, hu8, h⟩ := opt_some h
   refine al_idxD 0 hu8 rfl rfl rfl Try.underlying22 sz3 rfl (fun p9 => ?_)
   refine al_val (ov_loadP (ds := [(int .i64 u7)]) 0 rfl (fun h => h) rfl Try.underlying3 sz3 rfl rfl rfl) ?_
   obtain ⟨r11, hc10, h⟩ := opt_some h
   refine al_callF (vs := [(int .i64 u7)]) (caps := []) (f_huff_Lengths_1_ok fu u7 hc10) rfl [] [] [] pre_nil rfl (by simp) (by decide) (.inl rfl) rfl rfl Try.func60 rfl rfl rfl (fun _ => ?_)
   refine al_nt ?_
   refine aw_cond rfl (fun hb12 => ?_) (fun hb12 => ?_)
   ·replace h := bif_t hb12 h
    refine aw_sr ?_
    refine al_mv rfl rfl ?_
    refine al_as rfl rfl ?_
    refine al_nt ?_
    refine aw_ret ?_
    refine aq_block_ret ?_
    refine aq_then_ret ?_
    refine aq_then_ret ?_
    refine aq_block_ret ?_
    refine aq_then_ret ?_
    obtain rfl := Option.some.inj h
    exact fn_ret () [] [] rfl rfl rfl rfl (res1 rfl rfl) rfl rfl rfl (by decide)
   ·replace h := bif_f hb12 h
    refine aw_skip ?_
    refine aq_block ?_
    refine aq_then ?_
    refine aw_region ?_
    refine al_in rfl rfl rfl rfl ?_
    refine al_mv rfl rfl ?_
    refine al_nil ?_
    exact aq_again k4 (IntKind.i64.wrap (l3i8 + (1 : Int))) (Nat.lt_succ_self _) h (fun w a hm hs => norm hm hs [] [1] [(0, v0_0), (1, (Value.func (.func 60) #[] #[])), (7, (int .i64 (a0.length : Int))), (8, (int .i64 (IntKind.i64.wrap (l3i8 + (1 : Int)))))] (by decide) ⟨rfl, rfl, rfl, rfl, trivial⟩)
  ·replace h := bif_f hb6 h
   refine aw_exit ?_
   refine aq_then_exit ?_
   refine aq_then_exit ?_
   refine aq_block_exit ?_
   exact aq_join () h (fun w a hm hs => norm hm hs [] [0] [] (by decide) trivial)
def f_slices_ContainsFunc___int_int__F60 (fu : Nat) (a0 : (List Int)) : Option Bool := (opt (f_slices_IndexFunc___int_int__F60 fu a0) fun (r2 : Int) => (some (decide (r2 ≥ (0 : Int)))))
set_option maxRecDepth 100000 in
theorem f_slices_ContainsFunc___int_int__F60_ok (fu : Nat) (v0_0 : Value) (a0 : (List Int)) {r : Bool} (h : f_slices_ContainsFunc___int_int__F60 fu a0 = some r) : FnOk Try.prog 59 [v0_0, (Value.func (.func 60) #[] #[])] [(fDat (tyList (tyInt .i64)) [v0_0] a0)] [] (fun (i : Unit) => { val := (bool r) }) := by
 unfold f_slices_ContainsFunc___int_int__F60 at h
 refine fn_enter Try.func59 rfl Try.ntmps59 rfl (fun w0 Z0 => ?_)
 refine aw_sr ?_
 refine al_as rfl rfl ?_
 refine al_nt ?_
 refine aw_sr ?_
 refine al_mv rfl rfl ?_
 refine al_mv rfl rfl ?_
 obtain ⟨r2, hc1, h⟩ := opt_some h
 refine al_call (vs := [v0_0, (Value.func (.func 60) #[] #[])]) (f_slices_IndexFunc___int_int__F60_ok fu v0_0 a0 hc1) [] [] [] (pre_fz 0 rfl pre_nil) rfl (by simp) (by decide) (.inl rfl) rfl Try.func133 rfl rfl rfl (fun _ => ?_)
 refine al_in rfl rfl rfl rfl ?_
 refine al_as rfl rfl ?_
 refine al_nt ?_
 refine aw_ret ?_
 obtain rfl := Option.some.inj h
 exact fn_ret () [] [] rfl rfl rfl rfl (res1 rfl rfl) rfl rfl rfl (by decide)
def f___huff_heap_huff_tree___push_L7 (fu : Nat) : Nat → (List S_huff_tree) → Int → Option D_huff_heap_huff_tree_
  | 0, _, _ => none
  | k6 + 1, l5x0_0, l5i4 => (bif (decide (l5i4 > (0 : Int))) then (opt (at? l5x0_0 (IntKind.i64.wrap (((IntKind.i64.wrap (l5i4 - (1 : Int)))).tdiv (2 : Int)))) fun (u9 : S_huff_tree) => (opt (at? l5x0_0 l5i4) fun (u15 : S_huff_tree) => (opt (f_huff_Lengths_2 fu u9 u15) fun (r22 : Int) => (bif (decide (r22 ≤ (0 : Int))) then (some (D_huff_heap_huff_tree_.mk l5x0_0)) else (opt (at? l5x0_0 l5i4) fun (u24 : S_huff_tree) => (opt (at? l5x0_0 (IntKind.i64.wrap (((IntKind.i64.wrap (l5i4 - (1 : Int)))).tdiv (2 : Int)))) fun (u30 : S_huff_tree) => (opt (at? l5x0_0 (IntKind.i64.wrap (((IntKind.i64.wrap (l5i4 - (1 : Int)))).tdiv (2 : Int)))) fun (u36 : S_huff_tree) => (opt (at? (l5x0_0.set ((IntKind.i64.wrap (((IntKind.i64.wrap (l5i4 - (1 : Int)))).tdiv (2 : Int)))).toNat u24) l5i4) fun (u40 : S_huff_tree) => (f___huff_heap_huff_tree___push_L7 fu k6 ((l5x0_0.set ((IntKind.i64.wrap (((IntKind.i64.wrap (l5i4 - (1 : Int)))).tdiv (2 : Int)))).toNat u24).set (l5i4).toNat u30) (IntKind.i64.wrap (((IntKind.i64.wrap (l5i4 - (1 : Int)))).tdiv (2 : Int)))))))))))) else (some (D_huff_heap_huff_tree_.mk l5x0_0)))
def f___huff_heap_huff_tree___push (fu : Nat) (a0 : D_huff_heap_huff_tree_) (a1 : S_huff_tree) : Option D_huff_heap_huff_tree_ := (req (((a0.items.length + ([a1]).length) * 40 : Nat) ≤ 140737488355328 ∧ a0.items.length + ([a1]).length ≤ 9223372036854775807) (f___huff_heap_huff_tree___push_L7 fu fu (a0.items ++ ([a1])) (IntKind.i64.wrap (((a0.items ++ ([a1])).length : Int) - (1 : Int)))))
set_option maxRecDepth 100000 in
theorem f___huff_heap_huff_tree___push_ok (fu : Nat) (bx0 : Nat) (v0_0 : Value) (a0 : D_huff_heap_huff_tree_) (v1_2 : Value) (a1 : S_huff_tree) {r : D_huff_heap_huff_tree_} (h : f___huff_heap_huff_tree___push fu a0 a1 = some r) : FnOk Try.prog 63 [(ptr bx0 0), (ag [(int .i64 a1.weight), (int .i64 a1.least), v1_2])] [(fDat (tyList (tyInt .i64)) [v1_2] a1.symbols)] [(oBox bx0 127 [v0_0, (Value.func (.func 61) #[] #[])]), (oRow v0_0 122 tyS_huff_tree a0.items)] (fun (i : Value) => { val := (Value.tuple #[]), own := [(oBox bx0 127 [i, (Value.func (.func 61) #[] #[])]), (oRow i 122 tyS_huff_tree r.items)] }) := by
 unfold f___huff_heap_huff_tree___push at h
 refine fn_enter Try.func63 rfl Try.ntmps63 rfl (fun w0 Z0 => ?_)
 refine aw_sr ?_
 refine al_box (vs := [(int .i64 a1.weight), (int .i64 a1.least), v1_2]) rfl (cv_rfl rfl) rfl (fun g1 => ?_)
 refine al_nt ?_
 refine aw_seq ?_
 refine aw_region_open [⟨0, 6, Unit, fun _ => { val := (ptr bx0 0) }⟩, ⟨1, 7, Unit, fun _ => { val := (ptr bx0 0) }⟩, ⟨2, 8, Unit, fun _ => { val := (ptr bx0 0) }⟩, ⟨3, 9, Unit, fun _ => { val := (ptr bx0 0) }⟩, ⟨4, 10, Unit, fun _ => { val := v0_0 }⟩, ⟨5, 11, Unit, fun _ => { val := (ag [(int .i64 a1.weight), (int .i64 a1.least), v1_2]) }⟩, ⟨6, 12, Value, fun (i : Value) => { val := i, own := [(oRow i 122 tyS_huff_tree [a1])] }⟩] (tab [(0, (ptr bx0 0)), (3, (ptr g1 0))]) mixed (fun a hs => hs.tab _ (allT_mem ⟨rfl, rfl, trivial⟩)) ?_
 refine ta_show (m := (memOf w0 Z0 [(oBox bx0 127 [v0_0, (Value.func (.func 61) #[] #[])]), (oRow v0_0 122 tyS_huff_tree a0.items)] [(oBox g1 122 [(int .i64 a1.weight), (int .i64 a1.least), v1_2]), (oBox bx0 127 [v0_0, (Value.func (.func 61) #[] #[])]), (oRow v0_0 122 tyS_huff_tree a0.items)] [(fDat (tyList (tyInt .i64)) [v1_2] a1.symbols)])) (S := (tab [(0, (ptr bx0 0)), (3, (ptr g1 0))])) ?_
 refine ta_step 7 _ [0, 1, 2, 3, 4, 5, 6] [6, 7, 8, 9, 10, 11, 12] [1, 2, 3, 4, 5, 6] [8, 9] [⟨1, 7, Unit, fun _ => { val := (ptr bx0 0) }⟩, ⟨2, 8, Unit, fun _ => { val := (ptr bx0 0) }⟩, ⟨3, 9, Unit, fun _ => { val := (ptr bx0 0) }⟩, ⟨4, 10, Unit, fun _ => { val := v0_0 }⟩, ⟨5, 11, Unit, fun _ => { val := (ag [(int .i64 a1.weight), (int .i64 a1.least), v1_2]) }⟩, ⟨6, 12, Value, fun (i : Value) => { val := i, own := [(oRow i 122 tyS_huff_tree [a1])] }⟩] [⟨0, 6, Unit, fun _ => { val := (ptr bx0 0) }⟩] rfl rfl rfl (by kernel_rfl) rfl rfl rfl ⟨⟨_, rfl, [], rfl, by
 intro X_ Y_ F_ K_ hK_
 refine al_show (m := Mem.plus (memOf w0 Z0 [(oBox bx0 127 [v0_0, (Value.func (.func 61) #[] #[])]), (oRow v0_0 122 tyS_huff_tree a0.items)] [(oBox g1 122 [(int .i64 a1.weight), (int .i64 a1.least), v1_2]), (oBox bx0 127 [v0_0, (Value.func (.func 61) #[] #[])]), (oRow v0_0 122 tyS_huff_tree a0.items)] [(fDat (tyList (tyInt .i64)) [v1_2] a1.symbols)]) X_ Y_) (S := over (tab [(0, (ptr bx0 0)), (3, (ptr g1 0))]) F_) ?_
 refine al_mv rfl rfl ?_
 refine al_nil ?_
 exact fr_fin hK_ ()⟩, ⟨_, rfl, [], rfl, by
 intro X_ Y_ F_ K_ hK_
 refine al_show (m := Mem.plus (memOf w0 Z0 [(oBox bx0 127 [v0_0, (Value.func (.func 61) #[] #[])]), (oRow v0_0 122 tyS_huff_tree a0.items)] [(oBox g1 122 [(int .i64 a1.weight), (int .i64 a1.least), v1_2]), (oBox bx0 127 [v0_0, (Value.func (.func 61) #[] #[])]), (oRow v0_0 122 tyS_huff_tree a0.items)] [(fDat (tyList (tyInt .i64)) [v1_2] a1.symbols)]) X_ Y_) (S := over (tab [(0, (ptr bx0 0)), (3, (ptr g1 0))]) F_) ?_
 refine al_mv rfl rfl ?_
 refine al_nil ?_
 exact fr_fin hK_ ()⟩, ⟨_, rfl, [1], rfl, by
 intro _
 intro X_ Y_ F_ K_ hK_
 refine al_show (m := Mem.plus (memOf w0 Z0 [(oBox bx0 127 [v0_0, (Value.func (.func 61) #[] #[])]), (oRow v0_0 122 tyS_huff_tree a0.items)] [(oBox g1 122 [(int .i64 a1.weight), (int .i64 a1.least), v1_2]), (oBox bx0 127 [v0_0, (Value.func (.func 61) #[] #[])]), (oRow v0_0 122 tyS_huff_tree a0.items)] [(fDat (tyList (tyInt .i64)) [v1_2] a1.symbols)]) X_ Y_) (S := over (put (tab [(0, (ptr bx0 0)), (3, (ptr g1 0))]) 7 (ptr bx0 0)) F_) ?_
 refine al_val (ov_nilCheck rfl rfl) ?_
 refine al_nil ?_
 exact fr_fin hK_ ()⟩, ⟨_, rfl, [2], rfl, by
 intro _
 intro X_ Y_ F_ K_ hK_
 refine al_show (m := Mem.plus (memOf w0 Z0 [(oBox bx0 127 [v0_0, (Value.func (.func 61) #[] #[])]), (oRow v0_0 122 tyS_huff_tree a0.items)] [(oBox g1 122 [(int .i64 a1.weight), (int .i64 a1.least), v1_2]), (oBox bx0 127 [v0_0, (Value.func (.func 61) #[] #[])]), (oRow v0_0 122 tyS_huff_tree a0.items)] [(fDat (tyList (tyInt .i64)) [v1_2] a1.symbols)]) X_ Y_) (S := over (put (tab [(0, (ptr bx0 0)), (3, (ptr g1 0))]) 8 (ptr bx0 0)) F_) ?_
 refine al_val (ov_fieldA (p := 0) rfl Try.underlying127 rfl sz125 rfl rfl rfl) ?_
 refine al_nil ?_
 exact fr_fin hK_ ()⟩, ⟨_, rfl, [3], rfl, by
 intro _
 intro X_ Y_ F_ K_ hK_
 refine al_show (m := Mem.plus (memOf w0 Z0 [(oBox bx0 127 [v0_0, (Value.func (.func 61) #[] #[])]), (oRow v0_0 122 tyS_huff_tree a0.items)] [(oBox g1 122 [(int .i64 a1.weight), (int .i64 a1.least), v1_2]), (oBox bx0 127 [v0_0, (Value.func (.func 61) #[] #[])]), (oRow v0_0 122 tyS_huff_tree a0.items)] [(fDat (tyList (tyInt .i64)) [v1_2] a1.symbols)]) X_ Y_) (S := over (put (tab [(0, (ptr bx0 0)), (3, (ptr g1 0))]) 9 (ptr bx0 0)) F_) ?_
 refine al_val (ov_load (i := 1) (v := v0_0) rfl rfl Try.underlying125 sz125 rfl rfl rfl rfl) ?_
 refine al_nil ?_
 exact fr_fin hK_ ()⟩, ⟨_, rfl, [], rfl, by
 intro X_ Y_ F_ K_ hK_
 refine al_show (m := Mem.plus (memOf w0 Z0 [(oBox bx0 127 [v0_0, (Value.func (.func 61) #[] #[])]), (oRow v0_0 122 tyS_huff_tree a0.items)] [(oBox g1 122 [(int .i64 a1.weight), (int .i64 a1.least), v1_2]), (oBox bx0 127 [v0_0, (Value.func (.func 61) #[] #[])]), (oRow v0_0 122 tyS_huff_tree a0.items)] [(fDat (tyList (tyInt .i64)) [v1_2] a1.symbols)]) X_ Y_) (S := over (tab [(0, (ptr bx0 0)), (3, (ptr g1 0))]) F_) ?_
 refine al_val (ov_load (i := 0) (v := (ag [(int .i64 a1.weight), (int .i64 a1.least), v1_2])) rfl rfl Try.underlying122 sz122 rfl rfl rfl rfl) ?_
 refine al_nil ?_
 exact fr_fin hK_ ()⟩, ⟨_, rfl, [5], rfl, by
 intro _
 intro X_ Y_ F_ K_ hK_
 refine al_show (m := Mem.plus (memOf w0 Z0 [(oBox bx0 127 [v0_0, (Value.func (.func 61) #[] #[])]), (oRow v0_0 122 tyS_huff_tree a0.items)] [(oBox g1 122 [(int .i64 a1.weight), (int .i64 a1.least), v1_2]), (oBox bx0 127 [v0_0, (Value.func (.func 61) #[] #[])]), (oRow v0_0 122 tyS_huff_tree a0.items)] [(fDat (tyList (tyInt .i64)) [v1_2] a1.symbols)]) X_ Y_) (S := over (put (tab [(0, (ptr bx0 0)), (3, (ptr g1 0))]) 11 (ag [(int .i64 a1.weight), (int .i64 a1.least), v1_2])) F_) ?_
 refine al_buildSlice (τ := tyS_huff_tree) (e := 122) (k := 1) (sz := 0) (by_ := 0) (z := undef) (cs := [(int .i64 a1.weight), (int .i64 a1.least), v1_2]) (xs := [a1]) rfl (by decide) (fun w a hm hs => ⟨([(int .i64 a1.weight), (int .i64 a1.least), v1_2]).toArray, rfl, by simp only [List.map_toArray, List.map_cons, List.map_nil, hs.ev (x := .tmp 11) rfl]; exact run_bs [(ag [(int .i64 a1.weight), (int .i64 a1.least), v1_2])] [(int .i64 a1.weight), (int .i64 a1.least), v1_2] Try.underlying125 to122 rfl rfl (bs_cons (l := [(int .i64 a1.weight), (int .i64 a1.least), v1_2]) (cs := []) (cv_rfl rfl) rfl bs_nil) hm⟩) (fun hm => ⟨_, _, rfl, (fun hm => mknS_huff_tree rfl (fz_at (i := 0) hm rfl)) hm, rfl⟩) rfl (fun v2 => ?_)
 refine al_nil ?_
 exact fr_fin hK_ v2⟩, trivial⟩ ?_
 intro _
 intro _
 intro _
 intro _
 intro _
 intro v2
 intro X_ Y_ F_ K_ hK_
 refine al_show (m := Mem.plus (memOf w0 Z0 [(oBox bx0 127 [v0_0, (Value.func (.func 61) #[] #[])]), (oRow v0_0 122 tyS_huff_tree a0.items)] [(oRow v2 122 tyS_huff_tree [a1]), (oBox g1 122 [(int .i64 a1.weight), (int .i64 a1.least), v1_2]), (oBox bx0 127 [v0_0, (Value.func (.func 61) #[] #[])]), (oRow v0_0 122 tyS_huff_tree a0.items)] [(fDat (tyList (tyInt .i64)) [v1_2] a1.symbols)]) X_ Y_) (S := over (put (put (put (put (put (put (tab [(0, (ptr bx0 0)), (3, (ptr g1 0))]) 7 (ptr bx0 0)) 8 (ptr bx0 0)) 9 (ptr bx0 0)) 10 v0_0) 11 (ag [(int .i64 a1.weight), (int .i64 a1.least), v1_2])) 12 v2) F_) ?_
 obtain ⟨hc3, h⟩ := req_some h
 refine al_append 3 hc3.1 hc3.2 rfl (src_own (i := 3) 0 rfl) rfl rfl Try.underlying125 to122 rfl rfl rfl (fun v4 => ?_)
 refine al_nil ?_
 refine aq_show (m := Mem.plus (memOf w0 Z0 [(oBox bx0 127 [v0_0, (Value.func (.func 61) #[] #[])]), (oRow v0_0 122 tyS_huff_tree a0.items)] [(oRow v2 122 tyS_huff_tree [a1]), (oBox g1 122 [(int .i64 a1.weight), (int .i64 a1.least), v1_2]), (oBox bx0 127 [v0_0, (Value.func (.func 61) #[] #[])]), (oRow v4 122 tyS_huff_tree (a0.items ++ ([a1])))] [(fDat (tyList (tyInt .i64)) [v1_2] a1.symbols)]) X_ Y_) ?_
 refine aq_next hK_ [0, 1, 2, 3] [0] [(0, (ptr bx0 0)), (13, v4)] [6] [⟨8, 14, Unit, fun _ => { val := (ptr bx0 0) }⟩, ⟨9, 15, Unit, fun _ => { val := (ptr bx0 0) }⟩] rfl rfl (by decide) rfl ⟨rfl, rfl, trivial⟩ ⟨rfl, trivial⟩ ?_
 clear hK_ K_ F_ X_ Y_
 refine ta_show (m := (memOf w0 Z0 [(oBox bx0 127 [v0_0, (Value.func (.func 61) #[] #[])]), (oRow v0_0 122 tyS_huff_tree a0.items)] [(oRow v2 122 tyS_huff_tree [a1]), (oBox g1 122 [(int .i64 a1.weight), (int .i64 a1.least), v1_2]), (oBox bx0 127 [v0_0, (Value.func (.func 61) #[] #[])]), (oRow v4 122 tyS_huff_tree (a0.items ++ ([a1])))] [(fDat (tyList (tyInt .i64)) [v1_2] a1.symbols)])) (S := (tab [(0, (ptr bx0 0)), (13, v4)])) ?_
 refine ta_step 10 _ [0, 8, 9] [6, 14, 15] [0, 8, 9] [] [⟨0, 6, Unit, fun _ => { val := (ptr bx0 0) }⟩, ⟨8, 14, Unit, fun _ => { val := (ptr bx0 0) }⟩, ⟨9, 15, Unit, fun _ => { val := (ptr bx0 0) }⟩] [] rfl rfl rfl (by kernel_rfl) rfl rfl rfl ⟨⟨_, rfl, [], rfl, by
 intro X_ Y_ F_ K_ hK_
 refine al_show (m := Mem.plus (memOf w0 Z0 [(oBox bx0 127 [v0_0, (Value.func (.func 61) #[] #[])]), (oRow v0_0 122 tyS_huff_tree a0.items)] [(oRow v2 122 tyS_huff_tree [a1]), (oBox g1 122 [(int .i64 a1.weight), (int .i64 a1.least), v1_2]), (oBox bx0 127 [v0_0, (Value.func (.func 61) #[] #[])]), (oRow v4 122 tyS_huff_tree (a0.items ++ ([a1])))] [(fDat (tyList (tyInt .i64)) [v1_2] a1.symbols)]) X_ Y_) (S := over (tab [(0, (ptr bx0 0)), (13, v4)]) F_) ?_
 refine al_mv rfl rfl ?_
 refine al_nil ?_
 exact fr_fin hK_ ()⟩, ⟨_, rfl, [0], rfl, by
 intro _
 intro X_ Y_ F_ K_ hK_
 refine al_show (m := Mem.plus (memOf w0 Z0 [(oBox bx0 127 [v0_0, (Value.func (.func 61) #[] #[])]), (oRow v0_0 122 tyS_huff_tree a0.items)] [(oRow v2 122 tyS_huff_tree [a1]), (oBox g1 122 [(int .i64 a1.weight), (int .i64 a1.least), v1_2]), (oBox bx0 127 [v0_0, (Value.func (.func 61) #[] #[])]), (oRow v4 122 tyS_huff_tree (a0.items ++ ([a1])))] [(fDat (tyList (tyInt .i64)) [v1_2] a1.symbols)]) X_ Y_) (S := over (put (tab [(0, (ptr bx0 0)), (13, v4)]) 6 (ptr bx0 0)) F_) ?_
 refine al_val (ov_nilCheck rfl rfl) ?_
 refine al_nil ?_
 exact fr_fin hK_ ()⟩, ⟨_, rfl, [0, 1], rfl, by
 intro _
 intro _
 intro X_ Y_ F_ K_ hK_
 refine al_show (m := Mem.plus (memOf w0 Z0 [(oBox bx0 127 [v0_0, (Value.func (.func 61) #[] #[])]), (oRow v0_0 122 tyS_huff_tree a0.items)] [(oRow v2 122 tyS_huff_tree [a1]), (oBox g1 122 [(int .i64 a1.weight), (int .i64 a1.least), v1_2]), (oBox bx0 127 [v0_0, (Value.func (.func 61) #[] #[])]), (oRow v4 122 tyS_huff_tree (a0.items ++ ([a1])))] [(fDat (tyList (tyInt .i64)) [v1_2] a1.symbols)]) X_ Y_) (S := over (put (put (tab [(0, (ptr bx0 0)), (13, v4)]) 6 (ptr bx0 0)) 14 (ptr bx0 0)) F_) ?_
 refine al_val (ov_fieldA (p := 0) rfl Try.underlying127 rfl sz125 rfl rfl rfl) ?_
 refine al_nil ?_
 exact fr_fin hK_ ()⟩, trivial⟩ ?_
 intro _
 intro _
 intro _
 intro X_ Y_ F_ K_ hK_
 refine al_show (m := Mem.plus (memOf w0 Z0 [(oBox bx0 127 [v0_0, (Value.func (.func 61) #[] #[])]), (oRow v0_0 122 tyS_huff_tree a0.items)] [(oRow v2 122 tyS_huff_tree [a1]), (oBox g1 122 [(int .i64 a1.weight), (int .i64 a1.least), v1_2]), (oBox bx0 127 [v0_0, (Value.func (.func 61) #[] #[])]), (oRow v4 122 tyS_huff_tree (a0.items ++ ([a1])))] [(fDat (tyList (tyInt .i64)) [v1_2] a1.symbols)]) X_ Y_) (S := over (put (put (put (tab [(0, (ptr bx0 0)), (13, v4)]) 6 (ptr bx0 0)) 14 (ptr bx0 0)) 15 (ptr bx0 0)) F_) ?_
 refine al_store (i := 2) (vs := [v4]) (cs' := [v4, (Value.func (.func 61) #[] #[])]) rfl rfl rfl sz125 (cv_own 3 rfl) rfl (co_own 3 rfl co_nil) (Nat.le_of_ble_eq_true rfl) rfl rfl ?_
 refine al_nil ?_
 refine aq_show (m := Mem.plus (memOf w0 Z0 [(oBox bx0 127 [v0_0, (Value.func (.func 61) #[] #[])]), (oRow v0_0 122 tyS_huff_tree a0.items)] [(oRow v2 122 tyS_huff_tree [a1]), (oBox g1 122 [(int .i64 a1.weight), (int .i64 a1.least), v1_2]), (oBox bx0 127 [v4, (Value.func (.func 61) #[] #[])]), (oRow v4 122 tyS_huff_tree (a0.items ++ ([a1])))] [(fDat (tyList (tyInt .i64)) [v1_2] a1.symbols)]) X_ Y_) ?_
 refine aq_next hK_ [0, 1, 2, 3] [0] [(0, (ptr bx0 0))] [] [] rfl rfl (by decide) rfl ⟨rfl, trivial⟩ trivial ?_
 clear hK_ K_ F_ X_ Y_
 refine ta_show (m := (memOf w0 Z0 [(oBox bx0 127 [v0_0, (Value.func (.func 61) #[] #[])]), (oRow v0_0 122 tyS_huff_tree a0.items)] [(oRow v2 122 tyS_huff_tree [a1]), (oBox g1 122 [(int .i64 a1.weight), (int .i64 a1.least), v1_2]), (oBox bx0 127 [v4, (Value.func (.func 61) #[] #[])]), (oRow v4 122 tyS_huff_tree (a0.items ++ ([a1])))] [(fDat (tyList (tyInt .i64)) [v1_2] a1.symbols)])) (S := (tab [(0, (ptr bx0 0))])) ?_
 refine ta_end [] [] rfl rfl (by kernel_rfl) rfl trivial ?_
 refine aq_show (m := (memOf w0 Z0 [(oBox bx0 127 [v0_0, (Value.func (.func 61) #[] #[])]), (oRow v0_0 122 tyS_huff_tree a0.items)] [(oRow v2 122 tyS_huff_tree [a1]), (oBox g1 122 [(int .i64 a1.weight), (int .i64 a1.least), v1_2]), (oBox bx0 127 [v4, (Value.func (.func 61) #[] #[])]), (oRow v4 122 tyS_huff_tree (a0.items ++ ([a1])))] [(fDat (tyList (tyInt .i64)) [v1_2] a1.symbols)])) (S := (tab [(0, (ptr bx0 0))])) ?_
 refine aq_tr ?_
 refine al_mv rfl rfl ?_
 refine al_val (ov_nilCheck rfl rfl) ?_
 refine al_val (ov_fieldA (p := 0) rfl Try.underlying127 rfl sz125 rfl rfl rfl) ?_
 refine al_val (ov_load (i := 2) (v := v4) rfl rfl Try.underlying125 sz125 rfl rfl rfl rfl) ?_
 refine al_val (ov_lenR 3 rfl rfl Try.underlying125 rfl) ?_
 refine al_in rfl rfl rfl rfl ?_
 refine al_as rfl rfl ?_
 refine al_nt ?_
 refine aw_block ?_
 refine aw_state (aw_loop (ι := (List S_huff_tree) × Int) (fun i => (memOf w0 Z0 [(oBox bx0 127 [v0_0, (Value.func (.func 61) #[] #[])]), (oRow v0_0 122 tyS_huff_tree a0.items)] [(oRow v4 122 tyS_huff_tree i.1), (oBox bx0 127 [v4, (Value.func (.func 61) #[] #[])])] [(fDat (tyList (tyInt .i64)) [v1_2] a1.symbols)])) (fun i => (tab [(0, (ptr bx0 0)), (4, (int .i64 i.2))])) (fun q i => f___huff_heap_huff_tree___push_L7 fu q i.1 i.2 = some r) ?_ fu ((a0.items ++ ([a1])), (IntKind.i64.wrap (((a0.items ++ ([a1])).length : Int) - (1 : Int)))) h) (fun w a hm hs => norm hm hs [3, 2] [0] [(0, (ptr bx0 0)), (4, (int .i64 (IntKind.i64.wrap (((a0.items ++ ([a1])).length : Int) - (1 : Int)))))] (by decide) ⟨rfl, rfl, trivial⟩)
 clear h
 rintro k6 ⟨l5x0_0, l5i4⟩ h
 have h : f___huff_heap_huff_tree___push_L7 fu k6 l5x0_0 l5i4 = some r := h
 obtain _ | k6 := k6
 · rw [f___huff_heap_huff_tree___push_L7] at h; cases h
 rw [f___huff_heap_huff_tree___push_L7] at h
 refine aw_show (m := (memOf w0 Z0 [(oBox bx0 127 [v0_0, (Value.func (.func 61) #[] #[])]), (oRow v0_0 122 tyS_huff_tree a0.items)] [(oRow v4 122 tyS_huff_tree l5x0_0), (oBox bx0 127 [v4, (Value.func (.func 61) #[] #[])])] [(fDat (tyList (tyInt .i64)) [v1_2] a1.symbols)])) (S := (tab [(0, (ptr bx0 0)), (4, (int .i64 l5i4))])) ?_
 refine aw_seq ?_
 refine aw_sr ?_
 refine al_mv rfl rfl ?_
 refine al_in rfl rfl rfl rfl ?_
 refine al_nt ?_
 refine aw_cond rfl (fun hb8 => ?_) (fun hb8 => ?_)
 ·replace h := bif_t hb8 h
  refine aw_skip ?_
  refine aq_then ?_
  refine aw_block ?_
  refine aw_sr ?_
  refine al_mv rfl rfl ?_
  refine al_in rfl rfl rfl rfl ?_
  refine al_val (ov_quo (by decide) rfl rfl rfl) ?_
  refine al_as rfl rfl ?_
  refine al_nt ?_
  refine aw_seq ?_
  refine aw_seq ?_
  obtain ⟨u9, hu10, h⟩ := opt_some h
  obtain ⟨u15, hu16, h⟩ := opt_some h
  refine aw_region_open [⟨0, 27, Unit, fun _ => { val := (ptr bx0 0) }⟩, ⟨1, 28, Unit, fun _ => { val := (ptr bx0 0) }⟩, ⟨2, 29, Unit, fun _ => { val := (ptr bx0 1) }⟩, ⟨3, 30, Unit, fun _ => { val := (Value.func (.func 61) #[] #[]) }⟩, ⟨4, 31, Unit, fun _ => { val := (ptr bx0 0) }⟩, ⟨5, 32, Unit, fun _ => { val := (ptr bx0 0) }⟩, ⟨6, 33, Unit, fun _ => { val := (ptr bx0 0) }⟩, ⟨7, 34, Unit, fun _ => { val := v4 }⟩, ⟨8, 35, Unit, fun _ => { val := (int .i64 (IntKind.i64.wrap (((IntKind.i64.wrap (l5i4 - (1 : Int)))).tdiv (2 : Int)))) }⟩, ⟨9, 36, {p : Value // EltOf v4 p (((IntKind.i64.wrap (((IntKind.i64.wrap (l5i4 - (1 : Int)))).tdiv (2 : Int)))).toNat * Ty.size tyS_huff_tree)}, fun p => { val := p.1 }⟩, ⟨10, 37, Value, fun (i : Value) => { val := (ag [(int .i64 u9.weight), (int .i64 u9.least), i]), fz := [(fDat (tyList (tyInt .i64)) [i] u9.symbols), (fDat tyS_huff_tree [(int .i64 u9.weight), (int .i64 u9.least), i] u9)] }⟩, ⟨11, 38, Unit, fun _ => { val := (ptr bx0 0) }⟩, ⟨12, 39, Unit, fun _ => { val := (ptr bx0 0) }⟩, ⟨13, 40, Unit, fun _ => { val := (ptr bx0 0) }⟩, ⟨14, 41, Unit, fun _ => { val := v4 }⟩, ⟨15, 42, Unit, fun _ => { val := (int .i64 l5i4) }⟩, ⟨16, 43, {p : Value // EltOf v4 p ((l5i4).toNat * Ty.size tyS_huff_tree)}, fun p => { val := p.1 }⟩, ⟨17, 44, Value, fun (i : Value) => { val := (ag [(int .i64 u15.weight), (int .i64 u15.least), i]), fz := [(fDat (tyList (tyInt .i64)) [i] u15.symbols), (fDat tyS_huff_tree [(int .i64 u15.weight), (int .i64 u15.least), i] u15)] }⟩] (tab [(0, (ptr bx0 0)), (4, (int .i64 l5i4)), (5, (int .i64 (IntKind.i64.wrap (((IntKind.i64.wrap (l5i4 - (1 : Int)))).tdiv (2 : Int)))))]) mixed (fun a hs => hs.tab _ (allT_mem ⟨rfl, rfl, rfl, trivial⟩)) ?_
  refine ta_show (m := (memOf w0 Z0 [(oBox bx0 127 [v0_0, (Value.func (.func 61) #[] #[])]), (oRow v0_0 122 tyS_huff_tree a0.items)] [(oRow v4 122 tyS_huff_tree l5x0_0), (oBox bx0 127 [v4, (Value.func (.func 61) #[] #[])])] [(fDat (tyList (tyInt .i64)) [v1_2] a1.symbols)])) (S := (tab [(0, (ptr bx0 0)), (4, (int .i64 l5i4)), (5, (int .i64 (IntKind.i64.wrap (((IntKind.i64.wrap (l5i4 - (1 : Int)))).tdiv (2 : Int)))))])) ?_
  refine ta_step 18 _ [0, 1, 2, 3, 4, 5, 6, 7, 8, 9, 10, 11, 12, 13, 14, 15, 16, 17] [27, 28, 29, 30, 31, 32, 33, 34, 35, 36, 37, 38, 39, 40, 41, 42, 43, 44] [0, 1, 2, 3, 4, 5, 6, 7, 8, 9, 10, 11, 12, 13, 14, 15, 16, 17] [19] [⟨0, 27, Unit, fun _ => { val := (ptr bx0 0) }⟩, ⟨1, 28, Unit, fun _ => { val := (ptr bx0 0) }⟩, ⟨2, 29, Unit, fun _ => { val := (ptr bx0 1) }⟩, ⟨3, 30, Unit, fun _ => { val := (Value.func (.func 61) #[] #[]) }⟩, ⟨4, 31, Unit, fun _ => { val := (ptr bx0 0) }⟩, ⟨5, 32, Unit, fun _ => { val := (ptr bx0 0) }⟩, ⟨6, 33, Unit, fun _ => { val := (ptr bx0 0) }⟩, ⟨7, 34, Unit, fun _ => { val := v4 }⟩, ⟨8, 35, Unit, fun _ => { val := (int .i64 (IntKind.i64.wrap (((IntKind.i64.wrap (l5i4 - (1 : Int)))).tdiv (2 : Int)))) }⟩, ⟨9, 36, {p : Value // EltOf v4 p (((IntKind.i64.wrap (((IntKind.i64.wrap (l5i4 - (1 : Int)))).tdiv (2 : Int)))).toNat * Ty.size tyS_huff_tree)}, fun p => { val := p.1 }⟩, ⟨10, 37, Value, fun (i : Value) => { val := (ag [(int .i64 u9.weight), (int .i64 u9.least), i]), fz := [(fDat (tyList (tyInt .i64)) [i] u9.symbols), (fDat tyS_huff_tree [(int .i64 u9.weight), (int .i64 u9.least), i] u9)] }⟩, ⟨11, 38, Unit, fun _ => { val := (ptr bx0 0) }⟩, ⟨12, 39, Unit, fun _ => { val := (ptr bx0 0) }⟩, ⟨13, 40, Unit, fun _ => { val := (ptr bx0 0) }⟩, ⟨14, 41, Unit, fun _ => { val := v4 }⟩, ⟨15, 42, Unit, fun _ => { val := (int .i64 l5i4) }⟩, ⟨16, 43, {p : Value // EltOf v4 p ((l5i4).toNat * Ty.size tyS_huff_tree)}, fun p => { val := p.1 }⟩, ⟨17, 44, Value, fun (i : Value) => { val := (ag [(int .i64 u15.weight), (int .i64 u15.least), i]), fz := [(fDat (tyList (tyInt .i64)) [i] u15.symbols), (fDat tyS_huff_tree [(int .i64 u15.weight), (int .i64 u15.least), i] u15)] }⟩] [] rfl rfl rfl (by kernel_rfl) rfl rfl rfl ⟨⟨_, rfl, [], rfl, by
 intro X_ Y_ F_ K_ hK_
 refine al_show (m := Mem.plus (memOf w0 Z0 [(oBox bx0 127 [v0_0, (Value.func (.func 61) #[] #[])]), (oRow v0_0 122 tyS_huff_tree a0.items)] [(oRow v4 122 tyS_huff_tree l5x0_0), (oBox bx0 127 [v4, (Value.func (.func 61) #[] #[])])] [(fDat (tyList (tyInt .i64)) [v1_2] a1.symbols)]) X_ Y_) (S := over (tab [(0, (ptr bx0 0)), (4, (int .i64 l5i4)), (5, (int .i64 (IntKind.i64.wrap (((IntKind.i64.wrap (l5i4 - (1 : Int)))).tdiv (2 : Int)))))]) F_) ?_
 refine al_mv rfl rfl ?_
 refine al_nil ?_
 exact fr_fin hK_ ()⟩, ⟨_, rfl, [0], rfl, by
 intro _
 intro X_ Y_ F_ K_ hK_
 refine al_show (m := Mem.plus (memOf w0 Z0 [(oBox bx0 127 [v0_0, (Value.func (.func 61) #[] #[])]), (oRow v0_0 122 tyS_huff_tree a0.items)] [(oRow v4 122 tyS_huff_tree l5x0_0), (oBox bx0 127 [v4, (Value.func (.func 61) #[] #[])])] [(fDat (tyList (tyInt .i64)) [v1_2] a1.symbols)]) X_ Y_) (S := over (put (tab [(0, (ptr bx0 0)), (4, (int .i64 l5i4)), (5, (int .i64 (IntKind.i64.wrap (((IntKind.i64.wrap (l5i4 - (1 : Int)))).tdiv (2 : Int)))))]) 27 (ptr bx0 0)) F_) ?_
 refine al_val (ov_nilCheck rfl rfl) ?_
 refine al_nil ?_
 exact fr_fin hK_ ()⟩, ⟨_, rfl, [1], rfl, by
 intro _
 intro X_ Y_ F_ K_ hK_
 refine al_show (m := Mem.plus (memOf w0 Z0 [(oBox bx0 127 [v0_0, (Value.func (.func 61) #[] #[])]), (oRow v0_0 122 tyS_huff_tree a0.items)] [(oRow v4 122 tyS_huff_tree l5x0_0), (oBox bx0 127 [v4, (Value.func (.func 61) #[] #[])])] [(fDat (tyList (tyInt .i64)) [v1_2] a1.symbols)]) X_ Y_) (S := over (put (tab [(0, (ptr bx0 0)), (4, (int .i64 l5i4)), (5, (int .i64 (IntKind.i64.wrap (((IntKind.i64.wrap (l5i4 - (1 : Int)))).tdiv (2 : Int)))))]) 28 (ptr bx0 0)) F_) ?_
 refine al_val (ov_fieldA (p := 1) rfl Try.underlying127 rfl sz124 rfl rfl rfl) ?_
 refine al_nil ?_
 exact fr_fin hK_ ()⟩, ⟨_, rfl, [2], rfl, by
 intro _
 intro X_ Y_ F_ K_ hK_
 refine al_show (m := Mem.plus (memOf w0 Z0 [(oBox bx0 127 [v0_0, (Value.func (.func 61) #[] #[])]), (oRow v0_0 122 tyS_huff_tree a0.items)] [(oRow v4 122 tyS_huff_tree l5x0_0), (oBox bx0 127 [v4, (Value.func (.func 61) #[] #[])])] [(fDat (tyList (tyInt .i64)) [v1_2] a1.symbols)]) X_ Y_) (S := over (put (tab [(0, (ptr bx0 0)), (4, (int .i64 l5i4)), (5, (int .i64 (IntKind.i64.wrap (((IntKind.i64.wrap (l5i4 - (1 : Int)))).tdiv (2 : Int)))))]) 29 (ptr bx0 1)) F_) ?_
 refine al_val (ov_load (i := 1) (v := (Value.func (.func 61) #[] #[])) rfl rfl Try.underlying124 sz124 rfl rfl rfl rfl) ?_
 refine al_nil ?_
 exact fr_fin hK_ ()⟩, ⟨_, rfl, [], rfl, by
 intro X_ Y_ F_ K_ hK_
 refine al_show (m := Mem.plus (memOf w0 Z0 [(oBox bx0 127 [v0_0, (Value.func (.func 61) #[] #[])]), (oRow v0_0 122 tyS_huff_tree a0.items)] [(oRow v4 122 tyS_huff_tree l5x0_0), (oBox bx0 127 [v4, (Value.func (.func 61) #[] #[])])] [(fDat (tyList (tyInt .i64)) [v1_2] a1.symbols)]) X_ Y_) (S := over (tab [(0, (ptr bx0 0)), (4, (int .i64 l5i4)), (5, (int .i64 (IntKind.i64.wrap (((IntKind.i64.wrap (l5i4 - (1 : Int)))).tdiv (2 : Int)))))]) F_) ?_
 refine al_mv rfl rfl ?_
 refine al_nil ?_
 exact fr_fin hK_ ()⟩, ⟨_, rfl, [4], rfl, by
 intro _
 intro X_ Y_ F_ K_ hK_
 refine al_show (m := Mem.plus (memOf w0 Z0 [(oBox bx0 127 [v0_0, (Value.func (.func 61) #[] #[])]), (oRow v0_0 122 tyS_huff_tree a0.items)] [(oRow v4 122 tyS_huff_tree l5x0_0), (oBox bx0 127 [v4, (Value.func (.func 61) #[] #[])])] [(fDat (tyList (tyInt .i64)) [v1_2] a1.symbols)]) X_ Y_) (S := over (put (tab [(0, (ptr bx0 0)), (4, (int .i64 l5i4)), (5, (int .i64 (IntKind.i64.wrap (((IntKind.i64.wrap (l5i4 - (1 : Int)))).tdiv (2 : Int)))))]) 31 (ptr bx0 0)) F_) ?_
 refine al_val (ov_nilCheck rfl rfl) ?_
 refine al_nil ?_
 exact fr_fin hK_ ()⟩, ⟨_, rfl, [5], rfl, by
 intro _
 intro X_ Y_ F_ K_ hK_
 refine al_show (m := Mem.plus (memOf w0 Z0 [(oBox bx0 127 [v0_0, (Value.func (.func 61) #[] #[])]), (oRow v0_0 122 tyS_huff_tree a0.items)] [(oRow v4 122 tyS_huff_tree l5x0_0), (oBox bx0 127 [v4, (Value.func (.func 61) #[] #[])])] [(fDat (tyList (tyInt .i64)) [v1_2] a1.symbols)]) X_ Y_) (S := over (put (tab [(0, (ptr bx0 0)), (4, (int .i64 l5i4)), (5, (int .i64 (IntKind.i64.wrap (((IntKind.i64.wrap (l5i4 - (1 : Int)))).tdiv (2 : Int)))))]) 32 (ptr bx0 0)) F_) ?_
 refine al_val (ov_fieldA (p := 0) rfl Try.underlying127 rfl sz125 rfl rfl rfl) ?_
 refine al_nil ?_
 exact fr_fin hK_ ()⟩, ⟨_, rfl, [6], rfl, by
 intro _
 intro X_ Y_ F_ K_ hK_
 refine al_show (m := Mem.plus (memOf w0 Z0 [(oBox bx0 127 [v0_0, (Value.func (.func 61) #[] #[])]), (oRow v0_0 122 tyS_huff_tree a0.items)] [(oRow v4 122 tyS_huff_tree l5x0_0), (oBox bx0 127 [v4, (Value.func (.func 61) #[] #[])])] [(fDat (tyList (tyInt .i64)) [v1_2] a1.symbols)]) X_ Y_) (S := over (put (tab [(0, (ptr bx0 0)), (4, (int .i64 l5i4)), (5, (int .i64 (IntKind.i64.wrap (((IntKind.i64.wrap (l5i4 - (1 : Int)))).tdiv (2 : Int)))))]) 33 (ptr bx0 0)) F_) ?_
 refine al_val (ov_load (i := 1) (v := v4) rfl rfl Try.underlying125 sz125 rfl rfl rfl rfl) ?_
 refine al_nil ?_
 exact fr_fin hK_ ()⟩, ⟨_, rfl, [], rfl, by
 intro X_ Y_ F_ K_ hK_
 refine al_show (m := Mem.plus (memOf w0 Z0 [(oBox bx0 127 [v0_0, (Value.func (.func 61) #[] #[])]), (oRow v0_0 122 tyS_huff_tree a0.items)] [(oRow v4 122 tyS_huff_tree l5x0_0), (oBox bx0 127 [v4, (Value.func (.func 61) #[] #[])])] [(fDat (tyList (tyInt .i64)) [v1_2] a1.symbols)]) X_ Y_) (S := over (tab [(0, (ptr bx0 0)), (4, (int .i64 l5i4)), (5, (int .i64 (IntKind.i64.wrap (((IntKind.i64.wrap (l5i4 - (1 : Int)))).tdiv (2 : Int)))))]) F_) ?_
 refine al_mv rfl rfl ?_
 refine al_nil ?_
 exact fr_fin hK_ ()⟩, ⟨_, rfl, [7, 8], rfl, by
 intro _
 intro _
 intro X_ Y_ F_ K_ hK_
 refine al_show (m := Mem.plus (memOf w0 Z0 [(oBox bx0 127 [v0_0, (Value.func (.func 61) #[] #[])]), (oRow v0_0 122 tyS_huff_tree a0.items)] [(oRow v4 122 tyS_huff_tree l5x0_0), (oBox bx0 127 [v4, (Value.func (.func 61) #[] #[])])] [(fDat (tyList (tyInt .i64)) [v1_2] a1.symbols)]) X_ Y_) (S := over (put (put (tab [(0, (ptr bx0 0)), (4, (int .i64 l5i4)), (5, (int .i64 (IntKind.i64.wrap (((IntKind.i64.wrap (l5i4 - (1 : Int)))).tdiv (2 : Int)))))]) 34 v4) 35 (int .i64 (IntKind.i64.wrap (((IntKind.i64.wrap (l5i4 - (1 : Int)))).tdiv (2 : Int))))) F_) ?_
 refine al_idxR 0 (at_some hu10).1 (at_some hu10).2.1 rfl rfl rfl Try.underlying125 sz122 rfl (fun p11 hp12 => ?_)
 refine al_nil ?_
 exact fr_fin hK_ ⟨p11, hp12⟩⟩, ⟨_, rfl, [9], rfl, by
 rintro ⟨p11, hp12⟩
 intro X_ Y_ F_ K_ hK_
 refine al_show (m := Mem.plus (memOf w0 Z0 [(oBox bx0 127 [v0_0, (Value.func (.func 61) #[] #[])]), (oRow v0_0 122 tyS_huff_tree a0.items)] [(oRow v4 122 tyS_huff_tree l5x0_0), (oBox bx0 127 [v4, (Value.func (.func 61) #[] #[])])] [(fDat (tyList (tyInt .i64)) [v1_2] a1.symbols)]) X_ Y_) (S := over (put (tab [(0, (ptr bx0 0)), (4, (int .i64 l5i4)), (5, (int .i64 (IntKind.i64.wrap (((IntKind.i64.wrap (l5i4 - (1 : Int)))).tdiv (2 : Int)))))]) 36 p11) F_) ?_
 refine al_loadRA 0 rfl hp12 (at_some hu10).2.2 rfl Try.underlying122 sz122 rfl rfl (fun cs14 => ?_)
 refine al_use (ι := Value) 0 rfl (fun j => cs14 = [(int .i64 u9.weight), (int .i64 u9.least), j]) (fun j => [(fDat (tyList (tyInt .i64)) [j] u9.symbols)]) encnS_huff_tree (fun s13 hq => ?_)
 subst hq
 refine al_nil ?_
 exact fr_fin hK_ s13⟩, ⟨_, rfl, [], rfl, by
 intro X_ Y_ F_ K_ hK_
 refine al_show (m := Mem.plus (memOf w0 Z0 [(oBox bx0 127 [v0_0, (Value.func (.func 61) #[] #[])]), (oRow v0_0 122 tyS_huff_tree a0.items)] [(oRow v4 122 tyS_huff_tree l5x0_0), (oBox bx0 127 [v4, (Value.func (.func 61) #[] #[])])] [(fDat (tyList (tyInt .i64)) [v1_2] a1.symbols)]) X_ Y_) (S := over (tab [(0, (ptr bx0 0)), (4, (int .i64 l5i4)), (5, (int .i64 (IntKind.i64.wrap (((IntKind.i64.wrap (l5i4 - (1 : Int)))).tdiv (2 : Int)))))]) F_) ?_
 refine al_mv rfl rfl ?_
 refine al_nil ?_
 exact fr_fin hK_ ()⟩, ⟨_, rfl, [11], rfl, by
 intro _
 intro X_ Y_ F_ K_ hK_
 refine al_show (m := Mem.plus (memOf w0 Z0 [(oBox bx0 127 [v0_0, (Value.func (.func 61) #[] #[])]), (oRow v0_0 122 tyS_huff_tree a0.items)] [(oRow v4 122 tyS_huff_tree l5x0_0), (oBox bx0 127 [v4, (Value.func (.func 61) #[] #[])])] [(fDat (tyList (tyInt .i64)) [v1_2] a1.symbols)]) X_ Y_) (S := over (put (tab [(0, (ptr bx0 0)), (4, (int .i64 l5i4)), (5, (int .i64 (IntKind.i64.wrap (((IntKind.i64.wrap (l5i4 - (1 : Int)))).tdiv (2 : Int)))))]) 38 (ptr bx0 0)) F_) ?_
 refine al_val (ov_nilCheck rfl rfl) ?_
 refine al_nil ?_
 exact fr_fin hK_ ()⟩, ⟨_, rfl, [12], rfl, by
 intro _
 intro X_ Y_ F_ K_ hK_
 refine al_show (m := Mem.plus (memOf w0 Z0 [(oBox bx0 127 [v0_0, (Value.func (.func 61) #[] #[])]), (oRow v0_0 122 tyS_huff_tree a0.items)] [(oRow v4 122 tyS_huff_tree l5x0_0), (oBox bx0 127 [v4, (Value.func (.func 61) #[] #[])])] [(fDat (tyList (tyInt .i64)) [v1_2] a1.symbols)]) X_ Y_) (S := over (put (tab [(0, (ptr bx0 0)), (4, (int .i64 l5i4)), (5, (int .i64 (IntKind.i64.wrap (((IntKind.i64.wrap (l5i4 - (1 : Int)))).tdiv (2 : Int)))))]) 39 (ptr bx0 0)) F_) ?_
 refine al_val (ov_fieldA (p := 0) rfl Try.underlying127 rfl sz125 rfl rfl rfl) ?_
 refine al_nil ?_
 exact fr_fin hK_ ()⟩, ⟨_, rfl, [13], rfl, by
 intro _
 intro X_ Y_ F_ K_ hK_
 refine al_show (m := Mem.plus (memOf w0 Z0 [(oBox bx0 127 [v0_0, (Value.func (.func 61) #[] #[])]), (oRow v0_0 122 tyS_huff_tree a0.items)] [(oRow v4 122 tyS_huff_tree l5x0_0), (oBox bx0 127 [v4, (Value.func (.func 61) #[] #[])])] [(fDat (tyList (tyInt .i64)) [v1_2] a1.symbols)]) X_ Y_) (S := over (put (tab [(0, (ptr bx0 0)), (4, (int .i64 l5i4)), (5, (int .i64 (IntKind.i64.wrap (((IntKind.i64.wrap (l5i4 - (1 : Int)))).tdiv (2 : Int)))))]) 40 (ptr bx0 0)) F_) ?_
 refine al_val (ov_load (i := 1) (v := v4) rfl rfl Try.underlying125 sz125 rfl rfl rfl rfl) ?_
 refine al_nil ?_
 exact fr_fin hK_ ()⟩, ⟨_, rfl, [], rfl, by
 intro X_ Y_ F_ K_ hK_
 refine al_show (m := Mem.plus (memOf w0 Z0 [(oBox bx0 127 [v0_0, (Value.func (.func 61) #[] #[])]), (oRow v0_0 122 tyS_huff_tree a0.items)] [(oRow v4 122 tyS_huff_tree l5x0_0), (oBox bx0 127 [v4, (Value.func (.func 61) #[] #[])])] [(fDat (tyList (tyInt .i64)) [v1_2] a1.symbols)]) X_ Y_) (S := over (tab [(0, (ptr bx0 0)), (4, (int .i64 l5i4)), (5, (int .i64 (IntKind.i64.wrap (((IntKind.i64.wrap (l5i4 - (1 : Int)))).tdiv (2 : Int)))))]) F_) ?_
 refine al_mv rfl rfl ?_
 refine al_nil ?_
 exact fr_fin hK_ ()⟩, ⟨_, rfl, [14, 15], rfl, by
 intro _
 intro _
 intro X_ Y_ F_ K_ hK_
 refine al_show (m := Mem.plus (memOf w0 Z0 [(oBox bx0 127 [v0_0, (Value.func (.func 61) #[] #[])]), (oRow v0_0 122 tyS_huff_tree a0.items)] [(oRow v4 122 tyS_huff_tree l5x0_0), (oBox bx0 127 [v4, (Value.func (.func 61) #[] #[])])] [(fDat (tyList (tyInt .i64)) [v1_2] a1.symbols)]) X_ Y_) (S := over (put (put (tab [(0, (ptr bx0 0)), (4, (int .i64 l5i4)), (5, (int .i64 (IntKind.i64.wrap (((IntKind.i64.wrap (l5i4 - (1 : Int)))).tdiv (2 : Int)))))]) 41 v4) 42 (int .i64 l5i4)) F_) ?_
 refine al_idxR 0 (at_some hu16).1 (at_some hu16).2.1 rfl rfl rfl Try.underlying125 sz122 rfl (fun p17 hp18 => ?_)
 refine al_nil ?_
 exact fr_fin hK_ ⟨p17, hp18⟩⟩, ⟨_, rfl, [16], rfl, by
 rintro ⟨p17, hp18⟩
 intro X_ Y_ F_ K_ hK_
 refine al_show (m := Mem.plus (memOf w0 Z0 [(oBox bx0 127 [v0_0, (Value.func (.func 61) #[] #[])]), (oRow v0_0 122 tyS_huff_tree a0.items)] [(oRow v4 122 tyS_huff_tree l5x0_0), (oBox bx0 127 [v4, (Value.func (.func 61) #[] #[])])] [(fDat (tyList (tyInt .i64)) [v1_2] a1.symbols)]) X_ Y_) (S := over (put (tab [(0, (ptr bx0 0)), (4, (int .i64 l5i4)), (5, (int .i64 (IntKind.i64.wrap (((IntKind.i64.wrap (l5i4 - (1 : Int)))).tdiv (2 : Int)))))]) 43 p17) F_) ?_
 refine al_loadRA 0 rfl hp18 (at_some hu16).2.2 rfl Try.underlying122 sz122 rfl rfl (fun cs20 => ?_)
 refine al_use (ι := Value) 0 rfl (fun j => cs20 = [(int .i64 u15.weight), (int .i64 u15.least), j]) (fun j => [(fDat (tyList (tyInt .i64)) [j] u15.symbols)]) encnS_huff_tree (fun s19 hq => ?_)
 subst hq
 refine al_nil ?_
 exact fr_fin hK_ s19⟩, trivial⟩ ?_
  intro _
  intro _
  intro _
  intro _
  intro _
  intro _
  intro _
  intro _
  intro _
  rintro ⟨p11, hp12⟩
  intro s13
  intro _
  intro _
  intro _
  intro _
  intro _
  rintro ⟨p17, hp18⟩
  intro s19
  intro X_ Y_ F_ K_ hK_
  refine al_show (m := Mem.plus (memOf w0 Z0 [(oBox bx0 127 [v0_0, (Value.func (.func 61) #[] #[])]), (oRow v0_0 122 tyS_huff_tree a0.items)] [(oRow v4 122 tyS_huff_tree l5x0_0), (oBox bx0 127 [v4, (Value.func (.func 61) #[] #[])])] [(fDat (tyList (tyInt .i64)) [s19] u15.symbols), (fDat tyS_huff_tree [(int .i64 u15.weight), (int .i64 u15.least), s19] u15), (fDat (tyList (tyInt .i64)) [s13] u9.symbols), (fDat tyS_huff_tree [(int .i64 u9.weight), (int .i64 u9.least), s13] u9), (fDat (tyList (tyInt .i64)) [v1_2] a1.symbols)]) X_ Y_) (S := over (put (put (put (put (put (put (put (put (put (put (put (put (put (put (put (put (put (put (tab [(0, (ptr bx0 0)), (4, (int .i64 l5i4)), (5, (int .i64 (IntKind.i64.wrap (((IntKind.i64.wrap (l5i4 - (1 : Int)))).tdiv (2 : Int)))))]) 27 (ptr bx0 0)) 28 (ptr bx0 0)) 29 (ptr bx0 1)) 30 (Value.func (.func 61) #[] #[])) 31 (ptr bx0 0)) 32 (ptr bx0 0)) 33 (ptr bx0 0)) 34 v4) 35 (int .i64 (IntKind.i64.wrap (((IntKind.i64.wrap (l5i4 - (1 : Int)))).tdiv (2 : Int))))) 36 p11) 37 (ag [(int .i64 u9.weight), (int .i64 u9.least), s13])) 38 (ptr bx0 0)) 39 (ptr bx0 0)) 40 (ptr bx0 0)) 41 v4) 42 (int .i64 l5i4)) 43 p17) 44 (ag [(int .i64 u15.weight), (int .i64 u15.least), s19])) F_) ?_
  obtain ⟨r22, hc21, h⟩ := opt_some h
  refine al_callFX (vs := [(ag [(int .i64 u9.weight), (int .i64 u9.least), s13]), (ag [(int .i64 u15.weight), (int .i64 u15.least), s19])]) (caps := []) (f_huff_Lengths_2_ok fu s13 u9 s19 u15 hc21) rfl [] [] [0, 1] (pre_fz 2 rfl (pre_fz 0 rfl pre_nil)) rfl (by simp) (by decide) rfl (.inl rfl) rfl rfl Try.func61 rfl rfl rfl (fun _ => ?_)
  refine al_nil ?_
  refine aq_show (m := Mem.plus (memOf w0 Z0 [(oBox bx0 127 [v0_0, (Value.func (.func 61) #[] #[])]), (oRow v0_0 122 tyS_huff_tree a0.items)] [(oRow v4 122 tyS_huff_tree l5x0_0), (oBox bx0 127 [v4, (Value.func (.func 61) #[] #[])])] [(fDat (tyList (tyInt .i64)) [s19] u15.symbols), (fDat tyS_huff_tree [(int .i64 u15.weight), (int .i64 u15.least), s19] u15), (fDat (tyList (tyInt .i64)) [s13] u9.symbols), (fDat tyS_huff_tree [(int .i64 u9.weight), (int .i64 u9.least), s13] u9), (fDat (tyList (tyInt .i64)) [v1_2] a1.symbols)]) X_ Y_) ?_
  refine aq_next hK_ [0, 1] [1, 3, 4] [(0, (ptr bx0 0)), (4, (int .i64 l5i4)), (5, (int .i64 (IntKind.i64.wrap (((IntKind.i64.wrap (l5i4 - (1 : Int)))).tdiv (2 : Int))))), (45, (int .i64 r22))] [] [⟨19, 46, Unit, fun _ => { val := (bool (decide (r22 ≤ (0 : Int)))) }⟩] rfl rfl (by decide) rfl ⟨rfl, rfl, rfl, rfl, trivial⟩ trivial ?_
  clear hK_ K_ F_ X_ Y_
  refine ta_show (m := (memOf w0 Z0 [(oBox bx0 127 [v0_0, (Value.func (.func 61) #[] #[])]), (oRow v0_0 122 tyS_huff_tree a0.items)] [(oRow v4 122 tyS_huff_tree l5x0_0), (oBox bx0 127 [v4, (Value.func (.func 61) #[] #[])])] [(fDat tyS_huff_tree [(int .i64 u15.weight), (int .i64 u15.least), s19] u15), (fDat tyS_huff_tree [(int .i64 u9.weight), (int .i64 u9.least), s13] u9), (fDat (tyList (tyInt .i64)) [v1_2] a1.symbols)])) (S := (tab [(0, (ptr bx0 0)), (4, (int .i64 l5i4)), (5, (int .i64 (IntKind.i64.wrap (((IntKind.i64.wrap (l5i4 - (1 : Int)))).tdiv (2 : Int))))), (45, (int .i64 r22))])) ?_
  refine ta_end [19] [46] rfl rfl (by kernel_rfl) rfl ⟨⟨_, rfl, [], rfl, by
 intro X_ Y_ F_ K_ hK_
 refine al_show (m := Mem.plus (memOf w0 Z0 [(oBox bx0 127 [v0_0, (Value.func (.func 61) #[] #[])]), (oRow v0_0 122 tyS_huff_tree a0.items)] [(oRow v4 122 tyS_huff_tree l5x0_0), (oBox bx0 127 [v4, (Value.func (.func 61) #[] #[])])] [(fDat tyS_huff_tree [(int .i64 u15.weight), (int .i64 u15.least), s19] u15), (fDat tyS_huff_tree [(int .i64 u9.weight), (int .i64 u9.least), s13] u9), (fDat (tyList (tyInt .i64)) [v1_2] a1.symbols)]) X_ Y_) (S := over (tab [(0, (ptr bx0 0)), (4, (int .i64 l5i4)), (5, (int .i64 (IntKind.i64.wrap (((IntKind.i64.wrap (l5i4 - (1 : Int)))).tdiv (2 : Int))))), (45, (int .i64 r22))]) F_) ?_
 refine al_in rfl rfl rfl rfl ?_
 refine al_nil ?_
 exact fr_fin hK_ ()⟩, trivial⟩ ?_
  intro _
  refine aq_show (m := (memOf w0 Z0 [(oBox bx0 127 [v0_0, (Value.func (.func 61) #[] #[])]), (oRow v0_0 122 tyS_huff_tree a0.items)] [(oRow v4 122 tyS_huff_tree l5x0_0), (oBox bx0 127 [v4, (Value.func (.func 61) #[] #[])])] [(fDat tyS_huff_tree [(int .i64 u15.weight), (int .i64 u15.least), s19] u15), (fDat tyS_huff_tree [(int .i64 u9.weight), (int .i64 u9.least), s13] u9), (fDat (tyList (tyInt .i64)) [v1_2] a1.symbols)])) (S := (put (tab [(0, (ptr bx0 0)), (4, (int .i64 l5i4)), (5, (int .i64 (IntKind.i64.wrap (((IntKind.i64.wrap (l5i4 - (1 : Int)))).tdiv (2 : Int))))), (45, (int .i64 r22))]) 46 (bool (decide (r22 ≤ (0 : Int)))))) ?_
  refine aq_then ?_
  refine aw_cond rfl (fun hb23 => ?_) (fun hb23 => ?_)
  ·replace h := bif_t hb23 h
   refine aw_ret ?_
   refine aq_then_ret ?_
   refine aq_block_ret ?_
   refine aq_then_ret ?_
   refine aq_block_ret ?_
   obtain rfl := Option.some.inj h
   exact fn_ret v4 [1, 0] [] rfl rfl rfl rfl (resC rfl (resN) rfl) rfl rfl rfl (by decide)
  ·replace h := bif_f hb23 h
   refine aw_skip ?_
   refine aq_then ?_
   refine aw_seq ?_
   obtain ⟨u24, hu25, h⟩ := opt_some h
   obtain ⟨u30, hu31, h⟩ := opt_some h
   obtain ⟨u36, hu37, h⟩ := opt_some h
   refine aw_region_open [⟨0, 47, Unit, fun _ => { val := (ptr bx0 0) }⟩, ⟨1, 48, Unit, fun _ => { val := (ptr bx0 0) }⟩, ⟨2, 49, Unit, fun _ => { val := (ptr bx0 0) }⟩, ⟨3, 50, Unit, fun _ => { val := v4 }⟩, ⟨4, 51, Unit, fun _ => { val := (int .i64 (IntKind.i64.wrap (((IntKind.i64.wrap (l5i4 - (1 : Int)))).tdiv (2 : Int)))) }⟩, ⟨5, 52, Unit, fun _ => { val := (ptr bx0 0) }⟩, ⟨6, 53, Unit, fun _ => { val := (ptr bx0 0) }⟩, ⟨7, 54, Unit, fun _ => { val := (ptr bx0 0) }⟩, ⟨8, 55, Unit, fun _ => { val := v4 }⟩, ⟨9, 56, Unit, fun _ => { val := (int .i64 l5i4) }⟩, ⟨10, 57, Unit, fun _ => { val := (ptr bx0 0) }⟩, ⟨11, 58, Unit, fun _ => { val := (ptr bx0 0) }⟩, ⟨12, 59, Unit, fun _ => { val := (ptr bx0 0) }⟩, ⟨13, 60, Unit, fun _ => { val := v4 }⟩, ⟨14, 61, Unit, fun _ => { val := (int .i64 l5i4) }⟩, ⟨15, 62, {p : Value // EltOf v4 p ((l5i4).toNat * Ty.size tyS_huff_tree)}, fun p => { val := p.1 }⟩, ⟨16, 63, Value, fun (i : Value) => { val := (ag [(int .i64 u24.weight), (int .i64 u24.least), i]), fz := [(fDat (tyList (tyInt .i64)) [i] u24.symbols), (fDat tyS_huff_tree [(int .i64 u24.weight), (int .i64 u24.least), i] u24)] }⟩, ⟨17, 64, Unit, fun _ => { val := (ptr bx0 0) }⟩, ⟨18, 65, Unit, fun _ => { val := (ptr bx0 0) }⟩, ⟨19, 66, Unit, fun _ => { val := (ptr bx0 0) }⟩, ⟨20, 67, Unit, fun _ => { val := v4 }⟩, ⟨21, 68, Unit, fun _ => { val := (int .i64 (IntKind.i64.wrap (((IntKind.i64.wrap (l5i4 - (1 : Int)))).tdiv (2 : Int)))) }⟩, ⟨22, 69, {p : Value // EltOf v4 p (((IntKind.i64.wrap (((IntKind.i64.wrap (l5i4 - (1 : Int)))).tdiv (2 : Int)))).toNat * Ty.size tyS_huff_tree)}, fun p => { val := p.1 }⟩, ⟨23, 70, Value, fun (i : Value) => { val := (ag [(int .i64 u30.weight), (int .i64 u30.least), i]), fz := [(fDat (tyList (tyInt .i64)) [i] u30.symbols), (fDat tyS_huff_tree [(int .i64 u30.weight), (int .i64 u30.least), i] u30)] }⟩, ⟨24, 71, {p : Value // EltOf v4 p (((IntKind.i64.wrap (((IntKind.i64.wrap (l5i4 - (1 : Int)))).tdiv (2 : Int)))).toNat * Ty.size tyS_huff_tree)}, fun p => { val := p.1 }⟩] (tab [(0, (ptr bx0 0)), (4, (int .i64 l5i4)), (5, (int .i64 (IntKind.i64.wrap (((IntKind.i64.wrap (l5i4 - (1 : Int)))).tdiv (2 : Int)))))]) mixed (fun a hs => hs.tab _ (allT_mem ⟨rfl, rfl, rfl, trivial⟩)) ?_
   refine ta_show (m := (memOf w0 Z0 [(oBox bx0 127 [v0_0, (Value.func (.func 61) #[] #[])]), (oRow v0_0 122 tyS_huff_tree a0.items)] [(oRow v4 122 tyS_huff_tree l5x0_0), (oBox bx0 127 [v4, (Value.func (.func 61) #[] #[])])] [(fDat tyS_huff_tree [(int .i64 u15.weight), (int .i64 u15.least), s19] u15), (fDat tyS_huff_tree [(int .i64 u9.weight), (int .i64 u9.least), s13] u9), (fDat (tyList (tyInt .i64)) [v1_2] a1.symbols)])) (S := (tab [(0, (ptr bx0 0)), (4, (int .i64 l5i4)), (5, (int .i64 (IntKind.i64.wrap (((IntKind.i64.wrap (l5i4 - (1 : Int)))).tdiv (2 : Int)))))])) ?_
   refine ta_step 25 _ [0, 1, 2, 3, 4, 5, 6, 7, 8, 9, 10, 11, 12, 13, 14, 15, 16, 17, 18, 19, 20, 21, 22, 23, 24] [47, 48, 49, 50, 51, 52, 53, 54, 55, 56, 57, 58, 59, 60, 61, 62, 63, 64, 65, 66, 67, 68, 69, 70, 71] [0, 1, 2, 3, 4, 5, 6, 7, 8, 10, 11, 12, 13, 14, 15, 16, 17, 18, 19, 20, 21, 22, 23, 24] [26] [⟨0, 47, Unit, fun _ => { val := (ptr bx0 0) }⟩, ⟨1, 48, Unit, fun _ => { val := (ptr bx0 0) }⟩, ⟨2, 49, Unit, fun _ => { val := (ptr bx0 0) }⟩, ⟨3, 50, Unit, fun _ => { val := v4 }⟩, ⟨4, 51, Unit, fun _ => { val := (int .i64 (IntKind.i64.wrap (((IntKind.i64.wrap (l5i4 - (1 : Int)))).tdiv (2 : Int)))) }⟩, ⟨5, 52, Unit, fun _ => { val := (ptr bx0 0) }⟩, ⟨6, 53, Unit, fun _ => { val := (ptr bx0 0) }⟩, ⟨7, 54, Unit, fun _ => { val := (ptr bx0 0) }⟩, ⟨8, 55, Unit, fun _ => { val := v4 }⟩, ⟨10, 57, Unit, fun _ => { val := (ptr bx0 0) }⟩, ⟨11, 58, Unit, fun _ => { val := (ptr bx0 0) }⟩, ⟨12, 59, Unit, fun _ => { val := (ptr bx0 0) }⟩, ⟨13, 60, Unit, fun _ => { val := v4 }⟩, ⟨14, 61, Unit, fun _ => { val := (int .i64 l5i4) }⟩, ⟨15, 62, {p : Value // EltOf v4 p ((l5i4).toNat * Ty.size tyS_huff_tree)}, fun p => { val := p.1 }⟩, ⟨16, 63, Value, fun (i : Value) => { val := (ag [(int .i64 u24.weight), (int .i64 u24.least), i]), fz := [(fDat (tyList (tyInt .i64)) [i] u24.symbols), (fDat tyS_huff_tree [(int .i64 u24.weight), (int .i64 u24.least), i] u24)] }⟩, ⟨17, 64, Unit, fun _ => { val := (ptr bx0 0) }⟩, ⟨18, 65, Unit, fun _ => { val := (ptr bx0 0) }⟩, ⟨19, 66, Unit, fun _ => { val := (ptr bx0 0) }⟩, ⟨20, 67, Unit, fun _ => { val := v4 }⟩, ⟨21, 68, Unit, fun _ => { val := (int .i64 (IntKind.i64.wrap (((IntKind.i64.wrap (l5i4 - (1 : Int)))).tdiv (2 : Int)))) }⟩, ⟨22, 69, {p : Value // EltOf v4 p (((IntKind.i64.wrap (((IntKind.i64.wrap (l5i4 - (1 : Int)))).tdiv (2 : Int)))).toNat * Ty.size tyS_huff_tree)}, fun p => { val := p.1 }⟩, ⟨23, 70, Value, fun (i : Value) => { val := (ag [(int .i64 u30.weight), (int .i64 u30.least), i]), fz := [(fDat (tyList (tyInt .i64)) [i] u30.symbols), (fDat tyS_huff_tree [(int .i64 u30.weight), (int .i64 u30.least), i] u30)] }⟩, ⟨24, 71, {p : Value // EltOf v4 p (((IntKind.i64.wrap (((IntKind.i64.wrap (l5i4 - (1 : Int)))).tdiv (2 : Int)))).toNat * Ty.size tyS_huff_tree)}, fun p => { val := p.1 }⟩] [⟨9, 56, Unit, fun _ => { val := (int .i64 l5i4) }⟩] rfl rfl rfl (by kernel_rfl) rfl rfl rfl ⟨⟨_, rfl, [], rfl, by
 intro X_ Y_ F_ K_ hK_
 refine al_show (m := Mem.plus (memOf w0 Z0 [(oBox bx0 127 [v0_0, (Value.func (.func 61) #[] #[])]), (oRow v0_0 122 tyS_huff_tree a0.items)] [(oRow v4 122 tyS_huff_tree l5x0_0), (oBox bx0 127 [v4, (Value.func (.func 61) #[] #[])])] [(fDat tyS_huff_tree [(int .i64 u15.weight), (int .i64 u15.least), s19] u15), (fDat tyS_huff_tree [(int .i64 u9.weight), (int .i64 u9.least), s13] u9), (fDat (tyList (tyInt .i64)) [v1_2] a1.symbols)]) X_ Y_) (S := over (tab [(0, (ptr bx0 0)), (4, (int .i64 l5i4)), (5, (int .i64 (IntKind.i64.wrap (((IntKind.i64.wrap (l5i4 - (1 : Int)))).tdiv (2 : Int)))))]) F_) ?_
 refine al_mv rfl rfl ?_
 refine al_nil ?_
 exact fr_fin hK_ ()⟩, ⟨_, rfl, [0], rfl, by
 intro _
 intro X_ Y_ F_ K_ hK_
 refine al_show (m := Mem.plus (memOf w0 Z0 [(oBox bx0 127 [v0_0, (Value.func (.func 61) #[] #[])]), (oRow v0_0 122 tyS_huff_tree a0.items)] [(oRow v4 122 tyS_huff_tree l5x0_0), (oBox bx0 127 [v4, (Value.func (.func 61) #[] #[])])] [(fDat tyS_huff_tree [(int .i64 u15.weight), (int .i64 u15.least), s19] u15), (fDat tyS_huff_tree [(int .i64 u9.weight), (int .i64 u9.least), s13] u9), (fDat (tyList (tyInt .i64)) [v1_2] a1.symbols)]) X_ Y_) (S := over (put (tab [(0, (ptr bx0 0)), (4, (int .i64 l5i4)), (5, (int .i64 (IntKind.i64.wrap (((IntKind.i64.wrap (l5i4 - (1 : Int)))).tdiv (2 : Int)))))]) 47 (ptr bx0 0)) F_) ?_
 refine al_val (ov_nilCheck rfl rfl) ?_
 refine al_nil ?_
 exact fr_fin hK_ ()⟩, ⟨_, rfl, [1], rfl, by
 intro _
 intro X_ Y_ F_ K_ hK_
 refine al_show (m := Mem.plus (memOf w0 Z0 [(oBox bx0 127 [v0_0, (Value.func (.func 61) #[] #[])]), (oRow v0_0 122 tyS_huff_tree a0.items)] [(oRow v4 122 tyS_huff_tree l5x0_0), (oBox bx0 127 [v4, (Value.func (.func 61) #[] #[])])] [(fDat tyS_huff_tree [(int .i64 u15.weight), (int .i64 u15.least), s19] u15), (fDat tyS_huff_tree [(int .i64 u9.weight), (int .i64 u9.least), s13] u9), (fDat (tyList (tyInt .i64)) [v1_2] a1.symbols)]) X_ Y_) (S := over (put (tab [(0, (ptr bx0 0)), (4, (int .i64 l5i4)), (5, (int .i64 (IntKind.i64.wrap (((IntKind.i64.wrap (l5i4 - (1 : Int)))).tdiv (2 : Int)))))]) 48 (ptr bx0 0)) F_) ?_
 refine al_val (ov_fieldA (p := 0) rfl Try.underlying127 rfl sz125 rfl rfl rfl) ?_
 refine al_nil ?_
 exact fr_fin hK_ ()⟩, ⟨_, rfl, [2], rfl, by
 intro _
 intro X_ Y_ F_ K_ hK_
 refine al_show (m := Mem.plus (memOf w0 Z0 [(oBox bx0 127 [v0_0, (Value.func (.func 61) #[] #[])]), (oRow v0_0 122 tyS_huff_tree a0.items)] [(oRow v4 122 tyS_huff_tree l5x0_0), (oBox bx0 127 [v4, (Value.func (.func 61) #[] #[])])] [(fDat tyS_huff_tree [(int .i64 u15.weight), (int .i64 u15.least), s19] u15), (fDat tyS_huff_tree [(int .i64 u9.weight), (int .i64 u9.least), s13] u9), (fDat (tyList (tyInt .i64)) [v1_2] a1.symbols)]) X_ Y_) (S := over (put (tab [(0, (ptr bx0 0)), (4, (int .i64 l5i4)), (5, (int .i64 (IntKind.i64.wrap (((IntKind.i64.wrap (l5i4 - (1 : Int)))).tdiv (2 : Int)))))]) 49 (ptr bx0 0)) F_) ?_
 refine al_val (ov_load (i := 1) (v := v4) rfl rfl Try.underlying125 sz125 rfl rfl rfl rfl) ?_
 refine al_nil ?_
 exact fr_fin hK_ ()⟩, ⟨_, rfl, [], rfl, by
 intro X_ Y_ F_ K_ hK_
 refine al_show (m := Mem.plus (memOf w0 Z0 [(oBox bx0 127 [v0_0, (Value.func (.func 61) #[] #[])]), (oRow v0_0 122 tyS_huff_tree a0.items)] [(oRow v4 122 tyS_huff_tree l5x0_0), (oBox bx0 127 [v4, (Value.func (.func 61) #[] #[])])] [(fDat tyS_huff_tree [(int .i64 u15.weight), (int .i64 u15.least), s19] u15), (fDat tyS_huff_tree [(int .i64 u9.weight), (int .i64 u9.least), s13] u9), (fDat (tyList (tyInt .i64)) [v1_2] a1.symbols)]) X_ Y_) (S := over (tab [(0, (ptr bx0 0)), (4, (int .i64 l5i4)), (5, (int .i64 (IntKind.i64.wrap (((IntKind.i64.wrap (l5i4 - (1 : Int)))).tdiv (2 : Int)))))]) F_) ?_
 refine al_mv rfl rfl ?_
 refine al_nil ?_
 exact fr_fin hK_ ()⟩, ⟨_, rfl, [], rfl, by
 intro X_ Y_ F_ K_ hK_
 refine al_show (m := Mem.plus (memOf w0 Z0 [(oBox bx0 127 [v0_0, (Value.func (.func 61) #[] #[])]), (oRow v0_0 122 tyS_huff_tree a0.items)] [(oRow v4 122 tyS_huff_tree l5x0_0), (oBox bx0 127 [v4, (Value.func (.func 61) #[] #[])])] [(fDat tyS_huff_tree [(int .i64 u15.weight), (int .i64 u15.least), s19] u15), (fDat tyS_huff_tree [(int .i64 u9.weight), (int .i64 u9.least), s13] u9), (fDat (tyList (tyInt .i64)) [v1_2] a1.symbols)]) X_ Y_) (S := over (tab [(0, (ptr bx0 0)), (4, (int .i64 l5i4)), (5, (int .i64 (IntKind.i64.wrap (((IntKind.i64.wrap (l5i4 - (1 : Int)))).tdiv (2 : Int)))))]) F_) ?_
 refine al_mv rfl rfl ?_
 refine al_nil ?_
 exact fr_fin hK_ ()⟩, ⟨_, rfl, [5], rfl, by
 intro _
 intro X_ Y_ F_ K_ hK_
 refine al_show (m := Mem.plus (memOf w0 Z0 [(oBox bx0 127 [v0_0, (Value.func (.func 61) #[] #[])]), (oRow v0_0 122 tyS_huff_tree a0.items)] [(oRow v4 122 tyS_huff_tree l5x0_0), (oBox bx0 127 [v4, (Value.func (.func 61) #[] #[])])] [(fDat tyS_huff_tree [(int .i64 u15.weight), (int .i64 u15.least), s19] u15), (fDat tyS_huff_tree [(int .i64 u9.weight), (int .i64 u9.least), s13] u9), (fDat (tyList (tyInt .i64)) [v1_2] a1.symbols)]) X_ Y_) (S := over (put (tab [(0, (ptr bx0 0)), (4, (int .i64 l5i4)), (5, (int .i64 (IntKind.i64.wrap (((IntKind.i64.wrap (l5i4 - (1 : Int)))).tdiv (2 : Int)))))]) 52 (ptr bx0 0)) F_) ?_
 refine al_val (ov_nilCheck rfl rfl) ?_
 refine al_nil ?_
 exact fr_fin hK_ ()⟩, ⟨_, rfl, [6], rfl, by
 intro _
 intro X_ Y_ F_ K_ hK_
 refine al_show (m := Mem.plus (memOf w0 Z0 [(oBox bx0 127 [v0_0, (Value.func (.func 61) #[] #[])]), (oRow v0_0 122 tyS_huff_tree a0.items)] [(oRow v4 122 tyS_huff_tree l5x0_0), (oBox bx0 127 [v4, (Value.func (.func 61) #[] #[])])] [(fDat tyS_huff_tree [(int .i64 u15.weight), (int .i64 u15.least), s19] u15), (fDat tyS_huff_tree [(int .i64 u9.weight), (int .i64 u9.least), s13] u9), (fDat (tyList (tyInt .i64)) [v1_2] a1.symbols)]) X_ Y_) (S := over (put (tab [(0, (ptr bx0 0)), (4, (int .i64 l5i4)), (5, (int .i64 (IntKind.i64.wrap (((IntKind.i64.wrap (l5i4 - (1 : Int)))).tdiv (2 : Int)))))]) 53 (ptr bx0 0)) F_) ?_
 refine al_val (ov_fieldA (p := 0) rfl Try.underlying127 rfl sz125 rfl rfl rfl) ?_
 refine al_nil ?_
 exact fr_fin hK_ ()⟩, ⟨_, rfl, [7], rfl, by
 intro _
 intro X_ Y_ F_ K_ hK_
 refine al_show (m := Mem.plus (memOf w0 Z0 [(oBox bx0 127 [v0_0, (Value.func (.func 61) #[] #[])]), (oRow v0_0 122 tyS_huff_tree a0.items)] [(oRow v4 122 tyS_huff_tree l5x0_0), (oBox bx0 127 [v4, (Value.func (.func 61) #[] #[])])] [(fDat tyS_huff_tree [(int .i64 u15.weight), (int .i64 u15.least), s19] u15), (fDat tyS_huff_tree [(int .i64 u9.weight), (int .i64 u9.least), s13] u9), (fDat (tyList (tyInt .i64)) [v1_2] a1.symbols)]) X_ Y_) (S := over (put (tab [(0, (ptr bx0 0)), (4, (int .i64 l5i4)), (5, (int .i64 (IntKind.i64.wrap (((IntKind.i64.wrap (l5i4 - (1 : Int)))).tdiv (2 : Int)))))]) 54 (ptr bx0 0)) F_) ?_
 refine al_val (ov_load (i := 1) (v := v4) rfl rfl Try.underlying125 sz125 rfl rfl rfl rfl) ?_
 refine al_nil ?_
 exact fr_fin hK_ ()⟩, ⟨_, rfl, [], rfl, by
 intro X_ Y_ F_ K_ hK_
 refine al_show (m := Mem.plus (memOf w0 Z0 [(oBox bx0 127 [v0_0, (Value.func (.func 61) #[] #[])]), (oRow v0_0 122 tyS_huff_tree a0.items)] [(oRow v4 122 tyS_huff_tree l5x0_0), (oBox bx0 127 [v4, (Value.func (.func 61) #[] #[])])] [(fDat tyS_huff_tree [(int .i64 u15.weight), (int .i64 u15.least), s19] u15), (fDat tyS_huff_tree [(int .i64 u9.weight), (int .i64 u9.least), s13] u9), (fDat (tyList (tyInt .i64)) [v1_2] a1.symbols)]) X_ Y_) (S := over (tab [(0, (ptr bx0 0)), (4, (int .i64 l5i4)), (5, (int .i64 (IntKind.i64.wrap (((IntKind.i64.wrap (l5i4 - (1 : Int)))).tdiv (2 : Int)))))]) F_) ?_
 refine al_mv rfl rfl ?_
 refine al_nil ?_
 exact fr_fin hK_ ()⟩, ⟨_, rfl, [], rfl, by
 intro X_ Y_ F_ K_ hK_
 refine al_show (m := Mem.plus (memOf w0 Z0 [(oBox bx0 127 [v0_0, (Value.func (.func 61) #[] #[])]), (oRow v0_0 122 tyS_huff_tree a0.items)] [(oRow v4 122 tyS_huff_tree l5x0_0), (oBox bx0 127 [v4, (Value.func (.func 61) #[] #[])])] [(fDat tyS_huff_tree [(int .i64 u15.weight), (int .i64 u15.least), s19] u15), (fDat tyS_huff_tree [(int .i64 u9.weight), (int .i64 u9.least), s13] u9), (fDat (tyList (tyInt .i64)) [v1_2] a1.symbols)]) X_ Y_) (S := over (tab [(0, (ptr bx0 0)), (4, (int .i64 l5i4)), (5, (int .i64 (IntKind.i64.wrap (((IntKind.i64.wrap (l5i4 - (1 : Int)))).tdiv (2 : Int)))))]) F_) ?_
 refine al_mv rfl rfl ?_
 refine al_nil ?_
 exact fr_fin hK_ ()⟩, ⟨_, rfl, [10], rfl, by
 intro _
 intro X_ Y_ F_ K_ hK_
 refine al_show (m := Mem.plus (memOf w0 Z0 [(oBox bx0 127 [v0_0, (Value.func (.func 61) #[] #[])]), (oRow v0_0 122 tyS_huff_tree a0.items)] [(oRow v4 122 tyS_huff_tree l5x0_0), (oBox bx0 127 [v4, (Value.func (.func 61) #[] #[])])] [(fDat tyS_huff_tree [(int .i64 u15.weight), (int .i64 u15.least), s19] u15), (fDat tyS_huff_tree [(int .i64 u9.weight), (int .i64 u9.least), s13] u9), (fDat (tyList (tyInt .i64)) [v1_2] a1.symbols)]) X_ Y_) (S := over (put (tab [(0, (ptr bx0 0)), (4, (int .i64 l5i4)), (5, (int .i64 (IntKind.i64.wrap (((IntKind.i64.wrap (l5i4 - (1 : Int)))).tdiv (2 : Int)))))]) 57 (ptr bx0 0)) F_) ?_
 refine al_val (ov_nilCheck rfl rfl) ?_
 refine al_nil ?_
 exact fr_fin hK_ ()⟩, ⟨_, rfl, [11], rfl, by
 intro _
 intro X_ Y_ F_ K_ hK_
 refine al_show (m := Mem.plus (memOf w0 Z0 [(oBox bx0 127 [v0_0, (Value.func (.func 61) #[] #[])]), (oRow v0_0 122 tyS_huff_tree a0.items)] [(oRow v4 122 tyS_huff_tree l5x0_0), (oBox bx0 127 [v4, (Value.func (.func 61) #[] #[])])] [(fDat tyS_huff_tree [(int .i64 u15.weight), (int .i64 u15.least), s19] u15), (fDat tyS_huff_tree [(int .i64 u9.weight), (int .i64 u9.least), s13] u9), (fDat (tyList (tyInt .i64)) [v1_2] a1.symbols)]) X_ Y_) (S := over (put (tab [(0, (ptr bx0 0)), (4, (int .i64 l5i4)), (5, (int .i64 (IntKind.i64.wrap (((IntKind.i64.wrap (l5i4 - (1 : Int)))).tdiv (2 : Int)))))]) 58 (ptr bx0 0)) F_) ?_
 refine al_val (ov_fieldA (p := 0) rfl Try.underlying127 rfl sz125 rfl rfl rfl) ?_
 refine al_nil ?_
 exact fr_fin hK_ ()⟩, ⟨_, rfl, [12], rfl, by
 intro _
 intro X_ Y_ F_ K_ hK_
 refine al_show (m := Mem.plus (memOf w0 Z0 [(oBox bx0 127 [v0_0, (Value.func (.func 61) #[] #[])]), (oRow v0_0 122 tyS_huff_tree a0.items)] [(oRow v4 122 tyS_huff_tree l5x0_0), (oBox bx0 127 [v4, (Value.func (.func 61) #[] #[])])] [(fDat tyS_huff_tree [(int .i64 u15.weight), (int .i64 u15.least), s19] u15), (fDat tyS_huff_tree [(int .i64 u9.weight), (int .i64 u9.least), s13] u9), (fDat (tyList (tyInt .i64)) [v1_2] a1.symbols)]) X_ Y_) (S := over (put (tab [(0, (ptr bx0 0)), (4, (int .i64 l5i4)), (5, (int .i64 (IntKind.i64.wrap (((IntKind.i64.wrap (l5i4 - (1 : Int)))).tdiv (2 : Int)))))]) 59 (ptr bx0 0)) F_) ?_
 refine al_val (ov_load (i := 1) (v := v4) rfl rfl Try.underlying125 sz125 rfl rfl rfl rfl) ?_
 refine al_nil ?_
 exact fr_fin hK_ ()⟩, ⟨_, rfl, [], rfl, by
 intro X_ Y_ F_ K_ hK_
 refine al_show (m := Mem.plus (memOf w0 Z0 [(oBox bx0 127 [v0_0, (Value.func (.func 61) #[] #[])]), (oRow v0_0 122 tyS_huff_tree a0.items)] [(oRow v4 122 tyS_huff_tree l5x0_0), (oBox bx0 127 [v4, (Value.func (.func 61) #[] #[])])] [(fDat tyS_huff_tree [(int .i64 u15.weight), (int .i64 u15.least), s19] u15), (fDat tyS_huff_tree [(int .i64 u9.weight), (int .i64 u9.least), s13] u9), (fDat (tyList (tyInt .i64)) [v1_2] a1.symbols)]) X_ Y_) (S := over (tab [(0, (ptr bx0 0)), (4, (int .i64 l5i4)), (5, (int .i64 (IntKind.i64.wrap (((IntKind.i64.wrap (l5i4 - (1 : Int)))).tdiv (2 : Int)))))]) F_) ?_
 refine al_mv rfl rfl ?_
 refine al_nil ?_
 exact fr_fin hK_ ()⟩, ⟨_, rfl, [13, 14], rfl, by
 intro _
 intro _
 intro X_ Y_ F_ K_ hK_
 refine al_show (m := Mem.plus (memOf w0 Z0 [(oBox bx0 127 [v0_0, (Value.func (.func 61) #[] #[])]), (oRow v0_0 122 tyS_huff_tree a0.items)] [(oRow v4 122 tyS_huff_tree l5x0_0), (oBox bx0 127 [v4, (Value.func (.func 61) #[] #[])])] [(fDat tyS_huff_tree [(int .i64 u15.weight), (int .i64 u15.least), s19] u15), (fDat tyS_huff_tree [(int .i64 u9.weight), (int .i64 u9.least), s13] u9), (fDat (tyList (tyInt .i64)) [v1_2] a1.symbols)]) X_ Y_) (S := over (put (put (tab [(0, (ptr bx0 0)), (4, (int .i64 l5i4)), (5, (int .i64 (IntKind.i64.wrap (((IntKind.i64.wrap (l5i4 - (1 : Int)))).tdiv (2 : Int)))))]) 60 v4) 61 (int .i64 l5i4)) F_) ?_
 refine al_idxR 0 (at_some hu25).1 (at_some hu25).2.1 rfl rfl rfl Try.underlying125 sz122 rfl (fun p26 hp27 => ?_)
 refine al_nil ?_
 exact fr_fin hK_ ⟨p26, hp27⟩⟩, ⟨_, rfl, [15], rfl, by
 rintro ⟨p26, hp27⟩
 intro X_ Y_ F_ K_ hK_
 refine al_show (m := Mem.plus (memOf w0 Z0 [(oBox bx0 127 [v0_0, (Value.func (.func 61) #[] #[])]), (oRow v0_0 122 tyS_huff_tree a0.items)] [(oRow v4 122 tyS_huff_tree l5x0_0), (oBox bx0 127 [v4, (Value.func (.func 61) #[] #[])])] [(fDat tyS_huff_tree [(int .i64 u15.weight), (int .i64 u15.least), s19] u15), (fDat tyS_huff_tree [(int .i64 u9.weight), (int .i64 u9.least), s13] u9), (fDat (tyList (tyInt .i64)) [v1_2] a1.symbols)]) X_ Y_) (S := over (put (tab [(0, (ptr bx0 0)), (4, (int .i64 l5i4)), (5, (int .i64 (IntKind.i64.wrap (((IntKind.i64.wrap (l5i4 - (1 : Int)))).tdiv (2 : Int)))))]) 62 p26) F_) ?_
 refine al_loadRA 0 rfl hp27 (at_some hu25).2.2 rfl Try.underlying122 sz122 rfl rfl (fun cs29 => ?_)
 refine al_use (ι := Value) 0 rfl (fun j => cs29 = [(int .i64 u24.weight), (int .i64 u24.least), j]) (fun j => [(fDat (tyList (tyInt .i64)) [j] u24.symbols)]) encnS_huff_tree (fun s28 hq => ?_)
 subst hq
 refine al_nil ?_
 exact fr_fin hK_ s28⟩, ⟨_, rfl, [], rfl, by
 intro X_ Y_ F_ K_ hK_
 refine al_show (m := Mem.plus (memOf w0 Z0 [(oBox bx0 127 [v0_0, (Value.func (.func 61) #[] #[])]), (oRow v0_0 122 tyS_huff_tree a0.items)] [(oRow v4 122 tyS_huff_tree l5x0_0), (oBox bx0 127 [v4, (Value.func (.func 61) #[] #[])])] [(fDat tyS_huff_tree [(int .i64 u15.weight), (int .i64 u15.least), s19] u15), (fDat tyS_huff_tree [(int .i64 u9.weight), (int .i64 u9.least), s13] u9), (fDat (tyList (tyInt .i64)) [v1_2] a1.symbols)]) X_ Y_) (S := over (tab [(0, (ptr bx0 0)), (4, (int .i64 l5i4)), (5, (int .i64 (IntKind.i64.wrap (((IntKind.i64.wrap (l5i4 - (1 : Int)))).tdiv (2 : Int)))))]) F_) ?_
 refine al_mv rfl rfl ?_
 refine al_nil ?_
 exact fr_fin hK_ ()⟩, ⟨_, rfl, [17], rfl, by
 intro _
 intro X_ Y_ F_ K_ hK_
 refine al_show (m := Mem.plus (memOf w0 Z0 [(oBox bx0 127 [v0_0, (Value.func (.func 61) #[] #[])]), (oRow v0_0 122 tyS_huff_tree a0.items)] [(oRow v4 122 tyS_huff_tree l5x0_0), (oBox bx0 127 [v4, (Value.func (.func 61) #[] #[])])] [(fDat tyS_huff_tree [(int .i64 u15.weight), (int .i64 u15.least), s19] u15), (fDat tyS_huff_tree [(int .i64 u9.weight), (int .i64 u9.least), s13] u9), (fDat (tyList (tyInt .i64)) [v1_2] a1.symbols)]) X_ Y_) (S := over (put (tab [(0, (ptr bx0 0)), (4, (int .i64 l5i4)), (5, (int .i64 (IntKind.i64.wrap (((IntKind.i64.wrap (l5i4 - (1 : Int)))).tdiv (2 : Int)))))]) 64 (ptr bx0 0)) F_) ?_
 refine al_val (ov_nilCheck rfl rfl) ?_
 refine al_nil ?_
 exact fr_fin hK_ ()⟩, ⟨_, rfl, [18], rfl, by
 intro _
 intro X_ Y_ F_ K_ hK_
 refine al_show (m := Mem.plus (memOf w0 Z0 [(oBox bx0 127 [v0_0, (Value.func (.func 61) #[] #[])]), (oRow v0_0 122 tyS_huff_tree a0.items)] [(oRow v4 122 tyS_huff_tree l5x0_0), (oBox bx0 127 [v4, (Value.func (.func 61) #[] #[])])] [(fDat tyS_huff_tree [(int .i64 u15.weight), (int .i64 u15.least), s19] u15), (fDat tyS_huff_tree [(int .i64 u9.weight), (int .i64 u9.least), s13] u9), (fDat (tyList (tyInt .i64)) [v1_2] a1.symbols)]) X_ Y_) (S := over (put (tab [(0, (ptr bx0 0)), (4, (int .i64 l5i4)), (5, (int .i64 (IntKind.i64.wrap (((IntKind.i64.wrap (l5i4 - (1 : Int)))).tdiv (2 : Int)))))]) 65 (ptr bx0 0)) F_) ?_
 refine al_val (ov_fieldA (p := 0) rfl Try.underlying127 rfl sz125 rfl rfl rfl) ?_
 refine al_nil ?_
 exact fr_fin hK_ ()⟩, ⟨_, rfl, [19], rfl, by
 intro _
 intro X_ Y_ F_ K_ hK_
 refine al_show (m := Mem.plus (memOf w0 Z0 [(oBox bx0 127 [v0_0, (Value.func (.func 61) #[] #[])]), (oRow v0_0 122 tyS_huff_tree a0.items)] [(oRow v4 122 tyS_huff_tree l5x0_0), (oBox bx0 127 [v4, (Value.func (.func 61) #[] #[])])] [(fDat tyS_huff_tree [(int .i64 u15.weight), (int .i64 u15.least), s19] u15), (fDat tyS_huff_tree [(int .i64 u9.weight), (int .i64 u9.least), s13] u9), (fDat (tyList (tyInt .i64)) [v1_2] a1.symbols)]) X_ Y_) (S := over (put (tab [(0, (ptr bx0 0)), (4, (int .i64 l5i4)), (5, (int .i64 (IntKind.i64.wrap (((IntKind.i64.wrap (l5i4 - (1 : Int)))).tdiv (2 : Int)))))]) 66 (ptr bx0 0)) F_) ?_
 refine al_val (ov_load (i := 1) (v := v4) rfl rfl Try.underlying125 sz125 rfl rfl rfl rfl) ?_
 refine al_nil ?_
 exact fr_fin hK_ ()⟩, ⟨_, rfl, [], rfl, by
 intro X_ Y_ F_ K_ hK_
 refine al_show (m := Mem.plus (memOf w0 Z0 [(oBox bx0 127 [v0_0, (Value.func (.func 61) #[] #[])]), (oRow v0_0 122 tyS_huff_tree a0.items)] [(oRow v4 122 tyS_huff_tree l5x0_0), (oBox bx0 127 [v4, (Value.func (.func 61) #[] #[])])] [(fDat tyS_huff_tree [(int .i64 u15.weight), (int .i64 u15.least), s19] u15), (fDat tyS_huff_tree [(int .i64 u9.weight), (int .i64 u9.least), s13] u9), (fDat (tyList (tyInt .i64)) [v1_2] a1.symbols)]) X_ Y_) (S := over (tab [(0, (ptr bx0 0)), (4, (int .i64 l5i4)), (5, (int .i64 (IntKind.i64.wrap (((IntKind.i64.wrap (l5i4 - (1 : Int)))).tdiv (2 : Int)))))]) F_) ?_
 refine al_mv rfl rfl ?_
 refine al_nil ?_
 exact fr_fin hK_ ()⟩, ⟨_, rfl, [20, 21], rfl, by
 intro _
 intro _
 intro X_ Y_ F_ K_ hK_
 refine al_show (m := Mem.plus (memOf w0 Z0 [(oBox bx0 127 [v0_0, (Value.func (.func 61) #[] #[])]), (oRow v0_0 122 tyS_huff_tree a0.items)] [(oRow v4 122 tyS_huff_tree l5x0_0), (oBox bx0 127 [v4, (Value.func (.func 61) #[] #[])])] [(fDat tyS_huff_tree [(int .i64 u15.weight), (int .i64 u15.least), s19] u15), (fDat tyS_huff_tree [(int .i64 u9.weight), (int .i64 u9.least), s13] u9), (fDat (tyList (tyInt .i64)) [v1_2] a1.symbols)]) X_ Y_) (S := over (put (put (tab [(0, (ptr bx0 0)), (4, (int .i64 l5i4)), (5, (int .i64 (IntKind.i64.wrap (((IntKind.i64.wrap (l5i4 - (1 : Int)))).tdiv (2 : Int)))))]) 67 v4) 68 (int .i64 (IntKind.i64.wrap (((IntKind.i64.wrap (l5i4 - (1 : Int)))).tdiv (2 : Int))))) F_) ?_
 refine al_idxR 0 (at_some hu31).1 (at_some hu31).2.1 rfl rfl rfl Try.underlying125 sz122 rfl (fun p32 hp33 => ?_)
 refine al_nil ?_
 exact fr_fin hK_ ⟨p32, hp33⟩⟩, ⟨_, rfl, [22], rfl, by
 rintro ⟨p32, hp33⟩
 intro X_ Y_ F_ K_ hK_
 refine al_show (m := Mem.plus (memOf w0 Z0 [(oBox bx0 127 [v0_0, (Value.func (.func 61) #[] #[])]), (oRow v0_0 122 tyS_huff_tree a0.items)] [(oRow v4 122 tyS_huff_tree l5x0_0), (oBox bx0 127 [v4, (Value.func (.func 61) #[] #[])])] [(fDat tyS_huff_tree [(int .i64 u15.weight), (int .i64 u15.least), s19] u15), (fDat tyS_huff_tree [(int .i64 u9.weight), (int .i64 u9.least), s13] u9), (fDat (tyList (tyInt .i64)) [v1_2] a1.symbols)]) X_ Y_) (S := over (put (tab [(0, (ptr bx0 0)), (4, (int .i64 l5i4)), (5, (int .i64 (IntKind.i64.wrap (((IntKind.i64.wrap (l5i4 - (1 : Int)))).tdiv (2 : Int)))))]) 69 p32) F_) ?_
 refine al_loadRA 0 rfl hp33 (at_some hu31).2.2 rfl Try.underlying122 sz122 rfl rfl (fun cs35 => ?_)
 refine al_use (ι := Value) 0 rfl (fun j => cs35 = [(int .i64 u30.weight), (int .i64 u30.least), j]) (fun j => [(fDat (tyList (tyInt .i64)) [j] u30.symbols)]) encnS_huff_tree (fun s34 hq => ?_)
 subst hq
 refine al_nil ?_
 exact fr_fin hK_ s34⟩, ⟨_, rfl, [0, 1, 2, 3, 4, 8, 10, 11, 12, 13, 14, 15, 16, 20, 23], rfl, by
 intro _
 intro _
 intro _
 intro _
 intro _
 intro _
 intro _
 intro _
 intro _
 intro _
 intro _
 rintro ⟨p26, hp27⟩
 intro s28
 intro _
 intro s34
 intro X_ Y_ F_ K_ hK_
 refine al_show (m := Mem.plus (memOf w0 Z0 [(oBox bx0 127 [v0_0, (Value.func (.func 61) #[] #[])]), (oRow v0_0 122 tyS_huff_tree a0.items)] [(oRow v4 122 tyS_huff_tree l5x0_0), (oBox bx0 127 [v4, (Value.func (.func 61) #[] #[])])] [(fDat (tyList (tyInt .i64)) [s34] u30.symbols), (fDat tyS_huff_tree [(int .i64 u30.weight), (int .i64 u30.least), s34] u30), (fDat (tyList (tyInt .i64)) [s28] u24.symbols), (fDat tyS_huff_tree [(int .i64 u24.weight), (int .i64 u24.least), s28] u24), (fDat tyS_huff_tree [(int .i64 u15.weight), (int .i64 u15.least), s19] u15), (fDat tyS_huff_tree [(int .i64 u9.weight), (int .i64 u9.least), s13] u9), (fDat (tyList (tyInt .i64)) [v1_2] a1.symbols)]) X_ Y_) (S := over (put (put (put (put (put (put (put (put (put (put (put (put (put (put (put (tab [(0, (ptr bx0 0)), (4, (int .i64 l5i4)), (5, (int .i64 (IntKind.i64.wrap (((IntKind.i64.wrap (l5i4 - (1 : Int)))).tdiv (2 : Int)))))]) 47 (ptr bx0 0)) 48 (ptr bx0 0)) 49 (ptr bx0 0)) 50 v4) 51 (int .i64 (IntKind.i64.wrap (((IntKind.i64.wrap (l5i4 - (1 : Int)))).tdiv (2 : Int))))) 55 v4) 57 (ptr bx0 0)) 58 (ptr bx0 0)) 59 (ptr bx0 0)) 60 v4) 61 (int .i64 l5i4)) 62 p26) 63 (ag [(int .i64 u24.weight), (int .i64 u24.least), s28])) 67 v4) 70 (ag [(int .i64 u30.weight), (int .i64 u30.least), s34])) F_) ?_
 refine al_idxR 0 (at_some hu37).1 (at_some hu37).2.1 rfl rfl rfl Try.underlying125 sz122 rfl (fun p38 hp39 => ?_)
 refine al_nil ?_
 exact fr_fin hK_ ⟨p38, hp39⟩⟩, trivial⟩ ?_
   intro _
   intro _
   intro _
   intro _
   intro _
   intro _
   intro _
   intro _
   intro _
   intro _
   intro _
   intro _
   intro _
   intro _
   rintro ⟨p26, hp27⟩
   intro s28
   intro _
   intro _
   intro _
   intro _
   intro _
   rintro ⟨p32, hp33⟩
   intro s34
   rintro ⟨p38, hp39⟩
   intro X_ Y_ F_ K_ hK_
   refine al_show (m := Mem.plus (memOf w0 Z0 [(oBox bx0 127 [v0_0, (Value.func (.func 61) #[] #[])]), (oRow v0_0 122 tyS_huff_tree a0.items)] [(oRow v4 122 tyS_huff_tree l5x0_0), (oBox bx0 127 [v4, (Value.func (.func 61) #[] #[])])] [(fDat (tyList (tyInt .i64)) [s34] u30.symbols), (fDat tyS_huff_tree [(int .i64 u30.weight), (int .i64 u30.least), s34] u30), (fDat (tyList (tyInt .i64)) [s28] u24.symbols), (fDat tyS_huff_tree [(int .i64 u24.weight), (int .i64 u24.least), s28] u24), (fDat tyS_huff_tree [(int .i64 u15.weight), (int .i64 u15.least), s19] u15), (fDat tyS_huff_tree [(int .i64 u9.weight), (int .i64 u9.least), s13] u9), (fDat (tyList (tyInt .i64)) [v1_2] a1.symbols)]) X_ Y_) (S := over (put (put (put (put (put (put (put (put (put (put (put (put (put (put (put (put (put (put (put (put (put (put (put (put (tab [(0, (ptr bx0 0)), (4, (int .i64 l5i4)), (5, (int .i64 (IntKind.i64.wrap (((IntKind.i64.wrap (l5i4 - (1 : Int)))).tdiv (2 : Int)))))]) 47 (ptr bx0 0)) 48 (ptr bx0 0)) 49 (ptr bx0 0)) 50 v4) 51 (int .i64 (IntKind.i64.wrap (((IntKind.i64.wrap (l5i4 - (1 : Int)))).tdiv (2 : Int))))) 52 (ptr bx0 0)) 53 (ptr bx0 0)) 54 (ptr bx0 0)) 55 v4) 57 (ptr bx0 0)) 58 (ptr bx0 0)) 59 (ptr bx0 0)) 60 v4) 61 (int .i64 l5i4)) 62 p26) 63 (ag [(int .i64 u24.weight), (int .i64 u24.least), s28])) 64 (ptr bx0 0)) 65 (ptr bx0 0)) 66 (ptr bx0 0)) 67 v4) 68 (int .i64 (IntKind.i64.wrap (((IntKind.i64.wrap (l5i4 - (1 : Int)))).tdiv (2 : Int))))) 69 p32) 70 (ag [(int .i64 u30.weight), (int .i64 u30.least), s34])) 71 p38) F_) ?_
   refine al_storeR (k := ((IntKind.i64.wrap (((IntKind.i64.wrap (l5i4 - (1 : Int)))).tdiv (2 : Int)))).toNat) (x := u24) (vs := [(int .i64 u24.weight), (int .i64 u24.least), s28]) 0 rfl hp39 (idx_lt hu37) rfl rfl (cv_rfl rfl) (fun hm => mknS_huff_tree rfl (fz_at (i := 2) hm rfl)) sz122 rfl ?_
   refine al_nil ?_
   obtain ⟨u40, hu41, h⟩ := opt_some h
   refine aq_show (m := Mem.plus (memOf w0 Z0 [(oBox bx0 127 [v0_0, (Value.func (.func 61) #[] #[])]), (oRow v0_0 122 tyS_huff_tree a0.items)] [(oRow v4 122 tyS_huff_tree (l5x0_0.set ((IntKind.i64.wrap (((IntKind.i64.wrap (l5i4 - (1 : Int)))).tdiv (2 : Int)))).toNat u24)), (oBox bx0 127 [v4, (Value.func (.func 61) #[] #[])])] [(fDat (tyList (tyInt .i64)) [s34] u30.symbols), (fDat tyS_huff_tree [(int .i64 u30.weight), (int .i64 u30.least), s34] u30), (fDat (tyList (tyInt .i64)) [s28] u24.symbols), (fDat tyS_huff_tree [(int .i64 u24.weight), (int .i64 u24.least), s28] u24), (fDat tyS_huff_tree [(int .i64 u15.weight), (int .i64 u15.least), s19] u15), (fDat tyS_huff_tree [(int .i64 u9.weight), (int .i64 u9.least), s13] u9), (fDat (tyList (tyInt .i64)) [v1_2] a1.symbols)]) X_ Y_) ?_
   refine aq_next hK_ [0, 1] [0, 1, 3, 4, 5, 6] [(0, (ptr bx0 0)), (4, (int .i64 l5i4)), (5, (int .i64 (IntKind.i64.wrap (((IntKind.i64.wrap (l5i4 - (1 : Int)))).tdiv (2 : Int))))), (55, v4), (70, (ag [(int .i64 u30.weight), (int .i64 u30.least), s34]))] [56] [⟨26, 72, {p : Value // EltOf v4 p ((l5i4).toNat * Ty.size tyS_huff_tree)}, fun p => { val := p.1 }⟩] rfl rfl (by decide) rfl ⟨rfl, rfl, rfl, rfl, rfl, trivial⟩ ⟨rfl, trivial⟩ ?_
   clear hK_ K_ F_ X_ Y_
   refine ta_show (m := (memOf w0 Z0 [(oBox bx0 127 [v0_0, (Value.func (.func 61) #[] #[])]), (oRow v0_0 122 tyS_huff_tree a0.items)] [(oRow v4 122 tyS_huff_tree (l5x0_0.set ((IntKind.i64.wrap (((IntKind.i64.wrap (l5i4 - (1 : Int)))).tdiv (2 : Int)))).toNat u24)), (oBox bx0 127 [v4, (Value.func (.func 61) #[] #[])])] [(fDat (tyList (tyInt .i64)) [s34] u30.symbols), (fDat tyS_huff_tree [(int .i64 u30.weight), (int .i64 u30.least), s34] u30), (fDat tyS_huff_tree [(int .i64 u24.weight), (int .i64 u24.least), s28] u24), (fDat tyS_huff_tree [(int .i64 u15.weight), (int .i64 u15.least), s19] u15), (fDat tyS_huff_tree [(int .i64 u9.weight), (int .i64 u9.least), s13] u9), (fDat (tyList (tyInt .i64)) [v1_2] a1.symbols)])) (S := (tab [(0, (ptr bx0 0)), (4, (int .i64 l5i4)), (5, (int .i64 (IntKind.i64.wrap (((IntKind.i64.wrap (l5i4 - (1 : Int)))).tdiv (2 : Int))))), (55, v4), (70, (ag [(int .i64 u30.weight), (int .i64 u30.least), s34]))])) ?_
   refine ta_step 27 _ [9, 26] [56, 72] [9, 26] [] [⟨9, 56, Unit, fun _ => { val := (int .i64 l5i4) }⟩, ⟨26, 72, {p : Value // EltOf v4 p ((l5i4).toNat * Ty.size tyS_huff_tree)}, fun p => { val := p.1 }⟩] [] rfl rfl rfl (by kernel_rfl) rfl rfl rfl ⟨⟨_, rfl, [], rfl, by
 intro X_ Y_ F_ K_ hK_
 refine al_show (m := Mem.plus (memOf w0 Z0 [(oBox bx0 127 [v0_0, (Value.func (.func 61) #[] #[])]), (oRow v0_0 122 tyS_huff_tree a0.items)] [(oRow v4 122 tyS_huff_tree (l5x0_0.set ((IntKind.i64.wrap (((IntKind.i64.wrap (l5i4 - (1 : Int)))).tdiv (2 : Int)))).toNat u24)), (oBox bx0 127 [v4, (Value.func (.func 61) #[] #[])])] [(fDat (tyList (tyInt .i64)) [s34] u30.symbols), (fDat tyS_huff_tree [(int .i64 u30.weight), (int .i64 u30.least), s34] u30), (fDat tyS_huff_tree [(int .i64 u24.weight), (int .i64 u24.least), s28] u24), (fDat tyS_huff_tree [(int .i64 u15.weight), (int .i64 u15.least), s19] u15), (fDat tyS_huff_tree [(int .i64 u9.weight), (int .i64 u9.least), s13] u9), (fDat (tyList (tyInt .i64)) [v1_2] a1.symbols)]) X_ Y_) (S := over (tab [(0, (ptr bx0 0)), (4, (int .i64 l5i4)), (5, (int .i64 (IntKind.i64.wrap (((IntKind.i64.wrap (l5i4 - (1 : Int)))).tdiv (2 : Int))))), (55, v4), (70, (ag [(int .i64 u30.weight), (int .i64 u30.least), s34]))]) F_) ?_
 refine al_mv rfl rfl ?_
 refine al_nil ?_
 exact fr_fin hK_ ()⟩, ⟨_, rfl, [0], rfl, by
 intro _
 intro X_ Y_ F_ K_ hK_
 refine al_show (m := Mem.plus (memOf w0 Z0 [(oBox bx0 127 [v0_0, (Value.func (.func 61) #[] #[])]), (oRow v0_0 122 tyS_huff_tree a0.items)] [(oRow v4 122 tyS_huff_tree (l5x0_0.set ((IntKind.i64.wrap (((IntKind.i64.wrap (l5i4 - (1 : Int)))).tdiv (2 : Int)))).toNat u24)), (oBox bx0 127 [v4, (Value.func (.func 61) #[] #[])])] [(fDat (tyList (tyInt .i64)) [s34] u30.symbols), (fDat tyS_huff_tree [(int .i64 u30.weight), (int .i64 u30.least), s34] u30), (fDat tyS_huff_tree [(int .i64 u24.weight), (int .i64 u24.least), s28] u24), (fDat tyS_huff_tree [(int .i64 u15.weight), (int .i64 u15.least), s19] u15), (fDat tyS_huff_tree [(int .i64 u9.weight), (int .i64 u9.least), s13] u9), (fDat (tyList (tyInt .i64)) [v1_2] a1.symbols)]) X_ Y_) (S := over (put (tab [(0, (ptr bx0 0)), (4, (int .i64 l5i4)), (5, (int .i64 (IntKind.i64.wrap (((IntKind.i64.wrap (l5i4 - (1 : Int)))).tdiv (2 : Int))))), (55, v4), (70, (ag [(int .i64 u30.weight), (int .i64 u30.least), s34]))]) 56 (int .i64 l5i4)) F_) ?_
 refine al_idxR 0 (at_some hu41).1 (at_some hu41).2.1 rfl rfl rfl Try.underlying125 sz122 rfl (fun p42 hp43 => ?_)
 refine al_nil ?_
 exact fr_fin hK_ ⟨p42, hp43⟩⟩, trivial⟩ ?_
   intro _
   rintro ⟨p42, hp43⟩
   intro X_ Y_ F_ K_ hK_
   refine al_show (m := Mem.plus (memOf w0 Z0 [(oBox bx0 127 [v0_0, (Value.func (.func 61) #[] #[])]), (oRow v0_0 122 tyS_huff_tree a0.items)] [(oRow v4 122 tyS_huff_tree (l5x0_0.set ((IntKind.i64.wrap (((IntKind.i64.wrap (l5i4 - (1 : Int)))).tdiv (2 : Int)))).toNat u24)), (oBox bx0 127 [v4, (Value.func (.func 61) #[] #[])])] [(fDat (tyList (tyInt .i64)) [s34] u30.symbols), (fDat tyS_huff_tree [(int .i64 u30.weight), (int .i64 u30.least), s34] u30), (fDat tyS_huff_tree [(int .i64 u24.weight), (int .i64 u24.least), s28] u24), (fDat tyS_huff_tree [(int .i64 u15.weight), (int .i64 u15.least), s19] u15), (fDat tyS_huff_tree [(int .i64 u9.weight), (int .i64 u9.least), s13] u9), (fDat (tyList (tyInt .i64)) [v1_2] a1.symbols)]) X_ Y_) (S := over (put (put (tab [(0, (ptr bx0 0)), (4, (int .i64 l5i4)), (5, (int .i64 (IntKind.i64.wrap (((IntKind.i64.wrap (l5i4 - (1 : Int)))).tdiv (2 : Int))))), (55, v4), (70, (ag [(int .i64 u30.weight), (int .i64 u30.least), s34]))]) 56 (int .i64 l5i4)) 72 p42) F_) ?_
   refine al_storeR (k := (l5i4).toNat) (x := u30) (vs := [(int .i64 u30.weight), (int .i64 u30.least), s34]) 0 rfl hp43 (idx_lt hu41) rfl rfl (cv_rfl rfl) (fun hm => mknS_huff_tree rfl (fz_at (i := 0) hm rfl)) sz122 rfl ?_
   refine al_nil ?_
   refine aq_show (m := Mem.plus (memOf w0 Z0 [(oBox bx0 127 [v0_0, (Value.func (.func 61) #[] #[])]), (oRow v0_0 122 tyS_huff_tree a0.items)] [(oRow v4 122 tyS_huff_tree ((l5x0_0.set ((IntKind.i64.wrap (((IntKind.i64.wrap (l5i4 - (1 : Int)))).tdiv (2 : Int)))).toNat u24).set (l5i4).toNat u30)), (oBox bx0 127 [v4, (Value.func (.func 61) #[] #[])])] [(fDat (tyList (tyInt .i64)) [s34] u30.symbols), (fDat tyS_huff_tree [(int .i64 u30.weight), (int .i64 u30.least), s34] u30), (fDat tyS_huff_tree [(int .i64 u24.weight), (int .i64 u24.least), s28] u24), (fDat tyS_huff_tree [(int .i64 u15.weight), (int .i64 u15.least), s19] u15), (fDat tyS_huff_tree [(int .i64 u9.weight), (int .i64 u9.least), s13] u9), (fDat (tyList (tyInt .i64)) [v1_2] a1.symbols)]) X_ Y_) ?_
   refine aq_next hK_ [0, 1] [0, 1, 2, 3, 4, 5] [(0, (ptr bx0 0)), (5, (int .i64 (IntKind.i64.wrap (((IntKind.i64.wrap (l5i4 - (1 : Int)))).tdiv (2 : Int)))))] [] [] rfl rfl (by decide) rfl ⟨rfl, rfl, trivial⟩ trivial ?_
   clear hK_ K_ F_ X_ Y_
   refine ta_show (m := (memOf w0 Z0 [(oBox bx0 127 [v0_0, (Value.func (.func 61) #[] #[])]), (oRow v0_0 122 tyS_huff_tree a0.items)] [(oRow v4 122 tyS_huff_tree ((l5x0_0.set ((IntKind.i64.wrap (((IntKind.i64.wrap (l5i4 - (1 : Int)))).tdiv (2 : Int)))).toNat u24).set (l5i4).toNat u30)), (oBox bx0 127 [v4, (Value.func (.func 61) #[] #[])])] [(fDat (tyList (tyInt .i64)) [s34] u30.symbols), (fDat tyS_huff_tree [(int .i64 u30.weight), (int .i64 u30.least), s34] u30), (fDat tyS_huff_tree [(int .i64 u24.weight), (int .i64 u24.least), s28] u24), (fDat tyS_huff_tree [(int .i64 u15.weight), (int .i64 u15.least), s19] u15), (fDat tyS_huff_tree [(int .i64 u9.weight), (int .i64 u9.least), s13] u9), (fDat (tyList (tyInt .i64)) [v1_2] a1.symbols)])) (S := (tab [(0, (ptr bx0 0)), (5, (int .i64 (IntKind.i64.wrap (((IntKind.i64.wrap (l5i4 - (1 : Int)))).tdiv (2 : Int)))))])) ?_
   refine ta_end [] [] rfl rfl (by kernel_rfl) rfl trivial ?_
   refine aq_show (m := (memOf w0 Z0 [(oBox bx0 127 [v0_0, (Value.func (.func 61) #[] #[])]), (oRow v0_0 122 tyS_huff_tree a0.items)] [(oRow v4 122 tyS_huff_tree ((l5x0_0.set ((IntKind.i64.wrap (((IntKind.i64.wrap (l5i4 - (1 : Int)))).tdiv (2 : Int)))).toNat u24).set (l5i4).toNat u30)), (oBox bx0 127 [v4, (Value.func (.func 61) #[] #[])])] [(fDat (tyList (tyInt .i64)) [s34] u30.symbols), (fDat tyS_huff_tree [(int .i64 u30.weight), (int .i64 u30.least), s34] u30), (fDat tyS_huff_tree [(int .i64 u24.weight), (int .i64 u24.least), s28] u24), (fDat tyS_huff_tree [(int .i64 u15.weight), (int .i64 u15.least), s19] u15), (fDat tyS_huff_tree [(int .i64 u9.weight), (int .i64 u9.least), s13] u9), (fDat (tyList (tyInt .i64)) [v1_2] a1.symbols)])) (S := (tab [(0, (ptr bx0 0)), (5, (int .i64 (IntKind.i64.wrap (((IntKind.i64.wrap (l5i4 - (1 : Int)))).tdiv (2 : Int)))))])) ?_
   refine aq_then ?_
   refine aw_region ?_
   refine al_mv rfl rfl ?_
   refine al_as rfl rfl ?_
   refine al_nil ?_
   refine aq_block ?_
   exact aq_again k6 (((l5x0_0.set ((IntKind.i64.wrap (((IntKind.i64.wrap (l5i4 - (1 : Int)))).tdiv (2 : Int)))).toNat u24).set (l5i4).toNat u30), (IntKind.i64.wrap (((IntKind.i64.wrap (l5i4 - (1 : Int)))).tdiv (2 : Int)))) (Nat.lt_succ_self _) h (fun w a hm hs => norm hm hs [0, 1] [5] [(0, (ptr bx0 0)), (4, (int .i64 (IntKind.i64.wrap (((IntKind.i64.wrap (l5i4 - (1 : Int)))).tdiv (2 : Int)))))] (by decide) ⟨rfl, rfl, trivial⟩)
 ·replace h := bif_f hb8 h
  refine aw_exit ?_
  refine aq_then_exit ?_
  refine aq_then_exit ?_
  refine aq_block_exit ?_
  refine fn_end ?_
  obtain rfl := Option.some.inj h
  exact fn_ret v4 [1, 0] [] rfl rfl rfl rfl (resC rfl (resN) rfl) rfl rfl rfl (by decide)
def f___huff_heap_huff_tree___pop_L50 (a0 : D_huff_heap_huff_tree_) (l21x0_0 : (List S_huff_tree)) (l21i5 : Int) (kk26 : (Int → Option (S_huff_tree × D_huff_heap_huff_tree_))) (fu : Nat) : Nat → Int → Int → Option (S_huff_tree × D_huff_heap_huff_tree_)
  | 0, _, _ => none
  | k49 + 1, l48i6, l48i50 => (bif (decide (l48i50 < (2 : Int))) then (lt (fun (j52i6 : Int) => (f___huff_heap_huff_tree___pop_L50 a0 l21x0_0 l21i5 kk26 fu k49 j52i6 (IntKind.i64.wrap (l48i50 + (1 : Int))))) fun (kk53 : Int → Option (S_huff_tree × D_huff_heap_huff_tree_)) => (opt (at? (lA2i64 (A2i64.mk (IntKind.i64.wrap ((IntKind.i64.wrap ((2 : Int) * l21i5)) + (1 : Int))) (IntKind.i64.wrap ((IntKind.i64.wrap ((2 : Int) * l21i5)) + (2 : Int))))) l48i50) fun (u54 : Int) => (lt (fun (j56b77 : Bool) => (bif j56b77 then (kk53 u54) else (kk53 l48i6))) fun (kk57 : Bool → Option (S_huff_tree × D_huff_heap_huff_tree_)) => (bif (decide (u54 < (IntKind.i64.wrap ((a0.items.length : Int) - (1 : Int))))) then (opt (at? l21x0_0 u54) fun (u60 : S_huff_tree) => (opt (at? l21x0_0 l48i6) fun (u66 : S_huff_tree) => (opt (f_huff_Lengths_2 fu u60 u66) fun (r73 : Int) => (kk57 (decide (r73 < (0 : Int))))))) else (kk57 false))))) else (kk26 l48i6))
def f___huff_heap_huff_tree___pop_L23 (a0 : D_huff_heap_huff_tree_) (u2 : S_huff_tree) (fu : Nat) : Nat → (List S_huff_tree) → Int → Option (S_huff_tree × D_huff_heap_huff_tree_)
  | 0, _, _ => none
  | k22 + 1, l21x0_0, l21i5 => (lt (fun (l21x0_0 : (List S_huff_tree)) (l21i5 : Int) => (f___huff_heap_huff_tree___pop_L23 a0 u2 fu k22 l21x0_0 l21i5)) fun (kk24 : (List S_huff_tree) → Int → Option (S_huff_tree × D_huff_heap_huff_tree_)) => (lt (fun (j25i6 : Int) => (bif (j25i6 == l21i5) then (some (u2, (D_huff_heap_huff_tree_.mk l21x0_0))) else (opt (at? l21x0_0 l21i5) fun (u28 : S_huff_tree) => (opt (at? l21x0_0 j25i6) fun (u34 : S_huff_tree) => (opt (at? l21x0_0 j25i6) fun (u40 : S_huff_tree) => (opt (at? (l21x0_0.set (j25i6).toNat u28) l21i5) fun (u44 : S_huff_tree) => (kk24 ((l21x0_0.set (j25i6).toNat u28).set (l21i5).toNat u34) j25i6))))))) fun (kk26 : Int → Option (S_huff_tree × D_huff_heap_huff_tree_)) => (f___huff_heap_huff_tree___pop_L50 a0 l21x0_0 l21i5 kk26 fu fu l21i5 (0 : Int))))
def f___huff_heap_huff_tree___pop (fu : Nat) (a0 : D_huff_heap_huff_tree_) : Option (S_huff_tree × D_huff_heap_huff_tree_) := (opt (at? a0.items (0 : Int)) fun (u2 : S_huff_tree) => (opt (at? a0.items (IntKind.i64.wrap ((a0.items.length : Int) - (1 : Int)))) fun (u9 : S_huff_tree) => (opt (at? a0.items (0 : Int)) fun (u15 : S_huff_tree) => (req (0 ≤ (IntKind.i64.wrap ((a0.items.length : Int) - (1 : Int))) ∧ (IntKind.i64.wrap ((a0.items.length : Int) - (1 : Int))) ≤ ((a0.items.set ((0 : Int)).toNat u9).length : Int)) (f___huff_heap_huff_tree___pop_L23 a0 u2 fu fu ((a0.items.set ((0 : Int)).toNat u9).take ((IntKind.i64.wrap ((a0.items.length : Int) - (1 : Int)))).toNat) (0 : Int))))))
end Go.Proofs.Ytfhifdmbdkkgaaa
