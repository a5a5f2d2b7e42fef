/- The plain functions of package graph and of the reference agree: GraphSays. No condition. -/
import Derived.Test.YthcmjcnilhglmaaWGraphSays
import Derived.Test.YthcmjcnilhglmaaPl0
namespace Go.Proofs.Ythcmjcnilhglmaa.Gra
open Go.RowKit Ythcmjcnilhglmaa.En Ythcmjcnilhglmaa
set_option linter.unusedVariables false
set_option linter.unusedSimpArgs false
/-! slices.Equal -/
theorem eqi_loop (a b : List Int) (kk : Unit → Option Bool) (hl : a.length = b.length) (hm : a.length ≤ 200) : ∀ (fuel k : Nat), k ≤ a.length → a.length - k < fuel →
    f_slices_Equal___int_int__L6 a b kk fuel (k : Int) = if a.drop k = b.drop k then kk () else some false
  | 0, k, _, hf => absurd hf (Nat.not_lt_zero _)
  | fuel + 1, k, hk, hf => by
    rw [f_slices_Equal___int_int__L6]
    by_cases hlt : k < a.length
    · rw [cond_tt (dlt (by omega)), at_lt hlt, at_lt (show k < b.length by omega), opt_of, opt_of, List.drop_eq_getElem_cons hlt, List.drop_eq_getElem_cons (show k < b.length by omega)]
      by_cases he : a[k] = b[k]
      · rw [cond_ff (by simp [he]), wsucc (by omega), eqi_loop a b kk hl hm fuel (k + 1) (by omega) (by omega)]
        by_cases hd : a.drop (k + 1) = b.drop (k + 1)
        · rw [if_pos hd, if_pos (by rw [he, hd])]
        · rw [if_neg hd, if_neg (fun h => hd (List.cons.inj h).2)]
      · rw [cond_tt (by simp [he]), if_neg (fun h => he (List.cons.inj h).1)]
    · rw [cond_ff (dge (by omega)), List.drop_of_length_le (by omega), List.drop_of_length_le (by omega), if_pos rfl]
theorem eqi (a : List Int) (fu : Nat) (hm : a.length ≤ 200) (hf : 200 < fu) : f_slices_Equal___int_int_ fu a a = some true := by
  unfold f_slices_Equal___int_int_
  rw [cond_ff (by simp), lt_of]
  refine (eqi_loop a a _ rfl hm fu 0 (by omega) (by omega)).trans ?_
  rw [if_pos rfl]
theorem eqb_loop (a b : List Bool) (kk : Unit → Option Bool) (hl : a.length = b.length) (hm : a.length ≤ 200) : ∀ (fuel k : Nat), k ≤ a.length → a.length - k < fuel →
    f_slices_Equal___bool_bool__L6 a b kk fuel (k : Int) = if a.drop k = b.drop k then kk () else some false
  | 0, k, _, hf => absurd hf (Nat.not_lt_zero _)
  | fuel + 1, k, hk, hf => by
    rw [f_slices_Equal___bool_bool__L6]
    by_cases hlt : k < a.length
    · rw [cond_tt (dlt (by omega)), at_lt hlt, at_lt (show k < b.length by omega), opt_of, opt_of, List.drop_eq_getElem_cons hlt, List.drop_eq_getElem_cons (show k < b.length by omega)]
      by_cases he : a[k] = b[k]
      · rw [cond_ff (by simp [he]), wsucc (by omega), eqb_loop a b kk hl hm fuel (k + 1) (by omega) (by omega)]
        by_cases hd : a.drop (k + 1) = b.drop (k + 1)
        · rw [if_pos hd, if_pos (by rw [he, hd])]
        · rw [if_neg hd, if_neg (fun h => hd (List.cons.inj h).2)]
      · rw [cond_tt (by simp [he]), if_neg (fun h => he (List.cons.inj h).1)]
    · rw [cond_ff (dge (by omega)), List.drop_of_length_le (by omega), List.drop_of_length_le (by omega), if_pos rfl]
theorem eqb (a : List Bool) (fu : Nat) (hm : a.length ≤ 200) (hf : 200 < fu) : f_slices_Equal___bool_bool_ fu a a = some true := by
  unfold f_slices_Equal___bool_bool_
  rw [cond_ff (by simp), lt_of]
  refine (eqb_loop a a _ rfl hm fu 0 (by omega) (by omega)).trans ?_
  rw [if_pos rfl]
/-! Check -/
def out1 (n : Nat) (x : Int) : Bool := decide (x < 0) || decide (x ≥ (n : Int))
def pe (l : List Int) (n : Nat) : Int := if l.length > 64 then 2 else if l.any (out1 n) then 1 else 0
def gerr (n : Nat) : List (List Int) → Int
  | [] => 0
  | l :: ls => if pe l n ≠ 0 then pe l n else gerr n ls
def chk (g : List (List Int)) : Int := if g.length > 200 then 2 else gerr g.length g
theorem any_cons {l : List Int} {k : Nat} (p : Int → Bool) (h : k < l.length) : (l.drop k).any p = (p l[k] || (l.drop (k + 1)).any p) := by
  rw [List.drop_eq_getElem_cons h, List.any_cons]
theorem check_in (g : List (List Int)) (kk : Unit → Option Int) (u : List Int) (hm : u.length ≤ 64) : ∀ (fuel k : Nat), k ≤ u.length → u.length - k < fuel →
    f_graph_Check_L18 g kk u fuel (k : Int) = if (u.drop k).any (out1 g.length) then some 1 else kk ()
  | 0, k, _, hf => absurd hf (Nat.not_lt_zero _)
  | fuel + 1, k, hk, hf => by
    rw [f_graph_Check_L18]
    by_cases hlt : k < u.length
    · rw [cond_tt (dlt (by omega)), at_lt hlt, opt_of, lt_of, any_cons _ hlt, wsucc (by omega), check_in g kk u hm fuel (k + 1) (by omega) (by omega)]
      unfold out1
      by_cases h0 : u[k] < 0
      · rw [cond_tt (dlt h0), dlt h0]; rfl
      · rw [cond_ff (dge (by omega)), dge (show (0 : Int) ≤ u[k] by omega)]
        by_cases h1 : u[k] ≥ (g.length : Int)
        · rw [decide_eq_true h1]; rfl
        · rw [decide_eq_false h1]; rfl
    · rw [cond_ff (dge (by omega)), List.drop_of_length_le (by omega)]; rfl
theorem point_loop (n : Nat) (kk : Unit → Option Int) (u : List Int) (hm : u.length ≤ 64) : ∀ (fuel k : Nat), k ≤ u.length → u.length - k < fuel →
    f_lumref_pointErr_L6 u (n : Int) kk fuel (k : Int) = if (u.drop k).any (out1 n) then some 1 else kk ()
  | 0, k, _, hf => absurd hf (Nat.not_lt_zero _)
  | fuel + 1, k, hk, hf => by
    rw [f_lumref_pointErr_L6]
    by_cases hlt : k < u.length
    · rw [cond_tt (dlt (by omega)), at_lt hlt, opt_of, lt_of, any_cons _ hlt, wsucc (by omega), point_loop n kk u hm fuel (k + 1) (by omega) (by omega)]
      unfold out1
      by_cases h0 : u[k] < 0
      · rw [cond_tt (dlt h0), dlt h0]; rfl
      · rw [cond_ff (dge (by omega)), dge (show (0 : Int) ≤ u[k] by omega)]
        by_cases h1 : u[k] ≥ (n : Int)
        · rw [decide_eq_true h1]; rfl
        · rw [decide_eq_false h1]; rfl
    · rw [cond_ff (dge (by omega)), List.drop_of_length_le (by omega)]; rfl
theorem point_any (fu : Nat) (u : List Int) (n : Nat) (hf : 300 ≤ fu) : f_lumref_pointErr fu u (n : Int) = some (pe u n) := by
  unfold f_lumref_pointErr pe
  by_cases h : u.length > 64
  · rw [cond_tt (decide_eq_true (by omega)), if_pos h]
  · rw [cond_ff (decide_eq_false (by omega)), if_neg h, lt_of, show (0 : Int) = ((0 : Nat) : Int) from rfl, point_loop n _ u (by omega) fu 0 (by omega) (by omega), List.drop_zero]
    split <;> rfl
theorem check_loop (g : List (List Int)) (fu : Nat) (hm : g.length ≤ 200) (hf : 300 ≤ fu) : ∀ (fuel k : Nat), k ≤ g.length → g.length - k < fuel →
    f_graph_Check_L6 g (fun _ => some 0) fu fuel (k : Int) = some (gerr g.length (g.drop k))
  | 0, k, _, hfu => absurd hfu (Nat.not_lt_zero _)
  | fuel + 1, k, hk, hfu => by
    rw [f_graph_Check_L6]
    rw [lt_of]
    by_cases hlt : k < g.length
    · rw [cond_tt (dlt (by omega)), lt_of, at_lt hlt, opt_of, List.drop_eq_getElem_cons hlt, wsucc (by omega)]
      dsimp only
      rw [check_loop g fu hm hf fuel (k + 1) (by omega) (by omega)]
      show _ = some (if pe g[k] g.length ≠ 0 then pe g[k] g.length else gerr g.length (g.drop (k + 1)))
      unfold pe
      by_cases h : g[k].length > 64
      · rw [cond_tt (decide_eq_true (by omega)), if_pos h]; rfl
      · rw [cond_ff (decide_eq_false (by omega)), if_neg h, show (0 : Int) = ((0 : Nat) : Int) from rfl, check_in g _ g[k] (by omega) fu 0 (by omega) (by omega), List.drop_zero]
        by_cases hb : g[k].any (out1 g.length) = true
        · rw [if_pos hb, if_pos hb]; rfl
        · rw [if_neg hb, if_neg hb]; rfl
    · rw [cond_ff (dge (by omega)), List.drop_of_length_le (by omega)]; rfl
theorem check_any (g : List (List Int)) (fu : Nat) (hf : 300 ≤ fu) : f_graph_Check fu g = some (chk g) := by
  unfold f_graph_Check chk
  by_cases h : g.length > 200
  · rw [cond_tt (decide_eq_true (by omega)), if_pos h]
  · rw [cond_ff (decide_eq_false (by omega)), if_neg h, lt_of]
    exact check_loop g fu (by omega) hf fu 0 (by omega) (by omega)
theorem graph_loop (g : List (List Int)) (fu : Nat) (hm : g.length ≤ 200) (hf : 300 ≤ fu) : ∀ (fuel k : Nat), k ≤ g.length → g.length - k < fuel →
    f_lumref_Graph_L6 g (fun _ => some 0) fu fuel (k : Int) = some (gerr g.length (g.drop k))
  | 0, k, _, hfu => absurd hfu (Nat.not_lt_zero _)
  | fuel + 1, k, hk, hfu => by
    rw [f_lumref_Graph_L6]
    by_cases hlt : k < g.length
    · rw [cond_tt (dlt (by omega)), at_lt hlt, opt_of, List.drop_eq_getElem_cons hlt, wsucc (by omega), graph_loop g fu hm hf fuel (k + 1) (by omega) (by omega), point_any fu _ _ hf, opt_of]
      show _ = some (if pe g[k] g.length ≠ 0 then pe g[k] g.length else gerr g.length (g.drop (k + 1)))
      by_cases h : pe g[k] g.length = 0
      · rw [cond_ff (by simp [h]), if_neg (fun h' => h' h)]
      · rw [cond_tt (by simpa using h), if_pos h]
    · rw [cond_ff (dge (by omega)), List.drop_of_length_le (by omega)]; rfl
theorem graph_any (g : List (List Int)) (fu : Nat) (hf : 300 ≤ fu) : f_lumref_Graph fu g = some (chk g) := by
  unfold f_lumref_Graph chk
  by_cases h : g.length > 200
  · rw [cond_tt (decide_eq_true (by omega)), if_pos h]
  · rw [cond_ff (decide_eq_false (by omega)), if_neg h, lt_of]
    exact graph_loop g fu (by omega) hf fu 0 (by omega) (by omega)
/-- a list of points is in order -/
def Fine (n : Nat) (l : List Int) : Prop := l.length ≤ 64 ∧ ∀ x ∈ l, 0 ≤ x ∧ x < (n : Int)
theorem pe_zero {l : List Int} {n : Nat} (h : pe l n = 0) : Fine n l := by
  unfold pe at h
  by_cases h1 : l.length > 64
  · rw [if_pos h1] at h; cases h
  · rw [if_neg h1] at h
    by_cases h2 : l.any (out1 n) = true
    · rw [if_pos h2] at h; cases h
    · refine ⟨by omega, fun x hx => ?_⟩
      have h3 : ¬out1 n x = true := fun h4 => h2 (List.any_eq_true.2 ⟨x, hx, h4⟩)
      unfold out1 at h3
      simp only [Bool.or_eq_true, decide_eq_true_eq] at h3
      omega
theorem gerr_zero {n : Nat} : ∀ {g : List (List Int)}, gerr n g = 0 → ∀ l ∈ g, Fine n l
  | [], _, l, hl => absurd hl (by simp)
  | m :: ls, h, l, hl => by
    unfold gerr at h
    by_cases hm : pe m n = 0
    · rw [if_neg (fun h' => h' hm)] at h
      rcases List.mem_cons.1 hl with rfl | hl
      · exact pe_zero hm
      · exact gerr_zero h l hl
    · rw [if_pos hm] at h; exact absurd h hm
structure Good (g : List (List Int)) : Prop where
  len : g.length ≤ 200
  fine : ∀ l ∈ g, Fine g.length l
theorem chk_zero {g : List (List Int)} (h : chk g = 0) : Good g := by
  unfold chk at h
  by_cases h1 : g.length > 200
  · rw [if_pos h1] at h; cases h
  · rw [if_neg h1] at h; exact ⟨by omega, gerr_zero h⟩
/-! Order -/
def free (g : List (List Int)) (out : List Int) (k : Nat) : Bool := match g[k]? with
  | some l => !out.contains (k : Int) && l.all out.contains
  | none => false
def nx (p : Nat → Bool) : Nat → Nat → Option Nat
  | 0, _ => none
  | m + 1, k => if p k then some k else nx p m (k + 1)
def ord (g : List (List Int)) : Nat → List Int → List Int × Int
  | 0, out => (out, 0)
  | t + 1, out => match nx (free g out) g.length 0 with
    | some i => ord g t (out ++ [(i : Int)])
    | none => ([], 4)
theorem ord_code (g : List (List Int)) : ∀ (t : Nat) (out : List Int), (ord g t out).2 ≠ 0 → (ord g t out).1 = []
  | 0, out, h => absurd rfl h
  | t + 1, out, h => by
    unfold ord at h ⊢
    cases hn : nx (free g out) g.length 0 with
    | some i => rw [hn] at h; exact ord_code g t _ h
    | none => rfl
theorem nx_lt (p : Nat → Bool) : ∀ (m k i : Nat), nx p m k = some i → i < k + m
  | 0, k, i, h => by cases h
  | m + 1, k, i, h => by
    unfold nx at h
    by_cases hp : p k = true
    · rw [if_pos hp] at h; cases h; omega
    · rw [if_neg hp] at h; have := nx_lt p m (k + 1) i h; omega
theorem ord_len (g : List (List Int)) : ∀ (t : Nat) (out : List Int), (ord g t out).1.length ≤ t + out.length
  | 0, out => by show out.length ≤ _; omega
  | t + 1, out => by
    unfold ord
    cases hn : nx (free g out) g.length 0 with
    | some i => have := ord_len g t (out ++ [(i : Int)]); simp only [List.length_append, List.length_cons, List.length_nil] at this; simp only; omega
    | none => exact Nat.zero_le _
theorem has_loop (l : List Int) (x : Int) (hm : l.length ≤ 200) : ∀ (fuel k : Nat), k ≤ l.length → l.length - k < fuel →
    f_lumref_has_L5 l x (fun _ => some false) fuel (k : Int) = some ((l.drop k).contains x)
  | 0, k, _, hf => absurd hf (Nat.not_lt_zero _)
  | fuel + 1, k, hk, hf => by
    rw [f_lumref_has_L5]
    by_cases hlt : k < l.length
    · rw [cond_tt (dlt (by omega)), at_lt hlt, opt_of, List.drop_eq_getElem_cons hlt, wsucc (by omega), has_loop l x hm fuel (k + 1) (by omega) (by omega), List.contains_cons]
      by_cases he : l[k] = x
      · rw [cond_tt (by simp [he]), he]; simp
      · rw [cond_ff (by simp [he])]
        have : (x == l[k]) = false := by simp; exact fun h => he h.symm
        rw [this]; rfl
    · rw [cond_ff (dge (by omega)), List.drop_of_length_le (by omega)]; rfl
theorem has_any (fu : Nat) (l : List Int) (x : Int) (hm : l.length ≤ 200) (hf : 300 ≤ fu) : f_lumref_has fu l x = some (l.contains x) := by
  unfold f_lumref_has
  rw [lt_of, show (0 : Int) = ((0 : Nat) : Int) from rfl, has_loop l x hm fu 0 (by omega) (by omega), List.drop_zero]
theorem all_loop (out u : List Int) (kk : Bool → Option (List Int × Int)) (fu : Nat) (ho : out.length ≤ 200) (hf : 300 ≤ fu) (hm : u.length ≤ 64) : ∀ (fuel k : Nat) (b : Bool), k ≤ u.length → u.length - k < fuel →
    f_lumref_Order_L37 out u kk fu fuel b (k : Int) = kk (b && (u.drop k).all out.contains)
  | 0, k, b, _, hfu => absurd hfu (Nat.not_lt_zero _)
  | fuel + 1, k, b, hk, hfu => by
    rw [f_lumref_Order_L37]
    by_cases hlt : k < u.length
    · rw [cond_tt (dlt (by omega)), lt_of, at_lt hlt, opt_of, List.drop_eq_getElem_cons hlt, wsucc (by omega), List.all_cons, has_any fu _ _ ho hf, opt_of]
      dsimp only
      rw [all_loop out u kk fu ho hf hm fuel (k + 1) _ (by omega) (by omega), all_loop out u kk fu ho hf hm fuel (k + 1) _ (by omega) (by omega)]
      cases b <;> simp
    · rw [cond_ff (dge (by omega)), List.drop_of_length_le (by omega)]; simp
theorem next_loop (g : List (List Int)) (hg : Good g) (out : List Int) (kk : Int → Option (List Int × Int)) (fu : Nat) (ho : out.length ≤ 200) (hf : 300 ≤ fu) : ∀ (fuel k : Nat), k ≤ g.length → g.length - k < fuel →
    f_lumref_Order_L21 g out kk fu fuel (k : Int) = kk (match nx (free g out) (g.length - k) k with | some i => (i : Int) | none => -1)
  | 0, k, _, hfu => absurd hfu (Nat.not_lt_zero _)
  | fuel + 1, k, hk, hfu => by
    rw [f_lumref_Order_L21]
    rw [lt_of]
    by_cases hlt : k < g.length
    · have hl := hg.len
      obtain ⟨hx, hr⟩ := hg.fine g[k] (List.getElem_mem hlt)
      rw [cond_tt (dlt (by omega)), lt_of, at_lt hlt, opt_of, wsucc (by omega)]
      dsimp only
      rw [next_loop g hg out kk fu ho hf fuel (k + 1) (by omega) (by omega), has_any fu _ _ ho hf, opt_of, lt_of,
        show (0 : Int) = ((0 : Nat) : Int) from rfl, all_loop out g[k] _ fu ho hf hx fu 0 _ (by omega) (by omega), List.drop_zero, show g.length - k = (g.length - (k + 1)) + 1 by omega]
      show _ = kk (match (if free g out k then some k else nx (free g out) (g.length - (k + 1)) (k + 1)) with | some i => (i : Int) | none => -1)
      have hfr : free g out k = (!out.contains (k : Int) && g[k].all out.contains) := by unfold free; rw [List.getElem?_eq_getElem hlt]
      rw [hfr]
      by_cases h : (!out.contains (k : Int) && g[k].all out.contains) = true
      · rw [if_pos h, cond_tt h]
      · rw [if_neg h, cond_ff (by simpa using h)]
    · rw [cond_ff (dge (by omega)), show g.length - k = 0 by omega]; rfl
theorem nx_free (g : List (List Int)) (out : List Int) {i : Nat} (h : nx (free g out) g.length 0 = some i) : i < g.length := by have := nx_lt _ _ _ _ h; omega
theorem ref_loop (g : List (List Int)) (hg : Good g) (fu : Nat) (hf : 300 ≤ fu) : ∀ (fuel : Nat) (out : List Int), out.length ≤ g.length → g.length - out.length < fuel →
    f_lumref_Order_L8 g (fun o => some (o, 0)) fu fuel out (out.length : Int) = some (ord g (g.length - out.length) out)
  | 0, out, _, hfu => absurd hfu (Nat.not_lt_zero _)
  | fuel + 1, out, hk, hfu => by
    rw [f_lumref_Order_L8]
    rw [lt_of]
    have hl := hg.len
    by_cases hlt : out.length < g.length
    · rw [cond_tt (dlt (by omega)), lt_of, lt_of, show (0 : Int) = ((0 : Nat) : Int) from rfl, next_loop g hg out _ fu (by omega) hf fu 0 (by omega) (by omega)]
      rw [show g.length - 0 = g.length from rfl, show g.length - out.length = (g.length - (out.length + 1)) + 1 by omega, ord]
      cases hn : nx (free g out) g.length 0 with
      | none => rfl
      | some i =>
        have hi := nx_free g out hn
        have ih := ref_loop g hg fu hf fuel (out ++ [(i : Int)]) (by simp; omega) (by simp; omega)
        dsimp only
        rw [cond_ff (dge (by omega)), req_pos (by simp; omega), wsucc (by omega)]
        simp only [List.length_append, List.length_cons, List.length_nil, Nat.zero_add] at ih
        exact ih
    · rw [cond_ff (dge (by omega)), show g.length - out.length = 0 by omega]; rfl
theorem ref_order (g : List (List Int)) (fu : Nat) (hf : 300 ≤ fu) : f_lumref_Order fu g = some (if chk g ≠ 0 then ([], chk g) else ord g g.length []) := by
  unfold f_lumref_Order
  rw [graph_any g fu hf, opt_of]
  by_cases h : chk g = 0
  · rw [cond_ff (by simp [h]), if_neg (fun h' => h' h), lt_of]
    have hl := (chk_zero h).len
    exact ref_loop g (chk_zero h) fu hf fu [] (by simp) (by simp; omega)
  · rw [cond_tt (by simpa using h), if_pos h]
/-- the marks of what is out -/
def Marks (g : List (List Int)) (d : List Bool) (out : List Int) : Prop := d.length = g.length ∧ ∀ i, i < g.length → d[i]? = some (out.contains (i : Int))
theorem mark_at {g : List (List Int)} {d : List Bool} {out : List Int} (h : Marks g d out) {x : Int} (h0 : 0 ≤ x) (h1 : x < g.length) : at? d x = some (out.contains x) := by
  obtain ⟨k, rfl⟩ : ∃ k : Nat, x = k := ⟨x.toNat, by omega⟩
  rw [at_nat]; exact h.2 k (by omega)
theorem mark_set {g : List (List Int)} {d : List Bool} {out : List Int} (h : Marks g d out) {i : Nat} (hi : i < g.length) : Marks g (d.set i true) (out ++ [(i : Int)]) := by
  refine ⟨by simp [h.1], fun j hj => ?_⟩
  rw [List.getElem?_set]
  by_cases hij : i = j
  · subst hij; simp [h.1, hj]
  · rw [if_neg hij, h.2 j hj]
    simp [show ¬((j : Int) = (i : Int)) by omega]
theorem need_loop (g : List (List Int)) (d : List Bool) (out : List Int) (hd : Marks g d out) (k1 k2 : Unit → Option (List Int × Int)) (u : List Int) (hu : Fine g.length u) : ∀ (fuel k : Nat), k ≤ u.length → u.length - k < fuel →
    f_graph_Order_L42 d k1 u k2 fuel (k : Int) = if (u.drop k).all out.contains then k2 () else k1 ()
  | 0, k, _, hfu => absurd hfu (Nat.not_lt_zero _)
  | fuel + 1, k, hk, hfu => by
    rw [f_graph_Order_L42]
    have hl := hu.1
    by_cases hlt : k < u.length
    · obtain ⟨h0, h1⟩ := hu.2 u[k] (List.getElem_mem hlt)
      rw [cond_tt (dlt (by omega)), at_lt hlt, opt_of, mark_at hd h0 h1, opt_of, List.drop_eq_getElem_cons hlt, wsucc (by omega), need_loop g d out hd k1 k2 u hu fuel (k + 1) (by omega) (by omega), List.all_cons]
      cases out.contains u[k] <;> simp
    · rw [cond_ff (dge (by omega)), List.drop_of_length_le (by omega)]; rfl
theorem scan_loop (g : List (List Int)) (hg : Good g) (d : List Bool) (out : List Int) (hd : Marks g d out) (kk : List Bool → List Int → Option (List Int × Int)) (k2 : Unit → Option (List Int × Int)) (fu : Nat) (ho : out.length ≤ 200) (hf : 300 ≤ fu) : ∀ (fuel k : Nat), k ≤ g.length → g.length - k < fuel →
    f_graph_Order_L17 g d out kk k2 fu fuel (k : Int) = match nx (free g out) (g.length - k) k with | some i => kk (d.set i true) (out ++ [(i : Int)]) | none => k2 ()
  | 0, k, _, hfu => absurd hfu (Nat.not_lt_zero _)
  | fuel + 1, k, hk, hfu => by
    rw [f_graph_Order_L17]
    rw [lt_of]
    by_cases hlt : k < g.length
    · have hl := hg.len
      have hx := hg.fine g[k] (List.getElem_mem hlt)
      have hx1 := hx.1
      rw [cond_tt (dlt (by omega)), lt_of, at_lt hlt, opt_of, wsucc (by omega)]
      dsimp only
      rw [scan_loop g hg d out hd kk k2 fu ho hf fuel (k + 1) (by omega) (by omega), mark_at hd (by omega) (by omega), opt_of, lt_of, opt_of, req_pos (by simp; omega),
        show (0 : Int) = ((0 : Nat) : Int) from rfl, need_loop g d out hd _ _ g[k] hx fu 0 (by omega) (by omega), List.drop_zero, show g.length - k = (g.length - (k + 1)) + 1 by omega, Int.toNat_natCast]
      show _ = (match (if free g out k then some k else nx (free g out) (g.length - (k + 1)) (k + 1)) with | some i => kk (d.set i true) (out ++ [(i : Int)]) | none => k2 ())
      have hfr : free g out k = (!out.contains (k : Int) && g[k].all out.contains) := by unfold free; rw [List.getElem?_eq_getElem hlt]
      rw [hfr]
      cases out.contains (k : Int) with
      | true => rw [cond_tt rfl]; rfl
      | false =>
        rw [cond_ff rfl]
        cases g[k].all out.contains <;> rfl
    · rw [cond_ff (dge (by omega)), show g.length - k = 0 by omega]; rfl
theorem code_loop (g : List (List Int)) (hg : Good g) (fu : Nat) (hf : 300 ≤ fu) : ∀ (fuel : Nat) (d : List Bool) (out : List Int), Marks g d out → out.length ≤ g.length → g.length - out.length < fuel →
    f_graph_Order_L10 g (fun o => some (o, 0)) fu fuel d out = some (ord g (g.length - out.length) out)
  | 0, d, out, _, _, hfu => absurd hfu (Nat.not_lt_zero _)
  | fuel + 1, d, out, hd, hk, hfu => by
    rw [f_graph_Order_L10]
    rw [lt_of]
    have hl := hg.len
    by_cases hlt : out.length < g.length
    · rw [cond_tt (dlt (by omega)), lt_of, show (0 : Int) = ((0 : Nat) : Int) from rfl, scan_loop g hg d out hd _ _ fu (by omega) hf fu 0 (by omega) (by omega)]
      rw [show g.length - 0 = g.length from rfl, show g.length - out.length = (g.length - (out.length + 1)) + 1 by omega, ord]
      cases hn : nx (free g out) g.length 0 with
      | none => rfl
      | some i =>
        have hi := nx_free g out hn
        have ih := code_loop g hg fu hf fuel _ _ (mark_set hd hi) (by simp; omega) (by simp; omega)
        simp only [List.length_append, List.length_cons, List.length_nil, Nat.zero_add] at ih
        exact ih
    · rw [cond_ff (dge (by omega)), show g.length - out.length = 0 by omega]; rfl
theorem code_order (g : List (List Int)) (fu : Nat) (hf : 300 ≤ fu) : f_graph_Order fu g = some (if chk g ≠ 0 then ([], chk g) else ord g g.length []) := by
  unfold f_graph_Order
  rw [check_any g fu hf, opt_of]
  by_cases h : chk g = 0
  · have hl := (chk_zero h).len
    rw [cond_ff (by simp [h]), if_neg (fun h' => h' h), req_pos (by omega), lt_of, Int.toNat_natCast]
    exact code_loop g (chk_zero h) fu hf fu _ [] ⟨by simp, fun i hi => by simp [hi]⟩ (by simp) (by simp; omega)
  · rw [cond_tt (by simpa using h), if_pos h]
end Go.Proofs.Ythcmjcnilhglmaa.Gra
