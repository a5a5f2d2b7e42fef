/- What is kept: the code and the reference agree. No condition. -/
import Derived.Test.YtollpgmcmipcoaaKsCiv
namespace Go.Proofs.Ytollpgmcmipcoaa.PKeepSays
open Go.RowKit Ytollpgmcmipcoaa.En Ytollpgmcmipcoaa Ytollpgmcmipcoaa.Civ
set_option linter.unusedVariables false
set_option linter.unusedSimpArgs false
theorem wf_i64 {x : Int} (h0 : -9223372036854775808 ≤ x) (h1 : x ≤ 9223372036854775807) : (Lit.int .i64 x).wf = true := by
  simpa [Lit.wf, IntKind.min, IntKind.max, IntKind.signed, IntKind.bits] using ⟨h0, h1⟩
/-! the policy -/
def okN (n : Int) : Bool := decide (0 ≤ n) && decide (n ≤ 100)
def pol (p : S_api_Policy) : Int := if [p.Last, p.Days, p.Weeks, p.Months, p.Years].all okN then 0 else 1
theorem chk_go (p : S_api_Policy) (kk : Unit → Option Int) : ∀ (d k j : Nat), 5 - j = d → j ≤ 5 → d < k →
    f_keep_Check_L6 p kk k (j : Int) = if ([p.Last, p.Days, p.Weeks, p.Months, p.Years].drop j).all okN then kk () else some 1
  | _, 0, _, _, _, hk => absurd hk (Nat.not_lt_zero _)
  | d, k + 1, j, hd, hj, hk => by
    rw [f_keep_Check_L6]
    obtain ⟨l, hl⟩ : ∃ l : List Int, l = [p.Last, p.Days, p.Weeks, p.Months, p.Years] := ⟨_, rfl⟩
    have hl5 : l.length = 5 := by rw [hl]; rfl
    have hl2 : lA5i64 (A5i64.mk p.Last p.Days p.Weeks p.Months p.Years) = l := by rw [hl]; rfl
    have ih := fun j' h1 h2 h3 => chk_go p kk (d - 1) k j' h1 h2 h3
    rw [hl2]
    rw [← hl] at ih ⊢
    by_cases h : j < 5
    · rw [cond_tt (dlt (by omega)), at_lt (show j < l.length by omega), opt_of, lt_of, List.drop_eq_getElem_cons (show j < l.length by omega), List.all_cons]
      by_cases h0 : l[j] < 0
      · rw [cond_tt (dlt h0), show okN l[j] = false by unfold okN; rw [decide_eq_false (by omega)]; rfl]; rfl
      · rw [cond_ff (dge (by omega))]
        dsimp only
        by_cases h1 : l[j] > 100
        · rw [cond_tt (decide_eq_true h1), show okN l[j] = false by unfold okN; rw [decide_eq_false (show ¬ l[j] ≤ 100 by omega), Bool.and_false]]; rfl
        · rw [cond_ff (decide_eq_false h1), wsucc (by omega), ih (j + 1) (by omega) (by omega) (by omega), show okN l[j] = true by unfold okN; rw [decide_eq_true (by omega), decide_eq_true (by omega)]; rfl, Bool.true_and]
    · rw [cond_ff (dge (by omega)), List.drop_of_length_le (by omega)]; rfl
theorem check_ok (p : S_api_Policy) {fu : Nat} (hf : 10 ≤ fu) : f_keep_Check fu p = some (pol p) := by
  unfold f_keep_Check pol
  rw [lt_of]
  refine (chk_go p _ 5 fu 0 rfl (by omega) (by omega)).trans ?_
  rw [List.drop_zero]
  split <;> rfl
theorem min_lt (a b : Int) : min2 a b < 0 ↔ a < 0 ∨ b < 0 := by unfold min2; split <;> omega
theorem max_gt (a b : Int) : max2 a b > 100 ↔ a > 100 ∨ b > 100 := by unfold max2; split <;> omega
theorem policy_ok (p : S_api_Policy) (fu : Nat) : f_lumref_Policy fu p = some (pol p) := by
  unfold f_lumref_Policy pol
  rw [lt_of]
  have hall : [p.Last, p.Days, p.Weeks, p.Months, p.Years].all okN = true ↔ (0 ≤ p.Last ∧ p.Last ≤ 100) ∧ (0 ≤ p.Days ∧ p.Days ≤ 100) ∧ (0 ≤ p.Weeks ∧ p.Weeks ≤ 100) ∧ (0 ≤ p.Months ∧ p.Months ≤ 100) ∧ (0 ≤ p.Years ∧ p.Years ≤ 100) := by
    simp [okN]
  have h1 := min_lt (min2 (min2 (min2 p.Last p.Days) p.Weeks) p.Months) p.Years
  have h2 := min_lt (min2 (min2 p.Last p.Days) p.Weeks) p.Months
  have h3 := min_lt (min2 p.Last p.Days) p.Weeks
  have h4 := min_lt p.Last p.Days
  have g1 := max_gt (max2 (max2 (max2 p.Last p.Days) p.Weeks) p.Months) p.Years
  have g2 := max_gt (max2 (max2 p.Last p.Days) p.Weeks) p.Months
  have g3 := max_gt (max2 p.Last p.Days) p.Weeks
  have g4 := max_gt p.Last p.Days
  by_cases hm : min2 (min2 (min2 (min2 p.Last p.Days) p.Weeks) p.Months) p.Years < 0
  · rw [cond_tt (dlt hm), if_neg (by rw [hall]; omega)]; rfl
  · rw [cond_ff (decide_eq_false hm)]
    dsimp only
    by_cases hx : max2 (max2 (max2 (max2 p.Last p.Days) p.Weeks) p.Months) p.Years > 100
    · rw [cond_tt (decide_eq_true hx), if_neg (by rw [hall]; omega)]
    · rw [cond_ff (decide_eq_false hx), if_pos (by rw [hall]; omega)]
/-! the times -/
theorem times_go (ts : List Int) (hl : ts.length ≤ 200) (kk : Unit → Option (List Bool × Int)) (kr : Unit → Option Int) : ∀ (d k j : Nat), ts.length - j = d → d < k →
    (∃ e : Int, e ≠ 0 ∧ f_keep_Pick_L113 ts kk k (j : Int) = some ([], e) ∧ f_lumref_Times57_L6 ts kr k (j : Int) = some e) ∨
    (f_keep_Pick_L113 ts kk k (j : Int) = kk () ∧ f_lumref_Times57_L6 ts kr k (j : Int) = kr () ∧ ∀ (i : Nat) (t : Int), j ≤ i → ts[i]? = some t → 0 ≤ t ∧ t ≤ 4223371679)
  | _, 0, _, _, hk => absurd hk (Nat.not_lt_zero _)
  | d, k + 1, j, hd, hk => by
    rw [f_keep_Pick_L113, f_lumref_Times57_L6]
    by_cases h : j < ts.length
    · rw [cond_tt (dlt (show (j : Int) < ts.length by omega)), cond_tt (dlt (show (j : Int) < ts.length by omega)), at_lt h, opt_of, opt_of]
      simp only [lt_of]
      obtain ⟨t, ht⟩ : ∃ t, t = ts[j] := ⟨_, rfl⟩
      rw [← ht]
      have hsplit : ∀ P : Prop, (∀ (i : Nat) (t : Int), j + 1 ≤ i → ts[i]? = some t → 0 ≤ t ∧ t ≤ 4223371679) → 0 ≤ t ∧ t ≤ 4223371679 → ∀ (i : Nat) (t : Int), j ≤ i → ts[i]? = some t → 0 ≤ t ∧ t ≤ 4223371679 := by
        intro _ h1 h2 i t' hi ht'
        rcases Nat.lt_or_eq_of_le hi with h3 | h3
        · exact h1 i t' h3 ht'
        · subst h3
          rw [List.getElem?_eq_getElem h] at ht'
          have := Option.some.inj ht'
          rw [← this, ← ht]; exact h2
      by_cases h0 : t < 0
      · rw [cond_tt (dlt h0), cond_tt (dlt h0)]
        exact .inl ⟨1, by decide, rfl, rfl⟩
      rw [cond_ff (decide_eq_false h0), cond_ff (decide_eq_false h0)]
      by_cases h1 : t > 4223371679
      · rw [cond_tt (decide_eq_true h1), cond_tt (decide_eq_true h1)]
        exact .inl ⟨1, by decide, rfl, rfl⟩
      rw [cond_ff (decide_eq_false h1), cond_ff (decide_eq_false h1)]
      have ih := times_go ts hl kk kr (d - 1) k (j + 1) (by omega) (by omega)
      have fin : ∀ {A : Option (List Bool × Int)} {B : Option Int}, A = f_keep_Pick_L113 ts kk k ((j + 1 : Nat) : Int) → B = f_lumref_Times57_L6 ts kr k ((j + 1 : Nat) : Int) →
          ((∃ e : Int, e ≠ 0 ∧ A = some ([], e) ∧ B = some e) ∨ (A = kk () ∧ B = kr () ∧ ∀ (i : Nat) (t : Int), j ≤ i → ts[i]? = some t → 0 ≤ t ∧ t ≤ 4223371679)) := by
        intro A B hA hB
        rw [hA, hB]
        rcases ih with h2 | ⟨h2, h3, h4⟩
        · exact .inl h2
        · exact .inr ⟨h2, h3, hsplit True h4 (by omega)⟩
      by_cases hj : j = 0
      · subst hj
        rw [cond_ff (decide_eq_false (by decide)), cond_ff (decide_eq_false (by decide))]
        exact fin rfl rfl
      · rw [cond_tt (decide_eq_true (show (j : Int) > 0 by omega)), cond_tt (decide_eq_true (show (j : Int) > 0 by omega)), w64 (x := (j : Int) - 1) (by omega) (by omega), show (j : Int) - 1 = ((j - 1 : Nat) : Int) by omega, at_lt (show j - 1 < ts.length by omega), opt_of, opt_of]
        by_cases h2 : t > ts[j - 1]
        · rw [cond_tt (decide_eq_true h2), cond_tt (decide_eq_true (show ts[j - 1] < t from h2))]
          exact .inl ⟨4, by decide, rfl, rfl⟩
        · rw [cond_ff (decide_eq_false h2), cond_ff (decide_eq_false (show ¬ ts[j - 1] < t from h2)), wsucc (by omega)]
          exact fin rfl rfl
    · rw [cond_ff (dge (by omega)), cond_ff (dge (by omega))]
      exact .inr ⟨rfl, rfl, fun i t hi ht => by rw [List.getElem?_eq_none (by omega)] at ht; cases ht⟩
/-! the first ones -/
def mk (n : Nat) (f : Nat → Bool) : List Bool := (List.range n).map f
theorem mk_len (n : Nat) (f : Nat → Bool) : (mk n f).length = n := by simp [mk]
theorem mk_congr {n : Nat} {f g : Nat → Bool} (h : ∀ i, i < n → f i = g i) : mk n f = mk n g := by
  unfold mk
  exact List.map_congr_left fun i hi => h i (List.mem_range.1 hi)
theorem mk_set {n : Nat} {f : Nat → Bool} {j : Nat} {b : Bool} : (mk n f).set j b = mk n (fun i => if i = j then b else f i) := by
  unfold mk
  apply List.ext_getElem?
  intro i
  rw [List.getElem?_set]
  by_cases hi : i < n
  · by_cases hj : j = i
    · subst hj; simp [hi]
    · have : ¬ i = j := fun e => hj e.symm
      simp [hi, hj, this]
  · by_cases hj : j = i
    · subst hj; simp [hi]
    · simp [hj, hi]
theorem rep_mk (n : Nat) : List.replicate n false = mk n (fun _ => false) := by
  apply List.ext_getElem?
  intro i
  unfold mk
  by_cases hi : i < n <;> simp [hi]
theorem first_go (p : S_api_Policy) (ts : List Int) (hl : ts.length ≤ 200) (kk : List Bool → Option (List Bool × Int)) : ∀ (d k j : Nat), ts.length - j = d → d < k →
    f_keep_Pick_L105 p ts kk k (mk ts.length (fun i => decide (i < j) && decide ((i : Int) < p.Last))) (j : Int) = kk (mk ts.length (fun i => decide ((i : Int) < p.Last)))
  | _, 0, _, _, hk => absurd hk (Nat.not_lt_zero _)
  | d, k + 1, j, hd, hk => by
    rw [f_keep_Pick_L105]
    by_cases h : (j : Int) < if (ts.length : Int) < p.Last then (ts.length : Int) else p.Last
    · have hj : j < ts.length ∧ (j : Int) < p.Last := by split at h <;> omega
      rw [cond_tt (dlt h), at_lt (by rw [mk_len]; exact hj.1), opt_of, wsucc (by omega), Int.toNat_natCast, mk_set]
      rw [← first_go p ts hl kk (d - 1) k (j + 1) (by omega) (by omega)]
      congr 1
      apply mk_congr
      intro i hi
      by_cases e : i = j
      · subst e; rw [if_pos rfl, decide_eq_true (by omega), decide_eq_true hj.2]; rfl
      · rw [if_neg e]
        by_cases e2 : i < j
        · rw [decide_eq_true e2, decide_eq_true (show i < j + 1 by omega)]
        · rw [decide_eq_false e2, decide_eq_false (show ¬ i < j + 1 by omega)]
    · rw [cond_ff (decide_eq_false h)]
      congr 1
      apply mk_congr
      intro i hi
      by_cases e : (i : Int) < p.Last
      · rw [decide_eq_true e, decide_eq_true (by split at h <;> omega)]; rfl
      · rw [decide_eq_false e, Bool.and_false]
theorem rfirst_go (p : S_api_Policy) (ts : List Int) (hl : ts.length ≤ 200) (kk : List Bool → Option (List Bool × Int)) : ∀ (d k j : Nat), ts.length - j = d → d < k →
    f_lumref_Pick_L52 p ts kk k (mk ts.length (fun i => decide (i < j) && decide ((i : Int) < p.Last))) (j : Int) = kk (mk ts.length (fun i => decide ((i : Int) < p.Last)))
  | _, 0, _, _, hk => absurd hk (Nat.not_lt_zero _)
  | d, k + 1, j, hd, hk => by
    rw [f_lumref_Pick_L52, List.length_replicate, Int.toNat_natCast]
    by_cases h : j < ts.length
    · rw [cond_tt (dlt (by omega)), at_lt (by rw [mk_len]; exact h), opt_of, wsucc (by omega), Int.toNat_natCast, mk_set]
      rw [← rfirst_go p ts hl kk (d - 1) k (j + 1) (by omega) (by omega)]
      congr 1
      apply mk_congr
      intro i hi
      by_cases e : i = j
      · subst e; rw [if_pos rfl, decide_eq_true (show i < i + 1 by omega), Bool.true_and]
      · rw [if_neg e]
        by_cases e2 : i < j
        · rw [decide_eq_true e2, decide_eq_true (show i < j + 1 by omega)]
        · rw [decide_eq_false e2, decide_eq_false (show ¬ i < j + 1 by omega)]
    · rw [cond_ff (dge (by omega))]
      congr 1
      apply mk_congr
      intro i hi
      rw [decide_eq_true (by omega)]; rfl
theorem mk_zero (n : Nat) (m : Int) : List.replicate n false = mk n (fun i => decide (i < 0) && decide ((i : Int) < m)) := by
  rw [rep_mk]
  exact mk_congr fun i _ => by rw [decide_eq_false (Nat.not_lt_zero i)]; rfl
/-! the span of a time -/
def idOf : Nat → Int
  | 0 => 76
  | 1 => 77
  | 2 => 79
  | _ => 81
def spanC (rule fu : Nat) (day : Int) : Option A2i64 := match rule with
  | 0 => f_keep_rules_1 fu day
  | 1 => f_keep_rules_2 fu day
  | 2 => f_keep_rules_3 fu day
  | _ => f_keep_rules_4 fu day
def enc (rule : Nat) (s : A2i64) : Int := if rule = 1 ∨ rule = 2 then 100 * s.e0 + s.e1 else s.e0
def good (rule : Nat) (s : A2i64) : Prop := 0 ≤ s.e0 ∧ s.e0 ≤ 3000000 ∧ 0 ≤ s.e1 ∧ s.e1 ≤ 99 ∧ (¬ (rule = 1 ∨ rule = 2) → s.e1 = 0)
theorem enc_inj {rule : Nat} {s t : A2i64} (hs : good rule s) (ht : good rule t) (h : enc rule s = enc rule t) : s = t := by
  obtain ⟨a, b⟩ := s
  obtain ⟨c, d⟩ := t
  obtain ⟨s1, s2, s3, s4, s5⟩ := hs
  obtain ⟨t1, t2, t3, t4, t5⟩ := ht
  unfold enc at h
  dsimp only at *
  by_cases hr : rule = 1 ∨ rule = 2
  · rw [if_pos hr, if_pos hr] at h
    rw [show a = c by omega, show b = d by omega]
  · rw [if_neg hr, if_neg hr] at h
    rw [h, s5 hr, t5 hr]
theorem span_ok {fu : Nat} (hf : 20000 ≤ fu) (rule : Nat) (hr : rule < 4) {t : Int} (h0 : 0 ≤ t) (h1 : t ≤ 4223371679) :
    ∃ s, spanC rule fu (IntKind.i64.wrap (t.tdiv 1440)) = some s ∧ f_lumref_spanOf fu (rule : Int) t = some (enc rule s) ∧ good rule s := by
  unfold f_lumref_spanOf
  rw [tdivn h0, w64 (x := t / 1440) (by omega) (by omega)]
  obtain ⟨day, hday⟩ : ∃ d, d = t / 1440 := ⟨_, rfl⟩
  rw [← hday]
  have hd : 0 ≤ day ∧ day ≤ 2932896 := by omega
  obtain ⟨y, m, d, c1, c2, y1, y2, m1, m2⟩ := day_both hf (n := day) (by omega) (by omega)
  obtain ⟨y', w, c3, c4, y3, y4, w1, w2⟩ := week_both hf (n := day) (by omega) (by omega)
  rw [c2, opt_of]
  match rule, hr with
  | 0, _ => exact ⟨⟨day, 0⟩, rfl, rfl, hd.1, by show day ≤ 3000000; omega, Int.le_refl _, by show (0 : Int) ≤ 99; decide, fun _ => rfl⟩
  | 1, _ =>
    refine ⟨⟨y', w⟩, ?_, ?_, by show (0 : Int) ≤ y'; omega, by show y' ≤ 3000000; omega, by show (0 : Int) ≤ w; omega, by show w ≤ 99; omega, fun h => absurd (.inl rfl) h⟩
    · show f_keep_rules_2 fu day = _
      unfold f_keep_rules_2
      rw [c3]; rfl
    · rw [cond_ff (by decide), cond_tt (by decide), c4, opt_of]
      dsimp only
      rw [w64 (x := 100 * y') (by omega) (by omega), w64 (by omega) (by omega)]
      rfl
  | 2, _ =>
    refine ⟨⟨y, m⟩, ?_, ?_, by show (0 : Int) ≤ y; omega, by show y ≤ 3000000; omega, by show (0 : Int) ≤ m; omega, by show m ≤ 99; omega, fun h => absurd (.inr rfl) h⟩
    · show f_keep_rules_3 fu day = _
      unfold f_keep_rules_3
      rw [c1]; rfl
    · rw [cond_ff (by decide), cond_ff (by decide), cond_tt (by decide)]
      dsimp only
      rw [w64 (x := 100 * y) (by omega) (by omega), w64 (by omega) (by omega)]
      rfl
  | 3, _ =>
    refine ⟨⟨y, 0⟩, ?_, ?_, by show (0 : Int) ≤ y; omega, by show y ≤ 3000000; omega, Int.le_refl _, by show (0 : Int) ≤ 99; decide, fun _ => rfl⟩
    · show f_keep_rules_4 fu day = _
      unfold f_keep_rules_4
      rw [c1]; rfl
    · rw [cond_ff (by decide), cond_ff (by decide), cond_ff (by decide)]
      rfl
/-! one rule -/
structure Rel (rule : Nat) (M : List (A2i64 × Bool)) (L : List Int) : Prop where
  eq : L = M.map fun p => enc rule p.1
  ok : ∀ p ∈ M, p.2 = true ∧ good rule p.1
theorem get_mem {rule : Nat} {s : A2i64} (hs : good rule s) : ∀ {M : List (A2i64 × Bool)}, (∀ p ∈ M, p.2 = true ∧ good rule p.1) →
    (gget M s).getD false = decide (enc rule s ∈ M.map fun p => enc rule p.1) ∧ ((gget M s).getD false = false → ∀ p ∈ M, p.1 ≠ s)
  | [], _ => ⟨rfl, fun _ p hp => by cases hp⟩
  | p :: M, h => by
    obtain ⟨h1, h2⟩ := h p (by simp)
    obtain ⟨i1, i2⟩ := get_mem hs (M := M) (fun q hq => h q (by simp [hq]))
    unfold gget
    by_cases he : p.1 = s
    · rw [if_pos he]
      refine ⟨?_, fun hx => ?_⟩
      · rw [← he]
        simp [h1]
      · rw [Option.getD_some, h1] at hx; cases hx
    · rw [if_neg he, i1]
      refine ⟨?_, fun hx q hq => ?_⟩
      · have : ¬ enc rule s = enc rule p.1 := fun e => he (enc_inj hs h2 e).symm
        simp [this]
      · rcases List.mem_cons.1 hq with rfl | hq
        · exact he
        · exact i2 (by rw [i1]; exact hx) q hq
theorem has_go (l : List Int) (hl : l.length ≤ 1000) (x : Int) (kk : Unit → Option Bool) : ∀ (d k j : Nat), l.length - j = d → d < k →
    f_lumref_has_L5 l x kk k (j : Int) = if x ∈ l.drop j then some true else kk ()
  | _, 0, _, _, hk => absurd hk (Nat.not_lt_zero _)
  | d, k + 1, j, hd, hk => by
    rw [f_lumref_has_L5]
    by_cases h : j < l.length
    · rw [cond_tt (dlt (by omega)), at_lt h, opt_of, List.drop_eq_getElem_cons h]
      by_cases he : l[j] = x
      · rw [cond_tt (by simpa using he), if_pos (by rw [he]; simp)]
      · rw [cond_ff (beq_false_of_ne he), wsucc (by omega), has_go l hl x kk (d - 1) k (j + 1) (by omega) (by omega)]
        by_cases hx : x ∈ l.drop (j + 1)
        · rw [if_pos hx, if_pos (List.mem_cons_of_mem _ hx)]
        · rw [if_neg hx, if_neg (fun h9 => (List.mem_cons.1 h9).elim (fun e => he e.symm) hx)]
    · rw [cond_ff (dge (by omega)), List.drop_of_length_le (by omega), if_neg (by simp)]
theorem has_ok (l : List Int) (hl : l.length ≤ 1000) (x : Int) {fu : Nat} (hf : 2000 ≤ fu) : f_lumref_has fu l x = some (decide (x ∈ l)) := by
  unfold f_lumref_has
  rw [lt_of]
  refine (has_go l hl x _ _ fu 0 rfl (by omega)).trans ?_
  rw [List.drop_zero]
  by_cases h : x ∈ l
  · rw [if_pos h, decide_eq_true h]
  · rw [if_neg h, decide_eq_false h]
theorem code_step (ts : List Int) (kk : List Bool → Option (List Bool × Int)) (many : Int) (fu k : Nat) (out : List Bool) (M : List (A2i64 × Bool)) (j : Nat) (hj : j < ts.length) (hl : ts.length ≤ 200) (ho : out.length = ts.length)
    (rule : Nat) (hr : rule < 4) {s : A2i64} (hs : spanC rule fu (IntKind.i64.wrap (ts[j].tdiv 1440)) = some s) (hg : good rule s) :
    f_keep_Pick_L32 ts kk ⟨many, idOf rule⟩ fu (k + 1) out M (j : Int) =
      bif !((gget M s).getD false) && decide ((M.length : Int) < many) then f_keep_Pick_L32 ts kk ⟨many, idOf rule⟩ fu k (out.set j true) (gset M s true) ((j + 1 : Nat) : Int)
      else f_keep_Pick_L32 ts kk ⟨many, idOf rule⟩ fu k out M ((j + 1 : Nat) : Int) := by
  obtain ⟨g1, g2, g3, g4, g5⟩ := hg
  have w0 := wf_i64 (x := s.e0) (by omega) (by omega)
  have w1 := wf_i64 (x := s.e1) (by omega) (by omega)
  rw [f_keep_Pick_L32, cond_tt (dlt (show (j : Int) < ts.length by omega)), lt_of, at_lt hj, opt_of]
  dsimp only
  rw [wsucc (by omega)]
  match rule, hr, hs with
  | 0, _, hs =>
    rw [cond_tt (show (idOf 0 == (76 : Int)) = true by decide), show f_keep_rules_1 fu _ = some s from hs, opt_of]
    simp only [lt_of, req_pos w0, req_pos w1, at_lt (show j < out.length by omega), opt_of, Int.toNat_natCast]
    cases (gget M s).getD false <;> cases decide ((M.length : Int) < many) <;> rfl
  | 1, _, hs =>
    rw [cond_ff (show (idOf 1 == (76 : Int)) = false by decide), cond_tt (show (idOf 1 == (77 : Int)) = true by decide), show f_keep_rules_2 fu _ = some s from hs, opt_of]
    simp only [lt_of, req_pos w0, req_pos w1, at_lt (show j < out.length by omega), opt_of, Int.toNat_natCast]
    cases (gget M s).getD false <;> cases decide ((M.length : Int) < many) <;> rfl
  | 2, _, hs =>
    rw [cond_ff (show (idOf 2 == (76 : Int)) = false by decide), cond_ff (show (idOf 2 == (77 : Int)) = false by decide), cond_tt (show (idOf 2 == (79 : Int)) = true by decide), show f_keep_rules_3 fu _ = some s from hs, opt_of]
    simp only [lt_of, req_pos w0, req_pos w1, at_lt (show j < out.length by omega), opt_of, Int.toNat_natCast]
    cases (gget M s).getD false <;> cases decide ((M.length : Int) < many) <;> rfl
  | 3, _, hs =>
    rw [cond_ff (show (idOf 3 == (76 : Int)) = false by decide), cond_ff (show (idOf 3 == (77 : Int)) = false by decide), cond_ff (show (idOf 3 == (79 : Int)) = false by decide), cond_tt (show (idOf 3 == (81 : Int)) = true by decide), show f_keep_rules_4 fu _ = some s from hs, opt_of]
    simp only [lt_of, req_pos w0, req_pos w1, at_lt (show j < out.length by omega), opt_of, Int.toNat_natCast]
    cases (gget M s).getD false <;> cases decide ((M.length : Int) < many) <;> rfl
theorem ref_step (ts : List Int) (kk : List Bool → Option (List Bool × Int)) (many : Int) {fu : Nat} (hf : 20000 ≤ fu) (k : Nat) (out : List Bool) (L : List Int) (j : Nat) (hj : j < ts.length) (hl : ts.length ≤ 200) (ho : out.length = ts.length) (hL : L.length ≤ j)
    (rule : Nat) {x : Int} (hs : f_lumref_spanOf fu (rule : Int) ts[j] = some x) :
    f_lumref_Pick_L28 ts (rule : Int) kk many fu (k + 1) out L (j : Int) =
      bif !(decide (x ∈ L)) && decide ((L.length : Int) < many) then f_lumref_Pick_L28 ts (rule : Int) kk many fu k (out.set j true) (L ++ [x]) ((j + 1 : Nat) : Int)
      else f_lumref_Pick_L28 ts (rule : Int) kk many fu k out L ((j + 1 : Nat) : Int) := by
  rw [f_lumref_Pick_L28, cond_tt (dlt (show (j : Int) < ts.length by omega)), lt_of, at_lt hj, opt_of, hs, opt_of, lt_of, has_ok L (by omega) x (by omega), opt_of]
  dsimp only
  rw [wsucc (by omega), req_pos (by simp only [List.length_singleton]; omega), at_lt (by omega), opt_of, Int.toNat_natCast]
  cases decide (x ∈ L) <;> cases decide ((L.length : Int) < many) <;> rfl
theorem rule_go (ts : List Int) (hl : ts.length ≤ 200) (hts : ∀ (i : Nat) (t : Int), ts[i]? = some t → 0 ≤ t ∧ t ≤ 4223371679) (many : Int) {fu : Nat} (hf : 20000 ≤ fu) (rule : Nat) (hr : rule < 4) :
    ∀ (d k j : Nat) (out : List Bool) (M : List (A2i64 × Bool)) (L : List Int), ts.length - j = d → d < k → out.length = ts.length → Rel rule M L → M.length ≤ j →
    ∃ out', out'.length = ts.length ∧ (∀ kk, f_keep_Pick_L32 ts kk ⟨many, idOf rule⟩ fu k out M (j : Int) = kk out') ∧ (∀ kk, f_lumref_Pick_L28 ts (rule : Int) kk many fu k out L (j : Int) = kk out')
  | _, 0, _, _, _, _, _, hk, _, _, _ => absurd hk (Nat.not_lt_zero _)
  | d, k + 1, j, out, M, L, hd, hk, ho, hR, hM => by
    by_cases hj : j < ts.length
    · have ht := hts j ts[j] (List.getElem?_eq_getElem hj)
      obtain ⟨s, s1, s2, s3⟩ := span_ok hf rule hr ht.1 ht.2
      obtain ⟨m1, m2⟩ := get_mem s3 hR.ok
      have hLM : L.length = M.length := by rw [hR.eq, List.length_map]
      by_cases hc : (!((gget M s).getD false) && decide ((M.length : Int) < many)) = true
      · have hnew : (gget M s).getD false = false := by
          cases hx : (gget M s).getD false
          · rfl
          · rw [hx] at hc; cases hc
        have hset := gset_new true (m2 hnew)
        obtain ⟨out', o1, o2, o3⟩ := rule_go ts hl hts many hf rule hr (d - 1) k (j + 1) (out.set j true) (gset M s true) (L ++ [enc rule s]) (by omega) (by omega) (by rw [List.length_set]; exact ho)
          ⟨by rw [hset, List.map_append, hR.eq]; rfl, fun p hp => by
            rw [hset] at hp
            rcases List.mem_append.1 hp with hp | hp
            · exact hR.ok p hp
            · rw [List.mem_singleton.1 hp]; exact ⟨rfl, s3⟩⟩ (by rw [hset, List.length_append, List.length_singleton]; omega)
        refine ⟨out', o1, fun kk => ?_, fun kk => ?_⟩
        · rw [code_step ts kk many fu k out M j hj hl ho rule hr s1 s3, cond_tt hc]
          exact o2 kk
        · rw [ref_step ts kk many hf k out L j hj hl ho (by omega) rule s2, cond_tt (by rw [hLM, hR.eq, ← m1]; exact hc)]
          exact o3 kk
      · have hc' := Bool.eq_false_iff.2 hc
        obtain ⟨out', o1, o2, o3⟩ := rule_go ts hl hts many hf rule hr (d - 1) k (j + 1) out M L (by omega) (by omega) ho hR (by omega)
        refine ⟨out', o1, fun kk => ?_, fun kk => ?_⟩
        · rw [code_step ts kk many fu k out M j hj hl ho rule hr s1 s3, cond_ff hc']
          exact o2 kk
        · rw [ref_step ts kk many hf k out L j hj hl ho (by omega) rule s2, cond_ff (by rw [hLM, hR.eq, ← m1]; exact hc')]
          exact o3 kk
    · refine ⟨out, ho, fun kk => ?_, fun kk => ?_⟩
      · rw [f_keep_Pick_L32, cond_ff (dge (by omega))]
      · rw [f_lumref_Pick_L28, cond_ff (dge (by omega))]
/-! all rules -/
theorem rules_go (p : S_api_Policy) (ts : List Int) (hl : ts.length ≤ 200) (hts : ∀ (i : Nat) (t : Int), ts[i]? = some t → 0 ≤ t ∧ t ≤ 4223371679) {fu : Nat} (hf : 20000 ≤ fu) {R : List S_keep_rule} (hR : R = [⟨p.Days, 76⟩, ⟨p.Weeks, 77⟩, ⟨p.Months, 79⟩, ⟨p.Years, 81⟩]) :
    ∀ (d k i : Nat) (out : List Bool), 4 - i = d → d < k → i ≤ 4 → out.length = ts.length →
    ∃ out', out'.length = ts.length ∧ (∀ kk, f_keep_Pick_L19 ts kk R fu k out (i : Int) = kk out') ∧ (∀ kk, f_lumref_Pick_L17 p ts kk fu k out (i : Int) = kk out')
  | _, 0, _, _, _, hk, _, _ => absurd hk (Nat.not_lt_zero _)
  | d, k + 1, i, out, hd, hk, hi, ho => by
    obtain ⟨Q, hQ⟩ : ∃ Q : List Int, Q = [p.Days, p.Weeks, p.Months, p.Years] := ⟨_, rfl⟩
    have lR : R.length = 4 := by rw [hR]; rfl
    have lQ : Q.length = 4 := by rw [hQ]; rfl
    by_cases h4 : i < 4
    · have hat : R[i]'(by omega) = ⟨Q[i]'(by omega), idOf i⟩ := by
        subst hR hQ
        match i, h4 with
        | 0, _ => rfl
        | 1, _ => rfl
        | 2, _ => rfl
        | 3, _ => rfl
      obtain ⟨o1, a1, a2, a3⟩ := rule_go ts hl hts (Q[i]'(by omega)) hf i h4 _ fu 0 out [] [] rfl (by omega) ho ⟨rfl, fun p hp => by cases hp⟩ (Nat.zero_le _)
      obtain ⟨o2, b1, b2, b3⟩ := rules_go p ts hl hts hf hR (d - 1) k (i + 1) o1 (by omega) (by omega) (by omega) a1
      refine ⟨o2, b1, fun kk => ?_, fun kk => ?_⟩
      · rw [f_keep_Pick_L19, lt_of, cond_tt (dlt (by omega)), lt_of, at_lt (by omega), opt_of, hat]
        refine (a2 _).trans ?_
        dsimp only
        rw [wsucc (by omega)]
        exact b2 kk
      · rw [f_lumref_Pick_L17, lt_of, ← hQ, cond_tt (dlt (by omega)), lt_of, at_lt (by omega), opt_of]
        refine (a3 _).trans ?_
        dsimp only
        rw [wsucc (by omega)]
        exact b3 kk
    · refine ⟨out, ho, fun kk => ?_, fun kk => ?_⟩
      · rw [f_keep_Pick_L19, lt_of, cond_ff (dge (by omega))]
      · rw [f_lumref_Pick_L17, lt_of, ← hQ, cond_ff (dge (by omega))]
theorem pick_ok (p : S_api_Policy) (ts : List Int) {fu : Nat} (hf : 20000 ≤ fu) : ∃ r : List Bool × Int, r.1.length ≤ 200 ∧ f_keep_Pick fu p ts = some r ∧ f_lumref_Pick fu p ts = some r := by
  unfold f_keep_Pick f_lumref_Pick
  rw [check_ok p (by omega), policy_ok p, opt_of, opt_of]
  by_cases hp : pol p = 0
  · have hp' : (pol p != 0) = false := by simp [hp]
    rw [cond_ff hp', cond_ff hp']
    unfold f_lumref_Times57
    by_cases hl : ts.length > 200
    · have h9 : decide ((ts.length : Int) > 200) = true := decide_eq_true (by omega)
      rw [cond_tt h9, cond_tt h9, opt_of, cond_tt (by decide)]
      exact ⟨([], 2), by simp, rfl, rfl⟩
    · have h9 : decide ((ts.length : Int) > 200) = false := decide_eq_false (by omega)
      rw [cond_ff h9, cond_ff h9, lt_of, lt_of]
      have hl' : ts.length ≤ 200 := by omega
      have key : ∀ (kk : Unit → Option (List Bool × Int)) (kr : Unit → Option Int), kr () = some 0 → ∀ (K : Int → Option (List Bool × Int)), (∀ e, e ≠ 0 → K e = some ([], e)) →
          ((∀ (i : Nat) (t : Int), ts[i]? = some t → 0 ≤ t ∧ t ≤ 4223371679) → ∃ r : List Bool × Int, r.1.length ≤ 200 ∧ kk () = some r ∧ K 0 = some r) →
          ∃ r : List Bool × Int, r.1.length ≤ 200 ∧ f_keep_Pick_L113 ts kk fu ((0 : Nat) : Int) = some r ∧ opt (f_lumref_Times57_L6 ts kr fu ((0 : Nat) : Int)) K = some r := by
        intro kk kr h0 K hK hgo
        rcases times_go ts hl' kk kr _ fu 0 rfl (by omega) with ⟨e, h1, h2, h3⟩ | ⟨h1, h2, h3⟩
        · rw [h2, h3, opt_of, hK e h1]
          exact ⟨_, by simp, rfl, rfl⟩
        · obtain ⟨r, r1, r2, r3⟩ := hgo (fun i t ht => h3 i t (Nat.zero_le _) ht)
          rw [h1, h2, h0, opt_of]
          exact ⟨r, r1, r2, r3⟩
      refine key _ _ rfl _ (fun e he => ?_) (fun hts => ?_)
      · rw [cond_tt (by simpa using he)]
      · rw [cond_ff (by decide), req_pos (by omega), req_pos (by omega)]
        simp only [lt_of]
        rw [Int.toNat_natCast, mk_zero ts.length p.Last, show (0 : Int) = ((0 : Nat) : Int) from rfl, first_go p ts hl' _ _ fu 0 rfl (by omega), rfirst_go p ts hl' _ _ fu 0 rfl (by omega)]
        unfold f_keep_rules
        rw [opt_of]
        obtain ⟨out, o1, o2, o3⟩ := rules_go p ts hl' hts hf rfl _ fu 0 (mk ts.length fun i => decide ((i : Int) < p.Last)) rfl (by omega) (by omega) (mk_len _ _)
        exact ⟨(out, 0), by show out.length ≤ 200; omega, o2 _, o3 _⟩
  · have hp' : (pol p != 0) = true := by simpa using hp
    rw [cond_tt hp', cond_tt hp']
    exact ⟨([], pol p), by simp, rfl, rfl⟩
theorem eq_go (a : List Bool) (hl : a.length ≤ 1000) (kk : Unit → Option Bool) : ∀ (d k j : Nat), a.length - j = d → d < k → f_slices_Equal___bool_bool__L6 a a kk k (j : Int) = kk ()
  | _, 0, _, _, hk => absurd hk (Nat.not_lt_zero _)
  | d, k + 1, j, hd, hk => by
    rw [f_slices_Equal___bool_bool__L6]
    by_cases h : j < a.length
    · rw [cond_tt (dlt (by omega)), at_lt h, opt_of, opt_of, cond_ff (by simp), wsucc (by omega)]
      exact eq_go a hl kk (d - 1) k (j + 1) (by omega) (by omega)
    · rw [cond_ff (dge (by omega))]
def fuel (_ : S_api_Policy) (_ : List Int) : Nat := 30000
theorem says (p : S_api_Policy) (ts : List Int) (_ : okS_api_Policy p) (_ : okL (fun y => (Lit.int .i64 y).wf = true) ts) : f_lumlaw_KeepSays (fuel p ts) p ts = some true := by
  unfold f_lumlaw_KeepSays fuel
  obtain ⟨fu, hfu⟩ : ∃ n, n = 30000 := ⟨_, rfl⟩
  rw [← hfu]
  obtain ⟨r, r1, r2, r3⟩ := pick_ok p ts (fu := fu) (by omega)
  rw [r2, r3, opt_of, opt_of, lt_of, check_ok p (by omega), policy_ok, opt_of, opt_of, cond_tt (by simp)]
  unfold f_slices_Equal___bool_bool_
  rw [cond_ff (by simp), lt_of]
  have := eq_go r.1 (by omega) (fun _ => some true) _ fu 0 rfl (by omega)
  rw [show (0 : Int) = ((0 : Nat) : Int) from rfl, this, opt_of, cond_tt rfl]
  simp
end Go.Proofs.Ytollpgmcmipcoaa.PKeepSays
