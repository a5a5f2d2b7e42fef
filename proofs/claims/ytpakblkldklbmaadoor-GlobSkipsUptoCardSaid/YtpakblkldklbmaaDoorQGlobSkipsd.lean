/- What GlobSkips leans on, part 4. No condition. -/
import Derived.Test.YtpakblkldklbmaaDoorQGlobSkipsc
namespace Go.Proofs.YtpakblkldklbmaaDoor.PGlob
open Go.RowKit YtpakblkldklbmaaDoor.En YtpakblkldklbmaaDoor
set_option linter.unusedVariables false
set_option linter.unusedSimpArgs false
def nx (av : Bool) (mv now : Nat → Bool) : Nat → Bool
  | 0 => av && now 0
  | k + 1 => bif av then now (k + 1) || nx av mv now k else now k && mv k
def dpR (A : Nat → Bool) (M : Nat → Nat → Bool) : Nat → Nat → Bool
  | 0 => fun k => k == 0
  | i + 1 => nx (A i) (M i) (dpR A M i)
structure Row (n : Nat) (l : List Bool) (f : Nat → Bool) : Prop where
  len : l.length = n + 1
  get : ∀ k, k ≤ n → l[k]? = some (f k)
theorem row0 (n : Nat) : Row n ((List.replicate (n + 1) false).set 0 true) (fun k => k == 0) := ⟨by simp, fun k hk => by
  rw [List.getElem?_set]
  by_cases h : 0 = k
  · subst h; simp
  · rw [if_neg h, List.getElem?_replicate, if_pos (by omega)]
    have : (k == 0) = false := by simpa using fun e => h e.symm
    rw [this]⟩
theorem get_set_lt {x : List Bool} {k j : Nat} {v : Bool} (h : j < k) : (x.set k v)[j]? = x[j]? := by rw [List.getElem?_set, if_neg (by omega)]
theorem get_set_eq {x : List Bool} {k : Nat} {v : Bool} (h : k < x.length) : (x.set k v)[k]? = some v := by rw [List.getElem?_set, if_pos rfl, if_pos h]
theorem ex_at {x : List Bool} {k : Nat} (h : k < x.length) : ∃ v, at? x (k : Int) = some v := ⟨x[k], at_lt h⟩
section
variable (a2 a3 : List S_glob_element) (a4 : List Int) (n : Nat) (hn : n ≤ 2000000) (fu : Nat)
include hn
theorem nm_in (av : Bool) (mv now : Nat → Bool) (nl : List Bool) (i : Nat) (hnow : Row n nl now) (hA : f_glob_name_1 fu (i : Int) a2 = some av) (hM : ∀ k, k < n → av = false → f_glob_name_2 fu (i : Int) (k : Int) a3 a4 = some (mv k)) (kk : List Bool → Option Bool) :
    ∀ (d k fuel : Nat) (x : List Bool), n + 1 - k = d → k ≤ n + 1 → x.length = n + 1 → (∀ j, j < k → x[j]? = some (nx av mv now j)) → d < fuel → ∃ x', Row n x' (nx av mv now) ∧ f_glob_sequence_F77_F78_L26 (n : Int) a2 a3 a4 nl (i : Int) kk fu fuel x (k : Int) = kk x'
  | _, _, 0, _, _, _, _, _, hf => absurd hf (Nat.not_lt_zero _)
  | 0, k, fuel + 1, x, hd, hk, hx, hp, _ => by
    rw [f_glob_sequence_F77_F78_L26, w64 (by omega) (by omega), cond_ff (dge (by omega))]
    exact ⟨x, ⟨hx, fun j hj => hp j (by omega)⟩, rfl⟩
  | d + 1, k, fuel + 1, x, hd, hk, hx, hp, hf => by
    have hkn : k ≤ n := by omega
    have go : ∀ v : Bool, v = nx av mv now k → ∃ x', Row n x' (nx av mv now) ∧ f_glob_sequence_F77_F78_L26 (n : Int) a2 a3 a4 nl (i : Int) kk fu fuel (x.set k v) (IntKind.i64.wrap ((k : Int) + 1)) = kk x' := fun v hv => by
      rw [wsucc (by omega)]
      refine nm_in av mv now nl i hnow hA hM kk d (k + 1) fuel (x.set k v) (by omega) (by omega) (by rw [List.length_set]; exact hx) (fun j hj => ?_) (by omega)
      by_cases hjk : j = k
      · subst hjk; rw [get_set_eq (by omega), hv]
      · rw [get_set_lt (by omega)]; exact hp j (by omega)
    obtain ⟨u, hu⟩ := ex_at (x := x) (k := k) (by omega)
    rw [f_glob_sequence_F77_F78_L26, w64 (by omega) (by omega), cond_tt (dlt (by omega)), lt_of, hA, opt_of]
    cases av with
    | true =>
      rw [cond_tt rfl, at_of (hnow.get k hkn), opt_of]
      cases hnk : now k with
      | true =>
        rw [cond_tt rfl, hu, opt_of, Int.toNat_natCast]
        exact go true (by cases k <;> simp [nx, hnk])
      | false =>
        rw [cond_ff rfl]
        by_cases h0 : k = 0
        · subst h0
          rw [cond_ff (by simp), hu, opt_of]
          exact go false (by simp [nx, hnk])
        · obtain ⟨j, rfl⟩ : ∃ j, k = j + 1 := ⟨k - 1, by omega⟩
          rw [cond_tt (decide_eq_true (by omega)), show (((j + 1 : Nat) : Int) - 1) = (j : Int) by omega, w64 (by omega) (by omega), at_of (hp j (by omega)), opt_of, hu, opt_of, Int.toNat_natCast]
          exact go _ (by simp [nx, hnk])
    | false =>
      rw [cond_ff rfl]
      by_cases h0 : k = 0
      · subst h0
        rw [cond_ff (by simp), hu, opt_of]
        exact go false (by simp [nx])
      · obtain ⟨j, rfl⟩ : ∃ j, k = j + 1 := ⟨k - 1, by omega⟩
        rw [cond_tt (decide_eq_true (by omega)), show (((j + 1 : Nat) : Int) - 1) = (j : Int) by omega, w64 (by omega) (by omega), at_of (hnow.get j (by omega)), opt_of]
        cases hnj : now j with
        | true =>
          rw [cond_tt rfl, hM j (by omega) rfl, opt_of, hu, opt_of, Int.toNat_natCast]
          exact go _ (by simp [nx, hnj])
        | false =>
          rw [cond_ff rfl, hu, opt_of, Int.toNat_natCast]
          exact go false (by simp [nx, hnj])
theorem nm_out (A : Nat → Bool) (M : Nat → Nat → Bool) (items : Nat) (hi : items ≤ 2000000) (hfu : 2000010 ≤ fu) (hA : ∀ i, i < items → f_glob_name_1 fu (i : Int) a2 = some (A i)) (hM : ∀ i k, i < items → k < n → A i = false → f_glob_name_2 fu (i : Int) (k : Int) a3 a4 = some (M i k)) (kk : List Bool → Option Bool) :
    ∀ (d i fuel : Nat) (l : List Bool), items - i = d → i ≤ items → Row n l (dpR A M i) → d < fuel → ∃ l', Row n l' (dpR A M items) ∧ f_glob_sequence_F77_F78_L15 (items : Int) (n : Int) a2 a3 a4 kk fu fuel l (i : Int) = kk l'
  | _, _, 0, _, _, _, _, hf => absurd hf (Nat.not_lt_zero _)
  | 0, i, fuel + 1, l, hd, hii, hl, _ => by
    rw [f_glob_sequence_F77_F78_L15, lt_of, cond_ff (dge (by omega))]
    obtain rfl : i = items := by omega
    exact ⟨l, hl, rfl⟩
  | d + 1, i, fuel + 1, l, hd, hii, hl, hf => by
    rw [f_glob_sequence_F77_F78_L15, lt_of, cond_tt (dlt (by omega)), lt_of]
    have hw : IntKind.i64.wrap ((n : Int) + 1) = ((n + 1 : Nat) : Int) := by rw [w64 (by omega) (by omega)]; omega
    rw [hw, req_pos ⟨by omega, by omega, by omega⟩, lt_of, Int.toNat_natCast]
    obtain ⟨x', hx', he⟩ := nm_in a2 a3 a4 n hn fu (A i) (M i) (dpR A M i) l i hl (hA i (by omega)) (fun k hk h => hM i k (by omega) hk h) (fun j22x11 => f_glob_sequence_F77_F78_L15 (items : Int) (n : Int) a2 a3 a4 kk fu fuel j22x11 (IntKind.i64.wrap ((i : Int) + 1))) (n + 1) 0 fu (List.replicate (n + 1) false) (by omega) (by omega) (by simp) (fun j hj => absurd hj (Nat.not_lt_zero _)) (by omega)
    obtain ⟨l', hl', he'⟩ := nm_out A M items hi hfu hA hM kk d (i + 1) fuel x' (by omega) (by omega) hx' (by omega)
    refine ⟨l', hl', he.trans ?_⟩
    rw [wsucc (by omega)]
    exact he'
theorem nm_ok (A : Nat → Bool) (M : Nat → Nat → Bool) (items : Nat) (hi : items ≤ 2000000) (hfu : 2000010 ≤ fu) (hA : ∀ i, i < items → f_glob_name_1 fu (i : Int) a2 = some (A i)) (hM : ∀ i k, i < items → k < n → A i = false → f_glob_name_2 fu (i : Int) (k : Int) a3 a4 = some (M i k)) :
    f_glob_sequence_F77_F78 fu (items : Int) (n : Int) a2 a3 a4 = some (dpR A M items n) := by
  unfold f_glob_sequence_F77_F78
  have hw : IntKind.i64.wrap ((n : Int) + 1) = ((n + 1 : Nat) : Int) := by rw [w64 (by omega) (by omega)]; omega
  obtain ⟨u, hu⟩ := ex_at (x := List.replicate (n + 1) false) (k := 0) (by simp)
  rw [hw, req_pos ⟨by omega, by omega, by omega⟩, Int.toNat_natCast, show at? (List.replicate (n + 1) false) 0 = some u from hu, opt_of, lt_of]
  obtain ⟨l', hl', he⟩ := nm_out a2 a3 a4 n hn fu A M items hi hfu hA hM (fun j7x9 => opt (at? j7x9 (n : Int)) fun u9 => some u9) items 0 fu ((List.replicate (n + 1) false).set 0 true) (by omega) (by omega) (row0 n) (by omega)
  refine he.trans ?_
  rw [at_of (hl'.get n (Nat.le_refl _)), opt_of]
end
section
variable (a2 a3 : List S_lumref_mark) (a4 : List Int) (n : Nat) (hn : n ≤ 2000000) (fu : Nat)
include hn
theorem pf_in (av : Bool) (mv now : Nat → Bool) (nl : List Bool) (i : Nat) (hnow : Row n nl now) (hA : f_lumref_partFits_1 fu (i : Int) a2 = some av) (hM : ∀ k, k < n → av = false → f_lumref_partFits_2 fu (i : Int) (k : Int) a3 a4 = some (mv k)) (kk : List Bool → Option Bool) :
    ∀ (d k fuel : Nat) (x : List Bool), n + 1 - k = d → k ≤ n + 1 → x.length = n + 1 → (∀ j, j < k → x[j]? = some (nx av mv now j)) → d < fuel → ∃ x', Row n x' (nx av mv now) ∧ f_lumref_table_F84_F85_L26 (n : Int) a2 a3 a4 nl (i : Int) kk fu fuel x (k : Int) = kk x'
  | _, _, 0, _, _, _, _, _, hf => absurd hf (Nat.not_lt_zero _)
  | 0, k, fuel + 1, x, hd, hk, hx, hp, _ => by
    rw [f_lumref_table_F84_F85_L26, w64 (by omega) (by omega), cond_ff (dge (by omega))]
    exact ⟨x, ⟨hx, fun j hj => hp j (by omega)⟩, rfl⟩
  | d + 1, k, fuel + 1, x, hd, hk, hx, hp, hf => by
    have hkn : k ≤ n := by omega
    have go : ∀ v : Bool, v = nx av mv now k → ∃ x', Row n x' (nx av mv now) ∧ f_lumref_table_F84_F85_L26 (n : Int) a2 a3 a4 nl (i : Int) kk fu fuel (x.set k v) (IntKind.i64.wrap ((k : Int) + 1)) = kk x' := fun v hv => by
      rw [wsucc (by omega)]
      refine pf_in av mv now nl i hnow hA hM kk d (k + 1) fuel (x.set k v) (by omega) (by omega) (by rw [List.length_set]; exact hx) (fun j hj => ?_) (by omega)
      by_cases hjk : j = k
      · subst hjk; rw [get_set_eq (by omega), hv]
      · rw [get_set_lt (by omega)]; exact hp j (by omega)
    obtain ⟨u, hu⟩ := ex_at (x := x) (k := k) (by omega)
    rw [f_lumref_table_F84_F85_L26, w64 (by omega) (by omega), cond_tt (dlt (by omega)), lt_of, hA, opt_of]
    cases av with
    | true =>
      rw [cond_tt rfl, at_of (hnow.get k hkn), opt_of]
      cases hnk : now k with
      | true =>
        rw [cond_tt rfl, hu, opt_of, Int.toNat_natCast]
        exact go true (by cases k <;> simp [nx, hnk])
      | false =>
        rw [cond_ff rfl]
        by_cases h0 : k = 0
        · subst h0
          rw [cond_ff (by simp), hu, opt_of]
          exact go false (by simp [nx, hnk])
        · obtain ⟨j, rfl⟩ : ∃ j, k = j + 1 := ⟨k - 1, by omega⟩
          rw [cond_tt (decide_eq_true (by omega)), show (((j + 1 : Nat) : Int) - 1) = (j : Int) by omega, w64 (by omega) (by omega), at_of (hp j (by omega)), opt_of, hu, opt_of, Int.toNat_natCast]
          exact go _ (by simp [nx, hnk])
    | false =>
      rw [cond_ff rfl]
      by_cases h0 : k = 0
      · subst h0
        rw [cond_ff (by simp), hu, opt_of]
        exact go false (by simp [nx])
      · obtain ⟨j, rfl⟩ : ∃ j, k = j + 1 := ⟨k - 1, by omega⟩
        rw [cond_tt (decide_eq_true (by omega)), show (((j + 1 : Nat) : Int) - 1) = (j : Int) by omega, w64 (by omega) (by omega), at_of (hnow.get j (by omega)), opt_of]
        cases hnj : now j with
        | true =>
          rw [cond_tt rfl, hM j (by omega) rfl, opt_of, hu, opt_of, Int.toNat_natCast]
          exact go _ (by simp [nx, hnj])
        | false =>
          rw [cond_ff rfl, hu, opt_of, Int.toNat_natCast]
          exact go false (by simp [nx, hnj])
theorem pf_out (A : Nat → Bool) (M : Nat → Nat → Bool) (items : Nat) (hi : items ≤ 2000000) (hfu : 2000010 ≤ fu) (hA : ∀ i, i < items → f_lumref_partFits_1 fu (i : Int) a2 = some (A i)) (hM : ∀ i k, i < items → k < n → A i = false → f_lumref_partFits_2 fu (i : Int) (k : Int) a3 a4 = some (M i k)) (kk : List Bool → Option Bool) :
    ∀ (d i fuel : Nat) (l : List Bool), items - i = d → i ≤ items → Row n l (dpR A M i) → d < fuel → ∃ l', Row n l' (dpR A M items) ∧ f_lumref_table_F84_F85_L15 (n : Int) (items : Int) a2 a3 a4 kk fu fuel l (i : Int) = kk l'
  | _, _, 0, _, _, _, _, hf => absurd hf (Nat.not_lt_zero _)
  | 0, i, fuel + 1, l, hd, hii, hl, _ => by
    rw [f_lumref_table_F84_F85_L15, lt_of, cond_ff (dge (by omega))]
    obtain rfl : i = items := by omega
    exact ⟨l, hl, rfl⟩
  | d + 1, i, fuel + 1, l, hd, hii, hl, hf => by
    rw [f_lumref_table_F84_F85_L15, lt_of, cond_tt (dlt (by omega)), lt_of]
    have hw : IntKind.i64.wrap ((n : Int) + 1) = ((n + 1 : Nat) : Int) := by rw [w64 (by omega) (by omega)]; omega
    rw [hw, req_pos ⟨by omega, by omega, by omega⟩, lt_of, Int.toNat_natCast]
    obtain ⟨x', hx', he⟩ := pf_in a2 a3 a4 n hn fu (A i) (M i) (dpR A M i) l i hl (hA i (by omega)) (fun k hk h => hM i k (by omega) hk h) (fun j22x11 => f_lumref_table_F84_F85_L15 (n : Int) (items : Int) a2 a3 a4 kk fu fuel j22x11 (IntKind.i64.wrap ((i : Int) + 1))) (n + 1) 0 fu (List.replicate (n + 1) false) (by omega) (by omega) (by simp) (fun j hj => absurd hj (Nat.not_lt_zero _)) (by omega)
    obtain ⟨l', hl', he'⟩ := pf_out A M items hi hfu hA hM kk d (i + 1) fuel x' (by omega) (by omega) hx' (by omega)
    refine ⟨l', hl', he.trans ?_⟩
    rw [wsucc (by omega)]
    exact he'
theorem pf_ok (A : Nat → Bool) (M : Nat → Nat → Bool) (items : Nat) (hi : items ≤ 2000000) (hfu : 2000010 ≤ fu) (hA : ∀ i, i < items → f_lumref_partFits_1 fu (i : Int) a2 = some (A i)) (hM : ∀ i k, i < items → k < n → A i = false → f_lumref_partFits_2 fu (i : Int) (k : Int) a3 a4 = some (M i k)) :
    f_lumref_table_F84_F85 fu (n : Int) (items : Int) a2 a3 a4 = some (dpR A M items n) := by
  unfold f_lumref_table_F84_F85
  have hw : IntKind.i64.wrap ((n : Int) + 1) = ((n + 1 : Nat) : Int) := by rw [w64 (by omega) (by omega)]; omega
  obtain ⟨u, hu⟩ := ex_at (x := List.replicate (n + 1) false) (k := 0) (by simp)
  rw [hw, req_pos ⟨by omega, by omega, by omega⟩, Int.toNat_natCast, show at? (List.replicate (n + 1) false) 0 = some u from hu, opt_of, lt_of]
  obtain ⟨l', hl', he⟩ := pf_out a2 a3 a4 n hn fu A M items hi hfu hA hM (fun j7x9 => opt (at? j7x9 (n : Int)) fun u9 => some u9) items 0 fu ((List.replicate (n + 1) false).set 0 true) (by omega) (by omega) (row0 n) (by omega)
  refine he.trans ?_
  rw [at_of (hl'.get n (Nat.le_refl _)), opt_of]
end
section
variable (a2 a3 : List S_glob_part) (a4 : List (List UInt8)) (n : Nat) (hn : n ≤ 2000000) (fu : Nat)
include hn
theorem pa_in (av : Bool) (mv now : Nat → Bool) (nl : List Bool) (i : Nat) (hnow : Row n nl now) (hA : f_glob_path_1 fu (i : Int) a2 = some av) (hM : ∀ k, k < n → av = false → f_glob_path_2 fu (i : Int) (k : Int) a3 a4 = some (mv k)) (kk : List Bool → Option Bool) :
    ∀ (d k fuel : Nat) (x : List Bool), n + 1 - k = d → k ≤ n + 1 → x.length = n + 1 → (∀ j, j < k → x[j]? = some (nx av mv now j)) → d < fuel → ∃ x', Row n x' (nx av mv now) ∧ f_glob_sequence_F46_F47_L26 (n : Int) a2 a3 a4 nl (i : Int) kk fu fuel x (k : Int) = kk x'
  | _, _, 0, _, _, _, _, _, hf => absurd hf (Nat.not_lt_zero _)
  | 0, k, fuel + 1, x, hd, hk, hx, hp, _ => by
    rw [f_glob_sequence_F46_F47_L26, w64 (by omega) (by omega), cond_ff (dge (by omega))]
    exact ⟨x, ⟨hx, fun j hj => hp j (by omega)⟩, rfl⟩
  | d + 1, k, fuel + 1, x, hd, hk, hx, hp, hf => by
    have hkn : k ≤ n := by omega
    have go : ∀ v : Bool, v = nx av mv now k → ∃ x', Row n x' (nx av mv now) ∧ f_glob_sequence_F46_F47_L26 (n : Int) a2 a3 a4 nl (i : Int) kk fu fuel (x.set k v) (IntKind.i64.wrap ((k : Int) + 1)) = kk x' := fun v hv => by
      rw [wsucc (by omega)]
      refine pa_in av mv now nl i hnow hA hM kk d (k + 1) fuel (x.set k v) (by omega) (by omega) (by rw [List.length_set]; exact hx) (fun j hj => ?_) (by omega)
      by_cases hjk : j = k
      · subst hjk; rw [get_set_eq (by omega), hv]
      · rw [get_set_lt (by omega)]; exact hp j (by omega)
    obtain ⟨u, hu⟩ := ex_at (x := x) (k := k) (by omega)
    rw [f_glob_sequence_F46_F47_L26, w64 (by omega) (by omega), cond_tt (dlt (by omega)), lt_of, hA, opt_of]
    cases av with
    | true =>
      rw [cond_tt rfl, at_of (hnow.get k hkn), opt_of]
      cases hnk : now k with
      | true =>
        rw [cond_tt rfl, hu, opt_of, Int.toNat_natCast]
        exact go true (by cases k <;> simp [nx, hnk])
      | false =>
        rw [cond_ff rfl]
        by_cases h0 : k = 0
        · subst h0
          rw [cond_ff (by simp), hu, opt_of]
          exact go false (by simp [nx, hnk])
        · obtain ⟨j, rfl⟩ : ∃ j, k = j + 1 := ⟨k - 1, by omega⟩
          rw [cond_tt (decide_eq_true (by omega)), show (((j + 1 : Nat) : Int) - 1) = (j : Int) by omega, w64 (by omega) (by omega), at_of (hp j (by omega)), opt_of, hu, opt_of, Int.toNat_natCast]
          exact go _ (by simp [nx, hnk])
    | false =>
      rw [cond_ff rfl]
      by_cases h0 : k = 0
      · subst h0
        rw [cond_ff (by simp), hu, opt_of]
        exact go false (by simp [nx])
      · obtain ⟨j, rfl⟩ : ∃ j, k = j + 1 := ⟨k - 1, by omega⟩
        rw [cond_tt (decide_eq_true (by omega)), show (((j + 1 : Nat) : Int) - 1) = (j : Int) by omega, w64 (by omega) (by omega), at_of (hnow.get j (by omega)), opt_of]
        cases hnj : now j with
        | true =>
          rw [cond_tt rfl, hM j (by omega) rfl, opt_of, hu, opt_of, Int.toNat_natCast]
          exact go _ (by simp [nx, hnj])
        | false =>
          rw [cond_ff rfl, hu, opt_of, Int.toNat_natCast]
          exact go false (by simp [nx, hnj])
theorem pa_out (A : Nat → Bool) (M : Nat → Nat → Bool) (items : Nat) (hi : items ≤ 2000000) (hfu : 2000010 ≤ fu) (hA : ∀ i, i < items → f_glob_path_1 fu (i : Int) a2 = some (A i)) (hM : ∀ i k, i < items → k < n → A i = false → f_glob_path_2 fu (i : Int) (k : Int) a3 a4 = some (M i k)) (kk : List Bool → Option Bool) :
    ∀ (d i fuel : Nat) (l : List Bool), items - i = d → i ≤ items → Row n l (dpR A M i) → d < fuel → ∃ l', Row n l' (dpR A M items) ∧ f_glob_sequence_F46_F47_L15 (items : Int) (n : Int) a2 a3 a4 kk fu fuel l (i : Int) = kk l'
  | _, _, 0, _, _, _, _, hf => absurd hf (Nat.not_lt_zero _)
  | 0, i, fuel + 1, l, hd, hii, hl, _ => by
    rw [f_glob_sequence_F46_F47_L15, lt_of, cond_ff (dge (by omega))]
    obtain rfl : i = items := by omega
    exact ⟨l, hl, rfl⟩
  | d + 1, i, fuel + 1, l, hd, hii, hl, hf => by
    rw [f_glob_sequence_F46_F47_L15, lt_of, cond_tt (dlt (by omega)), lt_of]
    have hw : IntKind.i64.wrap ((n : Int) + 1) = ((n + 1 : Nat) : Int) := by rw [w64 (by omega) (by omega)]; omega
    rw [hw, req_pos ⟨by omega, by omega, by omega⟩, lt_of, Int.toNat_natCast]
    obtain ⟨x', hx', he⟩ := pa_in a2 a3 a4 n hn fu (A i) (M i) (dpR A M i) l i hl (hA i (by omega)) (fun k hk h => hM i k (by omega) hk h) (fun j22x11 => f_glob_sequence_F46_F47_L15 (items : Int) (n : Int) a2 a3 a4 kk fu fuel j22x11 (IntKind.i64.wrap ((i : Int) + 1))) (n + 1) 0 fu (List.replicate (n + 1) false) (by omega) (by omega) (by simp) (fun j hj => absurd hj (Nat.not_lt_zero _)) (by omega)
    obtain ⟨l', hl', he'⟩ := pa_out A M items hi hfu hA hM kk d (i + 1) fuel x' (by omega) (by omega) hx' (by omega)
    refine ⟨l', hl', he.trans ?_⟩
    rw [wsucc (by omega)]
    exact he'
theorem pa_ok (A : Nat → Bool) (M : Nat → Nat → Bool) (items : Nat) (hi : items ≤ 2000000) (hfu : 2000010 ≤ fu) (hA : ∀ i, i < items → f_glob_path_1 fu (i : Int) a2 = some (A i)) (hM : ∀ i k, i < items → k < n → A i = false → f_glob_path_2 fu (i : Int) (k : Int) a3 a4 = some (M i k)) :
    f_glob_sequence_F46_F47 fu (items : Int) (n : Int) a2 a3 a4 = some (dpR A M items n) := by
  unfold f_glob_sequence_F46_F47
  have hw : IntKind.i64.wrap ((n : Int) + 1) = ((n + 1 : Nat) : Int) := by rw [w64 (by omega) (by omega)]; omega
  obtain ⟨u, hu⟩ := ex_at (x := List.replicate (n + 1) false) (k := 0) (by simp)
  rw [hw, req_pos ⟨by omega, by omega, by omega⟩, Int.toNat_natCast, show at? (List.replicate (n + 1) false) 0 = some u from hu, opt_of, lt_of]
  obtain ⟨l', hl', he⟩ := pa_out a2 a3 a4 n hn fu A M items hi hfu hA hM (fun j7x9 => opt (at? j7x9 (n : Int)) fun u9 => some u9) items 0 fu ((List.replicate (n + 1) false).set 0 true) (by omega) (by omega) (row0 n) (by omega)
  refine he.trans ?_
  rw [at_of (hl'.get n (Nat.le_refl _)), opt_of]
end
section
variable (a2 a3 : List (Option (List S_lumref_mark))) (a4 : List (List UInt8)) (n : Nat) (hn : n ≤ 2000000) (fu : Nat)
include hn
theorem fi_in (av : Bool) (mv now : Nat → Bool) (nl : List Bool) (i : Nat) (hnow : Row n nl now) (hA : f_lumref_Fits_1 fu (i : Int) a2 = some av) (hM : ∀ k, k < n → av = false → f_lumref_Fits_2 fu (i : Int) (k : Int) a3 a4 = some (mv k)) (kk : List Bool → Option Bool) :
    ∀ (d k fuel : Nat) (x : List Bool), n + 1 - k = d → k ≤ n + 1 → x.length = n + 1 → (∀ j, j < k → x[j]? = some (nx av mv now j)) → d < fuel → ∃ x', Row n x' (nx av mv now) ∧ f_lumref_table_F58_F59_L26 (n : Int) a2 a3 a4 nl (i : Int) kk fu fuel x (k : Int) = kk x'
  | _, _, 0, _, _, _, _, _, hf => absurd hf (Nat.not_lt_zero _)
  | 0, k, fuel + 1, x, hd, hk, hx, hp, _ => by
    rw [f_lumref_table_F58_F59_L26, w64 (by omega) (by omega), cond_ff (dge (by omega))]
    exact ⟨x, ⟨hx, fun j hj => hp j (by omega)⟩, rfl⟩
  | d + 1, k, fuel + 1, x, hd, hk, hx, hp, hf => by
    have hkn : k ≤ n := by omega
    have go : ∀ v : Bool, v = nx av mv now k → ∃ x', Row n x' (nx av mv now) ∧ f_lumref_table_F58_F59_L26 (n : Int) a2 a3 a4 nl (i : Int) kk fu fuel (x.set k v) (IntKind.i64.wrap ((k : Int) + 1)) = kk x' := fun v hv => by
      rw [wsucc (by omega)]
      refine fi_in av mv now nl i hnow hA hM kk d (k + 1) fuel (x.set k v) (by omega) (by omega) (by rw [List.length_set]; exact hx) (fun j hj => ?_) (by omega)
      by_cases hjk : j = k
      · subst hjk; rw [get_set_eq (by omega), hv]
      · rw [get_set_lt (by omega)]; exact hp j (by omega)
    obtain ⟨u, hu⟩ := ex_at (x := x) (k := k) (by omega)
    rw [f_lumref_table_F58_F59_L26, w64 (by omega) (by omega), cond_tt (dlt (by omega)), lt_of, hA, opt_of]
    cases av with
    | true =>
      rw [cond_tt rfl, at_of (hnow.get k hkn), opt_of]
      cases hnk : now k with
      | true =>
        rw [cond_tt rfl, hu, opt_of, Int.toNat_natCast]
        exact go true (by cases k <;> simp [nx, hnk])
      | false =>
        rw [cond_ff rfl]
        by_cases h0 : k = 0
        · subst h0
          rw [cond_ff (by simp), hu, opt_of]
          exact go false (by simp [nx, hnk])
        · obtain ⟨j, rfl⟩ : ∃ j, k = j + 1 := ⟨k - 1, by omega⟩
          rw [cond_tt (decide_eq_true (by omega)), show (((j + 1 : Nat) : Int) - 1) = (j : Int) by omega, w64 (by omega) (by omega), at_of (hp j (by omega)), opt_of, hu, opt_of, Int.toNat_natCast]
          exact go _ (by simp [nx, hnk])
    | false =>
      rw [cond_ff rfl]
      by_cases h0 : k = 0
      · subst h0
        rw [cond_ff (by simp), hu, opt_of]
        exact go false (by simp [nx])
      · obtain ⟨j, rfl⟩ : ∃ j, k = j + 1 := ⟨k - 1, by omega⟩
        rw [cond_tt (decide_eq_true (by omega)), show (((j + 1 : Nat) : Int) - 1) = (j : Int) by omega, w64 (by omega) (by omega), at_of (hnow.get j (by omega)), opt_of]
        cases hnj : now j with
        | true =>
          rw [cond_tt rfl, hM j (by omega) rfl, opt_of, hu, opt_of, Int.toNat_natCast]
          exact go _ (by simp [nx, hnj])
        | false =>
          rw [cond_ff rfl, hu, opt_of, Int.toNat_natCast]
          exact go false (by simp [nx, hnj])
theorem fi_out (A : Nat → Bool) (M : Nat → Nat → Bool) (items : Nat) (hi : items ≤ 2000000) (hfu : 2000010 ≤ fu) (hA : ∀ i, i < items → f_lumref_Fits_1 fu (i : Int) a2 = some (A i)) (hM : ∀ i k, i < items → k < n → A i = false → f_lumref_Fits_2 fu (i : Int) (k : Int) a3 a4 = some (M i k)) (kk : List Bool → Option Bool) :
    ∀ (d i fuel : Nat) (l : List Bool), items - i = d → i ≤ items → Row n l (dpR A M i) → d < fuel → ∃ l', Row n l' (dpR A M items) ∧ f_lumref_table_F58_F59_L15 (n : Int) (items : Int) a2 a3 a4 kk fu fuel l (i : Int) = kk l'
  | _, _, 0, _, _, _, _, hf => absurd hf (Nat.not_lt_zero _)
  | 0, i, fuel + 1, l, hd, hii, hl, _ => by
    rw [f_lumref_table_F58_F59_L15, lt_of, cond_ff (dge (by omega))]
    obtain rfl : i = items := by omega
    exact ⟨l, hl, rfl⟩
  | d + 1, i, fuel + 1, l, hd, hii, hl, hf => by
    rw [f_lumref_table_F58_F59_L15, lt_of, cond_tt (dlt (by omega)), lt_of]
    have hw : IntKind.i64.wrap ((n : Int) + 1) = ((n + 1 : Nat) : Int) := by rw [w64 (by omega) (by omega)]; omega
    rw [hw, req_pos ⟨by omega, by omega, by omega⟩, lt_of, Int.toNat_natCast]
    obtain ⟨x', hx', he⟩ := fi_in a2 a3 a4 n hn fu (A i) (M i) (dpR A M i) l i hl (hA i (by omega)) (fun k hk h => hM i k (by omega) hk h) (fun j22x11 => f_lumref_table_F58_F59_L15 (n : Int) (items : Int) a2 a3 a4 kk fu fuel j22x11 (IntKind.i64.wrap ((i : Int) + 1))) (n + 1) 0 fu (List.replicate (n + 1) false) (by omega) (by omega) (by simp) (fun j hj => absurd hj (Nat.not_lt_zero _)) (by omega)
    obtain ⟨l', hl', he'⟩ := fi_out A M items hi hfu hA hM kk d (i + 1) fuel x' (by omega) (by omega) hx' (by omega)
    refine ⟨l', hl', he.trans ?_⟩
    rw [wsucc (by omega)]
    exact he'
theorem fi_ok (A : Nat → Bool) (M : Nat → Nat → Bool) (items : Nat) (hi : items ≤ 2000000) (hfu : 2000010 ≤ fu) (hA : ∀ i, i < items → f_lumref_Fits_1 fu (i : Int) a2 = some (A i)) (hM : ∀ i k, i < items → k < n → A i = false → f_lumref_Fits_2 fu (i : Int) (k : Int) a3 a4 = some (M i k)) :
    f_lumref_table_F58_F59 fu (n : Int) (items : Int) a2 a3 a4 = some (dpR A M items n) := by
  unfold f_lumref_table_F58_F59
  have hw : IntKind.i64.wrap ((n : Int) + 1) = ((n + 1 : Nat) : Int) := by rw [w64 (by omega) (by omega)]; omega
  obtain ⟨u, hu⟩ := ex_at (x := List.replicate (n + 1) false) (k := 0) (by simp)
  rw [hw, req_pos ⟨by omega, by omega, by omega⟩, Int.toNat_natCast, show at? (List.replicate (n + 1) false) 0 = some u from hu, opt_of, lt_of]
  obtain ⟨l', hl', he⟩ := fi_out a2 a3 a4 n hn fu A M items hi hfu hA hM (fun j7x9 => opt (at? j7x9 (n : Int)) fun u9 => some u9) items 0 fu ((List.replicate (n + 1) false).set 0 true) (by omega) (by omega) (row0 n) (by omega)
  refine he.trans ?_
  rw [at_of (hl'.get n (Nat.le_refl _)), opt_of]
end
end Go.Proofs.YtpakblkldklbmaaDoor.PGlob
namespace Go.Proofs.YtpakblkldklbmaaDoor.PGlob
open Go.RowKit YtpakblkldklbmaaDoor.En YtpakblkldklbmaaDoor
set_option linter.unusedVariables false
set_option linter.unusedSimpArgs false
theorem at0 {α : Type} (c : α) (l : List α) : at? (c :: l) (0 : Int) = some c := at_of (k := 0) rfl
theorem at1 {α : Type} (c d : α) (l : List α) : at? (c :: d :: l) (1 : Int) = some d := at_of (k := 1) rfl
theorem len0 {α : Type} (c : α) (l : List α) : (((c :: l).length : Int) == (0 : Int)) = false := by rw [beq_eq_false_iff_ne]; simp only [List.length_cons]; omega
def esc : List Int → Option (Int × List Int)
  | [] => none
  | d :: l => some (d, l)
def item : List Int → Option (Int × List Int)
  | [] => none
  | c :: l => if c = 93 then none else if c = 92 then esc l else some (c, l)
theorem item_cons (c : Int) (l : List Int) : item (c :: l) = if c = 93 then none else if c = 92 then esc l else some (c, l) := rfl
theorem item_lt {l l' : List Int} {c : Int} (h : item l = some (c, l')) : l'.length < l.length := by
  cases l with
  | nil => cases h
  | cons x l =>
    rw [item_cons] at h
    split at h
    · cases h
    · split at h
      · cases l with
        | nil => cases h
        | cons d l2 => obtain ⟨rfl, rfl⟩ := Prod.mk.inj (Option.some.inj h); simp only [List.length_cons]; omega
      · obtain ⟨rfl, rfl⟩ := Prod.mk.inj (Option.some.inj h); simp only [List.length_cons]; omega
theorem next_nil (fu : Nat) : f___glob_reader__next fu ⟨[]⟩ = some (0, false, ⟨[]⟩) := rfl
theorem next_cons (fu : Nat) (c : Int) (l : List Int) : f___glob_reader__next fu ⟨c :: l⟩ = some (c, true, ⟨l⟩) := by
  unfold f___glob_reader__next
  dsimp only
  rw [len0, cond_ff rfl, at0, opt_of, req_pos ⟨by omega, by simp only [List.length_cons]; omega⟩]
  rfl
theorem take_nil (fu : Nat) (x : Int) : f___glob_reader__take fu ⟨[]⟩ x = some (false, ⟨[]⟩) := rfl
theorem take_cons (fu : Nat) (c x : Int) (l : List Int) : f___glob_reader__take fu ⟨c :: l⟩ x = some (if c = x then (true, ⟨l⟩) else (false, ⟨c :: l⟩)) := by
  unfold f___glob_reader__take
  dsimp only
  rw [lt_of, len0, cond_ff rfl, at0, opt_of]
  by_cases h : c = x
  · rw [if_pos h, show (c != x) = false from by simpa using h]
    dsimp only
    rw [cond_ff rfl, req_pos ⟨by omega, by simp only [List.length_cons]; omega⟩]
    rfl
  · rw [if_neg h, show (c != x) = true from by simpa using h]
    rfl
theorem item_ok (fu : Nat) (l : List Int) : (∀ c l', item l = some (c, l') → f___glob_reader__item fu ⟨l⟩ = some (c, true, ⟨l'⟩)) ∧ (item l = none → ∃ x r, f___glob_reader__item fu ⟨l⟩ = some (x, false, r)) := by
  unfold f___glob_reader__item
  cases l with
  | nil => exact ⟨fun c l' h => by (cases h), fun _ => ⟨_, _, rfl⟩⟩
  | cons c l =>
    rw [next_cons, opt_of, lt_of, item_cons]
    by_cases h1 : c = 93
    · rw [if_pos h1, h1]
      exact ⟨fun c l' h => by (cases h), fun _ => ⟨_, _, rfl⟩⟩
    · rw [if_neg h1]
      have e1 : (c == 93) = false := by simpa using h1
      by_cases h2 : c = 92
      · have e2 : (c == 92) = true := by simpa using h2
        simp only [Bool.not_true, e1, e2, cond_false, cond_true]
        rw [if_pos h2]
        cases l with
        | nil => exact ⟨fun c l' h => by (cases h), fun _ => ⟨_, _, rfl⟩⟩
        | cons d l =>
          rw [next_cons, opt_of]
          exact ⟨fun c l' h => by obtain ⟨rfl, rfl⟩ := Prod.mk.inj (Option.some.inj h); rfl, fun h => by (cases h)⟩
      · have e2 : (c == 92) = false := by simpa using h2
        simp only [Bool.not_true, e1, e2, cond_false, cond_true]
        rw [if_neg h2]
        exact ⟨fun c l' h => by obtain ⟨rfl, rfl⟩ := Prod.mk.inj (Option.some.inj h); rfl, fun h => by (cases h)⟩
theorem plain_ok (fu : Nat) (l : List Int) : f_lumref_plain fu l = some (match item l with | some (c, l') => (c, l', true) | none => (0, [], false)) := by
  unfold f_lumref_plain
  rw [lt_of]
  cases l with
  | nil => rfl
  | cons c l =>
    rw [len0, cond_ff rfl, at0, opt_of, item_cons]
    by_cases h1 : c = 93
    · rw [if_pos h1, h1]; rfl
    · rw [if_neg h1, show (c == 93) = false from by simpa using h1]
      dsimp only
      rw [cond_ff rfl, opt_of]
      by_cases h2 : c = 92
      · rw [if_pos h2, cond_ff (by simpa using h2)]
        cases l with
        | nil => rfl
        | cons d l =>
          rw [cond_ff (by rw [beq_eq_false_iff_ne]; simp only [List.length_cons]; omega), at1, opt_of, req_pos ⟨by omega, by simp only [List.length_cons]; omega⟩]
          rfl
      · rw [if_neg h2, cond_tt (by simpa using h2), opt_of, req_pos ⟨by omega, by simp only [List.length_cons]; omega⟩]
        rfl
abbrev Sp := List (Int × Int)
def clsC (rec : List Int → Sp → Option (Sp × List Int)) (sp : Sp) (c : Int) : Option (Int × List Int) → Option (Sp × List Int)
  | none => none
  | some (d, l3) => if d < c then none else rec l3 (sp ++ [(c, d)])
def clsB (rec : List Int → Sp → Option (Sp × List Int)) (sp : Sp) : Option (Int × List Int) → Option (Sp × List Int)
  | none => none
  | some (c, l1) => if l1.head? = some 45 then clsC rec sp c (item (l1.drop 1)) else rec l1 (sp ++ [(c, c)])
def cls : Nat → List Int → Sp → Option (Sp × List Int)
  | 0, _, _ => none
  | f + 1, l, sp => if sp ≠ [] ∧ l.head? = some 93 then some (sp, l.drop 1) else clsB (cls f) sp (item l)
def spans (sp : Sp) : List S_glob_span := sp.map fun p => ⟨p.1, p.2⟩
def los (sp : Sp) : List Int := sp.map (·.1)
def his (sp : Sp) : List Int := sp.map (·.2)
theorem spans_snoc (sp : Sp) (c d : Int) : spans sp ++ [S_glob_span.mk c d] = spans (sp ++ [(c, d)]) := by simp [spans]
theorem los_snoc (sp : Sp) (c d : Int) : los sp ++ [c] = los (sp ++ [(c, d)]) := by simp [los]
theorem his_snoc (sp : Sp) (c d : Int) : his sp ++ [d] = his (sp ++ [(c, d)]) := by simp [his]
theorem spans_len (sp : Sp) : (spans sp).length = sp.length := by simp [spans]
theorem los_len (sp : Sp) : (los sp).length = sp.length := by simp [los]
theorem his_len (sp : Sp) : (his sp).length = sp.length := by simp [his]
abbrev RC := S_glob_element × Bool × S_glob_reader
def CS (kk : List Int → List S_glob_span → Option RC) (v : Option RC) (c : Option (Sp × List Int)) : Prop := (∀ sp' r, c = some (sp', r) → v = kk r (spans sp')) ∧ (c = none → ∃ e x, v = some (e, false, x))
section
variable (r3 : Bool × S_glob_reader) (kk : List Int → List S_glob_span → Option RC) (fu : Nat)
def cbody (f : Nat) (sp : Sp) (l : List Int) : Option RC := (opt (f___glob_reader__item fu (S_glob_reader.mk l)) fun (r15 : (Int × Bool × S_glob_reader)) => (bif (!r15.2.1) then (some ((S_glob_element.mk (0 : Int) (spans sp) r3.1), false, (S_glob_reader.mk r15.2.2.left))) else (lt (fun (j18x0_0 : (List Int)) (j18i7 : Int) => (req ((((spans sp).length + ([(S_glob_span.mk r15.1 j18i7)]).length) * 8 : Nat) ≤ 140737488355328 ∧ (spans sp).length + ([(S_glob_span.mk r15.1 j18i7)]).length ≤ 9223372036854775807) (f___glob_reader__class_L10 r3 kk fu f j18x0_0 ((spans sp) ++ ([(S_glob_span.mk r15.1 j18i7)]))))) fun (kk19 : (List Int) → Int → Option (S_glob_element × Bool × S_glob_reader)) => (opt (f___glob_reader__take fu (S_glob_reader.mk r15.2.2.left) (45 : Int)) fun (r24 : (Bool × S_glob_reader)) => (bif r24.1 then (opt (f___glob_reader__item fu (S_glob_reader.mk r24.2.left)) fun (r28 : (Int × Bool × S_glob_reader)) => (lt (fun (j30b42 : Bool) => (bif j30b42 then (some ((S_glob_element.mk (0 : Int) (spans sp) r3.1), false, (S_glob_reader.mk r28.2.2.left))) else (kk19 r28.2.2.left r28.1))) fun (kk31 : Bool → Option (S_glob_element × Bool × S_glob_reader)) => (bif (!r28.2.1) then (kk31 true) else (kk31 (decide (r15.1 > r28.1)))))) else (kk19 r24.2.left r15.1))))))
theorem cbody_ok (f : Nat) (sp : Sp) (l : List Int) (hl : sp.length + l.length ≤ 1048576) (ih : ∀ l' sp', l'.length < l.length → sp'.length + l'.length ≤ 1048576 → CS kk (f___glob_reader__class_L10 r3 kk fu f l' (spans sp')) (cls f l' sp')) : CS kk (cbody r3 kk fu f sp l) (clsB (cls f) sp (item l)) := by
  unfold cbody
  have hs := spans_len sp
  obtain ⟨i1, i2⟩ := item_ok fu l
  cases hi : item l with
  | none =>
    obtain ⟨x, r, e⟩ := i2 hi
    rw [e, opt_of]
    exact ⟨fun sp' r h => by (cases h), fun _ => ⟨_, _, rfl⟩⟩
  | some p =>
    obtain ⟨c, l1⟩ := p
    have hlt := item_lt hi
    rw [i1 c l1 hi, opt_of, lt_of]
    simp only [Bool.not_true, cond_false, clsB]
    have step : ∀ (d : Int) (l' : List Int), l'.length ≤ l1.length → CS kk (req (((spans sp).length + ([S_glob_span.mk c d]).length) * 8 ≤ 140737488355328 ∧ (spans sp).length + ([S_glob_span.mk c d]).length ≤ 9223372036854775807) (f___glob_reader__class_L10 r3 kk fu f l' (spans sp ++ [S_glob_span.mk c d]))) (cls f l' (sp ++ [(c, d)])) := fun d l' hl' => by
      rw [req_pos ⟨by simp only [List.length_singleton]; omega, by simp only [List.length_singleton]; omega⟩, spans_snoc]
      exact ih l' _ (by omega) (by simp only [List.length_append, List.length_singleton]; omega)
    cases l1 with
    | nil =>
      rw [take_nil, opt_of, if_neg (show ¬ ([] : List Int).head? = some 45 from fun e => by cases e)]
      simp only [cond_false]
      exact step c [] (Nat.le_refl _)
    | cons x l2 =>
      rw [take_cons, opt_of]
      by_cases hx : x = 45
      · rw [if_pos hx, if_pos (show (x :: l2).head? = some 45 by rw [hx]; rfl), show (x :: l2).drop 1 = l2 from rfl]
        simp only [cond_true]
        obtain ⟨j1, j2⟩ := item_ok fu l2
        cases hj : item l2 with
        | none =>
          obtain ⟨y, r, e⟩ := j2 hj
          rw [e, opt_of, lt_of]
          exact ⟨fun sp' r h => by (cases h), fun _ => ⟨_, _, rfl⟩⟩
        | some q =>
          obtain ⟨d, l3⟩ := q
          have hlt2 := item_lt hj
          rw [j1 d l3 hj, opt_of, lt_of]
          simp only [Bool.not_true, cond_false, clsC]
          by_cases hd : d < c
          · rw [if_pos hd, decide_eq_true (show c > d from hd)]
            exact ⟨fun sp' r h => by (cases h), fun _ => ⟨_, _, rfl⟩⟩
          · rw [if_neg hd, decide_eq_false (show ¬ c > d from hd)]
            exact step d l3 (by simp only [List.length_cons]; omega)
      · rw [if_neg hx, if_neg (show ¬ (x :: l2).head? = some 45 from fun e => hx (Option.some.inj e))]
        simp only [cond_false]
        exact step c (x :: l2) (Nat.le_refl _)
theorem ccls_ok : ∀ (f : Nat) (l : List Int) (sp : Sp), l.length < f → sp.length + l.length ≤ 1048576 → CS kk (f___glob_reader__class_L10 r3 kk fu f l (spans sp)) (cls f l sp)
  | 0, l, sp, h, _ => absurd h (Nat.not_lt_zero _)
  | f + 1, l, sp, h, hl => by
    have hb := cbody_ok r3 kk fu f sp l hl (fun l' sp' h1 h2 => ccls_ok f l' sp' (by omega) h2)
    have hs := spans_len sp
    rw [f___glob_reader__class_L10, lt_of, cls]
    by_cases h0 : sp = []
    · rw [if_neg (fun e => e.1 h0), cond_tt (by rw [h0]; rfl)]
      exact hb
    · have hp : 0 < sp.length := List.length_pos_iff.2 h0
      rw [cond_ff (by rw [beq_eq_false_iff_ne]; omega)]
      cases l with
      | nil =>
        rw [take_nil, opt_of, if_neg (by simp)]
        exact hb
      | cons x l2 =>
        rw [take_cons, opt_of]
        by_cases hx : x = 93
        · rw [if_pos hx, if_pos ⟨h0, by rw [hx]; rfl⟩]
          refine ⟨fun sp' r h => ?_, fun h => by (cases h)⟩
          obtain ⟨rfl, rfl⟩ := Prod.mk.inj (Option.some.inj h)
          rfl
        · rw [if_neg hx, if_neg (fun e => hx (Option.some.inj e.2))]
          exact hb
end
abbrev RM := S_lumref_mark × (List Int) × Bool
def RS (kk : List Int → List Int → List Int → Option RM) (v : Option RM) (c : Option (Sp × List Int)) : Prop := (∀ sp' r, c = some (sp', r) → v = kk (93 :: r) (los sp') (his sp')) ∧ (c = none → (∃ m x, v = some (m, x, false)) ∨ ∃ lo hi, v = kk [] lo hi)
section
variable (kk : List Int → List Int → List Int → Option RM) (fu : Nat)
def rbody (f : Nat) (sp : Sp) (l : List Int) : Option RM := (opt (f_lumref_plain fu l) fun (r20 : (Int × (List Int) × Bool)) => (bif (!r20.2.2) then (some ((S_lumref_mark.mk false C74.nil), ([] : (List Int)), false)) else (lt (fun (j23x0 : (List Int)) (j23i11 : Int) => (req ((((los sp).length + ([r20.1]).length) * 8 : Nat) ≤ 140737488355328 ∧ (los sp).length + ([r20.1]).length ≤ 9223372036854775807) (req ((((his sp).length + ([j23i11]).length) * 8 : Nat) ≤ 140737488355328 ∧ (his sp).length + ([j23i11]).length ≤ 9223372036854775807) (f_lumref_class_L15 kk fu f j23x0 ((los sp) ++ ([r20.1])) ((his sp) ++ ([j23i11])))))) fun (kk24 : (List Int) → Int → Option (S_lumref_mark × (List Int) × Bool)) => (lt (fun (j31b57 : Bool) => (bif j31b57 then (req (0 ≤ (1 : Int) ∧ (1 : Int) ≤ (r20.2.1.length : Int)) (opt (f_lumref_plain fu (r20.2.1.drop ((1 : Int)).toNat)) fun (r37 : (Int × (List Int) × Bool)) => (lt (fun (j39b71 : Bool) => (bif j39b71 then (some ((S_lumref_mark.mk false C74.nil), ([] : (List Int)), false)) else (kk24 r37.2.1 r37.1))) fun (kk40 : Bool → Option (S_lumref_mark × (List Int) × Bool)) => (bif (!r37.2.2) then (kk40 true) else (kk40 (decide (r37.1 < r20.1))))))) else (kk24 r20.2.1 r20.1))) fun (kk32 : Bool → Option (S_lumref_mark × (List Int) × Bool)) => (bif (decide ((r20.2.1.length : Int) > (0 : Int))) then (opt (at? r20.2.1 (0 : Int)) fun (u44 : Int) => (kk32 (u44 == (45 : Int)))) else (kk32 false))))))
theorem rbody_ok (f : Nat) (sp : Sp) (l : List Int) (hl : sp.length + l.length ≤ 1048576) (ih : ∀ l' sp', l'.length < l.length → sp'.length + l'.length ≤ 1048576 → RS kk (f_lumref_class_L15 kk fu f l' (los sp') (his sp')) (cls f l' sp')) : RS kk (rbody kk fu f sp l) (clsB (cls f) sp (item l)) := by
  unfold rbody
  have hs := los_len sp
  have hs2 := his_len sp
  rw [plain_ok, opt_of]
  cases hi : item l with
  | none => exact ⟨fun sp' r h => by (cases h), fun _ => .inl ⟨_, _, rfl⟩⟩
  | some p =>
    obtain ⟨c, l1⟩ := p
    have hlt := item_lt hi
    simp only [Bool.not_true, cond_false, clsB]
    rw [lt_of, lt_of]
    have step : ∀ (d : Int) (l' : List Int), l'.length ≤ l1.length → RS kk (req (((los sp).length + ([c]).length) * 8 ≤ 140737488355328 ∧ (los sp).length + ([c]).length ≤ 9223372036854775807) (req (((his sp).length + ([d]).length) * 8 ≤ 140737488355328 ∧ (his sp).length + ([d]).length ≤ 9223372036854775807) (f_lumref_class_L15 kk fu f l' (los sp ++ [c]) (his sp ++ [d])))) (cls f l' (sp ++ [(c, d)])) := fun d l' hl' => by
      rw [req_pos ⟨by simp only [List.length_singleton]; omega, by simp only [List.length_singleton]; omega⟩, req_pos ⟨by simp only [List.length_singleton]; omega, by simp only [List.length_singleton]; omega⟩, los_snoc, his_snoc]
      exact ih l' _ (by omega) (by simp only [List.length_append, List.length_singleton]; omega)
    cases l1 with
    | nil =>
      rw [if_neg (show ¬ ([] : List Int).head? = some 45 from fun e => by cases e)]
      exact step c [] (Nat.le_refl _)
    | cons x l2 =>
      rw [cond_tt (decide_eq_true (show (((x :: l2).length : Nat) : Int) > 0 by simp only [List.length_cons]; omega)), at0, opt_of]
      by_cases hx : x = 45
      · rw [if_pos (show (x :: l2).head? = some 45 by rw [hx]; rfl), show (x :: l2).drop 1 = l2 from rfl, show (x == 45) = true from by simpa using hx]
        simp only [cond_true]
        rw [req_pos ⟨by omega, by simp only [List.length_cons]; omega⟩, show (x :: l2).drop ((1 : Int)).toNat = l2 from rfl, plain_ok, opt_of, lt_of]
        cases hj : item l2 with
        | none => exact ⟨fun sp' r h => by (cases h), fun _ => .inl ⟨_, _, rfl⟩⟩
        | some q =>
          obtain ⟨d, l3⟩ := q
          have hlt2 := item_lt hj
          simp only [Bool.not_true, cond_false, clsC]
          by_cases hd : d < c
          · rw [if_pos hd, decide_eq_true hd]
            exact ⟨fun sp' r h => by (cases h), fun _ => .inl ⟨_, _, rfl⟩⟩
          · rw [if_neg hd, decide_eq_false hd]
            exact step d l3 (by simp only [List.length_cons]; omega)
      · rw [if_neg (show ¬ (x :: l2).head? = some 45 from fun e => hx (Option.some.inj e)), show (x == 45) = false from by simpa using hx]
        simp only [cond_false]
        exact step c (x :: l2) (Nat.le_refl _)
theorem rcls_ok : ∀ (f : Nat) (l : List Int) (sp : Sp), l.length < f → sp.length + l.length ≤ 1048576 → RS kk (f_lumref_class_L15 kk fu f l (los sp) (his sp)) (cls f l sp)
  | 0, l, sp, h, _ => absurd h (Nat.not_lt_zero _)
  | f + 1, l, sp, h, hl => by
    have hb := rbody_ok kk fu f sp l hl (fun l' sp' h1 h2 => rcls_ok f l' sp' (by omega) h2)
    have hs := los_len sp
    rw [f_lumref_class_L15, lt_of, cls]
    by_cases h0 : sp = []
    · rw [if_neg (fun e => e.1 h0), cond_tt (by rw [h0]; rfl)]
      exact hb
    · have hp : 0 < sp.length := List.length_pos_iff.2 h0
      rw [cond_ff (by rw [beq_eq_false_iff_ne]; omega)]
      cases l with
      | nil =>
        rw [if_neg (by simp)]
        refine ⟨fun sp' r h => ?_, fun _ => .inr ⟨_, _, rfl⟩⟩
        cases h
      | cons x l2 =>
        rw [cond_tt (decide_eq_true (show (((x :: l2).length : Nat) : Int) > 0 by simp only [List.length_cons]; omega)), at0, opt_of]
        by_cases hx : x = 93
        · rw [if_pos ⟨h0, by rw [hx]; rfl⟩, show (x != 93) = false from by simpa using hx]
          refine ⟨fun sp' r h => ?_, fun h => by (cases h)⟩
          obtain ⟨rfl, rfl⟩ := Prod.mk.inj (Option.some.inj h)
          rw [hx]; rfl
        · rw [if_neg (fun e => hx (Option.some.inj e.2)), show (x != 93) = true from by simpa using hx]
          exact hb
end
end Go.Proofs.YtpakblkldklbmaaDoor.PGlob
namespace Go.Proofs.YtpakblkldklbmaaDoor.PGlob
open Go.RowKit YtpakblkldklbmaaDoor.En YtpakblkldklbmaaDoor
set_option linter.unusedVariables false
set_option linter.unusedSimpArgs false
def sgn (l : List Int) : Bool := decide (l.head? = some 94)
def uns (l : List Int) : List Int := if l.head? = some 94 then l.drop 1 else l
theorem uns_le (l : List Int) : (uns l).length ≤ l.length := by
  unfold uns; split
  · rw [List.length_drop]; omega
  · exact Nat.le_refl _
theorem cclass_ok (fu : Nat) (l : List Int) (hf : l.length < fu) (hl : l.length ≤ 1048576) : (∀ sp r, cls fu (uns l) [] = some (sp, r) → f___glob_reader__class fu ⟨l⟩ = some (⟨0, spans sp, sgn l⟩, true, ⟨r⟩)) ∧ (cls fu (uns l) [] = none → ∃ e x, f___glob_reader__class fu ⟨l⟩ = some (e, false, x)) := by
  have hu := uns_le l
  have key : f___glob_reader__take fu ⟨l⟩ 94 = some (sgn l, ⟨uns l⟩) := by
    cases l with
    | nil => rfl
    | cons x l2 =>
      rw [take_cons]
      by_cases hx : x = 94
      · subst hx; rfl
      · unfold sgn uns
        rw [if_neg hx, if_neg (show ¬ (x :: l2).head? = some 94 from fun e => hx (Option.some.inj e)), decide_eq_false (show ¬ (x :: l2).head? = some 94 from fun e => hx (Option.some.inj e))]
  unfold f___glob_reader__class
  rw [key, opt_of, lt_of]
  obtain ⟨h1, h2⟩ := ccls_ok (sgn l, ⟨uns l⟩) (fun j6x0_0 j6x4_1 => some ((S_glob_element.mk (0 : Int) j6x4_1 (sgn l)), true, (S_glob_reader.mk j6x0_0))) fu fu (uns l) [] (by omega) (by simp only [List.length_nil]; omega)
  exact ⟨fun sp r h => h1 sp r h, fun h => h2 h⟩
theorem rclass_ok (fu : Nat) (l : List Int) (hf : l.length < fu) (hl : l.length ≤ 1048576) : (∀ sp r, cls fu (uns l) [] = some (sp, r) → f_lumref_class fu l = some (⟨false, C74.c83 (los sp) (his sp) (sgn l)⟩, r, true)) ∧ (cls fu (uns l) [] = none → ∃ m x, f_lumref_class fu l = some (m, x, false)) := by
  have hu := uns_le l
  have key : f_lumref_class fu l = f_lumref_class_L15 (fun j8x0 lo hi => (bif ((j8x0.length : Int) == (0 : Int)) then (some ((S_lumref_mark.mk false C74.nil), ([] : (List Int)), false)) else (req (0 ≤ (1 : Int) ∧ (1 : Int) ≤ (j8x0.length : Int)) (some ((S_lumref_mark.mk false (C74.c83 lo hi (sgn l))), (j8x0.drop ((1 : Int)).toNat), true))))) fu fu (uns l) [] [] := by
    unfold f_lumref_class
    rw [lt_of]
    cases l with
    | nil => rfl
    | cons x l2 =>
      rw [cond_tt (decide_eq_true (show (((x :: l2).length : Nat) : Int) > 0 by simp only [List.length_cons]; omega)), at0, opt_of]
      by_cases hx : x = 94
      · subst hx
        rw [show ((94 : Int) == 94) = true from rfl]
        dsimp only
        rw [lt_of, cond_tt rfl, req_pos ⟨by omega, by simp only [List.length_cons]; omega⟩]
        rfl
      · unfold sgn uns
        rw [show (x == 94) = false from by simpa using hx]
        dsimp only
        rw [lt_of, cond_ff rfl, if_neg (show ¬ (x :: l2).head? = some 94 from fun e => hx (Option.some.inj e)), decide_eq_false (show ¬ (x :: l2).head? = some 94 from fun e => hx (Option.some.inj e))]
        rfl
  rw [key]
  obtain ⟨h1, h2⟩ := rcls_ok (fun j8x0 lo hi => (bif ((j8x0.length : Int) == (0 : Int)) then (some ((S_lumref_mark.mk false C74.nil), ([] : (List Int)), false)) else (req (0 ≤ (1 : Int) ∧ (1 : Int) ≤ (j8x0.length : Int)) (some ((S_lumref_mark.mk false (C74.c83 lo hi (sgn l))), (j8x0.drop ((1 : Int)).toNat), true))))) fu fu (uns l) [] (by omega) (by simp only [List.length_nil]; omega)
  refine ⟨fun sp r h => (h1 sp r h).trans ?_, fun h => ?_⟩
  · dsimp only
    rw [len0, cond_ff rfl, req_pos ⟨by omega, by simp only [List.length_cons]; omega⟩]
    rfl
  · rcases h2 h with ⟨m, x, e⟩ | ⟨lo, hi, e⟩
    · exact ⟨m, x, e⟩
    · exact ⟨_, _, e⟩
inductive El where
  | star
  | one
  | chr (c : Int) (e : Bool)
  | set (sp : Sp) (n : Bool)
def toE : El → S_glob_element
  | .star => ⟨2, [], false⟩
  | .one => ⟨1, [], false⟩
  | .chr c _ => ⟨0, [⟨c, c⟩], false⟩
  | .set sp n => ⟨0, spans sp, n⟩
def toM : El → S_lumref_mark
  | .star => ⟨true, C74.nil⟩
  | .one => ⟨false, C74.c54⟩
  | .chr c false => ⟨false, C74.c53 c⟩
  | .chr c true => ⟨false, C74.c56 c⟩
  | .set sp n => ⟨false, C74.c83 (los sp) (his sp) n⟩
def elsS (fu : Nat) (rec : List Int → List El → Option (List El)) (acc : List El) (n : Bool) : Option (Sp × List Int) → Option (List El)
  | none => none
  | some (sp, r) => rec r (acc ++ [.set sp n])
def elsE (rec : List Int → List El → Option (List El)) (acc : List El) : List Int → Option (List El)
  | [] => none
  | d :: l => rec l (acc ++ [.chr d true])
def els (fu : Nat) : Nat → List Int → List El → Option (List El)
  | 0, _, _ => none
  | f + 1, [], acc => some acc
  | f + 1, c :: l, acc =>
    if c = 42 then els fu f l (acc ++ [.star])
    else if c = 63 then els fu f l (acc ++ [.one])
    else if c = 91 then elsS fu (els fu f) acc (sgn l) (cls fu (uns l) [])
    else if c = 92 then elsE (els fu f) acc l
    else els fu f l (acc ++ [.chr c false])
theorem cls_le : ∀ (f : Nat) (l : List Int) (sp : Sp) {sp' : Sp} {r : List Int}, cls f l sp = some (sp', r) → r.length < l.length ∨ (r.length ≤ l.length ∧ sp ≠ [] ∧ l = [])
  | 0, _, _, _, _, h => by cases h
  | f + 1, l, sp, sp', r, h => by
    rw [cls] at h
    split at h
    · rename_i hc
      obtain ⟨rfl, rfl⟩ := Prod.mk.inj (Option.some.inj h)
      cases l with
      | nil => simp at hc
      | cons x l2 => left; simp
    · cases hi : item l with
      | none => rw [hi] at h; cases h
      | some p =>
        obtain ⟨c, l1⟩ := p
        have hlt := item_lt hi
        rw [hi] at h
        simp only [clsB] at h
        split at h
        · cases hj : item (l1.drop 1) with
          | none => rw [hj] at h; cases h
          | some q =>
            obtain ⟨d, l3⟩ := q
            have hlt2 := item_lt hj
            rw [List.length_drop] at hlt2
            rw [hj] at h
            simp only [clsC] at h
            split at h
            · cases h
            · rcases cls_le f l3 _ h with h1 | ⟨h1, _, _⟩
              · left; omega
              · left; omega
        · rcases cls_le f l1 _ h with h1 | ⟨h1, _, _⟩
          · left; omega
          · left; omega
theorem snocE (acc : List El) (e : El) : acc.map toE ++ [toE e] = (acc ++ [e]).map toE := by simp
theorem snocM (acc : List El) (e : El) : acc.map toM ++ [toM e] = (acc ++ [e]).map toM := by simp
def outE : Option (List El) → List S_glob_element × Bool
  | some r => (r.map toE, true)
  | none => ([], false)
theorem cls_lt {fu : Nat} {l r : List Int} {sp : Sp} (h : cls fu (uns l) [] = some (sp, r)) : r.length < l.length := by
  have hu := uns_le l
  rcases cls_le fu (uns l) [] h with h1 | ⟨_, h2, _⟩
  · omega
  · exact absurd rfl h2
theorem eloop (fu : Nat) (hfu : 1048600 ≤ fu) : ∀ (f : Nat) (l : List Int) (acc : List El), l.length < f → acc.length + l.length ≤ 1048576 → f_glob_elements_L6 fu f l (acc.map toE) = some (outE (els fu f l acc))
  | 0, l, acc, h, _ => absurd h (Nat.not_lt_zero _)
  | f + 1, [], acc, h, hl => by rw [f_glob_elements_L6, next_nil, opt_of]; rfl
  | f + 1, c :: l, acc, h, hl => by
    simp only [List.length_cons] at h hl
    have rq : ∀ e : S_glob_element, ((acc.map toE).length + [e].length) * 40 ≤ 140737488355328 ∧ (acc.map toE).length + [e].length ≤ 9223372036854775807 := fun e => ⟨by rw [List.length_map, List.length_singleton]; omega, by rw [List.length_map, List.length_singleton]; omega⟩
    have go : ∀ (e : El) (l' : List Int), l'.length ≤ l.length → f_glob_elements_L6 fu f l' (acc.map toE ++ [toE e]) = some (outE (els fu f l' (acc ++ [e]))) := fun e l' hl' => by
      rw [snocE]
      exact eloop fu hfu f l' (acc ++ [e]) (by omega) (by simp only [List.length_append, List.length_singleton]; omega)
    rw [f_glob_elements_L6, next_cons, opt_of, els]
    simp only [Bool.not_true, cond_false]
    by_cases h1 : c = 42
    · rw [if_pos h1, cond_tt (by simpa using h1), req_pos (rq _)]
      exact go .star l (Nat.le_refl _)
    rw [if_neg h1, cond_ff (by simpa using h1)]
    by_cases h2 : c = 63
    · rw [if_pos h2, cond_tt (by simpa using h2), req_pos (rq _)]
      exact go .one l (Nat.le_refl _)
    rw [if_neg h2, cond_ff (by simpa using h2)]
    by_cases h3 : c = 92
    · have h91 : ¬ c = 91 := by omega
      rw [if_neg h91, if_pos h3, cond_tt (by simpa using h3)]
      cases l with
      | nil => rfl
      | cons d l2 =>
        rw [next_cons, opt_of]
        simp only [Bool.not_true, cond_false]
        rw [req_pos (rq _)]
        exact go (.chr d true) l2 (by simp only [List.length_cons]; omega)
    rw [cond_ff (by simpa using h3)]
    by_cases h4 : c = 91
    · rw [if_pos h4, cond_tt (by simpa using h4)]
      obtain ⟨k1, k2⟩ := cclass_ok fu l (by omega) (by omega)
      cases hc : cls fu (uns l) [] with
      | none =>
        obtain ⟨e, x, hk⟩ := k2 hc
        rw [hk, opt_of]; rfl
      | some p =>
        obtain ⟨sp, r⟩ := p
        rw [k1 sp r hc, opt_of]
        simp only [Bool.not_true, cond_false]
        rw [req_pos (rq _)]
        exact go (.set sp (sgn l)) r (Nat.le_of_lt (cls_lt hc))
    · rw [if_neg h4, if_neg h3, cond_ff (by simpa using h4), req_pos (rq _)]
      exact go (.chr c false) l (Nat.le_refl _)
def outM (kk : List S_lumref_mark → Option (List S_lumref_mark × Bool)) : Option (List El) → Option (List S_lumref_mark × Bool)
  | some r => kk (r.map toM)
  | none => some ([], false)
theorem mloop (fu : Nat) (hfu : 1048600 ≤ fu) (kk : List S_lumref_mark → Option (List S_lumref_mark × Bool)) : ∀ (f : Nat) (l : List Int) (acc : List El), l.length < f → acc.length + l.length ≤ 1048576 → f_lumref_marks_L5 kk fu f l (acc.map toM) = outM kk (els fu f l acc)
  | 0, l, acc, h, _ => absurd h (Nat.not_lt_zero _)
  | f + 1, [], acc, h, hl => by rw [f_lumref_marks_L5]; rfl
  | f + 1, c :: l, acc, h, hl => by
    simp only [List.length_cons] at h hl
    have go : ∀ (b : Bool) (ok : C74) (e : El) (l' : List Int), S_lumref_mark.mk b ok = toM e → l'.length ≤ l.length → (req (((acc.map toM).length + [S_lumref_mark.mk b ok].length) * 16 ≤ 140737488355328 ∧ (acc.map toM).length + [S_lumref_mark.mk b ok].length ≤ 9223372036854775807) (f_lumref_marks_L5 kk fu f l' (acc.map toM ++ [S_lumref_mark.mk b ok]))) = outM kk (els fu f l' (acc ++ [e])) := fun b ok e l' he hl' => by
      rw [req_pos ⟨by rw [List.length_map, List.length_singleton]; omega, by rw [List.length_map, List.length_singleton]; omega⟩, he, snocM]
      exact mloop fu hfu kk f l' (acc ++ [e]) (by omega) (by simp only [List.length_append, List.length_singleton]; omega)
    have hd1 : (c :: l).drop ((1 : Int)).toNat = l := rfl
    rw [f_lumref_marks_L5, cond_tt (decide_eq_true (show (((c :: l).length : Nat) : Int) > 0 by simp only [List.length_cons]; omega)), at0, opt_of, req_pos ⟨by omega, by simp only [List.length_cons]; omega⟩, lt_of, hd1, els]
    by_cases h1 : c = 42
    · rw [if_pos h1, cond_tt (by simpa using h1)]
      exact go _ _ .star l rfl (Nat.le_refl _)
    rw [if_neg h1, cond_ff (by simpa using h1)]
    by_cases h2 : c = 63
    · rw [if_pos h2, cond_tt (by simpa using h2)]
      exact go _ _ .one l rfl (Nat.le_refl _)
    rw [if_neg h2, cond_ff (by simpa using h2)]
    by_cases h4 : c = 91
    · rw [if_pos h4, cond_tt (by simpa using h4)]
      obtain ⟨k1, k2⟩ := rclass_ok fu l (by omega) (by omega)
      cases hc : cls fu (uns l) [] with
      | none =>
        obtain ⟨e, x, hk⟩ := k2 hc
        rw [hk, opt_of]; rfl
      | some p =>
        obtain ⟨sp, r⟩ := p
        rw [k1 sp r hc, opt_of]
        simp only [Bool.not_true, cond_false]
        exact go _ _ (.set sp (sgn l)) r rfl (Nat.le_of_lt (cls_lt hc))
    rw [if_neg h4, cond_ff (by simpa using h4)]
    by_cases h3 : c = 92
    · rw [if_pos h3, cond_tt (by simpa using h3)]
      cases l with
      | nil => rfl
      | cons d l2 =>
        rw [len0, cond_ff rfl, at0, opt_of, req_pos ⟨by omega, by simp only [List.length_cons]; omega⟩]
        exact go _ _ (.chr d true) l2 rfl (by simp only [List.length_cons]; omega)
    · rw [if_neg h3, cond_ff (by simpa using h3)]
      exact go _ _ (.chr c false) l rfl (Nat.le_refl _)
def hit (sp : Sp) (c : Int) : Bool := sp.any fun p => decide (p.1 ≤ c) && decide (c ≤ p.2)
def mtch : El → Int → Bool
  | .star, _ => true
  | .one, _ => true
  | .chr d _, c => d == c
  | .set sp n, c => hit sp c != n
theorem hit_cons (p : Int × Int) (l : Sp) (c : Int) : hit (p :: l) c = ((decide (p.1 ≤ c) && decide (c ≤ p.2)) || hit l c) := rfl
theorem mat_loop (sp : Sp) (k : Int) (n : Bool) (c : Int) (kk : Bool → Option Bool) (hs : sp.length ≤ 1048576) : ∀ (d i f : Nat) (b : Bool), sp.length - i = d → i ≤ sp.length → d < f → f__glob_element__matches_L7 ⟨k, spans sp, n⟩ c kk f b (i : Int) = kk (b || hit (sp.drop i) c)
  | _, _, 0, _, _, _, hf => absurd hf (Nat.not_lt_zero _)
  | 0, i, f + 1, b, hd, hi, _ => by
    rw [f__glob_element__matches_L7, cond_ff (dge (by simp only [spans_len]; omega)), List.drop_of_length_le (by omega)]
    simp [hit]
  | d + 1, i, f + 1, b, hd, hi, hf => by
    have hlt : i < sp.length := by omega
    have ih := fun b => mat_loop sp k n c kk hs d (i + 1) f b (by omega) (by omega) (by omega)
    have ha : at? (spans sp) (i : Int) = some ⟨sp[i].1, sp[i].2⟩ := at_of (by unfold spans; rw [List.getElem?_map, List.getElem?_eq_getElem hlt]; rfl)
    rw [f__glob_element__matches_L7, cond_tt (dlt (by simp only [spans_len]; omega)), lt_of, ha, opt_of, wsucc (by omega), List.drop_eq_getElem_cons hlt]
    cases b with
    | true => rw [cond_tt rfl]; refine (ih true).trans ?_; simp
    | false =>
      rw [cond_ff rfl]
      by_cases h1 : sp[i].1 ≤ c
      · rw [cond_tt (decide_eq_true h1)]
        refine (ih _).trans ?_
        rw [hit_cons, decide_eq_true h1]
        simp only [Bool.true_and, Bool.false_or]
      · rw [cond_ff (decide_eq_false h1)]
        refine (ih _).trans ?_
        rw [hit_cons, decide_eq_false h1]
        simp only [Bool.false_and, Bool.false_or]
theorem mat_ok (fu : Nat) (hfu : 1048600 ≤ fu) (e : El) (c : Int) (h : e ≠ .star) (hs : ∀ sp n, e = .set sp n → sp.length ≤ 1048576) : f__glob_element__matches fu (toE e) c = some (mtch e c) := by
  unfold f__glob_element__matches
  cases e with
  | star => exact absurd rfl h
  | one => rfl
  | chr d b =>
    simp only [toE]
    rw [cond_ff (by simp), lt_of]
    refine (mat_loop [(d, d)] 0 false c _ (by simp) 1 0 fu false rfl (by simp) (by omega)).trans ?_
    simp only [mtch, hit, List.drop_zero, List.any_cons, List.any_nil, Bool.or_false, Bool.false_or]
    congr 1
    by_cases hd : d = c
    · subst hd; simp
    · rw [show (d == c) = false from by simpa using hd]
      by_cases h1 : d ≤ c
      · rw [decide_eq_true h1, decide_eq_false (by omega)]; rfl
      · rw [decide_eq_false h1]; rfl
  | set sp n =>
    simp only [toE]
    rw [cond_ff (by simp), lt_of]
    refine (mat_loop sp 0 n c _ (hs sp n rfl) sp.length 0 fu false rfl (Nat.zero_le _) (by have := hs sp n rfl; omega)).trans ?_
    simp [mtch]
theorem cl_loop (sp : Sp) (n : Bool) (c : Int) (kk : Unit → Option Bool) (hk : kk () = some n) (hs : sp.length ≤ 1048576) : ∀ (d i f : Nat), sp.length - i = d → i ≤ sp.length → d < f → f_lumref_class_1_L6 c (los sp) (his sp) n kk f (i : Int) = some (hit (sp.drop i) c != n)
  | _, _, 0, _, _, hf => absurd hf (Nat.not_lt_zero _)
  | 0, i, f + 1, hd, hi, _ => by
    rw [f_lumref_class_1_L6, cond_ff (dge (by simp only [los_len]; omega)), hk, List.drop_of_length_le (by omega)]
    simp [hit]
  | d + 1, i, f + 1, hd, hi, hf => by
    have hlt : i < sp.length := by omega
    have ih := cl_loop sp n c kk hk hs d (i + 1) f (by omega) (by omega) (by omega)
    have ha : at? (los sp) (i : Int) = some sp[i].1 := at_of (by unfold los; rw [List.getElem?_map, List.getElem?_eq_getElem hlt]; rfl)
    have hb : at? (his sp) (i : Int) = some sp[i].2 := at_of (by unfold his; rw [List.getElem?_map, List.getElem?_eq_getElem hlt]; rfl)
    rw [f_lumref_class_1_L6, cond_tt (dlt (by simp only [los_len]; omega)), lt_of, ha, opt_of, wsucc (by omega), List.drop_eq_getElem_cons hlt]
    by_cases h1 : sp[i].1 ≤ c
    · rw [cond_tt (decide_eq_true h1), hb, opt_of]
      by_cases h2 : c ≤ sp[i].2
      · rw [decide_eq_true h2]
        dsimp only
        rw [cond_tt rfl, hit_cons, decide_eq_true h1, decide_eq_true h2]
        cases n <;> rfl
      · rw [decide_eq_false h2]
        dsimp only
        rw [cond_ff rfl, ih, hit_cons, decide_eq_true h1, decide_eq_false h2]
        rfl
    · rw [cond_ff (decide_eq_false h1)]
      dsimp only
      rw [cond_ff rfl, ih, hit_cons, decide_eq_false h1]
      rfl
theorem cl_ok (fu : Nat) (hfu : 1048600 ≤ fu) (sp : Sp) (n : Bool) (c : Int) (hs : sp.length ≤ 1048576) : f_lumref_class_1 fu c (los sp) (his sp) n = some (hit sp c != n) := by
  unfold f_lumref_class_1
  rw [lt_of]
  exact cl_loop sp n c _ rfl hs sp.length 0 fu rfl (Nat.zero_le _) (by omega)
end Go.Proofs.YtpakblkldklbmaaDoor.PGlob
namespace Go.Proofs.YtpakblkldklbmaaDoor.PGlob
open Go.RowKit YtpakblkldklbmaaDoor.En YtpakblkldklbmaaDoor Go.Lib U8
set_option linter.unusedVariables false
set_option linter.unusedSimpArgs false
theorem fin_w {low n c : Nat} {r : Nat × Nat} (h : fin low n c = r) (hw : 1 ≤ r.2) : r = (c, n) := by
  unfold fin at h
  split at h
  · subst h; simp at hw
  · exact h.symm
theorem refN_w {n b0 b1 b2 b3 c w : Nat} (hn : 1 ≤ n) (h : refN n b0 b1 b2 b3 = (c, w)) (hw : 1 ≤ w) : w ≤ n ∧ w ≤ 4 ∧ (2 ≤ w → C b1) ∧ (3 ≤ w → C b2) ∧ (4 ≤ w → C b3) ∧ ∀ m b1' b2' b3', w ≤ m → (2 ≤ w → b1' = b1) → (3 ≤ w → b2' = b2) → (4 ≤ w → b3' = b3) → refN m b0 b1' b2' b3' = (c, w) := by
  have z : ∀ {P : Prop}, ((0, 0) : Nat × Nat) = (c, w) → P := fun e => by obtain ⟨_, rfl⟩ := Prod.mk.inj e; omega
  unfold refN at h
  split at h
  · rename_i h0
    obtain ⟨rfl, rfl⟩ := Prod.mk.inj h
    exact ⟨hn, by omega, fun h => by omega, fun h => by omega, fun h => by omega, fun m _ _ _ _ _ _ _ => by unfold refN; rw [if_pos h0]⟩
  · rename_i h0
    split at h
    · rename_i h1
      split at h
      · exact z h
      · rename_i h2
        split at h
        · rename_i hc
          have e := fin_w h hw
          obtain ⟨_, rfl⟩ := Prod.mk.inj e
          refine ⟨by omega, by omega, fun _ => hc, fun h => by omega, fun h => by omega, fun m b1' b2' b3' hm e1 _ _ => ?_⟩
          rw [e1 (by omega)]
          unfold refN
          rw [if_neg h0, if_pos h1, if_neg (by omega), if_pos hc, h]
        · exact z h
    · rename_i h1
      split at h
      · rename_i h2
        split at h
        · exact z h
        · rename_i h3
          split at h
          · rename_i hc
            split at h
            · rename_i hc2
              have e := fin_w h hw
              obtain ⟨_, rfl⟩ := Prod.mk.inj e
              refine ⟨by omega, by omega, fun _ => hc, fun _ => hc2, fun h => by omega, fun m b1' b2' b3' hm e1 e2 _ => ?_⟩
              rw [e1 (by omega), e2 (by omega)]
              unfold refN
              rw [if_neg h0, if_neg h1, if_pos h2, if_neg (by omega), if_pos hc, if_pos hc2, h]
            · exact z h
          · exact z h
      · rename_i h2
        split at h
        · rename_i h3
          split at h
          · exact z h
          · rename_i h4
            split at h
            · rename_i hc
              split at h
              · rename_i hc2
                split at h
                · rename_i hc3
                  have e := fin_w h hw
                  obtain ⟨_, rfl⟩ := Prod.mk.inj e
                  refine ⟨by omega, by omega, fun _ => hc, fun _ => hc2, fun _ => hc3, fun m b1' b2' b3' hm e1 e2 e3 => ?_⟩
                  rw [e1 (by omega), e2 (by omega), e3 (by omega)]
                  unfold refN
                  rw [if_neg h0, if_neg h1, if_neg h2, if_pos h3, if_neg (by omega), if_pos hc, if_pos hc2, if_pos hc3, h]
                · exact z h
              · exact z h
            · exact z h
        · exact z h
theorem by_take (l : List UInt8) {m j : Nat} (h : j < m) : by_ (l.take m) j = by_ l j := by
  unfold by_
  rw [List.getD_eq_getElem?_getD, List.getD_eq_getElem?_getD, List.getElem?_take, if_pos h]
theorem first {l : List UInt8} (h : l ≠ []) (hv : validD l = true) : ∃ c w, decodeL l = (c, w) ∧ 1 ≤ w ∧ w ≤ l.length ∧ validD (l.drop w) = true ∧ (∀ j, 1 ≤ j → j < w → C (by_ l j)) ∧ (by_ l 0 < 128 → w = 1) ∧ ∀ m, w ≤ m → decodeL (l.take m) = (c, w) := by
  have hlen : 1 ≤ l.length := List.length_pos_iff.2 h
  rw [V_step h] at hv
  split at hv
  · cases hv
  · rename_i hb
    rcases refC_fits l with ⟨e, _⟩ | ⟨e, hw, _⟩
    · rw [e] at hb; exact absurd ⟨rfl, rfl⟩ hb
    · obtain ⟨c, w, hcw⟩ : ∃ c w, refC l = (c, w) := ⟨_, _, rfl⟩
      rw [hcw] at e hw
      rw [e] at hv hb
      simp only at hw hv hb
      obtain ⟨w1, w4, k1, k2, k3, k4⟩ := refN_w hlen hcw hw
      refine ⟨c, w, e, hw, w1, hv, fun j hj hjw => ?_, fun h0 => ?_, fun m hm => ?_⟩
      · have : j = 1 ∨ j = 2 ∨ j = 3 := by omega
        rcases this with rfl | rfl | rfl
        · exact k1 (by omega)
        · exact k2 (by omega)
        · exact k3 (by omega)
      · have : refC l = (by_ l 0, 1) := by unfold refC refN; rw [if_pos h0]
        rw [this] at hcw
        exact (Prod.mk.inj hcw).2.symm
      · have hr : refC (l.take m) = (c, w) := by
          unfold refC
          rw [by_take l (show 0 < m by omega)]
          exact k4 _ _ _ _ (by rw [List.length_take]; omega) (fun h => by_take l (by omega)) (fun h => by_take l (by omega)) (fun h => by_take l (by omega))
        rcases refC_fits (l.take m) with ⟨_, e2⟩ | ⟨e2, _, _⟩
        · rw [hr] at e2; obtain ⟨_, rfl⟩ := Prod.mk.inj e2; omega
        · rw [e2, hr]
theorem at_slash : ∀ (N : Nat) (l : List UInt8) (i : Nat), l.length ≤ N → validD l = true → l[i]? = some 47 → validD (l.take i) = true ∧ validD (l.drop (i + 1)) = true
  | 0, l, i, hN, hv, hi => by
    have : l = [] := List.eq_nil_of_length_eq_zero (by omega)
    subst this; cases hi
  | N + 1, l, i, hN, hv, hi => by
    have hne : l ≠ [] := fun e => by subst e; cases hi
    obtain ⟨c, w, hd, hw, hwl, hvd, hc, h1, ht⟩ := first hne hv
    have hby : by_ l i = 47 := by unfold by_; rw [List.getD_eq_getElem?_getD, hi]; rfl
    by_cases h0 : i = 0
    · subst h0
      have hw1 := h1 (by omega)
      subst hw1
      exact ⟨by simp [V_nil], hvd⟩
    · have hiw : w ≤ i := Nat.le_of_not_lt fun hlt => by
        have := hc i (by omega) hlt
        unfold C at this; omega
      obtain ⟨a1, a2⟩ := at_slash N (l.drop w) (i - w) (by rw [List.length_drop]; omega) hvd (by rw [List.getElem?_drop, show w + (i - w) = i by omega]; exact hi)
      refine ⟨?_, by rw [List.drop_drop, show w + (i - w + 1) = i + 1 by omega] at a2; exact a2⟩
      have hne2 : l.take i ≠ [] := fun e => by
        have := congrArg List.length e
        rw [List.length_take, List.length_nil] at this
        have := (List.getElem?_eq_some_iff.1 hi).1
        omega
      have hvl := hv
      rw [V_step hne, hd] at hvl
      rw [V_step hne2, ht i hiw]
      split at hvl
      · cases hvl
      · rename_i hb
        rw [if_neg hb, List.drop_take]
        exact a1
theorem runes_go (s : List UInt8) : ∀ (b i : Nat), s.length - i ≤ b → runesGo s b i = rns (s.drop i)
  | 0, i, h => by rw [List.drop_of_length_le (by omega)]; rfl
  | b + 1, i, h => by
    rw [runesGo]
    split
    · rename_i hlt
      have hne : s.drop i ≠ [] := fun e => by have := congrArg List.length e; rw [List.length_drop, List.length_nil] at this; omega
      have hdl := drop_lt hne
      rw [List.drop_drop, List.length_drop, List.length_drop] at hdl
      rw [rns_step hne, dec_drop, List.drop_drop]
      rw [runes_go s b _ (by omega)]
    · rw [List.drop_of_length_le (by omega)]; rfl
theorem runes_eq (s : List UInt8) : runes s = rns s := by
  have := runes_go s s.length 0 (by omega)
  rwa [List.drop_zero] at this
theorem split_valid : ∀ (n : Nat) (s : List UInt8), s.length ≤ n → validD s = true → ∀ x ∈ splitV s [47], validD x = true := by
  intro n
  induction n with
  | zero =>
    intro s hs hv x hx
    have : s = [] := List.eq_nil_of_length_eq_zero (by omega)
    subst this
    rw [PNamesSays.split_miss (show indexByte [] 47 = -1 from rfl)] at hx
    rw [List.mem_singleton.1 hx]; rfl
  | succ n ih =>
    intro s hs hv x hx
    by_cases hm : indexByte s 47 = -1
    · rw [PNamesSays.split_miss hm] at hx
      rw [List.mem_singleton.1 hx]; exact hv
    · obtain ⟨i, hi⟩ : ∃ i : Nat, indexByte s 47 = i := ⟨(indexByte s 47).toNat, by have := indexByte_ge s 47; omega⟩
      have hlt := PNamesSays.hit_lt hi
      obtain ⟨v1, v2⟩ := at_slash s.length s i (Nat.le_refl _) hv (indexByte_some hi).1
      rw [PNamesSays.split_hit hi] at hx
      rcases List.mem_cons.1 hx with rfl | hx
      · exact v1
      · exact ih (s.drop (i + 1)) (by rw [List.length_drop]; omega) v2 x hx
end Go.Proofs.YtpakblkldklbmaaDoor.PGlob
namespace Go.Proofs.YtpakblkldklbmaaDoor.PGlob
open Go.RowKit YtpakblkldklbmaaDoor.En YtpakblkldklbmaaDoor Go.Lib U8
set_option linter.unusedVariables false
set_option linter.unusedSimpArgs false
def okE (e : El) : Prop := ∀ sp n, e = .set sp n → sp.length ≤ 1048576
theorem cls_sp : ∀ (f : Nat) (l : List Int) (sp : Sp) {sp' : Sp} {r : List Int}, cls f l sp = some (sp', r) → sp'.length ≤ sp.length + l.length
  | 0, _, _, _, _, h => by cases h
  | f + 1, l, sp, sp', r, h => by
    rw [cls] at h
    split at h
    · obtain ⟨rfl, rfl⟩ := Prod.mk.inj (Option.some.inj h); omega
    · cases hi : item l with
      | none => rw [hi] at h; cases h
      | some p =>
        obtain ⟨c, l1⟩ := p
        have hlt := item_lt hi
        rw [hi] at h
        simp only [clsB] at h
        split at h
        · cases hj : item (l1.drop 1) with
          | none => rw [hj] at h; cases h
          | some q =>
            obtain ⟨d, l3⟩ := q
            have hlt2 := item_lt hj
            rw [List.length_drop] at hlt2
            rw [hj] at h
            simp only [clsC] at h
            split at h
            · cases h
            · have := cls_sp f l3 _ h
              simp only [List.length_append, List.length_singleton] at this; omega
        · have := cls_sp f l1 _ h
          simp only [List.length_append, List.length_singleton] at this; omega
theorem els_inv (fu : Nat) : ∀ (f : Nat) (l : List Int) (acc : List El) {r : List El}, els fu f l acc = some r → (∀ e ∈ acc, okE e) → l.length ≤ 1048576 → (∀ e ∈ r, okE e) ∧ acc.length ≤ r.length ∧ (l ≠ [] → acc.length < r.length) ∧ r.length ≤ acc.length + l.length
  | 0, _, _, _, h, _, _ => by cases h
  | f + 1, [], acc, r, h, ha, _ => by
    obtain rfl := Option.some.inj h
    exact ⟨ha, Nat.le_refl _, fun e => absurd rfl e, by simp⟩
  | f + 1, c :: l, acc, r, h, ha, hl => by
    simp only [List.length_cons] at hl
    have go : ∀ (e : El) (l' : List Int), okE e → l'.length ≤ l.length → els fu f l' (acc ++ [e]) = some r → (∀ e ∈ r, okE e) ∧ acc.length ≤ r.length ∧ (c :: l ≠ [] → acc.length < r.length) ∧ r.length ≤ acc.length + (c :: l).length := fun e l' he hl' h' => by
      obtain ⟨h1, h2, _, h4⟩ := els_inv fu f l' (acc ++ [e]) h' (fun x hx => by
        rcases List.mem_append.1 hx with hx | hx
        · exact ha x hx
        · rw [List.mem_singleton.1 hx]; exact he) (by omega)
      simp only [List.length_append, List.length_singleton] at h2 h4
      exact ⟨h1, by omega, fun _ => by omega, by simp only [List.length_cons]; omega⟩
    rw [els] at h
    split at h
    · exact go _ l (fun _ _ e => by cases e) (Nat.le_refl _) h
    · split at h
      · exact go _ l (fun _ _ e => by cases e) (Nat.le_refl _) h
      · split at h
        · cases hc : cls fu (uns l) [] with
          | none => rw [hc] at h; cases h
          | some p =>
            obtain ⟨sp, r2⟩ := p
            rw [hc] at h
            have h9 := cls_sp fu (uns l) [] hc
            have hu := uns_le l
            exact go _ r2 (fun sp' n e => by obtain ⟨rfl, _⟩ := El.set.inj e; simp only [List.length_nil] at h9; omega) (Nat.le_of_lt (cls_lt hc)) h
        · split at h
          · cases l with
            | nil => cases h
            | cons d l2 => exact go _ l2 (fun _ _ e => by cases e) (by simp only [List.length_cons]; omega) h
          · exact go _ l (fun _ _ e => by cases e) (Nat.le_refl _) h
theorem elements_ok (fu : Nat) (hfu : 1048600 ≤ fu) (s : List UInt8) (hs : s.length ≤ 1048576) : f_glob_elements fu s = some (outE (els fu fu (rns s) [])) := by
  have hl := rns_len s.length s (Nat.le_refl _)
  unfold f_glob_elements
  rw [req_pos (by omega), runes_eq]
  exact eloop fu hfu fu (rns s) [] (by omega) (by simp only [List.length_nil]; omega)
theorem marks_ok (fu : Nat) (hfu : 1048600 ≤ fu) (s : List UInt8) (hs : s.length ≤ 1048576) : f_lumref_marks fu (rns s) = outM (fun o => some (o, decide ((o.length : Int) > 0))) (els fu fu (rns s) []) := by
  have hl := rns_len s.length s (Nat.le_refl _)
  unfold f_lumref_marks
  rw [lt_of]
  exact mloop fu hfu _ fu (rns s) [] (by omega) (by simp only [List.length_nil]; omega)
inductive Pt where
  | any
  | els (r : List El)
def toP : Pt → S_glob_part
  | .any => ⟨true, [El.star, El.star].map toE⟩
  | .els r => ⟨false, r.map toE⟩
def toO : Pt → Option (List S_lumref_mark)
  | .any => none
  | .els r => some (r.map toM)
def okP (p : Pt) : Prop := ∀ r, p = .els r → (∀ e ∈ r, okE e) ∧ r.length ≤ 1048576
def pt (fu : Nat) (s : List UInt8) : Option Pt :=
  if s = [42, 42] then some .any else if s = [] then none else (els fu fu (rns s) []).map Pt.els
def pts (fu : Nat) : List (List UInt8) → List Pt → Option (List Pt)
  | [], acc => some acc
  | s :: t, acc => match pt fu s with | some p => pts fu t (acc ++ [p]) | none => none
theorem pts_cons (fu : Nat) (s : List UInt8) (t : List (List UInt8)) (acc : List Pt) : pts fu (s :: t) acc = match pt fu s with | some p => pts fu t (acc ++ [p]) | none => none := rfl
theorem stars (fu : Nat) (hfu : 10 ≤ fu) : els fu fu (rns [42, 42]) [] = some [El.star, El.star] := by
  obtain ⟨k, rfl⟩ : ∃ k, fu = k + 3 := ⟨fu - 3, by omega⟩
  rw [show rns [42, 42] = [42, 42] by kernel_rfl]
  rfl
theorem snocP (acc : List Pt) (e : Pt) : acc.map toP ++ [toP e] = (acc ++ [e]).map toP := by simp
theorem snocO (acc : List Pt) (e : Pt) : acc.map toO ++ [toO e] = (acc ++ [e]).map toO := by simp
def outP {β γ : Type} (kk : List β → Option (List γ × Int)) (f : Pt → β) : Option (List Pt) → Option (List γ × Int)
  | some P => kk (P.map f)
  | none => some ([], 13)
section
variable (fu : Nat) (hfu : 2000000 ≤ fu) (Rs : List (List UInt8)) (hR : Rs.length ≤ 1048577) (hs : ∀ s ∈ Rs, s.length ≤ 1048576) (hv : ∀ s ∈ Rs, validD s = true)
include hfu hR hs
theorem ploop (kk : List S_glob_part → Option (List S_glob_part × Int)) : ∀ (d i f : Nat) (acc : List Pt), Rs.length - i = d → i ≤ Rs.length → d < f → acc.length ≤ i → f_glob_parse_L14 kk Rs fu f (acc.map toP) (i : Int) = outP kk toP (pts fu (Rs.drop i) acc)
  | _, _, 0, _, _, _, hf, _ => absurd hf (Nat.not_lt_zero _)
  | 0, i, f + 1, acc, hd, hi, _, _ => by
    rw [f_glob_parse_L14, cond_ff (dge (by omega)), List.drop_of_length_le (by omega)]; rfl
  | d + 1, i, f + 1, acc, hd, hi, hf, ha => by
    have hlt : i < Rs.length := by omega
    have ih := fun p => ploop kk d (i + 1) f (acc ++ [p]) (by omega) (by omega) (by omega) (by simp only [List.length_append, List.length_singleton]; omega)
    have hs1 := hs _ (List.getElem_mem hlt)
    rw [f_glob_parse_L14, cond_tt (dlt (by omega)), at_lt hlt, opt_of, List.drop_eq_getElem_cons hlt, pts_cons, elements_ok fu (by omega) _ hs1, opt_of, lt_of, wsucc (by omega)]
    generalize Rs[i] = s at hs1
    have go : ∀ (p : Pt), (req (((acc.map toP).length + [toP p].length) * 32 ≤ 140737488355328 ∧ (acc.map toP).length + [toP p].length ≤ 9223372036854775807) (f_glob_parse_L14 kk Rs fu f (acc.map toP ++ [toP p]) ((i + 1 : Nat) : Int))) = outP kk toP (pts fu (Rs.drop (i + 1)) (acc ++ [p])) := fun p => by
      rw [req_pos ⟨by rw [List.length_map, List.length_singleton]; omega, by rw [List.length_map, List.length_singleton]; omega⟩, snocP]
      exact ih p
    unfold pt
    by_cases h1 : s = [42, 42]
    · subst h1
      rw [if_pos rfl, stars fu (by omega)]
      exact go .any
    · rw [if_neg h1, show (s == [42, 42]) = false from by simpa using h1]
      by_cases h2 : s = []
      · subst h2
        rw [if_pos rfl]
        have : els fu fu (rns []) [] = some [] := by
          obtain ⟨k, rfl⟩ : ∃ k, fu = k + 1 := ⟨fu - 1, by omega⟩
          rfl
        rw [this]; rfl
      · rw [if_neg h2]
        cases he : els fu fu (rns s) [] with
        | none => rfl
        | some r =>
          simp only [outE, Bool.not_true, cond_false, Option.map_some]
          rw [show (s == ([] : List UInt8)) = false from by simpa using h2]
          exact go (.els r)
include hv
theorem rloop (kk : List (Option (List S_lumref_mark)) → Option (List (Option (List S_lumref_mark)) × Int)) : ∀ (d i f : Nat) (acc : List Pt), Rs.length - i = d → i ≤ Rs.length → d < f → acc.length ≤ i → f_lumref_Pattern_L16 kk Rs fu f (acc.map toO) (i : Int) = outP kk toO (pts fu (Rs.drop i) acc)
  | _, _, 0, _, _, _, hf, _ => absurd hf (Nat.not_lt_zero _)
  | 0, i, f + 1, acc, hd, hi, _, _ => by
    rw [f_lumref_Pattern_L16, cond_ff (dge (by omega)), List.drop_of_length_le (by omega)]; rfl
  | d + 1, i, f + 1, acc, hd, hi, hf, ha => by
    have hlt : i < Rs.length := by omega
    have ih := fun p => rloop kk d (i + 1) f (acc ++ [p]) (by omega) (by omega) (by omega) (by simp only [List.length_append, List.length_singleton]; omega)
    have hs1 := hs _ (List.getElem_mem hlt)
    have hv1 := hv _ (List.getElem_mem hlt)
    rw [f_lumref_Pattern_L16, cond_tt (dlt (by omega)), lt_of, at_lt hlt, opt_of, List.drop_eq_getElem_cons hlt, pts_cons, wsucc (by omega)]
    generalize Rs[i] = s at hs1 hv1
    have hl := rns_len s.length s (Nat.le_refl _)
    have go : ∀ (p : Pt), (req (((acc.map toO).length + [toO p].length) * 24 ≤ 140737488355328 ∧ (acc.map toO).length + [toO p].length ≤ 9223372036854775807) (f_lumref_Pattern_L16 kk Rs fu f (acc.map toO ++ [toO p]) ((i + 1 : Nat) : Int))) = outP kk toO (pts fu (Rs.drop (i + 1)) (acc ++ [p])) := fun p => by
      rw [req_pos ⟨by rw [List.length_map, List.length_singleton]; omega, by rw [List.length_map, List.length_singleton]; omega⟩, snocO]
      exact ih p
    unfold pt
    by_cases h1 : s = [42, 42]
    · subst h1
      rw [if_pos rfl, cond_tt (by rfl)]
      exact go .any
    · rw [if_neg h1, cond_ff (show (s == [42, 42]) = false from by simpa using h1), PTreeName.chars_ok s hs1 fu (by omega), if_pos hv1, opt_of, marks_ok fu (by omega) s hs1]
      by_cases h2 : s = []
      · subst h2
        rw [if_pos rfl]
        have : els fu fu (rns []) [] = some [] := by
          obtain ⟨k, rfl⟩ : ∃ k, fu = k + 1 := ⟨fu - 1, by omega⟩
          rfl
        rw [this]; rfl
      · rw [if_neg h2]
        cases he : els fu fu (rns s) [] with
        | none => rfl
        | some r =>
          obtain ⟨_, _, h3, _⟩ := els_inv fu fu (rns s) [] he (by simp) (by omega)
          have h4 := h3 (rns_pos h2)
          simp only [List.length_nil] at h4
          have h5 : r.map toM ≠ [] := fun e => by have := congrArg List.length e; simp at this; subst this; simp at h4
          simp only [outM, Option.map_some]
          rw [opt_of, show decide ((((r.map toM).length : Nat) : Int) > 0) = true from decide_eq_true (by rw [List.length_map]; omega)]
          simp only [Bool.not_true, cond_false]
          rw [req_pos h5]
          exact go (.els r)
end
end Go.Proofs.YtpakblkldklbmaaDoor.PGlob
namespace Go.Proofs.YtpakblkldklbmaaDoor.PGlobMat
open Go.RowKit YtpakblkldklbmaaDoor.En YtpakblkldklbmaaDoor Go.Lib U8 PGlob
set_option linter.unusedVariables false
set_option linter.unusedSimpArgs false
def pv (fu : Nat) (p : List UInt8) : Option (List Pt) × Int :=
  if 60 < p.length then (some [], 2) else if p.take 1 ≠ [47] ∨ validD p = false then (none, 13) else (pts fu (splitV (p.drop 1) [47]) [], 0)
def res {γ : Type} (f : Pt → γ) : Option (List Pt) × Int → List γ × Int
  | (some P, e) => (P.map f, e)
  | (none, _) => ([], 13)
theorem cutp (fu : Nat) (p : List UInt8) (hp : p.length ≤ 1048576) : f_strings_CutPrefix fu p [47] = some (if p.take 1 = [47] then (p.drop 1, true) else (p, false)) := by
  unfold f_strings_CutPrefix f_stringslite_CutPrefix f_stringslite_HasPrefix
  rw [lt_of]
  cases p with
  | nil => rfl
  | cons b t =>
    rw [cond_tt (decide_eq_true (by rw [List.length_cons]; show ((t.length + 1 : Nat) : Int) ≥ (([47] : List UInt8).length : Int); simp; omega)), req_pos (by simp; omega)]
    rw [show (((([47] : List UInt8).length : Nat) : Int)).toNat = 1 from rfl, opt_of]
    by_cases h1 : (b :: t).take 1 = [47]
    · rw [beq_iff_eq.2 h1, if_pos h1, cond_ff (show (!true) = false from rfl), req_pos (by simp; omega), opt_of]
    · rw [beq_eq_false_iff_ne.2 h1, if_neg h1]; rfl
theorem drop_valid {p : List UInt8} (h1 : p.take 1 = [47]) (hv : validD p = true) : validD (p.drop 1) = true := by
  cases p with
  | nil => cases h1
  | cons b t =>
    have hb : b = 47 := by simpa using h1
    subst hb
    exact (at_slash (t.length + 1) (47 :: t) 0 (by simp) hv rfl).2
section
variable (fu : Nat) (hfu : 2000000 ≤ fu) (p : List UInt8) (hp : p.length ≤ 1048576)
include hfu hp
theorem parse_ok : f_glob_parse fu p = some (res toP (pv fu p)) := by
  unfold f_glob_parse pv
  by_cases h60 : 60 < p.length
  · rw [cond_tt (decide_eq_true (by omega)), if_pos h60]; rfl
  · rw [cond_ff (decide_eq_false (by omega)), if_neg h60, cutp fu p hp, opt_of, lt_of]
    by_cases h1 : p.take 1 = [47]
    · rw [if_pos h1]
      simp only [Bool.not_true, cond_false]
      unfold f_utf8_ValidString
      rw [req_pos (by omega), opt_of]
      cases hv : validD p with
      | false => rw [if_pos (.inr rfl)]; rfl
      | true =>
        rw [if_neg (fun e => by rcases e with e | e; · exact e h1
                                · cases e)]
        simp only [Bool.not_true, cond_false]
        have hd : (p.drop 1).length ≤ 1048576 := by rw [List.length_drop]; omega
        have hsm := PNamesSays.sm_split (p.drop 1) hd
        rw [lt_of, PNamesSays.fsplit_ok fu (p.drop 1) hd, opt_of]
        refine (ploop fu hfu (splitV (p.drop 1) [47]) hsm.1 hsm.2 (fun j7x6 => some (j7x6, 0)) (splitV (p.drop 1) [47]).length 0 fu [] (by omega) (Nat.zero_le _) (by have := hsm.1; omega) (Nat.zero_le _)).trans ?_
        rw [List.drop_zero]
        cases pts fu (splitV (p.drop 1) [47]) [] <;> rfl
    · rw [if_neg h1, if_pos (.inl h1)]; rfl
theorem pattern_ok : f_lumref_Pattern fu p = some (res toO (pv fu p)) := by
  unfold f_lumref_Pattern pv
  by_cases h60 : 60 < p.length
  · rw [cond_tt (decide_eq_true (by omega)), if_pos h60]; rfl
  · rw [cond_ff (decide_eq_false (by omega)), if_neg h60, PTreeName.chars_ok p hp fu (by omega), opt_of, lt_of]
    cases hv : validD p with
    | false => rw [if_neg (show ¬ (false = true) by simp), if_pos (Or.inr rfl)]; rfl
    | true =>
      rw [if_pos rfl]
      simp only [Bool.not_true, cond_false]
      cases p with
      | nil => rw [if_pos (.inl (by simp))]; rfl
      | cons b t =>
        rw [cond_ff (by rfl), req_pos (by rw [List.length_cons]; omega), show En.bAt (b :: t) (0 : Int) = ((b.toNat : Nat) : Int) from rfl]
        by_cases hb : b = 47
        · subst hb
          rw [if_neg (fun e => by rcases e with e | e; · exact e rfl
                                  · cases e)]
          rw [show ((((47 : UInt8).toNat : Nat) : Int) != (47 : Int)) = false from rfl]
          have hd : ((47 :: t : List UInt8).drop 1).length ≤ 1048576 := by rw [List.length_drop]; omega
          have hsm := PNamesSays.sm_split ((47 :: t : List UInt8).drop 1) hd
          have hvd := drop_valid (p := 47 :: t) rfl hv
          rw [cond_ff rfl, lt_of, req_pos ⟨by omega, by rw [List.length_cons]; omega⟩, show (47 :: t : List UInt8).drop ((1 : Int)).toNat = (47 :: t : List UInt8).drop 1 from rfl, PNamesSays.cut_ok fu _ (by omega) hd, opt_of]
          refine (rloop fu hfu (splitV ((47 :: t : List UInt8).drop 1) [47]) hsm.1 hsm.2 (split_valid _ _ (Nat.le_refl _) hvd) (fun j8x6 => some (j8x6, 0)) (splitV ((47 :: t : List UInt8).drop 1) [47]).length 0 fu [] (by omega) (Nat.zero_le _) (by have := hsm.1; omega) (Nat.zero_le _)).trans ?_
          rw [List.drop_zero]
          cases pts fu (splitV ((47 :: t : List UInt8).drop 1) [47]) [] <;> rfl
        · have hne : b.toNat ≠ 47 := fun e => hb (UInt8.toNat_inj.1 (by rw [e]; rfl))
          rw [if_pos (.inl (by simpa using hb)), show (((b.toNat : Nat) : Int) != (47 : Int)) = true from by rw [bne_iff_ne]; omega]
          rfl
end
def isStar : El → Bool
  | .star => true
  | _ => false
def nmM (r : List El) (cs : List Int) : Bool := dpR (fun i => isStar (r.getD i .one)) (fun i k => mtch (r.getD i .one) (cs.getD k 0)) r.length cs.length
theorem getD_at {α : Type} {l : List α} {i : Nat} {d : α} (h : i < l.length) : l.getD i d = l[i] := by rw [List.getD_eq_getElem?_getD, List.getElem?_eq_getElem h]; rfl
theorem star_kind (e : El) : ((toE e).kind == (2 : Int)) = isStar e := by cases e <;> rfl
theorem star_mark (e : El) : (toM e).star = isStar e := by
  cases e with
  | chr c b => cases b <;> rfl
  | _ => rfl
theorem name_c (fu : Nat) (hfu : 3000000 ≤ fu) (r : List El) (hr : ∀ e ∈ r, okE e) (hl : r.length ≤ 1048576) (s : List UInt8) (hs : s.length ≤ 1048576) : f_glob_name fu (r.map toE) s = some (nmM r (rns s)) := by
  have hn := rns_len s.length s (Nat.le_refl _)
  unfold f_glob_name
  rw [req_pos (by omega), runes_eq]
  have := nm_ok (r.map toE) (r.map toE) (rns s) (rns s).length (by omega) fu (fun i => isStar (r.getD i .one)) (fun i k => mtch (r.getD i .one) ((rns s).getD k 0)) (r.map toE).length (by rw [List.length_map]; omega) (by omega)
    (fun i hi => by
      rw [List.length_map] at hi
      unfold f_glob_name_1
      rw [at_of (x := toE r[i]) (by rw [List.getElem?_map, List.getElem?_eq_getElem hi]; rfl), opt_of, star_kind]
      rw [getD_at hi])
    (fun i k hi hk hst => by
      rw [List.length_map] at hi
      rw [getD_at hi] at hst ⊢
      unfold f_glob_name_2
      rw [at_of (x := toE r[i]) (by rw [List.getElem?_map, List.getElem?_eq_getElem hi]; rfl), opt_of, at_lt hk, opt_of, mat_ok fu (by omega) r[i] _ (fun e => by rw [e] at hst; cases hst) (hr _ (List.getElem_mem hi)), opt_of, getD_at hk])
  rw [this, opt_of, List.length_map]
  rfl
theorem name_r (fu : Nat) (hfu : 3000000 ≤ fu) (r : List El) (hr : ∀ e ∈ r, okE e) (hl : r.length ≤ 1048576) (s : List UInt8) (hs : s.length ≤ 1048576) (hv : validD s = true) : f_lumref_partFits fu (r.map toM) s = some (nmM r (rns s)) := by
  have hn := rns_len s.length s (Nat.le_refl _)
  unfold f_lumref_partFits
  rw [PTreeName.chars_ok s hs fu (by omega), if_pos hv, opt_of]
  dsimp only
  have := pf_ok (r.map toM) (r.map toM) (rns s) (rns s).length (by omega) fu (fun i => isStar (r.getD i .one)) (fun i k => mtch (r.getD i .one) ((rns s).getD k 0)) (r.map toM).length (by rw [List.length_map]; omega) (by omega)
    (fun i hi => by
      rw [List.length_map] at hi
      unfold f_lumref_partFits_1
      rw [at_of (x := toM r[i]) (by rw [List.getElem?_map, List.getElem?_eq_getElem hi]; rfl), opt_of, star_mark]
      rw [getD_at hi])
    (fun i k hi hk hst => by
      rw [List.length_map] at hi
      rw [getD_at hi] at hst ⊢
      have ho := hr _ (List.getElem_mem hi)
      unfold f_lumref_partFits_2
      rw [at_of (x := toM r[i]) (by rw [List.getElem?_map, List.getElem?_eq_getElem hi]; rfl), opt_of, at_lt hk, opt_of, getD_at hk]
      generalize r[i] = e at hst ho ⊢
      generalize (rns s)[k] = c
      cases e with
      | star => cases hst
      | one => rfl
      | chr d b =>
        cases b with
        | false => rfl
        | true =>
          show some (c == d) = some (d == c)
          congr 1
          by_cases h : c = d
          · subst h; rfl
          · rw [show (c == d) = false from by simpa using h, show (d == c) = false from by simpa using fun e => h e.symm]
      | set sp n =>
        show (opt (f_lumref_class_1 fu c (los sp) (his sp) n) fun r34 => some r34) = _
        rw [cl_ok fu (by omega) sp n c (ho sp n rfl), opt_of]; rfl)
  rw [this, opt_of, List.length_map]
  rfl
def isAny : Pt → Bool
  | .any => true
  | .els _ => false
def ptM : Pt → List UInt8 → Bool
  | .any, _ => false
  | .els r, s => nmM r (rns s)
def pathM (P : List Pt) (N : List (List UInt8)) : Bool := dpR (fun i => isAny (P.getD i .any)) (fun i k => ptM (P.getD i .any) (N.getD k [])) P.length N.length
theorem path_c (fu : Nat) (hfu : 3000000 ≤ fu) (P : List Pt) (hP : ∀ p ∈ P, okP p) (hl : P.length ≤ 1048577) (N : List (List UInt8)) (hN : N.length ≤ 1048577) (hs : ∀ s ∈ N, s.length ≤ 1048576) : f_glob_path fu (P.map toP) N = some (pathM P N) := by
  unfold f_glob_path
  have := pa_ok (P.map toP) (P.map toP) N N.length (by omega) fu (fun i => isAny (P.getD i .any)) (fun i k => ptM (P.getD i .any) (N.getD k [])) (P.map toP).length (by rw [List.length_map]; omega) (by omega)
    (fun i hi => by
      rw [List.length_map] at hi
      unfold f_glob_path_1
      rw [at_of (x := toP P[i]) (by rw [List.getElem?_map, List.getElem?_eq_getElem hi]; rfl), opt_of]
      rw [getD_at hi]
      cases P[i] <;> rfl)
    (fun i k hi hk hst => by
      rw [List.length_map] at hi
      rw [getD_at hi] at hst ⊢
      have ho := hP _ (List.getElem_mem hi)
      unfold f_glob_path_2
      rw [at_of (x := toP P[i]) (by rw [List.getElem?_map, List.getElem?_eq_getElem hi]; rfl), opt_of, at_lt hk, opt_of, getD_at hk]
      have h1 := hs _ (List.getElem_mem hk)
      generalize P[i] = e at hst ho ⊢
      cases e with
      | any => cases hst
      | els r =>
        obtain ⟨h2, h3⟩ := ho r rfl
        show (opt (f_glob_name fu (r.map toE) N[k]) fun r12 => some r12) = _
        rw [name_c fu hfu r h2 h3 _ h1, opt_of]; rfl)
  rw [this, opt_of, List.length_map]
  rfl
theorem path_r (fu : Nat) (hfu : 3000000 ≤ fu) (P : List Pt) (hP : ∀ p ∈ P, okP p) (hl : P.length ≤ 1048577) (N : List (List UInt8)) (hN : N.length ≤ 1048577) (hs : ∀ s ∈ N, s.length ≤ 1048576) (hv : ∀ s ∈ N, validD s = true) : f_lumref_Fits fu (P.map toO) N = some (pathM P N) := by
  unfold f_lumref_Fits
  have := fi_ok (P.map toO) (P.map toO) N N.length (by omega) fu (fun i => isAny (P.getD i .any)) (fun i k => ptM (P.getD i .any) (N.getD k [])) (P.map toO).length (by rw [List.length_map]; omega) (by omega)
    (fun i hi => by
      rw [List.length_map] at hi
      unfold f_lumref_Fits_1
      rw [at_of (x := toO P[i]) (by rw [List.getElem?_map, List.getElem?_eq_getElem hi]; rfl), opt_of]
      rw [getD_at hi]
      cases P[i] <;> rfl)
    (fun i k hi hk hst => by
      rw [List.length_map] at hi
      rw [getD_at hi] at hst ⊢
      have ho := hP _ (List.getElem_mem hi)
      unfold f_lumref_Fits_2
      rw [at_of (x := toO P[i]) (by rw [List.getElem?_map, List.getElem?_eq_getElem hi]; rfl), opt_of, at_lt hk, opt_of, getD_at hk]
      have h1 := hs _ (List.getElem_mem hk)
      have h9 := hv _ (List.getElem_mem hk)
      generalize P[i] = e at hst ho ⊢
      cases e with
      | any => cases hst
      | els r =>
        obtain ⟨h2, h3⟩ := ho r rfl
        show (opt (f_lumref_partFits fu (r.map toM) N[k]) fun r11 => some r11) = _
        rw [name_r fu hfu r h2 h3 _ h1 h9, opt_of]; rfl)
  rw [this, opt_of, List.length_map]
  rfl
theorem pts_inv (fu : Nat) : ∀ (l : List (List UInt8)) (acc : List Pt) {P : List Pt}, pts fu l acc = some P → (∀ s ∈ l, s.length ≤ 1048576) → (∀ p ∈ acc, okP p) → (∀ p ∈ P, okP p) ∧ P.length = acc.length + l.length
  | [], acc, P, h, _, ha => by obtain rfl := Option.some.inj h; exact ⟨ha, by simp⟩
  | s :: t, acc, P, h, hs, ha => by
    rw [pts_cons] at h
    cases hp : pt fu s with
    | none => rw [hp] at h; cases h
    | some p =>
      rw [hp] at h
      have hok : okP p := by
        unfold pt at hp
        split at hp
        · obtain rfl := Option.some.inj hp
          exact fun r e => by cases e
        · split at hp
          · cases hp
          · cases he : els fu fu (rns s) [] with
            | none => rw [he] at hp; cases hp
            | some r =>
              rw [he] at hp
              obtain rfl := Option.some.inj hp
              have h1 := hs s (by simp)
              have h2 := rns_len s.length s (Nat.le_refl _)
              obtain ⟨k1, _, _, k4⟩ := els_inv fu fu (rns s) [] he (by simp) (by omega)
              simp only [List.length_nil] at k4
              exact fun r' e => by cases e; exact ⟨k1, by omega⟩
      obtain ⟨k1, k2⟩ := pts_inv fu t (acc ++ [p]) h (fun x hx => hs x (by simp [hx])) (fun x hx => by
        rcases List.mem_append.1 hx with hx | hx
        · exact ha x hx
        · rw [List.mem_singleton.1 hx]; exact hok)
      exact ⟨k1, by rw [k2]; simp; omega⟩
theorem chk_valid : ∀ (l : List (List UInt8)) (i : Nat), PNamesSays.chk i l = 0 → ∀ s ∈ l, validD s = true
  | [], _, _, s, hs => by cases hs
  | x :: t, i, h, s, hs => by
    rw [PNamesSays.chk_cons] at h
    split at h
    · cases h
    · split at h
      · rename_i h1; exact absurd h h1
      · rename_i h1
        rcases List.mem_cons.1 hs with rfl | hs
        · have h2 : nameV s = 0 := Decidable.not_not.1 h1
          cases hv : validD s with
          | true => rfl
          | false => unfold nameV at h2; rw [if_pos (.inr (.inr (.inr hv)))] at h2; cases h2
        · exact chk_valid t (i + 1) h s hs
theorem sp_valid (p : List UInt8) (h : (PNamesSays.sp p).2 = 0) : ∀ s ∈ (PNamesSays.sp p).1, validD s = true := by
  unfold PNamesSays.sp at h ⊢
  split at h
  · cases h
  · rename_i h1
    rw [if_neg h1]
    split at h
    · rename_i h2; rw [if_pos h2]; simp
    · rename_i h2
      rw [if_neg h2]
      split at h
      · rename_i h3; exact absurd h h3
      · rename_i h3
        rw [if_neg h3]
        exact chk_valid _ 0 (Decidable.not_not.1 h3)
end Go.Proofs.YtpakblkldklbmaaDoor.PGlobMat
namespace Go.Proofs.YtpakblkldklbmaaDoor.PGlobSkips
open Go.RowKit YtpakblkldklbmaaDoor.En YtpakblkldklbmaaDoor Go.Lib U8 PGlob PGlobMat
set_option linter.unusedVariables false
set_option linter.unusedSimpArgs false
abbrev L2 := List (List UInt8)
def neg (r : List UInt8) : Bool := r.take 1 == [33]
def strip (r : List UInt8) : List UInt8 := if r.take 1 = [33] then r.drop 1 else r
def okq (P : List Pt) : Prop := (∀ x ∈ P, okP x) ∧ P.length ≤ 1048577
theorem strip_len (r : List UInt8) : (strip r).length ≤ r.length := by
  unfold strip; split
  · rw [List.length_drop]; omega
  · exact Nat.le_refl _
theorem hasp (fu : Nat) (p : List UInt8) (hp : p.length ≤ 1048576) : f_stringslite_HasPrefix fu p [33] = some (neg p) := by
  unfold f_stringslite_HasPrefix neg
  rw [lt_of]
  cases p with
  | nil => rfl
  | cons b t =>
    rw [cond_tt (decide_eq_true (by rw [List.length_cons]; show ((t.length + 1 : Nat) : Int) ≥ (([33] : List UInt8).length : Int); simp; omega)), req_pos (by simp; omega)]
    rfl
theorem hasp' (fu : Nat) (p : List UInt8) (hp : p.length ≤ 1048576) : f_strings_HasPrefix fu p [33] = some (neg p) := by
  unfold f_strings_HasPrefix
  rw [hasp fu p hp, opt_of]
theorem trim_ok (fu : Nat) (p : List UInt8) (hp : p.length ≤ 1048576) : f_strings_TrimPrefix fu p [33] = some (strip p) := by
  unfold f_strings_TrimPrefix f_stringslite_TrimPrefix
  rw [hasp fu p hp, opt_of]
  unfold neg strip
  by_cases h1 : p.take 1 = [33]
  · have h2 : 0 < p.length := by
      cases p with
      | nil => cases h1
      | cons b t => simp
    rw [beq_iff_eq.2 h1, if_pos h1, cond_tt rfl, req_pos (by simp; omega), opt_of]; rfl
  · rw [beq_eq_false_iff_ne.2 h1, if_neg h1]; rfl
theorem rd (fu : Nat) (hfu : 3000000 ≤ fu) (p : List UInt8) (hp : p.length ≤ 1048576) : (∃ e : Int, e ≠ 0 ∧ (res toP (pv fu p)).2 = e ∧ (res toO (pv fu p)).2 = e) ∨ ∃ P : List Pt, pv fu p = (some P, 0) ∧ okq P ∧ p ≠ [] := by
  unfold pv
  split
  · exact .inl ⟨2, by decide, rfl, rfl⟩
  · split
    · exact .inl ⟨13, by decide, rfl, rfl⟩
    · rename_i h1
      have hd : (p.drop 1).length ≤ 1048576 := by rw [List.length_drop]; omega
      have hsp := PNamesSays.sm_split (p.drop 1) hd
      cases hP : pts fu (splitV (p.drop 1) [47]) [] with
      | none => exact .inl ⟨13, by decide, rfl, rfl⟩
      | some P =>
        obtain ⟨k1, k2⟩ := pts_inv fu _ [] hP hsp.2 (by simp)
        have := hsp.1
        refine .inr ⟨P, rfl, ⟨k1, by rw [k2]; simp only [List.length_nil]; omega⟩, fun e => h1 (.inl (by rw [e]; simp))⟩
theorem strip_ne {r : List UInt8} (h : strip r ≠ []) : r ≠ [] := fun e => h (by rw [e]; rfl)
theorem read (fu : Nat) (hfu : 3000000 ≤ fu) (a : L2) (ha : ∀ r ∈ a, r.length ≤ 1048576) (h20 : a.length ≤ 20) (kk : (List (List S_glob_part)) → Option (Bool × Int)) (kk' : (List (List (Option (List S_lumref_mark)))) → Option (Bool × Int)) :
    ∀ (d i k : Nat) (acc : List (List Pt)), a.length - i = d → i ≤ a.length → d < k → acc.length = i → (∀ P ∈ acc, okq P) →
    (∃ e, f_glob_Skips_L44 a kk fu k (acc.map (·.map toP) ++ List.replicate d []) (i : Int) = some (false, e) ∧ f_lumref_Skips_L12 a kk' fu k (acc.map (·.map toO)) (i : Int) = some (false, e)) ∨
    (∃ Ps : List (List Pt), Ps.length = a.length ∧ (∀ P ∈ Ps, okq P) ∧ (∀ r ∈ a.drop i, r ≠ []) ∧ f_glob_Skips_L44 a kk fu k (acc.map (·.map toP) ++ List.replicate d []) (i : Int) = kk (Ps.map (·.map toP)) ∧ f_lumref_Skips_L12 a kk' fu k (acc.map (·.map toO)) (i : Int) = kk' (Ps.map (·.map toO)))
  | _, _, 0, _, _, _, hf, _, _ => absurd hf (Nat.not_lt_zero _)
  | 0, i, k + 1, acc, hd, hi, _, hl, hacc => by
    refine .inr ⟨acc, by omega, hacc, by rw [List.drop_of_length_le (by omega)]; simp, ?_, ?_⟩
    · rw [f_glob_Skips_L44, cond_ff (dge (by omega))]; simp
    · rw [f_lumref_Skips_L12, cond_ff (dge (by omega))]
  | d + 1, i, k + 1, acc, hd, hi, hf, hl, hacc => by
    have hlt : i < a.length := by omega
    have hr := ha _ (List.getElem_mem hlt)
    have hsl := strip_len a[i]
    have hs : (strip a[i]).length ≤ 1048576 := by omega
    have e1 : f_glob_Skips_L44 a kk fu (k + 1) (acc.map (·.map toP) ++ List.replicate (d + 1) []) (i : Int) = (bif ((res toP (pv fu (strip a[i]))).2 != (0 : Int)) then some (false, (res toP (pv fu (strip a[i]))).2) else f_glob_Skips_L44 a kk fu k (acc.map (·.map toP) ++ (res toP (pv fu (strip a[i]))).1 :: List.replicate d []) ((i + 1 : Nat) : Int)) := by
      rw [f_glob_Skips_L44, cond_tt (dlt (by omega)), at_lt hlt, opt_of, trim_ok fu _ hr, opt_of, parse_ok fu (by omega) _ hs, opt_of]
      rw [at_of (x := ([] : List S_glob_part)) (by rw [List.getElem?_append_right (by rw [List.length_map]; omega), List.length_map, hl, Nat.sub_self]; rfl), opt_of, wsucc (by omega)]
      rw [show ((i : Int)).toNat = i from rfl, List.set_append_right _ _ (by rw [List.length_map]; omega), List.length_map, hl, Nat.sub_self]
      rfl
    have e2 : f_lumref_Skips_L12 a kk' fu (k + 1) (acc.map (·.map toO)) (i : Int) = (bif ((res toO (pv fu (strip a[i]))).2 != (0 : Int)) then some (false, (res toO (pv fu (strip a[i]))).2) else f_lumref_Skips_L12 a kk' fu k (acc.map (·.map toO) ++ [(res toO (pv fu (strip a[i]))).1]) ((i + 1 : Nat) : Int)) := by
      rw [f_lumref_Skips_L12, cond_tt (dlt (by omega)), at_lt hlt, opt_of]
      simp only [lt_of]
      have hq : ((List.map (fun x : List Pt => x.map toO) acc).length + ([(res toO (pv fu (strip a[i]))).1]).length) * 24 ≤ 140737488355328 ∧ (List.map (fun x : List Pt => x.map toO) acc).length + ([(res toO (pv fu (strip a[i]))).1]).length ≤ 9223372036854775807 := by
        rw [List.length_map]; simp only [List.length_cons, List.length_nil]; omega
      have tail : ∀ (s : List UInt8), s = strip a[i] → (opt (f_lumref_Pattern fu s) fun (r20 : ((List (Option (List S_lumref_mark))) × Int)) => (bif (r20.2 != (0 : Int)) then (some (false, r20.2)) else (req ((((acc.map (fun x : List Pt => x.map toO)).length + ([r20.1]).length) * 24 : Nat) ≤ 140737488355328 ∧ (acc.map (fun x : List Pt => x.map toO)).length + ([r20.1]).length ≤ 9223372036854775807) (f_lumref_Skips_L12 a kk' fu k ((acc.map (fun x : List Pt => x.map toO)) ++ ([r20.1])) (IntKind.i64.wrap ((i : Int) + (1 : Int))))))) = (bif ((res toO (pv fu (strip a[i]))).2 != (0 : Int)) then some (false, (res toO (pv fu (strip a[i]))).2) else f_lumref_Skips_L12 a kk' fu k (acc.map (·.map toO) ++ [(res toO (pv fu (strip a[i]))).1]) ((i + 1 : Nat) : Int)) := by
        intro s e
        subst e
        rw [pattern_ok fu (by omega) _ hs, opt_of, req_pos hq, wsucc (by omega)]
      have hz : ∀ r : List UInt8, r = a[i] → r.length ≤ 1048576 := fun r e => by rw [e]; exact hr
      cases hc : a[i] with
      | nil =>
        rw [hc] at tail
        exact tail [] rfl
      | cons b t =>
        rw [hc] at tail hr
        rw [cond_tt (show (!((b :: t : List UInt8) == [])) = true from rfl), req_pos (by rw [List.length_cons]; omega), show En.bAt (b :: t) (0 : Int) = ((b.toNat : Nat) : Int) from rfl]
        by_cases hb : b = 33
        · subst hb
          rw [show ((((33 : UInt8).toNat : Nat) : Int) == (33 : Int)) = true from rfl, cond_tt rfl, req_pos ⟨by omega, by rw [List.length_cons]; omega⟩]
          exact tail t rfl
        · have hne : b.toNat ≠ 33 := fun e => hb (UInt8.toNat_inj.1 (by rw [e]; rfl))
          rw [show (((b.toNat : Nat) : Int) == (33 : Int)) = false from by rw [beq_eq_false_iff_ne]; omega, cond_ff rfl]
          exact tail (b :: t) (by unfold strip; rw [if_neg (by simpa using hb)])
    rw [e1, e2]
    rcases rd fu hfu _ hs with ⟨e, he, h1, h2⟩ | ⟨P, hP, hok, hne⟩
    · left
      rw [h1, h2, cond_tt (by simpa using he), cond_tt (by simpa using he)]
      exact ⟨e, rfl, rfl⟩
    · rw [hP]
      have e0 : ((0 : Int) != 0) = false := rfl
      simp only [res, e0, cond_false]
      have ih := read fu hfu a ha h20 kk kk' d (i + 1) k (acc ++ [P]) (by omega) (by omega) (by omega) (by rw [List.length_append, hl]; rfl) (fun x hx => by
        rcases List.mem_append.1 hx with hx | hx
        · exact hacc x hx
        · rw [List.mem_singleton.1 hx]; exact hok)
      rw [List.map_append, List.map_append, List.append_assoc] at ih
      rcases ih with ih | ⟨Ps, q1, q2, q3, q4, q5⟩
      · exact .inl ih
      · refine .inr ⟨Ps, q1, q2, ?_, q4, q5⟩
        rw [List.drop_eq_getElem_cons hlt]
        intro r hr'
        rcases List.mem_cons.1 hr' with rfl | hr'
        · exact strip_ne hne
        · exact q3 r hr'
def lst (Ps : List (List Pt)) (a : L2) (Q : L2) : Nat → Bool
  | 0 => false
  | j + 1 => if pathM (Ps.getD j []) Q = true then !neg (a.getD j []) else lst Ps a Q j
def ex (Ps : List (List Pt)) (a : L2) (N : L2) : Nat → Bool
  | 0 => false
  | m + 1 => ex Ps a N m || lst Ps a (N.take (m + 1)) Ps.length
section
variable (fu : Nat) (hfu : 3000000 ≤ fu) (a : L2) (ha : ∀ r ∈ a, r.length ≤ 1048576) (h20 : a.length ≤ 20) (hne : ∀ r ∈ a, r ≠ []) (Ps : List (List Pt)) (hlen : Ps.length = a.length) (hPs : ∀ P ∈ Ps, okq P)
include hfu ha h20 hlen hPs
theorem inner (r7 : L2 × Int) (hN : r7.1.length ≤ 1048577) (hs : ∀ s ∈ r7.1, s.length ≤ 1048576) (m : Nat) (hm : m < r7.1.length) (kk : Bool → Option (Bool × Int)) : ∀ (d i k : Nat), Ps.length - i = d → i ≤ Ps.length → d < k →
    f_glob_Skips_L24 a (Ps.map (·.map toP)) r7 (m : Int) kk fu k (lst Ps a (r7.1.take (m + 1)) i) (i : Int) = kk (lst Ps a (r7.1.take (m + 1)) Ps.length)
  | _, _, 0, _, _, hf => absurd hf (Nat.not_lt_zero _)
  | 0, i, k + 1, hd, hi, _ => by
    obtain rfl : i = Ps.length := by omega
    rw [f_glob_Skips_L24, cond_ff (dge (by rw [List.length_map]; omega))]
  | d + 1, i, k + 1, hd, hi, hf => by
    have hlt : i < Ps.length := by omega
    have hlt2 : i < a.length := by omega
    have ho := hPs _ (List.getElem_mem hlt)
    rw [f_glob_Skips_L24, cond_tt (dlt (by rw [List.length_map]; omega)), lt_of, at_of (x := (Ps[i]).map toP) (by rw [List.getElem?_map, List.getElem?_eq_getElem hlt]; rfl), opt_of, wsucc (k := m) (by omega), req_pos ⟨by omega, by omega⟩, show (((m + 1 : Nat) : Int)).toNat = m + 1 from rfl]
    rw [path_c fu hfu _ ho.1 ho.2 _ (by rw [List.length_take]; omega) (fun s h => hs s (List.mem_of_mem_take h)), opt_of, wsucc (k := i) (by omega)]
    have ih := inner r7 hN hs m hm kk d (i + 1) k (by omega) (by omega) (by omega)
    have e : lst Ps a (r7.1.take (m + 1)) (i + 1) = if pathM Ps[i] (r7.1.take (m + 1)) = true then !neg a[i] else lst Ps a (r7.1.take (m + 1)) i := by
      rw [lst, getD_at hlt, getD_at hlt2]
    rw [e] at ih
    cases hp : pathM Ps[i] (r7.1.take (m + 1)) with
    | true =>
      rw [hp, if_pos rfl] at ih
      rw [cond_tt rfl, at_lt hlt2, opt_of, hasp' fu _ (ha _ (List.getElem_mem hlt2)), opt_of]
      exact ih
    | false =>
      rw [hp, if_neg (by decide)] at ih
      rw [cond_ff rfl]
      exact ih
omit hfu ha h20 hlen hPs in
theorem ex_mono (N : L2) : ∀ (d m : Nat), ex Ps a N m = true → ex Ps a N (m + d) = true
  | 0, m, h => h
  | d + 1, m, h => by
    rw [← Nat.add_assoc, ex, ex_mono N d m h]; rfl
theorem outer (r7 : L2 × Int) (hN : r7.1.length ≤ 1048577) (hs : ∀ s ∈ r7.1, s.length ≤ 1048576) (kk : Unit → Option (Bool × Int)) : ∀ (d m k : Nat), r7.1.length - m = d → m ≤ r7.1.length → d < k → ex Ps a r7.1 m = false →
    f_glob_Skips_L14 a (Ps.map (·.map toP)) r7 kk fu k (m : Int) = if ex Ps a r7.1 r7.1.length = true then some (true, 0) else kk ()
  | _, _, 0, _, _, hf, _ => absurd hf (Nat.not_lt_zero _)
  | 0, m, k + 1, hd, hm, _, he => by
    obtain rfl : m = r7.1.length := by omega
    rw [f_glob_Skips_L14, lt_of, cond_ff (dge (by omega)), he, if_neg (by decide)]
  | d + 1, m, k + 1, hd, hm, hf, he => by
    have hlt : m < r7.1.length := by omega
    rw [f_glob_Skips_L14, lt_of, cond_tt (dlt (by omega)), lt_of, lt_of]
    have hi := inner fu hfu a ha h20 Ps hlen hPs r7 hN hs m hlt (fun (j19b14 : Bool) => (bif j19b14 then (some (true, (0 : Int))) else (f_glob_Skips_L14 a (Ps.map (·.map toP)) r7 kk fu k (IntKind.i64.wrap ((m : Int) + (1 : Int)))))) Ps.length 0 fu (by omega) (by omega) (by omega)
    refine hi.trans ?_
    have e : ex Ps a r7.1 (m + 1) = lst Ps a (r7.1.take (m + 1)) Ps.length := by rw [ex, he]; rfl
    cases hl : lst Ps a (r7.1.take (m + 1)) Ps.length with
    | true =>
      have h2 := ex_mono a Ps r7.1 d (m + 1) (by rw [e, hl])
      rw [show m + 1 + d = r7.1.length by omega] at h2
      rw [h2, if_pos rfl]; rfl
    | false =>
      rw [cond_ff rfl, wsucc (by omega)]
      exact outer r7 hN hs kk d (m + 1) k (by omega) (by omega) (by omega) (by rw [e, hl])
include hne
omit ha in
theorem back (Q : L2) (hQ : Q.length ≤ 1048577) (hs : ∀ s ∈ Q, s.length ≤ 1048576) (hv : ∀ s ∈ Q, validD s = true) : ∀ (j k : Nat), j ≤ Ps.length → j < k →
    f_lumref_skipped_L11 a (Ps.map (·.map toO)) Q (fun _ => some false) fu k ((j : Int) - 1) = some (lst Ps a Q j)
  | _, 0, _, hf => absurd hf (Nat.not_lt_zero _)
  | 0, k + 1, _, _ => by
    rw [f_lumref_skipped_L11, cond_ff (decide_eq_false (by omega))]; rfl
  | j + 1, k + 1, hj, hf => by
    have hlt : j < Ps.length := by omega
    have hlt2 : j < a.length := by omega
    have ho := hPs _ (List.getElem_mem hlt)
    rw [show (((j + 1 : Nat) : Int)) - 1 = (j : Int) by omega, f_lumref_skipped_L11, cond_tt (decide_eq_true (by omega)), at_of (x := (Ps[j]).map toO) (by rw [List.getElem?_map, List.getElem?_eq_getElem hlt]; rfl), opt_of]
    rw [path_r fu hfu _ ho.1 ho.2 _ hQ hs hv, opt_of, lst, getD_at hlt, getD_at hlt2]
    cases hp : pathM Ps[j] Q with
    | true =>
      rw [cond_tt rfl, at_lt hlt2, opt_of, if_pos rfl]
      have h1 := hne _ (List.getElem_mem hlt2)
      generalize a[j] = r at h1
      cases r with
      | nil => exact absurd rfl h1
      | cons b t =>
        rw [req_pos (by rw [List.length_cons]; omega), show En.bAt (b :: t) (0 : Int) = ((b.toNat : Nat) : Int) from rfl]
        by_cases hb : b = 33
        · subst hb; rfl
        · have hne : b.toNat ≠ 33 := fun e => hb (UInt8.toNat_inj.1 (by rw [e]; rfl))
          rw [show (((b.toNat : Nat) : Int) != (33 : Int)) = true from by rw [bne_iff_ne]; omega]
          unfold neg
          rw [show ((b :: t : List UInt8).take 1 == [33]) = false from by rw [beq_eq_false_iff_ne]; simpa using hb]
          rfl
    | false =>
      rw [cond_ff rfl, if_neg (by decide), w64 (by omega) (by omega)]
      exact back Q hQ hs hv j k (by omega) (by omega)
end
section
variable (a : L2) (ha : ∀ r ∈ a, r.length ≤ 1048576) (h20 : a.length ≤ 20) (hne : ∀ r ∈ a, r ≠ []) (Ps : List (List Pt)) (hlen : Ps.length = a.length) (hPs : ∀ P ∈ Ps, okq P)
include ha h20 hlen hPs hne
omit ha in
theorem rskip (N : L2) (hN : N.length ≤ 1048577) (hs : ∀ s ∈ N, s.length ≤ 1048576) (hv : ∀ s ∈ N, validD s = true) : ∀ (m fu : Nat), m ≤ N.length → 3000000 + m < fu → f_lumref_skipped fu a (Ps.map (·.map toO)) (N.take m) = some (ex Ps a N m)
  | _, 0, _, hf => absurd hf (Nat.not_lt_zero _)
  | 0, fu + 1, _, _ => by
    rw [f_lumref_skipped, List.take_zero]; rfl
  | m + 1, fu + 1, hm, hf => by
    have hl : (N.take (m + 1)).length = m + 1 := by rw [List.length_take]; omega
    rw [f_lumref_skipped, hl, cond_ff (show (((m + 1 : Nat) : Int) == 0) = false from by rw [beq_eq_false_iff_ne]; omega)]
    rw [show (((m + 1 : Nat) : Int)) - 1 = (m : Int) by omega, w64 (x := (m : Int)) (by omega) (by omega), req_pos ⟨by omega, by omega⟩, show ((m : Int)).toNat = m from rfl, List.take_take, Nat.min_eq_left (Nat.le_succ m), rskip N hN hs hv m fu (by omega) (by omega), opt_of, ex]
    cases he : ex Ps a N m with
    | true => rfl
    | false =>
      rw [cond_ff rfl, lt_of, List.length_map, Bool.false_or]
      rw [w64 (by omega) (by omega)]
      exact back fu (by omega) a h20 hne Ps hlen hPs (N.take (m + 1)) (by omega) (fun s h => hs s (List.mem_of_mem_take h)) (fun s h => hv s (List.mem_of_mem_take h)) Ps.length fu (Nat.le_refl _) (by omega)
end
theorem both (fu : Nat) (hfu : 5000000 ≤ fu) (a : L2) (ha : ∀ r ∈ a, r.length ≤ 1048576) (p : List UInt8) (hp : p.length ≤ 1048576) : ∃ r, f_glob_Skips fu a p = some r ∧ f_lumref_Skips fu a p = some r := by
  unfold f_glob_Skips f_lumref_Skips
  by_cases h20 : 20 < a.length
  · rw [cond_tt (decide_eq_true (by omega)), cond_tt (decide_eq_true (by omega))]
    exact ⟨_, rfl, rfl⟩
  · rw [cond_ff (decide_eq_false (by omega)), cond_ff (decide_eq_false (by omega)), req_pos ⟨by omega, by omega, by omega⟩]
    rw [PNamesSays.split1 p hp fu (by omega), PNamesSays.split2 p hp fu (by omega)]
    simp only [opt_of, lt_of]
    have hrd := fun kk kk' => read fu (by omega) a ha (by omega) kk kk' a.length 0 fu [] (by omega) (Nat.zero_le _) (by omega) rfl (by simp)
    simp only [List.map_nil, List.nil_append] at hrd
    rw [show ((a.length : Int)).toNat = a.length from rfl]
    have hsm := PNamesSays.sp_sm p hp
    have hsv := sp_valid p
    have h0 : ((0 : Nat) : Int) = 0 := rfl
    rw [h0] at hrd
    rcases hrd (fun (j4x6 : (List (List S_glob_part))) => (bif ((PNamesSays.sp p).2 != (0 : Int)) then (some (false, (PNamesSays.sp p).2)) else (f_glob_Skips_L14 a j4x6 (PNamesSays.sp p) (fun _ => some (false, (0 : Int))) fu fu (0 : Int)))) (fun (j2x6 : (List (List (Option (List S_lumref_mark))))) => (bif ((PNamesSays.sp p).2 != (0 : Int)) then (some (false, (PNamesSays.sp p).2)) else (opt (f_lumref_skipped fu a j2x6 (PNamesSays.sp p).1) fun (r9 : Bool) => (some (r9, (0 : Int)))))) with ⟨e, h1, h2⟩ | ⟨Ps, q1, q2, q3, q4, q5⟩
    · exact ⟨_, h1, h2⟩
    · rw [List.drop_zero] at q3
      by_cases he : (PNamesSays.sp p).2 = 0
      · have e1 : ((PNamesSays.sp p).2 != 0) = false := by simpa using he
        simp only [e1, cond_false] at q4 q5
        have o1 := outer fu (by omega) a ha (by omega) Ps q1 q2 (PNamesSays.sp p) hsm.1 hsm.2 (fun _ => some (false, (0 : Int))) (PNamesSays.sp p).1.length 0 fu (by omega) (Nat.zero_le _) (by have := hsm.1; omega) rfl
        have o2 := rskip a (by omega) q3 Ps q1 q2 (PNamesSays.sp p).1 hsm.1 hsm.2 (hsv he) (PNamesSays.sp p).1.length fu (Nat.le_refl _) (by have := hsm.1; omega)
        rw [List.take_length] at o2
        rw [h0] at o1
        rw [o1] at q4
        rw [o2, opt_of] at q5
        refine ⟨(ex Ps a (PNamesSays.sp p).1 (PNamesSays.sp p).1.length, 0), ?_, ?_⟩
        · simp only [e1, cond_false]
          refine q4.trans ?_
          cases ex Ps a (PNamesSays.sp p).1 (PNamesSays.sp p).1.length <;> rfl
        · simp only [e1, cond_false]
          exact q5
      · have e1 : ((PNamesSays.sp p).2 != 0) = true := by simpa using he
        simp only [e1, cond_true] at q4 q5 ⊢
        exact ⟨_, q4, q5⟩
def fuel (_ : L2) (_ : List UInt8) : Nat := 5000000
theorem says (a : L2) (p : List UInt8) (ha : ∀ r ∈ a, r.length ≤ 1048576) (hp : p.length ≤ 1048576) : f_lumlaw_GlobSkips (fuel a p) a p = some true := by
  obtain ⟨r, h1, h2⟩ := both (fuel a p) (Nat.le_refl _) a ha p hp
  unfold f_lumlaw_GlobSkips
  rw [h1, h2, opt_of, opt_of, lt_of, cond_tt (by simp)]
  simp
end Go.Proofs.YtpakblkldklbmaaDoor.PGlobSkips
