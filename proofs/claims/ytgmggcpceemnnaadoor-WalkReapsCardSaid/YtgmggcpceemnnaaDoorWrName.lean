/- Names and leases: the code and the reference agree: TreeReads. No condition. -/
import Derived.Test.YtgmggcpceemnnaaDoorWWalkReaps
import Derived.Test.YtgmggcpceemnnaaDoorPlBits
import Derived.Test.YtgmggcpceemnnaaDoorUtf8Math
namespace Go.Proofs.YtgmggcpceemnnaaDoor.PTreeName
open Go.RowKit YtgmggcpceemnnaaDoor.En YtgmggcpceemnnaaDoor U8 Go.Lib
set_option linter.unusedVariables false
set_option linter.unusedSimpArgs false
theorem iw {n : Nat} (h : n ≤ 9223372036854775807) : IntKind.i64.wrap (n : Int) = (n : Int) := w64 (by omega) (by omega)
theorem bAt_by (s : List UInt8) (i : Nat) : En.bAt s (i : Int) = ((by_ s i : Nat) : Int) := rfl
/-! one character by the reference -/
theorem ch_step (a : List UInt8) (n : Int) (kk : Int → Option (Int × Int)) (fuel i c : Nat) (b : UInt8) (hi : (cut a 1 n)[i]? = some b) (hc : c < 1000000000) (hi2 : i < 10) :
    f_lumref_char_L20 a n kk (fuel + 1) (c : Int) (i : Int) = if C b.toNat then f_lumref_char_L20 a n kk fuel ((64 * c + b.toNat - 128 : Nat) : Int) ((i + 1 : Nat) : Int) else some (0, 0) := by
  have hlt := (List.getElem?_eq_some_iff.1 hi).1
  have hb := b.toNat_lt
  rw [f_lumref_char_L20, cond_tt (dlt (by omega)), at_of hi, opt_of, lt_of, wsucc (by omega)]
  by_cases h1 : b.toNat < 128
  · rw [cond_tt (dlt (by omega)), if_neg (by unfold C; omega)]; rfl
  · rw [cond_ff (dge (by omega))]
    by_cases h2 : b.toNat > 191
    · rw [decide_eq_true (by omega), if_neg (by unfold C; omega)]; rfl
    · rw [decide_eq_false (by omega), if_pos (by unfold C; omega)]
      dsimp only
      rw [cond_ff rfl]
      have e : IntKind.i64.wrap ((IntKind.i64.wrap ((IntKind.i64.wrap ((64 : Int) * (c : Int))) + (IntKind.i64.wrap (b.toNat : Int)))) - (128 : Int)) = ((64 * c + b.toNat - 128 : Nat) : Int) := by
        rw [w64 (x := 64 * (c : Int)) (by omega) (by omega), iw (n := b.toNat) (by omega), w64 (x := 64 * (c : Int) + (b.toNat : Int)) (by omega) (by omega), w64 (by omega) (by omega)]; omega
      rw [e]
theorem ch_end (a : List UInt8) (n : Int) (kk : Int → Option (Int × Int)) (fuel i c : Nat) (hi : (cut a 1 n).length = i) : f_lumref_char_L20 a n kk (fuel + 1) (c : Int) (i : Int) = kk (c : Int) := by
  rw [f_lumref_char_L20, cond_ff (dge (by omega))]
theorem cut_at (a : List UInt8) (n j : Nat) (h : j + 1 < n) (hn : n ≤ a.length) : (cut a 1 (n : Int))[j]? = some (a.getD (j + 1) 0) := by
  unfold cut
  rw [show ((1 : Int)).toNat = 1 from rfl, Int.toNat_natCast, List.getElem?_drop, List.getElem?_take, if_pos (by omega), Nat.add_comm, List.getD_eq_getElem?_getD, List.getElem?_eq_getElem (by omega)]; rfl
theorem cut_len (a : List UInt8) (n : Nat) (h : 1 ≤ n) (hn : n ≤ a.length) : (cut a 1 (n : Int)).length = n - 1 := by
  unfold cut
  rw [show ((1 : Int)).toNat = 1 from rfl, Int.toNat_natCast, List.length_drop, List.length_take]; omega
def fin_k (low n : Nat) (c : Int) : Option (Int × Int) := (lt (fun (j9b84 : Bool) => (bif j9b84 then (some ((0 : Int), (0 : Int))) else (some (c, (n : Int))))) fun (kk10 : Bool → Option (Int × Int)) => (bif (decide (c < (low : Int))) then (kk10 true) else (bif (decide (c > (1114111 : Int))) then (kk10 true) else (bif (decide (c ≥ (55296 : Int))) then (kk10 (decide (c < (57344 : Int)))) else (kk10 false)))))
theorem fin_k_ok (low n c : Nat) : fin_k low n (c : Int) = some (((fin low n c).1 : Int), ((fin low n c).2 : Int)) := by
  unfold fin_k fin
  rw [lt_of]
  by_cases h1 : c < low
  · rw [cond_tt (dlt (by omega)), if_pos (.inl h1)]; rfl
  · rw [cond_ff (dge (by omega))]
    by_cases h2 : c > 1114111
    · rw [cond_tt (decide_eq_true (by omega)), if_pos (.inr (.inl h2))]; rfl
    · rw [cond_ff (decide_eq_false (by omega))]
      by_cases h3 : c ≥ 55296
      · rw [cond_tt (decide_eq_true (by omega))]
        by_cases h4 : c < 57344
        · rw [decide_eq_true (by omega), if_pos (by omega)]; rfl
        · rw [decide_eq_false (by omega), if_neg (by omega)]; rfl
      · rw [cond_ff (decide_eq_false (by omega)), if_neg (by omega)]; rfl
def kk5 (a : List UInt8) (fu : Nat) (c : Int) (n : Int) (low : Int) : Option (Int × Int) := (bif (decide ((a.length : Int) < n)) then (some ((0 : Int), (0 : Int))) else (lt (fun (j7i4 : Int) => (lt (fun (j9b84 : Bool) => (bif j9b84 then (some ((0 : Int), (0 : Int))) else (some (j7i4, n)))) fun (kk10 : Bool → Option (Int × Int)) => (bif (decide (j7i4 < low)) then (kk10 true) else (bif (decide (j7i4 > (1114111 : Int))) then (kk10 true) else (bif (decide (j7i4 ≥ (55296 : Int))) then (kk10 (decide (j7i4 < (57344 : Int)))) else (kk10 false)))))) fun (kk8 : Int → Option (Int × Int)) => (req (0 ≤ (1 : Int) ∧ (1 : Int) ≤ n ∧ n ≤ (a.length : Int)) (req ((cut a (1 : Int) n).length ≤ 9223372036854775807) (f_lumref_char_L20 a n kk8 fu c (0 : Int))))))
def out (r : Nat × Nat) : Int × Int := ((r.1 : Int), (r.2 : Int))
theorem out_if {p : Prop} [Decidable p] (x y : Nat × Nat) : some (out (if p then x else y)) = if p then some (out x) else some (out y) := by split <;> rfl
theorem kk5_2 (a : List UInt8) (hl : a.length ≤ 2000000) (fu c low : Nat) (hf : 10 ≤ fu) (hc : c < 1000) : kk5 a fu (c : Int) 2 (low : Int) = some (out (if a.length < 2 then (0, 0) else if C (by_ a 1) then fin low 2 (64 * c + by_ a 1 - 128) else (0, 0))) := by
  unfold kk5
  by_cases h : a.length < 2
  · rw [cond_tt (dlt (by omega)), if_pos h]; rfl
  · rw [cond_ff (dge (by omega)), if_neg h, lt_of, req_pos (by omega), req_pos (by rw [show (2 : Int) = ((2 : Nat) : Int) from rfl, cut_len a 2 (by omega) (by omega)]; omega)]
    obtain ⟨f, rfl⟩ : ∃ f, fu = f + 2 := ⟨fu - 2, by omega⟩
    refine (ch_step a 2 _ (f + 1) 0 c _ (cut_at a 2 0 (by omega) (by omega)) (by omega) (by omega)).trans ?_
    rw [out_if]
    show (if C (by_ a 1) then _ else _) = _
    by_cases h1 : C (by_ a 1)
    · rw [if_pos h1, if_pos h1]
      refine (ch_end a 2 _ f 1 _ (cut_len a 2 (by omega) (by omega))).trans ?_
      exact fin_k_ok low 2 _
    · rw [if_neg h1, if_neg h1]; rfl
theorem kk5_3 (a : List UInt8) (hl : a.length ≤ 2000000) (fu c low : Nat) (hf : 10 ≤ fu) (hc : c < 1000) : kk5 a fu (c : Int) 3 (low : Int) = some (out (if a.length < 3 then (0, 0) else if C (by_ a 1) then (if C (by_ a 2) then fin low 3 (64 * (64 * c + by_ a 1 - 128) + by_ a 2 - 128) else (0, 0)) else (0, 0))) := by
  have l1 := by_lt a 1
  have l2 := by_lt a 2
  unfold kk5
  by_cases h : a.length < 3
  · rw [cond_tt (dlt (by omega)), if_pos h]; rfl
  · rw [cond_ff (dge (by omega)), if_neg h, lt_of, req_pos (by omega), req_pos (by rw [show (3 : Int) = ((3 : Nat) : Int) from rfl, cut_len a 3 (by omega) (by omega)]; omega)]
    obtain ⟨f, rfl⟩ : ∃ f, fu = f + 3 := ⟨fu - 3, by omega⟩
    refine (ch_step a 3 _ (f + 2) 0 c _ (cut_at a 3 0 (by omega) (by omega)) (by omega) (by omega)).trans ?_
    rw [out_if]
    show (if C (by_ a 1) then _ else _) = _
    by_cases h1 : C (by_ a 1)
    · rw [if_pos h1, if_pos h1, out_if]
      refine (ch_step a 3 _ (f + 1) 1 (64 * c + by_ a 1 - 128) _ (cut_at a 3 1 (by omega) (by omega)) (by omega) (by omega)).trans ?_
      show (if C (by_ a 2) then _ else _) = _
      by_cases h2 : C (by_ a 2)
      · rw [if_pos h2, if_pos h2]
        refine (ch_end a 3 _ f 2 _ (cut_len a 3 (by omega) (by omega))).trans ?_
        exact fin_k_ok low 3 _
      · rw [if_neg h2, if_neg h2]; rfl
    · rw [if_neg h1, if_neg h1]; rfl
theorem kk5_4 (a : List UInt8) (hl : a.length ≤ 2000000) (fu c low : Nat) (hf : 10 ≤ fu) (hc : c < 1000) : kk5 a fu (c : Int) 4 (low : Int) = some (out (if a.length < 4 then (0, 0) else if C (by_ a 1) then (if C (by_ a 2) then (if C (by_ a 3) then fin low 4 (64 * (64 * (64 * c + by_ a 1 - 128) + by_ a 2 - 128) + by_ a 3 - 128) else (0, 0)) else (0, 0)) else (0, 0))) := by
  have l1 := by_lt a 1
  have l2 := by_lt a 2
  have l3 := by_lt a 3
  unfold kk5
  by_cases h : a.length < 4
  · rw [cond_tt (dlt (by omega)), if_pos h]; rfl
  · rw [cond_ff (dge (by omega)), if_neg h, lt_of, req_pos (by omega), req_pos (by rw [show (4 : Int) = ((4 : Nat) : Int) from rfl, cut_len a 4 (by omega) (by omega)]; omega)]
    obtain ⟨f, rfl⟩ : ∃ f, fu = f + 4 := ⟨fu - 4, by omega⟩
    refine (ch_step a 4 _ (f + 3) 0 c _ (cut_at a 4 0 (by omega) (by omega)) (by omega) (by omega)).trans ?_
    rw [out_if]
    show (if C (by_ a 1) then _ else _) = _
    by_cases h1 : C (by_ a 1)
    · rw [if_pos h1, if_pos h1, out_if]
      refine (ch_step a 4 _ (f + 2) 1 (64 * c + by_ a 1 - 128) _ (cut_at a 4 1 (by omega) (by omega)) (by omega) (by omega)).trans ?_
      show (if C (by_ a 2) then _ else _) = _
      by_cases h2 : C (by_ a 2)
      · rw [if_pos h2, if_pos h2, out_if]
        refine (ch_step a 4 _ (f + 1) 2 (64 * (64 * c + by_ a 1 - 128) + by_ a 2 - 128) _ (cut_at a 4 2 (by omega) (by omega)) (by omega) (by omega)).trans ?_
        show (if C (by_ a 3) then _ else _) = _
        by_cases h3 : C (by_ a 3)
        · rw [if_pos h3, if_pos h3]
          refine (ch_end a 4 _ f 3 _ (cut_len a 4 (by omega) (by omega))).trans ?_
          exact fin_k_ok low 4 _
        · rw [if_neg h3, if_neg h3]; rfl
      · rw [if_neg h2, if_neg h2]; rfl
    · rw [if_neg h1, if_neg h1]; rfl
theorem char_ok (a : List UInt8) (ha : a ≠ []) (hl : a.length ≤ 2000000) (fu : Nat) (hf : 10 ≤ fu) : f_lumref_char fu a = some (out (refC a)) := by
  have hpos := List.length_pos_iff.2 ha
  have l0 := by_lt a 0
  have e0 : IntKind.i64.wrap (En.bAt a 0) = ((by_ a 0 : Nat) : Int) := by
    rw [show En.bAt a 0 = ((by_ a 0 : Nat) : Int) from rfl, iw (by omega)]
  unfold f_lumref_char refC refN
  rw [cond_ff (by simpa using ha), req_pos (by omega), e0]
  by_cases h1 : by_ a 0 < 128
  · rw [cond_tt (dlt (by omega)), if_pos h1]; rfl
  · rw [cond_ff (dge (by omega)), if_neg h1, lt_of, lt_of]
    have e1 : by_ a 0 < 224 → 194 ≤ by_ a 0 → IntKind.i64.wrap (((by_ a 0 : Nat) : Int) - 192) = ((by_ a 0 - 192 : Nat) : Int) := fun _ _ => by rw [w64 (by omega) (by omega)]; omega
    have e2 : 224 ≤ by_ a 0 → IntKind.i64.wrap (((by_ a 0 : Nat) : Int) - 224) = ((by_ a 0 - 224 : Nat) : Int) := fun _ => by rw [w64 (by omega) (by omega)]; omega
    have e3 : 240 ≤ by_ a 0 → IntKind.i64.wrap (((by_ a 0 : Nat) : Int) - 240) = ((by_ a 0 - 240 : Nat) : Int) := fun _ => by rw [w64 (by omega) (by omega)]; omega
    have ff : ∀ m : Nat, ¬ by_ a 0 < m → decide (((by_ a 0 : Nat) : Int) < (m : Int)) = false := fun m h => decide_eq_false (by omega)
    have ft : ∀ m : Nat, by_ a 0 < m → decide (((by_ a 0 : Nat) : Int) < (m : Int)) = true := fun m h => decide_eq_true (by omega)
    by_cases h2 : 194 ≤ by_ a 0 ∧ by_ a 0 < 224
    · rw [cond_tt (decide_eq_true (show ((by_ a 0 : Nat) : Int) ≥ 194 by omega)), show decide (((by_ a 0 : Nat) : Int) < 224) = true from ft 224 h2.2, if_pos h2]
      dsimp only
      rw [cond_tt rfl, e1 h2.2 h2.1]
      exact kk5_2 a hl fu _ 128 hf (by omega)
    · rw [if_neg h2]
      by_cases h3 : 224 ≤ by_ a 0
      · rw [cond_tt (decide_eq_true (show ((by_ a 0 : Nat) : Int) ≥ 194 by omega)), show decide (((by_ a 0 : Nat) : Int) < 224) = false from ff 224 (by omega)]
        dsimp only
        rw [cond_ff rfl, lt_of]
        by_cases h4 : by_ a 0 < 240
        · rw [cond_tt (decide_eq_true (show ((by_ a 0 : Nat) : Int) ≥ 224 by omega)), show decide (((by_ a 0 : Nat) : Int) < 240) = true from ft 240 h4, if_pos ⟨h3, h4⟩]
          dsimp only
          rw [cond_tt rfl, e2 h3]
          exact kk5_3 a hl fu _ 2048 hf (by omega)
        · rw [cond_tt (decide_eq_true (show ((by_ a 0 : Nat) : Int) ≥ 224 by omega)), show decide (((by_ a 0 : Nat) : Int) < 240) = false from ff 240 h4, if_neg (c := 224 ≤ by_ a 0 ∧ by_ a 0 < 240) (by omega)]
          dsimp only
          rw [cond_ff rfl, lt_of, cond_tt (decide_eq_true (show ((by_ a 0 : Nat) : Int) ≥ 240 by omega))]
          by_cases h5 : by_ a 0 < 245
          · rw [show decide (((by_ a 0 : Nat) : Int) < 245) = true from ft 245 h5, if_pos ⟨by omega, h5⟩]
            dsimp only
            rw [cond_tt rfl, e3 (by omega)]
            exact kk5_4 a hl fu _ 65536 hf (by omega)
          · rw [show decide (((by_ a 0 : Nat) : Int) < 245) = false from ff 245 h5, if_neg (by omega)]
            dsimp only
            rw [cond_ff rfl]; rfl
      · rw [cond_ff (decide_eq_false (show ¬ ((by_ a 0 : Nat) : Int) ≥ 194 by omega)), if_neg (c := 224 ≤ by_ a 0 ∧ by_ a 0 < 240) (by omega), if_neg (c := 240 ≤ by_ a 0 ∧ by_ a 0 < 245) (by omega)]
        dsimp only
        rw [cond_ff rfl, lt_of, cond_ff (decide_eq_false (show ¬ ((by_ a 0 : Nat) : Int) ≥ 224 by omega))]
        dsimp only
        rw [cond_ff rfl, lt_of, cond_ff (decide_eq_false (show ¬ ((by_ a 0 : Nat) : Int) ≥ 240 by omega))]
        dsimp only
        rw [cond_ff rfl]; rfl
/-! all characters -/
theorem chars_loop (fu : Nat) (hf : 10 ≤ fu) : ∀ (fuel : Nat) (s : List UInt8) (o : List Int), s.length < fuel → s.length ≤ 2000000 → o.length + s.length ≤ 2000000 →
    f_lumref_Chars_L5 (fun j => some (j, true)) fu fuel s o = some (if validD s then (o ++ rns s, true) else ([], false))
  | 0, s, _, h, _, _ => absurd h (Nat.not_lt_zero _)
  | fuel + 1, s, o, h, hl, ho => by
    rw [f_lumref_Chars_L5]
    by_cases h0 : s = []
    · subst h0
      rw [cond_ff (by rfl), V_nil, rns_nil, List.append_nil]; rfl
    · have hd := drop_lt h0
      have hle := decodeL_le s h0
      rw [cond_tt (by simpa using h0), char_ok s h0 hl fu hf, opt_of]
      rcases refC_fits s with ⟨h1, h2⟩ | ⟨h1, h2, h3⟩
      · have hv : validD s = false := by rw [V_step h0, h1]; exact if_pos ⟨rfl, rfl⟩
        rw [h2, hv]; rfl
      · rw [V_step h0, rns_step h0]
        rw [h1] at hd hle ⊢
        rw [if_neg h3]
        show (bif (((refC s).2 : Int) == 0) then _ else _) = _
        rw [cond_ff (by rw [beq_eq_false_iff_ne]; omega)]
        show req (((o.length + 1) * 8 : Nat) ≤ 140737488355328 ∧ o.length + 1 ≤ 9223372036854775807) (req (0 ≤ ((refC s).2 : Int) ∧ ((refC s).2 : Int) ≤ (s.length : Int)) (f_lumref_Chars_L5 _ fu fuel (s.drop ((refC s).2 : Int).toNat) (o ++ [((refC s).1 : Int)]))) = _
        have hsl := List.length_pos_iff.2 h0
        rw [req_pos (by omega), req_pos (by omega), Int.toNat_natCast, chars_loop fu hf fuel _ _ (by omega) (by omega) (by simp; omega), List.append_assoc]; rfl
theorem chars_ok (s : List UInt8) (hl : s.length ≤ 1048576) (fu : Nat) (hf : 1048600 ≤ fu) : f_lumref_Chars fu s = some (if validD s then (rns s, true) else ([], false)) := by
  unfold f_lumref_Chars
  rw [lt_of]
  exact chars_loop fu (by omega) fu s [] (by omega) (by omega) (by simp; omega)
theorem name_loop (r : List Int × Bool) (hl : r.1.length ≤ 2000000) (kk : Unit → Option Int) : ∀ (fuel k : Nat), k ≤ r.1.length → r.1.length - k < fuel → f_lumref_Name_L12 r kk fuel (k : Int) = if (r.1.drop k).any bad then some 8 else kk ()
  | 0, k, _, h => absurd h (Nat.not_lt_zero _)
  | fuel + 1, k, hk, hf => by
    rw [f_lumref_Name_L12]
    by_cases hlt : k < r.1.length
    · have key : ∀ b : Bool, b = bad r.1[k] → (bif b then (some (8 : Int)) else f_lumref_Name_L12 r kk fuel (IntKind.i64.wrap ((k : Int) + 1))) = if (r.1.drop k).any bad then some 8 else kk () := fun b hb => by
        rw [List.drop_eq_getElem_cons hlt, List.any_cons, ← hb]
        cases b with
        | true => rfl
        | false => rw [cond_ff rfl, wsucc (by omega), name_loop r hl kk fuel (k + 1) hlt (by omega), Bool.false_or]
      rw [cond_tt (dlt (by omega)), at_lt hlt, opt_of, lt_of]
      unfold bad at key
      generalize r.1[k] = c at key
      by_cases h1 : c = 47
      · rw [cond_tt (by rw [h1]; rfl)]; exact key true (by rw [decide_eq_true h1]; rfl)
      · rw [cond_ff (by rw [beq_eq_false_iff_ne]; exact h1)]
        by_cases h2 : c < 32
        · rw [cond_tt (decide_eq_true h2)]; exact key true (by rw [decide_eq_false h1, decide_eq_true h2]; rfl)
        · rw [cond_ff (decide_eq_false h2)]
          refine key _ ?_
          rw [decide_eq_false h1, decide_eq_false h2]
          by_cases h3 : c = 127
          · rw [h3]; rfl
          · rw [decide_eq_false h3, beq_eq_false_iff_ne.2 h3]; rfl
    · rw [cond_ff (dge (by omega)), List.drop_of_length_le (by omega)]; rfl
theorem name_ok (s : List UInt8) (hl : s.length ≤ 1048576) (fu : Nat) (hf : 1048600 ≤ fu) : f_lumref_Name fu s = some (nameV s) := by
  have hrl := rns_len s.length s (Nat.le_refl _)
  unfold f_lumref_Name nameV
  rw [chars_ok s hl fu hf, opt_of, lt_of]
  cases hv : validD s with
  | false => rw [if_neg (by simp), if_pos (by simp)]; rfl
  | true =>
    rw [if_pos rfl]
    dsimp only
    rw [cond_ff (show (!true) = false from rfl)]
    by_cases h0 : s = []
    · subst h0; rw [if_pos (.inl rfl)]; rfl
    · have := List.length_pos_iff.2 (rns_pos h0)
      rw [cond_ff (by rw [beq_eq_false_iff_ne]; omega)]
      by_cases h1 : s = [46]
      · subst h1; rw [if_pos (.inr (.inl rfl))]; rfl
      · rw [cond_ff (by rw [beq_eq_false_iff_ne]; exact h1)]
        by_cases h2 : s = [46, 46]
        · subst h2; rw [if_pos (.inr (.inr (.inl rfl)))]; rfl
        · rw [beq_eq_false_iff_ne.2 h2, if_neg (by simp [h0, h1, h2])]
          try dsimp only
          rw [cond_ff rfl, lt_of]
          have := name_loop (rns s, true) (by show (rns s).length ≤ _; omega) (fun _ => (bif (decide (((rns s).length : Int) > (24 : Int))) then (some (2 : Int)) else (some (0 : Int)))) fu 0 (by omega) (by show (rns s).length - 0 < fu; omega)
          refine Eq.trans this ?_
          rw [List.drop_zero]
          show (if (rns s).any bad = true then some 8 else _) = _
          split
          · rfl
          · by_cases h4 : 24 < (rns s).length
            · rw [cond_tt (decide_eq_true (by omega)), if_pos h4]
            · rw [cond_ff (decide_eq_false (by omega)), if_neg h4]
/-! the code -/
theorem check_loop (s : List UInt8) (hl : s.length ≤ 2000000) (kk : Int → Option Int) : ∀ (fuel p n : Nat), s.length - p < fuel → n ≤ p → p ≤ 4000000 → f_names_Check_L10 s kk fuel (n : Int) (p : Int) = if (rns (s.drop p)).any bad then some 8 else kk ((n + (rns (s.drop p)).length : Nat) : Int)
  | 0, p, n, h, _, _ => absurd h (Nat.not_lt_zero _)
  | fuel + 1, p, n, hf, hn, hp => by
    rw [f_names_Check_L10, Int.toNat_natCast]
    by_cases hlt : p < s.length
    · have hne : s.drop p ≠ [] := fun h => by have := congrArg List.length h; rw [List.length_drop] at this; simp at this; omega
      have hw := decodeL_width (s.drop p)
      have hle := decodeL_le (s.drop p) hne
      rw [List.length_drop] at hle
      have key : ∀ b : Bool, b = bad ((decodeL (s.drop p)).1 : Int) → (bif b then (some (8 : Int)) else f_names_Check_L10 s kk fuel (IntKind.i64.wrap ((n : Int) + 1)) ((p + (decodeL (s.drop p)).2 : Nat) : Int)) = if (rns (s.drop p)).any bad then some 8 else kk ((n + (rns (s.drop p)).length : Nat) : Int) := fun b hb => by
        rw [rns_step hne, List.any_cons, ← hb]
        cases b with
        | true => rfl
        | false =>
          rw [cond_ff rfl, wsucc (by omega), check_loop s hl kk fuel _ (n + 1) (by omega) (by omega) (by omega), Bool.false_or, List.drop_drop, List.length_cons]
          rw [show n + 1 + (rns (s.drop (p + (decodeL (s.drop p)).2))).length = n + ((rns (s.drop (p + (decodeL (s.drop p)).2))).length + 1) by omega]
      rw [cond_tt (decide_eq_true hlt), lt_of, dec_drop]
      unfold bad at key
      generalize (((decodeL (s.drop p)).1 : Nat) : Int) = c at key
      by_cases h1 : c = 47
      · rw [cond_tt (by rw [h1]; rfl)]; exact key true (by rw [decide_eq_true h1]; rfl)
      · rw [cond_ff (by rw [beq_eq_false_iff_ne]; exact h1)]
        by_cases h2 : c < 32
        · rw [cond_tt (decide_eq_true h2)]; exact key true (by rw [decide_eq_false h1, decide_eq_true h2]; rfl)
        · rw [cond_ff (decide_eq_false h2)]
          refine key _ ?_
          rw [decide_eq_false h1, decide_eq_false h2]
          by_cases h3 : c = 127
          · rw [h3]; rfl
          · rw [decide_eq_false h3, beq_eq_false_iff_ne.2 h3]; rfl
    · rw [cond_ff (decide_eq_false hlt), List.drop_of_length_le (by omega), rns_nil]; rfl
theorem check_ok (s : List UInt8) (hl : s.length ≤ 1048576) (fu : Nat) (hf : 1048600 ≤ fu) : f_names_Check fu s = some (nameV s) := by
  unfold f_names_Check nameV f_utf8_ValidString
  rw [lt_of]
  by_cases h0 : s = []
  · subst h0; rw [if_pos (.inl rfl)]; rfl
  · rw [cond_ff (by simpa using h0)]
    by_cases h1 : s = [46]
    · subst h1; rw [if_pos (.inr (.inl rfl))]; rfl
    · rw [cond_ff (by rw [beq_eq_false_iff_ne]; exact h1)]
      by_cases h2 : s = [46, 46]
      · subst h2; rw [if_pos (.inr (.inr (.inl rfl)))]; rfl
      · rw [cond_ff (by rw [beq_eq_false_iff_ne]; exact h2), req_pos (by omega), opt_of]
        cases hv : validD s with
        | false => rw [if_pos (by simp)]; rfl
        | true =>
          rw [if_neg (by simp [h0, h1, h2])]
          dsimp only
          rw [cond_ff (show (!true) = false from rfl), lt_of]
          have := check_loop s (by omega) (fun j4i3 => (bif (decide (j4i3 > (24 : Int))) then (some (2 : Int)) else (some (0 : Int)))) fu 0 0 (by omega) (by omega) (by omega)
          refine Eq.trans this ?_
          rw [List.drop_zero, Nat.zero_add]
          split
          · rfl
          · by_cases h4 : 24 < (rns s).length
            · rw [cond_tt (decide_eq_true (by omega)), if_pos h4]
            · rw [cond_ff (decide_eq_false (by omega)), if_neg h4]
end Go.Proofs.YtgmggcpceemnnaaDoor.PTreeName
