/- What WalkPlants leans on, part 7. No condition. -/
import Derived.Test.YtiioclkiapbjnaaGreatDoorQWalkPlantsf
import Derived.Lib.Bytealg
import Derived.Lib.CountLaws
import Derived.Lib.IndexLaws
import Derived.Lib.IndexMore
import Derived.Lib.Join
import Derived.Lib.Endian
import Derived.Lib.TrimByte
import Derived.Laws.BitsAllLaws
import Derived.Lib.Repeat
namespace Go.Proofs.YtiioclkiapbjnaaGreatDoor.PTreeName
open Go.RowKit YtiioclkiapbjnaaGreatDoor.En YtiioclkiapbjnaaGreatDoor U8
open Go.Lib hiding cut
set_option linter.unusedVariables false
set_option linter.unusedSimpArgs false
theorem iw {n : Nat} (h : n ≤ 9223372036854775807) : IntKind.i64.wrap (n : Int) = (n : Int) := w64 (by omega) (by omega)
theorem ch_step (a : List UInt8) (n : Int) (kk : Int → Option (Int × Int)) (fuel i c : Nat) (b : UInt8) (hi : (cut a 1 n)[i]? = some b) (hc : c < 1000000000) (hi2 : i < 10) :
    f_lumref_char_L20 a n kk (fuel + 1) (c : Int) (i : Int) = if C b.toNat then f_lumref_char_L20 a n kk fuel ((64 * c + b.toNat - 128 : Nat) : Int) ((i + 1 : Nat) : Int) else some (0, 0) := by
  have hlt := (List.getElem?_eq_some_iff.1 hi).1
  have hb := b.toNat_lt
  rw [f_lumref_char_L20, cond_tt (dlt (by omega)), at_of hi, opt_of, lt_of, wsucc (by omega)]
  by_cases h1 : b.toNat < 128
  · rw [cond_tt (dlt (by omega)), if_neg (by unfold C; omega)]; rfl
  · rw [cond_ff (dge (by omega))]
    by_cases h2 : b.toNat > 191
    · rw [decide_eq_true (by omega), if_neg (by unfold C; omega)]; rfl
    · rw [decide_eq_false (by omega), if_pos (by unfold C; omega)]
      dsimp only
      rw [cond_ff rfl]
      have e : IntKind.i64.wrap ((IntKind.i64.wrap ((IntKind.i64.wrap ((64 : Int) * (c : Int))) + (IntKind.i64.wrap (b.toNat : Int)))) - (128 : Int)) = ((64 * c + b.toNat - 128 : Nat) : Int) := by
        rw [w64 (x := 64 * (c : Int)) (by omega) (by omega), iw (n := b.toNat) (by omega), w64 (x := 64 * (c : Int) + (b.toNat : Int)) (by omega) (by omega), w64 (by omega) (by omega)]; omega
      rw [e]
theorem ch_end (a : List UInt8) (n : Int) (kk : Int → Option (Int × Int)) (fuel i c : Nat) (hi : (cut a 1 n).length = i) : f_lumref_char_L20 a n kk (fuel + 1) (c : Int) (i : Int) = kk (c : Int) := by
  rw [f_lumref_char_L20, cond_ff (dge (by omega))]
theorem cut_at (a : List UInt8) (n j : Nat) (h : j + 1 < n) (hn : n ≤ a.length) : (cut a 1 (n : Int))[j]? = some (a.getD (j + 1) 0) := by
  unfold cut
  rw [show ((1 : Int)).toNat = 1 from rfl, Int.toNat_natCast, List.getElem?_drop, List.getElem?_take, if_pos (by omega), Nat.add_comm, List.getD_eq_getElem?_getD, List.getElem?_eq_getElem (by omega)]; rfl
theorem cut_len (a : List UInt8) (n : Nat) (h : 1 ≤ n) (hn : n ≤ a.length) : (cut a 1 (n : Int)).length = n - 1 := by
  unfold cut
  rw [show ((1 : Int)).toNat = 1 from rfl, Int.toNat_natCast, List.length_drop, List.length_take]; omega
def fin_k (low n : Nat) (c : Int) : Option (Int × Int) := (lt (fun (j9b84 : Bool) => (bif j9b84 then (some ((0 : Int), (0 : Int))) else (some (c, (n : Int))))) fun (kk10 : Bool → Option (Int × Int)) => (bif (decide (c < (low : Int))) then (kk10 true) else (bif (decide (c > (1114111 : Int))) then (kk10 true) else (bif (decide (c ≥ (55296 : Int))) then (kk10 (decide (c < (57344 : Int)))) else (kk10 false)))))
theorem fin_k_ok (low n c : Nat) : fin_k low n (c : Int) = some (((fin low n c).1 : Int), ((fin low n c).2 : Int)) := by
  unfold fin_k fin
  rw [lt_of]
  by_cases h1 : c < low
  · rw [cond_tt (dlt (by omega)), if_pos (.inl h1)]; rfl
  · rw [cond_ff (dge (by omega))]
    by_cases h2 : c > 1114111
    · rw [cond_tt (decide_eq_true (by omega)), if_pos (.inr (.inl h2))]; rfl
    · rw [cond_ff (decide_eq_false (by omega))]
      by_cases h3 : c ≥ 55296
      · rw [cond_tt (decide_eq_true (by omega))]
        by_cases h4 : c < 57344
        · rw [decide_eq_true (by omega), if_pos (by omega)]; rfl
        · rw [decide_eq_false (by omega), if_neg (by omega)]; rfl
      · rw [cond_ff (decide_eq_false (by omega)), if_neg (by omega)]; rfl
def kk5 (a : List UInt8) (fu : Nat) (c : Int) (n : Int) (low : Int) : Option (Int × Int) := (bif (decide ((a.length : Int) < n)) then (some ((0 : Int), (0 : Int))) else (lt (fun (j7i4 : Int) => (lt (fun (j9b84 : Bool) => (bif j9b84 then (some ((0 : Int), (0 : Int))) else (some (j7i4, n)))) fun (kk10 : Bool → Option (Int × Int)) => (bif (decide (j7i4 < low)) then (kk10 true) else (bif (decide (j7i4 > (1114111 : Int))) then (kk10 true) else (bif (decide (j7i4 ≥ (55296 : Int))) then (kk10 (decide (j7i4 < (57344 : Int)))) else (kk10 false)))))) fun (kk8 : Int → Option (Int × Int)) => (req (0 ≤ (1 : Int) ∧ (1 : Int) ≤ n ∧ n ≤ (a.length : Int)) (req ((cut a (1 : Int) n).length ≤ 9223372036854775807) (f_lumref_char_L20 a n kk8 fu c (0 : Int))))))
def out (r : Nat × Nat) : Int × Int := ((r.1 : Int), (r.2 : Int))
theorem out_if {p : Prop} [Decidable p] (x y : Nat × Nat) : some (out (if p then x else y)) = if p then some (out x) else some (out y) := by split <;> rfl
theorem kk5_2 (a : List UInt8) (hl : a.length ≤ 2000000) (fu c low : Nat) (hf : 10 ≤ fu) (hc : c < 1000) : kk5 a fu (c : Int) 2 (low : Int) = some (out (if a.length < 2 then (0, 0) else if C (by_ a 1) then fin low 2 (64 * c + by_ a 1 - 128) else (0, 0))) := by
  unfold kk5
  by_cases h : a.length < 2
  · rw [cond_tt (dlt (by omega)), if_pos h]; rfl
  · rw [cond_ff (dge (by omega)), if_neg h, lt_of, req_pos (by omega), req_pos (by rw [show (2 : Int) = ((2 : Nat) : Int) from rfl, cut_len a 2 (by omega) (by omega)]; omega)]
    obtain ⟨f, rfl⟩ : ∃ f, fu = f + 2 := ⟨fu - 2, by omega⟩
    refine (ch_step a 2 _ (f + 1) 0 c _ (cut_at a 2 0 (by omega) (by omega)) (by omega) (by omega)).trans ?_
    rw [out_if]
    show (if C (by_ a 1) then _ else _) = _
    by_cases h1 : C (by_ a 1)
    · rw [if_pos h1, if_pos h1]
      refine (ch_end a 2 _ f 1 _ (cut_len a 2 (by omega) (by omega))).trans ?_
      exact fin_k_ok low 2 _
    · rw [if_neg h1, if_neg h1]; rfl
theorem kk5_3 (a : List UInt8) (hl : a.length ≤ 2000000) (fu c low : Nat) (hf : 10 ≤ fu) (hc : c < 1000) : kk5 a fu (c : Int) 3 (low : Int) = some (out (if a.length < 3 then (0, 0) else if C (by_ a 1) then (if C (by_ a 2) then fin low 3 (64 * (64 * c + by_ a 1 - 128) + by_ a 2 - 128) else (0, 0)) else (0, 0))) := by
  have l1 := by_lt a 1
  have l2 := by_lt a 2
  unfold kk5
  by_cases h : a.length < 3
  · rw [cond_tt (dlt (by omega)), if_pos h]; rfl
  · rw [cond_ff (dge (by omega)), if_neg h, lt_of, req_pos (by omega), req_pos (by rw [show (3 : Int) = ((3 : Nat) : Int) from rfl, cut_len a 3 (by omega) (by omega)]; omega)]
    obtain ⟨f, rfl⟩ : ∃ f, fu = f + 3 := ⟨fu - 3, by omega⟩
    refine (ch_step a 3 _ (f + 2) 0 c _ (cut_at a 3 0 (by omega) (by omega)) (by omega) (by omega)).trans ?_
    rw [out_if]
    show (if C (by_ a 1) then _ else _) = _
    by_cases h1 : C (by_ a 1)
    · rw [if_pos h1, if_pos h1, out_if]
      refine (ch_step a 3 _ (f + 1) 1 (64 * c + by_ a 1 - 128) _ (cut_at a 3 1 (by omega) (by omega)) (by omega) (by omega)).trans ?_
      show (if C (by_ a 2) then _ else _) = _
      by_cases h2 : C (by_ a 2)
      · rw [if_pos h2, if_pos h2]
        refine (ch_end a 3 _ f 2 _ (cut_len a 3 (by omega) (by omega))).trans ?_
        exact fin_k_ok low 3 _
      · rw [if_neg h2, if_neg h2]; rfl
    · rw [if_neg h1, if_neg h1]; rfl
theorem kk5_4 (a : List UInt8) (hl : a.length ≤ 2000000) (fu c low : Nat) (hf : 10 ≤ fu) (hc : c < 1000) : kk5 a fu (c : Int) 4 (low : Int) = some (out (if a.length < 4 then (0, 0) else if C (by_ a 1) then (if C (by_ a 2) then (if C (by_ a 3) then fin low 4 (64 * (64 * (64 * c + by_ a 1 - 128) + by_ a 2 - 128) + by_ a 3 - 128) else (0, 0)) else (0, 0)) else (0, 0))) := by
  have l1 := by_lt a 1
  have l2 := by_lt a 2
  have l3 := by_lt a 3
  unfold kk5
  by_cases h : a.length < 4
  · rw [cond_tt (dlt (by omega)), if_pos h]; rfl
  · rw [cond_ff (dge (by omega)), if_neg h, lt_of, req_pos (by omega), req_pos (by rw [show (4 : Int) = ((4 : Nat) : Int) from rfl, cut_len a 4 (by omega) (by omega)]; omega)]
    obtain ⟨f, rfl⟩ : ∃ f, fu = f + 4 := ⟨fu - 4, by omega⟩
    refine (ch_step a 4 _ (f + 3) 0 c _ (cut_at a 4 0 (by omega) (by omega)) (by omega) (by omega)).trans ?_
    rw [out_if]
    show (if C (by_ a 1) then _ else _) = _
    by_cases h1 : C (by_ a 1)
    · rw [if_pos h1, if_pos h1, out_if]
      refine (ch_step a 4 _ (f + 2) 1 (64 * c + by_ a 1 - 128) _ (cut_at a 4 1 (by omega) (by omega)) (by omega) (by omega)).trans ?_
      show (if C (by_ a 2) then _ else _) = _
      by_cases h2 : C (by_ a 2)
      · rw [if_pos h2, if_pos h2, out_if]
        refine (ch_step a 4 _ (f + 1) 2 (64 * (64 * c + by_ a 1 - 128) + by_ a 2 - 128) _ (cut_at a 4 2 (by omega) (by omega)) (by omega) (by omega)).trans ?_
        show (if C (by_ a 3) then _ else _) = _
        by_cases h3 : C (by_ a 3)
        · rw [if_pos h3, if_pos h3]
          refine (ch_end a 4 _ f 3 _ (cut_len a 4 (by omega) (by omega))).trans ?_
          exact fin_k_ok low 4 _
        · rw [if_neg h3, if_neg h3]; rfl
      · rw [if_neg h2, if_neg h2]; rfl
    · rw [if_neg h1, if_neg h1]; rfl
theorem char_ok (a : List UInt8) (ha : a ≠ []) (hl : a.length ≤ 2000000) (fu : Nat) (hf : 10 ≤ fu) : f_lumref_char fu a = some (out (refC a)) := by
  have hpos := List.length_pos_iff.2 ha
  have l0 := by_lt a 0
  have e0 : IntKind.i64.wrap (En.bAt a 0) = ((by_ a 0 : Nat) : Int) := by
    rw [show En.bAt a 0 = ((by_ a 0 : Nat) : Int) from rfl, iw (by omega)]
  unfold f_lumref_char refC refN
  rw [cond_ff (by simpa using ha), req_pos (by omega), e0]
  by_cases h1 : by_ a 0 < 128
  · rw [cond_tt (dlt (by omega)), if_pos h1]; rfl
  · rw [cond_ff (dge (by omega)), if_neg h1, lt_of, lt_of]
    have e1 : by_ a 0 < 224 → 194 ≤ by_ a 0 → IntKind.i64.wrap (((by_ a 0 : Nat) : Int) - 192) = ((by_ a 0 - 192 : Nat) : Int) := fun _ _ => by rw [w64 (by omega) (by omega)]; omega
    have e2 : 224 ≤ by_ a 0 → IntKind.i64.wrap (((by_ a 0 : Nat) : Int) - 224) = ((by_ a 0 - 224 : Nat) : Int) := fun _ => by rw [w64 (by omega) (by omega)]; omega
    have e3 : 240 ≤ by_ a 0 → IntKind.i64.wrap (((by_ a 0 : Nat) : Int) - 240) = ((by_ a 0 - 240 : Nat) : Int) := fun _ => by rw [w64 (by omega) (by omega)]; omega
    have ff : ∀ m : Nat, ¬ by_ a 0 < m → decide (((by_ a 0 : Nat) : Int) < (m : Int)) = false := fun m h => decide_eq_false (by omega)
    have ft : ∀ m : Nat, by_ a 0 < m → decide (((by_ a 0 : Nat) : Int) < (m : Int)) = true := fun m h => decide_eq_true (by omega)
    by_cases h2 : 194 ≤ by_ a 0 ∧ by_ a 0 < 224
    · rw [cond_tt (decide_eq_true (show ((by_ a 0 : Nat) : Int) ≥ 194 by omega)), show decide (((by_ a 0 : Nat) : Int) < 224) = true from ft 224 h2.2, if_pos h2]
      dsimp only
      rw [cond_tt rfl, e1 h2.2 h2.1]
      exact kk5_2 a hl fu _ 128 hf (by omega)
    · rw [if_neg h2]
      by_cases h3 : 224 ≤ by_ a 0
      · rw [cond_tt (decide_eq_true (show ((by_ a 0 : Nat) : Int) ≥ 194 by omega)), show decide (((by_ a 0 : Nat) : Int) < 224) = false from ff 224 (by omega)]
        dsimp only
        rw [cond_ff rfl, lt_of]
        by_cases h4 : by_ a 0 < 240
        · rw [cond_tt (decide_eq_true (show ((by_ a 0 : Nat) : Int) ≥ 224 by omega)), show decide (((by_ a 0 : Nat) : Int) < 240) = true from ft 240 h4, if_pos ⟨h3, h4⟩]
          dsimp only
          rw [cond_tt rfl, e2 h3]
          exact kk5_3 a hl fu _ 2048 hf (by omega)
        · rw [cond_tt (decide_eq_true (show ((by_ a 0 : Nat) : Int) ≥ 224 by omega)), show decide (((by_ a 0 : Nat) : Int) < 240) = false from ff 240 h4, if_neg (c := 224 ≤ by_ a 0 ∧ by_ a 0 < 240) (by omega)]
          dsimp only
          rw [cond_ff rfl, lt_of, cond_tt (decide_eq_true (show ((by_ a 0 : Nat) : Int) ≥ 240 by omega))]
          by_cases h5 : by_ a 0 < 245
          · rw [show decide (((by_ a 0 : Nat) : Int) < 245) = true from ft 245 h5, if_pos ⟨by omega, h5⟩]
            dsimp only
            rw [cond_tt rfl, e3 (by omega)]
            exact kk5_4 a hl fu _ 65536 hf (by omega)
          · rw [show decide (((by_ a 0 : Nat) : Int) < 245) = false from ff 245 h5, if_neg (by omega)]
            dsimp only
            rw [cond_ff rfl]; rfl
      · rw [cond_ff (decide_eq_false (show ¬ ((by_ a 0 : Nat) : Int) ≥ 194 by omega)), if_neg (c := 224 ≤ by_ a 0 ∧ by_ a 0 < 240) (by omega), if_neg (c := 240 ≤ by_ a 0 ∧ by_ a 0 < 245) (by omega)]
        dsimp only
        rw [cond_ff rfl, lt_of, cond_ff (decide_eq_false (show ¬ ((by_ a 0 : Nat) : Int) ≥ 224 by omega))]
        dsimp only
        rw [cond_ff rfl, lt_of, cond_ff (decide_eq_false (show ¬ ((by_ a 0 : Nat) : Int) ≥ 240 by omega))]
        dsimp only
        rw [cond_ff rfl]; rfl
theorem chars_loop (fu : Nat) (hf : 10 ≤ fu) : ∀ (fuel : Nat) (s : List UInt8) (o : List Int), s.length < fuel → s.length ≤ 2000000 → o.length + s.length ≤ 2000000 →
    f_lumref_Chars_L5 (fun j => some (j, true)) fu fuel s o = some (if validD s then (o ++ rns s, true) else ([], false))
  | 0, s, _, h, _, _ => absurd h (Nat.not_lt_zero _)
  | fuel + 1, s, o, h, hl, ho => by
    rw [f_lumref_Chars_L5]
    by_cases h0 : s = []
    · subst h0
      rw [cond_ff (by rfl), V_nil, rns_nil, List.append_nil]; rfl
    · have hd := drop_lt h0
      have hle := decodeL_le s h0
      rw [cond_tt (by simpa using h0), char_ok s h0 hl fu hf, opt_of]
      rcases refC_fits s with ⟨h1, h2⟩ | ⟨h1, h2, h3⟩
      · have hv : validD s = false := by rw [V_step h0, h1]; exact if_pos ⟨rfl, rfl⟩
        rw [h2, hv]; rfl
      · rw [V_step h0, rns_step h0]
        rw [h1] at hd hle ⊢
        rw [if_neg h3]
        show (bif (((refC s).2 : Int) == 0) then _ else _) = _
        rw [cond_ff (by rw [beq_eq_false_iff_ne]; omega)]
        show req (((o.length + 1) * 8 : Nat) ≤ 140737488355328 ∧ o.length + 1 ≤ 9223372036854775807) (req (0 ≤ ((refC s).2 : Int) ∧ ((refC s).2 : Int) ≤ (s.length : Int)) (f_lumref_Chars_L5 _ fu fuel (s.drop ((refC s).2 : Int).toNat) (o ++ [((refC s).1 : Int)]))) = _
        have hsl := List.length_pos_iff.2 h0
        rw [req_pos (by omega), req_pos (by omega), Int.toNat_natCast, chars_loop fu hf fuel _ _ (by omega) (by omega) (by simp; omega), List.append_assoc]; rfl
theorem chars_ok (s : List UInt8) (hl : s.length ≤ 1048576) (fu : Nat) (hf : 1048600 ≤ fu) : f_lumref_Chars fu s = some (if validD s then (rns s, true) else ([], false)) := by
  unfold f_lumref_Chars
  rw [lt_of]
  exact chars_loop fu (by omega) fu s [] (by omega) (by omega) (by simp; omega)
theorem name_loop (r : List Int × Bool) (hl : r.1.length ≤ 2000000) (kk : Unit → Option Int) : ∀ (fuel k : Nat), k ≤ r.1.length → r.1.length - k < fuel → f_lumref_Name_L12 r kk fuel (k : Int) = if (r.1.drop k).any bad then some 8 else kk ()
  | 0, k, _, h => absurd h (Nat.not_lt_zero _)
  | fuel + 1, k, hk, hf => by
    rw [f_lumref_Name_L12]
    by_cases hlt : k < r.1.length
    · have key : ∀ b : Bool, b = bad r.1[k] → (bif b then (some (8 : Int)) else f_lumref_Name_L12 r kk fuel (IntKind.i64.wrap ((k : Int) + 1))) = if (r.1.drop k).any bad then some 8 else kk () := fun b hb => by
        rw [List.drop_eq_getElem_cons hlt, List.any_cons, ← hb]
        cases b with
        | true => rfl
        | false => rw [cond_ff rfl, wsucc (by omega), name_loop r hl kk fuel (k + 1) hlt (by omega), Bool.false_or]
      rw [cond_tt (dlt (by omega)), at_lt hlt, opt_of, lt_of]
      unfold bad at key
      generalize r.1[k] = c at key
      by_cases h1 : c = 47
      · rw [cond_tt (by rw [h1]; rfl)]; exact key true (by rw [decide_eq_true h1]; rfl)
      · rw [cond_ff (by rw [beq_eq_false_iff_ne]; exact h1)]
        by_cases h2 : c < 32
        · rw [cond_tt (decide_eq_true h2)]; exact key true (by rw [decide_eq_false h1, decide_eq_true h2]; rfl)
        · rw [cond_ff (decide_eq_false h2)]
          refine key _ ?_
          rw [decide_eq_false h1, decide_eq_false h2]
          by_cases h3 : c = 127
          · rw [h3]; rfl
          · rw [decide_eq_false h3, beq_eq_false_iff_ne.2 h3]; rfl
    · rw [cond_ff (dge (by omega)), List.drop_of_length_le (by omega)]; rfl
theorem name_ok (s : List UInt8) (hl : s.length ≤ 1048576) (fu : Nat) (hf : 1048600 ≤ fu) : f_lumref_Name fu s = some (nameV s) := by
  have hrl := rns_len s.length s (Nat.le_refl _)
  unfold f_lumref_Name nameV
  rw [chars_ok s hl fu hf, opt_of, lt_of]
  cases hv : validD s with
  | false => rw [if_neg (by simp), if_pos (by simp)]; rfl
  | true =>
    rw [if_pos rfl]
    dsimp only
    rw [cond_ff (show (!true) = false from rfl)]
    by_cases h0 : s = []
    · subst h0; rw [if_pos (.inl rfl)]; rfl
    · have := List.length_pos_iff.2 (rns_pos h0)
      rw [cond_ff (by rw [beq_eq_false_iff_ne]; omega)]
      by_cases h1 : s = [46]
      · subst h1; rw [if_pos (.inr (.inl rfl))]; rfl
      · rw [cond_ff (by rw [beq_eq_false_iff_ne]; exact h1)]
        by_cases h2 : s = [46, 46]
        · subst h2; rw [if_pos (.inr (.inr (.inl rfl)))]; rfl
        · rw [beq_eq_false_iff_ne.2 h2, if_neg (by simp [h0, h1, h2])]
          try dsimp only
          rw [cond_ff rfl, lt_of]
          have := name_loop (rns s, true) (by show (rns s).length ≤ _; omega) (fun _ => (bif (decide (((rns s).length : Int) > (24 : Int))) then (some (2 : Int)) else (some (0 : Int)))) fu 0 (by omega) (by show (rns s).length - 0 < fu; omega)
          refine Eq.trans this ?_
          rw [List.drop_zero]
          show (if (rns s).any bad = true then some 8 else _) = _
          split
          · rfl
          · by_cases h4 : 24 < (rns s).length
            · rw [cond_tt (decide_eq_true (by omega)), if_pos h4]
            · rw [cond_ff (decide_eq_false (by omega)), if_neg h4]
theorem check_loop (s : List UInt8) (hl : s.length ≤ 2000000) (kk : Int → Option Int) : ∀ (fuel p n : Nat), s.length - p < fuel → n ≤ p → p ≤ 4000000 → f_names_Check_L10 s kk fuel (n : Int) (p : Int) = if (rns (s.drop p)).any bad then some 8 else kk ((n + (rns (s.drop p)).length : Nat) : Int)
  | 0, p, n, h, _, _ => absurd h (Nat.not_lt_zero _)
  | fuel + 1, p, n, hf, hn, hp => by
    rw [f_names_Check_L10, Int.toNat_natCast]
    by_cases hlt : p < s.length
    · have hne : s.drop p ≠ [] := fun h => by have := congrArg List.length h; rw [List.length_drop] at this; simp at this; omega
      have hw := decodeL_width (s.drop p)
      have hle := decodeL_le (s.drop p) hne
      rw [List.length_drop] at hle
      have key : ∀ b : Bool, b = bad ((decodeL (s.drop p)).1 : Int) → (bif b then (some (8 : Int)) else f_names_Check_L10 s kk fuel (IntKind.i64.wrap ((n : Int) + 1)) ((p + (decodeL (s.drop p)).2 : Nat) : Int)) = if (rns (s.drop p)).any bad then some 8 else kk ((n + (rns (s.drop p)).length : Nat) : Int) := fun b hb => by
        rw [rns_step hne, List.any_cons, ← hb]
        cases b with
        | true => rfl
        | false =>
          rw [cond_ff rfl, wsucc (by omega), check_loop s hl kk fuel _ (n + 1) (by omega) (by omega) (by omega), Bool.false_or, List.drop_drop, List.length_cons]
          rw [show n + 1 + (rns (s.drop (p + (decodeL (s.drop p)).2))).length = n + ((rns (s.drop (p + (decodeL (s.drop p)).2))).length + 1) by omega]
      rw [cond_tt (decide_eq_true hlt), lt_of, dec_drop]
      unfold bad at key
      generalize (((decodeL (s.drop p)).1 : Nat) : Int) = c at key
      by_cases h1 : c = 47
      · rw [cond_tt (by rw [h1]; rfl)]; exact key true (by rw [decide_eq_true h1]; rfl)
      · rw [cond_ff (by rw [beq_eq_false_iff_ne]; exact h1)]
        by_cases h2 : c < 32
        · rw [cond_tt (decide_eq_true h2)]; exact key true (by rw [decide_eq_false h1, decide_eq_true h2]; rfl)
        · rw [cond_ff (decide_eq_false h2)]
          refine key _ ?_
          rw [decide_eq_false h1, decide_eq_false h2]
          by_cases h3 : c = 127
          · rw [h3]; rfl
          · rw [decide_eq_false h3, beq_eq_false_iff_ne.2 h3]; rfl
    · rw [cond_ff (decide_eq_false hlt), List.drop_of_length_le (by omega), rns_nil]; rfl
theorem check_ok (s : List UInt8) (hl : s.length ≤ 1048576) (fu : Nat) (hf : 1048600 ≤ fu) : f_names_Check fu s = some (nameV s) := by
  unfold f_names_Check nameV f_utf8_ValidString
  rw [lt_of]
  by_cases h0 : s = []
  · subst h0; rw [if_pos (.inl rfl)]; rfl
  · rw [cond_ff (by simpa using h0)]
    by_cases h1 : s = [46]
    · subst h1; rw [if_pos (.inr (.inl rfl))]; rfl
    · rw [cond_ff (by rw [beq_eq_false_iff_ne]; exact h1)]
      by_cases h2 : s = [46, 46]
      · subst h2; rw [if_pos (.inr (.inr (.inl rfl)))]; rfl
      · rw [cond_ff (by rw [beq_eq_false_iff_ne]; exact h2), req_pos (by omega), opt_of]
        cases hv : validD s with
        | false => rw [if_pos (by simp)]; rfl
        | true =>
          rw [if_neg (by simp [h0, h1, h2])]
          dsimp only
          rw [cond_ff (show (!true) = false from rfl), lt_of]
          have := check_loop s (by omega) (fun j4i3 => (bif (decide (j4i3 > (24 : Int))) then (some (2 : Int)) else (some (0 : Int)))) fu 0 0 (by omega) (by omega) (by omega)
          refine Eq.trans this ?_
          rw [List.drop_zero, Nat.zero_add]
          split
          · rfl
          · by_cases h4 : 24 < (rns s).length
            · rw [cond_tt (decide_eq_true (by omega)), if_pos h4]
            · rw [cond_ff (decide_eq_false (by omega)), if_neg h4]
end Go.Proofs.YtiioclkiapbjnaaGreatDoor.PTreeName
namespace Go.Proofs.YtiioclkiapbjnaaGreatDoor.StrOrd
open Go.RowKit YtiioclkiapbjnaaGreatDoor.En YtiioclkiapbjnaaGreatDoor
theorem u8_irr (a : UInt8) : ¬ a < a := fun h => Nat.lt_irrefl _ (UInt8.lt_iff_toNat_lt.1 h)
theorem u8_trans {a b c : UInt8} (h : a < b) (h' : b < c) : a < c := UInt8.lt_iff_toNat_lt.2 (Nat.lt_trans (UInt8.lt_iff_toNat_lt.1 h) (UInt8.lt_iff_toNat_lt.1 h'))
abbrev L (a b : List UInt8) : Prop := Op.bytesLess a b = true
theorem less_nil (a : List UInt8) : ¬ L a [] := by cases a <;> simp [L, Op.bytesLess]
theorem less_cons {x y : UInt8} {a b : List UInt8} : L (x :: a) (y :: b) ↔ x < y ∨ (x = y ∧ L a b) := by simp [L, Op.bytesLess]
theorem irr : ∀ a : List UInt8, ¬ L a a
  | [] => less_nil []
  | x :: a => fun h => by
    rcases less_cons.1 h with h | h
    · exact u8_irr x h
    · exact irr a h.2
theorem trans : ∀ {a b c : List UInt8}, L a b → L b c → L a c
  | a, [], c, h, _ => absurd h (less_nil a)
  | a, _ :: _, [], _, h => absurd h (less_nil _)
  | [], _ :: _, _ :: _, _, _ => rfl
  | x :: a, y :: b, z :: c, h, h' => by
    rcases less_cons.1 h with k | ⟨e, k⟩
    · rcases less_cons.1 h' with k' | ⟨e', _⟩
      · exact less_cons.2 (.inl (u8_trans k k'))
      · subst e'; exact less_cons.2 (.inl k)
    · subst e
      rcases less_cons.1 h' with k' | ⟨e', k'⟩
      · exact less_cons.2 (.inl k')
      · exact less_cons.2 (.inr ⟨e', trans k k'⟩)
end Go.Proofs.YtiioclkiapbjnaaGreatDoor.StrOrd
namespace Go.Proofs.YtiioclkiapbjnaaGreatDoor.PNamesSays
open Go.RowKit YtiioclkiapbjnaaGreatDoor.En YtiioclkiapbjnaaGreatDoor U8
open Go.Lib hiding cut
set_option linter.unusedVariables false
set_option linter.unusedSimpArgs false
abbrev L2 := List (List UInt8)
theorem iw {n : Nat} (h : n ≤ 9223372036854775807) : IntKind.i64.wrap (n : Int) = (n : Int) := w64 (by omega) (by omega)
def Sm (l : L2) : Prop := l.length ≤ 1048577 ∧ ∀ s ∈ l, s.length ≤ 1048576
theorem split_miss {s : List UInt8} (h : indexByte s 47 = -1) : splitV s [47] = [s] := by
  have h2 : index s [47] = -1 := by rw [index_one]; exact h
  unfold splitV
  rw [count_miss h2]; rfl
theorem split_hit {s : List UInt8} {i : Nat} (h : indexByte s 47 = i) : splitV s [47] = s.take i :: splitV (s.drop (i + 1)) [47] := by
  have h2 : index s [47] = i := by rw [index_one]; exact h
  have hn : ¬ (index s [47] == -1) = true := fun e => by have := beq_iff_eq.1 e; omega
  unfold splitV
  rw [count_hit (by simp) h2, Nat.add_comm]
  show (if (index s [47] == -1) = true then [s] else s.take ((index s [47]).toNat + 0) :: splitK [47] 0 (count (s.drop (i + [47].length)) [47]) (s.drop ((index s [47]).toNat + [47].length))) = _
  rw [if_neg hn, h2, Int.toNat_natCast]; rfl
theorem hit_lt {s : List UInt8} {i : Nat} (h : indexByte s 47 = i) : i < s.length := (List.getElem?_eq_some_iff.1 (indexByte_some h).1).1
theorem split_sm : ∀ (n : Nat) (s : List UInt8), s.length ≤ n → (splitV s [47]).length ≤ s.length + 1 ∧ ∀ x ∈ splitV s [47], x.length ≤ s.length
  | n, s, hn => by
    rcases Int.lt_or_le (indexByte s 47) 0 with h | h
    · have hm : indexByte s 47 = -1 := by have := indexByte_ge s 47; omega
      rw [split_miss hm]
      exact ⟨by simp, by simp⟩
    · obtain ⟨i, hi⟩ : ∃ i : Nat, indexByte s 47 = i := ⟨(indexByte s 47).toNat, by omega⟩
      have hlt := hit_lt hi
      rw [split_hit hi]
      match n with
      | 0 => omega
      | n + 1 =>
        obtain ⟨h1, h2⟩ := split_sm n (s.drop (i + 1)) (by rw [List.length_drop]; omega)
        rw [List.length_drop] at h1 h2
        refine ⟨by rw [List.length_cons]; omega, fun x hx => ?_⟩
        rcases List.mem_cons.1 hx with rfl | hx
        · rw [List.length_take]; omega
        · have := h2 x hx; omega
theorem cut_ok : ∀ (fu : Nat) (s : List UInt8), s.length < fu → s.length ≤ 1048576 → f_lumref_cutAt fu s = some (splitV s [47])
  | 0, s, h, _ => absurd h (Nat.not_lt_zero _)
  | fu + 1, s, h, hs => by
    rw [f_lumref_cutAt]
    unfold f_strings_IndexByte
    rw [opt_of, show ((47 : Int)).toNat.toUInt8 = 47 from rfl]
    rcases Int.lt_or_le (indexByte s 47) 0 with h1 | h1
    · have hm : indexByte s 47 = -1 := by have := indexByte_ge s 47; omega
      rw [split_miss hm, hm, cond_tt (decide_eq_true (by decide))]
    · obtain ⟨i, hi⟩ : ∃ i : Nat, indexByte s 47 = i := ⟨(indexByte s 47).toNat, by omega⟩
      have hlt := hit_lt hi
      have hsm := (split_sm _ (s.drop (i + 1)) (Nat.le_refl _)).1
      rw [List.length_drop] at hsm
      rw [split_hit hi, hi, cond_ff (decide_eq_false (by omega)), wsucc (by omega), req_pos (by omega), req_pos (by omega), Int.toNat_natCast, Int.toNat_natCast, cut_ok fu (s.drop (i + 1)) (by rw [List.length_drop]; omega) (by rw [List.length_drop]; omega), opt_of, req_pos (by rw [List.length_singleton]; omega)]; rfl
theorem fsplit_ok (fu : Nat) (s : List UInt8) (hs : s.length ≤ 1048576) : f_strings_Split fu s [47] = some (splitV s [47]) := by
  unfold f_strings_Split
  rw [req_pos ⟨by omega, by simp⟩]
theorem sm_split (s : List UInt8) (hs : s.length ≤ 1048576) : Sm (splitV s [47]) := by
  obtain ⟨h1, h2⟩ := split_sm _ s (Nat.le_refl _)
  exact ⟨by omega, fun x hx => by have := h2 x hx; omega⟩
def chk : Nat → L2 → Int
  | _, [] => 0
  | i, s :: t => if 8 ≤ i then 14 else if nameV s ≠ 0 then nameV s else chk (i + 1) t
theorem chk_cons (i : Nat) (s : List UInt8) (t : L2) : chk i (s :: t) = if 8 ≤ i then 14 else if nameV s ≠ 0 then nameV s else chk (i + 1) t := rfl
theorem chk_len : ∀ (l : L2) (i : Nat), chk i l = 0 → i ≤ 8 → i + l.length ≤ 8
  | [], i, _, hi => by simp; exact hi
  | s :: t, i, h, hi => by
    rw [chk_cons] at h
    by_cases h1 : 8 ≤ i
    · rw [if_pos h1] at h; exact absurd h (by decide)
    rw [if_neg h1] at h
    by_cases h2 : nameV s ≠ 0
    · rw [if_pos h2] at h; exact absurd h h2
    rw [if_neg h2] at h
    have := chk_len t (i + 1) h (by omega)
    rw [List.length_cons]; omega
theorem all_loop (l : L2) (hl : Sm l) (kk : Unit → Option Int) (g : Nat) (hg : 1048600 ≤ g) : ∀ (d i fu : Nat), l.length - i = d → i ≤ l.length → d < fu →
    f_names_checkAll_L5 l kk g fu (i : Int) = if chk i (l.drop i) = 0 then kk () else some (chk i (l.drop i))
  | _, _, 0, _, _, hf => absurd hf (Nat.not_lt_zero _)
  | 0, i, fu + 1, hd, hi, _ => by
    rw [f_names_checkAll_L5, cond_ff (dge (by omega)), List.drop_of_length_le (by omega)]; rfl
  | d + 1, i, fu + 1, hd, hi, hf => by
    have hlt : i < l.length := by omega
    have hb := hl.1
    rw [f_names_checkAll_L5, cond_tt (dlt (by omega)), at_lt hlt, opt_of, List.drop_eq_getElem_cons hlt, chk_cons]
    by_cases h8 : 8 ≤ i
    · rw [cond_tt (decide_eq_true (by omega)), if_pos h8, if_neg (by decide)]
    · rw [cond_ff (decide_eq_false (by omega)), if_neg h8, PTreeName.check_ok _ (hl.2 _ (List.getElem_mem hlt)) g hg, opt_of]
      by_cases hn : nameV l[i] = 0
      · rw [cond_ff (show (nameV l[i] != 0) = false from by simpa using hn), if_neg (c := nameV l[i] ≠ 0) (by simpa using hn), wsucc (by omega)]
        exact all_loop l hl kk g hg d (i + 1) fu (by omega) (by omega) (by omega)
      · rw [cond_tt (show (nameV l[i] != 0) = true from by simpa using hn), if_pos hn, if_neg hn]
theorem rall_loop (l : L2) (hl : Sm l) (kk : Unit → Option Int) (g : Nat) (hg : 1048600 ≤ g) : ∀ (d i fu : Nat), l.length - i = d → i ≤ l.length → d < fu →
    f_lumref_nameErr_L5 l kk g fu (i : Int) = if chk i (l.drop i) = 0 then kk () else some (chk i (l.drop i))
  | _, _, 0, _, _, hf => absurd hf (Nat.not_lt_zero _)
  | 0, i, fu + 1, hd, hi, _ => by
    rw [f_lumref_nameErr_L5, cond_ff (dge (by omega)), List.drop_of_length_le (by omega)]; rfl
  | d + 1, i, fu + 1, hd, hi, hf => by
    have hlt : i < l.length := by omega
    have hb := hl.1
    rw [f_lumref_nameErr_L5, cond_tt (dlt (by omega)), at_lt hlt, opt_of, List.drop_eq_getElem_cons hlt, chk_cons]
    by_cases h8 : 8 ≤ i
    · rw [cond_tt (decide_eq_true (by omega)), if_pos h8, if_neg (by decide)]
    · rw [cond_ff (decide_eq_false (by omega)), if_neg h8, PTreeName.name_ok _ (hl.2 _ (List.getElem_mem hlt)) g hg, opt_of]
      by_cases hn : nameV l[i] = 0
      · rw [cond_ff (show (nameV l[i] != 0) = false from by simpa using hn), if_neg (c := nameV l[i] ≠ 0) (by simpa using hn), wsucc (by omega)]
        exact rall_loop l hl kk g hg d (i + 1) fu (by omega) (by omega) (by omega)
      · rw [cond_tt (show (nameV l[i] != 0) = true from by simpa using hn), if_pos hn, if_neg hn]
theorem all_ok (l : L2) (hl : Sm l) (fu : Nat) (hf : 2000000 ≤ fu) : f_names_checkAll fu l = some (chk 0 l) ∧ f_lumref_nameErr fu l = some (chk 0 l) := by
  have hb := hl.1
  unfold f_names_checkAll f_lumref_nameErr
  rw [lt_of, lt_of]
  have e1 := all_loop l hl (fun _ => some (0 : Int)) fu (by omega) _ 0 fu rfl (Nat.zero_le _) (by omega)
  have e2 := rall_loop l hl (fun _ => some (0 : Int)) fu (by omega) _ 0 fu rfl (Nat.zero_le _) (by omega)
  rw [List.drop_zero] at e1 e2
  have key : (if chk 0 l = 0 then some (0 : Int) else some (chk 0 l)) = some (chk 0 l) := by
    by_cases h : chk 0 l = 0
    · rw [if_pos h, h]
    · rw [if_neg h]
  exact ⟨e1.trans key, e2.trans key⟩
def sp (p : List UInt8) : L2 × Int := if p.take 1 ≠ [47] then ([], 8) else if p = [47] then ([], 0) else if chk 0 (splitV (p.drop 1) [47]) ≠ 0 then ([], chk 0 (splitV (p.drop 1) [47])) else (splitV (p.drop 1) [47], 0)
theorem sp_tail (r : L2) (e : Int) : (bif (e != (0 : Int)) then (some (([] : List (List UInt8)), e)) else (some (r, (0 : Int)))) = some (if e ≠ 0 then ([], e) else (r, 0)) := by
  by_cases h : e = 0
  · rw [if_neg (by simpa using h), cond_ff (show (e != 0) = false from by simpa using h)]
  · rw [if_pos h, cond_tt (show (e != 0) = true from by simpa using h)]
theorem split1 (p : List UInt8) (hp : p.length ≤ 1048576) (fu : Nat) (hf : 2000000 ≤ fu) : f_names_Split fu p = some (sp p) := by
  unfold f_names_Split f_strings_CutPrefix f_stringslite_CutPrefix f_stringslite_HasPrefix sp
  rw [lt_of]
  cases p with
  | nil => rfl
  | cons b t =>
    rw [cond_tt (decide_eq_true (by rw [List.length_cons]; show ((t.length + 1 : Nat) : Int) ≥ (([47] : List UInt8).length : Int); simp; omega)), req_pos (by simp; omega)]
    rw [show (((([47] : List UInt8).length : Nat) : Int)).toNat = 1 from rfl, opt_of]
    by_cases h1 : (b :: t).take 1 = [47]
    · rw [beq_iff_eq.2 h1, if_neg (by simpa using h1), cond_ff (show (!true) = false from rfl), req_pos (by simp; omega), opt_of, opt_of]
      dsimp only
      rw [cond_ff (show (!true) = false from rfl)]
      have hb : b = 47 := by simpa using h1
      have hd : (b :: t).drop 1 = t := rfl
      have htl : t.length ≤ 1048576 := by rw [List.length_cons] at hp; omega
      rw [hd]
      by_cases h2 : t = []
      · subst h2; subst hb; rw [if_pos rfl]; rfl
      · rw [beq_eq_false_iff_ne.2 h2, if_neg (by rw [hb]; simpa using h2), cond_ff rfl, fsplit_ok fu t htl, opt_of, (all_ok _ (sm_split t htl) fu hf).1, opt_of]
        exact sp_tail _ _
    · rw [beq_eq_false_iff_ne.2 h1, if_pos h1]; rfl
theorem split2 (p : List UInt8) (hp : p.length ≤ 1048576) (fu : Nat) (hf : 2000000 ≤ fu) : f_lumref_Split fu p = some (sp p) := by
  unfold f_lumref_Split sp
  rw [lt_of]
  cases p with
  | nil => rfl
  | cons b t =>
    have hbt := b.toNat_lt
    rw [cond_ff (show ((b :: t) == ([] : List UInt8)) = false from rfl), req_pos (by rw [List.length_cons]; omega)]
    rw [show En.bAt (b :: t) (0 : Int) = ((b.toNat : Nat) : Int) from rfl]
    by_cases h1 : b = 47
    · rw [if_neg (by rw [h1]; simp), show ((((b.toNat : Nat) : Int)) != (47 : Int)) = false from by rw [h1]; rfl]
      dsimp only
      rw [cond_ff rfl]
      have htl : t.length ≤ 1048576 := by rw [List.length_cons] at hp; omega
      by_cases h2 : t = []
      · subst h2; subst h1; rw [if_pos rfl]; rfl
      · rw [beq_eq_false_iff_ne.2 (show b :: t ≠ [47] from by simp [h2]), if_neg (by simp [h2]), cond_ff rfl, req_pos (by rw [List.length_cons]; omega)]
        show (opt (f_lumref_cutAt fu t) _) = _
        rw [cut_ok fu t (by omega) htl, opt_of, (all_ok _ (sm_split t htl) fu hf).2, opt_of]
        exact sp_tail _ _
    · have hne : b.toNat ≠ 47 := fun e => h1 (UInt8.toNat_inj.1 (by rw [e]; rfl))
      rw [if_pos (by simpa using h1), show ((((b.toNat : Nat) : Int)) != (47 : Int)) = true from by rw [bne_iff_ne]; omega]; rfl
theorem sp_sm (p : List UInt8) (hp : p.length ≤ 1048576) : Sm (sp p).1 := by
  have hnil : Sm ([] : L2) := ⟨by simp, by simp⟩
  unfold sp
  split
  · exact hnil
  split
  · exact hnil
  split
  · exact hnil
  · exact sm_split _ (by rw [List.length_drop]; omega)
def jn (l : L2) : List UInt8 := if l = [] then [47] else l.flatMap (fun s => [47] ++ s)
def jr (l : L2) : List UInt8 × Int := if chk 0 l ≠ 0 then ([], chk 0 l) else (jn l, 0)
theorem jloop (l : L2) (hl : Sm l) (h8 : l.length ≤ 8) (kk : List UInt8 → Option (List UInt8 × Int)) : ∀ (d i fu : Nat) (acc : List UInt8), l.length - i = d → i ≤ l.length → d < fu → acc.length ≤ 1048577 * i →
    f_lumref_Join_L9 l kk fu acc (i : Int) = kk (acc ++ (l.drop i).flatMap (fun s => [47] ++ s))
  | _, _, 0, _, _, _, hf, _ => absurd hf (Nat.not_lt_zero _)
  | 0, i, fu + 1, acc, hd, hi, _, _ => by
    rw [f_lumref_Join_L9, cond_ff (dge (by omega)), List.drop_of_length_le (by omega), List.flatMap_nil, List.append_nil]
  | d + 1, i, fu + 1, acc, hd, hi, hf, ha => by
    have hlt : i < l.length := by omega
    have hs := hl.2 _ (List.getElem_mem hlt)
    rw [f_lumref_Join_L9, cond_tt (dlt (by omega)), at_lt hlt, opt_of, req_pos (by rw [List.length_singleton]; omega), req_pos (by rw [List.length_append, List.length_singleton]; omega), wsucc (by omega), jloop l hl h8 kk d (i + 1) fu _ (by omega) (by omega) (by omega) (by rw [List.length_append, List.length_append, List.length_singleton]; omega), List.drop_eq_getElem_cons hlt, List.flatMap_cons, List.append_assoc acc]
theorem join2 (l : L2) (hl : Sm l) (fu : Nat) (hf : 2000000 ≤ fu) : f_lumref_Join fu l = some (jr l) := by
  unfold f_lumref_Join jr
  rw [(all_ok l hl fu hf).2, opt_of]
  by_cases h : chk 0 l = 0
  · have hlen := chk_len l 0 h (by omega)
    rw [if_neg (by simpa using h), cond_ff (show (chk 0 l != 0) = false from by simpa using h)]
    cases l with
    | nil => rfl
    | cons x r =>
      rw [cond_ff (show (((x :: r).length : Int) == 0) = false from by rw [beq_eq_false_iff_ne, List.length_cons]; omega), lt_of]
      refine (jloop (x :: r) hl (by omega) _ _ 0 fu [] rfl (Nat.zero_le _) (by omega) (by simp)).trans ?_
      unfold jn
      rw [if_neg (by simp), List.drop_zero, List.nil_append]
  · rw [if_pos h, cond_tt (show (chk 0 l != 0) = true from by simpa using h)]
def ah : L2 → L2 → Bool
  | _, [] => false
  | [], _ :: _ => true
  | x :: l, y :: m => if x ≠ y then Op.bytesLess x y else ah l m
theorem ah_cons (x y : List UInt8) (l m : L2) : ah (x :: l) (y :: m) = if x ≠ y then Op.bytesLess x y else ah l m := rfl
theorem ah_nil (l : L2) : ah l [] = false := by cases l <;> rfl
theorem less_self : ∀ a : List UInt8, Op.bytesLess a a = false
  | [] => rfl
  | b :: t => by
    show (decide (b < b) || (b == b && Op.bytesLess t t)) = false
    rw [less_self t]; simp
theorem cmp_ok (x y : List UInt8) (fu : Nat) : f_cmp_Compare_string_ fu x y = some (if Op.bytesLess x y = true then -1 else if x = y then 0 else 1) := by
  unfold f_cmp_Compare_string_ f_cmp_isNaN_string_
  rw [beq_self_eq_true, beq_self_eq_true, show (!true) = false from rfl, opt_of, opt_of, cond_ff rfl, cond_ff rfl]
  cases hb : Op.bytesLess x y with
  | true => rw [cond_tt rfl, if_pos rfl]
  | false =>
    rw [cond_ff rfl, if_neg (by simp), Bool.false_or]
    by_cases h : x = y
    · rw [beq_iff_eq.2 h, if_pos h]; rfl
    · rw [beq_eq_false_iff_ne.2 h, if_neg h]; rfl
theorem cmp_loop (a b : L2) (ha : a.length ≤ 1048577) (hb : b.length ≤ 1048577) (g : Nat) : ∀ (d i fu : Nat), a.length - i = d → i ≤ a.length → i ≤ b.length → d < fu →
    ∃ c : Int, f_slices_Compare___string_string__L6 a b (fun _ => (bif (decide ((a.length : Int) < (b.length : Int))) then (some (-1 : Int)) else (some (0 : Int)))) g fu (i : Int) = some c ∧ decide (c < 0) = ah (a.drop i) (b.drop i)
  | _, _, 0, _, _, _, hf => absurd hf (Nat.not_lt_zero _)
  | 0, i, fu + 1, hd, hi, hib, _ => by
    have hia : i = a.length := by omega
    rw [f_slices_Compare___string_string__L6, cond_ff (dge (by omega)), List.drop_of_length_le (l := a) (by omega)]
    by_cases h : a.length < b.length
    · rw [cond_tt (decide_eq_true (by omega)), List.drop_eq_getElem_cons (by omega : i < b.length)]
      exact ⟨-1, rfl, rfl⟩
    · rw [cond_ff (decide_eq_false (by omega)), List.drop_of_length_le (l := b) (by omega)]
      exact ⟨0, rfl, rfl⟩
  | d + 1, i, fu + 1, hd, hi, hib, hf => by
    have hlt : i < a.length := by omega
    rw [f_slices_Compare___string_string__L6, cond_tt (dlt (by omega)), at_lt hlt, opt_of]
    by_cases h : i < b.length
    · rw [cond_ff (decide_eq_false (by omega)), at_lt h, opt_of, cmp_ok, opt_of, List.drop_eq_getElem_cons hlt, List.drop_eq_getElem_cons h, ah_cons]
      by_cases he : a[i] = b[i]
      · rw [he, less_self, if_neg (by simp), if_pos rfl, if_neg (by simp), cond_ff (show ((0 : Int) != 0) = false from rfl), wsucc (by omega)]
        exact cmp_loop a b ha hb g d (i + 1) fu (by omega) (by omega) (by omega) (by omega)
      · rw [if_pos he, if_neg he]
        cases hq : Op.bytesLess a[i] b[i] with
        | true => rw [if_pos rfl]; exact ⟨-1, rfl, rfl⟩
        | false => rw [if_neg (by simp)]; exact ⟨1, rfl, rfl⟩
    · rw [cond_tt (decide_eq_true (by omega)), List.drop_of_length_le (l := b) (by omega), ah_nil]
      exact ⟨1, rfl, rfl⟩
theorem ahead_ok : ∀ (fu : Nat) (a b : L2), a.length < fu → a.length ≤ 1048577 → f_lumref_ahead fu a b = some (ah a b)
  | 0, a, b, h, _ => absurd h (Nat.not_lt_zero _)
  | fu + 1, a, b, h, hl => by
    rw [f_lumref_ahead]
    cases b with
    | nil => rw [ah_nil]; rfl
    | cons y m =>
      rw [cond_ff (show (((y :: m).length : Int) == 0) = false from by rw [beq_eq_false_iff_ne, List.length_cons]; omega)]
      cases a with
      | nil => rfl
      | cons x l =>
        rw [List.length_cons] at h hl
        rw [cond_ff (show (((x :: l).length : Int) == 0) = false from by rw [beq_eq_false_iff_ne, List.length_cons]; omega), show at? (x :: l) (0 : Int) = some x from rfl, show at? (y :: m) (0 : Int) = some y from rfl, opt_of, opt_of, ah_cons]
        by_cases he : x = y
        · rw [beq_iff_eq.2 he, cond_ff (show (!true) = false from rfl), req_pos (by rw [List.length_cons]; omega), req_pos (by rw [List.length_cons]; omega), if_neg (by simpa using he)]
          show (opt (f_lumref_ahead fu l m) _) = _
          rw [ahead_ok fu l m (by omega) (by omega), opt_of]
        · rw [beq_eq_false_iff_ne.2 he, cond_tt (show (!false) = true from rfl), if_pos he, opt_of, opt_of]
def ls (p q : List UInt8) : Bool × Int := if (sp p).2 ≠ 0 then (false, (sp p).2) else if (sp q).2 ≠ 0 then (false, (sp q).2) else (ah (sp p).1 (sp q).1, 0)
theorem less2 (p q : List UInt8) (hp : p.length ≤ 1048576) (hq : q.length ≤ 1048576) (fu : Nat) (hf : 2000000 ≤ fu) : f_lumref_Less fu p q = some (ls p q) := by
  have h1 := sp_sm p hp
  have h2 := sp_sm q hq
  have hl1 := h1.1
  have hl2 := h2.1
  unfold f_lumref_Less ls
  rw [split2 p hp fu hf, opt_of]
  by_cases e1 : (sp p).2 = 0
  · rw [if_neg (by simpa using e1), cond_ff (show ((sp p).2 != 0) = false from by simpa using e1), split2 q hq fu hf, opt_of]
    by_cases e2 : (sp q).2 = 0
    · rw [if_neg (by simpa using e2), cond_ff (show ((sp q).2 != 0) = false from by simpa using e2), ahead_ok fu _ _ (by omega) (by omega), opt_of]
    · rw [if_pos e2, cond_tt (show ((sp q).2 != 0) = true from by simpa using e2)]
  · rw [if_pos e1, cond_tt (show ((sp p).2 != 0) = true from by simpa using e1)]
theorem compare1 (p q : List UInt8) (hp : p.length ≤ 1048576) (hq : q.length ≤ 1048576) (fu : Nat) (hf : 2000000 ≤ fu) : ∃ c : Int, f_names_Compare fu p q = some c ∧ decide (c < 0) = ah (sp p).1 (sp q).1 := by
  have h1 := sp_sm p hp
  have h2 := sp_sm q hq
  have hl1 := h1.1
  have hl2 := h2.1
  unfold f_names_Compare
  rw [split1 p hp fu hf, split1 q hq fu hf, opt_of, opt_of]
  obtain ⟨c, c1, c2⟩ := cmp_loop (sp p).1 (sp q).1 hl1 hl2 fu _ 0 fu rfl (Nat.zero_le _) (Nat.zero_le _) (by omega)
  unfold f_slices_Compare___string_string_
  rw [lt_of]
  rw [show (0 : Int) = ((0 : Nat) : Int) from rfl] at *
  rw [c1, opt_of]
  exact ⟨c, rfl, by rw [c2, List.drop_zero, List.drop_zero]⟩
end Go.Proofs.YtiioclkiapbjnaaGreatDoor.PNamesSays
namespace Go.Proofs.YtiioclkiapbjnaaGreatDoor.PWorld
open Go.RowKit YtiioclkiapbjnaaGreatDoor.En YtiioclkiapbjnaaGreatDoor U8 PNamesSays
open Go.Lib hiding cut
set_option linter.unusedVariables false
set_option linter.unusedSimpArgs false
abbrev It := S_api_Item
theorem split_parts : ∀ (n : Nat) (s : List UInt8), s.length ≤ n → [47] ++ s = (splitV s [47]).flatMap (fun x => [47] ++ x) ∧ ∀ x ∈ splitV s [47], (47 : UInt8) ∉ x
  | n, s, hn => by
    rcases Int.lt_or_le (indexByte s 47) 0 with h | h
    · have hm : indexByte s 47 = -1 := by have := indexByte_ge s 47; omega
      rw [split_miss hm]
      refine ⟨by simp, fun x hx hc => ?_⟩
      rw [List.mem_singleton.1 hx] at hc
      obtain ⟨k, hk⟩ := List.mem_iff_getElem?.1 hc
      exact indexByte_none hm k hk
    · obtain ⟨i, hi⟩ : ∃ i : Nat, indexByte s 47 = i := ⟨(indexByte s 47).toNat, by omega⟩
      have hlt := hit_lt hi
      rw [split_hit hi]
      match n with
      | 0 => omega
      | n + 1 =>
        obtain ⟨h1, h2⟩ := split_parts n (s.drop (i + 1)) (by rw [List.length_drop]; omega)
        obtain ⟨hat, hbe⟩ := indexByte_some hi
        have e47 : s[i] = 47 := by rw [List.getElem?_eq_getElem hlt] at hat; exact Option.some.inj hat
        refine ⟨?_, fun x hx => ?_⟩
        · rw [List.flatMap_cons, ← h1]
          conv => lhs; rw [← List.take_append_drop i s, List.drop_eq_getElem_cons hlt, e47]
          simp
        · rcases List.mem_cons.1 hx with rfl | hx
          · intro hc
            obtain ⟨k, hk⟩ := List.mem_iff_getElem?.1 hc
            rw [List.getElem?_take] at hk
            split at hk
            · rename_i hlk; exact hbe k hlk hk
            · cases hk
          · exact h2 x hx
theorem sp_good {p : List UInt8} (h : (sp p).2 = 0) (hne : (sp p).1 ≠ []) : p = (sp p).1.flatMap (fun x => [47] ++ x) ∧ (∀ x ∈ (sp p).1, (47 : UInt8) ∉ x) ∧ chk 0 (sp p).1 = 0 ∧ (sp p).1 = splitV (p.drop 1) [47] := by
  unfold sp at h hne ⊢
  by_cases h1 : p.take 1 ≠ [47]
  · rw [if_pos h1] at hne; exact absurd rfl hne
  rw [if_neg h1] at h hne ⊢
  by_cases h2 : p = [47]
  · rw [if_pos h2] at hne; exact absurd rfl hne
  rw [if_neg h2] at h hne ⊢
  by_cases h3 : chk 0 (splitV (p.drop 1) [47]) ≠ 0
  · rw [if_pos h3] at hne; exact absurd rfl hne
  rw [if_neg h3] at h hne ⊢
  obtain ⟨e1, e2⟩ := split_parts _ (p.drop 1) (Nat.le_refl _)
  refine ⟨?_, e2, by simpa using h3, rfl⟩
  show p = (splitV (p.drop 1) [47]).flatMap _
  rw [← e1]
  have := List.take_append_drop 1 p
  rw [show p.take 1 = [47] from by simpa using h1] at this
  exact this.symm
theorem sp_zero_take {p : List UInt8} (h : (sp p).2 = 0) : p.take 1 = [47] := by
  unfold sp at h
  by_cases h1 : p.take 1 ≠ [47]
  · rw [if_pos h1] at h; exact absurd h (by decide)
  · simpa using h1
theorem bat {s : List UInt8} {i : Nat} : En.bAt s (i : Int) = ((s.getD i 0).toNat : Int) := rfl
theorem last_go (a b : List UInt8) (hb : (47 : UInt8) ∉ b) (hl : a.length + b.length + 1 ≤ 1048577) (kk : Unit → Option Int) : ∀ (d i fu : Nat), i = a.length + d → d ≤ b.length → d < fu → f_bytealg_LastIndexByteString_L5 (a ++ 47 :: b) 47 kk fu (i : Int) = some (a.length : Int)
  | _, _, 0, _, _, h => absurd h (Nat.not_lt_zero _)
  | 0, i, fu + 1, hi, _, _ => by
    subst hi
    rw [f_bytealg_LastIndexByteString_L5, cond_tt (decide_eq_true (by omega)), req_pos ⟨by omega, by rw [List.length_append, List.length_cons]; omega⟩, bat, show (a ++ 47 :: b).getD (a.length + 0) 0 = 47 from by simp [List.getD], cond_tt (by decide)]; rfl
  | d + 1, i, fu + 1, hi, hd, hf => by
    have hlt : d < b.length := by omega
    have hne : b[d] ≠ 47 := fun e => hb (e ▸ List.getElem_mem hlt)
    have hg : (a ++ 47 :: b).getD i 0 = b[d] := by
      rw [List.getD_eq_getElem?_getD, List.getElem?_append_right (by omega), show i - a.length = d + 1 from by omega, List.getElem?_cons_succ, List.getElem?_eq_getElem hlt]; rfl
    rw [f_bytealg_LastIndexByteString_L5, cond_tt (decide_eq_true (by omega)), req_pos ⟨by omega, by rw [List.length_append, List.length_cons]; omega⟩, bat, hg, cond_ff (by
      rw [beq_eq_false_iff_ne]; intro e
      exact hne (UInt8.toNat_inj.1 (by rw [show (b[d].toNat : Nat) = 47 from by omega]; rfl))), show IntKind.i64.wrap ((i : Int) - 1) = ((i - 1 : Nat) : Int) from by rw [w64 (by omega) (by omega)]; omega]
    exact last_go a b hb hl kk d (i - 1) fu (by omega) (by omega) (by omega)
theorem last_ok (a b : List UInt8) (hb : (47 : UInt8) ∉ b) (hl : a.length + b.length + 1 ≤ 1048577) (fu : Nat) (hf : 2000000 ≤ fu) : f_bytealg_LastIndexByteString fu (a ++ 47 :: b) 47 = some (a.length : Int) := by
  unfold f_bytealg_LastIndexByteString
  rw [lt_of, show IntKind.i64.wrap (((a ++ 47 :: b).length : Int) - 1) = ((a.length + b.length : Nat) : Int) from by rw [List.length_append, List.length_cons, w64 (by omega) (by omega)]; omega]
  exact last_go a b hb hl _ b.length _ fu rfl (Nat.le_refl _) (by omega)
def par (p : List UInt8) : List UInt8 := ((sp p).1.take ((sp p).1.length - 1)).flatMap (fun x => [47] ++ x)
theorem par_last {l : L2} (h : l ≠ []) : l.flatMap (fun x => [47] ++ x) = (l.take (l.length - 1)).flatMap (fun x => [47] ++ x) ++ 47 :: l.getLast h := by
  have e := List.dropLast_concat_getLast h
  have e2 : (l.dropLast ++ [l.getLast h]).flatMap (fun x => [47] ++ x) = l.dropLast.flatMap (fun x => [47] ++ x) ++ [l.getLast h].flatMap (fun x => [47] ++ x) := List.flatMap_append
  rw [e] at e2
  rw [e2, List.dropLast_eq_take, List.flatMap_singleton]; rfl
theorem par_split {p : List UInt8} (h : (sp p).2 = 0) (hne : (sp p).1 ≠ []) : p = par p ++ 47 :: (sp p).1.getLast hne ∧ (47 : UInt8) ∉ (sp p).1.getLast hne := by
  obtain ⟨h1, h2, h3, _⟩ := sp_good h hne
  refine ⟨?_, h2 _ (List.getLast_mem hne)⟩
  conv => lhs; rw [h1]
  exact par_last hne
theorem parent_ok {p : List UInt8} (h : (sp p).2 = 0) (hne : (sp p).1 ≠ []) (hp : p.length ≤ 1048576) (fu : Nat) (hf : 2000000 ≤ fu) : f_walk_Parent fu p = some (par p) := by
  obtain ⟨h1, h2⟩ := par_split h hne
  unfold f_walk_Parent f_strings_LastIndexByte
  generalize hb : (sp p).1.getLast hne = b at h1 h2
  generalize ha : par p = a at h1
  subst h1
  rw [List.length_append, List.length_cons] at hp
  rw [last_ok a b h2 (by omega) fu hf, opt_of, opt_of, req_pos ⟨by omega, by rw [List.length_append]; omega⟩, Int.toNat_natCast, List.take_left]
def itemV (x : It) : Int := if (sp x.Path).2 ≠ 0 then (sp x.Path).2 else if (sp x.Path).1 = [] then 8 else if ¬ (x.Kind = 1 ∨ x.Kind = 2 ∨ x.Kind = 3) then 5 else if x.Mode < 0 ∨ x.Mode > 511 then 1
  else if (x.Kind = 1 ∧ x.Bytes.length > 4096) ∨ (x.Kind = 2 ∧ x.Bytes ≠ []) ∨ (x.Kind = 3 ∧ x.Bytes.length > 1024) then 2 else if x.Kind = 3 ∧ x.Bytes = [] then 4 else 0
theorem len0 {α : Type} (l : List α) : ((l.length : Int) == 0) = decide (l = []) := by
  cases l with
  | nil => rfl
  | cons a t => rw [beq_eq_false_iff_ne.2 (by rw [List.length_cons]; omega)]; rfl
theorem ne0 (e : Int) : (e != 0) = decide (e ≠ 0) := by by_cases h : e = 0 <;> simp [h]
theorem nlt (a b : Nat) : (a > b) = ((b : Int) < (a : Int)) := by rw [eq_iff_iff]; omega
theorem item1 (x : It) (hp : x.Path.length ≤ 1048576) (fu : Nat) (hf : 2000000 ≤ fu) : f_walk_item fu x = some (itemV x) := by
  unfold f_walk_item itemV f_tree_Known
  rw [split1 _ hp fu hf, opt_of, ne0, cond_dec, len0, cond_dec]
  split
  · rfl
  split
  · rfl
  by_cases k1 : x.Kind = 1
  · rw [k1]
    simp only [lt_of]
    by_cases m0 : x.Mode < 0
    · simp [m0]
    by_cases m1 : 511 < x.Mode
    · simp [m0, m1]
    by_cases b1 : (4096 : Int) < (x.Bytes.length : Int)
    · simp [m0, m1, b1, nlt]
    · simp [m0, m1, b1, nlt]
  by_cases k2 : x.Kind = 2
  · rw [k2]
    simp only [lt_of]
    by_cases m0 : x.Mode < 0
    · simp [m0]
    by_cases m1 : 511 < x.Mode
    · simp [m0, m1]
    by_cases b1 : x.Bytes = []
    · simp [m0, m1, b1, nlt]
    · have b2 : (x.Bytes == []) = false := by simpa using b1
      simp [m0, m1, b1, b2, nlt]
  by_cases k3 : x.Kind = 3
  · rw [k3]
    simp only [lt_of]
    by_cases m0 : x.Mode < 0
    · simp [m0]
    by_cases m1 : 511 < x.Mode
    · simp [m0, m1]
    by_cases b1 : (1024 : Int) < (x.Bytes.length : Int)
    · simp [m0, m1, b1, nlt]
    by_cases b2 : x.Bytes = []
    · simp [m0, m1, b1, b2, nlt]
    · have b3 : (x.Bytes == []) = false := by simpa using b2
      simp [m0, m1, b1, b2, b3, nlt]
  · have hk : ¬ (1 ≤ x.Kind ∧ x.Kind ≤ 3) := by omega
    rw [if_pos (by simp [k1, k2, k3])]
    by_cases h1 : 1 ≤ x.Kind
    · have h3 : ¬ x.Kind ≤ 3 := fun h => hk ⟨h1, h⟩
      simp [h1, h3]
    · simp [h1]
theorem item2 (x : It) (hp : x.Path.length ≤ 1048576) (fu : Nat) (hf : 2000000 ≤ fu) : f_lumref_itemErr fu x = some (itemV x) := by
  unfold f_lumref_itemErr itemV
  rw [split2 _ hp fu hf, opt_of, ne0, cond_dec, len0, cond_dec]
  split
  · rfl
  split
  · rfl
  by_cases k1 : x.Kind = 1
  · rw [k1]
    simp only [lt_of]
    by_cases m0 : x.Mode < 0
    · simp [m0]
    by_cases m1 : 511 < x.Mode
    · simp [m0, m1]
    by_cases b1 : (4096 : Int) < (x.Bytes.length : Int)
    · simp [m0, m1, b1, nlt]
    · simp [m0, m1, b1, nlt]
  by_cases k2 : x.Kind = 2
  · rw [k2]
    simp only [lt_of]
    by_cases m0 : x.Mode < 0
    · simp [m0]
    by_cases m1 : 511 < x.Mode
    · simp [m0, m1]
    by_cases b1 : x.Bytes = []
    · simp [m0, m1, b1, nlt]
    · have b2 : (x.Bytes == []) = false := by simpa using b1
      simp [m0, m1, b1, b2, nlt]
  by_cases k3 : x.Kind = 3
  · rw [k3]
    simp only [lt_of]
    by_cases m0 : x.Mode < 0
    · simp [m0]
    by_cases m1 : 511 < x.Mode
    · simp [m0, m1]
    by_cases b1 : (1024 : Int) < (x.Bytes.length : Int)
    · simp [m0, m1, b1, nlt]
    by_cases b2 : x.Bytes = []
    · simp [m0, m1, b1, b2, nlt]
    · have b3 : (x.Bytes == []) = false := by simpa using b2
      simp [m0, m1, b1, b2, b3, nlt]
  · rw [if_pos (by simp [k1, k2, k3]), show (x.Kind != 1) = true from by rw [bne_iff_ne]; exact k1, show (x.Kind != 2) = true from by rw [bne_iff_ne]; exact k2, show (x.Kind != 3) = true from by rw [bne_iff_ne]; exact k3]; rfl
theorem itemV_zero {x : It} (h : itemV x = 0) : (sp x.Path).2 = 0 ∧ (sp x.Path).1 ≠ [] := by
  unfold itemV at h
  by_cases h1 : (sp x.Path).2 ≠ 0
  · rw [if_pos h1] at h; exact absurd h h1
  rw [if_neg h1] at h
  by_cases h2 : (sp x.Path).1 = []
  · rw [if_pos h2] at h; exact absurd h (by decide)
  · exact ⟨by simpa using h1, h2⟩
theorem ah_irr : ∀ l : L2, ah l l = false
  | [] => rfl
  | x :: l => by rw [ah_cons, if_neg (by simp), ah_irr l]
theorem ah_trans : ∀ {a b c : L2}, ah a b = true → ah b c = true → ah a c = true
  | a, [], c, h, _ => by rw [ah_nil] at h; cases h
  | a, _ :: _, [], _, h => by rw [ah_nil] at h; cases h
  | [], _ :: _, _ :: _, _, _ => rfl
  | x :: a, y :: b, z :: c, h, h' => by
    rw [ah_cons] at h h' ⊢
    by_cases e1 : x = y
    · subst e1
      rw [if_neg (by simp)] at h
      by_cases e2 : x = z
      · subst e2
        rw [if_neg (by simp)] at h' ⊢
        exact ah_trans h h'
      · rw [if_pos e2] at h' ⊢; exact h'
    · rw [if_pos e1] at h
      by_cases e2 : y = z
      · subst e2; rw [if_pos e1]; exact h
      · rw [if_pos e2] at h'
        have h3 := StrOrd.trans h h'
        rw [if_pos (fun e => by subst e; exact StrOrd.irr _ h3)]; exact h3
def pth (x : It) : L2 := (sp x.Path).1
def bel (x y : It) : Bool := ah (pth x) (pth y)
def parOK (w : List It) (x : It) : Bool := decide ((pth x).length = 1) || w.any (fun y => y.Path == par x.Path && y.Kind == 2)
def wGo : List It → List It → Int
  | _, [] => 0
  | w, x :: t => if itemV x ≠ 0 then itemV x else if (w.getLast?.any fun y => !bel y x) = true then 4 else if parOK w x = false then 9 else wGo (w ++ [x]) t
theorem wGo_cons (w : List It) (x : It) (t : List It) : wGo w (x :: t) = if itemV x ≠ 0 then itemV x else if (w.getLast?.any fun y => !bel y x) = true then 4 else if parOK w x = false then 9 else wGo (w ++ [x]) t := rfl
def worldV (w : List It) : Int := if w.length > 100 then 2 else wGo [] w
def Good (w : List It) : Prop := (∀ x ∈ w, itemV x = 0) ∧ w.Pairwise (fun x y => bel x y = true)
theorem good_snoc {w : List It} {x : It} (h : Good w) (hx : itemV x = 0) (hl : (w.getLast?.any fun y => !bel y x) = false) : Good (w ++ [x]) := by
  refine ⟨fun y hy => ?_, ?_⟩
  · rcases List.mem_append.1 hy with hy | hy
    · exact h.1 y hy
    · rw [List.mem_singleton.1 hy]; exact hx
  · rw [List.pairwise_append]
    refine ⟨h.2, List.pairwise_singleton _ _, fun y hy z hz => ?_⟩
    rw [List.mem_singleton.1 hz]
    have hne : w ≠ [] := fun e => by rw [e] at hy; cases hy
    rw [List.getLast?_eq_some_getLast hne] at hl
    have h1 : bel (w.getLast hne) x = true := by simpa using hl
    obtain ⟨l1, l2, e⟩ := List.append_of_mem hy
    by_cases h2 : l2 = []
    · have : y = w.getLast hne := by subst e; subst h2; simp
      rw [this]; exact h1
    · have hp := h.2
      rw [e, List.pairwise_append] at hp
      have h3 := (List.pairwise_cons.1 hp.2.1).1 (l2.getLast h2) (List.getLast_mem h2)
      have h4 : w.getLast hne = l2.getLast h2 := by subst e; simp [List.getLast_append, List.getLast_cons h2]
      rw [h4] at h1
      exact ah_trans h3 h1
theorem good_ne {w : List It} {x : It} (h : Good (w ++ [x])) {y : It} (hy : y ∈ w) : y.Path ≠ x.Path := fun e => by
  have := (List.pairwise_append.1 h.2).2.2 y hy x (by simp)
  unfold bel pth at this
  rw [e, ah_irr] at this; cases this
def Tab (D : List (List UInt8 × Bool)) (w : List It) : Prop := ∀ q, (gget D q).getD false = (decide (q = []) || w.any (fun y => y.Path == q && y.Kind == 2))
theorem path_ne {x : It} (h : itemV x = 0) : x.Path ≠ [] := fun e => by
  have := sp_zero_take (itemV_zero h).1
  rw [e] at this; cases this
theorem tab_snoc {D : List (List UInt8 × Bool)} {w : List It} {x : It} (h : Tab D w) (hg : Good (w ++ [x])) : Tab (gset D x.Path (x.Kind == 2)) (w ++ [x]) := fun q => by
  rw [gget_gset, List.any_append, List.any_cons, List.any_nil, Bool.or_false]
  by_cases e : x.Path = q
  · subst e
    rw [if_pos rfl]
    have h1 : (w.any fun y => y.Path == x.Path && y.Kind == 2) = false := by
      rw [List.any_eq_false]; intro y hy
      simp [good_ne hg hy]
    have h2 : x.Path ≠ [] := path_ne (hg.1 x (by simp))
    rw [h1, decide_eq_false h2]; simp
  · rw [if_neg e, h q, beq_eq_false_iff_ne.2 e]; simp
theorem par_nil {x : It} (h : itemV x = 0) : par x.Path = [] ↔ (pth x).length = 1 := by
  obtain ⟨h1, h2⟩ := itemV_zero h
  have hl := List.length_pos_iff.2 h2
  unfold par pth
  constructor
  · intro e
    have e' : ((sp x.Path).1.take ((sp x.Path).1.length - 1)) = [] := by
      cases hq : (sp x.Path).1.take ((sp x.Path).1.length - 1) with
      | nil => rfl
      | cons a b => rw [hq] at e; simp at e
    have := congrArg List.length e'
    rw [List.length_take, List.length_nil] at this
    omega
  · intro e; rw [e]; rfl
theorem tab_par {D : List (List UInt8 × Bool)} {w : List It} (h : Tab D w) {x : It} (hx : itemV x = 0) : (gget D (par x.Path)).getD false = parOK w x := by
  rw [h]; unfold parOK
  rw [decide_eq_decide.2 (par_nil hx)]
def Sz (w : List It) : Prop := ∀ x ∈ w, x.Path.length ≤ 1048576
theorem par_len {p : List UInt8} (h : (sp p).2 = 0) (hne : (sp p).1 ≠ []) : (par p).length ≤ p.length := by
  obtain ⟨h1, _⟩ := par_split h hne
  have := congrArg List.length h1
  rw [List.length_append] at this; omega
theorem check_go (w : List It) (hs : Sz w) (hl : w.length ≤ 100) (g : Nat) (hg : 2000000 ≤ g) : ∀ (d i fu : Nat) (D : List (List UInt8 × Bool)), w.length - i = d → i ≤ w.length → d < fu → Good (w.take i) → Tab D (w.take i) →
    f_walk_Check_L8 w (fun _ => some (0 : Int)) g fu D (i : Int) = some (wGo (w.take i) (w.drop i))
  | _, _, 0, _, _, _, h, _, _ => absurd h (Nat.not_lt_zero _)
  | 0, i, fu + 1, D, hd, hi, _, _, _ => by
    rw [f_walk_Check_L8, cond_ff (dge (by omega)), List.drop_of_length_le (by omega)]; rfl
  | d + 1, i, fu + 1, D, hd, hi, hf, hG, hT => by
    have hlt : i < w.length := by omega
    have hx := hs _ (List.getElem_mem hlt)
    have htk : w.take (i + 1) = w.take i ++ [w[i]] := by rw [List.take_add_one, List.getElem?_eq_getElem hlt]; rfl
    rw [f_walk_Check_L8, cond_tt (dlt (by omega)), at_lt hlt, opt_of, List.drop_eq_getElem_cons hlt, wGo_cons, item1 _ hx g hg, opt_of]
    by_cases h0 : itemV w[i] = 0
    · rw [cond_ff (show (itemV w[i] != 0) = false from by simpa using h0), if_neg (by simpa using h0), lt_of]
      obtain ⟨s1, s2⟩ := itemV_zero h0
      have tail : ∀ b : Bool, b = ((w.take i).getLast?.any fun y => !bel y w[i]) →
          (bif b then (some (4 : Int)) else (opt (f_walk_Parent g w[i].Path) fun (r21 : (List UInt8)) => (req (r21.length ≤ 9223372036854775807) (bif (!((gget D r21).getD false)) then (some (9 : Int)) else (req (w[i].Path.length ≤ 9223372036854775807) (f_walk_Check_L8 w (fun _ => some (0 : Int)) g fu (gset D w[i].Path (w[i].Kind == (2 : Int))) (IntKind.i64.wrap ((i : Int) + (1 : Int)))))))))
            = some (if ((w.take i).getLast?.any fun y => !bel y w[i]) = true then 4 else if parOK (w.take i) w[i] = false then 9 else wGo (w.take i ++ [w[i]]) (w.drop (i + 1))) := by
        intro b hb
        rw [← hb]
        cases b with
        | true => rfl
        | false =>
          have hG2 := good_snoc hG h0 hb.symm
          have hpl := par_len s1 s2
          rw [cond_ff rfl, if_neg (by simp), parent_ok s1 s2 hx g hg, opt_of, req_pos (by omega), tab_par hT h0]
          cases hpo : parOK (w.take i) w[i] with
          | false => rfl
          | true =>
            rw [cond_ff (show (!true) = false from rfl), if_neg (by simp), req_pos (by omega), wsucc (by omega), ← htk]
            exact check_go w hs hl g hg d (i + 1) fu _ (by omega) (by omega) (by omega) (by rw [htk]; exact hG2) (by rw [htk]; exact tab_snoc hT hG2)
      by_cases hi0 : 0 < i
      · have hlt1 : i - 1 < w.length := by omega
        have hlast : (w.take i).getLast? = some w[i - 1] := by
          rw [List.getLast?_eq_getElem?, List.length_take, Nat.min_eq_left hi, List.getElem?_take_of_lt (by omega), List.getElem?_eq_getElem hlt1]
        obtain ⟨c, c1, c2⟩ := compare1 w[i - 1].Path w[i].Path (hs _ (List.getElem_mem hlt1)) hx g hg
        rw [cond_tt (decide_eq_true (by omega)), show IntKind.i64.wrap ((i : Int) - 1) = ((i - 1 : Nat) : Int) from by rw [w64 (by omega) (by omega)]; omega, at_lt hlt1, opt_of, c1, opt_of]
        refine tail (decide (c ≥ 0)) ?_
        rw [hlast]
        show decide (c ≥ 0) = !bel w[i - 1] w[i]
        unfold bel pth
        rw [← c2]
        by_cases hc : c < 0
        · rw [decide_eq_true hc, decide_eq_false (by omega)]; rfl
        · rw [decide_eq_false hc, decide_eq_true (by omega)]; rfl
      · have : i = 0 := by omega
        subst this
        rw [cond_ff (by decide)]
        exact tail false rfl
    · rw [cond_tt (show (itemV w[i] != 0) = true from by simpa using h0), if_pos h0]
theorem check_ok (w : List It) (hs : Sz w) (fu : Nat) (hf : 2000000 ≤ fu) : f_walk_Check fu w = some (worldV w) := by
  unfold f_walk_Check worldV
  by_cases h : w.length > 100
  · rw [cond_tt (decide_eq_true (by omega)), if_pos h]
  · rw [cond_ff (decide_eq_false (by omega)), if_neg h, req_pos (by simp), lt_of]
    have := check_go w hs (by omega) fu hf _ 0 fu (gset [] [] true) rfl (Nat.zero_le _) (by omega) ⟨by simp, by simp⟩ (fun q => by
      show ((if ([] : List UInt8) = q then some true else gget [] q).getD false) = _
      by_cases e : q = []
      · rw [if_pos e.symm, e]; rfl
      · rw [if_neg (fun h => e h.symm), decide_eq_false e]; rfl)
    exact this
theorem found_go (w : List It) (i : Nat) (hi : i ≤ w.length) (hl : w.length ≤ 100) (r : List UInt8 × Int) (kk : Bool → Option Int) : ∀ (d j fu : Nat) (b : Bool), i - j = d → j ≤ i → d < fu →
    f_lumref_World_L34 w (i : Int) r kk fu b (j : Int) = kk (b || ((w.take i).drop j).any fun y => y.Path == r.1 && y.Kind == 2)
  | _, _, 0, _, _, _, h => absurd h (Nat.not_lt_zero _)
  | 0, j, fu + 1, b, hd, hj, _ => by
    rw [f_lumref_World_L34, Int.toNat_natCast, cond_ff (dge (by rw [List.length_take]; omega)), List.drop_of_length_le (by rw [List.length_take]; omega), List.any_nil, Bool.or_false]
  | d + 1, j, fu + 1, b, hd, hj, hf => by
    have hlen : (w.take i).length = i := by rw [List.length_take]; omega
    have hlt : j < (w.take i).length := by omega
    rw [f_lumref_World_L34, Int.toNat_natCast, cond_tt (dlt (by omega)), lt_of, at_lt hlt, opt_of, List.drop_eq_getElem_cons hlt, List.any_cons, wsucc (by omega)]
    have ih := fun b' => found_go w i hi hl r kk d (j + 1) fu b' (by omega) (by omega) (by omega)
    cases b with
    | true => rw [cond_tt rfl]; exact (ih true).trans (by simp)
    | false =>
      rw [cond_ff rfl, Bool.false_or]
      by_cases h1 : (w.take i)[j].Path = r.1
      · rw [cond_tt (beq_iff_eq.2 h1), beq_iff_eq.2 h1, Bool.true_and]; exact ih _
      · rw [cond_ff (beq_eq_false_iff_ne.2 h1), beq_eq_false_iff_ne.2 h1, Bool.false_and, Bool.false_or]; exact (ih false).trans (by rw [Bool.false_or])
theorem up_ok {x : It} (h : itemV x = 0) (hx : x.Path.length ≤ 1048576) : jr ((pth x).take ((pth x).length - 1)) = (if par x.Path = [] then [47] else par x.Path, 0) := by
  obtain ⟨s1, s2⟩ := itemV_zero h
  obtain ⟨_, _, h3, _⟩ := sp_good s1 s2
  have hck : ∀ (l : L2) (i k : Nat), chk i l = 0 → chk i (l.take k) = 0 := by
    intro l
    induction l with
    | nil => intro i k h; rw [List.take_nil]; exact h
    | cons a t ih =>
      intro i k h
      cases k with
      | zero => rfl
      | succ k =>
        rw [List.take_succ_cons, chk_cons]
        rw [chk_cons] at h
        by_cases h1 : 8 ≤ i
        · rw [if_pos h1] at h; exact absurd h (by decide)
        rw [if_neg h1] at h ⊢
        by_cases h2 : nameV a ≠ 0
        · rw [if_pos h2] at h; exact absurd h h2
        rw [if_neg h2] at h ⊢
        exact ih _ _ h
  unfold jr jn par pth
  rw [hck _ 0 _ h3, if_neg (by simp)]
  cases hq : (sp x.Path).1.take ((sp x.Path).1.length - 1) with
  | nil => rfl
  | cons a b => rw [if_neg (by simp), if_neg (by simp)]
theorem up_eq {x : It} (h : itemV x = 0) (w : List It) (hG : Good w) : ((if par x.Path = [] then [47] else par x.Path) == [47] || w.any fun y => y.Path == (if par x.Path = [] then [47] else par x.Path) && y.Kind == 2) = parOK w x := by
  unfold parOK
  by_cases e : par x.Path = []
  · rw [if_pos e, decide_eq_true ((par_nil h).1 e)]; rfl
  · rw [if_neg e, decide_eq_false (fun h' => e ((par_nil h).2 h')), Bool.false_or]
    have : (par x.Path == [47]) = false := by
      rw [beq_eq_false_iff_ne]; intro e2
      obtain ⟨s1, s2⟩ := itemV_zero h
      obtain ⟨_, _, h3, _⟩ := sp_good s1 s2
      unfold par at e2
      cases hq : (sp x.Path).1 with
      | nil => exact s2 hq
      | cons a t =>
        rw [hq] at e2 h3
        cases t with
        | nil => exact absurd e2 (by simp)
        | cons b t =>
          rw [chk_cons] at h3
          by_cases h2 : nameV a ≠ 0
          · rw [if_neg (by decide), if_pos h2] at h3; exact h2 h3
          · simp at e2
            have ha := e2.1
            subst ha
            exact h2 (by decide)
    rw [this, Bool.false_or]
theorem world_go (w : List It) (hs : Sz w) (hl : w.length ≤ 100) (g : Nat) (hg : 2000000 ≤ g) : ∀ (d i fu : Nat), w.length - i = d → i ≤ w.length → d < fu → Good (w.take i) →
    f_lumref_World_L6 w (fun _ => some (0 : Int)) g fu (i : Int) = some (wGo (w.take i) (w.drop i))
  | _, _, 0, _, _, h, _ => absurd h (Nat.not_lt_zero _)
  | 0, i, fu + 1, hd, hi, _, _ => by
    rw [f_lumref_World_L6, lt_of, cond_ff (dge (by omega)), List.drop_of_length_le (by omega)]; rfl
  | d + 1, i, fu + 1, hd, hi, hf, hG => by
    have hlt : i < w.length := by omega
    have hx := hs _ (List.getElem_mem hlt)
    have htk : w.take (i + 1) = w.take i ++ [w[i]] := by rw [List.take_add_one, List.getElem?_eq_getElem hlt]; rfl
    rw [f_lumref_World_L6, lt_of, cond_tt (dlt (by omega)), lt_of, at_lt hlt, opt_of, List.drop_eq_getElem_cons hlt, wGo_cons, item2 _ hx g hg, opt_of]
    by_cases h0 : itemV w[i] = 0
    · rw [cond_ff (show (itemV w[i] != 0) = false from by simpa using h0), if_neg (by simpa using h0), lt_of]
      obtain ⟨s1, s2⟩ := itemV_zero h0
      have hsm := sp_sm w[i].Path hx
      have hsl := hsm.1
      have hpos := List.length_pos_iff.2 s2
      have ew : IntKind.i64.wrap (((sp w[i].Path).1.length : Int) - 1) = (((sp w[i].Path).1.length - 1 : Nat) : Int) := by rw [w64 (by omega) (by omega)]; omega
      have tail : ((w.take i).getLast?.any fun y => !bel y w[i]) = false →
          (opt (f_lumref_Split g w[i].Path) fun (r21 : ((List (List UInt8)) × Int)) => (req (0 ≤ (IntKind.i64.wrap ((r21.1.length : Int) - (1 : Int))) ∧ (IntKind.i64.wrap ((r21.1.length : Int) - (1 : Int))) ≤ (r21.1.length : Int)) (opt (f_lumref_Join g (r21.1.take ((IntKind.i64.wrap ((r21.1.length : Int) - (1 : Int)))).toNat)) fun (r26 : ((List UInt8) × Int)) => (lt (fun (j27b12 : Bool) => (bif (!j27b12) then (some (9 : Int)) else (f_lumref_World_L6 w (fun _ => some (0 : Int)) g fu (IntKind.i64.wrap ((i : Int) + (1 : Int)))))) fun (kk28 : Bool → Option Int) => (req (0 ≤ (i : Int) ∧ (i : Int) ≤ (w.length : Int)) (f_lumref_World_L34 w (i : Int) r26 kk28 g (r26.1 == ([47] : List UInt8)) (0 : Int)))))))
            = some (if ((w.take i).getLast?.any fun y => !bel y w[i]) = true then 4 else if parOK (w.take i) w[i] = false then 9 else wGo (w.take i ++ [w[i]]) (w.drop (i + 1))) := by
        intro hb
        have hG2 := good_snoc hG h0 hb
        rw [hb, if_neg (by simp), split2 _ hx g hg, opt_of, ew, req_pos ⟨by omega, by omega⟩, Int.toNat_natCast, join2 _ ⟨by rw [List.length_take]; omega, fun s hs' => hsm.2 s (List.mem_of_mem_take hs')⟩ g hg, opt_of, lt_of, req_pos ⟨by omega, by omega⟩]
        have hu := up_ok h0 hx
        unfold pth at hu
        rw [hu]
        refine (found_go w i hi hl _ _ i 0 g _ (by omega) (by omega) (by omega)).trans ?_
        rw [List.drop_zero]
        dsimp only
        rw [up_eq h0 _ hG]
        cases hpo : parOK (w.take i) w[i] with
        | false => rfl
        | true =>
          rw [cond_ff (show (!true) = false from rfl), if_neg (by simp), wsucc (by omega), ← htk]
          exact world_go w hs hl g hg d (i + 1) fu (by omega) (by omega) (by omega) (by rw [htk]; exact hG2)
      by_cases hi0 : 0 < i
      · have hlt1 : i - 1 < w.length := by omega
        have hx1 := hs _ (List.getElem_mem hlt1)
        have hlast : (w.take i).getLast? = some w[i - 1] := by
          rw [List.getLast?_eq_getElem?, List.length_take, Nat.min_eq_left hi, List.getElem?_take_of_lt (by omega), List.getElem?_eq_getElem hlt1]
        have hprev : (sp w[i - 1].Path).2 = 0 := (itemV_zero (hG.1 w[i - 1] (List.mem_of_getLast? hlast))).1
        rw [cond_tt (decide_eq_true (by omega)), show IntKind.i64.wrap ((i : Int) - 1) = ((i - 1 : Nat) : Int) from by rw [w64 (by omega) (by omega)]; omega, at_lt hlt1, opt_of, less2 _ _ hx1 hx g hg, opt_of]
        have hls : ls w[i - 1].Path w[i].Path = (bel w[i - 1] w[i], 0) := by
          unfold ls bel pth
          rw [hprev, if_neg (by simp), s1, if_neg (by simp)]
        rw [hls]
        dsimp only
        cases hb : bel w[i - 1] w[i] with
        | true => rw [cond_ff (show (!true) = false from rfl)]; exact tail (by rw [hlast]; show (!bel w[i - 1] w[i]) = false; rw [hb]; rfl)
        | false => rw [cond_tt (show (!false) = true from rfl), hlast, if_pos (show (some w[i - 1]).any (fun y => !bel y w[i]) = true from by show (!bel w[i - 1] w[i]) = true; rw [hb]; rfl)]
      · have : i = 0 := by omega
        subst this
        rw [cond_ff (by decide)]
        exact tail rfl
    · rw [cond_tt (show (itemV w[i] != 0) = true from by simpa using h0), if_pos h0]
theorem world_ok (w : List It) (hs : Sz w) (fu : Nat) (hf : 2000000 ≤ fu) : f_lumref_World fu w = some (worldV w) := by
  unfold f_lumref_World worldV
  by_cases h : w.length > 100
  · rw [cond_tt (decide_eq_true (by omega)), if_pos h]
  · rw [cond_ff (decide_eq_false (by omega)), if_neg h, lt_of]
    exact world_go w hs (by omega) fu hf _ 0 fu rfl (Nat.zero_le _) (by omega) ⟨by simp, by simp⟩
theorem wGo_good : ∀ (t w : List It), Good w → wGo w t = 0 → Good (w ++ t)
  | [], w, h, _ => by rw [List.append_nil]; exact h
  | x :: t, w, h, h0 => by
    rw [wGo_cons] at h0
    by_cases h1 : itemV x ≠ 0
    · rw [if_pos h1] at h0; exact absurd h0 h1
    rw [if_neg h1] at h0
    by_cases h2 : (w.getLast?.any fun y => !bel y x) = true
    · rw [if_pos h2] at h0; exact absurd h0 (by decide)
    rw [if_neg h2] at h0
    by_cases h3 : parOK w x = false
    · rw [if_pos h3] at h0; exact absurd h0 (by decide)
    rw [if_neg h3] at h0
    have := wGo_good t (w ++ [x]) (good_snoc h (by simpa using h1) (by simpa using h2)) h0
    rw [List.append_assoc] at this; exact this
theorem world_good {w : List It} (h : worldV w = 0) : Good w ∧ w.length ≤ 100 := by
  unfold worldV at h
  by_cases h1 : w.length > 100
  · rw [if_pos h1] at h; exact absurd h (by decide)
  · rw [if_neg h1] at h
    exact ⟨by have := wGo_good w [] ⟨by simp, by simp⟩ h; rwa [List.nil_append] at this, by omega⟩
end Go.Proofs.YtiioclkiapbjnaaGreatDoor.PWorld
namespace Go.Proofs.YtiioclkiapbjnaaGreatDoor.PPlant
open Go.RowKit YtiioclkiapbjnaaGreatDoor.En YtiioclkiapbjnaaGreatDoor PNamesSays PWorld
open Go.Lib hiding cut
set_option linter.unusedVariables false
set_option linter.unusedSimpArgs false
def enc (l : L2) : List UInt8 := l.flatMap (fun x => [47] ++ x)
theorem enc_cons (x : List UInt8) (l : L2) : enc (x :: l) = 47 :: (x ++ enc l) := by unfold enc; rw [List.flatMap_cons]; rfl
theorem cut_eq : ∀ {x y r s : List UInt8}, (47 : UInt8) ∉ x → (47 : UInt8) ∉ y → (r = [] ∨ ∃ r', r = 47 :: r') → (s = [] ∨ ∃ s', s = 47 :: s') → x ++ r = y ++ s → x = y ∧ r = s
  | [], [], r, s, _, _, _, _, h => ⟨rfl, h⟩
  | [], c :: y, r, s, _, hy, hr, _, h => by
    rcases hr with rfl | ⟨r', rfl⟩
    · simp at h
    · simp at h
      exact absurd (h.1 ▸ List.mem_cons_self) hy
  | c :: x, [], r, s, hx, _, _, hs, h => by
    rcases hs with rfl | ⟨s', rfl⟩
    · simp at h
    · simp at h
      exact absurd (h.1 ▸ List.mem_cons_self) hx
  | c :: x, e :: y, r, s, hx, hy, hr, hs, h => by
    rw [List.cons_append, List.cons_append, List.cons.injEq] at h
    obtain ⟨h1, h2⟩ := cut_eq (fun h => hx (.tail _ h)) (fun h => hy (.tail _ h)) hr hs h.2
    exact ⟨by rw [h.1, h1], h2⟩
theorem enc_form : ∀ l : L2, enc l = [] ∨ ∃ r, enc l = 47 :: r
  | [] => .inl rfl
  | x :: l => .inr ⟨_, enc_cons x l⟩
theorem enc_inj : ∀ {a b : L2}, (∀ x ∈ a, (47 : UInt8) ∉ x) → (∀ x ∈ b, (47 : UInt8) ∉ x) → enc a = enc b → a = b
  | [], [], _, _, _ => rfl
  | [], y :: b, _, _, h => by rw [enc_cons] at h; cases h
  | x :: a, [], _, _, h => by rw [enc_cons] at h; cases h
  | x :: a, y :: b, ha, hb, h => by
    rw [enc_cons, enc_cons, List.cons.injEq] at h
    obtain ⟨h1, h2⟩ := cut_eq (ha x (.head _)) (hb y (.head _)) (enc_form a) (enc_form b) h.2
    rw [h1, enc_inj (fun x hx => ha x (.tail _ hx)) (fun x hx => hb x (.tail _ hx)) h2]
def Fr (l : L2) : Prop := ∀ x ∈ l, (47 : UInt8) ∉ x
theorem pth_ok {x : It} (h : itemV x = 0) : x.Path = enc (pth x) ∧ Fr (pth x) ∧ (pth x).length ≤ 8 ∧ 1 ≤ (pth x).length := by
  obtain ⟨s1, s2⟩ := itemV_zero h
  obtain ⟨h1, h2, h3, _⟩ := sp_good s1 s2
  have := chk_len _ 0 h3 (by omega)
  exact ⟨h1, h2, by unfold pth; omega, List.length_pos_iff.2 s2⟩
theorem par_iff {x : It} (h : itemV x = 0) {dc : L2} (hd : Fr dc) : par x.Path = enc dc ↔ (pth x).length = dc.length + 1 ∧ (pth x).take dc.length = dc := by
  obtain ⟨_, h2, _, h4⟩ := pth_ok h
  have e : par x.Path = enc ((pth x).take ((pth x).length - 1)) := rfl
  rw [e]
  constructor
  · intro h5
    have h6 := enc_inj (fun y hy => h2 y (List.mem_of_mem_take hy)) hd h5
    have h7 := congrArg List.length h6
    rw [List.length_take] at h7
    have h8 : (pth x).length = dc.length + 1 := by omega
    refine ⟨h8, ?_⟩
    rw [h8, Nat.add_sub_cancel] at h6; exact h6
  · rintro ⟨h5, h6⟩
    rw [h5, Nat.add_sub_cancel, h6]
def isK (dc : L2) (x : It) : Bool := par x.Path == enc dc
def under (dc : L2) (y : It) : Bool := decide (dc.length < (pth y).length) && ((pth y).take dc.length == dc)
def cnt (w : List It) (dc : L2) : Nat := w.countP (under dc)
def pre (x y : It) : Bool := decide ((pth x).length ≤ (pth y).length) && ((pth y).take (pth x).length == pth x)
theorem cnt_le (w : List It) (dc : L2) : cnt w dc ≤ w.length := List.countP_le_length
theorem count_one {p : It → Bool} : ∀ {l : List It}, l.Pairwise (fun a b => ¬ (p a = true ∧ p b = true)) → l.countP p ≤ 1
  | [], _ => by simp
  | x :: l, h => by
    rw [List.pairwise_cons] at h
    by_cases hx : p x = true
    · have : l.countP p = 0 := by
        rw [List.countP_eq_zero]; intro y hy hp
        exact h.1 y hy ⟨hx, hp⟩
      rw [List.countP_cons_of_pos hx, this]; exact Nat.le_refl _
    · rw [List.countP_cons_of_neg hx]; exact count_one h.2
theorem cnt_self {x : It} : ∀ {w : List It}, x ∈ w → 1 + cnt w (pth x) ≤ w.countP (pre x)
  | [], h => by cases h
  | y :: w, h => by
    have h1 : ∀ z : It, under (pth x) z = true → pre x z = true := fun z hz => by
      unfold under at hz; unfold pre
      simp only [Bool.and_eq_true, decide_eq_true_eq] at hz ⊢
      exact ⟨by omega, hz.2⟩
    have h3 : cnt w (pth x) ≤ w.countP (pre x) := List.countP_mono_left (fun z _ hz => h1 z hz)
    by_cases hy : y = x
    · subst hy
      have e1 : pre y y = true := by unfold pre; simp
      have e2 : under (pth y) y = false := by unfold under; simp
      unfold cnt at h3 ⊢
      rw [List.countP_cons_of_pos e1, List.countP_cons_of_neg (by simp [e2])]; omega
    · have hm : x ∈ w := by
        rcases List.mem_cons.1 h with rfl | h
        · exact absurd rfl hy
        · exact h
      have ih := cnt_self hm
      unfold cnt at ih ⊢
      by_cases hu : under (pth x) y = true
      · rw [List.countP_cons_of_pos hu, List.countP_cons_of_pos (h1 y hu)]; omega
      · rw [List.countP_cons_of_neg hu]
        have := List.countP_cons (p := pre x) (a := y) (l := w)
        omega
def sumN (f : It → Nat) : List It → Nat
  | [] => 0
  | x :: l => f x + sumN f l
theorem sum_le {f g : It → Nat} : ∀ {l : List It}, (∀ x ∈ l, f x ≤ g x) → sumN f l ≤ sumN g l
  | [], _ => Nat.le_refl _
  | x :: l, h => Nat.add_le_add (h x (.head _)) (sum_le fun y hy => h y (.tail _ hy))
theorem sum_add (f g : It → Nat) : ∀ l : List It, sumN (fun x => f x + g x) l = sumN f l + sumN g l
  | [] => rfl
  | x :: l => by
    show f x + g x + sumN _ l = f x + sumN f l + (g x + sumN g l)
    rw [sum_add f g l]; omega
theorem sum_mul (f : It → Nat) (c : Nat) : ∀ l : List It, sumN (fun x => c * f x) l = c * sumN f l
  | [] => rfl
  | x :: l => by
    show c * f x + sumN _ l = c * (f x + sumN f l)
    rw [sum_mul f c l, Nat.mul_add]
theorem sum_count (p : It → Bool) : ∀ l : List It, sumN (fun x => if p x then 1 else 0) l = l.countP p
  | [] => rfl
  | x :: l => by
    show (if p x then 1 else 0) + sumN _ l = _
    rw [sum_count p l, List.countP_cons]; omega
theorem sum_swap {dc : L2} {K : List It} (hK : ∀ y, K.countP (fun x => pre x y) ≤ if under dc y then 1 else 0) : ∀ w : List It, sumN (fun x => w.countP (pre x)) K ≤ cnt w dc
  | [] => by
    have : sumN (fun x => ([] : List It).countP (pre x)) K = 0 := by
      clear hK
      induction K with
      | nil => rfl
      | cons x K ih => show 0 + _ = 0; rw [Nat.zero_add]; exact ih
    rw [this]; exact Nat.zero_le _
  | y :: w => by
    have h1 := sum_swap hK w
    have e : sumN (fun x => (y :: w).countP (pre x)) K = sumN (fun x => w.countP (pre x) + if pre x y then 1 else 0) K := by
      congr 1
      funext x
      rw [List.countP_cons]
    rw [e, sum_add, sum_count]
    have := hK y
    unfold cnt at h1 ⊢
    rw [List.countP_cons]; omega
theorem kids_sum {w : List It} (hG : PWorld.Good w) {dc : L2} (hd : Fr dc) : sumN (fun x => 1 + cnt w (pth x)) (w.filter (isK dc)) ≤ cnt w dc := by
  have hk : ∀ x ∈ w.filter (isK dc), x ∈ w ∧ (pth x).length = dc.length + 1 ∧ (pth x).take dc.length = dc := fun x hx => by
    rw [List.mem_filter] at hx
    exact ⟨hx.1, (par_iff (hG.1 x hx.1) hd).1 (eq_of_beq hx.2)⟩
  refine Nat.le_trans (sum_le (g := fun x => w.countP (pre x)) (fun x hx => cnt_self (hk x hx).1)) ?_
  refine sum_swap (fun y => ?_) w
  have h1 : (w.filter (isK dc)).Pairwise (fun a b => ¬ (pre a y = true ∧ pre b y = true)) := by
    have hp := hG.2.filter (isK dc)
    refine List.Pairwise.imp_of_mem (fun {a b} ha hb hab hpre => ?_) hp
    obtain ⟨p1, p2⟩ := hpre
    unfold pre at p1 p2
    simp only [Bool.and_eq_true, decide_eq_true_eq, beq_iff_eq] at p1 p2
    have e : pth a = pth b := by rw [← p1.2, ← p2.2, (hk a ha).2.1, (hk b hb).2.1]
    unfold bel at hab
    rw [e, ah_irr] at hab; cases hab
  by_cases hu : under dc y = true
  · rw [if_pos hu]; exact count_one h1
  · rw [if_neg hu, Nat.le_zero, List.countP_eq_zero]
    intro x hx hp
    refine hu ?_
    obtain ⟨_, k1, k2⟩ := hk x hx
    unfold pre at hp; unfold under
    simp only [Bool.and_eq_true, decide_eq_true_eq, beq_iff_eq] at hp ⊢
    refine ⟨by omega, ?_⟩
    have e := congrArg (List.take dc.length) hp.2
    rw [List.take_take, k1, Nat.min_eq_left (by omega), k2] at e
    exact e
end Go.Proofs.YtiioclkiapbjnaaGreatDoor.PPlant
namespace Go.Proofs.YtiioclkiapbjnaaGreatDoor.Num
open Go.Lib
def digF : Nat → Nat → List UInt8
  | 0, _ => []
  | k + 1, n => if n = 0 then [] else digF k (n / 256) ++ [(n % 256).toUInt8]
theorem digF_nil : ∀ {k n : Nat}, n < 256 ^ k → (digF k n = [] ↔ n = 0)
  | 0, n, h => by simp [digF]; simpa using h
  | k + 1, n, h => by unfold digF; split <;> simp_all
theorem digF_len : ∀ (k n : Nat), (digF k n).length ≤ k
  | 0, n => by simp [digF]
  | k + 1, n => by
    unfold digF
    split
    · simp
    · have := digF_len k (n / 256); simp; omega
theorem be_succ (k n : Nat) : beBytes (k + 1) n = beBytes k (n / 256) ++ [(n % 256).toUInt8] := by unfold beBytes; rw [Lib.leBytes, List.reverse_cons]
theorem div_lt {k n : Nat} (h : n < 256 ^ (k + 1)) : n / 256 < 256 ^ k := by rw [Nat.pow_succ] at h; omega
theorem trim_be : ∀ {k n : Nat}, n < 256 ^ k → trimLeftB (beBytes k n) 0 = digF k n
  | 0, n, h => rfl
  | k + 1, n, h => by
    have ih := trim_be (div_lt h)
    have hn := digF_nil (div_lt h)
    unfold trimLeftB at ih ⊢
    rw [be_succ, List.dropWhile_append, ih]
    show _ = if n = 0 then [] else digF k (n / 256) ++ [(n % 256).toUInt8]
    by_cases h0 : n / 256 = 0
    · rw [hn.2 h0]
      by_cases h1 : n = 0
      · subst h1; rfl
      · have h2 : ((n % 256).toUInt8 == 0) = false := by
          rw [beq_eq_false_iff_ne]
          intro e
          have := congrArg UInt8.toNat e
          rw [toUInt8_mod] at this
          simp at this; omega
        rw [if_neg h1]; simp [h2]
    · have h3 : (digF k (n / 256)).isEmpty = false := by rw [List.isEmpty_eq_false_iff]; exact fun e => h0 (hn.1 e)
      rw [h3, if_neg (by simp), if_neg (by omega)]
end Go.Proofs.YtiioclkiapbjnaaGreatDoor.Num
namespace Go.Proofs.YtiioclkiapbjnaaGreatDoor.PPut
open Go.RowKit YtiioclkiapbjnaaGreatDoor.En YtiioclkiapbjnaaGreatDoor Num
open Go.Lib hiding cut
set_option linter.unusedVariables false
set_option linter.unusedSimpArgs false
theorem iw {n : Nat} (h : n ≤ 9223372036854775807) : IntKind.i64.wrap (n : Int) = (n : Int) := w64 (by omega) (by omega)
theorem uw {n : Nat} (h : n < 18446744073709551616) : IntKind.u64.wrap (n : Int) = (n : Int) := by
  unfold IntKind.wrap
  simp [IntKind.signed, IntKind.bits]
  omega
theorem p8 : 256 ^ 8 = 18446744073709551616 := by decide
theorem p7 : 256 ^ 7 = 72057594037927936 := by decide
theorem digits_ok (n : Nat) (hn : n < 18446744073709551616) (fu : Nat) : f_num_digits fu (n : Int) = some (digF 8 n) := by
  unfold f_num_digits f_binary_BEAppendUint64_nil
  rw [req_pos ⟨by omega, by omega⟩, opt_of, Int.toNat_natCast]
  show (opt (req ((0 : UInt8).toNat < 128) (some (trimLeftB (beBytes 8 n) 0))) fun r5 => some r5) = _
  rw [req_pos (by decide), opt_of, trim_be (by rw [p8]; exact hn)]
theorem rdigits_ok : ∀ (k n fu : Nat), n < 256 ^ k → k ≤ 8 → k < fu → f_lumref_digits fu (n : Int) = some (digF k n)
  | 0, n, fu + 1, h, _, _ => by
    have : n = 0 := by simpa using h
    subst this; rfl
  | k + 1, n, fu + 1, h, h8, hf => by
    rw [f_lumref_digits]
    by_cases h0 : n = 0
    · subst h0; rfl
    have hn8 : n < 18446744073709551616 := by
      rw [← p8]; exact Nat.lt_of_lt_of_le h (Nat.pow_le_pow_right (by omega) h8)
    have e1 : ((n : Int)).tdiv 256 = ((n / 256 : Nat) : Int) := by rw [Int.tdiv_eq_ediv_of_nonneg (by omega)]; omega
    have e2 : ((n : Int)).tmod 256 = ((n % 256 : Nat) : Int) := by rw [Int.tmod_eq_emod_of_nonneg (by omega)]; omega
    have hl := digF_len k (n / 256)
    rw [cond_ff (by rw [beq_eq_false_iff_ne]; omega), e1, e2, uw (by omega), rdigits_ok k (n / 256) fu (div_lt h) (by omega) (by omega), opt_of, u8w_in (by omega), req_pos ⟨by omega, by omega⟩, req_pos (by rw [List.length_singleton]; omega), Int.toNat_natCast]
    show _ = some (if n = 0 then [] else digF k (n / 256) ++ [(n % 256).toUInt8])
    rw [if_neg h0]
def putV (n : Nat) : List UInt8 := UInt8.ofNat (digF 8 n).length :: digF 8 n
theorem put_tail (d : List UInt8) (hd : d.length ≤ 8) : (req (0 ≤ (IntKind.u8.wrap (d.length : Int)) ∧ (IntKind.u8.wrap (d.length : Int)) ≤ 255) (req (([(UInt8.ofNat ((IntKind.u8.wrap (d.length : Int))).toNat)]).length + d.length ≤ 9223372036854775807) (some (([(UInt8.ofNat ((IntKind.u8.wrap (d.length : Int))).toNat)]) ++ d)))) = some (UInt8.ofNat d.length :: d) := by
  rw [u8w_in (by omega), req_pos ⟨by omega, by omega⟩, req_pos (by rw [List.length_singleton]; omega), Int.toNat_natCast]; rfl
theorem put_ok (n : Nat) (hn : n < 18446744073709551616) (fu : Nat) : f_num_Put fu (n : Int) = some (putV n) := by
  unfold f_num_Put putV
  rw [digits_ok n hn, opt_of, put_tail _ (digF_len 8 n)]
theorem rput_ok (n : Nat) (hn : n < 18446744073709551616) (fu : Nat) (hf : 9 ≤ fu) : f_lumref_Put fu (n : Int) = some (putV n) := by
  unfold f_lumref_Put putV
  rw [rdigits_ok 8 n fu (by rw [p8]; exact hn) (by omega) (by omega), opt_of, put_tail _ (digF_len 8 n)]
end Go.Proofs.YtiioclkiapbjnaaGreatDoor.PPut
namespace Go.Proofs.YtiioclkiapbjnaaGreatDoor.PWalkPlants
open Go.RowKit YtiioclkiapbjnaaGreatDoor.En YtiioclkiapbjnaaGreatDoor
set_option linter.unusedVariables false
set_option linter.unusedSimpArgs false
namespace TX
theorem count_le (sub : List UInt8) : ∀ (k : Nat) (s : List UInt8), Lib.countFrom sub k s ≤ k
  | 0, _ => Nat.le_refl _
  | k + 1, s => by
    unfold Lib.countFrom
    split
    · omega
    · have := count_le sub k (s.drop ((Lib.index s sub).toNat + sub.length)); omega
theorem replaceK_len (old new : List UInt8) : ∀ (k : Nat) (s : List UInt8), (Lib.replaceK old new k s).length ≤ s.length + k * new.length
  | 0, s => by simp [Lib.replaceK]
  | k + 1, s => by
    unfold Lib.replaceK
    split
    · omega
    · have := replaceK_len old new k (s.drop ((Lib.index s old).toNat + old.length))
      rw [Nat.succ_mul]
      simp only [List.length_append, List.length_take, List.length_drop] at this ⊢
      omega
def txtV (s : List UInt8) : List UInt8 := Lib.replaceAll s [0] [0, 255] ++ [0, 0]
theorem rep_len (s : List UInt8) : (Lib.replaceAll s [0] [0, 255]).length ≤ s.length + (s.length + 1) * 2 := by
  have hc : Lib.count s [0] ≤ s.length + 1 := count_le _ _ _
  have h2 := replaceK_len [0] [0, 255] (Lib.replaceNum s [0] (-1)) s
  have h3 : Lib.replaceNum s [0] (-1) = Lib.count s [0] := by unfold Lib.replaceNum; rw [if_pos (.inl (by decide))]
  have h4 : Lib.replaceAll s [0] [0, 255] = Lib.replaceK [0] [0, 255] (Lib.replaceNum s [0] (-1)) s := by unfold Lib.replaceAll Lib.replace; rw [if_neg (by decide)]
  rw [h4]
  rw [h3] at h2 ⊢
  have h5 : ([0, 255] : List UInt8).length = 2 := rfl
  rw [h5] at h2
  omega
theorem txtV_len (s : List UInt8) : (txtV s).length ≤ 3 * s.length + 4 := by
  have := rep_len s
  unfold txtV
  rw [List.length_append]
  show _ + 2 ≤ _
  omega
theorem putT_large (s : List UInt8) (h : 1024 < s.length) (fu : Nat) : f_num_PutText fu s = some ([], 2) ∧ f_lumref_PutText fu s = some ([], 2) := by
  unfold f_num_PutText f_lumref_PutText
  rw [cond_tt (decide_eq_true (by omega))]
  exact ⟨rfl, rfl⟩
theorem putT_ok (s : List UInt8) (h : s.length ≤ 1024) (fu : Nat) : f_num_PutText fu s = some (txtV s, 0) ∧ f_lumref_PutText fu s = some (txtV s, 0) := by
  have e : f_lumref_PutText fu s = f_num_PutText fu s := rfl
  have hc : Lib.count s [0] ≤ s.length + 1 := count_le _ _ _
  have hl := rep_len s
  have key : f_num_PutText fu s = some (txtV s, 0) := by
    unfold f_num_PutText f_strings_ReplaceAll
    rw [cond_ff (decide_eq_false (by omega)), req_pos ⟨by omega, by simp, by show s.length + Lib.count s [0] * 2 ≤ _; omega⟩, opt_of]
    rw [req_pos (by show _ + 2 ≤ _; omega)]
    rfl
  exact ⟨key, e.trans key⟩
end TX
end Go.Proofs.YtiioclkiapbjnaaGreatDoor.PWalkPlants
namespace Go.Proofs.YtiioclkiapbjnaaGreatDoor.PPi
open Go.RowKit YtiioclkiapbjnaaGreatDoor.En YtiioclkiapbjnaaGreatDoor Num
open Go.Lib hiding cut
set_option linter.unusedVariables false
set_option linter.unusedSimpArgs false
theorem iw {n : Nat} (h : n ≤ 9223372036854775807) : IntKind.i64.wrap (n : Int) = (n : Int) := w64 (by omega) (by omega)
theorem uw {n : Nat} (h : n < 18446744073709551616) : IntKind.u64.wrap (n : Int) = (n : Int) := by
  unfold IntKind.wrap
  simp [IntKind.signed, IntKind.bits]
  omega
theorem p8 : 256 ^ 8 = 18446744073709551616 := by decide
theorem p7 : 256 ^ 7 = 72057594037927936 := by decide
theorem digits_ok (n : Nat) (hn : n < 18446744073709551616) (fu : Nat) : f_num_digits fu (n : Int) = some (digF 8 n) := by
  unfold f_num_digits f_binary_BEAppendUint64_nil
  rw [req_pos ⟨by omega, by omega⟩, opt_of, Int.toNat_natCast]
  show (opt (req ((0 : UInt8).toNat < 128) (some (trimLeftB (beBytes 8 n) 0))) fun r5 => some r5) = _
  rw [req_pos (by decide), opt_of, trim_be (by rw [p8]; exact hn)]
theorem rdigits_ok : ∀ (k n fu : Nat), n < 256 ^ k → k ≤ 8 → k < fu → f_lumref_digits fu (n : Int) = some (digF k n)
  | 0, n, fu + 1, h, _, _ => by
    have : n = 0 := by simpa using h
    subst this; rfl
  | k + 1, n, fu + 1, h, h8, hf => by
    rw [f_lumref_digits]
    by_cases h0 : n = 0
    · subst h0; rfl
    have hn8 : n < 18446744073709551616 := by
      rw [← p8]; exact Nat.lt_of_lt_of_le h (Nat.pow_le_pow_right (by omega) h8)
    have e1 : ((n : Int)).tdiv 256 = ((n / 256 : Nat) : Int) := by rw [Int.tdiv_eq_ediv_of_nonneg (by omega)]; omega
    have e2 : ((n : Int)).tmod 256 = ((n % 256 : Nat) : Int) := by rw [Int.tmod_eq_emod_of_nonneg (by omega)]; omega
    have hl := digF_len k (n / 256)
    rw [cond_ff (by rw [beq_eq_false_iff_ne]; omega), e1, e2, uw (by omega), rdigits_ok k (n / 256) fu (div_lt h) (by omega) (by omega), opt_of, u8w_in (by omega), req_pos ⟨by omega, by omega⟩, req_pos (by rw [List.length_singleton]; omega), Int.toNat_natCast]
    show _ = some (if n = 0 then [] else digF k (n / 256) ++ [(n % 256).toUInt8])
    rw [if_neg h0]
def inv (b : UInt8) : UInt8 := UInt8.ofNat (255 - b.toNat)
theorem inv_nat (b : UInt8) : (inv b).toNat = 255 - b.toNat := by
  have := b.toNat_lt
  unfold inv; rw [UInt8.toNat_ofNat']; omega
theorem mid_len (s : List UInt8) {j : Nat} (h : j < s.length) : ((s.take j).map inv).length = j := by rw [List.length_map, List.length_take]; omega
theorem mid_at (s : List UInt8) {j : Nat} (h : j < s.length) : ((s.take j).map inv ++ s.drop j)[j]? = some s[j] := by
  have hl := mid_len s h
  rw [List.getElem?_append_right (by omega), hl, Nat.sub_self, List.getElem?_drop, Nat.add_zero, List.getElem?_eq_getElem h]
theorem mid_set (s : List UInt8) {j : Nat} (h : j < s.length) : ((s.take j).map inv ++ s.drop j).set j (inv s[j]) = (s.take (j + 1)).map inv ++ s.drop (j + 1) := by
  have hl := mid_len s h
  rw [List.set_append_right _ _ (by omega), hl, Nat.sub_self, List.drop_eq_getElem_cons h, ← List.take_append_getElem h, List.set_cons_zero, List.map_append, List.append_assoc]
  rfl
theorem xor_inv (b : UInt8) : bits .xor .u8 (if IntKind.signed .u8 then -1 else IntKind.max .u8) (b.toNat : Int) = (((inv b).toNat : Nat) : Int) := by
  have h : ∀ k : Fin 256, bits .xor .u8 (if IntKind.signed .u8 then -1 else IntKind.max .u8) ((k.val : Nat) : Int) = ((255 - k.val : Nat) : Int) := by decide +kernel
  have := h ⟨b.toNat, b.toNat_lt⟩
  rw [inv_nat]; exact this
theorem sub_inv (b : UInt8) : IntKind.u8.wrap ((255 : Int) - (b.toNat : Int)) = (((inv b).toNat : Nat) : Int) := by
  have := b.toNat_lt
  rw [inv_nat, show (255 : Int) - (b.toNat : Int) = ((255 - b.toNat : Nat) : Int) by omega, u8w_in (by omega)]
theorem turn_go (s : List UInt8) (hs : s.length ≤ 9223372036854775806) (kk : List UInt8 → Option (List UInt8)) : ∀ (d j fu : Nat), s.length - j = d → j ≤ s.length → d < fu →
    f_num_turned_L7 s kk fu ((s.take j).map inv ++ s.drop j) (j : Int) = kk (s.map inv)
  | 0, j, fu + 1, hd, hj, _ => by
    rw [f_num_turned_L7, cond_ff (dge (by omega)), List.take_of_length_le (by omega), List.drop_of_length_le (by omega), List.append_nil]
  | d + 1, j, fu + 1, hd, hj, hf => by
    have hlt : j < s.length := by omega
    have := (inv s[j]).toNat_lt
    rw [f_num_turned_L7, cond_tt (dlt (by omega)), at_of (mid_at s hlt), opt_of, opt_of, xor_inv, req_pos ⟨by omega, by omega⟩, wsucc (by omega), Int.toNat_natCast, Int.toNat_natCast, UInt8.ofNat_toNat, mid_set s hlt]
    exact turn_go s hs kk d (j + 1) fu (by omega) (by omega) (by omega)
theorem turn_ok (s : List UInt8) (hs : s.length ≤ 8) (fu : Nat) (hf : 9 ≤ fu) : f_num_turned fu s = some (s.map inv) := by
  unfold f_num_turned
  rw [req_pos (by omega), lt_of]
  exact turn_go s (by omega) _ s.length 0 fu (by omega) (by omega) (by omega)
theorem rturn_go (s : List UInt8) (hs : s.length ≤ 9223372036854775806) (kk : List UInt8 → Option (List UInt8)) : ∀ (d j fu : Nat), s.length - j = d → j ≤ s.length → d < fu →
    f_lumref_turned_L7 s kk fu ((s.take j).map inv ++ s.drop j) (j : Int) = kk (s.map inv)
  | 0, j, fu + 1, hd, hj, _ => by
    rw [f_lumref_turned_L7, cond_ff (dge (by omega)), List.take_of_length_le (by omega), List.drop_of_length_le (by omega), List.append_nil]
  | d + 1, j, fu + 1, hd, hj, hf => by
    have hlt : j < s.length := by omega
    have := (inv s[j]).toNat_lt
    rw [f_lumref_turned_L7, cond_tt (dlt (by omega)), at_of (mid_at s hlt), opt_of, opt_of, sub_inv, req_pos ⟨by omega, by omega⟩, wsucc (by omega), Int.toNat_natCast, Int.toNat_natCast, UInt8.ofNat_toNat, mid_set s hlt]
    exact rturn_go s hs kk d (j + 1) fu (by omega) (by omega) (by omega)
theorem rturn_ok (s : List UInt8) (hs : s.length ≤ 8) (fu : Nat) (hf : 9 ≤ fu) : f_lumref_turned fu s = some (s.map inv) := by
  unfold f_lumref_turned
  rw [req_pos (by omega), lt_of]
  exact rturn_go s (by omega) _ s.length 0 fu (by omega) (by omega) (by omega)
theorem put_ok (n : Int) (h0 : -9223372036854775808 ≤ n) (h1 : n ≤ 9223372036854775807) (fu : Nat) (hf : 9 ≤ fu) : ∃ r, f_num_PutInt fu n = some r ∧ f_lumref_PutInt fu n = some r ∧ r.length ≤ 9 := by
  unfold f_num_PutInt f_lumref_PutInt
  by_cases hn : n < 0
  · obtain ⟨m, hm⟩ : ∃ m : Nat, IntKind.i64.wrap ((-1 : Int) - n) = m ∧ m < 9223372036854775808 := ⟨((-1 : Int) - n).toNat, by rw [w64 (by omega) (by omega)]; omega, by omega⟩
    have hl := digF_len 8 m
    rw [cond_tt (dlt hn), cond_tt (dlt hn), hm.1, uw (by omega), digits_ok m (by omega), rdigits_ok 8 m fu (by rw [p8]; omega) (by omega) (by omega)]
    simp only [opt_of]
    have e : IntKind.u8.wrap (IntKind.i64.wrap ((127 : Int) - ((digF 8 m).length : Int))) = ((127 - (digF 8 m).length : Nat) : Int) := by
      rw [w64 (by omega) (by omega), show (127 : Int) - ((digF 8 m).length : Int) = ((127 - (digF 8 m).length : Nat) : Int) by omega, u8w_in (by omega)]
    rw [e, req_pos ⟨by omega, by omega⟩, req_pos ⟨by omega, by omega⟩, turn_ok _ hl fu hf, rturn_ok _ hl fu hf]
    simp only [opt_of]
    rw [req_pos (by rw [List.length_singleton, List.length_map]; omega)]
    exact ⟨_, rfl, rfl, by simp only [List.length_append, List.length_singleton, List.length_map]; omega⟩
  · obtain ⟨m, rfl⟩ : ∃ m : Nat, n = m := ⟨n.toNat, by omega⟩
    have hl := digF_len 8 m
    rw [cond_ff (dge (by omega)), cond_ff (dge (by omega)), uw (by omega), digits_ok m (by omega), rdigits_ok 8 m fu (by rw [p8]; omega) (by omega) (by omega)]
    simp only [opt_of]
    have e : IntKind.u8.wrap (IntKind.i64.wrap ((128 : Int) + ((digF 8 m).length : Int))) = ((128 + (digF 8 m).length : Nat) : Int) := by
      rw [w64 (by omega) (by omega), show (128 : Int) + ((digF 8 m).length : Int) = ((128 + (digF 8 m).length : Nat) : Int) by omega, u8w_in (by omega)]
    rw [e, req_pos ⟨by omega, by omega⟩, req_pos (by rw [List.length_singleton]; omega)]
    exact ⟨_, rfl, rfl, by simp only [List.length_append, List.length_singleton, List.length_map]; omega⟩
end Go.Proofs.YtiioclkiapbjnaaGreatDoor.PPi
namespace Go.Proofs.YtiioclkiapbjnaaGreatDoor.PTreeSame
open Go.RowKit YtiioclkiapbjnaaGreatDoor.En YtiioclkiapbjnaaGreatDoor PTreeName U8
set_option linter.unusedVariables false
set_option linter.unusedSimpArgs false
def formB (u : S_api_Node) : Bool := bif u.Kind == 1 then u.Link == [] else bif u.Kind == 2 then ((u.Parts.length : Int) == 1 && (u.Size == 0 && u.Link == [])) else (!(u.Link == []) && (u.Size == 0 && (u.Parts.length : Int) == 0))
theorem formed_ok (u : S_api_Node) (fu : Nat) : f_tree_formed fu u = some (formB u) := by
  unfold f_tree_formed formB
  simp only [lt_of]
  cases u.Kind == 1 <;> cases u.Kind == 2 <;> cases u.Link == [] <;> cases u.Size == 0 <;> cases (u.Parts.length : Int) == 1 <;> cases (u.Parts.length : Int) == 0 <;> rfl
def boundB (u : S_api_Node) : Bool := decide (u.Mode < 0) || (decide (u.Mode > 511) || (decide (u.Size < 0) || (decide (u.Size > 4096) || decide ((u.Parts.length : Int) > 300))))
def nodeV (u : S_api_Node) : Int := if nameV u.Name ≠ 0 then nameV u.Name else if boundB u = true then 1 else if u.Kind < 1 ∨ u.Kind > 3 then 5 else if formB u = false then 4 else if (u.Link.length : Int) > 1024 then 2 else 0
theorem bound_k {α : Type} (u : S_api_Node) (f : Bool → Option α) : (lt f fun (k : Bool → Option α) => (bif (decide (u.Mode < (0 : Int))) then (k true) else (bif (decide (u.Mode > (511 : Int))) then (k true) else (bif (decide (u.Size < (0 : Int))) then (k true) else (bif (decide (u.Size > (4096 : Int))) then (k true) else (k (decide ((u.Parts.length : Int) > (300 : Int))))))))) = f (boundB u) := by
  rw [lt_of]
  unfold boundB
  cases decide (u.Mode < 0) <;> cases decide (u.Mode > 511) <;> cases decide (u.Size < 0) <;> cases decide (u.Size > 4096) <;> rfl
theorem known_ok (u : Int) (fu : Nat) : f_tree_Known fu u = some (!decide (u < 1 ∨ u > 3)) := by
  unfold f_tree_Known
  rw [lt_of]
  by_cases h : u ≥ 1
  · rw [cond_tt (decide_eq_true h)]
    by_cases h2 : u ≤ 3
    · rw [decide_eq_true h2, decide_eq_false (by omega)]; rfl
    · rw [decide_eq_false h2, decide_eq_true (by omega)]; rfl
  · rw [cond_ff (decide_eq_false h), decide_eq_true (by omega)]; rfl
theorem code_node (u : S_api_Node) (hu : u.Name.length ≤ 1048576) (fu : Nat) (hf : 1048600 ≤ fu) (more : Option Int) :
    (opt (f_names_Check fu u.Name) fun (r15 : Int) => (bif (r15 != (0 : Int)) then (some r15) else (lt (fun (j17b22 : Bool) => (bif j17b22 then (some (1 : Int)) else (opt (f_tree_Known fu u.Kind) fun (r21 : Bool) => (bif (!r21) then (some (5 : Int)) else (opt (f_tree_formed fu u) fun (r24 : Bool) => (bif (!r24) then (some (4 : Int)) else (bif (decide ((u.Link.length : Int) > (1024 : Int))) then (some (2 : Int)) else more))))))) fun (kk18 : Bool → Option Int) => (bif (decide (u.Mode < (0 : Int))) then (kk18 true) else (bif (decide (u.Mode > (511 : Int))) then (kk18 true) else (bif (decide (u.Size < (0 : Int))) then (kk18 true) else (bif (decide (u.Size > (4096 : Int))) then (kk18 true) else (kk18 (decide ((u.Parts.length : Int) > (300 : Int))))))))))) = if nodeV u ≠ 0 then some (nodeV u) else more := by
  rw [check_ok _ hu fu hf, opt_of, bound_k, known_ok, opt_of, formed_ok, opt_of]
  by_cases h1 : nameV u.Name = 0
  · rw [h1, cond_ff (by rfl)]
    cases h2 : boundB u with
    | true =>
      have hv : nodeV u = 1 := by unfold nodeV; simp [h1, h2]
      rw [hv]; rfl
    | false =>
      rw [cond_ff rfl]
      by_cases h3 : u.Kind < 1 ∨ u.Kind > 3
      · have hv : nodeV u = 5 := by unfold nodeV; rw [if_neg (by simp [h1]), if_neg (by simp [h2]), if_pos h3]
        rw [decide_eq_true h3, hv]; rfl
      · rw [decide_eq_false h3]
        cases h4 : formB u with
        | false =>
          have hv : nodeV u = 4 := by unfold nodeV; rw [if_neg (by simp [h1]), if_neg (by simp [h2]), if_neg h3, if_pos h4]
          rw [hv]; rfl
        | true =>
          by_cases h5 : (u.Link.length : Int) > 1024
          · have hv : nodeV u = 2 := by unfold nodeV; rw [if_neg (by simp [h1]), if_neg (by simp [h2]), if_neg h3, if_neg (by simp [h4]), if_pos h5]
            rw [hv, decide_eq_true h5]; rfl
          · have hv : nodeV u = 0 := by unfold nodeV; rw [if_neg (by simp [h1]), if_neg (by simp [h2]), if_neg h3, if_neg (by simp [h4]), if_neg h5]
            rw [hv, decide_eq_false h5]; rfl
  · have hv : nodeV u = nameV u.Name := by unfold nodeV; rw [if_pos h1]
    rw [cond_tt (by simpa using h1), hv, if_pos h1]
theorem bad_k (u : S_api_Node) (h : ¬ (u.Kind < 1 ∨ u.Kind > 3)) (f : Bool → Option Int) :
    (lt f fun (kk12 : Bool → Option Int) => (lt (fun (j15b43 : Bool) => (bif j15b43 then (kk12 j15b43) else (lt (fun (j18b43 : Bool) => (bif j18b43 then (kk12 j18b43) else (lt (fun (j21b43 : Bool) => (bif j21b43 then (kk12 j21b43) else (bif (u.Kind == (3 : Int)) then (bif ((u.Parts.length : Int) != (0 : Int)) then (kk12 true) else (kk12 (u.Link == ([] : List UInt8)))) else (kk12 false)))) fun (kk22 : Bool → Option Int) => (bif (u.Kind == (2 : Int)) then (bif ((u.Parts.length : Int) != (1 : Int)) then (kk22 true) else (kk22 (!(u.Link == ([] : List UInt8))))) else (kk22 false))))) fun (kk19 : Bool → Option Int) => (bif (decide (u.Kind > (1 : Int))) then (kk19 (u.Size != (0 : Int))) else (kk19 false))))) fun (kk16 : Bool → Option Int) => (bif (u.Kind == (1 : Int)) then (kk16 (!(u.Link == ([] : List UInt8)))) else (kk16 false)))) = f (!formB u) := by
  simp only [lt_of, bne]
  unfold formB
  have h3 : u.Kind = 1 ∨ u.Kind = 2 ∨ u.Kind = 3 := by omega
  rcases h3 with h3 | h3 | h3 <;> rw [h3] <;> cases u.Link == [] <;> cases u.Size == 0 <;> cases (u.Parts.length : Int) == 1 <;> cases (u.Parts.length : Int) == 0 <;> rfl
theorem ref_node (u : S_api_Node) (hu : u.Name.length ≤ 1048576) (fu : Nat) (hf : 1048600 ≤ fu) : f_lumref_nodeErr fu u = some (nodeV u) := by
  unfold f_lumref_nodeErr
  rw [name_ok _ hu fu hf, opt_of, bound_k]
  unfold nodeV
  by_cases h1 : nameV u.Name = 0
  · rw [h1, cond_ff (by rfl)]
    simp only [ne_eq, not_true_eq_false, if_false]
    cases h2 : boundB u with
    | true => rfl
    | false =>
      rw [cond_ff rfl, if_neg (by simp)]
      have key : ∀ f : Bool → Option Int, (lt f fun (k : Bool → Option Int) => (bif (decide (u.Kind < (1 : Int))) then (k true) else (k (decide (u.Kind > (3 : Int)))))) = f (decide (u.Kind < 1 ∨ u.Kind > 3)) := by
        intro f
        rw [lt_of]
        by_cases a : u.Kind < 1
        · rw [cond_tt (decide_eq_true a), decide_eq_true (.inl a)]
        · rw [cond_ff (decide_eq_false a)]
          by_cases b : u.Kind > 3
          · rw [decide_eq_true b, decide_eq_true (.inr b)]
          · rw [decide_eq_false b, decide_eq_false (by omega)]
      rw [key]
      by_cases h3 : u.Kind < 1 ∨ u.Kind > 3
      · rw [decide_eq_true h3, if_pos h3]; rfl
      · rw [decide_eq_false h3, if_neg h3]
        rw [cond_ff rfl, bad_k u h3]
        cases h4 : formB u with
        | false => rfl
        | true =>
          by_cases h5 : (u.Link.length : Int) > 1024
          · rw [if_neg (by simp), if_pos h5, decide_eq_true h5]; rfl
          · rw [if_neg (by simp), if_neg h5, decide_eq_false h5]; rfl
  · rw [cond_tt (by simpa using h1), if_pos h1]
theorem less_eq : ∀ (a b : List UInt8), (Op.bytesLess a b || a == b) = !Op.bytesLess b a
  | [], [] => rfl
  | [], y :: b => rfl
  | x :: a, [] => rfl
  | x :: a, y :: b => by
    have ih := less_eq a b
    by_cases h1 : x = y
    · subst h1
      have hx : ¬ x < x := by intro h; exact absurd h (UInt8.lt_irrefl x)
      simpa [Op.bytesLess, hx] using ih
    · have h2 : ¬ y = x := fun h => h1 h.symm
      have h5 : (x :: a == y :: b) = false := by rw [beq_eq_false_iff_ne]; intro h; exact h1 (List.cons.inj h).1
      rw [h5]
      by_cases h3 : x < y
      · have h4 : ¬ y < x := by intro h; exact absurd (UInt8.lt_trans h3 h) (UInt8.lt_irrefl x)
        simp [Op.bytesLess, h1, h2, h3, h4]
      · have h4 : y < x := by
          have := UInt8.lt_iff_toNat_lt (a := x) (b := y)
          have h6 : x.toNat ≠ y.toNat := fun h => h1 (UInt8.toNat_inj.1 h)
          rw [UInt8.lt_iff_toNat_lt] at h3 ⊢
          omega
        simp [Op.bytesLess, h1, h2, h3, h4]
theorem chk_go (l : List S_api_Node) (hl : l.length ≤ 64) (hn : ∀ u ∈ l, u.Name.length ≤ 1048576) (fu0 : Nat) (h0 : 1048600 ≤ fu0) : ∀ (d j fu : Nat), l.length - j = d → j ≤ l.length → d < fu →
    ∃ r, f_tree_Check_L6 l (fun _ => some 0) fu0 fu (j : Int) = some r ∧ f_lumref_Nodes_L6 l (fun _ => some 0) fu0 fu (j : Int) = some r
  | 0, j, fu + 1, hd, hj, _ => by
    rw [f_tree_Check_L6, f_lumref_Nodes_L6, cond_ff (dge (by omega)), cond_ff (dge (by omega))]; exact ⟨_, rfl, rfl⟩
  | d + 1, j, fu + 1, hd, hj, hf => by
    have hlt : j < l.length := by omega
    have hm := hn _ (List.getElem_mem hlt)
    rw [f_tree_Check_L6, f_lumref_Nodes_L6, cond_tt (dlt (by omega)), cond_tt (dlt (by omega)), at_lt hlt, opt_of, opt_of, ref_node _ hm fu0 h0, opt_of]
    rw [code_node _ hm fu0 h0]
    by_cases hv : nodeV l[j] = 0
    · rw [if_neg (by simpa using hv), hv, cond_ff (by rfl), lt_of, lt_of]
      have ih := chk_go l hl hn fu0 h0 d (j + 1) fu (by omega) (by omega) (by omega)
      by_cases hj0 : 0 < j
      · have hlt' : j - 1 < l.length := by omega
        have e : IntKind.i64.wrap ((j : Int) - (1 : Int)) = ((j - 1 : Nat) : Int) := by rw [w64 (by omega) (by omega)]; omega
        rw [cond_tt (decide_eq_true (by omega)), cond_tt (decide_eq_true (by omega)), e, at_lt hlt', opt_of, opt_of, less_eq, wsucc (by omega)]
        cases Op.bytesLess l[j - 1].Name l[j].Name with
        | true => exact ih
        | false => exact ⟨_, rfl, rfl⟩
      · rw [cond_ff (decide_eq_false (by omega)), cond_ff (decide_eq_false (by omega)), wsucc (by omega)]
        exact ih
    · rw [if_pos (by simpa using hv), cond_tt (by simpa using hv)]
      exact ⟨_, rfl, rfl⟩
theorem chk_ok (l : List S_api_Node) (hn : ∀ u ∈ l, u.Name.length ≤ 1048576) (fu : Nat) (h0 : 1048600 ≤ fu) : ∃ r, f_tree_Check fu l = some r ∧ f_lumref_Nodes fu l = some r := by
  unfold f_tree_Check f_lumref_Nodes
  by_cases h : (l.length : Int) > 64
  · rw [cond_tt (decide_eq_true h), cond_tt (decide_eq_true h)]; exact ⟨_, rfl, rfl⟩
  · rw [cond_ff (decide_eq_false h), cond_ff (decide_eq_false h), lt_of, lt_of]
    exact chk_go l (by omega) hn fu h0 l.length 0 fu (by omega) (by omega) (by omega)
end Go.Proofs.YtiioclkiapbjnaaGreatDoor.PTreeSame
namespace Go.Proofs.YtiioclkiapbjnaaGreatDoor.PTreeSays
open Go.RowKit YtiioclkiapbjnaaGreatDoor.En YtiioclkiapbjnaaGreatDoor Num PWalkPlants.TX
open Go.Lib hiding cut
set_option linter.unusedVariables false
set_option linter.unusedSimpArgs false
abbrev Nd := S_api_Node
theorem u64_any (x : Int) : ∃ m : Nat, IntKind.u64.wrap x = (m : Int) ∧ m < 18446744073709551616 := by
  refine ⟨(x % 18446744073709551616).toNat, ?_, by omega⟩
  unfold IntKind.wrap
  simp [IntKind.signed, IntKind.bits]
  omega
theorem u8_any (x : Int) : 0 ≤ IntKind.u8.wrap x ∧ IntKind.u8.wrap x ≤ 255 := by
  unfold IntKind.wrap
  simp [IntKind.signed, IntKind.bits]
  omega
theorem put1_ok (x : Int) (fu : Nat) (hf : 9 ≤ fu) : ∃ r, f_tree_Write_1 fu x = some r ∧ f_lumref_Put fu (IntKind.u64.wrap x) = some r ∧ r.length ≤ 9 := by
  obtain ⟨m, hm, hlt⟩ := u64_any x
  refine ⟨PPut.putV m, ?_, ?_, ?_⟩
  · unfold f_tree_Write_1; rw [hm, PPut.put_ok m hlt fu, opt_of]
  · rw [hm, PPut.rput_ok m hlt fu hf]
  · have := digF_len 8 m
    unfold PPut.putV
    rw [List.length_cons]; omega
theorem putT_any (s : List UInt8) (fu : Nat) : ∃ t e, f_num_PutText fu s = some (t, e) ∧ f_lumref_PutText fu s = some (t, e) ∧ t.length ≤ 3100 := by
  by_cases h : s.length ≤ 1024
  · obtain ⟨h1, h2⟩ := putT_ok s h fu
    have := txtV_len s
    exact ⟨_, _, h1, h2, by omega⟩
  · obtain ⟨h1, h2⟩ := putT_large s (by omega) fu
    exact ⟨_, _, h1, h2, by simp⟩
theorem parts_go (u : Nd) (hu : u.Parts.length ≤ 1048576) (k1 k2 : List UInt8 → Option (List UInt8 × Int)) : ∀ (d j fu : Nat) (out : List UInt8), u.Parts.length - j = d → j ≤ u.Parts.length → d < fu → out.length + d * 8 ≤ 9000000000000000000 →
    ∃ out', out'.length = out.length + 8 * d ∧ f_tree_Write_L47 u k1 fu out (j : Int) = k1 out' ∧ f_lumref_TreeWrite_L47 u k2 fu out (j : Int) = k2 out'
  | _, _, 0, _, _, _, hf, _ => absurd hf (Nat.not_lt_zero _)
  | 0, j, fu + 1, out, hd, hj, _, _ => ⟨out, by omega, by rw [f_tree_Write_L47, cond_ff (dge (by omega))], by rw [f_lumref_TreeWrite_L47, cond_ff (dge (by omega))]⟩
  | d + 1, j, fu + 1, out, hd, hj, hf, hx => by
    have hlt : j < u.Parts.length := by omega
    have h8 : (lA8u8 u.Parts[j]).length = 8 := rfl
    rw [f_tree_Write_L47, f_lumref_TreeWrite_L47, cond_tt (dlt (by omega)), cond_tt (dlt (by omega)), at_lt hlt, opt_of, opt_of, req_pos (by omega), req_pos (by omega), wsucc (by omega)]
    obtain ⟨o, h1, h2, h3⟩ := parts_go u hu k1 k2 d (j + 1) fu (out ++ lA8u8 u.Parts[j]) (by omega) (by omega) (by omega) (by rw [List.length_append]; omega)
    exact ⟨o, by rw [h1, List.length_append]; omega, h2, h3⟩
def Ok (u : Nd) : Prop := u.Parts.length ≤ 1048576 ∧ u.Name.length ≤ 1048576 ∧ (-9223372036854775808 ≤ u.Time ∧ u.Time ≤ 9223372036854775807)
theorem nodes_go (l : List Nd) (hl : l.length ≤ 1048576) (hO : ∀ u ∈ l, Ok u) (fu0 : Nat) (h0 : 2000000 ≤ fu0) (k1 k2 : List UInt8 → Option (List UInt8 × Int)) : ∀ (d j fu : Nat) (out : List UInt8), l.length - j = d → j ≤ l.length → d < fu → out.length + d * 10000000 ≤ 1000000000000000 →
    ∃ out', f_tree_Write_L11 l k1 fu0 fu out (j : Int) = k1 out' ∧ f_lumref_TreeWrite_L11 l k2 fu0 fu out (j : Int) = k2 out'
  | _, _, 0, _, _, _, hf, _ => absurd hf (Nat.not_lt_zero _)
  | 0, j, fu + 1, out, hd, hj, _, _ => ⟨out, by rw [f_tree_Write_L11, lt_of]; dsimp only; rw [cond_ff (dge (by omega))], by rw [f_lumref_TreeWrite_L11, lt_of]; dsimp only; rw [cond_ff (dge (by omega))]⟩
  | d + 1, j, fu + 1, out, hd, hj, hf, hx => by
    have hlt : j < l.length := by omega
    obtain ⟨o1, o2, o3⟩ := hO l[j] (List.getElem_mem hlt)
    obtain ⟨u, hu⟩ : ∃ u, u = l[j] := ⟨_, rfl⟩
    rw [← hu] at o1 o2 o3
    obtain ⟨t1, e1, a1, a2, a3⟩ := putT_any u.Name fu0
    obtain ⟨t2, e2, b1, b2, b3⟩ := putT_any u.Link fu0
    obtain ⟨m, c1, c2, c3⟩ := put1_ok u.Mode fu0 (by omega)
    obtain ⟨i, d1, d2, d3⟩ := PPi.put_ok u.Time o3.1 o3.2 fu0 (by omega)
    obtain ⟨z, g1, g2, g3⟩ := put1_ok u.Size fu0 (by omega)
    obtain ⟨p, p1, p2, p3⟩ := put1_ok (u.Parts.length : Int) fu0 (by omega)
    have hk := u8_any u.Kind
    obtain ⟨kb, hkb⟩ : ∃ kb : List UInt8, kb = [UInt8.ofNat (IntKind.u8.wrap u.Kind).toNat] := ⟨_, rfl⟩
    have hkl : kb.length = 1 := by rw [hkb]; rfl
    rw [f_tree_Write_L11, f_lumref_TreeWrite_L11]
    simp only [lt_of]
    rw [cond_tt (dlt (by omega)), cond_tt (dlt (by omega)), at_lt hlt, ← hu, opt_of, opt_of, a1, a2, b1, b2]
    simp only [opt_of, c1, c2, d1, d2, g1, g2, p1, p2, ← hkb, req_pos hk]
    obtain ⟨w, hw⟩ : ∃ w, w = ((((t1 ++ kb) ++ m) ++ i) ++ z) ++ p := ⟨_, rfl⟩
    have r1 : t1.length + kb.length ≤ 9223372036854775807 := by omega
    have r2 : (t1 ++ kb).length + m.length ≤ 9223372036854775807 := by rw [List.length_append]; omega
    have r3 : ((t1 ++ kb) ++ m).length + i.length ≤ 9223372036854775807 := by simp only [List.length_append]; omega
    have r4 : (((t1 ++ kb) ++ m) ++ i).length + z.length ≤ 9223372036854775807 := by simp only [List.length_append]; omega
    have r5 : ((((t1 ++ kb) ++ m) ++ i) ++ z).length + p.length ≤ 9223372036854775807 := by simp only [List.length_append]; omega
    have hwl : w.length ≤ 3200 := by rw [hw]; simp only [List.length_append]; omega
    have r6 : out.length + w.length ≤ 9223372036854775807 := by omega
    simp only [req_pos r1, req_pos r2, req_pos r3, req_pos r4, req_pos r5, ← hw, req_pos r6]
    rw [wsucc (by omega)]
    obtain ⟨o, q1, q2, q3⟩ := parts_go u o1 (fun j42 => req (j42.length + t2.length ≤ 9223372036854775807) (f_tree_Write_L11 l k1 fu0 fu (j42 ++ t2) ((j + 1 : Nat) : Int))) (fun j42 => req (j42.length + t2.length ≤ 9223372036854775807) (f_lumref_TreeWrite_L11 l k2 fu0 fu (j42 ++ t2) ((j + 1 : Nat) : Int))) u.Parts.length 0 fu0 (out ++ w) (by omega) (by omega) (by omega) (by rw [List.length_append]; omega)
    rw [List.length_append] at q1
    obtain ⟨o', s1, s2⟩ := nodes_go l hl hO fu0 h0 k1 k2 d (j + 1) fu (o ++ t2) (by omega) (by omega) (by omega) (by rw [List.length_append]; omega)
    refine ⟨o', ?_, ?_⟩
    · refine Eq.trans q2 ?_
      rw [req_pos (by omega)]; exact s1
    · refine Eq.trans q3 ?_
      rw [req_pos (by omega)]; exact s2
theorem write_ok (l : List Nd) (hl : l.length ≤ 1048576) (hO : ∀ u ∈ l, Ok u) (fu : Nat) (hfu : 2000000 ≤ fu) : ∃ t e, f_tree_Write fu l = some (t, e) ∧ f_lumref_TreeWrite fu l = some (t, e) := by
  obtain ⟨r, c1, c2⟩ := PTreeSame.chk_ok l (fun u hu => (hO u hu).2.1) fu (by omega)
  unfold f_tree_Write f_lumref_TreeWrite
  rw [c1, c2, opt_of, opt_of]
  by_cases hr : r = 0
  · subst hr
    have z0 : ((0 : Int) != 0) = false := rfl
    rw [cond_ff z0, cond_ff z0]
    obtain ⟨p, p1, p2, p3⟩ := put1_ok (l.length : Int) fu (by omega)
    rw [p1, p2, opt_of, opt_of]
    simp only [lt_of]
    obtain ⟨o, q1, q2⟩ := nodes_go l hl hO fu hfu (fun j6 => (bif (decide ((j6.length : Int) > (4096 : Int))) then (some (([] : List UInt8), (2 : Int))) else (some (j6, (0 : Int))))) (fun j6 => (bif (decide ((j6.length : Int) > (4096 : Int))) then (some (([] : List UInt8), (2 : Int))) else (some (j6, (0 : Int))))) l.length 0 fu p (by omega) (by omega) (by omega) (by omega)
    cases hc : decide ((o.length : Int) > (4096 : Int))
    · exact ⟨o, 0, q1.trans (by rw [hc]; rfl), q2.trans (by rw [hc]; rfl)⟩
    · exact ⟨[], 2, q1.trans (by rw [hc]; rfl), q2.trans (by rw [hc]; rfl)⟩
  · have z1 : (r != 0) = true := by simpa using hr
    rw [cond_tt z1, cond_tt z1]
    exact ⟨[], r, rfl, rfl⟩
end Go.Proofs.YtiioclkiapbjnaaGreatDoor.PTreeSays
namespace Go.Proofs.YtiioclkiapbjnaaGreatDoor.Roll
def redStep (n i : Nat) : Nat := if n / 2 ^ i % 2 = 1 then n ^^^ (2147483657 * 2 ^ (i - 31)) else n
def redTo (n : Nat) : Nat → Nat
  | 0 => n
  | k + 1 => redStep (redTo n k) (63 - k)
def red (n : Nat) : Nat := redTo n 33 % 4294967296
theorem poly_lt (i : Nat) (hi : i ≤ 63) : 2147483657 * 2 ^ (i - 31) < 18446744073709551616 := by
  have h : 2 ^ (i - 31) ≤ 2 ^ 32 := Nat.pow_le_pow_right (by omega) (by omega)
  have h2 : (2 : Nat) ^ 32 = 4294967296 := rfl
  omega
theorem redStep_lt (n i : Nat) (hn : n < 18446744073709551616) (hi : i ≤ 63) : redStep n i < 18446744073709551616 := by
  unfold redStep; split
  · exact xor_lt64 hn (poly_lt i hi)
  · exact hn
theorem redTo_lt (n k : Nat) (hn : n < 18446744073709551616) : redTo n k < 18446744073709551616 := by
  induction k with
  | zero => exact hn
  | succ k ih => exact redStep_lt _ _ ih (by omega)
theorem red_lt (n : Nat) : red n < 4294967296 := Nat.mod_lt _ (by omega)
end Go.Proofs.YtiioclkiapbjnaaGreatDoor.Roll
namespace Go.Proofs.YtiioclkiapbjnaaGreatDoor.Roll
def shift (n : Nat) : Nat := red (n * 256)
def lastTo (b : Nat) : Nat → Nat
  | 0 => b
  | k + 1 => shift (lastTo b k)
theorem shift_lt (n : Nat) : shift n < 4294967296 := red_lt _
theorem lastTo_lt (b k : Nat) (hb : b < 256) : lastTo b k < 4294967296 := by
  cases k with
  | zero => simp [lastTo]; omega
  | succ k => exact shift_lt _
theorem redStep_xor (n b i : Nat) (hb : b < 2147483648) (hi : 31 ≤ i) : redStep (n ^^^ b) i = redStep n i ^^^ b := by
  have hbit : (n ^^^ b) / 2 ^ i % 2 = n / 2 ^ i % 2 := by
    have h1 : (n ^^^ b).testBit i = n.testBit i := by
      rw [Nat.testBit_xor]
      have : b.testBit i = false := Nat.testBit_lt_two_pow (Nat.lt_of_lt_of_le hb (by
        have : 2 ^ 31 ≤ 2 ^ i := Nat.pow_le_pow_right (by omega) hi
        have h2 : (2 : Nat) ^ 31 = 2147483648 := rfl
        omega))
      rw [this]; simp
    rw [Nat.testBit_eq_decide_div_mod_eq, Nat.testBit_eq_decide_div_mod_eq] at h1
    have h2 : ((n ^^^ b) / 2 ^ i % 2 = 1) ↔ (n / 2 ^ i % 2 = 1) := by simpa using h1
    omega
  unfold redStep
  rw [hbit]
  split
  · rw [Nat.xor_assoc, Nat.xor_comm b, ← Nat.xor_assoc]
  · rfl
theorem redTo_xor (n b k : Nat) (hb : b < 2147483648) (hk : k ≤ 33) : redTo (n ^^^ b) k = redTo n k ^^^ b := by
  induction k with
  | zero => rfl
  | succ k ih => rw [redTo, ih (by omega), redStep_xor _ _ _ hb (by omega)]; rfl
theorem xor_mod32 (a b : Nat) : (a ^^^ b) % 4294967296 = (a % 4294967296) ^^^ (b % 4294967296) := by
  have h2 : (4294967296 : Nat) = 2 ^ 32 := rfl
  rw [h2]
  apply Nat.eq_of_testBit_eq
  intro i
  simp only [Nat.testBit_mod_two_pow, Nat.testBit_xor]
  by_cases h : i < 32 <;> simp [h]
theorem red_xor (n b : Nat) (hb : b < 2147483648) : red (n ^^^ b) = red n ^^^ b := by
  unfold red
  rw [redTo_xor n b 33 hb (by omega), xor_mod32, Nat.mod_eq_of_lt (a := b) (by omega)]
theorem redStep_zero (i : Nat) : redStep 0 i = 0 := by simp [redStep]
theorem redTo_zero (k : Nat) : redTo 0 k = 0 := by
  induction k with
  | zero => rfl
  | succ k ih => rw [redTo, ih, redStep_zero]
theorem shift_zero : shift 0 = 0 := by simp [shift, red, redTo_zero]
theorem lastTo_zero (k : Nat) : lastTo 0 k = 0 := by
  induction k with
  | zero => rfl
  | succ k ih => rw [lastTo, ih, shift_zero]
def sumOf (l : List UInt8) : Nat := l.foldl (fun n b => shift n ^^^ b.toNat) 0
theorem sumOf_snoc (l : List UInt8) (b : UInt8) : sumOf (l ++ [b]) = shift (sumOf l) ^^^ b.toNat := by simp [sumOf]
theorem sumOf_lt (l : List UInt8) : sumOf l < 4294967296 := by
  rcases List.eq_nil_or_concat l with rfl | ⟨m, b, rfl⟩
  · simp [sumOf]
  · rw [List.concat_eq_append, sumOf_snoc]; exact xor_lt32 (shift_lt _) (by have := b.toNat_lt; omega)
end Go.Proofs.YtiioclkiapbjnaaGreatDoor.Roll
namespace Go.Proofs.YtiioclkiapbjnaaGreatDoor.Roll
theorem lt_of_bit {x i : Nat} (h : x < 2 ^ (i + 1)) (hb : x.testBit i = false) : x < 2 ^ i := by
  rw [Nat.testBit_eq_decide_div_mod_eq] at hb
  have h1 : x / 2 ^ i < 2 := by
    rw [Nat.div_lt_iff_lt_mul (Nat.two_pow_pos i), Nat.mul_comm, ← Nat.pow_succ]; exact h
  have h2 : x / 2 ^ i % 2 ≠ 1 := by simpa using hb
  have h3 : x / 2 ^ i = 0 := by
    generalize x / 2 ^ i = q at h1 h2
    omega
  exact (Nat.div_eq_zero_iff_lt (Nat.two_pow_pos i)).1 h3
theorem poly_bits (i : Nat) (hi : 31 ≤ i) : 2147483657 * 2 ^ (i - 31) < 2 ^ (i + 1) ∧ (2147483657 * 2 ^ (i - 31)).testBit i = true := by
  obtain ⟨j, rfl⟩ : ∃ j, i = 31 + j := ⟨i - 31, by omega⟩
  rw [Nat.add_sub_cancel_left]
  have hp := Nat.two_pow_pos j
  have e1 : 2 ^ (31 + j) = 2147483648 * 2 ^ j := by rw [Nat.pow_add]
  have e2 : 2 ^ (31 + j + 1) = 4294967296 * 2 ^ j := by rw [Nat.pow_add, Nat.pow_add]; omega
  refine ⟨by rw [e2]; omega, ?_⟩
  rw [Nat.testBit_eq_decide_div_mod_eq, e1]
  have : 2147483657 * 2 ^ j / (2147483648 * 2 ^ j) = 1 := by
    rw [Nat.mul_div_mul_right _ _ hp]
  rw [this]; rfl
theorem redStep_bnd {m i : Nat} (hi : 31 ≤ i) (h : m < 2 ^ (i + 1)) : redStep m i < 2 ^ i := by
  unfold redStep
  split
  · rename_i hb
    have hp := poly_bits i hi
    refine lt_of_bit (Nat.xor_lt_two_pow h hp.1) ?_
    have hb' : m.testBit i = true := by rw [Nat.testBit_eq_decide_div_mod_eq]; simpa using hb
    rw [Nat.testBit_xor, hp.2, hb']; rfl
  · rename_i hb
    exact lt_of_bit h (by rw [Nat.testBit_eq_decide_div_mod_eq]; simpa using hb)
theorem redTo_bnd (n : Nat) (hn : n < 18446744073709551616) : ∀ k, k ≤ 33 → redTo n k < 2 ^ (64 - k)
  | 0, _ => hn
  | k + 1, hk => by
    have h1 := redTo_bnd n hn k (by omega)
    rw [redTo, show 64 - (k + 1) = 63 - k by omega]
    exact redStep_bnd (by omega) (by rw [show 63 - k + 1 = 64 - k by omega]; exact h1)
theorem red_lt31 (n : Nat) (hn : n < 18446744073709551616) : red n < 2147483648 := by
  have h : redTo n 33 < 2147483648 := redTo_bnd n hn 33 (by omega)
  unfold red
  rw [Nat.mod_eq_of_lt (by omega)]; exact h
theorem redStep_lin (a b i : Nat) : redStep (a ^^^ b) i = redStep a i ^^^ redStep b i := by
  have h1 : (a ^^^ b).testBit i = (a.testBit i ^^ b.testBit i) := Nat.testBit_xor ..
  rw [Nat.testBit_eq_decide_div_mod_eq, Nat.testBit_eq_decide_div_mod_eq, Nat.testBit_eq_decide_div_mod_eq] at h1
  unfold redStep
  generalize 2147483657 * 2 ^ (i - 31) = p
  by_cases ha : a / 2 ^ i % 2 = 1 <;> by_cases hb : b / 2 ^ i % 2 = 1 <;> simp [ha, hb] at h1 ⊢
  · rw [if_neg (by omega), Nat.xor_assoc, ← Nat.xor_assoc p, Nat.xor_comm p b, Nat.xor_assoc b, Nat.xor_self, Nat.xor_zero]
  · rw [if_pos h1, Nat.xor_assoc, Nat.xor_comm b, ← Nat.xor_assoc]
  · rw [if_pos h1, Nat.xor_assoc]
  · intro h; omega
theorem redTo_lin (a b : Nat) : ∀ k, redTo (a ^^^ b) k = redTo a k ^^^ redTo b k
  | 0 => rfl
  | k + 1 => by rw [redTo, redTo_lin a b k, redStep_lin]; rfl
theorem red_lin (a b : Nat) : red (a ^^^ b) = red a ^^^ red b := by unfold red; rw [redTo_lin, xor_mod32]
theorem shl8_lin (a b : Nat) : (a ^^^ b) * 256 = (a * 256) ^^^ (b * 256) := by
  have e : ∀ x : Nat, x * 256 = x <<< 8 := fun x => by rw [Nat.shiftLeft_eq]
  rw [e, e, e]
  apply Nat.eq_of_testBit_eq
  intro i
  simp only [Nat.testBit_xor, Nat.testBit_shiftLeft]
  by_cases h : 8 ≤ i <;> simp [h]
theorem shift_lin (a b : Nat) : shift (a ^^^ b) = shift a ^^^ shift b := by unfold shift; rw [shl8_lin, red_lin]
theorem shift_lt31 {n : Nat} (h : n < 4294967296) : shift n < 2147483648 := red_lt31 _ (by omega)
theorem lastTo_succ (b : Nat) : ∀ k, lastTo (shift b) k = shift (lastTo b k)
  | 0 => rfl
  | k + 1 => by rw [lastTo, lastTo_succ b k]; rfl
theorem fold_lin : ∀ (l : List UInt8) (n b : Nat), l.foldl (fun n b => shift n ^^^ b.toNat) (n ^^^ b) = l.foldl (fun n b => shift n ^^^ b.toNat) n ^^^ lastTo b l.length
  | [], n, b => rfl
  | x :: l, n, b => by
    rw [List.foldl_cons, List.foldl_cons, shift_lin, Nat.xor_assoc, Nat.xor_comm (shift b), ← Nat.xor_assoc, fold_lin l, List.length_cons, lastTo_succ]; rfl
theorem sumOf_cons (g : UInt8) (l : List UInt8) : sumOf (g :: l) = sumOf l ^^^ lastTo g.toNat l.length := by
  unfold sumOf
  rw [List.foldl_cons, shift_zero, Nat.zero_xor]
  have := fold_lin l 0 g.toNat
  rw [Nat.zero_xor] at this
  exact this
theorem sumOf_zeros (l : List UInt8) : ∀ k, sumOf (List.replicate k 0 ++ l) = sumOf l
  | 0 => rfl
  | k + 1 => by
    rw [List.replicate_succ, List.cons_append, sumOf_cons, sumOf_zeros l k]
    have : ((0 : UInt8).toNat) = 0 := rfl
    rw [this, lastTo_zero, Nat.xor_zero]
theorem sumOf_lt31 (l : List UInt8) : sumOf l < 2147483648 := by
  rcases List.eq_nil_or_concat l with rfl | ⟨m, b, rfl⟩
  · simp [sumOf]
  · rw [List.concat_eq_append, sumOf_snoc]
    have h1 := shift_lt31 (sumOf_lt m)
    have h2 := b.toNat_lt
    exact Nat.xor_lt_two_pow (n := 31) h1 (by omega)
def tl16 (l : List UInt8) : List UInt8 := l.drop (l.length - 16)
def pad (s : List UInt8) (k : Nat) : List UInt8 := List.replicate 16 0 ++ s.take k
def win (s : List UInt8) (k : Nat) : List UInt8 := (pad s k).drop k
theorem win_sum (s : List UInt8) (k : Nat) (hk : k ≤ s.length) : sumOf (win s k) = sumOf (tl16 (s.take k)) := by
  unfold win pad tl16
  have hl : (s.take k).length = k := by rw [List.length_take]; omega
  rw [hl]
  by_cases h : 16 ≤ k
  · rw [List.drop_append, List.drop_of_length_le (by simp; omega), List.nil_append]; simp
  · rw [List.drop_append_of_le_length (by simp; omega), List.drop_replicate, sumOf_zeros, show k - 16 = 0 by omega, List.drop_zero]
theorem pad_len (s : List UInt8) (k : Nat) (hk : k ≤ s.length) : (pad s k).length = k + 16 := by
  unfold pad; rw [List.length_append, List.length_replicate, List.length_take]; omega
theorem pad_succ (s : List UInt8) (k : Nat) (hk : k < s.length) : pad s (k + 1) = pad s k ++ [s[k]] := by
  unfold pad
  rw [List.take_add_one, List.getElem?_eq_getElem hk, List.append_assoc]; rfl
def ring (s : List UInt8) : Nat → List UInt8
  | 0 => List.replicate 16 0
  | k + 1 => (ring s k).set (k % 16) (s.getD k 0)
theorem ring_len (s : List UInt8) : ∀ k, (ring s k).length = 16
  | 0 => by simp [ring]
  | k + 1 => by rw [ring, List.length_set, ring_len s k]
theorem ring_at (s : List UInt8) : ∀ k, k ≤ s.length → ∀ i, i < 16 → (ring s k)[(k + i) % 16]? = (pad s k)[k + i]?
  | 0, _, i, hi => by
    rw [ring, Nat.zero_add, Nat.mod_eq_of_lt hi]
    unfold pad
    rw [List.getElem?_append_left (by simpa using hi)]
  | k + 1, hk, i, hi => by
    rw [ring, pad_succ s k (by omega)]
    have hpl := pad_len s k (by omega)
    by_cases h15 : i = 15
    · subst h15
      rw [show k + 1 + 15 = k + 16 by omega, Nat.add_mod_right, List.getElem?_set_self (by rw [ring_len]; exact Nat.mod_lt _ (by omega)), List.getElem?_append_right (by omega), hpl, Nat.sub_self, List.getD_eq_getElem?_getD, List.getElem?_eq_getElem (by omega)]; rfl
    · rw [List.getElem?_set_ne (by have := ring_len s k; omega), show k + 1 + i = k + (i + 1) by omega, ring_at s k (by omega) (i + 1) (by omega), List.getElem?_append_left (by omega)]
theorem win_cons (s : List UInt8) (k : Nat) (hk : k < s.length) : ∃ g t, win s k = g :: t ∧ t.length = 15 ∧ (ring s k)[k % 16]? = some g ∧ win s (k + 1) = t ++ [s[k]] := by
  have hpl := pad_len s k (by omega)
  have h1 := ring_at s k (by omega) 0 (by omega)
  rw [Nat.add_zero, List.getElem?_eq_getElem (l := pad s k) (by omega)] at h1
  refine ⟨_, (pad s k).drop (k + 1), List.drop_eq_getElem_cons (by omega), by rw [List.length_drop]; omega, h1, ?_⟩
  unfold win
  rw [pad_succ s k hk, List.drop_append_of_le_length (by omega)]
theorem sum_step (s : List UInt8) (k : Nat) (hk : k < s.length) : ∃ g : UInt8, (ring s k)[k % 16]? = some g ∧ sumOf (win s (k + 1)) = shift (sumOf (win s k) ^^^ lastTo g.toNat 15) ^^^ s[k].toNat := by
  obtain ⟨g, t, h1, h2, h3, h4⟩ := win_cons s k hk
  refine ⟨g, h3, ?_⟩
  rw [h4, h1, sumOf_snoc, sumOf_cons, h2, Nat.xor_assoc, Nat.xor_self, Nat.xor_zero]
end Go.Proofs.YtiioclkiapbjnaaGreatDoor.Roll
namespace Go.Proofs.YtiioclkiapbjnaaGreatDoor.PChunkSays
open Go.RowKit YtiioclkiapbjnaaGreatDoor.En YtiioclkiapbjnaaGreatDoor Roll
set_option linter.unusedVariables false
set_option linter.unusedSimpArgs false
theorem u64w {x : Nat} (h : x < 18446744073709551616) : IntKind.u64.wrap (x : Int) = (x : Int) := IntWalk.u64_in _ (by omega)
theorem u32w (x : Nat) : IntKind.u32.wrap (x : Int) = ((x % 4294967296 : Nat) : Int) := by
  unfold IntKind.wrap
  simp [IntKind.signed, IntKind.bits]
theorem u32wi {x : Nat} (h : x < 4294967296) : IntKind.u32.wrap (x : Int) = (x : Int) := by rw [u32w, Nat.mod_eq_of_lt h]
theorem u64x {a b : Nat} (ha : a < 18446744073709551616) (hb : b < 18446744073709551616) : bits .xor .u64 (a : Int) (b : Int) = ((a ^^^ b : Nat) : Int) := u64_xor_nat a b ha hb
theorem u32x {a b : Nat} (ha : a < 4294967296) (hb : b < 4294967296) : bits .xor .u32 (a : Int) (b : Int) = ((a ^^^ b : Nat) : Int) := u32_xor_nat a b ha hb
theorem roll_reduce_loop (n : Nat) (hn : n < 18446744073709551616) (kk : Int → Option Int) : ∀ (fuel k : Nat), k ≤ 33 → 33 - k < fuel → f_roll_reduce_L5 kk fuel (redTo n k : Nat) ((63 - k : Nat) : Int) = kk (redTo n 33 : Nat)
  | 0, k, _, hf => absurd hf (Nat.not_lt_zero _)
  | fuel + 1, k, hk, hf => by
    rw [f_roll_reduce_L5]
    have hb := redTo_lt n k hn
    by_cases hlt : k < 33
    · have hs : redTo n (k + 1) = redStep (redTo n k) (63 - k) := rfl
      have ih := roll_reduce_loop n hn kk fuel (k + 1) (by omega) (by omega)
      rw [hs] at ih
      obtain ⟨m, hm⟩ : ∃ m, m = redTo n k := ⟨_, rfl⟩
      rw [← hm] at hb ih ⊢
      have hx := poly_lt (63 - k) (by omega)
      have hj : IntKind.i64.wrap (((63 - k : Nat) : Int) - 1) = ((63 - (k + 1) : Nat) : Int) := by rw [w64 (by omega) (by omega)]; omega
      have hj2 : IntKind.i64.wrap (((63 - k : Nat) : Int) - 31) = ((63 - k - 31 : Nat) : Int) := by rw [w64 (by omega) (by omega)]; omega
      rw [cond_tt (decide_eq_true (by omega)), lt_of, req_pos (by omega), hj, hj2]
      rw [shr_nat (m := 63 - k) (k := .u64) rfl (show 63 - k ≤ 64 by omega)]
      rw [show bits .and .u64 ((m / 2 ^ (63 - k) : Nat) : Int) 1 = ((m / 2 ^ (63 - k) % 2 : Nat) : Int) by rw [← shr_cast, u64_bit m _ hb]]
      rw [show ((2147483657 : Int) * 2 ^ min (((63 - k - 31 : Nat) : Int)).toNat (IntKind.bits .u64)) = ((2147483657 * 2 ^ (63 - k - 31) : Nat) : Int) from shl_nat (x := 2147483657) (m := 63 - k - 31) (k := .u64) rfl (show 63 - k - 31 ≤ 64 by omega), u64w hx]
      by_cases hc : m / 2 ^ (63 - k) % 2 = 1
      · rw [hc, cond_tt (by rfl), req_pos (by omega), u64x hb hx]
        unfold redStep at ih
        rw [if_pos hc] at ih
        exact ih
      · rw [show m / 2 ^ (63 - k) % 2 = 0 by omega, cond_ff (by rfl)]
        unfold redStep at ih
        rw [if_neg hc] at ih
        exact ih
    · obtain rfl : k = 33 := by omega
      rw [cond_ff (decide_eq_false (by omega))]
theorem roll_reduce_ok (n : Nat) (hn : n < 18446744073709551616) (fu : Nat) (hf : 34 ≤ fu) : f_roll_reduce fu (n : Int) = some ((red n : Nat) : Int) := by
  unfold f_roll_reduce
  rw [lt_of]
  have := roll_reduce_loop n hn (fun j => some (IntKind.u32.wrap j)) fu 0 (by omega) (by omega)
  rw [show redTo n 0 = n from rfl] at this
  rw [show ((63 : Int)) = ((63 - 0 : Nat) : Int) from rfl, this, u32w]; rfl
theorem lumref_rest_loop (n : Nat) (hn : n < 18446744073709551616) (kk : Int → Option Int) : ∀ (fuel k : Nat), k ≤ 33 → 33 - k < fuel → f_lumref_rest_L5 kk fuel (redTo n k : Nat) ((63 - k : Nat) : Int) = kk (redTo n 33 : Nat)
  | 0, k, _, hf => absurd hf (Nat.not_lt_zero _)
  | fuel + 1, k, hk, hf => by
    rw [f_lumref_rest_L5]
    have hb := redTo_lt n k hn
    by_cases hlt : k < 33
    · have hs : redTo n (k + 1) = redStep (redTo n k) (63 - k) := rfl
      have ih := lumref_rest_loop n hn kk fuel (k + 1) (by omega) (by omega)
      rw [hs] at ih
      obtain ⟨m, hm⟩ : ∃ m, m = redTo n k := ⟨_, rfl⟩
      rw [← hm] at hb ih ⊢
      have hx := poly_lt (63 - k) (by omega)
      have hj : IntKind.i64.wrap (((63 - k : Nat) : Int) - 1) = ((63 - (k + 1) : Nat) : Int) := by rw [w64 (by omega) (by omega)]; omega
      have hj2 : IntKind.i64.wrap (((63 - k : Nat) : Int) - 31) = ((63 - k - 31 : Nat) : Int) := by rw [w64 (by omega) (by omega)]; omega
      rw [cond_tt (decide_eq_true (by omega)), lt_of, req_pos (by omega), hj, hj2]
      rw [shr_nat (m := 63 - k) (k := .u64) rfl (show 63 - k ≤ 64 by omega)]
      rw [show bits .and .u64 ((m / 2 ^ (63 - k) : Nat) : Int) 1 = ((m / 2 ^ (63 - k) % 2 : Nat) : Int) by rw [← shr_cast, u64_bit m _ hb]]
      rw [show ((2147483657 : Int) * 2 ^ min (((63 - k - 31 : Nat) : Int)).toNat (IntKind.bits .u64)) = ((2147483657 * 2 ^ (63 - k - 31) : Nat) : Int) from shl_nat (x := 2147483657) (m := 63 - k - 31) (k := .u64) rfl (show 63 - k - 31 ≤ 64 by omega), u64w hx]
      by_cases hc : m / 2 ^ (63 - k) % 2 = 1
      · rw [hc, cond_tt (by rfl), req_pos (by omega), u64x hb hx]
        unfold redStep at ih
        rw [if_pos hc] at ih
        exact ih
      · rw [show m / 2 ^ (63 - k) % 2 = 0 by omega, cond_ff (by rfl)]
        unfold redStep at ih
        rw [if_neg hc] at ih
        exact ih
    · obtain rfl : k = 33 := by omega
      rw [cond_ff (decide_eq_false (by omega))]
theorem lumref_rest_ok (n : Nat) (hn : n < 18446744073709551616) (fu : Nat) (hf : 34 ≤ fu) : f_lumref_rest fu (n : Int) = some ((red n : Nat) : Int) := by
  unfold f_lumref_rest
  rw [lt_of]
  have := lumref_rest_loop n hn (fun j => some (IntKind.u32.wrap j)) fu 0 (by omega) (by omega)
  rw [show redTo n 0 = n from rfl] at this
  rw [show ((63 : Int)) = ((63 - 0 : Nat) : Int) from rfl, this, u32w]; rfl
theorem shl8 {n : Nat} (h : n < 4294967296) : IntKind.u64.wrap ((IntKind.u64.wrap (n : Int)) * 2 ^ min ((8 : Int)).toNat (IntKind.bits .u64)) = ((n * 256 : Nat) : Int) := by
  rw [u64w (by omega), shl_nat (x := n) (m := 8) (j := 8) rfl (by decide), u64w (by omega)]
theorem shift_ok (n : Nat) (hn : n < 4294967296) (fu : Nat) (hf : 34 ≤ fu) : f_roll_shift fu (n : Int) = some ((shift n : Nat) : Int) := by
  unfold f_roll_shift
  rw [shl8 hn, roll_reduce_ok _ (by omega) fu hf, opt_of]; rfl
theorem last_loop (b : Nat) (hb : b < 256) (fu : Nat) (hfu : 34 ≤ fu) (kk : Int → Option Int) : ∀ (fuel k : Nat), k ≤ 15 → 15 - k < fuel → f_roll_last_L5 kk fu fuel (lastTo b k : Nat) (k : Int) = kk (lastTo b 15 : Nat)
  | 0, k, _, hf => absurd hf (Nat.not_lt_zero _)
  | fuel + 1, k, hk, hf => by
    rw [f_roll_last_L5]
    by_cases hlt : k < 15
    · rw [cond_tt (dlt (by omega)), shift_ok _ (lastTo_lt b k hb) fu hfu, opt_of, wsucc (by omega)]
      exact last_loop b hb fu hfu kk fuel (k + 1) (by omega) (by omega)
    · obtain rfl : k = 15 := by omega
      rw [cond_ff (dge (by omega))]
theorem last_ok (b : Nat) (hb : b < 256) (fu : Nat) (hf : 34 ≤ fu) : f_roll_last fu (b : Int) = some ((lastTo b 15 : Nat) : Int) := by
  unfold f_roll_last
  rw [lt_of, u32wi (by omega)]
  exact last_loop b hb fu hf _ fu 0 (by omega) (by omega)
theorem top_bit (sum : Nat) (h : sum < 2147483648) : bits BinOp.and IntKind.u32 (sum : Int) 2147483648 = 0 := by
  have := u32_and_nat sum 2147483648 (by omega) (by omega)
  have e : sum &&& 2147483648 = 0 := by
    apply Nat.eq_of_testBit_eq
    intro i
    rw [Nat.testBit_and, Nat.zero_testBit, show (2147483648 : Nat) = 2 ^ 31 from rfl, Nat.testBit_two_pow]
    by_cases hi : 31 = i
    · subst hi; simp [Nat.testBit_lt_two_pow (show sum < 2 ^ 31 from h)]
    · simp [hi]
  rw [e] at this; exact this
structure RS (s : List UInt8) (k : Nat) (w : A16u8) (a m : Int) : Prop where
  win : lA16u8 w = ring s k
  at_ : a = ((k % 16 : Nat) : Int)
  sum : m = ((sumOf (Roll.win s k) : Nat) : Int)
theorem bAt_eq (s : List UInt8) (k : Nat) (hk : k < s.length) : En.bAt s (k : Int) = (s[k].toNat : Int) := by
  unfold En.bAt; rw [Int.toNat_natCast, List.getD_eq_getElem?_getD, List.getElem?_eq_getElem hk]; rfl
theorem push_ok (s : List UInt8) (k : Nat) (hk : k < s.length) {w : A16u8} {a m : Int} (h : RS s k w a m) (fu : Nat) (hf : 34 ≤ fu) : ∃ r, f_roll_Push fu ⟨w, a, m⟩ (En.bAt s (k : Int)) = some (r, 0) ∧ RS s (k + 1) r.Win r.At r.Sum := by
  obtain ⟨hw, rfl, rfl⟩ := h
  obtain ⟨g, hg, hsum⟩ := sum_step s k hk
  have hl := sumOf_lt31 (Roll.win s k)
  have h16 : k % 16 < 16 := Nat.mod_lt _ (by omega)
  have hgl := g.toNat_lt
  have hxl := s[k].toNat_lt
  have hlast := lastTo_lt g.toNat 15 hgl
  have hat : at? (lA16u8 w) ((k % 16 : Nat) : Int) = some g := by rw [at_nat, hw, hg]
  rw [bAt_eq s k hk]
  unfold f_roll_Push
  rw [lt_of, lt_of]
  dsimp only
  rw [cond_ff (decide_eq_false (by omega)), cond_ff (decide_eq_false (by omega)), top_bit _ hl, cond_ff (by rfl), hat, opt_of]
  have hxs : (sumOf (Roll.win s k) ^^^ lastTo g.toNat 15) < 4294967296 := xor_lt32 (by omega) hlast
  have key : ∀ q : Nat, q = sumOf (Roll.win s k) ^^^ lastTo g.toNat 15 → ∃ r, (opt (f_roll_shift fu (q : Int)) fun (r9 : Int) => (opt (some g) fun (u10 : UInt8) => (req (0 ≤ (s[k].toNat : Int) ∧ (s[k].toNat : Int) ≤ 255) (some ((S_api_Roll.mk (setA16u8 w ((k % 16 : Nat) : Int) (UInt8.ofNat ((s[k].toNat : Int)).toNat)) (((IntKind.i64.wrap (((k % 16 : Nat) : Int) + (1 : Int)))).tmod (16 : Int)) (bits .xor .u32 r9 (IntKind.u32.wrap (s[k].toNat : Int)))), (0 : Int)))))) = some (r, 0) ∧ RS s (k + 1) r.Win r.At r.Sum := by
    intro q hq
    have hql : q < 4294967296 := by rw [hq]; exact hxs
    have hsl := shift_lt q
    rw [shift_ok q hql fu hf, opt_of, opt_of, req_pos (by omega), u32wi (x := s[k].toNat) (by omega), u32x hsl (by omega)]
    refine ⟨_, rfl, ?_, ?_, ?_⟩
    · show lA16u8 (setA16u8 w _ _) = _
      rw [lsetA16u8 (by omega) (by omega), hw, ring, Int.toNat_natCast, Int.toNat_natCast, UInt8.ofNat_toNat, List.getD_eq_getElem?_getD, List.getElem?_eq_getElem hk]; rfl
    · show (IntKind.i64.wrap (((k % 16 : Nat) : Int) + 1)).tmod 16 = _
      rw [w64 (by omega) (by omega), Int.tmod_eq_emod_of_nonneg (by omega)]; omega
    · show ((shift q ^^^ s[k].toNat : Nat) : Int) = _
      rw [hsum, hq]
  by_cases h0 : g.toNat = 0
  · rw [cond_ff (by simp [h0])]
    exact key _ (by rw [h0, lastTo_zero, Nat.xor_zero])
  · rw [cond_tt (by rw [bne_iff_ne]; omega), last_ok _ hgl fu hf, opt_of, u32x (by omega) hlast]
    exact key _ rfl
theorem RS.zero (s : List UInt8) : RS s 0 (A16u8.mk 0 0 0 0 0 0 0 0 0 0 0 0 0 0 0 0) 0 0 := ⟨rfl, rfl, by
  have : sumOf (Roll.win s 0) = 0 := by
    rw [win_sum s 0 (by omega), List.take_zero]; rfl
  rw [this]; rfl⟩
def ends (c : S_api_Cut) (p : List UInt8) : Bool := decide ((p.length : Int) = c.Max) || (decide (c.Min ≤ (p.length : Int)) && decide (sumOf (tl16 p) % 2 ^ c.Bits.toNat = 0))
def pr (c : S_api_Cut) : List UInt8 → List UInt8 → List (List UInt8) → List (List UInt8) × List UInt8
  | [], cur, out => (out, cur)
  | b :: r, cur, out => if ends c (cur ++ [b]) then pr c r [] (out ++ [cur ++ [b]]) else pr c r (cur ++ [b]) out
structure Good (c : S_api_Cut) : Prop where
  min : 16 ≤ c.Min
  max : c.Min ≤ c.Max ∧ c.Max ≤ 1024
  bits : 1 ≤ c.Bits ∧ c.Bits ≤ 12
theorem mask {b : Int} (h : 1 ≤ b ∧ b ≤ 12) : IntKind.u32.wrap ((1 : Int) * 2 ^ min b.toNat (IntKind.bits .u32)) = ((2 ^ b.toNat : Nat) : Int) ∧ 2 ^ b.toNat ≤ 4096 ∧ 0 < 2 ^ b.toNat := by
  have h1 : 2 ^ b.toNat ≤ 2 ^ 12 := Nat.pow_le_pow_right (by omega) (by omega)
  have h2 : (2 : Nat) ^ 12 = 4096 := rfl
  refine ⟨?_, by omega, Nat.two_pow_pos _⟩
  have e : ((1 : Int) * 2 ^ min b.toNat (IntKind.bits .u32)) = ((2 ^ b.toNat : Nat) : Int) := by
    have := shl_nat (x := 1) (m := b.toNat) (j := b) (k := .u32) (by omega) (show b.toNat ≤ 32 by omega)
    rw [Nat.one_mul] at this
    exact this
  rw [e, u32wi (by omega)]
theorem low_bits {x b : Nat} (hx : x < 4294967296) (hb : b ≤ 12) : bits .and .u32 (x : Int) ((2 ^ b - 1 : Nat) : Int) = ((x % 2 ^ b : Nat) : Int) := by
  have h1 : 2 ^ b ≤ 2 ^ 12 := Nat.pow_le_pow_right (by omega) hb
  have h2 : (2 : Nat) ^ 12 = 4096 := rfl
  have := u32_and_nat x (2 ^ b - 1) hx (by omega)
  rw [Nat.and_two_pow_sub_one_eq_mod] at this
  exact this
theorem take_snoc (s : List UInt8) (k : Nat) (hk : k < s.length) : s.take (k + 1) = s.take k ++ [s[k]] := by rw [List.take_add_one, List.getElem?_eq_getElem hk]; rfl
theorem end_loop (c : S_api_Cut) (hc : Good c) (s : List UInt8) (hs : s.length ≤ 4096) (fu : Nat) (hfu : 34 ≤ fu) : ∀ (fuel k : Nat) (w : A16u8) (a m : Int), k ≤ s.length → s.length - k < fuel → RS s k w a m →
    ∃ r : Nat, f_chunk_end_L7 c s (fun _ => some 0) fu fuel w a m (k : Int) = some (r : Int) ∧ r ≤ s.length ∧ ((r = 0 ∧ ∀ out, pr c (s.drop k) (s.take k) out = (out, s)) ∨ (0 < r ∧ ∀ out, pr c (s.drop k) (s.take k) out = pr c (s.drop r) [] (out ++ [s.take r])))
  | 0, k, _, _, _, _, hf, _ => absurd hf (Nat.not_lt_zero _)
  | fuel + 1, k, w, a, m, hk, hf, hrs => by
    rw [f_chunk_end_L7]
    by_cases hlt : k < s.length
    · obtain ⟨r, hr, hrs'⟩ := push_ok s k hlt hrs fu hfu
      rw [cond_tt (dlt (by omega)), req_pos (by omega), hr, opt_of, lt_of, wsucc (by omega)]
      dsimp only
      have hlen : (s.take (k + 1)).length = k + 1 := by rw [List.length_take]; omega
      have hpr : ∀ out, pr c (s.drop k) (s.take k) out = if ends c (s.take (k + 1)) then pr c (s.drop (k + 1)) [] (out ++ [s.take (k + 1)]) else pr c (s.drop (k + 1)) (s.take (k + 1)) out := fun out => by
        rw [List.drop_eq_getElem_cons hlt, pr, ← take_snoc s k hlt]
      have hsum : r.Sum = ((sumOf (tl16 (s.take (k + 1))) : Nat) : Int) := by rw [hrs'.sum, win_sum s (k + 1) (by omega)]
      have hgo : ∀ b : Bool, b = ends c (s.take (k + 1)) → ∃ r_1 : Nat, (bif b then some (((k + 1 : Nat) : Int)) else f_chunk_end_L7 c s (fun _ => some 0) fu fuel r.Win r.At r.Sum ((k + 1 : Nat) : Int)) = some (r_1 : Int) ∧ r_1 ≤ s.length ∧ ((r_1 = 0 ∧ ∀ out, pr c (s.drop k) (s.take k) out = (out, s)) ∨ (0 < r_1 ∧ ∀ out, pr c (s.drop k) (s.take k) out = pr c (s.drop r_1) [] (out ++ [s.take r_1]))) := by
        intro b hb
        cases hbb : b with
        | true =>
          rw [hbb] at hb
          exact ⟨k + 1, rfl, hlt, .inr ⟨by omega, fun out => by rw [hpr, if_pos hb.symm]⟩⟩
        | false =>
          rw [hbb] at hb
          obtain ⟨r', h1, h2, h3⟩ := end_loop c hc s hs fu hfu fuel (k + 1) _ _ _ hlt (by omega) hrs'
          refine ⟨r', h1, h2, ?_⟩
          rcases h3 with ⟨h3, h4⟩ | ⟨h3, h4⟩
          · exact .inl ⟨h3, fun out => by rw [hpr, if_neg (by rw [← hb]; simp)]; exact h4 out⟩
          · exact .inr ⟨h3, fun out => by rw [hpr, if_neg (by rw [← hb]; simp)]; exact h4 out⟩
      by_cases h1 : ((k + 1 : Nat) : Int) = c.Max
      · rw [cond_tt (by rw [h1]; simp)]
        exact hgo true (by unfold ends; rw [hlen, decide_eq_true h1]; rfl)
      · rw [cond_ff (by rw [beq_eq_false_iff_ne]; exact h1)]
        by_cases h2 : c.Min ≤ ((k + 1 : Nat) : Int)
        · have hm := mask hc.bits
          have hb12 : c.Bits.toNat ≤ 12 := by have := hc.bits; omega
          have hsl := sumOf_lt31 (tl16 (s.take (k + 1)))
          have hw1 : IntKind.u32.wrap ((2 ^ c.Bits.toNat : Nat) - 1 : Int) = ((2 ^ c.Bits.toNat - 1 : Nat) : Int) := by
            have : ((2 ^ c.Bits.toNat : Nat) - 1 : Int) = ((2 ^ c.Bits.toNat - 1 : Nat) : Int) := by
              have := hm.2.2
              omega
            rw [this, u32wi (by omega)]
          have hand : bits .and .u32 r.Sum ((2 ^ c.Bits.toNat - 1 : Nat) : Int) = ((sumOf (tl16 (s.take (k + 1))) % 2 ^ c.Bits.toNat : Nat) : Int) := by rw [hsum, low_bits (by omega) hb12]
          rw [cond_tt (decide_eq_true h2), req_pos (by have := hc.bits; omega), hm.1, hw1, hand]
          refine hgo _ ?_
          unfold ends
          rw [hlen, decide_eq_false h1, decide_eq_true h2, Bool.false_or, Bool.true_and]
          by_cases h3 : sumOf (tl16 (s.take (k + 1))) % 2 ^ c.Bits.toNat = 0
          · rw [h3]; rfl
          · rw [decide_eq_false h3, beq_eq_false_iff_ne]; omega
        · rw [cond_ff (decide_eq_false h2)]
          exact hgo false (by unfold ends; rw [hlen, decide_eq_false h1, decide_eq_false h2]; rfl)
    · rw [cond_ff (dge (by omega))]
      refine ⟨0, rfl, by omega, .inl ⟨rfl, fun out => ?_⟩⟩
      rw [List.drop_of_length_le (by omega), List.take_of_length_le (by omega)]; rfl
theorem end_ok (c : S_api_Cut) (hc : Good c) (s : List UInt8) (hs : s.length ≤ 4096) (fu : Nat) (hfu : 5000 ≤ fu) : ∃ r : Nat, f_chunk_end fu c s = some (r : Int) ∧ r ≤ s.length ∧ ((r = 0 ∧ ∀ out, pr c s [] out = (out, s)) ∨ (0 < r ∧ ∀ out, pr c s [] out = pr c (s.drop r) [] (out ++ [s.take r]))) := by
  unfold f_chunk_end
  rw [lt_of]
  have := end_loop c hc s hs fu (by omega) fu 0 _ _ _ (by omega) (by omega) (RS.zero s)
  rw [List.drop_zero, List.take_zero] at this
  exact this
theorem pieces_loop (c : S_api_Cut) (hc : Good c) (fu : Nat) (hfu : 5000 ≤ fu) : ∀ (fuel : Nat) (s : List UInt8) (out : List (List UInt8)), s.length < fuel → s.length + out.length ≤ 4096 →
    f_chunk_pieces_L4 c fu fuel s out = some (pr c s [] out)
  | 0, s, _, hf, _ => absurd hf (Nat.not_lt_zero _)
  | fuel + 1, s, out, hf, hl => by
    rw [f_chunk_pieces_L4]
    obtain ⟨r, h1, h2, h3⟩ := end_ok c hc s (by omega) fu hfu
    rw [h1, opt_of]
    rcases h3 with ⟨rfl, h3⟩ | ⟨h3, h4⟩
    · rw [cond_tt (by rfl), h3]
    · rw [cond_ff (by rw [beq_eq_false_iff_ne]; omega), req_pos (by omega), req_pos (by simp; omega), req_pos (by omega), Int.toNat_natCast, h4]
      exact pieces_loop c hc fu hfu fuel _ _ (by rw [List.length_drop]; omega) (by rw [List.length_drop, List.length_append]; simp; omega)
theorem pieces_ok (c : S_api_Cut) (hc : Good c) (s : List UInt8) (hs : s.length ≤ 4096) (fu : Nat) (hfu : 5000 ≤ fu) : f_chunk_pieces fu c s = some (pr c s [] []) := pieces_loop c hc fu hfu fu s [] (by omega) (by simpa using hs)
theorem of_loop (l : List UInt8) (hl : l.length ≤ 16) (fu : Nat) (hfu : 34 ≤ fu) (kk : Int → Option Int) : ∀ (fuel k : Nat), k ≤ l.length → l.length - k < fuel → f_lumref_Of_L9 l kk fu fuel (sumOf (l.take k) : Nat) (k : Int) = kk (sumOf l : Nat)
  | 0, k, _, hf => absurd hf (Nat.not_lt_zero _)
  | fuel + 1, k, hk, hf => by
    rw [f_lumref_Of_L9]
    by_cases hlt : k < l.length
    · have hsl := sumOf_lt (l.take k)
      have hxl := l[k].toNat_lt
      rw [cond_tt (dlt (by omega)), at_lt hlt, opt_of, shl8 hsl, u64w (x := l[k].toNat) (by omega), u64x (by omega) (by omega), lumref_rest_ok _ (xor_lt64 (by omega) (by omega)) fu hfu, opt_of, wsucc (by omega), red_xor _ _ (by omega)]
      have := of_loop l hl fu hfu kk fuel (k + 1) hlt (by omega)
      rw [take_snoc l k hlt, sumOf_snoc] at this
      exact this
    · rw [cond_ff (dge (by omega)), List.take_of_length_le (by omega)]
theorem of_ok (s : List UInt8) (hs : s.length ≤ 5000) (fu : Nat) (hfu : 34 ≤ fu) : f_lumref_Of fu s = some ((sumOf (tl16 s) : Nat) : Int) := by
  unfold f_lumref_Of
  rw [lt_of]
  have key : ∀ l : List UInt8, l.length ≤ 16 → (lt (fun (j3i3 : Int) => (some j3i3)) fun (kk4 : Int → Option Int) => (req (l.length ≤ 9223372036854775807) (f_lumref_Of_L9 l kk4 fu fu (0 : Int) (0 : Int)))) = some ((sumOf l : Nat) : Int) := fun l hl => by
    rw [lt_of, req_pos (by omega)]
    exact of_loop l hl fu hfu _ fu 0 (by omega) (by omega)
  by_cases h : s.length > 16
  · rw [cond_tt (decide_eq_true (by omega)), w64 (by omega) (by omega), req_pos (by omega), show ((s.length : Int) - 16).toNat = s.length - 16 by omega]
    exact key (tl16 s) (by unfold tl16; rw [List.length_drop]; omega)
  · rw [cond_ff (decide_eq_false (by omega))]
    have : tl16 s = s := by unfold tl16; rw [show s.length - 16 = 0 by omega, List.drop_zero]
    rw [this]; exact key s (by omega)
theorem ends_ok (c : S_api_Cut) (hc : Good c) (p : List UInt8) (hp : p.length ≤ 5000) (fu : Nat) (hfu : 34 ≤ fu) : f_lumref_ends fu c p = some (ends c p) := by
  unfold f_lumref_ends ends
  rw [lt_of]
  by_cases h1 : (p.length : Int) = c.Max
  · rw [cond_tt (by rw [h1]; simp), decide_eq_true h1]; rfl
  · rw [cond_ff (by rw [beq_eq_false_iff_ne]; exact h1), decide_eq_false h1, Bool.false_or]
    by_cases h2 : c.Min ≤ (p.length : Int)
    · have hm := mask hc.bits
      rw [cond_tt (decide_eq_true h2), of_ok p hp fu hfu, opt_of, req_pos (by have := hc.bits; omega), hm.1, req_pos (by have := hm.2.2; omega), decide_eq_true h2, Bool.true_and, Int.tmod_eq_emod_of_nonneg (by omega)]
      congr 1
      by_cases h3 : sumOf (tl16 p) % 2 ^ c.Bits.toNat = 0
      · rw [decide_eq_true h3]; rw [beq_iff_eq]; exact_mod_cast h3
      · rw [decide_eq_false h3, beq_eq_false_iff_ne]; intro h; exact h3 (by exact_mod_cast h)
    · rw [cond_ff (decide_eq_false h2), decide_eq_false h2]; rfl
theorem cut_nat (s : List UInt8) (a b : Nat) : cut s (a : Int) (b : Int) = (s.take b).drop a := by unfold cut; rw [Int.toNat_natCast, Int.toNat_natCast]
theorem rpieces_loop (c : S_api_Cut) (hc : Good c) (s : List UInt8) (hs : s.length ≤ 4096) (fu : Nat) (hfu : 34 ≤ fu) : ∀ (fuel a f : Nat) (out : List (List UInt8)), f ≤ a → a ≤ s.length → s.length - a < fuel → out.length ≤ a →
    f_lumref_Pieces_L7 c s (fun j2x6 j2i7 => (req (0 ≤ j2i7 ∧ j2i7 ≤ (s.length : Int)) (some (j2x6, (s.drop (j2i7).toNat))))) fu fuel out (f : Int) (a : Int) = some (pr c (s.drop a) ((s.take a).drop f) out)
  | 0, a, _, _, _, _, hf, _ => absurd hf (Nat.not_lt_zero _)
  | fuel + 1, a, f, out, hfa, ha, hf, hout => by
    rw [f_lumref_Pieces_L7]
    by_cases hlt : a < s.length
    · have hcut : (s.take (a + 1)).drop f = (s.take a).drop f ++ [s[a]] := by
        rw [take_snoc s a hlt, List.drop_append_of_le_length (by rw [List.length_take]; omega)]
      rw [cond_tt (dlt (by omega)), lt_of, wsucc (by omega), req_pos (by omega), cut_nat, ends_ok c hc _ (by rw [List.length_drop, List.length_take]; omega) fu hfu, opt_of, List.drop_eq_getElem_cons hlt, pr, ← hcut]
      cases he : ends c ((s.take (a + 1)).drop f) with
      | true =>
        rw [cond_tt rfl, req_pos (by omega), req_pos (by simp; omega), if_pos rfl]
        dsimp only
        rw [rpieces_loop c hc s hs fu hfu fuel (a + 1) (a + 1) _ (by omega) hlt (by omega) (by simp; omega)]
        rw [List.drop_of_length_le (l := s.take (a + 1)) (by rw [List.length_take]; omega)]
      | false =>
        rw [cond_ff rfl, if_neg (by simp)]
        dsimp only
        rw [rpieces_loop c hc s hs fu hfu fuel (a + 1) f _ (by omega) hlt (by omega) (by omega)]
    · rw [cond_ff (dge (by omega)), req_pos (by omega), Int.toNat_natCast, show s.drop a = [] from List.drop_of_length_le (by omega), List.take_of_length_le (l := s) (by omega), pr]
theorem rpieces_ok (c : S_api_Cut) (hc : Good c) (s : List UInt8) (hs : s.length ≤ 4096) (fu : Nat) (hfu : 5000 ≤ fu) : f_lumref_Pieces fu c s = some (pr c s [] []) := by
  unfold f_lumref_Pieces
  rw [lt_of]
  have := rpieces_loop c hc s hs fu (by omega) fu 0 0 [] (by omega) (by omega) (by omega) (by simp)
  rw [List.drop_zero, List.take_zero] at this
  exact this
def okB (c : S_api_Cut) : Bool := decide (16 ≤ c.Min) && (decide (c.Min ≤ c.Max) && (decide (c.Max ≤ 1024) && (decide (1 ≤ c.Bits) && decide (c.Bits ≤ 12))))
theorem okB_good {c : S_api_Cut} (h : okB c = true) : Good c := by
  unfold okB at h
  simp only [Bool.and_eq_true, decide_eq_true_eq] at h
  exact ⟨h.1, ⟨h.2.1, h.2.2.1⟩, h.2.2.2⟩
theorem check_ok (c : S_api_Cut) (fu : Nat) : f_chunk_Check fu c = some (bif okB c then 0 else 1) := by
  unfold f_chunk_Check okB
  rw [lt_of]
  by_cases h1 : c.Min < 16
  · rw [cond_tt (dlt h1), decide_eq_false (show ¬ 16 ≤ c.Min by omega)]; rfl
  · rw [cond_ff (dge (by omega)), decide_eq_true (show 16 ≤ c.Min by omega)]
    by_cases h2 : c.Max < c.Min
    · rw [cond_tt (dlt h2), decide_eq_false (show ¬ c.Min ≤ c.Max by omega)]; rfl
    · rw [cond_ff (dge (by omega)), decide_eq_true (show c.Min ≤ c.Max by omega)]
      by_cases h3 : c.Max > 1024
      · rw [cond_tt (decide_eq_true h3), decide_eq_false (show ¬ c.Max ≤ 1024 by omega)]; rfl
      · rw [cond_ff (decide_eq_false h3), decide_eq_true (show c.Max ≤ 1024 by omega)]
        by_cases h4 : c.Bits < 1
        · rw [cond_tt (dlt h4), decide_eq_false (show ¬ 1 ≤ c.Bits by omega)]; rfl
        · rw [cond_ff (dge (by omega)), decide_eq_true (show 1 ≤ c.Bits by omega)]
          by_cases h5 : c.Bits > 12
          · rw [decide_eq_true h5, decide_eq_false (show ¬ c.Bits ≤ 12 by omega)]; rfl
          · rw [decide_eq_false h5, decide_eq_true (show c.Bits ≤ 12 by omega)]; rfl
theorem cutok_ok (c : S_api_Cut) (fu : Nat) : f_lumref_CutOK fu c = some (bif okB c then 0 else 1) := by
  unfold f_lumref_CutOK okB
  rw [lt_of]
  cases decide (16 ≤ c.Min) <;> cases decide (c.Min ≤ c.Max) <;> cases decide (c.Max ≤ 1024) <;> cases decide (1 ≤ c.Bits) <;> cases decide (c.Bits ≤ 12) <;> rfl
theorem pr_len (c : S_api_Cut) : ∀ (s cur : List UInt8) (out : List (List UInt8)), (pr c s cur out).1.length ≤ out.length + s.length
  | [], cur, out => by simp [pr]
  | b :: r, cur, out => by
    rw [pr]
    split
    · have := pr_len c r [] (out ++ [cur ++ [b]])
      simp at this ⊢; omega
    · have := pr_len c r (cur ++ [b]) out
      simp at this ⊢; omega
def fx (n : Nat) : Nat → List UInt8 → List (List UInt8) → List (List UInt8)
  | 0, _, out => out
  | f + 1, s, out => if s.length = 0 then out else fx n f (s.drop (min n s.length)) (out ++ [s.take (min n s.length)])
theorem fx_len (n : Nat) (hn : 1 ≤ n) : ∀ (f : Nat) (s : List UInt8) (out : List (List UInt8)), (fx n f s out).length ≤ out.length + s.length
  | 0, s, out => by simp [fx]
  | f + 1, s, out => by
    rw [fx]; split
    · omega
    · have := fx_len n hn f (s.drop (min n s.length)) (out ++ [s.take (min n s.length)])
      rw [List.length_drop, List.length_append] at this
      simp at this; omega
theorem fixed_loop (n : Nat) (hn : 1 ≤ n) (kk : List (List UInt8) → Option (List (List UInt8) × Int)) : ∀ (fuel : Nat) (s : List UInt8) (out : List (List UInt8)), s.length < fuel → s.length + out.length ≤ 4096 →
    f_chunk_Fixed_L9 (n : Int) kk fuel s out = kk (fx n fuel s out)
  | 0, s, _, hf, _ => absurd hf (Nat.not_lt_zero _)
  | fuel + 1, s, out, hf, hl => by
    rw [f_chunk_Fixed_L9, fx]
    by_cases h0 : s.length = 0
    · rw [cond_ff (decide_eq_false (by omega)), if_pos h0]
    · have hm : (if (s.length : Int) < (n : Int) then (s.length : Int) else (n : Int)) = ((min n s.length : Nat) : Int) := by split <;> omega
      rw [cond_tt (decide_eq_true (by omega)), if_neg h0, hm, req_pos (by omega), req_pos (by simp; omega), req_pos (by omega), Int.toNat_natCast]
      exact fixed_loop n hn kk fuel _ _ (by rw [List.length_drop]; omega) (by rw [List.length_drop, List.length_append]; simp; omega)
theorem rfixed_loop (n : Nat) (hn : 1 ≤ n) (hn2 : n ≤ 1024) (s : List UInt8) (hs : s.length ≤ 4096) (kk : List (List UInt8) → Option (List (List UInt8) × Int)) : ∀ (fuel i : Nat) (out : List (List UInt8)), s.length - i < fuel → out.length ≤ i →
    f_lumref_Fixed_L9 (n : Int) s kk fuel out (i : Int) = kk (fx n fuel (s.drop i) out)
  | 0, i, out, hf, _ => absurd hf (Nat.not_lt_zero _)
  | fuel + 1, i, out, hf, ho => by
    rw [f_lumref_Fixed_L9, fx]
    by_cases h0 : i < s.length
    · have hw : IntKind.i64.wrap ((i : Int) + (n : Int)) = ((i + n : Nat) : Int) := by rw [w64 (by omega) (by omega)]; omega
      have hm : (if (s.length : Int) < ((i + n : Nat) : Int) then (s.length : Int) else ((i + n : Nat) : Int)) = ((i + min n (s.length - i) : Nat) : Int) := by split <;> omega
      rw [cond_tt (dlt (by omega)), hw, hm, if_neg (by rw [List.length_drop]; omega), req_pos (by omega), req_pos (by simp; omega), cut_nat, rfixed_loop n hn hn2 s hs kk fuel (i + n) _ (by omega) (by simp; omega)]
      rw [List.length_drop, List.drop_take, Nat.add_sub_cancel_left, List.drop_drop]
      by_cases h1 : n ≤ s.length - i
      · rw [Nat.min_eq_left h1]
      · rw [Nat.min_eq_right (by omega), List.drop_of_length_le (l := s) (i := i + n) (by omega), List.drop_of_length_le (l := s) (i := i + (s.length - i)) (by omega)]
    · rw [cond_ff (dge (by omega)), if_pos (by rw [List.length_drop]; omega)]
theorem chunk_fx (n : Nat) (hn : 1 ≤ n) (hn2 : n ≤ 1024) (s : List UInt8) (hs : s.length ≤ 4096) (fu : Nat) (hf : 5000 ≤ fu) : f_chunk_Fixed_L9 (n : Int) (fun j5x6 => some (j5x6, (0 : Int))) fu s [] = some (fx n fu s [], 0) := fixed_loop n hn _ fu s [] (by omega) (by simpa using hs)
theorem lumref_fx (n : Nat) (hn : 1 ≤ n) (hn2 : n ≤ 1024) (s : List UInt8) (hs : s.length ≤ 4096) (fu : Nat) (hf : 5000 ≤ fu) : f_lumref_Fixed_L9 (n : Int) s (fun j5x6 => some (j5x6, (0 : Int))) fu [] 0 = some (fx n fu s [], 0) := rfixed_loop n hn hn2 s hs _ fu 0 [] (by omega) (by simp)
def fixv (fu : Nat) (n : Int) (s : List UInt8) : List (List UInt8) × Int := if n < 1 ∨ 1024 < n then ([], 1) else if 4096 < s.length then ([], 2) else (fx n.toNat fu s [], 0)
theorem chunk_Fixed_ok (n : Int) (s : List UInt8) (fu : Nat) (hf : 5000 ≤ fu) : f_chunk_Fixed fu n s = some (fixv fu n s) := by
  unfold f_chunk_Fixed fixv
  rw [lt_of]
  by_cases h1 : n < 1
  · rw [cond_tt (dlt h1), if_pos (.inl h1)]; rfl
  · rw [cond_ff (dge (by omega))]
    by_cases h2 : n > 1024
    · rw [decide_eq_true h2, if_pos (.inr h2)]; rfl
    · rw [decide_eq_false h2, if_neg (by omega)]
      dsimp only
      rw [cond_ff rfl]
      by_cases h3 : s.length > 4096
      · rw [cond_tt (decide_eq_true (by omega)), if_pos h3]
      · rw [cond_ff (decide_eq_false (by omega)), if_neg h3, lt_of]
        obtain ⟨m, rfl⟩ : ∃ m : Nat, n = m := ⟨n.toNat, by omega⟩
        rw [Int.toNat_natCast]
        exact chunk_fx m (by omega) (by omega) s (by omega) fu (by omega)
theorem lumref_Fixed_ok (n : Int) (s : List UInt8) (fu : Nat) (hf : 5000 ≤ fu) : f_lumref_Fixed fu n s = some (fixv fu n s) := by
  unfold f_lumref_Fixed fixv
  rw [lt_of]
  by_cases h1 : n < 1
  · rw [cond_tt (dlt h1), if_pos (.inl h1)]; rfl
  · rw [cond_ff (dge (by omega))]
    by_cases h2 : n > 1024
    · rw [decide_eq_true h2, if_pos (.inr h2)]; rfl
    · rw [decide_eq_false h2, if_neg (by omega)]
      dsimp only
      rw [cond_ff rfl]
      by_cases h3 : s.length > 4096
      · rw [cond_tt (decide_eq_true (by omega)), if_pos h3]
      · rw [cond_ff (decide_eq_false (by omega)), if_neg h3, lt_of]
        obtain ⟨m, rfl⟩ : ∃ m : Nat, n = m := ⟨n.toNat, by omega⟩
        rw [Int.toNat_natCast]
        exact lumref_fx m (by omega) (by omega) s (by omega) fu (by omega)
def cutv (c : S_api_Cut) (s : List UInt8) : List (List UInt8) × Int :=
  if okB c = false then ([], 1) else if 4096 < s.length then ([], 2) else if (pr c s [] []).2 = [] then ((pr c s [] []).1, 0) else ((pr c s [] []).1 ++ [(pr c s [] []).2], 0)
theorem cut_ok (c : S_api_Cut) (s : List UInt8) (hs : s.length ≤ 9223372036854775807) (fu : Nat) (hf : 5000 ≤ fu) : f_chunk_Cut fu c s = some (cutv c s) := by
  unfold f_chunk_Cut f_chunk_Feed cutv
  rw [check_ok, opt_of]
  cases hok : okB c with
  | false =>
    rw [if_pos rfl]; rfl
  | true =>
    rw [if_neg (by simp), cond_tt (x := (0 : Int)) rfl, cond_ff (by rfl)]
    by_cases h3 : s.length > 4096
    · rw [cond_tt (decide_eq_true (by simp only [List.length_nil]; rw [w64 (by omega) (by omega)]; omega)), if_pos h3]; rfl
    · rw [cond_ff (decide_eq_false (by simp only [List.length_nil]; rw [w64 (by omega) (by omega)]; omega)), if_neg h3, req_pos (by simp; omega), List.nil_append, pieces_ok c (okB_good hok) s (by omega) fu hf, opt_of, opt_of, lt_of, lt_of]
      dsimp only
      have hl := pr_len c s [] []
      rw [cond_tt (by rfl)]
      by_cases h4 : (pr c s [] []).2 = []
      · rw [if_pos h4, h4, cond_ff (by rfl)]
      · rw [if_neg h4, cond_tt (by simpa using h4), req_pos (by simp at hl ⊢; omega)]
theorem rcut_ok (c : S_api_Cut) (s : List UInt8) (fu : Nat) (hf : 5000 ≤ fu) : f_lumref_Cut fu c s = some (cutv c s) := by
  unfold f_lumref_Cut cutv
  rw [cutok_ok, opt_of]
  cases hok : okB c with
  | false =>
    rw [if_pos rfl]; rfl
  | true =>
    rw [if_neg (by simp), cond_tt (x := (0 : Int)) rfl, cond_ff (by rfl)]
    by_cases h3 : s.length > 4096
    · rw [cond_tt (decide_eq_true (by omega)), if_pos h3]
    · rw [cond_ff (decide_eq_false (by omega)), if_neg h3, rpieces_ok c (okB_good hok) s (by omega) fu hf, opt_of, lt_of]
      have hl := pr_len c s [] []
      by_cases h4 : (pr c s [] []).2 = []
      · rw [if_pos h4, h4, cond_ff (by rfl)]
      · rw [if_neg h4, cond_tt (by simpa using h4), req_pos (by simp at hl ⊢; omega)]
end Go.Proofs.YtiioclkiapbjnaaGreatDoor.PChunkSays
namespace Go.Proofs.YtiioclkiapbjnaaGreatDoor.Mix
def M : Nat := 18446744073709551616
def cF : Nat := 11400714819323198485
def cS : Nat := 13787848793156543929
theorem M_pow : M = 2 ^ 64 := by decide
def stp (x b : Nat) : Nat :=
  let z := (x ^^^ b) * cF % M
  let y := (z ^^^ z / 2 ^ 29) * cS % M
  y ^^^ y / 2 ^ 32
theorem div_lt' {z : Nat} (h : z < M) (k : Nat) : z / 2 ^ k < M := Nat.lt_of_le_of_lt (Nat.div_le_self _ _) h
theorem xltM {a b : Nat} (ha : a < M) (hb : b < M) : a ^^^ b < M := by rw [M_pow] at *; exact Nat.xor_lt_two_pow ha hb
theorem M_pos : 0 < M := by decide
theorem stp_lt (x b : Nat) : stp x b < M := by
  unfold stp; simp only
  exact xltM (Nat.mod_lt _ M_pos) (div_lt' (Nat.mod_lt _ M_pos) 32)
theorem prod_one (a b i : Nat) (h : b / 2 ^ i % 2 = 1) : (a * (b % 2 ^ i) % M + a * 2 ^ i % M) % M = a * (b % 2 ^ (i + 1)) % M := by
  rw [Nat.mod_pow_succ, h, Nat.mul_one, Nat.mul_add, ← Nat.add_mod]
theorem prod_zero (a b i : Nat) (h : b / 2 ^ i % 2 = 0) : a * (b % 2 ^ i) % M = a * (b % 2 ^ (i + 1)) % M := by
  rw [Nat.mod_pow_succ, h, Nat.mul_zero, Nat.add_zero]
def leN : List UInt8 → Nat
  | [] => 0
  | b :: l => b.toNat + 256 * leN l
theorem leN_zeros (l : List UInt8) (k : Nat) : leN (l ++ List.replicate k 0) = leN l := by
  induction l with
  | nil =>
    induction k with
    | zero => rfl
    | succ k ih => rw [List.nil_append] at ih ⊢; rw [List.replicate_succ]; show (0 : UInt8).toNat + 256 * leN (List.replicate k 0) = 0; rw [ih]; rfl
  | cons b l ih => show b.toNat + 256 * leN (l ++ _) = b.toNat + 256 * leN l; rw [ih]
theorem leN_lt : ∀ l : List UInt8, leN l < 256 ^ l.length
  | [] => by decide
  | b :: l => by
    have := leN_lt l
    have h := b.toNat_lt
    show b.toNat + 256 * leN l < 256 ^ (l.length + 1)
    rw [Nat.pow_succ]; omega
theorem leN_lt8 (l : List UInt8) (h : l.length ≤ 8) : leN l < M := Nat.lt_of_lt_of_le (leN_lt l) (by rw [show M = 256 ^ 8 from by decide]; exact Nat.pow_le_pow_right (by omega) h)
def chain (cut : Nat → Nat) : Nat → List UInt8 → Nat → Nat
  | 0, _, x => x
  | k + 1, s, x => if s = [] then x else chain cut k (s.drop 8) (cut (stp x (leN (s.take 8))))
def hash (cut : Nat → Nat) (s : List UInt8) : Nat := cut (stp (chain cut s.length s 0) s.length)
theorem chain_nil (cut : Nat → Nat) (k x : Nat) : chain cut k [] x = x := by cases k <;> simp [chain]
theorem chain_more (cut : Nat → Nat) : ∀ (k j : Nat) (s : List UInt8) (x : Nat), s.length ≤ k → s.length ≤ j → chain cut k s x = chain cut j s x
  | 0, j, s, x, h, _ => by
    have : s = [] := List.eq_nil_of_length_eq_zero (by omega)
    subst this; rw [chain_nil, chain_nil]
  | k + 1, 0, s, x, _, h => by
    have : s = [] := List.eq_nil_of_length_eq_zero (by omega)
    subst this; rw [chain_nil, chain_nil]
  | k + 1, j + 1, s, x, h1, h2 => by
    unfold chain
    split
    · rfl
    · rename_i hs
      have hp : 0 < s.length := List.length_pos_iff.2 hs
      exact chain_more cut k j _ _ (by rw [List.length_drop]; omega) (by rw [List.length_drop]; omega)
theorem chain_step (cut : Nat → Nat) {s : List UInt8} (hs : s ≠ []) (x : Nat) : chain cut s.length s x = chain cut (s.drop 8).length (s.drop 8) (cut (stp x (leN (s.take 8)))) := by
  have hp : 0 < s.length := List.length_pos_iff.2 hs
  obtain ⟨k, hk⟩ : ∃ k, s.length = k + 1 := ⟨s.length - 1, by omega⟩
  rw [hk]
  show (if s = [] then x else _) = _
  rw [if_neg hs]
  exact chain_more cut _ _ _ _ (by rw [List.length_drop]; omega) (Nat.le_refl _)
def pad (s : List UInt8) : List UInt8 := s ++ List.replicate ((8 - s.length % 8) % 8) 0
theorem pad_nil (s : List UInt8) : pad s = [] ↔ s = [] := by
  constructor
  · intro h; exact (List.append_eq_nil_iff.1 h).1
  · rintro rfl; rfl
theorem pad_take (s : List UInt8) (hs : s ≠ []) : leN ((pad s).take 8) = leN (s.take 8) ∧ 8 ≤ (pad s).length ∧ (pad s).drop 8 = pad (s.drop 8) := by
  have hp : 0 < s.length := List.length_pos_iff.2 hs
  unfold pad
  by_cases h : 8 ≤ s.length
  · refine ⟨by rw [List.take_append_of_le_length h], by rw [List.length_append]; omega, ?_⟩
    rw [List.drop_append_of_le_length h, List.length_drop, show (s.length - 8) % 8 = s.length % 8 by omega]
  · have e : (8 - s.length % 8) % 8 = 8 - s.length := by omega
    rw [e]
    have hl : (s ++ List.replicate (8 - s.length) (0 : UInt8)).length = 8 := by simp; omega
    refine ⟨?_, by omega, ?_⟩
    · rw [List.take_of_length_le (by omega), leN_zeros, List.take_of_length_le (by omega)]
    · rw [List.drop_of_length_le (by omega), List.drop_of_length_le (show s.length ≤ 8 by omega)]; rfl
end Go.Proofs.YtiioclkiapbjnaaGreatDoor.Mix
namespace Go.Proofs.YtiioclkiapbjnaaGreatDoor.PWalkPlants
open Go.RowKit YtiioclkiapbjnaaGreatDoor.En YtiioclkiapbjnaaGreatDoor Num Mix
open Go.Lib hiding cut
set_option linter.unusedVariables false
set_option linter.unusedSimpArgs false
namespace MX
theorem wr (x : Nat) : IntKind.u64.wrap (x : Int) = ((x % M : Nat) : Int) := by
  unfold IntKind.wrap
  simp [IntKind.signed, IntKind.bits, M]
theorem wi {x : Nat} (h : x < M) : IntKind.u64.wrap (x : Int) = (x : Int) := by rw [wr, Nat.mod_eq_of_lt h]
theorem xo {a b : Nat} (ha : a < M) (hb : b < M) : bits .xor .u64 (a : Int) (b : Int) = ((a ^^^ b : Nat) : Int) := u64_xor_nat a b ha hb
theorem mF (n : Nat) : IntKind.u64.wrap ((n : Int) * (11400714819323198485 : Int)) = ((n * cF % M : Nat) : Int) := by
  rw [show (n : Int) * (11400714819323198485 : Int) = ((n * cF : Nat) : Int) from by rw [Int.natCast_mul]; rfl]
  exact wr _
theorem mS (n : Nat) : IntKind.u64.wrap ((n : Int) * (13787848793156543929 : Int)) = ((n * cS % M : Nat) : Int) := by
  rw [show (n : Int) * (13787848793156543929 : Int) = ((n * cS : Nat) : Int) from by rw [Int.natCast_mul]; rfl]
  exact wr _
theorem s29 (n : Nat) : ((n : Int)).fdiv (2 ^ min ((29 : Int)).toNat (IntKind.bits .u64)) = ((n / 2 ^ 29 : Nat) : Int) := shr_nat rfl (by decide)
theorem s32 (n : Nat) : ((n : Int)).fdiv (2 ^ min ((32 : Int)).toNat (IntKind.bits .u64)) = ((n / 2 ^ 32 : Nat) : Int) := shr_nat rfl (by decide)
theorem ml (n : Nat) : n % M < M := Nat.mod_lt _ M_pos
theorem mstep_ok (fu : Nat) {x b : Nat} (hx : x < M) (hb : b < M) : f_mix_Step fu (x : Int) (b : Int) = some ((stp x b : Nat) : Int) := by
  unfold f_mix_Step
  rw [xo hx hb, mF, s29, xo (ml _) (div_lt' (ml _) 29), mS, s32, xo (ml _) (div_lt' (ml _) 32)]
  rfl
theorem prod_go (a b : Nat) (ha : a < M) (hb : b < M) (kk : Int → Option Int) : ∀ (n i fu : Nat), i + n = 64 → n < fu →
    f_lumref_product_L5 (a : Int) (b : Int) kk fu ((a * (b % 2 ^ i) % M : Nat) : Int) (i : Int) = kk ((a * b % M : Nat) : Int)
  | 0, i, fu + 1, hi, _ => by
    obtain rfl : i = 64 := by omega
    rw [f_lumref_product_L5, cond_ff (dge (by omega)), Nat.mod_eq_of_lt (show b < 2 ^ 64 from hb)]
  | n + 1, i, fu + 1, hi, hf => by
    rw [f_lumref_product_L5, cond_tt (dlt (by omega)), lt_of, req_pos (by omega)]
    have hd : b / 2 ^ i < M := div_lt' hb i
    rw [shr_nat (m := i) (k := .u64) rfl (show i ≤ 64 by omega)]
    have hbit : bits .and .u64 ((b / 2 ^ i : Nat) : Int) 1 = ((b / 2 ^ i % 2 : Nat) : Int) := by
      have := u64_and_nat (b / 2 ^ i) 1 hd (by omega)
      rw [Nat.and_one_is_mod] at this
      exact this
    rw [hbit]
    have ih := prod_go a b ha hb kk n (i + 1) fu (by omega) (by omega)
    by_cases h1 : b / 2 ^ i % 2 = 1
    · rw [h1, cond_tt (by rfl), req_pos (by omega), shl_nat (m := i) (k := .u64) rfl (show i ≤ 64 by omega), wr, ← Int.natCast_add, wr, prod_one a b i h1, wsucc (by omega)]
      exact ih
    · have h0 : b / 2 ^ i % 2 = 0 := by omega
      rw [h0, cond_ff (by rfl), prod_zero a b i h0, wsucc (by omega)]
      exact ih
theorem prod_ok (fu : Nat) (hf : 65 ≤ fu) {a b : Nat} (ha : a < M) (hb : b < M) : f_lumref_product fu (a : Int) (b : Int) = some ((a * b % M : Nat) : Int) := by
  unfold f_lumref_product
  rw [lt_of]
  have h := prod_go a b ha hb (fun j => some j) 64 0 fu (by omega) (by omega)
  rw [show a * (b % 2 ^ 0) % M = 0 from by simp [Nat.mod_one]] at h
  exact h
theorem td29 (n : Nat) (h : n < M) : IntKind.u64.wrap (((n : Int)).tdiv (536870912 : Int)) = ((n / 2 ^ 29 : Nat) : Int) := by
  rw [show ((n : Int)).tdiv (536870912 : Int) = ((n / 2 ^ 29 : Nat) : Int) from rfl, wi (div_lt' h 29)]
theorem td32 (n : Nat) (h : n < M) : IntKind.u64.wrap (((n : Int)).tdiv (4294967296 : Int)) = ((n / 2 ^ 32 : Nat) : Int) := by
  rw [show ((n : Int)).tdiv (4294967296 : Int) = ((n / 2 ^ 32 : Nat) : Int) from rfl, wi (div_lt' h 32)]
theorem cF_lt : cF < M := by decide
theorem cS_lt : cS < M := by decide
theorem rstep_ok (fu : Nat) (hf : 65 ≤ fu) {x b : Nat} (hx : x < M) (hb : b < M) : f_lumref_Step fu (x : Int) (b : Int) = some ((stp x b : Nat) : Int) := by
  unfold f_lumref_Step
  rw [xo hx hb, show (11400714819323198485 : Int) = ((cF : Nat) : Int) from rfl, prod_ok fu hf (xltM hx hb) cF_lt, opt_of, td29 _ (ml _), xo (ml _) (div_lt' (ml _) 29)]
  rw [show (13787848793156543929 : Int) = ((cS : Nat) : Int) from rfl, prod_ok fu hf (xltM (ml _) (div_lt' (ml _) 29)) cS_lt, opt_of, td32 _ (ml _), xo (ml _) (div_lt' (ml _) 32)]
  rfl
theorem u64b (b : UInt8) : IntKind.u64.wrap (b.toNat : Int) = ((b.toNat : Nat) : Int) := wi (Nat.lt_trans b.toNat_lt (by decide))
theorem orb {a m : Nat} {b : UInt8} {j : Int} (hj : j = (m : Int)) (ha : a < 2 ^ m) (hm : m + 8 ≤ 64) : bits .or .u64 (a : Int) (IntKind.u64.wrap ((IntKind.u64.wrap (b.toNat : Int)) * 2 ^ min j.toNat (IntKind.bits .u64))) = ((a + b.toNat * 2 ^ m : Nat) : Int) := by
  have hb := b.toNat_lt
  have h1 : b.toNat * 2 ^ m < 2 ^ (8 + m) := by rw [Nat.pow_add]; exact Nat.mul_lt_mul_of_pos_right hb (Nat.pow_pos (by omega))
  have h2 : (2 : Nat) ^ (8 + m) ≤ 2 ^ 64 := Nat.pow_le_pow_right (by omega) (by omega)
  have h3 : (2 : Nat) ^ m ≤ 2 ^ 64 := Nat.pow_le_pow_right (by omega) (by omega)
  have hM : M = 2 ^ 64 := M_pow
  rw [u64b, shl_nat (m := m) (k := .u64) hj (show m ≤ 64 by omega), wi (by omega)]
  have := u64_or_nat a (b.toNat * 2 ^ m) (by show a < M; omega) (by show _ < M; omega)
  rw [this, Nat.mul_comm b.toNat, Nat.or_comm, ← Nat.two_pow_add_eq_or_of_lt ha, Nat.add_comm]
theorem le64_ok (fu : Nat) (l : List UInt8) (hl : l.length = 8) : f__binary_littleEndian__Uint64 fu () l = some ((leN l : Nat) : Int) := by
  match l, hl with
  | [b0, b1, b2, b3, b4, b5, b6, b7], _ =>
    have g0 := b0.toNat_lt
    have g1 := b1.toNat_lt
    have g2 := b2.toNat_lt
    have g3 := b3.toNat_lt
    have g4 := b4.toNat_lt
    have g5 := b5.toNat_lt
    have g6 := b6.toNat_lt
    have g7 := b7.toNat_lt
    unfold f__binary_littleEndian__Uint64
    rw [show at? [b0, b1, b2, b3, b4, b5, b6, b7] (7 : Int) = some b7 from rfl, opt_of, show at? [b0, b1, b2, b3, b4, b5, b6, b7] (0 : Int) = some b0 from rfl, opt_of, show at? [b0, b1, b2, b3, b4, b5, b6, b7] (1 : Int) = some b1 from rfl, opt_of,
      show at? [b0, b1, b2, b3, b4, b5, b6, b7] (2 : Int) = some b2 from rfl, opt_of, show at? [b0, b1, b2, b3, b4, b5, b6, b7] (3 : Int) = some b3 from rfl, opt_of, show at? [b0, b1, b2, b3, b4, b5, b6, b7] (4 : Int) = some b4 from rfl, opt_of,
      show at? [b0, b1, b2, b3, b4, b5, b6, b7] (5 : Int) = some b5 from rfl, opt_of, show at? [b0, b1, b2, b3, b4, b5, b6, b7] (6 : Int) = some b6 from rfl, opt_of, opt_of]
    rw [u64b b0, orb (j := 8) (m := 8) rfl (by omega) (by omega), orb (j := 16) (m := 16) rfl (by omega) (by omega), orb (j := 24) (m := 24) rfl (by omega) (by omega), orb (j := 32) (m := 32) rfl (by omega) (by omega), orb (j := 40) (m := 40) rfl (by omega) (by omega), orb (j := 48) (m := 48) rfl (by omega) (by omega), orb (j := 56) (m := 56) rfl (by omega) (by omega)]
    congr 2
    simp only [leN]
    omega
theorem lof {l : List UInt8} (h : l.length = 8) : lA8u8 (ofA8u8 l) = l := by
  match l, h with
  | [b0, b1, b2, b3, b4, b5, b6, b7], _ => rfl
def zer : A8u8 := zA8u8
theorem lcp (s : List UInt8) : lA8u8 (cpA8u8 zer s) = s.take 8 ++ List.replicate (8 - (s.take 8).length) 0 := by
  unfold cpA8u8
  have h8 : (s.take 8).length ≤ 8 := by rw [List.length_take]; omega
  rw [show lA8u8 zer = List.replicate 8 0 from rfl, List.drop_replicate, lof (by rw [List.length_append, List.length_replicate]; omega)]
theorem lcp_len (s : List UInt8) : (lA8u8 (cpA8u8 zer s)).length = 8 := rfl
theorem dropmin (s : List UInt8) : s.drop (Nat.min s.length 8) = s.drop 8 := by
  rcases Nat.le_total s.length 8 with h | h
  · rw [show Nat.min s.length 8 = s.length from Nat.min_eq_left h, List.drop_length, List.drop_of_length_le h]
  · rw [show Nat.min s.length 8 = 8 from Nat.min_eq_right h]
theorem chain_lt {cut : Nat → Nat} (hc : ∀ y, y < M → cut y < M) : ∀ (k : Nat) (s : List UInt8) (x : Nat), x < M → chain cut k s x < M
  | 0, _, _, h => h
  | k + 1, s, x, h => by
    unfold chain
    split
    · exact h
    · exact chain_lt hc k _ _ (hc _ (stp_lt _ _))
theorem cut_lt (w : Nat) : ∀ y, y < M → y % 2 ^ w < M := fun y h => Nat.lt_of_le_of_lt (Nat.mod_le _ _) h
theorem hash_lt (w : Nat) (s : List UInt8) : hash (fun y => y % 2 ^ w) s < M := cut_lt w _ (stp_lt _ _)
theorem andm {r w : Nat} (hr : r < M) (hw : w ≤ 64) : bits .and .u64 (r : Int) ((2 ^ w - 1 : Nat) : Int) = ((r % 2 ^ w : Nat) : Int) := by
  have h3 : (2 : Nat) ^ w ≤ 2 ^ 64 := Nat.pow_le_pow_right (by omega) hw
  have h0 : (0 : Nat) < 2 ^ w := Nat.pow_pos (by omega)
  have hM : M = 2 ^ 64 := M_pow
  rw [u64_and_nat r (2 ^ w - 1) hr (by show _ < M; omega), Nat.and_two_pow_sub_one_eq_mod]
theorem msum_go (w : Nat) (hw : w ≤ 64) (kk : Int → Option Int) (fu : Nat) : ∀ (k : Nat) (s : List UInt8) (x : Nat), x < M → s.length < k →
    f_mix_sum_L7 ((2 ^ w - 1 : Nat) : Int) kk fu k s (x : Int) = kk ((chain (fun y => y % 2 ^ w) s.length s x : Nat) : Int)
  | k + 1, s, x, hx, hk => by
    rw [f_mix_sum_L7]
    by_cases hs : s = []
    · subst hs
      rw [cond_ff (by rfl), chain_nil]
    · have hmin : Nat.min s.length 8 ≤ s.length := Nat.min_le_left _ _
      have hp : 0 < s.length := List.length_pos_iff.2 hs
      have h8 : (s.take 8).length ≤ 8 := by rw [List.length_take]; omega
      rw [cond_tt (by simpa using hs), req_pos ⟨by omega, by omega⟩]
      have hb : f__binary_littleEndian__Uint64 fu () (lA8u8 (cpA8u8 zer s)) = some ((leN (s.take 8) : Nat) : Int) := by
        rw [le64_ok fu _ (lcp_len s), lcp, leN_zeros]
      unfold zer at hb
      rw [hb, opt_of, mstep_ok fu hx (leN_lt8 _ h8), opt_of, andm (stp_lt _ _) hw, Int.toNat_natCast, dropmin]
      rw [msum_go w hw kk fu k (s.drop 8) _ (cut_lt w _ (stp_lt _ _)) (by rw [List.length_drop]; omega), chain_step _ hs]
theorem msum_ok (w : Nat) (hw : w ≤ 64) (fu : Nat) (s : List UInt8) (hf : s.length < fu) (h63 : s.length ≤ 9223372036854775807) : f_mix_sum fu s ((2 ^ w - 1 : Nat) : Int) = some ((hash (fun y => y % 2 ^ w) s : Nat) : Int) := by
  unfold f_mix_sum
  rw [lt_of]
  rw [show (0 : Int) = ((0 : Nat) : Int) from rfl, msum_go w hw _ fu fu s 0 M_pos hf]
  rw [wi (by unfold M; omega), mstep_ok fu (chain_lt (cut_lt w) _ _ _ M_pos) (by unfold M; omega), opt_of, andm (stp_lt _ _) hw]
  rfl
theorem mSum_ok (fu : Nat) (s : List UInt8) (hf : s.length < fu) (h63 : s.length ≤ 9223372036854775807) : f_mix_Sum fu s = some ((hash (fun y => y % 2 ^ 64) s : Nat) : Int) := by
  unfold f_mix_Sum
  rw [show (18446744073709551615 : Int) = ((2 ^ 64 - 1 : Nat) : Int) from rfl, msum_ok 64 (by omega) fu s hf h63, opt_of]
def idOf (s : List UInt8) : A8u8 := ofA8u8 (beBytes 8 (hash (fun y => y % 2 ^ 64) s))
theorem be8_len (n : Nat) : (beBytes 8 n).length = 8 := beBytes_length 8 n
theorem cpbe (n : Nat) : cpA8u8 zer (beBytes 8 n) = ofA8u8 (beBytes 8 n) := by
  unfold cpA8u8
  rw [List.take_of_length_le (by rw [be8_len]; exact Nat.le_refl _), be8_len, show (lA8u8 zer).drop 8 = [] from rfl, List.append_nil]
theorem mID_ok (fu : Nat) (s : List UInt8) (hf : s.length < fu) (h63 : s.length ≤ 9223372036854775807) : f_mix_ID fu s = some (idOf s) := by
  unfold f_mix_ID
  rw [mSum_ok fu s hf h63, opt_of, req_pos ⟨by omega, by have := hash_lt 64 s; unfold M at this; omega⟩, Int.toNat_natCast]
  exact congrArg some (cpbe _)
theorem rcut_ok (fu : Nat) {y w : Nat} (hy : y < M) (hw : w ≤ 64) : f_lumref_Narrow_1 fu (y : Int) (w : Int) = some ((y % 2 ^ w : Nat) : Int) := by
  unfold f_lumref_Narrow_1
  by_cases h : w = 64
  · subst h
    rw [cond_tt (by rfl), Nat.mod_eq_of_lt (show y < 2 ^ 64 from hy)]
  · have h3 : (2 : Nat) ^ w ≤ 2 ^ 63 := Nat.pow_le_pow_right (by omega) (by omega)
    have h0 : (0 : Nat) < 2 ^ w := Nat.pow_pos (by omega)
    have e : IntKind.u64.wrap ((1 : Int) * 2 ^ min ((w : Int)).toNat (IntKind.bits .u64)) = ((2 ^ w : Nat) : Int) := by
      have := shl_nat (x := 1) (m := w) (j := (w : Int)) (k := .u64) rfl (show w ≤ 64 by omega)
      rw [show (1 : Int) * 2 ^ min ((w : Int)).toNat (IntKind.bits .u64) = ((1 * 2 ^ w : Nat) : Int) from this, wi (by unfold M; omega), Nat.one_mul]
    rw [cond_ff (by rw [beq_eq_false_iff_ne]; omega), req_pos (by omega), e, req_pos (by omega)]
    rfl
theorem bAtN {s : List UInt8} {j : Nat} (h : j < s.length) : En.bAt s (j : Int) = ((s[j].toNat : Nat) : Int) := by
  unfold En.bAt
  rw [Int.toNat_natCast, List.getD_eq_getElem?_getD, List.getElem?_eq_getElem h]; rfl
theorem blk_go (l : List UInt8) (hl : 8 ≤ l.length) (kk : Int → Option Int) : ∀ (n k : Nat), n ≤ 8 → n < k → f_lumref_Narrow_L27 l kk k ((leN ((l.take 8).drop n) : Nat) : Int) ((n : Int) - 1) = kk ((leN (l.take 8) : Nat) : Int)
  | 0, k + 1, _, _ => by
    rw [f_lumref_Narrow_L27, cond_ff (decide_eq_false (by omega))]; rfl
  | n + 1, k + 1, hn, hk => by
    have e : ((n + 1 : Nat) : Int) - 1 = (n : Int) := by omega
    have hlt : n < (l.take 8).length := by rw [List.length_take]; omega
    have hv : leN ((l.take 8).drop n) = 256 * leN ((l.take 8).drop (n + 1)) + l[n].toNat := by
      rw [List.drop_eq_getElem_cons hlt, List.getElem_take]
      show _ + _ = _
      omega
    have hlen : ((l.take 8).drop n).length ≤ 8 := by rw [List.length_drop, List.length_take]; omega
    have hM := leN_lt8 _ hlen
    rw [hv] at hM
    have hbl := l[n].toNat_lt
    rw [f_lumref_Narrow_L27, e, cond_tt (decide_eq_true (by omega)), req_pos ⟨by omega, by omega⟩, bAtN (by omega), wi (x := l[n].toNat) (by unfold M; omega)]
    rw [show (256 : Int) * ((leN ((l.take 8).drop (n + 1)) : Nat) : Int) = ((256 * leN ((l.take 8).drop (n + 1)) : Nat) : Int) from by omega, wi (by omega), ← Int.natCast_add, wi hM, ← hv]
    rw [w64 (by omega) (by omega)]
    exact blk_go l hl kk n k (by omega) (by omega)
theorem rsum_go (w : Nat) (hw : w ≤ 64) (kk : Int → Option Int) (fu : Nat) (hfu : 65 ≤ fu) : ∀ (k : Nat) (s : List UInt8) (x : Nat), x < M → s.length < k →
    f_lumref_Narrow_L13 (w : Int) kk fu k (x : Int) (pad s) = kk ((chain (fun y => y % 2 ^ w) s.length s x : Nat) : Int)
  | k + 1, s, x, hx, hk => by
    rw [f_lumref_Narrow_L13, lt_of]
    dsimp only
    by_cases hs : s = []
    · subst hs
      rw [cond_ff (by rfl), chain_nil]
    · obtain ⟨p1, p2, p3⟩ := pad_take s hs
      have hp : 0 < s.length := List.length_pos_iff.2 hs
      have h8 : (s.take 8).length ≤ 8 := by rw [List.length_take]; omega
      rw [cond_tt (by have := mt (pad_nil s).1 hs; simpa using this), lt_of, lt_of]
      dsimp only
      have hb := blk_go (pad s) p2 (fun j19i8 => (opt (f_lumref_Step fu (x : Int) j19i8) fun (r22 : Int) => (opt (f_lumref_Narrow_1 fu r22 (w : Int)) fun (r24 : Int) => (req (0 ≤ (8 : Int) ∧ (8 : Int) ≤ ((pad s).length : Int)) (f_lumref_Narrow_L13 (w : Int) kk fu k r24 ((pad s).drop ((8 : Int)).toNat)))))) 8 fu (by omega) (by omega)
      have h0 : leN (((pad s).take 8).drop 8) = 0 := by rw [List.drop_of_length_le (by rw [List.length_take]; omega)]; rfl
      rw [h0] at hb
      refine Eq.trans hb ?_
      rw [p1, rstep_ok fu hfu hx (leN_lt8 _ h8), opt_of, rcut_ok fu (stp_lt _ _) hw, opt_of, req_pos ⟨by omega, by omega⟩, show ((8 : Int)).toNat = 8 from rfl, p3]
      rw [rsum_go w hw kk fu hfu k (s.drop 8) _ (cut_lt w _ (stp_lt _ _)) (by rw [List.length_drop]; omega), chain_step _ hs]
theorem rep_zero : ∀ k : Nat, repeatL [0] k = List.replicate k 0
  | 0 => rfl
  | k + 1 => by show [0] ++ repeatL [0] k = _; rw [rep_zero k]; rfl
theorem repeat_ok (fu k : Nat) (hk : k ≤ 8) : f_strings_Repeat fu ([0] : List UInt8) (k : Int) = some (List.replicate k 0) := by
  unfold f_strings_Repeat
  rw [req_pos ⟨by omega, by omega, by rw [Int.toNat_natCast]; simp; omega⟩, Int.toNat_natCast, rep_zero]
theorem rnarrow_ok (w : Nat) (hw : w ≤ 64) (fu : Nat) (s : List UInt8) (hfu : 65 ≤ fu) (hf : s.length < fu) (hb : s.length ≤ 9223372036854775800) : f_lumref_Narrow fu (w : Int) s = some ((hash (fun y => y % 2 ^ w) s : Nat) : Int) := by
  unfold f_lumref_Narrow
  have e1 : (((s.length : Int)).tmod (8 : Int)) = ((s.length % 8 : Nat) : Int) := rfl
  have e2 : IntKind.i64.wrap ((8 : Int) - ((s.length % 8 : Nat) : Int)) = ((8 - s.length % 8 : Nat) : Int) := by rw [w64 (by omega) (by omega)]; omega
  have e3 : (((8 - s.length % 8 : Nat) : Int)).tmod (8 : Int) = (((8 - s.length % 8) % 8 : Nat) : Int) := rfl
  rw [e1, e2, e3, repeat_ok fu _ (by omega), opt_of, req_pos (by rw [List.length_replicate]; omega), lt_of]
  rw [show (s ++ List.replicate ((8 - s.length % 8) % 8) (0 : UInt8)) = pad s from rfl, show (0 : Int) = ((0 : Nat) : Int) from rfl, rsum_go w hw _ fu hfu fu s 0 M_pos hf]
  rw [wi (by unfold M; omega), rstep_ok fu hfu (chain_lt (cut_lt w) _ _ _ M_pos) (by unfold M; omega), opt_of, rcut_ok fu (stp_lt _ _) hw, opt_of]
  rfl
theorem p8 : 256 ^ 8 = 18446744073709551616 := by decide
theorem rdigits_ok : ∀ (k n fu : Nat), n < 256 ^ k → k ≤ 8 → k < fu → f_lumref_digits fu (n : Int) = some (digF k n)
  | 0, n, fu + 1, h, _, _ => by
    have : n = 0 := by simpa using h
    subst this; rfl
  | k + 1, n, fu + 1, h, h8, hf => by
    rw [f_lumref_digits]
    by_cases h0 : n = 0
    · subst h0; rfl
    have hn8 : n < 18446744073709551616 := by
      rw [← p8]; exact Nat.lt_of_lt_of_le h (Nat.pow_le_pow_right (by omega) h8)
    have e1 : ((n : Int)).tdiv 256 = ((n / 256 : Nat) : Int) := by rw [Int.tdiv_eq_ediv_of_nonneg (by omega)]; omega
    have e2 : ((n : Int)).tmod 256 = ((n % 256 : Nat) : Int) := by rw [Int.tmod_eq_emod_of_nonneg (by omega)]; omega
    have hl := digF_len k (n / 256)
    rw [cond_ff (by rw [beq_eq_false_iff_ne]; omega), e1, e2, wi (by unfold M; omega), rdigits_ok k (n / 256) fu (div_lt h) (by omega) (by omega), opt_of, u8w_in (by omega), req_pos ⟨by omega, by omega⟩, req_pos (by rw [List.length_singleton]; omega), Int.toNat_natCast]
    show _ = some (if n = 0 then [] else digF k (n / 256) ++ [(n % 256).toUInt8])
    rw [if_neg h0]
theorem drop_zeros : ∀ l : List UInt8, List.replicate (l.length - (trimLeftB l 0).length) 0 ++ trimLeftB l 0 = l
  | [] => rfl
  | b :: l => by
    unfold trimLeftB
    rw [List.dropWhile_cons]
    have ih := drop_zeros l
    unfold trimLeftB at ih
    have hle : (List.dropWhile (fun x => x == 0) l).length ≤ l.length := (List.dropWhile_sublist _).length_le
    by_cases h : b = 0
    · subst h
      rw [if_pos (by rfl), List.length_cons, show l.length + 1 - (List.dropWhile (fun x => x == 0) l).length = (l.length - (List.dropWhile (fun x => x == 0) l).length) + 1 by omega, List.replicate_succ, List.cons_append, ih]
    · rw [if_neg (by simpa using h)]
      simp
theorem wide_ok (fu n : Nat) (hn : n < M) (hf : 9 ≤ fu) : f_lumref_wide fu (n : Int) = some (beBytes 8 n) := by
  unfold f_lumref_wide
  have hn' : n < 256 ^ 8 := by rw [p8]; exact hn
  have hl := digF_len 8 n
  rw [rdigits_ok 8 n fu hn' (by omega) (by omega), opt_of]
  rw [show IntKind.i64.wrap ((8 : Int) - ((digF 8 n).length : Int)) = ((8 - (digF 8 n).length : Nat) : Int) from by rw [w64 (by omega) (by omega)]; omega, repeat_ok fu _ (by omega), opt_of, req_pos (by rw [List.length_replicate]; omega)]
  have h := drop_zeros (beBytes 8 n)
  rw [trim_be hn', be8_len] at h
  rw [h]
theorem rID_ok (fu : Nat) (s : List UInt8) (hfu : 65 ≤ fu) (hf : s.length < fu) (hb : s.length ≤ 9223372036854775800) : f_lumref_ID fu s = some (idOf s) := by
  unfold f_lumref_ID
  rw [show (64 : Int) = ((64 : Nat) : Int) from rfl, rnarrow_ok 64 (by omega) fu s hfu hf hb, opt_of, wide_ok fu _ (hash_lt 64 s) (by omega), opt_of, req_pos (by rw [be8_len]; omega), req_pos (by rw [be8_len]; omega)]
  rfl
end MX
end Go.Proofs.YtiioclkiapbjnaaGreatDoor.PWalkPlants
namespace Go.Proofs.YtiioclkiapbjnaaGreatDoor.PPlant
open Go.RowKit YtiioclkiapbjnaaGreatDoor.En YtiioclkiapbjnaaGreatDoor PNamesSays PWorld
open Go.Lib hiding cut
set_option linter.unusedVariables false
set_option linter.unusedSimpArgs false
abbrev Bl := S_api_Blob
abbrev Nd := S_api_Node
abbrev PS := D_walk_planter
def z8 : A8u8 := zA8u8
def idV (b : Bl) : A8u8 × Int := if 1 ≤ b.Kind ∧ b.Kind ≤ 3 then (if (b.Bytes.length : Int) > 4096 then (z8, 2) else (PWalkPlants.MX.idOf ([(UInt8.ofNat b.Kind.toNat)] ++ b.Bytes), 0)) else (z8, 5)
theorem known_ok (k : Int) (fu : Nat) : f_pack_Known fu k = some (decide (1 ≤ k ∧ k ≤ 3)) := by
  unfold f_pack_Known
  rw [lt_of]
  by_cases h : k ≥ 1
  · rw [cond_tt (decide_eq_true h)]
    by_cases h2 : k ≤ 3
    · rw [decide_eq_true h2, decide_eq_true ⟨h, h2⟩]
    · rw [decide_eq_false h2, decide_eq_false (fun e => h2 e.2)]
  · rw [cond_ff (decide_eq_false h), decide_eq_false (fun e => h e.1)]
theorem kind_ok (k : Int) (fu : Nat) : f_lumref_kindOK fu k = some (decide (1 ≤ k ∧ k ≤ 3)) := by
  unfold f_lumref_kindOK
  rw [lt_of]
  by_cases h1 : k = 1
  · subst h1; rfl
  rw [cond_ff (beq_eq_false_iff_ne.2 h1)]
  by_cases h2 : k = 2
  · subst h2; rfl
  rw [cond_ff (beq_eq_false_iff_ne.2 h2)]
  by_cases h3 : k = 3
  · subst h3; rfl
  rw [beq_eq_false_iff_ne.2 h3, decide_eq_false (by omega)]
theorem id_ok (b : Bl) (fu : Nat) (hfu : 6000 ≤ fu) : f_pack_ID fu b = some (idV b) ∧ f_lumref_BlobID fu b = some (idV b) := by
  unfold f_pack_ID f_lumref_BlobID idV
  rw [known_ok, kind_ok, opt_of, opt_of]
  by_cases hk : 1 ≤ b.Kind ∧ b.Kind ≤ 3
  · have e : (!decide (1 ≤ b.Kind ∧ b.Kind ≤ 3)) = false := by rw [decide_eq_true hk]; rfl
    rw [e, cond_ff rfl, cond_ff rfl, if_pos hk]
    by_cases hl : (b.Bytes.length : Int) > 4096
    · rw [cond_tt (decide_eq_true hl), cond_tt (decide_eq_true hl), if_pos hl]
      exact ⟨rfl, rfl⟩
    · rw [cond_ff (decide_eq_false hl), cond_ff (decide_eq_false hl), if_neg hl]
      obtain ⟨k, hk2⟩ : ∃ k : Nat, b.Kind = k := ⟨b.Kind.toNat, by omega⟩
      rw [hk2, u8w_in (x := k) (by omega)]
      have hlen : (([(UInt8.ofNat ((k : Int)).toNat)]) ++ b.Bytes).length ≤ 4097 := by rw [List.length_append, List.length_singleton]; omega
      have f1 := PWalkPlants.MX.mID_ok fu (([(UInt8.ofNat ((k : Int)).toNat)]) ++ b.Bytes) (by omega) (by omega)
      have f2 := PWalkPlants.MX.rID_ok fu (([(UInt8.ofNat ((k : Int)).toNat)]) ++ b.Bytes) (by omega) (by omega) (by omega)
      generalize PWalkPlants.MX.idOf (([(UInt8.ofNat ((k : Int)).toNat)]) ++ b.Bytes) = D at f1 f2 ⊢
      rw [req_pos ⟨by omega, by omega⟩, req_pos (by rw [List.length_singleton]; omega), f1, opt_of, req_pos ⟨by omega, by omega⟩, req_pos (by rw [List.length_singleton]; omega), f2, opt_of]
      exact ⟨rfl, rfl⟩
  · have e : (!decide (1 ≤ b.Kind ∧ b.Kind ≤ 3)) = true := by rw [decide_eq_false hk]; rfl
    rw [e, cond_tt rfl, cond_tt rfl, if_neg hk]
    exact ⟨rfl, rfl⟩
theorem wf_of {k : Int} (h : 1 ≤ k ∧ k ≤ 3) : (Lit.int .i64 k).wf = true := by
  obtain ⟨m, rfl⟩ : ∃ m : Nat, k = m := ⟨k.toNat, by omega⟩
  have : m = 1 ∨ m = 2 ∨ m = 3 := by omega
  rcases this with rfl | rfl | rfl <;> rfl
theorem id_wf {b : Bl} (h : (idV b).2 = 0) : (Lit.int .i64 b.Kind).wf = true ∧ b.Bytes.length ≤ 9223372036854775807 := by
  unfold idV at h
  by_cases hk : 1 ≤ b.Kind ∧ b.Kind ≤ 3
  · rw [if_pos hk] at h
    by_cases hl : (b.Bytes.length : Int) > 4096
    · rw [if_pos hl] at h; cases h
    · exact ⟨wf_of hk, by omega⟩
  · rw [if_neg hk] at h; cases h
attribute [irreducible] idV
def intoV (l : List Bl) (b : Bl) : List Bl × A8u8 × Int :=
  if (idV b).2 ≠ 0 then (l, (idV b).1, (idV b).2) else
  match l.find? (fun x => (idV x).1 == (idV b).1) with
  | none => (l ++ [b], (idV b).1, 0)
  | some x => if x = b then (l, (idV b).1, 0) else (l, (idV b).1, 11)
def Lw (l : List Bl) : Prop := ∀ x ∈ l, (idV x).2 = 0
theorem into_go (l : List Bl) (b : Bl) (hl : Lw l) (hb : (idV b).2 = 0) (hL : l.length ≤ 500000) (fu0 : Nat) (h0 : 6000 ≤ fu0) (kk : Unit → Option (List Bl × A8u8 × Int)) : ∀ (d j fu : Nat), l.length - j = d → j ≤ l.length → d < fu →
    f_lumref_into_own_L14 l b (idV b) kk fu0 fu (j : Int) = match (l.drop j).find? (fun x => (idV x).1 == (idV b).1) with | none => kk () | some x => some (if x = b then (l, (idV b).1, 0) else (l, (idV b).1, 11))
  | _, _, 0, _, _, h => absurd h (Nat.not_lt_zero _)
  | 0, j, fu + 1, hd, hj, _ => by
    rw [f_lumref_into_own_L14, cond_ff (dge (by omega)), List.drop_of_length_le (by omega)]; rfl
  | d + 1, j, fu + 1, hd, hj, hf => by
    have hlt : j < l.length := by omega
    obtain ⟨w1, w2⟩ := id_wf (hl _ (List.getElem_mem hlt))
    obtain ⟨w3, w4⟩ := id_wf hb
    rw [f_lumref_into_own_L14, cond_tt (dlt (by omega)), at_lt hlt, opt_of, req_pos w1, req_pos w2, req_pos w3, req_pos w4, List.drop_eq_getElem_cons hlt, (id_ok l[j] fu0 h0).2, opt_of, wsucc (by omega), into_go l b hl hb hL fu0 h0 kk d (j + 1) fu (by omega) (by omega) (by omega)]
    by_cases he : l[j] = b
    · rw [cond_tt (beq_iff_eq.2 he), List.find?_cons_of_pos (by rw [he]; exact beq_self_eq_true _)]
      show _ = some (if l[j] = b then _ else _)
      rw [if_pos he]
    · rw [cond_ff (beq_eq_false_iff_ne.2 he)]
      by_cases hi : (idV l[j]).1 = (idV b).1
      · have hp : (l[j] :: l.drop (j + 1)).find? (fun x => (idV x).1 == (idV b).1) = some l[j] := List.find?_cons_of_pos (by simpa using hi)
        rw [cond_tt (beq_iff_eq.2 hi), hp]
        show _ = some (if l[j] = b then _ else _)
        rw [if_neg he]
      · rw [cond_ff (beq_eq_false_iff_ne.2 hi), List.find?_cons_of_neg (by simpa using hi)]
theorem into_ok (l : List Bl) (b : Bl) (hl : Lw l) (hL : l.length ≤ 500000) (fu : Nat) (hf : 2000000 ≤ fu) : f_lumref_into_own fu l b = some (intoV l b) := by
  unfold f_lumref_into_own intoV
  rw [(id_ok b fu (by omega)).2, opt_of]
  by_cases h0 : (idV b).2 = 0
  · rw [cond_ff (show ((idV b).2 != 0) = false from by simpa using h0), if_neg (by simpa using h0), lt_of]
    rw [show (0 : Int) = ((0 : Nat) : Int) from rfl, into_go l b hl h0 hL fu (by omega) _ l.length 0 fu (by omega) (by omega) (by omega), List.drop_zero]
    cases l.find? (fun x => (idV x).1 == (idV b).1) with
    | none => dsimp only; rw [req_pos ⟨by rw [List.length_singleton]; omega, by rw [List.length_singleton]; omega⟩]
    | some x => dsimp only; split <;> rfl
  · rw [cond_tt (show ((idV b).2 != 0) = true from by simpa using h0), if_pos h0]
theorem into_lw {l : List Bl} (hl : Lw l) (b : Bl) : Lw (intoV l b).1 ∧ (intoV l b).1.length ≤ l.length + 1 := by
  unfold intoV
  by_cases h0 : (idV b).2 = 0
  · rw [if_neg (by simpa using h0)]
    cases l.find? (fun x => (idV x).1 == (idV b).1) with
    | none =>
      refine ⟨fun x hx => ?_, by simp⟩
      rcases List.mem_append.1 hx with hx | hx
      · exact hl x hx
      · rw [List.mem_singleton.1 hx]; exact h0
    | some x => dsimp only; split <;> exact ⟨hl, Nat.le_succ _⟩
  · rw [if_pos h0]; exact ⟨hl, Nat.le_succ _⟩
def Rt (l : List Bl) (seen : List (A8u8 × Bl)) : Prop := ∀ id, gget seen id = l.find? (fun x => (idV x).1 == id)
theorem put_ok (c0 c1 c2 c3 : Int) (kids : List (List UInt8 × List It)) (l : List Bl) (seen : List (A8u8 × Bl)) (b : Bl) (hl : Lw l) (hR : Rt l seen) (hL : l.length ≤ 500000) (fu : Nat) (hf : 2000000 ≤ fu) :
    (idV b).2 ≠ 0 ∧ f___walk_planter__put fu ⟨⟨c0, ⟨c1, c2, c3⟩⟩, kids, l, seen, 0⟩ b = some (z8, ⟨⟨c0, ⟨c1, c2, c3⟩⟩, kids, l, seen, (idV b).2⟩) ∧ intoV l b = (l, (idV b).1, (idV b).2) ∨
    (∃ seen', f___walk_planter__put fu ⟨⟨c0, ⟨c1, c2, c3⟩⟩, kids, l, seen, 0⟩ b = some ((idV b).1, ⟨⟨c0, ⟨c1, c2, c3⟩⟩, kids, (intoV l b).1, seen', 0⟩) ∧ (intoV l b).2 = ((idV b).1, 0) ∧ Rt (intoV l b).1 seen') ∨
    (f___walk_planter__put fu ⟨⟨c0, ⟨c1, c2, c3⟩⟩, kids, l, seen, 0⟩ b = some ((idV b).1, ⟨⟨c0, ⟨c1, c2, c3⟩⟩, kids, l, seen, 11⟩) ∧ intoV l b = (l, (idV b).1, 11)) := by
  unfold f___walk_planter__put
  dsimp only
  rw [cond_ff (by decide), (id_ok b fu (by omega)).1, opt_of]
  by_cases h0 : (idV b).2 = 0
  · right
    have hR0 := hR (idV b).1
    have hi : intoV l b = match l.find? (fun x => (idV x).1 == (idV b).1) with | none => (l ++ [b], (idV b).1, 0) | some x => if x = b then (l, (idV b).1, 0) else (l, (idV b).1, 11) := by unfold intoV; rw [if_neg (by simpa using h0)]
    rw [cond_ff (show ((idV b).2 != 0) = false from by simpa using h0), lt_of]
    cases hq : l.find? (fun x => (idV x).1 == (idV b).1) with
    | none =>
      rw [hq] at hi hR0
      left
      rw [hR0, hi]
      refine ⟨gset seen (idV b).1 b, ?_, rfl, fun id => ?_⟩
      · rw [cond_tt (by rfl), req_pos ⟨by rw [List.length_singleton]; omega, by rw [List.length_singleton]; omega⟩]
      · show _ = (l ++ [b]).find? _
        rw [gget_gset, List.find?_append, ← hR id]
        by_cases e : (idV b).1 = id
        · subst e
          rw [if_pos rfl, hR0]; simp
        · rw [if_neg e]
          cases gget seen id with
          | some y => rfl
          | none => simp [e]
    | some x =>
      rw [hq] at hi hR0
      obtain ⟨w1, w2⟩ := id_wf (hl x (List.mem_of_find?_eq_some hq))
      obtain ⟨w3, w4⟩ := id_wf h0
      rw [hR0]
      rw [cond_ff (by rfl)]
      show _ ∨ _
      dsimp only [Option.getD_some]
      by_cases he : x = b
      · left
        have hi' : intoV l b = (l, (idV b).1, 0) := hi.trans (if_pos he)
        rw [hi']
        refine ⟨seen, ?_, rfl, hR⟩
        rw [req_pos w1, req_pos w2, req_pos w3, req_pos w4, cond_ff (by rw [beq_iff_eq.2 (show (S_api_Blob.mk x.Kind x.Bytes) = b from he)]; rfl)]
      · right
        have hi' : intoV l b = (l, (idV b).1, 11) := hi.trans (if_neg he)
        rw [hi']
        refine ⟨?_, rfl⟩
        rw [req_pos w1, req_pos w2, req_pos w3, req_pos w4, cond_tt (by rw [beq_eq_false_iff_ne.2 (show (S_api_Blob.mk x.Kind x.Bytes) ≠ b from he)]; rfl)]
  · left
    refine ⟨h0, ?_, by unfold intoV; rw [if_pos h0]⟩
    rw [cond_tt (show ((idV b).2 != 0) = true from by simpa using h0)]; rfl
theorem put_dead (P : PS) (b : Bl) (h : P.e ≠ 0) (fu : Nat) : f___walk_planter__put fu P b = some (z8, P) := by
  unfold f___walk_planter__put
  rw [cond_tt (show (P.e != 0) = true from by simpa using h)]; rfl
theorem pieces_ok (c0 c1 c2 c3 : Int) (kids : List (List UInt8 × List It)) (l : List Bl) (seen : List (A8u8 × Bl)) (e : Int) (s : List UInt8) (hs : s.length ≤ 4096) (fu : Nat) (hf : 2000000 ≤ fu) :
    ∃ ps : List (List UInt8), ps.length ≤ 4097 ∧ f___walk_planter__pieces fu ⟨⟨c0, ⟨c1, c2, c3⟩⟩, kids, l, seen, e⟩ s = some (ps, ⟨⟨c0, ⟨c1, c2, c3⟩⟩, kids, l, seen, e⟩) ∧ f_lumref_PiecesOf fu ⟨c0, ⟨c1, c2, c3⟩⟩ s = some ps := by
  unfold f___walk_planter__pieces f_lumref_PiecesOf
  dsimp only
  rw [lt_of]
  by_cases h : c0 = 0
  · rw [cond_tt (beq_iff_eq.2 h), cond_tt (beq_iff_eq.2 h), PChunkSays.cut_ok _ s (by omega) fu (by omega), PChunkSays.rcut_ok _ s fu (by omega), opt_of, opt_of]
    refine ⟨_, ?_, rfl, rfl⟩
    have hl := PChunkSays.pr_len ⟨c1, c2, c3⟩ s [] []
    unfold PChunkSays.cutv
    repeat' split
    all_goals simp at hl ⊢
    all_goals omega
  · rw [cond_ff (beq_eq_false_iff_ne.2 h), cond_ff (beq_eq_false_iff_ne.2 h), PChunkSays.chunk_Fixed_ok _ s fu (by omega), PChunkSays.lumref_Fixed_ok _ s fu (by omega), opt_of, opt_of]
    refine ⟨_, ?_, rfl, rfl⟩
    unfold PChunkSays.fixv
    split
    · simp
    · split
      · simp
      · have := PChunkSays.fx_len c0.toNat (by omega) fu s []
        simp at this ⊢; omega
end Go.Proofs.YtiioclkiapbjnaaGreatDoor.PPlant
namespace Go.Proofs.YtiioclkiapbjnaaGreatDoor.PPlant
open Go.RowKit YtiioclkiapbjnaaGreatDoor.En YtiioclkiapbjnaaGreatDoor PNamesSays PWorld
open Go.Lib hiding cut
set_option linter.unusedVariables false
set_option linter.unusedSimpArgs false
section
variable (c0 c1 c2 c3 : Int) (kids : List (List UInt8 × List It)) (u : It) (ps : List (List UInt8)) (q : PS) (g : Nat)
theorem data_dead (k2 : Int → Int → Int → Int → List (List UInt8 × List It) → List Bl → List (A8u8 × Bl) → Int → Int → List A8u8 → List UInt8 → Option (A8u8 × PS)) (out : List Bl) (seen : List (A8u8 × Bl)) (e : Int) (he : e ≠ 0) (hps : ps.length ≤ 4097) :
    ∀ (d j f : Nat) (parts : List A8u8), ps.length - j = d → j ≤ ps.length → d < f → parts.length + d ≤ 10000 → ∃ parts', f___walk_planter__directory_L38 u k2 (ps, q) g f c0 c1 c2 c3 kids out seen e parts (j : Int) = k2 c0 c1 c2 c3 kids out seen e (u.Bytes.length : Int) parts' [] ∧ parts'.length ≤ parts.length + d
  | _, _, 0, _, _, _, h, _ => absurd h (Nat.not_lt_zero _)
  | 0, j, f + 1, parts, hd, hj, _, _ => by
    rw [f___walk_planter__directory_L38, cond_ff (dge (by show (ps.length : Int) ≤ _; omega))]
    exact ⟨parts, rfl, by omega⟩
  | d + 1, j, f + 1, parts, hd, hj, hf, hp => by
    have hlt : j < ps.length := by omega
    rw [f___walk_planter__directory_L38, cond_tt (dlt (by show _ < (ps.length : Int); omega))]
    dsimp only
    rw [at_lt hlt, opt_of, put_dead _ _ (by exact he), opt_of]
    dsimp only
    rw [req_pos ⟨by rw [List.length_singleton]; omega, by rw [List.length_singleton]; omega⟩, wsucc (by omega)]
    obtain ⟨p', h1, h2⟩ := data_dead k2 out seen e he hps d (j + 1) f (parts ++ [z8]) (by omega) (by omega) (by omega) (by rw [List.length_append, List.length_singleton]; omega)
    exact ⟨p', h1, by rw [List.length_append, List.length_singleton] at h2; omega⟩
theorem data_go (k1 : List Bl → Int → List A8u8 → List UInt8 → Option (List Bl × A8u8 × Int)) (k2 : Int → Int → Int → Int → List (List UInt8 × List It) → List Bl → List (A8u8 × Bl) → Int → Int → List A8u8 → List UInt8 → Option (A8u8 × PS)) (hps : ps.length ≤ 4097) (hg : 2000000 ≤ g) :
    ∀ (d j f1 f2 : Nat) (l : List Bl) (seen : List (A8u8 × Bl)) (parts : List A8u8) (idl : A8u8), ps.length - j = d → j ≤ ps.length → d < f1 → d < f2 → Lw l → Rt l seen → l.length + d ≤ 500000 → parts.length + d ≤ 10000 →
    (∃ l' seen' parts', f_lumref_plantDir_own_L40 u k1 ps g f1 l parts idl (j : Int) = k1 l' (u.Bytes.length : Int) parts' [] ∧ f___walk_planter__directory_L38 u k2 (ps, q) g f2 c0 c1 c2 c3 kids l seen 0 parts (j : Int) = k2 c0 c1 c2 c3 kids l' seen' 0 (u.Bytes.length : Int) parts' [] ∧ Lw l' ∧ Rt l' seen' ∧ l'.length ≤ l.length + d ∧ parts'.length ≤ parts.length + d) ∨
    (∃ a id e out seen' parts', e ≠ 0 ∧ f_lumref_plantDir_own_L40 u k1 ps g f1 l parts idl (j : Int) = some (a, id, e) ∧ f___walk_planter__directory_L38 u k2 (ps, q) g f2 c0 c1 c2 c3 kids l seen 0 parts (j : Int) = k2 c0 c1 c2 c3 kids out seen' e (u.Bytes.length : Int) parts' [] ∧ parts'.length ≤ parts.length + d)
  | _, _, 0, _, _, _, _, _, _, _, h, _, _, _, _, _ => absurd h (Nat.not_lt_zero _)
  | _, _, _, 0, _, _, _, _, _, _, _, h, _, _, _, _ => absurd h (Nat.not_lt_zero _)
  | 0, j, f1 + 1, f2 + 1, l, seen, parts, idl, hd, hj, _, _, hl, hR, _, _ => by
    rw [f_lumref_plantDir_own_L40, f___walk_planter__directory_L38, cond_ff (dge (by show (ps.length : Int) ≤ _; omega)), cond_ff (dge (by show (ps.length : Int) ≤ _; omega))]
    exact .inl ⟨l, seen, parts, rfl, rfl, hl, hR, by omega, by omega⟩
  | d + 1, j, f1 + 1, f2 + 1, l, seen, parts, idl, hd, hj, hf1, hf2, hl, hR, hL, hp => by
    have hlt : j < ps.length := by omega
    rw [f_lumref_plantDir_own_L40, f___walk_planter__directory_L38, cond_tt (dlt (by show _ < (ps.length : Int); omega)), cond_tt (dlt (by show _ < (ps.length : Int); omega))]
    dsimp only
    rw [at_lt hlt, opt_of, opt_of, into_ok l _ hl (by omega) g hg, opt_of]
    rcases put_ok c0 c1 c2 c3 kids l seen (S_api_Blob.mk 1 ps[j]) hl hR (by omega) g hg with ⟨h1, h2, h3⟩ | ⟨seen', h2, h3, h4⟩ | ⟨h2, h3⟩
    · right
      rw [h2, h3, opt_of]
      dsimp only
      rw [cond_tt (by simpa using h1), req_pos ⟨by rw [List.length_singleton]; omega, by rw [List.length_singleton]; omega⟩, wsucc (by omega)]
      obtain ⟨p', q1, q2⟩ := data_dead c0 c1 c2 c3 kids u ps q g k2 l seen _ h1 hps d (j + 1) f2 (parts ++ [z8]) (by omega) (by omega) (by omega) (by rw [List.length_append, List.length_singleton]; omega)
      exact ⟨_, _, _, _, _, p', h1, rfl, q1, by rw [List.length_append, List.length_singleton] at q2; omega⟩
    · obtain ⟨b1, b2⟩ := into_lw hl (S_api_Blob.mk 1 ps[j])
      rw [h2, h3, opt_of]
      dsimp only
      rw [cond_ff (by decide), req_pos ⟨by rw [List.length_singleton]; omega, by rw [List.length_singleton]; omega⟩, req_pos ⟨by rw [List.length_singleton]; omega, by rw [List.length_singleton]; omega⟩, wsucc (by omega)]
      rcases data_go k1 k2 hps hg d (j + 1) f1 f2 (intoV l (S_api_Blob.mk 1 ps[j])).1 seen' (parts ++ [(idV (S_api_Blob.mk 1 ps[j])).1]) (idV (S_api_Blob.mk 1 ps[j])).1 (by omega) (by omega) (by omega) (by omega) b1 h4 (by omega) (by rw [List.length_append, List.length_singleton]; omega) with ⟨l', s', p', r1, r2, r3, r4, r5, r6⟩ | ⟨a, id, e, out, s', p', r1, r2, r3, r4⟩
      · exact .inl ⟨l', s', p', r1, r2, r3, r4, by omega, by rw [List.length_append, List.length_singleton] at r6; omega⟩
      · exact .inr ⟨a, id, e, out, s', p', r1, r2, r3, by rw [List.length_append, List.length_singleton] at r4; omega⟩
    · right
      rw [h2, h3, opt_of]
      dsimp only
      rw [cond_tt (by decide), req_pos ⟨by rw [List.length_singleton]; omega, by rw [List.length_singleton]; omega⟩, wsucc (by omega)]
      obtain ⟨p', q1, q2⟩ := data_dead c0 c1 c2 c3 kids u ps q g k2 l seen 11 (by decide) hps d (j + 1) f2 (parts ++ [(idV (S_api_Blob.mk 1 ps[j])).1]) (by omega) (by omega) (by omega) (by rw [List.length_append, List.length_singleton]; omega)
      exact ⟨_, _, _, _, _, p', by decide, rfl, q1, by rw [List.length_append, List.length_singleton] at q2; omega⟩
end
theorem last_idx {x : It} (h : itemV x = 0) (hx : x.Path.length ≤ 1048576) (fu : Nat) (hf : 2000000 ≤ fu) : f_strings_LastIndex fu x.Path [47] = some ((par x.Path).length : Int) ∧ (par x.Path).length + 1 ≤ x.Path.length ∧ x.Path.take (par x.Path).length = par x.Path := by
  obtain ⟨s1, s2⟩ := itemV_zero h
  obtain ⟨h1, h2⟩ := par_split s1 s2
  generalize hb : (sp x.Path).1.getLast s2 = b at h1 h2
  generalize ha : par x.Path = a at h1
  have hlen : x.Path.length = a.length + (b.length + 1) := by rw [h1]; simp
  refine ⟨?_, by omega, by rw [h1, List.take_left]⟩
  unfold f_strings_LastIndex
  rw [cond_ff (by decide), cond_tt (by decide), req_pos (by decide), show En.bAt [47] (0 : Int) = 47 from rfl, h1, last_ok a b h2 (by omega) fu hf]
  rfl
theorem kind3 {x : It} (h : itemV x = 0) : (x.Kind = 1 ∨ x.Kind = 2 ∨ x.Kind = 3) ∧ (x.Kind = 1 → x.Bytes.length ≤ 4096) := by
  unfold itemV at h
  by_cases h1 : (sp x.Path).2 ≠ 0
  · rw [if_pos h1] at h; exact absurd h h1
  rw [if_neg h1] at h
  by_cases h2 : (sp x.Path).1 = []
  · rw [if_pos h2] at h; exact absurd h (by decide)
  rw [if_neg h2] at h
  by_cases h3 : ¬ (x.Kind = 1 ∨ x.Kind = 2 ∨ x.Kind = 3)
  · rw [if_pos h3] at h; exact absurd h (by decide)
  rw [if_neg h3] at h
  have h3' : x.Kind = 1 ∨ x.Kind = 2 ∨ x.Kind = 3 := Classical.not_not.1 h3
  by_cases h4 : x.Mode < 0 ∨ x.Mode > 511
  · rw [if_pos h4] at h; exact absurd h (by decide)
  rw [if_neg h4] at h
  by_cases h5 : (x.Kind = 1 ∧ x.Bytes.length > 4096) ∨ (x.Kind = 2 ∧ x.Bytes ≠ []) ∨ (x.Kind = 3 ∧ x.Bytes.length > 1024)
  · rw [if_pos h5] at h; exact absurd h (by decide)
  exact ⟨h3', fun hk => by
    apply Classical.byContradiction
    intro hb
    exact h5 (.inl ⟨hk, by omega⟩)⟩
def Tm (w : List It) : Prop := ∀ x ∈ w, -9223372036854775808 ≤ x.Time ∧ x.Time ≤ 9223372036854775807
section
variable (c0 c1 c2 c3 : Int) (kids : List (List UInt8 × List It)) (w : List It) (dc : L2) (a0 : PS) (g : Nat)
variable (sR : S_api_Way → List It → List UInt8 → List Bl → Option (List Bl × A8u8 × Int)) (sP : PS → List UInt8 → Option (A8u8 × PS))
def DeadH : Prop := ∀ x ∈ w, isK dc x = true → x.Kind = 2 → ∀ (out : List Bl) (seen : List (A8u8 × Bl)) (e : Int), e ≠ 0 → ∃ id out' seen', sP ⟨⟨c0, ⟨c1, c2, c3⟩⟩, kids, out, seen, e⟩ x.Path = some (id, ⟨⟨c0, ⟨c1, c2, c3⟩⟩, kids, out', seen', e⟩)
def LiveH : Prop := ∀ x ∈ w, isK dc x = true → x.Kind = 2 → ∀ (l : List Bl) (seen : List (A8u8 × Bl)), Lw l → Rt l seen → l.length + (4098 * cnt w (pth x) + 1) ≤ 500000 →
  (∃ l' id seen', sR ⟨c0, ⟨c1, c2, c3⟩⟩ w x.Path l = some (l', id, 0) ∧ sP ⟨⟨c0, ⟨c1, c2, c3⟩⟩, kids, l, seen, 0⟩ x.Path = some (id, ⟨⟨c0, ⟨c1, c2, c3⟩⟩, kids, l', seen', 0⟩) ∧ Lw l' ∧ Rt l' seen' ∧ l'.length ≤ l.length + (4098 * cnt w (pth x) + 1)) ∨
  (∃ a id e id2 out seen', e ≠ 0 ∧ sR ⟨c0, ⟨c1, c2, c3⟩⟩ w x.Path l = some (a, id, e) ∧ sP ⟨⟨c0, ⟨c1, c2, c3⟩⟩, kids, l, seen, 0⟩ x.Path = some (id2, ⟨⟨c0, ⟨c1, c2, c3⟩⟩, kids, out, seen', e⟩))
def sumW (l : List It) : Nat := sumN (fun x => 4098 * (1 + cnt w (pth x))) l
variable (hG : PWorld.Good w) (hS : Sz w) (hT : Tm w) (hw : w.length ≤ 100) (hK : (gget a0.kids (enc dc)).getD [] = w.filter (isK dc)) (hg : 2000000 ≤ g) (hD : DeadH c0 c1 c2 c3 kids w dc sP)
include hG hS hw hK hg hD
theorem items_dead (k3 : Int → Int → Int → Int → List (List UInt8 × List It) → List Bl → List (A8u8 × Bl) → Int → List Nd → Option (A8u8 × PS)) (e : Int) (he : e ≠ 0) :
    ∀ (d j f : Nat) (out : List Bl) (seen : List (A8u8 × Bl)) (nodes : List Nd), (w.filter (isK dc)).length - j = d → j ≤ (w.filter (isK dc)).length → d < f → nodes.length ≤ j →
    ∃ out' seen' nodes', f___walk_planter__directory_L15 sP a0 (enc dc) k3 g f c0 c1 c2 c3 kids out seen e nodes (j : Int) = k3 c0 c1 c2 c3 kids out' seen' e nodes'
  | _, _, 0, _, _, _, _, _, h, _ => absurd h (Nat.not_lt_zero _)
  | 0, j, f + 1, out, seen, nodes, hd, hj, _, _ => by
    rw [f___walk_planter__directory_L15, lt_of, hK, cond_ff (dge (by omega))]
    exact ⟨out, seen, nodes, rfl⟩
  | d + 1, j, f + 1, out, seen, nodes, hd, hj, hf, hn => by
    have hlt : j < (w.filter (isK dc)).length := by omega
    have hKl : (w.filter (isK dc)).length ≤ w.length := List.length_filter_le _ _
    have hm := List.getElem_mem hlt
    rw [List.mem_filter] at hm
    generalize hx : (w.filter (isK dc))[j] = x at hm
    have hi := hG.1 x hm.1
    obtain ⟨i1, i2, i3⟩ := last_idx hi (hS x hm.1) g hg
    have hpar : par x.Path = enc dc := eq_of_beq hm.2
    rw [hpar] at i1 i2 i3
    have hxl := hS x hm.1
    obtain ⟨k1, k4⟩ := kind3 hi
    have step : ∀ (out : List Bl) (seen : List (A8u8 × Bl)) (nd : Nd), ∃ out' seen' nodes', f___walk_planter__directory_L15 sP a0 (enc dc) k3 g f c0 c1 c2 c3 kids out seen e (nodes ++ [nd]) ((j + 1 : Nat) : Int) = k3 c0 c1 c2 c3 kids out' seen' e nodes' := fun out seen nd =>
      items_dead k3 e he d (j + 1) f out seen (nodes ++ [nd]) (by omega) (by omega) (by omega) (by rw [List.length_append, List.length_singleton]; omega)
    rw [f___walk_planter__directory_L15, lt_of, hK, cond_tt (dlt (by omega)), lt_of, at_lt hlt, opt_of, hx, wsucc (k := (enc dc).length) (by omega), wsucc (k := j) (by omega), req_pos ⟨by omega, by omega⟩, lt_of]
    have hreq : ∀ nd : Nd, ((nodes.length + ([nd]).length) * 88 : Nat) ≤ 140737488355328 ∧ nodes.length + ([nd]).length ≤ 9223372036854775807 := fun nd => ⟨by rw [List.length_singleton]; omega, by rw [List.length_singleton]; omega⟩
    rcases k1 with h1 | h1 | h1
    · rw [h1, cond_tt (by decide)]
      obtain ⟨ps, p1, p2, p3⟩ := pieces_ok c0 c1 c2 c3 kids out seen e x.Bytes (k4 h1) g hg
      rw [p2, opt_of]
      dsimp only
      obtain ⟨parts, q1, q2⟩ := data_dead c0 c1 c2 c3 kids x ps ⟨⟨c0, ⟨c1, c2, c3⟩⟩, kids, out, seen, e⟩ g (fun j26i0_0 j26i0_1 j26i0_2 j26i0_3 j26xm0_4 j26x0_5 j26xm0_6 j26i0_7 j26i8_4 j26x8_5 j26s8_6 => (req (((nodes.length + ([(S_api_Node.mk (x.Path.drop (((enc dc).length + 1 : Nat) : Int).toNat) 1 x.Mode x.Time j26i8_4 j26x8_5 j26s8_6)]).length) * 88 : Nat) ≤ 140737488355328 ∧ nodes.length + ([(S_api_Node.mk (x.Path.drop (((enc dc).length + 1 : Nat) : Int).toNat) 1 x.Mode x.Time j26i8_4 j26x8_5 j26s8_6)]).length ≤ 9223372036854775807) (f___walk_planter__directory_L15 sP a0 (enc dc) k3 g f j26i0_0 j26i0_1 j26i0_2 j26i0_3 j26xm0_4 j26x0_5 j26xm0_6 j26i0_7 (nodes ++ [(S_api_Node.mk (x.Path.drop (((enc dc).length + 1 : Nat) : Int).toNat) 1 x.Mode x.Time j26i8_4 j26x8_5 j26s8_6)]) ((j + 1 : Nat) : Int)))) out seen e he p1 ps.length 0 g [] (by omega) (by omega) (by omega) (by simp; omega)
      refine (show ∃ a b c, _ = _ from ?_)
      obtain ⟨o', s', n', r1⟩ := step out seen (S_api_Node.mk (x.Path.drop (((enc dc).length + 1 : Nat) : Int).toNat) 1 x.Mode x.Time (x.Bytes.length : Int) parts [])
      exact ⟨o', s', n', q1.trans ((req_pos (hreq _)).trans r1)⟩
    · rw [h1, cond_ff (by decide), cond_tt (by decide)]
      obtain ⟨id, o2, s2, r0⟩ := hD x hm.1 hm.2 h1 out seen e he
      rw [r0, opt_of]
      dsimp only
      obtain ⟨o', s', n', r1⟩ := step o2 s2 (S_api_Node.mk (x.Path.drop (((enc dc).length + 1 : Nat) : Int).toNat) 2 x.Mode x.Time 0 [id] [])
      exact ⟨o', s', n', (req_pos (hreq _)).trans r1⟩
    · rw [h1, cond_ff (by decide), cond_ff (by decide)]
      obtain ⟨o', s', n', r1⟩ := step out seen (S_api_Node.mk (x.Path.drop (((enc dc).length + 1 : Nat) : Int).toNat) 3 x.Mode x.Time 0 [] x.Bytes)
      exact ⟨o', s', n', (req_pos (hreq _)).trans r1⟩
omit hG hw hK hg hD in
theorem nd_ok {x : It} (hx : x ∈ w) (hT : Tm w) {k sz : Int} {parts : List A8u8} {lk : List UInt8} (n : Nat) (hp : parts.length ≤ 10000) : PTreeSays.Ok (S_api_Node.mk (x.Path.drop n) k x.Mode x.Time sz parts lk) :=
  ⟨by show parts.length ≤ _; omega, by show (x.Path.drop n).length ≤ _; rw [List.length_drop]; have := hS x hx; omega, hT x hx⟩
include hT
theorem items_go (hL : LiveH c0 c1 c2 c3 kids w dc sR sP) (k4 : List Bl → List Nd → Option (List Bl × A8u8 × Int)) (k3 : Int → Int → Int → Int → List (List UInt8 × List It) → List Bl → List (A8u8 × Bl) → Int → List Nd → Option (A8u8 × PS)) :
    ∀ (d i f1 j f2 : Nat) (l : List Bl) (seen : List (A8u8 × Bl)) (nodes : List Nd), w.length - i = d → i ≤ w.length → d < f1 → (w.filter (isK dc)).drop j = (w.drop i).filter (isK dc) → j ≤ (w.filter (isK dc)).length → (w.filter (isK dc)).length - j < f2 → Lw l → Rt l seen → l.length + sumW w ((w.filter (isK dc)).drop j) ≤ 500000 → nodes.length ≤ j → (∀ u ∈ nodes, PTreeSays.Ok u) →
    (∃ l' seen' nodes', f_lumref_plantDir_own_L13 sR ⟨c0, ⟨c1, c2, c3⟩⟩ w (enc dc) k4 g f1 l nodes (i : Int) = k4 l' nodes' ∧ f___walk_planter__directory_L15 sP a0 (enc dc) k3 g f2 c0 c1 c2 c3 kids l seen 0 nodes (j : Int) = k3 c0 c1 c2 c3 kids l' seen' 0 nodes' ∧ Lw l' ∧ Rt l' seen' ∧ l'.length ≤ l.length + sumW w ((w.filter (isK dc)).drop j) ∧ nodes'.length ≤ 100 ∧ ∀ u ∈ nodes', PTreeSays.Ok u) ∨
    (∃ a id e out seen' nodes', e ≠ 0 ∧ f_lumref_plantDir_own_L13 sR ⟨c0, ⟨c1, c2, c3⟩⟩ w (enc dc) k4 g f1 l nodes (i : Int) = some (a, id, e) ∧ f___walk_planter__directory_L15 sP a0 (enc dc) k3 g f2 c0 c1 c2 c3 kids l seen 0 nodes (j : Int) = k3 c0 c1 c2 c3 kids out seen' e nodes')
  | _, _, 0, _, _, _, _, _, _, _, h, _, _, _, _, _, _, _, _ => absurd h (Nat.not_lt_zero _)
  | _, _, _, _, 0, _, _, _, _, _, _, _, _, h, _, _, _, _, _ => absurd h (Nat.not_lt_zero _)
  | 0, i, f1 + 1, j, f2 + 1, l, seen, nodes, hd, hi, _, hkd, hj, _, hl, hR, hB, hn, hO => by
    have hKl : (w.filter (isK dc)).length ≤ w.length := List.length_filter_le _ _
    have h0 : (w.filter (isK dc)).drop j = [] := by rw [hkd, List.drop_of_length_le (by omega)]; rfl
    have h1 : (w.filter (isK dc)).length ≤ j := by rw [List.drop_eq_nil_iff] at h0; exact h0
    rw [f_lumref_plantDir_own_L13, lt_of, cond_ff (dge (by omega)), f___walk_planter__directory_L15, lt_of, hK, cond_ff (dge (by omega))]
    exact .inl ⟨l, seen, nodes, rfl, rfl, hl, hR, by omega, by omega, hO⟩
  | d + 1, i, f1 + 1, j, f2 + 1, l, seen, nodes, hd, hi, hf1, hkd, hj, hf2, hl, hR, hB, hn, hO => by
    have hKl : (w.filter (isK dc)).length ≤ w.length := List.length_filter_le _ _
    have hlt : i < w.length := by omega
    have hm : w[i] ∈ w := List.getElem_mem hlt
    have hkd0 := hkd
    rw [List.drop_eq_getElem_cons hlt] at hkd
    have hi0 := hG.1 w[i] hm
    obtain ⟨i1, i2, i3⟩ := last_idx hi0 (hS w[i] hm) g hg
    have hxl := hS w[i] hm
    rw [f_lumref_plantDir_own_L13, lt_of, cond_tt (dlt (by omega)), lt_of, at_lt hlt, opt_of, i1, opt_of, req_pos ⟨by omega, by omega⟩, Int.toNat_natCast, i3, wsucc (k := i) (by omega)]
    by_cases hk : isK dc w[i] = true
    · have hpar : par w[i].Path = enc dc := eq_of_beq hk
      rw [hpar] at i1 i2 i3 ⊢
      rw [List.filter_cons_of_pos hk] at hkd
      have hjl : j < (w.filter (isK dc)).length := by
        apply Classical.byContradiction
        intro hh
        rw [List.drop_of_length_le (by omega)] at hkd; cases hkd
      rw [List.drop_eq_getElem_cons hjl, List.cons.injEq] at hkd
      obtain ⟨e1, e2⟩ := hkd
      have hsum : sumW w ((w.filter (isK dc)).drop j) = 4098 * (1 + cnt w (pth w[i])) + sumW w ((w.filter (isK dc)).drop (j + 1)) := by
        rw [List.drop_eq_getElem_cons hjl, e1]; rfl
      rw [hsum] at hB ⊢
      generalize hx : w[i] = x at hm hk hi0 i1 i2 i3 hxl hpar e1 hsum hB ⊢
      obtain ⟨k1, k5⟩ := kind3 hi0
      have stepD : ∀ (e : Int), e ≠ 0 → ∀ (out : List Bl) (seen : List (A8u8 × Bl)) (nd : Nd), ∃ out' seen' nodes', f___walk_planter__directory_L15 sP a0 (enc dc) k3 g f2 c0 c1 c2 c3 kids out seen e (nodes ++ [nd]) ((j + 1 : Nat) : Int) = k3 c0 c1 c2 c3 kids out' seen' e nodes' := fun e he out seen nd =>
        items_dead c0 c1 c2 c3 kids w dc a0 g sP hG hS hw hK hg hD k3 e he _ (j + 1) f2 out seen (nodes ++ [nd]) rfl (by omega) (by omega) (by rw [List.length_append, List.length_singleton]; omega)
      have hreq : ∀ nd : Nd, ((nodes.length + ([nd]).length) * 88 : Nat) ≤ 140737488355328 ∧ nodes.length + ([nd]).length ≤ 9223372036854775807 := fun nd => ⟨by rw [List.length_singleton]; omega, by rw [List.length_singleton]; omega⟩
      have step : ∀ (l2 : List Bl) (seen2 : List (A8u8 × Bl)) (nd : Nd), Lw l2 → Rt l2 seen2 → l2.length ≤ l.length + 4098 * (1 + cnt w (pth x)) → PTreeSays.Ok nd →
          (∃ l' seen' nodes', f_lumref_plantDir_own_L13 sR ⟨c0, ⟨c1, c2, c3⟩⟩ w (enc dc) k4 g f1 l2 (nodes ++ [nd]) ((i + 1 : Nat) : Int) = k4 l' nodes' ∧ f___walk_planter__directory_L15 sP a0 (enc dc) k3 g f2 c0 c1 c2 c3 kids l2 seen2 0 (nodes ++ [nd]) ((j + 1 : Nat) : Int) = k3 c0 c1 c2 c3 kids l' seen' 0 nodes' ∧ Lw l' ∧ Rt l' seen' ∧ l'.length ≤ l.length + (4098 * (1 + cnt w (pth x)) + sumW w ((w.filter (isK dc)).drop (j + 1))) ∧ nodes'.length ≤ 100 ∧ ∀ u ∈ nodes', PTreeSays.Ok u) ∨
          (∃ a id e out seen' nodes', e ≠ 0 ∧ f_lumref_plantDir_own_L13 sR ⟨c0, ⟨c1, c2, c3⟩⟩ w (enc dc) k4 g f1 l2 (nodes ++ [nd]) ((i + 1 : Nat) : Int) = some (a, id, e) ∧ f___walk_planter__directory_L15 sP a0 (enc dc) k3 g f2 c0 c1 c2 c3 kids l2 seen2 0 (nodes ++ [nd]) ((j + 1 : Nat) : Int) = k3 c0 c1 c2 c3 kids out seen' e nodes') := fun l2 seen2 nd q1 q2 q3 q4 => by
        rcases items_go hL k4 k3 d (i + 1) f1 (j + 1) f2 l2 seen2 (nodes ++ [nd]) (by omega) (by omega) (by omega) e2 (by omega) (by omega) q1 q2 (by omega) (by rw [List.length_append, List.length_singleton]; omega) (fun u hu => by
          rcases List.mem_append.1 hu with hu | hu
          · exact hO u hu
          · rw [List.mem_singleton.1 hu]; exact q4) with ⟨l', s', n', r1, r2, r3, r4, r5, r6, r7⟩ | ⟨a, id, e, out, s', n', r1, r2, r3⟩
        · exact .inl ⟨l', s', n', r1, r2, r3, r4, by omega, r6, r7⟩
        · exact .inr ⟨a, id, e, out, s', n', r1, r2, r3⟩
      rw [cond_ff (by rw [beq_self_eq_true]; rfl), wsucc (k := (enc dc).length) (by omega), req_pos ⟨by omega, by omega⟩, lt_of]
      rw [f___walk_planter__directory_L15, lt_of, hK, cond_tt (dlt (by omega)), lt_of, at_lt hjl, opt_of, e1, wsucc (k := (enc dc).length) (by omega), wsucc (k := j) (by omega), req_pos ⟨by omega, by omega⟩, lt_of]
      rcases k1 with h1 | h1 | h1
      · rw [h1, cond_tt (by decide), cond_tt (by decide)]
        obtain ⟨ps, p1, p2, p3⟩ := pieces_ok c0 c1 c2 c3 kids l seen 0 x.Bytes (k5 h1) g hg
        rw [p2, p3, opt_of, opt_of]
        dsimp only
        have hcx : ps.length ≤ 4098 * (1 + cnt w (pth x)) := by omega
        rcases data_go c0 c1 c2 c3 kids x ps ⟨⟨c0, ⟨c1, c2, c3⟩⟩, kids, l, seen, 0⟩ g (fun j29x3 j29i15_4 j29x15_5 j29s15_6 => (req (((nodes.length + ([(S_api_Node.mk (x.Path.drop (((enc dc).length + 1 : Nat) : Int).toNat) 1 x.Mode x.Time j29i15_4 j29x15_5 j29s15_6)]).length) * 88 : Nat) ≤ 140737488355328 ∧ nodes.length + ([(S_api_Node.mk (x.Path.drop (((enc dc).length + 1 : Nat) : Int).toNat) 1 x.Mode x.Time j29i15_4 j29x15_5 j29s15_6)]).length ≤ 9223372036854775807) (f_lumref_plantDir_own_L13 sR ⟨c0, ⟨c1, c2, c3⟩⟩ w (enc dc) k4 g f1 j29x3 (nodes ++ [(S_api_Node.mk (x.Path.drop (((enc dc).length + 1 : Nat) : Int).toNat) 1 x.Mode x.Time j29i15_4 j29x15_5 j29s15_6)]) ((i + 1 : Nat) : Int)))) (fun j26i0_0 j26i0_1 j26i0_2 j26i0_3 j26xm0_4 j26x0_5 j26xm0_6 j26i0_7 j26i8_4 j26x8_5 j26s8_6 => (req (((nodes.length + ([(S_api_Node.mk (x.Path.drop (((enc dc).length + 1 : Nat) : Int).toNat) 1 x.Mode x.Time j26i8_4 j26x8_5 j26s8_6)]).length) * 88 : Nat) ≤ 140737488355328 ∧ nodes.length + ([(S_api_Node.mk (x.Path.drop (((enc dc).length + 1 : Nat) : Int).toNat) 1 x.Mode x.Time j26i8_4 j26x8_5 j26s8_6)]).length ≤ 9223372036854775807) (f___walk_planter__directory_L15 sP a0 (enc dc) k3 g f2 j26i0_0 j26i0_1 j26i0_2 j26i0_3 j26xm0_4 j26x0_5 j26xm0_6 j26i0_7 (nodes ++ [(S_api_Node.mk (x.Path.drop (((enc dc).length + 1 : Nat) : Int).toNat) 1 x.Mode x.Time j26i8_4 j26x8_5 j26s8_6)]) ((j + 1 : Nat) : Int)))) p1 hg ps.length 0 g g l seen [] zA8u8 (by omega) (by omega) (by omega) (by omega) hl hR (by omega) (by simp; omega) with ⟨l2, s2, parts, q1, q2, q3, q4, q5, q6⟩ | ⟨a, id, e, out, s2, parts, q0, q1, q2, q3⟩
        · have hnd : PTreeSays.Ok (S_api_Node.mk (x.Path.drop (((enc dc).length + 1 : Nat) : Int).toNat) 1 x.Mode x.Time (x.Bytes.length : Int) parts []) := nd_ok w hS hm hT _ (by simp at q6; omega)
          rcases step l2 s2 _ q3 q4 (by omega) hnd with ⟨l', s', n', r1, r2, r3⟩ | ⟨a, id, e, out, s', n', r0, r1, r2⟩
          · exact .inl ⟨l', s', n', q1.trans ((req_pos (hreq _)).trans r1), q2.trans ((req_pos (hreq _)).trans r2), r3⟩
          · exact .inr ⟨a, id, e, out, s', n', r0, q1.trans ((req_pos (hreq _)).trans r1), q2.trans ((req_pos (hreq _)).trans r2)⟩
        · obtain ⟨o', s', n', r1⟩ := stepD e q0 out s2 (S_api_Node.mk (x.Path.drop (((enc dc).length + 1 : Nat) : Int).toNat) 1 x.Mode x.Time (x.Bytes.length : Int) parts [])
          exact .inr ⟨a, id, e, o', s', n', q0, q1, q2.trans ((req_pos (hreq _)).trans r1)⟩
      · rw [h1, cond_ff (by decide), cond_tt (by decide), cond_ff (by decide), cond_tt (by decide)]
        rcases hL x hm hk h1 l seen hl hR (by omega) with ⟨l2, id, s2, q1, q2, q3, q4, q5⟩ | ⟨a, id, e, id2, out, s2, q0, q1, q2⟩
        · rw [q1, q2, opt_of, opt_of]
          dsimp only
          rw [cond_ff (by decide), req_pos (hreq _), req_pos (hreq _)]
          exact step l2 s2 _ q3 q4 (by omega) (nd_ok w hS hm hT _ (by simp))
        · rw [q1, q2, opt_of, opt_of]
          dsimp only
          rw [cond_tt (by simpa using q0), req_pos (hreq _)]
          obtain ⟨o', s', n', r1⟩ := stepD e q0 out s2 (S_api_Node.mk (x.Path.drop (((enc dc).length + 1 : Nat) : Int).toNat) 2 x.Mode x.Time 0 [id2] [])
          exact .inr ⟨_, _, e, o', s', n', q0, rfl, r1⟩
      · rw [h1, cond_ff (by decide), cond_ff (by decide), cond_tt (by decide), cond_ff (by decide), cond_ff (by decide)]
        dsimp only
        rw [req_pos (hreq _), req_pos (hreq _)]
        exact step l seen _ hl hR (by omega) (nd_ok w hS hm hT _ (by simp))
    · have hne : ¬ par w[i].Path = enc dc := fun e => hk (beq_iff_eq.2 e)
      rw [cond_tt (by rw [beq_eq_false_iff_ne.2 hne]; rfl)]
      rw [List.filter_cons_of_neg hk] at hkd
      exact items_go hL k4 k3 d (i + 1) f1 j (f2 + 1) l seen nodes (by omega) (by omega) (by omega) hkd hj hf2 hl hR hB hn hO
end
end Go.Proofs.YtiioclkiapbjnaaGreatDoor.PPlant
namespace Go.Proofs.YtiioclkiapbjnaaGreatDoor.PWalkPlants
open Go.RowKit YtiioclkiapbjnaaGreatDoor.En YtiioclkiapbjnaaGreatDoor PNamesSays PWorld PPlant
open Go.Lib hiding cut
set_option linter.unusedVariables false
set_option linter.unusedSimpArgs false
section
variable (c0 c1 c2 c3 : Int) (kids : List (List UInt8 × List It)) (w : List It)
variable (hG : PWorld.Good w) (hS : Sz w) (hT : Tm w) (hw : w.length ≤ 100) (hk : ∀ q, (gget kids q).getD [] = w.filter (fun x => PWorld.par x.Path == q))
include hG hS hT hw hk
omit hT hw hk in
theorem kid_ok {dc : L2} (hd : Fr dc) {x : It} (hx : x ∈ w) (hi : isK dc x = true) : Fr (pth x) ∧ (pth x).length = dc.length + 1 ∧ (pth x).length ≤ 8 ∧ x.Path = enc (pth x) ∧ (enc (pth x)).length ≤ 1048576 := by
  obtain ⟨h1, h2, h3, _⟩ := pth_ok (hG.1 x hx)
  exact ⟨h2, ((par_iff (hG.1 x hx) hd).1 (eq_of_beq hi)).1, h3, h1, by rw [← h1]; exact hS x hx⟩
omit hT in
theorem dir_dead : ∀ (k : Nat) (dc : L2), Fr dc → 8 ≤ dc.length + k → (enc dc).length ≤ 1048576 → ∀ (out : List Bl) (seen : List (A8u8 × Bl)) (e : Int), e ≠ 0 → ∃ id out' seen', f___walk_planter__directory (2000000 + k + 1) ⟨⟨c0, ⟨c1, c2, c3⟩⟩, kids, out, seen, e⟩ (enc dc) = some (id, ⟨⟨c0, ⟨c1, c2, c3⟩⟩, kids, out', seen', e⟩)
  | k, dc, hd, h8, hl, out, seen, e, he => by
    have hD : DeadH c0 c1 c2 c3 kids w dc (f___walk_planter__directory (2000000 + k)) := fun x hx hi _ out seen e he => by
      obtain ⟨q1, q2, q3, q4, q5⟩ := kid_ok w hG hS hd hx hi
      match k, h8 with
      | 0, h8 => omega
      | k + 1, h8 =>
        rw [q4]
        exact dir_dead k (pth x) q1 (by omega) q5 out seen e he
    have hK : (gget (⟨⟨c0, ⟨c1, c2, c3⟩⟩, kids, out, seen, e⟩ : PS).kids (enc dc)).getD [] = w.filter (isK dc) := hk (enc dc)
    rw [f___walk_planter__directory, lt_of, req_pos (by omega)]
    dsimp only
    obtain ⟨o', s', n', r⟩ := items_dead c0 c1 c2 c3 kids w dc ⟨⟨c0, ⟨c1, c2, c3⟩⟩, kids, out, seen, e⟩ (2000000 + k) (f___walk_planter__directory (2000000 + k)) hG hS hw hK (by omega) hD _ e he _ 0 (2000000 + k) out seen [] rfl (Nat.zero_le _) (by have := List.length_filter_le (isK dc) w; omega) (Nat.le_refl _)
    refine ⟨z8, o', s', Eq.trans r ?_⟩
    rw [cond_tt (by simpa using he)]; rfl
theorem dir_live : ∀ (k : Nat) (dc : L2), Fr dc → 8 ≤ dc.length + k → (enc dc).length ≤ 1048576 → ∀ (l : List Bl) (seen : List (A8u8 × Bl)), Lw l → Rt l seen → l.length + (4098 * cnt w dc + 1) ≤ 500000 →
    (∃ l' id seen', f_lumref_plantDir_own (2000000 + k + 1) ⟨c0, ⟨c1, c2, c3⟩⟩ w (enc dc) l = some (l', id, 0) ∧ f___walk_planter__directory (2000000 + k + 1) ⟨⟨c0, ⟨c1, c2, c3⟩⟩, kids, l, seen, 0⟩ (enc dc) = some (id, ⟨⟨c0, ⟨c1, c2, c3⟩⟩, kids, l', seen', 0⟩) ∧ Lw l' ∧ Rt l' seen' ∧ l'.length ≤ l.length + (4098 * cnt w dc + 1)) ∨
    (∃ a id e id2 out seen', e ≠ 0 ∧ f_lumref_plantDir_own (2000000 + k + 1) ⟨c0, ⟨c1, c2, c3⟩⟩ w (enc dc) l = some (a, id, e) ∧ f___walk_planter__directory (2000000 + k + 1) ⟨⟨c0, ⟨c1, c2, c3⟩⟩, kids, l, seen, 0⟩ (enc dc) = some (id2, ⟨⟨c0, ⟨c1, c2, c3⟩⟩, kids, out, seen', e⟩))
  | k, dc, hd, h8, hle, l, seen, hl, hR, hB => by
    have hD : DeadH c0 c1 c2 c3 kids w dc (f___walk_planter__directory (2000000 + k)) := fun x hx hi _ out seen e he => by
      obtain ⟨q1, q2, q3, q4, q5⟩ := kid_ok w hG hS hd hx hi
      match k, h8 with
      | 0, h8 => omega
      | k + 1, h8 =>
        rw [q4]
        exact dir_dead c0 c1 c2 c3 kids w hG hS hw hk k (pth x) q1 (by omega) q5 out seen e he
    have hL : LiveH c0 c1 c2 c3 kids w dc (f_lumref_plantDir_own (2000000 + k)) (f___walk_planter__directory (2000000 + k)) := fun x hx hi _ l seen hl hR hB => by
      obtain ⟨q1, q2, q3, q4, q5⟩ := kid_ok w hG hS hd hx hi
      match k, h8 with
      | 0, h8 => omega
      | k + 1, h8 =>
        rw [q4]
        exact dir_live k (pth x) q1 (by omega) q5 l seen hl hR hB
    have hK : (gget (⟨⟨c0, ⟨c1, c2, c3⟩⟩, kids, l, seen, 0⟩ : PS).kids (enc dc)).getD [] = w.filter (isK dc) := hk (enc dc)
    have hsum : sumW w (w.filter (isK dc)) ≤ 4098 * cnt w dc := by
      unfold sumW
      rw [sum_mul]
      exact Nat.mul_le_mul_left _ (kids_sum hG hd)
    rw [f___walk_planter__directory, f_lumref_plantDir_own, lt_of, lt_of, req_pos (by omega)]
    dsimp only
    have hfl := List.length_filter_le (isK dc) w
    rcases items_go c0 c1 c2 c3 kids w dc ⟨⟨c0, ⟨c1, c2, c3⟩⟩, kids, l, seen, 0⟩ (2000000 + k) (f_lumref_plantDir_own (2000000 + k)) (f___walk_planter__directory (2000000 + k)) hG hS hT hw hK (by omega) hD hL
      (fun (j3x3 : (List S_api_Blob)) (j3x11 : (List S_api_Node)) => (opt (f_lumref_TreeWrite (2000000 + k) j3x11) fun (r6 : ((List UInt8) × Int)) => (bif (r6.2 != (0 : Int)) then (some (([] : List S_api_Blob), zA8u8, r6.2)) else (opt (f_lumref_into_own (2000000 + k) j3x3 (S_api_Blob.mk (2 : Int) r6.1)) fun (r9 : ((List S_api_Blob) × A8u8 × Int)) => (some (r9.1, r9.2.1, r9.2.2))))))
      (fun (j2i0_0 : Int) (j2i0_1 : Int) (j2i0_2 : Int) (j2i0_3 : Int) (j2xm0_4 : (List ((List UInt8) × (List S_api_Item)))) (j2x0_5 : (List S_api_Blob)) (j2xm0_6 : (List (A8u8 × S_api_Blob))) (j2i0_7 : Int) (j2x5 : (List S_api_Node)) => (bif (j2i0_7 != (0 : Int)) then (some (zA8u8, (D_walk_planter.mk (S_api_Way.mk j2i0_0 (S_api_Cut.mk j2i0_1 j2i0_2 j2i0_3)) j2xm0_4 j2x0_5 j2xm0_6 j2i0_7))) else (opt (f_tree_Write (2000000 + k) j2x5) fun (r6 : ((List UInt8) × Int)) => (bif (r6.2 != (0 : Int)) then (some (zA8u8, (D_walk_planter.mk (S_api_Way.mk j2i0_0 (S_api_Cut.mk j2i0_1 j2i0_2 j2i0_3)) j2xm0_4 j2x0_5 j2xm0_6 r6.2))) else (opt (f___walk_planter__put (2000000 + k) (D_walk_planter.mk (S_api_Way.mk j2i0_0 (S_api_Cut.mk j2i0_1 j2i0_2 j2i0_3)) j2xm0_4 j2x0_5 j2xm0_6 j2i0_7) (S_api_Blob.mk (2 : Int) r6.1)) fun (r9 : (A8u8 × D_walk_planter)) => (some (r9.1, (D_walk_planter.mk (S_api_Way.mk r9.2.way.Fixed (S_api_Cut.mk r9.2.way.Cut.Min r9.2.way.Cut.Max r9.2.way.Cut.Bits)) r9.2.kids r9.2.out r9.2.seen r9.2.e))))))))
      w.length 0 (2000000 + k) 0 (2000000 + k) l seen [] rfl (Nat.zero_le _) (by omega) rfl (Nat.zero_le _) (by omega) hl hR (by rw [List.drop_zero]; omega) (Nat.le_refl _) (by simp) with ⟨l', s', n', r1, r2, r3, r4, r5, r6, r7⟩ | ⟨a, id, e, out, s', n', r0, r1, r2⟩
    · rw [List.drop_zero] at r5
      obtain ⟨t, er, t1, t2⟩ := PTreeSays.write_ok n' (by omega) r7 (2000000 + k) (by omega)
      have e1 := r1
      have e2 := r2
      rw [t2, opt_of] at e1
      rw [cond_ff (by decide), t1, opt_of] at e2
      dsimp only at e1 e2
      by_cases h0 : er = 0
      · subst h0
        rw [cond_ff (by decide), into_ok l' _ r3 (by omega) (2000000 + k) (by omega), opt_of] at e1
        rw [cond_ff (by decide)] at e2
        obtain ⟨b1, b2⟩ := into_lw r3 (S_api_Blob.mk 2 t)
        rcases put_ok c0 c1 c2 c3 kids l' s' (S_api_Blob.mk 2 t) r3 r4 (by omega) (2000000 + k) (by omega) with ⟨h1, h2, h3⟩ | ⟨seen', h2, h3, h4⟩ | ⟨h2, h3⟩
        · rw [h2, opt_of] at e2
          rw [h3] at e1
          exact .inr ⟨_, _, _, _, _, _, h1, e1, e2⟩
        · rw [h2, opt_of] at e2
          rw [h3] at e1
          exact .inl ⟨_, _, _, e1, e2, b1, h4, by omega⟩
        · rw [h2, opt_of] at e2
          rw [h3] at e1
          exact .inr ⟨_, _, 11, _, _, _, by decide, e1, e2⟩
      · rw [cond_tt (by simpa using h0)] at e1 e2
        exact .inr ⟨_, _, _, _, _, _, h0, e1, e2⟩
    · have e2 := r2
      rw [cond_tt (by simpa using r0)] at e2
      exact .inr ⟨_, _, _, _, _, _, r0, r1, e2⟩
end
section
variable {κ α : Type} [DecidableEq κ]
theorem gset_cons (x : κ × α) (m : List (κ × α)) (p : κ) (a : α) : gset (x :: m) p a = if x.1 = p then (p, a) :: m else x :: gset m p a := rfl
theorem gset_gset : ∀ (m : List (κ × α)) (p : κ) (a b : α), gset (gset m p a) p b = gset m p b
  | [], p, a, b => by show gset [(p, a)] p b = _; rw [gset_cons, if_pos rfl]; rfl
  | x :: m, p, a, b => by
    rw [gset_cons, gset_cons]
    by_cases h : x.1 = p
    · rw [if_pos h, if_pos h, gset_cons, if_pos rfl]
    · rw [if_neg h, if_neg h, gset_cons, if_neg h, gset_gset m p a b]
theorem hold_gset (m : List (κ × Option (List α))) (p : κ) (v : Option (List α)) : gset (hold m p) p v = gset m p v := by
  unfold hold
  cases gget m p with
  | none => rfl
  | some x => exact gset_gset m p none v
theorem allS_gget : ∀ {m : List (κ × Option (List α))} {lm : List (κ × List α)}, allS m = some lm → ∀ k, gget m k = (gget lm k).map some
  | [], lm, h, k => by obtain rfl := Option.some.inj h; rfl
  | (q, some x) :: m, lm, h, k => by
    unfold allS at h
    obtain ⟨l', h1, h2⟩ := Option.bind_eq_some_iff.1 h
    obtain rfl := Option.some.inj h2
    unfold gget
    by_cases e : q = k
    · rw [if_pos e, if_pos e]; rfl
    · rw [if_neg e, if_neg e]; exact allS_gget h1 k
  | (q, none) :: m, lm, h, k => by cases h
theorem allS_gset : ∀ {m : List (κ × Option (List α))} {lm : List (κ × List α)}, allS m = some lm → ∀ (k : κ) (v : List α), allS (gset m k (some v)) = some (gset lm k v)
  | [], lm, h, k, v => by obtain rfl := Option.some.inj h; rfl
  | (q, some x) :: m, lm, h, k, v => by
    unfold allS at h
    obtain ⟨l', h1, h2⟩ := Option.bind_eq_some_iff.1 h
    obtain rfl := Option.some.inj h2
    unfold gset
    by_cases e : q = k
    · rw [if_pos e, if_pos e]; unfold allS; rw [h1]; rfl
    · rw [if_neg e, if_neg e]; unfold allS; rw [allS_gset h1 k v]; rfl
  | (q, none) :: m, lm, h, k, v => by cases h
theorem hget_ok {m : List (κ × Option (List α))} {lm : List (κ × List α)} (h : allS m = some lm) (k : κ) : hget m k = some ((gget lm k).getD []) := by
  unfold hget
  rw [allS_gget h k]
  cases gget lm k <;> rfl
end
def kidsOf (w : List It) (q : List UInt8) : List It := w.filter (fun x => PWorld.par x.Path == q)
theorem plant_go (w : List It) (hG : PWorld.Good w) (hS : Sz w) (hw : w.length ≤ 100) (g : Nat) (hg : 2000000 ≤ g) (kk : List (List UInt8 × Option (List It)) → Option (List Bl × A8u8 × Int)) : ∀ (d i f : Nat) (m : List (List UInt8 × Option (List It))) (lm : List (List UInt8 × List It)), w.length - i = d → i ≤ w.length → d < f → allS m = some lm → (∀ q, (gget lm q).getD [] = kidsOf (w.take i) q) →
    ∃ m' lm', f_walk_Plant_L23 w kk g f m (i : Int) = kk m' ∧ allS m' = some lm' ∧ ∀ q, (gget lm' q).getD [] = kidsOf w q
  | _, _, 0, _, _, _, _, h, _, _ => absurd h (Nat.not_lt_zero _)
  | 0, i, f + 1, m, lm, hd, hi, _, ha, hq => by
    rw [f_walk_Plant_L23, cond_ff (dge (by omega))]
    rw [List.take_of_length_le (by omega)] at hq
    exact ⟨m, lm, rfl, ha, hq⟩
  | d + 1, i, f + 1, m, lm, hd, hi, hf, ha, hq => by
    have hlt : i < w.length := by omega
    have hm : w[i] ∈ w := List.getElem_mem hlt
    obtain ⟨s1, s2⟩ := itemV_zero (hG.1 w[i] hm)
    have hx := hS w[i] hm
    have hpl := par_len s1 s2
    have hkl : (kidsOf (w.take i) (PWorld.par w[i].Path)).length ≤ 100 := by
      have := List.length_filter_le (fun x => PWorld.par x.Path == PWorld.par w[i].Path) (w.take i)
      unfold kidsOf
      rw [List.length_take] at this; omega
    rw [f_walk_Plant_L23, cond_tt (dlt (by omega)), at_lt hlt, opt_of, parent_ok s1 s2 hx g hg, opt_of, opt_of, req_pos (by omega), hget_ok ha, opt_of, hq, req_pos ⟨by rw [List.length_singleton]; omega, by rw [List.length_singleton]; omega⟩, req_pos (by omega), hold_gset, wsucc (by omega)]
    refine plant_go w hG hS hw g hg kk d (i + 1) f _ _ (by omega) (by omega) (by omega) (allS_gset ha _ _) (fun q => ?_)
    have htk : w.take (i + 1) = w.take i ++ [w[i]] := by rw [List.take_add_one, List.getElem?_eq_getElem hlt]; rfl
    unfold kidsOf at hq ⊢
    rw [gget_gset, htk, List.filter_append]
    by_cases e : PWorld.par w[i].Path = q
    · subst e
      rw [if_pos rfl]
      show _ ++ _ = _ ++ _
      congr 1
      rw [List.filter_cons_of_pos (by exact beq_self_eq_true _)]; rfl
    · rw [if_neg e, hq, List.filter_cons_of_neg (by simpa using e), List.filter_nil, List.append_nil]
theorem way_ok (a : S_api_Way) (fu : Nat) : ∃ e, f_walk_WayOK fu a = some e ∧ f_lumref_Way fu a = some e := by
  unfold f_walk_WayOK f_lumref_Way
  rw [PChunkSays.check_ok, PChunkSays.cutok_ok, opt_of, lt_of]
  cases (a.Fixed == (0 : Int))
  · cases decide (a.Fixed < (16 : Int))
    · cases decide (a.Fixed > (1024 : Int)) <;> exact ⟨_, rfl, rfl⟩
    · exact ⟨_, rfl, rfl⟩
  · exact ⟨_, rfl, rfl⟩
theorem lw_nil : Lw [] ∧ ([] : List Bl).length ≤ 500000 := ⟨fun x hx => (by cases hx), Nat.zero_le _⟩
theorem plant_both (a : S_api_Way) (w : List It) (hS : Sz w) (hT : Tm w) : ∃ r : List Bl × A8u8 × Int, f_walk_Plant 2000009 a w = some r ∧ f_lumref_Plant 2000009 a w = some r ∧ Lw r.1 ∧ r.1.length ≤ 500000 := by
  obtain ⟨e, w1, w2⟩ := way_ok a 2000009
  unfold f_walk_Plant f_lumref_Plant
  rw [w1, w2, opt_of, opt_of]
  by_cases he : e = 0
  · subst he
    rw [cond_ff (by decide), cond_ff (by decide), check_ok w hS 2000009 (by omega), world_ok w hS 2000009 (by omega), opt_of, opt_of]
    by_cases hv : worldV w = 0
    · obtain ⟨hG, hw⟩ := world_good hv
      rw [hv, cond_ff (by decide), cond_ff (by decide), lt_of]
      obtain ⟨m', lm', p1, p2, p3⟩ := plant_go w hG hS hw 2000009 (by omega) (fun (j12xm9_4 : (List ((List UInt8) × Option (List S_api_Item)))) => (opt (allS j12xm9_4) fun (lm14 : (List ((List UInt8) × List S_api_Item))) => (opt (f___walk_planter__directory 2000009 (D_walk_planter.mk a lm14 ([] : List S_api_Blob) ([] : List (A8u8 × S_api_Blob)) (0 : Int)) ([] : List UInt8)) fun (r17 : (A8u8 × D_walk_planter)) => (bif (r17.2.e != (0 : Int)) then (some (([] : List S_api_Blob), zA8u8, r17.2.e)) else (some (r17.2.out, r17.1, (0 : Int))))))) w.length 0 2000009 [] [] rfl (Nat.zero_le _) (by omega) rfl (fun q => rfl)
      have e1 := p1
      rw [p2, opt_of] at e1
      obtain ⟨c0, c1, c2, c3⟩ := a
      have hb : cnt w ([] : L2) ≤ 100 := Nat.le_trans (cnt_le w []) hw
      rcases dir_live c0 c1 c2 c3 lm' w hG hS hT hw p3 8 [] (fun x hx => (by cases hx)) (Nat.le_refl _) (Nat.zero_le _) [] [] (fun x hx => by cases hx) (fun id => rfl) (by show 0 + _ ≤ _; omega) with ⟨l', id, s', r1, r2, r3, r4, r5⟩ | ⟨x, id, e, id2, out, s', r0, r1, r2⟩
      · refine ⟨(l', id, 0), ?_, ?_, r3, by have r5' : l'.length ≤ 0 + (4098 * cnt w [] + 1) := r5; show l'.length ≤ 500000; omega⟩
        · refine Eq.trans e1 ?_
          have r2' : f___walk_planter__directory 2000009 (D_walk_planter.mk ⟨c0, ⟨c1, c2, c3⟩⟩ lm' ([] : List S_api_Blob) ([] : List (A8u8 × S_api_Blob)) (0 : Int)) ([] : List UInt8) = _ := r2
          rw [r2']; rfl
        · have r1' : f_lumref_plantDir_own 2000009 ⟨c0, ⟨c1, c2, c3⟩⟩ w ([] : List UInt8) ([] : List S_api_Blob) = _ := r1
          rw [r1']; rfl
      · refine ⟨([], z8, e), ?_, ?_, lw_nil⟩
        · refine Eq.trans e1 ?_
          have r2' : f___walk_planter__directory 2000009 (D_walk_planter.mk ⟨c0, ⟨c1, c2, c3⟩⟩ lm' ([] : List S_api_Blob) ([] : List (A8u8 × S_api_Blob)) (0 : Int)) ([] : List UInt8) = _ := r2
          rw [r2', opt_of, cond_tt (by simpa using r0)]; rfl
        · have r1' : f_lumref_plantDir_own 2000009 ⟨c0, ⟨c1, c2, c3⟩⟩ w ([] : List UInt8) ([] : List S_api_Blob) = _ := r1
          rw [r1', opt_of, cond_tt (by simpa using r0)]; rfl
    · rw [cond_tt (by simpa using hv), cond_tt (by simpa using hv)]
      exact ⟨_, rfl, rfl, lw_nil⟩
  · rw [cond_tt (by simpa using he), cond_tt (by simpa using he)]
    exact ⟨_, rfl, rfl, lw_nil⟩
theorem eq_go (a : List Bl) (hL : Lw a) (ha : a.length ≤ 500000) (kk : Unit → Option Bool) : ∀ (d j fu : Nat), a.length - j = d → j ≤ a.length → d < fu → f_slices_Equal___api_Blob_api_Blob__L6 a a kk fu (j : Int) = kk ()
  | _, _, 0, _, _, h => absurd h (Nat.not_lt_zero _)
  | 0, j, fu + 1, hd, hj, _ => by rw [f_slices_Equal___api_Blob_api_Blob__L6, cond_ff (dge (by omega))]
  | d + 1, j, fu + 1, hd, hj, hf => by
    have hlt : j < a.length := by omega
    obtain ⟨w1, w2⟩ := id_wf (hL _ (List.getElem_mem hlt))
    rw [f_slices_Equal___api_Blob_api_Blob__L6, cond_tt (dlt (by omega)), at_lt hlt, opt_of, opt_of, req_pos w1, req_pos w2, req_pos w1, req_pos w2, cond_ff (by simp), wsucc (by omega)]
    exact eq_go a hL ha kk d (j + 1) fu (by omega) (by omega) (by omega)
def fuel (_ : S_api_Way) (_ : List It) : Nat := 2000009
theorem law_ok (a : S_api_Way) (w : List It) (hS : Sz w) (hT : Tm w) : f_lumlaw_WalkPlants 2000009 a w = some true := by
  obtain ⟨r, p1, p2, p3, p4⟩ := plant_both a w hS hT
  obtain ⟨e, w1, w2⟩ := way_ok a 2000009
  unfold f_lumlaw_WalkPlants
  rw [p1, p2, opt_of, opt_of, lt_of, check_ok w hS 2000009 (by omega), world_ok w hS 2000009 (by omega), opt_of, opt_of, cond_tt (beq_self_eq_true _), w1, w2, opt_of, opt_of, cond_tt (beq_self_eq_true _)]
  have hE : f_slices_Equal___api_Blob_api_Blob_ 2000009 r.1 r.1 = some true := by
    unfold f_slices_Equal___api_Blob_api_Blob_
    rw [cond_ff (by simp), lt_of]
    exact eq_go r.1 p3 p4 _ _ 0 _ rfl (Nat.zero_le _) (by omega)
  rw [hE, opt_of, cond_tt rfl, cond_tt (beq_self_eq_true _), beq_self_eq_true]
theorem says (a : S_api_Way) (w : List It) (h : okB (fun N y => okbS_api_Item N y) 1048576 w) : f_lumlaw_WalkPlants (fuel a w) a w = some true :=
  law_ok a w (fun x hx => (h.2 x hx).1.2) (fun x hx => wfi64 (h.2 x hx).2.2.2.1)
end Go.Proofs.YtiioclkiapbjnaaGreatDoor.PWalkPlants
