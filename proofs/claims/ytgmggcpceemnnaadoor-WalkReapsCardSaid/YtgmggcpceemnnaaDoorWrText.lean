/- Strings with their order: the code and the reference agree: TreeReads. No condition. -/
import Derived.Test.YtgmggcpceemnnaaDoorWWalkReaps
import Derived.Test.YtgmggcpceemnnaaDoorPlBits
namespace Go.Proofs.YtgmggcpceemnnaaDoor.PTreeText
open Go.RowKit YtgmggcpceemnnaaDoor.En YtgmggcpceemnnaaDoor
set_option linter.unusedVariables false
set_option linter.unusedSimpArgs false
theorem bAt_lt {s : List UInt8} {j : Nat} (h : j < s.length) : En.bAt s (j : Int) = ((s[j].toNat : Nat) : Int) := by
  unfold En.bAt
  rw [Int.toNat_natCast, List.getD_eq_getElem?_getD, List.getElem?_eq_getElem h]; rfl
theorem cut1 {s : List UInt8} {j : Nat} (h : j < s.length) : cut s (j : Int) ((j + 1 : Nat) : Int) = [s[j]] := by
  unfold cut
  rw [Int.toNat_natCast, Int.toNat_natCast, ← List.take_append_getElem h, List.drop_append_of_le_length (by rw [List.length_take]; omega), List.drop_of_length_le (by rw [List.length_take]; omega)]; rfl
theorem go (s : List UInt8) (hs : s.length ≤ 9223372036854775807) : ∀ (fu : Nat) (out : List UInt8) (j : Nat), out.length ≤ 1024 → 1025 - out.length < fu →
    ∃ r, (f_num_GetText_L5 s (fun _ => some (([] : List UInt8), (0 : Int), (3 : Int))) fu out (j : Int) = some r ∧ f_lumref_GetText_L3 s fu out (j : Int) = some r) ∧ r.1.length ≤ 1024 ∧ (r.2.2 = 0 → ∃ k : Nat, r.2.1 = (k : Int) ∧ k ≤ s.length)
  | 0, out, j, ho, hf => by omega
  | fu + 1, out, j, ho, hf => by
    rw [f_num_GetText_L5, f_lumref_GetText_L3, lt_of, lt_of]
    by_cases h1 : j < s.length
    · have hb := s[j].toNat_lt
      have w1 : IntKind.i64.wrap ((j : Int) + (1 : Int)) = ((j + 1 : Nat) : Int) := by rw [w64 (by omega) (by omega)]; omega
      have hp0 : 0 ≤ (j : Int) ∧ (j : Int) < (s.length : Int) := ⟨by omega, by omega⟩
      rw [cond_tt (dlt (by omega)), cond_ff (show decide ((j : Int) ≥ (s.length : Int)) = false from decide_eq_false (by omega))]
      simp only [req_pos hp0, bAt_lt h1, w1]
      -- what both do with one more byte
      have more : ∀ (x : UInt8) (one : Nat) (jj : Int), [x] = cut s (j : Int) ((j + 1 : Nat) : Int) → (one = 1 ∨ one = 2) → IntKind.i64.wrap (jj + (1 : Int)) = ((j + one : Nat) : Int) → IntKind.i64.wrap ((j : Int) + (one : Int)) = ((j + one : Nat) : Int) →
          ∃ r, ((bif (decide (((out ++ [x]).length : Int) > (1024 : Int))) then (some (([] : List UInt8), (0 : Int), (2 : Int))) else (f_num_GetText_L5 s (fun _ => some (([] : List UInt8), (0 : Int), (3 : Int))) fu (out ++ [x]) (IntKind.i64.wrap (jj + (1 : Int))))) = some r ∧
            (bif ((out.length : Int) == (1024 : Int)) then (some (([] : List UInt8), (0 : Int), (2 : Int))) else (req (0 ≤ (j : Int) ∧ (j : Int) ≤ ((j + 1 : Nat) : Int) ∧ ((j + 1 : Nat) : Int) ≤ (s.length : Int)) (req (out.length + (cut s (j : Int) ((j + 1 : Nat) : Int)).length ≤ 9223372036854775807) (f_lumref_GetText_L3 s fu (out ++ (cut s (j : Int) ((j + 1 : Nat) : Int))) (IntKind.i64.wrap ((j : Int) + (one : Int))))))) = some r) ∧ r.1.length ≤ 1024 ∧ (r.2.2 = 0 → ∃ k : Nat, r.2.1 = (k : Int) ∧ k ≤ s.length) := by
        intro x one jj hx hone e1 e2
        have hl : (out ++ [x]).length = out.length + 1 := by simp
        rw [← hx, e1, e2]
        by_cases h9 : out.length = 1024
        · rw [cond_tt (decide_eq_true (by omega)), cond_tt (by rw [h9]; rfl)]; exact ⟨_, ⟨rfl, rfl⟩, by first | exact ho | simp, fun h => by first | exact ⟨_, rfl, by omega⟩ | exact absurd h (by simp)⟩
        · rw [cond_ff (decide_eq_false (by omega)), cond_ff (by rw [beq_eq_false_iff_ne]; omega), req_pos ⟨by omega, by omega, by omega⟩, req_pos (by rw [List.length_singleton]; omega)]
          exact go s hs fu (out ++ [x]) (j + one) (by omega) (by omega)
      by_cases h2 : s[j] = 0
      · have hz : s[j].toNat = 0 := by rw [h2]; rfl
        have t0 : (((0 : Nat) : Int) == (0 : Int)) = true := rfl
        simp only [hz, cond_tt t0]
        by_cases h3 : j + 1 < s.length
        · have w2 : IntKind.i64.wrap (((j + 1 : Nat) : Int) + (1 : Int)) = ((j + 2 : Nat) : Int) := by rw [w64 (by omega) (by omega)]; omega
          have w3 : IntKind.i64.wrap ((j : Int) + (2 : Int)) = ((j + 2 : Nat) : Int) := by rw [w64 (by omega) (by omega)]; omega
          have hp1 : 0 ≤ ((j + 1 : Nat) : Int) ∧ ((j + 1 : Nat) : Int) < (s.length : Int) := ⟨by omega, by omega⟩
          have q1 : (((j + 1 : Nat) : Int) == (s.length : Int)) = false := by rw [beq_eq_false_iff_ne]; omega
          have q2 : decide (((j + 1 : Nat) : Int) ≥ (s.length : Int)) = false := decide_eq_false (by omega)
          simp only [cond_ff q1, q2, cond_ff (show (false : Bool) = false from rfl), req_pos hp1, bAt_lt h3, lt_of]
          by_cases h4 : s[j + 1].toNat = 0
          · simp only [h4, cond_tt t0, w2, w3]; exact ⟨_, ⟨rfl, rfl⟩, by first | exact ho | simp, fun h => by first | exact ⟨_, rfl, by omega⟩ | exact absurd h (by simp)⟩
          · have q3 : (((s[j + 1].toNat : Nat) : Int) == (0 : Int)) = false := by rw [beq_eq_false_iff_ne]; omega
            simp only [cond_ff q3]
            by_cases h5 : s[j + 1].toNat = 255
            · have q4 : (((255 : Nat) : Int) == (255 : Int)) = true := rfl
              have q5 : (((255 : Nat) : Int) != (255 : Int)) = false := rfl
              simp only [h5, cond_tt q4, cond_ff q5]
              rw [req_pos ⟨by omega, by omega⟩, req_pos ⟨by rw [List.length_singleton]; omega, by rw [List.length_singleton]; omega⟩]
              exact more 0 2 _ (by rw [cut1 h1, h2]) (.inr rfl) w2 w3
            · have q4 : (((s[j + 1].toNat : Nat) : Int) == (255 : Int)) = false := by rw [beq_eq_false_iff_ne]; omega
              have q5 : (((s[j + 1].toNat : Nat) : Int) != (255 : Int)) = true := by rw [bne_iff_ne]; omega
              simp only [cond_ff q4, cond_tt q5]; exact ⟨_, ⟨rfl, rfl⟩, by first | exact ho | simp, fun h => by first | exact ⟨_, rfl, by omega⟩ | exact absurd h (by simp)⟩
        · have q1 : (((j + 1 : Nat) : Int) == (s.length : Int)) = true := by rw [beq_iff_eq]; omega
          have q2 : decide (((j + 1 : Nat) : Int) ≥ (s.length : Int)) = true := decide_eq_true (by omega)
          simp only [cond_tt q1, q2]
          exact ⟨_, ⟨rfl, rfl⟩, by first | exact ho | simp, fun h => by first | exact ⟨_, rfl, by omega⟩ | exact absurd h (by simp)⟩
      · have hz : s[j].toNat ≠ 0 := fun h => h2 (UInt8.toNat_inj.1 h)
        have q0 : (((s[j].toNat : Nat) : Int) == (0 : Int)) = false := by rw [beq_eq_false_iff_ne]; omega
        simp only [cond_ff q0, cond_ff (show (false : Bool) = false from rfl), lt_of]
        rw [req_pos ⟨by omega, by omega⟩, req_pos ⟨by rw [List.length_singleton]; omega, by rw [List.length_singleton]; omega⟩]
        simp only [Int.toNat_natCast, UInt8.ofNat_toNat]
        have hm := more s[j] 1 _ (by rw [cut1 h1]) (.inl rfl) w1 w1
        rw [w1] at hm
        exact hm
    · rw [cond_ff (dge (by omega)), cond_tt (decide_eq_true (by omega))]
      exact ⟨_, ⟨rfl, rfl⟩, by first | exact ho | simp, fun h => by first | exact ⟨_, rfl, by omega⟩ | exact absurd h (by simp)⟩
/-- a great fuel -/
theorem big {F0 : Nat} [h : NeZero (F0 / 2000000)] : 2000000 ≤ F0 := by
  have := h.out
  omega
/-- what both read of a text -/
def txt (F0 : Nat) (s : List UInt8) : List UInt8 × Int × Int := (f_num_GetText F0 s).getD ([], 0, 3)
theorem txt_ok {F0 : Nat} [NeZero (F0 / 2000000)] (s : List UInt8) (hs : s.length ≤ 9223372036854775807) : f_num_GetText F0 s = some (txt F0 s) ∧ f_lumref_GetText F0 s = some (txt F0 s) ∧ (txt F0 s).1.length ≤ 1024 ∧ ((txt F0 s).2.2 = 0 → ∃ k : Nat, (txt F0 s).2.1 = (k : Int) ∧ k ≤ s.length) := by
  have hbig := big (F0 := F0)
  obtain ⟨r, ⟨h1, h2⟩, h3, h4⟩ := go s hs F0 [] 0 (by simp) (by simp; omega)
  have e1 : f_num_GetText F0 s = some r := by unfold f_num_GetText; rw [lt_of]; exact h1
  have e : txt F0 s = r := by unfold txt; rw [e1]; rfl
  rw [e]
  exact ⟨e1, h2, h3, h4⟩
end Go.Proofs.YtgmggcpceemnnaaDoor.PTreeText
