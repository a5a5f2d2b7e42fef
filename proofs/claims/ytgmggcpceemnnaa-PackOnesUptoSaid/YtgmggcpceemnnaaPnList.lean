/- The directory of a pack: PackLists. No condition. -/
import Derived.Test.YtgmggcpceemnnaaPnGo
namespace Go.Proofs.Ytgmggcpceemnnaa.PPackLists
open Go.RowKit Ytgmggcpceemnnaa.En Ytgmggcpceemnnaa Num Mix PPut CN
open Go.Lib hiding cut
set_option linter.unusedVariables false
set_option linter.unusedSimpArgs false
theorem list_ok {F : List UInt8 → A8u8} (hF : IdF F) (a0 : List UInt8) (hs : a0.length ≤ 9223372036854775807) (fu : Nat) (hfu : 1000 + a0.length ≤ fu) : ∃ l e, (∀ u ∈ l, Wf u) ∧ l.length ≤ 40 ∧ f_pack_List fu a0 = some (l, e) ∧ f_lumref_PackList fu a0 = some (l, e) := by
  unfold f_pack_List f_lumref_PackList
  by_cases h10 : a0.length < 10
  · rw [decide_eq_true (show (a0.length : Int) < 10 by omega), cond_tt rfl, cond_tt rfl]
    exact ⟨[], 3, by simp, by simp, rfl, rfl⟩
  rw [decide_eq_false (show ¬ (a0.length : Int) < 10 by omega), cond_ff rfl, cond_ff rfl]
  have w1 : IntKind.i64.wrap ((a0.length : Int) - (8 : Int)) = ((a0.length - 8 : Nat) : Int) := by rw [show (a0.length : Int) - (8 : Int) = ((a0.length - 8 : Nat) : Int) by omega, iw (by omega)]
  have wA : IntKind.i64.wrap ((a0.length : Int) - (10 : Int)) = ((a0.length - 10 : Nat) : Int) := by rw [show (a0.length : Int) - (10 : Int) = ((a0.length - 10 : Nat) : Int) by omega, iw (by omega)]
  have wB : IntKind.i64.wrap (((a0.length - 8 : Nat) : Int) - (2 : Int)) = ((a0.length - 10 : Nat) : Int) := by rw [show ((a0.length - 8 : Nat) : Int) - (2 : Int) = ((a0.length - 10 : Nat) : Int) by omega, iw (by omega)]
  have wC : IntKind.i64.wrap (((a0.length - 8 : Nat) : Int) - (1 : Int)) = ((a0.length - 9 : Nat) : Int) := by rw [show ((a0.length - 8 : Nat) : Int) - (1 : Int) = ((a0.length - 9 : Nat) : Int) by omega, iw (by omega)]
  have wD : IntKind.i64.wrap (((a0.length - 10 : Nat) : Int) + (1 : Int)) = ((a0.length - 9 : Nat) : Int) := by rw [show ((a0.length - 10 : Nat) : Int) + (1 : Int) = ((a0.length - 9 : Nat) : Int) by omega, iw (by omega)]
  have hb0 := PPut.bAt_lt (s := a0) (j := a0.length - 10) (by omega)
  have hb1 := PPut.bAt_lt (s := a0) (j := a0.length - 9) (by omega)
  have l0 := (a0[a0.length - 10]'(by omega)).toNat_lt
  have l1 := (a0[a0.length - 9]'(by omega)).toNat_lt
  obtain ⟨b0, hb0e⟩ : ∃ b0 : Nat, b0 = (a0[a0.length - 10]'(by omega)).toNat := ⟨_, rfl⟩
  obtain ⟨b1, hb1e⟩ : ∃ b1 : Nat, b1 = (a0[a0.length - 9]'(by omega)).toNat := ⟨_, rfl⟩
  rw [← hb0e] at hb0 l0
  rw [← hb1e] at hb1 l1
  have i0 := iw (n := b0) (by omega)
  have i1 := iw (n := b1) (by omega)
  have sh : ((b1 : Nat) : Int) * 2 ^ min ((8 : Int)).toNat (IntKind.bits .i64) = ((b1 * 2 ^ 8 : Nat) : Int) := shl_nat (j := 8) (m := 8) (k := .i64) rfl (by decide)
  have nJ : bits .or .i64 ((b0 : Nat) : Int) (IntKind.i64.wrap (((b1 : Nat) : Int) * 2 ^ min ((8 : Int)).toNat (IntKind.bits .i64))) = ((b0 + 256 * b1 : Nat) : Int) := by
    rw [sh, iw (by omega)]
    exact or8 l0 l1
  have nR : IntKind.i64.wrap (((b0 : Nat) : Int) + (IntKind.i64.wrap ((256 : Int) * ((b1 : Nat) : Int)))) = ((b0 + 256 * b1 : Nat) : Int) := by
    rw [show (256 : Int) * ((b1 : Nat) : Int) = ((256 * b1 : Nat) : Int) by omega, iw (by omega), ← Int.natCast_add, iw (by omega)]
  obtain ⟨n, hn⟩ : ∃ n, n = b0 + 256 * b1 := ⟨_, rfl⟩
  rw [← hn] at nJ nR
  have hdl : (a0.drop (a0.length - 8)).length = 8 := by rw [List.length_drop]; omega
  have q1 : 0 ≤ ((a0.length - 8 : Nat) : Int) ∧ ((a0.length - 8 : Nat) : Int) ≤ (a0.length : Int) := ⟨by omega, by omega⟩
  have q2 : (a0.drop (a0.length - 8)).length ≤ 9223372036854775807 := by omega
  have q3 : 8 ≤ (a0.drop (a0.length - 8)).length := by omega
  have q4 : 0 ≤ ((a0.length - 10 : Nat) : Int) ∧ ((a0.length - 10 : Nat) : Int) < (a0.length : Int) := ⟨by omega, by omega⟩
  have q5 : 0 ≤ ((a0.length - 9 : Nat) : Int) ∧ ((a0.length - 9 : Nat) : Int) < (a0.length : Int) := ⟨by omega, by omega⟩
  obtain ⟨m1, m2⟩ := hF fu (a0.take (a0.length - 8)) (by omega) (by rw [List.length_take]; omega) (by rw [List.length_take]; omega)
  obtain ⟨X, hX⟩ : ∃ X, X = F (a0.take (a0.length - 8)) := ⟨_, rfl⟩
  rw [← hX] at m1 m2
  simp only [w1, wA, wB, wC, wD, hb0, hb1, i0, i1, nJ, nR, Int.toNat_natCast, req_pos q1, req_pos q2, req_pos q3, req_pos q4, req_pos q5, m1, m2, opt_of]
  have hse := sum_eq X _ hdl
  rw [hse]
  by_cases hsum : a0.drop (a0.length - 8) = lA8u8 X
  · have s1 : (!(a0.drop (a0.length - 8) == lA8u8 X)) = false := by rw [hsum, beq_self_eq_true]; rfl
    have s2 : (!(lA8u8 X == a0.drop (a0.length - 8))) = false := by rw [hsum, beq_self_eq_true]; rfl
    rw [s1, s2, cond_ff rfl, cond_ff rfl]
    by_cases hbig : n > a0.length - 10
    · rw [decide_eq_true (show ((n : Nat) : Int) > ((a0.length - 10 : Nat) : Int) by omega), cond_tt rfl, cond_tt rfl]
      exact ⟨[], 4, by simp, by simp, rfl, rfl⟩
    · obtain ⟨B, hBe⟩ : ∃ B, B = a0.length - 10 - n := ⟨_, rfl⟩
      have wE : IntKind.i64.wrap (((a0.length - 10 : Nat) : Int) - ((n : Nat) : Int)) = (B : Int) := by rw [show ((a0.length - 10 : Nat) : Int) - ((n : Nat) : Int) = (B : Int) by omega, iw (by omega)]
      have q6 : 0 ≤ (B : Int) ∧ (B : Int) ≤ ((a0.length - 10 : Nat) : Int) ∧ ((a0.length - 10 : Nat) : Int) ≤ (a0.length : Int) := ⟨by omega, by omega, by omega⟩
      have q7 : 0 ≤ (B : Int) ∧ (B : Int) ≤ (a0.length : Int) := ⟨by omega, by omega⟩
      have hB : (((a0.take ((IntKind.i64.wrap ((IntKind.i64.wrap ((IntKind.i64.wrap ((a0.length : Int) - (8 : Int))) - (2 : Int))) - (IntKind.i64.wrap ((IntKind.i64.wrap (En.bAt a0 (IntKind.i64.wrap ((IntKind.i64.wrap ((a0.length : Int) - (8 : Int))) - (2 : Int))))) + (IntKind.i64.wrap ((256 : Int) * (IntKind.i64.wrap (En.bAt a0 (IntKind.i64.wrap ((IntKind.i64.wrap ((a0.length : Int) - (8 : Int))) - (1 : Int)))))))))))).toNat).length : Int)) = (B : Int) := by
        simp only [w1, wB, wC, hb0, hb1, i0, i1, nR, wE, Int.toNat_natCast, List.length_take]
        omega
      have hTB : ((a0.take B).length : Int) = (B : Int) := by rw [List.length_take]; omega
      rw [decide_eq_false (show ¬ ((n : Nat) : Int) > ((a0.length - 10 : Nat) : Int) by omega), cond_ff rfl, cond_ff rfl]
      simp only [wE, req_pos q6, req_pos q7, Int.toNat_natCast]
      obtain ⟨dir, hdir⟩ : ∃ dir, dir = cut a0 (B : Int) ((a0.length - 10 : Nat) : Int) := ⟨_, rfl⟩
      have hdirl : dir.length ≤ 9223372036854775807 := by rw [hdir, cut_nat, List.length_drop, List.length_take]; omega
      rw [← hdir]
      unfold f_pack_directory
      rw [get_ok dir fu (by omega), rget_ok dir fu (by omega), opt_of, opt_of]
      by_cases he : (getV dir).2.2 = 0
      · obtain ⟨v, k, hg, hk, _, _, _, _⟩ := getV_canon dir he
        rw [hg]
        dsimp only
        have z0 : ((0 : Int) != 0) = false := rfl
        rw [cond_ff z0, cond_ff z0]
        by_cases hv : v ≤ 40
        · rw [decide_eq_false (show ¬ (v : Int) > 40 by omega), cond_ff rfl, cond_ff rfl, req_pos ⟨by omega, by omega⟩, req_pos ⟨by omega, by omega⟩]
          simp only [lt_of]
          rw [Int.toNat_natCast, hTB]
          rcases go a0 B hB v hv ((v : Int), (k : Int), 0) ((v : Int), (k : Int), 0) rfl rfl (fun (j7s0 : (List UInt8)) (j7i9 : Int) (j7x11 : (List S_api_Entry)) => (bif (!(j7s0 == ([] : List UInt8))) then (bif true then (some (([] : List S_api_Entry), (4 : Int))) else (some (j7x11, (0 : Int)))) else (bif (j7i9 != (B : Int)) then (some (([] : List S_api_Entry), (4 : Int))) else (some (j7x11, (0 : Int))))))
            (fun (j19s8 : (List UInt8)) (j19x12 : (List S_api_Entry)) (j19i13 : Int) => (bif (decide ((j19s8.length : Int) > (0 : Int))) then (bif true then (some (([] : List S_api_Entry), (4 : Int))) else (some (j19x12, (0 : Int)))) else (bif (decide (j19i13 < (B : Int))) then (some (([] : List S_api_Entry), (4 : Int))) else (some (j19x12, (0 : Int)))))) fu (by omega) v 0 fu fu (dir.drop k) 0 [] [] (by omega) (by omega) (by omega) rfl (by omega) (by omega) (fun id => rfl) (by simp) (by rw [List.length_drop]; omega) with ⟨s', ys, at', y1, y2, y3, c1, c2⟩ | ⟨e, c1, c2⟩
          · have fin : ∃ l e, (∀ u ∈ l, Wf u) ∧ l.length ≤ 40 ∧ (bif (!(s' == ([] : List UInt8))) then (bif true then (some (([] : List S_api_Entry), (4 : Int))) else (some (ys, (0 : Int)))) else (bif (((at' : Nat) : Int) != (B : Int)) then (some (([] : List S_api_Entry), (4 : Int))) else (some (ys, (0 : Int))))) = some (l, e) ∧
                (bif (decide ((s'.length : Int) > (0 : Int))) then (bif true then (some (([] : List S_api_Entry), (4 : Int))) else (some (ys, (0 : Int)))) else (bif (decide (((at' : Nat) : Int) < (B : Int))) then (some (([] : List S_api_Entry), (4 : Int))) else (some (ys, (0 : Int))))) = some (l, e) := by
              by_cases hs' : s' = []
              · subst hs'
                by_cases hat : at' = B
                · subst hat
                  refine ⟨ys, 0, y1, y2, ?_, ?_⟩
                  · rw [show ((([] : List UInt8) == [])) = true from rfl, bne_self_eq_false]; rfl
                  · rw [decide_eq_false (show ¬ ((at' : Nat) : Int) < ((at' : Nat) : Int) by omega)]; rfl
                · refine ⟨[], 4, by simp, by simp, ?_, ?_⟩
                  · rw [show (((at' : Nat) : Int) != (B : Int)) = true from by rw [bne_iff_ne]; omega]; rfl
                  · rw [decide_eq_true (show ((at' : Nat) : Int) < (B : Int) by omega)]; rfl
              · have hp : 0 < s'.length := List.length_pos_iff.2 hs'
                refine ⟨[], 4, by simp, by simp, ?_, ?_⟩
                · rw [show (!(s' == ([] : List UInt8))) = true from by simpa using hs']; rfl
                · rw [decide_eq_true (show (s'.length : Int) > 0 by omega)]; rfl
            obtain ⟨l, e, f1, f2, f3, f4⟩ := fin
            refine ⟨l, e, f1, f2, ?_, ?_⟩
            · refine Eq.trans (congrArg (fun o => opt o fun (r16 : ((List S_api_Entry) × Int)) => some (r16.1, r16.2)) (c1.trans f3)) ?_
              rfl
            · exact c2.trans f4
          · refine ⟨[], e, by simp, by simp, ?_, ?_⟩
            · refine Eq.trans (congrArg (fun o => opt o fun (r16 : ((List S_api_Entry) × Int)) => some (r16.1, r16.2)) c1) ?_
              rfl
            · exact c2
        · rw [decide_eq_true (show (v : Int) > 40 by omega), cond_tt rfl, cond_tt rfl]
          exact ⟨[], 2, by simp, by simp, rfl, rfl⟩
      · have z1 : ((getV dir).2.2 != 0) = true := by simpa using he
        rw [cond_tt z1, cond_tt z1]
        exact ⟨[], _, by simp, by simp, rfl, rfl⟩
  · have s1 : (!(a0.drop (a0.length - 8) == lA8u8 X)) = true := by simpa using hsum
    have s2 : (!(lA8u8 X == a0.drop (a0.length - 8))) = true := by simpa using fun e : lA8u8 X = a0.drop (a0.length - 8) => hsum e.symm
    rw [s1, s2, cond_tt rfl, cond_tt rfl]
    exact ⟨[], 6, by simp, by simp, rfl, rfl⟩
end Go.Proofs.Ytgmggcpceemnnaa.PPackLists
