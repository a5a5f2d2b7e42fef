/- The head of a pressed text: numbers, lengths, codes, words, bits. No condition. -/
import Derived.Test.YtgmggcpceemnnaaPnSym
import Derived.Test.YtgmggcpceemnnaaPnPut
import Derived.Test.YtgmggcpceemnnaaPnLz
namespace Go.Proofs.Ytgmggcpceemnnaa.PPo
open Go.RowKit Ytgmggcpceemnnaa.En Ytgmggcpceemnnaa Ytgmggcpceemnnaa.Huf
set_option linter.unusedVariables false
set_option linter.unusedSimpArgs false
/-! three numbers -/
theorem getV_b : ∀ s : List UInt8, (PPut.getV s).2.2 = 0 → ∃ v k : Nat, (PPut.getV s).1 = (v : Int) ∧ (PPut.getV s).2.1 = (k : Int) ∧ k ≤ s.length
  | [], h => by cases h
  | b :: t, h => by
    rw [PPut.getV_cons] at h ⊢
    split at h
    · cases h
    · split at h
      · cases h
      · rename_i h1 h2
        split at h
        · cases h
        · rename_i h3
          rw [if_neg h1, if_neg h2, if_neg h3]
          exact ⟨_, _, rfl, rfl, by rw [List.length_cons]; omega⟩
def lim : Nat → Int
  | 0 => 4096
  | 1 => 12288
  | _ => 256
def A3 (A : A3i64) : Prop := (0 ≤ A.e0 ∧ A.e0 ≤ 4096) ∧ (0 ≤ A.e1 ∧ A.e1 ≤ 12288) ∧ (0 ≤ A.e2 ∧ A.e2 ≤ 256)
theorem nums_go {fu : Nat} (hf : 9 ≤ fu) (kc kr : List UInt8 → A3i64 → Option (A3i64 × List UInt8 × Int)) : ∀ (d j k : Nat) (s : List UInt8) (A : A3i64), 3 - j = d → d < k → j ≤ 3 → A3 A →
    (∃ (e : Int) (A' : A3i64), e ≠ 0 ∧ f_press_numbers_L7 kc fu k s A (j : Int) = some (A', [], e) ∧ f_lumref_three_L8 kr fu k s A (j : Int) = some (A', [], e)) ∨
    ∃ (n : Nat) (A' : A3i64), A3 A' ∧ f_press_numbers_L7 kc fu k s A (j : Int) = kc (s.drop n) A' ∧ f_lumref_three_L8 kr fu k s A (j : Int) = kr (s.drop n) A'
  | _, _, 0, _, _, _, hk, _, _ => absurd hk (Nat.not_lt_zero _)
  | d, k, k' + 1, s, A, hd, hk, hj, hA => by
    rw [f_press_numbers_L7, f_lumref_three_L8]
    by_cases h : k < 3
    · have a1 : at? (lA3u64 (A3u64.mk (4096 : Int) (12288 : Int) (256 : Int))) (k : Int) = some (lim k) := by
        match k, h with
        | 0, _ => rfl
        | 1, _ => rfl
        | 2, _ => rfl
      have a2 : at? ([(4096 : Int), (12288 : Int), (256 : Int)]) (k : Int) = some (lim k) := by
        match k, h with
        | 0, _ => rfl
        | 1, _ => rfl
        | 2, _ => rfl
      have a3 : ∃ u, at? (lA3i64 A) (k : Int) = some u := by
        match k, h with
        | 0, _ => exact ⟨_, rfl⟩
        | 1, _ => exact ⟨_, rfl⟩
        | 2, _ => exact ⟨_, rfl⟩
      obtain ⟨u, a3⟩ := a3
      rw [cond_tt (dlt (show (k : Int) < 3 by omega)), cond_tt (dlt (show (k : Int) < (([(4096 : Int), (12288 : Int), (256 : Int)]).length : Int) by show (k : Int) < 3; omega)), a1, a2, opt_of, opt_of, PPut.get_ok s fu hf, PPut.rget_ok s fu hf, opt_of, opt_of]
      obtain ⟨V, hV⟩ : ∃ V, V = PPut.getV s := ⟨_, rfl⟩
      rw [← hV]
      by_cases he : V.2.2 = 0
      · have he' : (V.2.2 != 0) = false := by simpa using he
        obtain ⟨v, n, e1, e2, e3⟩ := getV_b s (by rw [← hV]; exact he)
        rw [← hV] at e1 e2
        rw [cond_ff he', cond_ff he', e1, e2]
        have hlim : lim k ≤ 12288 := by
          match k, h with
          | 0, _ => decide
          | 1, _ => decide
          | 2, _ => decide
        by_cases hv : (v : Int) > lim k
        · rw [cond_tt (decide_eq_true hv), cond_tt (decide_eq_true hv)]
          exact .inl ⟨2, A, by decide, rfl, rfl⟩
        · rw [cond_ff (decide_eq_false hv), cond_ff (decide_eq_false hv), req_pos (by omega), a3, opt_of, opt_of, req_pos (by omega), Int.toNat_natCast, w64 (x := (v : Int)) (by omega) (by omega), wsucc (by omega)]
          have hA' : A3 (setA3i64 A (k : Int) (v : Int)) := by
            obtain ⟨q0, q1, q2⟩ := hA
            match k, h, hv with
            | 0, _, hv => exact ⟨⟨by show (0 : Int) ≤ v; omega, by show (v : Int) ≤ 4096; exact Int.not_lt.1 hv⟩, q1, q2⟩
            | 1, _, hv => exact ⟨q0, ⟨by show (0 : Int) ≤ v; omega, by show (v : Int) ≤ 12288; exact Int.not_lt.1 hv⟩, q2⟩
            | 2, _, hv => exact ⟨q0, q1, ⟨by show (0 : Int) ≤ v; omega, by show (v : Int) ≤ 256; exact Int.not_lt.1 hv⟩⟩
          rcases nums_go hf kc kr (d - 1) (k + 1) k' (s.drop n) _ (by omega) (by omega) (by omega) hA' with h1 | ⟨m, A', b1, b2, b3⟩
          · exact .inl h1
          · exact .inr ⟨n + m, A', b1, by rw [b2, List.drop_drop], by rw [b3, List.drop_drop]⟩
      · have he' : (V.2.2 != 0) = true := by simpa using he
        rw [cond_tt he', cond_tt he']
        exact .inl ⟨_, A, he, rfl, rfl⟩
    · rw [cond_ff (dge (show (3 : Int) ≤ k by omega)), cond_ff (dge (show (([(4096 : Int), (12288 : Int), (256 : Int)]).length : Int) ≤ k by show (3 : Int) ≤ k; omega))]
      exact .inr ⟨0, A, hA, rfl, rfl⟩
/-! the lengths -/
theorem bAt_drop (s : List UInt8) (a j : Nat) : En.bAt (s.drop a) (j : Int) = En.bAt s ((a + j : Nat) : Int) := by
  unfold En.bAt
  rw [Int.toNat_natCast, Int.toNat_natCast, List.getD_eq_getElem?_getD, List.getD_eq_getElem?_getD, List.getElem?_drop]
theorem bAt_b (s : List UInt8) (j : Int) : 0 ≤ En.bAt s j ∧ En.bAt s j ≤ 255 := by
  unfold En.bAt
  have := (s.getD j.toNat 0).toNat_lt
  omega
def okOut (out : List Int) : Prop := out.length = 256 ∧ ∀ x ∈ out, 0 ≤ x ∧ x ≤ 48
theorem okOut_set {out : List Int} (h : okOut out) (i : Nat) {v : Int} (hv : 0 ≤ v ∧ v ≤ 48) : okOut (out.set i v) :=
  ⟨by rw [List.length_set]; exact h.1, fun x hx => by
    rcases List.mem_or_eq_of_mem_set hx with hx | hx
    · exact h.2 x hx
    · rw [hx]; exact hv⟩
theorem lens_go (s : List UInt8) (hs : s.length ≤ 4000000) (n : Nat) (hn : n ≤ 256) (r12 : A3i64 × List UInt8 × Int) (h1 : r12.1.e2 = (n : Int)) (h2 : r12.2.1 = s) (kc : List UInt8 → List Int → Option (List Int × List UInt8 × Int)) (kr : List Int → Option (List UInt8 × Int)) :
    ∀ (d i k : Nat) (out : List Int) (last : Int), n - i = d → d < k → i ≤ n → 2 * i ≤ s.length → okOut out → last = (if i = 0 then -1 else En.bAt s ((2 * i - 2 : Nat) : Int)) →
    (∃ e : Int, e ≠ 0 ∧ f_press_lengths_L7 (n : Int) kc k (s.drop (2 * i)) out last (i : Int) = some ([], [], e) ∧ f_lumref_Open_L85 r12 kr k out (i : Int) = some ([], e)) ∨
    ∃ out', okOut out' ∧ 2 * n ≤ s.length ∧ f_press_lengths_L7 (n : Int) kc k (s.drop (2 * i)) out last (i : Int) = kc (s.drop (2 * n)) out' ∧ f_lumref_Open_L85 r12 kr k out (i : Int) = kr out'
  | _, _, 0, _, _, _, hk, _, _, _, _ => absurd hk (Nat.not_lt_zero _)
  | d, i, k + 1, out, last, hd, hk, hi, h2i, ho, hlast => by
    rw [f_press_lengths_L7, f_lumref_Open_L85, h1, h2]
    by_cases h : i < n
    · rw [cond_tt (dlt (show (i : Int) < n by omega)), cond_tt (dlt (show (i : Int) < n by omega)), List.length_drop, w64 (x := 2 * (i : Int)) (by omega) (by omega), w64 (x := 2 * (i : Int) + 2) (by omega) (by omega)]
      by_cases hsh : s.length < 2 * i + 2
      · rw [cond_tt (dlt (by omega)), cond_tt (dlt (by omega))]
        exact .inl ⟨3, by decide, rfl, rfl⟩
      · rw [cond_ff (dge (by omega)), cond_ff (dge (by omega)), req_pos (by omega), req_pos (by omega), lt_of, lt_of, w64 (x := 2 * (i : Int) + 1) (by omega) (by omega), w64 (x := 2 * (i : Int) - 2) (by omega) (by omega)]
        have q0 : En.bAt (s.drop (2 * i)) (0 : Int) = En.bAt s ((2 * i : Nat) : Int) := bAt_drop s (2 * i) 0
        have q1 : En.bAt (s.drop (2 * i)) (1 : Int) = En.bAt s ((2 * i + 1 : Nat) : Int) := bAt_drop s (2 * i) 1
        rw [q0, q1, show 2 * (i : Int) = ((2 * i : Nat) : Int) by omega, show ((2 * i : Nat) : Int) + 1 = ((2 * i + 1 : Nat) : Int) by omega]
        obtain ⟨b, hb⟩ : ∃ b, b = En.bAt s ((2 * i : Nat) : Int) := ⟨_, rfl⟩
        obtain ⟨m, hm⟩ : ∃ m, m = En.bAt s ((2 * i + 1 : Nat) : Int) := ⟨_, rfl⟩
        have bb := bAt_b s ((2 * i : Nat) : Int)
        have bm := bAt_b s ((2 * i + 1 : Nat) : Int)
        rw [← hb] at bb
        rw [← hm] at bm
        rw [← hb, ← hm, w64 (x := b) (by omega) (by omega), w64 (x := m) (by omega) (by omega)]
        have r1 : 0 ≤ ((2 * i : Nat) : Int) ∧ ((2 * i : Nat) : Int) < (s.length : Int) := by omega
        have r2 : 0 ≤ ((2 * i + 1 : Nat) : Int) ∧ ((2 * i + 1 : Nat) : Int) < (s.length : Int) := by omega
        simp only [req_pos r1, req_pos r2]
        have hlt : b.toNat < out.length := by rw [ho.1]; omega
        obtain ⟨u, hu⟩ : ∃ u, at? out b = some u := ⟨_, at_int bb.1 hlt⟩
        have bad : ∀ {C : Option (List Int × List UInt8 × Int)} {R : Option (List UInt8 × Int)}, C = some ([], [], 4) → R = some ([], 4) →
            ((∃ e : Int, e ≠ 0 ∧ C = some ([], [], e) ∧ R = some ([], e)) ∨ ∃ out', okOut out' ∧ 2 * n ≤ s.length ∧ C = kc (s.drop (2 * n)) out' ∧ R = kr out') := fun hC hR => .inl ⟨4, by decide, hC, hR⟩
        have good : m ≥ 1 → m ≤ 48 → ∀ {C : Option (List Int × List UInt8 × Int)} {R : Option (List UInt8 × Int)},
            C = f_press_lengths_L7 (n : Int) kc k (s.drop (2 * (i + 1))) (out.set b.toNat m) b ((i + 1 : Nat) : Int) → R = f_lumref_Open_L85 r12 kr k (out.set b.toNat m) ((i + 1 : Nat) : Int) →
            ((∃ e : Int, e ≠ 0 ∧ C = some ([], [], e) ∧ R = some ([], e)) ∨ ∃ out', okOut out' ∧ 2 * n ≤ s.length ∧ C = kc (s.drop (2 * n)) out' ∧ R = kr out') := by
          intro g1 g2 C R hC hR
          rw [hC, hR]
          exact lens_go s hs n hn r12 h1 h2 kc kr (d - 1) (i + 1) k _ b (by omega) (by omega) (by omega) (by omega) (okOut_set ho _ (by omega)) (by rw [if_neg (by omega), hb, show 2 * (i + 1) - 2 = 2 * i by omega])
        have ec : ∀ (f : Option (List Int × List UInt8 × Int)), (req (0 ≤ (2 : Int) ∧ (2 : Int) ≤ ((s.length - 2 * i : Nat) : Int)) f) = f := fun f => req_pos (by omega)
        have ed : (s.drop (2 * i)).drop ((2 : Int)).toNat = s.drop (2 * (i + 1)) := by
          rw [List.drop_drop]; congr 1
        simp only [ec, hu, opt_of, ed, wsucc (show i < 9223372036854775807 by omega)]
        by_cases hi0 : i = 0
        · subst hi0
          have hl : last = -1 := by rw [hlast, if_pos rfl]
          rw [hl, cond_ff (decide_eq_false (show ¬ b ≤ -1 by omega)), cond_ff (decide_eq_false (show ¬ ((0 : Nat) : Int) > 0 by omega))]
          by_cases m0 : m = 0
          · rw [cond_tt (dlt (show m < 1 by omega)), cond_tt (show (m == 0) = true by simpa using m0)]
            exact bad rfl rfl
          · rw [cond_ff (dge (show (1 : Int) ≤ m by omega)), cond_ff (beq_false_of_ne m0)]
            by_cases m48 : m > 48
            · rw [decide_eq_true m48]; exact bad rfl rfl
            · rw [decide_eq_false m48]; exact good (by omega) (by omega) rfl rfl
        · have hl : last = En.bAt s ((2 * i - 2 : Nat) : Int) := by rw [hlast, if_neg hi0]
          have r3 : 0 ≤ ((2 * i : Nat) : Int) - 2 ∧ ((2 * i : Nat) : Int) - 2 < (s.length : Int) := by omega
          rw [cond_tt (decide_eq_true (show (i : Int) > 0 by omega)), req_pos r3, show ((2 * i : Nat) : Int) - 2 = ((2 * i - 2 : Nat) : Int) by omega, ← hl]
          by_cases hbl : b ≤ last
          · rw [cond_tt (decide_eq_true hbl), cond_tt (decide_eq_true hbl)]
            exact bad rfl rfl
          · rw [cond_ff (decide_eq_false hbl), cond_ff (decide_eq_false hbl)]
            by_cases m0 : m = 0
            · rw [cond_tt (dlt (show m < 1 by omega)), cond_tt (show (m == 0) = true by simpa using m0)]
              exact bad rfl rfl
            · rw [cond_ff (dge (show (1 : Int) ≤ m by omega)), cond_ff (beq_false_of_ne m0)]
              by_cases m48 : m > 48
              · rw [decide_eq_true m48]; exact bad rfl rfl
              · rw [decide_eq_false m48]; exact good (by omega) (by omega) rfl rfl
    · have : i = n := by omega
      subst this
      rw [cond_ff (dge (Int.le_refl _)), cond_ff (dge (Int.le_refl _))]
      exact .inr ⟨out, ho, h2i, rfl, rfl⟩
end Go.Proofs.Ytgmggcpceemnnaa.PPo
