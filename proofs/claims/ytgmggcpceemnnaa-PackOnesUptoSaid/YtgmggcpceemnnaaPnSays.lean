/- A pressed text is opened: the whole: PressOpens. No condition. -/
import Derived.Test.YtgmggcpceemnnaaPnJoin
namespace Go.Proofs.Ytgmggcpceemnnaa.PPo
open Go.RowKit Ytgmggcpceemnnaa.En Ytgmggcpceemnnaa Ytgmggcpceemnnaa.Huf
set_option linter.unusedVariables false
set_option linter.unusedSimpArgs false
def kcP (r2 : A3i64 × List UInt8 × Int) (fu : Nat) : List UInt8 → Int → List UInt8 → Option (List UInt8 × Int) := (fun (j19s11_0 : (List UInt8)) (j19i11_1 : Int) (j19x12 : (List UInt8)) => (opt (f___press_reader__rest fu (S_press_reader.mk j19s11_0 j19i11_1)) fun (r22 : (Bool × S_press_reader)) => (bif (!r22.1) then (some (([] : List UInt8), (4 : Int))) else (opt (f_lz_Read fu j19x12) fun (r25 : ((List S_api_Token) × Int)) => (bif (r25.2 != (0 : Int)) then (some (([] : List UInt8), r25.2)) else (opt (f_lz_Expand fu r25.1 r2.1.e0) fun (r29 : ((List UInt8) × Int)) => (bif (r29.2 != (0 : Int)) then (some (([] : List UInt8), r29.2)) else (bif (decide ((r29.1.length : Int) < r2.1.e0)) then (some (([] : List UInt8), (4 : Int))) else (some (r29.1, (0 : Int)))))))))))
def kkM (r2 : A3i64 × List UInt8 × Int) (r6 : List Int × List UInt8 × Int) (fu : Nat) : CM → Option (List UInt8 × Int) := (fun (j14xm8 : (List (S_press_code × Int))) => (lt (fun (j17i11_1 : Int) => (lt (kcP r2 fu) fun (kk20 : (List UInt8) → Int → (List UInt8) → Option ((List UInt8) × Int)) => (f_press_open_L34 r2 kk20 fu fu j14xm8 r6.2.1 j17i11_1 ([] : List UInt8) (0 : Int)))) fun (kk18 : Int → Option ((List UInt8) × Int)) => (bif (!(r6.2.1 == ([] : List UInt8))) then (kk18 (8 : Int)) else (kk18 (0 : Int)))))
def inner (fu : Nat) (t : List UInt8) : Option (List UInt8 × Int) := (opt (f_lumref_three fu t) fun (r12 : (A3i64 × (List UInt8) × Int)) => (bif (r12.2.2 != (0 : Int)) then (some (([] : List UInt8), r12.2.2)) else (req (0 ≤ (256 : Int) ∧ 8 * (256 : Int) ≤ 281474976710656 ∧ (256 : Int) ≤ 9223372036854775807) (lt (fun (j17x6 : (List Int)) => (req (0 ≤ (IntKind.i64.wrap ((2 : Int) * r12.1.e2)) ∧ (IntKind.i64.wrap ((2 : Int) * r12.1.e2)) ≤ (r12.2.1.length : Int)) (opt (f_lumref_Codes fu j17x6) fun (r21 : ((List Int) × Int)) => (bif (r21.2 != (0 : Int)) then (some (([] : List UInt8), r21.2)) else (req (0 ≤ (256 : Int) ∧ 16 * (256 : Int) ≤ 281474976710656 ∧ (256 : Int) ≤ 9223372036854775807) (lt (fun (j26x9 : (List (List UInt8))) => (lt (fun (j29x12_0 : (List UInt8)) => (opt (f_lumref_signsOf fu j29x12_0 j26x9 r12.1.e1) fun (r32 : ((List UInt8) × Int × Int)) => (bif (r32.2.2 != (0 : Int)) then (some (([] : List UInt8), r32.2.2)) else (req (0 ≤ r32.2.1 ∧ r32.2.1 ≤ (j29x12_0.length : Int)) (lt (fun (j35b173 : Bool) => (bif j35b173 then (some (([] : List UInt8), (4 : Int))) else (opt (f_lumref_ReadTokens fu r32.1) fun (r39 : ((List S_api_Token) × Int)) => (bif (r39.2 != (0 : Int)) then (some (([] : List UInt8), r39.2)) else (opt (f_lumref_Expand fu r39.1 r12.1.e0) fun (r43 : ((List UInt8) × Int)) => (lt (fun (j44b197 : Bool) => (bif j44b197 then (some (([] : List UInt8), (4 : Int))) else (some (r43.1, r43.2)))) fun (kk45 : Bool → Option ((List UInt8) × Int)) => (bif (r43.2 == (0 : Int)) then (kk45 (decide ((r43.1.length : Int) < r12.1.e0))) else (kk45 false)))))))) fun (kk36 : Bool → Option ((List UInt8) × Int)) => (bif (decide (((j29x12_0.drop (r32.2.1).toNat).length : Int) > (7 : Int))) then (kk36 true) else (opt (f_strings_Contains fu (j29x12_0.drop (r32.2.1).toNat) ([49] : List UInt8)) fun (r50 : Bool) => (kk36 r50)))))))) fun (kk30 : (List UInt8) → Option ((List UInt8) × Int)) => (req ((r12.2.1.drop ((IntKind.i64.wrap ((2 : Int) * r12.1.e2))).toNat).length ≤ 9223372036854775807) (f_lumref_Open_L55 r12 kk30 fu fu ([] : List UInt8) (0 : Int))))) fun (kk27 : (List (List UInt8)) → Option ((List UInt8) × Int)) => (f_lumref_Open_L67 j17x6 r21 kk27 fu fu (List.replicate ((256 : Int)).toNat ([] : (List UInt8))) (0 : Int)))))))) fun (kk18 : (List Int) → Option ((List UInt8) × Int)) => (f_lumref_Open_L85 r12 kk18 fu (List.replicate ((256 : Int)).toNat 0) (0 : Int))))))

theorem nums_top (t : List UInt8) {fu : Nat} (hf : 9 ≤ fu) :
    (∃ (e : Int) (A' : A3i64), e ≠ 0 ∧ f_press_numbers fu t = some (A', [], e) ∧ f_lumref_three fu t = some (A', [], e)) ∨
    ∃ (n : Nat) (A' : A3i64), A3 A' ∧ f_press_numbers fu t = some (A', t.drop n, 0) ∧ f_lumref_three fu t = some (A', t.drop n, 0) := by
  unfold f_press_numbers f_lumref_three
  rw [lt_of, lt_of]
  exact nums_go hf _ _ 3 0 fu t ⟨0, 0, 0⟩ rfl (by omega) (by omega) ⟨by decide, by decide, by decide⟩
theorem ok_zero : okOut (List.replicate 256 (0 : Int)) := ⟨List.length_replicate, fun x hx => by rw [List.eq_of_mem_replicate hx]; decide⟩
theorem lens_top (s : List UInt8) (hs : s.length ≤ 4000000) (m : Nat) (hm : m ≤ 256) (r12 : A3i64 × List UInt8 × Int) (h1 : r12.1.e2 = (m : Int)) (h2 : r12.2.1 = s) {fu : Nat} (hf : 1000 ≤ fu) :
    (∃ e : Int, e ≠ 0 ∧ f_press_lengths fu s (m : Int) = some ([], [], e) ∧ ∀ kr, f_lumref_Open_L85 r12 kr fu (List.replicate 256 0) 0 = some ([], e)) ∨
    ∃ out, okOut out ∧ 2 * m ≤ s.length ∧ f_press_lengths fu s (m : Int) = some (out, s.drop (2 * m), 0) ∧ ∀ kr, f_lumref_Open_L85 r12 kr fu (List.replicate 256 0) 0 = kr out := by
  have hp : f_press_lengths fu s (m : Int) = f_press_lengths_L7 (m : Int) (fun j3s0 j3x7 => some (j3x7, j3s0, (0 : Int))) fu s (List.replicate 256 0) (-1) 0 := by
    unfold f_press_lengths
    rw [req_pos (by decide)]
    rfl
  have hg := fun kr => lens_go s hs m hm r12 h1 h2 (fun j3s0 j3x7 => some (j3x7, j3s0, (0 : Int))) kr m 0 fu (List.replicate 256 0) (-1) rfl (by omega) (Nat.zero_le _) (Nat.zero_le _) ok_zero rfl
  simp only [Nat.mul_zero, List.drop_zero, show ((0 : Nat) : Int) = 0 from rfl] at hg
  rw [← hp] at hg
  rcases hg (fun _ => none) with ⟨e, e0, e1, -⟩ | ⟨out, o1, o2, o3, -⟩
  · refine .inl ⟨e, e0, e1, fun kr => ?_⟩
    rcases hg kr with ⟨e', -, e2, e3⟩ | ⟨out, -, -, e2, -⟩
    · rw [e1] at e2
      rw [e3]
      simp only [Option.some.injEq, Prod.mk.injEq] at e2
      rw [e2.2.2]
    · rw [e1] at e2
      simp only [Option.some.injEq, Prod.mk.injEq] at e2
      exact absurd e2.2.2 e0
  · refine .inr ⟨out, o1, o2, o3, fun kr => ?_⟩
    rcases hg kr with ⟨e', e0, e2, e3⟩ | ⟨out', -, -, e2, e3⟩
    · rw [o3] at e2
      simp only [Option.some.injEq, Prod.mk.injEq] at e2
      exact absurd e2.2.2.symm e0
    · rw [o3] at e2
      simp only [Option.some.injEq, Prod.mk.injEq] at e2
      rw [e3, e2.1]
theorem wd_zero (l : List Nat) : wd l 0 = List.replicate 256 [] := by
  unfold wd
  rw [List.eq_replicate_iff]
  refine ⟨by simp, fun b hb => ?_⟩
  obtain ⟨j, -, hj⟩ := List.mem_map.1 hb
  rw [← hj, if_neg (Nat.not_lt_zero _)]
theorem map_zero (l : List Nat) : MapOk l 0 [] := ⟨fun i hi => absurd hi (Nat.not_lt_zero _), fun x v hx => by simp [gget] at hx⟩
theorem one_ok (t : List UInt8) (ht : t.length ≤ 2000000) {fu : Nat} (hf : 10000000 ≤ fu) : ∃ v, f_press_open fu t = some v ∧ inner fu t = some v ∧ v.1.length ≤ 4096 := by
  unfold f_press_open inner
  rcases nums_top t (show 9 ≤ fu by omega) with ⟨e, A, e0, e1, e2⟩ | ⟨n, A, hA, e1, e2⟩
  · rw [e1, e2, opt_of, opt_of]
    dsimp only
    rw [cond_tt (by simpa using e0), cond_tt (by simpa using e0)]
    exact ⟨_, rfl, rfl, Nat.zero_le _⟩
  · rw [e1, e2, opt_of, opt_of]
    dsimp only
    rw [cond_ff (by decide), cond_ff (by decide)]
    generalize hs : t.drop n = s
    have hsl : s.length ≤ 2000000 := by rw [← hs, List.length_drop]; omega
    obtain ⟨⟨a1, a2⟩, ⟨b1, b2⟩, ⟨c1, c2⟩⟩ := hA
    obtain ⟨m, hm⟩ := Int.eq_ofNat_of_zero_le c1
    obtain ⟨q, hq⟩ := Int.eq_ofNat_of_zero_le b1
    rcases lens_top s (by omega) m (by omega) (A, s, 0) hm rfl (show 1000 ≤ fu by omega) with ⟨e, e0, l1, l2⟩ | ⟨out, ho, hml, l1, l2⟩
    · rw [hm, l1, opt_of, req_pos (by decide), lt_of]
      dsimp only
      rw [cond_tt (by simpa using e0), show ((256 : Int)).toNat = 256 from rfl, l2]
      exact ⟨_, rfl, rfl, Nat.zero_le _⟩
    · rw [hm, l1, opt_of, req_pos (by decide), lt_of]
      dsimp only
      rw [cond_ff (by decide), show ((256 : Int)).toNat = 256 from rfl, l2]
      rw [w64 (x := (2 : Int) * (m : Int)) (by omega) (by omega), req_pos (show 0 ≤ (2 : Int) * (m : Int) ∧ (2 : Int) * (m : Int) ≤ (s.length : Int) by omega), codes_any out fu (by omega), rcodes_any out fu (by omega), opt_of, opt_of]
      by_cases hc : (cd out).2 = 0
      · rw [cond_ff (by rw [hc]; rfl), cond_ff (by rw [hc]; rfl), req_pos (by decide), lt_of]
        obtain ⟨hl, h256, hcs⟩ := codes_of ho hc
        obtain ⟨M, hM, hMe⟩ := map_go ho hcs hl (out, s.drop (2 * m), 0) rfl (kkM (A, s, 0) (out, s.drop (2 * m), 0) fu) 256 fu 0 [] rfl (by omega) (Nat.zero_le _) (map_zero _)
        generalize hu : s.drop (2 * m) = u at *
        have hul : u.length ≤ 2000000 := by rw [← hu, List.length_drop]; omega
        have hw := fun kk => words_go ho (r21 := cd out) hcs hl kk (fu := fu) (by omega) 256 fu 0 rfl (by omega) (Nat.zero_le _)
        rw [wd_zero, show ((0 : Nat) : Int) = (0 : Int) from rfl] at hw
        have ha := fun kk => all_go (A, s, 0) u (by show s.drop (IntKind.i64.wrap (2 * A.e2)).toNat = u; rw [hm, w64 (by omega) (by omega), ← hu]; congr 1) (by omega) kk (fu := fu) (by omega) u.length fu 0 rfl (by omega) (Nat.zero_le _)
        simp only [List.take_zero, List.flatMap_nil, show ((0 : Nat) : Int) = (0 : Int) from rfl] at ha
        rw [lt_of]
        change ∃ v, f_press_open_L46 (out, u, (0 : Int)) (cd out) (kkM (A, s, 0) (out, u, 0) fu) fu [] ((0 : Nat) : Int) = some v ∧ _ = some v ∧ v.1.length ≤ 4096
        rw [hMe, hw]
        rw [lt_of, req_pos (by simp only [List.length_drop]; omega), ha]
        generalize hB : u.flatMap byteBits = B
        have hBl : B.length ≤ 40000000 := by rw [← hB, flat_len]; omega
        obtain ⟨left, hok, hbl, hk⟩ : ∃ left, Ok u left ∧ bl u left = B.drop 0 ∧ kkM (A, s, 0) (out, u, 0) fu M = f_press_open_L34 (A, s, 0) (kcP (A, s, 0) fu) fu fu M u ((left : Nat) : Int) [] 0 := by
          by_cases h : u = []
          · subst h
            exact ⟨0, .inl ⟨rfl, rfl⟩, by rw [← hB]; rfl, rfl⟩
          · refine ⟨8, .inr ⟨h, by decide, by decide⟩, ?_, ?_⟩
            · obtain ⟨b, t', rfl⟩ := List.exists_cons_of_ne_nil h
              rw [← hB, List.drop_zero, bl_cons]; rfl
            · unfold kkM
              dsimp only
              rw [lt_of, cond_tt (by simpa using h)]
              rfl
        have hbb : ∀ x ∈ B, isBit x := fun x hx => bl_bits u left x (by rw [hbl, List.drop_zero]; exact hx)
        have hmain := main_go hl h256 hM B hbb hBl q (by omega) (A, s, 0) hq (show 1000 ≤ fu by omega) (kcP (A, s, 0) fu) (fun (j1x9 : List UInt8) (j1i10 : Int) => some (j1x9, j1i10, (0 : Int))) q fu u left 0 [] (by simp) (by omega) (by simp) hok (Nat.zero_le _) hbl
        rw [show (([] : List UInt8).length : Int) = (0 : Int) from rfl, show ((0 : Nat) : Int) = (0 : Int) from rfl, ← hk] at hmain
        have hsg : f_lumref_signsOf fu B (words (nat out)) A.e1 = f_lumref_signsOf_L5 B (words (nat out)) (q : Int) (fun (j1x9 : List UInt8) (j1i10 : Int) => some (j1x9, j1i10, (0 : Int))) fu fu [] 0 := by
          unfold f_lumref_signsOf
          rw [hq]
          rfl
        rw [hsg]
        rcases hmain with ⟨e, e0, p1, p2⟩ | ⟨s', l', at', x, x1, x2, x3, x4, x5⟩
        · rw [p1, p2, opt_of]
          dsimp only
          rw [cond_tt (by simpa using e0)]
          exact ⟨_, rfl, rfl, Nat.zero_le _⟩
        · rw [x4, x5, opt_of]
          dsimp only
          rw [cond_ff (by decide)]
          refine ⟨_, fin_c (A, s, 0) s' l' x x1 (show 5000 ≤ fu by omega), ?_, fin_len _ _ _ _⟩
          rw [x3]
          exact fin_r (A, s, 0) B at' x x2 (show 5000 ≤ fu by omega)
      · rw [cond_tt (by simpa using hc), cond_tt (by simpa using hc)]
        exact ⟨_, rfl, rfl, Nat.zero_le _⟩
theorem press_cases (b : UInt8) (t : List UInt8) (ht : t.length ≤ 2000000) (fu : Nat) : f_press_Open fu (b :: t) = if b.toNat = 0 then (if 4096 < t.length then some ([], 2) else some (t, 0)) else if b.toNat = 1 then (opt (f_press_open fu t) fun (r12 : (List UInt8 × Int)) => some (r12.1, r12.2)) else some ([], 5) := by
  unfold f_press_Open
  have hb0 : En.bAt (b :: t) 0 = ((b.toNat : Nat) : Int) := rfl
  have hl : (b :: t).length = t.length + 1 := rfl
  rw [cond_ff (show ((b :: t) == ([] : List UInt8)) = false by simp), lt_of, hb0, hl, req_pos (by omega)]
  by_cases h0 : b.toNat = 0
  · rw [if_pos h0, h0, cond_tt (show (((0 : Nat) : Int) == 0) = true from rfl), w64 (x := ((t.length + 1 : Nat) : Int) - 1) (by omega) (by omega)]
    dsimp only
    by_cases h1 : 4096 < t.length
    · rw [if_pos h1, cond_tt (decide_eq_true (show ((t.length + 1 : Nat) : Int) - 1 > 4096 by omega))]
    · rw [if_neg h1, cond_ff (decide_eq_false (show ¬ ((t.length + 1 : Nat) : Int) - 1 > 4096 by omega)), req_pos (by omega), cond_tt (show (((0 : Nat) : Int) == 0) = true from rfl), req_pos (by omega)]
      rfl
  · have hn0 : (((b.toNat : Nat) : Int) == 0) = false := by rw [beq_eq_false_iff_ne]; omega
    rw [if_neg h0, cond_ff hn0]
    dsimp only
    rw [cond_ff rfl, req_pos (by omega), cond_ff hn0, req_pos (by omega)]
    by_cases h1 : b.toNat = 1
    · rw [if_pos h1, h1, cond_tt (show (((1 : Nat) : Int) == 1) = true from rfl), req_pos (by omega)]
      rfl
    · rw [if_neg h1, cond_ff (show (((b.toNat : Nat) : Int) == 1) = false by rw [beq_eq_false_iff_ne]; omega)]
theorem ref_cases (b : UInt8) (t : List UInt8) (ht : t.length ≤ 2000000) (fu : Nat) : f_lumref_Open fu (b :: t) = if b.toNat = 0 then (if 4096 < t.length then some ([], 2) else some (t, 0)) else if b.toNat = 1 then inner fu t else some ([], 5) := by
  unfold f_lumref_Open
  have hb0 : En.bAt (b :: t) 0 = ((b.toNat : Nat) : Int) := rfl
  have hl : (b :: t).length = t.length + 1 := rfl
  rw [cond_ff (show ((b :: t) == ([] : List UInt8)) = false by simp), lt_of, hb0, hl, req_pos (by omega)]
  by_cases h0 : b.toNat = 0
  · rw [if_pos h0, h0, cond_tt (show (((0 : Nat) : Int) == 0) = true from rfl)]
    dsimp only
    by_cases h1 : 4096 < t.length
    · rw [if_pos h1, cond_tt (decide_eq_true (show ((t.length + 1 : Nat) : Int) > 4097 by omega))]
    · rw [if_neg h1, cond_ff (decide_eq_false (show ¬ ((t.length + 1 : Nat) : Int) > 4097 by omega)), req_pos (by omega), cond_tt (show (((0 : Nat) : Int) == 0) = true from rfl), req_pos (by omega)]
      rfl
  · have hn0 : (((b.toNat : Nat) : Int) == 0) = false := by rw [beq_eq_false_iff_ne]; omega
    rw [if_neg h0, cond_ff hn0]
    dsimp only
    rw [cond_ff rfl, req_pos (by omega), cond_ff hn0, req_pos (by omega)]
    by_cases h1 : b.toNat = 1
    · rw [if_pos h1, h1, cond_ff (show (((1 : Nat) : Int) != 1) = false from rfl), req_pos (by omega)]
      rfl
    · rw [if_neg h1, cond_tt (show (((b.toNat : Nat) : Int) != 1) = true by rw [bne_iff_ne]; omega)]
theorem open_eq (a : List UInt8) (ha : a.length ≤ 2000000) {fu : Nat} (hf : 10000000 ≤ fu) : ∃ v, f_press_Open fu a = some v ∧ f_lumref_Open fu a = some v ∧ v.1.length ≤ 4096 := by
  cases a with
  | nil => exact ⟨_, rfl, rfl, Nat.zero_le _⟩
  | cons b t =>
    have hl : (b :: t).length = t.length + 1 := rfl
    rw [press_cases b t (by omega), ref_cases b t (by omega)]
    by_cases h0 : b.toNat = 0
    · rw [if_pos h0, if_pos h0]
      by_cases h1 : 4096 < t.length
      · rw [if_pos h1]; exact ⟨_, rfl, rfl, Nat.zero_le _⟩
      · rw [if_neg h1]; exact ⟨_, rfl, rfl, show t.length ≤ 4096 by omega⟩
    · rw [if_neg h0, if_neg h0]
      by_cases h1 : b.toNat = 1
      · rw [if_pos h1, if_pos h1]
        obtain ⟨v, v1, v2, v3⟩ := one_ok t (by omega) hf
        rw [v1]
        exact ⟨v, rfl, v2, v3⟩
      · rw [if_neg h1, if_neg h1]; exact ⟨_, rfl, rfl, Nat.zero_le _⟩
end Go.Proofs.Ytgmggcpceemnnaa.PPo
