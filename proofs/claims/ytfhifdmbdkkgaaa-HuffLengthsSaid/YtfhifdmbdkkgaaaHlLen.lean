/- huff.Lengths and its reference answer alike: the loops. No condition. -/
import Derived.Test.YtfhifdmbdkkgaaaHlTop
namespace Go.Proofs.Ytfhifdmbdkkgaaa.PHl
open Go.RowKit Ytfhifdmbdkkgaaa.En Ytfhifdmbdkkgaaa Ytfhifdmbdkkgaaa.HeapM
set_option linter.unusedVariables false
set_option linter.unusedSimpArgs false
theorem sumW_append (l m : List B) : sumW (l ++ m) = sumW l + sumW m := by
  induction l with
  | nil => simp [sumW]
  | cons a l ih => simp only [List.cons_append, sumW, ih]; omega
theorem nd_len : ∀ (n : Nat) (l : List Nat), l.Nodup → (∀ x ∈ l, x < n) → l.length ≤ n
  | 0, l, _, h => by
    cases l with
    | nil => exact Nat.le_refl _
    | cons a l => exact absurd (h a List.mem_cons_self) (Nat.not_lt_zero _)
  | n + 1, l, hn, h => by
    have ih := nd_len n (l.erase n) (hn.erase n) (fun x hx => by
      have h1 := (hn.mem_erase_iff).1 hx
      have h2 := h x h1.2
      have h3 := h1.1
      omega)
    rw [List.length_erase] at ih
    split at ih <;> omega
theorem Mt.len {n : Nat} {t : T} {b : B} (h : Mt n t b) : t.symbols.length ≤ n := by
  have h1 : (t.symbols.map Int.toNat).Nodup := List.Pairwise.map _ (fun x y hxy => hxy) (h.nd.imp_of_mem fun {x y} hx hy hxy => by
    have a := h.rng x ((h.mem x).1 hx); have b := h.rng y ((h.mem y).1 hy)
    intro e; exact hxy (by omega))
  have h3 := nd_len n _ h1 fun x hx => by
    obtain ⟨y, hy, rfl⟩ := List.mem_map.1 hx
    have a := h.rng y ((h.mem y).1 hy)
    omega
  rw [List.length_map] at h3
  exact h3
structure Bi (F : List Int) (j : Nat) (ps : List (T × B)) (ts : List T) (bs : List B) : Prop where
  rl : Rl F.length ps ts bs
  hp : H le ts
  len : ts.length ≤ j
  up : ∀ b ∈ bs, (∀ x ∈ b.signs, x < (j : Int)) ∧ b.signs.length ≤ 1
  sm : sumW bs ≤ (j : Int) * 1048576
theorem build_go (F : List Int) (hF : F.length ≤ 256) (hg : F.any badB = false) (fu : Nat) (hf : 1000 ≤ fu) : ∀ (d k j : Nat) (ps : List (T × B)) (ts : List T) (bs : List B), F.length - j = d → d < k → j ≤ F.length → Bi F j ps ts bs →
    ∃ ps' ts' bs', (∀ kk, f_huff_Lengths_L67 F kk fu k ts (j : Int) = kk ts') ∧ (∀ kk, f_lumref_Lengths_L75 F kk k bs (j : Int) = kk bs') ∧ Bi F F.length ps' ts' bs'
  | _, 0, _, _, _, _, _, hk, _, _ => absurd hk (Nat.not_lt_zero _)
  | d, k + 1, j, ps, ts, bs, hd, hk, hj, hB => by
    by_cases h : j < F.length
    · have hgj : badB F[j] = false := by
        rw [List.any_eq_false] at hg
        have := hg _ (List.getElem_mem h)
        simpa using this
      have hg1 : ¬ F[j] < 0 := by unfold badB at hgj; simp at hgj; omega
      have hg2 : ¬ F[j] > 1048576 := by unfold badB at hgj; simp at hgj; omega
      by_cases h0 : F[j] > 0
      · have hlen := hB.rl.len
        have hb := hB.rl.tb (by omega)
        obtain ⟨l', e1, e2, e3⟩ := push_ok fu ts ⟨F[j], (j : Int), [(j : Int)]⟩ hB.hp (by have := hB.len; omega) (by have := hB.len; omega) hb ⟨⟨by show 0 ≤ F[j]; omega, by show F[j] ≤ _; omega⟩, ⟨by show 0 ≤ (j : Int); omega, by show (j : Int) ≤ _; omega⟩⟩
        have hl' := e2.length_eq
        rw [List.length_cons] at hl'
        have hsm := hB.sm
        have hB' : Bi F (j + 1) ((⟨F[j], (j : Int), [(j : Int)]⟩, ⟨F[j], [(j : Int)]⟩) :: ps) l' (bs ++ [⟨F[j], [(j : Int)]⟩]) := by
          refine ⟨⟨?_, ?_, fun p hp => ?_, ?_, ?_⟩, e3, by have := hB.len; omega, fun b hb => ?_, ?_⟩
          · exact (List.Perm.cons _ hB.rl.fst).trans e2.symm
          · exact (List.Perm.cons _ hB.rl.snd).trans (List.perm_append_comm (l₁ := [_]))
          · rcases List.mem_cons.1 hp with rfl | hp
            · exact ⟨rfl, by show 0 ≤ F[j]; omega, rfl, by simp, fun x => Iff.rfl, by simp, fun x hx => by rw [List.mem_singleton.1 hx]; exact Int.le_refl _, fun x hx => by rw [List.mem_singleton.1 hx]; omega⟩
            · exact hB.rl.mt p hp
          · rw [List.flatMap_append, List.nodup_append]
            refine ⟨hB.rl.nd, by simp, fun x hx y hy e => ?_⟩
            obtain ⟨b, hb, hxb⟩ := List.mem_flatMap.1 hx
            have := (hB.up b hb).1 x hxb
            have hy' : y = (j : Int) := by simpa using hy
            omega
          · rw [sumW_append]; simp only [sumW]; omega
          · rcases List.mem_append.1 hb with hb | hb
            · exact ⟨fun x hx => by have := (hB.up b hb).1 x hx; omega, (hB.up b hb).2⟩
            · rw [List.mem_singleton.1 hb]; exact ⟨fun x hx => by rw [List.mem_singleton.1 hx]; omega, by simp⟩
          · rw [sumW_append]; simp only [sumW]; omega
        obtain ⟨ps', ts', bs', f1, f2, f3⟩ := build_go F hF hg fu hf (d - 1) k (j + 1) _ _ _ (by omega) (by omega) (by omega) hB'
        refine ⟨ps', ts', bs', fun kk => ?_, fun kk => ?_, f3⟩
        · rw [f_huff_Lengths_L67, cond_tt (dlt (by omega)), lt_of, at_lt h, opt_of, cond_tt (decide_eq_true h0), e1, opt_of, wsucc (by omega)]
          exact f1 kk
        · rw [f_lumref_Lengths_L75, cond_tt (dlt (by omega)), lt_of, at_lt h, opt_of, lt_of, cond_ff (decide_eq_false hg1), decide_eq_false hg2]
          dsimp only
          rw [cond_ff rfl, cond_tt (decide_eq_true h0), req_pos (by rw [List.length_singleton]; have := hB.len; omega), wsucc (by omega)]
          exact f2 kk
      · have hB' : Bi F (j + 1) ps ts bs := ⟨hB.rl, hB.hp, by have := hB.len; omega, fun b hb => ⟨fun x hx => by have := (hB.up b hb).1 x hx; omega, (hB.up b hb).2⟩, by have := hB.sm; omega⟩
        obtain ⟨ps', ts', bs', f1, f2, f3⟩ := build_go F hF hg fu hf (d - 1) k (j + 1) _ _ _ (by omega) (by omega) (by omega) hB'
        refine ⟨ps', ts', bs', fun kk => ?_, fun kk => ?_, f3⟩
        · rw [f_huff_Lengths_L67, cond_tt (dlt (by omega)), lt_of, at_lt h, opt_of, cond_ff (decide_eq_false h0), wsucc (by omega)]
          exact f1 kk
        · rw [f_lumref_Lengths_L75, cond_tt (dlt (by omega)), lt_of, at_lt h, opt_of, lt_of, cond_ff (decide_eq_false hg1), decide_eq_false hg2]
          dsimp only
          rw [cond_ff rfl, cond_ff (decide_eq_false h0), wsucc (by omega)]
          exact f2 kk
    · obtain rfl : j = F.length := by omega
      refine ⟨ps, ts, bs, fun kk => ?_, fun kk => ?_, hB⟩
      · rw [f_huff_Lengths_L67, cond_ff (dge (by omega))]
      · rw [f_lumref_Lengths_L75, cond_ff (dge (by omega))]
theorem ref_bad (F : List Int) (hF : F.length ≤ 256) (kk : List B → Option (List Int × Int)) : ∀ (d k j : Nat) (bs : List B), F.length - j = d → d < k → j ≤ F.length → bs.length ≤ j → (F.drop j).any badB = true → f_lumref_Lengths_L75 F kk k bs (j : Int) = some ([], 1)
  | _, 0, _, _, _, hk, _, _, _ => absurd hk (Nat.not_lt_zero _)
  | d, k + 1, j, bs, hd, hk, hj, hb, hbad => by
    by_cases h : j < F.length
    · rw [List.drop_eq_getElem_cons h, List.any_cons] at hbad
      rw [f_lumref_Lengths_L75, cond_tt (dlt (by omega)), lt_of, at_lt h, opt_of, lt_of, wsucc (by omega)]
      by_cases h1 : F[j] < 0
      · rw [cond_tt (decide_eq_true h1)]
        dsimp only
        rw [cond_tt rfl]
      · rw [cond_ff (decide_eq_false h1)]
        by_cases h2 : F[j] > 1048576
        · rw [decide_eq_true h2]
          dsimp only
          rw [cond_tt rfl]
        · have hbj : badB F[j] = false := by unfold badB; rw [decide_eq_false h1, decide_eq_false h2]; rfl
          rw [hbj, Bool.false_or] at hbad
          rw [decide_eq_false h2]
          dsimp only
          rw [cond_ff rfl]
          by_cases h3 : F[j] > 0
          · rw [cond_tt (decide_eq_true h3), req_pos (by rw [List.length_singleton]; omega)]
            exact ref_bad F hF kk (d - 1) k (j + 1) _ (by omega) (by omega) (by omega) (by rw [List.length_append, List.length_singleton]; omega) hbad
          · rw [cond_ff (decide_eq_false h3)]
            exact ref_bad F hF kk (d - 1) k (j + 1) _ (by omega) (by omega) (by omega) (by omega) hbad
    · rw [List.drop_eq_nil_of_le (by omega)] at hbad; cases hbad
theorem main_go (F : List Int) (hF : F.length ≤ 256) (fu : Nat) (hf : 2000 ≤ fu) : ∀ (d k : Nat) (ps : List (T × B)) (ts : List T) (bs : List B) (out : List Int) (c : Int), ts.length = d → d < k → Rl F.length ps ts bs → H le ts → d ≤ 256 → (∀ b ∈ bs, b.signs.length ≤ 1000) → out.length = F.length → (∀ v ∈ out, 0 ≤ v ∧ v ≤ c) → c + d ≤ 300 →
    ∃ out', out'.length = F.length ∧ (∀ kk, f_huff_Lengths_L15 kk fu k ts out = kk out') ∧ (∀ kk, f_lumref_Lengths_L14 F kk fu k bs out = kk out')
  | _, 0, _, _, _, _, _, _, hk, _, _, _, _, _, _, _ => absurd hk (Nat.not_lt_zero _)
  | d, k + 1, ps, ts, bs, out, c, hd, hk, hR, hH, hd6, hsl, ho, hv, hc => by
    have hlen := hR.len
    by_cases h1 : 1 < ts.length
    · obtain ⟨t, ts1, p1, p2, p3, p4⟩ := pop_ok ts hH (by omega) (by omega) fu (by omega) (hR.tb (by omega))
      obtain ⟨b, bs1, q1, q2, q3⟩ := least_ok bs (by omega) (by omega) hR.ne fu (by omega)
      obtain ⟨ps1, m1, R1, n1, s1⟩ := hR.pop p2 q2 p4 q3
      have l1 := p2.length_eq
      have l1' := R1.len
      rw [List.length_cons] at l1
      obtain ⟨u, ts2, p5, p6, p7, p8⟩ := pop_ok ts1 p3 (by omega) (by omega) fu (by omega) (R1.tb (by omega))
      obtain ⟨e, bs2, q5, q6, q7⟩ := least_ok bs1 (by omega) (by omega) R1.ne fu (by omega)
      obtain ⟨ps2, m2, R2, n2, s2⟩ := R1.pop p6 q6 p8 q7
      have l2 := p6.length_eq
      have l2' := R2.len
      rw [List.length_cons] at l2
      have nd := nd_perm (List.Perm.cons b q6.symm) n1
      rw [List.flatMap_cons, List.flatMap_cons, List.nodup_append] at nd
      obtain ⟨nb, ne, nbe⟩ := nd
      rw [List.nodup_append] at ne
      obtain ⟨ne1, ne2, ne3⟩ := ne
      have sW := sumW_perm q6
      simp only [sumW] at s1 s2 sW
      have w1 := m1.pos
      have w2 := m2.pos
      have w3 : 0 ≤ sumW bs2 := by
        have : ∀ l : List B, (∀ c ∈ l, 0 ≤ c.weight) → 0 ≤ sumW l := fun l => by
          induction l with
          | nil => intro _; exact Int.le_refl _
          | cons a l ih => intro h; have h1 := h a List.mem_cons_self; have h2 := ih fun c hc => h c (List.mem_cons_of_mem _ hc); simp only [sumW]; omega
        exact this bs2 fun c hc => by obtain ⟨x, hx, -⟩ := R2.bmem hc; exact (R2.mt _ hx).pos
      have hd1 : ∀ x ∈ b.signs, x ∉ e.signs := fun x hx hy => nbe x hx x (List.mem_append_left _ hy) rfl
      have hJ := m1.join m2 (by omega) hd1
      have hbb := hsl b (q2.mem_iff.1 List.mem_cons_self)
      have hee : e.signs.length ≤ 1000 := hsl e (q2.mem_iff.1 (List.mem_cons_of_mem _ (q6.mem_iff.1 List.mem_cons_self)))
      have c1 := m1.len
      have c2 := m2.len
      have hwr : IntKind.i64.wrap (b.weight + e.weight) = b.weight + e.weight := w64 (by omega) (by omega)
      have hnd : (t.symbols ++ u.symbols).Nodup := hJ.nd
      have hrng : ∀ x ∈ t.symbols ++ u.symbols, 0 ≤ x ∧ x < (F.length : Int) := fun x hx => hJ.rng x ((hJ.mem x).1 hx)
      have hincs : incs out (t.symbols ++ u.symbols) = incs out (picks b.signs e.signs F.length 0) := incs_eq hnd (nodup_of_lt (picks_lt _ _ _ _)) (fun s hs => (hrng s hs).1) hJ.mem
      have hv' := incs_mem hnd (fun s hs => (hrng s hs).1) hv
      have R3 : Rl F.length ((⟨IntKind.i64.wrap (t.weight + u.weight), if u.least < t.least then u.least else t.least, t.symbols ++ u.symbols⟩, ⟨IntKind.i64.wrap (b.weight + e.weight), picks b.signs e.signs F.length 0⟩) :: ps2) (⟨IntKind.i64.wrap (t.weight + u.weight), if u.least < t.least then u.least else t.least, t.symbols ++ u.symbols⟩ :: ts2) (bs2 ++ [⟨IntKind.i64.wrap (b.weight + e.weight), picks b.signs e.signs F.length 0⟩]) := by
        refine ⟨List.Perm.cons _ R2.fst, (List.Perm.cons _ R2.snd).trans (List.perm_append_comm (l₁ := [_])), fun p hp => ?_, ?_, ?_⟩
        · rcases List.mem_cons.1 hp with rfl | hp
          · exact hJ
          · exact R2.mt p hp
        · rw [List.flatMap_append, List.nodup_append]
          refine ⟨ne2, by simpa using nodup_of_lt (picks_lt _ _ _ _), fun x hx y hy exy => ?_⟩
          subst exy
          have hy' : x ∈ picks b.signs e.signs F.length 0 := by simpa using hy
          rcases ((picks_mem _ _ _ _ _).1 hy').2.2 with h | h
          · exact nbe x h x (List.mem_append_right _ hx) rfl
          · exact ne3 x h x hx rfl
        · rw [sumW_append]; simp only [sumW]; rw [hwr]; omega
      obtain ⟨ts3, g1, g2, g3⟩ := push_ok fu ts2 ⟨IntKind.i64.wrap (t.weight + u.weight), if u.least < t.least then u.least else t.least, t.symbols ++ u.symbols⟩ p7 (by omega) (by omega) (R2.tb (by omega)) (R3.tb (by omega) _ List.mem_cons_self)
      have l3 := g2.length_eq
      rw [List.length_cons] at l3
      have R4 : Rl F.length _ ts3 _ := ⟨R3.fst.trans g2.symm, R3.snd, R3.mt, R3.nd, R3.sum⟩
      have hlp := picks_len b.signs e.signs F.length 0
      obtain ⟨out', o1, o2, o3⟩ := main_go F hF fu hf ts3.length k _ ts3 _ (incs out (t.symbols ++ u.symbols)) (c + 1) rfl (by omega) R4 g3 (by omega) (fun x hx => by
        rcases List.mem_append.1 hx with hx | hx
        · exact hsl x (q2.mem_iff.1 (List.mem_cons_of_mem _ (q6.mem_iff.1 (List.mem_cons_of_mem _ hx))))
        · rw [List.mem_singleton.1 hx]; show (picks _ _ _ _).length ≤ _; omega) (by rw [incs_len]; exact ho) hv' (by omega)
      refine ⟨out', o1, fun kk => ?_, fun kk => ?_⟩
      · rw [f_huff_Lengths_L15, lt_of, cond_tt (decide_eq_true (show (ts.length : Int) > 1 by omega)), p1, opt_of, p5, opt_of, concat_ok t.symbols u.symbols (by omega) fu (by omega), opt_of, lt_of]
        have := code_incs (t.symbols ++ u.symbols) (by rw [List.length_append]; omega) (fun (j33x7 : (List Int)) => (opt (f___huff_heap_huff_tree___push fu ⟨ts2⟩ (S_huff_tree.mk (IntKind.i64.wrap (t.weight + u.weight)) (if u.least < t.least then u.least else t.least) (t.symbols ++ u.symbols))) fun (r36 : D_huff_heap_huff_tree_) => (f_huff_Lengths_L15 kk fu k r36.items j33x7))) (t.symbols ++ u.symbols).length fu 0 out c rfl (by rw [List.length_append]; omega) (Nat.zero_le _) (by rw [ho]; exact hrng) hv (by omega)
        refine this.trans ?_
        rw [g1, opt_of, List.drop_zero]
        exact o2 kk
      · rw [f_lumref_Lengths_L14, lt_of, cond_tt (decide_eq_true (show (bs.length : Int) > 1 by omega)), q1, opt_of, q5, opt_of, lt_of]
        have := ref_incs F (by omega) (b, bs1) (e, bs2) hbb hee (fun (j28x7 : (List Int)) (j28x10_1 : (List Int)) => (req (((bs2.length + ([(S_lumref_bunch.mk (IntKind.i64.wrap (b.weight + e.weight)) j28x10_1)]).length) * 32 : Nat) ≤ 140737488355328 ∧ bs2.length + ([(S_lumref_bunch.mk (IntKind.i64.wrap (b.weight + e.weight)) j28x10_1)]).length ≤ 9223372036854775807) (f_lumref_Lengths_L14 F kk fu k (bs2 ++ ([(S_lumref_bunch.mk (IntKind.i64.wrap (b.weight + e.weight)) j28x10_1)])) j28x7))) fu (by omega) F.length fu 0 out [] c rfl (by omega) (Nat.zero_le _) ho (Nat.le_refl _) hv (by omega)
        refine this.trans ?_
        dsimp only
        rw [req_pos (by rw [List.length_singleton]; omega), List.nil_append, ← hincs]
        exact o3 kk
    · refine ⟨out, ho, fun kk => ?_, fun kk => ?_⟩
      · rw [f_huff_Lengths_L15, lt_of, cond_ff (decide_eq_false (by omega))]
      · rw [f_lumref_Lengths_L14, lt_of, cond_ff (decide_eq_false (by omega))]
/-- both answer alike -/
theorem both_ok (F : List Int) (fu : Nat) (hf : 3000 ≤ fu) : ∃ r, f_huff_Lengths fu F = some r ∧ f_lumref_Lengths fu F = some r ∧ r.1.length ≤ 256 := by
  by_cases h0 : F.length = 0
  · refine ⟨([], 1), ?_, ?_, by simp⟩
    · unfold f_huff_Lengths
      rw [lt_of, cond_tt (decide_eq_true (show (F.length : Int) < 1 by omega))]
      dsimp only
      rw [cond_tt rfl]
    · unfold f_lumref_Lengths
      rw [lt_of, cond_tt (show ((F.length : Int) == 0) = true by rw [h0]; rfl)]
      dsimp only
      rw [cond_tt rfl]
  by_cases h1 : 256 < F.length
  · refine ⟨([], 1), ?_, ?_, by simp⟩
    · unfold f_huff_Lengths
      rw [lt_of, cond_ff (decide_eq_false (show ¬ (F.length : Int) < 1 by omega)), cond_tt (decide_eq_true (show (F.length : Int) > 256 by omega))]
      dsimp only
      rw [cond_tt rfl]
    · unfold f_lumref_Lengths
      rw [lt_of, cond_ff (show ((F.length : Int) == 0) = false by rw [beq_eq_false_iff_ne]; omega), decide_eq_true (show (F.length : Int) > 256 by omega)]
      dsimp only
      rw [cond_tt rfl]
  have cC : f_huff_Lengths fu F = bif F.any badB then some (([] : List Int), (1 : Int)) else f_huff_Lengths_L67 F (fun (j5x4_0 : (List S_huff_tree)) => (req (0 ≤ (F.length : Int) ∧ 8 * (F.length : Int) ≤ 281474976710656 ∧ (F.length : Int) ≤ 9223372036854775807) (lt (fun (j9x7 : (List Int)) => (lt (fun (j11x7 : (List Int)) => (some (j11x7, (0 : Int)))) fun (kk12 : (List Int) → Option ((List Int) × Int)) => (f_huff_Lengths_L15 kk12 fu fu j5x4_0 j9x7))) fun (kk10 : (List Int) → Option ((List Int) × Int)) => (bif ((j5x4_0.length : Int) == (1 : Int)) then (opt (at? j5x4_0 (0 : Int)) fun (u55 : S_huff_tree) => (opt (at? (List.replicate ((F.length : Int)).toNat 0) u55.least) fun (u61 : Int) => (kk10 ((List.replicate ((F.length : Int)).toNat 0).set (u55.least).toNat (1 : Int))))) else (kk10 (List.replicate ((F.length : Int)).toNat 0)))))) fu fu [] 0 := by
    unfold f_huff_Lengths
    rw [lt_of, cond_ff (decide_eq_false (show ¬ (F.length : Int) < 1 by omega)), cond_ff (decide_eq_false (show ¬ (F.length : Int) > 256 by omega)), contains_ok F (by omega) fu (by omega), opt_of]
    rfl
  have cR : f_lumref_Lengths fu F = f_lumref_Lengths_L75 F (fun (j4x4 : (List S_lumref_bunch)) => (req (0 ≤ (F.length : Int) ∧ 8 * (F.length : Int) ≤ 281474976710656 ∧ (F.length : Int) ≤ 9223372036854775807) (lt (fun (j8x7 : (List Int)) => (lt (fun (j10x7 : (List Int)) => (some (j10x7, (0 : Int)))) fun (kk11 : (List Int) → Option ((List Int) × Int)) => (f_lumref_Lengths_L14 F kk11 fu fu j4x4 j8x7))) fun (kk9 : (List Int) → Option ((List Int) × Int)) => (bif ((j4x4.length : Int) == (1 : Int)) then (opt (at? j4x4 (0 : Int)) fun (u59 : S_lumref_bunch) => (opt (at? u59.signs (0 : Int)) fun (u66 : Int) => (opt (at? (List.replicate ((F.length : Int)).toNat 0) u66) fun (u69 : Int) => (kk9 ((List.replicate ((F.length : Int)).toNat 0).set (u66).toNat (1 : Int)))))) else (kk9 (List.replicate ((F.length : Int)).toNat 0)))))) fu [] 0 := by
    unfold f_lumref_Lengths
    rw [lt_of, cond_ff (show ((F.length : Int) == 0) = false by rw [beq_eq_false_iff_ne]; omega), decide_eq_false (show ¬ (F.length : Int) > 256 by omega)]
    rfl
  rw [cC, cR]
  cases hb : F.any badB with
  | true =>
    rw [cond_tt rfl]
    exact ⟨_, rfl, ref_bad F (by omega) _ F.length fu 0 [] rfl (by omega) (Nat.zero_le _) (Nat.le_refl _) (by rw [List.drop_zero]; exact hb), by simp⟩
  | false =>
    rw [cond_ff (b := false) rfl]
    obtain ⟨ps, ts, bs, f1, f2, B1⟩ := build_go F (by omega) hb fu (by omega) F.length fu 0 [] [] [] rfl (by omega) (Nat.zero_le _) ⟨⟨List.Perm.refl _, List.Perm.refl _, fun p hp => (by cases hp), List.nodup_nil, by simp [sumW]⟩, fun i x y _ hx => (by simp at hx), Nat.le_refl _, fun b hb => (by cases hb), by simp [sumW]⟩
    have f1' := f1 (fun (j5x4_0 : (List S_huff_tree)) => (req (0 ≤ (F.length : Int) ∧ 8 * (F.length : Int) ≤ 281474976710656 ∧ (F.length : Int) ≤ 9223372036854775807) (lt (fun (j9x7 : (List Int)) => (lt (fun (j11x7 : (List Int)) => (some (j11x7, (0 : Int)))) fun (kk12 : (List Int) → Option ((List Int) × Int)) => (f_huff_Lengths_L15 kk12 fu fu j5x4_0 j9x7))) fun (kk10 : (List Int) → Option ((List Int) × Int)) => (bif ((j5x4_0.length : Int) == (1 : Int)) then (opt (at? j5x4_0 (0 : Int)) fun (u55 : S_huff_tree) => (opt (at? (List.replicate ((F.length : Int)).toNat 0) u55.least) fun (u61 : Int) => (kk10 ((List.replicate ((F.length : Int)).toNat 0).set (u55.least).toNat (1 : Int))))) else (kk10 (List.replicate ((F.length : Int)).toNat 0))))))
    have f2' := f2 (fun (j4x4 : (List S_lumref_bunch)) => (req (0 ≤ (F.length : Int) ∧ 8 * (F.length : Int) ≤ 281474976710656 ∧ (F.length : Int) ≤ 9223372036854775807) (lt (fun (j8x7 : (List Int)) => (lt (fun (j10x7 : (List Int)) => (some (j10x7, (0 : Int)))) fun (kk11 : (List Int) → Option ((List Int) × Int)) => (f_lumref_Lengths_L14 F kk11 fu fu j4x4 j8x7))) fun (kk9 : (List Int) → Option ((List Int) × Int)) => (bif ((j4x4.length : Int) == (1 : Int)) then (opt (at? j4x4 (0 : Int)) fun (u59 : S_lumref_bunch) => (opt (at? u59.signs (0 : Int)) fun (u66 : Int) => (opt (at? (List.replicate ((F.length : Int)).toNat 0) u66) fun (u69 : Int) => (kk9 ((List.replicate ((F.length : Int)).toNat 0).set (u66).toNat (1 : Int)))))) else (kk9 (List.replicate ((F.length : Int)).toNat 0))))))
    have fin : ∀ (out : List Int) (c : Int), out.length = F.length → (∀ v ∈ out, 0 ≤ v ∧ v ≤ c) → c ≤ 1 → ∃ out', out'.length = F.length ∧ f_huff_Lengths_L15 (fun o => some (o, (0 : Int))) fu fu ts out = some (out', 0) ∧ f_lumref_Lengths_L14 F (fun o => some (o, (0 : Int))) fu fu bs out = some (out', 0) := fun out c ho hv hc => by
      obtain ⟨o, o1, o2, o3⟩ := main_go F (by omega) fu (by omega) ts.length fu ps ts bs out c rfl (by have := B1.len; omega) B1.rl B1.hp (by have := B1.len; omega) (fun b hb => by have := (B1.up b hb).2; omega) ho hv (by have := B1.len; omega)
      exact ⟨o, o1, o2 _, o3 _⟩
    have hz : ∀ v ∈ List.replicate F.length (0 : Int), 0 ≤ v ∧ v ≤ 0 := fun v hv => by rw [List.eq_of_mem_replicate hv]; omega
    have hlen := B1.rl.len
    by_cases hone : ts.length = 1
    · obtain ⟨t, rfl⟩ := List.length_eq_one_iff.1 hone
      obtain ⟨b, rfl⟩ := List.length_eq_one_iff.1 (show bs.length = 1 by omega)
      obtain ⟨t', ht1, ht2⟩ := B1.rl.bmem List.mem_cons_self
      obtain rfl := List.mem_singleton.1 ht2
      have m := B1.rl.mt _ ht1
      have hk : 0 ≤ key b ∧ key b < (F.length : Int) := m.rng _ (key_mem m.ne)
      have hle : t'.least = key b := m.least
      have hke : (key b).toNat < F.length := by omega
      have ha : at? (List.replicate F.length (0 : Int)) (key b) = some 0 := by
        rw [at_int hk.1 (by rw [List.length_replicate]; exact hke), List.getElem_replicate]
      obtain ⟨o, o1, o2, o3⟩ := fin ((List.replicate F.length (0 : Int)).set (key b).toNat 1) 1 (by rw [List.length_set, List.length_replicate]) (fun v hv => by
        rcases List.mem_or_eq_of_mem_set hv with h | h
        · have := hz v h; omega
        · omega) (Int.le_refl _)
      refine ⟨(o, 0), ?_, ?_, by show o.length ≤ _; omega⟩
      · refine f1'.trans ?_
        rw [req_pos (by omega), lt_of, cond_tt (by rfl), show at? [t'] (0 : Int) = some t' from rfl, opt_of, hle, Int.toNat_natCast, ha, opt_of]
        exact o2
      · refine f2'.trans ?_
        rw [req_pos (by omega), lt_of, cond_tt (by rfl), show at? [b] (0 : Int) = some b from rfl, opt_of, key_at m.ne, opt_of, Int.toNat_natCast, ha, opt_of]
        exact o3
    · obtain ⟨o, o1, o2, o3⟩ := fin (List.replicate F.length (0 : Int)) 0 (by rw [List.length_replicate]) hz (by omega)
      refine ⟨(o, 0), ?_, ?_, by show o.length ≤ _; omega⟩
      · refine f1'.trans ?_
        rw [req_pos (by omega), lt_of, cond_ff (by rw [beq_eq_false_iff_ne]; omega), Int.toNat_natCast]
        exact o2
      · refine f2'.trans ?_
        rw [req_pos (by omega), lt_of, cond_ff (by rw [beq_eq_false_iff_ne]; omega), Int.toNat_natCast]
        exact o3
end Go.Proofs.Ytfhifdmbdkkgaaa.PHl
