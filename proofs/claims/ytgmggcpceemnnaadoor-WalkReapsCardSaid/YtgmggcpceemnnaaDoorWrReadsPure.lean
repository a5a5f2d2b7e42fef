/- The reader of directories and the reference agree: TreeReads. No condition. -/
import Derived.Test.YtgmggcpceemnnaaDoorWrRd
import Derived.Test.YtgmggcpceemnnaaDoorWrSame
namespace Go.Proofs.YtgmggcpceemnnaaDoor.PTreeReads
open Go.RowKit YtgmggcpceemnnaaDoor.En YtgmggcpceemnnaaDoor Num Go.Lib PTreeRd PTreeSame
set_option linter.unusedVariables false
set_option linter.unusedSimpArgs false
theorem at_rep : at? (List.replicate 1 (0 : UInt8)) (0 : Int) = some 0 := rfl
variable {F0 : Nat}
theorem b1 [NeZero (F0 / 2000000)] (s : List UInt8) {e : Int} (he : e ≠ 0) : f___tree_reader__bytes F0 ⟨s, e⟩ (1 : Int) = some (List.replicate 1 0, ⟨s, e⟩) := bytes_bad s he 1 (by have hbig := PTreeText.big (F0 := F0); omega)
theorem pe [NeZero (F0 / 2000000)] (s : List UInt8) (e : Int) (kk : List UInt8 → Int → List A8u8 → Option (S_api_Node × S_tree_reader)) : f___tree_reader__node_L25 kk ((0 : Int), (⟨s, e⟩ : S_tree_reader)) F0 F0 s e ([] : List A8u8) (0 : Int) = kk s e [] := parts_end kk _ F0 F0 (by have hbig := PTreeText.big (F0 := F0); omega) s e [] 0 (by simp)
theorem node_bad [NeZero (F0 / 2000000)] (s : List UInt8) (hs : s.length ≤ 9223372036854775807) {e : Int} (he : e ≠ 0) : ∃ n, f___tree_reader__node F0 ⟨s, e⟩ = some (n, ⟨s, e⟩) := by
  unfold f___tree_reader__node
  simp only [text_bad s hs he, b1 s he, number_bad s he, int_bad s he, opt_of, lt_of, at_rep, pe s e]
  exact ⟨_, rfl⟩
theorem numV_b (s : List UInt8) (m : Int) (h : (numV s m).2.2 = 0) : ∃ v : Nat, (numV s m).1 = (v : Int) ∧ (v : Int) ≤ m ∧ (numV s m).2.1.length ≤ s.length := by
  unfold numV at h ⊢
  split at h
  · exact absurd h (by assumption)
  · split at h
    · cases h
    · rename_i h1 h2
      rw [if_neg h1, if_neg h2]
      obtain ⟨v, k, e, hk⟩ := getV_b s (by simpa using h1)
      rw [e] at h2 ⊢
      exact ⟨v, rfl, by simpa using h2, by simp⟩
theorem numV_f (s : List UInt8) (m : Int) (h : (numV s m).2.2 ≠ 0) : numV s m = (0, [], (numV s m).2.2) := by
  unfold numV at h ⊢
  split
  · rfl
  · split
    · rfl
    · rename_i h1 h2
      rw [if_neg h1, if_neg h2] at h; exact absurd rfl h
theorem rparts0 [NeZero (F0 / 2000000)] (kk : List UInt8 → List A8u8 → Option (S_api_Node × List UInt8 × Int)) (r : Int × List UInt8 × Int) (d : Nat) (s : List UInt8) (hr : r.1 = (d : Int)) (hd : d ≤ 300) (h : 8 * d ≤ s.length) (hs : s.length ≤ 9223372036854775807) : f_lumref_nodeRead_L32 r kk F0 s ([] : List A8u8) (0 : Int) = kk (s.drop (8 * d)) (ids d s) :=
  rparts_ok kk r d 0 F0 s [] (by rw [hr]; omega) (by have hbig := PTreeText.big (F0 := F0); omega) rfl h hs (by have hbig := PTreeText.big (F0 := F0); omega)
theorem parts0 [NeZero (F0 / 2000000)] (kk : List UInt8 → Int → List A8u8 → Option (S_api_Node × S_tree_reader)) (r : Int × S_tree_reader) (d : Nat) (s : List UInt8) (hr : r.1 = (d : Int)) (hd : d ≤ 300) (h : 8 * d ≤ s.length) (hs : s.length ≤ 9223372036854775807) : f___tree_reader__node_L25 kk r F0 F0 s 0 ([] : List A8u8) (0 : Int) = kk (s.drop (8 * d)) 0 (ids d s) :=
  parts_good kk r d 0 F0 s [] (by rw [hr]; omega) (by have hbig := PTreeText.big (F0 := F0); omega) rfl h hs (by have hbig := PTreeText.big (F0 := F0); omega)
def Agree (s : List UInt8) (A : Option (S_api_Node × List UInt8 × Int)) (B : Option (S_api_Node × S_tree_reader)) : Prop :=
  ∃ n rest e n' s', A = some (n, rest, e) ∧ B = some (n', ⟨s', e⟩) ∧ s'.length ≤ s.length ∧ (e = 0 → n' = n ∧ s' = rest ∧ n.Name.length ≤ 1024 ∧ n.Parts.length ≤ 300)
theorem node_ok [NeZero (F0 / 2000000)] (s : List UInt8) (hs : s.length ≤ 4096) : Agree s (f_lumref_nodeRead F0 s) (f___tree_reader__node F0 ⟨s, 0⟩) := by
  obtain ⟨h1, h2, h3, h4⟩ := PTreeText.txt_ok (F0 := F0) s (by omega)
  unfold f_lumref_nodeRead f___tree_reader__node
  rw [h2, opt_of, text_good s (by omega), opt_of]
  by_cases a1 : (PTreeText.txt F0 s).2.2 = 0
  · obtain ⟨k, ek, hk⟩ := h4 a1
    rw [if_pos a1, a1, ek, Int.toNat_natCast, cond_ff (by rfl), req_pos ⟨by omega, by omega⟩]
    generalize hs1 : s.drop k = s1
    have l1 : s1.length ≤ s.length := by rw [← hs1, List.length_drop]; omega
    simp only
    by_cases a2 : s1 = []
    · subst a2
      have := bytes_short (F0 := F0) [] 1 (by omega) (by simp)
      rw [show ((1 : Nat) : Int) = 1 from rfl] at this
      have he : (3 : Int) ≠ 0 := by decide
      rw [cond_tt (by rfl), this]
      simp only [text_bad [] (by simp) he, b1 [] he, number_bad [] he, int_bad [] he, opt_of, lt_of, at_rep, pe [] 3]
      exact ⟨_, _, _, _, _, rfl, rfl, by simp, fun h => absurd h he⟩
    · obtain ⟨b, t, rfl⟩ : ∃ b t, s1 = b :: t := by cases s1 with | nil => exact absurd rfl a2 | cons b t => exact ⟨b, t, rfl⟩
      have l2 : t.length ≤ s.length := by rw [List.length_cons] at l1; omega
      have hb := bytes_good (F0 := F0) (b :: t) (by omega) 1 (by omega) (by simp)
      rw [show ((1 : Nat) : Int) = 1 from rfl] at hb
      have hat : at? ((b :: t).take 1) (0 : Int) = some b := rfl
      have hba : En.bAt (b :: t) (0 : Int) = (b.toNat : Int) := rfl
      rw [cond_ff (by rfl), req_pos ⟨by omega, by rw [List.length_cons]; omega⟩, req_pos ⟨by omega, by rw [List.length_cons]; omega⟩, hb, opt_of, hat, opt_of, hba]
      have hdr : (b :: t).drop ((1 : Int)).toNat = t := rfl
      have hdr2 : (b :: t).drop 1 = t := rfl
      simp only [hdr, hdr2]
      rw [numberAt_ok t 511 (by decide), number_good t 511 (by decide), opt_of, opt_of]
      by_cases a3 : (numV t 511).2.2 = 0
      · obtain ⟨v3, e3, m3, q3⟩ := numV_b t 511 a3
        rw [if_pos a3, a3, cond_ff (by rfl)]
        generalize hu : (numV t 511).2.1 = u at q3 ⊢
        simp only
        rw [PTreeInt.rget_ok u F0 (by have hbig := PTreeText.big (F0 := F0); omega), opt_of, int_good u, opt_of]
        by_cases a4 : (PTreeInt.getI u).2.2 = 0
        · obtain ⟨k4, e4, m4⟩ := getI_b u a4
          rw [if_pos a4, a4, cond_ff (by rfl), e4, req_pos ⟨by omega, by omega⟩, Int.toNat_natCast]
          generalize hw : u.drop k4 = w
          have l4 : w.length ≤ u.length := by rw [← hw, List.length_drop]; omega
          simp only
          rw [numberAt_ok w 4096 (by decide), number_good w 4096 (by decide), opt_of, opt_of]
          by_cases a5 : (numV w 4096).2.2 = 0
          · obtain ⟨v5, e5, m5, q5⟩ := numV_b w 4096 a5
            rw [if_pos a5, a5, cond_ff (by rfl)]
            generalize hx : (numV w 4096).2.1 = x at q5 ⊢
            simp only
            rw [numberAt_ok x 300 (by decide), number_good x 300 (by decide), opt_of, lt_of, lt_of, opt_of]
            by_cases a6 : (numV x 300).2.2 = 0
            · obtain ⟨v6, e6, m6, q6⟩ := numV_b x 300 a6
              rw [if_pos a6, a6, cond_ff (by rfl)]
              have hw8 : IntKind.i64.wrap ((8 : Int) * (numV x 300).1) = ((8 * v6 : Nat) : Int) := by rw [e6, w64 (by omega) (by omega)]; omega
              rw [hw8]
              generalize hy : (numV x 300).2.1 = y at q6 ⊢
              simp only
              by_cases a7 : y.length < 8 * v6
              · rw [cond_tt (dlt (by omega))]
                have he : (3 : Int) ≠ 0 := by decide
                obtain ⟨s', ys, hp, hl⟩ := parts_short (F0 := F0) (fun (j17s0_0 : (List UInt8)) (j17i0_1 : Int) (j17x3_5 : (List A8u8)) => (opt (f___tree_reader__text F0 (S_tree_reader.mk j17s0_0 j17i0_1)) fun (r20 : ((List UInt8) × S_tree_reader)) => (some ((S_api_Node.mk (PTreeText.txt F0 s).1 (IntKind.i64.wrap (b.toNat : Int)) (numV t 511).1 (PTreeInt.getI u).1 (numV w 4096).1 j17x3_5 r20.1), (S_tree_reader.mk r20.2.s r20.2.e))))) ((numV x 300).1, ⟨y, 0⟩) v6 0 F0 y [] (by show (numV x 300).1 = _; rw [e6]; omega) (by have hbig := PTreeText.big (F0 := F0); omega) rfl a7 (by have hbig := PTreeText.big (F0 := F0); omega) (by have hbig := PTreeText.big (F0 := F0); omega)
                rw [text_bad s' (by omega) he, opt_of] at hp
                exact ⟨_, _, _, _, _, rfl, hp, by show s'.length ≤ s.length; omega, fun h => absurd h he⟩
              · rw [cond_ff (dge (by omega)), rparts0 _ (numV x 300) v6 y e6 (by omega) (by omega) (by omega), parts0 _ ((numV x 300).1, ⟨y, 0⟩) v6 y e6 (by omega) (by omega) (by omega)]
                generalize hz : y.drop (8 * v6) = z
                have l8 : z.length ≤ y.length := by rw [← hz, List.length_drop]; omega
                obtain ⟨g1, g2, g3, g4⟩ := PTreeText.txt_ok (F0 := F0) z (by omega)
                rw [g2, opt_of, text_good z (by omega), opt_of]
                by_cases a8 : (PTreeText.txt F0 z).2.2 = 0
                · obtain ⟨k8, e8, m8⟩ := g4 a8
                  rw [if_pos a8, a8, cond_ff (by rfl), e8, req_pos ⟨by omega, by omega⟩, Int.toNat_natCast]
                  exact ⟨_, _, _, _, _, rfl, rfl, by simp only [List.length_drop]; omega, fun _ => ⟨rfl, rfl, h3, by simp only [ids_len]; omega⟩⟩
                · rw [if_neg a8, cond_tt (by simpa using a8)]
                  exact ⟨_, _, _, _, _, rfl, rfl, by simp only; omega, fun h => absurd h a8⟩
            · have he := a6
              rw [if_neg a6, cond_tt (by simpa using a6)]
              simp only [text_bad x (by omega) he, b1 x he, number_bad x he, int_bad x he, opt_of, lt_of, at_rep, pe x]
              exact ⟨_, _, _, _, _, rfl, rfl, by omega, fun h => absurd h he⟩
          · have he := a5
            rw [if_neg a5, cond_tt (by simpa using a5)]
            simp only [text_bad w (by omega) he, b1 w he, number_bad w he, int_bad w he, opt_of, lt_of, at_rep, pe w]
            exact ⟨_, _, _, _, _, rfl, rfl, by omega, fun h => absurd h he⟩
        · have he := a4
          rw [if_neg a4, cond_tt (by simpa using a4)]
          simp only [text_bad u (by omega) he, b1 u he, number_bad u he, int_bad u he, opt_of, lt_of, at_rep, pe u]
          exact ⟨_, _, _, _, _, rfl, rfl, by omega, fun h => absurd h he⟩
      · have he := a3
        rw [if_neg a3, cond_tt (by simpa using a3)]
        simp only [text_bad t (by omega) he, b1 t he, number_bad t he, int_bad t he, opt_of, lt_of, at_rep, pe t]
        exact ⟨_, _, _, _, _, rfl, rfl, by omega, fun h => absurd h he⟩
  · rw [if_neg a1, cond_tt (by simpa using a1)]
    have he := a1
    simp only [text_bad s (by omega) he, b1 s he, number_bad s he, int_bad s he, opt_of, lt_of, at_rep, pe s]
    exact ⟨_, _, _, _, _, rfl, rfl, Nat.le_refl _, fun h => absurd h he⟩
/-! directories -/
abbrev Nd := S_api_Node
theorem nodes_bad [NeZero (F0 / 2000000)] (kk : List UInt8 → Int → List Nd → Option (List Nd × Int)) (r : Int × S_tree_reader) {e : Int} (he : e ≠ 0) : ∀ (d j fu : Nat) (s : List UInt8) (xs : List Nd), r.1 = ((j + d : Nat) : Int) → j + d ≤ 64 → xs.length = j → s.length ≤ 9223372036854775807 → d < fu →
    ∃ ys, f_tree_Read_L22 kk r F0 fu s e xs (j : Int) = kk s e ys
  | 0, j, fu + 1, s, xs, hr, hb, hx, hs, hf => by
    rw [f_tree_Read_L22, cond_ff (dge (by omega))]; exact ⟨xs, rfl⟩
  | d + 1, j, fu + 1, s, xs, hr, hb, hx, hs, hf => by
    obtain ⟨n, hn⟩ := node_bad (F0 := F0) s hs he
    rw [f_tree_Read_L22, cond_tt (dlt (by omega)), hn, opt_of]
    simp only
    rw [req_pos ⟨by rw [List.length_singleton]; omega, by rw [List.length_singleton]; omega⟩, wsucc (by omega)]
    exact nodes_bad kk r he d (j + 1) fu s _ (by rw [hr]; omega) (by omega) (by simp [hx]) hs (by omega)
def Good (u : Nd) : Prop := u.Name.length ≤ 1024 ∧ u.Parts.length ≤ 300
theorem nodes_ok [NeZero (F0 / 2000000)] (kk : List UInt8 → Int → List Nd → Option (List Nd × Int)) (r : Int × S_tree_reader) (kk6 : List UInt8 → List Nd → Option (List Nd × Int)) (r3 : Int × List UInt8 × Int) : ∀ (d j fu : Nat) (s : List UInt8) (xs : List Nd), r.1 = ((j + d : Nat) : Int) → r3.1 = ((j + d : Nat) : Int) → j + d ≤ 64 → xs.length = j → (∀ u ∈ xs, Good u) → s.length ≤ 4096 → d < fu →
    (∃ s' ys, f_tree_Read_L22 kk r F0 fu s 0 xs (j : Int) = kk s' 0 ys ∧ f_lumref_TreeRead_L13 r3 kk6 F0 fu s xs (j : Int) = kk6 s' ys ∧ s'.length ≤ 4096 ∧ ys.length = j + d ∧ ∀ u ∈ ys, Good u) ∨
    (∃ e s' ys, e ≠ 0 ∧ f_tree_Read_L22 kk r F0 fu s 0 xs (j : Int) = kk s' e ys ∧ f_lumref_TreeRead_L13 r3 kk6 F0 fu s xs (j : Int) = some ([], e))
  | 0, j, fu + 1, s, xs, hr, hr3, hb, hx, hg, hs, hf => by
    rw [f_tree_Read_L22, f_lumref_TreeRead_L13, cond_ff (dge (by omega)), cond_ff (dge (by omega))]
    exact .inl ⟨s, xs, rfl, rfl, hs, by omega, hg⟩
  | d + 1, j, fu + 1, s, xs, hr, hr3, hb, hx, hg, hs, hf => by
    obtain ⟨n, rest, e, n', s', hA, hB, hl, h0⟩ := node_ok (F0 := F0) s hs
    rw [f_tree_Read_L22, f_lumref_TreeRead_L13, cond_tt (dlt (by omega)), cond_tt (dlt (by omega)), hA, hB, opt_of, opt_of]
    simp only
    by_cases he : e = 0
    · subst he
      obtain ⟨rfl, rfl, hn1, hn2⟩ := h0 rfl
      rw [cond_ff (by rfl), req_pos ⟨by rw [List.length_singleton]; omega, by rw [List.length_singleton]; omega⟩, req_pos ⟨by rw [List.length_singleton]; omega, by rw [List.length_singleton]; omega⟩, wsucc (by omega)]
      have ih := nodes_ok kk r kk6 r3 d (j + 1) fu s' (xs ++ [n']) (by rw [hr]; omega) (by rw [hr3]; omega) (by omega) (by simp [hx]) (fun u hu => by
        rcases List.mem_append.1 hu with hu | hu
        · exact hg u hu
        · rw [List.mem_singleton.1 hu]; exact ⟨hn1, hn2⟩) (by omega) (by omega)
      rw [show j + 1 + d = j + (d + 1) by omega] at ih
      exact ih
    · rw [cond_tt (by simpa using he), req_pos ⟨by rw [List.length_singleton]; omega, by rw [List.length_singleton]; omega⟩, wsucc (by omega)]
      obtain ⟨ys, hy⟩ := nodes_bad (F0 := F0) kk r he d (j + 1) fu s' (xs ++ [n']) (by rw [hr]; omega) (by omega) (by simp [hx]) (by omega) (by omega)
      exact .inr ⟨e, s', ys, he, hy, rfl⟩
def tailC : List UInt8 → Int → List Nd → Option (List Nd × Int) := (fun (j3s4_0 : (List UInt8)) (j3i4_1 : Int) (j3x5 : (List S_api_Node)) => (lt (fun (j5s4_0 : (List UInt8)) (j5i4_1 : Int) => (lt (fun (j7s4_0 : (List UInt8)) (j7i4_1 : Int) => (bif (j7i4_1 != (0 : Int)) then (some (([] : List S_api_Node), j7i4_1)) else (some (j3x5, (0 : Int))))) fun (kk8 : (List UInt8) → Int → Option ((List S_api_Node) × Int)) => (bif (j5i4_1 == (0 : Int)) then (opt (f_tree_Check F0 j3x5) fun (r12 : Int) => (opt (f___tree_reader__fail F0 (S_tree_reader.mk j5s4_0 j5i4_1) r12) fun (r14 : S_tree_reader) => (kk8 r14.s r14.e))) else (kk8 j5s4_0 j5i4_1)))) fun (kk6 : (List UInt8) → Int → Option ((List S_api_Node) × Int)) => (bif (!(j3s4_0 == ([] : List UInt8))) then (opt (f___tree_reader__fail F0 (S_tree_reader.mk j3s4_0 j3i4_1) (4 : Int)) fun (r17 : S_tree_reader) => (kk6 r17.s r17.e)) else (kk6 j3s4_0 j3i4_1))))
def tailR : List UInt8 → List Nd → Option (List Nd × Int) := (fun (j5s0 : (List UInt8)) (j5x6 : (List S_api_Node)) => (bif (!(j5s0 == ([] : List UInt8))) then (some (([] : List S_api_Node), (4 : Int))) else (opt (f_lumref_Nodes F0 j5x6) fun (r9 : Int) => (bif (r9 != (0 : Int)) then (some (([] : List S_api_Node), r9)) else (some (j5x6, (0 : Int)))))))
theorem tailC_bad (s : List UInt8) {e : Int} (he : e ≠ 0) (ys : List Nd) : (tailC (F0 := F0)) s e ys = some ([], e) := by
  have h1 : (e == 0) = false := beq_eq_false_iff_ne.2 he
  have h2 : (e != 0) = true := by simpa using he
  unfold tailC
  rw [lt_of]
  cases !(s == ([] : List UInt8)) with
  | true =>
    rw [cond_tt rfl, fail1 he, opt_of]
    simp only
    rw [lt_of, cond_ff h1]
    simp only
    rw [cond_tt h2]
  | false =>
    rw [cond_ff rfl]
    simp only
    rw [lt_of, cond_ff h1]
    simp only
    rw [cond_tt h2]
theorem tail_rest (s : List UInt8) (h : s ≠ []) (ys : List Nd) : (tailC (F0 := F0)) s 0 ys = some ([], 4) ∧ (tailR (F0 := F0)) s ys = some ([], 4) := by
  have hs : (!(s == ([] : List UInt8))) = true := by rw [beq_eq_false_iff_ne.2 h]; rfl
  unfold tailC tailR
  rw [lt_of, hs, cond_tt rfl, fail0, opt_of]
  simp only
  rw [lt_of]
  exact ⟨rfl, rfl⟩
theorem tail_ok [NeZero (F0 / 2000000)] (ys : List Nd) (hg : ∀ u ∈ ys, Good u) : ∃ l e, (tailC (F0 := F0)) [] 0 ys = some (l, e) ∧ (tailR (F0 := F0)) [] ys = some (l, e) ∧ (l = ys ∨ l = []) := by
  obtain ⟨r, h1, h2⟩ := chk_ok ys (fun u hu => by have := (hg u hu).1; omega) F0 (by have hbig := PTreeText.big (F0 := F0); omega)
  have hs : (!(([] : List UInt8) == ([] : List UInt8))) = false := rfl
  have e1 : (tailC (F0 := F0)) [] 0 ys = some (bif r != 0 then ([], r) else (ys, 0)) := by
    unfold tailC
    rw [lt_of, hs, cond_ff rfl]
    simp only
    rw [lt_of, cond_tt (b := ((0 : Int) == 0)) rfl, h1, opt_of, fail0, opt_of]
    simp only
    cases r != 0 <;> rfl
  have e2 : (tailR (F0 := F0)) [] ys = some (bif r != 0 then ([], r) else (ys, 0)) := by
    unfold tailR
    rw [hs, cond_ff rfl, h2, opt_of]
    cases r != 0 <;> rfl
  rw [e1, e2]
  cases r != 0 with
  | true => exact ⟨[], r, rfl, rfl, .inr rfl⟩
  | false => exact ⟨ys, 0, rfl, rfl, .inl rfl⟩
theorem read_ok [NeZero (F0 / 2000000)] (s : List UInt8) : ∃ l e, f_tree_Read F0 s = some (l, e) ∧ f_lumref_TreeRead F0 s = some (l, e) ∧ l.length ≤ 64 ∧ ∀ u ∈ l, Good u := by
  unfold f_tree_Read f_lumref_TreeRead
  by_cases h : (s.length : Int) > 4096
  · rw [cond_tt (decide_eq_true h), cond_tt (decide_eq_true h)]
    exact ⟨[], 2, rfl, rfl, by simp, by simp⟩
  rw [cond_ff (decide_eq_false h), cond_ff (decide_eq_false h), lt_of, numberAt_ok s 64 (by decide), number_good s 64 (by decide), opt_of, opt_of]
  by_cases a : (numV s 64).2.2 = 0
  · obtain ⟨v, e1, m1, q1⟩ := numV_b s 64 a
    rw [if_pos a, a, cond_ff (by rfl), lt_of]
    simp only
    rcases nodes_ok (F0 := F0) (tailC (F0 := F0)) ((numV s 64).1, ⟨(numV s 64).2.1, 0⟩) (tailR (F0 := F0)) (numV s 64) v 0 F0 (numV s 64).2.1 [] (by show (numV s 64).1 = _; rw [e1]; omega) (by rw [e1]; omega) (by have hbig := PTreeText.big (F0 := F0); omega) rfl (by simp) (by have hbig := PTreeText.big (F0 := F0); omega) (by have hbig := PTreeText.big (F0 := F0); omega) with ⟨s', ys, hc, hr, hl, hy, hg⟩ | ⟨e, s', ys, he, hc, hr⟩
    · by_cases hs' : s' = []
      · subst hs'
        obtain ⟨l, e, t1, t2, t3⟩ := tail_ok (F0 := F0) ys hg
        refine ⟨l, e, hc.trans t1, hr.trans t2, ?_, ?_⟩
        · rcases t3 with rfl | rfl
          · omega
          · simp
        · rcases t3 with rfl | rfl
          · exact hg
          · simp
      · obtain ⟨t1, t2⟩ := tail_rest s' hs' ys
        exact ⟨[], 4, hc.trans t1, hr.trans t2, by simp, by simp⟩
    · exact ⟨[], e, hc.trans (tailC_bad s' he ys), hr, by simp, by simp⟩
  · have he := a
    rw [if_neg a, cond_tt (by simpa using a)]
    simp only
    obtain ⟨ys, hc⟩ := nodes_bad (F0 := F0) (tailC (F0 := F0)) ((0 : Int), (⟨s, (numV s 64).2.2⟩ : S_tree_reader)) he 0 0 F0 s [] (by simp) (by have hbig := PTreeText.big (F0 := F0); omega) rfl (by have hbig := PTreeText.big (F0 := F0); omega) (by have hbig := PTreeText.big (F0 := F0); omega)
    exact ⟨[], (numV s 64).2.2, hc.trans (tailC_bad s he ys), rfl, by simp, by simp⟩
end Go.Proofs.YtgmggcpceemnnaaDoor.PTreeReads
