/- Records with checksums: JournalSays. No condition. -/
import Derived.Test.YtjbgahmcobcojaaDoorJoJf
namespace Go.Proofs.YtjbgahmcobcojaaDoor.PJournalSays
open Go.RowKit YtjbgahmcobcojaaDoor.En YtjbgahmcobcojaaDoor Num Mix Go.Lib PPut JF
set_option linter.unusedVariables false
set_option linter.unusedSimpArgs false
theorem frames_go {F : List UInt8 → A8u8} (hF : IdF F) (l : List (List UInt8)) (hl : l.length ≤ 9223372036854775807) (fu0 : Nat) (hfu : 6000 ≤ fu0) : ∀ (d i k q : Nat) (out : List UInt8), l.length - i = d → i ≤ l.length → d < k → d < q → out.length ≤ 65536 →
    ∃ r, f_journal_All_L5 l (fun j => some (j, 0)) fu0 k out (i : Int) = some r ∧ f_lumref_Frames_L5 l (fun j => some (j, 0)) fu0 q out (i : Int) = some r := by
  intro d
  induction d with
  | zero =>
    intro i k q out h1 h2 h3 h4 h5
    obtain ⟨k, rfl⟩ : ∃ k', k = k' + 1 := ⟨k - 1, by omega⟩
    obtain ⟨q, rfl⟩ : ∃ q', q = q' + 1 := ⟨q - 1, by omega⟩
    rw [f_journal_All_L5, f_lumref_Frames_L5, cond_ff (dge (by omega)), cond_ff (dge (by omega))]
    exact ⟨_, rfl, rfl⟩
  | succ d ih =>
    intro i k q out h1 h2 h3 h4 h5
    obtain ⟨k, rfl⟩ : ∃ k', k = k' + 1 := ⟨k - 1, by omega⟩
    obtain ⟨q, rfl⟩ : ∃ q', q = q' + 1 := ⟨q - 1, by omega⟩
    have hlt : i < l.length := by omega
    rw [f_journal_All_L5, f_lumref_Frames_L5, cond_tt (dlt (by omega)), cond_tt (dlt (by omega)), at_lt hlt, opt_of, opt_of]
    obtain ⟨u, hu⟩ : ∃ u, u = l[i] := ⟨_, rfl⟩
    rw [← hu]
    by_cases hb : 4096 < u.length
    · rw [frame_large fu0 u hb, opt_of, decide_eq_true (show ((u.length : Nat) : Int) > 4096 by omega), cond_tt rfl]
      dsimp only
      rw [cond_tt (show ((2 : Int) != 0) = true from rfl)]
      exact ⟨_, rfl, rfl⟩
    · have hp := putV_len u.length
      have hfl := frameV_len F u
      rw [frame_ok hF fu0 hfu u (by omega), rframe_ok hF fu0 hfu u (by omega), opt_of, decide_eq_false (show ¬ ((u.length : Nat) : Int) > 4096 by omega), cond_ff rfl, opt_of]
      obtain ⟨f, hf⟩ : ∃ f, f = frameV F u := ⟨_, rfl⟩
      rw [← hf] at hfl ⊢
      dsimp only
      rw [cond_ff (show ((0 : Int) != 0) = false from rfl), req_pos (by omega), req_pos (by omega)]
      by_cases hbig : (out ++ f).length > 65536
      · rw [decide_eq_true (show (((out ++ f).length : Nat) : Int) > 65536 by omega), cond_tt rfl, cond_tt rfl]
        exact ⟨_, rfl, rfl⟩
      · rw [decide_eq_false (show ¬ (((out ++ f).length : Nat) : Int) > 65536 by omega), cond_ff rfl, cond_ff rfl, wsucc (by omega)]
        exact ih (i + 1) k q (out ++ f) (by omega) (by omega) (by omega) (by omega) (by omega)
theorem eq_go (a : List (List UInt8)) (ha : a.length < 9000000000000000000) (kk : Unit → Option Bool) : ∀ (d j fu : Nat), a.length - j = d → j ≤ a.length → d < fu → f_slices_Equal___string_string__L6 a a kk fu (j : Int) = kk ()
  | 0, j, fu + 1, hd, hj, _ => by rw [f_slices_Equal___string_string__L6, cond_ff (dge (by omega))]
  | d + 1, j, fu + 1, hd, hj, hf => by
    have hlt : j < a.length := by omega
    rw [f_slices_Equal___string_string__L6, cond_tt (dlt (by omega)), at_lt hlt, opt_of, opt_of, cond_ff (by simp), wsucc (by omega)]
    exact eq_go a ha kk d (j + 1) fu (by omega) (by omega) (by omega)
theorem eq_ok (a : List (List UInt8)) (ha : a.length < 9000000000000000000) (fu : Nat) (hf : a.length < fu) : f_slices_Equal___string_string_ fu a a = some true := by
  unfold f_slices_Equal___string_string_
  rw [cond_ff (by simp), lt_of]
  exact eq_go a ha _ a.length 0 fu (by omega) (by omega) (by omega)
theorem law_ok (s : List UInt8) (l : List (List UInt8)) (hs : s.length ≤ 1048576) (hl : l.length ≤ 9223372036854775807) (fu : Nat) (hfu : 2000000 + l.length ≤ fu) : f_lumlaw_JournalSays fu s l = some true := by
  obtain ⟨F, hF⟩ := id_ex
  obtain ⟨⟨r1, r2⟩, a1, a2⟩ := frames_go hF l (by omega) fu (by omega) l.length 0 fu fu [] (by omega) (by omega) (by omega) (by omega) (by simp)
  have b1 : f_journal_All fu l = some (r1, r2) := by unfold f_journal_All; rw [lt_of]; exact a1
  have b2 : f_lumref_Frames fu l = some (r1, r2) := by unfold f_lumref_Frames; rw [lt_of]; exact a2
  obtain ⟨m, n, c2, c1, c3, _⟩ := scans_ok hF s hs fu (by omega)
  have d1 := eq_ok m (by omega) fu (by omega)
  unfold f_lumlaw_JournalSays
  simp only [lt_of]
  rw [b1, b2, c1, c2]
  simp only [opt_of]
  rw [beq_self_eq_true, beq_self_eq_true, beq_self_eq_true, d1]
  simp only [opt_of, cond_true]
  by_cases hb : 4096 < s.length
  · rw [frame_large fu s hb]
    simp only [opt_of]
    rw [decide_eq_true (show ((s.length : Nat) : Int) > 4096 by omega), cond_tt rfl]
    rfl
  · rw [frame_ok hF fu (by omega) s (by omega), rframe_ok hF fu (by omega) s (by omega)]
    simp only [opt_of]
    obtain ⟨f, hf⟩ : ∃ f, f = frameV F s := ⟨_, rfl⟩
    rw [← hf, decide_eq_false (show ¬ ((s.length : Nat) : Int) > 4096 by omega), cond_ff rfl, beq_self_eq_true]
    rfl
def fuel (_ : List UInt8) (l : List (List UInt8)) : Nat := 2000000 + l.length
theorem says (s : List UInt8) (l : List (List UInt8)) (ok0 : s.length ≤ 9223372036854775807) (ok1 : okL (fun y : List UInt8 => y.length ≤ 9223372036854775807) l) (hs : s.length ≤ 1048576) : f_lumlaw_JournalSays (fuel s l) s l = some true := law_ok s l hs ok1.1 _ (Nat.le_refl _)
end Go.Proofs.YtjbgahmcobcojaaDoor.PJournalSays
