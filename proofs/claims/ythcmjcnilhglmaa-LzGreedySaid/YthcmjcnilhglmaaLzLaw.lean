/- The law LzGreedy, walked. No condition. -/
import Derived.Test.YthcmjcnilhglmaaLzRef
import Derived.Test.YthcmjcnilhglmaaLzEqual
import Derived.Test.YthcmjcnilhglmaaFlat
namespace Go.Proofs.Ythcmjcnilhglmaa.Lz
open Go.RowKit
set_option linter.unusedSimpArgs false
set_option linter.unusedVariables false
theorem tok_mem (s : ByteArray) : ∀ (f at_ : Nat), ∀ t ∈ toks s f at_, t.lit < 256 ∧ t.len ≤ 255 ∧ t.dist ≤ 1024
  | 0, _, t, h => by cases h
  | f + 1, at_, t, h => by
    unfold toks at h
    split at h
    · rcases List.mem_cons.1 h with rfl | h
      · have h1 := bAt_lt s at_
        have h2 := best_le s at_
        have h3 := best_dist s at_
        have h4 : mostAt s at_ ≤ 255 := by unfold mostAt; omega
        unfold tokAt
        split
        · exact ⟨h1, by simp, by simp⟩
        · exact ⟨by simp, by simp; omega, by simp; omega⟩
      · exact tok_mem s f _ t h
    · cases h
theorem greedy_long (s : ByteArray) (hs : 4096 < s.size) (w : World) :
    Calls Try.prog 15 #[.string s] w fun e w' => e = .returned (.tuple #[.slice none 0 0, .int .i64 2]) ∧ w = w' := by
  go_enter Try.func15, Try.ntmps15
  go_wp2
  go_ret2
  exact ⟨rfl, rfl⟩
theorem leaf_mk {P : Program} {t : TypeId} {q : IntKind} {n : Int} (hu : P.underlying t = some (.int q)) (h : (Lit.int q n).wf = true) : leafOk P t (.int q n) = true := by
  unfold leafOk; rw [hu]; simpa using h
theorem toks_fits (s : ByteArray) (ls : List TypeId) (hls : leaves Try.prog 3 32 = some ls) (k : Nat) (hk : k < (toksFrom s 0).length) :
    fits Try.prog ls ((((toksFrom s 0).flatMap Tok.cells).drop (k * 3)).take 3) = true := by
  have h0 : leaves Try.prog 3 32 = some [5, 3, 3] := by kernel_rfl
  rw [h0] at hls
  cases hls
  rw [flat_chunk Tok.cells Tok.cells_len _ (List.getElem?_eq_getElem hk)]
  obtain ⟨h1, h2, h3⟩ := tok_mem s _ _ _ (List.getElem_mem hk)
  generalize (toksFrom s 0)[k] = t at h1 h2 h3
  simp only [Tok.cells, fits, Bool.and_true, Bool.and_eq_true]
  exact ⟨leaf_mk Try.underlying5 (by rw [wf_u8]; omega), leaf_mk Try.underlying3 (by rw [wf_i64]; omega), leaf_mk Try.underlying3 (by rw [wf_i64]; omega)⟩
set_option maxRecDepth 100000 in
theorem law_any (s : ByteArray) (hm : s.size ≤ 9223372036854775807) (w : World) :
    Calls Try.prog 4 #[.string s] w fun e w' => e = .returned (.bool true) ∧ Below w.heap.size w w' := by
  by_cases hs : s.size ≤ 4096
  · go_enter Try.func4, Try.ntmps4
    obtain ⟨ls, hls⟩ : ∃ ls, leaves Try.prog 3 32 = some ls := ⟨[5, 3, 3], by kernel_rfl⟩
    have hfit := toks_fits s ls hls
    have HFIT := Lib.hid hfit
    have HLS := Lib.hid hls
    clear hfit hls
    have hlen := toksFrom_len s s.size 0 (by omega)
    obtain ⟨xs, hxs⟩ : ∃ xs, xs = (toksFrom s 0).flatMap Tok.cells := ⟨_, rfl⟩
    obtain ⟨n, hn⟩ : ∃ n, n = (toksFrom s 0).length := ⟨_, rfl⟩
    have hg := greedy_any s hs
    have hr := rgreedy_any s hs
    rw [← hxs, ← hn] at hg hr HFIT
    rw [← hn] at hlen
    clear hxs hn
    go_wp2_with (first
      | (go_at_call 15; refine (hg _).mono ?_; rintro e w1 ⟨v1, rfl, ho1, hb1⟩; obtain ⟨A1, c1, rfl, hr1⟩ := Rd.of_own ho1)
      | (go_at_call 17; refine (hr _).mono ?_; rintro e w2 ⟨v2, rfl, ho2, hb2⟩; obtain ⟨A2, c2, rfl, hr2⟩ := Rd.of_own ho2)
      | (go_at_call 16; refine (eqTok _ _ _ _ n xs ls HLS.out HFIT.out (by omega) _ ((hr1.below hb2 (Nat.le_refl _)).more hb2.size) hr2).mono ?_; rintro e w3 ⟨rfl, hb3⟩))
    go_ret
    exact ⟨rfl, (hb1.trans (hb2.mono hb1.size)).trans (hb3.mono (Nat.le_trans hb1.size hb2.size))⟩
  · go_enter Try.func4, Try.ntmps4
    go_wp2_with (go_at_call 15; refine (greedy_long s (by omega) _).mono ?_; rintro e w1 ⟨rfl, rfl⟩)
    go_ret
    exact ⟨rfl, Below.refl _ _⟩
end Go.Proofs.Ythcmjcnilhglmaa.Lz
