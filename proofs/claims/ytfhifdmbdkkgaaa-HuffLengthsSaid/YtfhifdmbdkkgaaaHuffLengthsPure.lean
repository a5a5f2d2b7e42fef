/- The law HuffLengths holds of the plain functions. No condition. -/
import Derived.Test.YtfhifdmbdkkgaaaHlLen
namespace Go.Proofs.Ytfhifdmbdkkgaaa.PHuffLengths
open Go.RowKit Ytfhifdmbdkkgaaa.En Ytfhifdmbdkkgaaa Ytfhifdmbdkkgaaa.PHl
set_option linter.unusedVariables false
set_option linter.unusedSimpArgs false
theorem eq_loop (l : List Int) (hl : l.length ≤ 1000) (kk : Unit → Option Bool) : ∀ (fuel k : Nat), k ≤ l.length → l.length - k < fuel → f_slices_Equal___int_int__L6 l l kk fuel (k : Int) = kk ()
  | 0, k, _, h => absurd h (Nat.not_lt_zero _)
  | fuel + 1, k, hk, hf => by
    rw [f_slices_Equal___int_int__L6]
    by_cases h : k < l.length
    · rw [cond_tt (dlt (by omega)), at_lt h, opt_of, opt_of, cond_ff (by simp), wsucc (by omega)]
      exact eq_loop l hl kk fuel (k + 1) (by omega) (by omega)
    · rw [cond_ff (dge (by omega))]
def fuel (_ : List Int) : Nat := 5000
theorem says (l : List Int) (_ : okL (fun y => (Lit.int .i64 y).wf = true) l) : f_lumlaw_HuffLengths (fuel l) l = some true := by
  unfold f_lumlaw_HuffLengths fuel
  obtain ⟨r, r1, r2, r3⟩ := both_ok l 5000 (by omega)
  rw [r1, opt_of, r2, opt_of, lt_of]
  unfold f_slices_Equal___int_int_
  rw [cond_ff (by simp), lt_of]
  have := eq_loop r.1 (by omega) (fun _ => some true) 5000 0 (Nat.zero_le _) (by omega)
  rw [show f_slices_Equal___int_int__L6 r.1 r.1 (fun _ => some true) 5000 0 = some true from this, opt_of, cond_tt rfl]
  simp
end Go.Proofs.Ytfhifdmbdkkgaaa.PHuffLengths
