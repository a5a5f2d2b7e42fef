/- An engine for walks: contracts of the library taken over, elements' fields, and more operations. No condition. -/
import Derived.Test.YtaoopodaalhheaaEn13
namespace Go.Proofs.Ytaoopodaalhheaa.En
open Go.RowKit
set_option linter.unusedVariables false
set_option linter.unusedSimpArgs false
/-- a contract of a call that only adds to memory -/
theorem fnok_pure {P : Program} {f : FuncId} {args : List Value} {v : Value} (h : ∀ w, Calls P f args.toArray w fun e w' => e = .returned v ∧ Below w.heap.size w w') : FnOk P f args [] [] (fun _ : Unit => { val := v }) := fun w Z hZ hnd hX hpre hoin =>
  (h w).mono fun e w' ⟨he, hb⟩ => ⟨(), he, Bel.of hb, by simp, by simp, fun Z' _ => ⟨by simp, by simp⟩⟩
end Go.Proofs.Ytaoopodaalhheaa.En
