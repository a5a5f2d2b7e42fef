/- The variable internal/bytealg.MaxLen as a fact, and the contract of strings.ReplaceAll. No condition. -/
import Derived.Test.YtjbgahmcobcojaaDoorEn16
import Derived.Test.YtjbgahmcobcojaaDoorShReplS
namespace Go.Proofs.YtjbgahmcobcojaaDoor.En
open Go.RowKit
set_option linter.unusedVariables false
def fMax (g : Nat) : Fact where
  p Z w := Z g ∧ ∃ m, w.cell? ⟨g, 0, none⟩ = some (.int .i64 m)
  keep := fun {Z w w'} hz h => by
    obtain ⟨h3, m, h1⟩ := h
    exact ⟨h3, m, (World.cell?_of_block (a := ⟨g, 0, none⟩) (hz g h3)).trans h1⟩
  mono := fun hz h => ⟨hz _ h.1, h.2⟩
abbrev uMax : Fact := fMax (Tryd.laysM155_ren.g 1)
theorem full_max {w : World} (h : w.ShapedOpen Tryd.prog) : uMax.p (Full w) w := by
  obtain ⟨m, hm⟩ := Tryd.laysM155.s1_3 w h
  refine ⟨?_, m, hm⟩
  rcases Nat.lt_or_ge (Tryd.laysM155_ren.g 1) w.heap.size with h9 | h9
  · exact h9
  · simp [World.cell?, Array.getElem?_eq_none h9] at hm
end Go.Proofs.YtjbgahmcobcojaaDoor.En
namespace Go.Proofs.YtjbgahmcobcojaaDoor
open Go.RowKit YtjbgahmcobcojaaDoor.En
set_option linter.unusedVariables false
def f_strings_ReplaceAll (fu : Nat) (a0 a1 a2 : List UInt8) : Option (List UInt8) := req (a0.length < 4294967281 ∧ 1 ≤ a1.length ∧ a0.length + Lib.count a0 a1 * a2.length ≤ 140737488355328) (some (Lib.replaceAll a0 a1 a2))
theorem f_strings_ReplaceAll_ok (fu : Nat) (a0 a1 a2 : List UInt8) {r : List UInt8} (h : f_strings_ReplaceAll fu a0 a1 a2 = some r) : FnOk Tryd.prog 104 [(str a0), (str a1), (str a2)] [uMax] [] (fun (i : Unit) => { val := (str r) }) := by
  unfold f_strings_ReplaceAll at h
  obtain ⟨hc, h⟩ := req_some h
  obtain rfl := Option.some.inj h
  refine fnok_pre fun w Z hg => ?_
  obtain ⟨m, hm⟩ := (hg uMax (by simp)).2
  exact Any.strings_ReplaceAll { Tryd.laysM155 with } Tryd.Builder_Extra_M155 ⟨a0.toArray⟩ ⟨a1.toArray⟩ ⟨a2.toArray⟩ m w (by simpa [ByteArray.size] using hc.1) hm (by simpa [ByteArray.size] using hc.2.1) (by simpa [ByteArray.size, Lib.countB] using hc.2.2)
end Go.Proofs.YtjbgahmcobcojaaDoor
