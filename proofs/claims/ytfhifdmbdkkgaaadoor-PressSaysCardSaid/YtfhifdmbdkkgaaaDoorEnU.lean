/- The tables of unicode/utf8 as facts, and the contract of ValidString. No condition. -/
import Derived.Test.YtfhifdmbdkkgaaaDoorEn14
import Derived.Test.YtfhifdmbdkkgaaaDoorShValid
namespace Go.Proofs.YtfhifdmbdkkgaaaDoor.En
open Go.RowKit
def fUtf8 (g3 g4 : Nat) : Fact where
  p Z w := Z g3 ∧ Z g4 ∧ Lib.Utf8Tabs g3 g4 w
  keep := fun {Z w w'} hz h => by
    obtain ⟨h3, h4, h1, h2⟩ := h
    have e3 : ∀ j, w'.cell? ⟨g3, j, none⟩ = w.cell? ⟨g3, j, none⟩ := fun j => World.cell?_of_block (a := ⟨g3, j, none⟩) (hz g3 h3)
    have e4 : ∀ j, w'.cell? ⟨g4, j, none⟩ = w.cell? ⟨g4, j, none⟩ := fun j => World.cell?_of_block (a := ⟨g4, j, none⟩) (hz g4 h4)
    exact ⟨h3, h4, fun c hc => (e3 c).trans (h1 c hc), fun i hi => ⟨(e4 _).trans (h2 i hi).1, (e4 _).trans (h2 i hi).2⟩⟩
  mono := fun hz h => ⟨hz _ h.1, hz _ h.2.1, h.2.2⟩
abbrev uTabs : Fact := fUtf8 (Tryd.laysValid_ren.g 3) (Tryd.laysValid_ren.g 4)
theorem full_tabs {w : World} (h : Lib.Utf8Tabs (Tryd.laysValid_ren.g 3) (Tryd.laysValid_ren.g 4) w) : uTabs.p (Full w) w := by
  have lt : ∀ (g : Nat) (v : Value), w.cell? ⟨g, 0, none⟩ = some v → g < w.heap.size := fun g v hv => by
    rcases Nat.lt_or_ge g w.heap.size with h9 | h9
    · exact h9
    · simp [World.cell?, Array.getElem?_eq_none h9] at hv
  exact ⟨lt _ _ (h.1 0 (by omega)), lt _ _ (h.2 0 (by omega)).1, h⟩
end Go.Proofs.YtfhifdmbdkkgaaaDoor.En
namespace Go.Proofs.YtfhifdmbdkkgaaaDoor
open Go.RowKit YtfhifdmbdkkgaaaDoor.En
def f_utf8_ValidString (fu : Nat) (a0 : List UInt8) : Option Bool := req (a0.length ≤ 9223372036854775807) (some (Lib.validD a0))
theorem f_utf8_ValidString_ok (fu : Nat) (a0 : List UInt8) {r : Bool} (h : f_utf8_ValidString fu a0 = some r) : FnOk Tryd.prog 119 [(str a0)] [uTabs] [] (fun (i : Unit) => { val := (Value.bool r) }) := by
  unfold f_utf8_ValidString at h
  obtain ⟨hc, h⟩ := req_some h
  obtain rfl := Option.some.inj h
  refine fnok_pre fun w Z hg => ?_
  exact Any.utf8_ValidString Tryd.laysValid ⟨a0.toArray⟩ w (by simpa [ByteArray.size] using hc) (hg uTabs (by simp)).2.2
end Go.Proofs.YtfhifdmbdkkgaaaDoor
