/-
  DERIVED. GIVEN WITH THE SEED: THE CARDS: each row of YtfhifdmbdkkgaaaGreatDoorRows.lean that lists a variable, with what it lists TIED to the program's text (the seventh form; the later family's looks); each row that meets fmt, with fmt's text TOLD by the authors' own Lean function (tested against real Go, not proved from fmt's source: count such statements apart). THE CARD IS WHAT COUNTS. Prove the row's statement (the work); the ties are given (YtfhifdmbdkkgaaaGreatDoorTie.lean); close each card by the builder's one call (the guide's Derived/Test/ToyasCard.lean, 'card_holds'). Laid BY PROGRAM, IN A SANDBOX (cutbox-door.mjs). By AI agents, Wed Nov 11 2026. No macro, syntax, notation, axiom, sorry.
-/
import Derived.Test.YtfhifdmbdkkgaaaGreatDoorRows
import GoSem.ClaimSeven
namespace Go.Proofs.YtfhifdmbdkkgaaaGreatDoor
namespace Rows

/-- THE TIED CARD OF 'lumlaw.MoveReads'. -/
def moveReadsCard : Claim7 := { stood := { row := moveReadsRow, standIns := [], harness := (true, "9b55b23041a479f8ad4699c1a4b28487531ade32ff71c259069ea5c6eb967b17"), looks := false }, kinds := [], alts := [], laidByText := true, laidKinds := [.data, .pinned], laidTests := true, laidLooks := .later }
def MoveReadsCardSaid : Prop := Claim7.holds Tryz.pinned (.plain (OpenSpec.ofChange moveReadsSpec)) moveReadsCard

/-- THE TIED CARD OF 'lumlaw.WalkPlants'. -/
def walkPlantsCard : Claim7 := { stood := { row := walkPlantsRow, standIns := [], harness := (true, "9b55b23041a479f8ad4699c1a4b28487531ade32ff71c259069ea5c6eb967b17"), looks := false }, kinds := [], alts := [], laidByText := true, laidKinds := [.data, .pinned], laidTests := true, laidLooks := .later }
def WalkPlantsCardSaid : Prop := Claim7.holds Tryz.pinned (.plain (OpenSpec.ofChange walkPlantsSpec)) walkPlantsCard

/-- THE SECOND FORM's CARD OF 'lumlaw.MoveReads'. -/
def moveReadsUptoCard : Claim7 := { stood := { row := moveReadsUptoRow, standIns := [], harness := (true, "9b55b23041a479f8ad4699c1a4b28487531ade32ff71c259069ea5c6eb967b17"), looks := false }, kinds := [], alts := [], laidByText := true, laidKinds := [.data, .pinned], laidTests := true, laidLooks := .later }
def MoveReadsUptoCardSaid : Prop := Claim7.holds Tryz.pinned (.plain (OpenSpec.upto moveReadsSpec)) moveReadsUptoCard

/-- THE SECOND FORM's CARD OF 'lumlaw.WalkPlants'. -/
def walkPlantsUptoCard : Claim7 := { stood := { row := walkPlantsUptoRow, standIns := [], harness := (true, "9b55b23041a479f8ad4699c1a4b28487531ade32ff71c259069ea5c6eb967b17"), looks := false }, kinds := [], alts := [], laidByText := true, laidKinds := [.data, .pinned], laidTests := true, laidLooks := .later }
def WalkPlantsUptoCardSaid : Prop := Claim7.holds Tryz.pinned (.plain (OpenSpec.upto walkPlantsSpec)) walkPlantsUptoCard
end Rows
end Go.Proofs.YtfhifdmbdkkgaaaGreatDoor
