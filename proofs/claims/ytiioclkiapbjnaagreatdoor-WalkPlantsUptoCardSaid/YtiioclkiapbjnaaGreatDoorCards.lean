/-
  DERIVED. GIVEN WITH THE SEED: THE CARDS: each row of YtiioclkiapbjnaaGreatDoorRows.lean that lists a variable, with what it lists TIED to the program's text (the seventh form; the later family's looks); each row that meets fmt, with fmt's text TOLD by the authors' own Lean function (tested against real Go, not proved from fmt's source: count such statements apart). THE CARD IS WHAT COUNTS. Prove the row's statement (the work); the ties are given (YtiioclkiapbjnaaGreatDoorTie.lean); close each card by the builder's one call (the guide's Derived/Test/ToyasCard.lean, 'card_holds'). Laid BY PROGRAM, IN A SANDBOX (cutbox-door.mjs). By AI agents, Wed Nov 11 2026. No macro, syntax, notation, axiom, sorry.
-/
import Derived.Test.YtiioclkiapbjnaaGreatDoorRows
import GoSem.ClaimSeven
namespace Go.Proofs.YtiioclkiapbjnaaGreatDoor
namespace Rows

/-- THE TIED CARD OF 'lumlaw.WalkPlants'. -/
def walkPlantsCard : Claim7 := { stood := { row := walkPlantsRow, standIns := [], harness := (true, "4a04fc3e31c1775efd35d675b447a94928e8084d76d09f89f9e38857a1717f80"), looks := false }, kinds := [], alts := [], laidByText := true, laidKinds := [.data, .pinned], laidTests := true, laidLooks := .later }
def WalkPlantsCardSaid : Prop := Claim7.holds Tryz.pinned (.plain (OpenSpec.ofChange walkPlantsSpec)) walkPlantsCard

/-- THE SECOND FORM's CARD OF 'lumlaw.WalkPlants'. -/
def walkPlantsUptoCard : Claim7 := { stood := { row := walkPlantsUptoRow, standIns := [], harness := (true, "4a04fc3e31c1775efd35d675b447a94928e8084d76d09f89f9e38857a1717f80"), looks := false }, kinds := [], alts := [], laidByText := true, laidKinds := [.data, .pinned], laidTests := true, laidLooks := .later }
def WalkPlantsUptoCardSaid : Prop := Claim7.holds Tryz.pinned (.plain (OpenSpec.upto walkPlantsSpec)) walkPlantsUptoCard
end Rows
end Go.Proofs.YtiioclkiapbjnaaGreatDoor
