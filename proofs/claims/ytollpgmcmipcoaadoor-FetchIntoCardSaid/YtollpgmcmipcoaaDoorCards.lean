/-
  DERIVED. GIVEN WITH THE SEED: THE CARDS: each row of YtollpgmcmipcoaaDoorRows.lean that lists a variable, with what it lists TIED to the program's text (the seventh form; the later family's looks); each row that meets fmt, with fmt's text TOLD by the authors' own Lean function (tested against real Go, not proved from fmt's source: count such statements apart). THE CARD IS WHAT COUNTS. Prove the row's statement (the work); the ties are given (YtollpgmcmipcoaaDoorTie.lean); close each card by the builder's one call (the guide's Derived/Test/ToyasCard.lean, 'card_holds'). Laid BY PROGRAM, IN A SANDBOX (cutbox-door.mjs). By AI agents, Wed Nov 11 2026. No macro, syntax, notation, axiom, sorry.
-/
import Derived.Test.YtollpgmcmipcoaaDoorRows
import GoSem.ClaimSeven
namespace Go.Proofs.YtollpgmcmipcoaaDoor
namespace Rows

/-- THE TIED CARD OF 'lumlaw.FetchInto'. -/
def fetchIntoCard : Claim7 := { stood := { row := fetchIntoRow, standIns := [], harness := (true, "fd93347a872e7274e6a4ed713bc07081d31c841758753c9fb36d894f61e3b870"), looks := false }, kinds := [], alts := [], laidByText := true, laidKinds := [.data, .pinned], laidTests := true, laidLooks := .later }
def FetchIntoCardSaid : Prop := Claim7.holds Tryd.pinned (.plain (OpenSpec.ofChange fetchIntoSpec)) fetchIntoCard

/-- THE TIED CARD OF 'lumlaw.FetchTexts'. -/
def fetchTextsCard : Claim7 := { stood := { row := fetchTextsRow, standIns := [], harness := (true, "fd93347a872e7274e6a4ed713bc07081d31c841758753c9fb36d894f61e3b870"), looks := false }, kinds := [], alts := [], laidByText := true, laidKinds := [.data, .pinned], laidTests := true, laidLooks := .later }
def FetchTextsCardSaid : Prop := Claim7.holds Tryd.pinned (.plain (OpenSpec.ofChange fetchTextsSpec)) fetchTextsCard

/-- THE TIED CARD OF 'lumlaw.GlobMatches'. -/
def globMatchesCard : Claim7 := { stood := { row := globMatchesRow, standIns := [], harness := (true, "fd93347a872e7274e6a4ed713bc07081d31c841758753c9fb36d894f61e3b870"), looks := false }, kinds := [], alts := [], laidByText := true, laidKinds := [.data, .pinned], laidTests := true, laidLooks := .later }
def GlobMatchesCardSaid : Prop := Claim7.holds Tryd.pinned (.plain (OpenSpec.ofChange globMatchesSpec)) globMatchesCard

/-- THE SECOND FORM's CARD OF 'lumlaw.FetchInto'. -/
def fetchIntoUptoCard : Claim7 := { stood := { row := fetchIntoUptoRow, standIns := [], harness := (true, "fd93347a872e7274e6a4ed713bc07081d31c841758753c9fb36d894f61e3b870"), looks := false }, kinds := [], alts := [], laidByText := true, laidKinds := [.data, .pinned], laidTests := true, laidLooks := .later }
def FetchIntoUptoCardSaid : Prop := Claim7.holds Tryd.pinned (.plain (OpenSpec.upto fetchIntoSpec)) fetchIntoUptoCard

/-- THE SECOND FORM's CARD OF 'lumlaw.FetchTexts'. -/
def fetchTextsUptoCard : Claim7 := { stood := { row := fetchTextsUptoRow, standIns := [], harness := (true, "fd93347a872e7274e6a4ed713bc07081d31c841758753c9fb36d894f61e3b870"), looks := false }, kinds := [], alts := [], laidByText := true, laidKinds := [.data, .pinned], laidTests := true, laidLooks := .later }
def FetchTextsUptoCardSaid : Prop := Claim7.holds Tryd.pinned (.plain (OpenSpec.upto fetchTextsSpec)) fetchTextsUptoCard

/-- THE SECOND FORM's CARD OF 'lumlaw.GlobMatches'. -/
def globMatchesUptoCard : Claim7 := { stood := { row := globMatchesUptoRow, standIns := [], harness := (true, "fd93347a872e7274e6a4ed713bc07081d31c841758753c9fb36d894f61e3b870"), looks := false }, kinds := [], alts := [], laidByText := true, laidKinds := [.data, .pinned], laidTests := true, laidLooks := .later }
def GlobMatchesUptoCardSaid : Prop := Claim7.holds Tryd.pinned (.plain (OpenSpec.upto globMatchesSpec)) globMatchesUptoCard
end Rows
end Go.Proofs.YtollpgmcmipcoaaDoor
