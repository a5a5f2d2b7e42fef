/-
  DERIVED. GIVEN WITH THE SEED: THE CARDS: each row of YtpakblkldklbmaaDoorRows.lean that lists a variable, with what it lists TIED to the program's text (the seventh form; the later family's looks); each row that meets fmt, with fmt's text TOLD by the authors' own Lean function (tested against real Go, not proved from fmt's source: count such statements apart). THE CARD IS WHAT COUNTS. Prove the row's statement (the work); the ties are given (YtpakblkldklbmaaDoorTie.lean); close each card by the builder's one call (the guide's Derived/Test/ToyasCard.lean, 'card_holds'). Laid BY PROGRAM, IN A SANDBOX (cutbox-door.mjs). By AI agents, Wed Nov 11 2026. No macro, syntax, notation, axiom, sorry.
-/
import Derived.Test.YtpakblkldklbmaaDoorRows
import GoSem.ClaimSeven
namespace Go.Proofs.YtpakblkldklbmaaDoor
namespace Rows

/-- THE TIED CARD OF 'lumlaw.GlobSkips'. -/
def globSkipsCard : Claim7 := { stood := { row := globSkipsRow, standIns := [], harness := (true, "699e3bba6a7ab6f3bf219cdafc78ef10770c6b0a0db0f17c92a5c3f7eb64b65c"), looks := false }, kinds := [], alts := [], laidByText := true, laidKinds := [.data, .pinned], laidTests := true, laidLooks := .later }
def GlobSkipsCardSaid : Prop := Claim7.holds Tryd.pinned (.plain (OpenSpec.ofChange globSkipsSpec)) globSkipsCard

/-- THE TIED CARD OF 'lumlaw.GlobMatches'. -/
def globMatchesCard : Claim7 := { stood := { row := globMatchesRow, standIns := [], harness := (true, "699e3bba6a7ab6f3bf219cdafc78ef10770c6b0a0db0f17c92a5c3f7eb64b65c"), looks := false }, kinds := [], alts := [], laidByText := true, laidKinds := [.data, .pinned], laidTests := true, laidLooks := .later }
def GlobMatchesCardSaid : Prop := Claim7.holds Tryd.pinned (.plain (OpenSpec.ofChange globMatchesSpec)) globMatchesCard

/-- THE TIED CARD OF 'lumlaw.FetchTexts'. -/
def fetchTextsCard : Claim7 := { stood := { row := fetchTextsRow, standIns := [], harness := (true, "699e3bba6a7ab6f3bf219cdafc78ef10770c6b0a0db0f17c92a5c3f7eb64b65c"), looks := false }, kinds := [], alts := [], laidByText := true, laidKinds := [.data, .pinned], laidTests := true, laidLooks := .later }
def FetchTextsCardSaid : Prop := Claim7.holds Tryd.pinned (.plain (OpenSpec.ofChange fetchTextsSpec)) fetchTextsCard

/-- THE SECOND FORM's CARD OF 'lumlaw.GlobSkips'. -/
def globSkipsUptoCard : Claim7 := { stood := { row := globSkipsUptoRow, standIns := [], harness := (true, "699e3bba6a7ab6f3bf219cdafc78ef10770c6b0a0db0f17c92a5c3f7eb64b65c"), looks := false }, kinds := [], alts := [], laidByText := true, laidKinds := [.data, .pinned], laidTests := true, laidLooks := .later }
def GlobSkipsUptoCardSaid : Prop := Claim7.holds Tryd.pinned (.plain (OpenSpec.upto globSkipsSpec)) globSkipsUptoCard

/-- THE SECOND FORM's CARD OF 'lumlaw.GlobMatches'. -/
def globMatchesUptoCard : Claim7 := { stood := { row := globMatchesUptoRow, standIns := [], harness := (true, "699e3bba6a7ab6f3bf219cdafc78ef10770c6b0a0db0f17c92a5c3f7eb64b65c"), looks := false }, kinds := [], alts := [], laidByText := true, laidKinds := [.data, .pinned], laidTests := true, laidLooks := .later }
def GlobMatchesUptoCardSaid : Prop := Claim7.holds Tryd.pinned (.plain (OpenSpec.upto globMatchesSpec)) globMatchesUptoCard

/-- THE SECOND FORM's CARD OF 'lumlaw.FetchTexts'. -/
def fetchTextsUptoCard : Claim7 := { stood := { row := fetchTextsUptoRow, standIns := [], harness := (true, "699e3bba6a7ab6f3bf219cdafc78ef10770c6b0a0db0f17c92a5c3f7eb64b65c"), looks := false }, kinds := [], alts := [], laidByText := true, laidKinds := [.data, .pinned], laidTests := true, laidLooks := .later }
def FetchTextsUptoCardSaid : Prop := Claim7.holds Tryd.pinned (.plain (OpenSpec.upto fetchTextsSpec)) fetchTextsUptoCard
end Rows
end Go.Proofs.YtpakblkldklbmaaDoor
