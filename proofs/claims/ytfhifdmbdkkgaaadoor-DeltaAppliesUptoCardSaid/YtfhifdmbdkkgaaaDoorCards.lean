/-
  DERIVED. GIVEN WITH THE SEED: THE CARDS: each row of YtfhifdmbdkkgaaaDoorRows.lean that lists a variable, with what it lists TIED to the program's text (the seventh form; the later family's looks); each row that meets fmt, with fmt's text TOLD by the authors' own Lean function (tested against real Go, not proved from fmt's source: count such statements apart). THE CARD IS WHAT COUNTS. Prove the row's statement (the work); the ties are given (YtfhifdmbdkkgaaaDoorTie.lean); close each card by the builder's one call (the guide's Derived/Test/ToyasCard.lean, 'card_holds'). Laid BY PROGRAM, IN A SANDBOX (cutbox-door.mjs). By AI agents, Wed Nov 11 2026. No macro, syntax, notation, axiom, sorry.
-/
import Derived.Test.YtfhifdmbdkkgaaaDoorRows
import GoSem.ClaimSeven
namespace Go.Proofs.YtfhifdmbdkkgaaaDoor
namespace Rows

/-- THE TIED CARD OF 'lumlaw.PressSays'. -/
def pressSaysCard : Claim7 := { stood := { row := pressSaysRow, standIns := [], harness := (true, "75d38f2d6461807de68cfd59a4851c7b5c41ec52e4b336cf62f7c6a88b8cf88e"), looks := false }, kinds := [], alts := [], laidByText := true, laidKinds := [.data, .pinned], laidTests := true, laidLooks := .later }
def PressSaysCardSaid : Prop := Claim7.holds Tryd.pinned (.plain (OpenSpec.ofChange pressSaysSpec)) pressSaysCard

/-- THE TIED CARD OF 'lumlaw.PackMakes'. -/
def packMakesCard : Claim7 := { stood := { row := packMakesRow, standIns := [], harness := (true, "75d38f2d6461807de68cfd59a4851c7b5c41ec52e4b336cf62f7c6a88b8cf88e"), looks := false }, kinds := [], alts := [], laidByText := true, laidKinds := [.data, .pinned], laidTests := true, laidLooks := .later }
def PackMakesCardSaid : Prop := Claim7.holds Tryd.pinned (.plain (OpenSpec.ofChange packMakesSpec)) packMakesCard

/-- THE TIED CARD OF 'lumlaw.DeltaDiffs'. -/
def deltaDiffsCard : Claim7 := { stood := { row := deltaDiffsRow, standIns := [], harness := (true, "75d38f2d6461807de68cfd59a4851c7b5c41ec52e4b336cf62f7c6a88b8cf88e"), looks := false }, kinds := [], alts := [], laidByText := true, laidKinds := [.data, .pinned], laidTests := true, laidLooks := .later }
def DeltaDiffsCardSaid : Prop := Claim7.holds Tryd.pinned (.plain (OpenSpec.ofChange deltaDiffsSpec)) deltaDiffsCard

/-- THE TIED CARD OF 'lumlaw.DeltaApplies'. -/
def deltaAppliesCard : Claim7 := { stood := { row := deltaAppliesRow, standIns := [], harness := (true, "75d38f2d6461807de68cfd59a4851c7b5c41ec52e4b336cf62f7c6a88b8cf88e"), looks := false }, kinds := [], alts := [], laidByText := true, laidKinds := [.data, .pinned], laidTests := true, laidLooks := .later }
def DeltaAppliesCardSaid : Prop := Claim7.holds Tryd.pinned (.plain (OpenSpec.ofChange deltaAppliesSpec)) deltaAppliesCard

/-- THE TIED CARD OF 'lumlaw.GlobSkips'. -/
def globSkipsCard : Claim7 := { stood := { row := globSkipsRow, standIns := [], harness := (true, "75d38f2d6461807de68cfd59a4851c7b5c41ec52e4b336cf62f7c6a88b8cf88e"), looks := false }, kinds := [], alts := [], laidByText := true, laidKinds := [.data, .pinned], laidTests := true, laidLooks := .later }
def GlobSkipsCardSaid : Prop := Claim7.holds Tryd.pinned (.plain (OpenSpec.ofChange globSkipsSpec)) globSkipsCard

/-- THE TIED CARD OF 'lumlaw.GlobMatches'. -/
def globMatchesCard : Claim7 := { stood := { row := globMatchesRow, standIns := [], harness := (true, "75d38f2d6461807de68cfd59a4851c7b5c41ec52e4b336cf62f7c6a88b8cf88e"), looks := false }, kinds := [], alts := [], laidByText := true, laidKinds := [.data, .pinned], laidTests := true, laidLooks := .later }
def GlobMatchesCardSaid : Prop := Claim7.holds Tryd.pinned (.plain (OpenSpec.ofChange globMatchesSpec)) globMatchesCard

/-- THE TIED CARD OF 'lumlaw.FetchTexts'. -/
def fetchTextsCard : Claim7 := { stood := { row := fetchTextsRow, standIns := [], harness := (true, "75d38f2d6461807de68cfd59a4851c7b5c41ec52e4b336cf62f7c6a88b8cf88e"), looks := false }, kinds := [], alts := [], laidByText := true, laidKinds := [.data, .pinned], laidTests := true, laidLooks := .later }
def FetchTextsCardSaid : Prop := Claim7.holds Tryd.pinned (.plain (OpenSpec.ofChange fetchTextsSpec)) fetchTextsCard

/-- THE SECOND FORM's CARD OF 'lumlaw.PressSays'. -/
def pressSaysUptoCard : Claim7 := { stood := { row := pressSaysUptoRow, standIns := [], harness := (true, "75d38f2d6461807de68cfd59a4851c7b5c41ec52e4b336cf62f7c6a88b8cf88e"), looks := false }, kinds := [], alts := [], laidByText := true, laidKinds := [.data, .pinned], laidTests := true, laidLooks := .later }
def PressSaysUptoCardSaid : Prop := Claim7.holds Tryd.pinned (.plain (OpenSpec.upto pressSaysSpec)) pressSaysUptoCard

/-- THE SECOND FORM's CARD OF 'lumlaw.PackMakes'. -/
def packMakesUptoCard : Claim7 := { stood := { row := packMakesUptoRow, standIns := [], harness := (true, "75d38f2d6461807de68cfd59a4851c7b5c41ec52e4b336cf62f7c6a88b8cf88e"), looks := false }, kinds := [], alts := [], laidByText := true, laidKinds := [.data, .pinned], laidTests := true, laidLooks := .later }
def PackMakesUptoCardSaid : Prop := Claim7.holds Tryd.pinned (.plain (OpenSpec.upto packMakesSpec)) packMakesUptoCard

/-- THE SECOND FORM's CARD OF 'lumlaw.DeltaDiffs'. -/
def deltaDiffsUptoCard : Claim7 := { stood := { row := deltaDiffsUptoRow, standIns := [], harness := (true, "75d38f2d6461807de68cfd59a4851c7b5c41ec52e4b336cf62f7c6a88b8cf88e"), looks := false }, kinds := [], alts := [], laidByText := true, laidKinds := [.data, .pinned], laidTests := true, laidLooks := .later }
def DeltaDiffsUptoCardSaid : Prop := Claim7.holds Tryd.pinned (.plain (OpenSpec.upto deltaDiffsSpec)) deltaDiffsUptoCard

/-- THE SECOND FORM's CARD OF 'lumlaw.DeltaApplies'. -/
def deltaAppliesUptoCard : Claim7 := { stood := { row := deltaAppliesUptoRow, standIns := [], harness := (true, "75d38f2d6461807de68cfd59a4851c7b5c41ec52e4b336cf62f7c6a88b8cf88e"), looks := false }, kinds := [], alts := [], laidByText := true, laidKinds := [.data, .pinned], laidTests := true, laidLooks := .later }
def DeltaAppliesUptoCardSaid : Prop := Claim7.holds Tryd.pinned (.plain (OpenSpec.upto deltaAppliesSpec)) deltaAppliesUptoCard

/-- THE SECOND FORM's CARD OF 'lumlaw.GlobSkips'. -/
def globSkipsUptoCard : Claim7 := { stood := { row := globSkipsUptoRow, standIns := [], harness := (true, "75d38f2d6461807de68cfd59a4851c7b5c41ec52e4b336cf62f7c6a88b8cf88e"), looks := false }, kinds := [], alts := [], laidByText := true, laidKinds := [.data, .pinned], laidTests := true, laidLooks := .later }
def GlobSkipsUptoCardSaid : Prop := Claim7.holds Tryd.pinned (.plain (OpenSpec.upto globSkipsSpec)) globSkipsUptoCard

/-- THE SECOND FORM's CARD OF 'lumlaw.GlobMatches'. -/
def globMatchesUptoCard : Claim7 := { stood := { row := globMatchesUptoRow, standIns := [], harness := (true, "75d38f2d6461807de68cfd59a4851c7b5c41ec52e4b336cf62f7c6a88b8cf88e"), looks := false }, kinds := [], alts := [], laidByText := true, laidKinds := [.data, .pinned], laidTests := true, laidLooks := .later }
def GlobMatchesUptoCardSaid : Prop := Claim7.holds Tryd.pinned (.plain (OpenSpec.upto globMatchesSpec)) globMatchesUptoCard

/-- THE SECOND FORM's CARD OF 'lumlaw.FetchTexts'. -/
def fetchTextsUptoCard : Claim7 := { stood := { row := fetchTextsUptoRow, standIns := [], harness := (true, "75d38f2d6461807de68cfd59a4851c7b5c41ec52e4b336cf62f7c6a88b8cf88e"), looks := false }, kinds := [], alts := [], laidByText := true, laidKinds := [.data, .pinned], laidTests := true, laidLooks := .later }
def FetchTextsUptoCardSaid : Prop := Claim7.holds Tryd.pinned (.plain (OpenSpec.upto fetchTextsSpec)) fetchTextsUptoCard
end Rows
end Go.Proofs.YtfhifdmbdkkgaaaDoor
