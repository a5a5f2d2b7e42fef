/-
  DERIVED. GIVEN WITH THE SEED: THE CARDS: each row of YtaoopodaalhheaaDoorRows.lean that lists a variable, with what it lists TIED to the program's text (the seventh form; the later family's looks); each row that meets fmt, with fmt's text TOLD by the authors' own Lean function (tested against real Go, not proved from fmt's source: count such statements apart). THE CARD IS WHAT COUNTS. Prove the row's statement (the work); the ties are given (YtaoopodaalhheaaDoorTie.lean); close each card by the builder's one call (the guide's Derived/Test/ToyasCard.lean, 'card_holds'). Laid BY PROGRAM, IN A SANDBOX (cutbox-door.mjs). By AI agents, Wed Nov 11 2026. No macro, syntax, notation, axiom, sorry.
-/
import Derived.Test.YtaoopodaalhheaaDoorRows
import GoSem.ClaimSeven
namespace Go.Proofs.YtaoopodaalhheaaDoor
namespace Rows

/-- THE TIED CARD OF 'lumlaw.LeaseSays'. -/
def leaseSaysCard : Claim7 := { stood := { row := leaseSaysRow, standIns := [], harness := (true, "72784b44f531abfa869eccf996b28319fb1c6fbfac24a652cd8ac50169d4a9dc"), looks := false }, kinds := [], alts := [], laidByText := true, laidKinds := [.data, .pinned], laidTests := true, laidLooks := .later }
def LeaseSaysCardSaid : Prop := Claim7.holds Tryd.pinned (.plain (OpenSpec.ofChange leaseSaysSpec)) leaseSaysCard

/-- THE TIED CARD OF 'lumlaw.NumSays'. -/
def numSaysCard : Claim7 := { stood := { row := numSaysRow, standIns := [], harness := (true, "72784b44f531abfa869eccf996b28319fb1c6fbfac24a652cd8ac50169d4a9dc"), looks := false }, kinds := [], alts := [], laidByText := true, laidKinds := [.data, .pinned], laidTests := true, laidLooks := .later }
def NumSaysCardSaid : Prop := Claim7.holds Tryd.pinned (.plain (OpenSpec.ofChange numSaysSpec)) numSaysCard

/-- THE TIED CARD OF 'lumlaw.NumInts'. -/
def numIntsCard : Claim7 := { stood := { row := numIntsRow, standIns := [], harness := (true, "72784b44f531abfa869eccf996b28319fb1c6fbfac24a652cd8ac50169d4a9dc"), looks := false }, kinds := [], alts := [], laidByText := true, laidKinds := [.data, .pinned], laidTests := true, laidLooks := .later }
def NumIntsCardSaid : Prop := Claim7.holds Tryd.pinned (.plain (OpenSpec.ofChange numIntsSpec)) numIntsCard

/-- THE TIED CARD OF 'lumlaw.NumTexts'. -/
def numTextsCard : Claim7 := { stood := { row := numTextsRow, standIns := [], harness := (true, "72784b44f531abfa869eccf996b28319fb1c6fbfac24a652cd8ac50169d4a9dc"), looks := false }, kinds := [], alts := [], laidByText := true, laidKinds := [.data, .pinned], laidTests := true, laidLooks := .later }
def NumTextsCardSaid : Prop := Claim7.holds Tryd.pinned (.plain (OpenSpec.ofChange numTextsSpec)) numTextsCard

/-- THE TIED CARD OF 'lumlaw.TreeReads'. -/
def treeReadsCard : Claim7 := { stood := { row := treeReadsRow, standIns := [], harness := (true, "72784b44f531abfa869eccf996b28319fb1c6fbfac24a652cd8ac50169d4a9dc"), looks := false }, kinds := [], alts := [], laidByText := true, laidKinds := [.data, .pinned], laidTests := true, laidLooks := .later }
def TreeReadsCardSaid : Prop := Claim7.holds Tryd.pinned (.plain (OpenSpec.ofChange treeReadsSpec)) treeReadsCard

/-- THE TIED CARD OF 'lumlaw.IndexReads'. -/
def indexReadsCard : Claim7 := { stood := { row := indexReadsRow, standIns := [], harness := (true, "72784b44f531abfa869eccf996b28319fb1c6fbfac24a652cd8ac50169d4a9dc"), looks := false }, kinds := [], alts := [], laidByText := true, laidKinds := [.data, .pinned], laidTests := true, laidLooks := .later }
def IndexReadsCardSaid : Prop := Claim7.holds Tryd.pinned (.plain (OpenSpec.ofChange indexReadsSpec)) indexReadsCard

/-- THE TIED CARD OF 'lumlaw.GlobMatches'. -/
def globMatchesCard : Claim7 := { stood := { row := globMatchesRow, standIns := [], harness := (true, "72784b44f531abfa869eccf996b28319fb1c6fbfac24a652cd8ac50169d4a9dc"), looks := false }, kinds := [], alts := [], laidByText := true, laidKinds := [.data, .pinned], laidTests := true, laidLooks := .later }
def GlobMatchesCardSaid : Prop := Claim7.holds Tryd.pinned (.plain (OpenSpec.ofChange globMatchesSpec)) globMatchesCard

/-- THE SECOND FORM's CARD OF 'lumlaw.LeaseSays'. -/
def leaseSaysUptoCard : Claim7 := { stood := { row := leaseSaysUptoRow, standIns := [], harness := (true, "72784b44f531abfa869eccf996b28319fb1c6fbfac24a652cd8ac50169d4a9dc"), looks := false }, kinds := [], alts := [], laidByText := true, laidKinds := [.data, .pinned], laidTests := true, laidLooks := .later }
def LeaseSaysUptoCardSaid : Prop := Claim7.holds Tryd.pinned (.plain (OpenSpec.upto leaseSaysSpec)) leaseSaysUptoCard

/-- THE SECOND FORM's CARD OF 'lumlaw.NumSays'. -/
def numSaysUptoCard : Claim7 := { stood := { row := numSaysUptoRow, standIns := [], harness := (true, "72784b44f531abfa869eccf996b28319fb1c6fbfac24a652cd8ac50169d4a9dc"), looks := false }, kinds := [], alts := [], laidByText := true, laidKinds := [.data, .pinned], laidTests := true, laidLooks := .later }
def NumSaysUptoCardSaid : Prop := Claim7.holds Tryd.pinned (.plain (OpenSpec.upto numSaysSpec)) numSaysUptoCard

/-- THE SECOND FORM's CARD OF 'lumlaw.NumInts'. -/
def numIntsUptoCard : Claim7 := { stood := { row := numIntsUptoRow, standIns := [], harness := (true, "72784b44f531abfa869eccf996b28319fb1c6fbfac24a652cd8ac50169d4a9dc"), looks := false }, kinds := [], alts := [], laidByText := true, laidKinds := [.data, .pinned], laidTests := true, laidLooks := .later }
def NumIntsUptoCardSaid : Prop := Claim7.holds Tryd.pinned (.plain (OpenSpec.upto numIntsSpec)) numIntsUptoCard

/-- THE SECOND FORM's CARD OF 'lumlaw.NumTexts'. -/
def numTextsUptoCard : Claim7 := { stood := { row := numTextsUptoRow, standIns := [], harness := (true, "72784b44f531abfa869eccf996b28319fb1c6fbfac24a652cd8ac50169d4a9dc"), looks := false }, kinds := [], alts := [], laidByText := true, laidKinds := [.data, .pinned], laidTests := true, laidLooks := .later }
def NumTextsUptoCardSaid : Prop := Claim7.holds Tryd.pinned (.plain (OpenSpec.upto numTextsSpec)) numTextsUptoCard

/-- THE SECOND FORM's CARD OF 'lumlaw.TreeReads'. -/
def treeReadsUptoCard : Claim7 := { stood := { row := treeReadsUptoRow, standIns := [], harness := (true, "72784b44f531abfa869eccf996b28319fb1c6fbfac24a652cd8ac50169d4a9dc"), looks := false }, kinds := [], alts := [], laidByText := true, laidKinds := [.data, .pinned], laidTests := true, laidLooks := .later }
def TreeReadsUptoCardSaid : Prop := Claim7.holds Tryd.pinned (.plain (OpenSpec.upto treeReadsSpec)) treeReadsUptoCard

/-- THE SECOND FORM's CARD OF 'lumlaw.IndexReads'. -/
def indexReadsUptoCard : Claim7 := { stood := { row := indexReadsUptoRow, standIns := [], harness := (true, "72784b44f531abfa869eccf996b28319fb1c6fbfac24a652cd8ac50169d4a9dc"), looks := false }, kinds := [], alts := [], laidByText := true, laidKinds := [.data, .pinned], laidTests := true, laidLooks := .later }
def IndexReadsUptoCardSaid : Prop := Claim7.holds Tryd.pinned (.plain (OpenSpec.upto indexReadsSpec)) indexReadsUptoCard

/-- THE SECOND FORM's CARD OF 'lumlaw.GlobMatches'. -/
def globMatchesUptoCard : Claim7 := { stood := { row := globMatchesUptoRow, standIns := [], harness := (true, "72784b44f531abfa869eccf996b28319fb1c6fbfac24a652cd8ac50169d4a9dc"), looks := false }, kinds := [], alts := [], laidByText := true, laidKinds := [.data, .pinned], laidTests := true, laidLooks := .later }
def GlobMatchesUptoCardSaid : Prop := Claim7.holds Tryd.pinned (.plain (OpenSpec.upto globMatchesSpec)) globMatchesUptoCard
end Rows
end Go.Proofs.YtaoopodaalhheaaDoor
