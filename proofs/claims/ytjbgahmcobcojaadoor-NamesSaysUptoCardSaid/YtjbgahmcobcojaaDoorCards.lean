/-
  DERIVED. GIVEN WITH THE SEED: THE CARDS: each row of YtjbgahmcobcojaaDoorRows.lean that lists a variable, with what it lists TIED to the program's text (the seventh form; the later family's looks); each row that meets fmt, with fmt's text TOLD by the authors' own Lean function (tested against real Go, not proved from fmt's source: count such statements apart). THE CARD IS WHAT COUNTS. Prove the row's statement (the work); the ties are given (YtjbgahmcobcojaaDoorTie.lean); close each card by the builder's one call (the guide's Derived/Test/ToyasCard.lean, 'card_holds'). Laid BY PROGRAM, IN A SANDBOX (cutbox-door.mjs). By AI agents, Wed Nov 11 2026. No macro, syntax, notation, axiom, sorry.
-/
import Derived.Test.YtjbgahmcobcojaaDoorRows
import GoSem.ClaimSeven
namespace Go.Proofs.YtjbgahmcobcojaaDoor
namespace Rows

/-- THE TIED CARD OF 'lumlaw.JournalSays'. -/
def journalSaysCard : Claim7 := { stood := { row := journalSaysRow, standIns := [], harness := (true, "3cd026432804ac83c41260912c04b7f6b22eb50446f0ce1a3712038826032155"), looks := false }, kinds := [], alts := [], laidByText := true, laidKinds := [.data, .pinned], laidTests := true, laidLooks := .later }
def JournalSaysCardSaid : Prop := Claim7.holds Tryd.pinned (.plain (OpenSpec.ofChange journalSaysSpec)) journalSaysCard

/-- THE TIED CARD OF 'lumlaw.TreeSays'. -/
def treeSaysCard : Claim7 := { stood := { row := treeSaysRow, standIns := [], harness := (true, "3cd026432804ac83c41260912c04b7f6b22eb50446f0ce1a3712038826032155"), looks := false }, kinds := [], alts := [], laidByText := true, laidKinds := [.data, .pinned], laidTests := true, laidLooks := .later }
def TreeSaysCardSaid : Prop := Claim7.holds Tryd.pinned (.plain (OpenSpec.ofChange treeSaysSpec)) treeSaysCard

/-- THE TIED CARD OF 'lumlaw.WalkNeeds'. -/
def walkNeedsCard : Claim7 := { stood := { row := walkNeedsRow, standIns := [], harness := (true, "3cd026432804ac83c41260912c04b7f6b22eb50446f0ce1a3712038826032155"), looks := false }, kinds := [], alts := [], laidByText := true, laidKinds := [.data, .pinned], laidTests := true, laidLooks := .later }
def WalkNeedsCardSaid : Prop := Claim7.holds Tryd.pinned (.plain (OpenSpec.ofChange walkNeedsSpec)) walkNeedsCard

/-- THE TIED CARD OF 'lumlaw.LinePackets'. -/
def linePacketsCard : Claim7 := { stood := { row := linePacketsRow, standIns := [], harness := (true, "3cd026432804ac83c41260912c04b7f6b22eb50446f0ce1a3712038826032155"), looks := false }, kinds := [], alts := [], laidByText := true, laidKinds := [.data, .pinned], laidTests := true, laidLooks := .later }
def LinePacketsCardSaid : Prop := Claim7.holds Tryd.pinned (.plain (OpenSpec.ofChange linePacketsSpec)) linePacketsCard

/-- THE TIED CARD OF 'lumlaw.RoomHeads'. -/
def roomHeadsCard : Claim7 := { stood := { row := roomHeadsRow, standIns := [], harness := (true, "3cd026432804ac83c41260912c04b7f6b22eb50446f0ce1a3712038826032155"), looks := false }, kinds := [], alts := [], laidByText := true, laidKinds := [.data, .pinned], laidTests := true, laidLooks := .later }
def RoomHeadsCardSaid : Prop := Claim7.holds Tryd.pinned (.plain (OpenSpec.ofChange roomHeadsSpec)) roomHeadsCard

/-- THE TIED CARD OF 'lumlaw.NamesSays'. -/
def namesSaysCard : Claim7 := { stood := { row := namesSaysRow, standIns := [], harness := (true, "3cd026432804ac83c41260912c04b7f6b22eb50446f0ce1a3712038826032155"), looks := false }, kinds := [], alts := [], laidByText := true, laidKinds := [.data, .pinned], laidTests := true, laidLooks := .later }
def NamesSaysCardSaid : Prop := Claim7.holds Tryd.pinned (.plain (OpenSpec.ofChange namesSaysSpec)) namesSaysCard

/-- THE TIED CARD OF 'lumlaw.IndexReads'. -/
def indexReadsCard : Claim7 := { stood := { row := indexReadsRow, standIns := [], harness := (true, "3cd026432804ac83c41260912c04b7f6b22eb50446f0ce1a3712038826032155"), looks := false }, kinds := [], alts := [], laidByText := true, laidKinds := [.data, .pinned], laidTests := true, laidLooks := .later }
def IndexReadsCardSaid : Prop := Claim7.holds Tryd.pinned (.plain (OpenSpec.ofChange indexReadsSpec)) indexReadsCard

/-- THE SECOND FORM's CARD OF 'lumlaw.JournalSays'. -/
def journalSaysUptoCard : Claim7 := { stood := { row := journalSaysUptoRow, standIns := [], harness := (true, "3cd026432804ac83c41260912c04b7f6b22eb50446f0ce1a3712038826032155"), looks := false }, kinds := [], alts := [], laidByText := true, laidKinds := [.data, .pinned], laidTests := true, laidLooks := .later }
def JournalSaysUptoCardSaid : Prop := Claim7.holds Tryd.pinned (.plain (OpenSpec.upto journalSaysSpec)) journalSaysUptoCard

/-- THE SECOND FORM's CARD OF 'lumlaw.TreeSays'. -/
def treeSaysUptoCard : Claim7 := { stood := { row := treeSaysUptoRow, standIns := [], harness := (true, "3cd026432804ac83c41260912c04b7f6b22eb50446f0ce1a3712038826032155"), looks := false }, kinds := [], alts := [], laidByText := true, laidKinds := [.data, .pinned], laidTests := true, laidLooks := .later }
def TreeSaysUptoCardSaid : Prop := Claim7.holds Tryd.pinned (.plain (OpenSpec.upto treeSaysSpec)) treeSaysUptoCard

/-- THE SECOND FORM's CARD OF 'lumlaw.WalkNeeds'. -/
def walkNeedsUptoCard : Claim7 := { stood := { row := walkNeedsUptoRow, standIns := [], harness := (true, "3cd026432804ac83c41260912c04b7f6b22eb50446f0ce1a3712038826032155"), looks := false }, kinds := [], alts := [], laidByText := true, laidKinds := [.data, .pinned], laidTests := true, laidLooks := .later }
def WalkNeedsUptoCardSaid : Prop := Claim7.holds Tryd.pinned (.plain (OpenSpec.upto walkNeedsSpec)) walkNeedsUptoCard

/-- THE SECOND FORM's CARD OF 'lumlaw.LinePackets'. -/
def linePacketsUptoCard : Claim7 := { stood := { row := linePacketsUptoRow, standIns := [], harness := (true, "3cd026432804ac83c41260912c04b7f6b22eb50446f0ce1a3712038826032155"), looks := false }, kinds := [], alts := [], laidByText := true, laidKinds := [.data, .pinned], laidTests := true, laidLooks := .later }
def LinePacketsUptoCardSaid : Prop := Claim7.holds Tryd.pinned (.plain (OpenSpec.upto linePacketsSpec)) linePacketsUptoCard

/-- THE SECOND FORM's CARD OF 'lumlaw.RoomHeads'. -/
def roomHeadsUptoCard : Claim7 := { stood := { row := roomHeadsUptoRow, standIns := [], harness := (true, "3cd026432804ac83c41260912c04b7f6b22eb50446f0ce1a3712038826032155"), looks := false }, kinds := [], alts := [], laidByText := true, laidKinds := [.data, .pinned], laidTests := true, laidLooks := .later }
def RoomHeadsUptoCardSaid : Prop := Claim7.holds Tryd.pinned (.plain (OpenSpec.upto roomHeadsSpec)) roomHeadsUptoCard

/-- THE SECOND FORM's CARD OF 'lumlaw.NamesSays'. -/
def namesSaysUptoCard : Claim7 := { stood := { row := namesSaysUptoRow, standIns := [], harness := (true, "3cd026432804ac83c41260912c04b7f6b22eb50446f0ce1a3712038826032155"), looks := false }, kinds := [], alts := [], laidByText := true, laidKinds := [.data, .pinned], laidTests := true, laidLooks := .later }
def NamesSaysUptoCardSaid : Prop := Claim7.holds Tryd.pinned (.plain (OpenSpec.upto namesSaysSpec)) namesSaysUptoCard

/-- THE SECOND FORM's CARD OF 'lumlaw.IndexReads'. -/
def indexReadsUptoCard : Claim7 := { stood := { row := indexReadsUptoRow, standIns := [], harness := (true, "3cd026432804ac83c41260912c04b7f6b22eb50446f0ce1a3712038826032155"), looks := false }, kinds := [], alts := [], laidByText := true, laidKinds := [.data, .pinned], laidTests := true, laidLooks := .later }
def IndexReadsUptoCardSaid : Prop := Claim7.holds Tryd.pinned (.plain (OpenSpec.upto indexReadsSpec)) indexReadsUptoCard
end Rows
end Go.Proofs.YtjbgahmcobcojaaDoor
