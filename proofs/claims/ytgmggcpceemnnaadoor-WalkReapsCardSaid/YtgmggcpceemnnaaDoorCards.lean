/-
  DERIVED. GIVEN WITH THE SEED: THE CARDS: each row of YtgmggcpceemnnaaDoorRows.lean that lists a variable, with what it lists TIED to the program's text (the seventh form; the later family's looks); each row that meets fmt, with fmt's text TOLD by the authors' own Lean function (tested against real Go, not proved from fmt's source: count such statements apart). THE CARD IS WHAT COUNTS. Prove the row's statement (the work); the ties are given (YtgmggcpceemnnaaDoorTie.lean); close each card by the builder's one call (the guide's Derived/Test/ToyasCard.lean, 'card_holds'). Laid BY PROGRAM, IN A SANDBOX (cutbox-door.mjs). By AI agents, Wed Nov 11 2026. No macro, syntax, notation, axiom, sorry.
-/
import Derived.Test.YtgmggcpceemnnaaDoorRows
import GoSem.ClaimSeven
namespace Go.Proofs.YtgmggcpceemnnaaDoor
namespace Rows

/-- THE TIED CARD OF 'lumlaw.GlobSkips'. -/
def globSkipsCard : Claim7 := { stood := { row := globSkipsRow, standIns := [], harness := (true, "e622c30f99daefbc73402128d7eb5a7fea280751daf6aec4aed5af9d58617fa6"), looks := false }, kinds := [], alts := [], laidByText := true, laidKinds := [.data, .pinned], laidTests := true, laidLooks := .later }
def GlobSkipsCardSaid : Prop := Claim7.holds Tryd.pinned (.plain (OpenSpec.ofChange globSkipsSpec)) globSkipsCard

/-- THE TIED CARD OF 'lumlaw.FetchPlans'. -/
def fetchPlansCard : Claim7 := { stood := { row := fetchPlansRow, standIns := [], harness := (true, "e622c30f99daefbc73402128d7eb5a7fea280751daf6aec4aed5af9d58617fa6"), looks := false }, kinds := [], alts := [], laidByText := true, laidKinds := [.data, .pinned], laidTests := true, laidLooks := .later }
def FetchPlansCardSaid : Prop := Claim7.holds Tryd.pinned (.plain (OpenSpec.ofChange fetchPlansSpec)) fetchPlansCard

/-- THE TIED CARD OF 'lumlaw.DeltaDiffs'. -/
def deltaDiffsCard : Claim7 := { stood := { row := deltaDiffsRow, standIns := [], harness := (true, "e622c30f99daefbc73402128d7eb5a7fea280751daf6aec4aed5af9d58617fa6"), looks := false }, kinds := [], alts := [], laidByText := true, laidKinds := [.data, .pinned], laidTests := true, laidLooks := .later }
def DeltaDiffsCardSaid : Prop := Claim7.holds Tryd.pinned (.plain (OpenSpec.ofChange deltaDiffsSpec)) deltaDiffsCard

/-- THE TIED CARD OF 'lumlaw.WalkReaps'. -/
def walkReapsCard : Claim7 := { stood := { row := walkReapsRow, standIns := [], harness := (true, "e622c30f99daefbc73402128d7eb5a7fea280751daf6aec4aed5af9d58617fa6"), looks := false }, kinds := [], alts := [], laidByText := true, laidKinds := [.data, .pinned], laidTests := true, laidLooks := .later }
def WalkReapsCardSaid : Prop := Claim7.holds Tryd.pinned (.plain (OpenSpec.ofChange walkReapsSpec)) walkReapsCard

/-- THE TIED CARD OF 'lumlaw.PressSays'. -/
def pressSaysCard : Claim7 := { stood := { row := pressSaysRow, standIns := [], harness := (true, "e622c30f99daefbc73402128d7eb5a7fea280751daf6aec4aed5af9d58617fa6"), looks := false }, kinds := [], alts := [], laidByText := true, laidKinds := [.data, .pinned], laidTests := true, laidLooks := .later }
def PressSaysCardSaid : Prop := Claim7.holds Tryd.pinned (.plain (OpenSpec.ofChange pressSaysSpec)) pressSaysCard

/-- THE TIED CARD OF 'lumlaw.DeltaApplies'. -/
def deltaAppliesCard : Claim7 := { stood := { row := deltaAppliesRow, standIns := [], harness := (true, "e622c30f99daefbc73402128d7eb5a7fea280751daf6aec4aed5af9d58617fa6"), looks := false }, kinds := [], alts := [], laidByText := true, laidKinds := [.data, .pinned], laidTests := true, laidLooks := .later }
def DeltaAppliesCardSaid : Prop := Claim7.holds Tryd.pinned (.plain (OpenSpec.ofChange deltaAppliesSpec)) deltaAppliesCard

/-- THE TIED CARD OF 'lumlaw.PackMakes'. -/
def packMakesCard : Claim7 := { stood := { row := packMakesRow, standIns := [], harness := (true, "e622c30f99daefbc73402128d7eb5a7fea280751daf6aec4aed5af9d58617fa6"), looks := false }, kinds := [], alts := [], laidByText := true, laidKinds := [.data, .pinned], laidTests := true, laidLooks := .later }
def PackMakesCardSaid : Prop := Claim7.holds Tryd.pinned (.plain (OpenSpec.ofChange packMakesSpec)) packMakesCard

/-- THE SECOND FORM's CARD OF 'lumlaw.GlobSkips'. -/
def globSkipsUptoCard : Claim7 := { stood := { row := globSkipsUptoRow, standIns := [], harness := (true, "e622c30f99daefbc73402128d7eb5a7fea280751daf6aec4aed5af9d58617fa6"), looks := false }, kinds := [], alts := [], laidByText := true, laidKinds := [.data, .pinned], laidTests := true, laidLooks := .later }
def GlobSkipsUptoCardSaid : Prop := Claim7.holds Tryd.pinned (.plain (OpenSpec.upto globSkipsSpec)) globSkipsUptoCard

/-- THE SECOND FORM's CARD OF 'lumlaw.FetchPlans'. -/
def fetchPlansUptoCard : Claim7 := { stood := { row := fetchPlansUptoRow, standIns := [], harness := (true, "e622c30f99daefbc73402128d7eb5a7fea280751daf6aec4aed5af9d58617fa6"), looks := false }, kinds := [], alts := [], laidByText := true, laidKinds := [.data, .pinned], laidTests := true, laidLooks := .later }
def FetchPlansUptoCardSaid : Prop := Claim7.holds Tryd.pinned (.plain (OpenSpec.upto fetchPlansSpec)) fetchPlansUptoCard

/-- THE SECOND FORM's CARD OF 'lumlaw.DeltaDiffs'. -/
def deltaDiffsUptoCard : Claim7 := { stood := { row := deltaDiffsUptoRow, standIns := [], harness := (true, "e622c30f99daefbc73402128d7eb5a7fea280751daf6aec4aed5af9d58617fa6"), looks := false }, kinds := [], alts := [], laidByText := true, laidKinds := [.data, .pinned], laidTests := true, laidLooks := .later }
def DeltaDiffsUptoCardSaid : Prop := Claim7.holds Tryd.pinned (.plain (OpenSpec.upto deltaDiffsSpec)) deltaDiffsUptoCard

/-- THE SECOND FORM's CARD OF 'lumlaw.WalkReaps'. -/
def walkReapsUptoCard : Claim7 := { stood := { row := walkReapsUptoRow, standIns := [], harness := (true, "e622c30f99daefbc73402128d7eb5a7fea280751daf6aec4aed5af9d58617fa6"), looks := false }, kinds := [], alts := [], laidByText := true, laidKinds := [.data, .pinned], laidTests := true, laidLooks := .later }
def WalkReapsUptoCardSaid : Prop := Claim7.holds Tryd.pinned (.plain (OpenSpec.upto walkReapsSpec)) walkReapsUptoCard

/-- THE SECOND FORM's CARD OF 'lumlaw.PressSays'. -/
def pressSaysUptoCard : Claim7 := { stood := { row := pressSaysUptoRow, standIns := [], harness := (true, "e622c30f99daefbc73402128d7eb5a7fea280751daf6aec4aed5af9d58617fa6"), looks := false }, kinds := [], alts := [], laidByText := true, laidKinds := [.data, .pinned], laidTests := true, laidLooks := .later }
def PressSaysUptoCardSaid : Prop := Claim7.holds Tryd.pinned (.plain (OpenSpec.upto pressSaysSpec)) pressSaysUptoCard

/-- THE SECOND FORM's CARD OF 'lumlaw.DeltaApplies'. -/
def deltaAppliesUptoCard : Claim7 := { stood := { row := deltaAppliesUptoRow, standIns := [], harness := (true, "e622c30f99daefbc73402128d7eb5a7fea280751daf6aec4aed5af9d58617fa6"), looks := false }, kinds := [], alts := [], laidByText := true, laidKinds := [.data, .pinned], laidTests := true, laidLooks := .later }
def DeltaAppliesUptoCardSaid : Prop := Claim7.holds Tryd.pinned (.plain (OpenSpec.upto deltaAppliesSpec)) deltaAppliesUptoCard

/-- THE SECOND FORM's CARD OF 'lumlaw.PackMakes'. -/
def packMakesUptoCard : Claim7 := { stood := { row := packMakesUptoRow, standIns := [], harness := (true, "e622c30f99daefbc73402128d7eb5a7fea280751daf6aec4aed5af9d58617fa6"), looks := false }, kinds := [], alts := [], laidByText := true, laidKinds := [.data, .pinned], laidTests := true, laidLooks := .later }
def PackMakesUptoCardSaid : Prop := Claim7.holds Tryd.pinned (.plain (OpenSpec.upto packMakesSpec)) packMakesUptoCard
end Rows
end Go.Proofs.YtgmggcpceemnnaaDoor
