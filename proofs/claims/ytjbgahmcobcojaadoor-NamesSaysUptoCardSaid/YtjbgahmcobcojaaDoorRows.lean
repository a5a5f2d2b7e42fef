/-
  NARROWER THAN 'FOR EVERY INPUT', by the rows' own cells (each row's printed sentence says how): JournalSays: laid · TreeSays: laid · WalkNeeds: laid · LinePackets: laid · RoomHeads: laid · NamesSays: laid · IndexReads: laid.
  DERIVED. THE GIVEN ROWS OF THIS SEAT. 7 by the template 'for every input the law returns true; each argument reads behind the call as it read before'; 0 by the template 'total and deterministic' (their statements: YtjbgahmcobcojaaDoorTotals.lean).
  GIVEN WITH THE SEED: the statements are not yours to turn. If you find one false, say at which input.
  Laid BY PROGRAM, IN A SANDBOX (cutbox-rows.mjs): the forced cells as the released guide's own fill.sh prints them over the translation bff1abf973e5c4af… (all of the seat's roots in one cut). By AI agents, Wed Nov 11 2026. No macro, syntax, notation, axiom, sorry.
-/
import Derived.Test.YtjbgahmcobcojaaDoorChecked
import GoSem.PinnedTables
import GoSem.Claim
import GoSem.ClaimJoined
import GoSem.ClaimMapViews
import Derived.JoinedTies
import Derived.KernelRfl
namespace Go.Proofs.YtjbgahmcobcojaaDoor
/- THE CELL 'sum', in the pinned program and in every row, IS THE sha256 OF THE DUMP (.gsa) THAT YtjbgahmcobcojaaDoorProg.lean LOADS. Nothing in Lean hashes anything: it is a label: what it is worth is what the hold of that sum in a sandbox is worth. -/
noncomputable def Tryd.pinned : Pinned := { name := "ytjbgahmcobcojaadoor", sum := "bff1abf973e5c4af4693f9324c6df5e9e27b28c3d29e790247596a9e85e7614d", checked := Tryd.checked }
namespace Rows
def none {H : Type} : Left H := { results := [], args := [] }

/- WHAT THE LISTED PACKAGE-LEVEL VARIABLES READ AS WHEN THE CALL BEGINS. Each datum BY PROGRAM (the guide's laid-datum.mjs) off the statement by which the dump's own 'gosem.cut.vars' lays the variable. In a bare row this is a premise. The card (YtjbgahmcobcojaaDoorCards.lean) ties it to the program's text. -/
def laid_unicode_utf8_acceptRanges {H : Type} : DataW H := .agg [.agg [.lit (.int .u8 128), .lit (.int .u8 191)], .agg [.lit (.int .u8 160), .lit (.int .u8 191)], .agg [.lit (.int .u8 128), .lit (.int .u8 159)], .agg [.lit (.int .u8 144), .lit (.int .u8 191)], .agg [.lit (.int .u8 128), .lit (.int .u8 143)], .agg [.lit (.int .u8 0), .lit (.int .u8 0)], .agg [.lit (.int .u8 0), .lit (.int .u8 0)], .agg [.lit (.int .u8 0), .lit (.int .u8 0)], .agg [.lit (.int .u8 0), .lit (.int .u8 0)], .agg [.lit (.int .u8 0), .lit (.int .u8 0)], .agg [.lit (.int .u8 0), .lit (.int .u8 0)], .agg [.lit (.int .u8 0), .lit (.int .u8 0)], .agg [.lit (.int .u8 0), .lit (.int .u8 0)], .agg [.lit (.int .u8 0), .lit (.int .u8 0)], .agg [.lit (.int .u8 0), .lit (.int .u8 0)], .agg [.lit (.int .u8 0), .lit (.int .u8 0)]]
/-- One of Go's own tables, pinned by name: the form's constant. -/
def laid_unicode_utf8_first : DataW Unit := Go.Pinned.utf8First

/-- 'lumlaw.JournalSays': WHATEVER THE INPUT: true; the input reads as it did. -/
def journalSaysSpec : ChangeSpec := { name := "journalSays", fn := fun _ => fun
  | [d1, d2] => { results := [.lit (.bool true)], args := [d1, d2] }
  | _ => none }
def journalSaysRow : OpenClaim := { program := "ytjbgahmcobcojaadoor", sum := "bff1abf973e5c4af4693f9324c6df5e9e27b28c3d29e790247596a9e85e7614d", func := "lumberroom/lumlaw.JournalSays", spec := "journalSays", inPlace := ["internal/bytealg.IndexByteString", "internal/bytealg.IndexString", "internal/abi.NoEscape", "internal/bytealg.MakeNoZero"], unfollowed := true, recurses := true, named := ["encoding/binary.BigEndian", "unicode/utf8.first", "unicode/utf8.acceptRanges", "encoding/binary.LittleEndian", "internal/bytealg.MaxLen"], apart := false, laid := [("unicode/utf8.acceptRanges", laid_unicode_utf8_acceptRanges), ("unicode/utf8.first", laid_unicode_utf8_first)] }
def JournalSaysSaid : Prop := journalSaysRow.holds Tryd.pinned (OpenSpec.ofChange journalSaysSpec)

/-- ITS FALSE NEIGHBOUR: 'it returns false'. Refute it at one input. -/
def journalSaysWrong : ChangeSpec := { name := "journalSays", fn := fun _ => fun
  | [d1, d2] => { results := [.lit (.bool false)], args := [d1, d2] }
  | _ => none }
def JournalSaysWrongFalsely : Prop := journalSaysRow.holds Tryd.pinned (OpenSpec.ofChange journalSaysWrong)

/-- 'lumlaw.TreeSays': WHATEVER THE INPUT: true; the input reads as it did. -/
def treeSaysSpec : ChangeSpec := { name := "treeSays", fn := fun _ => fun
  | [d1, d2] => { results := [.lit (.bool true)], args := [d1, d2] }
  | _ => none }
def treeSaysRow : OpenClaim := { program := "ytjbgahmcobcojaadoor", sum := "bff1abf973e5c4af4693f9324c6df5e9e27b28c3d29e790247596a9e85e7614d", func := "lumberroom/lumlaw.TreeSays", spec := "treeSays", inPlace := ["internal/bytealg.IndexByteString", "internal/bytealg.IndexString", "internal/bytealg.CountString", "internal/abi.NoEscape", "internal/bytealg.MakeNoZero"], unfollowed := true, recurses := true, named := ["unicode/utf8.first", "unicode/utf8.acceptRanges", "encoding/binary.BigEndian", "internal/bytealg.MaxLen"], apart := false, laid := [("unicode/utf8.acceptRanges", laid_unicode_utf8_acceptRanges), ("unicode/utf8.first", laid_unicode_utf8_first)] }
def TreeSaysSaid : Prop := treeSaysRow.holds Tryd.pinned (OpenSpec.ofChange treeSaysSpec)

/-- ITS FALSE NEIGHBOUR: 'it returns false'. Refute it at one input. -/
def treeSaysWrong : ChangeSpec := { name := "treeSays", fn := fun _ => fun
  | [d1, d2] => { results := [.lit (.bool false)], args := [d1, d2] }
  | _ => none }
def TreeSaysWrongFalsely : Prop := treeSaysRow.holds Tryd.pinned (OpenSpec.ofChange treeSaysWrong)

/-- 'lumlaw.WalkNeeds': WHATEVER THE INPUT: true; the input reads as it did. -/
def walkNeedsSpec : ChangeSpec := { name := "walkNeeds", fn := fun _ => fun
  | [d] => { results := [.lit (.bool true)], args := [d] }
  | _ => none }
def walkNeedsRow : OpenClaim := { program := "ytjbgahmcobcojaadoor", sum := "bff1abf973e5c4af4693f9324c6df5e9e27b28c3d29e790247596a9e85e7614d", func := "lumberroom/lumlaw.WalkNeeds", spec := "walkNeeds", inPlace := ["internal/abi.NoEscape", "internal/bytealg.MakeNoZero"], unfollowed := true, recurses := true, named := ["encoding/binary.BigEndian", "encoding/binary.LittleEndian", "unicode/utf8.first", "unicode/utf8.acceptRanges"], apart := false, laid := [("unicode/utf8.acceptRanges", laid_unicode_utf8_acceptRanges), ("unicode/utf8.first", laid_unicode_utf8_first)] }
def WalkNeedsSaid : Prop := walkNeedsRow.holds Tryd.pinned (OpenSpec.ofChange walkNeedsSpec)

/-- ITS FALSE NEIGHBOUR: 'it returns false'. Refute it at one input. -/
def walkNeedsWrong : ChangeSpec := { name := "walkNeeds", fn := fun _ => fun
  | [d] => { results := [.lit (.bool false)], args := [d] }
  | _ => none }
def WalkNeedsWrongFalsely : Prop := walkNeedsRow.holds Tryd.pinned (OpenSpec.ofChange walkNeedsWrong)

/-- 'lumlaw.LinePackets': WHATEVER THE INPUT: true; the input reads as it did. -/
def linePacketsSpec : ChangeSpec := { name := "linePackets", fn := fun _ => fun
  | [d1, d2] => { results := [.lit (.bool true)], args := [d1, d2] }
  | _ => none }
def linePacketsRow : OpenClaim := { program := "ytjbgahmcobcojaadoor", sum := "bff1abf973e5c4af4693f9324c6df5e9e27b28c3d29e790247596a9e85e7614d", func := "lumberroom/lumlaw.LinePackets", spec := "linePackets", inPlace := ["internal/bytealg.CountString", "internal/bytealg.IndexByteString", "internal/bytealg.IndexString", "internal/abi.NoEscape", "internal/bytealg.MakeNoZero"], unfollowed := true, recurses := true, named := ["internal/bytealg.MaxLen", "unicode/utf8.first", "unicode/utf8.acceptRanges", "encoding/binary.BigEndian", "encoding/binary.LittleEndian"], apart := false, laid := [("unicode/utf8.acceptRanges", laid_unicode_utf8_acceptRanges), ("unicode/utf8.first", laid_unicode_utf8_first)] }
def LinePacketsSaid : Prop := linePacketsRow.holds Tryd.pinned (OpenSpec.ofChange linePacketsSpec)

/-- ITS FALSE NEIGHBOUR: 'it returns false'. Refute it at one input. -/
def linePacketsWrong : ChangeSpec := { name := "linePackets", fn := fun _ => fun
  | [d1, d2] => { results := [.lit (.bool false)], args := [d1, d2] }
  | _ => none }
def LinePacketsWrongFalsely : Prop := linePacketsRow.holds Tryd.pinned (OpenSpec.ofChange linePacketsWrong)

/-- 'lumlaw.RoomHeads': WHATEVER THE INPUT: true; the input reads as it did. -/
def roomHeadsSpec : ChangeSpec := { name := "roomHeads", fn := fun _ => fun
  | [d1, d2] => { results := [.lit (.bool true)], args := [d1, d2] }
  | _ => none }
def roomHeadsRow : OpenClaim := { program := "ytjbgahmcobcojaadoor", sum := "bff1abf973e5c4af4693f9324c6df5e9e27b28c3d29e790247596a9e85e7614d", func := "lumberroom/lumlaw.RoomHeads", spec := "roomHeads", inPlace := ["internal/bytealg.IndexByteString", "internal/bytealg.IndexString", "internal/bytealg.CountString", "internal/abi.NoEscape", "internal/bytealg.MakeNoZero"], unfollowed := true, recurses := true, named := ["unicode/utf8.first", "unicode/utf8.acceptRanges", "encoding/binary.BigEndian", "internal/bytealg.MaxLen", "encoding/binary.LittleEndian"], apart := false, laid := [("unicode/utf8.acceptRanges", laid_unicode_utf8_acceptRanges), ("unicode/utf8.first", laid_unicode_utf8_first)] }
def RoomHeadsSaid : Prop := roomHeadsRow.holds Tryd.pinned (OpenSpec.ofChange roomHeadsSpec)

/-- ITS FALSE NEIGHBOUR: 'it returns false'. Refute it at one input. -/
def roomHeadsWrong : ChangeSpec := { name := "roomHeads", fn := fun _ => fun
  | [d1, d2] => { results := [.lit (.bool false)], args := [d1, d2] }
  | _ => none }
def RoomHeadsWrongFalsely : Prop := roomHeadsRow.holds Tryd.pinned (OpenSpec.ofChange roomHeadsWrong)

/-- 'lumlaw.NamesSays': WHATEVER THE INPUT: true; the input reads as it did. -/
def namesSaysSpec : ChangeSpec := { name := "namesSays", fn := fun _ => fun
  | [d1, d2, d3, d4] => { results := [.lit (.bool true)], args := [d1, d2, d3, d4] }
  | _ => none }
def namesSaysRow : OpenClaim := { program := "ytjbgahmcobcojaadoor", sum := "bff1abf973e5c4af4693f9324c6df5e9e27b28c3d29e790247596a9e85e7614d", func := "lumberroom/lumlaw.NamesSays", spec := "namesSays", inPlace := ["internal/bytealg.CountString", "internal/bytealg.IndexByteString", "internal/bytealg.IndexString", "internal/abi.NoEscape", "internal/bytealg.MakeNoZero"], recurses := true, named := ["unicode/utf8.first", "unicode/utf8.acceptRanges", "internal/bytealg.MaxLen"], apart := false, laid := [("unicode/utf8.acceptRanges", laid_unicode_utf8_acceptRanges), ("unicode/utf8.first", laid_unicode_utf8_first)] }
def NamesSaysSaid : Prop := namesSaysRow.holds Tryd.pinned (OpenSpec.ofChange namesSaysSpec)

/-- ITS FALSE NEIGHBOUR: 'it returns false'. Refute it at one input. -/
def namesSaysWrong : ChangeSpec := { name := "namesSays", fn := fun _ => fun
  | [d1, d2, d3, d4] => { results := [.lit (.bool false)], args := [d1, d2, d3, d4] }
  | _ => none }
def NamesSaysWrongFalsely : Prop := namesSaysRow.holds Tryd.pinned (OpenSpec.ofChange namesSaysWrong)

/-- 'lumlaw.IndexReads': WHATEVER THE INPUT: true; the input reads as it did. -/
def indexReadsSpec : ChangeSpec := { name := "indexReads", fn := fun _ => fun
  | [d1, d2] => { results := [.lit (.bool true)], args := [d1, d2] }
  | _ => none }
def indexReadsRow : OpenClaim := { program := "ytjbgahmcobcojaadoor", sum := "bff1abf973e5c4af4693f9324c6df5e9e27b28c3d29e790247596a9e85e7614d", func := "lumberroom/lumlaw.IndexReads", spec := "indexReads", inPlace := ["internal/bytealg.Compare", "internal/bytealg.IndexByteString", "internal/bytealg.IndexString"], recurses := true, named := ["encoding/binary.BigEndian", "unicode/utf8.first", "unicode/utf8.acceptRanges", "internal/bytealg.MaxLen"], apart := false, laid := [("unicode/utf8.acceptRanges", laid_unicode_utf8_acceptRanges), ("unicode/utf8.first", laid_unicode_utf8_first)] }
def IndexReadsSaid : Prop := indexReadsRow.holds Tryd.pinned (OpenSpec.ofChange indexReadsSpec)

/-- ITS FALSE NEIGHBOUR: 'it returns false'. Refute it at one input. -/
def indexReadsWrong : ChangeSpec := { name := "indexReads", fn := fun _ => fun
  | [d1, d2] => { results := [.lit (.bool false)], args := [d1, d2] }
  | _ => none }
def IndexReadsWrongFalsely : Prop := indexReadsRow.holds Tryd.pinned (OpenSpec.ofChange indexReadsWrong)

/- THE SECOND FORM. 'bulk': how many values and letters a reading holds, each counted each time it is reached (what is shared counts as often as it is met; a slice's spare places count too). A statement '..UptoSaid' is the law's where the arguments, and the package variables that the reading takes, are together of bulk at most 1048576: NARROWER than '..Said'. Prove '..Said' where nothing that the law and all that it calls make is longer than what came in: it says more and counts as full. Else prove '..UptoSaid'. A law counts once. -/
mutual
def uptoBulk {H : Type} : DataW H → Nat
  | .lit (.string bytes) => bytes.length + 1
  | .lit _ => 1
  | .nil => 1
  | .ptr d => uptoBulk d + 1
  | .slice elems spare => uptoBulkAll elems + uptoBulkAll spare + 1
  | .agg parts => uptoBulkAll parts + 1
  | .iface _ d => uptoBulk d + 1
  | .map entries => uptoBulkEntries entries + 1
  | .held _ => 1
def uptoBulkAll {H : Type} : List (DataW H) → Nat
  | [] => 0
  | d :: r => uptoBulk d + uptoBulkAll r
def uptoBulkEntries {H : Type} : List (Lit × DataW H) → Nat
  | [] => 0
  | x :: r => uptoBulkEntry x + uptoBulkEntries r
def uptoBulkEntry {H : Type} : Lit × DataW H → Nat
  | (.string bytes, d) => bytes.length + uptoBulk d + 1
  | (_, d) => uptoBulk d + 1
 end
def uptoSmall : (H : Type) → List (DataW H) → Bool := fun _ ds => decide (uptoBulkAll ds ≤ 1048576)
def OpenSpec.upto (s : _root_.Go.ChangeSpec) : _root_.Go.OpenSpec := { _root_.Go.OpenSpec.ofChange s with cond := some uptoSmall }

/-- 'lumlaw.JournalSays', WHERE WHAT IT READS IS OF BULK AT MOST 1048576: true; the input reads as it did. -/
def journalSaysUptoRow : OpenClaim := { program := "ytjbgahmcobcojaadoor", sum := "bff1abf973e5c4af4693f9324c6df5e9e27b28c3d29e790247596a9e85e7614d", func := "lumberroom/lumlaw.JournalSays", spec := "journalSays", inPlace := ["internal/bytealg.IndexByteString", "internal/bytealg.IndexString", "internal/abi.NoEscape", "internal/bytealg.MakeNoZero"], unfollowed := true, recurses := true, named := ["encoding/binary.BigEndian", "unicode/utf8.first", "unicode/utf8.acceptRanges", "encoding/binary.LittleEndian", "internal/bytealg.MaxLen"], apart := false, laid := [("unicode/utf8.acceptRanges", laid_unicode_utf8_acceptRanges), ("unicode/utf8.first", laid_unicode_utf8_first)], narrowed := true }
def JournalSaysUptoSaid : Prop := journalSaysUptoRow.holds Tryd.pinned (OpenSpec.upto journalSaysSpec)

/-- 'lumlaw.TreeSays', WHERE WHAT IT READS IS OF BULK AT MOST 1048576: true; the input reads as it did. -/
def treeSaysUptoRow : OpenClaim := { program := "ytjbgahmcobcojaadoor", sum := "bff1abf973e5c4af4693f9324c6df5e9e27b28c3d29e790247596a9e85e7614d", func := "lumberroom/lumlaw.TreeSays", spec := "treeSays", inPlace := ["internal/bytealg.IndexByteString", "internal/bytealg.IndexString", "internal/bytealg.CountString", "internal/abi.NoEscape", "internal/bytealg.MakeNoZero"], unfollowed := true, recurses := true, named := ["unicode/utf8.first", "unicode/utf8.acceptRanges", "encoding/binary.BigEndian", "internal/bytealg.MaxLen"], apart := false, laid := [("unicode/utf8.acceptRanges", laid_unicode_utf8_acceptRanges), ("unicode/utf8.first", laid_unicode_utf8_first)], narrowed := true }
def TreeSaysUptoSaid : Prop := treeSaysUptoRow.holds Tryd.pinned (OpenSpec.upto treeSaysSpec)

/-- 'lumlaw.WalkNeeds', WHERE WHAT IT READS IS OF BULK AT MOST 1048576: true; the input reads as it did. -/
def walkNeedsUptoRow : OpenClaim := { program := "ytjbgahmcobcojaadoor", sum := "bff1abf973e5c4af4693f9324c6df5e9e27b28c3d29e790247596a9e85e7614d", func := "lumberroom/lumlaw.WalkNeeds", spec := "walkNeeds", inPlace := ["internal/abi.NoEscape", "internal/bytealg.MakeNoZero"], unfollowed := true, recurses := true, named := ["encoding/binary.BigEndian", "encoding/binary.LittleEndian", "unicode/utf8.first", "unicode/utf8.acceptRanges"], apart := false, laid := [("unicode/utf8.acceptRanges", laid_unicode_utf8_acceptRanges), ("unicode/utf8.first", laid_unicode_utf8_first)], narrowed := true }
def WalkNeedsUptoSaid : Prop := walkNeedsUptoRow.holds Tryd.pinned (OpenSpec.upto walkNeedsSpec)

/-- 'lumlaw.LinePackets', WHERE WHAT IT READS IS OF BULK AT MOST 1048576: true; the input reads as it did. -/
def linePacketsUptoRow : OpenClaim := { program := "ytjbgahmcobcojaadoor", sum := "bff1abf973e5c4af4693f9324c6df5e9e27b28c3d29e790247596a9e85e7614d", func := "lumberroom/lumlaw.LinePackets", spec := "linePackets", inPlace := ["internal/bytealg.CountString", "internal/bytealg.IndexByteString", "internal/bytealg.IndexString", "internal/abi.NoEscape", "internal/bytealg.MakeNoZero"], unfollowed := true, recurses := true, named := ["internal/bytealg.MaxLen", "unicode/utf8.first", "unicode/utf8.acceptRanges", "encoding/binary.BigEndian", "encoding/binary.LittleEndian"], apart := false, laid := [("unicode/utf8.acceptRanges", laid_unicode_utf8_acceptRanges), ("unicode/utf8.first", laid_unicode_utf8_first)], narrowed := true }
def LinePacketsUptoSaid : Prop := linePacketsUptoRow.holds Tryd.pinned (OpenSpec.upto linePacketsSpec)

/-- 'lumlaw.RoomHeads', WHERE WHAT IT READS IS OF BULK AT MOST 1048576: true; the input reads as it did. -/
def roomHeadsUptoRow : OpenClaim := { program := "ytjbgahmcobcojaadoor", sum := "bff1abf973e5c4af4693f9324c6df5e9e27b28c3d29e790247596a9e85e7614d", func := "lumberroom/lumlaw.RoomHeads", spec := "roomHeads", inPlace := ["internal/bytealg.IndexByteString", "internal/bytealg.IndexString", "internal/bytealg.CountString", "internal/abi.NoEscape", "internal/bytealg.MakeNoZero"], unfollowed := true, recurses := true, named := ["unicode/utf8.first", "unicode/utf8.acceptRanges", "encoding/binary.BigEndian", "internal/bytealg.MaxLen", "encoding/binary.LittleEndian"], apart := false, laid := [("unicode/utf8.acceptRanges", laid_unicode_utf8_acceptRanges), ("unicode/utf8.first", laid_unicode_utf8_first)], narrowed := true }
def RoomHeadsUptoSaid : Prop := roomHeadsUptoRow.holds Tryd.pinned (OpenSpec.upto roomHeadsSpec)

/-- 'lumlaw.NamesSays', WHERE WHAT IT READS IS OF BULK AT MOST 1048576: true; the input reads as it did. -/
def namesSaysUptoRow : OpenClaim := { program := "ytjbgahmcobcojaadoor", sum := "bff1abf973e5c4af4693f9324c6df5e9e27b28c3d29e790247596a9e85e7614d", func := "lumberroom/lumlaw.NamesSays", spec := "namesSays", inPlace := ["internal/bytealg.CountString", "internal/bytealg.IndexByteString", "internal/bytealg.IndexString", "internal/abi.NoEscape", "internal/bytealg.MakeNoZero"], recurses := true, named := ["unicode/utf8.first", "unicode/utf8.acceptRanges", "internal/bytealg.MaxLen"], apart := false, laid := [("unicode/utf8.acceptRanges", laid_unicode_utf8_acceptRanges), ("unicode/utf8.first", laid_unicode_utf8_first)], narrowed := true }
def NamesSaysUptoSaid : Prop := namesSaysUptoRow.holds Tryd.pinned (OpenSpec.upto namesSaysSpec)

/-- 'lumlaw.IndexReads', WHERE WHAT IT READS IS OF BULK AT MOST 1048576: true; the input reads as it did. -/
def indexReadsUptoRow : OpenClaim := { program := "ytjbgahmcobcojaadoor", sum := "bff1abf973e5c4af4693f9324c6df5e9e27b28c3d29e790247596a9e85e7614d", func := "lumberroom/lumlaw.IndexReads", spec := "indexReads", inPlace := ["internal/bytealg.Compare", "internal/bytealg.IndexByteString", "internal/bytealg.IndexString"], recurses := true, named := ["encoding/binary.BigEndian", "unicode/utf8.first", "unicode/utf8.acceptRanges", "internal/bytealg.MaxLen"], apart := false, laid := [("unicode/utf8.acceptRanges", laid_unicode_utf8_acceptRanges), ("unicode/utf8.first", laid_unicode_utf8_first)], narrowed := true }
def IndexReadsUptoSaid : Prop := indexReadsUptoRow.holds Tryd.pinned (OpenSpec.upto indexReadsSpec)

end Rows
end Go.Proofs.YtjbgahmcobcojaaDoor
