/-
  No cell of these rows narrows 'for every input' (looked for: loops, veiled, ifaces, maps, wideKeys, modest, calm, conditions, laid).
  DERIVED. THE GIVEN ROWS OF THIS SEAT. 14 by the template 'for every input the law returns true; each argument reads behind the call as it read before'; 0 by the template 'total and deterministic' (their statements: YtaoopodaalhheaaTotals.lean).
  GIVEN WITH THE SEED: the statements are not yours to turn. If you find one false, say at which input.
  Laid BY PROGRAM, IN A SANDBOX (cutbox-rows.mjs): the forced cells as the released guide's own fill.sh prints them over the translation 25756bbda014fc2d… (all of the seat's roots in one cut). By AI agents, Wed Nov 11 2026. No macro, syntax, notation, axiom, sorry.
-/
import Derived.Test.YtaoopodaalhheaaChecked
import GoSem.Claim
import GoSem.ClaimJoined
import GoSem.ClaimMapViews
import Derived.JoinedTies
import Derived.KernelRfl
namespace Go.Proofs.Ytaoopodaalhheaa
/- THE CELL 'sum', in the pinned program and in every row, IS THE sha256 OF THE DUMP (.gsa) THAT YtaoopodaalhheaaProg.lean LOADS. Nothing in Lean hashes anything: it is a label: what it is worth is what the hold of that sum in a sandbox is worth. -/
noncomputable def Try.pinned : Pinned := { name := "ytaoopodaalhheaa", sum := "25756bbda014fc2dfef8e37ae13a4bcc42a179ec73a11655cc38d78f467f4122", checked := Try.checked }
namespace Rows
def none {H : Type} : Left H := { results := [], args := [] }

/-- 'lumlaw.BloomSays': WHATEVER THE INPUT: true; the input reads as it did. -/
def bloomSaysSpec : ChangeSpec := { name := "bloomSays", fn := fun _ => fun
  | [d1, d2, d3] => { results := [.lit (.bool true)], args := [d1, d2, d3] }
  | _ => none }
def bloomSaysRow : OpenClaim := { program := "ytaoopodaalhheaa", sum := "25756bbda014fc2dfef8e37ae13a4bcc42a179ec73a11655cc38d78f467f4122", func := "lumberroom/lumlaw.BloomSays", spec := "bloomSays", recurses := true, named := ["encoding/binary.BigEndian"], plainKeys := false, apart := false }
def BloomSaysSaid : Prop := bloomSaysRow.holds Try.pinned (OpenSpec.ofChange bloomSaysSpec)

/-- ITS FALSE NEIGHBOUR: 'it returns false'. Refute it at one input. -/
def bloomSaysWrong : ChangeSpec := { name := "bloomSays", fn := fun _ => fun
  | [d1, d2, d3] => { results := [.lit (.bool false)], args := [d1, d2, d3] }
  | _ => none }
def BloomSaysWrongFalsely : Prop := bloomSaysRow.holds Try.pinned (OpenSpec.ofChange bloomSaysWrong)

/-- 'lumlaw.ChunkFeeds': WHATEVER THE INPUT: true; the input reads as it did. -/
def chunkFeedsSpec : ChangeSpec := { name := "chunkFeeds", fn := fun _ => fun
  | [d1, d2, d3] => { results := [.lit (.bool true)], args := [d1, d2, d3] }
  | _ => none }
def chunkFeedsRow : OpenClaim := { program := "ytaoopodaalhheaa", sum := "25756bbda014fc2dfef8e37ae13a4bcc42a179ec73a11655cc38d78f467f4122", func := "lumberroom/lumlaw.ChunkFeeds", spec := "chunkFeeds", plainKeys := false, apart := false }
def ChunkFeedsSaid : Prop := chunkFeedsRow.holds Try.pinned (OpenSpec.ofChange chunkFeedsSpec)

/-- ITS FALSE NEIGHBOUR: 'it returns false'. Refute it at one input. -/
def chunkFeedsWrong : ChangeSpec := { name := "chunkFeeds", fn := fun _ => fun
  | [d1, d2, d3] => { results := [.lit (.bool false)], args := [d1, d2, d3] }
  | _ => none }
def ChunkFeedsWrongFalsely : Prop := chunkFeedsRow.holds Try.pinned (OpenSpec.ofChange chunkFeedsWrong)

/-- 'lumlaw.ChunkRanges': WHATEVER THE INPUT: true; the input reads as it did. -/
def chunkRangesSpec : ChangeSpec := { name := "chunkRanges", fn := fun _ => fun
  | [d1, d2, d3] => { results := [.lit (.bool true)], args := [d1, d2, d3] }
  | _ => none }
def chunkRangesRow : OpenClaim := { program := "ytaoopodaalhheaa", sum := "25756bbda014fc2dfef8e37ae13a4bcc42a179ec73a11655cc38d78f467f4122", func := "lumberroom/lumlaw.ChunkRanges", spec := "chunkRanges", unfollowed := true, recurses := true, plainKeys := false, apart := false }
def ChunkRangesSaid : Prop := chunkRangesRow.holds Try.pinned (OpenSpec.ofChange chunkRangesSpec)

/-- ITS FALSE NEIGHBOUR: 'it returns false'. Refute it at one input. -/
def chunkRangesWrong : ChangeSpec := { name := "chunkRanges", fn := fun _ => fun
  | [d1, d2, d3] => { results := [.lit (.bool false)], args := [d1, d2, d3] }
  | _ => none }
def ChunkRangesWrongFalsely : Prop := chunkRangesRow.holds Try.pinned (OpenSpec.ofChange chunkRangesWrong)

/-- 'lumlaw.ChunkSays': WHATEVER THE INPUT: true; the input reads as it did. -/
def chunkSaysSpec : ChangeSpec := { name := "chunkSays", fn := fun _ => fun
  | [d1, d2, d3] => { results := [.lit (.bool true)], args := [d1, d2, d3] }
  | _ => none }
def chunkSaysRow : OpenClaim := { program := "ytaoopodaalhheaa", sum := "25756bbda014fc2dfef8e37ae13a4bcc42a179ec73a11655cc38d78f467f4122", func := "lumberroom/lumlaw.ChunkSays", spec := "chunkSays", plainKeys := false, apart := false }
def ChunkSaysSaid : Prop := chunkSaysRow.holds Try.pinned (OpenSpec.ofChange chunkSaysSpec)

/-- ITS FALSE NEIGHBOUR: 'it returns false'. Refute it at one input. -/
def chunkSaysWrong : ChangeSpec := { name := "chunkSays", fn := fun _ => fun
  | [d1, d2, d3] => { results := [.lit (.bool false)], args := [d1, d2, d3] }
  | _ => none }
def ChunkSaysWrongFalsely : Prop := chunkSaysRow.holds Try.pinned (OpenSpec.ofChange chunkSaysWrong)

/-- 'lumlaw.HuffLengths': WHATEVER THE INPUT: true; the input reads as it did. -/
def huffLengthsSpec : ChangeSpec := { name := "huffLengths", fn := fun _ => fun
  | [d] => { results := [.lit (.bool true)], args := [d] }
  | _ => none }
def huffLengthsRow : OpenClaim := { program := "ytaoopodaalhheaa", sum := "25756bbda014fc2dfef8e37ae13a4bcc42a179ec73a11655cc38d78f467f4122", func := "lumberroom/lumlaw.HuffLengths", spec := "huffLengths", unfollowed := true, recurses := true, plainKeys := false, apart := false }
def HuffLengthsSaid : Prop := huffLengthsRow.holds Try.pinned (OpenSpec.ofChange huffLengthsSpec)

/-- ITS FALSE NEIGHBOUR: 'it returns false'. Refute it at one input. -/
def huffLengthsWrong : ChangeSpec := { name := "huffLengths", fn := fun _ => fun
  | [d] => { results := [.lit (.bool false)], args := [d] }
  | _ => none }
def HuffLengthsWrongFalsely : Prop := huffLengthsRow.holds Try.pinned (OpenSpec.ofChange huffLengthsWrong)

/-- 'lumlaw.KeepSays': WHATEVER THE INPUT: true; the input reads as it did. -/
def keepSaysSpec : ChangeSpec := { name := "keepSays", fn := fun _ => fun
  | [d1, d2] => { results := [.lit (.bool true)], args := [d1, d2] }
  | _ => none }
def keepSaysRow : OpenClaim := { program := "ytaoopodaalhheaa", sum := "25756bbda014fc2dfef8e37ae13a4bcc42a179ec73a11655cc38d78f467f4122", func := "lumberroom/lumlaw.KeepSays", spec := "keepSays", unfollowed := true, recurses := true, plainKeys := false, apart := false }
def KeepSaysSaid : Prop := keepSaysRow.holds Try.pinned (OpenSpec.ofChange keepSaysSpec)

/-- ITS FALSE NEIGHBOUR: 'it returns false'. Refute it at one input. -/
def keepSaysWrong : ChangeSpec := { name := "keepSays", fn := fun _ => fun
  | [d1, d2] => { results := [.lit (.bool false)], args := [d1, d2] }
  | _ => none }
def KeepSaysWrongFalsely : Prop := keepSaysRow.holds Try.pinned (OpenSpec.ofChange keepSaysWrong)

/-- 'lumlaw.ShieldMends': WHATEVER THE INPUT: true; the input reads as it did. -/
def shieldMendsSpec : ChangeSpec := { name := "shieldMends", fn := fun _ => fun
  | [d1, d2] => { results := [.lit (.bool true)], args := [d1, d2] }
  | _ => none }
def shieldMendsRow : OpenClaim := { program := "ytaoopodaalhheaa", sum := "25756bbda014fc2dfef8e37ae13a4bcc42a179ec73a11655cc38d78f467f4122", func := "lumberroom/lumlaw.ShieldMends", spec := "shieldMends", unfollowed := true, recurses := true, plainKeys := false, apart := false }
def ShieldMendsSaid : Prop := shieldMendsRow.holds Try.pinned (OpenSpec.ofChange shieldMendsSpec)

/-- ITS FALSE NEIGHBOUR: 'it returns false'. Refute it at one input. -/
def shieldMendsWrong : ChangeSpec := { name := "shieldMends", fn := fun _ => fun
  | [d1, d2] => { results := [.lit (.bool false)], args := [d1, d2] }
  | _ => none }
def ShieldMendsWrongFalsely : Prop := shieldMendsRow.holds Try.pinned (OpenSpec.ofChange shieldMendsWrong)

/-- 'lumlaw.MixSays': WHATEVER THE INPUT: true; the input reads as it did. -/
def mixSaysSpec : ChangeSpec := { name := "mixSays", fn := fun _ => fun
  | [d1, d2, d3, d4] => { results := [.lit (.bool true)], args := [d1, d2, d3, d4] }
  | _ => none }
def mixSaysRow : OpenClaim := { program := "ytaoopodaalhheaa", sum := "25756bbda014fc2dfef8e37ae13a4bcc42a179ec73a11655cc38d78f467f4122", func := "lumberroom/lumlaw.MixSays", spec := "mixSays", inPlace := ["internal/abi.NoEscape", "internal/bytealg.MakeNoZero"], unfollowed := true, recurses := true, named := ["encoding/binary.LittleEndian", "encoding/binary.BigEndian"], plainKeys := false, apart := false }
def MixSaysSaid : Prop := mixSaysRow.holds Try.pinned (OpenSpec.ofChange mixSaysSpec)

/-- ITS FALSE NEIGHBOUR: 'it returns false'. Refute it at one input. -/
def mixSaysWrong : ChangeSpec := { name := "mixSays", fn := fun _ => fun
  | [d1, d2, d3, d4] => { results := [.lit (.bool false)], args := [d1, d2, d3, d4] }
  | _ => none }
def MixSaysWrongFalsely : Prop := mixSaysRow.holds Try.pinned (OpenSpec.ofChange mixSaysWrong)

/-- 'lumlaw.NumFloats': WHATEVER THE INPUT: true; the input reads as it did. -/
def numFloatsSpec : ChangeSpec := { name := "numFloats", fn := fun _ => fun
  | [d1, d2] => { results := [.lit (.bool true)], args := [d1, d2] }
  | _ => none }
def numFloatsRow : OpenClaim := { program := "ytaoopodaalhheaa", sum := "25756bbda014fc2dfef8e37ae13a4bcc42a179ec73a11655cc38d78f467f4122", func := "lumberroom/lumlaw.NumFloats", spec := "numFloats", inPlace := ["math.Float64frombits", "math.Float64bits", "internal/abi.NoEscape", "internal/bytealg.MakeNoZero"], recurses := true, named := ["encoding/binary.BigEndian"], plainKeys := false, apart := false }
def NumFloatsSaid : Prop := numFloatsRow.holds Try.pinned (OpenSpec.ofChange numFloatsSpec)

/-- ITS FALSE NEIGHBOUR: 'it returns false'. Refute it at one input. -/
def numFloatsWrong : ChangeSpec := { name := "numFloats", fn := fun _ => fun
  | [d1, d2] => { results := [.lit (.bool false)], args := [d1, d2] }
  | _ => none }
def NumFloatsWrongFalsely : Prop := numFloatsRow.holds Try.pinned (OpenSpec.ofChange numFloatsWrong)

/-- 'lumlaw.SweepSays': WHATEVER THE INPUT: true; the input reads as it did. -/
def sweepSaysSpec : ChangeSpec := { name := "sweepSays", fn := fun _ => fun
  | [d1, d2] => { results := [.lit (.bool true)], args := [d1, d2] }
  | _ => none }
def sweepSaysRow : OpenClaim := { program := "ytaoopodaalhheaa", sum := "25756bbda014fc2dfef8e37ae13a4bcc42a179ec73a11655cc38d78f467f4122", func := "lumberroom/lumlaw.SweepSays", spec := "sweepSays", unfollowed := true, recurses := true, plainKeys := false, apart := false }
def SweepSaysSaid : Prop := sweepSaysRow.holds Try.pinned (OpenSpec.ofChange sweepSaysSpec)

/-- ITS FALSE NEIGHBOUR: 'it returns false'. Refute it at one input. -/
def sweepSaysWrong : ChangeSpec := { name := "sweepSays", fn := fun _ => fun
  | [d1, d2] => { results := [.lit (.bool false)], args := [d1, d2] }
  | _ => none }
def SweepSaysWrongFalsely : Prop := sweepSaysRow.holds Try.pinned (OpenSpec.ofChange sweepSaysWrong)

/-- 'lumlaw.WasteSays': WHATEVER THE INPUT: true; the input reads as it did. -/
def wasteSaysSpec : ChangeSpec := { name := "wasteSays", fn := fun _ => fun
  | [d1, d2, d3, d4] => { results := [.lit (.bool true)], args := [d1, d2, d3, d4] }
  | _ => none }
def wasteSaysRow : OpenClaim := { program := "ytaoopodaalhheaa", sum := "25756bbda014fc2dfef8e37ae13a4bcc42a179ec73a11655cc38d78f467f4122", func := "lumberroom/lumlaw.WasteSays", spec := "wasteSays", inPlace := ["math.Float64bits"], unfollowed := true, recurses := true, plainKeys := false, apart := false }
def WasteSaysSaid : Prop := wasteSaysRow.holds Try.pinned (OpenSpec.ofChange wasteSaysSpec)

/-- ITS FALSE NEIGHBOUR: 'it returns false'. Refute it at one input. -/
def wasteSaysWrong : ChangeSpec := { name := "wasteSays", fn := fun _ => fun
  | [d1, d2, d3, d4] => { results := [.lit (.bool false)], args := [d1, d2, d3, d4] }
  | _ => none }
def WasteSaysWrongFalsely : Prop := wasteSaysRow.holds Try.pinned (OpenSpec.ofChange wasteSaysWrong)

/-- 'lumlaw.LzSays': WHATEVER THE INPUT: true; the input reads as it did. -/
def lzSaysSpec : ChangeSpec := { name := "lzSays", fn := fun _ => fun
  | [d1, d2, d3] => { results := [.lit (.bool true)], args := [d1, d2, d3] }
  | _ => none }
def lzSaysRow : OpenClaim := { program := "ytaoopodaalhheaa", sum := "25756bbda014fc2dfef8e37ae13a4bcc42a179ec73a11655cc38d78f467f4122", func := "lumberroom/lumlaw.LzSays", spec := "lzSays", inPlace := ["internal/abi.NoEscape", "internal/bytealg.MakeNoZero"], plainKeys := false, apart := false }
def LzSaysSaid : Prop := lzSaysRow.holds Try.pinned (OpenSpec.ofChange lzSaysSpec)

/-- ITS FALSE NEIGHBOUR: 'it returns false'. Refute it at one input. -/
def lzSaysWrong : ChangeSpec := { name := "lzSays", fn := fun _ => fun
  | [d1, d2, d3] => { results := [.lit (.bool false)], args := [d1, d2, d3] }
  | _ => none }
def LzSaysWrongFalsely : Prop := lzSaysRow.holds Try.pinned (OpenSpec.ofChange lzSaysWrong)

/-- 'lumlaw.LineSays': WHATEVER THE INPUT: true; the input reads as it did. -/
def lineSaysSpec : ChangeSpec := { name := "lineSays", fn := fun _ => fun
  | [d1, d2, d3] => { results := [.lit (.bool true)], args := [d1, d2, d3] }
  | _ => none }
def lineSaysRow : OpenClaim := { program := "ytaoopodaalhheaa", sum := "25756bbda014fc2dfef8e37ae13a4bcc42a179ec73a11655cc38d78f467f4122", func := "lumberroom/lumlaw.LineSays", spec := "lineSays", inPlace := ["slices.overlaps[lumberroom/api.Packet]"], unfollowed := true, recurses := true, plainKeys := false, apart := false }
def LineSaysSaid : Prop := lineSaysRow.holds Try.pinned (OpenSpec.ofChange lineSaysSpec)

/-- ITS FALSE NEIGHBOUR: 'it returns false'. Refute it at one input. -/
def lineSaysWrong : ChangeSpec := { name := "lineSays", fn := fun _ => fun
  | [d1, d2, d3] => { results := [.lit (.bool false)], args := [d1, d2, d3] }
  | _ => none }
def LineSaysWrongFalsely : Prop := lineSaysRow.holds Try.pinned (OpenSpec.ofChange lineSaysWrong)

/-- 'lumlaw.PackLists': WHATEVER THE INPUT: true; the input reads as it did. -/
def packListsSpec : ChangeSpec := { name := "packLists", fn := fun _ => fun
  | [d] => { results := [.lit (.bool true)], args := [d] }
  | _ => none }
def packListsRow : OpenClaim := { program := "ytaoopodaalhheaa", sum := "25756bbda014fc2dfef8e37ae13a4bcc42a179ec73a11655cc38d78f467f4122", func := "lumberroom/lumlaw.PackLists", spec := "packLists", inPlace := ["internal/abi.NoEscape", "internal/bytealg.MakeNoZero"], unfollowed := true, recurses := true, named := ["encoding/binary.BigEndian", "encoding/binary.LittleEndian"], plainKeys := false, apart := false }
def PackListsSaid : Prop := packListsRow.holds Try.pinned (OpenSpec.ofChange packListsSpec)

/-- ITS FALSE NEIGHBOUR: 'it returns false'. Refute it at one input. -/
def packListsWrong : ChangeSpec := { name := "packLists", fn := fun _ => fun
  | [d] => { results := [.lit (.bool false)], args := [d] }
  | _ => none }
def PackListsWrongFalsely : Prop := packListsRow.holds Try.pinned (OpenSpec.ofChange packListsWrong)

/- THE SECOND FORM. 'bulk': how many values and letters a reading holds, each counted each time it is reached (what is shared counts as often as it is met; a slice's spare places count too). A statement '..UptoSaid' is the law's where the arguments, and the package variables that the reading takes, are together of bulk at most 1048576: NARROWER than '..Said'. Prove '..Said' where nothing that the law and all that it calls make is longer than what came in: it says more and counts as full. Else prove '..UptoSaid'. A law counts once. -/
mutual
def uptoBulk {H : Type} : DataW H → Nat
  | .lit (.string bytes) => bytes.length + 1
  | .lit _ => 1
  | .nil => 1
  | .ptr d => uptoBulk d + 1
  | .slice elems spare => uptoBulkAll elems + uptoBulkAll spare + 1
  | .agg parts => uptoBulkAll parts + 1
  | .iface _ d => uptoBulk d + 1
  | .map entries => uptoBulkEntries entries + 1
  | .held _ => 1
def uptoBulkAll {H : Type} : List (DataW H) → Nat
  | [] => 0
  | d :: r => uptoBulk d + uptoBulkAll r
def uptoBulkEntries {H : Type} : List (Lit × DataW H) → Nat
  | [] => 0
  | x :: r => uptoBulkEntry x + uptoBulkEntries r
def uptoBulkEntry {H : Type} : Lit × DataW H → Nat
  | (.string bytes, d) => bytes.length + uptoBulk d + 1
  | (_, d) => uptoBulk d + 1
 end
def uptoSmall : (H : Type) → List (DataW H) → Bool := fun _ ds => decide (uptoBulkAll ds ≤ 1048576)
def OpenSpec.upto (s : _root_.Go.ChangeSpec) : _root_.Go.OpenSpec := { _root_.Go.OpenSpec.ofChange s with cond := some uptoSmall }

/-- 'lumlaw.BloomSays', WHERE WHAT IT READS IS OF BULK AT MOST 1048576: true; the input reads as it did. -/
def bloomSaysUptoRow : OpenClaim := { program := "ytaoopodaalhheaa", sum := "25756bbda014fc2dfef8e37ae13a4bcc42a179ec73a11655cc38d78f467f4122", func := "lumberroom/lumlaw.BloomSays", spec := "bloomSays", recurses := true, named := ["encoding/binary.BigEndian"], plainKeys := false, apart := false, narrowed := true }
def BloomSaysUptoSaid : Prop := bloomSaysUptoRow.holds Try.pinned (OpenSpec.upto bloomSaysSpec)

/-- 'lumlaw.ChunkFeeds', WHERE WHAT IT READS IS OF BULK AT MOST 1048576: true; the input reads as it did. -/
def chunkFeedsUptoRow : OpenClaim := { program := "ytaoopodaalhheaa", sum := "25756bbda014fc2dfef8e37ae13a4bcc42a179ec73a11655cc38d78f467f4122", func := "lumberroom/lumlaw.ChunkFeeds", spec := "chunkFeeds", plainKeys := false, apart := false, narrowed := true }
def ChunkFeedsUptoSaid : Prop := chunkFeedsUptoRow.holds Try.pinned (OpenSpec.upto chunkFeedsSpec)

/-- 'lumlaw.ChunkRanges', WHERE WHAT IT READS IS OF BULK AT MOST 1048576: true; the input reads as it did. -/
def chunkRangesUptoRow : OpenClaim := { program := "ytaoopodaalhheaa", sum := "25756bbda014fc2dfef8e37ae13a4bcc42a179ec73a11655cc38d78f467f4122", func := "lumberroom/lumlaw.ChunkRanges", spec := "chunkRanges", unfollowed := true, recurses := true, plainKeys := false, apart := false, narrowed := true }
def ChunkRangesUptoSaid : Prop := chunkRangesUptoRow.holds Try.pinned (OpenSpec.upto chunkRangesSpec)

/-- 'lumlaw.ChunkSays', WHERE WHAT IT READS IS OF BULK AT MOST 1048576: true; the input reads as it did. -/
def chunkSaysUptoRow : OpenClaim := { program := "ytaoopodaalhheaa", sum := "25756bbda014fc2dfef8e37ae13a4bcc42a179ec73a11655cc38d78f467f4122", func := "lumberroom/lumlaw.ChunkSays", spec := "chunkSays", plainKeys := false, apart := false, narrowed := true }
def ChunkSaysUptoSaid : Prop := chunkSaysUptoRow.holds Try.pinned (OpenSpec.upto chunkSaysSpec)

/-- 'lumlaw.HuffLengths', WHERE WHAT IT READS IS OF BULK AT MOST 1048576: true; the input reads as it did. -/
def huffLengthsUptoRow : OpenClaim := { program := "ytaoopodaalhheaa", sum := "25756bbda014fc2dfef8e37ae13a4bcc42a179ec73a11655cc38d78f467f4122", func := "lumberroom/lumlaw.HuffLengths", spec := "huffLengths", unfollowed := true, recurses := true, plainKeys := false, apart := false, narrowed := true }
def HuffLengthsUptoSaid : Prop := huffLengthsUptoRow.holds Try.pinned (OpenSpec.upto huffLengthsSpec)

/-- 'lumlaw.KeepSays', WHERE WHAT IT READS IS OF BULK AT MOST 1048576: true; the input reads as it did. -/
def keepSaysUptoRow : OpenClaim := { program := "ytaoopodaalhheaa", sum := "25756bbda014fc2dfef8e37ae13a4bcc42a179ec73a11655cc38d78f467f4122", func := "lumberroom/lumlaw.KeepSays", spec := "keepSays", unfollowed := true, recurses := true, plainKeys := false, apart := false, narrowed := true }
def KeepSaysUptoSaid : Prop := keepSaysUptoRow.holds Try.pinned (OpenSpec.upto keepSaysSpec)

/-- 'lumlaw.ShieldMends', WHERE WHAT IT READS IS OF BULK AT MOST 1048576: true; the input reads as it did. -/
def shieldMendsUptoRow : OpenClaim := { program := "ytaoopodaalhheaa", sum := "25756bbda014fc2dfef8e37ae13a4bcc42a179ec73a11655cc38d78f467f4122", func := "lumberroom/lumlaw.ShieldMends", spec := "shieldMends", unfollowed := true, recurses := true, plainKeys := false, apart := false, narrowed := true }
def ShieldMendsUptoSaid : Prop := shieldMendsUptoRow.holds Try.pinned (OpenSpec.upto shieldMendsSpec)

/-- 'lumlaw.MixSays', WHERE WHAT IT READS IS OF BULK AT MOST 1048576: true; the input reads as it did. -/
def mixSaysUptoRow : OpenClaim := { program := "ytaoopodaalhheaa", sum := "25756bbda014fc2dfef8e37ae13a4bcc42a179ec73a11655cc38d78f467f4122", func := "lumberroom/lumlaw.MixSays", spec := "mixSays", inPlace := ["internal/abi.NoEscape", "internal/bytealg.MakeNoZero"], unfollowed := true, recurses := true, named := ["encoding/binary.LittleEndian", "encoding/binary.BigEndian"], plainKeys := false, apart := false, narrowed := true }
def MixSaysUptoSaid : Prop := mixSaysUptoRow.holds Try.pinned (OpenSpec.upto mixSaysSpec)

/-- 'lumlaw.NumFloats', WHERE WHAT IT READS IS OF BULK AT MOST 1048576: true; the input reads as it did. -/
def numFloatsUptoRow : OpenClaim := { program := "ytaoopodaalhheaa", sum := "25756bbda014fc2dfef8e37ae13a4bcc42a179ec73a11655cc38d78f467f4122", func := "lumberroom/lumlaw.NumFloats", spec := "numFloats", inPlace := ["math.Float64frombits", "math.Float64bits", "internal/abi.NoEscape", "internal/bytealg.MakeNoZero"], recurses := true, named := ["encoding/binary.BigEndian"], plainKeys := false, apart := false, narrowed := true }
def NumFloatsUptoSaid : Prop := numFloatsUptoRow.holds Try.pinned (OpenSpec.upto numFloatsSpec)

/-- 'lumlaw.SweepSays', WHERE WHAT IT READS IS OF BULK AT MOST 1048576: true; the input reads as it did. -/
def sweepSaysUptoRow : OpenClaim := { program := "ytaoopodaalhheaa", sum := "25756bbda014fc2dfef8e37ae13a4bcc42a179ec73a11655cc38d78f467f4122", func := "lumberroom/lumlaw.SweepSays", spec := "sweepSays", unfollowed := true, recurses := true, plainKeys := false, apart := false, narrowed := true }
def SweepSaysUptoSaid : Prop := sweepSaysUptoRow.holds Try.pinned (OpenSpec.upto sweepSaysSpec)

/-- 'lumlaw.WasteSays', WHERE WHAT IT READS IS OF BULK AT MOST 1048576: true; the input reads as it did. -/
def wasteSaysUptoRow : OpenClaim := { program := "ytaoopodaalhheaa", sum := "25756bbda014fc2dfef8e37ae13a4bcc42a179ec73a11655cc38d78f467f4122", func := "lumberroom/lumlaw.WasteSays", spec := "wasteSays", inPlace := ["math.Float64bits"], unfollowed := true, recurses := true, plainKeys := false, apart := false, narrowed := true }
def WasteSaysUptoSaid : Prop := wasteSaysUptoRow.holds Try.pinned (OpenSpec.upto wasteSaysSpec)

/-- 'lumlaw.LzSays', WHERE WHAT IT READS IS OF BULK AT MOST 1048576: true; the input reads as it did. -/
def lzSaysUptoRow : OpenClaim := { program := "ytaoopodaalhheaa", sum := "25756bbda014fc2dfef8e37ae13a4bcc42a179ec73a11655cc38d78f467f4122", func := "lumberroom/lumlaw.LzSays", spec := "lzSays", inPlace := ["internal/abi.NoEscape", "internal/bytealg.MakeNoZero"], plainKeys := false, apart := false, narrowed := true }
def LzSaysUptoSaid : Prop := lzSaysUptoRow.holds Try.pinned (OpenSpec.upto lzSaysSpec)

/-- 'lumlaw.LineSays', WHERE WHAT IT READS IS OF BULK AT MOST 1048576: true; the input reads as it did. -/
def lineSaysUptoRow : OpenClaim := { program := "ytaoopodaalhheaa", sum := "25756bbda014fc2dfef8e37ae13a4bcc42a179ec73a11655cc38d78f467f4122", func := "lumberroom/lumlaw.LineSays", spec := "lineSays", inPlace := ["slices.overlaps[lumberroom/api.Packet]"], unfollowed := true, recurses := true, plainKeys := false, apart := false, narrowed := true }
def LineSaysUptoSaid : Prop := lineSaysUptoRow.holds Try.pinned (OpenSpec.upto lineSaysSpec)

/-- 'lumlaw.PackLists', WHERE WHAT IT READS IS OF BULK AT MOST 1048576: true; the input reads as it did. -/
def packListsUptoRow : OpenClaim := { program := "ytaoopodaalhheaa", sum := "25756bbda014fc2dfef8e37ae13a4bcc42a179ec73a11655cc38d78f467f4122", func := "lumberroom/lumlaw.PackLists", spec := "packLists", inPlace := ["internal/abi.NoEscape", "internal/bytealg.MakeNoZero"], unfollowed := true, recurses := true, named := ["encoding/binary.BigEndian", "encoding/binary.LittleEndian"], plainKeys := false, apart := false, narrowed := true }
def PackListsUptoSaid : Prop := packListsUptoRow.holds Try.pinned (OpenSpec.upto packListsSpec)

end Rows
end Go.Proofs.Ytaoopodaalhheaa
