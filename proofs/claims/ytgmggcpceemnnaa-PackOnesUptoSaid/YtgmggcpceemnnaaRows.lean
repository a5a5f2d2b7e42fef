/-
  No cell of these rows narrows 'for every input' (looked for: loops, veiled, ifaces, maps, wideKeys, modest, calm, conditions, laid).
  DERIVED. THE GIVEN ROWS OF THIS SEAT. 8 by the template 'for every input the law returns true; each argument reads behind the call as it read before'; 0 by the template 'total and deterministic' (their statements: YtgmggcpceemnnaaTotals.lean).
  GIVEN WITH THE SEED: the statements are not yours to turn. If you find one false, say at which input.
  Laid BY PROGRAM, IN A SANDBOX (cutbox-rows.mjs): the forced cells as the released guide's own fill.sh prints them over the translation 6205066f89116623… (all of the seat's roots in one cut). By AI agents, Wed Nov 11 2026. No macro, syntax, notation, axiom, sorry.
-/
import Derived.Test.YtgmggcpceemnnaaChecked
import GoSem.Claim
import GoSem.ClaimJoined
import GoSem.ClaimMapViews
import Derived.JoinedTies
import Derived.KernelRfl
namespace Go.Proofs.Ytgmggcpceemnnaa
/- THE CELL 'sum', in the pinned program and in every row, IS THE sha256 OF THE DUMP (.gsa) THAT YtgmggcpceemnnaaProg.lean LOADS. Nothing in Lean hashes anything: it is a label: what it is worth is what the hold of that sum in a sandbox is worth. -/
noncomputable def Try.pinned : Pinned := { name := "ytgmggcpceemnnaa", sum := "6205066f8911662369b557369c05a025baa6f7474d0c06a863c31c171b9d00a1", checked := Try.checked }
namespace Rows
def none {H : Type} : Left H := { results := [], args := [] }

/-- 'lumlaw.ChunkRanges': WHATEVER THE INPUT: true; the input reads as it did. -/
def chunkRangesSpec : ChangeSpec := { name := "chunkRanges", fn := fun _ => fun
  | [d1, d2, d3] => { results := [.lit (.bool true)], args := [d1, d2, d3] }
  | _ => none }
def chunkRangesRow : OpenClaim := { program := "ytgmggcpceemnnaa", sum := "6205066f8911662369b557369c05a025baa6f7474d0c06a863c31c171b9d00a1", func := "lumberroom/lumlaw.ChunkRanges", spec := "chunkRanges", unfollowed := true, recurses := true, plainKeys := false, apart := false }
def ChunkRangesSaid : Prop := chunkRangesRow.holds Try.pinned (OpenSpec.ofChange chunkRangesSpec)

/-- ITS FALSE NEIGHBOUR: 'it returns false'. Refute it at one input. -/
def chunkRangesWrong : ChangeSpec := { name := "chunkRanges", fn := fun _ => fun
  | [d1, d2, d3] => { results := [.lit (.bool false)], args := [d1, d2, d3] }
  | _ => none }
def ChunkRangesWrongFalsely : Prop := chunkRangesRow.holds Try.pinned (OpenSpec.ofChange chunkRangesWrong)

/-- 'lumlaw.HuffLengths': WHATEVER THE INPUT: true; the input reads as it did. -/
def huffLengthsSpec : ChangeSpec := { name := "huffLengths", fn := fun _ => fun
  | [d] => { results := [.lit (.bool true)], args := [d] }
  | _ => none }
def huffLengthsRow : OpenClaim := { program := "ytgmggcpceemnnaa", sum := "6205066f8911662369b557369c05a025baa6f7474d0c06a863c31c171b9d00a1", func := "lumberroom/lumlaw.HuffLengths", spec := "huffLengths", unfollowed := true, recurses := true, plainKeys := false, apart := false }
def HuffLengthsSaid : Prop := huffLengthsRow.holds Try.pinned (OpenSpec.ofChange huffLengthsSpec)

/-- ITS FALSE NEIGHBOUR: 'it returns false'. Refute it at one input. -/
def huffLengthsWrong : ChangeSpec := { name := "huffLengths", fn := fun _ => fun
  | [d] => { results := [.lit (.bool false)], args := [d] }
  | _ => none }
def HuffLengthsWrongFalsely : Prop := huffLengthsRow.holds Try.pinned (OpenSpec.ofChange huffLengthsWrong)

/-- 'lumlaw.ShieldMends': WHATEVER THE INPUT: true; the input reads as it did. -/
def shieldMendsSpec : ChangeSpec := { name := "shieldMends", fn := fun _ => fun
  | [d1, d2] => { results := [.lit (.bool true)], args := [d1, d2] }
  | _ => none }
def shieldMendsRow : OpenClaim := { program := "ytgmggcpceemnnaa", sum := "6205066f8911662369b557369c05a025baa6f7474d0c06a863c31c171b9d00a1", func := "lumberroom/lumlaw.ShieldMends", spec := "shieldMends", unfollowed := true, recurses := true, plainKeys := false, apart := false }
def ShieldMendsSaid : Prop := shieldMendsRow.holds Try.pinned (OpenSpec.ofChange shieldMendsSpec)

/-- ITS FALSE NEIGHBOUR: 'it returns false'. Refute it at one input. -/
def shieldMendsWrong : ChangeSpec := { name := "shieldMends", fn := fun _ => fun
  | [d1, d2] => { results := [.lit (.bool false)], args := [d1, d2] }
  | _ => none }
def ShieldMendsWrongFalsely : Prop := shieldMendsRow.holds Try.pinned (OpenSpec.ofChange shieldMendsWrong)

/-- 'lumlaw.WasteSays': WHATEVER THE INPUT: true; the input reads as it did. -/
def wasteSaysSpec : ChangeSpec := { name := "wasteSays", fn := fun _ => fun
  | [d1, d2, d3, d4] => { results := [.lit (.bool true)], args := [d1, d2, d3, d4] }
  | _ => none }
def wasteSaysRow : OpenClaim := { program := "ytgmggcpceemnnaa", sum := "6205066f8911662369b557369c05a025baa6f7474d0c06a863c31c171b9d00a1", func := "lumberroom/lumlaw.WasteSays", spec := "wasteSays", inPlace := ["math.Float64bits"], unfollowed := true, recurses := true, plainKeys := false, apart := false }
def WasteSaysSaid : Prop := wasteSaysRow.holds Try.pinned (OpenSpec.ofChange wasteSaysSpec)

/-- ITS FALSE NEIGHBOUR: 'it returns false'. Refute it at one input. -/
def wasteSaysWrong : ChangeSpec := { name := "wasteSays", fn := fun _ => fun
  | [d1, d2, d3, d4] => { results := [.lit (.bool false)], args := [d1, d2, d3, d4] }
  | _ => none }
def WasteSaysWrongFalsely : Prop := wasteSaysRow.holds Try.pinned (OpenSpec.ofChange wasteSaysWrong)

/-- 'lumlaw.PressOpens': WHATEVER THE INPUT: true; the input reads as it did. -/
def pressOpensSpec : ChangeSpec := { name := "pressOpens", fn := fun _ => fun
  | [d] => { results := [.lit (.bool true)], args := [d] }
  | _ => none }
def pressOpensRow : OpenClaim := { program := "ytgmggcpceemnnaa", sum := "6205066f8911662369b557369c05a025baa6f7474d0c06a863c31c171b9d00a1", func := "lumberroom/lumlaw.PressOpens", spec := "pressOpens", inPlace := ["internal/abi.NoEscape", "internal/bytealg.IndexByteString", "internal/bytealg.IndexString", "internal/bytealg.MakeNoZero"], unfollowed := true, recurses := true, named := ["internal/bytealg.MaxLen"], plainKeys := false, apart := false }
def PressOpensSaid : Prop := pressOpensRow.holds Try.pinned (OpenSpec.ofChange pressOpensSpec)

/-- ITS FALSE NEIGHBOUR: 'it returns false'. Refute it at one input. -/
def pressOpensWrong : ChangeSpec := { name := "pressOpens", fn := fun _ => fun
  | [d] => { results := [.lit (.bool false)], args := [d] }
  | _ => none }
def PressOpensWrongFalsely : Prop := pressOpensRow.holds Try.pinned (OpenSpec.ofChange pressOpensWrong)

/-- 'lumlaw.IndexMerges': WHATEVER THE INPUT: true; the input reads as it did. -/
def indexMergesSpec : ChangeSpec := { name := "indexMerges", fn := fun _ => fun
  | [d1, d2, d3, d4] => { results := [.lit (.bool true)], args := [d1, d2, d3, d4] }
  | _ => none }
def indexMergesRow : OpenClaim := { program := "ytgmggcpceemnnaa", sum := "6205066f8911662369b557369c05a025baa6f7474d0c06a863c31c171b9d00a1", func := "lumberroom/lumlaw.IndexMerges", spec := "indexMerges", inPlace := ["internal/bytealg.Compare"], unfollowed := true, recurses := true, plainKeys := false, apart := false }
def IndexMergesSaid : Prop := indexMergesRow.holds Try.pinned (OpenSpec.ofChange indexMergesSpec)

/-- ITS FALSE NEIGHBOUR: 'it returns false'. Refute it at one input. -/
def indexMergesWrong : ChangeSpec := { name := "indexMerges", fn := fun _ => fun
  | [d1, d2, d3, d4] => { results := [.lit (.bool false)], args := [d1, d2, d3, d4] }
  | _ => none }
def IndexMergesWrongFalsely : Prop := indexMergesRow.holds Try.pinned (OpenSpec.ofChange indexMergesWrong)

/-- 'lumlaw.DiskPlays': WHATEVER THE INPUT: true; the input reads as it did. -/
def diskPlaysSpec : ChangeSpec := { name := "diskPlays", fn := fun _ => fun
  | [d1, d2] => { results := [.lit (.bool true)], args := [d1, d2] }
  | _ => none }
def diskPlaysRow : OpenClaim := { program := "ytgmggcpceemnnaa", sum := "6205066f8911662369b557369c05a025baa6f7474d0c06a863c31c171b9d00a1", func := "lumberroom/lumlaw.DiskPlays", spec := "diskPlays", inPlace := ["slices.overlaps[lumberroom/lumref.File]", "maps.clone"], unfollowed := true, recurses := true, plainKeys := false, apart := false }
def DiskPlaysSaid : Prop := diskPlaysRow.holds Try.pinned (OpenSpec.ofChange diskPlaysSpec)

/-- ITS FALSE NEIGHBOUR: 'it returns false'. Refute it at one input. -/
def diskPlaysWrong : ChangeSpec := { name := "diskPlays", fn := fun _ => fun
  | [d1, d2] => { results := [.lit (.bool false)], args := [d1, d2] }
  | _ => none }
def DiskPlaysWrongFalsely : Prop := diskPlaysRow.holds Try.pinned (OpenSpec.ofChange diskPlaysWrong)

/-- 'lumlaw.PackOnes': WHATEVER THE INPUT: true; the input reads as it did. -/
def packOnesSpec : ChangeSpec := { name := "packOnes", fn := fun _ => fun
  | [d1, d2] => { results := [.lit (.bool true)], args := [d1, d2] }
  | _ => none }
def packOnesRow : OpenClaim := { program := "ytgmggcpceemnnaa", sum := "6205066f8911662369b557369c05a025baa6f7474d0c06a863c31c171b9d00a1", func := "lumberroom/lumlaw.PackOnes", spec := "packOnes", inPlace := ["internal/abi.NoEscape", "internal/bytealg.IndexByteString", "internal/bytealg.IndexString", "internal/bytealg.MakeNoZero"], unfollowed := true, recurses := true, named := ["encoding/binary.BigEndian", "encoding/binary.LittleEndian", "internal/bytealg.MaxLen"], plainKeys := false, apart := false }
def PackOnesSaid : Prop := packOnesRow.holds Try.pinned (OpenSpec.ofChange packOnesSpec)

/-- ITS FALSE NEIGHBOUR: 'it returns false'. Refute it at one input. -/
def packOnesWrong : ChangeSpec := { name := "packOnes", fn := fun _ => fun
  | [d1, d2] => { results := [.lit (.bool false)], args := [d1, d2] }
  | _ => none }
def PackOnesWrongFalsely : Prop := packOnesRow.holds Try.pinned (OpenSpec.ofChange packOnesWrong)

/- THE SECOND FORM. 'bulk': how many values and letters a reading holds, each counted each time it is reached (what is shared counts as often as it is met; a slice's spare places count too). A statement '..UptoSaid' is the law's where the arguments, and the package variables that the reading takes, are together of bulk at most 1048576: NARROWER than '..Said'. Prove '..Said' where nothing that the law and all that it calls make is longer than what came in: it says more and counts as full. Else prove '..UptoSaid'. A law counts once. -/
mutual
def uptoBulk {H : Type} : DataW H → Nat
  | .lit (.string bytes) => bytes.length + 1
  | .lit _ => 1
  | .nil => 1
  | .ptr d => uptoBulk d + 1
  | .slice elems spare => uptoBulkAll elems + uptoBulkAll spare + 1
  | .agg parts => uptoBulkAll parts + 1
  | .iface _ d => uptoBulk d + 1
  | .map entries => uptoBulkEntries entries + 1
  | .held _ => 1
def uptoBulkAll {H : Type} : List (DataW H) → Nat
  | [] => 0
  | d :: r => uptoBulk d + uptoBulkAll r
def uptoBulkEntries {H : Type} : List (Lit × DataW H) → Nat
  | [] => 0
  | x :: r => uptoBulkEntry x + uptoBulkEntries r
def uptoBulkEntry {H : Type} : Lit × DataW H → Nat
  | (.string bytes, d) => bytes.length + uptoBulk d + 1
  | (_, d) => uptoBulk d + 1
 end
def uptoSmall : (H : Type) → List (DataW H) → Bool := fun _ ds => decide (uptoBulkAll ds ≤ 1048576)
def OpenSpec.upto (s : _root_.Go.ChangeSpec) : _root_.Go.OpenSpec := { _root_.Go.OpenSpec.ofChange s with cond := some uptoSmall }

/-- 'lumlaw.ChunkRanges', WHERE WHAT IT READS IS OF BULK AT MOST 1048576: true; the input reads as it did. -/
def chunkRangesUptoRow : OpenClaim := { program := "ytgmggcpceemnnaa", sum := "6205066f8911662369b557369c05a025baa6f7474d0c06a863c31c171b9d00a1", func := "lumberroom/lumlaw.ChunkRanges", spec := "chunkRanges", unfollowed := true, recurses := true, plainKeys := false, apart := false, narrowed := true }
def ChunkRangesUptoSaid : Prop := chunkRangesUptoRow.holds Try.pinned (OpenSpec.upto chunkRangesSpec)

/-- 'lumlaw.HuffLengths', WHERE WHAT IT READS IS OF BULK AT MOST 1048576: true; the input reads as it did. -/
def huffLengthsUptoRow : OpenClaim := { program := "ytgmggcpceemnnaa", sum := "6205066f8911662369b557369c05a025baa6f7474d0c06a863c31c171b9d00a1", func := "lumberroom/lumlaw.HuffLengths", spec := "huffLengths", unfollowed := true, recurses := true, plainKeys := false, apart := false, narrowed := true }
def HuffLengthsUptoSaid : Prop := huffLengthsUptoRow.holds Try.pinned (OpenSpec.upto huffLengthsSpec)

/-- 'lumlaw.ShieldMends', WHERE WHAT IT READS IS OF BULK AT MOST 1048576: true; the input reads as it did. -/
def shieldMendsUptoRow : OpenClaim := { program := "ytgmggcpceemnnaa", sum := "6205066f8911662369b557369c05a025baa6f7474d0c06a863c31c171b9d00a1", func := "lumberroom/lumlaw.ShieldMends", spec := "shieldMends", unfollowed := true, recurses := true, plainKeys := false, apart := false, narrowed := true }
def ShieldMendsUptoSaid : Prop := shieldMendsUptoRow.holds Try.pinned (OpenSpec.upto shieldMendsSpec)

/-- 'lumlaw.WasteSays', WHERE WHAT IT READS IS OF BULK AT MOST 1048576: true; the input reads as it did. -/
def wasteSaysUptoRow : OpenClaim := { program := "ytgmggcpceemnnaa", sum := "6205066f8911662369b557369c05a025baa6f7474d0c06a863c31c171b9d00a1", func := "lumberroom/lumlaw.WasteSays", spec := "wasteSays", inPlace := ["math.Float64bits"], unfollowed := true, recurses := true, plainKeys := false, apart := false, narrowed := true }
def WasteSaysUptoSaid : Prop := wasteSaysUptoRow.holds Try.pinned (OpenSpec.upto wasteSaysSpec)

/-- 'lumlaw.PressOpens', WHERE WHAT IT READS IS OF BULK AT MOST 1048576: true; the input reads as it did. -/
def pressOpensUptoRow : OpenClaim := { program := "ytgmggcpceemnnaa", sum := "6205066f8911662369b557369c05a025baa6f7474d0c06a863c31c171b9d00a1", func := "lumberroom/lumlaw.PressOpens", spec := "pressOpens", inPlace := ["internal/abi.NoEscape", "internal/bytealg.IndexByteString", "internal/bytealg.IndexString", "internal/bytealg.MakeNoZero"], unfollowed := true, recurses := true, named := ["internal/bytealg.MaxLen"], plainKeys := false, apart := false, narrowed := true }
def PressOpensUptoSaid : Prop := pressOpensUptoRow.holds Try.pinned (OpenSpec.upto pressOpensSpec)

/-- 'lumlaw.IndexMerges', WHERE WHAT IT READS IS OF BULK AT MOST 1048576: true; the input reads as it did. -/
def indexMergesUptoRow : OpenClaim := { program := "ytgmggcpceemnnaa", sum := "6205066f8911662369b557369c05a025baa6f7474d0c06a863c31c171b9d00a1", func := "lumberroom/lumlaw.IndexMerges", spec := "indexMerges", inPlace := ["internal/bytealg.Compare"], unfollowed := true, recurses := true, plainKeys := false, apart := false, narrowed := true }
def IndexMergesUptoSaid : Prop := indexMergesUptoRow.holds Try.pinned (OpenSpec.upto indexMergesSpec)

/-- 'lumlaw.DiskPlays', WHERE WHAT IT READS IS OF BULK AT MOST 1048576: true; the input reads as it did. -/
def diskPlaysUptoRow : OpenClaim := { program := "ytgmggcpceemnnaa", sum := "6205066f8911662369b557369c05a025baa6f7474d0c06a863c31c171b9d00a1", func := "lumberroom/lumlaw.DiskPlays", spec := "diskPlays", inPlace := ["slices.overlaps[lumberroom/lumref.File]", "maps.clone"], unfollowed := true, recurses := true, plainKeys := false, apart := false, narrowed := true }
def DiskPlaysUptoSaid : Prop := diskPlaysUptoRow.holds Try.pinned (OpenSpec.upto diskPlaysSpec)

/-- 'lumlaw.PackOnes', WHERE WHAT IT READS IS OF BULK AT MOST 1048576: true; the input reads as it did. -/
def packOnesUptoRow : OpenClaim := { program := "ytgmggcpceemnnaa", sum := "6205066f8911662369b557369c05a025baa6f7474d0c06a863c31c171b9d00a1", func := "lumberroom/lumlaw.PackOnes", spec := "packOnes", inPlace := ["internal/abi.NoEscape", "internal/bytealg.IndexByteString", "internal/bytealg.IndexString", "internal/bytealg.MakeNoZero"], unfollowed := true, recurses := true, named := ["encoding/binary.BigEndian", "encoding/binary.LittleEndian", "internal/bytealg.MaxLen"], plainKeys := false, apart := false, narrowed := true }
def PackOnesUptoSaid : Prop := packOnesUptoRow.holds Try.pinned (OpenSpec.upto packOnesSpec)

end Rows
end Go.Proofs.Ytgmggcpceemnnaa
