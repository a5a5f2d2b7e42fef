/-
  No cell of these rows narrows 'for every input' (looked for: loops, veiled, ifaces, maps, wideKeys, modest, calm, conditions, laid).
  DERIVED. THE GIVEN ROWS OF THIS SEAT. 12 by the template 'for every input the law returns true; each argument reads behind the call as it read before'; 0 by the template 'total and deterministic' (their statements: YthcmjcnilhglmaaTotals.lean).
  GIVEN WITH THE SEED: the statements are not yours to turn. If you find one false, say at which input.
  Laid BY PROGRAM, IN A SANDBOX (cutbox-rows.mjs): the forced cells as the released guide's own fill.sh prints them over the translation dbdab959caba3e82… (all of the seat's roots in one cut). By AI agents, Wed Nov 11 2026. No macro, syntax, notation, axiom, sorry.
-/
import Derived.Test.YthcmjcnilhglmaaChecked
import GoSem.Claim
import GoSem.ClaimJoined
import GoSem.ClaimMapViews
import Derived.JoinedTies
import Derived.KernelRfl
namespace Go.Proofs.Ythcmjcnilhglmaa
/- THE CELL 'sum', in the pinned program and in every row, IS THE sha256 OF THE DUMP (.gsa) THAT YthcmjcnilhglmaaProg.lean LOADS. Nothing in Lean hashes anything: it is a label: what it is worth is what the hold of that sum in a sandbox is worth. -/
noncomputable def Try.pinned : Pinned := { name := "ythcmjcnilhglmaa", sum := "dbdab959caba3e8268bcdfc34eb22d55a8ab07dc0ac4483144d410857a79258a", checked := Try.checked }
namespace Rows
def none {H : Type} : Left H := { results := [], args := [] }

/-- 'lumlaw.Names': WHATEVER THE INPUT: true; the input reads as it did. -/
def namesSpec : ChangeSpec := { name := "names", fn := fun _ => fun
  | [] => { results := [.lit (.bool true)], args := [] }
  | _ => none }
def namesRow : OpenClaim := { program := "ythcmjcnilhglmaa", sum := "dbdab959caba3e8268bcdfc34eb22d55a8ab07dc0ac4483144d410857a79258a", func := "lumberroom/lumlaw.Names", spec := "names", apart := false }
def NamesSaid : Prop := namesRow.holds Try.pinned (OpenSpec.ofChange namesSpec)

/-- ITS FALSE NEIGHBOUR: 'it returns false'. Refute it at one input. -/
def namesWrong : ChangeSpec := { name := "names", fn := fun _ => fun
  | [] => { results := [.lit (.bool false)], args := [] }
  | _ => none }
def NamesWrongFalsely : Prop := namesRow.holds Try.pinned (OpenSpec.ofChange namesWrong)

/-- 'lumlaw.LzGreedy': WHATEVER THE INPUT: true; the input reads as it did. -/
def lzGreedySpec : ChangeSpec := { name := "lzGreedy", fn := fun _ => fun
  | [d] => { results := [.lit (.bool true)], args := [d] }
  | _ => none }
def lzGreedyRow : OpenClaim := { program := "ythcmjcnilhglmaa", sum := "dbdab959caba3e8268bcdfc34eb22d55a8ab07dc0ac4483144d410857a79258a", func := "lumberroom/lumlaw.LzGreedy", spec := "lzGreedy", apart := false }
def LzGreedySaid : Prop := lzGreedyRow.holds Try.pinned (OpenSpec.ofChange lzGreedySpec)

/-- ITS FALSE NEIGHBOUR: 'it returns false'. Refute it at one input. -/
def lzGreedyWrong : ChangeSpec := { name := "lzGreedy", fn := fun _ => fun
  | [d] => { results := [.lit (.bool false)], args := [d] }
  | _ => none }
def LzGreedyWrongFalsely : Prop := lzGreedyRow.holds Try.pinned (OpenSpec.ofChange lzGreedyWrong)

/-- 'lumlaw.RollSays': WHATEVER THE INPUT: true; the input reads as it did. -/
def rollSaysSpec : ChangeSpec := { name := "rollSays", fn := fun _ => fun
  | [d1, d2, d3, d4, d5] => { results := [.lit (.bool true)], args := [d1, d2, d3, d4, d5] }
  | _ => none }
def rollSaysRow : OpenClaim := { program := "ythcmjcnilhglmaa", sum := "dbdab959caba3e8268bcdfc34eb22d55a8ab07dc0ac4483144d410857a79258a", func := "lumberroom/lumlaw.RollSays", spec := "rollSays", apart := false }
def RollSaysSaid : Prop := rollSaysRow.holds Try.pinned (OpenSpec.ofChange rollSaysSpec)

/-- ITS FALSE NEIGHBOUR: 'it returns false'. Refute it at one input. -/
def rollSaysWrong : ChangeSpec := { name := "rollSays", fn := fun _ => fun
  | [d1, d2, d3, d4, d5] => { results := [.lit (.bool false)], args := [d1, d2, d3, d4, d5] }
  | _ => none }
def RollSaysWrongFalsely : Prop := rollSaysRow.holds Try.pinned (OpenSpec.ofChange rollSaysWrong)

/-- 'lumlaw.FieldSays': WHATEVER THE INPUT: true; the input reads as it did. -/
def fieldSaysSpec : ChangeSpec := { name := "fieldSays", fn := fun _ => fun
  | [d1, d2, d3, d4, d5] => { results := [.lit (.bool true)], args := [d1, d2, d3, d4, d5] }
  | _ => none }
def fieldSaysRow : OpenClaim := { program := "ythcmjcnilhglmaa", sum := "dbdab959caba3e8268bcdfc34eb22d55a8ab07dc0ac4483144d410857a79258a", func := "lumberroom/lumlaw.FieldSays", spec := "fieldSays", apart := false }
def FieldSaysSaid : Prop := fieldSaysRow.holds Try.pinned (OpenSpec.ofChange fieldSaysSpec)

/-- ITS FALSE NEIGHBOUR: 'it returns false'. Refute it at one input. -/
def fieldSaysWrong : ChangeSpec := { name := "fieldSays", fn := fun _ => fun
  | [d1, d2, d3, d4, d5] => { results := [.lit (.bool false)], args := [d1, d2, d3, d4, d5] }
  | _ => none }
def FieldSaysWrongFalsely : Prop := fieldSaysRow.holds Try.pinned (OpenSpec.ofChange fieldSaysWrong)

/-- 'lumlaw.HuffCodes': WHATEVER THE INPUT: true; the input reads as it did. -/
def huffCodesSpec : ChangeSpec := { name := "huffCodes", fn := fun _ => fun
  | [d] => { results := [.lit (.bool true)], args := [d] }
  | _ => none }
def huffCodesRow : OpenClaim := { program := "ythcmjcnilhglmaa", sum := "dbdab959caba3e8268bcdfc34eb22d55a8ab07dc0ac4483144d410857a79258a", func := "lumberroom/lumlaw.HuffCodes", spec := "huffCodes", unfollowed := true, recurses := true, apart := false }
def HuffCodesSaid : Prop := huffCodesRow.holds Try.pinned (OpenSpec.ofChange huffCodesSpec)

/-- ITS FALSE NEIGHBOUR: 'it returns false'. Refute it at one input. -/
def huffCodesWrong : ChangeSpec := { name := "huffCodes", fn := fun _ => fun
  | [d] => { results := [.lit (.bool false)], args := [d] }
  | _ => none }
def HuffCodesWrongFalsely : Prop := huffCodesRow.holds Try.pinned (OpenSpec.ofChange huffCodesWrong)

/-- 'lumlaw.LeaseEnters': WHATEVER THE INPUT: true; the input reads as it did. -/
def leaseEntersSpec : ChangeSpec := { name := "leaseEnters", fn := fun _ => fun
  | [d1, d2, d3] => { results := [.lit (.bool true)], args := [d1, d2, d3] }
  | _ => none }
def leaseEntersRow : OpenClaim := { program := "ythcmjcnilhglmaa", sum := "dbdab959caba3e8268bcdfc34eb22d55a8ab07dc0ac4483144d410857a79258a", func := "lumberroom/lumlaw.LeaseEnters", spec := "leaseEnters", apart := false }
def LeaseEntersSaid : Prop := leaseEntersRow.holds Try.pinned (OpenSpec.ofChange leaseEntersSpec)

/-- ITS FALSE NEIGHBOUR: 'it returns false'. Refute it at one input. -/
def leaseEntersWrong : ChangeSpec := { name := "leaseEnters", fn := fun _ => fun
  | [d1, d2, d3] => { results := [.lit (.bool false)], args := [d1, d2, d3] }
  | _ => none }
def LeaseEntersWrongFalsely : Prop := leaseEntersRow.holds Try.pinned (OpenSpec.ofChange leaseEntersWrong)

/-- 'lumlaw.IndexSays': WHATEVER THE INPUT: true; the input reads as it did. -/
def indexSaysSpec : ChangeSpec := { name := "indexSays", fn := fun _ => fun
  | [d1, d2] => { results := [.lit (.bool true)], args := [d1, d2] }
  | _ => none }
def indexSaysRow : OpenClaim := { program := "ythcmjcnilhglmaa", sum := "dbdab959caba3e8268bcdfc34eb22d55a8ab07dc0ac4483144d410857a79258a", func := "lumberroom/lumlaw.IndexSays", spec := "indexSays", inPlace := ["internal/bytealg.Compare"], unfollowed := true, recurses := true, apart := false }
def IndexSaysSaid : Prop := indexSaysRow.holds Try.pinned (OpenSpec.ofChange indexSaysSpec)

/-- ITS FALSE NEIGHBOUR: 'it returns false'. Refute it at one input. -/
def indexSaysWrong : ChangeSpec := { name := "indexSays", fn := fun _ => fun
  | [d1, d2] => { results := [.lit (.bool false)], args := [d1, d2] }
  | _ => none }
def IndexSaysWrongFalsely : Prop := indexSaysRow.holds Try.pinned (OpenSpec.ofChange indexSaysWrong)

/-- 'lumlaw.CivilSays': WHATEVER THE INPUT: true; the input reads as it did. -/
def civilSaysSpec : ChangeSpec := { name := "civilSays", fn := fun _ => fun
  | [d1, d2, d3, d4] => { results := [.lit (.bool true)], args := [d1, d2, d3, d4] }
  | _ => none }
def civilSaysRow : OpenClaim := { program := "ythcmjcnilhglmaa", sum := "dbdab959caba3e8268bcdfc34eb22d55a8ab07dc0ac4483144d410857a79258a", func := "lumberroom/lumlaw.CivilSays", spec := "civilSays", apart := false }
def CivilSaysSaid : Prop := civilSaysRow.holds Try.pinned (OpenSpec.ofChange civilSaysSpec)

/-- ITS FALSE NEIGHBOUR: 'it returns false'. Refute it at one input. -/
def civilSaysWrong : ChangeSpec := { name := "civilSays", fn := fun _ => fun
  | [d1, d2, d3, d4] => { results := [.lit (.bool false)], args := [d1, d2, d3, d4] }
  | _ => none }
def CivilSaysWrongFalsely : Prop := civilSaysRow.holds Try.pinned (OpenSpec.ofChange civilSaysWrong)

/-- 'lumlaw.BloomSays': WHATEVER THE INPUT: true; the input reads as it did. -/
def bloomSaysSpec : ChangeSpec := { name := "bloomSays", fn := fun _ => fun
  | [d1, d2, d3] => { results := [.lit (.bool true)], args := [d1, d2, d3] }
  | _ => none }
def bloomSaysRow : OpenClaim := { program := "ythcmjcnilhglmaa", sum := "dbdab959caba3e8268bcdfc34eb22d55a8ab07dc0ac4483144d410857a79258a", func := "lumberroom/lumlaw.BloomSays", spec := "bloomSays", recurses := true, named := ["encoding/binary.BigEndian"], apart := false }
def BloomSaysSaid : Prop := bloomSaysRow.holds Try.pinned (OpenSpec.ofChange bloomSaysSpec)

/-- ITS FALSE NEIGHBOUR: 'it returns false'. Refute it at one input. -/
def bloomSaysWrong : ChangeSpec := { name := "bloomSays", fn := fun _ => fun
  | [d1, d2, d3] => { results := [.lit (.bool false)], args := [d1, d2, d3] }
  | _ => none }
def BloomSaysWrongFalsely : Prop := bloomSaysRow.holds Try.pinned (OpenSpec.ofChange bloomSaysWrong)

/-- 'lumlaw.ShieldGuards': WHATEVER THE INPUT: true; the input reads as it did. -/
def shieldGuardsSpec : ChangeSpec := { name := "shieldGuards", fn := fun _ => fun
  | [d1, d2] => { results := [.lit (.bool true)], args := [d1, d2] }
  | _ => none }
def shieldGuardsRow : OpenClaim := { program := "ythcmjcnilhglmaa", sum := "dbdab959caba3e8268bcdfc34eb22d55a8ab07dc0ac4483144d410857a79258a", func := "lumberroom/lumlaw.ShieldGuards", spec := "shieldGuards", apart := false }
def ShieldGuardsSaid : Prop := shieldGuardsRow.holds Try.pinned (OpenSpec.ofChange shieldGuardsSpec)

/-- ITS FALSE NEIGHBOUR: 'it returns false'. Refute it at one input. -/
def shieldGuardsWrong : ChangeSpec := { name := "shieldGuards", fn := fun _ => fun
  | [d1, d2] => { results := [.lit (.bool false)], args := [d1, d2] }
  | _ => none }
def ShieldGuardsWrongFalsely : Prop := shieldGuardsRow.holds Try.pinned (OpenSpec.ofChange shieldGuardsWrong)

/-- 'lumlaw.ChunkFeeds': WHATEVER THE INPUT: true; the input reads as it did. -/
def chunkFeedsSpec : ChangeSpec := { name := "chunkFeeds", fn := fun _ => fun
  | [d1, d2, d3] => { results := [.lit (.bool true)], args := [d1, d2, d3] }
  | _ => none }
def chunkFeedsRow : OpenClaim := { program := "ythcmjcnilhglmaa", sum := "dbdab959caba3e8268bcdfc34eb22d55a8ab07dc0ac4483144d410857a79258a", func := "lumberroom/lumlaw.ChunkFeeds", spec := "chunkFeeds", apart := false }
def ChunkFeedsSaid : Prop := chunkFeedsRow.holds Try.pinned (OpenSpec.ofChange chunkFeedsSpec)

/-- ITS FALSE NEIGHBOUR: 'it returns false'. Refute it at one input. -/
def chunkFeedsWrong : ChangeSpec := { name := "chunkFeeds", fn := fun _ => fun
  | [d1, d2, d3] => { results := [.lit (.bool false)], args := [d1, d2, d3] }
  | _ => none }
def ChunkFeedsWrongFalsely : Prop := chunkFeedsRow.holds Try.pinned (OpenSpec.ofChange chunkFeedsWrong)

/-- 'lumlaw.GraphSays': WHATEVER THE INPUT: true; the input reads as it did. -/
def graphSaysSpec : ChangeSpec := { name := "graphSays", fn := fun _ => fun
  | [d1, d2] => { results := [.lit (.bool true)], args := [d1, d2] }
  | _ => none }
def graphSaysRow : OpenClaim := { program := "ythcmjcnilhglmaa", sum := "dbdab959caba3e8268bcdfc34eb22d55a8ab07dc0ac4483144d410857a79258a", func := "lumberroom/lumlaw.GraphSays", spec := "graphSays", apart := false }
def GraphSaysSaid : Prop := graphSaysRow.holds Try.pinned (OpenSpec.ofChange graphSaysSpec)

/-- ITS FALSE NEIGHBOUR: 'it returns false'. Refute it at one input. -/
def graphSaysWrong : ChangeSpec := { name := "graphSays", fn := fun _ => fun
  | [d1, d2] => { results := [.lit (.bool false)], args := [d1, d2] }
  | _ => none }
def GraphSaysWrongFalsely : Prop := graphSaysRow.holds Try.pinned (OpenSpec.ofChange graphSaysWrong)

/- THE SECOND FORM. 'bulk': how many values and letters a reading holds, each counted each time it is reached (what is shared counts as often as it is met; a slice's spare places count too). A statement '..UptoSaid' is the law's where the arguments, and the package variables that the reading takes, are together of bulk at most 1048576: NARROWER than '..Said'. Prove '..Said' where nothing that the law and all that it calls make is longer than what came in: it says more and counts as full. Else prove '..UptoSaid'. A law counts once. -/
mutual
def uptoBulk {H : Type} : DataW H → Nat
  | .lit (.string bytes) => bytes.length + 1
  | .lit _ => 1
  | .nil => 1
  | .ptr d => uptoBulk d + 1
  | .slice elems spare => uptoBulkAll elems + uptoBulkAll spare + 1
  | .agg parts => uptoBulkAll parts + 1
  | .iface _ d => uptoBulk d + 1
  | .map entries => uptoBulkEntries entries + 1
  | .held _ => 1
def uptoBulkAll {H : Type} : List (DataW H) → Nat
  | [] => 0
  | d :: r => uptoBulk d + uptoBulkAll r
def uptoBulkEntries {H : Type} : List (Lit × DataW H) → Nat
  | [] => 0
  | x :: r => uptoBulkEntry x + uptoBulkEntries r
def uptoBulkEntry {H : Type} : Lit × DataW H → Nat
  | (.string bytes, d) => bytes.length + uptoBulk d + 1
  | (_, d) => uptoBulk d + 1
 end
def uptoSmall : (H : Type) → List (DataW H) → Bool := fun _ ds => decide (uptoBulkAll ds ≤ 1048576)
def OpenSpec.upto (s : _root_.Go.ChangeSpec) : _root_.Go.OpenSpec := { _root_.Go.OpenSpec.ofChange s with cond := some uptoSmall }

/-- 'lumlaw.Names', WHERE WHAT IT READS IS OF BULK AT MOST 1048576: true; the input reads as it did. -/
def namesUptoRow : OpenClaim := { program := "ythcmjcnilhglmaa", sum := "dbdab959caba3e8268bcdfc34eb22d55a8ab07dc0ac4483144d410857a79258a", func := "lumberroom/lumlaw.Names", spec := "names", apart := false, narrowed := true }
def NamesUptoSaid : Prop := namesUptoRow.holds Try.pinned (OpenSpec.upto namesSpec)

/-- 'lumlaw.LzGreedy', WHERE WHAT IT READS IS OF BULK AT MOST 1048576: true; the input reads as it did. -/
def lzGreedyUptoRow : OpenClaim := { program := "ythcmjcnilhglmaa", sum := "dbdab959caba3e8268bcdfc34eb22d55a8ab07dc0ac4483144d410857a79258a", func := "lumberroom/lumlaw.LzGreedy", spec := "lzGreedy", apart := false, narrowed := true }
def LzGreedyUptoSaid : Prop := lzGreedyUptoRow.holds Try.pinned (OpenSpec.upto lzGreedySpec)

/-- 'lumlaw.RollSays', WHERE WHAT IT READS IS OF BULK AT MOST 1048576: true; the input reads as it did. -/
def rollSaysUptoRow : OpenClaim := { program := "ythcmjcnilhglmaa", sum := "dbdab959caba3e8268bcdfc34eb22d55a8ab07dc0ac4483144d410857a79258a", func := "lumberroom/lumlaw.RollSays", spec := "rollSays", apart := false, narrowed := true }
def RollSaysUptoSaid : Prop := rollSaysUptoRow.holds Try.pinned (OpenSpec.upto rollSaysSpec)

/-- 'lumlaw.FieldSays', WHERE WHAT IT READS IS OF BULK AT MOST 1048576: true; the input reads as it did. -/
def fieldSaysUptoRow : OpenClaim := { program := "ythcmjcnilhglmaa", sum := "dbdab959caba3e8268bcdfc34eb22d55a8ab07dc0ac4483144d410857a79258a", func := "lumberroom/lumlaw.FieldSays", spec := "fieldSays", apart := false, narrowed := true }
def FieldSaysUptoSaid : Prop := fieldSaysUptoRow.holds Try.pinned (OpenSpec.upto fieldSaysSpec)

/-- 'lumlaw.HuffCodes', WHERE WHAT IT READS IS OF BULK AT MOST 1048576: true; the input reads as it did. -/
def huffCodesUptoRow : OpenClaim := { program := "ythcmjcnilhglmaa", sum := "dbdab959caba3e8268bcdfc34eb22d55a8ab07dc0ac4483144d410857a79258a", func := "lumberroom/lumlaw.HuffCodes", spec := "huffCodes", unfollowed := true, recurses := true, apart := false, narrowed := true }
def HuffCodesUptoSaid : Prop := huffCodesUptoRow.holds Try.pinned (OpenSpec.upto huffCodesSpec)

/-- 'lumlaw.LeaseEnters', WHERE WHAT IT READS IS OF BULK AT MOST 1048576: true; the input reads as it did. -/
def leaseEntersUptoRow : OpenClaim := { program := "ythcmjcnilhglmaa", sum := "dbdab959caba3e8268bcdfc34eb22d55a8ab07dc0ac4483144d410857a79258a", func := "lumberroom/lumlaw.LeaseEnters", spec := "leaseEnters", apart := false, narrowed := true }
def LeaseEntersUptoSaid : Prop := leaseEntersUptoRow.holds Try.pinned (OpenSpec.upto leaseEntersSpec)

/-- 'lumlaw.IndexSays', WHERE WHAT IT READS IS OF BULK AT MOST 1048576: true; the input reads as it did. -/
def indexSaysUptoRow : OpenClaim := { program := "ythcmjcnilhglmaa", sum := "dbdab959caba3e8268bcdfc34eb22d55a8ab07dc0ac4483144d410857a79258a", func := "lumberroom/lumlaw.IndexSays", spec := "indexSays", inPlace := ["internal/bytealg.Compare"], unfollowed := true, recurses := true, apart := false, narrowed := true }
def IndexSaysUptoSaid : Prop := indexSaysUptoRow.holds Try.pinned (OpenSpec.upto indexSaysSpec)

/-- 'lumlaw.CivilSays', WHERE WHAT IT READS IS OF BULK AT MOST 1048576: true; the input reads as it did. -/
def civilSaysUptoRow : OpenClaim := { program := "ythcmjcnilhglmaa", sum := "dbdab959caba3e8268bcdfc34eb22d55a8ab07dc0ac4483144d410857a79258a", func := "lumberroom/lumlaw.CivilSays", spec := "civilSays", apart := false, narrowed := true }
def CivilSaysUptoSaid : Prop := civilSaysUptoRow.holds Try.pinned (OpenSpec.upto civilSaysSpec)

/-- 'lumlaw.BloomSays', WHERE WHAT IT READS IS OF BULK AT MOST 1048576: true; the input reads as it did. -/
def bloomSaysUptoRow : OpenClaim := { program := "ythcmjcnilhglmaa", sum := "dbdab959caba3e8268bcdfc34eb22d55a8ab07dc0ac4483144d410857a79258a", func := "lumberroom/lumlaw.BloomSays", spec := "bloomSays", recurses := true, named := ["encoding/binary.BigEndian"], apart := false, narrowed := true }
def BloomSaysUptoSaid : Prop := bloomSaysUptoRow.holds Try.pinned (OpenSpec.upto bloomSaysSpec)

/-- 'lumlaw.ShieldGuards', WHERE WHAT IT READS IS OF BULK AT MOST 1048576: true; the input reads as it did. -/
def shieldGuardsUptoRow : OpenClaim := { program := "ythcmjcnilhglmaa", sum := "dbdab959caba3e8268bcdfc34eb22d55a8ab07dc0ac4483144d410857a79258a", func := "lumberroom/lumlaw.ShieldGuards", spec := "shieldGuards", apart := false, narrowed := true }
def ShieldGuardsUptoSaid : Prop := shieldGuardsUptoRow.holds Try.pinned (OpenSpec.upto shieldGuardsSpec)

/-- 'lumlaw.ChunkFeeds', WHERE WHAT IT READS IS OF BULK AT MOST 1048576: true; the input reads as it did. -/
def chunkFeedsUptoRow : OpenClaim := { program := "ythcmjcnilhglmaa", sum := "dbdab959caba3e8268bcdfc34eb22d55a8ab07dc0ac4483144d410857a79258a", func := "lumberroom/lumlaw.ChunkFeeds", spec := "chunkFeeds", apart := false, narrowed := true }
def ChunkFeedsUptoSaid : Prop := chunkFeedsUptoRow.holds Try.pinned (OpenSpec.upto chunkFeedsSpec)

/-- 'lumlaw.GraphSays', WHERE WHAT IT READS IS OF BULK AT MOST 1048576: true; the input reads as it did. -/
def graphSaysUptoRow : OpenClaim := { program := "ythcmjcnilhglmaa", sum := "dbdab959caba3e8268bcdfc34eb22d55a8ab07dc0ac4483144d410857a79258a", func := "lumberroom/lumlaw.GraphSays", spec := "graphSays", apart := false, narrowed := true }
def GraphSaysUptoSaid : Prop := graphSaysUptoRow.holds Try.pinned (OpenSpec.upto graphSaysSpec)

end Rows
end Go.Proofs.Ythcmjcnilhglmaa
