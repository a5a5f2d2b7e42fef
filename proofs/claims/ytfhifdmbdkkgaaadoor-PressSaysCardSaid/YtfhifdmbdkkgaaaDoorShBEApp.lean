/-
  DERIVED: THE SHELF's CONTRACTS AT THIS DUMP, IN PLAIN WORDS (tools/lay-plain.mjs out of 'TrydShelf.lean', which tools/lay-shelf.mjs wrote): THE SAME DECLARATIONS UNDER THE SAME NAMES: 'import', 'namespace', 'open', 'def', 'theorem' AND NOTHING ELSE: no command of the shelf's: FOR A HAND-IN. Each laying: the table of numbers ('.._ren') and one theorem, a field a fact of the dump's own or the kernel's comparison; each contract: ONE APPLICATION.
-/
import Derived.Ground.MnProg
import Derived.Shelf.Bin.BEAppendUint64
import Derived.Test.YtfhifdmbdkkgaaaDoorChecked
namespace Go.Proofs
open Go.Shelf
def Tryd.laysBin44_ren : Go.Shelf.Ren := ⟨fun | 44 => 145 | n => n, fun | 37 => 162 | 22 => 74 | 33 => 76 | 0 => 0 | 45 => 86 | 5 => 5 | n => n, fun | n => n⟩
theorem Tryd.laysBin44 : Go.Proofs.LaysBin.n44 Tryd.prog Tryd.laysBin44_ren := {
  mixed := by kernel_rfl
  f44 := Tryd.func145.trans (congrArg some (by kernel_rfl))
  t0 := Tryd.underlying0
  a0 := Tryd.isAgg0
  z0 := Tryd.sizeOf0
  v0 := Tryd.zeroValue0
  i0 := by kernel_rfl
  t5 := Tryd.underlying5
  a5 := Tryd.isAgg5
  z5 := Tryd.sizeOf5
  v5 := Tryd.zeroValue5
  i5 := by kernel_rfl
  t22 := Tryd.underlying74
  a22 := Tryd.isAgg74
  z22 := Tryd.sizeOf74
  v22 := Tryd.zeroValue74
  i22 := by kernel_rfl
  t33 := Tryd.underlying76
  a33 := Tryd.isAgg76
  z33 := Tryd.sizeOf76
  v33 := Tryd.zeroValue76
  i33 := by kernel_rfl
  t37 := Tryd.underlying162
  a37 := Tryd.isAgg162
  z37 := Tryd.sizeOf162
  v37 := Tryd.zeroValue162
  i37 := by kernel_rfl
  t45 := Tryd.underlying86
  a45 := Tryd.isAgg86
  z45 := Tryd.sizeOf86
  v45 := Tryd.zeroValue86
  i45 := by kernel_rfl }
open Go.RowKit in
/-- binary.BigEndian.AppendUint64: "AppendUint64 appends the bytes of v to b and returns the appended slice.": WHAT COMES BACK OWNS b's CELLS AND, BEHIND THEM, v's 8 BYTES, the greatest first ('Lib.beBytes 8 v'). Below the call's own blocks nothing has turned. (LAID: no walk: one application.) -/
theorem Tryd.binary_BE_AppendUint64 (B n v : Nat) (hv : v < 18446744073709551616) (sv : Value) (xs : List Value) (w : World) (hown : w.ownsRow B 5 1 sv n xs) (hBw : B ≤ w.heap.size) (hlim : n + 8 ≤ 140737488355328) :
    Calls Tryd.prog 145 #[.agg #[], sv, .int .u64 v] w fun e w' => ∃ v', e = .returned v' ∧ w'.ownsRow B 5 1 v' (n + 8) (xs ++ Lib.byteCells (Lib.beBytes 8 v)) ∧ Below B w w' := Any.binary_BE_AppendUint64 Tryd.laysBin44 B n v hv sv xs w hown hBw hlim
end Go.Proofs
