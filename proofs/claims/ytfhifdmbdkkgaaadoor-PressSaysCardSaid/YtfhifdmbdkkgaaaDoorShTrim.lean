/-
  DERIVED: THE SHELF's CONTRACTS AT THIS DUMP, IN PLAIN WORDS (tools/lay-plain.mjs out of 'TrydShelf.lean', which tools/lay-shelf.mjs wrote): THE SAME DECLARATIONS UNDER THE SAME NAMES: 'import', 'namespace', 'open', 'def', 'theorem' AND NOTHING ELSE: no command of the shelf's: FOR A HAND-IN. Each laying: the table of numbers ('.._ren') and one theorem, a field a fact of the dump's own or the kernel's comparison; each contract: ONE APPLICATION.
-/
import Derived.Shelf.Strings.Trim
import Derived.Test.YtfhifdmbdkkgaaaDoorChecked
namespace Go.Proofs
open Go.Shelf
def Tryd.lays231_ren : Go.Shelf.Ren := ⟨fun | 231 => 180 | n => n, fun | 9 => 9 | 5 => 5 | 3 => 3 | 4 => 4 | n => n, fun | n => n⟩
theorem Tryd.lays231 : Go.Proofs.Lays.n231 Tryd.prog Tryd.lays231_ren := {
  mixed := by kernel_rfl
  f231 := Tryd.func180.trans (congrArg some (by kernel_rfl))
  t3 := Tryd.underlying3
  a3 := Tryd.isAgg3
  z3 := Tryd.sizeOf3
  v3 := Tryd.zeroValue3
  t4 := Tryd.underlying4
  a4 := Tryd.isAgg4
  z4 := Tryd.sizeOf4
  v4 := Tryd.zeroValue4
  t5 := Tryd.underlying5
  a5 := Tryd.isAgg5
  z5 := Tryd.sizeOf5
  v5 := Tryd.zeroValue5
  t9 := Tryd.underlying9
  a9 := Tryd.isAgg9
  z9 := Tryd.sizeOf9
  v9 := Tryd.zeroValue9 }
open Go.RowKit in
/-- strings.trimLeftByte (no doc; what TrimLeft and Trim call at a cutset of one ASCII byte): the leading bytes that are c are cut off. The world is as it was. (LAID: no walk: one application.) -/
theorem Tryd.strings_trimLeftByte (s : ByteArray) (c : UInt8) (w : World) :
    Calls Tryd.prog 180 #[.string s, .int .u8 c.toNat] w fun e w' => e = .returned (.string ⟨(Lib.trimLeftB s.data.toList c).toArray⟩) ∧ w' = w := Any.strings_trimLeftByte Tryd.lays231 s c w
def Tryd.lays161_ren : Go.Shelf.Ren := ⟨fun | 161 => 146 | 231 => 180 | 227 => 181 | 233 => 182 | 235 => 183 | 228 => 200 | 197 => 201 | 151 => 202 | 260 => 207 | 152 => 208 | 137 => 128 | 119 => 212 | 224 => 210 | 225 => 209 | 217 => 172 | 266 => 198 | n => n, fun | 9 => 9 | 4 => 4 | 3 => 3 | 5 => 5 | 117 => 242 | 116 => 241 | 0 => 0 | 124 => 245 | 105 => 258 | 21 => 21 | 119 => 218 | 46 => 86 | 139 => 221 | 138 => 220 | n => n, fun | 3 => 1 | 4 => 2 | n => n⟩
theorem Tryd.lays161 : Go.Proofs.Lays.n161 Tryd.prog Tryd.lays161_ren := {
  mixed := by kernel_rfl
  f119 := Tryd.func212.trans (congrArg some (by kernel_rfl))
  f137 := Tryd.func128.trans (congrArg some (by kernel_rfl))
  f151 := Tryd.func202.trans (congrArg some (by kernel_rfl))
  f152 := Tryd.func208.trans (congrArg some (by kernel_rfl))
  f161 := Tryd.func146.trans (congrArg some (by kernel_rfl))
  f197 := Tryd.func201.trans (congrArg some (by kernel_rfl))
  f217 := Tryd.func172.trans (congrArg some (by kernel_rfl))
  f224 := Tryd.func210.trans (congrArg some (by kernel_rfl))
  f225 := Tryd.func209.trans (congrArg some (by kernel_rfl))
  f227 := Tryd.func181.trans (congrArg some (by kernel_rfl))
  f228 := Tryd.func200.trans (congrArg some (by kernel_rfl))
  f231 := Tryd.func180.trans (congrArg some (by kernel_rfl))
  f233 := Tryd.func182.trans (congrArg some (by kernel_rfl))
  f235 := Tryd.func183.trans (congrArg some (by kernel_rfl))
  f260 := Tryd.func207.trans (congrArg some (by kernel_rfl))
  f266 := Tryd.func198.trans (congrArg some (by kernel_rfl))
  t0 := Tryd.underlying0
  a0 := Tryd.isAgg0
  z0 := Tryd.sizeOf0
  v0 := Tryd.zeroValue0
  t3 := Tryd.underlying3
  a3 := Tryd.isAgg3
  z3 := Tryd.sizeOf3
  v3 := Tryd.zeroValue3
  t4 := Tryd.underlying4
  a4 := Tryd.isAgg4
  z4 := Tryd.sizeOf4
  v4 := Tryd.zeroValue4
  t5 := Tryd.underlying5
  a5 := Tryd.isAgg5
  z5 := Tryd.sizeOf5
  v5 := Tryd.zeroValue5
  t9 := Tryd.underlying9
  a9 := Tryd.isAgg9
  z9 := Tryd.sizeOf9
  v9 := Tryd.zeroValue9
  t21 := Tryd.underlying21
  a21 := Tryd.isAgg21
  z21 := Tryd.sizeOf21
  v21 := Tryd.zeroValue21
  t46 := Tryd.underlying86
  a46 := Tryd.isAgg86
  z46 := Tryd.sizeOf86
  v46 := Tryd.zeroValue86
  t105 := Tryd.underlying258
  a105 := Tryd.isAgg258
  z105 := Tryd.sizeOf258
  v105 := Tryd.zeroValue258
  t116 := Tryd.underlying241
  a116 := Tryd.isAgg241
  z116 := Tryd.sizeOf241
  t117 := Tryd.underlying242
  a117 := Tryd.isAgg242
  z117 := Tryd.sizeOf242
  v117 := Tryd.zeroValue242
  t119 := Tryd.underlying218
  a119 := Tryd.isAgg218
  z119 := Tryd.sizeOf218
  t124 := Tryd.underlying245
  a124 := Tryd.isAgg245
  z124 := Tryd.sizeOf245
  v124 := Tryd.zeroValue245
  t138 := Tryd.underlying220
  a138 := Tryd.isAgg220
  z138 := Tryd.sizeOf220
  v138 := Tryd.zeroValue220
  t139 := Tryd.underlying221
  a139 := Tryd.isAgg221
  z139 := Tryd.sizeOf221
  v139 := Tryd.zeroValue221
  g3 := by kernel_rfl
  g4 := by kernel_rfl }
open Go.RowKit in
/-- strings.TrimLeft: "TrimLeft returns a slice of the string s with all leading Unicode code points contained in cutset removed.": AT A cutset OF ONE ASCII BYTE. The world is as it was. (LAID: no walk: one application.) -/
theorem Tryd.strings_TrimLeft_one (s : ByteArray) (c : UInt8) (hc : c.toNat < 128) (w : World) :
    Calls Tryd.prog 146 #[.string s, .string ⟨#[c]⟩] w fun e w' => e = .returned (.string ⟨(Lib.trimLeftB s.data.toList c).toArray⟩) ∧ w' = w := Any.strings_TrimLeft_one Tryd.lays161 s c hc w
end Go.Proofs
