/- What WalkPlants leans on, part 2. No condition. -/
import Derived.Test.YtiioclkiapbjnaaGreatDoorQWalkPlantsa
import Derived.Shelf.LaysM
import Derived.Shelf.Strings.SplitShaped
import Derived.Test.YtiioclkiapbjnaaGreatDoorChecked
import Derived.Shelf.Small.Strs
import Derived.Lib.SplitLaws
import Derived.Ground.MnProg
import Derived.Shelf.Bin.BEPutUint64
import Derived.Shelf.Strings.Trim
import Derived.Shelf.Bin.BEAppendUint64
import Derived.Shelf.Strings.Repeat
import Derived.Test.YtiioclkiapbjnaaGreatDoorRows
namespace Go.Proofs
open Go.Shelf
def Tryz.laysM146_ren : Go.Shelf.Ren := ⟨fun | 146 => 54 | 221 => 75 | 268 => 90 | 138 => 91 | 143 => 92 | 195 => 110 | 197 => 104 | 218 => 111 | 219 => 112 | 260 => 120 | 217 => 77 | 225 => 126 | 224 => 127 | 267 => 128 | 266 => 93 | 314 => 136 | n => n, fun | 9 => 9 | 31 => 54 | 3 => 3 | 4 => 4 | 0 => 0 | 105 => 140 | 21 => 21 | 5 => 5 | 46 => 111 | 119 => 121 | 139 => 124 | 138 => 123 | 146 => 94 | 51 => 93 | n => n, fun | 1 => 0 | 3 => 2 | 4 => 3 | n => n⟩
theorem Tryz.laysM146 : Go.Proofs.LaysM.n146 Tryz.prog Tryz.laysM146_ren := {
  mixed := by kernel_rfl
  f138 := Tryz.func91.trans (congrArg some (by kernel_rfl))
  f143 := Tryz.func92.trans (congrArg some (by kernel_rfl))
  f146 := Tryz.func54.trans (congrArg some (by kernel_rfl))
  f195 := Tryz.func110.trans (congrArg some (by kernel_rfl))
  f197 := Tryz.func104.trans (congrArg some (by kernel_rfl))
  f217 := Tryz.func77.trans (congrArg some (by kernel_rfl))
  f218 := Tryz.func111.trans (congrArg some (by kernel_rfl))
  f219 := Tryz.func112.trans (congrArg some (by kernel_rfl))
  f221 := Tryz.func75.trans (congrArg some (by kernel_rfl))
  f224 := Tryz.func127.trans (congrArg some (by kernel_rfl))
  f225 := Tryz.func126.trans (congrArg some (by kernel_rfl))
  f260 := Tryz.func120.trans (congrArg some (by kernel_rfl))
  f266 := Tryz.func93.trans (congrArg some (by kernel_rfl))
  f267 := Tryz.func128.trans (congrArg some (by kernel_rfl))
  f268 := Tryz.func90.trans (congrArg some (by kernel_rfl))
  f314 := Tryz.func136.trans (congrArg some (by kernel_rfl))
  t0 := Tryz.underlying0
  a0 := Tryz.isAgg0
  z0 := Tryz.sizeOf0
  v0 := Tryz.zeroValue0
  t3 := Tryz.underlying3
  a3 := Tryz.isAgg3
  z3 := Tryz.sizeOf3
  v3 := Tryz.zeroValue3
  t4 := Tryz.underlying4
  a4 := Tryz.isAgg4
  z4 := Tryz.sizeOf4
  v4 := Tryz.zeroValue4
  t5 := Tryz.underlying5
  a5 := Tryz.isAgg5
  z5 := Tryz.sizeOf5
  v5 := Tryz.zeroValue5
  t9 := Tryz.underlying9
  a9 := Tryz.isAgg9
  z9 := Tryz.sizeOf9
  v9 := Tryz.zeroValue9
  t21 := Tryz.underlying21
  a21 := Tryz.isAgg21
  z21 := Tryz.sizeOf21
  v21 := Tryz.zeroValue21
  t31 := Tryz.underlying54
  a31 := Tryz.isAgg54
  z31 := Tryz.sizeOf54
  v31 := Tryz.zeroValue54
  t46 := Tryz.underlying111
  a46 := Tryz.isAgg111
  z46 := Tryz.sizeOf111
  v46 := Tryz.zeroValue111
  t51 := Tryz.underlying93
  a51 := Tryz.isAgg93
  z51 := Tryz.sizeOf93
  v51 := Tryz.zeroValue93
  t105 := Tryz.underlying140
  a105 := Tryz.isAgg140
  z105 := Tryz.sizeOf140
  v105 := Tryz.zeroValue140
  t119 := Tryz.underlying121
  a119 := Tryz.isAgg121
  z119 := Tryz.sizeOf121
  t138 := Tryz.underlying123
  a138 := Tryz.isAgg123
  z138 := Tryz.sizeOf123
  v138 := Tryz.zeroValue123
  t139 := Tryz.underlying124
  a139 := Tryz.isAgg124
  z139 := Tryz.sizeOf124
  v139 := Tryz.zeroValue124
  t146 := Tryz.underlying94
  a146 := Tryz.isAgg94
  z146 := Tryz.sizeOf94
  v146 := Tryz.zeroValue94
  g1 := by kernel_rfl
  g3 := by kernel_rfl
  g4 := by kernel_rfl
  i0 := by kernel_rfl
  i3 := by kernel_rfl
  i4 := by kernel_rfl
  i5 := by kernel_rfl
  i9 := by kernel_rfl
  i21 := by kernel_rfl
  i31 := by kernel_rfl
  i46 := by kernel_rfl
  i51 := by kernel_rfl
  i105 := by kernel_rfl
  i138 := by kernel_rfl
  i139 := by kernel_rfl
  i146 := by kernel_rfl
  m1 := by kernel_rfl
  s1_3 := fun w h => Go.Proofs.cell_of_shapedOpen_int (zero := #[.int .i64 0]) (t := 3) h (of_decide_eq_true (by kernel_rfl)) (by kernel_rfl) rfl (by kernel_rfl) (by kernel_rfl) Tryz.underlying3
  m3 := by kernel_rfl
  m4 := by kernel_rfl }
def Tryz.laysM155_ren : Go.Shelf.Ren := ⟨fun | 155 => 65 | 154 => 85 | 138 => 91 | 165 => 102 | 143 => 92 | 166 => 103 | 197 => 104 | 169 => 105 | 195 => 110 | 218 => 111 | 240 => 118 | 241 => 119 | 219 => 112 | 260 => 120 | 276 => 132 | 277 => 133 | 217 => 77 | 225 => 126 | 224 => 127 | 267 => 128 | 266 => 93 | 314 => 136 | n => n, fun | 9 => 9 | 3 => 3 | 4 => 4 | 72 => 134 | 0 => 0 | 76 => 138 | 105 => 140 | 21 => 21 | 5 => 5 | 70 => 132 | 20 => 20 | 37 => 84 | 75 => 137 | 127 => 157 | 164 => 166 | 46 => 111 | 119 => 121 | 139 => 124 | 138 => 123 | 146 => 94 | 51 => 93 | 80 => 142 | n => n, fun | 1 => 0 | 3 => 2 | 4 => 3 | n => n⟩
theorem Tryz.laysM155 : Go.Proofs.LaysM.n155 Tryz.prog Tryz.laysM155_ren := {
  mixed := by kernel_rfl
  f138 := Tryz.func91.trans (congrArg some (by kernel_rfl))
  f143 := Tryz.func92.trans (congrArg some (by kernel_rfl))
  f154 := Tryz.func85.trans (congrArg some (by kernel_rfl))
  f155 := Tryz.func65.trans (congrArg some (by kernel_rfl))
  f165 := Tryz.func102.trans (congrArg some (by kernel_rfl))
  f166 := Tryz.func103.trans (congrArg some (by kernel_rfl))
  f169 := Tryz.func105.trans (congrArg some (by kernel_rfl))
  f195 := Tryz.func110.trans (congrArg some (by kernel_rfl))
  f197 := Tryz.func104.trans (congrArg some (by kernel_rfl))
  f217 := Tryz.func77.trans (congrArg some (by kernel_rfl))
  f218 := Tryz.func111.trans (congrArg some (by kernel_rfl))
  f219 := Tryz.func112.trans (congrArg some (by kernel_rfl))
  f224 := Tryz.func127.trans (congrArg some (by kernel_rfl))
  f225 := Tryz.func126.trans (congrArg some (by kernel_rfl))
  f240 := Tryz.func118.trans (congrArg some (by kernel_rfl))
  f241 := Tryz.func119.trans (congrArg some (by kernel_rfl))
  f260 := Tryz.func120.trans (congrArg some (by kernel_rfl))
  f266 := Tryz.func93.trans (congrArg some (by kernel_rfl))
  f267 := Tryz.func128.trans (congrArg some (by kernel_rfl))
  f276 := Tryz.func132.trans (congrArg some (by kernel_rfl))
  f277 := Tryz.func133.trans (congrArg some (by kernel_rfl))
  f314 := Tryz.func136.trans (congrArg some (by kernel_rfl))
  t0 := Tryz.underlying0
  a0 := Tryz.isAgg0
  z0 := Tryz.sizeOf0
  v0 := Tryz.zeroValue0
  t3 := Tryz.underlying3
  a3 := Tryz.isAgg3
  z3 := Tryz.sizeOf3
  v3 := Tryz.zeroValue3
  t4 := Tryz.underlying4
  a4 := Tryz.isAgg4
  z4 := Tryz.sizeOf4
  v4 := Tryz.zeroValue4
  t5 := Tryz.underlying5
  a5 := Tryz.isAgg5
  z5 := Tryz.sizeOf5
  v5 := Tryz.zeroValue5
  t9 := Tryz.underlying9
  a9 := Tryz.isAgg9
  z9 := Tryz.sizeOf9
  v9 := Tryz.zeroValue9
  t20 := Tryz.underlying20
  a20 := Tryz.isAgg20
  z20 := Tryz.sizeOf20
  v20 := Tryz.zeroValue20
  t21 := Tryz.underlying21
  a21 := Tryz.isAgg21
  z21 := Tryz.sizeOf21
  v21 := Tryz.zeroValue21
  t37 := Tryz.underlying84
  a37 := Tryz.isAgg84
  z37 := Tryz.sizeOf84
  v37 := Tryz.zeroValue84
  t46 := Tryz.underlying111
  a46 := Tryz.isAgg111
  z46 := Tryz.sizeOf111
  v46 := Tryz.zeroValue111
  t51 := Tryz.underlying93
  a51 := Tryz.isAgg93
  z51 := Tryz.sizeOf93
  v51 := Tryz.zeroValue93
  t70 := Tryz.underlying132
  a70 := Tryz.isAgg132
  z70 := Tryz.sizeOf132
  v70 := Tryz.zeroValue132
  t72 := Tryz.underlying134
  a72 := Tryz.isAgg134
  z72 := Tryz.sizeOf134
  v72 := Tryz.zeroValue134
  t75 := Tryz.underlying137
  a75 := Tryz.isAgg137
  z75 := Tryz.sizeOf137
  v75 := Tryz.zeroValue137
  t76 := Tryz.underlying138
  a76 := Tryz.isAgg138
  z76 := Tryz.sizeOf138
  v76 := Tryz.zeroValue138
  t105 := Tryz.underlying140
  a105 := Tryz.isAgg140
  z105 := Tryz.sizeOf140
  v105 := Tryz.zeroValue140
  t119 := Tryz.underlying121
  a119 := Tryz.isAgg121
  z119 := Tryz.sizeOf121
  t127 := Tryz.underlying157
  a127 := Tryz.isAgg157
  z127 := Tryz.sizeOf157
  v127 := Tryz.zeroValue157
  t138 := Tryz.underlying123
  a138 := Tryz.isAgg123
  z138 := Tryz.sizeOf123
  v138 := Tryz.zeroValue123
  t139 := Tryz.underlying124
  a139 := Tryz.isAgg124
  z139 := Tryz.sizeOf124
  v139 := Tryz.zeroValue124
  t146 := Tryz.underlying94
  a146 := Tryz.isAgg94
  z146 := Tryz.sizeOf94
  v146 := Tryz.zeroValue94
  t164 := Tryz.underlying166
  a164 := Tryz.isAgg166
  z164 := Tryz.sizeOf166
  v164 := Tryz.zeroValue166
  g1 := by kernel_rfl
  g3 := by kernel_rfl
  g4 := by kernel_rfl
  t80 := Tryz.underlying142
  a80 := Tryz.isAgg142
  z80 := Tryz.sizeOf142
  v80 := Tryz.zeroValue142
  i0 := by kernel_rfl
  i3 := by kernel_rfl
  i4 := by kernel_rfl
  i5 := by kernel_rfl
  i9 := by kernel_rfl
  i20 := by kernel_rfl
  i21 := by kernel_rfl
  i37 := by kernel_rfl
  i46 := by kernel_rfl
  i51 := by kernel_rfl
  i70 := by kernel_rfl
  i72 := by kernel_rfl
  i75 := by kernel_rfl
  i76 := by kernel_rfl
  i80 := by kernel_rfl
  i105 := by kernel_rfl
  i127 := by kernel_rfl
  i138 := by kernel_rfl
  i139 := by kernel_rfl
  i146 := by kernel_rfl
  i164 := by kernel_rfl
  m1 := by kernel_rfl
  s1_3 := fun w h => Go.Proofs.cell_of_shapedOpen_int (zero := #[.int .i64 0]) (t := 3) h (of_decide_eq_true (by kernel_rfl)) (by kernel_rfl) rfl (by kernel_rfl) (by kernel_rfl) Tryz.underlying3
  m3 := by kernel_rfl
  m4 := by kernel_rfl }
theorem Tryz.Builder_Extra_M155 : Builder.Extra Tryz.prog Tryz.laysM155_ren := {
  sizeBuilder := by kernel_rfl
  liesBuilder := by kernel_rfl
  t5 := Tryz.underlying5
  a5 := Tryz.isAgg5
  z5 := Tryz.sizeOf5
  v5 := Tryz.zeroValue5
  infoByte := by kernel_rfl
  cellsByte := by kernel_rfl
  sizeByte := by kernel_rfl
  neB5 := by decide }
end Go.Proofs
namespace Go.Proofs.YtiioclkiapbjnaaGreatDoor.En
open Go.RowKit
set_option linter.unusedVariables false
def fMax (g : Nat) : Fact where
  p Z w := Z g ∧ ∃ m, w.cell? ⟨g, 0, none⟩ = some (.int .i64 m)
  keep := fun {Z w w'} hz h => by
    obtain ⟨h3, m, h1⟩ := h
    exact ⟨h3, m, (World.cell?_of_block (a := ⟨g, 0, none⟩) (hz g h3)).trans h1⟩
  mono := fun hz h => ⟨hz _ h.1, h.2⟩
abbrev uMax : Fact := fMax (Tryz.laysM155_ren.g 1)
theorem full_max {w : World} (h : w.ShapedOpen Tryz.prog) : uMax.p (Full w) w := by
  obtain ⟨m, hm⟩ := Tryz.laysM155.s1_3 w h
  refine ⟨?_, m, hm⟩
  rcases Nat.lt_or_ge (Tryz.laysM155_ren.g 1) w.heap.size with h9 | h9
  · exact h9
  · simp [World.cell?, Array.getElem?_eq_none h9] at hm
end Go.Proofs.YtiioclkiapbjnaaGreatDoor.En
namespace Go.Proofs.YtiioclkiapbjnaaGreatDoor
open Go.RowKit YtiioclkiapbjnaaGreatDoor.En
set_option linter.unusedVariables false
def f_strings_ReplaceAll (fu : Nat) (a0 a1 a2 : List UInt8) : Option (List UInt8) := req (a0.length < 4294967281 ∧ 1 ≤ a1.length ∧ a0.length + Lib.count a0 a1 * a2.length ≤ 140737488355328) (some (Lib.replaceAll a0 a1 a2))
theorem f_strings_ReplaceAll_ok (fu : Nat) (a0 a1 a2 : List UInt8) {r : List UInt8} (h : f_strings_ReplaceAll fu a0 a1 a2 = some r) : FnOk Tryz.prog 65 [(str a0), (str a1), (str a2)] [uMax] [] (fun (i : Unit) => { val := (str r) }) := by
  unfold f_strings_ReplaceAll at h
  obtain ⟨hc, h⟩ := req_some h
  obtain rfl := Option.some.inj h
  refine fnok_pre fun w Z hg => ?_
  obtain ⟨m, hm⟩ := (hg uMax (by simp)).2
  exact Any.strings_ReplaceAll { Tryz.laysM155 with } Tryz.Builder_Extra_M155 ⟨a0.toArray⟩ ⟨a1.toArray⟩ ⟨a2.toArray⟩ m w (by simpa [ByteArray.size] using hc.1) hm (by simpa [ByteArray.size] using hc.2.1) (by simpa [ByteArray.size, Lib.countB] using hc.2.2)
end Go.Proofs.YtiioclkiapbjnaaGreatDoor
namespace Go.Proofs
open Go.Shelf
def Tryz.lays137_ren : Go.Shelf.Ren := ⟨fun | 137 => 57 | 217 => 77 | 266 => 93 | n => n, fun | 9 => 9 | 5 => 5 | 3 => 3 | n => n, fun | n => n⟩
theorem Tryz.lays137 : Go.Proofs.Lays.n137 Tryz.prog Tryz.lays137_ren := {
  mixed := by kernel_rfl
  f137 := Tryz.func57.trans (congrArg some (by kernel_rfl))
  f217 := Tryz.func77.trans (congrArg some (by kernel_rfl))
  f266 := Tryz.func93.trans (congrArg some (by kernel_rfl))
  t3 := Tryz.underlying3
  a3 := Tryz.isAgg3
  z3 := Tryz.sizeOf3
  v3 := Tryz.zeroValue3
  t5 := Tryz.underlying5
  a5 := Tryz.isAgg5
  z5 := Tryz.sizeOf5
  v5 := Tryz.zeroValue5
  t9 := Tryz.underlying9
  a9 := Tryz.isAgg9
  z9 := Tryz.sizeOf9
  v9 := Tryz.zeroValue9 }
open Go.RowKit in
theorem Tryz.strings_IndexByte (s : ByteArray) (c : Int) (w : World) :
    Calls Tryz.prog 57 #[.string s, .int .u8 c] w fun e w' => e = .returned (.int .i64 (Lib.indexByte s.data.toList c.toNat.toUInt8)) ∧ w' = w := Any.strings_IndexByte Tryz.lays137 s c w
end Go.Proofs
namespace Go.Proofs.YtiioclkiapbjnaaGreatDoor.En
open Go.RowKit
set_option linter.unusedVariables false
set_option linter.unusedSimpArgs false
theorem str_row {Z : Nat → Prop} {w : World} : ∀ l : List (List UInt8), RepL tyStr Z w (l.map str) l
  | [] => rfl
  | b :: l => ⟨[_], _, rfl, rfl, str_row l⟩
theorem fnok_ownP {P : Program} {f : FuncId} {args : List Value} {pre : List Fact} {e : TypeId} {α : Type} {τ : Ty α} {xs : List α}
    (h : ∀ w Z, (∀ g ∈ pre, g.p Z w) → Calls P f args.toArray w fun ex w' => ∃ v cs, ex = .returned v ∧ w'.ownsRow w.heap.size e τ.size v xs.length cs ∧ (∀ Z, RepL τ Z w' cs xs) ∧ Below w.heap.size w w') :
    FnOk P f args pre [] (fun i : Value => { val := i, own := [oRow i e τ xs] }) := fun w Z hZ hnd hX hpre hoin =>
  (h w Z hpre).mono fun ex w' ⟨v, cs, he, ho, hr, hb⟩ => ⟨v, he, Bel.of hb, by
    show ([oRow v e τ xs].flatMap Own.blk).Nodup
    cases hv : v.ownBlock <;> simp [oRow, hv], fun b hb' => by
    right
    have hb2 : v.ownBlock = some b := by simpa [oRow] using hb'
    rcases ho.2 with ⟨rfl, _⟩ | ⟨g, cap, cur, rfl, hg, _⟩
    · simp [Value.ownBlock] at hb2
    · simp [Value.ownBlock] at hb2; omega, fun Z' _ => ⟨by
    intro o ho'
    rw [List.mem_singleton.1 ho']
    exact ⟨cs, ⟨ho.1, ho.2.imp id fun ⟨g, cap, cur, h1, _, h2⟩ => ⟨g, cap, cur, h1, Nat.zero_le _, h2⟩⟩, hr Z'⟩, by simp⟩⟩
def splitV (s sep : List UInt8) : List (List UInt8) := Lib.splitK sep 0 (Lib.count s sep) s
theorem splitV_len (s : List UInt8) (sep : List UInt8) (h : 1 ≤ sep.length) : (splitV s sep).length = Lib.count s sep + 1 := by
  have h1 := Lib.splitB_data ⟨sep.toArray⟩ 0 (Lib.count s sep) ⟨s.toArray⟩
  have h2 := Lib.splitB_all ⟨sep.toArray⟩ (by simpa [ByteArray.size] using h) 0 (Lib.count s sep) ⟨s.toArray⟩ (by simp [Lib.countB])
  have h3 := congrArg List.length h1
  rw [List.length_map, h2] at h3
  exact h3.symm
end Go.Proofs.YtiioclkiapbjnaaGreatDoor.En
namespace Go.Proofs.YtiioclkiapbjnaaGreatDoor
open Go.RowKit YtiioclkiapbjnaaGreatDoor.En
set_option linter.unusedVariables false
set_option linter.unusedSimpArgs false
def f_strings_IndexByte (fu : Nat) (a0 : List UInt8) (a1 : Int) : Option Int := some (Lib.indexByte a0 a1.toNat.toUInt8)
theorem f_strings_IndexByte_ok (fu : Nat) (a0 : List UInt8) (a1 : Int) {r : Int} (h : f_strings_IndexByte fu a0 a1 = some r) : FnOk Tryz.prog 57 [(str a0), (Value.int .u8 a1)] [] [] (fun (i : Unit) => { val := (Value.int .i64 r) }) := by
  unfold f_strings_IndexByte at h
  obtain rfl := Option.some.inj h
  refine fnok_pure fun w => ?_
  exact (Tryz.strings_IndexByte ⟨a0.toArray⟩ a1 w).mono fun e w' h9 => ⟨h9.1, by rw [h9.2]; exact Below.refl _ _⟩
def f_strings_Split (fu : Nat) (a0 a1 : List UInt8) : Option (List (List UInt8)) := req (a0.length < 4294967281 ∧ 1 ≤ a1.length) (some (splitV a0 a1))
theorem f_strings_Split_ok (fu : Nat) (a0 a1 : List UInt8) {r : List (List UInt8)} (h : f_strings_Split fu a0 a1 = some r) : FnOk Tryz.prog 54 [(str a0), (str a1)] [uMax] [] (fun (i : Value) => { val := i, own := [(oRow i 9 tyStr r)] }) := by
  unfold f_strings_Split at h
  obtain ⟨hc, h⟩ := req_some h
  obtain rfl := Option.some.inj h
  refine fnok_ownP fun w Z hg => ?_
  obtain ⟨m, hm⟩ := (hg uMax (by simp)).2
  have h1 := Tryz.laysM146
  refine (Any.strings_Split { Tryz.laysM146 with } Tryz.laysM146.i9 ⟨a0.toArray⟩ ⟨a1.toArray⟩ m w (by simpa [ByteArray.size] using hc.1) hm (by simpa [ByteArray.size] using hc.2)).mono fun ex w' h9 => ?_
  obtain ⟨he, hw⟩ := h9
  have hcnt : Lib.countB ⟨a0.toArray⟩ ⟨a1.toArray⟩ = Lib.count a0 a1 := by simp [Lib.countB]
  have hlen := splitV_len a0 a1 hc.2
  have hcle := Lib.count_le a0 a1
  rw [hcnt] at he hw
  have hmap : (Lib.splitB ⟨a1.toArray⟩ 0 (Lib.count a0 a1) ⟨a0.toArray⟩).map Value.string = (splitV a0 a1).map str := by
    unfold splitV
    rw [← Lib.splitB_data ⟨a1.toArray⟩ 0 (Lib.count a0 a1) ⟨a0.toArray⟩, List.map_map]
    apply List.map_congr_left
    intro x _
    simp [str]
  rw [hmap] at hw
  refine ⟨_, (splitV a0 a1).map str, he, ⟨by rw [List.length_map]; show _ = _ * 1; omega, .inr ⟨w.heap.size, Lib.count a0 a1 + 1, _, by rw [hlen], Nat.le_refl _, by rw [hw]; exact heap_alloc_new w _, by omega, by unfold maxLen; omega, by simp [hlen, tyStr, tyEnc], ?_⟩⟩, fun Z => str_row _, by rw [hw]; exact (Below.refl _ _).alloc (Nat.le_refl _) _⟩
  rw [List.take_of_length_le (by simp [tyStr, tyEnc])]
end Go.Proofs.YtiioclkiapbjnaaGreatDoor
namespace Go.Proofs.YtiioclkiapbjnaaGreatDoor.En
open Go.RowKit Go.Maps YtiioclkiapbjnaaGreatDoor
set_option linter.unusedVariables false
set_option linter.unusedSimpArgs false
section
variable {κ ν : Type}
variable {P : Program} {Q : Exit → Act → World → Prop} {n : Nat} {m : Mem} {S : Sl} {ops : Array Oper} {rest : List Oper} {o : Oper} {l : List (κ × ν)} {t kt vt : TypeId} {g : Nat} {ek : κ → Value} {ew : ν → Value}
theorem al_insertK [DecidableEq κ] {x y z : Operand} (i : Nat) (K : Keyed P kt) (hinj : ∀ a b, ek a = ek b → a = b) {k : κ} {v : ν} (hkey : ∃ t, keyOf P kt (ek k) = some t) (hi : m.own[i]? = some (oMapK P kt g ek ew l)) (hx : ev S x = some (.map (some g))) (hy : ev S y = some (ek k)) (hz : ev S z = some (ew v)) (ht : P.underlying t = some (.map kt vt)) (ho : o.op = .insert t x y z)
    (h : AL P ops rest Q n (m.upd i (oMapK P kt g ek ew (gset l k v))) S) (hdst : o.dst = none := by rfl) (hg : wantS ops S o true = true := by rfl) : AL P ops (o :: rest) Q n m S :=
  al_step hg fun w a hm hs K' hK => by
    obtain ⟨es, clock, hh, he, hn, hk⟩ := own_at hm hi
    have hf := find_K (P := P) K hinj he hn hk hkey w
    obtain ⟨lx, hlx⟩ := hkey
    have hc := K.check w false hlx
    have hgo := Go.MapKept.run_getObj_map (P := P) hh
    have hes : es.size = l.length := by have := congrArg List.length he; simpa using this
    rcases hf with ⟨h1, h2⟩ | ⟨j, u, h1, h2⟩
    · have hset := Go.MapKept.run_setObj_map (P := P) (.map (es.push { key := ek k, val := ew v, born := clock }) (clock + 1)) hh
      refine step_skip (w' := { w with heap := w.heap.setIfInBounds g (.map (es.push { key := ek k, val := ew v, born := clock }) (clock + 1)) }) ?_ (hK _ _ (h _ _ (hm.upd hi ⟨rfl, rfl, rfl, by simp, fun b _ hb => setIter_other w g b _ (by simpa [oMapK] using hb)⟩ (by simp [oMapK]) (fun b hb => .inl hb) (fun Z _ => ⟨_, _, (Go.MapKept.heap_set hh).1, ?_, ?_, ?_⟩)) (by rw [hdst]; exact hs)))
      · unfold execOp
        simp only [ho, hs.ev hx, hs.ev hy, hs.ev hz]
        simp [Instr.mapUpdate, Sem.run_bind, run_underlying ht, hgo, hc, h1, hset]
      · rw [gset_new v h2]
        unfold eMapK at *
        simp [he]
      · rw [gset_new v h2, List.map_append, List.nodup_append]
        refine ⟨hn, by simp, ?_⟩
        intro b hb c hcc
        obtain ⟨q, hq, rfl⟩ := List.mem_map.1 hb
        simp at hcc
        subst hcc
        exact h2 q hq
      · rw [gset_new v h2]
        intro q hq
        rcases List.mem_append.1 hq with hq | hq
        · exact hk q hq
        · rw [List.mem_singleton.1 hq]; exact ⟨lx, hlx⟩
    · have hj : j < l.length := (List.getElem?_eq_some_iff.1 h2).1
      have hky : (es[j]?).map (·.key) = some (ek k) := by
        have h3 : (es.toList.map fun e => (e.key, e.val))[j]? = some (ek k, ew u) := by
          have he' : es.toList.map (fun e => (e.key, e.val)) = l.map (fun x => (ek x.1, ew x.2)) := he
          rw [he', List.getElem?_map, h2]; rfl
        rw [List.getElem?_map, Array.getElem?_toList] at h3
        cases hq : es[j]? with
        | none => rw [hq] at h3; cases h3
        | some q =>
          rw [hq] at h3
          exact congrArg some (Prod.mk.inj (Option.some.inj h3)).1
      have hkts := K.stays w hlx
      have hset := Go.MapKept.run_setObj_map (P := P) (.map (es.modify j fun e => { e with key := ek k, val := ew v }) clock) hh
      have hgs := (gget_at hn h2).2 v
      refine step_skip (w' := { w with heap := w.heap.setIfInBounds g (.map (es.modify j fun e => { e with key := ek k, val := ew v }) clock) }) ?_ (hK _ _ (h _ _ (hm.upd hi ⟨rfl, rfl, rfl, by simp, fun b _ hb => setIter_other w g b _ (by simpa [oMapK] using hb)⟩ (by simp [oMapK]) (fun b hb => .inl hb) (fun Z _ => ⟨_, _, (Go.MapKept.heap_set hh).1, ?_, ?_, ?_⟩)) (by rw [hdst]; exact hs)))
      · unfold execOp
        simp only [ho, hs.ev hx, hs.ev hy, hs.ev hz]
        simp [Instr.mapUpdate, Sem.run_bind, run_underlying ht, hgo, hc, h1, hset, hky, hkts]
      · rw [hgs]
        unfold eMapK at *
        rw [List.map_set, ← he]
        apply List.ext_getElem?
        intro q
        rw [List.getElem?_map, Array.getElem?_toList, Array.getElem?_modify, List.getElem?_set, List.getElem?_map, List.length_map, Array.getElem?_toList]
        by_cases e : j = q
        · subst e
          have : j < es.size := by omega
          simp [this]
        · simp [e]
      · rw [hgs, gset_keys l k v j u h2]; exact hn
      · rw [hgs]
        intro q hq
        rcases List.mem_or_eq_of_mem_set hq with hq | hq
        · exact hk q hq
        · rw [hq]; exact ⟨lx, hlx⟩
end
end Go.Proofs.YtiioclkiapbjnaaGreatDoor.En
namespace Go.Proofs
open Go.Shelf
def Tryz.laysBin43_ren : Go.Shelf.Ren := ⟨fun | 43 => 80 | n => n, fun | 37 => 105 | 22 => 84 | 33 => 81 | 0 => 0 | 5 => 5 | 45 => 111 | n => n, fun | n => n⟩
theorem Tryz.laysBin43 : Go.Proofs.LaysBin.n43 Tryz.prog Tryz.laysBin43_ren := {
  mixed := by kernel_rfl
  f43 := Tryz.func80.trans (congrArg some (by kernel_rfl))
  t0 := Tryz.underlying0
  a0 := Tryz.isAgg0
  z0 := Tryz.sizeOf0
  v0 := Tryz.zeroValue0
  i0 := by kernel_rfl
  t5 := Tryz.underlying5
  a5 := Tryz.isAgg5
  z5 := Tryz.sizeOf5
  v5 := Tryz.zeroValue5
  i5 := by kernel_rfl
  t22 := Tryz.underlying84
  a22 := Tryz.isAgg84
  z22 := Tryz.sizeOf84
  v22 := Tryz.zeroValue84
  i22 := by kernel_rfl
  t33 := Tryz.underlying81
  a33 := Tryz.isAgg81
  z33 := Tryz.sizeOf81
  v33 := Tryz.zeroValue81
  i33 := by kernel_rfl
  t37 := Tryz.underlying105
  a37 := Tryz.isAgg105
  z37 := Tryz.sizeOf105
  v37 := Tryz.zeroValue105
  i37 := by kernel_rfl
  t45 := Tryz.underlying111
  a45 := Tryz.isAgg111
  z45 := Tryz.sizeOf111
  v45 := Tryz.zeroValue111
  i45 := by kernel_rfl }
open Go.RowKit in
theorem Tryz.binary_BE_PutUint64 (g o n c v : Nat) (hv : v < 18446744073709551616) (x0 x1 x2 x3 x4 x5 x6 x7 : Value) (w : World) (hn : 8 ≤ n) (c0 : w.cell? ⟨g, o, none⟩ = some x0) (c1 : w.cell? ⟨g, o + 1, none⟩ = some x1) (c2 : w.cell? ⟨g, o + 2, none⟩ = some x2) (c3 : w.cell? ⟨g, o + 3, none⟩ = some x3) (c4 : w.cell? ⟨g, o + 4, none⟩ = some x4) (c5 : w.cell? ⟨g, o + 5, none⟩ = some x5) (c6 : w.cell? ⟨g, o + 6, none⟩ = some x6) (c7 : w.cell? ⟨g, o + 7, none⟩ = some x7) (f0 : w.frozen? ⟨g, o, none⟩ = false) (f1 : w.frozen? ⟨g, o + 1, none⟩ = false) (f2 : w.frozen? ⟨g, o + 2, none⟩ = false) (f3 : w.frozen? ⟨g, o + 3, none⟩ = false) (f4 : w.frozen? ⟨g, o + 4, none⟩ = false) (f5 : w.frozen? ⟨g, o + 5, none⟩ = false) (f6 : w.frozen? ⟨g, o + 6, none⟩ = false) (f7 : w.frozen? ⟨g, o + 7, none⟩ = false) :
    Calls Tryz.prog 80 #[.agg #[], .slice (some ⟨g, o, none⟩) n c, .int .u64 v] w fun e w' => e = .returned (.tuple #[]) ∧ w' = (w.alloc (.cells #[] 105)).setCells g o (Lib.byteCells (Lib.beBytes 8 v)) := Any.binary_BE_PutUint64 Tryz.laysBin43 g o n c v hv x0 x1 x2 x3 x4 x5 x6 x7 w hn c0 c1 c2 c3 c4 c5 c6 c7 f0 f1 f2 f3 f4 f5 f6 f7
end Go.Proofs
namespace Go.Proofs
open Go.Shelf
def Tryz.lays161_ren : Go.Shelf.Ren := ⟨fun | 161 => 84 | 231 => 98 | 227 => 99 | 233 => 100 | 235 => 101 | 228 => 116 | 197 => 104 | 151 => 117 | 260 => 120 | 152 => 131 | 137 => 57 | 119 => 138 | 224 => 127 | 225 => 126 | 217 => 77 | 266 => 93 | n => n, fun | 9 => 9 | 4 => 4 | 3 => 3 | 5 => 5 | 117 => 128 | 116 => 127 | 0 => 0 | 124 => 131 | 105 => 140 | 21 => 21 | 119 => 121 | 46 => 111 | 139 => 124 | 138 => 123 | n => n, fun | 3 => 2 | 4 => 3 | n => n⟩
theorem Tryz.lays161 : Go.Proofs.Lays.n161 Tryz.prog Tryz.lays161_ren := {
  mixed := by kernel_rfl
  f119 := Tryz.func138.trans (congrArg some (by kernel_rfl))
  f137 := Tryz.func57.trans (congrArg some (by kernel_rfl))
  f151 := Tryz.func117.trans (congrArg some (by kernel_rfl))
  f152 := Tryz.func131.trans (congrArg some (by kernel_rfl))
  f161 := Tryz.func84.trans (congrArg some (by kernel_rfl))
  f197 := Tryz.func104.trans (congrArg some (by kernel_rfl))
  f217 := Tryz.func77.trans (congrArg some (by kernel_rfl))
  f224 := Tryz.func127.trans (congrArg some (by kernel_rfl))
  f225 := Tryz.func126.trans (congrArg some (by kernel_rfl))
  f227 := Tryz.func99.trans (congrArg some (by kernel_rfl))
  f228 := Tryz.func116.trans (congrArg some (by kernel_rfl))
  f231 := Tryz.func98.trans (congrArg some (by kernel_rfl))
  f233 := Tryz.func100.trans (congrArg some (by kernel_rfl))
  f235 := Tryz.func101.trans (congrArg some (by kernel_rfl))
  f260 := Tryz.func120.trans (congrArg some (by kernel_rfl))
  f266 := Tryz.func93.trans (congrArg some (by kernel_rfl))
  t0 := Tryz.underlying0
  a0 := Tryz.isAgg0
  z0 := Tryz.sizeOf0
  v0 := Tryz.zeroValue0
  t3 := Tryz.underlying3
  a3 := Tryz.isAgg3
  z3 := Tryz.sizeOf3
  v3 := Tryz.zeroValue3
  t4 := Tryz.underlying4
  a4 := Tryz.isAgg4
  z4 := Tryz.sizeOf4
  v4 := Tryz.zeroValue4
  t5 := Tryz.underlying5
  a5 := Tryz.isAgg5
  z5 := Tryz.sizeOf5
  v5 := Tryz.zeroValue5
  t9 := Tryz.underlying9
  a9 := Tryz.isAgg9
  z9 := Tryz.sizeOf9
  v9 := Tryz.zeroValue9
  t21 := Tryz.underlying21
  a21 := Tryz.isAgg21
  z21 := Tryz.sizeOf21
  v21 := Tryz.zeroValue21
  t46 := Tryz.underlying111
  a46 := Tryz.isAgg111
  z46 := Tryz.sizeOf111
  v46 := Tryz.zeroValue111
  t105 := Tryz.underlying140
  a105 := Tryz.isAgg140
  z105 := Tryz.sizeOf140
  v105 := Tryz.zeroValue140
  t116 := Tryz.underlying127
  a116 := Tryz.isAgg127
  z116 := Tryz.sizeOf127
  t117 := Tryz.underlying128
  a117 := Tryz.isAgg128
  z117 := Tryz.sizeOf128
  v117 := Tryz.zeroValue128
  t119 := Tryz.underlying121
  a119 := Tryz.isAgg121
  z119 := Tryz.sizeOf121
  t124 := Tryz.underlying131
  a124 := Tryz.isAgg131
  z124 := Tryz.sizeOf131
  v124 := Tryz.zeroValue131
  t138 := Tryz.underlying123
  a138 := Tryz.isAgg123
  z138 := Tryz.sizeOf123
  v138 := Tryz.zeroValue123
  t139 := Tryz.underlying124
  a139 := Tryz.isAgg124
  z139 := Tryz.sizeOf124
  v139 := Tryz.zeroValue124
  g3 := by kernel_rfl
  g4 := by kernel_rfl }
open Go.RowKit in
theorem Tryz.strings_TrimLeft_one (s : ByteArray) (c : UInt8) (hc : c.toNat < 128) (w : World) :
    Calls Tryz.prog 84 #[.string s, .string ⟨#[c]⟩] w fun e w' => e = .returned (.string ⟨(Lib.trimLeftB s.data.toList c).toArray⟩) ∧ w' = w := Any.strings_TrimLeft_one Tryz.lays161 s c hc w
end Go.Proofs
namespace Go.Proofs
open Go.Shelf
def Tryz.laysBin44_ren : Go.Shelf.Ren := ⟨fun | 44 => 83 | n => n, fun | 37 => 105 | 22 => 84 | 33 => 81 | 0 => 0 | 45 => 111 | 5 => 5 | n => n, fun | n => n⟩
theorem Tryz.laysBin44 : Go.Proofs.LaysBin.n44 Tryz.prog Tryz.laysBin44_ren := {
  mixed := by kernel_rfl
  f44 := Tryz.func83.trans (congrArg some (by kernel_rfl))
  t0 := Tryz.underlying0
  a0 := Tryz.isAgg0
  z0 := Tryz.sizeOf0
  v0 := Tryz.zeroValue0
  i0 := by kernel_rfl
  t5 := Tryz.underlying5
  a5 := Tryz.isAgg5
  z5 := Tryz.sizeOf5
  v5 := Tryz.zeroValue5
  i5 := by kernel_rfl
  t22 := Tryz.underlying84
  a22 := Tryz.isAgg84
  z22 := Tryz.sizeOf84
  v22 := Tryz.zeroValue84
  i22 := by kernel_rfl
  t33 := Tryz.underlying81
  a33 := Tryz.isAgg81
  z33 := Tryz.sizeOf81
  v33 := Tryz.zeroValue81
  i33 := by kernel_rfl
  t37 := Tryz.underlying105
  a37 := Tryz.isAgg105
  z37 := Tryz.sizeOf105
  v37 := Tryz.zeroValue105
  i37 := by kernel_rfl
  t45 := Tryz.underlying111
  a45 := Tryz.isAgg111
  z45 := Tryz.sizeOf111
  v45 := Tryz.zeroValue111
  i45 := by kernel_rfl }
open Go.RowKit in
theorem Tryz.binary_BE_AppendUint64 (B n v : Nat) (hv : v < 18446744073709551616) (sv : Value) (xs : List Value) (w : World) (hown : w.ownsRow B 5 1 sv n xs) (hBw : B ≤ w.heap.size) (hlim : n + 8 ≤ 140737488355328) :
    Calls Tryz.prog 83 #[.agg #[], sv, .int .u64 v] w fun e w' => ∃ v', e = .returned v' ∧ w'.ownsRow B 5 1 v' (n + 8) (xs ++ Lib.byteCells (Lib.beBytes 8 v)) ∧ Below B w w' := Any.binary_BE_AppendUint64 Tryz.laysBin44 B n v hv sv xs w hown hBw hlim
end Go.Proofs
namespace Go.Proofs.YtiioclkiapbjnaaGreatDoor.En
open Go.RowKit Go.Proofs.YtiioclkiapbjnaaGreatDoor
set_option linter.unusedVariables false
set_option linter.unusedSimpArgs false
section
variable {P : Program} {Q : Exit → Act → World → Prop} {n : Nat} {m : Mem} {S : Sl} {ops : Array Oper} {rest : List Oper} {o : Oper} {α β : Type}
end
end Go.Proofs.YtiioclkiapbjnaaGreatDoor.En
namespace Go.Proofs.YtiioclkiapbjnaaGreatDoor.En
open Go.RowKit Go.Proofs.YtiioclkiapbjnaaGreatDoor
set_option linter.unusedVariables false
set_option linter.unusedSimpArgs false
structure SubSet {α β : Type} (t : Ty α) (off : Nat) (u : Ty β) (up : α → β → α) : Prop where
  laid : ∀ {Z w cs vs x y}, t.rep Z w cs x → u.rep Z w vs y → t.rep Z w (cs.take off ++ vs ++ cs.drop (off + u.size)) (up x y)
theorem SubSet.whole {α : Type} (t : Ty α) : SubSet t 0 t (fun _ y => y) := ⟨fun h h2 => by
  rw [List.take_zero, Nat.zero_add, List.drop_of_length_le (by rw [t.len h]; exact Nat.le_refl _), List.nil_append, List.append_nil]; exact h2⟩
theorem SubSet.fst {α β γ : Type} {a : Ty α} {b : Ty β} {u : Ty γ} {off : Nat} {p : α → γ → α} (hf : off + u.size ≤ a.size) (h : SubSet a off u p) : SubSet (tyPair a b) off u (fun x y => (p x.1 y, x.2)) := ⟨fun hr h0 => by
  obtain ⟨c1, c2, rfl, h1, h2⟩ := hr
  have hl := a.len h1
  refine ⟨c1.take off ++ _ ++ c1.drop (off + u.size), c2, ?_, h.laid h1 h0, h2⟩
  rw [List.take_append_of_le_length (by omega), List.drop_append_of_le_length (by omega), List.append_assoc, List.append_assoc, List.append_assoc]⟩
theorem SubSet.snd {α β γ : Type} {a : Ty α} {b : Ty β} {u : Ty γ} {off : Nat} {p : β → γ → β} (h : SubSet b off u p) : SubSet (tyPair a b) (a.size + off) u (fun x y => (x.1, p x.2 y)) := ⟨fun hr h0 => by
  obtain ⟨c1, c2, rfl, h1, h2⟩ := hr
  have hl := a.len h1
  refine ⟨c1, c2.take off ++ _ ++ c2.drop (off + u.size), ?_, h1, h.laid h2 h0⟩
  rw [List.take_append, List.take_of_length_le (by omega), List.drop_append, List.drop_of_length_le (by omega), hl, show a.size + off - a.size = off by omega, show a.size + off + u.size - a.size = off + u.size by omega, List.nil_append, List.append_assoc, List.append_assoc, List.append_assoc]⟩
theorem SubSet.via {α β γ : Type} {f : α → β} {b : Ty β} {u : Ty γ} {off : Nat} {p : β → γ → β} {q : α → γ → α} (h : SubSet b off u p) (hq : ∀ x y, f (q x y) = p (f x) y) : SubSet (tyVia f b) off u q := ⟨fun hr h0 => by
  show b.rep _ _ _ (f (q _ _))
  rw [hq]; exact h.laid hr h0⟩
section
variable {P : Program} {Q : Exit → Act → World → Prop} {n : Nat} {m : Mem} {S : Sl} {ops : Array Oper} {rest : List Oper} {o : Oper} {α β : Type}
end
end Go.Proofs.YtiioclkiapbjnaaGreatDoor.En
namespace Go.Proofs.YtiioclkiapbjnaaGreatDoor.En
open Go.RowKit YtiioclkiapbjnaaGreatDoor Go.Op
set_option linter.unusedVariables false
set_option linter.unusedSimpArgs false
section
variable {P : Program} {Q : Exit → Act → World → Prop} {n : Nat} {m : Mem} {S : Sl} {ops : Array Oper} {rest : List Oper} {o : Oper} {α : Type}
end
end Go.Proofs.YtiioclkiapbjnaaGreatDoor.En
namespace Go.Proofs.YtiioclkiapbjnaaGreatDoor.En
open Go.RowKit
set_option linter.unusedVariables false
set_option linter.unusedSimpArgs false
def bagO {α : Type} (e : TypeId) (τ : Ty α) : List Value → List (Option (List α)) → List Own
  | u :: us, some xs :: b => oRow u e τ xs :: bagO e τ us b
  | _ :: us, none :: b => bagO e τ us b
  | _, _ => []
def oBag {α : Type} (e : TypeId) (τ : Ty α) (us : List Value) (b : List (Option (List α))) : Own where
  blk := (bagO e τ us b).flatMap Own.blk
  p Z w := us.length = b.length ∧ ∀ o ∈ bagO e τ us b, o.p Z w
  keep hz h := ⟨h.1, fun o ho => o.keep (fun b hb => hz b (hb.imp id fun hb => List.mem_flatMap.2 ⟨o, ho, hb⟩)) (h.2 o ho)⟩
  mono hz h := ⟨h.1, fun o ho => o.mono hz (h.2 o ho)⟩
  lt h := by
    intro b hb
    obtain ⟨o, ho, hb⟩ := List.mem_flatMap.1 hb
    exact o.lt (h.2 o ho) b hb
section
variable {P : Program} {Q : Exit → Act → World → Prop} {n : Nat} {m : Mem} {S : Sl} {ops : Array Oper} {rest : List Oper} {o : Oper} {α β : Type}
theorem bagO_mem {e : TypeId} {τ : Ty α} {u : Value} {xs : List α} : ∀ {us : List Value} {b : List (Option (List α))} {k : Nat}, us[k]? = some u → b[k]? = some (some xs) → oRow u e τ xs ∈ bagO e τ us b
  | [], _, _, h, _ => by simp at h
  | _ :: _, [], _, _, h => by simp at h
  | v :: us, x :: b, 0, h1, h2 => by
    obtain rfl : v = u := by simpa using h1
    obtain rfl : x = some xs := by simpa using h2
    exact .head _
  | v :: us, some ys :: b, k + 1, h1, h2 => .tail _ (bagO_mem (k := k) (by simpa using h1) (by simpa using h2))
  | v :: us, none :: b, k + 1, h1, h2 => bagO_mem (us := us) (b := b) (k := k) (by simpa using h1) (by simpa using h2)
theorem bagO_app {e : TypeId} {τ : Ty α} {v : Value} {xs : List α} : ∀ {us : List Value} {b : List (Option (List α))}, us.length = b.length → bagO e τ (us ++ [v]) (b ++ [some xs]) = bagO e τ us b ++ [oRow v e τ xs]
  | [], [], _ => rfl
  | u :: us, some ys :: b, h => by
    show _ :: bagO e τ (us ++ [v]) (b ++ [some xs]) = _ :: (bagO e τ us b ++ _)
    rw [bagO_app (by simpa using h)]
  | u :: us, none :: b, h => bagO_app (us := us) (b := b) (by simpa using h)
theorem bagO_take {e : TypeId} {τ : Ty α} {u : Value} {xs : List α} : ∀ {us : List Value} {b : List (Option (List α))} {k : Nat}, us[k]? = some u → b[k]? = some (some xs) → (bagO e τ us b).Perm (oRow u e τ xs :: bagO e τ us (b.set k none))
  | [], _, _, h, _ => by simp at h
  | _ :: _, [], _, _, h => by simp at h
  | v :: us, x :: b, 0, h1, h2 => by
    obtain rfl : v = u := by simpa using h1
    obtain rfl : x = some xs := by simpa using h2
    exact List.Perm.refl _
  | v :: us, some ys :: b, k + 1, h1, h2 => by
    show (_ :: bagO e τ us b).Perm (_ :: _ :: bagO e τ us (b.set k none))
    exact ((bagO_take (by simpa using h1) (by simpa using h2)).cons _).trans (List.Perm.swap _ _ _)
  | v :: us, none :: b, k + 1, h1, h2 => bagO_take (us := us) (b := b) (k := k) (by simpa using h1) (by simpa using h2)
theorem Holds.remix {w : World} (hm : Holds m w) (own' : List Own) (hperm : (own'.flatMap Own.blk).Perm (m.own.flatMap Own.blk)) (hp : (∀ o ∈ m.own, o.p (m.frz w) w) → ∀ o ∈ own', o.p (m.frz w) w) : Holds { m with own := own' } w := by
  have hz : ∀ b, m.frz w b → Mem.frz { m with own := own' } w b := fun b hb => ⟨hb.1, fun hx => hb.2.1 (hperm.mem_iff.1 hx), hb.2.2⟩
  exact ⟨hm.bel, hm.B, hperm.nodup_iff.2 hm.nd, fun b hb => hm.lo b (hperm.mem_iff.1 hb), hm.zx, fun o ho => o.mono hz (hp hm.own o ho), fun f hf => f.mono hz (hm.fz f hf)⟩
end
section
variable {P : Program} {Q : Exit → Act → World → Prop} {n : Nat} {m0 m : Mem} {S : Sl} {ops : Array Oper} {o : Oper} {E : List Nat} {L : Spec} {R : Value → Fact} {α ι : Type}
end
end Go.Proofs.YtiioclkiapbjnaaGreatDoor.En
namespace Go.Proofs.YtiioclkiapbjnaaGreatDoor.En
open Go.RowKit Go.Proofs.YtiioclkiapbjnaaGreatDoor
set_option linter.unusedVariables false
set_option linter.unusedSimpArgs false
def tySl : Ty Value where
  size := 1
  rep _ _ cs u := cs = [u] ∧ ∃ A n c, u = .slice A n c
  len h := by rw [h.1]; rfl
  one h := by
    obtain ⟨rfl, A, n, c, rfl⟩ := h
    simp [Value.oneCell']
  keep _ h := h
  mono _ h := h
def kidB {κ : Type} (hole : Option Nat) (l : List (List κ)) : List (Option (List κ)) := match hole with | none => l.map some | some k => (l.map some).set k none
def oKids {α κ : Type} (v : Value) (e : TypeId) (τh : Ty (Value × α)) (eb : TypeId) (τk : Ty κ) (kd : α → List κ) (hole : Option Nat) (us : List Value) (xs : List α) : Own where
  blk := (oRow v e τh (us.zip xs)).blk ++ (oBag eb τk us (kidB hole (xs.map kd))).blk
  p Z w := us.length = xs.length ∧ (oRow v e τh (us.zip xs)).p Z w ∧ (oBag eb τk us (kidB hole (xs.map kd))).p Z w
  keep hz h := ⟨h.1, (oRow v e τh (us.zip xs)).keep (fun b hb => hz b (hb.imp id fun hb => List.mem_append_left _ hb)) h.2.1, (oBag eb τk us (kidB hole (xs.map kd))).keep (fun b hb => hz b (hb.imp id fun hb => List.mem_append_right _ hb)) h.2.2⟩
  mono hz h := ⟨h.1, (oRow v e τh (us.zip xs)).mono hz h.2.1, (oBag eb τk us (kidB hole (xs.map kd))).mono hz h.2.2⟩
  lt h := by
    intro b hb
    rcases List.mem_append.1 hb with hb | hb
    · exact (oRow v e τh (us.zip xs)).lt h.2.1 b hb
    · exact (oBag eb τk us (kidB hole (xs.map kd))).lt h.2.2 b hb
section
variable {P : Program} {Q : Exit → Act → World → Prop} {n : Nat} {m : Mem} {S : Sl} {ops : Array Oper} {rest : List Oper} {o : Oper} {α β κ : Type} {L : List Own}
theorem kidB_len (hole : Option Nat) (l : List (List κ)) : (kidB hole l).length = l.length := by
  unfold kidB; cases hole <;> simp
theorem Holds.reo {w : World} (hm : Holds m w) (io : List Nat) (hio : io.Nodup) : Holds { m with own := picks m.own io } w := hm.reown _ (fun o ho => picks_sub ho) (picks_nodup hm.nd hio)
theorem al_reo {l : List Oper} (io : List Nat) (hio : io.Nodup) (h : AL P ops l Q n { m with own := picks m.own io } S) : AL P ops l Q n m S := fun w a hm hs => h w a (hm.reo io hio) hs
theorem al_reoX {l : List Oper} {X : List Own} {Y : List Fact} (io : List Nat) (hio : io.Nodup) (hl : (io.all fun i => Nat.blt i m.own.length) = true) (h : AL P ops l Q n (Mem.plus { m with own := picks m.own io } X Y) S) : AL P ops l Q n (m.plus X Y) S := fun w a hm hs => h w a (by
  refine hm.reown (picks m.own io ++ X) (fun o ho => ?_) ?_
  · rcases List.mem_append.1 ho with ho | ho
    · exact List.mem_append_left _ (picks_sub ho)
    · exact List.mem_append_right _ ho
  · have h0 := hm.nd
    unfold Mem.blks at h0
    have h1 : ((m.own ++ X).flatMap Own.blk).Nodup := h0
    rw [List.flatMap_append, List.nodup_append] at h1
    rw [List.flatMap_append, List.nodup_append]
    refine ⟨picks_nodup h1.1 hio, h1.2.1, fun b hb c hc => h1.2.2 b ?_ c hc⟩
    obtain ⟨o, ho, hb⟩ := List.mem_flatMap.1 hb
    exact List.mem_flatMap.2 ⟨o, picks_sub ho, hb⟩) hs
theorem Holds.front {w : World} (hm : Holds m w) {A A' : List Own} (hown : m.own = A ++ L) (hb : (A'.flatMap Own.blk).Perm (A.flatMap Own.blk)) (hp : ∀ Z : Nat → Prop, (∀ o ∈ A, o.p Z w) → ∀ o ∈ A', o.p Z w) : Holds { m with own := A' ++ L } w := by
  refine hm.remix (A' ++ L) ?_ (fun h o ho => ?_)
  · rw [hown, List.flatMap_append, List.flatMap_append]; exact hb.append_right _
  · rcases List.mem_append.1 ho with ho | ho
    · exact hp _ (fun o ho => h o (by rw [hown]; exact List.mem_append_left _ ho)) o ho
    · exact h o (by rw [hown]; exact List.mem_append_right _ ho)
theorem Holds.drop1 {w : World} (hm : Holds m w) {x : Own} (hown : m.own = x :: L) : Holds { m with own := L } w := by
  refine hm.reown L (fun o ho => by rw [hown]; exact .tail _ ho) ?_
  have h := hm.nd
  unfold Mem.blks at h
  rw [hown, List.flatMap_cons, List.nodup_append] at h
  exact h.2.1
section
variable {v u : Value} {e eb : TypeId} {τh : Ty (Value × α)} {τk : Ty κ} {kd : α → List κ} {hole : Option Nat} {us us2 : List Value} {xs xs2 : List α} {x : α}
theorem Holds.kSplit {w : World} (hm : Holds m w) (hown : m.own = oKids v e τh eb τk kd hole us xs :: L) : us.length = xs.length ∧ Holds { m with own := oRow v e τh (us.zip xs) :: oBag eb τk us (kidB hole (xs.map kd)) :: L } w := by
  have h0 : m.own[0]? = some (oKids v e τh eb τk kd hole us xs) := by rw [hown]; rfl
  have hp : (oKids v e τh eb τk kd hole us xs).p (m.frz w) w := own_at hm h0
  refine ⟨hp.1, ?_⟩
  exact hm.front (A := [oKids v e τh eb τk kd hole us xs]) (A' := [oRow v e τh (us.zip xs), oBag eb τk us (kidB hole (xs.map kd))]) hown (by simp [oKids]) (fun Z h o ho => by
    have h1 := h _ (.head _)
    rcases List.mem_cons.1 ho with rfl | ho
    · exact h1.2.1
    · rw [List.mem_singleton.1 ho]; exact h1.2.2)
theorem nil_kids (Z : Nat → Prop) (w : World) : (oKids (.slice none 0 0) e τh eb τk kd none [] []).p Z w := ⟨rfl, nil_own _ _ _ _, rfl, by simp [kidB, bagO]⟩
theorem Holds.nilK {w : World} (hm : Holds m w) : Holds (m.push (oKids (.slice none 0 0) e τh eb τk kd none [] [])) w :=
  hm.push (w' := w) (Below.refl _ _) (by simp [oKids, oRow, oBag, bagO, kidB, Value.ownBlock]) (by simp [oKids, oRow, oBag, bagO, kidB, Value.ownBlock]) (fun Z _ => nil_kids Z w)
theorem aw_nilK {c : Code} (e : TypeId) (τh : Ty (Value × α)) (eb : TypeId) (τk : Ty κ) (kd : α → List κ) (h : AW P c Q n (m.push (oKids (.slice none 0 0) e τh eb τk kd none [] [])) S) : AW P c Q n m S := fun w a hm hs => h w a hm.nilK hs
theorem Holds.toKids {w : World} (hm : Holds m w) (hown : m.own = oRow v e τh [(u, x)] :: oRow u eb τk (kd x) :: L) : Holds { m with own := oKids v e τh eb τk kd none [u] [x] :: L } w := by
  refine hm.front (A := [oRow v e τh [(u, x)], oRow u eb τk (kd x)]) (A' := [oKids v e τh eb τk kd none [u] [x]]) hown (by simp [oKids, oBag, bagO, kidB]) (fun Z h o ho => ?_)
  rw [List.mem_singleton.1 ho]
  refine ⟨rfl, h _ (.head _), rfl, fun o ho => ?_⟩
  have ho' : o ∈ [oRow u eb τk (kd x)] := ho
  rw [List.mem_singleton.1 ho']
  exact h _ (.tail _ (.head _))
theorem sl_row {w : World} (hm : Holds m w) {i : Nat} {ks : List κ} (hi : m.own[i]? = some (oRow u eb τk ks)) : ∃ A n c, u = .slice A n c := by
  obtain ⟨cs, h1, _⟩ := own_at hm hi
  obtain ⟨A, c, rfl, _, _⟩ := own_len h1
  exact ⟨A, _, c, rfl⟩
theorem al_buildSliceK {d : Nat} {t : TypeId} {parts : Array (Nat × Operand)} {cs : List Value} (hown : m.own = oRow u eb τk (kd x) :: L) (hb : ∀ w a, Holds m w → Sat n S a → ∃ cells : Array Value, cells.toList = cs ∧ (Instr.buildSlice t 1 (parts.map fun (i, x) => (i, a.eval x))).run P w = .ok (.slice (some ⟨w.heap.size, 0, none⟩) 1 1) (w.alloc (.cells cells e)))
    (hrep : ∀ {Z w}, (∃ A n c, u = .slice A n c) → τh.rep Z w cs (u, x)) (ho : o.op = .buildSlice t 1 parts)
    (h : ∀ v, AL P ops rest Q n { m with own := oKids v e τh eb τk kd none [u] [x] :: L } (put S d v)) (hdd : o.dst = some d := by rfl) (hd : Nat.blt d n = true := by rfl) (hg : wantS ops S o true = true := by rfl) : AL P ops (o :: rest) Q n m S := by
  refine al_buildSlice (τ := τh) (xs := [(u, x)]) (k := 1) (sz := 0) (by_ := 0) (z := undef) rfl (by decide) hb (fun {w} hm => ⟨cs, [], by simp, hrep (sl_row hm (i := 0) (by rw [hown]; rfl)), rfl⟩) ho (fun v => ?_) hdd hd hg
  intro w a hm hs
  exact h v w a (hm.toKids (by show _ :: m.own = _; rw [hown])) hs
theorem bagO_app2 : ∀ {us : List Value} {b : List (Option (List κ))} {us2 : List Value} {b2 : List (Option (List κ))}, us.length = b.length → bagO eb τk (us ++ us2) (b ++ b2) = bagO eb τk us b ++ bagO eb τk us2 b2
  | [], [], _, _, _ => rfl
  | u :: us, some ys :: b, us2, b2, h => by
    show _ :: bagO eb τk (us ++ us2) (b ++ b2) = _ :: (bagO eb τk us b ++ _)
    rw [bagO_app2 (by simpa using h)]
  | u :: us, none :: b, us2, b2, h => bagO_app2 (us := us) (b := b) (by simpa using h)
theorem al_appendK {d : Nat} {t : TypeId} {y z' : Operand} {by_ : Nat} {z : Value} (hb : ((xs.length + xs2.length) * by_ : Nat) ≤ 140737488355328) (hmx : xs.length + xs2.length ≤ 9223372036854775807)
    (hown : m.own = oKids v e τh eb τk kd none us xs :: oKids u e τh eb τk kd none us2 xs2 :: L) (hx : ev S y = some v) (hy : ev S z' = some u)
    (ht : P.underlying t = some (.slice e)) (hin : tyOf P e = some (τh.size, by_, some z)) (hzs : z.cells.size = τh.size) (hsz : Nat.blt 0 τh.size = true) (ho : o.op = .call { callee := .builtin .append, args := #[y, z'], argTypes := #[t, t] })
    (h : ∀ v', AL P ops rest Q n { m with own := oKids v' e τh eb τk kd none (us ++ us2) (xs ++ xs2) :: L } (put S d v')) (hdd : o.dst = some d := by rfl) (hd : Nat.blt d n = true := by rfl) (hg : wantS ops S o true = true := by rfl) : AL P ops (o :: rest) Q n m S := fun w a hm hs => by
  obtain ⟨hl1, h1⟩ := hm.kSplit hown
  have h2 := h1.front (A := [oRow v e τh (us.zip xs), oBag eb τk us (kidB none (xs.map kd)), oKids u e τh eb τk kd none us2 xs2]) (A' := [oKids u e τh eb τk kd none us2 xs2, oRow v e τh (us.zip xs), oBag eb τk us (kidB none (xs.map kd))]) (L := L) rfl
    (by rw [List.flatMap_cons, List.flatMap_cons, List.flatMap_cons, List.flatMap_cons, List.flatMap_cons, List.flatMap_cons, List.flatMap_nil, List.append_nil, List.append_nil]; exact (List.perm_append_comm (l₂ := (oRow v e τh (us.zip xs)).blk ++ (oBag eb τk us (kidB none (xs.map kd))).blk)).trans (by rw [List.append_assoc]))
    (fun Z h o ho => h o (by simp only [List.mem_cons, List.not_mem_nil, or_false] at ho ⊢; rcases ho with h | h | h <;> simp [h]))
  obtain ⟨hl2, h3⟩ := h2.kSplit (L := oRow v e τh (us.zip xs) :: oBag eb τk us (kidB none (xs.map kd)) :: L) rfl
  have hz1 : (us.zip xs).length = xs.length := by rw [List.length_zip, hl1, Nat.min_self]
  have hz2 : (us2.zip xs2).length = xs2.length := by rw [List.length_zip, hl2, Nat.min_self]
  refine al_append (m := { m with own := oRow u e τh (us2.zip xs2) :: oBag eb τk us2 (kidB none (xs2.map kd)) :: oRow v e τh (us.zip xs) :: oBag eb τk us (kidB none (xs.map kd)) :: L }) 2 (τ := τh) (v := v) (u := u) (xs := us.zip xs) (ys := us2.zip xs2) (d := d) (t := t) (by_ := by_) (by rw [hz1, hz2]; exact hb) (by rw [hz1, hz2]; exact hmx) rfl (src_own (i := 2) 0 rfl) hx hy ht hin hzs hsz ho (fun v' w' a' hm' hs' => ?_) hdd hd hg w a h3 hs
  refine h v' w' a' ?_ hs'
  have h4 := hm'.drop1 (x := oRow u e τh (us2.zip xs2)) (L := oBag eb τk us2 (kidB none (xs2.map kd)) :: oRow v' e τh (us.zip xs ++ us2.zip xs2) :: oBag eb τk us (kidB none (xs.map kd)) :: L) rfl
  have hbl : us.length = (kidB none (xs.map kd)).length := by rw [kidB_len, List.length_map, hl1]
  have hbb : oBag eb τk (us ++ us2) (kidB none ((xs ++ xs2).map kd)) = oBag eb τk (us ++ us2) (kidB none (xs.map kd) ++ kidB none (xs2.map kd)) := by
    congr 1; unfold kidB; simp
  have hbk : (oBag eb τk (us ++ us2) (kidB none (xs.map kd) ++ kidB none (xs2.map kd))).blk = (oBag eb τk us (kidB none (xs.map kd))).blk ++ (oBag eb τk us2 (kidB none (xs2.map kd))).blk := by
    show (bagO _ _ _ _).flatMap Own.blk = _
    rw [bagO_app2 hbl, List.flatMap_append]; rfl
  have hzz : (us ++ us2).zip (xs ++ xs2) = us.zip xs ++ us2.zip xs2 := List.zip_append hl1
  exact h4.front (A := [oBag eb τk us2 (kidB none (xs2.map kd)), oRow v' e τh (us.zip xs ++ us2.zip xs2), oBag eb τk us (kidB none (xs.map kd))]) (A' := [oKids v' e τh eb τk kd none (us ++ us2) (xs ++ xs2)]) (L := L) rfl
    (by
      rw [List.flatMap_cons, List.flatMap_cons, List.flatMap_cons, List.flatMap_cons, List.flatMap_nil, List.append_nil, List.append_nil]
      show ((oRow v' e τh ((us ++ us2).zip (xs ++ xs2))).blk ++ (oBag eb τk (us ++ us2) (kidB none ((xs ++ xs2).map kd))).blk).Perm _
      rw [hbb, hbk, hzz, ← List.append_assoc]
      exact List.perm_append_comm)
    (fun Z hA o ho => by
      rw [List.mem_singleton.1 ho]
      refine ⟨by rw [List.length_append, List.length_append, hl1, hl2], by rw [hzz]; exact hA _ (.tail _ (.head _)), ?_⟩
      rw [hbb]
      have p1 := hA _ (.tail _ (.tail _ (.head _)))
      have p2 := hA _ (.head _)
      refine ⟨by rw [List.length_append, List.length_append, hbl, p2.1], fun o ho => ?_⟩
      rw [bagO_app2 hbl] at ho
      rcases List.mem_append.1 ho with ho | ho
      · exact p1.2 o ho
      · exact p2.2 o ho)
theorem repK {τS : Ty α} {Z Z' : Nat → Prop} {w : World} (hsh : ∀ {cs u x}, τh.rep Z w cs (u, x) → (tyList τk).rep Z' w [u] (kd x) → τS.rep Z' w cs x) : ∀ {us : List Value} {xs : List α} {cs : List Value}, us.length = xs.length → RepL τh Z w cs (us.zip xs) → (∀ (j : Nat) (u : Value) (x : α), us[j]? = some u → xs[j]? = some x → (tyList τk).rep Z' w [u] (kd x)) → RepL τS Z' w cs xs
  | [], [], _, _, h, _ => h
  | u :: us, x :: xs, _, hl, h, hk => by
    obtain ⟨c1, c2, rfl, h1, h2⟩ := h
    exact ⟨c1, c2, rfl, hsh h1 (hk 0 u x rfl rfl), repK hsh (by simpa using hl) h2 (fun j u' x' hu hx => hk (j + 1) u' x' (by simpa using hu) (by simpa using hx))⟩
theorem kids_dat {τS : Ty α} (hsz : τh.size = τS.size) (hsh : ∀ {Z Z' w cs u x}, τh.rep Z w cs (u, x) → (tyList τk).rep Z' w [u] (kd x) → τS.rep Z' w cs x) {Z Z' : Nat → Prop} {w : World} (h : (oKids v e τh eb τk kd none us xs).p Z w) (hz : ∀ b, Z b → Z' b) (hb : ∀ b ∈ (oKids v e τh eb τk kd none us xs).blk, Z' b) : (fDat (tyList τS) [v] xs).p Z' w := by
  obtain ⟨hl, ⟨cs, h1, h2⟩, h3⟩ := h
  obtain ⟨A, c, rfl, hc, hm⟩ := own_len h1
  have hzl : (us.zip xs).length = xs.length := by rw [List.length_zip, hl, Nat.min_self]
  refine ⟨A, _, c, rfl, hzl, hc, hm, ?_⟩
  rcases h1.2 with ⟨he, hn⟩ | ⟨g, cap, cur, he, _⟩
  · exact .inl hn
  · right
    cases he
    refine ⟨_, cs, rfl, ⟨hb g (List.mem_append_left _ (by simp [oRow, Value.ownBlock])), h1.cells rfl⟩, ?_⟩
    refine repK (τh := τh) (τk := τk) (kd := kd) (Z := Z) (fun {cs u x} q1 q2 => hsh (Z := Z) q1 q2) hl h2 (fun j u x hu hx => ?_)
    have hbx : (kidB none (xs.map kd))[j]? = some (some (kd x)) := by unfold kidB; simp [hx]
    have hmem := bagO_mem (e := eb) (τ := τk) hu hbx
    exact row_dat (h3.2 _ hmem) hz (fun b hb' => hb b (List.mem_append_right _ (List.mem_flatMap.2 ⟨_, hmem, hb'⟩)))
theorem pre_kids {τS : Ty α} {iv : List Nat} {l : List Fact} (hsz : τh.size = τS.size) (hsh : ∀ {Z Z' w cs u x}, τh.rep Z w cs (u, x) → (tyList τk).rep Z' w [u] (kd x) → τS.rep Z' w cs x) (i : Nat) (hi : m.own[i]? = some (oKids v e τh eb τk kd none us xs)) (hiv : iv.contains i = true) (h : PreOk m iv l) : PreOk m iv (fDat (tyList τS) [v] xs :: l) := fun w Z hm hz hv x hx => by
  rcases List.mem_cons.1 hx with rfl | hx
  · exact kids_dat hsz hsh (own_at hm hi) hz (fun b hb => hv i (by simpa using hiv) _ hi b hb)
  · exact h w Z hm hz hv x hx
end
end
end Go.Proofs.YtiioclkiapbjnaaGreatDoor.En
namespace Go.Proofs.YtiioclkiapbjnaaGreatDoor.En
open Go.RowKit Go.Maps Go.Proofs.YtiioclkiapbjnaaGreatDoor
set_option linter.unusedVariables false
set_option linter.unusedSimpArgs false
section
variable {κ α : Type}
def hget [DecidableEq κ] (l : List (κ × Option (List α))) (k : κ) : Option (List α) := match gget l k with | none => some [] | some x => x
def hold [DecidableEq κ] (l : List (κ × Option (List α))) (k : κ) : List (κ × Option (List α)) := match gget l k with | none => l | some _ => gset l k none
def allS : List (κ × Option (List α)) → Option (List (κ × List α))
  | [] => some []
  | (k, some x) :: l => (allS l).bind fun l' => some ((k, x) :: l')
  | (_, none) :: _ => none
def oMapR (P : Program) (kt : TypeId) (g : Nat) (ek : κ → Value) (e : TypeId) (τ : Ty α) (us : List Value) (l : List (κ × Option (List α))) : Own where
  blk := (oMapK P kt g ek (fun v : Value => v) ((l.map Prod.fst).zip us)).blk ++ (oBag e τ us (l.map Prod.snd)).blk
  p Z w := us.length = l.length ∧ (oMapK P kt g ek (fun v : Value => v) ((l.map Prod.fst).zip us)).p Z w ∧ (oBag e τ us (l.map Prod.snd)).p Z w
  keep hz h := ⟨h.1, (oMapK P kt g ek (fun v : Value => v) ((l.map Prod.fst).zip us)).keep (fun b hb => hz b (hb.imp id fun hb => List.mem_append_left _ hb)) h.2.1, (oBag e τ us (l.map Prod.snd)).keep (fun b hb => hz b (hb.imp id fun hb => List.mem_append_right _ hb)) h.2.2⟩
  mono hz h := ⟨h.1, (oMapK P kt g ek (fun v : Value => v) ((l.map Prod.fst).zip us)).mono hz h.2.1, (oBag e τ us (l.map Prod.snd)).mono hz h.2.2⟩
  lt h := by
    intro b hb
    rcases List.mem_append.1 hb with hb | hb
    · exact (oMapK P kt g ek (fun v : Value => v) ((l.map Prod.fst).zip us)).lt h.2.1 b hb
    · exact (oBag e τ us (l.map Prod.snd)).lt h.2.2 b hb
def oMapD (P : Program) (kt : TypeId) (g : Nat) (ek : κ → Value) (τ : Ty α) (l : List (κ × List α)) : Own where
  blk := [g]
  p Z w := ∃ us : List Value, us.length = l.length ∧ (oMapK P kt g ek (fun v : Value => v) ((l.map Prod.fst).zip us)).p Z w ∧ ∀ (j : Nat) (u : Value) (x : κ × List α), us[j]? = some u → l[j]? = some x → (tyList τ).rep Z w [u] x.2
  keep {Z w w'} hz h := by
    obtain ⟨us, h1, h2, h3⟩ := h
    exact ⟨us, h1, (oMapK P kt g ek (fun v : Value => v) ((l.map Prod.fst).zip us)).keep (Z := Z) hz h2, fun j u x hu hx => (tyList τ).keep (fun b hb => hz b (.inl hb)) (h3 j u x hu hx)⟩
  mono hz h := by
    obtain ⟨us, h1, h2, h3⟩ := h
    exact ⟨us, h1, (oMapK P kt g ek (fun v : Value => v) ((l.map Prod.fst).zip us)).mono hz h2, fun j u x hu hx => (tyList τ).mono hz (h3 j u x hu hx)⟩
  lt h := by
    obtain ⟨us, h1, h2, h3⟩ := h
    exact (oMapK P kt g ek (fun v : Value => v) ((l.map Prod.fst).zip us)).lt h2
theorem gget_zip [DecidableEq κ] {ν : Type} (k : κ) : ∀ {l : List (κ × ν)} {us : List Value}, us.length = l.length →
    (gget l k = none ∧ gget ((l.map Prod.fst).zip us) k = none ∧ (∀ y, gset l k y = l ++ [(k, y)]) ∧ ∀ v, gset ((l.map Prod.fst).zip us) k v = (l.map Prod.fst ++ [k]).zip (us ++ [v])) ∨
    ∃ (j : Nat) (x : ν) (u : Value), gget l k = some x ∧ l[j]? = some (k, x) ∧ us[j]? = some u ∧ gget ((l.map Prod.fst).zip us) k = some u ∧ (∀ y, gset l k y = l.set j (k, y)) ∧ ∀ v, gset ((l.map Prod.fst).zip us) k v = (l.map Prod.fst).zip (us.set j v)
  | [], [], _ => .inl ⟨rfl, rfl, fun y => rfl, fun v => rfl⟩
  | x :: l, u :: us, h => by
    by_cases hk : x.1 = k
    · refine .inr ⟨0, x.2, u, ?_, ?_, rfl, ?_, fun y => ?_, fun v => ?_⟩
      · unfold gget; rw [if_pos hk]
      · rw [← hk]; rfl
      · show gget ((x.1, u) :: _) k = _; unfold gget; rw [if_pos hk]
      · unfold gset; rw [if_pos hk]; rfl
      · show gset ((x.1, u) :: _) k v = _; unfold gset; rw [if_pos hk, ← hk]; rfl
    · have hl : us.length = l.length := by simpa using h
      have e1 : gget (x :: l) k = gget l k := by conv => lhs; unfold gget; rw [if_neg hk]
      have e2 : gget (((x :: l).map Prod.fst).zip (u :: us)) k = gget ((l.map Prod.fst).zip us) k := by
        show gget ((x.1, u) :: _) k = _
        conv => lhs; unfold gget; rw [if_neg hk]
        rfl
      have e3 : ∀ y, gset (x :: l) k y = x :: gset l k y := fun y => by conv => lhs; unfold gset; rw [if_neg hk]
      have e4 : ∀ v, gset (((x :: l).map Prod.fst).zip (u :: us)) k v = (x.1, u) :: gset ((l.map Prod.fst).zip us) k v := fun v => by
        show gset ((x.1, u) :: _) k v = _
        conv => lhs; unfold gset; rw [if_neg hk]
        rfl
      rcases gget_zip k (l := l) (us := us) hl with ⟨h1, h2, h3, h4⟩ | ⟨j, y, u', h1, h2, h3, h4, h5, h6⟩
      · exact .inl ⟨by rw [e1, h1], by rw [e2, h2], fun y => by rw [e3, h3]; rfl, fun v => by rw [e4, h4]; rfl⟩
      · exact .inr ⟨j + 1, y, u', by rw [e1, h1], h2, h3, by rw [e2, h4], fun z => by rw [e3, h5]; rfl, fun v => by rw [e4, h6]; rfl⟩
theorem bagO_put {e : TypeId} {τ : Ty α} {v : Value} {ys : List α} : ∀ {us : List Value} {b : List (Option (List α))} {j : Nat}, us.length = b.length → j < us.length → (bagO e τ (us.set j v) (b.set j (some ys))).Perm (oRow v e τ ys :: bagO e τ us (b.set j none))
  | [], _, _, _, h => by simp at h
  | _ :: _, [], _, h, _ => by simp at h
  | u :: us, x :: b, 0, _, _ => by
    show (oRow v e τ ys :: bagO e τ us b).Perm (oRow v e τ ys :: bagO e τ (u :: us) (none :: b))
    exact List.Perm.refl _
  | u :: us, some zs :: b, j + 1, h, hj => by
    show (oRow u e τ zs :: bagO e τ (us.set j v) (b.set j (some ys))).Perm (oRow v e τ ys :: oRow u e τ zs :: bagO e τ us (b.set j none))
    exact ((bagO_put (by simpa using h) (by simpa using hj)).cons _).trans (List.Perm.swap _ _ _)
  | u :: us, none :: b, j + 1, h, hj => bagO_put (us := us) (b := b) (j := j) (by simpa using h) (by simpa using hj)
variable {P : Program} {Q : Exit → Act → World → Prop} {n : Nat} {m : Mem} {S : Sl} {ops : Array Oper} {rest : List Oper} {o : Oper} {L : List Own} {t kt vt e : TypeId} {g : Nat} {ek : κ → Value} {τ : Ty α} {us : List Value} {l : List (κ × Option (List α))}
theorem bag_hole {Z : Nat → Prop} {w : World} {b : List (Option (List α))} {j : Nat} (h : (oBag e τ us b).p Z w) : (oBag e τ us (b.set j none)).p Z w := by
  refine ⟨by rw [List.length_set]; exact h.1, ?_⟩
  intro o ho
  refine h.2 o ?_
  clear h
  induction us generalizing b j with
  | nil => cases b <;> simp [bagO] at ho
  | cons u us ih =>
    cases b with
    | nil => simp [bagO] at ho
    | cons x b =>
      cases j with
      | zero =>
        have ho' : o ∈ bagO e τ us b := ho
        cases x with
        | none => exact ho'
        | some xs => exact .tail _ ho'
      | succ j =>
        cases x with
        | none => exact ih (b := b) (j := j) ho
        | some xs =>
          rcases List.mem_cons.1 (show o ∈ oRow u e τ xs :: bagO e τ us (b.set j none) from ho) with rfl | ho
          · exact .head _
          · exact .tail _ (ih ho)
theorem bag_holeBlk {b : List (Option (List α))} {j : Nat} : ((oBag e τ us (b.set j none)).blk).Sublist (oBag e τ us b).blk := by
  show ((bagO e τ us (b.set j none)).flatMap Own.blk).Sublist ((bagO e τ us b).flatMap Own.blk)
  induction us generalizing b j with
  | nil => cases b <;> simp [bagO]
  | cons u us ih =>
    cases b with
    | nil => simp [bagO]
    | cons x b =>
      cases j with
      | zero =>
        cases x with
        | none => exact List.Sublist.refl _
        | some xs =>
          show ((bagO e τ us b).flatMap Own.blk).Sublist ((oRow u e τ xs).blk ++ _)
          exact List.sublist_append_right _ _
      | succ j =>
        cases x with
        | none => exact ih (b := b) (j := j)
        | some xs =>
          show ((oRow u e τ xs).blk ++ _).Sublist ((oRow u e τ xs).blk ++ _)
          exact List.Sublist.append (List.Sublist.refl _) ih
theorem Holds.frontS {w : World} (hm : Holds m w) {A A' : List Own} (hown : m.own = A ++ L) (hb : (A'.flatMap Own.blk).Sublist (A.flatMap Own.blk)) (hp : ∀ Z : Nat → Prop, (∀ o ∈ A, o.p Z w) → ∀ o ∈ A', o.p Z w) : Holds { m with own := A' ++ L } w := by
  have hsub : ∀ b, b ∈ (A' ++ L).flatMap Own.blk → b ∈ m.own.flatMap Own.blk := fun b hb' => by
    rw [hown, List.flatMap_append]
    rw [List.flatMap_append] at hb'
    exact (hb.append (List.Sublist.refl (L.flatMap Own.blk))).subset hb'
  have hz : ∀ b, m.frz w b → Mem.frz { m with own := A' ++ L } w b := fun b hb => ⟨hb.1, fun hx => hb.2.1 (hsub b hx), hb.2.2⟩
  refine ⟨hm.bel, hm.B, ?_, fun b hb => hm.lo b (hsub b hb), hm.zx, fun o ho => ?_, fun f hf => f.mono hz (hm.fz f hf)⟩
  · show ((A' ++ L).flatMap Own.blk).Nodup
    have h := hm.nd
    unfold Mem.blks at h
    rw [hown, List.flatMap_append] at h
    rw [List.flatMap_append]
    exact (hb.append (List.Sublist.refl (L.flatMap Own.blk))).nodup h
  · rcases List.mem_append.1 ho with ho | ho
    · exact o.mono hz (hp _ (fun o ho => hm.own o (by rw [hown]; exact List.mem_append_left _ ho)) o ho)
    · exact o.mono hz (hm.own o (by rw [hown]; exact List.mem_append_right _ ho))
theorem al_makeMapR {d : Nat} (kt : TypeId) (ek : κ → Value) (e : TypeId) (τ : Ty α) (ho : o.op = .makeMap t none)
    (h : ∀ g, AL P ops rest Q n (m.push (oMapR P kt g ek e τ [] [])) (put S d (.map (some g)))) (hdd : o.dst = some d := by rfl) (hd : Nat.blt d n = true := by rfl) (hg : wantS ops S o true = true := by rfl) : AL P ops (o :: rest) Q n m S :=
  al_makeMapK kt ek (fun v : Value => v) ho (fun g w a hm hs => h g w a (hm.front (m := m.push (oMapK P kt g ek (fun v : Value => v) [])) (A := [oMapK P kt g ek (fun v : Value => v) []]) (A' := [oMapR P kt g ek e τ [] []]) (L := m.own) rfl (by simp [oMapR, oBag, bagO]) (fun Z hA o ho => by
    rw [List.mem_singleton.1 ho]
    exact ⟨rfl, hA _ (.head _), rfl, by simp [bagO]⟩)) hs) hdd hd hg
theorem Holds.rSplit {w : World} (hm : Holds m w) (hown : m.own = oMapR P kt g ek e τ us l :: L) : us.length = l.length ∧ Holds { m with own := oMapK P kt g ek (fun v : Value => v) ((l.map Prod.fst).zip us) :: oBag e τ us (l.map Prod.snd) :: L } w := by
  have h0 : m.own[0]? = some (oMapR P kt g ek e τ us l) := by rw [hown]; rfl
  have hp : (oMapR P kt g ek e τ us l).p (m.frz w) w := own_at hm h0
  refine ⟨hp.1, hm.front (A := [oMapR P kt g ek e τ us l]) (A' := [oMapK P kt g ek (fun v : Value => v) ((l.map Prod.fst).zip us), oBag e τ us (l.map Prod.snd)]) hown (by simp [oMapR]) (fun Z h o ho => ?_)⟩
  have h1 := h _ (.head _)
  rcases List.mem_cons.1 ho with rfl | ho
  · exact h1.2.1
  · rw [List.mem_singleton.1 ho]; exact h1.2.2
theorem al_lookTake [DecidableEq κ] {d : Nat} {x y : Operand} {k : κ} {xs : List α} (K : Keyed P kt) (hinj : ∀ a b, ek a = ek b → a = b) (hkey : ∃ t, keyOf P kt (ek k) = some t) (hxs : hget l k = some xs) (hown : m.own = oMapR P kt g ek e τ us l :: L) (hx : ev S x = some (.map (some g))) (hy : ev S y = some (ek k)) (ht : P.underlying t = some (.map kt vt)) (hv : zeroOf P vt = some (.slice none 0 0)) (ho : o.op = .lookup t x y false)
    (h : ∀ v, AL P ops rest Q n { m with own := oRow v e τ xs :: oMapR P kt g ek e τ us (hold l k) :: L } (put S d v)) (hdd : o.dst = some d := by rfl) (hd : Nat.blt d n = true := by rfl) (hg : wantS ops S o true = true := by rfl) : AL P ops (o :: rest) Q n m S :=
  al_step hg fun w a hm hs K' hK => by
    obtain ⟨hl, h1⟩ := hm.rSplit hown
    have hr := run_lookK (vt := vt) (t := t) (z := (Value.slice none 0 0)) (m := { m with own := oMapK P kt g ek (fun v : Value => v) ((l.map Prod.fst).zip us) :: oBag e τ us (l.map Prod.snd) :: L }) 0 K hinj hkey rfl ht hv false h1
    have hex : (execOp a.eval o).run P w = .ok (.value ((gget ((l.map Prod.fst).zip us) k).getD (.slice none 0 0))) w := by
      unfold execOp
      simp only [ho, hs.ev hx, hs.ev hy]
      simp [hr]
    refine step_val (w' := w) hex (hK _ _ (h _ w _ ?_ (hs.put' hdd hd _)))
    rcases gget_zip k (l := l) hl with ⟨q1, q2, _, _⟩ | ⟨j, x', u, q1, q2, q3, q4, q5, _⟩
    · have e1 : xs = [] := by unfold hget at hxs; rw [q1] at hxs; exact (Option.some.inj hxs).symm
      have e2 : hold l k = l := by unfold hold; rw [q1]
      subst e1
      rw [e2, q2]
      have h2 := hm.push (w' := w) (o := oRow (.slice none 0 0) e τ ([] : List α)) (Below.refl _ _) (by simp [oRow, Value.ownBlock]) (by simp [oRow, Value.ownBlock]) (fun Z _ => nil_own e τ Z w)
      have e3 : m.push (oRow (.slice none 0 0) e τ ([] : List α)) = { m with own := oRow (.slice none 0 0) e τ ([] : List α) :: oMapR P kt g ek e τ us l :: L } := by unfold Mem.push; rw [hown]
      rw [e3] at h2
      exact h2
    · have e1 : x' = some xs := by unfold hget at hxs; rw [q1] at hxs; exact hxs
      subst e1
      have e2 : hold l k = l.set j (k, none) := by unfold hold; rw [q1]; exact q5 none
      rw [e2, q4]
      have hbj : (l.map Prod.snd)[j]? = some (some xs) := by rw [List.getElem?_map, q2]; rfl
      have e5 : (l.set j (k, (none : Option (List α)))).map Prod.snd = (l.map Prod.snd).set j none := List.map_set
      have e6 : (l.set j (k, (none : Option (List α)))).map Prod.fst = l.map Prod.fst := by
        rw [List.map_set]
        apply List.ext_getElem?
        intro i
        rw [List.getElem?_set]
        split
        · rename_i e'
          subst e'
          have hlt := (List.getElem?_eq_some_iff.1 q2).1
          rw [if_pos (by simpa using hlt), List.getElem?_map, q2]; rfl
        · rfl
      have hp := bagO_take (e := e) (τ := τ) q3 hbj
      refine h1.front (A := [oMapK P kt g ek (fun v : Value => v) ((l.map Prod.fst).zip us), oBag e τ us (l.map Prod.snd)]) (A' := [oRow u e τ xs, oMapR P kt g ek e τ us (l.set j (k, none))]) rfl ?_ (fun Z hA o ho => ?_)
      · have h3 := List.Perm.flatMap_right Own.blk hp
        rw [List.flatMap_cons] at h3
        have hM : (oMapR P kt g ek e τ us (l.set j (k, none))).blk = (oMapK P kt g ek (fun v : Value => v) ((l.map Prod.fst).zip us)).blk ++ ((bagO e τ us ((l.map Prod.snd).set j none)).flatMap Own.blk) := by
          show (oMapK _ _ _ _ _ (((l.set j (k, (none : Option (List α)))).map Prod.fst).zip us)).blk ++ (oBag e τ us ((l.set j (k, (none : Option (List α)))).map Prod.snd)).blk = _
          rw [e5, e6]; rfl
        rw [List.flatMap_cons, List.flatMap_cons, List.flatMap_cons, List.flatMap_cons, List.flatMap_nil, List.append_nil, List.append_nil, hM]
        have h4 := h3.symm.append_left (oMapK P kt g ek (fun v : Value => v) ((l.map Prod.fst).zip us)).blk
        refine List.Perm.trans ?_ h4
        rw [← List.append_assoc, ← List.append_assoc]
        exact List.perm_append_comm.append_right _
      · have hb := hA _ (.tail _ (.head _))
        rcases List.mem_cons.1 ho with rfl | ho
        · exact hb.2 _ (bagO_mem q3 hbj)
        · rw [List.mem_singleton.1 ho]
          refine ⟨by rw [List.length_set]; exact hl, ?_, ?_⟩
          · rw [e6]; exact hA _ (.head _)
          · rw [e5]; exact bag_hole hb
theorem al_mapPutR [DecidableEq κ] {x y z : Operand} {k : κ} {v : Value} {ys : List α} (K : Keyed P kt) (hinj : ∀ a b, ek a = ek b → a = b) (hkey : ∃ t, keyOf P kt (ek k) = some t) (hown : m.own = oRow v e τ ys :: oMapR P kt g ek e τ us l :: L) (hx : ev S x = some (.map (some g))) (hy : ev S y = some (ek k)) (hz : ev S z = some v) (ht : P.underlying t = some (.map kt vt)) (ho : o.op = .mapUpdate t x y z)
    (h : ∀ us', AL P ops rest Q n { m with own := oMapR P kt g ek e τ us' (gset l k (some ys)) :: L } S) (hdst : o.dst = none := by rfl) (hg : wantS ops S o true = true := by rfl) : AL P ops (o :: rest) Q n m S := fun w a hm hs => by
  have hm1 := hm.front (A := [oRow v e τ ys, oMapR P kt g ek e τ us l]) (A' := [oMapR P kt g ek e τ us l, oRow v e τ ys]) (L := L) hown (by
    rw [List.flatMap_cons, List.flatMap_cons, List.flatMap_cons, List.flatMap_cons, List.flatMap_nil, List.append_nil, List.append_nil]; exact List.perm_append_comm) (fun Z hA o ho => hA o (by simp only [List.mem_cons, List.not_mem_nil, or_false] at ho ⊢; exact ho.symm))
  obtain ⟨hl, h1⟩ := hm1.rSplit (L := oRow v e τ ys :: L) rfl
  refine al_mapSetK (m := { m with own := oMapK P kt g ek (fun v : Value => v) ((l.map Prod.fst).zip us) :: oBag e τ us (l.map Prod.snd) :: oRow v e τ ys :: L }) (ew := fun v : Value => v) (v := v) (k := k) (vt := vt) (t := t) 0 K hinj hkey rfl hx hy hz ht ho (fun w' a' hm' hs' => ?_) hdst hg w a h1 hs
  rcases gget_zip k (l := l) hl with ⟨q1, q2, q3, q4⟩ | ⟨j, x', u, q1, q2, q3, q4, q5, q6⟩
  · refine h (us ++ [v]) w' a' ?_ hs'
    have hbl : us.length = (l.map Prod.snd).length := by rw [List.length_map]; exact hl
    have hbb := bagO_app (e := e) (τ := τ) (v := v) (xs := ys) hbl
    have em : ((l ++ [(k, some ys)]).map Prod.snd) = l.map Prod.snd ++ [some ys] := by simp
    have ef : l.map Prod.fst ++ [k] = (l ++ [(k, some ys)]).map Prod.fst := by simp
    rw [q3]
    refine hm'.front (A := [oMapK P kt g ek (fun v : Value => v) (gset ((l.map Prod.fst).zip us) k v), oBag e τ us (l.map Prod.snd), oRow v e τ ys]) (A' := [oMapR P kt g ek e τ (us ++ [v]) (l ++ [(k, some ys)])]) (L := L) rfl ?_ (fun Z hA o ho => ?_)
    · rw [List.flatMap_cons, List.flatMap_cons, List.flatMap_cons, List.flatMap_cons, List.flatMap_nil, List.append_nil, List.append_nil]
      show ((oMapK P kt g ek (fun v : Value => v) (((l ++ [(k, some ys)]).map Prod.fst).zip (us ++ [v]))).blk ++ (bagO e τ (us ++ [v]) ((l ++ [(k, some ys)]).map Prod.snd)).flatMap Own.blk).Perm _
      rw [em, hbb, List.flatMap_append, List.flatMap_cons, List.flatMap_nil, List.append_nil]
      exact List.Perm.refl _
    · rw [List.mem_singleton.1 ho]
      have hb := hA _ (.tail _ (.head _))
      refine ⟨by rw [List.length_append, List.length_append, hl]; rfl, ?_, ?_⟩
      · have hk := hA _ (.head _)
        rw [q4 v, ef] at hk
        exact hk
      · rw [em]
        refine ⟨by rw [List.length_append, List.length_append, hbl]; rfl, fun o ho => ?_⟩
        rw [hbb] at ho
        rcases List.mem_append.1 ho with ho | ho
        · exact hb.2 o ho
        · rw [List.mem_singleton.1 ho]; exact hA _ (.tail _ (.tail _ (.head _)))
  · refine h (us.set j v) w' a' ?_ hs'
    have hlt : j < us.length := (List.getElem?_eq_some_iff.1 q3).1
    have hbl : us.length = (l.map Prod.snd).length := by rw [List.length_map]; exact hl
    have hbp := bagO_put (e := e) (τ := τ) (v := v) (ys := ys) hbl hlt
    have em : ((l.set j (k, some ys)).map Prod.snd) = (l.map Prod.snd).set j (some ys) := List.map_set
    have ef : ((l.set j (k, some ys)).map Prod.fst) = l.map Prod.fst := by
      rw [List.map_set]
      apply List.ext_getElem?
      intro i
      rw [List.getElem?_set]
      split
      · rename_i e'
        subst e'
        rw [if_pos (by rw [List.length_map, ← hl]; exact hlt), List.getElem?_map, q2]; rfl
      · rfl
    rw [q5]
    have hm2 := hm'.frontS (A := [oMapK P kt g ek (fun v : Value => v) (gset ((l.map Prod.fst).zip us) k v), oBag e τ us (l.map Prod.snd), oRow v e τ ys]) (A' := [oMapK P kt g ek (fun v : Value => v) (gset ((l.map Prod.fst).zip us) k v), oBag e τ us ((l.map Prod.snd).set j none), oRow v e τ ys]) (L := L) rfl (by
      rw [List.flatMap_cons, List.flatMap_cons, List.flatMap_cons, List.flatMap_cons, List.flatMap_cons, List.flatMap_cons]
      exact (List.Sublist.refl _).append (bag_holeBlk.append (List.Sublist.refl _))) (fun Z hA o ho => by
      simp only [List.mem_cons, List.not_mem_nil, or_false] at ho
      rcases ho with rfl | rfl | rfl
      · exact hA _ (.head _)
      · exact bag_hole (hA _ (.tail _ (.head _)))
      · exact hA _ (.tail _ (.tail _ (.head _))))
    refine hm2.front (A := [oMapK P kt g ek (fun v : Value => v) (gset ((l.map Prod.fst).zip us) k v), oBag e τ us ((l.map Prod.snd).set j none), oRow v e τ ys]) (A' := [oMapR P kt g ek e τ (us.set j v) (l.set j (k, some ys))]) (L := L) rfl ?_ (fun Z hA o ho => ?_)
    · rw [List.flatMap_cons, List.flatMap_cons, List.flatMap_cons, List.flatMap_cons, List.flatMap_nil, List.append_nil, List.append_nil]
      show ((oMapK P kt g ek (fun v : Value => v) (((l.set j (k, some ys)).map Prod.fst).zip (us.set j v))).blk ++ (bagO e τ (us.set j v) ((l.set j (k, some ys)).map Prod.snd)).flatMap Own.blk).Perm _
      rw [em]
      refine List.Perm.append_left _ ?_
      have h3 := List.Perm.flatMap_right Own.blk hbp
      rw [List.flatMap_cons] at h3
      exact h3.trans List.perm_append_comm
    · rw [List.mem_singleton.1 ho]
      have hb := hA _ (.tail _ (.head _))
      refine ⟨by rw [List.length_set, List.length_set]; exact hl, ?_, ?_⟩
      · have hk := hA _ (.head _)
        rw [q6 v] at hk
        rw [ef]; exact hk
      · rw [em]
        refine ⟨by rw [List.length_set, List.length_set]; exact hbl, fun o ho => ?_⟩
        rcases List.mem_cons.1 (hbp.mem_iff.1 ho) with rfl | ho
        · exact hA _ (.tail _ (.tail _ (.head _)))
        · exact hb.2 o ho
theorem allS_len : ∀ {l : List (κ × Option (List α))} {l2 : List (κ × List α)}, allS l = some l2 → l.length = l2.length ∧ l.map Prod.fst = l2.map Prod.fst ∧ ∀ (j : Nat) (x : κ × List α), l2[j]? = some x → l[j]? = some (x.1, some x.2)
  | [], l2, h => by obtain rfl := Option.some.inj h; exact ⟨rfl, rfl, by simp⟩
  | (k, some x) :: l, l2, h => by
    unfold allS at h
    obtain ⟨l', h1, h2⟩ := Option.bind_eq_some_iff.1 h
    obtain rfl := Option.some.inj h2
    obtain ⟨a1, a2, a3⟩ := allS_len h1
    refine ⟨by simp [a1], by simp [a2], fun j y hy => ?_⟩
    cases j with
    | zero => simp at hy; subst hy; rfl
    | succ j => exact a3 j y hy
  | (k, none) :: l, l2, h => by cases h
theorem Holds.freezeR {w : World} {l2 : List (κ × List α)} (hm : Holds m w) (hl2 : allS l = some l2) (hown : m.own = oMapR P kt g ek e τ us l :: L) (hX : m.X = []) : Holds { m with own := oMapD P kt g ek τ l2 :: L } w := by
  obtain ⟨hl, h1⟩ := hm.rSplit hown
  obtain ⟨a1, a2, a3⟩ := allS_len hl2
  have hbag : (oBag e τ us (l.map Prod.snd)).p (Mem.frz { m with own := oMapK P kt g ek (fun v : Value => v) ((l.map Prod.fst).zip us) :: oBag e τ us (l.map Prod.snd) :: L } w) w := h1.own _ (.tail _ (.head _))
  have hnd := h1.nd
  unfold Mem.blks at hnd
  rw [List.flatMap_cons, List.flatMap_cons, List.nodup_append, List.nodup_append] at hnd
  have hsub : ∀ b, b ∈ ((oMapD P kt g ek τ l2 :: L).flatMap Own.blk) → b ∈ (oMapK P kt g ek (fun v : Value => v) ((l.map Prod.fst).zip us)).blk ∨ b ∈ L.flatMap Own.blk := fun b hb => by
    rw [List.flatMap_cons] at hb
    exact List.mem_append.1 hb
  have hz : ∀ b, Mem.frz { m with own := oMapK P kt g ek (fun v : Value => v) ((l.map Prod.fst).zip us) :: oBag e τ us (l.map Prod.snd) :: L } w b → Mem.frz { m with own := oMapD P kt g ek τ l2 :: L } w b := fun b hb => ⟨hb.1, fun hx => hb.2.1 (by
    show b ∈ List.flatMap Own.blk _
    rw [List.flatMap_cons, List.flatMap_cons]
    rcases hsub b hx with h | h
    · exact List.mem_append_left _ h
    · exact List.mem_append_right _ (List.mem_append_right _ h)), hb.2.2⟩
  have hbz : ∀ b ∈ (oBag e τ us (l.map Prod.snd)).blk, Mem.frz { m with own := oMapD P kt g ek τ l2 :: L } w b := fun b hb => by
    refine ⟨(oBag e τ us (l.map Prod.snd)).lt hbag b hb, fun hx => ?_, fun hlt => ?_⟩
    · rcases hsub b hx with h | h
      · exact hnd.2.2 b h b (List.mem_append_left _ hb) rfl
      · exact hnd.2.1.2.2 b hb b h rfl
    · rcases h1.lo b (List.mem_flatMap.2 ⟨oBag e τ us (l.map Prod.snd), .tail _ (.head _), hb⟩) with h | h
      · have hlt' : b < m.B := hlt
        have h' : m.B ≤ b := h
        omega
      · have h' : b ∈ m.X := h
        rw [hX] at h'; simp at h'
  refine ⟨h1.bel, h1.B, ?_, fun b hb => ?_, h1.zx, fun o ho => ?_, fun f hf => f.mono hz (h1.fz f hf)⟩
  · show ((oMapD P kt g ek τ l2 :: L).flatMap Own.blk).Nodup
    rw [List.flatMap_cons, List.nodup_append]
    exact ⟨hnd.1, hnd.2.1.2.1, fun b hb c hc => hnd.2.2 b hb c (List.mem_append_right _ hc)⟩
  · refine h1.lo b ?_
    show b ∈ List.flatMap Own.blk _
    rw [List.flatMap_cons, List.flatMap_cons]
    rcases hsub b hb with h | h
    · exact List.mem_append_left _ h
    · exact List.mem_append_right _ (List.mem_append_right _ h)
  · rcases List.mem_cons.1 ho with rfl | ho
    · refine ⟨us, by rw [hl, a1], ?_, fun j u x hu hx => ?_⟩
      · rw [← a2]
        exact (oMapK P kt g ek (fun v : Value => v) ((l.map Prod.fst).zip us)).mono hz (h1.own _ (.head _))
      · have hj := a3 j x hx
        have hbx : (l.map Prod.snd)[j]? = some (some x.2) := by rw [List.getElem?_map, hj]; rfl
        have hmem := bagO_mem (e := e) (τ := τ) hu hbx
        exact row_dat (hbag.2 _ hmem) hz (fun b hb => hbz b (List.mem_flatMap.2 ⟨_, hmem, hb⟩))
    · exact o.mono hz (h1.own o (.tail _ (.tail _ ho)))
theorem al_freezeR {ll : List Oper} {l2 : List (κ × List α)} (hl2 : allS l = some l2) (hown : m.own = oMapR P kt g ek e τ us l :: L) (hX : m.X = []) (h : AL P ops ll Q n { m with own := oMapD P kt g ek τ l2 :: L } S) : AL P ops ll Q n m S := fun w a hm hs => h w a (hm.freezeR hl2 hown hX) hs
theorem of_lookD [DecidableEq κ] {l2 : List (κ × List α)} {x y : Operand} {k : κ} (i : Nat) (K : Keyed P kt) (hinj : ∀ a b, ek a = ek b → a = b) (hkey : ∃ t, keyOf P kt (ek k) = some t) (hi : m.own[i]? = some (oMapD P kt g ek τ l2)) (hx : ev S x = some (.map (some g))) (hy : ev S y = some (ek k)) (ht : P.underlying t = some (.map kt vt)) (hv : zeroOf P vt = some (.slice none 0 0)) (ho : o.op = .lookup t x y false) : OpF P o n m S (fun u => fDat (tyList τ) [u] ((gget l2 k).getD [])) := fun w a hm hs => by
  obtain ⟨us, hl, hmk, hd⟩ := own_at hm hi
  have hm2 : Holds (memIn w (m.frz w) [] [oMapK P kt g ek (fun v : Value => v) ((l2.map Prod.fst).zip us)]) w := by
    have hlt : g < w.heap.size := by
      obtain ⟨es, c, hh, _⟩ := hmk
      exact (Array.getElem?_eq_some_iff.1 hh).1
    refine ⟨Bel.refl _ _ _, rfl, by simp [memIn, Mem.blks, oMapK], fun b hb => .inr hb, fun b hb => ?_, fun o ho => ?_, fun f hf => by cases hf⟩
    · have hb' : b = g := by simpa [memIn, oMapK] using hb
      subst hb'
      exact ⟨hlt, fun hz => hz.2.1 (List.mem_flatMap.2 ⟨_, List.mem_of_getElem? hi, by simp [oMapD]⟩)⟩
    · rw [List.mem_singleton.1 ho]; exact hmk
  have hr := run_lookK (vt := vt) (t := t) (z := (Value.slice none 0 0)) 0 K hinj hkey rfl ht hv false hm2
  refine ⟨(gget ((l2.map Prod.fst).zip us) k).getD (.slice none 0 0), ?_, ?_⟩
  · unfold execOp
    simp only [ho, hs.ev hx, hs.ev hy]
    simp [hr]
  · rcases gget_zip k (l := l2) hl with ⟨q1, q2, _, _⟩ | ⟨j, x', u, q1, q2, q3, q4, _, _⟩
    · rw [q1, q2]; exact nil_dat τ _ _
    · rw [q1, q4]; exact hd j u (k, x') q3 q2
theorem al_lookD [DecidableEq κ] {d : Nat} {l2 : List (κ × List α)} {x y : Operand} {k : κ} (i : Nat) (K : Keyed P kt) (hinj : ∀ a b, ek a = ek b → a = b) (hkey : ∃ t, keyOf P kt (ek k) = some t) (hi : m.own[i]? = some (oMapD P kt g ek τ l2)) (hx : ev S x = some (.map (some g))) (hy : ev S y = some (ek k)) (ht : P.underlying t = some (.map kt vt)) (hv : zeroOf P vt = some (.slice none 0 0)) (ho : o.op = .lookup t x y false)
    (h : ∀ u, AL P ops rest Q n (m.add (fDat (tyList τ) [u] ((gget l2 k).getD []))) (put S d u)) (hdd : o.dst = some d := by rfl) (hd : Nat.blt d n = true := by rfl) (hg : wantS ops S o true = true := by rfl) : AL P ops (o :: rest) Q n m S :=
  al_fact (R := fun u => fDat (tyList τ) [u] ((gget l2 k).getD [])) (of_lookD i K hinj hkey hi hx hy ht hv ho) h hdd hd hg
end
end Go.Proofs.YtiioclkiapbjnaaGreatDoor.En
namespace Go.Proofs
open Go.Shelf
def Tryz.lays105_ren : Go.Shelf.Ren := ⟨fun | 105 => 107 | 212 => 122 | 99 => 123 | 165 => 102 | 166 => 103 | 170 => 124 | 169 => 105 | 263 => 134 | 264 => 135 | 206 => 89 | 240 => 118 | 241 => 119 | 276 => 132 | 277 => 133 | n => n, fun | 9 => 9 | 3 => 3 | 4 => 4 | 20 => 20 | 0 => 0 | 46 => 111 | 109 => 159 | 5 => 5 | 72 => 134 | 76 => 138 | 51 => 93 | 146 => 94 | 53 => 81 | 148 => 170 | 70 => 132 | 37 => 84 | 75 => 137 | 127 => 157 | 164 => 166 | 80 => 142 | n => n, fun | n => n⟩
theorem Tryz.lays105 : Go.Proofs.Lays.n105 Tryz.prog Tryz.lays105_ren := {
  mixed := by kernel_rfl
  f99 := Tryz.func123.trans (congrArg some (by kernel_rfl))
  f105 := Tryz.func107.trans (congrArg some (by kernel_rfl))
  f165 := Tryz.func102.trans (congrArg some (by kernel_rfl))
  f166 := Tryz.func103.trans (congrArg some (by kernel_rfl))
  f169 := Tryz.func105.trans (congrArg some (by kernel_rfl))
  f170 := Tryz.func124.trans (congrArg some (by kernel_rfl))
  f206 := Tryz.func89.trans (congrArg some (by kernel_rfl))
  f212 := Tryz.func122.trans (congrArg some (by kernel_rfl))
  f240 := Tryz.func118.trans (congrArg some (by kernel_rfl))
  f241 := Tryz.func119.trans (congrArg some (by kernel_rfl))
  f263 := Tryz.func134.trans (congrArg some (by kernel_rfl))
  f264 := Tryz.func135.trans (congrArg some (by kernel_rfl))
  f276 := Tryz.func132.trans (congrArg some (by kernel_rfl))
  f277 := Tryz.func133.trans (congrArg some (by kernel_rfl))
  t0 := Tryz.underlying0
  a0 := Tryz.isAgg0
  z0 := Tryz.sizeOf0
  v0 := Tryz.zeroValue0
  t3 := Tryz.underlying3
  a3 := Tryz.isAgg3
  z3 := Tryz.sizeOf3
  v3 := Tryz.zeroValue3
  t4 := Tryz.underlying4
  a4 := Tryz.isAgg4
  z4 := Tryz.sizeOf4
  v4 := Tryz.zeroValue4
  t5 := Tryz.underlying5
  a5 := Tryz.isAgg5
  z5 := Tryz.sizeOf5
  v5 := Tryz.zeroValue5
  t9 := Tryz.underlying9
  a9 := Tryz.isAgg9
  z9 := Tryz.sizeOf9
  v9 := Tryz.zeroValue9
  t20 := Tryz.underlying20
  a20 := Tryz.isAgg20
  z20 := Tryz.sizeOf20
  v20 := Tryz.zeroValue20
  t37 := Tryz.underlying84
  a37 := Tryz.isAgg84
  z37 := Tryz.sizeOf84
  v37 := Tryz.zeroValue84
  t46 := Tryz.underlying111
  a46 := Tryz.isAgg111
  z46 := Tryz.sizeOf111
  v46 := Tryz.zeroValue111
  t51 := Tryz.underlying93
  a51 := Tryz.isAgg93
  z51 := Tryz.sizeOf93
  v51 := Tryz.zeroValue93
  t53 := Tryz.underlying81
  a53 := Tryz.isAgg81
  z53 := Tryz.sizeOf81
  v53 := Tryz.zeroValue81
  t70 := Tryz.underlying132
  a70 := Tryz.isAgg132
  z70 := Tryz.sizeOf132
  v70 := Tryz.zeroValue132
  t72 := Tryz.underlying134
  a72 := Tryz.isAgg134
  z72 := Tryz.sizeOf134
  v72 := Tryz.zeroValue134
  t75 := Tryz.underlying137
  a75 := Tryz.isAgg137
  z75 := Tryz.sizeOf137
  v75 := Tryz.zeroValue137
  t76 := Tryz.underlying138
  a76 := Tryz.isAgg138
  z76 := Tryz.sizeOf138
  v76 := Tryz.zeroValue138
  t109 := Tryz.underlying159
  a109 := Tryz.isAgg159
  z109 := Tryz.sizeOf159
  v109 := Tryz.zeroValue159
  t127 := Tryz.underlying157
  a127 := Tryz.isAgg157
  z127 := Tryz.sizeOf157
  v127 := Tryz.zeroValue157
  t146 := Tryz.underlying94
  a146 := Tryz.isAgg94
  z146 := Tryz.sizeOf94
  v146 := Tryz.zeroValue94
  t148 := Tryz.underlying170
  a148 := Tryz.isAgg170
  z148 := Tryz.sizeOf170
  v148 := Tryz.zeroValue170
  t164 := Tryz.underlying166
  a164 := Tryz.isAgg166
  z164 := Tryz.sizeOf166
  v164 := Tryz.zeroValue166 }
theorem Tryz.Builder_Extra_105 : Builder.Extra Tryz.prog Tryz.lays105_ren := {
  sizeBuilder := by kernel_rfl
  liesBuilder := by kernel_rfl
  t5 := Tryz.underlying5
  a5 := Tryz.isAgg5
  z5 := Tryz.sizeOf5
  v5 := Tryz.zeroValue5
  infoByte := by kernel_rfl
  cellsByte := by kernel_rfl
  sizeByte := by kernel_rfl
  neB5 := by decide }
open Go.RowKit Go.Lib in
theorem Tryz.strings_Repeat (s : ByteArray) (c : Nat) (w : World) (hc : c ≤ 9223372036854775807) (hlen : s.size * c ≤ 140737488355328) :
    Calls Tryz.prog 107 #[.string s, .int .i64 c] w fun e w' => e = .returned (.string ⟨(Lib.repeatL s.data.toList c).toArray⟩) ∧ Below w.heap.size w w' := Any.strings_Repeat Tryz.lays105 Tryz.Builder_Extra_105 s c w hc hlen
end Go.Proofs
namespace Go.Proofs.YtiioclkiapbjnaaGreatDoor.En
open Go.RowKit Go.ChangeShapes Go.WideShapes Go.Deep
set_option linter.unusedVariables false
set_option linter.unusedSimpArgs false
theorem bulk_pos {H : Type} : ∀ d : DataW H, 1 ≤ Rows.uptoBulk d := by
  intro d
  cases d with
  | lit l => cases l <;> simp [Rows.uptoBulk]
  | nil => simp [Rows.uptoBulk]
  | ptr d => simp [Rows.uptoBulk]
  | slice a b => simp [Rows.uptoBulk]
  | agg a => simp [Rows.uptoBulk]
  | iface a d => simp [Rows.uptoBulk]
  | map e => simp [Rows.uptoBulk]
  | held h => simp [Rows.uptoBulk]
theorem bulk_part {H : Type} {d : DataW H} : ∀ {l : List (DataW H)}, d ∈ l → Rows.uptoBulk d ≤ Rows.uptoBulkAll l
  | [], h => by cases h
  | x :: r, h => by
    simp only [Rows.uptoBulkAll]
    rcases List.mem_cons.1 h with e | e
    · subst e; omega
    · have := bulk_part e; omega
theorem bulk_len {H : Type} : ∀ l : List (DataW H), l.length ≤ Rows.uptoBulkAll l
  | [] => by simp
  | x :: r => by
    simp only [Rows.uptoBulkAll, List.length_cons]
    have h1 := bulk_len r
    have h2 := bulk_pos x
    omega
section
variable {H : Type} {P : Program} {α β : Type}
def Opb (H : Type) (P : Program) (t : TypeId) (τ : Ty α) (ok : Nat → α → Prop) : Prop := ∀ (enc : TypeId × Value → H) (w : World) (base : Nat) (spare : Nat → Bool) (held : Bool) (n : Nat) (cs : List Value) (y : DataW H × List MemPlace), DataW.trod enc P w base spare held n t cs = some y → ∃ x, (∀ N, Rows.uptoBulk y.1 ≤ N → ok N x) ∧ τ.rep (Full w) w cs x
theorem opb_of {t : TypeId} {τ : Ty α} {ok : α → Prop} (h : Opn H P t τ ok) : Opb H P t τ (fun _ => ok) := fun enc w base spare held n cs y hy => by
  obtain ⟨x, h1, h2⟩ := h enc w base spare held n cs y hy
  exact ⟨x, fun _ _ => h1, h2⟩
theorem opb_str {t : TypeId} (hu : P.underlying t = some .string) : Opb H P t tyStr (fun N x => x.length ≤ 9223372036854775807 ∧ x.length ≤ N) := fun enc w base spare held n cs y h => by
  obtain ⟨x, hx, hy, hs⟩ := DataW.trod_string hu h
  refine ⟨x.data.toList, fun N hN => ⟨?_, ?_⟩, ?_⟩
  · unfold maxLen at hs; simpa using hs
  · rw [hy] at hN
    simp only [Rows.uptoBulk] at hN
    omega
  · show cs = [str x.data.toList]
    rw [hx]; simp [str]
def okB (ok : Nat → α → Prop) (N : Nat) (xs : List α) : Prop := xs.length ≤ N ∧ ∀ x ∈ xs, ok N x
theorem opb_list {t e : TypeId} {τ : Ty α} {ok : Nat → α → Prop} (hu : P.underlying t = some (.slice e)) (hsz : szOf P e = some τ.size) (hpos : Nat.blt 0 τ.size = true) (he : Opb H P e τ ok) : Opb H P t (tyList τ) (okB ok) := fun enc w base spare held n cs y h => by
  have hce : P.cellsOf e = τ.size := by
    unfold szOf at hsz; unfold Program.cellsOf; rw [hsz]; rfl
  rcases open_slice hu h with ⟨hcs, _⟩ | ⟨a, len, cap, m, n', D, Pl, hcs, hb, hle, hm, hmm, hy, hx⟩
  · exact ⟨[], fun N _ => ⟨by simp, by simp⟩, none, 0, 0, hcs, rfl, Nat.le_refl _, Nat.zero_le _, .inl rfl⟩
  · have hmn : len ≤ m := by rw [hmm]; split <;> omega
    obtain ⟨L, hL, hp⟩ := exists_list (γ := List Value × α) (p := fun i p => w.cells? base (a.add (i * P.cellsOf e)) (P.cellsOf e) = some p.1 ∧ (∀ N, Rows.uptoBulk (D i) ≤ N → ok N p.2) ∧ τ.rep (Full w) w p.1 p.2) len (fun i hi => by
      obtain ⟨cs', h1, h2⟩ := hx i (by omega)
      obtain ⟨x, hok, hr⟩ := he enc w base spare held _ cs' _ h2
      exact ⟨(cs', x), h1, hok, hr⟩)
    have hlen : (L.map (·.2)).length = len := by simp [hL]
    have hall : ∀ i, i < len → Rows.uptoBulk (D i) ≤ Rows.uptoBulk y.1 := fun i hi => by
      rw [hy]
      have := bulk_part (d := D i) (l := (List.range len).map D) (List.mem_map.2 ⟨i, List.mem_range.2 hi, rfl⟩)
      simp only [Rows.uptoBulk]
      omega
    have hlb : len ≤ Rows.uptoBulk y.1 := by
      rw [hy]
      have := bulk_len ((List.range len).map D)
      simp only [Rows.uptoBulk, List.length_map, List.length_range] at this ⊢
      omega
    refine ⟨L.map (·.2), fun N hN => ⟨by rw [hlen]; omega, fun x hx => ?_⟩, some a, len, cap, hcs, hlen.symm, hle, Nat.le_trans hle hm, ?_⟩
    · obtain ⟨p, hpm, rfl⟩ := List.mem_map.1 hx
      obtain ⟨i, hi⟩ := List.getElem?_of_mem hpm
      have hil : i < len := by rw [← hL]; exact (List.getElem?_eq_some_iff.1 hi).1
      exact (hp i p hi).2.1 N (Nat.le_trans (hall i hil) hN)
    · by_cases h0 : len = 0
      · exact .inl h0
      right
      have hchunk : ∀ c ∈ L.map (·.1), c.length = τ.size := fun c hc => by
        obtain ⟨p, hpm, rfl⟩ := List.mem_map.1 hc
        obtain ⟨i, hi⟩ := List.getElem?_of_mem hpm
        exact τ.len (hp i p hi).2.2
      refine ⟨a, (L.map (·.1)).flatten, rfl, ⟨?_, fun j u hj => ?_⟩, RepL.mk' _ _ (by simp) (fun i c x h1 h2 => ?_)⟩
      · obtain ⟨p, hpi⟩ : ∃ p, L[0]? = some p := ⟨L[0], List.getElem?_eq_getElem (by omega)⟩
        obtain ⟨_, hl2, hat⟩ := World.cells?_some (hp 0 p hpi).1
        have hpos' : 0 < τ.size := by simpa [Nat.blt_eq] using hpos
        have hc := hat 0 (by rw [hce]; exact hpos')
        have hlt : 0 < p.1.length := by rw [hl2, hce]; exact hpos'
        rw [List.getElem?_eq_getElem hlt] at hc
        have := World.block_lt_of_cell? w _ hc
        rw [add_block, add_block] at this
        exact this
      · -- the cell j lies in the chunk j / size
        have key : ∀ (CS : List (List Value)) (i0 : Nat), (∀ c ∈ CS, c.length = τ.size) → (∀ i c, CS[i]? = some c → ∀ r, r < τ.size → w.cell? ((a.add ((i0 + i) * τ.size)).add r) = c[r]?) → ∀ j u, CS.flatten[j]? = some u → w.cell? (a.add (i0 * τ.size + j)) = some u := by
          intro CS
          induction CS with
          | nil => intro i0 _ _ j u hj; simp at hj
          | cons c CS ih =>
            intro i0 hc hcell j u hj
            rw [List.flatten_cons] at hj
            have hcl := hc c (by simp)
            by_cases hjc : j < τ.size
            · rw [List.getElem?_append_left (by omega)] at hj
              have := hcell 0 c rfl j hjc
              rw [add_add, Nat.add_zero, hj] at this
              exact this
            · rw [List.getElem?_append_right (by omega), hcl] at hj
              have := ih (i0 + 1) (fun c' hc' => hc c' (by simp [hc'])) (fun i c' hi r hr => by
                have := hcell (i + 1) c' (by simpa using hi) r hr
                rw [show i0 + 1 + i = i0 + (i + 1) by omega]; exact this) (j - τ.size) u hj
              rw [Nat.succ_mul] at this
              rw [show i0 * τ.size + j = i0 * τ.size + τ.size + (j - τ.size) by omega]
              exact this
        have := key (L.map (·.1)) 0 hchunk (fun i c hi r hr => by
          rw [List.getElem?_map] at hi
          obtain ⟨p, hpi, rfl⟩ := Option.map_eq_some_iff.1 hi
          obtain ⟨_, _, hat⟩ := World.cells?_some (hp i p hpi).1
          rw [hce] at hat
          rw [Nat.zero_add]
          exact hat r hr) j u hj
        rw [Nat.zero_mul, Nat.zero_add] at this
        exact this
      · rw [List.getElem?_map] at h1 h2
        obtain ⟨p, hpi, rfl⟩ := Option.map_eq_some_iff.1 h1
        obtain ⟨q, hqi, rfl⟩ := Option.map_eq_some_iff.1 h2
        rw [hpi] at hqi
        cases hqi
        exact (hp i p hpi).2.2
def FieldsOpb (H : Type) (P : Program) (fs : List (Nat × TypeId)) (off : Nat) (τ : Ty α) (ok : Nat → α → Prop) : Prop := ∀ (enc : TypeId × Value → H) (w : World) (base : Nat) (spare : Nat → Bool) (held : Bool) (n : Nat) (cs : List Value) (B : Nat),
  (∀ f ∈ fs, ∃ y : DataW H × List MemPlace, Rows.uptoBulk y.1 ≤ B ∧ DataW.trod enc P w base spare held n f.2 ((cs.drop f.1).take (P.cellsOf f.2)) = some y) → ∃ x, (∀ N, B ≤ N → ok N x) ∧ τ.rep (Full w) w ((cs.drop off).take τ.size) x
theorem fieldsb_one {t : TypeId} {off : Nat} {τ : Ty α} {ok : Nat → α → Prop} (hsz : szOf P t = some τ.size) (h : Opb H P t τ ok) : FieldsOpb H P [(off, t)] off τ ok := fun enc w base spare held n cs B hf => by
  obtain ⟨y, hyb, hy⟩ := hf (off, t) (by simp)
  have hce : P.cellsOf t = τ.size := by unfold szOf at hsz; unfold Program.cellsOf; rw [hsz]; rfl
  rw [hce] at hy
  obtain ⟨x, h1, h2⟩ := h enc w base spare held n _ y hy
  exact ⟨x, fun N hN => h1 N (Nat.le_trans hyb hN), h2⟩
theorem fieldsb_cons {t : TypeId} {off : Nat} {τ : Ty α} {υ : Ty β} {ok : Nat → α → Prop} {okb : Nat → β → Prop} {fs : List (Nat × TypeId)} (hsz : szOf P t = some τ.size) (h : Opb H P t τ ok) (hr : FieldsOpb H P fs (off + τ.size) υ okb) : FieldsOpb H P ((off, t) :: fs) off (tyPair τ υ) (fun N x => ok N x.1 ∧ okb N x.2) := fun enc w base spare held n cs B hf => by
  obtain ⟨y, hyb, hy⟩ := hf (off, t) (by simp)
  have hce : P.cellsOf t = τ.size := by unfold szOf at hsz; unfold Program.cellsOf; rw [hsz]; rfl
  rw [hce] at hy
  obtain ⟨x, h1, h2⟩ := h enc w base spare held n _ y hy
  obtain ⟨z, h3, h4⟩ := hr enc w base spare held n cs B (fun f hff => hf f (by simp [hff]))
  refine ⟨(x, z), fun N hN => ⟨h1 N (Nat.le_trans hyb hN), h3 N hN⟩, _, _, ?_, h2, h4⟩
  rw [show (tyPair τ υ).size = τ.size + υ.size from rfl, List.take_add, List.drop_drop]
theorem opb_struct {t : TypeId} {fs : Array Field} {υ : Ty β} {ok : Nat → β → Prop} (f : α → β) (g : β → α) (hfg : ∀ y, f (g y) = y) (hu : P.underlying t = some (.struct fs)) (hsz : szOf P t = some υ.size) (hr : FieldsOpb H P (fs.toList.map fun f => (f.offset, f.type)) 0 υ ok) : Opb H P t (tyVia f υ) (fun N x => ok N (f x)) := fun enc w base spare held n cs y h => by
  obtain ⟨xs, m, _, hy, hcl, hxl, hf⟩ := DataW.trod_struct hu h
  have hce : P.cellsOf t = υ.size := by unfold szOf at hsz; unfold Program.cellsOf; rw [hsz]; rfl
  have hpart : ∀ q ∈ xs, Rows.uptoBulk q.1 ≤ Rows.uptoBulk y.1 := fun q hq => by
    rw [hy]
    have := bulk_part (d := q.1) (l := xs.map (·.1)) (List.mem_map.2 ⟨q, hq, rfl⟩)
    simp only [Rows.uptoBulk]
    omega
  obtain ⟨z, h1, h2⟩ := hr enc w base spare held m cs (Rows.uptoBulk y.1) (fun p hp => by
    obtain ⟨fl, hfl, rfl⟩ := List.mem_map.1 hp
    obtain ⟨i, hi⟩ := List.getElem?_of_mem hfl
    have hi' : fs[i]? = some fl := by simpa using hi
    have hlt : i < xs.length := by rw [hxl]; exact (Array.getElem?_eq_some_iff.1 hi').1
    exact ⟨xs[i], hpart _ (List.getElem_mem hlt), (hf i fl hi').trans (List.getElem?_eq_getElem hlt)⟩)
  refine ⟨g z, (fun N hN => by show ok N (f (g z)); rw [hfg]; exact h1 N hN), ?_⟩
  show υ.rep _ _ cs (f (g z))
  rw [hfg]
  rw [List.drop_zero, List.take_of_length_le (by rw [hcl, hce]; exact Nat.le_refl _)] at h2
  exact h2
variable {w : World} {base : Nat} {spare : Nat → Bool} {held : Bool} {enc : TypeId × Value → H} {v : Value} {d : DataW H} {ps : List MemPlace} {r : Reach} {b0 : Nat} {t : TypeId}
theorem par_sliceB {e : TypeId} {τ : Ty α} {ok : Nat → List α → Prop} (ht : P.underlying t = some (.slice e)) (ho : Opb H P t (tyList τ) ok) (hval : Value.okWide P w r b0 t v) (hd : DataW.Trod enc P w base spare held t v d ps) : ∃ xs, (∀ N, Rows.uptoBulk d ≤ N → ok N xs) ∧ (tyList τ).rep (Full w) w [v] xs := by
  obtain ⟨A, l, c, rfl⟩ := okWide_slice ht hval
  obtain ⟨fuel, hf⟩ := hd
  exact ho enc w base spare held fuel _ _ hf
end
end Go.Proofs.YtiioclkiapbjnaaGreatDoor.En
