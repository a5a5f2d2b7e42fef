/- What PackMakes leans on, part 2. No condition. -/
import Derived.Test.YtfhifdmbdkkgaaaDoorQPackMakesa
import Derived.Shelf.Strings.Trim
import Derived.Test.YtfhifdmbdkkgaaaDoorChecked
import Derived.Ground.MnProg
import Derived.Shelf.Bin.BEAppendUint64
import Derived.Shelf.Strings.Builder1
import Derived.WalkKit
import Derived.Outline
import Derived.Lib.UnsafeStr
import Derived.Lib.Builder
import Derived.Shelf.RegionOpenPlain
namespace Go.Proofs
open Go.Shelf
def Tryd.lays161_ren : Go.Shelf.Ren := ⟨fun | 161 => 146 | 231 => 180 | 227 => 181 | 233 => 182 | 235 => 183 | 228 => 200 | 197 => 201 | 151 => 202 | 260 => 207 | 152 => 208 | 137 => 128 | 119 => 212 | 224 => 210 | 225 => 209 | 217 => 172 | 266 => 198 | n => n, fun | 9 => 9 | 4 => 4 | 3 => 3 | 5 => 5 | 117 => 242 | 116 => 241 | 0 => 0 | 124 => 245 | 105 => 258 | 21 => 21 | 119 => 218 | 46 => 86 | 139 => 221 | 138 => 220 | n => n, fun | 3 => 1 | 4 => 2 | n => n⟩
theorem Tryd.lays161 : Go.Proofs.Lays.n161 Tryd.prog Tryd.lays161_ren := {
  mixed := by kernel_rfl
  f119 := Tryd.func212.trans (congrArg some (by kernel_rfl))
  f137 := Tryd.func128.trans (congrArg some (by kernel_rfl))
  f151 := Tryd.func202.trans (congrArg some (by kernel_rfl))
  f152 := Tryd.func208.trans (congrArg some (by kernel_rfl))
  f161 := Tryd.func146.trans (congrArg some (by kernel_rfl))
  f197 := Tryd.func201.trans (congrArg some (by kernel_rfl))
  f217 := Tryd.func172.trans (congrArg some (by kernel_rfl))
  f224 := Tryd.func210.trans (congrArg some (by kernel_rfl))
  f225 := Tryd.func209.trans (congrArg some (by kernel_rfl))
  f227 := Tryd.func181.trans (congrArg some (by kernel_rfl))
  f228 := Tryd.func200.trans (congrArg some (by kernel_rfl))
  f231 := Tryd.func180.trans (congrArg some (by kernel_rfl))
  f233 := Tryd.func182.trans (congrArg some (by kernel_rfl))
  f235 := Tryd.func183.trans (congrArg some (by kernel_rfl))
  f260 := Tryd.func207.trans (congrArg some (by kernel_rfl))
  f266 := Tryd.func198.trans (congrArg some (by kernel_rfl))
  t0 := Tryd.underlying0
  a0 := Tryd.isAgg0
  z0 := Tryd.sizeOf0
  v0 := Tryd.zeroValue0
  t3 := Tryd.underlying3
  a3 := Tryd.isAgg3
  z3 := Tryd.sizeOf3
  v3 := Tryd.zeroValue3
  t4 := Tryd.underlying4
  a4 := Tryd.isAgg4
  z4 := Tryd.sizeOf4
  v4 := Tryd.zeroValue4
  t5 := Tryd.underlying5
  a5 := Tryd.isAgg5
  z5 := Tryd.sizeOf5
  v5 := Tryd.zeroValue5
  t9 := Tryd.underlying9
  a9 := Tryd.isAgg9
  z9 := Tryd.sizeOf9
  v9 := Tryd.zeroValue9
  t21 := Tryd.underlying21
  a21 := Tryd.isAgg21
  z21 := Tryd.sizeOf21
  v21 := Tryd.zeroValue21
  t46 := Tryd.underlying86
  a46 := Tryd.isAgg86
  z46 := Tryd.sizeOf86
  v46 := Tryd.zeroValue86
  t105 := Tryd.underlying258
  a105 := Tryd.isAgg258
  z105 := Tryd.sizeOf258
  v105 := Tryd.zeroValue258
  t116 := Tryd.underlying241
  a116 := Tryd.isAgg241
  z116 := Tryd.sizeOf241
  t117 := Tryd.underlying242
  a117 := Tryd.isAgg242
  z117 := Tryd.sizeOf242
  v117 := Tryd.zeroValue242
  t119 := Tryd.underlying218
  a119 := Tryd.isAgg218
  z119 := Tryd.sizeOf218
  t124 := Tryd.underlying245
  a124 := Tryd.isAgg245
  z124 := Tryd.sizeOf245
  v124 := Tryd.zeroValue245
  t138 := Tryd.underlying220
  a138 := Tryd.isAgg220
  z138 := Tryd.sizeOf220
  v138 := Tryd.zeroValue220
  t139 := Tryd.underlying221
  a139 := Tryd.isAgg221
  z139 := Tryd.sizeOf221
  v139 := Tryd.zeroValue221
  g3 := by kernel_rfl
  g4 := by kernel_rfl }
open Go.RowKit in
theorem Tryd.strings_TrimLeft_one (s : ByteArray) (c : UInt8) (hc : c.toNat < 128) (w : World) :
    Calls Tryd.prog 146 #[.string s, .string ⟨#[c]⟩] w fun e w' => e = .returned (.string ⟨(Lib.trimLeftB s.data.toList c).toArray⟩) ∧ w' = w := Any.strings_TrimLeft_one Tryd.lays161 s c hc w
end Go.Proofs
namespace Go.Proofs
open Go.Shelf
def Tryd.laysBin44_ren : Go.Shelf.Ren := ⟨fun | 44 => 145 | n => n, fun | 37 => 162 | 22 => 74 | 33 => 76 | 0 => 0 | 45 => 86 | 5 => 5 | n => n, fun | n => n⟩
theorem Tryd.laysBin44 : Go.Proofs.LaysBin.n44 Tryd.prog Tryd.laysBin44_ren := {
  mixed := by kernel_rfl
  f44 := Tryd.func145.trans (congrArg some (by kernel_rfl))
  t0 := Tryd.underlying0
  a0 := Tryd.isAgg0
  z0 := Tryd.sizeOf0
  v0 := Tryd.zeroValue0
  i0 := by kernel_rfl
  t5 := Tryd.underlying5
  a5 := Tryd.isAgg5
  z5 := Tryd.sizeOf5
  v5 := Tryd.zeroValue5
  i5 := by kernel_rfl
  t22 := Tryd.underlying74
  a22 := Tryd.isAgg74
  z22 := Tryd.sizeOf74
  v22 := Tryd.zeroValue74
  i22 := by kernel_rfl
  t33 := Tryd.underlying76
  a33 := Tryd.isAgg76
  z33 := Tryd.sizeOf76
  v33 := Tryd.zeroValue76
  i33 := by kernel_rfl
  t37 := Tryd.underlying162
  a37 := Tryd.isAgg162
  z37 := Tryd.sizeOf162
  v37 := Tryd.zeroValue162
  i37 := by kernel_rfl
  t45 := Tryd.underlying86
  a45 := Tryd.isAgg86
  z45 := Tryd.sizeOf86
  v45 := Tryd.zeroValue86
  i45 := by kernel_rfl }
open Go.RowKit in
theorem Tryd.binary_BE_AppendUint64 (B n v : Nat) (hv : v < 18446744073709551616) (sv : Value) (xs : List Value) (w : World) (hown : w.ownsRow B 5 1 sv n xs) (hBw : B ≤ w.heap.size) (hlim : n + 8 ≤ 140737488355328) :
    Calls Tryd.prog 145 #[.agg #[], sv, .int .u64 v] w fun e w' => ∃ v', e = .returned v' ∧ w'.ownsRow B 5 1 v' (n + 8) (xs ++ Lib.byteCells (Lib.beBytes 8 v)) ∧ Below B w w' := Any.binary_BE_AppendUint64 Tryd.laysBin44 B n v hv sv xs w hown hBw hlim
end Go.Proofs
namespace Go.Proofs.YtfhifdmbdkkgaaaDoor.En
open Go.RowKit Go.Maps YtfhifdmbdkkgaaaDoor
set_option linter.unusedVariables false
set_option linter.unusedSimpArgs false
section
variable {P : Program} {Q : Exit → Act → World → Prop} {n : Nat} {m : Mem} {S : Sl} {ops : Array Oper} {rest : List Oper} {o : Oper}
def min2 (p q : Int) : Int := if q < p then q else p
def max2 (p q : Int) : Int := if q > p then q else p
end
end Go.Proofs.YtfhifdmbdkkgaaaDoor.En
namespace Go.Proofs.YtfhifdmbdkkgaaaDoor.En
open Go.RowKit Go.Proofs.YtfhifdmbdkkgaaaDoor
set_option linter.unusedVariables false
set_option linter.unusedSimpArgs false
section
variable {P : Program} {Q : Exit → Act → World → Prop} {n : Nat} {m : Mem} {S : Sl} {ops : Array Oper} {rest : List Oper} {o : Oper} {α β : Type}
theorem al_fieldR {d : Nat} {v p : Value} {k : Nat} {t : TypeId} {y : Operand} {j sz : Nat} {fs : Array Field} {f : Field} (hp : EltOf v p k) (hx : ev S y = some p) (hu : P.underlying t = some (.struct fs)) (hf : fs[j]? = some f) (hk : szOf P f.type = some sz) (hk0 : Nat.beq sz 0 = false) (ho : o.op = .fieldAddr t y j)
    (h : ∀ q, EltOf v q (k + f.offset) → AL P ops rest Q n m (put S d q)) (hdd : o.dst = some d := by rfl) (hd : Nat.blt d n = true := by rfl) (hg : wantS ops S o true = true := by rfl) : AL P ops (o :: rest) Q n m S := by
  obtain ⟨g, l, c, rfl, rfl⟩ := hp
  exact al_val (ov_fieldAddr hx hu hf hk hk0 ho) (h _ ⟨g, l, c, rfl, rfl⟩) hdd hd hg
theorem row_cellsF {w : World} {v p : Value} {e : TypeId} {τ : Ty α} {υ : Ty β} {pr : α → β} {off : Nat} {xs : List α} {Z : Nat → Prop} {k : Nat} {x : α} (h : (oRow v e τ xs).p Z w) (hp : EltOf v p (k * τ.size + off)) (hx : xs[k]? = some x) (hsub : Sub τ off υ pr) :
    ∃ ad cs, p = .pointer (some ad) ∧ υ.rep Z w cs (pr x) ∧ ∀ j u, cs[j]? = some u → w.cell? (ad.add j) = some u := by
  obtain ⟨g, l, c, rfl, rfl⟩ := hp
  obtain ⟨g', l', c', cs, cur, h1, h2, -, -, -, -, -, -, -, hrep, hc⟩ := row_cells (p := .pointer (some ⟨g, k * τ.size, none⟩)) h ⟨g, l, c, rfl, rfl⟩ hx
  cases h1
  refine ⟨_, _, rfl, hsub hrep, fun j u hu => ?_⟩
  rw [List.getElem?_take] at hu
  split at hu
  · rw [List.getElem?_drop] at hu
    have := hc _ _ hu
    rw [add_plain] at this ⊢
    rw [Nat.add_assoc]
    exact this
  · cases hu
theorem ov_loadF {τ : Ty α} {υ : Ty β} {pr : α → β} {off : Nat} {v p u : Value} {xs : List α} {k : Nat} {x : α} {ds : List Value} (i : Nat) {t et : TypeId} {d : TypeDesc} {y : Operand} (hi : m.own[i]? = some (oRow v et τ xs)) (hp : EltOf v p (k * τ.size + off)) (hxk : xs[k]? = some x) (hsub : Sub τ off υ pr) (hds : ∀ {Z w cs}, υ.rep Z w cs (pr x) → cs = ds) (hx : ev S y = some p) (hu : P.underlying t = some d) (hsz : szOf P t = some υ.size) (h1 : (isAggD d || Nat.beq υ.size 1) = true) (hv : mk d ds = u) (ho : o.op = .load t y) : OpV P o n m S u := fun w a hm hs => by
  obtain ⟨ad, cs, rfl, hrep, hcells⟩ := row_cellsF (own_at hm hi) hp hxk hsub
  have hr := run_loadVar' hu hsz w _ _ (υ.len hrep) (fun hd => by rw [hd] at h1; exact Nat.eq_of_beq_eq_true (by simpa using h1)) hcells
  rw [hds hrep, hv] at hr
  unfold execOp
  simp only [ho, hs.ev hx]
  simp [Instr.loadAt, Instr.sureAddr, hr]
theorem of_loadF1 {τ : Ty α} {υ : Ty β} {pr : α → β} {off : Nat} {v p : Value} {xs : List α} {k : Nat} {x : α} (i : Nat) {t et : TypeId} {d : TypeDesc} {y : Operand} (hi : m.own[i]? = some (oRow v et τ xs)) (hp : EltOf v p (k * τ.size + off)) (hxk : xs[k]? = some x) (hsub : Sub τ off υ pr) (hx : ev S y = some p) (hu : P.underlying t = some d) (hsz : szOf P t = some υ.size) (h1 : υ.size = 1) (h2 : isAggD d = false) (ho : o.op = .load t y) : OpF P o n m S (fun u => fDat υ [u] (pr x)) := fun w a hm hs => by
    obtain ⟨ad, cs, rfl, hrep, hcells⟩ := row_cellsF (own_at hm hi) hp hxk hsub
    have hr := run_loadVar' hu hsz w _ _ (υ.len hrep) (fun _ => h1) hcells
    obtain ⟨u, rfl⟩ : ∃ u, cs = [u] := List.length_eq_one_iff.1 ((υ.len hrep).trans h1)
    refine ⟨u, ?_, hrep⟩
    unfold execOp
    simp only [ho, hs.ev hx]
    simp [Instr.loadAt, Instr.sureAddr, hr, mk, h2]
theorem al_loadF1 {ds : Nat} {τ : Ty α} {υ : Ty β} {pr : α → β} {off : Nat} {v p : Value} {xs : List α} {k : Nat} {x : α} (i : Nat) {t et : TypeId} {d : TypeDesc} {y : Operand} (hi : m.own[i]? = some (oRow v et τ xs)) (hp : EltOf v p (k * τ.size + off)) (hxk : xs[k]? = some x) (hsub : Sub τ off υ pr) (hx : ev S y = some p) (hu : P.underlying t = some d) (hsz : szOf P t = some υ.size) (h1 : υ.size = 1) (h2 : isAggD d = false) (ho : o.op = .load t y)
    (h : ∀ u, AL P ops rest Q n (m.add (fDat υ [u] (pr x))) (put S ds u)) (hdd : o.dst = some ds := by rfl) (hd : Nat.blt ds n = true := by rfl) (hg : wantS ops S o true = true := by rfl) : AL P ops (o :: rest) Q n m S :=
  al_fact (R := fun u => fDat υ [u] (pr x)) (of_loadF1 i hi hp hxk hsub hx hu hsz h1 h2 ho) h hdd hd hg
end
end Go.Proofs.YtfhifdmbdkkgaaaDoor.En
namespace Go.Proofs
open Go.Shelf
def Tryd.lays169_ren : Go.Shelf.Ren := ⟨fun | 169 => 101 | n => n, fun | 70 => 152 | 9 => 9 | 0 => 0 | 72 => 154 | 37 => 74 | 127 => 208 | 3 => 3 | 5 => 5 | n => n, fun | n => n⟩
theorem Tryd.lays169 : Go.Proofs.Lays.n169 Tryd.prog Tryd.lays169_ren := {
  mixed := by kernel_rfl
  f169 := Tryd.func101.trans (congrArg some (by kernel_rfl))
  t0 := Tryd.underlying0
  a0 := Tryd.isAgg0
  z0 := Tryd.sizeOf0
  v0 := Tryd.zeroValue0
  t3 := Tryd.underlying3
  a3 := Tryd.isAgg3
  z3 := Tryd.sizeOf3
  v3 := Tryd.zeroValue3
  t9 := Tryd.underlying9
  a9 := Tryd.isAgg9
  z9 := Tryd.sizeOf9
  v9 := Tryd.zeroValue9
  t37 := Tryd.underlying74
  a37 := Tryd.isAgg74
  z37 := Tryd.sizeOf74
  v37 := Tryd.zeroValue74
  t70 := Tryd.underlying152
  a70 := Tryd.isAgg152
  z70 := Tryd.sizeOf152
  v70 := Tryd.zeroValue152
  t72 := Tryd.underlying154
  a72 := Tryd.isAgg154
  z72 := Tryd.sizeOf154
  v72 := Tryd.zeroValue154
  t127 := Tryd.underlying208
  a127 := Tryd.isAgg208
  z127 := Tryd.sizeOf208
  v127 := Tryd.zeroValue208 }
theorem Tryd.Builder_Extra_169 : Builder.Extra Tryd.prog Tryd.lays169_ren := {
  sizeBuilder := by kernel_rfl
  liesBuilder := by kernel_rfl
  t5 := Tryd.underlying5
  a5 := Tryd.isAgg5
  z5 := Tryd.sizeOf5
  v5 := Tryd.zeroValue5
  infoByte := by kernel_rfl
  cellsByte := by kernel_rfl
  sizeByte := by kernel_rfl
  neB5 := by decide }
end Go.Proofs
namespace Go.Proofs.YtfhifdmbdkkgaaaDoor.En
open Go.RowKit
set_option linter.unusedVariables false
set_option linter.unusedSimpArgs false
def oSB (g T : Nat) (v : Value) : Own where
  blk := [g]
  p _ w := ∃ q, (q = .pointer none ∨ q = ptr g 0) ∧ w.heap[g]? = some (.cells #[q, v] T (0, 0))
  keep hz h := by obtain ⟨q, hq, h⟩ := h; exact ⟨q, hq, (hz g (.inr (by simp))).trans h⟩
  mono _ h := by obtain ⟨q, hq, h⟩ := h; exact ⟨q, hq, h⟩
  lt h := by obtain ⟨q, hq, h⟩ := h; intro b hb; rw [List.mem_singleton.1 hb]; exact (Array.getElem?_eq_some_iff.1 h).1
section
variable {P : Program} {Q : Exit → Act → World → Prop} {n : Nat} {m : Mem} {S : Sl} {ops : Array Oper} {rest : List Oper}
theorem Holds.sb {w : World} (hm : Holds m w) {g T : Nat} {q v : Value} {i : Nat} (hi : m.own[i]? = some (oBox g T [q, v])) (hq : q = .pointer none ∨ q = ptr g 0) : Holds (m.upd i (oSB g T v)) w := by
  have hp := own_at hm hi
  exact hm.upd hi ⟨rfl, rfl, rfl, Nat.le_refl _, fun b _ _ => rfl⟩ (by simp [oSB]) (fun b hb => .inl (by simpa [oBox, oSB] using hb)) (fun Z hZ => ⟨q, hq, hp⟩)
theorem al_sb {g T : Nat} {q v : Value} (i : Nat) (hi : m.own[i]? = some (oBox g T [q, v])) (hq : q = .pointer none ∨ q = ptr g 0) (h : AL P ops rest Q n (m.upd i (oSB g T v)) S) : AL P ops rest Q n m S := fun w a hm hs => h w a (hm.sb hi hq) hs
theorem aq_sb {e : Exit} {g T : Nat} {q v : Value} (i : Nat) (hi : m.own[i]? = some (oBox g T [q, v])) (hq : q = .pointer none ∨ q = ptr g 0) (h : AQ Q e n (m.upd i (oSB g T v)) S) : AQ Q e n m S := fun w a hm hs => h w a (hm.sb hi hq) hs
end
end Go.Proofs.YtfhifdmbdkkgaaaDoor.En
namespace Go.Proofs.YtfhifdmbdkkgaaaDoor
open Go.RowKit YtfhifdmbdkkgaaaDoor.En
set_option linter.unusedVariables false
set_option linter.unusedSimpArgs false
set_option maxRecDepth 100000 in
set_option maxHeartbeats 1000000 in
theorem cc_used (b : Nat) (w : World) (h0 : w.cell? ⟨b, 0, none⟩ = some (.pointer (some ⟨b, 0, none⟩))) :
    Calls Tryd.prog 151 #[.pointer (some ⟨b, 0, none⟩)] w fun e w' => e = .returned (.tuple #[]) ∧ w' = w := by
  obtain ⟨j, hj, hjs⟩ := Option.map_eq_some_iff.1 Tryd.Builder_Extra_169.sizeBuilder
  go_enter Tryd.func151, Tryd.ntmps151
  go_wp2
  rw [Lib.run_neq_ptr_same w _ Tryd.underlying152 hj]
  go_wp2
  go_end0
  exact ⟨rfl, rfl⟩
set_option maxRecDepth 100000 in
set_option maxHeartbeats 1000000 in
theorem cc_fresh (b : Nat) (w : World) (h0 : w.cell? ⟨b, 0, none⟩ = some (.pointer none)) (hsh : w.shape? b = some (154, 2)) (hfz : w.frozen? ⟨b, 0, none⟩ = false) :
    Calls Tryd.prog 151 #[.pointer (some ⟨b, 0, none⟩)] w fun e w' => e = .returned (.tuple #[]) ∧ w' = w.setCell ⟨b, 0, none⟩ (.pointer (some ⟨b, 0, none⟩)) := by
  obtain ⟨j, hj, hjs⟩ := Option.map_eq_some_iff.1 Tryd.Builder_Extra_169.sizeBuilder
  go_enter Tryd.func151, Tryd.ntmps151
  go_wp2
  rw [Lib.run_to_unsafe w ⟨b, 0, none⟩ Tryd.underlying152 Tryd.underlying246 hj (by rw [hjs]; decide) hsh (Nat.zero_lt_succ 1)]
  simp only [Result.andThen]
  rw [Oper.upon_value]
  go_wp2
  rw [run_callFunc_extern Tryd.func184 (by kernel_rfl) (by kernel_rfl) (by kernel_rfl) (e := Extern.AbiNoEscape.same) (by kernel_rfl)]
  rw [Lib.run_noEscape]
  simp only [Result.andThen]
  rw [Oper.upon_value]
  go_wp2
  rw [Lib.run_from_unsafe w ⟨b, 0, none⟩ Tryd.underlying246 Tryd.underlying152 hj hsh Tryd.Builder_Extra_169.liesBuilder]
  simp only [Result.andThen]
  rw [Oper.upon_value]
  go_wp2
  go_end0
  exact ⟨rfl, rfl⟩
set_option maxRecDepth 100000 in
set_option maxHeartbeats 2000000 in
theorem bstr (b g cap : Nat) (q : Value) (cur : Array Value) (l : List UInt8) (w : World) (h0 : l ≠ []) (hbk : w.heap[b]? = some (.cells #[q, .slice (some ⟨g, 0, none⟩) l.length cap] 154 (0, 0)))
    (hg : w.heap[g]? = some (.cells cur 5 (0, 0))) (hnc : l.length ≤ cap) (hcm : cap ≤ maxLen) (hcs : cur.size = cap) (hcell : ∀ j x, l[j]? = some x → w.cell? ((⟨g, 0, none⟩ : Addr).add j) = some (.int .u8 x.toNat)) :
    Calls Tryd.prog 101 #[.pointer (some ⟨b, 0, none⟩)] w fun e w' => e = .returned (.string ⟨l.toArray⟩) ∧ w' = w.drew.freeze ⟨g, 0, none⟩ l.length := by
  have hl0 : l.length ≠ 0 := by simpa using h0
  have c1 : w.drew.cell? ⟨b, 1, none⟩ = some (.slice (some ⟨g, 0, none⟩) l.length cap) := by
    have : w.drew.heap[b]? = some (.cells #[q, .slice (some ⟨g, 0, none⟩) l.length cap] 154 (0, 0)) := hbk
    rw [Lib.cell_of_heap this]; rfl
  have hSD : (Builtin.unsafeSliceData_ #[74] 208 #[.slice (some ⟨g, 0, none⟩) l.length cap]).run Tryd.prog w.drew = .ok (.pointer (some ⟨g, 0, none⟩)) w.drew :=
    Lib.run_unsafeSliceData_row _ _ _ _ _ _ (by omega)
  have hUS : (Builtin.unsafeString_ #[208, 3] 9 #[.pointer (some ⟨g, 0, none⟩), .int .i64 l.length]).run Tryd.prog w.drew = .ok (.string ⟨l.toArray⟩) (w.drew.freeze ⟨g, 0, none⟩ l.length) :=
    Lib.run_unsafeString_row w.drew 208 3 9 5 Tryd.underlying208 (by kernel_rfl) g cur.size (by have hg' : w.drew.heap[g]? = some (.cells cur 5 (0, 0)) := hg; simp [World.shape?, hg']) l h0 (by omega) (by unfold maxLen at hcm; omega) hcell
  have mixed := Tryd.lays169.mixed
  go_enter Tryd.func101, Tryd.ntmps101
  go_wp2
  go_region_o
  all_goals (go_wp2; go_ret; exact ⟨rfl, rfl⟩)
theorem fn_copyCheck (g : Nat) (v : Value) : FnOk Tryd.prog 151 [ptr g 0] [] [oSB g 154 v] (fun _ : Unit => { val := .tuple #[], own := [oBox g 154 [ptr g 0, v]] }) := fun w Z hZ hnd hX hpre hoin => by
  obtain ⟨q, hq, hb⟩ := hoin _ (.head _)
  have c0 : w.cell? ⟨g, 0, none⟩ = some q := by simp [World.cell?, hb]
  rcases hq with rfl | rfl
  · refine (cc_fresh g w c0 (by simp [World.shape?, hb]) (by simp [World.frozen?, hb])).mono fun e w' ⟨he, hw⟩ => ?_
    have hrow := setCells_row g 154 [ptr g 0] 0 #[.pointer none, v] w hb (by simp)
    have hw' : w' = w.setRow g #[ptr g 0, v] := hw.trans hrow
    refine ⟨(), he, ?_, by simp [oBox], fun b hb' => by left; simpa [oBox, oSB] using hb', fun Z' hZ' => ⟨?_, by simp⟩⟩
    · rw [hw']
      exact ⟨rfl, rfl, rfl, by rw [size_setRow]; exact Nat.le_refl _, fun k hk hk2 => setRow_other _ g k _ (by simpa [oSB] using hk2)⟩
    · intro o ho
      rw [List.mem_singleton.1 ho, hw']
      exact setRow_heap _ g _ _ _ (0, 0) hb
  · refine (cc_used g w c0).mono fun e w' ⟨he, hw⟩ => ?_
    subst hw
    refine ⟨(), he, Bel.refl _ _ _, by simp [oBox], fun b hb' => by left; simpa [oBox, oSB] using hb', fun Z' hZ' => ⟨?_, by simp⟩⟩
    intro o ho
    rw [List.mem_singleton.1 ho]
    exact hb
theorem fn_String (g : Nat) (v : Value) (x : List UInt8) : FnOk Tryd.prog 101 [ptr g 0] [] [oSB g 154 v, oRow v 5 tyU8 x] (fun _ : Unit => { val := str x }) := fun w Z hZ hnd hX hpre hoin => by
  obtain ⟨q, hq, hb⟩ := hoin _ (.head _)
  obtain ⟨cs, ho, hr⟩ := hoin _ (.tail _ (.head _))
  have fin : ∀ {B : Nat} {e : Ending} {w' : World}, e = .returned (str x) → Below w.heap.size w w' → ∃ i : Unit, e = .returned (str x) ∧ Bel w.heap.size ([oSB g 154 v, oRow v 5 tyU8 x].flatMap Own.blk) w w' ∧ (([] : List Own).flatMap Own.blk).Nodup ∧ (∀ b ∈ ([] : List Own).flatMap Own.blk, b ∈ [oSB g 154 v, oRow v 5 tyU8 x].flatMap Own.blk ∨ w.heap.size ≤ b) ∧
      ∀ Z' : Nat → Prop, (∀ b, b < w'.heap.size → b ∉ ([] : List Own).flatMap Own.blk → (b < w.heap.size → Z b) → Z' b) → (∀ o ∈ ([] : List Own), o.p Z' w') ∧ ∀ g ∈ ([] : List Fact), g.p Z' w' :=
    fun he hbe => ⟨(), he, ⟨hbe.os, hbe.tape, hbe.output, hbe.size, fun k hk _ => hbe.block k hk⟩, by simp, by simp, fun Z' _ => ⟨by simp, by simp⟩⟩
  rcases ho.2 with ⟨rfl, hx⟩ | ⟨r, cap, cur, rfl, _, hg, hnc, hcm, hcs, htake⟩
  · have hx' : x = [] := by simpa using hx
    subst hx'
    exact (Any.Builder_String_nil Tryd.lays169 Tryd.Builder_Extra_169 w.heap.size g q w hb).mono fun e w' ⟨he, hbe⟩ => fin (B := 0) he hbe
  · by_cases hx : x = []
    · subst hx
      by_cases hc : cap = 0
      · subst hc
        exact (Any.Builder_String_noroom Tryd.lays169 Tryd.Builder_Extra_169 w.heap.size g r q cur w (Nat.le_refl _) hb hg).mono fun e w' ⟨he, hbe⟩ => fin (B := 0) he hbe
      · exact (Any.Builder_String_room Tryd.lays169 Tryd.Builder_Extra_169 w.heap.size g r cap q w hc hb).mono fun e w' ⟨he, hbe⟩ => fin (B := 0) he hbe
    · have hcc := u8_cells hr
      refine (bstr g r cap q cur x w hx hb hg hnc hcm (by simpa [tyU8, tyEnc] using hcs) (fun j y hy => ?_)).mono fun e w' ⟨he, hw⟩ => ?_
      · have h1 : cs[j]? = some (.int .u8 (y.toNat : Int)) := by rw [hcc, List.getElem?_map, hy]; rfl
        have hlt : j < x.length := (List.getElem?_eq_some_iff.1 hy).1
        have h2 : cur.toList[j]? = some (.int .u8 (y.toNat : Int)) := by
          have : (cur.toList.take (x.length * tyU8.size))[j]? = cs[j]? := by rw [htake]
          rw [List.getElem?_take, if_pos (by show j < x.length * 1; omega), h1] at this
          exact this
        rw [add_plain, Nat.zero_add]
        simpa [World.cell?, hg] using h2
      · refine ⟨(), he, ?_, by simp, by simp, fun Z' _ => ⟨by simp, by simp⟩⟩
        have hb1 : Below w.heap.size w w.drew := Below.drew (Below.refl _ w)
        obtain ⟨w1, hw1⟩ : ∃ w1, w1 = w.drew := ⟨_, rfl⟩
        rw [← hw1] at hw hb1
        rw [hw]
        unfold World.freeze
        split
        · exact ⟨hb1.os, hb1.tape, hb1.output, hb1.size, fun k hk _ => hb1.block k hk⟩
        · refine ⟨hb1.os, hb1.tape, hb1.output, by simpa using hb1.size, fun k hk hk2 => ?_⟩
          have hne : r ≠ k := fun e => hk2 (by simp [oRow, Value.ownBlock, e])
          refine Eq.trans ?_ (hb1.block k hk)
          simp only [Array.getElem?_modify]
          rw [if_neg hne]
end Go.Proofs.YtfhifdmbdkkgaaaDoor
namespace Go.Proofs.YtfhifdmbdkkgaaaDoor.En
open Go.RowKit YtfhifdmbdkkgaaaDoor
@[reducible] def iq (x : Int) : Value := Value.int .i64 x
@[reducible] def uq (x : Int) : Value := Value.int .u64 x
@[reducible] def i8 (x : Int) : Value := Value.int .u8 x
@[reducible] def wq (x : Int) : Int := IntKind.i64.wrap x
@[reducible] def wu (x : Int) : Int := IntKind.u64.wrap x
@[reducible] def w8 (x : Int) : Int := IntKind.u8.wrap x
@[reducible] def nS : Value := Value.slice none 0 0
@[reducible] def fq (k : Nat) : Value := Value.func (.func k) #[] #[]
@[reducible] def tq : Ty Int := tyInt .i64
@[reducible] def pq (g : Nat) : Value := ptr g 0
end Go.Proofs.YtfhifdmbdkkgaaaDoor.En
namespace Go.Proofs.YtfhifdmbdkkgaaaDoor
open Go.RowKit YtfhifdmbdkkgaaaDoor.En
set_option linter.unusedVariables false
set_option linter.unusedSimpArgs false
open Go.Value (int bool)
structure A8u8 where
  e0 : UInt8
  e1 : UInt8
  e2 : UInt8
  e3 : UInt8
  e4 : UInt8
  e5 : UInt8
  e6 : UInt8
  e7 : UInt8
  deriving DecidableEq
def tyA8u8 : Ty A8u8 := tyVia (fun x => (x.e0, (x.e1, (x.e2, (x.e3, (x.e4, (x.e5, (x.e6, x.e7)))))))) (tyPair tyU8 (tyPair tyU8 (tyPair tyU8 (tyPair tyU8 (tyPair tyU8 (tyPair tyU8 (tyPair tyU8 tyU8)))))))
def cA8u8 (x : A8u8) : List Value := [(int .u8 (x.e0.toNat : Int)), (int .u8 (x.e1.toNat : Int)), (int .u8 (x.e2.toNat : Int)), (int .u8 (x.e3.toNat : Int)), (int .u8 (x.e4.toNat : Int)), (int .u8 (x.e5.toNat : Int)), (int .u8 (x.e6.toNat : Int)), (int .u8 (x.e7.toNat : Int))]
def lA8u8 (x : A8u8) : List UInt8 := [x.e0, x.e1, x.e2, x.e3, x.e4, x.e5, x.e6, x.e7]
def vA8u8 (y : UInt8) : Value := (int .u8 (y.toNat : Int))
theorem oneA8u8 (x : A8u8) : ∀ u ∈ cA8u8 x, u.oneCell' = true := ones_map (enc := vA8u8) (xs := lA8u8 x) (fun _ => rfl)
theorem lenA8u8 (x : A8u8) : (lA8u8 x).length = 8 := rfl
theorem encA8u8 {Z w cs} {x : A8u8} (h : tyA8u8.rep Z w cs x) : cs = (cA8u8 x) := by
  obtain ⟨c0, d0, rfl, p0, q0⟩ := h
  obtain ⟨c1, d1, rfl, p1, q1⟩ := q0
  obtain ⟨c2, d2, rfl, p2, q2⟩ := q1
  obtain ⟨c3, d3, rfl, p3, q3⟩ := q2
  obtain ⟨c4, d4, rfl, p4, q4⟩ := q3
  obtain ⟨c5, d5, rfl, p5, q5⟩ := q4
  obtain ⟨c6, d6, rfl, p6, q6⟩ := q5
  rw [show _ = _ from p0]
  rw [show _ = _ from p1]
  rw [show _ = _ from p2]
  rw [show _ = _ from p3]
  rw [show _ = _ from p4]
  rw [show _ = _ from p5]
  rw [show _ = _ from p6]
  rw [show _ = _ from q6]
  rfl
theorem mkA8u8 {Z w cs} {x : A8u8} (h : cs = (cA8u8 x)) : tyA8u8.rep Z w cs x := by
  subst h
  exact ⟨_, _, (List.take_append_drop 1 _).symm, rfl, ⟨_, _, (List.take_append_drop 1 _).symm, rfl, ⟨_, _, (List.take_append_drop 1 _).symm, rfl, ⟨_, _, (List.take_append_drop 1 _).symm, rfl, ⟨_, _, (List.take_append_drop 1 _).symm, rfl, ⟨_, _, (List.take_append_drop 1 _).symm, rfl, ⟨_, _, (List.take_append_drop 1 _).symm, rfl, rfl⟩⟩⟩⟩⟩⟩⟩
theorem lrepA8u8 {Z w cs} {x : A8u8} (h : tyA8u8.rep Z w cs x) : RepL tyU8 Z w cs (lA8u8 x) := by
  rw [encA8u8 h]
  exact ⟨[_], _, rfl, rfl, ⟨[_], _, rfl, rfl, ⟨[_], _, rfl, rfl, ⟨[_], _, rfl, rfl, ⟨[_], _, rfl, rfl, ⟨[_], _, rfl, rfl, ⟨[_], _, rfl, rfl, ⟨[_], _, rfl, rfl, rfl⟩⟩⟩⟩⟩⟩⟩⟩
structure S_api_Blob where
  Kind : Int
  Bytes : (List UInt8)
  deriving DecidableEq
def tyS_api_Blob : Ty S_api_Blob := tyVia (fun x => (x.Kind, x.Bytes)) (tyPair (tyInt .i64) tyStr)
theorem encS_api_Blob {Z w cs} {x : S_api_Blob} (h : tyS_api_Blob.rep Z w cs x) : cs = [(int .i64 x.Kind), (str x.Bytes)] := by
  obtain ⟨c0, d0, rfl, p0, q0⟩ := h
  rw [show _ = _ from p0]
  rw [show _ = _ from q0]
  rfl
structure S_api_Token where
  Lit : Int
  Len : Int
  Dist : Int
  deriving DecidableEq
def tyS_api_Token : Ty S_api_Token := tyVia (fun x => (x.Lit, (x.Len, x.Dist))) (tyPair (tyInt .u8) (tyPair (tyInt .i64) (tyInt .i64)))
theorem encS_api_Token {Z w cs} {x : S_api_Token} (h : tyS_api_Token.rep Z w cs x) : cs = [(int .u8 x.Lit), (int .i64 x.Len), (int .i64 x.Dist)] := by
  obtain ⟨c0, d0, rfl, p0, q0⟩ := h
  obtain ⟨c1, d1, rfl, p1, q1⟩ := q0
  rw [show _ = _ from p0]
  rw [show _ = _ from p1]
  rw [show _ = _ from q1]
  rfl
theorem mkS_api_Token {Z w cs} {x : S_api_Token} (h : cs = [(int .u8 x.Lit), (int .i64 x.Len), (int .i64 x.Dist)]) : tyS_api_Token.rep Z w cs x := by
  subst h
  exact ⟨_, _, (List.take_append_drop 1 _).symm, rfl, ⟨_, _, (List.take_append_drop 1 _).symm, rfl, rfl⟩⟩
structure S_huff_tree where
  weight : Int
  least : Int
  symbols : (List Int)
  deriving DecidableEq
def tyS_huff_tree : Ty S_huff_tree := tyVia (fun x => (x.weight, (x.least, x.symbols))) (tyPair (tyInt .i64) (tyPair (tyInt .i64) (tyList (tyInt .i64))))
theorem subS_huff_tree_1 : Sub tyS_huff_tree 1 (tyInt .i64) (fun x => x.least) := Sub.via (Sub.snd (Sub.fst (Sub.whole _)))
theorem encnS_huff_tree {cs} {x : S_huff_tree} : ∀ Z w, (fDat tyS_huff_tree cs x).p Z w → ∃ j : Value, cs = [(int .i64 x.weight), (int .i64 x.least), j] ∧ ∀ g ∈ [(fDat (tyList (tyInt .i64)) [j] x.symbols)], g.p Z w := by
  intro Z w h
  obtain ⟨c0, d0, rfl, p0, q0⟩ := h
  obtain ⟨c1, d1, rfl, p1, q1⟩ := q0
  obtain rfl : c0 = [(int .i64 x.weight)] := p0
  obtain rfl : c1 = [(int .i64 x.least)] := p1
  obtain ⟨v2, rfl⟩ := one_of q1
  exact ⟨v2, rfl, (fall_cons q1 fall_nil)⟩
theorem mknS_huff_tree {Z w cs} {x : S_huff_tree} {v0 : Value} (hc : cs = [(int .i64 x.weight), (int .i64 x.least), v0]) (h0 : (tyList (tyInt .i64)).rep Z w [v0] x.symbols) : tyS_huff_tree.rep Z w cs x := by
  subst hc
  exact ⟨_, _, (List.take_append_drop 1 _).symm, rfl, ⟨_, _, (List.take_append_drop 1 _).symm, rfl, h0⟩⟩
structure A2i64 where
  e0 : Int
  e1 : Int
  deriving DecidableEq
def cA2i64 (x : A2i64) : List Value := [(int .i64 x.e0), (int .i64 x.e1)]
def lA2i64 (x : A2i64) : List Int := [x.e0, x.e1]
def vA2i64 (y : Int) : Value := (int .i64 y)
structure S_lumref_bunch where
  weight : Int
  signs : (List Int)
  deriving DecidableEq
def tyS_lumref_bunch : Ty S_lumref_bunch := tyVia (fun x => (x.weight, x.signs)) (tyPair (tyInt .i64) (tyList (tyInt .i64)))
theorem subS_lumref_bunch_0 : Sub tyS_lumref_bunch 0 (tyInt .i64) (fun x => x.weight) := Sub.via (Sub.fst (Sub.whole _))
theorem subS_lumref_bunch_1 : Sub tyS_lumref_bunch 1 (tyList (tyInt .i64)) (fun x => x.signs) := Sub.via (Sub.snd (Sub.whole _))
theorem encnS_lumref_bunch {cs} {x : S_lumref_bunch} : ∀ Z w, (fDat tyS_lumref_bunch cs x).p Z w → ∃ j : Value, cs = [(int .i64 x.weight), j] ∧ ∀ g ∈ [(fDat (tyList (tyInt .i64)) [j] x.signs)], g.p Z w := by
  intro Z w h
  obtain ⟨c0, d0, rfl, p0, q0⟩ := h
  obtain rfl : c0 = [(int .i64 x.weight)] := p0
  obtain ⟨v1, rfl⟩ := one_of q0
  exact ⟨v1, rfl, (fall_cons q0 fall_nil)⟩
theorem mknS_lumref_bunch {Z w cs} {x : S_lumref_bunch} {v0 : Value} (hc : cs = [(int .i64 x.weight), v0]) (h0 : (tyList (tyInt .i64)).rep Z w [v0] x.signs) : tyS_lumref_bunch.rep Z w cs x := by
  subst hc
  exact ⟨_, _, (List.take_append_drop 1 _).symm, rfl, h0⟩
structure D_huff_heap_huff_tree_ where
  items : (List S_huff_tree)
structure D_press_writer where
  out : (List UInt8)
  free : Int
def ofA8u8 (l : List UInt8) : A8u8 := match l.take 8 with | [e0, e1, e2, e3, e4, e5, e6, e7] => ⟨e0, e1, e2, e3, e4, e5, e6, e7⟩ | _ => ⟨0, 0, 0, 0, 0, 0, 0, 0⟩
theorem oflA8u8 {l : List UInt8} (hl : 8 ≤ l.length) {Z w cs} (hr : RepL tyU8 Z w cs (l.take 8)) : tyA8u8.rep Z w cs (ofA8u8 l) := by
  unfold ofA8u8
  have h8 : (l.take 8).length = 8 := by rw [List.length_take]; omega
  generalize l.take 8 = m at hr h8
  match m, h8, hr with
  | [e0, e1, e2, e3, e4, e5, e6, e7], _, hr => exact mkA8u8 (by rw [u8_cells hr]; rfl)
theorem coftA8u8 (l : List UInt8) (hl : l.length = 8) : cA8u8 (ofA8u8 l) = Lib.byteCells l := by
  match l, hl with
  | [e0, e1, e2, e3, e4, e5, e6, e7], _ => rfl
def cpA8u8 (x : A8u8) (l : List UInt8) : A8u8 := ofA8u8 (l.take 8 ++ (lA8u8 x).drop (l.take 8).length)
theorem ccpA8u8 (x : A8u8) (l : List UInt8) : cA8u8 (cpA8u8 x l) = Lib.byteCells (l.take 8) ++ (cA8u8 x).drop (l.take 8).length := by
  have h1 : (l.take 8).length ≤ 8 := by rw [List.length_take]; omega
  unfold cpA8u8
  rw [coftA8u8 _ (by rw [List.length_append, List.length_drop, lenA8u8]; omega)]
  unfold Lib.byteCells
  rw [List.map_append, List.map_drop]
  rfl
theorem cpcA8u8 (x : A8u8) (l : List UInt8) (pre post : List Value) : (pre ++ (cA8u8 x ++ post)).take pre.length ++ Lib.byteCells (l.take 8) ++ (pre ++ (cA8u8 x ++ post)).drop (pre.length + (l.take 8).length) = pre ++ (cA8u8 (cpA8u8 x l) ++ post) := by
  have h1 : (l.take 8).length ≤ (cA8u8 x).length := by rw [List.length_take]; exact Nat.min_le_left _ _
  rw [ccpA8u8, List.take_left, List.drop_append, List.drop_of_length_le (by omega), Nat.add_sub_cancel_left, List.drop_append_of_le_length h1]
  simp
theorem sz3 : szOf Tryd.prog 3 = some 1 := by kernel_rfl
theorem to3 : tyOf Tryd.prog 3 = some (1, 8, some (int .i64 (0 : Int))) := by kernel_rfl
theorem sz5 : szOf Tryd.prog 5 = some 1 := by kernel_rfl
theorem to5 : tyOf Tryd.prog 5 = some (1, 1, some (int .u8 (0 : Int))) := by kernel_rfl
theorem sz9 : szOf Tryd.prog 9 = some 1 := by kernel_rfl
theorem to9 : tyOf Tryd.prog 9 = some (1, 16, some (str ([] : List UInt8))) := by kernel_rfl
theorem sz28 : szOf Tryd.prog 28 = some 2 := by kernel_rfl
theorem to28 : tyOf Tryd.prog 28 = some (2, 24, some (ag [(int .i64 (0 : Int)), (str ([] : List UInt8))])) := by kernel_rfl
theorem to29 : tyOf Tryd.prog 29 = some (8, 8, some (ag [(int .u8 (0 : Int)), (int .u8 (0 : Int)), (int .u8 (0 : Int)), (int .u8 (0 : Int)), (int .u8 (0 : Int)), (int .u8 (0 : Int)), (int .u8 (0 : Int)), (int .u8 (0 : Int))])) := by kernel_rfl
theorem sz30 : szOf Tryd.prog 30 = some 8 := by kernel_rfl
theorem to30 : tyOf Tryd.prog 30 = some (8, 8, some (ag [(int .u8 (0 : Int)), (int .u8 (0 : Int)), (int .u8 (0 : Int)), (int .u8 (0 : Int)), (int .u8 (0 : Int)), (int .u8 (0 : Int)), (int .u8 (0 : Int)), (int .u8 (0 : Int))])) := by kernel_rfl
theorem sz71 : szOf Tryd.prog 71 = some 1 := by kernel_rfl
theorem to71 : tyOf Tryd.prog 71 = some (1, 24, some (Value.slice none 0 0)) := by kernel_rfl
theorem sz74 : szOf Tryd.prog 74 = some 1 := by kernel_rfl
theorem sz132 : szOf Tryd.prog 132 = some 3 := by kernel_rfl
theorem to132 : tyOf Tryd.prog 132 = some (3, 24, some (ag [(int .u8 (0 : Int)), (int .i64 (0 : Int)), (int .i64 (0 : Int))])) := by kernel_rfl
theorem sz138 : szOf Tryd.prog 138 = some 3 := by kernel_rfl
theorem to138 : tyOf Tryd.prog 138 = some (3, 40, some (ag [(int .i64 (0 : Int)), (int .i64 (0 : Int)), (Value.slice none 0 0)])) := by kernel_rfl
theorem sz140 : szOf Tryd.prog 140 = some 1 := by kernel_rfl
theorem sz141 : szOf Tryd.prog 141 = some 1 := by kernel_rfl
theorem to154 : tyOf Tryd.prog 154 = some (2, 32, some (ag [(Value.pointer none), (Value.slice none 0 0)])) := by kernel_rfl
theorem sz162 : szOf Tryd.prog 162 = some 0 := by kernel_rfl
theorem sz204 : szOf Tryd.prog 204 = some 2 := by kernel_rfl
theorem to204 : tyOf Tryd.prog 204 = some (2, 32, some (ag [(int .i64 (0 : Int)), (Value.slice none 0 0)])) := by kernel_rfl
theorem sz253 : szOf Tryd.prog 253 = some 0 := by kernel_rfl
theorem mixed : Tryd.prog.follows .mixedOrders = true := by kernel_rfl
theorem eg28 : Tryd.prog.eqGuardType Tryd.prog.depth 28 = false := by kernel_rfl
theorem kt28 : Tryd.prog.keyTypeAt 20 28 = true := by kernel_rfl
theorem lv28 : leaves Tryd.prog 20 28 = some [3, 9] := by kernel_rfl
theorem injS_api_Blob {x y : S_api_Blob} : (x == y) = true ↔ [(int .i64 x.Kind), (str x.Bytes)] = [(int .i64 y.Kind), (str y.Bytes)] := by
  rw [beq_iff_eq]
  constructor
  · rintro rfl; rfl
  · intro h
    obtain ⟨⟩ := x
    obtain ⟨⟩ := y
    simp only [S_api_Blob.mk.injEq, str, List.cons_append, List.nil_append, List.cons.injEq, Value.int.injEq, Value.bool.injEq, Value.string.injEq, ByteArray.mk.injEq, Array.mk.injEq, Int.natCast_inj, UInt8.toNat_inj, true_and, and_true] at h ⊢
    first | exact h | simpa [and_assoc] using h
theorem eg30 : Tryd.prog.eqGuardType Tryd.prog.depth 30 = false := by kernel_rfl
theorem kt30 : Tryd.prog.keyTypeAt 20 30 = true := by kernel_rfl
theorem lv30 : leaves Tryd.prog 20 30 = some [5, 5, 5, 5, 5, 5, 5, 5] := by kernel_rfl
theorem injA8u8 {x y : A8u8} : (x == y) = true ↔ (cA8u8 x) = (cA8u8 y) := by
  rw [beq_iff_eq]
  constructor
  · rintro rfl; rfl
  · intro h
    obtain ⟨⟩ := x
    obtain ⟨⟩ := y
    simp only [A8u8.mk.injEq, cA8u8, str, List.cons_append, List.nil_append, List.cons.injEq, Value.int.injEq, Value.bool.injEq, Value.string.injEq, ByteArray.mk.injEq, Array.mk.injEq, Int.natCast_inj, UInt8.toNat_inj, true_and, and_true] at h ⊢
    first | exact h | simpa [and_assoc] using h
theorem kd30 : Go.Maps.Keyed Tryd.prog 30 := Go.Maps.Keyed.of_law (Go.deep_law_laid (by kernel_rfl) (m := 20) (by decide) (Nat.le_of_ble_eq_true (by kernel_rfl)) (by kernel_rfl) (by kernel_rfl))
theorem kw30 (x : A8u8) : ∃ t, keyOf Tryd.prog 30 (ag (cA8u8 x)) = some t := key_wide (ls := [5, 5, 5, 5, 5, 5, 5, 5]) (by kernel_rfl) (by kernel_rfl) (by kernel_rfl) (by kernel_rfl) (fit_cons (fit_u8 Tryd.underlying5) (fit_cons (fit_u8 Tryd.underlying5) (fit_cons (fit_u8 Tryd.underlying5) (fit_cons (fit_u8 Tryd.underlying5) (fit_cons (fit_u8 Tryd.underlying5) (fit_cons (fit_u8 Tryd.underlying5) (fit_cons (fit_u8 Tryd.underlying5) (fit_cons (fit_u8 Tryd.underlying5) fit_nil))))))))
theorem ki30 (a b : A8u8) (h : (fun x : A8u8 => ag (cA8u8 x)) a = (fun x : A8u8 => ag (cA8u8 x)) b) : a = b := eq_of_beq (injA8u8.2 (ag_inj h))
def okS_api_Blob (x : S_api_Blob) : Prop := ((Lit.int .i64 x.Kind).wf = true) ∧ (x.Bytes.length ≤ 9223372036854775807)
set_option maxRecDepth 100000 in
theorem opnS_api_Blob {H : Type} : Opn H Tryd.prog 28 tyS_api_Blob okS_api_Blob := opn_struct (fun x => (x.Kind, x.Bytes)) (fun y => S_api_Blob.mk y.1 y.2) (fun _ => rfl) Tryd.underlying28 sz28 (fields_cons sz3 (opn_int Tryd.underlying3) (fields_one sz9 (opn_str Tryd.underlying9)))
theorem f_put8_ok {g off t : Nat} {a2 : Int} {cs cs' : List Value} (hc : 0 ≤ a2 ∧ a2 < 18446744073709551616) (hfit : off + 8 ≤ cs.length) (hcs : cs.take off ++ Lib.byteCells ((Lib.beBytes 8 a2.toNat).take 8) ++ cs.drop (off + ((Lib.beBytes 8 a2.toNat).take 8).length) = cs') :
    FnOk Tryd.prog 103 [(ag []), (sbx g off 8), (uq a2)] [] [oBox g t cs] (fun _ : Unit => { val := .tuple #[], own := [oBox g t cs'] }) := by
  obtain ⟨n, rfl⟩ : ∃ n : Nat, a2 = n := ⟨a2.toNat, by omega⟩
  have hl : (Lib.beBytes 8 n).length = 8 := Lib.beBytes_length 8 n
  have hcs' : cs.take off ++ Lib.byteCells (Lib.beBytes 8 n) ++ cs.drop (off + 8) = cs' := by
    have e : (Lib.beBytes 8 ((n : Int).toNat)).take 8 = Lib.beBytes 8 n := by rw [Int.toNat_natCast, List.take_of_length_le (by omega)]
    rw [e, hl] at hcs; exact hcs
  exact fnok_put8 hl hfit hcs' (fun x0 x1 x2 x3 x4 x5 x6 x7 w c0 c1 c2 c3 c4 c5 c6 c7 f0 f1 f2 f3 f4 f5 f6 f7 => Tryd.binary_BE_PutUint64 g off 8 8 n (by omega) x0 x1 x2 x3 x4 x5 x6 x7 w (by omega) c0 c1 c2 c3 c4 c5 c6 c7 f0 f1 f2 f3 f4 f5 f6 f7)
def f_pack_Known (fu : Nat) (a0 : Int) : Option Bool := (lt (fun (j1b2 : Bool) => (some j1b2)) fun (kk2 : Bool → Option Bool) => (bif (decide (a0 ≥ (1 : Int))) then (kk2 (decide (a0 ≤ (3 : Int)))) else (kk2 false)))
set_option maxHeartbeats 2000000 in
set_option maxRecDepth 100000 in
theorem f_pack_Known_ok (fu : Nat) (a0 : Int) {r : Bool} (h : f_pack_Known fu a0 = some r) : FnOk Tryd.prog 45 [(int .i64 a0)] [] [] (fun (i : Unit) => { val := (bool r) }) := by
 unfold f_pack_Known at h
 refine fn_enter Tryd.func45 rfl Tryd.ntmps45 rfl (fun w0 Z0 => ?_)
 refine aw_sr ?_
 refine al_as rfl rfl ?_
 refine al_nt ?_
 obtain ⟨kk2, hkk2, h⟩ := lt_some h
 refine aw_seq_join (ι := Bool) (fun i => (memOf w0 Z0 [] [] [])) (fun i => (tab [(2, (bool i))])) (fun i => kk2 i = some r) ?_ ?_
 ·rintro j1b2 h
  have h : kk2 j1b2 = some r := h
  rw [hkk2] at h
  dsimp only at h
  clear hkk2
  refine aw_show (m := (memOf w0 Z0 [] [] [])) (S := (tab [(2, (bool j1b2))])) ?_
  refine aw_ret ?_
  obtain rfl := Option.some.inj h
  exact fn_ret () [] [] rfl rfl rfl rfl (res1 rfl rfl) rfl rfl rfl (by decide)
 ·clear hkk2
  refine aw_region ?_
  refine al_mv rfl rfl ?_
  refine al_in rfl rfl rfl rfl ?_
  refine al_mv rfl rfl ?_
  refine al_caseB 5 rfl (fun hb3 => ?_) (fun hb3 => ?_)
  ·replace h := bif_t hb3 h
   refine al_mv rfl rfl ?_
   refine al_in rfl rfl rfl rfl ?_
   refine al_val (ov_pick_t rfl rfl rfl) ?_
   refine al_as rfl rfl ?_
   refine al_nil ?_
   exact aq_join (decide (a0 ≤ (3 : Int))) h (fun w a hm hs => norm hm hs [] [] [(2, (bool (decide (a0 ≤ (3 : Int)))))] (by decide) ⟨rfl, trivial⟩)
  ·replace h := bif_f hb3 h
   refine al_skip ?_
   refine al_skip ?_
   refine al_val (ov_pick_f rfl rfl rfl) ?_
   refine al_as rfl rfl ?_
   refine al_nil ?_
   exact aq_join false h (fun w a hm hs => norm hm hs [] [] [(2, (bool false))] (by decide) ⟨rfl, trivial⟩)
def f__binary_littleEndian__Uint64 (fu : Nat) (a0 : Unit) (a1 : (List UInt8)) : Option Int := (opt (at? a1 (7 : Int)) fun (u2 : UInt8) => (opt (at? a1 (0 : Int)) fun (u5 : UInt8) => (opt (at? a1 (1 : Int)) fun (u8 : UInt8) => (opt (at? a1 (2 : Int)) fun (u11 : UInt8) => (opt (at? a1 (3 : Int)) fun (u14 : UInt8) => (opt (at? a1 (4 : Int)) fun (u17 : UInt8) => (opt (at? a1 (5 : Int)) fun (u20 : UInt8) => (opt (at? a1 (6 : Int)) fun (u23 : UInt8) => (opt (at? a1 (7 : Int)) fun (u26 : UInt8) => (some (bits .or .u64 (bits .or .u64 (bits .or .u64 (bits .or .u64 (bits .or .u64 (bits .or .u64 (bits .or .u64 (IntKind.u64.wrap (u5.toNat : Int)) (IntKind.u64.wrap ((IntKind.u64.wrap (u8.toNat : Int)) * 2 ^ min ((8 : Int)).toNat (IntKind.bits .u64)))) (IntKind.u64.wrap ((IntKind.u64.wrap (u11.toNat : Int)) * 2 ^ min ((16 : Int)).toNat (IntKind.bits .u64)))) (IntKind.u64.wrap ((IntKind.u64.wrap (u14.toNat : Int)) * 2 ^ min ((24 : Int)).toNat (IntKind.bits .u64)))) (IntKind.u64.wrap ((IntKind.u64.wrap (u17.toNat : Int)) * 2 ^ min ((32 : Int)).toNat (IntKind.bits .u64)))) (IntKind.u64.wrap ((IntKind.u64.wrap (u20.toNat : Int)) * 2 ^ min ((40 : Int)).toNat (IntKind.bits .u64)))) (IntKind.u64.wrap ((IntKind.u64.wrap (u23.toNat : Int)) * 2 ^ min ((48 : Int)).toNat (IntKind.bits .u64)))) (IntKind.u64.wrap ((IntKind.u64.wrap (u26.toNat : Int)) * 2 ^ min ((56 : Int)).toNat (IntKind.bits .u64))))))))))))))
set_option maxHeartbeats 2000000 in
set_option maxRecDepth 100000 in
theorem f__binary_littleEndian__Uint64_ok (fu : Nat) (a0 : Unit) (v1_0 : Value) (a1 : (List UInt8)) {r : Int} (h : f__binary_littleEndian__Uint64 fu a0 a1 = some r) : FnOk Tryd.prog 188 [(ag []), v1_0] [(fDat (tyList tyU8) [v1_0] a1)] [] (fun (i : Unit) => { val := (int .u64 r) }) := by
 unfold f__binary_littleEndian__Uint64 at h
 refine fn_enter Tryd.func188 rfl Tryd.ntmps188 rfl (fun w0 Z0 => ?_)
 refine aw_sr ?_
 refine al_box (vs := []) rfl (cv_rfl rfl) rfl (fun g1 => ?_)
 refine al_as rfl rfl ?_
 refine al_nt ?_
 refine aw_sr ?_
 refine al_mv rfl rfl ?_
 obtain ⟨u2, hu3, h⟩ := opt_some h
 refine al_idxD 0 hu3 rfl rfl rfl Tryd.underlying74 sz5 rfl (fun p4 => ?_)
 refine al_val (ov_loadP (ds := [(i8 (u2.toNat : Int))]) 0 rfl (fun h => h) rfl Tryd.underlying5 sz5 rfl rfl rfl) ?_
 refine al_nt ?_
 refine aw_seq ?_
 obtain ⟨u5, hu6, h⟩ := opt_some h
 obtain ⟨u8, hu9, h⟩ := opt_some h
 obtain ⟨u11, hu12, h⟩ := opt_some h
 obtain ⟨u14, hu15, h⟩ := opt_some h
 obtain ⟨u17, hu18, h⟩ := opt_some h
 obtain ⟨u20, hu21, h⟩ := opt_some h
 obtain ⟨u23, hu24, h⟩ := opt_some h
 obtain ⟨u26, hu27, h⟩ := opt_some h
 refine aw_region_draw 46 [(8, (fun u => fEq u v1_0)), (9, (fun p7 => (fPtr tyU8 p7 u5))), (10, (fun u => fEq u (i8 (u5.toNat : Int)))), (11, (fun u => fEq u (uq (wu (u5.toNat : Int))))), (12, (fun u => fEq u v1_0)), (13, (fun p10 => (fPtr tyU8 p10 u8))), (14, (fun u => fEq u (i8 (u8.toNat : Int)))), (15, (fun u => fEq u (uq (wu (u8.toNat : Int))))), (16, (fun u => fEq u (uq (wu ((wu (u8.toNat : Int)) * 2 ^ min ((8 : Int)).toNat (IntKind.bits .u64)))))), (17, (fun u => fEq u (uq (bits .or .u64 (wu (u5.toNat : Int)) (wu ((wu (u8.toNat : Int)) * 2 ^ min ((8 : Int)).toNat (IntKind.bits .u64))))))), (18, (fun u => fEq u v1_0)), (19, (fun p13 => (fPtr tyU8 p13 u11))), (20, (fun u => fEq u (i8 (u11.toNat : Int)))), (21, (fun u => fEq u (uq (wu (u11.toNat : Int))))), (22, (fun u => fEq u (uq (wu ((wu (u11.toNat : Int)) * 2 ^ min ((16 : Int)).toNat (IntKind.bits .u64)))))), (23, (fun u => fEq u (uq (bits .or .u64 (bits .or .u64 (wu (u5.toNat : Int)) (wu ((wu (u8.toNat : Int)) * 2 ^ min ((8 : Int)).toNat (IntKind.bits .u64)))) (wu ((wu (u11.toNat : Int)) * 2 ^ min ((16 : Int)).toNat (IntKind.bits .u64))))))), (24, (fun u => fEq u v1_0)), (25, (fun p16 => (fPtr tyU8 p16 u14))), (26, (fun u => fEq u (i8 (u14.toNat : Int)))), (27, (fun u => fEq u (uq (wu (u14.toNat : Int))))), (28, (fun u => fEq u (uq (wu ((wu (u14.toNat : Int)) * 2 ^ min ((24 : Int)).toNat (IntKind.bits .u64)))))), (29, (fun u => fEq u (uq (bits .or .u64 (bits .or .u64 (bits .or .u64 (wu (u5.toNat : Int)) (wu ((wu (u8.toNat : Int)) * 2 ^ min ((8 : Int)).toNat (IntKind.bits .u64)))) (wu ((wu (u11.toNat : Int)) * 2 ^ min ((16 : Int)).toNat (IntKind.bits .u64)))) (wu ((wu (u14.toNat : Int)) * 2 ^ min ((24 : Int)).toNat (IntKind.bits .u64))))))), (30, (fun u => fEq u v1_0)), (31, (fun p19 => (fPtr tyU8 p19 u17))), (32, (fun u => fEq u (i8 (u17.toNat : Int)))), (33, (fun u => fEq u (uq (wu (u17.toNat : Int))))), (34, (fun u => fEq u (uq (wu ((wu (u17.toNat : Int)) * 2 ^ min ((32 : Int)).toNat (IntKind.bits .u64)))))), (35, (fun u => fEq u (uq (bits .or .u64 (bits .or .u64 (bits .or .u64 (bits .or .u64 (wu (u5.toNat : Int)) (wu ((wu (u8.toNat : Int)) * 2 ^ min ((8 : Int)).toNat (IntKind.bits .u64)))) (wu ((wu (u11.toNat : Int)) * 2 ^ min ((16 : Int)).toNat (IntKind.bits .u64)))) (wu ((wu (u14.toNat : Int)) * 2 ^ min ((24 : Int)).toNat (IntKind.bits .u64)))) (wu ((wu (u17.toNat : Int)) * 2 ^ min ((32 : Int)).toNat (IntKind.bits .u64))))))), (36, (fun u => fEq u v1_0)), (37, (fun p22 => (fPtr tyU8 p22 u20))), (38, (fun u => fEq u (i8 (u20.toNat : Int)))), (39, (fun u => fEq u (uq (wu (u20.toNat : Int))))), (40, (fun u => fEq u (uq (wu ((wu (u20.toNat : Int)) * 2 ^ min ((40 : Int)).toNat (IntKind.bits .u64)))))), (41, (fun u => fEq u (uq (bits .or .u64 (bits .or .u64 (bits .or .u64 (bits .or .u64 (bits .or .u64 (wu (u5.toNat : Int)) (wu ((wu (u8.toNat : Int)) * 2 ^ min ((8 : Int)).toNat (IntKind.bits .u64)))) (wu ((wu (u11.toNat : Int)) * 2 ^ min ((16 : Int)).toNat (IntKind.bits .u64)))) (wu ((wu (u14.toNat : Int)) * 2 ^ min ((24 : Int)).toNat (IntKind.bits .u64)))) (wu ((wu (u17.toNat : Int)) * 2 ^ min ((32 : Int)).toNat (IntKind.bits .u64)))) (wu ((wu (u20.toNat : Int)) * 2 ^ min ((40 : Int)).toNat (IntKind.bits .u64))))))), (42, (fun u => fEq u v1_0)), (43, (fun p25 => (fPtr tyU8 p25 u23))), (44, (fun u => fEq u (i8 (u23.toNat : Int)))), (45, (fun u => fEq u (uq (wu (u23.toNat : Int))))), (46, (fun u => fEq u (uq (wu ((wu (u23.toNat : Int)) * 2 ^ min ((48 : Int)).toNat (IntKind.bits .u64)))))), (47, (fun u => fEq u (uq (bits .or .u64 (bits .or .u64 (bits .or .u64 (bits .or .u64 (bits .or .u64 (bits .or .u64 (wu (u5.toNat : Int)) (wu ((wu (u8.toNat : Int)) * 2 ^ min ((8 : Int)).toNat (IntKind.bits .u64)))) (wu ((wu (u11.toNat : Int)) * 2 ^ min ((16 : Int)).toNat (IntKind.bits .u64)))) (wu ((wu (u14.toNat : Int)) * 2 ^ min ((24 : Int)).toNat (IntKind.bits .u64)))) (wu ((wu (u17.toNat : Int)) * 2 ^ min ((32 : Int)).toNat (IntKind.bits .u64)))) (wu ((wu (u20.toNat : Int)) * 2 ^ min ((40 : Int)).toNat (IntKind.bits .u64)))) (wu ((wu (u23.toNat : Int)) * 2 ^ min ((48 : Int)).toNat (IntKind.bits .u64))))))), (48, (fun u => fEq u v1_0)), (49, (fun p28 => (fPtr tyU8 p28 u26))), (50, (fun u => fEq u (i8 (u26.toNat : Int)))), (51, (fun u => fEq u (uq (wu (u26.toNat : Int))))), (52, (fun u => fEq u (uq (wu ((wu (u26.toNat : Int)) * 2 ^ min ((56 : Int)).toNat (IntKind.bits .u64)))))), (53, (fun u => fEq u (uq (bits .or .u64 (bits .or .u64 (bits .or .u64 (bits .or .u64 (bits .or .u64 (bits .or .u64 (bits .or .u64 (wu (u5.toNat : Int)) (wu ((wu (u8.toNat : Int)) * 2 ^ min ((8 : Int)).toNat (IntKind.bits .u64)))) (wu ((wu (u11.toNat : Int)) * 2 ^ min ((16 : Int)).toNat (IntKind.bits .u64)))) (wu ((wu (u14.toNat : Int)) * 2 ^ min ((24 : Int)).toNat (IntKind.bits .u64)))) (wu ((wu (u17.toNat : Int)) * 2 ^ min ((32 : Int)).toNat (IntKind.bits .u64)))) (wu ((wu (u20.toNat : Int)) * 2 ^ min ((40 : Int)).toNat (IntKind.bits .u64)))) (wu ((wu (u23.toNat : Int)) * 2 ^ min ((48 : Int)).toNat (IntKind.bits .u64)))) (wu ((wu (u26.toNat : Int)) * 2 ^ min ((56 : Int)).toNat (IntKind.bits .u64)))))))] (tab [(1, v1_0), (4, (uq (0 : Int)))]) mixed (by kernel_rfl) rfl rfl rfl (fun a hs => hs.tab _ (allT_mem ⟨rfl, rfl, trivial⟩)) ⟨⟨rfl, ld_val (ov_move rfl rfl)⟩, ⟨rfl, ld_eq (j := 0) rfl rfl (ld_of (of_idxD 1 hu6 rfl rfl rfl Tryd.underlying74 sz5 rfl))⟩, ⟨rfl, ld_fact (j := 1) rfl rfl (fun p7 => ld_val (ov_loadP (ds := [(i8 (u5.toNat : Int))]) 0 rfl (fun h => h) rfl Tryd.underlying5 sz5 rfl rfl rfl))⟩, ⟨rfl, ld_eq (j := 2) rfl rfl (ld_val (ov_convInt (by rw [Tryd.underlying5]; rfl) Tryd.underlying76 rfl rfl))⟩, ⟨rfl, ld_val (ov_move rfl rfl)⟩, ⟨rfl, ld_eq (j := 4) rfl rfl (ld_of (of_idxD 1 hu9 rfl rfl rfl Tryd.underlying74 sz5 rfl))⟩, ⟨rfl, ld_fact (j := 5) rfl rfl (fun p10 => ld_val (ov_loadP (ds := [(i8 (u8.toNat : Int))]) 0 rfl (fun h => h) rfl Tryd.underlying5 sz5 rfl rfl rfl))⟩, ⟨rfl, ld_eq (j := 6) rfl rfl (ld_val (ov_convInt (by rw [Tryd.underlying5]; rfl) Tryd.underlying76 rfl rfl))⟩, ⟨rfl, ld_eq (j := 7) rfl rfl (ld_val (ov_shl (by decide) rfl rfl rfl))⟩, ⟨rfl, ld_eq (j := 3) rfl rfl (ld_eq (j := 8) rfl rfl (ld_val (ov_int rfl rfl rfl rfl)))⟩, ⟨rfl, ld_val (ov_move rfl rfl)⟩, ⟨rfl, ld_eq (j := 10) rfl rfl (ld_of (of_idxD 1 hu12 rfl rfl rfl Tryd.underlying74 sz5 rfl))⟩, ⟨rfl, ld_fact (j := 11) rfl rfl (fun p13 => ld_val (ov_loadP (ds := [(i8 (u11.toNat : Int))]) 0 rfl (fun h => h) rfl Tryd.underlying5 sz5 rfl rfl rfl))⟩, ⟨rfl, ld_eq (j := 12) rfl rfl (ld_val (ov_convInt (by rw [Tryd.underlying5]; rfl) Tryd.underlying76 rfl rfl))⟩, ⟨rfl, ld_eq (j := 13) rfl rfl (ld_val (ov_shl (by decide) rfl rfl rfl))⟩, ⟨rfl, ld_eq (j := 9) rfl rfl (ld_eq (j := 14) rfl rfl (ld_val (ov_int rfl rfl rfl rfl)))⟩, ⟨rfl, ld_val (ov_move rfl rfl)⟩, ⟨rfl, ld_eq (j := 16) rfl rfl (ld_of (of_idxD 1 hu15 rfl rfl rfl Tryd.underlying74 sz5 rfl))⟩, ⟨rfl, ld_fact (j := 17) rfl rfl (fun p16 => ld_val (ov_loadP (ds := [(i8 (u14.toNat : Int))]) 0 rfl (fun h => h) rfl Tryd.underlying5 sz5 rfl rfl rfl))⟩, ⟨rfl, ld_eq (j := 18) rfl rfl (ld_val (ov_convInt (by rw [Tryd.underlying5]; rfl) Tryd.underlying76 rfl rfl))⟩, ⟨rfl, ld_eq (j := 19) rfl rfl (ld_val (ov_shl (by decide) rfl rfl rfl))⟩, ⟨rfl, ld_eq (j := 15) rfl rfl (ld_eq (j := 20) rfl rfl (ld_val (ov_int rfl rfl rfl rfl)))⟩, ⟨rfl, ld_val (ov_move rfl rfl)⟩, ⟨rfl, ld_eq (j := 22) rfl rfl (ld_of (of_idxD 1 hu18 rfl rfl rfl Tryd.underlying74 sz5 rfl))⟩, ⟨rfl, ld_fact (j := 23) rfl rfl (fun p19 => ld_val (ov_loadP (ds := [(i8 (u17.toNat : Int))]) 0 rfl (fun h => h) rfl Tryd.underlying5 sz5 rfl rfl rfl))⟩, ⟨rfl, ld_eq (j := 24) rfl rfl (ld_val (ov_convInt (by rw [Tryd.underlying5]; rfl) Tryd.underlying76 rfl rfl))⟩, ⟨rfl, ld_eq (j := 25) rfl rfl (ld_val (ov_shl (by decide) rfl rfl rfl))⟩, ⟨rfl, ld_eq (j := 21) rfl rfl (ld_eq (j := 26) rfl rfl (ld_val (ov_int rfl rfl rfl rfl)))⟩, ⟨rfl, ld_val (ov_move rfl rfl)⟩, ⟨rfl, ld_eq (j := 28) rfl rfl (ld_of (of_idxD 1 hu21 rfl rfl rfl Tryd.underlying74 sz5 rfl))⟩, ⟨rfl, ld_fact (j := 29) rfl rfl (fun p22 => ld_val (ov_loadP (ds := [(i8 (u20.toNat : Int))]) 0 rfl (fun h => h) rfl Tryd.underlying5 sz5 rfl rfl rfl))⟩, ⟨rfl, ld_eq (j := 30) rfl rfl (ld_val (ov_convInt (by rw [Tryd.underlying5]; rfl) Tryd.underlying76 rfl rfl))⟩, ⟨rfl, ld_eq (j := 31) rfl rfl (ld_val (ov_shl (by decide) rfl rfl rfl))⟩, ⟨rfl, ld_eq (j := 27) rfl rfl (ld_eq (j := 32) rfl rfl (ld_val (ov_int rfl rfl rfl rfl)))⟩, ⟨rfl, ld_val (ov_move rfl rfl)⟩, ⟨rfl, ld_eq (j := 34) rfl rfl (ld_of (of_idxD 1 hu24 rfl rfl rfl Tryd.underlying74 sz5 rfl))⟩, ⟨rfl, ld_fact (j := 35) rfl rfl (fun p25 => ld_val (ov_loadP (ds := [(i8 (u23.toNat : Int))]) 0 rfl (fun h => h) rfl Tryd.underlying5 sz5 rfl rfl rfl))⟩, ⟨rfl, ld_eq (j := 36) rfl rfl (ld_val (ov_convInt (by rw [Tryd.underlying5]; rfl) Tryd.underlying76 rfl rfl))⟩, ⟨rfl, ld_eq (j := 37) rfl rfl (ld_val (ov_shl (by decide) rfl rfl rfl))⟩, ⟨rfl, ld_eq (j := 33) rfl rfl (ld_eq (j := 38) rfl rfl (ld_val (ov_int rfl rfl rfl rfl)))⟩, ⟨rfl, ld_val (ov_move rfl rfl)⟩, ⟨rfl, ld_eq (j := 40) rfl rfl (ld_of (of_idxD 1 hu27 rfl rfl rfl Tryd.underlying74 sz5 rfl))⟩, ⟨rfl, ld_fact (j := 41) rfl rfl (fun p28 => ld_val (ov_loadP (ds := [(i8 (u26.toNat : Int))]) 0 rfl (fun h => h) rfl Tryd.underlying5 sz5 rfl rfl rfl))⟩, ⟨rfl, ld_eq (j := 42) rfl rfl (ld_val (ov_convInt (by rw [Tryd.underlying5]; rfl) Tryd.underlying76 rfl rfl))⟩, ⟨rfl, ld_eq (j := 43) rfl rfl (ld_val (ov_shl (by decide) rfl rfl rfl))⟩, ⟨rfl, ld_eq (j := 39) rfl rfl (ld_eq (j := 44) rfl rfl (ld_val (ov_int rfl rfl rfl rfl)))⟩, trivial⟩ ?_
 refine tl_eq 45 rfl ?_
 refine tl_done ?_
 refine al_as rfl rfl ?_
 refine al_nt ?_
 refine aw_ret ?_
 obtain rfl := Option.some.inj h
 exact fn_ret () [] [] rfl rfl rfl rfl (res1 rfl rfl) rfl rfl rfl (by decide)
def f_mix_Step (fu : Nat) (a0 : Int) (a1 : Int) : Option Int := (some (bits .xor .u64 (IntKind.u64.wrap ((bits .xor .u64 (IntKind.u64.wrap ((bits .xor .u64 a0 a1) * (11400714819323198485 : Int))) (((IntKind.u64.wrap ((bits .xor .u64 a0 a1) * (11400714819323198485 : Int)))).fdiv (2 ^ min ((29 : Int)).toNat (IntKind.bits .u64)))) * (13787848793156543929 : Int))) (((IntKind.u64.wrap ((bits .xor .u64 (IntKind.u64.wrap ((bits .xor .u64 a0 a1) * (11400714819323198485 : Int))) (((IntKind.u64.wrap ((bits .xor .u64 a0 a1) * (11400714819323198485 : Int)))).fdiv (2 ^ min ((29 : Int)).toNat (IntKind.bits .u64)))) * (13787848793156543929 : Int)))).fdiv (2 ^ min ((32 : Int)).toNat (IntKind.bits .u64)))))
set_option maxHeartbeats 2000000 in
set_option maxRecDepth 100000 in
theorem f_mix_Step_ok (fu : Nat) (a0 : Int) (a1 : Int) {r : Int} (h : f_mix_Step fu a0 a1 = some r) : FnOk Tryd.prog 187 [(int .u64 a0), (int .u64 a1)] [] [] (fun (i : Unit) => { val := (int .u64 r) }) := by
 unfold f_mix_Step at h
 refine fn_enter Tryd.func187 rfl Tryd.ntmps187 rfl (fun w0 Z0 => ?_)
 refine aw_sr ?_
 refine al_as rfl rfl ?_
 refine al_nt ?_
 refine aw_sr ?_
 refine al_mv rfl rfl ?_
 refine al_mv rfl rfl ?_
 refine al_in rfl rfl rfl rfl ?_
 refine al_in rfl rfl rfl rfl ?_
 refine al_as rfl rfl ?_
 refine al_nt ?_
 refine aw_sr ?_
 refine al_mv rfl rfl ?_
 refine al_mv rfl rfl ?_
 refine al_val (ov_shr (by decide) rfl rfl rfl) ?_
 refine al_in rfl rfl rfl rfl ?_
 refine al_in rfl rfl rfl rfl ?_
 refine al_as rfl rfl ?_
 refine al_nt ?_
 refine aw_sr ?_
 refine al_mv rfl rfl ?_
 refine al_mv rfl rfl ?_
 refine al_val (ov_shr (by decide) rfl rfl rfl) ?_
 refine al_in rfl rfl rfl rfl ?_
 refine al_as rfl rfl ?_
 refine al_nt ?_
 refine aw_ret ?_
 obtain rfl := Option.some.inj h
 exact fn_ret () [] [] rfl rfl rfl rfl (res1 rfl rfl) rfl rfl rfl (by decide)
def f_mix_sum_L7 (a1 : Int) (kk2 : (Int → Option Int)) (fu : Nat) : Nat → (List UInt8) → Int → Option Int
  | 0, _, _ => none
  | k6 + 1, l5s0, l5i5 => (bif (!(l5s0 == ([] : List UInt8))) then (req (0 ≤ ((Nat.min l5s0.length 8 : Nat) : Int) ∧ ((Nat.min l5s0.length 8 : Nat) : Int) ≤ (l5s0.length : Int)) (opt (f__binary_littleEndian__Uint64 fu () (lA8u8 (cpA8u8 (A8u8.mk (0 : UInt8) (0 : UInt8) (0 : UInt8) (0 : UInt8) (0 : UInt8) (0 : UInt8) (0 : UInt8) (0 : UInt8)) l5s0))) fun (r13 : Int) => (opt (f_mix_Step fu l5i5 r13) fun (r15 : Int) => (f_mix_sum_L7 a1 kk2 fu k6 (l5s0.drop (((Nat.min l5s0.length 8 : Nat) : Int)).toNat) (bits .and .u64 r15 a1))))) else (kk2 l5i5))
def f_mix_sum (fu : Nat) (a0 : (List UInt8)) (a1 : Int) : Option Int := (lt (fun (j1i5 : Int) => (opt (f_mix_Step fu j1i5 (IntKind.u64.wrap (a0.length : Int))) fun (r4 : Int) => (some (bits .and .u64 r4 a1)))) fun (kk2 : Int → Option Int) => (f_mix_sum_L7 a1 kk2 fu fu a0 (0 : Int)))
set_option maxHeartbeats 2000000 in
set_option maxRecDepth 100000 in
theorem f_mix_sum_ok (fu : Nat) (a0 : (List UInt8)) (a1 : Int) {r : Int} (h : f_mix_sum fu a0 a1 = some r) : FnOk Tryd.prog 154 [(str a0), (int .u64 a1)] [] [] (fun (i : Unit) => { val := (int .u64 r) }) := by
 unfold f_mix_sum at h
 refine fn_enter Tryd.func154 rfl Tryd.ntmps154 rfl (fun w0 Z0 => ?_)
 refine aw_sr ?_
 refine al_as rfl rfl ?_
 refine al_nt ?_
 refine aw_sr ?_
 refine al_mv rfl rfl ?_
 refine al_val (ov_strLen Tryd.underlying9 rfl rfl) ?_
 refine al_val (ov_convInt (by rw [Tryd.underlying3]; rfl) Tryd.underlying76 rfl rfl) ?_
 refine al_as rfl rfl ?_
 refine al_as rfl rfl ?_
 refine al_nt ?_
 obtain ⟨kk2, hkk2, h⟩ := lt_some h
 refine aw_seq_join (ι := Int) (fun i => (memOf w0 Z0 [] [] [])) (fun i => (tab [(1, (uq a1)), (5, (uq i)), (6, (uq (wu (a0.length : Int))))])) (fun i => kk2 i = some r) ?_ ?_
 ·rintro j1i5 h
  have h : kk2 j1i5 = some r := h
  rw [hkk2] at h
  dsimp only at h
  clear hkk2
  refine aw_show (m := (memOf w0 Z0 [] [] [])) (S := (tab [(1, (uq a1)), (5, (uq j1i5)), (6, (uq (wu (a0.length : Int))))])) ?_
  refine aw_sr ?_
  refine al_mv rfl rfl ?_
  refine al_mv rfl rfl ?_
  obtain ⟨r4, hc3, h⟩ := opt_some h
  refine al_call (vs := [(uq j1i5), (uq (wu (a0.length : Int)))]) (f_mix_Step_ok fu j1i5 (wu (a0.length : Int)) hc3) [] [] [] pre_nil rfl (by simp) (by decide) (.inl rfl) rfl Tryd.func187 rfl rfl rfl (fun _ => ?_)
  refine al_mv rfl rfl ?_
  refine al_in rfl rfl rfl rfl ?_
  refine al_as rfl rfl ?_
  refine al_nt ?_
  refine aw_ret ?_
  obtain rfl := Option.some.inj h
  exact fn_ret () [] [] rfl rfl rfl rfl (res1 rfl rfl) rfl rfl rfl (by decide)
 ·clear hkk2
  refine aw_block ?_
  refine aw_state (aw_loop (ι := (List UInt8) × Int) (fun i => (memOf w0 Z0 [] [] [])) (fun i => (tab [(0, (str i.1)), (1, (uq a1)), (5, (uq i.2)), (6, (uq (wu (a0.length : Int))))])) (fun q i => f_mix_sum_L7 a1 kk2 fu q i.1 i.2 = some r) ?_ fu (a0, (0 : Int)) h) (fun w a hm hs => norm hm hs [] [] [(0, (str a0)), (1, (uq a1)), (5, (uq (0 : Int))), (6, (uq (wu (a0.length : Int))))] (by decide) ⟨rfl, rfl, rfl, rfl, trivial⟩)
  clear h
  rintro k6 ⟨l5s0, l5i5⟩ h
  have h : f_mix_sum_L7 a1 kk2 fu k6 l5s0 l5i5 = some r := h
  obtain _ | k6 := k6
  · rw [f_mix_sum_L7] at h; cases h
  rw [f_mix_sum_L7] at h
  refine aw_show (m := (memOf w0 Z0 [] [] [])) (S := (tab [(0, (str l5s0)), (1, (uq a1)), (5, (uq l5i5)), (6, (uq (wu (a0.length : Int))))])) ?_
  refine aw_seq ?_
  refine aw_sr ?_
  refine al_mv rfl rfl ?_
  refine al_val (ov_strCmp rfl rfl rfl rfl) ?_
  refine al_nt ?_
  refine aw_cond rfl (fun hb8 => ?_) (fun hb8 => ?_)
  ·replace h := bif_t hb8 h
   refine aw_skip ?_
   refine aq_then ?_
   refine aw_block ?_
   refine aw_sr ?_
   refine al_alloc (zs := (cA8u8 (A8u8.mk (0 : UInt8) (0 : UInt8) (0 : UInt8) (0 : UInt8) (0 : UInt8) (0 : UInt8) (0 : UInt8) (0 : UInt8)))) (zeroOf_to to29) rfl rfl (fun g9 => ?_)
   refine al_nt ?_
   refine aw_sr ?_
   refine al_mv rfl rfl ?_
   refine al_val (ov_sliceBox (i := 0) rfl rfl Tryd.underlying29 sz5 rfl) ?_
   refine al_mv rfl rfl ?_
   refine al_copyS (i := 0) (cs := (cA8u8 (A8u8.mk (0 : UInt8) (0 : UInt8) (0 : UInt8) (0 : UInt8) (0 : UInt8) (0 : UInt8) (0 : UInt8) (0 : UInt8)))) (cs' := (cA8u8 (cpA8u8 (A8u8.mk (0 : UInt8) (0 : UInt8) (0 : UInt8) (0 : UInt8) (0 : UInt8) (0 : UInt8) (0 : UInt8) (0 : UInt8)) l5s0))) rfl rfl rfl Tryd.underlying74 sz5 rfl (cpcA8u8 (A8u8.mk (0 : UInt8) (0 : UInt8) (0 : UInt8) (0 : UInt8) (0 : UInt8) (0 : UInt8) (0 : UInt8) (0 : UInt8)) l5s0 [] []) rfl ?_
   obtain ⟨hc10, h⟩ := req_some h
   refine al_val (ov_strFrom hc10.1 hc10.2 Tryd.underlying9 rfl rfl rfl) ?_
   refine al_as rfl rfl ?_
   refine al_nt ?_
   refine aw_freezeB 0 ((cpA8u8 (A8u8.mk (0 : UInt8) (0 : UInt8) (0 : UInt8) (0 : UInt8) (0 : UInt8) (0 : UInt8) (0 : UInt8) (0 : UInt8)) l5s0)) rfl rfl (fun _ _ => mkA8u8 rfl) ?_
   obtain ⟨r13, hc12, h⟩ := opt_some h
   obtain ⟨r15, hc14, h⟩ := opt_some h
   refine aw_region_draw 7 [(18, (fun u => fEq u (uq l5i5))), (19, (fun u => fEq u (ag []))), (20, (fun s11 => (fDat (tyList tyU8) [s11] (lA8u8 (cpA8u8 (A8u8.mk (0 : UInt8) (0 : UInt8) (0 : UInt8) (0 : UInt8) (0 : UInt8) (0 : UInt8) (0 : UInt8) (0 : UInt8)) l5s0))))), (21, (fun u => fEq u (uq r13))), (22, (fun u => fEq u (uq r15))), (23, (fun u => fEq u (uq a1))), (24, (fun u => fEq u (uq (bits .and .u64 r15 a1))))] (tab [(0, (str (l5s0.drop (((Nat.min l5s0.length 8 : Nat) : Int)).toNat))), (1, (uq a1)), (5, (uq l5i5)), (6, (uq (wu (a0.length : Int)))), (7, (pq g9))]) mixed (by kernel_rfl) rfl rfl rfl (fun a hs => hs.tab _ (allT_mem ⟨rfl, rfl, rfl, rfl, rfl, trivial⟩)) ⟨⟨rfl, ld_val (ov_move rfl rfl)⟩, ⟨rfl, ld_val (ov_load0 Tryd.underlying253 sz253 rfl rfl rfl)⟩, ⟨rfl, ld_of (of_sliceP 0 lrepA8u8 rfl rfl rfl rfl Tryd.underlying29 sz5 rfl)⟩, ⟨rfl, ld_eq (j := 1) rfl rfl (ld_fact (j := 2) rfl rfl (fun s11 => ld_callV (vs := [(ag []), s11]) (f__binary_littleEndian__Uint64_ok fu () s11 (lA8u8 (cpA8u8 (A8u8.mk (0 : UInt8) (0 : UInt8) (0 : UInt8) (0 : UInt8) (0 : UInt8) (0 : UInt8) (0 : UInt8) (0 : UInt8)) l5s0)) hc12) [] (pre_fz 0 rfl pre_nil) rfl Tryd.func188 rfl rfl rfl))⟩, ⟨rfl, ld_eq (j := 0) rfl rfl (ld_eq (j := 3) rfl rfl (ld_callV (vs := [(uq l5i5), (uq r13)]) (f_mix_Step_ok fu l5i5 r13 hc14) [] pre_nil rfl Tryd.func187 rfl rfl rfl))⟩, ⟨rfl, ld_val (ov_move rfl rfl)⟩, ⟨rfl, ld_eq (j := 4) rfl rfl (ld_eq (j := 5) rfl rfl (ld_val (ov_int rfl rfl rfl rfl)))⟩, trivial⟩ ?_
   refine tl_eq 6 rfl ?_
   refine tl_done ?_
   refine al_as rfl rfl ?_
   refine al_nil ?_
   refine aq_block ?_
   exact aq_again k6 ((l5s0.drop (((Nat.min l5s0.length 8 : Nat) : Int)).toNat), (bits .and .u64 r15 a1)) (Nat.lt_succ_self _) h (fun w a hm hs => norm hm hs [] [] [(0, (str (l5s0.drop (((Nat.min l5s0.length 8 : Nat) : Int)).toNat))), (1, (uq a1)), (5, (uq (bits .and .u64 r15 a1))), (6, (uq (wu (a0.length : Int))))] (by decide) ⟨rfl, rfl, rfl, rfl, trivial⟩)
  ·replace h := bif_f hb8 h
   refine aw_exit ?_
   refine aq_then_exit ?_
   refine aq_then_exit ?_
   refine aq_block_exit ?_
   exact aq_join l5i5 h (fun w a hm hs => norm hm hs [] [] [(1, (uq a1)), (5, (uq l5i5)), (6, (uq (wu (a0.length : Int))))] (by decide) ⟨rfl, rfl, rfl, trivial⟩)
def f_mix_Sum (fu : Nat) (a0 : (List UInt8)) : Option Int := (opt (f_mix_sum fu a0 (18446744073709551615 : Int)) fun (r2 : Int) => (some r2))
set_option maxRecDepth 100000 in
theorem f_mix_Sum_ok (fu : Nat) (a0 : (List UInt8)) {r : Int} (h : f_mix_Sum fu a0 = some r) : FnOk Tryd.prog 104 [(str a0)] [] [] (fun (i : Unit) => { val := (int .u64 r) }) := by
 unfold f_mix_Sum at h
 refine fn_enter Tryd.func104 rfl Tryd.ntmps104 rfl (fun w0 Z0 => ?_)
 refine aw_sr ?_
 refine al_as rfl rfl ?_
 refine al_nt ?_
 refine aw_sr ?_
 refine al_mv rfl rfl ?_
 obtain ⟨r2, hc1, h⟩ := opt_some h
 refine al_call (vs := [(str a0), (uq (18446744073709551615 : Int))]) (f_mix_sum_ok fu a0 (18446744073709551615 : Int) hc1) [] [] [] pre_nil rfl (by simp) (by decide) (.inl rfl) rfl Tryd.func154 rfl rfl rfl (fun _ => ?_)
 refine al_as rfl rfl ?_
 refine al_nt ?_
 refine aw_ret ?_
 obtain rfl := Option.some.inj h
 exact fn_ret () [] [] rfl rfl rfl rfl (res1 rfl rfl) rfl rfl rfl (by decide)
-- STUCK (encoding/binary.bigEndian).PutUint64: IndexError string index out of range at par:696
def f_mix_ID (fu : Nat) (a0 : (List UInt8)) : Option A8u8 := (opt (f_mix_Sum fu a0) fun (r4 : Int) => (req (0 ≤ r4 ∧ r4 < 18446744073709551616) (some (cpA8u8 (A8u8.mk (0 : UInt8) (0 : UInt8) (0 : UInt8) (0 : UInt8) (0 : UInt8) (0 : UInt8) (0 : UInt8) (0 : UInt8)) (Lib.beBytes 8 (r4).toNat)))))
set_option maxRecDepth 100000 in
theorem f_mix_ID_ok (fu : Nat) (a0 : (List UInt8)) {r : A8u8} (h : f_mix_ID fu a0 = some r) : FnOk Tryd.prog 46 [(str a0)] [] [] (fun (i : Unit) => { val := (ag (cA8u8 r)) }) := by
 unfold f_mix_ID at h
 refine fn_enter Tryd.func46 rfl Tryd.ntmps46 rfl (fun w0 Z0 => ?_)
 refine aw_sr ?_
 refine al_alloc (zs := (cA8u8 (A8u8.mk (0 : UInt8) (0 : UInt8) (0 : UInt8) (0 : UInt8) (0 : UInt8) (0 : UInt8) (0 : UInt8) (0 : UInt8)))) (zeroOf_to to30) rfl rfl (fun g1 => ?_)
 refine al_nt ?_
 refine aw_sr ?_
 refine al_alloc (zs := (cA8u8 (A8u8.mk (0 : UInt8) (0 : UInt8) (0 : UInt8) (0 : UInt8) (0 : UInt8) (0 : UInt8) (0 : UInt8) (0 : UInt8)))) (zeroOf_to to30) rfl rfl (fun g2 => ?_)
 refine al_nt ?_
 refine aw_seq ?_
 obtain ⟨r4, hc3, h⟩ := opt_some h
 refine aw_region_draw 4 [(4, (fun u => fEq u (ag []))), (5, (fun u => fEq u (sbx g2 0 8))), (6, (fun u => fEq u (str a0))), (7, (fun u => fEq u (uq r4)))] (tab [(0, (str a0)), (2, (pq g1)), (3, (pq g2))]) mixed (by kernel_rfl) rfl rfl rfl (fun a hs => hs.tab _ (allT_mem ⟨rfl, rfl, rfl, trivial⟩)) ⟨⟨rfl, ld_val (ov_load0 Tryd.underlying162 sz162 rfl rfl rfl)⟩, ⟨rfl, ld_val (ov_sliceBox (i := 0) rfl rfl Tryd.underlying30 sz5 rfl)⟩, ⟨rfl, ld_val (ov_move rfl rfl)⟩, ⟨rfl, ld_eq (j := 2) rfl rfl (ld_callV (vs := [(str a0)]) (f_mix_Sum_ok fu a0 hc3) [] pre_nil rfl Tryd.func104 rfl rfl rfl)⟩, trivial⟩ ?_
 refine tl_eq 0 rfl ?_
 refine tl_eq 1 rfl ?_
 refine tl_eq 3 rfl ?_
 refine tl_done ?_
 obtain ⟨hc5, h⟩ := req_some h
 refine al_call (vs := [(ag []), (sbx g2 0 8), (uq r4)]) (f_put8_ok (g := g2) (off := 0) (t := 30) (a2 := r4) (cs := (cA8u8 (A8u8.mk (0 : UInt8) (0 : UInt8) (0 : UInt8) (0 : UInt8) (0 : UInt8) (0 : UInt8) (0 : UInt8) (0 : UInt8)))) (cs' := (cA8u8 (cpA8u8 (A8u8.mk (0 : UInt8) (0 : UInt8) (0 : UInt8) (0 : UInt8) (0 : UInt8) (0 : UInt8) (0 : UInt8) (0 : UInt8)) (Lib.beBytes 8 (r4).toNat)))) hc5 (Nat.le_of_ble_eq_true rfl) (cpcA8u8 (A8u8.mk (0 : UInt8) (0 : UInt8) (0 : UInt8) (0 : UInt8) (0 : UInt8) (0 : UInt8) (0 : UInt8) (0 : UInt8)) (Lib.beBytes 8 (r4).toNat) [] [])) [] [0] [1] pre_nil rfl (by simp) (by decide) (.inl rfl) rfl Tryd.func103 rfl rfl rfl (fun _ => ?_)
 refine al_nt ?_
 refine aw_sr ?_
 refine al_val (ov_load (i := 0) (v := (ag (cA8u8 (cpA8u8 (A8u8.mk (0 : UInt8) (0 : UInt8) (0 : UInt8) (0 : UInt8) (0 : UInt8) (0 : UInt8) (0 : UInt8) (0 : UInt8)) (Lib.beBytes 8 (r4).toNat))))) rfl rfl Tryd.underlying30 sz30 rfl rfl rfl rfl) ?_
 refine al_store (i := 1) (vs := (cA8u8 (cpA8u8 (A8u8.mk (0 : UInt8) (0 : UInt8) (0 : UInt8) (0 : UInt8) (0 : UInt8) (0 : UInt8) (0 : UInt8) (0 : UInt8)) (Lib.beBytes 8 (r4).toNat)))) (cs' := (cA8u8 (cpA8u8 (A8u8.mk (0 : UInt8) (0 : UInt8) (0 : UInt8) (0 : UInt8) (0 : UInt8) (0 : UInt8) (0 : UInt8) (0 : UInt8)) (Lib.beBytes 8 (r4).toNat)))) rfl rfl rfl sz30 (cv_rfl rfl) rfl (co_all (oneA8u8 (cpA8u8 (A8u8.mk (0 : UInt8) (0 : UInt8) (0 : UInt8) (0 : UInt8) (0 : UInt8) (0 : UInt8) (0 : UInt8) (0 : UInt8)) (Lib.beBytes 8 (r4).toNat)))) (Nat.le_of_ble_eq_true rfl) rfl rfl ?_
 refine al_nt ?_
 refine aw_ret ?_
 obtain rfl := Option.some.inj h
 exact fn_ret () [] [] rfl rfl rfl rfl (resC rfl (resB (i := 1) rfl rfl Tryd.underlying30 sz30 rfl rfl rfl (resN)) rfl) rfl rfl rfl (by decide)
def f_pack_ID (fu : Nat) (a0 : S_api_Blob) : Option (A8u8 × Int) := (opt (f_pack_Known fu a0.Kind) fun (r4 : Bool) => (bif (!r4) then (some ((A8u8.mk (0 : UInt8) (0 : UInt8) (0 : UInt8) (0 : UInt8) (0 : UInt8) (0 : UInt8) (0 : UInt8) (0 : UInt8)), (5 : Int))) else (bif (decide ((a0.Bytes.length : Int) > (4096 : Int))) then (some ((A8u8.mk (0 : UInt8) (0 : UInt8) (0 : UInt8) (0 : UInt8) (0 : UInt8) (0 : UInt8) (0 : UInt8) (0 : UInt8)), (2 : Int))) else (req (0 ≤ (IntKind.u8.wrap a0.Kind) ∧ (IntKind.u8.wrap a0.Kind) ≤ 255) (req (([(UInt8.ofNat ((IntKind.u8.wrap a0.Kind)).toNat)]).length + a0.Bytes.length ≤ 9223372036854775807) (opt (f_mix_ID fu (([(UInt8.ofNat ((IntKind.u8.wrap a0.Kind)).toNat)]) ++ a0.Bytes)) fun (r11 : A8u8) => (some (r11, (0 : Int)))))))))
set_option maxHeartbeats 2000000 in
set_option maxRecDepth 100000 in
theorem f_pack_ID_ok (fu : Nat) (a0 : S_api_Blob) {r : (A8u8 × Int)} (h : f_pack_ID fu a0 = some r) : FnOk Tryd.prog 12 [(ag [(int .i64 a0.Kind), (str a0.Bytes)])] [] [] (fun (i : Unit) => { val := (Value.tuple #[(ag (cA8u8 r.1)), (int .i64 r.2)]) }) := by
 unfold f_pack_ID at h
 refine fn_enter Tryd.func12 rfl Tryd.ntmps12 rfl (fun w0 Z0 => ?_)
 refine aw_sr ?_
 refine al_box (vs := [(iq a0.Kind), (str a0.Bytes)]) rfl (cv_rfl rfl) rfl (fun g1 => ?_)
 refine al_alloc (zs := (cA8u8 (A8u8.mk (0 : UInt8) (0 : UInt8) (0 : UInt8) (0 : UInt8) (0 : UInt8) (0 : UInt8) (0 : UInt8) (0 : UInt8)))) (zeroOf_to to30) rfl rfl (fun g2 => ?_)
 refine al_as rfl rfl ?_
 refine al_nt ?_
 refine aw_seq ?_
 refine aw_block ?_
 refine aw_sr ?_
 refine al_val (ov_fieldA (p := 0) rfl Tryd.underlying28 rfl sz3 rfl rfl rfl) ?_
 refine al_val (ov_load (i := 1) (v := (iq a0.Kind)) rfl rfl Tryd.underlying3 sz3 rfl rfl rfl rfl) ?_
 obtain ⟨r4, hc3, h⟩ := opt_some h
 refine al_call (vs := [(iq a0.Kind)]) (f_pack_Known_ok fu a0.Kind hc3) [] [] [0, 1] pre_nil rfl (by simp) (by decide) (.inl rfl) rfl Tryd.func45 rfl rfl rfl (fun _ => ?_)
 refine al_val (ov_not rfl rfl) ?_
 refine al_as rfl rfl ?_
 refine al_nt ?_
 refine aw_cond rfl (fun hb5 => ?_) (fun hb5 => ?_)
 ·replace h := bif_t hb5 h
  refine aw_sr ?_
  refine al_val (ov_build (cells := ((cA8u8 (A8u8.mk (0 : UInt8) (0 : UInt8) (0 : UInt8) (0 : UInt8) (0 : UInt8) (0 : UInt8) (0 : UInt8) (0 : UInt8)))).toArray) (cs := (cA8u8 (A8u8.mk (0 : UInt8) (0 : UInt8) (0 : UInt8) (0 : UInt8) (0 : UInt8) (0 : UInt8) (0 : UInt8) (0 : UInt8)))) rfl (fun w a hm hs => by simp only [List.map_toArray, List.map_cons, List.map_nil, List.toList_toArray]; kernel_rfl)) ?_
  refine al_store (i := 0) (vs := (cA8u8 (A8u8.mk (0 : UInt8) (0 : UInt8) (0 : UInt8) (0 : UInt8) (0 : UInt8) (0 : UInt8) (0 : UInt8) (0 : UInt8)))) (cs' := (cA8u8 (A8u8.mk (0 : UInt8) (0 : UInt8) (0 : UInt8) (0 : UInt8) (0 : UInt8) (0 : UInt8) (0 : UInt8) (0 : UInt8)))) rfl rfl rfl sz30 (cv_rfl rfl) rfl (co_all (oneA8u8 (A8u8.mk (0 : UInt8) (0 : UInt8) (0 : UInt8) (0 : UInt8) (0 : UInt8) (0 : UInt8) (0 : UInt8) (0 : UInt8)))) (Nat.le_of_ble_eq_true rfl) rfl rfl ?_
  refine al_as rfl rfl ?_
  refine al_nt ?_
  refine aw_ret ?_
  refine aq_block_ret ?_
  refine aq_then_ret ?_
  obtain rfl := Option.some.inj h
  exact fn_ret () [] [] rfl rfl rfl rfl (resC rfl (resB (i := 0) rfl rfl Tryd.underlying30 sz30 rfl rfl rfl (resT rfl (resN))) rfl) rfl rfl rfl (by decide)
 ·replace h := bif_f hb5 h
  refine aw_sr ?_
  refine al_val (ov_fieldA (p := 1) rfl Tryd.underlying28 rfl sz9 rfl rfl rfl) ?_
  refine al_val (ov_load (i := 1) (v := (str a0.Bytes)) rfl rfl Tryd.underlying9 sz9 rfl rfl rfl rfl) ?_
  refine al_val (ov_strLen Tryd.underlying9 rfl rfl) ?_
  refine al_in rfl rfl rfl rfl ?_
  refine al_as rfl rfl ?_
  refine al_nt ?_
  refine aw_cond rfl (fun hb6 => ?_) (fun hb6 => ?_)
  ·replace h := bif_t hb6 h
   refine aw_sr ?_
   refine al_val (ov_build (cells := ((cA8u8 (A8u8.mk (0 : UInt8) (0 : UInt8) (0 : UInt8) (0 : UInt8) (0 : UInt8) (0 : UInt8) (0 : UInt8) (0 : UInt8)))).toArray) (cs := (cA8u8 (A8u8.mk (0 : UInt8) (0 : UInt8) (0 : UInt8) (0 : UInt8) (0 : UInt8) (0 : UInt8) (0 : UInt8) (0 : UInt8)))) rfl (fun w a hm hs => by simp only [List.map_toArray, List.map_cons, List.map_nil, List.toList_toArray]; kernel_rfl)) ?_
   refine al_store (i := 0) (vs := (cA8u8 (A8u8.mk (0 : UInt8) (0 : UInt8) (0 : UInt8) (0 : UInt8) (0 : UInt8) (0 : UInt8) (0 : UInt8) (0 : UInt8)))) (cs' := (cA8u8 (A8u8.mk (0 : UInt8) (0 : UInt8) (0 : UInt8) (0 : UInt8) (0 : UInt8) (0 : UInt8) (0 : UInt8) (0 : UInt8)))) rfl rfl rfl sz30 (cv_rfl rfl) rfl (co_all (oneA8u8 (A8u8.mk (0 : UInt8) (0 : UInt8) (0 : UInt8) (0 : UInt8) (0 : UInt8) (0 : UInt8) (0 : UInt8) (0 : UInt8)))) (Nat.le_of_ble_eq_true rfl) rfl rfl ?_
   refine al_as rfl rfl ?_
   refine al_nt ?_
   refine aw_ret ?_
   refine aq_block_ret ?_
   refine aq_then_ret ?_
   obtain rfl := Option.some.inj h
   exact fn_ret () [] [] rfl rfl rfl rfl (resC rfl (resB (i := 0) rfl rfl Tryd.underlying30 sz30 rfl rfl rfl (resT rfl (resN))) rfl) rfl rfl rfl (by decide)
  ·replace h := bif_f hb6 h
   refine aw_skip ?_
   refine aq_block ?_
   refine aq_tr ?_
   refine al_val (ov_fieldA (p := 0) rfl Tryd.underlying28 rfl sz3 rfl rfl rfl) ?_
   refine al_val (ov_load (i := 1) (v := (iq a0.Kind)) rfl rfl Tryd.underlying3 sz3 rfl rfl rfl rfl) ?_
   refine al_val (ov_convInt (by rw [Tryd.underlying3]; rfl) Tryd.underlying5 rfl rfl) ?_
   obtain ⟨hc8, h⟩ := req_some h
   refine al_buildSlice (τ := tyU8) (e := 5) (k := 1) (sz := 0) (by_ := 0) (z := undef) (cs := [(i8 (w8 a0.Kind))]) (xs := [(UInt8.ofNat ((w8 a0.Kind)).toNat)]) rfl (by decide) (fun w a hm hs => ⟨([(i8 (w8 a0.Kind))]).toArray, rfl, by simp only [List.map_toArray, List.map_cons, List.map_nil, hs.ev (x := .tmp 18) rfl]; exact run_bs [(i8 (w8 a0.Kind))] [(i8 (w8 a0.Kind))] Tryd.underlying74 to5 rfl rfl (bs_cons (l := [(i8 (w8 a0.Kind))]) (cs := []) (cv_rfl rfl) rfl bs_nil) hm⟩) (fun hm => ⟨_, _, rfl, (fun _ => u8_rep hc8) hm, rfl⟩) rfl (fun v7 => ?_)
   refine al_val (ov_toStrR 0 rfl rfl Tryd.underlying74 Tryd.underlying5 Tryd.underlying9 rfl) ?_
   refine al_val (ov_fieldA (p := 1) rfl Tryd.underlying28 rfl sz9 rfl rfl rfl) ?_
   refine al_val (ov_load (i := 2) (v := (str a0.Bytes)) rfl rfl Tryd.underlying9 sz9 rfl rfl rfl rfl) ?_
   obtain ⟨hc9, h⟩ := req_some h
   refine al_val (ov_strAdd hc9 rfl rfl rfl) ?_
   obtain ⟨r11, hc10, h⟩ := opt_some h
   refine al_call (vs := [(str (([(UInt8.ofNat ((w8 a0.Kind)).toNat)]) ++ a0.Bytes))]) (f_mix_ID_ok fu (([(UInt8.ofNat ((w8 a0.Kind)).toNat)]) ++ a0.Bytes) hc10) [] [] [0, 1, 2] pre_nil rfl (by simp) (by decide) (.inl rfl) rfl Tryd.func46 rfl rfl rfl (fun _ => ?_)
   refine al_store (i := 1) (vs := (cA8u8 r11)) (cs' := (cA8u8 r11)) rfl rfl rfl sz30 (cv_rfl rfl) rfl (co_all (oneA8u8 r11)) (Nat.le_of_ble_eq_true rfl) rfl rfl ?_
   refine al_as rfl rfl ?_
   refine al_nt ?_
   refine aw_ret ?_
   obtain rfl := Option.some.inj h
   exact fn_ret () [] [] rfl rfl rfl rfl (resC rfl (resB (i := 1) rfl rfl Tryd.underlying30 sz30 rfl rfl rfl (resT rfl (resN))) rfl) rfl rfl rfl (by decide)
def f_lumref_kindOK (fu : Nat) (a0 : Int) : Option Bool := (lt (fun (j1b2 : Bool) => (some j1b2)) fun (kk2 : Bool → Option Bool) => (bif (a0 == (1 : Int)) then (kk2 true) else (bif (a0 == (2 : Int)) then (kk2 true) else (kk2 (a0 == (3 : Int))))))
set_option maxHeartbeats 2000000 in
set_option maxRecDepth 100000 in
theorem f_lumref_kindOK_ok (fu : Nat) (a0 : Int) {r : Bool} (h : f_lumref_kindOK fu a0 = some r) : FnOk Tryd.prog 47 [(int .i64 a0)] [] [] (fun (i : Unit) => { val := (bool r) }) := by
 unfold f_lumref_kindOK at h
 refine fn_enter Tryd.func47 rfl Tryd.ntmps47 rfl (fun w0 Z0 => ?_)
 refine aw_sr ?_
 refine al_as rfl rfl ?_
 refine al_nt ?_
 obtain ⟨kk2, hkk2, h⟩ := lt_some h
 refine aw_seq_join (ι := Bool) (fun i => (memOf w0 Z0 [] [] [])) (fun i => (tab [(2, (bool i))])) (fun i => kk2 i = some r) ?_ ?_
 ·rintro j1b2 h
  have h : kk2 j1b2 = some r := h
  rw [hkk2] at h
  dsimp only at h
  clear hkk2
  refine aw_show (m := (memOf w0 Z0 [] [] [])) (S := (tab [(2, (bool j1b2))])) ?_
  refine aw_ret ?_
  obtain rfl := Option.some.inj h
  exact fn_ret () [] [] rfl rfl rfl rfl (res1 rfl rfl) rfl rfl rfl (by decide)
 ·clear hkk2
  refine aw_region ?_
  refine al_mv rfl rfl ?_
  refine al_in rfl rfl rfl rfl ?_
  refine al_mv rfl rfl ?_
  refine al_caseB 5 rfl (fun hb3 => ?_) (fun hb3 => ?_)
  ·replace h := bif_t hb3 h
   refine al_skip ?_
   refine al_skip ?_
   refine al_val (ov_pick_t rfl rfl rfl) ?_
   refine al_mv rfl rfl ?_
   refine al_skip ?_
   refine al_skip ?_
   refine al_val (ov_pick_t rfl rfl rfl) ?_
   refine al_as rfl rfl ?_
   refine al_nil ?_
   exact aq_join true h (fun w a hm hs => norm hm hs [] [] [(2, (bool true))] (by decide) ⟨rfl, trivial⟩)
  ·replace h := bif_f hb3 h
   refine al_mv rfl rfl ?_
   refine al_in rfl rfl rfl rfl ?_
   refine al_val (ov_pick_f rfl rfl rfl) ?_
   refine al_mv rfl rfl ?_
   refine al_caseB 9 rfl (fun hb4 => ?_) (fun hb4 => ?_)
   ·replace h := bif_t hb4 h
    refine al_skip ?_
    refine al_skip ?_
    refine al_val (ov_pick_t rfl rfl rfl) ?_
    refine al_as rfl rfl ?_
    refine al_nil ?_
    exact aq_join true h (fun w a hm hs => norm hm hs [] [] [(2, (bool true))] (by decide) ⟨rfl, trivial⟩)
   ·replace h := bif_f hb4 h
    refine al_mv rfl rfl ?_
    refine al_in rfl rfl rfl rfl ?_
    refine al_val (ov_pick_f rfl rfl rfl) ?_
    refine al_as rfl rfl ?_
    refine al_nil ?_
    exact aq_join (a0 == (3 : Int)) h (fun w a hm hs => norm hm hs [] [] [(2, (bool (a0 == (3 : Int))))] (by decide) ⟨rfl, trivial⟩)
def f_lumref_Narrow_1 (fu : Nat) (a0 : Int) (a1 : Int) : Option Int := (bif (a1 == (64 : Int)) then (some a0) else (req (0 ≤ a1) (req ((IntKind.u64.wrap ((1 : Int) * 2 ^ min (a1).toNat (IntKind.bits .u64))) ≠ 0) (some ((a0).tmod (IntKind.u64.wrap ((1 : Int) * 2 ^ min (a1).toNat (IntKind.bits .u64))))))))
set_option maxHeartbeats 2000000 in
set_option maxRecDepth 100000 in
theorem f_lumref_Narrow_1_ok (fu : Nat) (a0 : Int) (c1 : Value) (a1 : Int) {r : Int} (h : f_lumref_Narrow_1 fu a0 a1 = some r) : FnOk Tryd.prog 155 [(int .u64 a0), c1] [(fPtr (tyInt .i64) c1 a1)] [] (fun (i : Unit) => { val := (int .u64 r) }) := by
 unfold f_lumref_Narrow_1 at h
 refine fn_enter Tryd.func155 rfl Tryd.ntmps155 rfl (fun w0 Z0 => ?_)
 refine aw_sr ?_
 refine al_as rfl rfl ?_
 refine al_nt ?_
 refine aw_seq ?_
 refine aw_sr ?_
 refine al_val (ov_loadP (ds := [(iq a1)]) 0 rfl (fun h => h) rfl Tryd.underlying3 sz3 rfl rfl rfl) ?_
 refine al_in rfl rfl rfl rfl ?_
 refine al_nt ?_
 refine aw_cond rfl (fun hb1 => ?_) (fun hb1 => ?_)
 ·replace h := bif_t hb1 h
  refine aw_sr ?_
  refine al_mv rfl rfl ?_
  refine al_as rfl rfl ?_
  refine al_nt ?_
  refine aw_ret ?_
  refine aq_then_ret ?_
  obtain rfl := Option.some.inj h
  exact fn_ret () [] [] rfl rfl rfl rfl (res1 rfl rfl) rfl rfl rfl (by decide)
 ·replace h := bif_f hb1 h
  refine aw_skip ?_
  refine aq_tr ?_
  refine al_mv rfl rfl ?_
  refine al_val (ov_loadP (ds := [(iq a1)]) 0 rfl (fun h => h) rfl Tryd.underlying3 sz3 rfl rfl rfl) ?_
  obtain ⟨hc2, h⟩ := req_some h
  refine al_val (ov_shl hc2 rfl rfl rfl) ?_
  obtain ⟨hc3, h⟩ := req_some h
  refine al_val (ov_rem hc3 rfl rfl rfl) ?_
  refine al_as rfl rfl ?_
  refine al_nt ?_
  refine aw_ret ?_
  obtain rfl := Option.some.inj h
  exact fn_ret () [] [] rfl rfl rfl rfl (res1 rfl rfl) rfl rfl rfl (by decide)
def f_strings_Repeat (fu : Nat) (a0 : List UInt8) (a1 : Int) : Option (List UInt8) := req (0 ≤ a1 ∧ a1 ≤ 9223372036854775807 ∧ a0.length * a1.toNat ≤ 140737488355328) (some (Lib.repeatL a0 a1.toNat))
theorem f_strings_Repeat_ok (fu : Nat) (a0 : List UInt8) (a1 : Int) {r : List UInt8} (h : f_strings_Repeat fu a0 a1 = some r) : FnOk Tryd.prog 102 [(str a0), (int .i64 a1)] [] [] (fun (i : Unit) => { val := (str r) }) := by
  unfold f_strings_Repeat at h
  obtain ⟨hc, h⟩ := req_some h
  obtain rfl := Option.some.inj h
  obtain ⟨n, rfl⟩ : ∃ n : Nat, a1 = n := ⟨a1.toNat, by omega⟩
  refine fnok_pure fun w => ?_
  exact (Tryd.strings_Repeat ⟨a0.toArray⟩ n w (by omega) (by simpa [ByteArray.size] using hc.2.2)).mono fun e w' h9 => by simpa [str] using h9
def f_lumref_product_L5 (a0 : Int) (a1 : Int) (kk2 : (Int → Option Int)) : Nat → Int → Int → Option Int
  | 0, _, _ => none
  | k4 + 1, l3i5, l3i7 => (bif (decide (l3i7 < (64 : Int))) then (lt (fun (j7i5 : Int) => (f_lumref_product_L5 a0 a1 kk2 k4 j7i5 (IntKind.i64.wrap (l3i7 + (1 : Int))))) fun (kk8 : Int → Option Int) => (req (0 ≤ l3i7) (bif ((bits .and .u64 ((a1).fdiv (2 ^ min (l3i7).toNat (IntKind.bits .u64))) (1 : Int)) == (1 : Int)) then (req (0 ≤ l3i7) (kk8 (IntKind.u64.wrap (l3i5 + (IntKind.u64.wrap (a0 * 2 ^ min (l3i7).toNat (IntKind.bits .u64))))))) else (kk8 l3i5)))) else (kk2 l3i5))
def f_lumref_product (fu : Nat) (a0 : Int) (a1 : Int) : Option Int := (lt (fun (j1i5 : Int) => (some j1i5)) fun (kk2 : Int → Option Int) => (f_lumref_product_L5 a0 a1 kk2 fu (0 : Int) (0 : Int)))
set_option maxHeartbeats 2000000 in
set_option maxRecDepth 100000 in
theorem f_lumref_product_ok (fu : Nat) (a0 : Int) (a1 : Int) {r : Int} (h : f_lumref_product fu a0 a1 = some r) : FnOk Tryd.prog 189 [(int .u64 a0), (int .u64 a1)] [] [] (fun (i : Unit) => { val := (int .u64 r) }) := by
 unfold f_lumref_product at h
 refine fn_enter Tryd.func189 rfl Tryd.ntmps189 rfl (fun w0 Z0 => ?_)
 refine aw_sr ?_
 refine al_as rfl rfl ?_
 refine al_nt ?_
 refine aw_sr ?_
 refine al_as rfl rfl ?_
 refine al_nt ?_
 obtain ⟨kk2, hkk2, h⟩ := lt_some h
 refine aw_seq_join (ι := Int) (fun i => (memOf w0 Z0 [] [] [])) (fun i => (tab [(5, (uq i))])) (fun i => kk2 i = some r) ?_ ?_
 ·rintro j1i5 h
  have h : kk2 j1i5 = some r := h
  rw [hkk2] at h
  dsimp only at h
  clear hkk2
  refine aw_show (m := (memOf w0 Z0 [] [] [])) (S := (tab [(5, (uq j1i5))])) ?_
  refine aw_sr ?_
  refine al_mv rfl rfl ?_
  refine al_as rfl rfl ?_
  refine al_nt ?_
  refine aw_ret ?_
  obtain rfl := Option.some.inj h
  exact fn_ret () [] [] rfl rfl rfl rfl (res1 rfl rfl) rfl rfl rfl (by decide)
 ·clear hkk2
  refine aw_sr ?_
  refine al_mv rfl rfl ?_
  refine al_nt ?_
  refine aw_block ?_
  refine aw_state (aw_loop (ι := Int × Int) (fun i => (memOf w0 Z0 [] [] [])) (fun i => (tab [(0, (uq a0)), (1, (uq a1)), (5, (uq i.1)), (7, (iq i.2))])) (fun q i => f_lumref_product_L5 a0 a1 kk2 q i.1 i.2 = some r) ?_ fu ((0 : Int), (0 : Int)) h) (fun w a hm hs => norm hm hs [] [] [(0, (uq a0)), (1, (uq a1)), (5, (uq (0 : Int))), (7, (iq (0 : Int)))] (by decide) ⟨rfl, rfl, rfl, rfl, trivial⟩)
  clear h
  rintro k4 ⟨l3i5, l3i7⟩ h
  have h : f_lumref_product_L5 a0 a1 kk2 k4 l3i5 l3i7 = some r := h
  obtain _ | k4 := k4
  · rw [f_lumref_product_L5] at h; cases h
  rw [f_lumref_product_L5] at h
  refine aw_show (m := (memOf w0 Z0 [] [] [])) (S := (tab [(0, (uq a0)), (1, (uq a1)), (5, (uq l3i5)), (7, (iq l3i7))])) ?_
  refine aw_sr ?_
  refine al_in rfl rfl rfl rfl ?_
  refine al_nt ?_
  refine aw_seq ?_
  refine aw_cond rfl (fun hb6 => ?_) (fun hb6 => ?_)
  ·replace h := bif_t hb6 h
   refine aw_skip ?_
   refine aq_then ?_
   obtain ⟨kk8, hkk8, h⟩ := lt_some h
   refine aw_seq_join (ι := Int) (fun i => (memOf w0 Z0 [] [] [])) (fun i => (tab [(0, (uq a0)), (1, (uq a1)), (5, (uq i)), (7, (iq l3i7))])) (fun i => kk8 i = some r) ?_ ?_
   ·rintro j7i5 h
    have h : kk8 j7i5 = some r := h
    rw [hkk8] at h
    dsimp only at h
    clear hkk8
    refine aw_show (m := (memOf w0 Z0 [] [] [])) (S := (tab [(0, (uq a0)), (1, (uq a1)), (5, (uq j7i5)), (7, (iq l3i7))])) ?_
    refine aw_region ?_
    refine al_in rfl rfl rfl rfl ?_
    refine al_mv rfl rfl ?_
    refine al_nil ?_
    exact aq_again k4 (j7i5, (wq (l3i7 + (1 : Int)))) (Nat.lt_succ_self _) h (fun w a hm hs => norm hm hs [] [] [(0, (uq a0)), (1, (uq a1)), (5, (uq j7i5)), (7, (iq (wq (l3i7 + (1 : Int)))))] (by decide) ⟨rfl, rfl, rfl, rfl, trivial⟩)
   ·clear hkk8
    refine aw_block ?_
    refine aw_sr ?_
    refine al_mv rfl rfl ?_
    refine al_as rfl rfl ?_
    refine al_nt ?_
    refine aw_sr ?_
    refine al_mv rfl rfl ?_
    refine al_mv rfl rfl ?_
    obtain ⟨hc9, h⟩ := req_some h
    refine al_val (ov_shr hc9 rfl rfl rfl) ?_
    refine al_in rfl rfl rfl rfl ?_
    refine al_in rfl rfl rfl rfl ?_
    refine al_nt ?_
    refine aw_cond rfl (fun hb10 => ?_) (fun hb10 => ?_)
    ·replace h := bif_t hb10 h
     refine aw_region ?_
     refine al_mv rfl rfl ?_
     refine al_mv rfl rfl ?_
     refine al_mv rfl rfl ?_
     obtain ⟨hc11, h⟩ := req_some h
     refine al_val (ov_shl hc11 rfl rfl rfl) ?_
     refine al_in rfl rfl rfl rfl ?_
     refine al_as rfl rfl ?_
     refine al_nil ?_
     refine aq_block ?_
     exact aq_join (wu (l3i5 + (wu (a0 * 2 ^ min (l3i7).toNat (IntKind.bits .u64))))) h (fun w a hm hs => norm hm hs [] [] [(0, (uq a0)), (1, (uq a1)), (5, (uq (wu (l3i5 + (wu (a0 * 2 ^ min (l3i7).toNat (IntKind.bits .u64))))))), (7, (iq l3i7))] (by decide) ⟨rfl, rfl, rfl, rfl, trivial⟩)
    ·replace h := bif_f hb10 h
     refine aw_skip ?_
     refine aq_block ?_
     exact aq_join l3i5 h (fun w a hm hs => norm hm hs [] [] [(0, (uq a0)), (1, (uq a1)), (5, (uq l3i5)), (7, (iq l3i7))] (by decide) ⟨rfl, rfl, rfl, rfl, trivial⟩)
  ·replace h := bif_f hb6 h
   refine aw_exit ?_
   refine aq_then_exit ?_
   refine aq_then_exit ?_
   refine aq_block_exit ?_
   exact aq_join l3i5 h (fun w a hm hs => norm hm hs [] [] [(5, (uq l3i5))] (by decide) ⟨rfl, trivial⟩)
def f_lumref_Step (fu : Nat) (a0 : Int) (a1 : Int) : Option Int := (opt (f_lumref_product fu (bits .xor .u64 a0 a1) (11400714819323198485 : Int)) fun (r2 : Int) => (opt (f_lumref_product fu (bits .xor .u64 r2 (IntKind.u64.wrap ((r2).tdiv (536870912 : Int)))) (13787848793156543929 : Int)) fun (r4 : Int) => (some (bits .xor .u64 r4 (IntKind.u64.wrap ((r4).tdiv (4294967296 : Int)))))))
set_option maxHeartbeats 2000000 in
set_option maxRecDepth 100000 in
theorem f_lumref_Step_ok (fu : Nat) (a0 : Int) (a1 : Int) {r : Int} (h : f_lumref_Step fu a0 a1 = some r) : FnOk Tryd.prog 156 [(int .u64 a0), (int .u64 a1)] [] [] (fun (i : Unit) => { val := (int .u64 r) }) := by
 unfold f_lumref_Step at h
 refine fn_enter Tryd.func156 rfl Tryd.ntmps156 rfl (fun w0 Z0 => ?_)
 refine aw_sr ?_
 refine al_as rfl rfl ?_
 refine al_nt ?_
 refine aw_sr ?_
 refine al_mv rfl rfl ?_
 refine al_mv rfl rfl ?_
 refine al_in rfl rfl rfl rfl ?_
 obtain ⟨r2, hc1, h⟩ := opt_some h
 refine al_call (vs := [(uq (bits .xor .u64 a0 a1)), (uq (11400714819323198485 : Int))]) (f_lumref_product_ok fu (bits .xor .u64 a0 a1) (11400714819323198485 : Int) hc1) [] [] [] pre_nil rfl (by simp) (by decide) (.inl rfl) rfl Tryd.func189 rfl rfl rfl (fun _ => ?_)
 refine al_as rfl rfl ?_
 refine al_nt ?_
 refine aw_sr ?_
 refine al_mv rfl rfl ?_
 refine al_mv rfl rfl ?_
 refine al_val (ov_quo (by decide) rfl rfl rfl) ?_
 refine al_in rfl rfl rfl rfl ?_
 refine al_as rfl rfl ?_
 refine al_nt ?_
 refine aw_sr ?_
 refine al_mv rfl rfl ?_
 obtain ⟨r4, hc3, h⟩ := opt_some h
 refine al_call (vs := [(uq (bits .xor .u64 r2 (wu ((r2).tdiv (536870912 : Int))))), (uq (13787848793156543929 : Int))]) (f_lumref_product_ok fu (bits .xor .u64 r2 (wu ((r2).tdiv (536870912 : Int)))) (13787848793156543929 : Int) hc3) [] [] [] pre_nil rfl (by simp) (by decide) (.inl rfl) rfl Tryd.func189 rfl rfl rfl (fun _ => ?_)
 refine al_as rfl rfl ?_
 refine al_nt ?_
 refine aw_sr ?_
 refine al_mv rfl rfl ?_
 refine al_mv rfl rfl ?_
 refine al_val (ov_quo (by decide) rfl rfl rfl) ?_
 refine al_in rfl rfl rfl rfl ?_
 refine al_as rfl rfl ?_
 refine al_nt ?_
 refine aw_ret ?_
 obtain rfl := Option.some.inj h
 exact fn_ret () [] [] rfl rfl rfl rfl (res1 rfl rfl) rfl rfl rfl (by decide)
def f_lumref_Narrow_L27 (l11s7 : (List UInt8)) (kk20 : (Int → Option Int)) : Nat → Int → Int → Option Int
  | 0, _, _ => none
  | k26 + 1, l25i8, l25i9 => (bif (decide (l25i9 ≥ (0 : Int))) then (req (0 ≤ l25i9 ∧ l25i9 < (l11s7.length : Int)) (f_lumref_Narrow_L27 l11s7 kk20 k26 (IntKind.u64.wrap ((IntKind.u64.wrap ((256 : Int) * l25i8)) + (IntKind.u64.wrap (En.bAt l11s7 l25i9)))) (IntKind.i64.wrap (l25i9 - (1 : Int))))) else (kk20 l25i8))
def f_lumref_Narrow_L13 (a0 : Int) (kk6 : (Int → Option Int)) (fu : Nat) : Nat → Int → (List UInt8) → Option Int
  | 0, _, _ => none
  | k12 + 1, l11i5, l11s7 => (lt (fun (l11i5 : Int) (l11s7 : (List UInt8)) => (f_lumref_Narrow_L13 a0 kk6 fu k12 l11i5 l11s7)) fun (kk14 : Int → (List UInt8) → Option Int) => (bif (!(l11s7 == ([] : List UInt8))) then (lt (fun (j16i5 : Int) => (req (0 ≤ (8 : Int) ∧ (8 : Int) ≤ (l11s7.length : Int)) (kk14 j16i5 (l11s7.drop ((8 : Int)).toNat)))) fun (kk17 : Int → Option Int) => (lt (fun (j19i8 : Int) => (opt (f_lumref_Step fu l11i5 j19i8) fun (r22 : Int) => (opt (f_lumref_Narrow_1 fu r22 a0) fun (r24 : Int) => (kk17 r24)))) fun (kk20 : Int → Option Int) => (f_lumref_Narrow_L27 l11s7 kk20 fu (0 : Int) (7 : Int)))) else (kk6 l11i5)))
def f_lumref_Narrow (fu : Nat) (a0 : Int) (a1 : (List UInt8)) : Option Int := (opt (f_strings_Repeat fu ([0] : List UInt8) (((IntKind.i64.wrap ((8 : Int) - (((a1.length : Int)).tmod (8 : Int))))).tmod (8 : Int))) fun (r3 : (List UInt8)) => (req (a1.length + r3.length ≤ 9223372036854775807) (lt (fun (j5i5 : Int) => (opt (f_lumref_Step fu j5i5 (IntKind.u64.wrap (a1.length : Int))) fun (r8 : Int) => (opt (f_lumref_Narrow_1 fu r8 a0) fun (r10 : Int) => (some r10)))) fun (kk6 : Int → Option Int) => (f_lumref_Narrow_L13 a0 kk6 fu fu (0 : Int) (a1 ++ r3)))))
set_option maxHeartbeats 2000000 in
set_option maxRecDepth 100000 in
theorem f_lumref_Narrow_ok (fu : Nat) (a0 : Int) (a1 : (List UInt8)) {r : Int} (h : f_lumref_Narrow fu a0 a1 = some r) : FnOk Tryd.prog 106 [(int .i64 a0), (str a1)] [] [] (fun (i : Unit) => { val := (int .u64 r) }) := by
 unfold f_lumref_Narrow at h
 refine fn_enter Tryd.func106 rfl Tryd.ntmps106 rfl (fun w0 Z0 => ?_)
 refine aw_sr ?_
 refine al_box (vs := [(iq a0)]) rfl (cv_rfl rfl) rfl (fun g1 => ?_)
 refine al_as rfl rfl ?_
 refine al_nt ?_
 refine aw_sr ?_
 refine al_as rfl rfl ?_
 refine al_nt ?_
 refine aw_sr ?_
 refine al_val (ov_makeFunc2 (vs := [(pq g1)]) rfl rfl) ?_
 refine al_as rfl rfl ?_
 refine al_nt ?_
 refine aw_sr ?_
 refine al_mv rfl rfl ?_
 refine al_mv rfl rfl ?_
 refine al_val (ov_strLen Tryd.underlying9 rfl rfl) ?_
 refine al_val (ov_rem (by decide) rfl rfl rfl) ?_
 refine al_in rfl rfl rfl rfl ?_
 refine al_val (ov_rem (by decide) rfl rfl rfl) ?_
 obtain ⟨r3, hc2, h⟩ := opt_some h
 refine al_call (vs := [(str ([0] : List UInt8)), (iq (((wq ((8 : Int) - (((a1.length : Int)).tmod (8 : Int))))).tmod (8 : Int)))]) (f_strings_Repeat_ok fu ([0] : List UInt8) (((wq ((8 : Int) - (((a1.length : Int)).tmod (8 : Int))))).tmod (8 : Int)) hc2) [] [] [0] pre_nil rfl (by simp) (by decide) (.inl rfl) rfl Tryd.func102 rfl rfl rfl (fun _ => ?_)
 obtain ⟨hc4, h⟩ := req_some h
 refine al_val (ov_strAdd hc4 rfl rfl rfl) ?_
 refine al_as rfl rfl ?_
 refine al_nt ?_
 obtain ⟨kk6, hkk6, h⟩ := lt_some h
 refine aw_seq_join (ι := Int) (fun i => (memOf w0 Z0 [] [(oBox g1 3 [(iq a0)])] [])) (fun i => (tab [(1, (str a1)), (5, (uq i)), (6, (Value.func (.func 155) #[] #[(pq g1)]))])) (fun i => kk6 i = some r) ?_ ?_
 ·rintro j5i5 h
  have h : kk6 j5i5 = some r := h
  rw [hkk6] at h
  dsimp only at h
  clear hkk6
  refine aw_show (m := (memOf w0 Z0 [] [(oBox g1 3 [(iq a0)])] [])) (S := (tab [(1, (str a1)), (5, (uq j5i5)), (6, (Value.func (.func 155) #[] #[(pq g1)]))])) ?_
  refine aw_sr ?_
  refine al_mv rfl rfl ?_
  refine al_mv rfl rfl ?_
  refine al_mv rfl rfl ?_
  refine al_val (ov_strLen Tryd.underlying9 rfl rfl) ?_
  refine al_val (ov_convInt (by rw [Tryd.underlying3]; rfl) Tryd.underlying76 rfl rfl) ?_
  obtain ⟨r8, hc7, h⟩ := opt_some h
  refine al_call (vs := [(uq j5i5), (uq (wu (a1.length : Int)))]) (f_lumref_Step_ok fu j5i5 (wu (a1.length : Int)) hc7) [] [] [0] pre_nil rfl (by simp) (by decide) (.inl rfl) rfl Tryd.func156 rfl rfl rfl (fun _ => ?_)
  obtain ⟨r10, hc9, h⟩ := opt_some h
  refine al_callF (vs := [(uq r8)]) (caps := [(pq g1)]) (f_lumref_Narrow_1_ok fu r8 (pq g1) a0 hc9) rfl [0] [] [0] (pre_boxP (x := a0) 0 rfl rfl (fun _ _ => rfl) pre_nil) rfl (by simp) (by decide) (.inr flat_res0) rfl rfl Tryd.func155 rfl rfl rfl (fun _ => ?_)
  refine al_as rfl rfl ?_
  refine al_nt ?_
  refine aw_ret ?_
  obtain rfl := Option.some.inj h
  exact fn_ret () [] [] rfl rfl rfl rfl (res1 rfl rfl) rfl rfl rfl (by decide)
 ·clear hkk6
  refine aw_block ?_
  refine aw_state (aw_loop (ι := Int × (List UInt8)) (fun i => (memOf w0 Z0 [] [(oBox g1 3 [(iq a0)])] [])) (fun i => (tab [(1, (str a1)), (5, (uq i.1)), (6, (Value.func (.func 155) #[] #[(pq g1)])), (7, (str i.2))])) (fun q i => f_lumref_Narrow_L13 a0 kk6 fu q i.1 i.2 = some r) ?_ fu ((0 : Int), (a1 ++ r3)) h) (fun w a hm hs => norm hm hs [0] [] [(1, (str a1)), (5, (uq (0 : Int))), (6, (Value.func (.func 155) #[] #[(pq g1)])), (7, (str (a1 ++ r3)))] (by decide) ⟨rfl, rfl, rfl, rfl, trivial⟩)
  clear h
  rintro k12 ⟨l11i5, l11s7⟩ h
  have h : f_lumref_Narrow_L13 a0 kk6 fu k12 l11i5 l11s7 = some r := h
  obtain _ | k12 := k12
  · rw [f_lumref_Narrow_L13] at h; cases h
  rw [f_lumref_Narrow_L13] at h
  refine aw_show (m := (memOf w0 Z0 [] [(oBox g1 3 [(iq a0)])] [])) (S := (tab [(1, (str a1)), (5, (uq l11i5)), (6, (Value.func (.func 155) #[] #[(pq g1)])), (7, (str l11s7))])) ?_
  obtain ⟨kk14, hkk14, h⟩ := lt_some h
  refine aw_body_join (ι := Int × (List UInt8)) (fun i => (memOf w0 Z0 [] [(oBox g1 3 [(iq a0)])] [])) (fun i => (tab [(1, (str a1)), (5, (uq i.1)), (6, (Value.func (.func 155) #[] #[(pq g1)])), (7, (str i.2))])) (fun i => kk14 i.1 i.2 = some r) (fun i h => aq_again k12 i (Nat.lt_succ_self _) (by rw [hkk14] at h; exact h) (fun w a hm hs => ⟨hm, hs⟩)) ?_
  clear hkk14
  refine aw_seq ?_
  refine aw_sr ?_
  refine al_mv rfl rfl ?_
  refine al_val (ov_strCmp rfl rfl rfl rfl) ?_
  refine al_nt ?_
  refine aw_cond rfl (fun hb15 => ?_) (fun hb15 => ?_)
  ·replace h := bif_t hb15 h
   refine aw_skip ?_
   refine aq_then ?_
   obtain ⟨kk17, hkk17, h⟩ := lt_some h
   refine aw_seq_join (ι := Int) (fun i => (memOf w0 Z0 [] [(oBox g1 3 [(iq a0)])] [])) (fun i => (tab [(1, (str a1)), (5, (uq i)), (6, (Value.func (.func 155) #[] #[(pq g1)])), (7, (str l11s7))])) (fun i => kk17 i = some r) ?_ ?_
   ·rintro j16i5 h
    have h : kk17 j16i5 = some r := h
    rw [hkk17] at h
    dsimp only at h
    clear hkk17
    refine aw_show (m := (memOf w0 Z0 [] [(oBox g1 3 [(iq a0)])] [])) (S := (tab [(1, (str a1)), (5, (uq j16i5)), (6, (Value.func (.func 155) #[] #[(pq g1)])), (7, (str l11s7))])) ?_
    refine aw_region ?_
    refine al_mv rfl rfl ?_
    obtain ⟨hc18, h⟩ := req_some h
    refine al_val (ov_strFrom hc18.1 hc18.2 Tryd.underlying9 rfl rfl rfl) ?_
    refine al_as rfl rfl ?_
    refine al_nil ?_
    exact aq_join (j16i5, (l11s7.drop ((8 : Int)).toNat)) h (fun w a hm hs => norm hm hs [0] [] [(1, (str a1)), (5, (uq j16i5)), (6, (Value.func (.func 155) #[] #[(pq g1)])), (7, (str (l11s7.drop ((8 : Int)).toNat)))] (by decide) ⟨rfl, rfl, rfl, rfl, trivial⟩)
   ·clear hkk17
    refine aw_block ?_
    refine aw_sr ?_
    refine al_as rfl rfl ?_
    refine al_nt ?_
    obtain ⟨kk20, hkk20, h⟩ := lt_some h
    refine aw_seq_join (ι := Int) (fun i => (memOf w0 Z0 [] [(oBox g1 3 [(iq a0)])] [])) (fun i => (tab [(1, (str a1)), (5, (uq l11i5)), (6, (Value.func (.func 155) #[] #[(pq g1)])), (7, (str l11s7)), (8, (uq i))])) (fun i => kk20 i = some r) ?_ ?_
    ·rintro j19i8 h
     have h : kk20 j19i8 = some r := h
     rw [hkk20] at h
     dsimp only at h
     clear hkk20
     refine aw_show (m := (memOf w0 Z0 [] [(oBox g1 3 [(iq a0)])] [])) (S := (tab [(1, (str a1)), (5, (uq l11i5)), (6, (Value.func (.func 155) #[] #[(pq g1)])), (7, (str l11s7)), (8, (uq j19i8))])) ?_
     refine aw_region ?_
     refine al_mv rfl rfl ?_
     refine al_mv rfl rfl ?_
     refine al_mv rfl rfl ?_
     obtain ⟨r22, hc21, h⟩ := opt_some h
     refine al_call (vs := [(uq l11i5), (uq j19i8)]) (f_lumref_Step_ok fu l11i5 j19i8 hc21) [] [] [0] pre_nil rfl (by simp) (by decide) (.inl rfl) rfl Tryd.func156 rfl rfl rfl (fun _ => ?_)
     obtain ⟨r24, hc23, h⟩ := opt_some h
     refine al_callF (vs := [(uq r22)]) (caps := [(pq g1)]) (f_lumref_Narrow_1_ok fu r22 (pq g1) a0 hc23) rfl [0] [] [0] (pre_boxP (x := a0) 0 rfl rfl (fun _ _ => rfl) pre_nil) rfl (by simp) (by decide) (.inr flat_res0) rfl rfl Tryd.func155 rfl rfl rfl (fun _ => ?_)
     refine al_as rfl rfl ?_
     refine al_nil ?_
     refine aq_block ?_
     exact aq_join r24 h (fun w a hm hs => norm hm hs [0] [] [(1, (str a1)), (5, (uq r24)), (6, (Value.func (.func 155) #[] #[(pq g1)])), (7, (str l11s7))] (by decide) ⟨rfl, rfl, rfl, rfl, trivial⟩)
    ·clear hkk20
     refine aw_sr ?_
     refine al_as rfl rfl ?_
     refine al_nt ?_
     refine aw_block ?_
     refine aw_state (aw_loop (ι := Int × Int) (fun i => (memOf w0 Z0 [] [(oBox g1 3 [(iq a0)])] [])) (fun i => (tab [(1, (str a1)), (5, (uq l11i5)), (6, (Value.func (.func 155) #[] #[(pq g1)])), (7, (str l11s7)), (8, (uq i.1)), (9, (iq i.2))])) (fun q i => f_lumref_Narrow_L27 l11s7 kk20 q i.1 i.2 = some r) ?_ fu ((0 : Int), (7 : Int)) h) (fun w a hm hs => norm hm hs [0] [] [(1, (str a1)), (5, (uq l11i5)), (6, (Value.func (.func 155) #[] #[(pq g1)])), (7, (str l11s7)), (8, (uq (0 : Int))), (9, (iq (7 : Int)))] (by decide) ⟨rfl, rfl, rfl, rfl, rfl, rfl, trivial⟩)
     clear h
     rintro k26 ⟨l25i8, l25i9⟩ h
     have h : f_lumref_Narrow_L27 l11s7 kk20 k26 l25i8 l25i9 = some r := h
     obtain _ | k26 := k26
     · rw [f_lumref_Narrow_L27] at h; cases h
     rw [f_lumref_Narrow_L27] at h
     refine aw_show (m := (memOf w0 Z0 [] [(oBox g1 3 [(iq a0)])] [])) (S := (tab [(1, (str a1)), (5, (uq l11i5)), (6, (Value.func (.func 155) #[] #[(pq g1)])), (7, (str l11s7)), (8, (uq l25i8)), (9, (iq l25i9))])) ?_
     refine aw_seq ?_
     refine aw_sr ?_
     refine al_mv rfl rfl ?_
     refine al_in rfl rfl rfl rfl ?_
     refine al_nt ?_
     refine aw_cond rfl (fun hb28 => ?_) (fun hb28 => ?_)
     ·replace h := bif_t hb28 h
      refine aw_skip ?_
      refine aq_then ?_
      refine aw_seq ?_
      refine aw_block ?_
      refine aw_region ?_
      refine al_mv rfl rfl ?_
      refine al_in rfl rfl rfl rfl ?_
      refine al_mv rfl rfl ?_
      refine al_mv rfl rfl ?_
      obtain ⟨hc29, h⟩ := req_some h
      refine al_val (ov_strIdx hc29.1 hc29.2 Tryd.underlying9 rfl rfl rfl) ?_
      refine al_val (ov_convInt (by rw [Tryd.underlying5]; rfl) Tryd.underlying76 rfl rfl) ?_
      refine al_in rfl rfl rfl rfl ?_
      refine al_as rfl rfl ?_
      refine al_nil ?_
      refine aq_block ?_
      refine aq_then ?_
      refine aw_region ?_
      refine al_mv rfl rfl ?_
      refine al_in rfl rfl rfl rfl ?_
      refine al_as rfl rfl ?_
      refine al_nil ?_
      exact aq_again k26 ((wu ((wu ((256 : Int) * l25i8)) + (wu (En.bAt l11s7 l25i9)))), (wq (l25i9 - (1 : Int)))) (Nat.lt_succ_self _) h (fun w a hm hs => norm hm hs [0] [] [(1, (str a1)), (5, (uq l11i5)), (6, (Value.func (.func 155) #[] #[(pq g1)])), (7, (str l11s7)), (8, (uq (wu ((wu ((256 : Int) * l25i8)) + (wu (En.bAt l11s7 l25i9)))))), (9, (iq (wq (l25i9 - (1 : Int)))))] (by decide) ⟨rfl, rfl, rfl, rfl, rfl, rfl, trivial⟩)
     ·replace h := bif_f hb28 h
      refine aw_exit ?_
      refine aq_then_exit ?_
      refine aq_then_exit ?_
      refine aq_block_exit ?_
      exact aq_join l25i8 h (fun w a hm hs => norm hm hs [0] [] [(1, (str a1)), (5, (uq l11i5)), (6, (Value.func (.func 155) #[] #[(pq g1)])), (7, (str l11s7)), (8, (uq l25i8))] (by decide) ⟨rfl, rfl, rfl, rfl, rfl, trivial⟩)
  ·replace h := bif_f hb15 h
   refine aw_exit ?_
   refine aq_then_exit ?_
   refine aq_then_exit ?_
   refine aq_block_exit ?_
   exact aq_join l11i5 h (fun w a hm hs => norm hm hs [0] [] [(1, (str a1)), (5, (uq l11i5)), (6, (Value.func (.func 155) #[] #[(pq g1)]))] (by decide) ⟨rfl, rfl, rfl, trivial⟩)
def f_lumref_digits : Nat → Int → Option (List UInt8)
  | 0, _ => none
  | fu + 1, a0 => (bif (a0 == (0 : Int)) then (some ([] : List UInt8)) else (opt (f_lumref_digits fu (IntKind.u64.wrap ((a0).tdiv (256 : Int)))) fun (r3 : (List UInt8)) => (req (0 ≤ (IntKind.u8.wrap ((a0).tmod (256 : Int))) ∧ (IntKind.u8.wrap ((a0).tmod (256 : Int))) ≤ 255) (req (r3.length + ([(UInt8.ofNat ((IntKind.u8.wrap ((a0).tmod (256 : Int)))).toNat)]).length ≤ 9223372036854775807) (some (r3 ++ ([(UInt8.ofNat ((IntKind.u8.wrap ((a0).tmod (256 : Int)))).toNat)])))))))
set_option maxHeartbeats 2000000 in
set_option maxRecDepth 100000 in
theorem f_lumref_digits_ok (fu : Nat) (a0 : Int) {r : (List UInt8)} (h : f_lumref_digits fu a0 = some r) : FnOk Tryd.prog 107 [(int .u64 a0)] [] [] (fun (i : Unit) => { val := (str r) }) := by
 cases fu with
 | zero => rw [f_lumref_digits] at h; cases h
 | succ fu =>
  rw [f_lumref_digits] at h
  refine fn_enter Tryd.func107 rfl Tryd.ntmps107 rfl (fun w0 Z0 => ?_)
  refine aw_sr ?_
  refine al_as rfl rfl ?_
  refine al_nt ?_
  refine aw_seq ?_
  refine aw_sr ?_
  refine al_mv rfl rfl ?_
  refine al_in rfl rfl rfl rfl ?_
  refine al_nt ?_
  refine aw_cond rfl (fun hb1 => ?_) (fun hb1 => ?_)
  ·replace h := bif_t hb1 h
   refine aw_sr ?_
   refine al_as rfl rfl ?_
   refine al_nt ?_
   refine aw_ret ?_
   refine aq_then_ret ?_
   obtain rfl := Option.some.inj h
   exact fn_ret () [] [] rfl rfl rfl rfl (res1 rfl rfl) rfl rfl rfl (by decide)
  ·replace h := bif_f hb1 h
   refine aw_skip ?_
   refine aq_then ?_
   refine aw_seq ?_
   obtain ⟨r3, hc2, h⟩ := opt_some h
   obtain ⟨hc5, h⟩ := req_some h
   obtain ⟨hc6, h⟩ := req_some h
   refine aw_region_draw 9 [(5, (fun u => fEq u (uq a0))), (6, (fun u => fEq u (uq (wu ((a0).tdiv (256 : Int)))))), (7, (fun u => fEq u (str r3))), (8, (fun u => fEq u (uq a0))), (9, (fun u => fEq u (uq ((a0).tmod (256 : Int))))), (10, (fun u => fEq u (i8 (w8 ((a0).tmod (256 : Int)))))), (11, (fun v4 => (fDat (tyList tyU8) [v4] [(UInt8.ofNat ((w8 ((a0).tmod (256 : Int)))).toNat)]))), (12, (fun u => fEq u (str [(UInt8.ofNat ((w8 ((a0).tmod (256 : Int)))).toNat)]))), (13, (fun u => fEq u (str (r3 ++ ([(UInt8.ofNat ((w8 ((a0).tmod (256 : Int)))).toNat)])))))] (tab [(0, (uq a0)), (2, (str ([] : List UInt8)))]) mixed (by kernel_rfl) rfl rfl rfl (fun a hs => hs.tab _ (allT_mem ⟨rfl, rfl, trivial⟩)) ⟨⟨rfl, ld_val (ov_move rfl rfl)⟩, ⟨rfl, ld_eq (j := 0) rfl rfl (ld_val (ov_quo (by decide) rfl rfl rfl))⟩, ⟨rfl, ld_eq (j := 1) rfl rfl (ld_callV (vs := [(uq (wu ((a0).tdiv (256 : Int))))]) (f_lumref_digits_ok fu (wu ((a0).tdiv (256 : Int))) hc2) [] pre_nil rfl Tryd.func107 rfl rfl rfl)⟩, ⟨rfl, ld_val (ov_move rfl rfl)⟩, ⟨rfl, ld_eq (j := 3) rfl rfl (ld_val (ov_rem (by decide) rfl rfl rfl))⟩, ⟨rfl, ld_eq (j := 4) rfl rfl (ld_val (ov_convInt (by rw [Tryd.underlying76]; rfl) Tryd.underlying5 rfl rfl))⟩, ⟨rfl, ld_eq (j := 5) rfl rfl (ld_buildSlice (τ := tyU8) (e := 5) (k := 1) (cs := [(i8 (w8 ((a0).tmod (256 : Int))))]) (xs := [(UInt8.ofNat ((w8 ((a0).tmod (256 : Int)))).toNat)]) rfl (by decide) rfl (fun w a hm hs => ⟨([(i8 (w8 ((a0).tmod (256 : Int))))]).toArray, rfl, by simp only [List.map_toArray, List.map_cons, List.map_nil, hs.ev (x := .tmp 10) rfl]; exact run_bs [(i8 (w8 ((a0).tmod (256 : Int))))] [(i8 (w8 ((a0).tmod (256 : Int))))] Tryd.underlying74 to5 rfl rfl (bs_cons (l := [(i8 (w8 ((a0).tmod (256 : Int))))]) (cs := []) (cv_rfl rfl) rfl bs_nil) hm⟩) (fun hm => ⟨_, _, rfl, (fun _ => u8_rep hc5) hm, rfl⟩) rfl)⟩, ⟨rfl, ld_fact (j := 6) rfl rfl (fun v4 => ld_val (ov_toStr 0 rfl rfl Tryd.underlying74 Tryd.underlying5 Tryd.underlying9 rfl))⟩, ⟨rfl, ld_eq (j := 2) rfl rfl (ld_eq (j := 7) rfl rfl (ld_val (ov_strAdd hc6 rfl rfl rfl)))⟩, trivial⟩ ?_
   refine tl_eq 8 rfl ?_
   refine tl_done ?_
   refine al_as rfl rfl ?_
   refine al_nt ?_
   refine aw_ret ?_
   obtain rfl := Option.some.inj h
   exact fn_ret () [] [] rfl rfl rfl rfl (res1 rfl rfl) rfl rfl rfl (by decide)
def f_lumref_wide (fu : Nat) (a0 : Int) : Option (List UInt8) := (opt (f_lumref_digits fu a0) fun (r2 : (List UInt8)) => (opt (f_strings_Repeat fu ([0] : List UInt8) (IntKind.i64.wrap ((8 : Int) - (r2.length : Int)))) fun (r4 : (List UInt8)) => (req (r4.length + r2.length ≤ 9223372036854775807) (some (r4 ++ r2)))))
set_option maxRecDepth 100000 in
theorem f_lumref_wide_ok (fu : Nat) (a0 : Int) {r : (List UInt8)} (h : f_lumref_wide fu a0 = some r) : FnOk Tryd.prog 105 [(int .u64 a0)] [] [] (fun (i : Unit) => { val := (str r) }) := by
 unfold f_lumref_wide at h
 refine fn_enter Tryd.func105 rfl Tryd.ntmps105 rfl (fun w0 Z0 => ?_)
 refine aw_sr ?_
 refine al_as rfl rfl ?_
 refine al_nt ?_
 refine aw_sr ?_
 refine al_mv rfl rfl ?_
 obtain ⟨r2, hc1, h⟩ := opt_some h
 refine al_call (vs := [(uq a0)]) (f_lumref_digits_ok fu a0 hc1) [] [] [] pre_nil rfl (by simp) (by decide) (.inl rfl) rfl Tryd.func107 rfl rfl rfl (fun _ => ?_)
 refine al_as rfl rfl ?_
 refine al_nt ?_
 refine aw_sr ?_
 refine al_mv rfl rfl ?_
 refine al_val (ov_strLen Tryd.underlying9 rfl rfl) ?_
 refine al_in rfl rfl rfl rfl ?_
 obtain ⟨r4, hc3, h⟩ := opt_some h
 refine al_call (vs := [(str ([0] : List UInt8)), (iq (wq ((8 : Int) - (r2.length : Int))))]) (f_strings_Repeat_ok fu ([0] : List UInt8) (wq ((8 : Int) - (r2.length : Int))) hc3) [] [] [] pre_nil rfl (by simp) (by decide) (.inl rfl) rfl Tryd.func102 rfl rfl rfl (fun _ => ?_)
 refine al_mv rfl rfl ?_
 obtain ⟨hc5, h⟩ := req_some h
 refine al_val (ov_strAdd hc5 rfl rfl rfl) ?_
 refine al_as rfl rfl ?_
 refine al_nt ?_
 refine aw_ret ?_
 obtain rfl := Option.some.inj h
 exact fn_ret () [] [] rfl rfl rfl rfl (res1 rfl rfl) rfl rfl rfl (by decide)
def f_lumref_ID (fu : Nat) (a0 : (List UInt8)) : Option A8u8 := (opt (f_lumref_Narrow fu (64 : Int) a0) fun (r3 : Int) => (opt (f_lumref_wide fu r3) fun (r5 : (List UInt8)) => (req (r5.length ≤ 9223372036854775807) (req (8 ≤ r5.length) (some (ofA8u8 r5))))))
set_option maxRecDepth 100000 in
theorem f_lumref_ID_ok (fu : Nat) (a0 : (List UInt8)) {r : A8u8} (h : f_lumref_ID fu a0 = some r) : FnOk Tryd.prog 48 [(str a0)] [] [] (fun (i : Unit) => { val := (ag (cA8u8 r)) }) := by
 unfold f_lumref_ID at h
 refine fn_enter Tryd.func48 rfl Tryd.ntmps48 rfl (fun w0 Z0 => ?_)
 refine aw_sr ?_
 refine al_alloc (zs := (cA8u8 (A8u8.mk (0 : UInt8) (0 : UInt8) (0 : UInt8) (0 : UInt8) (0 : UInt8) (0 : UInt8) (0 : UInt8) (0 : UInt8)))) (zeroOf_to to30) rfl rfl (fun g1 => ?_)
 refine al_nt ?_
 refine aw_sr ?_
 refine al_mv rfl rfl ?_
 obtain ⟨r3, hc2, h⟩ := opt_some h
 refine al_call (vs := [(iq (64 : Int)), (str a0)]) (f_lumref_Narrow_ok fu (64 : Int) a0 hc2) [] [] [0] pre_nil rfl (by simp) (by decide) (.inl rfl) rfl Tryd.func106 rfl rfl rfl (fun _ => ?_)
 obtain ⟨r5, hc4, h⟩ := opt_some h
 refine al_call (vs := [(uq r3)]) (f_lumref_wide_ok fu r3 hc4) [] [] [0] pre_nil rfl (by simp) (by decide) (.inl rfl) rfl Tryd.func105 rfl rfl rfl (fun _ => ?_)
 obtain ⟨hc6, h⟩ := req_some h
 refine al_bytes hc6 rfl Tryd.underlying9 Tryd.underlying74 Tryd.underlying5 rfl (fun s7 => ?_)
 obtain ⟨hc9, h⟩ := req_some h
 refine al_s2ap (τA := tyA8u8) (x := (ofA8u8 r5)) 0 8 hc9 rfl (fun h9 => oflA8u8 hc9 h9) rfl rfl Tryd.underlying30 rfl (fun p8 => ?_)
 refine al_val (ov_loadP (ds := (cA8u8 (ofA8u8 r5))) 0 rfl encA8u8 rfl Tryd.underlying30 sz30 rfl rfl rfl) ?_
 refine al_store (i := 0) (vs := (cA8u8 (ofA8u8 r5))) (cs' := (cA8u8 (ofA8u8 r5))) rfl rfl rfl sz30 (cv_rfl rfl) rfl (co_all (oneA8u8 (ofA8u8 r5))) (Nat.le_of_ble_eq_true rfl) rfl rfl ?_
 refine al_nt ?_
 refine aw_ret ?_
 obtain rfl := Option.some.inj h
 exact fn_ret () [] [] rfl rfl rfl rfl (resC rfl (resB (i := 0) rfl rfl Tryd.underlying30 sz30 rfl rfl rfl (resN)) rfl) rfl rfl rfl (by decide)
def f_lumref_BlobID (fu : Nat) (a0 : S_api_Blob) : Option (A8u8 × Int) := (opt (f_lumref_kindOK fu a0.Kind) fun (r4 : Bool) => (bif (!r4) then (some ((A8u8.mk (0 : UInt8) (0 : UInt8) (0 : UInt8) (0 : UInt8) (0 : UInt8) (0 : UInt8) (0 : UInt8) (0 : UInt8)), (5 : Int))) else (bif (decide ((a0.Bytes.length : Int) > (4096 : Int))) then (some ((A8u8.mk (0 : UInt8) (0 : UInt8) (0 : UInt8) (0 : UInt8) (0 : UInt8) (0 : UInt8) (0 : UInt8) (0 : UInt8)), (2 : Int))) else (req (0 ≤ (IntKind.u8.wrap a0.Kind) ∧ (IntKind.u8.wrap a0.Kind) ≤ 255) (req (([(UInt8.ofNat ((IntKind.u8.wrap a0.Kind)).toNat)]).length + a0.Bytes.length ≤ 9223372036854775807) (opt (f_lumref_ID fu (([(UInt8.ofNat ((IntKind.u8.wrap a0.Kind)).toNat)]) ++ a0.Bytes)) fun (r11 : A8u8) => (some (r11, (0 : Int)))))))))
set_option maxHeartbeats 2000000 in
set_option maxRecDepth 100000 in
theorem f_lumref_BlobID_ok (fu : Nat) (a0 : S_api_Blob) {r : (A8u8 × Int)} (h : f_lumref_BlobID fu a0 = some r) : FnOk Tryd.prog 13 [(ag [(int .i64 a0.Kind), (str a0.Bytes)])] [] [] (fun (i : Unit) => { val := (Value.tuple #[(ag (cA8u8 r.1)), (int .i64 r.2)]) }) := by
 unfold f_lumref_BlobID at h
 refine fn_enter Tryd.func13 rfl Tryd.ntmps13 rfl (fun w0 Z0 => ?_)
 refine aw_sr ?_
 refine al_box (vs := [(iq a0.Kind), (str a0.Bytes)]) rfl (cv_rfl rfl) rfl (fun g1 => ?_)
 refine al_alloc (zs := (cA8u8 (A8u8.mk (0 : UInt8) (0 : UInt8) (0 : UInt8) (0 : UInt8) (0 : UInt8) (0 : UInt8) (0 : UInt8) (0 : UInt8)))) (zeroOf_to to30) rfl rfl (fun g2 => ?_)
 refine al_as rfl rfl ?_
 refine al_nt ?_
 refine aw_seq ?_
 refine aw_sr ?_
 refine al_val (ov_fieldA (p := 0) rfl Tryd.underlying28 rfl sz3 rfl rfl rfl) ?_
 refine al_val (ov_load (i := 1) (v := (iq a0.Kind)) rfl rfl Tryd.underlying3 sz3 rfl rfl rfl rfl) ?_
 obtain ⟨r4, hc3, h⟩ := opt_some h
 refine al_call (vs := [(iq a0.Kind)]) (f_lumref_kindOK_ok fu a0.Kind hc3) [] [] [0, 1] pre_nil rfl (by simp) (by decide) (.inl rfl) rfl Tryd.func47 rfl rfl rfl (fun _ => ?_)
 refine al_val (ov_not rfl rfl) ?_
 refine al_nt ?_
 refine aw_cond rfl (fun hb5 => ?_) (fun hb5 => ?_)
 ·replace h := bif_t hb5 h
  refine aw_sr ?_
  refine al_val (ov_build (cells := ((cA8u8 (A8u8.mk (0 : UInt8) (0 : UInt8) (0 : UInt8) (0 : UInt8) (0 : UInt8) (0 : UInt8) (0 : UInt8) (0 : UInt8)))).toArray) (cs := (cA8u8 (A8u8.mk (0 : UInt8) (0 : UInt8) (0 : UInt8) (0 : UInt8) (0 : UInt8) (0 : UInt8) (0 : UInt8) (0 : UInt8)))) rfl (fun w a hm hs => by simp only [List.map_toArray, List.map_cons, List.map_nil, List.toList_toArray]; kernel_rfl)) ?_
  refine al_store (i := 0) (vs := (cA8u8 (A8u8.mk (0 : UInt8) (0 : UInt8) (0 : UInt8) (0 : UInt8) (0 : UInt8) (0 : UInt8) (0 : UInt8) (0 : UInt8)))) (cs' := (cA8u8 (A8u8.mk (0 : UInt8) (0 : UInt8) (0 : UInt8) (0 : UInt8) (0 : UInt8) (0 : UInt8) (0 : UInt8) (0 : UInt8)))) rfl rfl rfl sz30 (cv_rfl rfl) rfl (co_all (oneA8u8 (A8u8.mk (0 : UInt8) (0 : UInt8) (0 : UInt8) (0 : UInt8) (0 : UInt8) (0 : UInt8) (0 : UInt8) (0 : UInt8)))) (Nat.le_of_ble_eq_true rfl) rfl rfl ?_
  refine al_as rfl rfl ?_
  refine al_nt ?_
  refine aw_ret ?_
  refine aq_then_ret ?_
  obtain rfl := Option.some.inj h
  exact fn_ret () [] [] rfl rfl rfl rfl (resC rfl (resB (i := 0) rfl rfl Tryd.underlying30 sz30 rfl rfl rfl (resT rfl (resN))) rfl) rfl rfl rfl (by decide)
 ·replace h := bif_f hb5 h
  refine aw_skip ?_
  refine aq_then ?_
  refine aw_seq ?_
  refine aw_sr ?_
  refine al_val (ov_fieldA (p := 1) rfl Tryd.underlying28 rfl sz9 rfl rfl rfl) ?_
  refine al_val (ov_load (i := 1) (v := (str a0.Bytes)) rfl rfl Tryd.underlying9 sz9 rfl rfl rfl rfl) ?_
  refine al_val (ov_strLen Tryd.underlying9 rfl rfl) ?_
  refine al_in rfl rfl rfl rfl ?_
  refine al_nt ?_
  refine aw_cond rfl (fun hb6 => ?_) (fun hb6 => ?_)
  ·replace h := bif_t hb6 h
   refine aw_sr ?_
   refine al_val (ov_build (cells := ((cA8u8 (A8u8.mk (0 : UInt8) (0 : UInt8) (0 : UInt8) (0 : UInt8) (0 : UInt8) (0 : UInt8) (0 : UInt8) (0 : UInt8)))).toArray) (cs := (cA8u8 (A8u8.mk (0 : UInt8) (0 : UInt8) (0 : UInt8) (0 : UInt8) (0 : UInt8) (0 : UInt8) (0 : UInt8) (0 : UInt8)))) rfl (fun w a hm hs => by simp only [List.map_toArray, List.map_cons, List.map_nil, List.toList_toArray]; kernel_rfl)) ?_
   refine al_store (i := 0) (vs := (cA8u8 (A8u8.mk (0 : UInt8) (0 : UInt8) (0 : UInt8) (0 : UInt8) (0 : UInt8) (0 : UInt8) (0 : UInt8) (0 : UInt8)))) (cs' := (cA8u8 (A8u8.mk (0 : UInt8) (0 : UInt8) (0 : UInt8) (0 : UInt8) (0 : UInt8) (0 : UInt8) (0 : UInt8) (0 : UInt8)))) rfl rfl rfl sz30 (cv_rfl rfl) rfl (co_all (oneA8u8 (A8u8.mk (0 : UInt8) (0 : UInt8) (0 : UInt8) (0 : UInt8) (0 : UInt8) (0 : UInt8) (0 : UInt8) (0 : UInt8)))) (Nat.le_of_ble_eq_true rfl) rfl rfl ?_
   refine al_as rfl rfl ?_
   refine al_nt ?_
   refine aw_ret ?_
   refine aq_then_ret ?_
   obtain rfl := Option.some.inj h
   exact fn_ret () [] [] rfl rfl rfl rfl (resC rfl (resB (i := 0) rfl rfl Tryd.underlying30 sz30 rfl rfl rfl (resT rfl (resN))) rfl) rfl rfl rfl (by decide)
  ·replace h := bif_f hb6 h
   refine aw_skip ?_
   refine aq_tr ?_
   refine al_val (ov_fieldA (p := 0) rfl Tryd.underlying28 rfl sz3 rfl rfl rfl) ?_
   refine al_val (ov_load (i := 1) (v := (iq a0.Kind)) rfl rfl Tryd.underlying3 sz3 rfl rfl rfl rfl) ?_
   refine al_val (ov_convInt (by rw [Tryd.underlying3]; rfl) Tryd.underlying5 rfl rfl) ?_
   obtain ⟨hc8, h⟩ := req_some h
   refine al_buildSlice (τ := tyU8) (e := 5) (k := 1) (sz := 0) (by_ := 0) (z := undef) (cs := [(i8 (w8 a0.Kind))]) (xs := [(UInt8.ofNat ((w8 a0.Kind)).toNat)]) rfl (by decide) (fun w a hm hs => ⟨([(i8 (w8 a0.Kind))]).toArray, rfl, by simp only [List.map_toArray, List.map_cons, List.map_nil, hs.ev (x := .tmp 16) rfl]; exact run_bs [(i8 (w8 a0.Kind))] [(i8 (w8 a0.Kind))] Tryd.underlying74 to5 rfl rfl (bs_cons (l := [(i8 (w8 a0.Kind))]) (cs := []) (cv_rfl rfl) rfl bs_nil) hm⟩) (fun hm => ⟨_, _, rfl, (fun _ => u8_rep hc8) hm, rfl⟩) rfl (fun v7 => ?_)
   refine al_val (ov_toStrR 0 rfl rfl Tryd.underlying74 Tryd.underlying5 Tryd.underlying9 rfl) ?_
   refine al_val (ov_fieldA (p := 1) rfl Tryd.underlying28 rfl sz9 rfl rfl rfl) ?_
   refine al_val (ov_load (i := 2) (v := (str a0.Bytes)) rfl rfl Tryd.underlying9 sz9 rfl rfl rfl rfl) ?_
   obtain ⟨hc9, h⟩ := req_some h
   refine al_val (ov_strAdd hc9 rfl rfl rfl) ?_
   obtain ⟨r11, hc10, h⟩ := opt_some h
   refine al_call (vs := [(str (([(UInt8.ofNat ((w8 a0.Kind)).toNat)]) ++ a0.Bytes))]) (f_lumref_ID_ok fu (([(UInt8.ofNat ((w8 a0.Kind)).toNat)]) ++ a0.Bytes) hc10) [] [] [0, 1, 2] pre_nil rfl (by simp) (by decide) (.inl rfl) rfl Tryd.func48 rfl rfl rfl (fun _ => ?_)
   refine al_store (i := 1) (vs := (cA8u8 r11)) (cs' := (cA8u8 r11)) rfl rfl rfl sz30 (cv_rfl rfl) rfl (co_all (oneA8u8 r11)) (Nat.le_of_ble_eq_true rfl) rfl rfl ?_
   refine al_as rfl rfl ?_
   refine al_nt ?_
   refine aw_ret ?_
   obtain rfl := Option.some.inj h
   exact fn_ret () [] [] rfl rfl rfl rfl (resC rfl (resB (i := 1) rfl rfl Tryd.underlying30 sz30 rfl rfl rfl (resT rfl (resN))) rfl) rfl rfl rfl (by decide)
-- STUCK (encoding/binary.bigEndian).AppendUint64: binary.go:222: call: append to data
def f_strings_TrimLeft (fu : Nat) (a0 a1 : List UInt8) : Option (List UInt8) := match a1 with | [c] => req (c.toNat < 128) (some (Lib.trimLeftB a0 c)) | _ => none
theorem f_strings_TrimLeft_ok (fu : Nat) (a0 a1 : List UInt8) {r : List UInt8} (h : f_strings_TrimLeft fu a0 a1 = some r) : FnOk Tryd.prog 146 [(str a0), (str a1)] [] [] (fun (i : Unit) => { val := (str r) }) := by
  unfold f_strings_TrimLeft at h
  split at h
  · rename_i c
    obtain ⟨hc, h⟩ := req_some h
    obtain rfl := Option.some.inj h
    refine fnok_pure fun w => ?_
    exact (Tryd.strings_TrimLeft_one ⟨a0.toArray⟩ c hc w).mono fun e w' h9 => ⟨by simpa [str] using h9.1, by rw [h9.2]; exact Below.refl _ _⟩
  · cases h
def f_binary_BEAppendUint64_nil (fu : Nat) (a0 : Unit) (a2 : Int) : Option (List UInt8) := req (0 ≤ a2 ∧ a2 < 18446744073709551616) (some (Lib.beBytes 8 a2.toNat))
theorem f_binary_BEAppendUint64_nil_ok (fu : Nat) (a0 : Unit) (a2 : Int) {r : List UInt8} (h : f_binary_BEAppendUint64_nil fu a0 a2 = some r) : FnOk Tryd.prog 145 [(ag []), (Value.slice none 0 0), (int .u64 a2)] [] [] (fun (i : Value) => { val := i, own := [(oRow i 5 tyU8 r)] }) := by
  unfold f_binary_BEAppendUint64_nil at h
  obtain ⟨hc, h⟩ := req_some h
  obtain rfl := Option.some.inj h
  obtain ⟨n, rfl⟩ : ∃ n : Nat, a2 = n := ⟨a2.toNat, by omega⟩
  refine fnok_own fun w => ?_
  refine (Tryd.binary_BE_AppendUint64 w.heap.size 0 n (by omega) (.slice none 0 0) [] w ⟨rfl, .inl ⟨rfl, rfl⟩⟩ (Nat.le_refl _) (by omega)).mono fun ex w' h9 => ?_
  obtain ⟨v, h1, h2, h3⟩ := h9
  refine ⟨v, _, h1, ?_, fun Z => u8_row _, h3⟩
  rw [Lib.beBytes_length]
  show World.ownsRow _ _ _ 1 _ _ _
  simpa using h2
def f_num_digits (fu : Nat) (a0 : Int) : Option (List UInt8) := (opt (f_binary_BEAppendUint64_nil fu () a0) fun (r2 : (List UInt8)) => (opt (f_strings_TrimLeft fu r2 ([0] : List UInt8)) fun (r5 : (List UInt8)) => (some r5)))
set_option maxRecDepth 100000 in
theorem f_num_digits_ok (fu : Nat) (a0 : Int) {r : (List UInt8)} (h : f_num_digits fu a0 = some r) : FnOk Tryd.prog 94 [(int .u64 a0)] [] [] (fun (i : Unit) => { val := (str r) }) := by
 unfold f_num_digits at h
 refine fn_enter Tryd.func94 rfl Tryd.ntmps94 rfl (fun w0 Z0 => ?_)
 refine aw_sr ?_
 refine al_as rfl rfl ?_
 refine al_nt ?_
 refine aw_sr ?_
 refine al_val (ov_load0 Tryd.underlying162 sz162 rfl rfl rfl) ?_
 refine al_mv rfl rfl ?_
 obtain ⟨r2, hc1, h⟩ := opt_some h
 refine al_call (vs := [(ag []), nS, (uq a0)]) (f_binary_BEAppendUint64_nil_ok fu () a0 hc1) [] [] [] pre_nil rfl (by simp) (by decide) (.inl rfl) rfl Tryd.func145 rfl rfl rfl (fun v3 => ?_)
 refine al_val (ov_toStrR 0 rfl rfl Tryd.underlying74 Tryd.underlying5 Tryd.underlying9 rfl) ?_
 refine al_as rfl rfl ?_
 refine al_nt ?_
 refine aw_sr ?_
 refine al_mv rfl rfl ?_
 obtain ⟨r5, hc4, h⟩ := opt_some h
 refine al_call (vs := [(str r2), (str ([0] : List UInt8))]) (f_strings_TrimLeft_ok fu r2 ([0] : List UInt8) hc4) [] [] [0] pre_nil rfl (by simp) (by decide) (.inl rfl) rfl Tryd.func146 rfl rfl rfl (fun _ => ?_)
 refine al_as rfl rfl ?_
 refine al_nt ?_
 refine aw_ret ?_
 obtain rfl := Option.some.inj h
 exact fn_ret () [] [] rfl rfl rfl rfl (res1 rfl rfl) rfl rfl rfl (by decide)
def f_num_Put (fu : Nat) (a0 : Int) : Option (List UInt8) := (opt (f_num_digits fu a0) fun (r2 : (List UInt8)) => (req (0 ≤ (IntKind.u8.wrap (r2.length : Int)) ∧ (IntKind.u8.wrap (r2.length : Int)) ≤ 255) (req (([(UInt8.ofNat ((IntKind.u8.wrap (r2.length : Int))).toNat)]).length + r2.length ≤ 9223372036854775807) (some (([(UInt8.ofNat ((IntKind.u8.wrap (r2.length : Int))).toNat)]) ++ r2)))))
set_option maxHeartbeats 2000000 in
set_option maxRecDepth 100000 in
theorem f_num_Put_ok (fu : Nat) (a0 : Int) {r : (List UInt8)} (h : f_num_Put fu a0 = some r) : FnOk Tryd.prog 42 [(int .u64 a0)] [] [] (fun (i : Unit) => { val := (str r) }) := by
 unfold f_num_Put at h
 refine fn_enter Tryd.func42 rfl Tryd.ntmps42 rfl (fun w0 Z0 => ?_)
 refine aw_sr ?_
 refine al_as rfl rfl ?_
 refine al_nt ?_
 refine aw_sr ?_
 refine al_mv rfl rfl ?_
 obtain ⟨r2, hc1, h⟩ := opt_some h
 refine al_call (vs := [(uq a0)]) (f_num_digits_ok fu a0 hc1) [] [] [] pre_nil rfl (by simp) (by decide) (.inl rfl) rfl Tryd.func94 rfl rfl rfl (fun _ => ?_)
 refine al_as rfl rfl ?_
 refine al_nt ?_
 refine aw_sr ?_
 refine al_mv rfl rfl ?_
 refine al_val (ov_strLen Tryd.underlying9 rfl rfl) ?_
 refine al_val (ov_convInt (by rw [Tryd.underlying3]; rfl) Tryd.underlying5 rfl rfl) ?_
 obtain ⟨hc4, h⟩ := req_some h
 refine al_buildSlice (τ := tyU8) (e := 5) (k := 1) (sz := 0) (by_ := 0) (z := undef) (cs := [(i8 (w8 (r2.length : Int)))]) (xs := [(UInt8.ofNat ((w8 (r2.length : Int))).toNat)]) rfl (by decide) (fun w a hm hs => ⟨([(i8 (w8 (r2.length : Int)))]).toArray, rfl, by simp only [List.map_toArray, List.map_cons, List.map_nil, hs.ev (x := .tmp 8) rfl]; exact run_bs [(i8 (w8 (r2.length : Int)))] [(i8 (w8 (r2.length : Int)))] Tryd.underlying74 to5 rfl rfl (bs_cons (l := [(i8 (w8 (r2.length : Int)))]) (cs := []) (cv_rfl rfl) rfl bs_nil) hm⟩) (fun hm => ⟨_, _, rfl, (fun _ => u8_rep hc4) hm, rfl⟩) rfl (fun v3 => ?_)
 refine al_val (ov_toStrR 0 rfl rfl Tryd.underlying74 Tryd.underlying5 Tryd.underlying9 rfl) ?_
 refine al_mv rfl rfl ?_
 obtain ⟨hc5, h⟩ := req_some h
 refine al_val (ov_strAdd hc5 rfl rfl rfl) ?_
 refine al_as rfl rfl ?_
 refine al_nt ?_
 refine aw_ret ?_
 obtain rfl := Option.some.inj h
 exact fn_ret () [] [] rfl rfl rfl rfl (res1 rfl rfl) rfl rfl rfl (by decide)
def f_lz_longest_L19 (a0 : (List UInt8)) (a1 : Int) (l5i7 : Int) (kk15 : (Int → Option S_api_Token)) : Nat → Int → Option S_api_Token
  | 0, _ => none
  | k18 + 1, l17i8 => (lt (fun (j20b43 : Bool) => (bif j20b43 then (f_lz_longest_L19 a0 a1 l5i7 kk15 k18 (IntKind.i64.wrap (l17i8 + (1 : Int)))) else (kk15 l17i8))) fun (kk21 : Bool → Option S_api_Token) => (bif (decide (l17i8 < (if (IntKind.i64.wrap ((a0.length : Int) - a1)) < (255 : Int) then (IntKind.i64.wrap ((a0.length : Int) - a1)) else (255 : Int)))) then (req (0 ≤ (IntKind.i64.wrap (a1 + l17i8)) ∧ (IntKind.i64.wrap (a1 + l17i8)) < (a0.length : Int)) (req (0 ≤ (IntKind.i64.wrap ((IntKind.i64.wrap (a1 + l17i8)) - l5i7)) ∧ (IntKind.i64.wrap ((IntKind.i64.wrap (a1 + l17i8)) - l5i7)) < (a0.length : Int)) (kk21 ((En.bAt a0 (IntKind.i64.wrap (a1 + l17i8))) == (En.bAt a0 (IntKind.i64.wrap ((IntKind.i64.wrap (a1 + l17i8)) - l5i7))))))) else (kk21 false)))
def f_lz_longest_L7 (a0 : (List UInt8)) (a1 : Int) (kk4 : (Int → Int → Option S_api_Token)) (fu : Nat) : Nat → Int → Int → Int → Option S_api_Token
  | 0, _, _, _ => none
  | k6 + 1, l5i5_1, l5i5_2, l5i7 => (lt (fun (l5i5_1 : Int) (l5i5_2 : Int) (l5i7 : Int) => (f_lz_longest_L7 a0 a1 kk4 fu k6 l5i5_1 l5i5_2 l5i7)) fun (kk8 : Int → Int → Int → Option S_api_Token) => (lt (fun (j9b23 : Bool) => (bif j9b23 then (lt (fun (j12i5_1 : Int) (j12i5_2 : Int) => (kk8 j12i5_1 j12i5_2 (IntKind.i64.wrap (l5i7 + (1 : Int))))) fun (kk13 : Int → Int → Option S_api_Token) => (lt (fun (j14i8 : Int) => (bif (decide (j14i8 > l5i5_1)) then (kk13 j14i8 l5i7) else (kk13 l5i5_1 l5i5_2))) fun (kk15 : Int → Option S_api_Token) => (f_lz_longest_L19 a0 a1 l5i7 kk15 fu (0 : Int)))) else (kk4 l5i5_1 l5i5_2))) fun (kk10 : Bool → Option S_api_Token) => (bif (decide (l5i7 ≤ (if a1 < (1024 : Int) then a1 else (1024 : Int)))) then (kk10 (decide (l5i5_1 < (if (IntKind.i64.wrap ((a0.length : Int) - a1)) < (255 : Int) then (IntKind.i64.wrap ((a0.length : Int) - a1)) else (255 : Int))))) else (kk10 false))))
def f_lz_longest (fu : Nat) (a0 : (List UInt8)) (a1 : Int) : Option S_api_Token := (lt (fun (j3i5_1 : Int) (j3i5_2 : Int) => (some (S_api_Token.mk (0 : Int) j3i5_1 j3i5_2))) fun (kk4 : Int → Int → Option S_api_Token) => (f_lz_longest_L7 a0 a1 kk4 fu fu (0 : Int) (0 : Int) (1 : Int)))
set_option maxHeartbeats 2000000 in
set_option maxRecDepth 100000 in
theorem f_lz_longest_ok (fu : Nat) (a0 : (List UInt8)) (a1 : Int) {r : S_api_Token} (h : f_lz_longest fu a0 a1 = some r) : FnOk Tryd.prog 84 [(str a0), (int .i64 a1)] [] [] (fun (i : Unit) => { val := (ag [(int .u8 r.Lit), (int .i64 r.Len), (int .i64 r.Dist)]) }) := by
 unfold f_lz_longest at h
 refine fn_enter Tryd.func84 rfl Tryd.ntmps84 rfl (fun w0 Z0 => ?_)
 refine aw_sr ?_
 refine al_alloc (zs := [(i8 (0 : Int)), (iq (0 : Int)), (iq (0 : Int))]) (zeroOf_to to132) rfl rfl (fun g1 => ?_)
 refine al_nt ?_
 refine aw_sr ?_
 refine al_alloc (zs := [(i8 (0 : Int)), (iq (0 : Int)), (iq (0 : Int))]) (zeroOf_to to132) rfl rfl (fun g2 => ?_)
 refine al_nt ?_
 refine aw_sr ?_
 refine al_mv rfl rfl ?_
 refine al_val (ov_strLen Tryd.underlying9 rfl rfl) ?_
 refine al_mv rfl rfl ?_
 refine al_in rfl rfl rfl rfl ?_
 refine al_val (ov_min rfl rfl rfl) ?_
 refine al_as rfl rfl ?_
 refine al_nt ?_
 obtain ⟨kk4, hkk4, h⟩ := lt_some h
 refine aw_seq_join (ι := Int × Int) (fun i => (memOf w0 Z0 [] [(oBox g1 132 [(i8 (0 : Int)), (iq (0 : Int)), (iq (0 : Int))]), (oBox g2 132 [(i8 (0 : Int)), (iq i.1), (iq i.2)])] [])) (fun i => (tab [(4, (pq g1)), (5, (pq g2))])) (fun i => kk4 i.1 i.2 = some r) ?_ ?_
 ·rintro ⟨j3i5_1, j3i5_2⟩ h
  have h : kk4 j3i5_1 j3i5_2 = some r := h
  rw [hkk4] at h
  dsimp only at h
  clear hkk4
  refine aw_show (m := (memOf w0 Z0 [] [(oBox g1 132 [(i8 (0 : Int)), (iq (0 : Int)), (iq (0 : Int))]), (oBox g2 132 [(i8 (0 : Int)), (iq j3i5_1), (iq j3i5_2)])] [])) (S := (tab [(4, (pq g1)), (5, (pq g2))])) ?_
  refine aw_sr ?_
  refine al_val (ov_load (i := 1) (v := (ag [(i8 (0 : Int)), (iq j3i5_1), (iq j3i5_2)])) rfl rfl Tryd.underlying132 sz132 rfl rfl rfl rfl) ?_
  refine al_store (i := 0) (vs := [(i8 (0 : Int)), (iq j3i5_1), (iq j3i5_2)]) (cs' := [(i8 (0 : Int)), (iq j3i5_1), (iq j3i5_2)]) rfl rfl rfl sz132 (cv_rfl rfl) rfl (co_val rfl (co_val rfl (co_val rfl co_nil))) (Nat.le_of_ble_eq_true rfl) rfl rfl ?_
  refine al_nt ?_
  refine aw_ret ?_
  obtain rfl := Option.some.inj h
  exact fn_ret () [] [] rfl rfl rfl rfl (resC rfl (resB (i := 0) rfl rfl Tryd.underlying132 sz132 rfl rfl rfl (resN)) rfl) rfl rfl rfl (by decide)
 ·clear hkk4
  refine aw_sr ?_
  refine al_as rfl rfl ?_
  refine al_nt ?_
  refine aw_block ?_
  refine aw_state (aw_loop (ι := Int × Int × Int) (fun i => (memOf w0 Z0 [] [(oBox g1 132 [(i8 (0 : Int)), (iq (0 : Int)), (iq (0 : Int))]), (oBox g2 132 [(i8 (0 : Int)), (iq i.1), (iq i.2.1)])] [])) (fun i => (tab [(0, (str a0)), (1, (iq a1)), (4, (pq g1)), (5, (pq g2)), (6, (iq (if (wq ((a0.length : Int) - a1)) < (255 : Int) then (wq ((a0.length : Int) - a1)) else (255 : Int)))), (7, (iq i.2.2))])) (fun q i => f_lz_longest_L7 a0 a1 kk4 fu q i.1 i.2.1 i.2.2 = some r) ?_ fu ((0 : Int), (0 : Int), (1 : Int)) h) (fun w a hm hs => norm hm hs [1, 0] [] [(0, (str a0)), (1, (iq a1)), (4, (pq g1)), (5, (pq g2)), (6, (iq (if (wq ((a0.length : Int) - a1)) < (255 : Int) then (wq ((a0.length : Int) - a1)) else (255 : Int)))), (7, (iq (1 : Int)))] (by decide) ⟨rfl, rfl, rfl, rfl, rfl, rfl, trivial⟩)
  clear h
  rintro k6 ⟨l5i5_1, l5i5_2, l5i7⟩ h
  have h : f_lz_longest_L7 a0 a1 kk4 fu k6 l5i5_1 l5i5_2 l5i7 = some r := h
  obtain _ | k6 := k6
  · rw [f_lz_longest_L7] at h; cases h
  rw [f_lz_longest_L7] at h
  refine aw_show (m := (memOf w0 Z0 [] [(oBox g1 132 [(i8 (0 : Int)), (iq (0 : Int)), (iq (0 : Int))]), (oBox g2 132 [(i8 (0 : Int)), (iq l5i5_1), (iq l5i5_2)])] [])) (S := (tab [(0, (str a0)), (1, (iq a1)), (4, (pq g1)), (5, (pq g2)), (6, (iq (if (wq ((a0.length : Int) - a1)) < (255 : Int) then (wq ((a0.length : Int) - a1)) else (255 : Int)))), (7, (iq l5i7))])) ?_
  obtain ⟨kk8, hkk8, h⟩ := lt_some h
  refine aw_body_join (ι := Int × Int × Int) (fun i => (memOf w0 Z0 [] [(oBox g1 132 [(i8 (0 : Int)), (iq (0 : Int)), (iq (0 : Int))]), (oBox g2 132 [(i8 (0 : Int)), (iq i.1), (iq i.2.1)])] [])) (fun i => (tab [(0, (str a0)), (1, (iq a1)), (4, (pq g1)), (5, (pq g2)), (6, (iq (if (wq ((a0.length : Int) - a1)) < (255 : Int) then (wq ((a0.length : Int) - a1)) else (255 : Int)))), (7, (iq i.2.2))])) (fun i => kk8 i.1 i.2.1 i.2.2 = some r) (fun i h => aq_again k6 i (Nat.lt_succ_self _) (by rw [hkk8] at h; exact h) (fun w a hm hs => ⟨hm, hs⟩)) ?_
  clear hkk8
  refine aw_seq ?_
  obtain ⟨kk10, hkk10, h⟩ := lt_some h
  refine aw_seq_join (ι := Bool) (fun i => (memOf w0 Z0 [] [(oBox g1 132 [(i8 (0 : Int)), (iq (0 : Int)), (iq (0 : Int))]), (oBox g2 132 [(i8 (0 : Int)), (iq l5i5_1), (iq l5i5_2)])] [])) (fun i => (tab [(0, (str a0)), (1, (iq a1)), (4, (pq g1)), (5, (pq g2)), (6, (iq (if (wq ((a0.length : Int) - a1)) < (255 : Int) then (wq ((a0.length : Int) - a1)) else (255 : Int)))), (7, (iq l5i7)), (23, (bool i))])) (fun i => kk10 i = some r) ?_ ?_
  ·rintro j9b23 h
   have h : kk10 j9b23 = some r := h
   rw [hkk10] at h
   dsimp only at h
   clear hkk10
   refine aw_show (m := (memOf w0 Z0 [] [(oBox g1 132 [(i8 (0 : Int)), (iq (0 : Int)), (iq (0 : Int))]), (oBox g2 132 [(i8 (0 : Int)), (iq l5i5_1), (iq l5i5_2)])] [])) (S := (tab [(0, (str a0)), (1, (iq a1)), (4, (pq g1)), (5, (pq g2)), (6, (iq (if (wq ((a0.length : Int) - a1)) < (255 : Int) then (wq ((a0.length : Int) - a1)) else (255 : Int)))), (7, (iq l5i7)), (23, (bool j9b23))])) ?_
   refine aw_cond rfl (fun hb11 => ?_) (fun hb11 => ?_)
   ·replace h := bif_t hb11 h
    refine aw_skip ?_
    refine aq_then ?_
    obtain ⟨kk13, hkk13, h⟩ := lt_some h
    refine aw_seq_join (ι := Int × Int) (fun i => (memOf w0 Z0 [] [(oBox g1 132 [(i8 (0 : Int)), (iq (0 : Int)), (iq (0 : Int))]), (oBox g2 132 [(i8 (0 : Int)), (iq i.1), (iq i.2)])] [])) (fun i => (tab [(0, (str a0)), (1, (iq a1)), (4, (pq g1)), (5, (pq g2)), (6, (iq (if (wq ((a0.length : Int) - a1)) < (255 : Int) then (wq ((a0.length : Int) - a1)) else (255 : Int)))), (7, (iq l5i7))])) (fun i => kk13 i.1 i.2 = some r) ?_ ?_
    ·rintro ⟨j12i5_1, j12i5_2⟩ h
     have h : kk13 j12i5_1 j12i5_2 = some r := h
     rw [hkk13] at h
     dsimp only at h
     clear hkk13
     refine aw_show (m := (memOf w0 Z0 [] [(oBox g1 132 [(i8 (0 : Int)), (iq (0 : Int)), (iq (0 : Int))]), (oBox g2 132 [(i8 (0 : Int)), (iq j12i5_1), (iq j12i5_2)])] [])) (S := (tab [(0, (str a0)), (1, (iq a1)), (4, (pq g1)), (5, (pq g2)), (6, (iq (if (wq ((a0.length : Int) - a1)) < (255 : Int) then (wq ((a0.length : Int) - a1)) else (255 : Int)))), (7, (iq l5i7))])) ?_
     refine aw_region ?_
     refine al_mv rfl rfl ?_
     refine al_in rfl rfl rfl rfl ?_
     refine al_as rfl rfl ?_
     refine al_nil ?_
     exact aq_join (j12i5_1, j12i5_2, (wq (l5i7 + (1 : Int)))) h (fun w a hm hs => norm hm hs [0, 1] [] [(0, (str a0)), (1, (iq a1)), (4, (pq g1)), (5, (pq g2)), (6, (iq (if (wq ((a0.length : Int) - a1)) < (255 : Int) then (wq ((a0.length : Int) - a1)) else (255 : Int)))), (7, (iq (wq (l5i7 + (1 : Int)))))] (by decide) ⟨rfl, rfl, rfl, rfl, rfl, rfl, trivial⟩)
    ·clear hkk13
     refine aw_block ?_
     refine aw_sr ?_
     refine al_as rfl rfl ?_
     refine al_nt ?_
     obtain ⟨kk15, hkk15, h⟩ := lt_some h
     refine aw_seq_join (ι := Int) (fun i => (memOf w0 Z0 [] [(oBox g1 132 [(i8 (0 : Int)), (iq (0 : Int)), (iq (0 : Int))]), (oBox g2 132 [(i8 (0 : Int)), (iq l5i5_1), (iq l5i5_2)])] [])) (fun i => (tab [(0, (str a0)), (1, (iq a1)), (4, (pq g1)), (5, (pq g2)), (6, (iq (if (wq ((a0.length : Int) - a1)) < (255 : Int) then (wq ((a0.length : Int) - a1)) else (255 : Int)))), (7, (iq l5i7)), (8, (iq i))])) (fun i => kk15 i = some r) ?_ ?_
     ·rintro j14i8 h
      have h : kk15 j14i8 = some r := h
      rw [hkk15] at h
      dsimp only at h
      clear hkk15
      refine aw_show (m := (memOf w0 Z0 [] [(oBox g1 132 [(i8 (0 : Int)), (iq (0 : Int)), (iq (0 : Int))]), (oBox g2 132 [(i8 (0 : Int)), (iq l5i5_1), (iq l5i5_2)])] [])) (S := (tab [(0, (str a0)), (1, (iq a1)), (4, (pq g1)), (5, (pq g2)), (6, (iq (if (wq ((a0.length : Int) - a1)) < (255 : Int) then (wq ((a0.length : Int) - a1)) else (255 : Int)))), (7, (iq l5i7)), (8, (iq j14i8))])) ?_
      refine aw_sr ?_
      refine al_mv rfl rfl ?_
      refine al_val (ov_fieldA (p := 1) rfl Tryd.underlying132 rfl sz3 rfl rfl rfl) ?_
      refine al_val (ov_load (i := 1) (v := (iq l5i5_1)) rfl rfl Tryd.underlying3 sz3 rfl rfl rfl rfl) ?_
      refine al_in rfl rfl rfl rfl ?_
      refine al_nt ?_
      refine aw_cond rfl (fun hb16 => ?_) (fun hb16 => ?_)
      ·replace h := bif_t hb16 h
       refine aw_region ?_
       refine al_mv rfl rfl ?_
       refine al_mv rfl rfl ?_
       refine al_val (ov_build (cells := ([(i8 (0 : Int)), (iq j14i8), (iq l5i7)]).toArray) (cs := [(i8 (0 : Int)), (iq j14i8), (iq l5i7)]) rfl (fun w a hm hs => by simp only [List.map_toArray, List.map_cons, List.map_nil, List.toList_toArray, hs.ev (x := .tmp 50) rfl, hs.ev (x := .tmp 51) rfl]; kernel_rfl)) ?_
       refine al_store (i := 1) (vs := [(i8 (0 : Int)), (iq j14i8), (iq l5i7)]) (cs' := [(i8 (0 : Int)), (iq j14i8), (iq l5i7)]) rfl rfl rfl sz132 (cv_rfl rfl) rfl (co_val rfl (co_val rfl (co_val rfl co_nil))) (Nat.le_of_ble_eq_true rfl) rfl rfl ?_
       refine al_nil ?_
       refine aq_block ?_
       exact aq_join (j14i8, l5i7) h (fun w a hm hs => norm hm hs [0, 1] [] [(0, (str a0)), (1, (iq a1)), (4, (pq g1)), (5, (pq g2)), (6, (iq (if (wq ((a0.length : Int) - a1)) < (255 : Int) then (wq ((a0.length : Int) - a1)) else (255 : Int)))), (7, (iq l5i7))] (by decide) ⟨rfl, rfl, rfl, rfl, rfl, rfl, trivial⟩)
      ·replace h := bif_f hb16 h
       refine aw_skip ?_
       refine aq_block ?_
       exact aq_join (l5i5_1, l5i5_2) h (fun w a hm hs => norm hm hs [0, 1] [] [(0, (str a0)), (1, (iq a1)), (4, (pq g1)), (5, (pq g2)), (6, (iq (if (wq ((a0.length : Int) - a1)) < (255 : Int) then (wq ((a0.length : Int) - a1)) else (255 : Int)))), (7, (iq l5i7))] (by decide) ⟨rfl, rfl, rfl, rfl, rfl, rfl, trivial⟩)
     ·clear hkk15
      refine aw_block ?_
      refine aw_state (aw_loop (ι := Int) (fun i => (memOf w0 Z0 [] [(oBox g1 132 [(i8 (0 : Int)), (iq (0 : Int)), (iq (0 : Int))]), (oBox g2 132 [(i8 (0 : Int)), (iq l5i5_1), (iq l5i5_2)])] [])) (fun i => (tab [(0, (str a0)), (1, (iq a1)), (4, (pq g1)), (5, (pq g2)), (6, (iq (if (wq ((a0.length : Int) - a1)) < (255 : Int) then (wq ((a0.length : Int) - a1)) else (255 : Int)))), (7, (iq l5i7)), (8, (iq i))])) (fun q i => f_lz_longest_L19 a0 a1 l5i7 kk15 q i = some r) ?_ fu (0 : Int) h) (fun w a hm hs => norm hm hs [0, 1] [] [(0, (str a0)), (1, (iq a1)), (4, (pq g1)), (5, (pq g2)), (6, (iq (if (wq ((a0.length : Int) - a1)) < (255 : Int) then (wq ((a0.length : Int) - a1)) else (255 : Int)))), (7, (iq l5i7)), (8, (iq (0 : Int)))] (by decide) ⟨rfl, rfl, rfl, rfl, rfl, rfl, rfl, trivial⟩)
      clear h
      rintro k18 l17i8 h
      have h : f_lz_longest_L19 a0 a1 l5i7 kk15 k18 l17i8 = some r := h
      obtain _ | k18 := k18
      · rw [f_lz_longest_L19] at h; cases h
      rw [f_lz_longest_L19] at h
      refine aw_show (m := (memOf w0 Z0 [] [(oBox g1 132 [(i8 (0 : Int)), (iq (0 : Int)), (iq (0 : Int))]), (oBox g2 132 [(i8 (0 : Int)), (iq l5i5_1), (iq l5i5_2)])] [])) (S := (tab [(0, (str a0)), (1, (iq a1)), (4, (pq g1)), (5, (pq g2)), (6, (iq (if (wq ((a0.length : Int) - a1)) < (255 : Int) then (wq ((a0.length : Int) - a1)) else (255 : Int)))), (7, (iq l5i7)), (8, (iq l17i8))])) ?_
      refine aw_seq ?_
      obtain ⟨kk21, hkk21, h⟩ := lt_some h
      refine aw_seq_join (ι := Bool) (fun i => (memOf w0 Z0 [] [(oBox g1 132 [(i8 (0 : Int)), (iq (0 : Int)), (iq (0 : Int))]), (oBox g2 132 [(i8 (0 : Int)), (iq l5i5_1), (iq l5i5_2)])] [])) (fun i => (tab [(0, (str a0)), (1, (iq a1)), (4, (pq g1)), (5, (pq g2)), (6, (iq (if (wq ((a0.length : Int) - a1)) < (255 : Int) then (wq ((a0.length : Int) - a1)) else (255 : Int)))), (7, (iq l5i7)), (8, (iq l17i8)), (43, (bool i))])) (fun i => kk21 i = some r) ?_ ?_
      ·rintro j20b43 h
       have h : kk21 j20b43 = some r := h
       rw [hkk21] at h
       dsimp only at h
       clear hkk21
       refine aw_show (m := (memOf w0 Z0 [] [(oBox g1 132 [(i8 (0 : Int)), (iq (0 : Int)), (iq (0 : Int))]), (oBox g2 132 [(i8 (0 : Int)), (iq l5i5_1), (iq l5i5_2)])] [])) (S := (tab [(0, (str a0)), (1, (iq a1)), (4, (pq g1)), (5, (pq g2)), (6, (iq (if (wq ((a0.length : Int) - a1)) < (255 : Int) then (wq ((a0.length : Int) - a1)) else (255 : Int)))), (7, (iq l5i7)), (8, (iq l17i8)), (43, (bool j20b43))])) ?_
       refine aw_cond rfl (fun hb22 => ?_) (fun hb22 => ?_)
       ·replace h := bif_t hb22 h
        refine aw_skip ?_
        refine aq_then ?_
        refine aw_block ?_
        refine aw_region ?_
        refine al_mv rfl rfl ?_
        refine al_in rfl rfl rfl rfl ?_
        refine al_as rfl rfl ?_
        refine al_nil ?_
        refine aq_block ?_
        exact aq_again k18 (wq (l17i8 + (1 : Int))) (Nat.lt_succ_self _) h (fun w a hm hs => norm hm hs [0, 1] [] [(0, (str a0)), (1, (iq a1)), (4, (pq g1)), (5, (pq g2)), (6, (iq (if (wq ((a0.length : Int) - a1)) < (255 : Int) then (wq ((a0.length : Int) - a1)) else (255 : Int)))), (7, (iq l5i7)), (8, (iq (wq (l17i8 + (1 : Int)))))] (by decide) ⟨rfl, rfl, rfl, rfl, rfl, rfl, rfl, trivial⟩)
       ·replace h := bif_f hb22 h
        refine aw_exit ?_
        refine aq_then_exit ?_
        refine aq_then_exit ?_
        refine aq_block_exit ?_
        exact aq_join l17i8 h (fun w a hm hs => norm hm hs [0, 1] [] [(0, (str a0)), (1, (iq a1)), (4, (pq g1)), (5, (pq g2)), (6, (iq (if (wq ((a0.length : Int) - a1)) < (255 : Int) then (wq ((a0.length : Int) - a1)) else (255 : Int)))), (7, (iq l5i7)), (8, (iq l17i8))] (by decide) ⟨rfl, rfl, rfl, rfl, rfl, rfl, rfl, trivial⟩)
      ·clear hkk21
       rcases Bool.eq_false_or_eq_true (decide (l17i8 < (if (wq ((a0.length : Int) - a1)) < (255 : Int) then (wq ((a0.length : Int) - a1)) else (255 : Int)))) with hb23 | hb23
       ·replace h := bif_t hb23 h
        obtain ⟨hc24, h⟩ := req_some h
        obtain ⟨hc25, h⟩ := req_some h
        refine aw_region_draw 17 [(26, (fun u => fEq u (iq l17i8))), (27, (fun u => fEq u (iq (if (wq ((a0.length : Int) - a1)) < (255 : Int) then (wq ((a0.length : Int) - a1)) else (255 : Int))))), (28, (fun u => fEq u (bool true))), (29, (fun u => fEq u (bool true))), (30, (fun u => fEq u (str a0))), (31, (fun u => fEq u (iq a1))), (32, (fun u => fEq u (iq l17i8))), (33, (fun u => fEq u (iq (wq (a1 + l17i8))))), (34, (fun u => fEq u (i8 (En.bAt a0 (wq (a1 + l17i8)))))), (35, (fun u => fEq u (str a0))), (36, (fun u => fEq u (iq a1))), (37, (fun u => fEq u (iq l17i8))), (38, (fun u => fEq u (iq (wq (a1 + l17i8))))), (39, (fun u => fEq u (iq l5i7))), (40, (fun u => fEq u (iq (wq ((wq (a1 + l17i8)) - l5i7))))), (41, (fun u => fEq u (i8 (En.bAt a0 (wq ((wq (a1 + l17i8)) - l5i7)))))), (42, (fun u => fEq u (bool ((En.bAt a0 (wq (a1 + l17i8))) == (En.bAt a0 (wq ((wq (a1 + l17i8)) - l5i7)))))))] (tab [(0, (str a0)), (1, (iq a1)), (4, (pq g1)), (5, (pq g2)), (6, (iq (if (wq ((a0.length : Int) - a1)) < (255 : Int) then (wq ((a0.length : Int) - a1)) else (255 : Int)))), (7, (iq l5i7)), (8, (iq l17i8))]) mixed (by kernel_rfl) rfl rfl rfl (fun a hs => hs.tab _ (allT_mem ⟨rfl, rfl, rfl, rfl, rfl, rfl, rfl, trivial⟩)) ⟨⟨rfl, ld_val (ov_move rfl rfl)⟩, ⟨rfl, ld_val (ov_move rfl rfl)⟩, ⟨rfl, ld_eq (j := 0) rfl rfl (ld_eq (j := 1) rfl rfl (ld_val (ov_cast (by first | rw [hb23] | rfl) (ov_int rfl rfl rfl rfl))))⟩, ⟨rfl, ld_eq (j := 2) rfl rfl (ld_val (ov_cast (by first | rw [hb23] | rfl) (ov_move rfl rfl)))⟩, ⟨rfl, ld_eq (j := 3) rfl rfl (ld_val (ov_move rfl rfl))⟩, ⟨rfl, ld_eq (j := 3) rfl rfl (ld_val (ov_move rfl rfl))⟩, ⟨rfl, ld_eq (j := 3) rfl rfl (ld_val (ov_move rfl rfl))⟩, ⟨rfl, ld_eq (j := 3) rfl rfl (ld_eq (j := 5) rfl rfl (ld_eq (j := 6) rfl rfl (ld_val (ov_int rfl rfl rfl rfl))))⟩, ⟨rfl, ld_eq (j := 3) rfl rfl (ld_eq (j := 4) rfl rfl (ld_eq (j := 7) rfl rfl (ld_val (ov_strIdx hc24.1 hc24.2 Tryd.underlying9 rfl rfl rfl))))⟩, ⟨rfl, ld_eq (j := 3) rfl rfl (ld_val (ov_move rfl rfl))⟩, ⟨rfl, ld_eq (j := 3) rfl rfl (ld_val (ov_move rfl rfl))⟩, ⟨rfl, ld_eq (j := 3) rfl rfl (ld_val (ov_move rfl rfl))⟩, ⟨rfl, ld_eq (j := 3) rfl rfl (ld_eq (j := 10) rfl rfl (ld_eq (j := 11) rfl rfl (ld_val (ov_int rfl rfl rfl rfl))))⟩, ⟨rfl, ld_eq (j := 3) rfl rfl (ld_val (ov_move rfl rfl))⟩, ⟨rfl, ld_eq (j := 3) rfl rfl (ld_eq (j := 12) rfl rfl (ld_eq (j := 13) rfl rfl (ld_val (ov_int rfl rfl rfl rfl))))⟩, ⟨rfl, ld_eq (j := 3) rfl rfl (ld_eq (j := 9) rfl rfl (ld_eq (j := 14) rfl rfl (ld_val (ov_strIdx hc25.1 hc25.2 Tryd.underlying9 rfl rfl rfl))))⟩, ⟨rfl, ld_eq (j := 3) rfl rfl (ld_eq (j := 8) rfl rfl (ld_eq (j := 15) rfl rfl (ld_val (ov_int rfl rfl rfl rfl))))⟩, trivial⟩ ?_
        refine tl_eq 3 rfl ?_
        refine tl_eq 16 rfl ?_
        refine tl_done ?_
        refine al_val (ov_pick_t rfl rfl rfl) ?_
        refine al_nil ?_
        exact aq_join ((En.bAt a0 (wq (a1 + l17i8))) == (En.bAt a0 (wq ((wq (a1 + l17i8)) - l5i7)))) h (fun w a hm hs => norm hm hs [0, 1] [] [(0, (str a0)), (1, (iq a1)), (4, (pq g1)), (5, (pq g2)), (6, (iq (if (wq ((a0.length : Int) - a1)) < (255 : Int) then (wq ((a0.length : Int) - a1)) else (255 : Int)))), (7, (iq l5i7)), (8, (iq l17i8)), (43, (bool ((En.bAt a0 (wq (a1 + l17i8))) == (En.bAt a0 (wq ((wq (a1 + l17i8)) - l5i7))))))] (by decide) ⟨rfl, rfl, rfl, rfl, rfl, rfl, rfl, rfl, trivial⟩)
       ·replace h := bif_f hb23 h
        refine aw_region_draw 17 [(26, (fun u => fEq u (iq l17i8))), (27, (fun u => fEq u (iq (if (wq ((a0.length : Int) - a1)) < (255 : Int) then (wq ((a0.length : Int) - a1)) else (255 : Int))))), (28, (fun u => fEq u (bool false))), (29, (fun u => fEq u (bool false))), (30, (fun u => fEq u undef)), (31, (fun u => fEq u undef)), (32, (fun u => fEq u undef)), (33, (fun u => fEq u undef)), (34, (fun u => fEq u undef)), (35, (fun u => fEq u undef)), (36, (fun u => fEq u undef)), (37, (fun u => fEq u undef)), (38, (fun u => fEq u undef)), (39, (fun u => fEq u undef)), (40, (fun u => fEq u undef)), (41, (fun u => fEq u undef)), (42, (fun u => fEq u undef))] (tab [(0, (str a0)), (1, (iq a1)), (4, (pq g1)), (5, (pq g2)), (6, (iq (if (wq ((a0.length : Int) - a1)) < (255 : Int) then (wq ((a0.length : Int) - a1)) else (255 : Int)))), (7, (iq l5i7)), (8, (iq l17i8))]) mixed (by kernel_rfl) rfl rfl rfl (fun a hs => hs.tab _ (allT_mem ⟨rfl, rfl, rfl, rfl, rfl, rfl, rfl, trivial⟩)) ⟨⟨rfl, ld_val (ov_move rfl rfl)⟩, ⟨rfl, ld_val (ov_move rfl rfl)⟩, ⟨rfl, ld_eq (j := 0) rfl rfl (ld_eq (j := 1) rfl rfl (ld_val (ov_cast (by first | rw [hb23] | rfl) (ov_int rfl rfl rfl rfl))))⟩, ⟨rfl, ld_eq (j := 2) rfl rfl (ld_val (ov_cast (by first | rw [hb23] | rfl) (ov_move rfl rfl)))⟩, ⟨rfl, ld_eq (j := 3) rfl rfl (ld_skip)⟩, ⟨rfl, ld_eq (j := 3) rfl rfl (ld_skip)⟩, ⟨rfl, ld_eq (j := 3) rfl rfl (ld_skip)⟩, ⟨rfl, ld_eq (j := 3) rfl rfl (ld_skip)⟩, ⟨rfl, ld_eq (j := 3) rfl rfl (ld_skip)⟩, ⟨rfl, ld_eq (j := 3) rfl rfl (ld_skip)⟩, ⟨rfl, ld_eq (j := 3) rfl rfl (ld_skip)⟩, ⟨rfl, ld_eq (j := 3) rfl rfl (ld_skip)⟩, ⟨rfl, ld_eq (j := 3) rfl rfl (ld_skip)⟩, ⟨rfl, ld_eq (j := 3) rfl rfl (ld_skip)⟩, ⟨rfl, ld_eq (j := 3) rfl rfl (ld_skip)⟩, ⟨rfl, ld_eq (j := 3) rfl rfl (ld_skip)⟩, ⟨rfl, ld_eq (j := 3) rfl rfl (ld_skip)⟩, trivial⟩ ?_
        refine tl_eq 3 rfl ?_
        refine tl_eq 16 rfl ?_
        refine tl_done ?_
        refine al_val (ov_pick_f rfl rfl rfl) ?_
        refine al_nil ?_
        exact aq_join false h (fun w a hm hs => norm hm hs [0, 1] [] [(0, (str a0)), (1, (iq a1)), (4, (pq g1)), (5, (pq g2)), (6, (iq (if (wq ((a0.length : Int) - a1)) < (255 : Int) then (wq ((a0.length : Int) - a1)) else (255 : Int)))), (7, (iq l5i7)), (8, (iq l17i8)), (43, (bool false))] (by decide) ⟨rfl, rfl, rfl, rfl, rfl, rfl, rfl, rfl, trivial⟩)
   ·replace h := bif_f hb11 h
    refine aw_exit ?_
    refine aq_then_exit ?_
    refine aq_then_exit ?_
    refine aq_block_exit ?_
    exact aq_join (l5i5_1, l5i5_2) h (fun w a hm hs => norm hm hs [0, 1] [] [(4, (pq g1)), (5, (pq g2))] (by decide) ⟨rfl, rfl, trivial⟩)
  ·clear hkk10
   refine aw_region ?_
   refine al_mv rfl rfl ?_
   refine al_mv rfl rfl ?_
   refine al_val (ov_min rfl rfl rfl) ?_
   refine al_in rfl rfl rfl rfl ?_
   refine al_mv rfl rfl ?_
   refine al_caseB 18 rfl (fun hb26 => ?_) (fun hb26 => ?_)
   ·replace h := bif_t hb26 h
    refine al_val (ov_fieldA (p := 1) rfl Tryd.underlying132 rfl sz3 rfl rfl rfl) ?_
    refine al_val (ov_load (i := 1) (v := (iq l5i5_1)) rfl rfl Tryd.underlying3 sz3 rfl rfl rfl rfl) ?_
    refine al_mv rfl rfl ?_
    refine al_in rfl rfl rfl rfl ?_
    refine al_val (ov_pick_t rfl rfl rfl) ?_
    refine al_nil ?_
    exact aq_join (decide (l5i5_1 < (if (wq ((a0.length : Int) - a1)) < (255 : Int) then (wq ((a0.length : Int) - a1)) else (255 : Int)))) h (fun w a hm hs => norm hm hs [0, 1] [] [(0, (str a0)), (1, (iq a1)), (4, (pq g1)), (5, (pq g2)), (6, (iq (if (wq ((a0.length : Int) - a1)) < (255 : Int) then (wq ((a0.length : Int) - a1)) else (255 : Int)))), (7, (iq l5i7)), (23, (bool (decide (l5i5_1 < (if (wq ((a0.length : Int) - a1)) < (255 : Int) then (wq ((a0.length : Int) - a1)) else (255 : Int))))))] (by decide) ⟨rfl, rfl, rfl, rfl, rfl, rfl, rfl, trivial⟩)
   ·replace h := bif_f hb26 h
    refine al_skip ?_
    refine al_skip ?_
    refine al_skip ?_
    refine al_skip ?_
    refine al_val (ov_pick_f rfl rfl rfl) ?_
    refine al_nil ?_
    exact aq_join false h (fun w a hm hs => norm hm hs [0, 1] [] [(0, (str a0)), (1, (iq a1)), (4, (pq g1)), (5, (pq g2)), (6, (iq (if (wq ((a0.length : Int) - a1)) < (255 : Int) then (wq ((a0.length : Int) - a1)) else (255 : Int)))), (7, (iq l5i7)), (23, (bool false))] (by decide) ⟨rfl, rfl, rfl, rfl, rfl, rfl, rfl, trivial⟩)
def f_lz_Greedy_L6 (a0 : (List UInt8)) (kk3 : ((List S_api_Token) → Option ((List S_api_Token) × Int))) (fu : Nat) : Nat → (List S_api_Token) → Int → Option ((List S_api_Token) × Int)
  | 0, _, _ => none
  | k5 + 1, l4x4, l4i5 => (bif (decide (l4i5 < (a0.length : Int))) then (opt (f_lz_longest fu a0 l4i5) fun (r9 : S_api_Token) => (lt (fun (j11i6_0 : Int) => (req (((l4x4.length + ([(S_api_Token.mk j11i6_0 r9.Len r9.Dist)]).length) * 24 : Nat) ≤ 140737488355328 ∧ l4x4.length + ([(S_api_Token.mk j11i6_0 r9.Len r9.Dist)]).length ≤ 9223372036854775807) (f_lz_Greedy_L6 a0 kk3 fu k5 (l4x4 ++ ([(S_api_Token.mk j11i6_0 r9.Len r9.Dist)])) (IntKind.i64.wrap (l4i5 + (if (1 : Int) > r9.Len then (1 : Int) else r9.Len)))))) fun (kk12 : Int → Option ((List S_api_Token) × Int)) => (bif (r9.Len == (0 : Int)) then (req (0 ≤ l4i5 ∧ l4i5 < (a0.length : Int)) (kk12 (En.bAt a0 l4i5))) else (kk12 r9.Lit)))) else (kk3 l4x4))
def f_lz_Greedy (fu : Nat) (a0 : (List UInt8)) : Option ((List S_api_Token) × Int) := (bif (decide ((a0.length : Int) > (4096 : Int))) then (some (([] : List S_api_Token), (2 : Int))) else (lt (fun (j2x4 : (List S_api_Token)) => (some (j2x4, (0 : Int)))) fun (kk3 : (List S_api_Token) → Option ((List S_api_Token) × Int)) => (f_lz_Greedy_L6 a0 kk3 fu fu ([] : List S_api_Token) (0 : Int))))
set_option maxHeartbeats 2000000 in
set_option maxRecDepth 100000 in
theorem f_lz_Greedy_ok (fu : Nat) (a0 : (List UInt8)) {r : ((List S_api_Token) × Int)} (h : f_lz_Greedy fu a0 = some r) : FnOk Tryd.prog 38 [(str a0)] [] [] (fun (i : Value) => { val := (Value.tuple #[i, (int .i64 r.2)]), own := [(oRow i 132 tyS_api_Token r.1)] }) := by
 unfold f_lz_Greedy at h
 refine fn_enter Tryd.func38 rfl Tryd.ntmps38 rfl (fun w0 Z0 => ?_)
 refine aw_sr ?_
 refine al_as rfl rfl ?_
 refine al_as rfl rfl ?_
 refine al_nt ?_
 refine aw_seq ?_
 refine aw_sr ?_
 refine al_mv rfl rfl ?_
 refine al_val (ov_strLen Tryd.underlying9 rfl rfl) ?_
 refine al_in rfl rfl rfl rfl ?_
 refine al_nt ?_
 refine aw_cond rfl (fun hb1 => ?_) (fun hb1 => ?_)
 ·replace h := bif_t hb1 h
  refine aw_sr ?_
  refine al_as rfl rfl ?_
  refine al_as rfl rfl ?_
  refine al_nt ?_
  refine aw_ret ?_
  refine aq_then_ret ?_
  refine aq_nilR 132 tyS_api_Token ?_
  obtain rfl := Option.some.inj h
  exact fn_ret nS [0] [] rfl rfl rfl rfl (res2 rfl rfl rfl) rfl rfl rfl (by decide)
 ·replace h := bif_f hb1 h
  refine aw_skip ?_
  refine aq_tr ?_
  refine al_as rfl rfl ?_
  refine al_nt ?_
  obtain ⟨kk3, hkk3, h⟩ := lt_some h
  refine aw_seq_join (ι := Value × (List S_api_Token)) (fun i => (memOf w0 Z0 [] [(oRow i.1 132 tyS_api_Token i.2)] [])) (fun i => (tab [(4, i.1)])) (fun i => kk3 i.2 = some r) ?_ ?_
  ·rintro ⟨j2v4, j2x4⟩ h
   have h : kk3 j2x4 = some r := h
   rw [hkk3] at h
   dsimp only at h
   clear hkk3
   refine aw_show (m := (memOf w0 Z0 [] [(oRow j2v4 132 tyS_api_Token j2x4)] [])) (S := (tab [(4, j2v4)])) ?_
   refine aw_sr ?_
   refine al_mv rfl rfl ?_
   refine al_as rfl rfl ?_
   refine al_as rfl rfl ?_
   refine al_nt ?_
   refine aw_ret ?_
   obtain rfl := Option.some.inj h
   exact fn_ret j2v4 [0] [] rfl rfl rfl rfl (res2 rfl rfl rfl) rfl rfl rfl (by decide)
  ·clear hkk3
   refine aw_sr ?_
   refine al_as rfl rfl ?_
   refine al_nt ?_
   refine aw_block ?_
   refine aw_nilR 132 tyS_api_Token ?_
   refine aw_state (aw_loop (ι := Value × (List S_api_Token) × Int) (fun i => (memOf w0 Z0 [] [(oRow i.1 132 tyS_api_Token i.2.1)] [])) (fun i => (tab [(0, (str a0)), (4, i.1), (5, (iq i.2.2))])) (fun q i => f_lz_Greedy_L6 a0 kk3 fu q i.2.1 i.2.2 = some r) ?_ fu (nS, ([] : List S_api_Token), (0 : Int)) h) (fun w a hm hs => norm hm hs [0] [] [(0, (str a0)), (4, nS), (5, (iq (0 : Int)))] (by decide) ⟨rfl, rfl, rfl, trivial⟩)
   clear h
   rintro k5 ⟨l4v4, l4x4, l4i5⟩ h
   have h : f_lz_Greedy_L6 a0 kk3 fu k5 l4x4 l4i5 = some r := h
   obtain _ | k5 := k5
   · rw [f_lz_Greedy_L6] at h; cases h
   rw [f_lz_Greedy_L6] at h
   refine aw_show (m := (memOf w0 Z0 [] [(oRow l4v4 132 tyS_api_Token l4x4)] [])) (S := (tab [(0, (str a0)), (4, l4v4), (5, (iq l4i5))])) ?_
   refine aw_seq ?_
   refine aw_sr ?_
   refine al_mv rfl rfl ?_
   refine al_mv rfl rfl ?_
   refine al_val (ov_strLen Tryd.underlying9 rfl rfl) ?_
   refine al_in rfl rfl rfl rfl ?_
   refine al_nt ?_
   refine aw_cond rfl (fun hb7 => ?_) (fun hb7 => ?_)
   ·replace h := bif_t hb7 h
    refine aw_skip ?_
    refine aq_then ?_
    refine aw_block ?_
    refine aw_sr ?_
    refine al_mv rfl rfl ?_
    refine al_mv rfl rfl ?_
    obtain ⟨r9, hc8, h⟩ := opt_some h
    refine al_call (vs := [(str a0), (iq l4i5)]) (f_lz_longest_ok fu a0 l4i5 hc8) [] [] [0] pre_nil rfl (by simp) (by decide) (.inl rfl) rfl Tryd.func84 rfl rfl rfl (fun _ => ?_)
    refine al_alloc (zs := [(i8 (0 : Int)), (iq (0 : Int)), (iq (0 : Int))]) (zeroOf_to to132) rfl rfl (fun g10 => ?_)
    refine al_store (i := 0) (vs := [(i8 r9.Lit), (iq r9.Len), (iq r9.Dist)]) (cs' := [(i8 r9.Lit), (iq r9.Len), (iq r9.Dist)]) rfl rfl rfl sz132 (cv_rfl rfl) rfl (co_val rfl (co_val rfl (co_val rfl co_nil))) (Nat.le_of_ble_eq_true rfl) rfl rfl ?_
    refine al_nt ?_
    obtain ⟨kk12, hkk12, h⟩ := lt_some h
    refine aw_seq_join (ι := Int) (fun i => (memOf w0 Z0 [] [(oRow l4v4 132 tyS_api_Token l4x4), (oBox g10 132 [(i8 i), (iq r9.Len), (iq r9.Dist)])] [])) (fun i => (tab [(0, (str a0)), (4, l4v4), (5, (iq l4i5)), (6, (pq g10))])) (fun i => kk12 i = some r) ?_ ?_
    ·rintro j11i6_0 h
     have h : kk12 j11i6_0 = some r := h
     rw [hkk12] at h
     dsimp only at h
     clear hkk12
     refine aw_show (m := (memOf w0 Z0 [] [(oRow l4v4 132 tyS_api_Token l4x4), (oBox g10 132 [(i8 j11i6_0), (iq r9.Len), (iq r9.Dist)])] [])) (S := (tab [(0, (str a0)), (4, l4v4), (5, (iq l4i5)), (6, (pq g10))])) ?_
     refine aw_sr ?_
     refine al_mv rfl rfl ?_
     refine al_val (ov_load (i := 1) (v := (ag [(i8 j11i6_0), (iq r9.Len), (iq r9.Dist)])) rfl rfl Tryd.underlying132 sz132 rfl rfl rfl rfl) ?_
     refine al_buildSlice (τ := tyS_api_Token) (e := 132) (k := 1) (sz := 0) (by_ := 0) (z := undef) (cs := [(i8 j11i6_0), (iq r9.Len), (iq r9.Dist)]) (xs := [(S_api_Token.mk j11i6_0 r9.Len r9.Dist)]) rfl (by decide) (fun w a hm hs => ⟨([(i8 j11i6_0), (iq r9.Len), (iq r9.Dist)]).toArray, rfl, by simp only [List.map_toArray, List.map_cons, List.map_nil, hs.ev (x := .tmp 25) rfl]; exact run_bs [(ag [(i8 j11i6_0), (iq r9.Len), (iq r9.Dist)])] [(i8 j11i6_0), (iq r9.Len), (iq r9.Dist)] Tryd.underlying67 to132 rfl rfl (bs_cons (l := [(i8 j11i6_0), (iq r9.Len), (iq r9.Dist)]) (cs := []) (cv_rfl rfl) rfl bs_nil) hm⟩) (fun hm => ⟨_, _, rfl, (fun _ => mkS_api_Token rfl) hm, rfl⟩) rfl (fun v13 => ?_)
     obtain ⟨hc14, h⟩ := req_some h
     refine al_append 1 hc14.1 hc14.2 rfl (src_own (i := 1) 0 rfl) rfl rfl Tryd.underlying67 to132 rfl rfl rfl (fun v15 => ?_)
     refine al_as rfl rfl ?_
     refine al_nt ?_
     refine aw_region ?_
     refine al_mv rfl rfl ?_
     refine al_val (ov_fieldA (p := 1) rfl Tryd.underlying132 rfl sz3 rfl rfl rfl) ?_
     refine al_val (ov_load (i := 2) (v := (iq r9.Len)) rfl rfl Tryd.underlying3 sz3 rfl rfl rfl rfl) ?_
     refine al_val (ov_max rfl rfl rfl) ?_
     refine al_in rfl rfl rfl rfl ?_
     refine al_as rfl rfl ?_
     refine al_nil ?_
     refine aq_block ?_
     exact aq_again k5 (v15, (l4x4 ++ ([(S_api_Token.mk j11i6_0 r9.Len r9.Dist)])), (wq (l4i5 + (if (1 : Int) > r9.Len then (1 : Int) else r9.Len)))) (Nat.lt_succ_self _) h (fun w a hm hs => norm hm hs [1] [] [(0, (str a0)), (4, v15), (5, (iq (wq (l4i5 + (if (1 : Int) > r9.Len then (1 : Int) else r9.Len)))))] (by decide) ⟨rfl, rfl, rfl, trivial⟩)
    ·clear hkk12
     refine aw_sr ?_
     refine al_val (ov_fieldA (p := 1) rfl Tryd.underlying132 rfl sz3 rfl rfl rfl) ?_
     refine al_val (ov_load (i := 0) (v := (iq r9.Len)) rfl rfl Tryd.underlying3 sz3 rfl rfl rfl rfl) ?_
     refine al_in rfl rfl rfl rfl ?_
     refine al_nt ?_
     refine aw_cond rfl (fun hb16 => ?_) (fun hb16 => ?_)
     ·replace h := bif_t hb16 h
      refine aw_region ?_
      refine al_mv rfl rfl ?_
      refine al_mv rfl rfl ?_
      obtain ⟨hc17, h⟩ := req_some h
      refine al_val (ov_strIdx hc17.1 hc17.2 Tryd.underlying9 rfl rfl rfl) ?_
      refine al_val (ov_fieldA (p := 0) rfl Tryd.underlying132 rfl sz5 rfl rfl rfl) ?_
      refine al_store (i := 0) (vs := [(i8 (En.bAt a0 l4i5))]) (cs' := [(i8 (En.bAt a0 l4i5)), (iq r9.Len), (iq r9.Dist)]) rfl rfl rfl sz5 (cv_rfl rfl) rfl (co_val rfl co_nil) (Nat.le_of_ble_eq_true rfl) rfl rfl ?_
      refine al_nil ?_
      exact aq_join (En.bAt a0 l4i5) h (fun w a hm hs => norm hm hs [1, 0] [] [(0, (str a0)), (4, l4v4), (5, (iq l4i5)), (6, (pq g10))] (by decide) ⟨rfl, rfl, rfl, rfl, trivial⟩)
     ·replace h := bif_f hb16 h
      refine aw_skip ?_
      exact aq_join r9.Lit h (fun w a hm hs => norm hm hs [1, 0] [] [(0, (str a0)), (4, l4v4), (5, (iq l4i5)), (6, (pq g10))] (by decide) ⟨rfl, rfl, rfl, rfl, trivial⟩)
   ·replace h := bif_f hb7 h
    refine aw_exit ?_
    refine aq_then_exit ?_
    refine aq_then_exit ?_
    refine aq_block_exit ?_
    exact aq_join (l4v4, l4x4) h (fun w a hm hs => norm hm hs [0] [] [(4, l4v4)] (by decide) ⟨rfl, trivial⟩)
def f_lz_formed (fu : Nat) (a0 : S_api_Token) : Option Bool := (bif (a0.Len == (0 : Int)) then (some (a0.Dist == (0 : Int))) else (lt (fun (j3b2 : Bool) => (some j3b2)) fun (kk4 : Bool → Option Bool) => (bif (a0.Lit == (0 : Int)) then (bif (decide (a0.Len ≥ (1 : Int))) then (bif (decide (a0.Len ≤ (255 : Int))) then (bif (decide (a0.Dist ≥ (1 : Int))) then (kk4 (decide (a0.Dist ≤ (1024 : Int)))) else (kk4 false)) else (kk4 false)) else (kk4 false)) else (kk4 false))))
set_option maxHeartbeats 2000000 in
set_option maxRecDepth 100000 in
theorem f_lz_formed_ok (fu : Nat) (a0 : S_api_Token) {r : Bool} (h : f_lz_formed fu a0 = some r) : FnOk Tryd.prog 141 [(ag [(int .u8 a0.Lit), (int .i64 a0.Len), (int .i64 a0.Dist)])] [] [] (fun (i : Unit) => { val := (bool r) }) := by
 unfold f_lz_formed at h
 refine fn_enter Tryd.func141 rfl Tryd.ntmps141 rfl (fun w0 Z0 => ?_)
 refine aw_sr ?_
 refine al_box (vs := [(i8 a0.Lit), (iq a0.Len), (iq a0.Dist)]) rfl (cv_rfl rfl) rfl (fun g1 => ?_)
 refine al_as rfl rfl ?_
 refine al_nt ?_
 refine aw_seq ?_
 refine aw_sr ?_
 refine al_val (ov_fieldA (p := 1) rfl Tryd.underlying132 rfl sz3 rfl rfl rfl) ?_
 refine al_val (ov_load (i := 0) (v := (iq a0.Len)) rfl rfl Tryd.underlying3 sz3 rfl rfl rfl rfl) ?_
 refine al_in rfl rfl rfl rfl ?_
 refine al_nt ?_
 refine aw_cond rfl (fun hb2 => ?_) (fun hb2 => ?_)
 ·replace h := bif_t hb2 h
  refine aw_sr ?_
  refine al_val (ov_fieldA (p := 2) rfl Tryd.underlying132 rfl sz3 rfl rfl rfl) ?_
  refine al_val (ov_load (i := 0) (v := (iq a0.Dist)) rfl rfl Tryd.underlying3 sz3 rfl rfl rfl rfl) ?_
  refine al_in rfl rfl rfl rfl ?_
  refine al_as rfl rfl ?_
  refine al_nt ?_
  refine aw_ret ?_
  refine aq_then_ret ?_
  obtain rfl := Option.some.inj h
  exact fn_ret () [] [] rfl rfl rfl rfl (res1 rfl rfl) rfl rfl rfl (by decide)
 ·replace h := bif_f hb2 h
  refine aw_skip ?_
  refine aq_then ?_
  obtain ⟨kk4, hkk4, h⟩ := lt_some h
  refine aw_seq_join (ι := Bool) (fun i => (memOf w0 Z0 [] [] [])) (fun i => (tab [(2, (bool i))])) (fun i => kk4 i = some r) ?_ ?_
  ·rintro j3b2 h
   have h : kk4 j3b2 = some r := h
   rw [hkk4] at h
   dsimp only at h
   clear hkk4
   refine aw_show (m := (memOf w0 Z0 [] [] [])) (S := (tab [(2, (bool j3b2))])) ?_
   refine aw_ret ?_
   obtain rfl := Option.some.inj h
   exact fn_ret () [] [] rfl rfl rfl rfl (res1 rfl rfl) rfl rfl rfl (by decide)
  ·clear hkk4
   refine aw_region ?_
   refine al_val (ov_fieldA (p := 0) rfl Tryd.underlying132 rfl sz5 rfl rfl rfl) ?_
   refine al_val (ov_load (i := 0) (v := (i8 a0.Lit)) rfl rfl Tryd.underlying5 sz5 rfl rfl rfl rfl) ?_
   refine al_in rfl rfl rfl rfl ?_
   refine al_mv rfl rfl ?_
   refine al_caseB 12 rfl (fun hb5 => ?_) (fun hb5 => ?_)
   ·replace h := bif_t hb5 h
    refine al_val (ov_fieldA (p := 1) rfl Tryd.underlying132 rfl sz3 rfl rfl rfl) ?_
    refine al_val (ov_load (i := 0) (v := (iq a0.Len)) rfl rfl Tryd.underlying3 sz3 rfl rfl rfl rfl) ?_
    refine al_in rfl rfl rfl rfl ?_
    refine al_val (ov_pick_t rfl rfl rfl) ?_
    refine al_mv rfl rfl ?_
    refine al_caseB 17 rfl (fun hb6 => ?_) (fun hb6 => ?_)
    ·replace h := bif_t hb6 h
     refine al_val (ov_fieldA (p := 1) rfl Tryd.underlying132 rfl sz3 rfl rfl rfl) ?_
     refine al_val (ov_load (i := 0) (v := (iq a0.Len)) rfl rfl Tryd.underlying3 sz3 rfl rfl rfl rfl) ?_
     refine al_in rfl rfl rfl rfl ?_
     refine al_val (ov_pick_t rfl rfl rfl) ?_
     refine al_mv rfl rfl ?_
     refine al_caseB 22 rfl (fun hb7 => ?_) (fun hb7 => ?_)
     ·replace h := bif_t hb7 h
      refine al_val (ov_fieldA (p := 2) rfl Tryd.underlying132 rfl sz3 rfl rfl rfl) ?_
      refine al_val (ov_load (i := 0) (v := (iq a0.Dist)) rfl rfl Tryd.underlying3 sz3 rfl rfl rfl rfl) ?_
      refine al_in rfl rfl rfl rfl ?_
      refine al_val (ov_pick_t rfl rfl rfl) ?_
      refine al_mv rfl rfl ?_
      refine al_caseB 27 rfl (fun hb8 => ?_) (fun hb8 => ?_)
      ·replace h := bif_t hb8 h
       refine al_val (ov_fieldA (p := 2) rfl Tryd.underlying132 rfl sz3 rfl rfl rfl) ?_
       refine al_val (ov_load (i := 0) (v := (iq a0.Dist)) rfl rfl Tryd.underlying3 sz3 rfl rfl rfl rfl) ?_
       refine al_in rfl rfl rfl rfl ?_
       refine al_val (ov_pick_t rfl rfl rfl) ?_
       refine al_as rfl rfl ?_
       refine al_nil ?_
       exact aq_join (decide (a0.Dist ≤ (1024 : Int))) h (fun w a hm hs => norm hm hs [] [] [(2, (bool (decide (a0.Dist ≤ (1024 : Int)))))] (by decide) ⟨rfl, trivial⟩)
      ·replace h := bif_f hb8 h
       refine al_skip ?_
       refine al_skip ?_
       refine al_skip ?_
       refine al_val (ov_pick_f rfl rfl rfl) ?_
       refine al_as rfl rfl ?_
       refine al_nil ?_
       exact aq_join false h (fun w a hm hs => norm hm hs [] [] [(2, (bool false))] (by decide) ⟨rfl, trivial⟩)
     ·replace h := bif_f hb7 h
      refine al_skip ?_
      refine al_skip ?_
      refine al_skip ?_
      refine al_val (ov_pick_f rfl rfl rfl) ?_
      refine al_mv rfl rfl ?_
      refine al_skip ?_
      refine al_skip ?_
      refine al_skip ?_
      refine al_val (ov_pick_f rfl rfl rfl) ?_
      refine al_as rfl rfl ?_
      refine al_nil ?_
      exact aq_join false h (fun w a hm hs => norm hm hs [] [] [(2, (bool false))] (by decide) ⟨rfl, trivial⟩)
    ·replace h := bif_f hb6 h
     refine al_skip ?_
     refine al_skip ?_
     refine al_skip ?_
     refine al_val (ov_pick_f rfl rfl rfl) ?_
     refine al_mv rfl rfl ?_
     refine al_skip ?_
     refine al_skip ?_
     refine al_skip ?_
     refine al_val (ov_pick_f rfl rfl rfl) ?_
     refine al_mv rfl rfl ?_
     refine al_skip ?_
     refine al_skip ?_
     refine al_skip ?_
     refine al_val (ov_pick_f rfl rfl rfl) ?_
     refine al_as rfl rfl ?_
     refine al_nil ?_
     exact aq_join false h (fun w a hm hs => norm hm hs [] [] [(2, (bool false))] (by decide) ⟨rfl, trivial⟩)
   ·replace h := bif_f hb5 h
    refine al_skip ?_
    refine al_skip ?_
    refine al_skip ?_
    refine al_val (ov_pick_f rfl rfl rfl) ?_
    refine al_mv rfl rfl ?_
    refine al_skip ?_
    refine al_skip ?_
    refine al_skip ?_
    refine al_val (ov_pick_f rfl rfl rfl) ?_
    refine al_mv rfl rfl ?_
    refine al_skip ?_
    refine al_skip ?_
    refine al_skip ?_
    refine al_val (ov_pick_f rfl rfl rfl) ?_
    refine al_mv rfl rfl ?_
    refine al_skip ?_
    refine al_skip ?_
    refine al_skip ?_
    refine al_val (ov_pick_f rfl rfl rfl) ?_
    refine al_as rfl rfl ?_
    refine al_nil ?_
    exact aq_join false h (fun w a hm hs => norm hm hs [] [] [(2, (bool false))] (by decide) ⟨rfl, trivial⟩)
def f_lz_Check_L6 (a0 : (List S_api_Token)) (kk3 : (Unit → Option Int)) (fu : Nat) : Nat → Int → Option Int
  | 0, _ => none
  | k5 + 1, l4i10 => (bif (decide (l4i10 < (a0.length : Int))) then (opt (at? a0 l4i10) fun (u8 : S_api_Token) => (opt (f_lz_formed fu u8) fun (r13 : Bool) => (bif (!r13) then (some (4 : Int)) else (f_lz_Check_L6 a0 kk3 fu k5 (IntKind.i64.wrap (l4i10 + (1 : Int))))))) else (kk3 ()))
def f_lz_Check (fu : Nat) (a0 : (List S_api_Token)) : Option Int := (bif (decide ((a0.length : Int) > (4096 : Int))) then (some (2 : Int)) else (lt (fun (_ : Unit) => (some (0 : Int))) fun (kk3 : Unit → Option Int) => (f_lz_Check_L6 a0 kk3 fu fu (0 : Int))))
set_option maxHeartbeats 2000000 in
set_option maxRecDepth 100000 in
theorem f_lz_Check_ok (fu : Nat) (v0_0 : Value) (a0 : (List S_api_Token)) {r : Int} (h : f_lz_Check fu a0 = some r) : FnOk Tryd.prog 85 [v0_0] [(fDat (tyList tyS_api_Token) [v0_0] a0)] [] (fun (i : Unit) => { val := (int .i64 r) }) := by
 unfold f_lz_Check at h
 refine fn_enter Tryd.func85 rfl Tryd.ntmps85 rfl (fun w0 Z0 => ?_)
 refine aw_sr ?_
 refine al_as rfl rfl ?_
 refine al_nt ?_
 refine aw_seq ?_
 refine aw_sr ?_
 refine al_mv rfl rfl ?_
 refine al_val (ov_lenD 0 rfl rfl Tryd.underlying67 rfl) ?_
 refine al_in rfl rfl rfl rfl ?_
 refine al_nt ?_
 refine aw_cond rfl (fun hb1 => ?_) (fun hb1 => ?_)
 ·replace h := bif_t hb1 h
  refine aw_sr ?_
  refine al_as rfl rfl ?_
  refine al_nt ?_
  refine aw_ret ?_
  refine aq_then_ret ?_
  obtain rfl := Option.some.inj h
  exact fn_ret () [] [] rfl rfl rfl rfl (res1 rfl rfl) rfl rfl rfl (by decide)
 ·replace h := bif_f hb1 h
  refine aw_skip ?_
  refine aq_then ?_
  obtain ⟨kk3, hkk3, h⟩ := lt_some h
  refine aw_seq_join (ι := Unit) (fun i => (memOf w0 Z0 [] [] [(fDat (tyList tyS_api_Token) [v0_0] a0)])) (fun i => (tab [])) (fun i => kk3 () = some r) ?_ ?_
  ·rintro _ h
   have h : kk3 () = some r := h
   rw [hkk3] at h
   dsimp only at h
   clear hkk3
   refine aw_show (m := (memOf w0 Z0 [] [] [(fDat (tyList tyS_api_Token) [v0_0] a0)])) (S := (tab [])) ?_
   refine aw_sr ?_
   refine al_as rfl rfl ?_
   refine al_nt ?_
   refine aw_ret ?_
   obtain rfl := Option.some.inj h
   exact fn_ret () [] [] rfl rfl rfl rfl (res1 rfl rfl) rfl rfl rfl (by decide)
  ·clear hkk3
   refine aw_sr ?_
   refine al_mv rfl rfl ?_
   refine al_val (ov_lenD 0 rfl rfl Tryd.underlying67 rfl) ?_
   refine al_mv rfl rfl ?_
   refine al_nt ?_
   refine aw_block ?_
   refine aw_state (aw_loop (ι := Int) (fun i => (memOf w0 Z0 [] [] [(fDat (tyList tyS_api_Token) [v0_0] a0)])) (fun i => (tab [(8, v0_0), (9, (iq (a0.length : Int))), (10, (iq i))])) (fun q i => f_lz_Check_L6 a0 kk3 fu q i = some r) ?_ fu (0 : Int) h) (fun w a hm hs => norm hm hs [] [0] [(8, v0_0), (9, (iq (a0.length : Int))), (10, (iq (0 : Int)))] (by decide) ⟨rfl, rfl, rfl, trivial⟩)
   clear h
   rintro k5 l4i10 h
   have h : f_lz_Check_L6 a0 kk3 fu k5 l4i10 = some r := h
   obtain _ | k5 := k5
   · rw [f_lz_Check_L6] at h; cases h
   rw [f_lz_Check_L6] at h
   refine aw_show (m := (memOf w0 Z0 [] [] [(fDat (tyList tyS_api_Token) [v0_0] a0)])) (S := (tab [(8, v0_0), (9, (iq (a0.length : Int))), (10, (iq l4i10))])) ?_
   refine aw_sr ?_
   refine al_in rfl rfl rfl rfl ?_
   refine al_nt ?_
   refine aw_seq ?_
   refine aw_cond rfl (fun hb7 => ?_) (fun hb7 => ?_)
   ·replace h := bif_t hb7 h
    refine aw_skip ?_
    refine aq_then ?_
    refine aw_seq ?_
    refine aw_block ?_
    refine aw_sr ?_
    obtain ⟨u8, hu9, h⟩ := opt_some h
    refine al_idxD 0 hu9 rfl rfl rfl Tryd.underlying67 sz132 rfl (fun p10 => ?_)
    refine al_val (ov_loadP (ds := [(i8 u8.Lit), (iq u8.Len), (iq u8.Dist)]) 0 rfl encS_api_Token rfl Tryd.underlying132 sz132 rfl rfl rfl) ?_
    refine al_alloc (zs := [(i8 (0 : Int)), (iq (0 : Int)), (iq (0 : Int))]) (zeroOf_to to132) rfl rfl (fun g11 => ?_)
    refine al_store (i := 0) (vs := [(i8 u8.Lit), (iq u8.Len), (iq u8.Dist)]) (cs' := [(i8 u8.Lit), (iq u8.Len), (iq u8.Dist)]) rfl rfl rfl sz132 (cv_rfl rfl) rfl (co_val rfl (co_val rfl (co_val rfl co_nil))) (Nat.le_of_ble_eq_true rfl) rfl rfl ?_
    refine al_nt ?_
    refine aw_sr ?_
    refine al_val (ov_load (i := 0) (v := (ag [(i8 u8.Lit), (iq u8.Len), (iq u8.Dist)])) rfl rfl Tryd.underlying132 sz132 rfl rfl rfl rfl) ?_
    obtain ⟨r13, hc12, h⟩ := opt_some h
    refine al_call (vs := [(ag [(i8 u8.Lit), (iq u8.Len), (iq u8.Dist)])]) (f_lz_formed_ok fu u8 hc12) [] [] [0] pre_nil rfl (by simp) (by decide) (.inl rfl) rfl Tryd.func141 rfl rfl rfl (fun _ => ?_)
    refine al_val (ov_not rfl rfl) ?_
    refine al_nt ?_
    refine aw_cond rfl (fun hb14 => ?_) (fun hb14 => ?_)
    ·replace h := bif_t hb14 h
     refine aw_sr ?_
     refine al_as rfl rfl ?_
     refine al_nt ?_
     refine aw_ret ?_
     refine aq_block_ret ?_
     refine aq_then_ret ?_
     refine aq_then_ret ?_
     refine aq_block_ret ?_
     refine aq_then_ret ?_
     obtain rfl := Option.some.inj h
     exact fn_ret () [] [] rfl rfl rfl rfl (res1 rfl rfl) rfl rfl rfl (by decide)
    ·replace h := bif_f hb14 h
     refine aw_skip ?_
     refine aq_block ?_
     refine aq_then ?_
     refine aw_region ?_
     refine al_in rfl rfl rfl rfl ?_
     refine al_mv rfl rfl ?_
     refine al_nil ?_
     exact aq_again k5 (wq (l4i10 + (1 : Int))) (Nat.lt_succ_self _) h (fun w a hm hs => norm hm hs [] [1] [(8, v0_0), (9, (iq (a0.length : Int))), (10, (iq (wq (l4i10 + (1 : Int)))))] (by decide) ⟨rfl, rfl, rfl, trivial⟩)
   ·replace h := bif_f hb7 h
    refine aw_exit ?_
    refine aq_then_exit ?_
    refine aq_then_exit ?_
    refine aq_block_exit ?_
    exact aq_join () h (fun w a hm hs => norm hm hs [] [0] [] (by decide) trivial)
def f_lz_Pack_L8 (a0 : (List S_api_Token)) (kk5 : ((List UInt8) → Option ((List UInt8) × Int))) : Nat → (List UInt8) → Int → Option ((List UInt8) × Int)
  | 0, _, _ => none
  | k7 + 1, l6x5, l6i15 => (bif (decide (l6i15 < (a0.length : Int))) then (lt (fun (j10x5 : (List UInt8)) => (f_lz_Pack_L8 a0 kk5 k7 j10x5 (IntKind.i64.wrap (l6i15 + (1 : Int))))) fun (kk11 : (List UInt8) → Option ((List UInt8) × Int)) => (opt (at? a0 l6i15) fun (u12 : S_api_Token) => (bif (u12.Len == (0 : Int)) then (req (0 ≤ (0 : Int) ∧ (0 : Int) ≤ 255) (req (0 ≤ u12.Lit ∧ u12.Lit ≤ 255) (req (((l6x5.length + ([(UInt8.ofNat ((0 : Int)).toNat), (UInt8.ofNat (u12.Lit).toNat)]).length) * 1 : Nat) ≤ 140737488355328 ∧ l6x5.length + ([(UInt8.ofNat ((0 : Int)).toNat), (UInt8.ofNat (u12.Lit).toNat)]).length ≤ 9223372036854775807) (kk11 (l6x5 ++ ([(UInt8.ofNat ((0 : Int)).toNat), (UInt8.ofNat (u12.Lit).toNat)])))))) else (req (0 ≤ (IntKind.u8.wrap u12.Len) ∧ (IntKind.u8.wrap u12.Len) ≤ 255) (req (0 ≤ (IntKind.u8.wrap u12.Dist) ∧ (IntKind.u8.wrap u12.Dist) ≤ 255) (req (0 ≤ (IntKind.u8.wrap ((u12.Dist).fdiv (2 ^ min ((8 : Int)).toNat (IntKind.bits .i64)))) ∧ (IntKind.u8.wrap ((u12.Dist).fdiv (2 ^ min ((8 : Int)).toNat (IntKind.bits .i64)))) ≤ 255) (req (((l6x5.length + ([(UInt8.ofNat ((IntKind.u8.wrap u12.Len)).toNat), (UInt8.ofNat ((IntKind.u8.wrap u12.Dist)).toNat), (UInt8.ofNat ((IntKind.u8.wrap ((u12.Dist).fdiv (2 ^ min ((8 : Int)).toNat (IntKind.bits .i64))))).toNat)]).length) * 1 : Nat) ≤ 140737488355328 ∧ l6x5.length + ([(UInt8.ofNat ((IntKind.u8.wrap u12.Len)).toNat), (UInt8.ofNat ((IntKind.u8.wrap u12.Dist)).toNat), (UInt8.ofNat ((IntKind.u8.wrap ((u12.Dist).fdiv (2 ^ min ((8 : Int)).toNat (IntKind.bits .i64))))).toNat)]).length ≤ 9223372036854775807) (kk11 (l6x5 ++ ([(UInt8.ofNat ((IntKind.u8.wrap u12.Len)).toNat), (UInt8.ofNat ((IntKind.u8.wrap u12.Dist)).toNat), (UInt8.ofNat ((IntKind.u8.wrap ((u12.Dist).fdiv (2 ^ min ((8 : Int)).toNat (IntKind.bits .i64))))).toNat)])))))))))) else (kk5 l6x5))
def f_lz_Pack (fu : Nat) (a0 : (List S_api_Token)) : Option ((List UInt8) × Int) := (opt (f_lz_Check fu a0) fun (r2 : Int) => (bif (r2 != (0 : Int)) then (some (([] : List UInt8), r2)) else (lt (fun (j4x5 : (List UInt8)) => (some (j4x5, (0 : Int)))) fun (kk5 : (List UInt8) → Option ((List UInt8) × Int)) => (f_lz_Pack_L8 a0 kk5 fu ([] : List UInt8) (0 : Int)))))
set_option maxHeartbeats 2000000 in
set_option maxRecDepth 100000 in
theorem f_lz_Pack_ok (fu : Nat) (v0_0 : Value) (a0 : (List S_api_Token)) {r : ((List UInt8) × Int)} (h : f_lz_Pack fu a0 = some r) : FnOk Tryd.prog 39 [v0_0] [(fDat (tyList tyS_api_Token) [v0_0] a0)] [] (fun (i : Unit) => { val := (Value.tuple #[(str r.1), (int .i64 r.2)]) }) := by
 unfold f_lz_Pack at h
 refine fn_enter Tryd.func39 rfl Tryd.ntmps39 rfl (fun w0 Z0 => ?_)
 refine aw_sr ?_
 refine al_as rfl rfl ?_
 refine al_as rfl rfl ?_
 refine al_nt ?_
 refine aw_seq ?_
 refine aw_sr ?_
 refine al_mv rfl rfl ?_
 obtain ⟨r2, hc1, h⟩ := opt_some h
 refine al_call (vs := [v0_0]) (f_lz_Check_ok fu v0_0 a0 hc1) [] [] [] (pre_fz 0 rfl pre_nil) rfl (by simp) (by decide) (.inl rfl) rfl Tryd.func85 rfl rfl rfl (fun _ => ?_)
 refine al_as rfl rfl ?_
 refine al_nt ?_
 refine aw_sr ?_
 refine al_mv rfl rfl ?_
 refine al_in rfl rfl rfl rfl ?_
 refine al_nt ?_
 refine aw_cond rfl (fun hb3 => ?_) (fun hb3 => ?_)
 ·replace h := bif_t hb3 h
  refine aw_sr ?_
  refine al_mv rfl rfl ?_
  refine al_as rfl rfl ?_
  refine al_as rfl rfl ?_
  refine al_nt ?_
  refine aw_ret ?_
  refine aq_then_ret ?_
  obtain rfl := Option.some.inj h
  exact fn_ret () [] [] rfl rfl rfl rfl (res2 rfl rfl rfl) rfl rfl rfl (by decide)
 ·replace h := bif_f hb3 h
  refine aw_skip ?_
  refine aq_tr ?_
  refine al_as rfl rfl ?_
  refine al_nt ?_
  obtain ⟨kk5, hkk5, h⟩ := lt_some h
  refine aw_seq_join (ι := Value × (List UInt8)) (fun i => (memOf w0 Z0 [] [(oRow i.1 5 tyU8 i.2)] [(fDat (tyList tyS_api_Token) [v0_0] a0)])) (fun i => (tab [(5, i.1)])) (fun i => kk5 i.2 = some r) ?_ ?_
  ·rintro ⟨j4v5, j4x5⟩ h
   have h : kk5 j4x5 = some r := h
   rw [hkk5] at h
   dsimp only at h
   clear hkk5
   refine aw_show (m := (memOf w0 Z0 [] [(oRow j4v5 5 tyU8 j4x5)] [(fDat (tyList tyS_api_Token) [v0_0] a0)])) (S := (tab [(5, j4v5)])) ?_
   refine aw_sr ?_
   refine al_mv rfl rfl ?_
   refine al_val (ov_toStrR 0 rfl rfl Tryd.underlying74 Tryd.underlying5 Tryd.underlying9 rfl) ?_
   refine al_as rfl rfl ?_
   refine al_as rfl rfl ?_
   refine al_nt ?_
   refine aw_ret ?_
   obtain rfl := Option.some.inj h
   exact fn_ret () [] [] rfl rfl rfl rfl (res2 rfl rfl rfl) rfl rfl rfl (by decide)
  ·clear hkk5
   refine aw_sr ?_
   refine al_mv rfl rfl ?_
   refine al_val (ov_lenD 0 rfl rfl Tryd.underlying67 rfl) ?_
   refine al_mv rfl rfl ?_
   refine al_nt ?_
   refine aw_block ?_
   refine aw_nilR 5 tyU8 ?_
   refine aw_state (aw_loop (ι := Value × (List UInt8) × Int) (fun i => (memOf w0 Z0 [] [(oRow i.1 5 tyU8 i.2.1)] [(fDat (tyList tyS_api_Token) [v0_0] a0)])) (fun i => (tab [(5, i.1), (13, v0_0), (14, (iq (a0.length : Int))), (15, (iq i.2.2))])) (fun q i => f_lz_Pack_L8 a0 kk5 q i.2.1 i.2.2 = some r) ?_ fu (nS, ([] : List UInt8), (0 : Int)) h) (fun w a hm hs => norm hm hs [0] [0] [(5, nS), (13, v0_0), (14, (iq (a0.length : Int))), (15, (iq (0 : Int)))] (by decide) ⟨rfl, rfl, rfl, rfl, trivial⟩)
   clear h
   rintro k7 ⟨l6v5, l6x5, l6i15⟩ h
   have h : f_lz_Pack_L8 a0 kk5 k7 l6x5 l6i15 = some r := h
   obtain _ | k7 := k7
   · rw [f_lz_Pack_L8] at h; cases h
   rw [f_lz_Pack_L8] at h
   refine aw_show (m := (memOf w0 Z0 [] [(oRow l6v5 5 tyU8 l6x5)] [(fDat (tyList tyS_api_Token) [v0_0] a0)])) (S := (tab [(5, l6v5), (13, v0_0), (14, (iq (a0.length : Int))), (15, (iq l6i15))])) ?_
   refine aw_sr ?_
   refine al_in rfl rfl rfl rfl ?_
   refine al_nt ?_
   refine aw_seq ?_
   refine aw_cond rfl (fun hb9 => ?_) (fun hb9 => ?_)
   ·replace h := bif_t hb9 h
    refine aw_skip ?_
    refine aq_then ?_
    obtain ⟨kk11, hkk11, h⟩ := lt_some h
    refine aw_seq_join (ι := Value × (List UInt8)) (fun i => (memOf w0 Z0 [] [(oRow i.1 5 tyU8 i.2)] [(fDat (tyList tyS_api_Token) [v0_0] a0)])) (fun i => (tab [(5, i.1), (13, v0_0), (14, (iq (a0.length : Int))), (15, (iq l6i15))])) (fun i => kk11 i.2 = some r) ?_ ?_
    ·rintro ⟨j10v5, j10x5⟩ h
     have h : kk11 j10x5 = some r := h
     rw [hkk11] at h
     dsimp only at h
     clear hkk11
     refine aw_show (m := (memOf w0 Z0 [] [(oRow j10v5 5 tyU8 j10x5)] [(fDat (tyList tyS_api_Token) [v0_0] a0)])) (S := (tab [(5, j10v5), (13, v0_0), (14, (iq (a0.length : Int))), (15, (iq l6i15))])) ?_
     refine aw_region ?_
     refine al_in rfl rfl rfl rfl ?_
     refine al_mv rfl rfl ?_
     refine al_nil ?_
     exact aq_again k7 (j10v5, j10x5, (wq (l6i15 + (1 : Int)))) (Nat.lt_succ_self _) h (fun w a hm hs => norm hm hs [0] [0] [(5, j10v5), (13, v0_0), (14, (iq (a0.length : Int))), (15, (iq (wq (l6i15 + (1 : Int)))))] (by decide) ⟨rfl, rfl, rfl, rfl, trivial⟩)
    ·clear hkk11
     refine aw_block ?_
     refine aw_sr ?_
     obtain ⟨u12, hu13, h⟩ := opt_some h
     refine al_idxD 0 hu13 rfl rfl rfl Tryd.underlying67 sz132 rfl (fun p14 => ?_)
     refine al_val (ov_loadP (ds := [(i8 u12.Lit), (iq u12.Len), (iq u12.Dist)]) 0 rfl encS_api_Token rfl Tryd.underlying132 sz132 rfl rfl rfl) ?_
     refine al_alloc (zs := [(i8 (0 : Int)), (iq (0 : Int)), (iq (0 : Int))]) (zeroOf_to to132) rfl rfl (fun g15 => ?_)
     refine al_store (i := 0) (vs := [(i8 u12.Lit), (iq u12.Len), (iq u12.Dist)]) (cs' := [(i8 u12.Lit), (iq u12.Len), (iq u12.Dist)]) rfl rfl rfl sz132 (cv_rfl rfl) rfl (co_val rfl (co_val rfl (co_val rfl co_nil))) (Nat.le_of_ble_eq_true rfl) rfl rfl ?_
     refine al_nt ?_
     refine aw_sr ?_
     refine al_val (ov_fieldA (p := 1) rfl Tryd.underlying132 rfl sz3 rfl rfl rfl) ?_
     refine al_val (ov_load (i := 0) (v := (iq u12.Len)) rfl rfl Tryd.underlying3 sz3 rfl rfl rfl rfl) ?_
     refine al_in rfl rfl rfl rfl ?_
     refine al_nt ?_
     refine aw_cond rfl (fun hb16 => ?_) (fun hb16 => ?_)
     ·replace h := bif_t hb16 h
      refine aw_region ?_
      refine al_mv rfl rfl ?_
      refine al_val (ov_fieldA (p := 0) rfl Tryd.underlying132 rfl sz5 rfl rfl rfl) ?_
      refine al_val (ov_load (i := 0) (v := (i8 u12.Lit)) rfl rfl Tryd.underlying5 sz5 rfl rfl rfl rfl) ?_
      obtain ⟨hc18, h⟩ := req_some h
      obtain ⟨hc19, h⟩ := req_some h
      refine al_buildSlice (τ := tyU8) (e := 5) (k := 2) (sz := 0) (by_ := 0) (z := undef) (cs := [(i8 (0 : Int)), (i8 u12.Lit)]) (xs := [(UInt8.ofNat ((0 : Int)).toNat), (UInt8.ofNat (u12.Lit).toNat)]) rfl (by decide) (fun w a hm hs => ⟨([(i8 (0 : Int)), (i8 u12.Lit)]).toArray, rfl, by simp only [List.map_toArray, List.map_cons, List.map_nil, hs.ev (x := .const (i8 (0 : Int))) rfl, hs.ev (x := .tmp 24) rfl]; exact run_bs [(i8 (0 : Int)), (i8 u12.Lit)] [(i8 (0 : Int)), (i8 u12.Lit)] Tryd.underlying74 to5 rfl rfl (bs_cons (l := [(i8 (0 : Int))]) (cs := [(i8 u12.Lit)]) (cv_rfl rfl) rfl (bs_cons (l := [(i8 u12.Lit)]) (cs := []) (cv_rfl rfl) rfl bs_nil)) hm⟩) (fun hm => ⟨_, _, rfl, (fun _ => u8_rep hc18) hm, ⟨_, _, rfl, (fun _ => u8_rep hc19) hm, rfl⟩⟩) rfl (fun v17 => ?_)
      obtain ⟨hc20, h⟩ := req_some h
      refine al_append 2 hc20.1 hc20.2 rfl (src_own (i := 2) 0 rfl) rfl rfl Tryd.underlying74 to5 rfl rfl rfl (fun v21 => ?_)
      refine al_as rfl rfl ?_
      refine al_nil ?_
      refine aq_block ?_
      exact aq_join (v21, (l6x5 ++ ([(UInt8.ofNat ((0 : Int)).toNat), (UInt8.ofNat (u12.Lit).toNat)]))) h (fun w a hm hs => norm hm hs [2] [1] [(5, v21), (13, v0_0), (14, (iq (a0.length : Int))), (15, (iq l6i15))] (by decide) ⟨rfl, rfl, rfl, rfl, trivial⟩)
     ·replace h := bif_f hb16 h
      refine aw_region ?_
      refine al_mv rfl rfl ?_
      refine al_val (ov_fieldA (p := 1) rfl Tryd.underlying132 rfl sz3 rfl rfl rfl) ?_
      refine al_val (ov_load (i := 0) (v := (iq u12.Len)) rfl rfl Tryd.underlying3 sz3 rfl rfl rfl rfl) ?_
      refine al_val (ov_convInt (by rw [Tryd.underlying3]; rfl) Tryd.underlying5 rfl rfl) ?_
      refine al_val (ov_fieldA (p := 2) rfl Tryd.underlying132 rfl sz3 rfl rfl rfl) ?_
      refine al_val (ov_load (i := 0) (v := (iq u12.Dist)) rfl rfl Tryd.underlying3 sz3 rfl rfl rfl rfl) ?_
      refine al_val (ov_convInt (by rw [Tryd.underlying3]; rfl) Tryd.underlying5 rfl rfl) ?_
      refine al_val (ov_fieldA (p := 2) rfl Tryd.underlying132 rfl sz3 rfl rfl rfl) ?_
      refine al_val (ov_load (i := 0) (v := (iq u12.Dist)) rfl rfl Tryd.underlying3 sz3 rfl rfl rfl rfl) ?_
      refine al_val (ov_shr (by decide) rfl rfl rfl) ?_
      refine al_val (ov_convInt (by rw [Tryd.underlying3]; rfl) Tryd.underlying5 rfl rfl) ?_
      obtain ⟨hc23, h⟩ := req_some h
      obtain ⟨hc24, h⟩ := req_some h
      obtain ⟨hc25, h⟩ := req_some h
      refine al_buildSlice (τ := tyU8) (e := 5) (k := 3) (sz := 0) (by_ := 0) (z := undef) (cs := [(i8 (w8 u12.Len)), (i8 (w8 u12.Dist)), (i8 (w8 ((u12.Dist).fdiv (2 ^ min ((8 : Int)).toNat (IntKind.bits .i64)))))]) (xs := [(UInt8.ofNat ((w8 u12.Len)).toNat), (UInt8.ofNat ((w8 u12.Dist)).toNat), (UInt8.ofNat ((w8 ((u12.Dist).fdiv (2 ^ min ((8 : Int)).toNat (IntKind.bits .i64))))).toNat)]) rfl (by decide) (fun w a hm hs => ⟨([(i8 (w8 u12.Len)), (i8 (w8 u12.Dist)), (i8 (w8 ((u12.Dist).fdiv (2 ^ min ((8 : Int)).toNat (IntKind.bits .i64)))))]).toArray, rfl, by simp only [List.map_toArray, List.map_cons, List.map_nil, hs.ev (x := .tmp 30) rfl, hs.ev (x := .tmp 33) rfl, hs.ev (x := .tmp 37) rfl]; exact run_bs [(i8 (w8 u12.Len)), (i8 (w8 u12.Dist)), (i8 (w8 ((u12.Dist).fdiv (2 ^ min ((8 : Int)).toNat (IntKind.bits .i64)))))] [(i8 (w8 u12.Len)), (i8 (w8 u12.Dist)), (i8 (w8 ((u12.Dist).fdiv (2 ^ min ((8 : Int)).toNat (IntKind.bits .i64)))))] Tryd.underlying74 to5 rfl rfl (bs_cons (l := [(i8 (w8 u12.Len))]) (cs := [(i8 (w8 u12.Dist)), (i8 (w8 ((u12.Dist).fdiv (2 ^ min ((8 : Int)).toNat (IntKind.bits .i64)))))]) (cv_rfl rfl) rfl (bs_cons (l := [(i8 (w8 u12.Dist))]) (cs := [(i8 (w8 ((u12.Dist).fdiv (2 ^ min ((8 : Int)).toNat (IntKind.bits .i64)))))]) (cv_rfl rfl) rfl (bs_cons (l := [(i8 (w8 ((u12.Dist).fdiv (2 ^ min ((8 : Int)).toNat (IntKind.bits .i64)))))]) (cs := []) (cv_rfl rfl) rfl bs_nil))) hm⟩) (fun hm => ⟨_, _, rfl, (fun _ => u8_rep hc23) hm, ⟨_, _, rfl, (fun _ => u8_rep hc24) hm, ⟨_, _, rfl, (fun _ => u8_rep hc25) hm, rfl⟩⟩⟩) rfl (fun v22 => ?_)
      obtain ⟨hc26, h⟩ := req_some h
      refine al_append 2 hc26.1 hc26.2 rfl (src_own (i := 2) 0 rfl) rfl rfl Tryd.underlying74 to5 rfl rfl rfl (fun v27 => ?_)
      refine al_as rfl rfl ?_
      refine al_nil ?_
      refine aq_block ?_
      exact aq_join (v27, (l6x5 ++ ([(UInt8.ofNat ((w8 u12.Len)).toNat), (UInt8.ofNat ((w8 u12.Dist)).toNat), (UInt8.ofNat ((w8 ((u12.Dist).fdiv (2 ^ min ((8 : Int)).toNat (IntKind.bits .i64))))).toNat)]))) h (fun w a hm hs => norm hm hs [2] [1] [(5, v27), (13, v0_0), (14, (iq (a0.length : Int))), (15, (iq l6i15))] (by decide) ⟨rfl, rfl, rfl, rfl, trivial⟩)
   ·replace h := bif_f hb9 h
    refine aw_exit ?_
    refine aq_then_exit ?_
    refine aq_then_exit ?_
    refine aq_block_exit ?_
    exact aq_join (l6v5, l6x5) h (fun w a hm hs => norm hm hs [0] [0] [(5, l6v5)] (by decide) ⟨rfl, trivial⟩)
def f_huff_Lengths_1 (fu : Nat) (a0 : Int) : Option Bool := (lt (fun (j1b2 : Bool) => (some j1b2)) fun (kk2 : Bool → Option Bool) => (bif (decide (a0 < (0 : Int))) then (kk2 true) else (kk2 (decide (a0 > (1048576 : Int))))))
set_option maxHeartbeats 2000000 in
set_option maxRecDepth 100000 in
theorem f_huff_Lengths_1_ok (fu : Nat) (a0 : Int) {r : Bool} (h : f_huff_Lengths_1 fu a0 = some r) : FnOk Tryd.prog 87 [(int .i64 a0)] [] [] (fun (i : Unit) => { val := (bool r) }) := by
 unfold f_huff_Lengths_1 at h
 refine fn_enter Tryd.func87 rfl Tryd.ntmps87 rfl (fun w0 Z0 => ?_)
 refine aw_sr ?_
 refine al_as rfl rfl ?_
 refine al_nt ?_
 obtain ⟨kk2, hkk2, h⟩ := lt_some h
 refine aw_seq_join (ι := Bool) (fun i => (memOf w0 Z0 [] [] [])) (fun i => (tab [(2, (bool i))])) (fun i => kk2 i = some r) ?_ ?_
 ·rintro j1b2 h
  have h : kk2 j1b2 = some r := h
  rw [hkk2] at h
  dsimp only at h
  clear hkk2
  refine aw_show (m := (memOf w0 Z0 [] [] [])) (S := (tab [(2, (bool j1b2))])) ?_
  refine aw_ret ?_
  obtain rfl := Option.some.inj h
  exact fn_ret () [] [] rfl rfl rfl rfl (res1 rfl rfl) rfl rfl rfl (by decide)
 ·clear hkk2
  refine aw_region ?_
  refine al_mv rfl rfl ?_
  refine al_in rfl rfl rfl rfl ?_
  refine al_mv rfl rfl ?_
  refine al_caseB 5 rfl (fun hb3 => ?_) (fun hb3 => ?_)
  ·replace h := bif_t hb3 h
   refine al_skip ?_
   refine al_skip ?_
   refine al_val (ov_pick_t rfl rfl rfl) ?_
   refine al_as rfl rfl ?_
   refine al_nil ?_
   exact aq_join true h (fun w a hm hs => norm hm hs [] [] [(2, (bool true))] (by decide) ⟨rfl, trivial⟩)
  ·replace h := bif_f hb3 h
   refine al_mv rfl rfl ?_
   refine al_in rfl rfl rfl rfl ?_
   refine al_val (ov_pick_f rfl rfl rfl) ?_
   refine al_as rfl rfl ?_
   refine al_nil ?_
   exact aq_join (decide (a0 > (1048576 : Int))) h (fun w a hm hs => norm hm hs [] [] [(2, (bool (decide (a0 > (1048576 : Int)))))] (by decide) ⟨rfl, trivial⟩)
def f_cmp_Or_int__L5 (a0 : (List Int)) (kk2 : (Unit → Option Int)) : Nat → Int → Option Int
  | 0, _ => none
  | k4 + 1, l3i8 => (bif (decide (l3i8 < (a0.length : Int))) then (opt (at? a0 l3i8) fun (u7 : Int) => (bif (u7 != (0 : Int)) then (some u7) else (f_cmp_Or_int__L5 a0 kk2 k4 (IntKind.i64.wrap (l3i8 + (1 : Int)))))) else (kk2 ()))
def f_cmp_Or_int_ (fu : Nat) (a0 : (List Int)) : Option Int := (lt (fun (_ : Unit) => (some (0 : Int))) fun (kk2 : Unit → Option Int) => (f_cmp_Or_int__L5 a0 kk2 fu (0 : Int)))
set_option maxHeartbeats 2000000 in
set_option maxRecDepth 100000 in
theorem f_cmp_Or_int__ok (fu : Nat) (v0_0 : Value) (a0 : (List Int)) {r : Int} (h : f_cmp_Or_int_ fu a0 = some r) : FnOk Tryd.prog 89 [v0_0] [(fDat (tyList (tyInt .i64)) [v0_0] a0)] [] (fun (i : Unit) => { val := (int .i64 r) }) := by
 unfold f_cmp_Or_int_ at h
 refine fn_enter Tryd.func89 rfl Tryd.ntmps89 rfl (fun w0 Z0 => ?_)
 refine aw_sr ?_
 refine al_as rfl rfl ?_
 refine al_nt ?_
 refine aw_sr ?_
 refine al_as rfl rfl ?_
 refine al_nt ?_
 obtain ⟨kk2, hkk2, h⟩ := lt_some h
 refine aw_seq_join (ι := Unit) (fun i => (memOf w0 Z0 [] [] [(fDat (tyList tq) [v0_0] a0)])) (fun i => (tab [(3, (iq (0 : Int)))])) (fun i => kk2 () = some r) ?_ ?_
 ·rintro _ h
  have h : kk2 () = some r := h
  rw [hkk2] at h
  dsimp only at h
  clear hkk2
  refine aw_show (m := (memOf w0 Z0 [] [] [(fDat (tyList tq) [v0_0] a0)])) (S := (tab [(3, (iq (0 : Int)))])) ?_
  refine aw_sr ?_
  refine al_mv rfl rfl ?_
  refine al_as rfl rfl ?_
  refine al_nt ?_
  refine aw_ret ?_
  obtain rfl := Option.some.inj h
  exact fn_ret () [] [] rfl rfl rfl rfl (res1 rfl rfl) rfl rfl rfl (by decide)
 ·clear hkk2
  refine aw_sr ?_
  refine al_mv rfl rfl ?_
  refine al_val (ov_lenD 0 rfl rfl Tryd.underlying71 rfl) ?_
  refine al_mv rfl rfl ?_
  refine al_nt ?_
  refine aw_block ?_
  refine aw_state (aw_loop (ι := Int) (fun i => (memOf w0 Z0 [] [] [(fDat (tyList tq) [v0_0] a0)])) (fun i => (tab [(3, (iq (0 : Int))), (6, v0_0), (7, (iq (a0.length : Int))), (8, (iq i))])) (fun q i => f_cmp_Or_int__L5 a0 kk2 q i = some r) ?_ fu (0 : Int) h) (fun w a hm hs => norm hm hs [] [0] [(3, (iq (0 : Int))), (6, v0_0), (7, (iq (a0.length : Int))), (8, (iq (0 : Int)))] (by decide) ⟨rfl, rfl, rfl, rfl, trivial⟩)
  clear h
  rintro k4 l3i8 h
  have h : f_cmp_Or_int__L5 a0 kk2 k4 l3i8 = some r := h
  obtain _ | k4 := k4
  · rw [f_cmp_Or_int__L5] at h; cases h
  rw [f_cmp_Or_int__L5] at h
  refine aw_show (m := (memOf w0 Z0 [] [] [(fDat (tyList tq) [v0_0] a0)])) (S := (tab [(3, (iq (0 : Int))), (6, v0_0), (7, (iq (a0.length : Int))), (8, (iq l3i8))])) ?_
  refine aw_sr ?_
  refine al_in rfl rfl rfl rfl ?_
  refine al_nt ?_
  refine aw_seq ?_
  refine aw_cond rfl (fun hb6 => ?_) (fun hb6 => ?_)
  ·replace h := bif_t hb6 h
   refine aw_skip ?_
   refine aq_then ?_
   refine aw_seq ?_
   refine aw_block ?_
   refine aw_sr ?_
   obtain ⟨u7, hu8, h⟩ := opt_some h
   refine al_idxD 0 hu8 rfl rfl rfl Tryd.underlying71 sz3 rfl (fun p9 => ?_)
   refine al_val (ov_loadP (ds := [(iq u7)]) 0 rfl (fun h => h) rfl Tryd.underlying3 sz3 rfl rfl rfl) ?_
   refine al_as rfl rfl ?_
   refine al_nt ?_
   refine aw_sr ?_
   refine al_mv rfl rfl ?_
   refine al_mv rfl rfl ?_
   refine al_in rfl rfl rfl rfl ?_
   refine al_nt ?_
   refine aw_cond rfl (fun hb10 => ?_) (fun hb10 => ?_)
   ·replace h := bif_t hb10 h
    refine aw_sr ?_
    refine al_mv rfl rfl ?_
    refine al_as rfl rfl ?_
    refine al_nt ?_
    refine aw_ret ?_
    refine aq_block_ret ?_
    refine aq_then_ret ?_
    refine aq_then_ret ?_
    refine aq_block_ret ?_
    refine aq_then_ret ?_
    obtain rfl := Option.some.inj h
    exact fn_ret () [] [] rfl rfl rfl rfl (res1 rfl rfl) rfl rfl rfl (by decide)
   ·replace h := bif_f hb10 h
    refine aw_skip ?_
    refine aq_block ?_
    refine aq_then ?_
    refine aw_region ?_
    refine al_in rfl rfl rfl rfl ?_
    refine al_mv rfl rfl ?_
    refine al_nil ?_
    exact aq_again k4 (wq (l3i8 + (1 : Int))) (Nat.lt_succ_self _) h (fun w a hm hs => norm hm hs [] [1] [(3, (iq (0 : Int))), (6, v0_0), (7, (iq (a0.length : Int))), (8, (iq (wq (l3i8 + (1 : Int)))))] (by decide) ⟨rfl, rfl, rfl, rfl, trivial⟩)
  ·replace h := bif_f hb6 h
   refine aw_exit ?_
   refine aq_then_exit ?_
   refine aq_then_exit ?_
   refine aq_block_exit ?_
   exact aq_join () h (fun w a hm hs => norm hm hs [] [0] [(3, (iq (0 : Int)))] (by decide) ⟨rfl, trivial⟩)
def f_huff_Lengths_2 (fu : Nat) (a0 : S_huff_tree) (a1 : S_huff_tree) : Option Int := (opt (f_cmp_Or_int_ fu ([(IntKind.i64.wrap (a0.weight - a1.weight)), (IntKind.i64.wrap (a0.least - a1.least))])) fun (r5 : Int) => (some r5))
set_option maxHeartbeats 2000000 in
set_option maxRecDepth 100000 in
theorem f_huff_Lengths_2_ok (fu : Nat) (v0_2 : Value) (a0 : S_huff_tree) (v1_2 : Value) (a1 : S_huff_tree) {r : Int} (h : f_huff_Lengths_2 fu a0 a1 = some r) : FnOk Tryd.prog 88 [(ag [(int .i64 a0.weight), (int .i64 a0.least), v0_2]), (ag [(int .i64 a1.weight), (int .i64 a1.least), v1_2])] [(fDat (tyList (tyInt .i64)) [v0_2] a0.symbols), (fDat (tyList (tyInt .i64)) [v1_2] a1.symbols)] [] (fun (i : Unit) => { val := (int .i64 r) }) := by
 unfold f_huff_Lengths_2 at h
 refine fn_enter Tryd.func88 rfl Tryd.ntmps88 rfl (fun w0 Z0 => ?_)
 refine aw_sr ?_
 refine al_box (vs := [(iq a0.weight), (iq a0.least), v0_2]) rfl (cv_rfl rfl) rfl (fun g1 => ?_)
 refine al_box (vs := [(iq a1.weight), (iq a1.least), v1_2]) rfl (cv_rfl rfl) rfl (fun g2 => ?_)
 refine al_as rfl rfl ?_
 refine al_nt ?_
 refine aw_sr ?_
 refine al_val (ov_fieldA (p := 0) rfl Tryd.underlying138 rfl sz3 rfl rfl rfl) ?_
 refine al_val (ov_load (i := 1) (v := (iq a0.weight)) rfl rfl Tryd.underlying3 sz3 rfl rfl rfl rfl) ?_
 refine al_val (ov_fieldA (p := 0) rfl Tryd.underlying138 rfl sz3 rfl rfl rfl) ?_
 refine al_val (ov_load (i := 0) (v := (iq a1.weight)) rfl rfl Tryd.underlying3 sz3 rfl rfl rfl rfl) ?_
 refine al_in rfl rfl rfl rfl ?_
 refine al_val (ov_fieldA (p := 1) rfl Tryd.underlying138 rfl sz3 rfl rfl rfl) ?_
 refine al_val (ov_load (i := 1) (v := (iq a0.least)) rfl rfl Tryd.underlying3 sz3 rfl rfl rfl rfl) ?_
 refine al_val (ov_fieldA (p := 1) rfl Tryd.underlying138 rfl sz3 rfl rfl rfl) ?_
 refine al_val (ov_load (i := 0) (v := (iq a1.least)) rfl rfl Tryd.underlying3 sz3 rfl rfl rfl rfl) ?_
 refine al_in rfl rfl rfl rfl ?_
 refine al_buildSlice (τ := tq) (e := 3) (k := 2) (sz := 0) (by_ := 0) (z := undef) (cs := [(iq (wq (a0.weight - a1.weight))), (iq (wq (a0.least - a1.least)))]) (xs := [(wq (a0.weight - a1.weight)), (wq (a0.least - a1.least))]) rfl (by decide) (fun w a hm hs => ⟨([(iq (wq (a0.weight - a1.weight))), (iq (wq (a0.least - a1.least)))]).toArray, rfl, by simp only [List.map_toArray, List.map_cons, List.map_nil, hs.ev (x := .tmp 9) rfl, hs.ev (x := .tmp 14) rfl]; exact run_bs [(iq (wq (a0.weight - a1.weight))), (iq (wq (a0.least - a1.least)))] [(iq (wq (a0.weight - a1.weight))), (iq (wq (a0.least - a1.least)))] Tryd.underlying71 to3 rfl rfl (bs_cons (l := [(iq (wq (a0.weight - a1.weight)))]) (cs := [(iq (wq (a0.least - a1.least)))]) (cv_rfl rfl) rfl (bs_cons (l := [(iq (wq (a0.least - a1.least)))]) (cs := []) (cv_rfl rfl) rfl bs_nil)) hm⟩) (fun hm => ⟨_, _, rfl, (fun _ => rfl) hm, ⟨_, _, rfl, (fun _ => rfl) hm, rfl⟩⟩) rfl (fun v3 => ?_)
 obtain ⟨r5, hc4, h⟩ := opt_some h
 refine al_call (vs := [v3]) (f_cmp_Or_int__ok fu v3 ([(wq (a0.weight - a1.weight)), (wq (a0.least - a1.least))]) hc4) [0] [] [0, 1, 2] (pre_own 0 rfl rfl pre_nil) rfl (by simp) (by decide) (.inr flat_res0) rfl Tryd.func89 rfl rfl rfl (fun _ => ?_)
 refine al_as rfl rfl ?_
 refine al_nt ?_
 refine aw_ret ?_
 obtain rfl := Option.some.inj h
 exact fn_ret () [] [] rfl rfl rfl rfl (res1 rfl rfl) rfl rfl rfl (by decide)
-- STUCK (*lumberroom/huff.heap[lumberroom/huff.tree]).push: lty ['pointer', 143]
-- STUCK (*lumberroom/huff.heap[lumberroom/huff.tree]).pop: lty ['pointer', 143]
-- STUCK slices.Grow[[]int,int]: slices.go:426: call: builtin cap
def f_slices_Grow___int_int__nil (fu : Nat) (a1 : Int) : Option (List Int) := (bif (decide (a1 < (0 : Int))) then (none : Option (List Int)) else (lt (fun (j2x0 : (List Int)) => (some j2x0)) fun (kk3 : (List Int) → Option (List Int)) => (bif (decide ((IntKind.i64.wrap (a1 - (IntKind.i64.wrap (((0 : Nat) : Int) - ((0 : Nat) : Int))))) > (0 : Int))) then (req (0 < (IntKind.i64.wrap (a1 - (IntKind.i64.wrap (((0 : Nat) : Int) - ((0 : Nat) : Int))))) ∧ (IntKind.i64.wrap (a1 - (IntKind.i64.wrap (((0 : Nat) : Int) - ((0 : Nat) : Int))))) * 8 ≤ 140737488355328 ∧ (IntKind.i64.wrap (a1 - (IntKind.i64.wrap (((0 : Nat) : Int) - ((0 : Nat) : Int))))) ≤ 9223372036854775807) (req (0 ≤ ((0 : Nat) : Int) ∧ ((0 : Nat) : Int) ≤ ((List.replicate ((IntKind.i64.wrap (a1 - (IntKind.i64.wrap (((0 : Nat) : Int) - ((0 : Nat) : Int)))))).toNat (0 : Int)).length : Int)) (kk3 ((List.replicate ((IntKind.i64.wrap (a1 - (IntKind.i64.wrap (((0 : Nat) : Int) - ((0 : Nat) : Int)))))).toNat (0 : Int)).take (((0 : Nat) : Int)).toNat)))) else (kk3 ([] : List Int)))))
set_option maxHeartbeats 2000000 in
set_option maxRecDepth 100000 in
theorem f_slices_Grow___int_int__nil_ok (fu : Nat) (a1 : Int) {r : (List Int)} (h : f_slices_Grow___int_int__nil fu a1 = some r) : FnOk Tryd.prog 143 [(Value.slice none 0 0), (int .i64 a1)] [] [] (fun (i : Value) => { val := i, own := [(oRow i 3 (tyInt .i64) r)] }) := by
 unfold f_slices_Grow___int_int__nil at h
 refine fn_enter Tryd.func143 rfl Tryd.ntmps143 rfl (fun w0 Z0 => ?_)
 refine aw_sr ?_
 refine al_as rfl rfl ?_
 refine al_nt ?_
 refine aw_seq ?_
 refine aw_sr ?_
 refine al_mv rfl rfl ?_
 refine al_in rfl rfl rfl rfl ?_
 refine al_nt ?_
 refine aw_cond rfl (fun hb1 => ?_) (fun hb1 => ?_)
 ·replace h := bif_t hb1 h
  refine aw_region ?_
  cases h
 ·replace h := bif_f hb1 h
  refine aw_skip ?_
  refine aq_then ?_
  obtain ⟨kk3, hkk3, h⟩ := lt_some h
  refine aw_seq_join (ι := Value × (List Int)) (fun i => (memOf w0 Z0 [] [(oRow i.1 3 tq i.2)] [])) (fun i => (tab [(0, i.1)])) (fun i => kk3 i.2 = some r) ?_ ?_
  ·rintro ⟨j2v0, j2x0⟩ h
   have h : kk3 j2x0 = some r := h
   rw [hkk3] at h
   dsimp only at h
   clear hkk3
   refine aw_show (m := (memOf w0 Z0 [] [(oRow j2v0 3 tq j2x0)] [])) (S := (tab [(0, j2v0)])) ?_
   refine aw_sr ?_
   refine al_mv rfl rfl ?_
   refine al_as rfl rfl ?_
   refine al_nt ?_
   refine aw_ret ?_
   obtain rfl := Option.some.inj h
   exact fn_ret j2v0 [0] [] rfl rfl rfl rfl (res1 rfl rfl) rfl rfl rfl (by decide)
  ·clear hkk3
   refine aw_sr ?_
   refine al_mv rfl rfl ?_
   refine al_mv rfl rfl ?_
   refine al_val (ov_capN rfl Tryd.underlying71 rfl) ?_
   refine al_mv rfl rfl ?_
   refine al_val (ov_lenN rfl Tryd.underlying71 rfl) ?_
   refine al_in rfl rfl rfl rfl ?_
   refine al_in rfl rfl rfl rfl ?_
   refine al_as rfl rfl ?_
   refine al_nt ?_
   refine aw_sr ?_
   refine al_mv rfl rfl ?_
   refine al_in rfl rfl rfl rfl ?_
   refine al_nt ?_
   refine aw_cond rfl (fun hb4 => ?_) (fun hb4 => ?_)
   ·replace h := bif_t hb4 h
    refine aw_region ?_
    refine al_mv rfl rfl ?_
    refine al_mv rfl rfl ?_
    refine al_val (ov_capN rfl Tryd.underlying71 rfl) ?_
    refine al_val (ov_cutN rfl rfl Tryd.underlying71 sz3 rfl) ?_
    refine al_mv rfl rfl ?_
    obtain ⟨hc5, h⟩ := req_some h
    refine al_appendZ (τ := tq) (x0 := 0) hc5.1 hc5.2.1 hc5.2.2 rfl rfl Tryd.underlying71 Tryd.underlying3 to3 (fun _ _ => rfl) rfl rfl (fun v6 => ?_)
    refine al_mv rfl rfl ?_
    refine al_val (ov_lenN rfl Tryd.underlying71 rfl) ?_
    obtain ⟨hc7, h⟩ := req_some h
    refine al_cutR 0 hc7.1 hc7.2 rfl rfl rfl Tryd.underlying71 sz3 rfl (fun s8 => ?_)
    refine al_as rfl rfl ?_
    refine al_nil ?_
    exact aq_join (s8, ((List.replicate ((wq (a1 - (wq (((0 : Nat) : Int) - ((0 : Nat) : Int)))))).toNat (0 : Int)).take (((0 : Nat) : Int)).toNat)) h (fun w a hm hs => norm hm hs [0] [] [(0, s8)] (by decide) ⟨rfl, trivial⟩)
   ·replace h := bif_f hb4 h
    refine aw_skip ?_
    refine aq_nilR 3 tq ?_
    exact aq_join (nS, ([] : List Int)) h (fun w a hm hs => norm hm hs [0] [] [(0, nS)] (by decide) ⟨rfl, trivial⟩)
def f_slices_Concat___int_int__L10 (a0 : (List (List Int))) (kk7 : ((List Int) → Option (List Int))) : Nat → (List Int) → Int → Option (List Int)
  | 0, _, _ => none
  | k9 + 1, l8x6, l8i27 => (bif (decide (l8i27 < (a0.length : Int))) then (opt (at? a0 l8i27) fun (u12 : (List Int)) => (req (((l8x6.length + u12.length) * 8 : Nat) ≤ 140737488355328 ∧ l8x6.length + u12.length ≤ 9223372036854775807) (f_slices_Concat___int_int__L10 a0 kk7 k9 (l8x6 ++ u12) (IntKind.i64.wrap (l8i27 + (1 : Int)))))) else (kk7 l8x6))
def f_slices_Concat___int_int__L20 (a0 : (List (List Int))) (kk2 : (Int → Option (List Int))) : Nat → Int → Int → Option (List Int)
  | 0, _, _ => none
  | k19 + 1, l18i3, l18i11 => (bif (decide (l18i11 < (a0.length : Int))) then (opt (at? a0 l18i11) fun (u22 : (List Int)) => (bif (decide ((IntKind.i64.wrap (l18i3 + (u22.length : Int))) < (0 : Int))) then (none : Option (List Int)) else (f_slices_Concat___int_int__L20 a0 kk2 k19 (IntKind.i64.wrap (l18i3 + (u22.length : Int))) (IntKind.i64.wrap (l18i11 + (1 : Int)))))) else (kk2 l18i3))
def f_slices_Concat___int_int_ (fu : Nat) (a0 : (List (List Int))) : Option (List Int) := (lt (fun (j1i3 : Int) => (opt (f_slices_Grow___int_int__nil fu j1i3) fun (r4 : (List Int)) => (lt (fun (j6x6 : (List Int)) => (some j6x6)) fun (kk7 : (List Int) → Option (List Int)) => (f_slices_Concat___int_int__L10 a0 kk7 fu r4 (0 : Int))))) fun (kk2 : Int → Option (List Int)) => (f_slices_Concat___int_int__L20 a0 kk2 fu (0 : Int) (0 : Int)))
set_option maxHeartbeats 2000000 in
set_option maxRecDepth 100000 in
theorem f_slices_Concat___int_int__ok (fu : Nat) (v0_0 : Value) (a0 : (List (List Int))) {r : (List Int)} (h : f_slices_Concat___int_int_ fu a0 = some r) : FnOk Tryd.prog 92 [v0_0] [(fDat (tyList (tyList (tyInt .i64))) [v0_0] a0)] [] (fun (i : Value) => { val := i, own := [(oRow i 3 (tyInt .i64) r)] }) := by
 unfold f_slices_Concat___int_int_ at h
 refine fn_enter Tryd.func92 rfl Tryd.ntmps92 rfl (fun w0 Z0 => ?_)
 refine aw_sr ?_
 refine al_as rfl rfl ?_
 refine al_nt ?_
 refine aw_sr ?_
 refine al_as rfl rfl ?_
 refine al_nt ?_
 obtain ⟨kk2, hkk2, h⟩ := lt_some h
 refine aw_seq_join (ι := Int) (fun i => (memOf w0 Z0 [] [] [(fDat (tyList (tyList tq)) [v0_0] a0)])) (fun i => (tab [(0, v0_0), (3, (iq i))])) (fun i => kk2 i = some r) ?_ ?_
 ·rintro j1i3 h
  have h : kk2 j1i3 = some r := h
  rw [hkk2] at h
  dsimp only at h
  clear hkk2
  refine aw_show (m := (memOf w0 Z0 [] [] [(fDat (tyList (tyList tq)) [v0_0] a0)])) (S := (tab [(0, v0_0), (3, (iq j1i3))])) ?_
  refine aw_sr ?_
  refine al_mv rfl rfl ?_
  obtain ⟨r4, hc3, h⟩ := opt_some h
  refine al_call (vs := [nS, (iq j1i3)]) (f_slices_Grow___int_int__nil_ok fu j1i3 hc3) [] [] [] pre_nil rfl (by simp) (by decide) (.inl rfl) rfl Tryd.func143 rfl rfl rfl (fun v5 => ?_)
  refine al_as rfl rfl ?_
  refine al_nt ?_
  obtain ⟨kk7, hkk7, h⟩ := lt_some h
  refine aw_seq_join (ι := Value × (List Int)) (fun i => (memOf w0 Z0 [] [(oRow i.1 3 tq i.2)] [(fDat (tyList (tyList tq)) [v0_0] a0)])) (fun i => (tab [(6, i.1)])) (fun i => kk7 i.2 = some r) ?_ ?_
  ·rintro ⟨j6v6, j6x6⟩ h
   have h : kk7 j6x6 = some r := h
   rw [hkk7] at h
   dsimp only at h
   clear hkk7
   refine aw_show (m := (memOf w0 Z0 [] [(oRow j6v6 3 tq j6x6)] [(fDat (tyList (tyList tq)) [v0_0] a0)])) (S := (tab [(6, j6v6)])) ?_
   refine aw_sr ?_
   refine al_mv rfl rfl ?_
   refine al_as rfl rfl ?_
   refine al_nt ?_
   refine aw_ret ?_
   obtain rfl := Option.some.inj h
   exact fn_ret j6v6 [0] [] rfl rfl rfl rfl (res1 rfl rfl) rfl rfl rfl (by decide)
  ·clear hkk7
   refine aw_sr ?_
   refine al_mv rfl rfl ?_
   refine al_val (ov_lenD 0 rfl rfl Tryd.underlying198 rfl) ?_
   refine al_mv rfl rfl ?_
   refine al_nt ?_
   refine aw_block ?_
   refine aw_state (aw_loop (ι := Value × (List Int) × Int) (fun i => (memOf w0 Z0 [] [(oRow i.1 3 tq i.2.1)] [(fDat (tyList (tyList tq)) [v0_0] a0)])) (fun i => (tab [(6, i.1), (25, v0_0), (26, (iq (a0.length : Int))), (27, (iq i.2.2))])) (fun q i => f_slices_Concat___int_int__L10 a0 kk7 q i.2.1 i.2.2 = some r) ?_ fu (v5, r4, (0 : Int)) h) (fun w a hm hs => norm hm hs [0] [0] [(6, v5), (25, v0_0), (26, (iq (a0.length : Int))), (27, (iq (0 : Int)))] (by decide) ⟨rfl, rfl, rfl, rfl, trivial⟩)
   clear h
   rintro k9 ⟨l8v6, l8x6, l8i27⟩ h
   have h : f_slices_Concat___int_int__L10 a0 kk7 k9 l8x6 l8i27 = some r := h
   obtain _ | k9 := k9
   · rw [f_slices_Concat___int_int__L10] at h; cases h
   rw [f_slices_Concat___int_int__L10] at h
   refine aw_show (m := (memOf w0 Z0 [] [(oRow l8v6 3 tq l8x6)] [(fDat (tyList (tyList tq)) [v0_0] a0)])) (S := (tab [(6, l8v6), (25, v0_0), (26, (iq (a0.length : Int))), (27, (iq l8i27))])) ?_
   refine aw_sr ?_
   refine al_in rfl rfl rfl rfl ?_
   refine al_nt ?_
   refine aw_seq ?_
   refine aw_cond rfl (fun hb11 => ?_) (fun hb11 => ?_)
   ·replace h := bif_t hb11 h
    refine aw_skip ?_
    refine aq_then ?_
    refine aw_seq ?_
    refine aw_block ?_
    refine aw_sr ?_
    obtain ⟨u12, hu13, h⟩ := opt_some h
    refine al_idxD 0 hu13 rfl rfl rfl Tryd.underlying198 sz71 rfl (fun p14 => ?_)
    refine al_loadP1 0 rfl rfl Tryd.underlying71 sz71 rfl rfl rfl (fun s15 => ?_)
    refine al_as rfl rfl ?_
    refine al_nt ?_
    refine aw_region ?_
    refine al_mv rfl rfl ?_
    refine al_mv rfl rfl ?_
    obtain ⟨hc16, h⟩ := req_some h
    refine al_append 0 hc16.1 hc16.2 rfl (src_dat (i := 0) 0 rfl) rfl rfl Tryd.underlying71 to3 rfl rfl rfl (fun v17 => ?_)
    refine al_as rfl rfl ?_
    refine al_nil ?_
    refine aq_block ?_
    refine aq_then ?_
    refine aw_region ?_
    refine al_in rfl rfl rfl rfl ?_
    refine al_mv rfl rfl ?_
    refine al_nil ?_
    exact aq_again k9 (v17, (l8x6 ++ u12), (wq (l8i27 + (1 : Int)))) (Nat.lt_succ_self _) h (fun w a hm hs => norm hm hs [0] [2] [(6, v17), (25, v0_0), (26, (iq (a0.length : Int))), (27, (iq (wq (l8i27 + (1 : Int)))))] (by decide) ⟨rfl, rfl, rfl, rfl, trivial⟩)
   ·replace h := bif_f hb11 h
    refine aw_exit ?_
    refine aq_then_exit ?_
    refine aq_then_exit ?_
    refine aq_block_exit ?_
    exact aq_join (l8v6, l8x6) h (fun w a hm hs => norm hm hs [0] [0] [(6, l8v6)] (by decide) ⟨rfl, trivial⟩)
 ·clear hkk2
  refine aw_sr ?_
  refine al_mv rfl rfl ?_
  refine al_val (ov_lenD 0 rfl rfl Tryd.underlying198 rfl) ?_
  refine al_mv rfl rfl ?_
  refine al_nt ?_
  refine aw_block ?_
  refine aw_state (aw_loop (ι := Int × Int) (fun i => (memOf w0 Z0 [] [] [(fDat (tyList (tyList tq)) [v0_0] a0)])) (fun i => (tab [(0, v0_0), (3, (iq i.1)), (9, v0_0), (10, (iq (a0.length : Int))), (11, (iq i.2))])) (fun q i => f_slices_Concat___int_int__L20 a0 kk2 q i.1 i.2 = some r) ?_ fu ((0 : Int), (0 : Int)) h) (fun w a hm hs => norm hm hs [] [0] [(0, v0_0), (3, (iq (0 : Int))), (9, v0_0), (10, (iq (a0.length : Int))), (11, (iq (0 : Int)))] (by decide) ⟨rfl, rfl, rfl, rfl, rfl, trivial⟩)
  clear h
  rintro k19 ⟨l18i3, l18i11⟩ h
  have h : f_slices_Concat___int_int__L20 a0 kk2 k19 l18i3 l18i11 = some r := h
  obtain _ | k19 := k19
  · rw [f_slices_Concat___int_int__L20] at h; cases h
  rw [f_slices_Concat___int_int__L20] at h
  refine aw_show (m := (memOf w0 Z0 [] [] [(fDat (tyList (tyList tq)) [v0_0] a0)])) (S := (tab [(0, v0_0), (3, (iq l18i3)), (9, v0_0), (10, (iq (a0.length : Int))), (11, (iq l18i11))])) ?_
  refine aw_sr ?_
  refine al_in rfl rfl rfl rfl ?_
  refine al_nt ?_
  refine aw_seq ?_
  refine aw_cond rfl (fun hb21 => ?_) (fun hb21 => ?_)
  ·replace h := bif_t hb21 h
   refine aw_skip ?_
   refine aq_then ?_
   refine aw_seq ?_
   refine aw_block ?_
   refine aw_sr ?_
   obtain ⟨u22, hu23, h⟩ := opt_some h
   refine al_idxD 0 hu23 rfl rfl rfl Tryd.underlying198 sz71 rfl (fun p24 => ?_)
   refine al_loadP1 0 rfl rfl Tryd.underlying71 sz71 rfl rfl rfl (fun s25 => ?_)
   refine al_as rfl rfl ?_
   refine al_nt ?_
   refine aw_sr ?_
   refine al_mv rfl rfl ?_
   refine al_mv rfl rfl ?_
   refine al_val (ov_lenD 0 rfl rfl Tryd.underlying71 rfl) ?_
   refine al_in rfl rfl rfl rfl ?_
   refine al_as rfl rfl ?_
   refine al_nt ?_
   refine aw_sr ?_
   refine al_mv rfl rfl ?_
   refine al_in rfl rfl rfl rfl ?_
   refine al_nt ?_
   refine aw_cond rfl (fun hb26 => ?_) (fun hb26 => ?_)
   ·replace h := bif_t hb26 h
    refine aw_region ?_
    cases h
   ·replace h := bif_f hb26 h
    refine aw_skip ?_
    refine aq_block ?_
    refine aq_then ?_
    refine aw_region ?_
    refine al_in rfl rfl rfl rfl ?_
    refine al_mv rfl rfl ?_
    refine al_nil ?_
    exact aq_again k19 ((wq (l18i3 + (u22.length : Int))), (wq (l18i11 + (1 : Int)))) (Nat.lt_succ_self _) h (fun w a hm hs => norm hm hs [] [2] [(0, v0_0), (3, (iq (wq (l18i3 + (u22.length : Int))))), (9, v0_0), (10, (iq (a0.length : Int))), (11, (iq (wq (l18i11 + (1 : Int)))))] (by decide) ⟨rfl, rfl, rfl, rfl, rfl, trivial⟩)
  ·replace h := bif_f hb21 h
   refine aw_exit ?_
   refine aq_then_exit ?_
   refine aq_then_exit ?_
   refine aq_block_exit ?_
   exact aq_join l18i3 h (fun w a hm hs => norm hm hs [] [0] [(0, v0_0), (3, (iq l18i3))] (by decide) ⟨rfl, rfl, trivial⟩)
def f_slices_IndexFunc___int_int__F87_L5 (a0 : (List Int)) (kk2 : (Unit → Option Int)) (fu : Nat) : Nat → Int → Option Int
  | 0, _ => none
  | k4 + 1, l3i8 => (bif (decide (l3i8 < (a0.length : Int))) then (opt (at? a0 l3i8) fun (u7 : Int) => (opt (f_huff_Lengths_1 fu u7) fun (r11 : Bool) => (bif r11 then (some l3i8) else (f_slices_IndexFunc___int_int__F87_L5 a0 kk2 fu k4 (IntKind.i64.wrap (l3i8 + (1 : Int))))))) else (kk2 ()))
def f_slices_IndexFunc___int_int__F87 (fu : Nat) (a0 : (List Int)) : Option Int := (lt (fun (_ : Unit) => (some (-1 : Int))) fun (kk2 : Unit → Option Int) => (f_slices_IndexFunc___int_int__F87_L5 a0 kk2 fu fu (0 : Int)))
set_option maxHeartbeats 2000000 in
set_option maxRecDepth 100000 in
theorem f_slices_IndexFunc___int_int__F87_ok (fu : Nat) (v0_0 : Value) (a0 : (List Int)) {r : Int} (h : f_slices_IndexFunc___int_int__F87 fu a0 = some r) : FnOk Tryd.prog 142 [v0_0, (Value.func (.func 87) #[] #[])] [(fDat (tyList (tyInt .i64)) [v0_0] a0)] [] (fun (i : Unit) => { val := (int .i64 r) }) := by
 unfold f_slices_IndexFunc___int_int__F87 at h
 refine fn_enter Tryd.func142 rfl Tryd.ntmps142 rfl (fun w0 Z0 => ?_)
 refine aw_sr ?_
 refine al_as rfl rfl ?_
 refine al_nt ?_
 obtain ⟨kk2, hkk2, h⟩ := lt_some h
 refine aw_seq_join (ι := Unit) (fun i => (memOf w0 Z0 [] [] [(fDat (tyList tq) [v0_0] a0)])) (fun i => (tab [])) (fun i => kk2 () = some r) ?_ ?_
 ·rintro _ h
  have h : kk2 () = some r := h
  rw [hkk2] at h
  dsimp only at h
  clear hkk2
  refine aw_show (m := (memOf w0 Z0 [] [] [(fDat (tyList tq) [v0_0] a0)])) (S := (tab [])) ?_
  refine aw_sr ?_
  refine al_as rfl rfl ?_
  refine al_nt ?_
  refine aw_ret ?_
  obtain rfl := Option.some.inj h
  exact fn_ret () [] [] rfl rfl rfl rfl (res1 rfl rfl) rfl rfl rfl (by decide)
 ·clear hkk2
  refine aw_sr ?_
  refine al_mv rfl rfl ?_
  refine al_val (ov_lenD 0 rfl rfl Tryd.underlying71 rfl) ?_
  refine al_mv rfl rfl ?_
  refine al_nt ?_
  refine aw_block ?_
  refine aw_state (aw_loop (ι := Int) (fun i => (memOf w0 Z0 [] [] [(fDat (tyList tq) [v0_0] a0)])) (fun i => (tab [(0, v0_0), (1, (fq 87)), (7, (iq (a0.length : Int))), (8, (iq i))])) (fun q i => f_slices_IndexFunc___int_int__F87_L5 a0 kk2 fu q i = some r) ?_ fu (0 : Int) h) (fun w a hm hs => norm hm hs [] [0] [(0, v0_0), (1, (fq 87)), (7, (iq (a0.length : Int))), (8, (iq (0 : Int)))] (by decide) ⟨rfl, rfl, rfl, rfl, trivial⟩)
  clear h
  rintro k4 l3i8 h
  have h : f_slices_IndexFunc___int_int__F87_L5 a0 kk2 fu k4 l3i8 = some r := h
  obtain _ | k4 := k4
  · rw [f_slices_IndexFunc___int_int__F87_L5] at h; cases h
  rw [f_slices_IndexFunc___int_int__F87_L5] at h
  refine aw_show (m := (memOf w0 Z0 [] [] [(fDat (tyList tq) [v0_0] a0)])) (S := (tab [(0, v0_0), (1, (fq 87)), (7, (iq (a0.length : Int))), (8, (iq l3i8))])) ?_
  refine aw_sr ?_
  refine al_in rfl rfl rfl rfl ?_
  refine al_nt ?_
  refine aw_seq ?_
  refine aw_cond rfl (fun hb6 => ?_) (fun hb6 => ?_)
  ·replace h := bif_t hb6 h
   refine aw_skip ?_
   refine aq_then ?_
   refine aw_seq ?_
   refine aw_block ?_
   refine aw_sr ?_
   refine al_mv rfl rfl ?_
   refine al_as rfl rfl ?_
   refine al_nt ?_
   refine aw_sr ?_
   refine al_mv rfl rfl ?_
   refine al_mv rfl rfl ?_
   refine al_mv rfl rfl ?_
   obtain ⟨u7, hu8, h⟩ := opt_some h
   refine al_idxD 0 hu8 rfl rfl rfl Tryd.underlying71 sz3 rfl (fun p9 => ?_)
   refine al_val (ov_loadP (ds := [(iq u7)]) 0 rfl (fun h => h) rfl Tryd.underlying3 sz3 rfl rfl rfl) ?_
   obtain ⟨r11, hc10, h⟩ := opt_some h
   refine al_callF (vs := [(iq u7)]) (caps := []) (f_huff_Lengths_1_ok fu u7 hc10) rfl [] [] [] pre_nil rfl (by simp) (by decide) (.inl rfl) rfl rfl Tryd.func87 rfl rfl rfl (fun _ => ?_)
   refine al_nt ?_
   refine aw_cond rfl (fun hb12 => ?_) (fun hb12 => ?_)
   ·replace h := bif_t hb12 h
    refine aw_sr ?_
    refine al_mv rfl rfl ?_
    refine al_as rfl rfl ?_
    refine al_nt ?_
    refine aw_ret ?_
    refine aq_block_ret ?_
    refine aq_then_ret ?_
    refine aq_then_ret ?_
    refine aq_block_ret ?_
    refine aq_then_ret ?_
    obtain rfl := Option.some.inj h
    exact fn_ret () [] [] rfl rfl rfl rfl (res1 rfl rfl) rfl rfl rfl (by decide)
   ·replace h := bif_f hb12 h
    refine aw_skip ?_
    refine aq_block ?_
    refine aq_then ?_
    refine aw_region ?_
    refine al_in rfl rfl rfl rfl ?_
    refine al_mv rfl rfl ?_
    refine al_nil ?_
    exact aq_again k4 (wq (l3i8 + (1 : Int))) (Nat.lt_succ_self _) h (fun w a hm hs => norm hm hs [] [1] [(0, v0_0), (1, (fq 87)), (7, (iq (a0.length : Int))), (8, (iq (wq (l3i8 + (1 : Int)))))] (by decide) ⟨rfl, rfl, rfl, rfl, trivial⟩)
  ·replace h := bif_f hb6 h
   refine aw_exit ?_
   refine aq_then_exit ?_
   refine aq_then_exit ?_
   refine aq_block_exit ?_
   exact aq_join () h (fun w a hm hs => norm hm hs [] [0] [] (by decide) trivial)
def f_slices_ContainsFunc___int_int__F87 (fu : Nat) (a0 : (List Int)) : Option Bool := (opt (f_slices_IndexFunc___int_int__F87 fu a0) fun (r2 : Int) => (some (decide (r2 ≥ (0 : Int)))))
set_option maxRecDepth 100000 in
theorem f_slices_ContainsFunc___int_int__F87_ok (fu : Nat) (v0_0 : Value) (a0 : (List Int)) {r : Bool} (h : f_slices_ContainsFunc___int_int__F87 fu a0 = some r) : FnOk Tryd.prog 86 [v0_0, (Value.func (.func 87) #[] #[])] [(fDat (tyList (tyInt .i64)) [v0_0] a0)] [] (fun (i : Unit) => { val := (bool r) }) := by
 unfold f_slices_ContainsFunc___int_int__F87 at h
 refine fn_enter Tryd.func86 rfl Tryd.ntmps86 rfl (fun w0 Z0 => ?_)
 refine aw_sr ?_
 refine al_as rfl rfl ?_
 refine al_nt ?_
 refine aw_sr ?_
 refine al_mv rfl rfl ?_
 refine al_mv rfl rfl ?_
 obtain ⟨r2, hc1, h⟩ := opt_some h
 refine al_call (vs := [v0_0, (fq 87)]) (f_slices_IndexFunc___int_int__F87_ok fu v0_0 a0 hc1) [] [] [] (pre_fz 0 rfl pre_nil) rfl (by simp) (by decide) (.inl rfl) rfl Tryd.func142 rfl rfl rfl (fun _ => ?_)
 refine al_in rfl rfl rfl rfl ?_
 refine al_as rfl rfl ?_
 refine al_nt ?_
 refine aw_ret ?_
 obtain rfl := Option.some.inj h
 exact fn_ret () [] [] rfl rfl rfl rfl (res1 rfl rfl) rfl rfl rfl (by decide)
def f___huff_heap_huff_tree___push_L7 (fu : Nat) : Nat → (List S_huff_tree) → Int → Option D_huff_heap_huff_tree_
  | 0, _, _ => none
  | k6 + 1, l5x0_0, l5i4 => (bif (decide (l5i4 > (0 : Int))) then (opt (at? l5x0_0 (IntKind.i64.wrap (((IntKind.i64.wrap (l5i4 - (1 : Int)))).tdiv (2 : Int)))) fun (u9 : S_huff_tree) => (opt (at? l5x0_0 l5i4) fun (u15 : S_huff_tree) => (opt (f_huff_Lengths_2 fu u9 u15) fun (r22 : Int) => (bif (decide (r22 ≤ (0 : Int))) then (some (D_huff_heap_huff_tree_.mk l5x0_0)) else (opt (at? l5x0_0 l5i4) fun (u24 : S_huff_tree) => (opt (at? l5x0_0 (IntKind.i64.wrap (((IntKind.i64.wrap (l5i4 - (1 : Int)))).tdiv (2 : Int)))) fun (u30 : S_huff_tree) => (opt (at? l5x0_0 (IntKind.i64.wrap (((IntKind.i64.wrap (l5i4 - (1 : Int)))).tdiv (2 : Int)))) fun (u36 : S_huff_tree) => (opt (at? (l5x0_0.set ((IntKind.i64.wrap (((IntKind.i64.wrap (l5i4 - (1 : Int)))).tdiv (2 : Int)))).toNat u24) l5i4) fun (u40 : S_huff_tree) => (f___huff_heap_huff_tree___push_L7 fu k6 ((l5x0_0.set ((IntKind.i64.wrap (((IntKind.i64.wrap (l5i4 - (1 : Int)))).tdiv (2 : Int)))).toNat u24).set (l5i4).toNat u30) (IntKind.i64.wrap (((IntKind.i64.wrap (l5i4 - (1 : Int)))).tdiv (2 : Int)))))))))))) else (some (D_huff_heap_huff_tree_.mk l5x0_0)))
def f___huff_heap_huff_tree___push (fu : Nat) (a0 : D_huff_heap_huff_tree_) (a1 : S_huff_tree) : Option D_huff_heap_huff_tree_ := (req (((a0.items.length + ([a1]).length) * 40 : Nat) ≤ 140737488355328 ∧ a0.items.length + ([a1]).length ≤ 9223372036854775807) (f___huff_heap_huff_tree___push_L7 fu fu (a0.items ++ ([a1])) (IntKind.i64.wrap (((a0.items ++ ([a1])).length : Int) - (1 : Int)))))
set_option maxHeartbeats 2000000 in
set_option maxRecDepth 100000 in
theorem f___huff_heap_huff_tree___push_ok (fu : Nat) (bx0 : Nat) (v0_0 : Value) (a0 : D_huff_heap_huff_tree_) (v1_2 : Value) (a1 : S_huff_tree) {r : D_huff_heap_huff_tree_} (h : f___huff_heap_huff_tree___push fu a0 a1 = some r) : FnOk Tryd.prog 90 [(ptr bx0 0), (ag [(int .i64 a1.weight), (int .i64 a1.least), v1_2])] [(fDat (tyList (tyInt .i64)) [v1_2] a1.symbols)] [(oBox bx0 143 [v0_0, (Value.func (.func 88) #[] #[])]), (oRow v0_0 138 tyS_huff_tree a0.items)] (fun (i : Value) => { val := (Value.tuple #[]), own := [(oBox bx0 143 [i, (Value.func (.func 88) #[] #[])]), (oRow i 138 tyS_huff_tree r.items)] }) := by
 unfold f___huff_heap_huff_tree___push at h
 refine fn_enter Tryd.func90 rfl Tryd.ntmps90 rfl (fun w0 Z0 => ?_)
 refine aw_sr ?_
 refine al_box (vs := [(iq a1.weight), (iq a1.least), v1_2]) rfl (cv_rfl rfl) rfl (fun g1 => ?_)
 refine al_nt ?_
 refine aw_seq ?_
 refine aw_region_open [⟨0, 6, Unit, fun _ => { val := (pq bx0) }⟩, ⟨1, 7, Unit, fun _ => { val := (pq bx0) }⟩, ⟨2, 8, Unit, fun _ => { val := (pq bx0) }⟩, ⟨3, 9, Unit, fun _ => { val := (pq bx0) }⟩, ⟨4, 10, Unit, fun _ => { val := v0_0 }⟩, ⟨5, 11, Unit, fun _ => { val := (ag [(iq a1.weight), (iq a1.least), v1_2]) }⟩, ⟨6, 12, Value, fun (i : Value) => { val := i, own := [(oRow i 138 tyS_huff_tree [a1])] }⟩] (tab [(0, (pq bx0)), (3, (pq g1))]) mixed (fun a hs => hs.tab _ (allT_mem ⟨rfl, rfl, trivial⟩)) ?_
 refine ta_show (m := (memOf w0 Z0 [(oBox bx0 143 [v0_0, (fq 88)]), (oRow v0_0 138 tyS_huff_tree a0.items)] [(oBox g1 138 [(iq a1.weight), (iq a1.least), v1_2]), (oBox bx0 143 [v0_0, (fq 88)]), (oRow v0_0 138 tyS_huff_tree a0.items)] [(fDat (tyList tq) [v1_2] a1.symbols)])) (S := (tab [(0, (pq bx0)), (3, (pq g1))])) ?_
 refine ta_step 7 _ [0, 1, 2, 3, 4, 5, 6] [6, 7, 8, 9, 10, 11, 12] [1, 2, 3, 4, 5, 6] [8, 9] [⟨1, 7, Unit, fun _ => { val := (pq bx0) }⟩, ⟨2, 8, Unit, fun _ => { val := (pq bx0) }⟩, ⟨3, 9, Unit, fun _ => { val := (pq bx0) }⟩, ⟨4, 10, Unit, fun _ => { val := v0_0 }⟩, ⟨5, 11, Unit, fun _ => { val := (ag [(iq a1.weight), (iq a1.least), v1_2]) }⟩, ⟨6, 12, Value, fun (i : Value) => { val := i, own := [(oRow i 138 tyS_huff_tree [a1])] }⟩] [⟨0, 6, Unit, fun _ => { val := (pq bx0) }⟩] rfl rfl rfl (by kernel_rfl) rfl rfl rfl ⟨⟨_, rfl, [], rfl, by
 intro X_ Y_ F_ K_ hK_
 refine al_show (m := Mem.plus (memOf w0 Z0 [(oBox bx0 143 [v0_0, (fq 88)]), (oRow v0_0 138 tyS_huff_tree a0.items)] [(oBox g1 138 [(iq a1.weight), (iq a1.least), v1_2]), (oBox bx0 143 [v0_0, (fq 88)]), (oRow v0_0 138 tyS_huff_tree a0.items)] [(fDat (tyList tq) [v1_2] a1.symbols)]) X_ Y_) (S := over (tab [(0, (pq bx0)), (3, (pq g1))]) F_) ?_
 refine al_mv rfl rfl ?_
 refine al_nil ?_
 exact fr_fin hK_ ()⟩, ⟨_, rfl, [], rfl, by
 intro X_ Y_ F_ K_ hK_
 refine al_show (m := Mem.plus (memOf w0 Z0 [(oBox bx0 143 [v0_0, (fq 88)]), (oRow v0_0 138 tyS_huff_tree a0.items)] [(oBox g1 138 [(iq a1.weight), (iq a1.least), v1_2]), (oBox bx0 143 [v0_0, (fq 88)]), (oRow v0_0 138 tyS_huff_tree a0.items)] [(fDat (tyList tq) [v1_2] a1.symbols)]) X_ Y_) (S := over (tab [(0, (pq bx0)), (3, (pq g1))]) F_) ?_
 refine al_mv rfl rfl ?_
 refine al_nil ?_
 exact fr_fin hK_ ()⟩, ⟨_, rfl, [1], rfl, by
 intro _
 intro X_ Y_ F_ K_ hK_
 refine al_show (m := Mem.plus (memOf w0 Z0 [(oBox bx0 143 [v0_0, (fq 88)]), (oRow v0_0 138 tyS_huff_tree a0.items)] [(oBox g1 138 [(iq a1.weight), (iq a1.least), v1_2]), (oBox bx0 143 [v0_0, (fq 88)]), (oRow v0_0 138 tyS_huff_tree a0.items)] [(fDat (tyList tq) [v1_2] a1.symbols)]) X_ Y_) (S := over (put (tab [(0, (pq bx0)), (3, (pq g1))]) 7 (pq bx0)) F_) ?_
 refine al_val (ov_nilCheck rfl rfl) ?_
 refine al_nil ?_
 exact fr_fin hK_ ()⟩, ⟨_, rfl, [2], rfl, by
 intro _
 intro X_ Y_ F_ K_ hK_
 refine al_show (m := Mem.plus (memOf w0 Z0 [(oBox bx0 143 [v0_0, (fq 88)]), (oRow v0_0 138 tyS_huff_tree a0.items)] [(oBox g1 138 [(iq a1.weight), (iq a1.least), v1_2]), (oBox bx0 143 [v0_0, (fq 88)]), (oRow v0_0 138 tyS_huff_tree a0.items)] [(fDat (tyList tq) [v1_2] a1.symbols)]) X_ Y_) (S := over (put (tab [(0, (pq bx0)), (3, (pq g1))]) 8 (pq bx0)) F_) ?_
 refine al_val (ov_fieldA (p := 0) rfl Tryd.underlying143 rfl sz141 rfl rfl rfl) ?_
 refine al_nil ?_
 exact fr_fin hK_ ()⟩, ⟨_, rfl, [3], rfl, by
 intro _
 intro X_ Y_ F_ K_ hK_
 refine al_show (m := Mem.plus (memOf w0 Z0 [(oBox bx0 143 [v0_0, (fq 88)]), (oRow v0_0 138 tyS_huff_tree a0.items)] [(oBox g1 138 [(iq a1.weight), (iq a1.least), v1_2]), (oBox bx0 143 [v0_0, (fq 88)]), (oRow v0_0 138 tyS_huff_tree a0.items)] [(fDat (tyList tq) [v1_2] a1.symbols)]) X_ Y_) (S := over (put (tab [(0, (pq bx0)), (3, (pq g1))]) 9 (pq bx0)) F_) ?_
 refine al_val (ov_load (i := 1) (v := v0_0) rfl rfl Tryd.underlying141 sz141 rfl rfl rfl rfl) ?_
 refine al_nil ?_
 exact fr_fin hK_ ()⟩, ⟨_, rfl, [], rfl, by
 intro X_ Y_ F_ K_ hK_
 refine al_show (m := Mem.plus (memOf w0 Z0 [(oBox bx0 143 [v0_0, (fq 88)]), (oRow v0_0 138 tyS_huff_tree a0.items)] [(oBox g1 138 [(iq a1.weight), (iq a1.least), v1_2]), (oBox bx0 143 [v0_0, (fq 88)]), (oRow v0_0 138 tyS_huff_tree a0.items)] [(fDat (tyList tq) [v1_2] a1.symbols)]) X_ Y_) (S := over (tab [(0, (pq bx0)), (3, (pq g1))]) F_) ?_
 refine al_val (ov_load (i := 0) (v := (ag [(iq a1.weight), (iq a1.least), v1_2])) rfl rfl Tryd.underlying138 sz138 rfl rfl rfl rfl) ?_
 refine al_nil ?_
 exact fr_fin hK_ ()⟩, ⟨_, rfl, [5], rfl, by
 intro _
 intro X_ Y_ F_ K_ hK_
 refine al_show (m := Mem.plus (memOf w0 Z0 [(oBox bx0 143 [v0_0, (fq 88)]), (oRow v0_0 138 tyS_huff_tree a0.items)] [(oBox g1 138 [(iq a1.weight), (iq a1.least), v1_2]), (oBox bx0 143 [v0_0, (fq 88)]), (oRow v0_0 138 tyS_huff_tree a0.items)] [(fDat (tyList tq) [v1_2] a1.symbols)]) X_ Y_) (S := over (put (tab [(0, (pq bx0)), (3, (pq g1))]) 11 (ag [(iq a1.weight), (iq a1.least), v1_2])) F_) ?_
 refine al_buildSlice (τ := tyS_huff_tree) (e := 138) (k := 1) (sz := 0) (by_ := 0) (z := undef) (cs := [(iq a1.weight), (iq a1.least), v1_2]) (xs := [a1]) rfl (by decide) (fun w a hm hs => ⟨([(iq a1.weight), (iq a1.least), v1_2]).toArray, rfl, by simp only [List.map_toArray, List.map_cons, List.map_nil, hs.ev (x := .tmp 11) rfl]; exact run_bs [(ag [(iq a1.weight), (iq a1.least), v1_2])] [(iq a1.weight), (iq a1.least), v1_2] Tryd.underlying141 to138 rfl rfl (bs_cons (l := [(iq a1.weight), (iq a1.least), v1_2]) (cs := []) (cv_rfl rfl) rfl bs_nil) hm⟩) (fun hm => ⟨_, _, rfl, (fun hm => mknS_huff_tree rfl (fz_at (i := 0) hm rfl)) hm, rfl⟩) rfl (fun v2 => ?_)
 refine al_nil ?_
 exact fr_fin hK_ v2⟩, trivial⟩ ?_
 intro _
 intro _
 intro _
 intro _
 intro _
 intro v2
 intro X_ Y_ F_ K_ hK_
 refine al_show (m := Mem.plus (memOf w0 Z0 [(oBox bx0 143 [v0_0, (fq 88)]), (oRow v0_0 138 tyS_huff_tree a0.items)] [(oRow v2 138 tyS_huff_tree [a1]), (oBox g1 138 [(iq a1.weight), (iq a1.least), v1_2]), (oBox bx0 143 [v0_0, (fq 88)]), (oRow v0_0 138 tyS_huff_tree a0.items)] [(fDat (tyList tq) [v1_2] a1.symbols)]) X_ Y_) (S := over (put (put (put (put (put (put (tab [(0, (pq bx0)), (3, (pq g1))]) 7 (pq bx0)) 8 (pq bx0)) 9 (pq bx0)) 10 v0_0) 11 (ag [(iq a1.weight), (iq a1.least), v1_2])) 12 v2) F_) ?_
 obtain ⟨hc3, h⟩ := req_some h
 refine al_append 3 hc3.1 hc3.2 rfl (src_own (i := 3) 0 rfl) rfl rfl Tryd.underlying141 to138 rfl rfl rfl (fun v4 => ?_)
 refine al_nil ?_
 refine aq_show (m := Mem.plus (memOf w0 Z0 [(oBox bx0 143 [v0_0, (fq 88)]), (oRow v0_0 138 tyS_huff_tree a0.items)] [(oRow v2 138 tyS_huff_tree [a1]), (oBox g1 138 [(iq a1.weight), (iq a1.least), v1_2]), (oBox bx0 143 [v0_0, (fq 88)]), (oRow v4 138 tyS_huff_tree (a0.items ++ ([a1])))] [(fDat (tyList tq) [v1_2] a1.symbols)]) X_ Y_) ?_
 refine aq_next hK_ [0, 1, 2, 3] [0] [(0, (pq bx0)), (13, v4)] [6] [⟨8, 14, Unit, fun _ => { val := (pq bx0) }⟩, ⟨9, 15, Unit, fun _ => { val := (pq bx0) }⟩] rfl rfl (by decide) rfl ⟨rfl, rfl, trivial⟩ ⟨rfl, trivial⟩ ?_
 clear hK_ K_ F_ X_ Y_
 refine ta_show (m := (memOf w0 Z0 [(oBox bx0 143 [v0_0, (fq 88)]), (oRow v0_0 138 tyS_huff_tree a0.items)] [(oRow v2 138 tyS_huff_tree [a1]), (oBox g1 138 [(iq a1.weight), (iq a1.least), v1_2]), (oBox bx0 143 [v0_0, (fq 88)]), (oRow v4 138 tyS_huff_tree (a0.items ++ ([a1])))] [(fDat (tyList tq) [v1_2] a1.symbols)])) (S := (tab [(0, (pq bx0)), (13, v4)])) ?_
 refine ta_step 10 _ [0, 8, 9] [6, 14, 15] [0, 8, 9] [] [⟨0, 6, Unit, fun _ => { val := (pq bx0) }⟩, ⟨8, 14, Unit, fun _ => { val := (pq bx0) }⟩, ⟨9, 15, Unit, fun _ => { val := (pq bx0) }⟩] [] rfl rfl rfl (by kernel_rfl) rfl rfl rfl ⟨⟨_, rfl, [], rfl, by
 intro X_ Y_ F_ K_ hK_
 refine al_show (m := Mem.plus (memOf w0 Z0 [(oBox bx0 143 [v0_0, (fq 88)]), (oRow v0_0 138 tyS_huff_tree a0.items)] [(oRow v2 138 tyS_huff_tree [a1]), (oBox g1 138 [(iq a1.weight), (iq a1.least), v1_2]), (oBox bx0 143 [v0_0, (fq 88)]), (oRow v4 138 tyS_huff_tree (a0.items ++ ([a1])))] [(fDat (tyList tq) [v1_2] a1.symbols)]) X_ Y_) (S := over (tab [(0, (pq bx0)), (13, v4)]) F_) ?_
 refine al_mv rfl rfl ?_
 refine al_nil ?_
 exact fr_fin hK_ ()⟩, ⟨_, rfl, [0], rfl, by
 intro _
 intro X_ Y_ F_ K_ hK_
 refine al_show (m := Mem.plus (memOf w0 Z0 [(oBox bx0 143 [v0_0, (fq 88)]), (oRow v0_0 138 tyS_huff_tree a0.items)] [(oRow v2 138 tyS_huff_tree [a1]), (oBox g1 138 [(iq a1.weight), (iq a1.least), v1_2]), (oBox bx0 143 [v0_0, (fq 88)]), (oRow v4 138 tyS_huff_tree (a0.items ++ ([a1])))] [(fDat (tyList tq) [v1_2] a1.symbols)]) X_ Y_) (S := over (put (tab [(0, (pq bx0)), (13, v4)]) 6 (pq bx0)) F_) ?_
 refine al_val (ov_nilCheck rfl rfl) ?_
 refine al_nil ?_
 exact fr_fin hK_ ()⟩, ⟨_, rfl, [0, 1], rfl, by
 intro _
 intro _
 intro X_ Y_ F_ K_ hK_
 refine al_show (m := Mem.plus (memOf w0 Z0 [(oBox bx0 143 [v0_0, (fq 88)]), (oRow v0_0 138 tyS_huff_tree a0.items)] [(oRow v2 138 tyS_huff_tree [a1]), (oBox g1 138 [(iq a1.weight), (iq a1.least), v1_2]), (oBox bx0 143 [v0_0, (fq 88)]), (oRow v4 138 tyS_huff_tree (a0.items ++ ([a1])))] [(fDat (tyList tq) [v1_2] a1.symbols)]) X_ Y_) (S := over (put (put (tab [(0, (pq bx0)), (13, v4)]) 6 (pq bx0)) 14 (pq bx0)) F_) ?_
 refine al_val (ov_fieldA (p := 0) rfl Tryd.underlying143 rfl sz141 rfl rfl rfl) ?_
 refine al_nil ?_
 exact fr_fin hK_ ()⟩, trivial⟩ ?_
 intro _
 intro _
 intro _
 intro X_ Y_ F_ K_ hK_
 refine al_show (m := Mem.plus (memOf w0 Z0 [(oBox bx0 143 [v0_0, (fq 88)]), (oRow v0_0 138 tyS_huff_tree a0.items)] [(oRow v2 138 tyS_huff_tree [a1]), (oBox g1 138 [(iq a1.weight), (iq a1.least), v1_2]), (oBox bx0 143 [v0_0, (fq 88)]), (oRow v4 138 tyS_huff_tree (a0.items ++ ([a1])))] [(fDat (tyList tq) [v1_2] a1.symbols)]) X_ Y_) (S := over (put (put (put (tab [(0, (pq bx0)), (13, v4)]) 6 (pq bx0)) 14 (pq bx0)) 15 (pq bx0)) F_) ?_
 refine al_store (i := 2) (vs := [v4]) (cs' := [v4, (fq 88)]) rfl rfl rfl sz141 (cv_own 3 rfl) rfl (co_own 3 rfl co_nil) (Nat.le_of_ble_eq_true rfl) rfl rfl ?_
 refine al_nil ?_
 refine aq_show (m := Mem.plus (memOf w0 Z0 [(oBox bx0 143 [v0_0, (fq 88)]), (oRow v0_0 138 tyS_huff_tree a0.items)] [(oRow v2 138 tyS_huff_tree [a1]), (oBox g1 138 [(iq a1.weight), (iq a1.least), v1_2]), (oBox bx0 143 [v4, (fq 88)]), (oRow v4 138 tyS_huff_tree (a0.items ++ ([a1])))] [(fDat (tyList tq) [v1_2] a1.symbols)]) X_ Y_) ?_
 refine aq_next hK_ [0, 1, 2, 3] [0] [(0, (pq bx0))] [] [] rfl rfl (by decide) rfl ⟨rfl, trivial⟩ trivial ?_
 clear hK_ K_ F_ X_ Y_
 refine ta_show (m := (memOf w0 Z0 [(oBox bx0 143 [v0_0, (fq 88)]), (oRow v0_0 138 tyS_huff_tree a0.items)] [(oRow v2 138 tyS_huff_tree [a1]), (oBox g1 138 [(iq a1.weight), (iq a1.least), v1_2]), (oBox bx0 143 [v4, (fq 88)]), (oRow v4 138 tyS_huff_tree (a0.items ++ ([a1])))] [(fDat (tyList tq) [v1_2] a1.symbols)])) (S := (tab [(0, (pq bx0))])) ?_
 refine ta_end [] [] rfl rfl (by kernel_rfl) rfl trivial ?_
 refine aq_show (m := (memOf w0 Z0 [(oBox bx0 143 [v0_0, (fq 88)]), (oRow v0_0 138 tyS_huff_tree a0.items)] [(oRow v2 138 tyS_huff_tree [a1]), (oBox g1 138 [(iq a1.weight), (iq a1.least), v1_2]), (oBox bx0 143 [v4, (fq 88)]), (oRow v4 138 tyS_huff_tree (a0.items ++ ([a1])))] [(fDat (tyList tq) [v1_2] a1.symbols)])) (S := (tab [(0, (pq bx0))])) ?_
 refine aq_tr ?_
 refine al_mv rfl rfl ?_
 refine al_val (ov_nilCheck rfl rfl) ?_
 refine al_val (ov_fieldA (p := 0) rfl Tryd.underlying143 rfl sz141 rfl rfl rfl) ?_
 refine al_val (ov_load (i := 2) (v := v4) rfl rfl Tryd.underlying141 sz141 rfl rfl rfl rfl) ?_
 refine al_val (ov_lenR 3 rfl rfl Tryd.underlying141 rfl) ?_
 refine al_in rfl rfl rfl rfl ?_
 refine al_as rfl rfl ?_
 refine al_nt ?_
 refine aw_block ?_
 refine aw_state (aw_loop (ι := (List S_huff_tree) × Int) (fun i => (memOf w0 Z0 [(oBox bx0 143 [v0_0, (fq 88)]), (oRow v0_0 138 tyS_huff_tree a0.items)] [(oRow v4 138 tyS_huff_tree i.1), (oBox bx0 143 [v4, (fq 88)])] [(fDat (tyList tq) [v1_2] a1.symbols)])) (fun i => (tab [(0, (pq bx0)), (4, (iq i.2))])) (fun q i => f___huff_heap_huff_tree___push_L7 fu q i.1 i.2 = some r) ?_ fu ((a0.items ++ ([a1])), (wq (((a0.items ++ ([a1])).length : Int) - (1 : Int)))) h) (fun w a hm hs => norm hm hs [3, 2] [0] [(0, (pq bx0)), (4, (iq (wq (((a0.items ++ ([a1])).length : Int) - (1 : Int)))))] (by decide) ⟨rfl, rfl, trivial⟩)
 clear h
 rintro k6 ⟨l5x0_0, l5i4⟩ h
 have h : f___huff_heap_huff_tree___push_L7 fu k6 l5x0_0 l5i4 = some r := h
 obtain _ | k6 := k6
 · rw [f___huff_heap_huff_tree___push_L7] at h; cases h
 rw [f___huff_heap_huff_tree___push_L7] at h
 refine aw_show (m := (memOf w0 Z0 [(oBox bx0 143 [v0_0, (fq 88)]), (oRow v0_0 138 tyS_huff_tree a0.items)] [(oRow v4 138 tyS_huff_tree l5x0_0), (oBox bx0 143 [v4, (fq 88)])] [(fDat (tyList tq) [v1_2] a1.symbols)])) (S := (tab [(0, (pq bx0)), (4, (iq l5i4))])) ?_
 refine aw_seq ?_
 refine aw_sr ?_
 refine al_mv rfl rfl ?_
 refine al_in rfl rfl rfl rfl ?_
 refine al_nt ?_
 refine aw_cond rfl (fun hb8 => ?_) (fun hb8 => ?_)
 ·replace h := bif_t hb8 h
  refine aw_skip ?_
  refine aq_then ?_
  refine aw_block ?_
  refine aw_sr ?_
  refine al_mv rfl rfl ?_
  refine al_in rfl rfl rfl rfl ?_
  refine al_val (ov_quo (by decide) rfl rfl rfl) ?_
  refine al_as rfl rfl ?_
  refine al_nt ?_
  refine aw_seq ?_
  refine aw_seq ?_
  obtain ⟨u9, hu10, h⟩ := opt_some h
  obtain ⟨u15, hu16, h⟩ := opt_some h
  refine aw_region_open [⟨0, 27, Unit, fun _ => { val := (pq bx0) }⟩, ⟨1, 28, Unit, fun _ => { val := (pq bx0) }⟩, ⟨2, 29, Unit, fun _ => { val := (ptr bx0 1) }⟩, ⟨3, 30, Unit, fun _ => { val := (fq 88) }⟩, ⟨4, 31, Unit, fun _ => { val := (pq bx0) }⟩, ⟨5, 32, Unit, fun _ => { val := (pq bx0) }⟩, ⟨6, 33, Unit, fun _ => { val := (pq bx0) }⟩, ⟨7, 34, Unit, fun _ => { val := v4 }⟩, ⟨8, 35, Unit, fun _ => { val := (iq (wq (((wq (l5i4 - (1 : Int)))).tdiv (2 : Int)))) }⟩, ⟨9, 36, {p : Value // EltOf v4 p (((wq (((wq (l5i4 - (1 : Int)))).tdiv (2 : Int)))).toNat * Ty.size tyS_huff_tree)}, fun p => { val := p.1 }⟩, ⟨10, 37, Value, fun (i : Value) => { val := (ag [(iq u9.weight), (iq u9.least), i]), fz := [(fDat (tyList tq) [i] u9.symbols), (fDat tyS_huff_tree [(iq u9.weight), (iq u9.least), i] u9)] }⟩, ⟨11, 38, Unit, fun _ => { val := (pq bx0) }⟩, ⟨12, 39, Unit, fun _ => { val := (pq bx0) }⟩, ⟨13, 40, Unit, fun _ => { val := (pq bx0) }⟩, ⟨14, 41, Unit, fun _ => { val := v4 }⟩, ⟨15, 42, Unit, fun _ => { val := (iq l5i4) }⟩, ⟨16, 43, {p : Value // EltOf v4 p ((l5i4).toNat * Ty.size tyS_huff_tree)}, fun p => { val := p.1 }⟩, ⟨17, 44, Value, fun (i : Value) => { val := (ag [(iq u15.weight), (iq u15.least), i]), fz := [(fDat (tyList tq) [i] u15.symbols), (fDat tyS_huff_tree [(iq u15.weight), (iq u15.least), i] u15)] }⟩] (tab [(0, (pq bx0)), (4, (iq l5i4)), (5, (iq (wq (((wq (l5i4 - (1 : Int)))).tdiv (2 : Int)))))]) mixed (fun a hs => hs.tab _ (allT_mem ⟨rfl, rfl, rfl, trivial⟩)) ?_
  refine ta_show (m := (memOf w0 Z0 [(oBox bx0 143 [v0_0, (fq 88)]), (oRow v0_0 138 tyS_huff_tree a0.items)] [(oRow v4 138 tyS_huff_tree l5x0_0), (oBox bx0 143 [v4, (fq 88)])] [(fDat (tyList tq) [v1_2] a1.symbols)])) (S := (tab [(0, (pq bx0)), (4, (iq l5i4)), (5, (iq (wq (((wq (l5i4 - (1 : Int)))).tdiv (2 : Int)))))])) ?_
  refine ta_step 18 _ [0, 1, 2, 3, 4, 5, 6, 7, 8, 9, 10, 11, 12, 13, 14, 15, 16, 17] [27, 28, 29, 30, 31, 32, 33, 34, 35, 36, 37, 38, 39, 40, 41, 42, 43, 44] [0, 1, 2, 3, 4, 5, 6, 7, 8, 9, 10, 11, 12, 13, 14, 15, 16, 17] [19] [⟨0, 27, Unit, fun _ => { val := (pq bx0) }⟩, ⟨1, 28, Unit, fun _ => { val := (pq bx0) }⟩, ⟨2, 29, Unit, fun _ => { val := (ptr bx0 1) }⟩, ⟨3, 30, Unit, fun _ => { val := (fq 88) }⟩, ⟨4, 31, Unit, fun _ => { val := (pq bx0) }⟩, ⟨5, 32, Unit, fun _ => { val := (pq bx0) }⟩, ⟨6, 33, Unit, fun _ => { val := (pq bx0) }⟩, ⟨7, 34, Unit, fun _ => { val := v4 }⟩, ⟨8, 35, Unit, fun _ => { val := (iq (wq (((wq (l5i4 - (1 : Int)))).tdiv (2 : Int)))) }⟩, ⟨9, 36, {p : Value // EltOf v4 p (((wq (((wq (l5i4 - (1 : Int)))).tdiv (2 : Int)))).toNat * Ty.size tyS_huff_tree)}, fun p => { val := p.1 }⟩, ⟨10, 37, Value, fun (i : Value) => { val := (ag [(iq u9.weight), (iq u9.least), i]), fz := [(fDat (tyList tq) [i] u9.symbols), (fDat tyS_huff_tree [(iq u9.weight), (iq u9.least), i] u9)] }⟩, ⟨11, 38, Unit, fun _ => { val := (pq bx0) }⟩, ⟨12, 39, Unit, fun _ => { val := (pq bx0) }⟩, ⟨13, 40, Unit, fun _ => { val := (pq bx0) }⟩, ⟨14, 41, Unit, fun _ => { val := v4 }⟩, ⟨15, 42, Unit, fun _ => { val := (iq l5i4) }⟩, ⟨16, 43, {p : Value // EltOf v4 p ((l5i4).toNat * Ty.size tyS_huff_tree)}, fun p => { val := p.1 }⟩, ⟨17, 44, Value, fun (i : Value) => { val := (ag [(iq u15.weight), (iq u15.least), i]), fz := [(fDat (tyList tq) [i] u15.symbols), (fDat tyS_huff_tree [(iq u15.weight), (iq u15.least), i] u15)] }⟩] [] rfl rfl rfl (by kernel_rfl) rfl rfl rfl ⟨⟨_, rfl, [], rfl, by
 intro X_ Y_ F_ K_ hK_
 refine al_show (m := Mem.plus (memOf w0 Z0 [(oBox bx0 143 [v0_0, (fq 88)]), (oRow v0_0 138 tyS_huff_tree a0.items)] [(oRow v4 138 tyS_huff_tree l5x0_0), (oBox bx0 143 [v4, (fq 88)])] [(fDat (tyList tq) [v1_2] a1.symbols)]) X_ Y_) (S := over (tab [(0, (pq bx0)), (4, (iq l5i4)), (5, (iq (wq (((wq (l5i4 - (1 : Int)))).tdiv (2 : Int)))))]) F_) ?_
 refine al_mv rfl rfl ?_
 refine al_nil ?_
 exact fr_fin hK_ ()⟩, ⟨_, rfl, [0], rfl, by
 intro _
 intro X_ Y_ F_ K_ hK_
 refine al_show (m := Mem.plus (memOf w0 Z0 [(oBox bx0 143 [v0_0, (fq 88)]), (oRow v0_0 138 tyS_huff_tree a0.items)] [(oRow v4 138 tyS_huff_tree l5x0_0), (oBox bx0 143 [v4, (fq 88)])] [(fDat (tyList tq) [v1_2] a1.symbols)]) X_ Y_) (S := over (put (tab [(0, (pq bx0)), (4, (iq l5i4)), (5, (iq (wq (((wq (l5i4 - (1 : Int)))).tdiv (2 : Int)))))]) 27 (pq bx0)) F_) ?_
 refine al_val (ov_nilCheck rfl rfl) ?_
 refine al_nil ?_
 exact fr_fin hK_ ()⟩, ⟨_, rfl, [1], rfl, by
 intro _
 intro X_ Y_ F_ K_ hK_
 refine al_show (m := Mem.plus (memOf w0 Z0 [(oBox bx0 143 [v0_0, (fq 88)]), (oRow v0_0 138 tyS_huff_tree a0.items)] [(oRow v4 138 tyS_huff_tree l5x0_0), (oBox bx0 143 [v4, (fq 88)])] [(fDat (tyList tq) [v1_2] a1.symbols)]) X_ Y_) (S := over (put (tab [(0, (pq bx0)), (4, (iq l5i4)), (5, (iq (wq (((wq (l5i4 - (1 : Int)))).tdiv (2 : Int)))))]) 28 (pq bx0)) F_) ?_
 refine al_val (ov_fieldA (p := 1) rfl Tryd.underlying143 rfl sz140 rfl rfl rfl) ?_
 refine al_nil ?_
 exact fr_fin hK_ ()⟩, ⟨_, rfl, [2], rfl, by
 intro _
 intro X_ Y_ F_ K_ hK_
 refine al_show (m := Mem.plus (memOf w0 Z0 [(oBox bx0 143 [v0_0, (fq 88)]), (oRow v0_0 138 tyS_huff_tree a0.items)] [(oRow v4 138 tyS_huff_tree l5x0_0), (oBox bx0 143 [v4, (fq 88)])] [(fDat (tyList tq) [v1_2] a1.symbols)]) X_ Y_) (S := over (put (tab [(0, (pq bx0)), (4, (iq l5i4)), (5, (iq (wq (((wq (l5i4 - (1 : Int)))).tdiv (2 : Int)))))]) 29 (ptr bx0 1)) F_) ?_
 refine al_val (ov_load (i := 1) (v := (fq 88)) rfl rfl Tryd.underlying140 sz140 rfl rfl rfl rfl) ?_
 refine al_nil ?_
 exact fr_fin hK_ ()⟩, ⟨_, rfl, [], rfl, by
 intro X_ Y_ F_ K_ hK_
 refine al_show (m := Mem.plus (memOf w0 Z0 [(oBox bx0 143 [v0_0, (fq 88)]), (oRow v0_0 138 tyS_huff_tree a0.items)] [(oRow v4 138 tyS_huff_tree l5x0_0), (oBox bx0 143 [v4, (fq 88)])] [(fDat (tyList tq) [v1_2] a1.symbols)]) X_ Y_) (S := over (tab [(0, (pq bx0)), (4, (iq l5i4)), (5, (iq (wq (((wq (l5i4 - (1 : Int)))).tdiv (2 : Int)))))]) F_) ?_
 refine al_mv rfl rfl ?_
 refine al_nil ?_
 exact fr_fin hK_ ()⟩, ⟨_, rfl, [4], rfl, by
 intro _
 intro X_ Y_ F_ K_ hK_
 refine al_show (m := Mem.plus (memOf w0 Z0 [(oBox bx0 143 [v0_0, (fq 88)]), (oRow v0_0 138 tyS_huff_tree a0.items)] [(oRow v4 138 tyS_huff_tree l5x0_0), (oBox bx0 143 [v4, (fq 88)])] [(fDat (tyList tq) [v1_2] a1.symbols)]) X_ Y_) (S := over (put (tab [(0, (pq bx0)), (4, (iq l5i4)), (5, (iq (wq (((wq (l5i4 - (1 : Int)))).tdiv (2 : Int)))))]) 31 (pq bx0)) F_) ?_
 refine al_val (ov_nilCheck rfl rfl) ?_
 refine al_nil ?_
 exact fr_fin hK_ ()⟩, ⟨_, rfl, [5], rfl, by
 intro _
 intro X_ Y_ F_ K_ hK_
 refine al_show (m := Mem.plus (memOf w0 Z0 [(oBox bx0 143 [v0_0, (fq 88)]), (oRow v0_0 138 tyS_huff_tree a0.items)] [(oRow v4 138 tyS_huff_tree l5x0_0), (oBox bx0 143 [v4, (fq 88)])] [(fDat (tyList tq) [v1_2] a1.symbols)]) X_ Y_) (S := over (put (tab [(0, (pq bx0)), (4, (iq l5i4)), (5, (iq (wq (((wq (l5i4 - (1 : Int)))).tdiv (2 : Int)))))]) 32 (pq bx0)) F_) ?_
 refine al_val (ov_fieldA (p := 0) rfl Tryd.underlying143 rfl sz141 rfl rfl rfl) ?_
 refine al_nil ?_
 exact fr_fin hK_ ()⟩, ⟨_, rfl, [6], rfl, by
 intro _
 intro X_ Y_ F_ K_ hK_
 refine al_show (m := Mem.plus (memOf w0 Z0 [(oBox bx0 143 [v0_0, (fq 88)]), (oRow v0_0 138 tyS_huff_tree a0.items)] [(oRow v4 138 tyS_huff_tree l5x0_0), (oBox bx0 143 [v4, (fq 88)])] [(fDat (tyList tq) [v1_2] a1.symbols)]) X_ Y_) (S := over (put (tab [(0, (pq bx0)), (4, (iq l5i4)), (5, (iq (wq (((wq (l5i4 - (1 : Int)))).tdiv (2 : Int)))))]) 33 (pq bx0)) F_) ?_
 refine al_val (ov_load (i := 1) (v := v4) rfl rfl Tryd.underlying141 sz141 rfl rfl rfl rfl) ?_
 refine al_nil ?_
 exact fr_fin hK_ ()⟩, ⟨_, rfl, [], rfl, by
 intro X_ Y_ F_ K_ hK_
 refine al_show (m := Mem.plus (memOf w0 Z0 [(oBox bx0 143 [v0_0, (fq 88)]), (oRow v0_0 138 tyS_huff_tree a0.items)] [(oRow v4 138 tyS_huff_tree l5x0_0), (oBox bx0 143 [v4, (fq 88)])] [(fDat (tyList tq) [v1_2] a1.symbols)]) X_ Y_) (S := over (tab [(0, (pq bx0)), (4, (iq l5i4)), (5, (iq (wq (((wq (l5i4 - (1 : Int)))).tdiv (2 : Int)))))]) F_) ?_
 refine al_mv rfl rfl ?_
 refine al_nil ?_
 exact fr_fin hK_ ()⟩, ⟨_, rfl, [7, 8], rfl, by
 intro _
 intro _
 intro X_ Y_ F_ K_ hK_
 refine al_show (m := Mem.plus (memOf w0 Z0 [(oBox bx0 143 [v0_0, (fq 88)]), (oRow v0_0 138 tyS_huff_tree a0.items)] [(oRow v4 138 tyS_huff_tree l5x0_0), (oBox bx0 143 [v4, (fq 88)])] [(fDat (tyList tq) [v1_2] a1.symbols)]) X_ Y_) (S := over (put (put (tab [(0, (pq bx0)), (4, (iq l5i4)), (5, (iq (wq (((wq (l5i4 - (1 : Int)))).tdiv (2 : Int)))))]) 34 v4) 35 (iq (wq (((wq (l5i4 - (1 : Int)))).tdiv (2 : Int))))) F_) ?_
 refine al_idxR 0 (at_some hu10).1 (at_some hu10).2.1 rfl rfl rfl Tryd.underlying141 sz138 rfl (fun p11 hp12 => ?_)
 refine al_nil ?_
 exact fr_fin hK_ ⟨p11, hp12⟩⟩, ⟨_, rfl, [9], rfl, by
 rintro ⟨p11, hp12⟩
 intro X_ Y_ F_ K_ hK_
 refine al_show (m := Mem.plus (memOf w0 Z0 [(oBox bx0 143 [v0_0, (fq 88)]), (oRow v0_0 138 tyS_huff_tree a0.items)] [(oRow v4 138 tyS_huff_tree l5x0_0), (oBox bx0 143 [v4, (fq 88)])] [(fDat (tyList tq) [v1_2] a1.symbols)]) X_ Y_) (S := over (put (tab [(0, (pq bx0)), (4, (iq l5i4)), (5, (iq (wq (((wq (l5i4 - (1 : Int)))).tdiv (2 : Int)))))]) 36 p11) F_) ?_
 refine al_loadRA 0 rfl hp12 (at_some hu10).2.2 rfl Tryd.underlying138 sz138 rfl rfl (fun cs14 => ?_)
 refine al_use (ι := Value) 0 rfl (fun j => cs14 = [(iq u9.weight), (iq u9.least), j]) (fun j => [(fDat (tyList tq) [j] u9.symbols)]) encnS_huff_tree (fun s13 hq => ?_)
 subst hq
 refine al_nil ?_
 exact fr_fin hK_ s13⟩, ⟨_, rfl, [], rfl, by
 intro X_ Y_ F_ K_ hK_
 refine al_show (m := Mem.plus (memOf w0 Z0 [(oBox bx0 143 [v0_0, (fq 88)]), (oRow v0_0 138 tyS_huff_tree a0.items)] [(oRow v4 138 tyS_huff_tree l5x0_0), (oBox bx0 143 [v4, (fq 88)])] [(fDat (tyList tq) [v1_2] a1.symbols)]) X_ Y_) (S := over (tab [(0, (pq bx0)), (4, (iq l5i4)), (5, (iq (wq (((wq (l5i4 - (1 : Int)))).tdiv (2 : Int)))))]) F_) ?_
 refine al_mv rfl rfl ?_
 refine al_nil ?_
 exact fr_fin hK_ ()⟩, ⟨_, rfl, [11], rfl, by
 intro _
 intro X_ Y_ F_ K_ hK_
 refine al_show (m := Mem.plus (memOf w0 Z0 [(oBox bx0 143 [v0_0, (fq 88)]), (oRow v0_0 138 tyS_huff_tree a0.items)] [(oRow v4 138 tyS_huff_tree l5x0_0), (oBox bx0 143 [v4, (fq 88)])] [(fDat (tyList tq) [v1_2] a1.symbols)]) X_ Y_) (S := over (put (tab [(0, (pq bx0)), (4, (iq l5i4)), (5, (iq (wq (((wq (l5i4 - (1 : Int)))).tdiv (2 : Int)))))]) 38 (pq bx0)) F_) ?_
 refine al_val (ov_nilCheck rfl rfl) ?_
 refine al_nil ?_
 exact fr_fin hK_ ()⟩, ⟨_, rfl, [12], rfl, by
 intro _
 intro X_ Y_ F_ K_ hK_
 refine al_show (m := Mem.plus (memOf w0 Z0 [(oBox bx0 143 [v0_0, (fq 88)]), (oRow v0_0 138 tyS_huff_tree a0.items)] [(oRow v4 138 tyS_huff_tree l5x0_0), (oBox bx0 143 [v4, (fq 88)])] [(fDat (tyList tq) [v1_2] a1.symbols)]) X_ Y_) (S := over (put (tab [(0, (pq bx0)), (4, (iq l5i4)), (5, (iq (wq (((wq (l5i4 - (1 : Int)))).tdiv (2 : Int)))))]) 39 (pq bx0)) F_) ?_
 refine al_val (ov_fieldA (p := 0) rfl Tryd.underlying143 rfl sz141 rfl rfl rfl) ?_
 refine al_nil ?_
 exact fr_fin hK_ ()⟩, ⟨_, rfl, [13], rfl, by
 intro _
 intro X_ Y_ F_ K_ hK_
 refine al_show (m := Mem.plus (memOf w0 Z0 [(oBox bx0 143 [v0_0, (fq 88)]), (oRow v0_0 138 tyS_huff_tree a0.items)] [(oRow v4 138 tyS_huff_tree l5x0_0), (oBox bx0 143 [v4, (fq 88)])] [(fDat (tyList tq) [v1_2] a1.symbols)]) X_ Y_) (S := over (put (tab [(0, (pq bx0)), (4, (iq l5i4)), (5, (iq (wq (((wq (l5i4 - (1 : Int)))).tdiv (2 : Int)))))]) 40 (pq bx0)) F_) ?_
 refine al_val (ov_load (i := 1) (v := v4) rfl rfl Tryd.underlying141 sz141 rfl rfl rfl rfl) ?_
 refine al_nil ?_
 exact fr_fin hK_ ()⟩, ⟨_, rfl, [], rfl, by
 intro X_ Y_ F_ K_ hK_
 refine al_show (m := Mem.plus (memOf w0 Z0 [(oBox bx0 143 [v0_0, (fq 88)]), (oRow v0_0 138 tyS_huff_tree a0.items)] [(oRow v4 138 tyS_huff_tree l5x0_0), (oBox bx0 143 [v4, (fq 88)])] [(fDat (tyList tq) [v1_2] a1.symbols)]) X_ Y_) (S := over (tab [(0, (pq bx0)), (4, (iq l5i4)), (5, (iq (wq (((wq (l5i4 - (1 : Int)))).tdiv (2 : Int)))))]) F_) ?_
 refine al_mv rfl rfl ?_
 refine al_nil ?_
 exact fr_fin hK_ ()⟩, ⟨_, rfl, [14, 15], rfl, by
 intro _
 intro _
 intro X_ Y_ F_ K_ hK_
 refine al_show (m := Mem.plus (memOf w0 Z0 [(oBox bx0 143 [v0_0, (fq 88)]), (oRow v0_0 138 tyS_huff_tree a0.items)] [(oRow v4 138 tyS_huff_tree l5x0_0), (oBox bx0 143 [v4, (fq 88)])] [(fDat (tyList tq) [v1_2] a1.symbols)]) X_ Y_) (S := over (put (put (tab [(0, (pq bx0)), (4, (iq l5i4)), (5, (iq (wq (((wq (l5i4 - (1 : Int)))).tdiv (2 : Int)))))]) 41 v4) 42 (iq l5i4)) F_) ?_
 refine al_idxR 0 (at_some hu16).1 (at_some hu16).2.1 rfl rfl rfl Tryd.underlying141 sz138 rfl (fun p17 hp18 => ?_)
 refine al_nil ?_
 exact fr_fin hK_ ⟨p17, hp18⟩⟩, ⟨_, rfl, [16], rfl, by
 rintro ⟨p17, hp18⟩
 intro X_ Y_ F_ K_ hK_
 refine al_show (m := Mem.plus (memOf w0 Z0 [(oBox bx0 143 [v0_0, (fq 88)]), (oRow v0_0 138 tyS_huff_tree a0.items)] [(oRow v4 138 tyS_huff_tree l5x0_0), (oBox bx0 143 [v4, (fq 88)])] [(fDat (tyList tq) [v1_2] a1.symbols)]) X_ Y_) (S := over (put (tab [(0, (pq bx0)), (4, (iq l5i4)), (5, (iq (wq (((wq (l5i4 - (1 : Int)))).tdiv (2 : Int)))))]) 43 p17) F_) ?_
 refine al_loadRA 0 rfl hp18 (at_some hu16).2.2 rfl Tryd.underlying138 sz138 rfl rfl (fun cs20 => ?_)
 refine al_use (ι := Value) 0 rfl (fun j => cs20 = [(iq u15.weight), (iq u15.least), j]) (fun j => [(fDat (tyList tq) [j] u15.symbols)]) encnS_huff_tree (fun s19 hq => ?_)
 subst hq
 refine al_nil ?_
 exact fr_fin hK_ s19⟩, trivial⟩ ?_
  intro _
  intro _
  intro _
  intro _
  intro _
  intro _
  intro _
  intro _
  intro _
  rintro ⟨p11, hp12⟩
  intro s13
  intro _
  intro _
  intro _
  intro _
  intro _
  rintro ⟨p17, hp18⟩
  intro s19
  intro X_ Y_ F_ K_ hK_
  refine al_show (m := Mem.plus (memOf w0 Z0 [(oBox bx0 143 [v0_0, (fq 88)]), (oRow v0_0 138 tyS_huff_tree a0.items)] [(oRow v4 138 tyS_huff_tree l5x0_0), (oBox bx0 143 [v4, (fq 88)])] [(fDat (tyList tq) [s19] u15.symbols), (fDat tyS_huff_tree [(iq u15.weight), (iq u15.least), s19] u15), (fDat (tyList tq) [s13] u9.symbols), (fDat tyS_huff_tree [(iq u9.weight), (iq u9.least), s13] u9), (fDat (tyList tq) [v1_2] a1.symbols)]) X_ Y_) (S := over (put (put (put (put (put (put (put (put (put (put (put (put (put (put (put (put (put (put (tab [(0, (pq bx0)), (4, (iq l5i4)), (5, (iq (wq (((wq (l5i4 - (1 : Int)))).tdiv (2 : Int)))))]) 27 (pq bx0)) 28 (pq bx0)) 29 (ptr bx0 1)) 30 (fq 88)) 31 (pq bx0)) 32 (pq bx0)) 33 (pq bx0)) 34 v4) 35 (iq (wq (((wq (l5i4 - (1 : Int)))).tdiv (2 : Int))))) 36 p11) 37 (ag [(iq u9.weight), (iq u9.least), s13])) 38 (pq bx0)) 39 (pq bx0)) 40 (pq bx0)) 41 v4) 42 (iq l5i4)) 43 p17) 44 (ag [(iq u15.weight), (iq u15.least), s19])) F_) ?_
  obtain ⟨r22, hc21, h⟩ := opt_some h
  refine al_callFX (vs := [(ag [(iq u9.weight), (iq u9.least), s13]), (ag [(iq u15.weight), (iq u15.least), s19])]) (caps := []) (f_huff_Lengths_2_ok fu s13 u9 s19 u15 hc21) rfl [] [] [0, 1] (pre_fz 2 rfl (pre_fz 0 rfl pre_nil)) rfl (by simp) (by decide) rfl (.inl rfl) rfl rfl Tryd.func88 rfl rfl rfl (fun _ => ?_)
  refine al_nil ?_
  refine aq_show (m := Mem.plus (memOf w0 Z0 [(oBox bx0 143 [v0_0, (fq 88)]), (oRow v0_0 138 tyS_huff_tree a0.items)] [(oRow v4 138 tyS_huff_tree l5x0_0), (oBox bx0 143 [v4, (fq 88)])] [(fDat (tyList tq) [s19] u15.symbols), (fDat tyS_huff_tree [(iq u15.weight), (iq u15.least), s19] u15), (fDat (tyList tq) [s13] u9.symbols), (fDat tyS_huff_tree [(iq u9.weight), (iq u9.least), s13] u9), (fDat (tyList tq) [v1_2] a1.symbols)]) X_ Y_) ?_
  refine aq_next hK_ [0, 1] [1, 3, 4] [(0, (pq bx0)), (4, (iq l5i4)), (5, (iq (wq (((wq (l5i4 - (1 : Int)))).tdiv (2 : Int))))), (45, (iq r22))] [] [⟨19, 46, Unit, fun _ => { val := (bool (decide (r22 ≤ (0 : Int)))) }⟩] rfl rfl (by decide) rfl ⟨rfl, rfl, rfl, rfl, trivial⟩ trivial ?_
  clear hK_ K_ F_ X_ Y_
  refine ta_show (m := (memOf w0 Z0 [(oBox bx0 143 [v0_0, (fq 88)]), (oRow v0_0 138 tyS_huff_tree a0.items)] [(oRow v4 138 tyS_huff_tree l5x0_0), (oBox bx0 143 [v4, (fq 88)])] [(fDat tyS_huff_tree [(iq u15.weight), (iq u15.least), s19] u15), (fDat tyS_huff_tree [(iq u9.weight), (iq u9.least), s13] u9), (fDat (tyList tq) [v1_2] a1.symbols)])) (S := (tab [(0, (pq bx0)), (4, (iq l5i4)), (5, (iq (wq (((wq (l5i4 - (1 : Int)))).tdiv (2 : Int))))), (45, (iq r22))])) ?_
  refine ta_end [19] [46] rfl rfl (by kernel_rfl) rfl ⟨⟨_, rfl, [], rfl, by
 intro X_ Y_ F_ K_ hK_
 refine al_show (m := Mem.plus (memOf w0 Z0 [(oBox bx0 143 [v0_0, (fq 88)]), (oRow v0_0 138 tyS_huff_tree a0.items)] [(oRow v4 138 tyS_huff_tree l5x0_0), (oBox bx0 143 [v4, (fq 88)])] [(fDat tyS_huff_tree [(iq u15.weight), (iq u15.least), s19] u15), (fDat tyS_huff_tree [(iq u9.weight), (iq u9.least), s13] u9), (fDat (tyList tq) [v1_2] a1.symbols)]) X_ Y_) (S := over (tab [(0, (pq bx0)), (4, (iq l5i4)), (5, (iq (wq (((wq (l5i4 - (1 : Int)))).tdiv (2 : Int))))), (45, (iq r22))]) F_) ?_
 refine al_in rfl rfl rfl rfl ?_
 refine al_nil ?_
 exact fr_fin hK_ ()⟩, trivial⟩ ?_
  intro _
  refine aq_show (m := (memOf w0 Z0 [(oBox bx0 143 [v0_0, (fq 88)]), (oRow v0_0 138 tyS_huff_tree a0.items)] [(oRow v4 138 tyS_huff_tree l5x0_0), (oBox bx0 143 [v4, (fq 88)])] [(fDat tyS_huff_tree [(iq u15.weight), (iq u15.least), s19] u15), (fDat tyS_huff_tree [(iq u9.weight), (iq u9.least), s13] u9), (fDat (tyList tq) [v1_2] a1.symbols)])) (S := (put (tab [(0, (pq bx0)), (4, (iq l5i4)), (5, (iq (wq (((wq (l5i4 - (1 : Int)))).tdiv (2 : Int))))), (45, (iq r22))]) 46 (bool (decide (r22 ≤ (0 : Int)))))) ?_
  refine aq_then ?_
  refine aw_cond rfl (fun hb23 => ?_) (fun hb23 => ?_)
  ·replace h := bif_t hb23 h
   refine aw_ret ?_
   refine aq_then_ret ?_
   refine aq_block_ret ?_
   refine aq_then_ret ?_
   refine aq_block_ret ?_
   obtain rfl := Option.some.inj h
   exact fn_ret v4 [1, 0] [] rfl rfl rfl rfl (resC rfl (resN) rfl) rfl rfl rfl (by decide)
  ·replace h := bif_f hb23 h
   refine aw_skip ?_
   refine aq_then ?_
   refine aw_seq ?_
   obtain ⟨u24, hu25, h⟩ := opt_some h
   obtain ⟨u30, hu31, h⟩ := opt_some h
   obtain ⟨u36, hu37, h⟩ := opt_some h
   refine aw_region_open [⟨0, 47, Unit, fun _ => { val := (pq bx0) }⟩, ⟨1, 48, Unit, fun _ => { val := (pq bx0) }⟩, ⟨2, 49, Unit, fun _ => { val := (pq bx0) }⟩, ⟨3, 50, Unit, fun _ => { val := v4 }⟩, ⟨4, 51, Unit, fun _ => { val := (iq (wq (((wq (l5i4 - (1 : Int)))).tdiv (2 : Int)))) }⟩, ⟨5, 52, Unit, fun _ => { val := (pq bx0) }⟩, ⟨6, 53, Unit, fun _ => { val := (pq bx0) }⟩, ⟨7, 54, Unit, fun _ => { val := (pq bx0) }⟩, ⟨8, 55, Unit, fun _ => { val := v4 }⟩, ⟨9, 56, Unit, fun _ => { val := (iq l5i4) }⟩, ⟨10, 57, Unit, fun _ => { val := (pq bx0) }⟩, ⟨11, 58, Unit, fun _ => { val := (pq bx0) }⟩, ⟨12, 59, Unit, fun _ => { val := (pq bx0) }⟩, ⟨13, 60, Unit, fun _ => { val := v4 }⟩, ⟨14, 61, Unit, fun _ => { val := (iq l5i4) }⟩, ⟨15, 62, {p : Value // EltOf v4 p ((l5i4).toNat * Ty.size tyS_huff_tree)}, fun p => { val := p.1 }⟩, ⟨16, 63, Value, fun (i : Value) => { val := (ag [(iq u24.weight), (iq u24.least), i]), fz := [(fDat (tyList tq) [i] u24.symbols), (fDat tyS_huff_tree [(iq u24.weight), (iq u24.least), i] u24)] }⟩, ⟨17, 64, Unit, fun _ => { val := (pq bx0) }⟩, ⟨18, 65, Unit, fun _ => { val := (pq bx0) }⟩, ⟨19, 66, Unit, fun _ => { val := (pq bx0) }⟩, ⟨20, 67, Unit, fun _ => { val := v4 }⟩, ⟨21, 68, Unit, fun _ => { val := (iq (wq (((wq (l5i4 - (1 : Int)))).tdiv (2 : Int)))) }⟩, ⟨22, 69, {p : Value // EltOf v4 p (((wq (((wq (l5i4 - (1 : Int)))).tdiv (2 : Int)))).toNat * Ty.size tyS_huff_tree)}, fun p => { val := p.1 }⟩, ⟨23, 70, Value, fun (i : Value) => { val := (ag [(iq u30.weight), (iq u30.least), i]), fz := [(fDat (tyList tq) [i] u30.symbols), (fDat tyS_huff_tree [(iq u30.weight), (iq u30.least), i] u30)] }⟩, ⟨24, 71, {p : Value // EltOf v4 p (((wq (((wq (l5i4 - (1 : Int)))).tdiv (2 : Int)))).toNat * Ty.size tyS_huff_tree)}, fun p => { val := p.1 }⟩] (tab [(0, (pq bx0)), (4, (iq l5i4)), (5, (iq (wq (((wq (l5i4 - (1 : Int)))).tdiv (2 : Int)))))]) mixed (fun a hs => hs.tab _ (allT_mem ⟨rfl, rfl, rfl, trivial⟩)) ?_
   refine ta_show (m := (memOf w0 Z0 [(oBox bx0 143 [v0_0, (fq 88)]), (oRow v0_0 138 tyS_huff_tree a0.items)] [(oRow v4 138 tyS_huff_tree l5x0_0), (oBox bx0 143 [v4, (fq 88)])] [(fDat tyS_huff_tree [(iq u15.weight), (iq u15.least), s19] u15), (fDat tyS_huff_tree [(iq u9.weight), (iq u9.least), s13] u9), (fDat (tyList tq) [v1_2] a1.symbols)])) (S := (tab [(0, (pq bx0)), (4, (iq l5i4)), (5, (iq (wq (((wq (l5i4 - (1 : Int)))).tdiv (2 : Int)))))])) ?_
   refine ta_step 25 _ [0, 1, 2, 3, 4, 5, 6, 7, 8, 9, 10, 11, 12, 13, 14, 15, 16, 17, 18, 19, 20, 21, 22, 23, 24] [47, 48, 49, 50, 51, 52, 53, 54, 55, 56, 57, 58, 59, 60, 61, 62, 63, 64, 65, 66, 67, 68, 69, 70, 71] [0, 1, 2, 3, 4, 5, 6, 7, 8, 10, 11, 12, 13, 14, 15, 16, 17, 18, 19, 20, 21, 22, 23, 24] [26] [⟨0, 47, Unit, fun _ => { val := (pq bx0) }⟩, ⟨1, 48, Unit, fun _ => { val := (pq bx0) }⟩, ⟨2, 49, Unit, fun _ => { val := (pq bx0) }⟩, ⟨3, 50, Unit, fun _ => { val := v4 }⟩, ⟨4, 51, Unit, fun _ => { val := (iq (wq (((wq (l5i4 - (1 : Int)))).tdiv (2 : Int)))) }⟩, ⟨5, 52, Unit, fun _ => { val := (pq bx0) }⟩, ⟨6, 53, Unit, fun _ => { val := (pq bx0) }⟩, ⟨7, 54, Unit, fun _ => { val := (pq bx0) }⟩, ⟨8, 55, Unit, fun _ => { val := v4 }⟩, ⟨10, 57, Unit, fun _ => { val := (pq bx0) }⟩, ⟨11, 58, Unit, fun _ => { val := (pq bx0) }⟩, ⟨12, 59, Unit, fun _ => { val := (pq bx0) }⟩, ⟨13, 60, Unit, fun _ => { val := v4 }⟩, ⟨14, 61, Unit, fun _ => { val := (iq l5i4) }⟩, ⟨15, 62, {p : Value // EltOf v4 p ((l5i4).toNat * Ty.size tyS_huff_tree)}, fun p => { val := p.1 }⟩, ⟨16, 63, Value, fun (i : Value) => { val := (ag [(iq u24.weight), (iq u24.least), i]), fz := [(fDat (tyList tq) [i] u24.symbols), (fDat tyS_huff_tree [(iq u24.weight), (iq u24.least), i] u24)] }⟩, ⟨17, 64, Unit, fun _ => { val := (pq bx0) }⟩, ⟨18, 65, Unit, fun _ => { val := (pq bx0) }⟩, ⟨19, 66, Unit, fun _ => { val := (pq bx0) }⟩, ⟨20, 67, Unit, fun _ => { val := v4 }⟩, ⟨21, 68, Unit, fun _ => { val := (iq (wq (((wq (l5i4 - (1 : Int)))).tdiv (2 : Int)))) }⟩, ⟨22, 69, {p : Value // EltOf v4 p (((wq (((wq (l5i4 - (1 : Int)))).tdiv (2 : Int)))).toNat * Ty.size tyS_huff_tree)}, fun p => { val := p.1 }⟩, ⟨23, 70, Value, fun (i : Value) => { val := (ag [(iq u30.weight), (iq u30.least), i]), fz := [(fDat (tyList tq) [i] u30.symbols), (fDat tyS_huff_tree [(iq u30.weight), (iq u30.least), i] u30)] }⟩, ⟨24, 71, {p : Value // EltOf v4 p (((wq (((wq (l5i4 - (1 : Int)))).tdiv (2 : Int)))).toNat * Ty.size tyS_huff_tree)}, fun p => { val := p.1 }⟩] [⟨9, 56, Unit, fun _ => { val := (iq l5i4) }⟩] rfl rfl rfl (by kernel_rfl) rfl rfl rfl ⟨⟨_, rfl, [], rfl, by
 intro X_ Y_ F_ K_ hK_
 refine al_show (m := Mem.plus (memOf w0 Z0 [(oBox bx0 143 [v0_0, (fq 88)]), (oRow v0_0 138 tyS_huff_tree a0.items)] [(oRow v4 138 tyS_huff_tree l5x0_0), (oBox bx0 143 [v4, (fq 88)])] [(fDat tyS_huff_tree [(iq u15.weight), (iq u15.least), s19] u15), (fDat tyS_huff_tree [(iq u9.weight), (iq u9.least), s13] u9), (fDat (tyList tq) [v1_2] a1.symbols)]) X_ Y_) (S := over (tab [(0, (pq bx0)), (4, (iq l5i4)), (5, (iq (wq (((wq (l5i4 - (1 : Int)))).tdiv (2 : Int)))))]) F_) ?_
 refine al_mv rfl rfl ?_
 refine al_nil ?_
 exact fr_fin hK_ ()⟩, ⟨_, rfl, [0], rfl, by
 intro _
 intro X_ Y_ F_ K_ hK_
 refine al_show (m := Mem.plus (memOf w0 Z0 [(oBox bx0 143 [v0_0, (fq 88)]), (oRow v0_0 138 tyS_huff_tree a0.items)] [(oRow v4 138 tyS_huff_tree l5x0_0), (oBox bx0 143 [v4, (fq 88)])] [(fDat tyS_huff_tree [(iq u15.weight), (iq u15.least), s19] u15), (fDat tyS_huff_tree [(iq u9.weight), (iq u9.least), s13] u9), (fDat (tyList tq) [v1_2] a1.symbols)]) X_ Y_) (S := over (put (tab [(0, (pq bx0)), (4, (iq l5i4)), (5, (iq (wq (((wq (l5i4 - (1 : Int)))).tdiv (2 : Int)))))]) 47 (pq bx0)) F_) ?_
 refine al_val (ov_nilCheck rfl rfl) ?_
 refine al_nil ?_
 exact fr_fin hK_ ()⟩, ⟨_, rfl, [1], rfl, by
 intro _
 intro X_ Y_ F_ K_ hK_
 refine al_show (m := Mem.plus (memOf w0 Z0 [(oBox bx0 143 [v0_0, (fq 88)]), (oRow v0_0 138 tyS_huff_tree a0.items)] [(oRow v4 138 tyS_huff_tree l5x0_0), (oBox bx0 143 [v4, (fq 88)])] [(fDat tyS_huff_tree [(iq u15.weight), (iq u15.least), s19] u15), (fDat tyS_huff_tree [(iq u9.weight), (iq u9.least), s13] u9), (fDat (tyList tq) [v1_2] a1.symbols)]) X_ Y_) (S := over (put (tab [(0, (pq bx0)), (4, (iq l5i4)), (5, (iq (wq (((wq (l5i4 - (1 : Int)))).tdiv (2 : Int)))))]) 48 (pq bx0)) F_) ?_
 refine al_val (ov_fieldA (p := 0) rfl Tryd.underlying143 rfl sz141 rfl rfl rfl) ?_
 refine al_nil ?_
 exact fr_fin hK_ ()⟩, ⟨_, rfl, [2], rfl, by
 intro _
 intro X_ Y_ F_ K_ hK_
 refine al_show (m := Mem.plus (memOf w0 Z0 [(oBox bx0 143 [v0_0, (fq 88)]), (oRow v0_0 138 tyS_huff_tree a0.items)] [(oRow v4 138 tyS_huff_tree l5x0_0), (oBox bx0 143 [v4, (fq 88)])] [(fDat tyS_huff_tree [(iq u15.weight), (iq u15.least), s19] u15), (fDat tyS_huff_tree [(iq u9.weight), (iq u9.least), s13] u9), (fDat (tyList tq) [v1_2] a1.symbols)]) X_ Y_) (S := over (put (tab [(0, (pq bx0)), (4, (iq l5i4)), (5, (iq (wq (((wq (l5i4 - (1 : Int)))).tdiv (2 : Int)))))]) 49 (pq bx0)) F_) ?_
 refine al_val (ov_load (i := 1) (v := v4) rfl rfl Tryd.underlying141 sz141 rfl rfl rfl rfl) ?_
 refine al_nil ?_
 exact fr_fin hK_ ()⟩, ⟨_, rfl, [], rfl, by
 intro X_ Y_ F_ K_ hK_
 refine al_show (m := Mem.plus (memOf w0 Z0 [(oBox bx0 143 [v0_0, (fq 88)]), (oRow v0_0 138 tyS_huff_tree a0.items)] [(oRow v4 138 tyS_huff_tree l5x0_0), (oBox bx0 143 [v4, (fq 88)])] [(fDat tyS_huff_tree [(iq u15.weight), (iq u15.least), s19] u15), (fDat tyS_huff_tree [(iq u9.weight), (iq u9.least), s13] u9), (fDat (tyList tq) [v1_2] a1.symbols)]) X_ Y_) (S := over (tab [(0, (pq bx0)), (4, (iq l5i4)), (5, (iq (wq (((wq (l5i4 - (1 : Int)))).tdiv (2 : Int)))))]) F_) ?_
 refine al_mv rfl rfl ?_
 refine al_nil ?_
 exact fr_fin hK_ ()⟩, ⟨_, rfl, [], rfl, by
 intro X_ Y_ F_ K_ hK_
 refine al_show (m := Mem.plus (memOf w0 Z0 [(oBox bx0 143 [v0_0, (fq 88)]), (oRow v0_0 138 tyS_huff_tree a0.items)] [(oRow v4 138 tyS_huff_tree l5x0_0), (oBox bx0 143 [v4, (fq 88)])] [(fDat tyS_huff_tree [(iq u15.weight), (iq u15.least), s19] u15), (fDat tyS_huff_tree [(iq u9.weight), (iq u9.least), s13] u9), (fDat (tyList tq) [v1_2] a1.symbols)]) X_ Y_) (S := over (tab [(0, (pq bx0)), (4, (iq l5i4)), (5, (iq (wq (((wq (l5i4 - (1 : Int)))).tdiv (2 : Int)))))]) F_) ?_
 refine al_mv rfl rfl ?_
 refine al_nil ?_
 exact fr_fin hK_ ()⟩, ⟨_, rfl, [5], rfl, by
 intro _
 intro X_ Y_ F_ K_ hK_
 refine al_show (m := Mem.plus (memOf w0 Z0 [(oBox bx0 143 [v0_0, (fq 88)]), (oRow v0_0 138 tyS_huff_tree a0.items)] [(oRow v4 138 tyS_huff_tree l5x0_0), (oBox bx0 143 [v4, (fq 88)])] [(fDat tyS_huff_tree [(iq u15.weight), (iq u15.least), s19] u15), (fDat tyS_huff_tree [(iq u9.weight), (iq u9.least), s13] u9), (fDat (tyList tq) [v1_2] a1.symbols)]) X_ Y_) (S := over (put (tab [(0, (pq bx0)), (4, (iq l5i4)), (5, (iq (wq (((wq (l5i4 - (1 : Int)))).tdiv (2 : Int)))))]) 52 (pq bx0)) F_) ?_
 refine al_val (ov_nilCheck rfl rfl) ?_
 refine al_nil ?_
 exact fr_fin hK_ ()⟩, ⟨_, rfl, [6], rfl, by
 intro _
 intro X_ Y_ F_ K_ hK_
 refine al_show (m := Mem.plus (memOf w0 Z0 [(oBox bx0 143 [v0_0, (fq 88)]), (oRow v0_0 138 tyS_huff_tree a0.items)] [(oRow v4 138 tyS_huff_tree l5x0_0), (oBox bx0 143 [v4, (fq 88)])] [(fDat tyS_huff_tree [(iq u15.weight), (iq u15.least), s19] u15), (fDat tyS_huff_tree [(iq u9.weight), (iq u9.least), s13] u9), (fDat (tyList tq) [v1_2] a1.symbols)]) X_ Y_) (S := over (put (tab [(0, (pq bx0)), (4, (iq l5i4)), (5, (iq (wq (((wq (l5i4 - (1 : Int)))).tdiv (2 : Int)))))]) 53 (pq bx0)) F_) ?_
 refine al_val (ov_fieldA (p := 0) rfl Tryd.underlying143 rfl sz141 rfl rfl rfl) ?_
 refine al_nil ?_
 exact fr_fin hK_ ()⟩, ⟨_, rfl, [7], rfl, by
 intro _
 intro X_ Y_ F_ K_ hK_
 refine al_show (m := Mem.plus (memOf w0 Z0 [(oBox bx0 143 [v0_0, (fq 88)]), (oRow v0_0 138 tyS_huff_tree a0.items)] [(oRow v4 138 tyS_huff_tree l5x0_0), (oBox bx0 143 [v4, (fq 88)])] [(fDat tyS_huff_tree [(iq u15.weight), (iq u15.least), s19] u15), (fDat tyS_huff_tree [(iq u9.weight), (iq u9.least), s13] u9), (fDat (tyList tq) [v1_2] a1.symbols)]) X_ Y_) (S := over (put (tab [(0, (pq bx0)), (4, (iq l5i4)), (5, (iq (wq (((wq (l5i4 - (1 : Int)))).tdiv (2 : Int)))))]) 54 (pq bx0)) F_) ?_
 refine al_val (ov_load (i := 1) (v := v4) rfl rfl Tryd.underlying141 sz141 rfl rfl rfl rfl) ?_
 refine al_nil ?_
 exact fr_fin hK_ ()⟩, ⟨_, rfl, [], rfl, by
 intro X_ Y_ F_ K_ hK_
 refine al_show (m := Mem.plus (memOf w0 Z0 [(oBox bx0 143 [v0_0, (fq 88)]), (oRow v0_0 138 tyS_huff_tree a0.items)] [(oRow v4 138 tyS_huff_tree l5x0_0), (oBox bx0 143 [v4, (fq 88)])] [(fDat tyS_huff_tree [(iq u15.weight), (iq u15.least), s19] u15), (fDat tyS_huff_tree [(iq u9.weight), (iq u9.least), s13] u9), (fDat (tyList tq) [v1_2] a1.symbols)]) X_ Y_) (S := over (tab [(0, (pq bx0)), (4, (iq l5i4)), (5, (iq (wq (((wq (l5i4 - (1 : Int)))).tdiv (2 : Int)))))]) F_) ?_
 refine al_mv rfl rfl ?_
 refine al_nil ?_
 exact fr_fin hK_ ()⟩, ⟨_, rfl, [], rfl, by
 intro X_ Y_ F_ K_ hK_
 refine al_show (m := Mem.plus (memOf w0 Z0 [(oBox bx0 143 [v0_0, (fq 88)]), (oRow v0_0 138 tyS_huff_tree a0.items)] [(oRow v4 138 tyS_huff_tree l5x0_0), (oBox bx0 143 [v4, (fq 88)])] [(fDat tyS_huff_tree [(iq u15.weight), (iq u15.least), s19] u15), (fDat tyS_huff_tree [(iq u9.weight), (iq u9.least), s13] u9), (fDat (tyList tq) [v1_2] a1.symbols)]) X_ Y_) (S := over (tab [(0, (pq bx0)), (4, (iq l5i4)), (5, (iq (wq (((wq (l5i4 - (1 : Int)))).tdiv (2 : Int)))))]) F_) ?_
 refine al_mv rfl rfl ?_
 refine al_nil ?_
 exact fr_fin hK_ ()⟩, ⟨_, rfl, [10], rfl, by
 intro _
 intro X_ Y_ F_ K_ hK_
 refine al_show (m := Mem.plus (memOf w0 Z0 [(oBox bx0 143 [v0_0, (fq 88)]), (oRow v0_0 138 tyS_huff_tree a0.items)] [(oRow v4 138 tyS_huff_tree l5x0_0), (oBox bx0 143 [v4, (fq 88)])] [(fDat tyS_huff_tree [(iq u15.weight), (iq u15.least), s19] u15), (fDat tyS_huff_tree [(iq u9.weight), (iq u9.least), s13] u9), (fDat (tyList tq) [v1_2] a1.symbols)]) X_ Y_) (S := over (put (tab [(0, (pq bx0)), (4, (iq l5i4)), (5, (iq (wq (((wq (l5i4 - (1 : Int)))).tdiv (2 : Int)))))]) 57 (pq bx0)) F_) ?_
 refine al_val (ov_nilCheck rfl rfl) ?_
 refine al_nil ?_
 exact fr_fin hK_ ()⟩, ⟨_, rfl, [11], rfl, by
 intro _
 intro X_ Y_ F_ K_ hK_
 refine al_show (m := Mem.plus (memOf w0 Z0 [(oBox bx0 143 [v0_0, (fq 88)]), (oRow v0_0 138 tyS_huff_tree a0.items)] [(oRow v4 138 tyS_huff_tree l5x0_0), (oBox bx0 143 [v4, (fq 88)])] [(fDat tyS_huff_tree [(iq u15.weight), (iq u15.least), s19] u15), (fDat tyS_huff_tree [(iq u9.weight), (iq u9.least), s13] u9), (fDat (tyList tq) [v1_2] a1.symbols)]) X_ Y_) (S := over (put (tab [(0, (pq bx0)), (4, (iq l5i4)), (5, (iq (wq (((wq (l5i4 - (1 : Int)))).tdiv (2 : Int)))))]) 58 (pq bx0)) F_) ?_
 refine al_val (ov_fieldA (p := 0) rfl Tryd.underlying143 rfl sz141 rfl rfl rfl) ?_
 refine al_nil ?_
 exact fr_fin hK_ ()⟩, ⟨_, rfl, [12], rfl, by
 intro _
 intro X_ Y_ F_ K_ hK_
 refine al_show (m := Mem.plus (memOf w0 Z0 [(oBox bx0 143 [v0_0, (fq 88)]), (oRow v0_0 138 tyS_huff_tree a0.items)] [(oRow v4 138 tyS_huff_tree l5x0_0), (oBox bx0 143 [v4, (fq 88)])] [(fDat tyS_huff_tree [(iq u15.weight), (iq u15.least), s19] u15), (fDat tyS_huff_tree [(iq u9.weight), (iq u9.least), s13] u9), (fDat (tyList tq) [v1_2] a1.symbols)]) X_ Y_) (S := over (put (tab [(0, (pq bx0)), (4, (iq l5i4)), (5, (iq (wq (((wq (l5i4 - (1 : Int)))).tdiv (2 : Int)))))]) 59 (pq bx0)) F_) ?_
 refine al_val (ov_load (i := 1) (v := v4) rfl rfl Tryd.underlying141 sz141 rfl rfl rfl rfl) ?_
 refine al_nil ?_
 exact fr_fin hK_ ()⟩, ⟨_, rfl, [], rfl, by
 intro X_ Y_ F_ K_ hK_
 refine al_show (m := Mem.plus (memOf w0 Z0 [(oBox bx0 143 [v0_0, (fq 88)]), (oRow v0_0 138 tyS_huff_tree a0.items)] [(oRow v4 138 tyS_huff_tree l5x0_0), (oBox bx0 143 [v4, (fq 88)])] [(fDat tyS_huff_tree [(iq u15.weight), (iq u15.least), s19] u15), (fDat tyS_huff_tree [(iq u9.weight), (iq u9.least), s13] u9), (fDat (tyList tq) [v1_2] a1.symbols)]) X_ Y_) (S := over (tab [(0, (pq bx0)), (4, (iq l5i4)), (5, (iq (wq (((wq (l5i4 - (1 : Int)))).tdiv (2 : Int)))))]) F_) ?_
 refine al_mv rfl rfl ?_
 refine al_nil ?_
 exact fr_fin hK_ ()⟩, ⟨_, rfl, [13, 14], rfl, by
 intro _
 intro _
 intro X_ Y_ F_ K_ hK_
 refine al_show (m := Mem.plus (memOf w0 Z0 [(oBox bx0 143 [v0_0, (fq 88)]), (oRow v0_0 138 tyS_huff_tree a0.items)] [(oRow v4 138 tyS_huff_tree l5x0_0), (oBox bx0 143 [v4, (fq 88)])] [(fDat tyS_huff_tree [(iq u15.weight), (iq u15.least), s19] u15), (fDat tyS_huff_tree [(iq u9.weight), (iq u9.least), s13] u9), (fDat (tyList tq) [v1_2] a1.symbols)]) X_ Y_) (S := over (put (put (tab [(0, (pq bx0)), (4, (iq l5i4)), (5, (iq (wq (((wq (l5i4 - (1 : Int)))).tdiv (2 : Int)))))]) 60 v4) 61 (iq l5i4)) F_) ?_
 refine al_idxR 0 (at_some hu25).1 (at_some hu25).2.1 rfl rfl rfl Tryd.underlying141 sz138 rfl (fun p26 hp27 => ?_)
 refine al_nil ?_
 exact fr_fin hK_ ⟨p26, hp27⟩⟩, ⟨_, rfl, [15], rfl, by
 rintro ⟨p26, hp27⟩
 intro X_ Y_ F_ K_ hK_
 refine al_show (m := Mem.plus (memOf w0 Z0 [(oBox bx0 143 [v0_0, (fq 88)]), (oRow v0_0 138 tyS_huff_tree a0.items)] [(oRow v4 138 tyS_huff_tree l5x0_0), (oBox bx0 143 [v4, (fq 88)])] [(fDat tyS_huff_tree [(iq u15.weight), (iq u15.least), s19] u15), (fDat tyS_huff_tree [(iq u9.weight), (iq u9.least), s13] u9), (fDat (tyList tq) [v1_2] a1.symbols)]) X_ Y_) (S := over (put (tab [(0, (pq bx0)), (4, (iq l5i4)), (5, (iq (wq (((wq (l5i4 - (1 : Int)))).tdiv (2 : Int)))))]) 62 p26) F_) ?_
 refine al_loadRA 0 rfl hp27 (at_some hu25).2.2 rfl Tryd.underlying138 sz138 rfl rfl (fun cs29 => ?_)
 refine al_use (ι := Value) 0 rfl (fun j => cs29 = [(iq u24.weight), (iq u24.least), j]) (fun j => [(fDat (tyList tq) [j] u24.symbols)]) encnS_huff_tree (fun s28 hq => ?_)
 subst hq
 refine al_nil ?_
 exact fr_fin hK_ s28⟩, ⟨_, rfl, [], rfl, by
 intro X_ Y_ F_ K_ hK_
 refine al_show (m := Mem.plus (memOf w0 Z0 [(oBox bx0 143 [v0_0, (fq 88)]), (oRow v0_0 138 tyS_huff_tree a0.items)] [(oRow v4 138 tyS_huff_tree l5x0_0), (oBox bx0 143 [v4, (fq 88)])] [(fDat tyS_huff_tree [(iq u15.weight), (iq u15.least), s19] u15), (fDat tyS_huff_tree [(iq u9.weight), (iq u9.least), s13] u9), (fDat (tyList tq) [v1_2] a1.symbols)]) X_ Y_) (S := over (tab [(0, (pq bx0)), (4, (iq l5i4)), (5, (iq (wq (((wq (l5i4 - (1 : Int)))).tdiv (2 : Int)))))]) F_) ?_
 refine al_mv rfl rfl ?_
 refine al_nil ?_
 exact fr_fin hK_ ()⟩, ⟨_, rfl, [17], rfl, by
 intro _
 intro X_ Y_ F_ K_ hK_
 refine al_show (m := Mem.plus (memOf w0 Z0 [(oBox bx0 143 [v0_0, (fq 88)]), (oRow v0_0 138 tyS_huff_tree a0.items)] [(oRow v4 138 tyS_huff_tree l5x0_0), (oBox bx0 143 [v4, (fq 88)])] [(fDat tyS_huff_tree [(iq u15.weight), (iq u15.least), s19] u15), (fDat tyS_huff_tree [(iq u9.weight), (iq u9.least), s13] u9), (fDat (tyList tq) [v1_2] a1.symbols)]) X_ Y_) (S := over (put (tab [(0, (pq bx0)), (4, (iq l5i4)), (5, (iq (wq (((wq (l5i4 - (1 : Int)))).tdiv (2 : Int)))))]) 64 (pq bx0)) F_) ?_
 refine al_val (ov_nilCheck rfl rfl) ?_
 refine al_nil ?_
 exact fr_fin hK_ ()⟩, ⟨_, rfl, [18], rfl, by
 intro _
 intro X_ Y_ F_ K_ hK_
 refine al_show (m := Mem.plus (memOf w0 Z0 [(oBox bx0 143 [v0_0, (fq 88)]), (oRow v0_0 138 tyS_huff_tree a0.items)] [(oRow v4 138 tyS_huff_tree l5x0_0), (oBox bx0 143 [v4, (fq 88)])] [(fDat tyS_huff_tree [(iq u15.weight), (iq u15.least), s19] u15), (fDat tyS_huff_tree [(iq u9.weight), (iq u9.least), s13] u9), (fDat (tyList tq) [v1_2] a1.symbols)]) X_ Y_) (S := over (put (tab [(0, (pq bx0)), (4, (iq l5i4)), (5, (iq (wq (((wq (l5i4 - (1 : Int)))).tdiv (2 : Int)))))]) 65 (pq bx0)) F_) ?_
 refine al_val (ov_fieldA (p := 0) rfl Tryd.underlying143 rfl sz141 rfl rfl rfl) ?_
 refine al_nil ?_
 exact fr_fin hK_ ()⟩, ⟨_, rfl, [19], rfl, by
 intro _
 intro X_ Y_ F_ K_ hK_
 refine al_show (m := Mem.plus (memOf w0 Z0 [(oBox bx0 143 [v0_0, (fq 88)]), (oRow v0_0 138 tyS_huff_tree a0.items)] [(oRow v4 138 tyS_huff_tree l5x0_0), (oBox bx0 143 [v4, (fq 88)])] [(fDat tyS_huff_tree [(iq u15.weight), (iq u15.least), s19] u15), (fDat tyS_huff_tree [(iq u9.weight), (iq u9.least), s13] u9), (fDat (tyList tq) [v1_2] a1.symbols)]) X_ Y_) (S := over (put (tab [(0, (pq bx0)), (4, (iq l5i4)), (5, (iq (wq (((wq (l5i4 - (1 : Int)))).tdiv (2 : Int)))))]) 66 (pq bx0)) F_) ?_
 refine al_val (ov_load (i := 1) (v := v4) rfl rfl Tryd.underlying141 sz141 rfl rfl rfl rfl) ?_
 refine al_nil ?_
 exact fr_fin hK_ ()⟩, ⟨_, rfl, [], rfl, by
 intro X_ Y_ F_ K_ hK_
 refine al_show (m := Mem.plus (memOf w0 Z0 [(oBox bx0 143 [v0_0, (fq 88)]), (oRow v0_0 138 tyS_huff_tree a0.items)] [(oRow v4 138 tyS_huff_tree l5x0_0), (oBox bx0 143 [v4, (fq 88)])] [(fDat tyS_huff_tree [(iq u15.weight), (iq u15.least), s19] u15), (fDat tyS_huff_tree [(iq u9.weight), (iq u9.least), s13] u9), (fDat (tyList tq) [v1_2] a1.symbols)]) X_ Y_) (S := over (tab [(0, (pq bx0)), (4, (iq l5i4)), (5, (iq (wq (((wq (l5i4 - (1 : Int)))).tdiv (2 : Int)))))]) F_) ?_
 refine al_mv rfl rfl ?_
 refine al_nil ?_
 exact fr_fin hK_ ()⟩, ⟨_, rfl, [20, 21], rfl, by
 intro _
 intro _
 intro X_ Y_ F_ K_ hK_
 refine al_show (m := Mem.plus (memOf w0 Z0 [(oBox bx0 143 [v0_0, (fq 88)]), (oRow v0_0 138 tyS_huff_tree a0.items)] [(oRow v4 138 tyS_huff_tree l5x0_0), (oBox bx0 143 [v4, (fq 88)])] [(fDat tyS_huff_tree [(iq u15.weight), (iq u15.least), s19] u15), (fDat tyS_huff_tree [(iq u9.weight), (iq u9.least), s13] u9), (fDat (tyList tq) [v1_2] a1.symbols)]) X_ Y_) (S := over (put (put (tab [(0, (pq bx0)), (4, (iq l5i4)), (5, (iq (wq (((wq (l5i4 - (1 : Int)))).tdiv (2 : Int)))))]) 67 v4) 68 (iq (wq (((wq (l5i4 - (1 : Int)))).tdiv (2 : Int))))) F_) ?_
 refine al_idxR 0 (at_some hu31).1 (at_some hu31).2.1 rfl rfl rfl Tryd.underlying141 sz138 rfl (fun p32 hp33 => ?_)
 refine al_nil ?_
 exact fr_fin hK_ ⟨p32, hp33⟩⟩, ⟨_, rfl, [22], rfl, by
 rintro ⟨p32, hp33⟩
 intro X_ Y_ F_ K_ hK_
 refine al_show (m := Mem.plus (memOf w0 Z0 [(oBox bx0 143 [v0_0, (fq 88)]), (oRow v0_0 138 tyS_huff_tree a0.items)] [(oRow v4 138 tyS_huff_tree l5x0_0), (oBox bx0 143 [v4, (fq 88)])] [(fDat tyS_huff_tree [(iq u15.weight), (iq u15.least), s19] u15), (fDat tyS_huff_tree [(iq u9.weight), (iq u9.least), s13] u9), (fDat (tyList tq) [v1_2] a1.symbols)]) X_ Y_) (S := over (put (tab [(0, (pq bx0)), (4, (iq l5i4)), (5, (iq (wq (((wq (l5i4 - (1 : Int)))).tdiv (2 : Int)))))]) 69 p32) F_) ?_
 refine al_loadRA 0 rfl hp33 (at_some hu31).2.2 rfl Tryd.underlying138 sz138 rfl rfl (fun cs35 => ?_)
 refine al_use (ι := Value) 0 rfl (fun j => cs35 = [(iq u30.weight), (iq u30.least), j]) (fun j => [(fDat (tyList tq) [j] u30.symbols)]) encnS_huff_tree (fun s34 hq => ?_)
 subst hq
 refine al_nil ?_
 exact fr_fin hK_ s34⟩, ⟨_, rfl, [0, 1, 2, 3, 4, 8, 10, 11, 12, 13, 14, 15, 16, 20, 23], rfl, by
 intro _
 intro _
 intro _
 intro _
 intro _
 intro _
 intro _
 intro _
 intro _
 intro _
 intro _
 rintro ⟨p26, hp27⟩
 intro s28
 intro _
 intro s34
 intro X_ Y_ F_ K_ hK_
 refine al_show (m := Mem.plus (memOf w0 Z0 [(oBox bx0 143 [v0_0, (fq 88)]), (oRow v0_0 138 tyS_huff_tree a0.items)] [(oRow v4 138 tyS_huff_tree l5x0_0), (oBox bx0 143 [v4, (fq 88)])] [(fDat (tyList tq) [s34] u30.symbols), (fDat tyS_huff_tree [(iq u30.weight), (iq u30.least), s34] u30), (fDat (tyList tq) [s28] u24.symbols), (fDat tyS_huff_tree [(iq u24.weight), (iq u24.least), s28] u24), (fDat tyS_huff_tree [(iq u15.weight), (iq u15.least), s19] u15), (fDat tyS_huff_tree [(iq u9.weight), (iq u9.least), s13] u9), (fDat (tyList tq) [v1_2] a1.symbols)]) X_ Y_) (S := over (put (put (put (put (put (put (put (put (put (put (put (put (put (put (put (tab [(0, (pq bx0)), (4, (iq l5i4)), (5, (iq (wq (((wq (l5i4 - (1 : Int)))).tdiv (2 : Int)))))]) 47 (pq bx0)) 48 (pq bx0)) 49 (pq bx0)) 50 v4) 51 (iq (wq (((wq (l5i4 - (1 : Int)))).tdiv (2 : Int))))) 55 v4) 57 (pq bx0)) 58 (pq bx0)) 59 (pq bx0)) 60 v4) 61 (iq l5i4)) 62 p26) 63 (ag [(iq u24.weight), (iq u24.least), s28])) 67 v4) 70 (ag [(iq u30.weight), (iq u30.least), s34])) F_) ?_
 refine al_idxR 0 (at_some hu37).1 (at_some hu37).2.1 rfl rfl rfl Tryd.underlying141 sz138 rfl (fun p38 hp39 => ?_)
 refine al_nil ?_
 exact fr_fin hK_ ⟨p38, hp39⟩⟩, trivial⟩ ?_
   intro _
   intro _
   intro _
   intro _
   intro _
   intro _
   intro _
   intro _
   intro _
   intro _
   intro _
   intro _
   intro _
   intro _
   rintro ⟨p26, hp27⟩
   intro s28
   intro _
   intro _
   intro _
   intro _
   intro _
   rintro ⟨p32, hp33⟩
   intro s34
   rintro ⟨p38, hp39⟩
   intro X_ Y_ F_ K_ hK_
   refine al_show (m := Mem.plus (memOf w0 Z0 [(oBox bx0 143 [v0_0, (fq 88)]), (oRow v0_0 138 tyS_huff_tree a0.items)] [(oRow v4 138 tyS_huff_tree l5x0_0), (oBox bx0 143 [v4, (fq 88)])] [(fDat (tyList tq) [s34] u30.symbols), (fDat tyS_huff_tree [(iq u30.weight), (iq u30.least), s34] u30), (fDat (tyList tq) [s28] u24.symbols), (fDat tyS_huff_tree [(iq u24.weight), (iq u24.least), s28] u24), (fDat tyS_huff_tree [(iq u15.weight), (iq u15.least), s19] u15), (fDat tyS_huff_tree [(iq u9.weight), (iq u9.least), s13] u9), (fDat (tyList tq) [v1_2] a1.symbols)]) X_ Y_) (S := over (put (put (put (put (put (put (put (put (put (put (put (put (put (put (put (put (put (put (put (put (put (put (put (put (tab [(0, (pq bx0)), (4, (iq l5i4)), (5, (iq (wq (((wq (l5i4 - (1 : Int)))).tdiv (2 : Int)))))]) 47 (pq bx0)) 48 (pq bx0)) 49 (pq bx0)) 50 v4) 51 (iq (wq (((wq (l5i4 - (1 : Int)))).tdiv (2 : Int))))) 52 (pq bx0)) 53 (pq bx0)) 54 (pq bx0)) 55 v4) 57 (pq bx0)) 58 (pq bx0)) 59 (pq bx0)) 60 v4) 61 (iq l5i4)) 62 p26) 63 (ag [(iq u24.weight), (iq u24.least), s28])) 64 (pq bx0)) 65 (pq bx0)) 66 (pq bx0)) 67 v4) 68 (iq (wq (((wq (l5i4 - (1 : Int)))).tdiv (2 : Int))))) 69 p32) 70 (ag [(iq u30.weight), (iq u30.least), s34])) 71 p38) F_) ?_
   refine al_storeR (k := ((wq (((wq (l5i4 - (1 : Int)))).tdiv (2 : Int)))).toNat) (x := u24) (vs := [(iq u24.weight), (iq u24.least), s28]) 0 rfl hp39 (idx_lt hu37) rfl rfl (cv_rfl rfl) (fun hm => mknS_huff_tree rfl (fz_at (i := 2) hm rfl)) sz138 rfl ?_
   refine al_nil ?_
   obtain ⟨u40, hu41, h⟩ := opt_some h
   refine aq_show (m := Mem.plus (memOf w0 Z0 [(oBox bx0 143 [v0_0, (fq 88)]), (oRow v0_0 138 tyS_huff_tree a0.items)] [(oRow v4 138 tyS_huff_tree (l5x0_0.set ((wq (((wq (l5i4 - (1 : Int)))).tdiv (2 : Int)))).toNat u24)), (oBox bx0 143 [v4, (fq 88)])] [(fDat (tyList tq) [s34] u30.symbols), (fDat tyS_huff_tree [(iq u30.weight), (iq u30.least), s34] u30), (fDat (tyList tq) [s28] u24.symbols), (fDat tyS_huff_tree [(iq u24.weight), (iq u24.least), s28] u24), (fDat tyS_huff_tree [(iq u15.weight), (iq u15.least), s19] u15), (fDat tyS_huff_tree [(iq u9.weight), (iq u9.least), s13] u9), (fDat (tyList tq) [v1_2] a1.symbols)]) X_ Y_) ?_
   refine aq_next hK_ [0, 1] [0, 1, 3, 4, 5, 6] [(0, (pq bx0)), (4, (iq l5i4)), (5, (iq (wq (((wq (l5i4 - (1 : Int)))).tdiv (2 : Int))))), (55, v4), (70, (ag [(iq u30.weight), (iq u30.least), s34]))] [56] [⟨26, 72, {p : Value // EltOf v4 p ((l5i4).toNat * Ty.size tyS_huff_tree)}, fun p => { val := p.1 }⟩] rfl rfl (by decide) rfl ⟨rfl, rfl, rfl, rfl, rfl, trivial⟩ ⟨rfl, trivial⟩ ?_
   clear hK_ K_ F_ X_ Y_
   refine ta_show (m := (memOf w0 Z0 [(oBox bx0 143 [v0_0, (fq 88)]), (oRow v0_0 138 tyS_huff_tree a0.items)] [(oRow v4 138 tyS_huff_tree (l5x0_0.set ((wq (((wq (l5i4 - (1 : Int)))).tdiv (2 : Int)))).toNat u24)), (oBox bx0 143 [v4, (fq 88)])] [(fDat (tyList tq) [s34] u30.symbols), (fDat tyS_huff_tree [(iq u30.weight), (iq u30.least), s34] u30), (fDat tyS_huff_tree [(iq u24.weight), (iq u24.least), s28] u24), (fDat tyS_huff_tree [(iq u15.weight), (iq u15.least), s19] u15), (fDat tyS_huff_tree [(iq u9.weight), (iq u9.least), s13] u9), (fDat (tyList tq) [v1_2] a1.symbols)])) (S := (tab [(0, (pq bx0)), (4, (iq l5i4)), (5, (iq (wq (((wq (l5i4 - (1 : Int)))).tdiv (2 : Int))))), (55, v4), (70, (ag [(iq u30.weight), (iq u30.least), s34]))])) ?_
   refine ta_step 27 _ [9, 26] [56, 72] [9, 26] [] [⟨9, 56, Unit, fun _ => { val := (iq l5i4) }⟩, ⟨26, 72, {p : Value // EltOf v4 p ((l5i4).toNat * Ty.size tyS_huff_tree)}, fun p => { val := p.1 }⟩] [] rfl rfl rfl (by kernel_rfl) rfl rfl rfl ⟨⟨_, rfl, [], rfl, by
 intro X_ Y_ F_ K_ hK_
 refine al_show (m := Mem.plus (memOf w0 Z0 [(oBox bx0 143 [v0_0, (fq 88)]), (oRow v0_0 138 tyS_huff_tree a0.items)] [(oRow v4 138 tyS_huff_tree (l5x0_0.set ((wq (((wq (l5i4 - (1 : Int)))).tdiv (2 : Int)))).toNat u24)), (oBox bx0 143 [v4, (fq 88)])] [(fDat (tyList tq) [s34] u30.symbols), (fDat tyS_huff_tree [(iq u30.weight), (iq u30.least), s34] u30), (fDat tyS_huff_tree [(iq u24.weight), (iq u24.least), s28] u24), (fDat tyS_huff_tree [(iq u15.weight), (iq u15.least), s19] u15), (fDat tyS_huff_tree [(iq u9.weight), (iq u9.least), s13] u9), (fDat (tyList tq) [v1_2] a1.symbols)]) X_ Y_) (S := over (tab [(0, (pq bx0)), (4, (iq l5i4)), (5, (iq (wq (((wq (l5i4 - (1 : Int)))).tdiv (2 : Int))))), (55, v4), (70, (ag [(iq u30.weight), (iq u30.least), s34]))]) F_) ?_
 refine al_mv rfl rfl ?_
 refine al_nil ?_
 exact fr_fin hK_ ()⟩, ⟨_, rfl, [0], rfl, by
 intro _
 intro X_ Y_ F_ K_ hK_
 refine al_show (m := Mem.plus (memOf w0 Z0 [(oBox bx0 143 [v0_0, (fq 88)]), (oRow v0_0 138 tyS_huff_tree a0.items)] [(oRow v4 138 tyS_huff_tree (l5x0_0.set ((wq (((wq (l5i4 - (1 : Int)))).tdiv (2 : Int)))).toNat u24)), (oBox bx0 143 [v4, (fq 88)])] [(fDat (tyList tq) [s34] u30.symbols), (fDat tyS_huff_tree [(iq u30.weight), (iq u30.least), s34] u30), (fDat tyS_huff_tree [(iq u24.weight), (iq u24.least), s28] u24), (fDat tyS_huff_tree [(iq u15.weight), (iq u15.least), s19] u15), (fDat tyS_huff_tree [(iq u9.weight), (iq u9.least), s13] u9), (fDat (tyList tq) [v1_2] a1.symbols)]) X_ Y_) (S := over (put (tab [(0, (pq bx0)), (4, (iq l5i4)), (5, (iq (wq (((wq (l5i4 - (1 : Int)))).tdiv (2 : Int))))), (55, v4), (70, (ag [(iq u30.weight), (iq u30.least), s34]))]) 56 (iq l5i4)) F_) ?_
 refine al_idxR 0 (at_some hu41).1 (at_some hu41).2.1 rfl rfl rfl Tryd.underlying141 sz138 rfl (fun p42 hp43 => ?_)
 refine al_nil ?_
 exact fr_fin hK_ ⟨p42, hp43⟩⟩, trivial⟩ ?_
   intro _
   rintro ⟨p42, hp43⟩
   intro X_ Y_ F_ K_ hK_
   refine al_show (m := Mem.plus (memOf w0 Z0 [(oBox bx0 143 [v0_0, (fq 88)]), (oRow v0_0 138 tyS_huff_tree a0.items)] [(oRow v4 138 tyS_huff_tree (l5x0_0.set ((wq (((wq (l5i4 - (1 : Int)))).tdiv (2 : Int)))).toNat u24)), (oBox bx0 143 [v4, (fq 88)])] [(fDat (tyList tq) [s34] u30.symbols), (fDat tyS_huff_tree [(iq u30.weight), (iq u30.least), s34] u30), (fDat tyS_huff_tree [(iq u24.weight), (iq u24.least), s28] u24), (fDat tyS_huff_tree [(iq u15.weight), (iq u15.least), s19] u15), (fDat tyS_huff_tree [(iq u9.weight), (iq u9.least), s13] u9), (fDat (tyList tq) [v1_2] a1.symbols)]) X_ Y_) (S := over (put (put (tab [(0, (pq bx0)), (4, (iq l5i4)), (5, (iq (wq (((wq (l5i4 - (1 : Int)))).tdiv (2 : Int))))), (55, v4), (70, (ag [(iq u30.weight), (iq u30.least), s34]))]) 56 (iq l5i4)) 72 p42) F_) ?_
   refine al_storeR (k := (l5i4).toNat) (x := u30) (vs := [(iq u30.weight), (iq u30.least), s34]) 0 rfl hp43 (idx_lt hu41) rfl rfl (cv_rfl rfl) (fun hm => mknS_huff_tree rfl (fz_at (i := 0) hm rfl)) sz138 rfl ?_
   refine al_nil ?_
   refine aq_show (m := Mem.plus (memOf w0 Z0 [(oBox bx0 143 [v0_0, (fq 88)]), (oRow v0_0 138 tyS_huff_tree a0.items)] [(oRow v4 138 tyS_huff_tree ((l5x0_0.set ((wq (((wq (l5i4 - (1 : Int)))).tdiv (2 : Int)))).toNat u24).set (l5i4).toNat u30)), (oBox bx0 143 [v4, (fq 88)])] [(fDat (tyList tq) [s34] u30.symbols), (fDat tyS_huff_tree [(iq u30.weight), (iq u30.least), s34] u30), (fDat tyS_huff_tree [(iq u24.weight), (iq u24.least), s28] u24), (fDat tyS_huff_tree [(iq u15.weight), (iq u15.least), s19] u15), (fDat tyS_huff_tree [(iq u9.weight), (iq u9.least), s13] u9), (fDat (tyList tq) [v1_2] a1.symbols)]) X_ Y_) ?_
   refine aq_next hK_ [0, 1] [0, 1, 2, 3, 4, 5] [(0, (pq bx0)), (5, (iq (wq (((wq (l5i4 - (1 : Int)))).tdiv (2 : Int)))))] [] [] rfl rfl (by decide) rfl ⟨rfl, rfl, trivial⟩ trivial ?_
   clear hK_ K_ F_ X_ Y_
   refine ta_show (m := (memOf w0 Z0 [(oBox bx0 143 [v0_0, (fq 88)]), (oRow v0_0 138 tyS_huff_tree a0.items)] [(oRow v4 138 tyS_huff_tree ((l5x0_0.set ((wq (((wq (l5i4 - (1 : Int)))).tdiv (2 : Int)))).toNat u24).set (l5i4).toNat u30)), (oBox bx0 143 [v4, (fq 88)])] [(fDat (tyList tq) [s34] u30.symbols), (fDat tyS_huff_tree [(iq u30.weight), (iq u30.least), s34] u30), (fDat tyS_huff_tree [(iq u24.weight), (iq u24.least), s28] u24), (fDat tyS_huff_tree [(iq u15.weight), (iq u15.least), s19] u15), (fDat tyS_huff_tree [(iq u9.weight), (iq u9.least), s13] u9), (fDat (tyList tq) [v1_2] a1.symbols)])) (S := (tab [(0, (pq bx0)), (5, (iq (wq (((wq (l5i4 - (1 : Int)))).tdiv (2 : Int)))))])) ?_
   refine ta_end [] [] rfl rfl (by kernel_rfl) rfl trivial ?_
   refine aq_show (m := (memOf w0 Z0 [(oBox bx0 143 [v0_0, (fq 88)]), (oRow v0_0 138 tyS_huff_tree a0.items)] [(oRow v4 138 tyS_huff_tree ((l5x0_0.set ((wq (((wq (l5i4 - (1 : Int)))).tdiv (2 : Int)))).toNat u24).set (l5i4).toNat u30)), (oBox bx0 143 [v4, (fq 88)])] [(fDat (tyList tq) [s34] u30.symbols), (fDat tyS_huff_tree [(iq u30.weight), (iq u30.least), s34] u30), (fDat tyS_huff_tree [(iq u24.weight), (iq u24.least), s28] u24), (fDat tyS_huff_tree [(iq u15.weight), (iq u15.least), s19] u15), (fDat tyS_huff_tree [(iq u9.weight), (iq u9.least), s13] u9), (fDat (tyList tq) [v1_2] a1.symbols)])) (S := (tab [(0, (pq bx0)), (5, (iq (wq (((wq (l5i4 - (1 : Int)))).tdiv (2 : Int)))))])) ?_
   refine aq_then ?_
   refine aw_region ?_
   refine al_mv rfl rfl ?_
   refine al_as rfl rfl ?_
   refine al_nil ?_
   refine aq_block ?_
   exact aq_again k6 (((l5x0_0.set ((wq (((wq (l5i4 - (1 : Int)))).tdiv (2 : Int)))).toNat u24).set (l5i4).toNat u30), (wq (((wq (l5i4 - (1 : Int)))).tdiv (2 : Int)))) (Nat.lt_succ_self _) h (fun w a hm hs => norm hm hs [0, 1] [5] [(0, (pq bx0)), (4, (iq (wq (((wq (l5i4 - (1 : Int)))).tdiv (2 : Int)))))] (by decide) ⟨rfl, rfl, trivial⟩)
 ·replace h := bif_f hb8 h
  refine aw_exit ?_
  refine aq_then_exit ?_
  refine aq_then_exit ?_
  refine aq_block_exit ?_
  refine fn_end ?_
  obtain rfl := Option.some.inj h
  exact fn_ret v4 [1, 0] [] rfl rfl rfl rfl (resC rfl (resN) rfl) rfl rfl rfl (by decide)
def f___huff_heap_huff_tree___pop_L50 (a0 : D_huff_heap_huff_tree_) (l21x0_0 : (List S_huff_tree)) (l21i5 : Int) (kk26 : (Int → Option (S_huff_tree × D_huff_heap_huff_tree_))) (fu : Nat) : Nat → Int → Int → Option (S_huff_tree × D_huff_heap_huff_tree_)
  | 0, _, _ => none
  | k49 + 1, l48i6, l48i50 => (bif (decide (l48i50 < (2 : Int))) then (lt (fun (j52i6 : Int) => (f___huff_heap_huff_tree___pop_L50 a0 l21x0_0 l21i5 kk26 fu k49 j52i6 (IntKind.i64.wrap (l48i50 + (1 : Int))))) fun (kk53 : Int → Option (S_huff_tree × D_huff_heap_huff_tree_)) => (opt (at? (lA2i64 (A2i64.mk (IntKind.i64.wrap ((IntKind.i64.wrap ((2 : Int) * l21i5)) + (1 : Int))) (IntKind.i64.wrap ((IntKind.i64.wrap ((2 : Int) * l21i5)) + (2 : Int))))) l48i50) fun (u54 : Int) => (lt (fun (j56b77 : Bool) => (bif j56b77 then (kk53 u54) else (kk53 l48i6))) fun (kk57 : Bool → Option (S_huff_tree × D_huff_heap_huff_tree_)) => (bif (decide (u54 < (IntKind.i64.wrap ((a0.items.length : Int) - (1 : Int))))) then (opt (at? l21x0_0 u54) fun (u60 : S_huff_tree) => (opt (at? l21x0_0 l48i6) fun (u66 : S_huff_tree) => (opt (f_huff_Lengths_2 fu u60 u66) fun (r73 : Int) => (kk57 (decide (r73 < (0 : Int))))))) else (kk57 false))))) else (kk26 l48i6))
def f___huff_heap_huff_tree___pop_L23 (a0 : D_huff_heap_huff_tree_) (u2 : S_huff_tree) (fu : Nat) : Nat → (List S_huff_tree) → Int → Option (S_huff_tree × D_huff_heap_huff_tree_)
  | 0, _, _ => none
  | k22 + 1, l21x0_0, l21i5 => (lt (fun (l21x0_0 : (List S_huff_tree)) (l21i5 : Int) => (f___huff_heap_huff_tree___pop_L23 a0 u2 fu k22 l21x0_0 l21i5)) fun (kk24 : (List S_huff_tree) → Int → Option (S_huff_tree × D_huff_heap_huff_tree_)) => (lt (fun (j25i6 : Int) => (bif (j25i6 == l21i5) then (some (u2, (D_huff_heap_huff_tree_.mk l21x0_0))) else (opt (at? l21x0_0 l21i5) fun (u28 : S_huff_tree) => (opt (at? l21x0_0 j25i6) fun (u34 : S_huff_tree) => (opt (at? l21x0_0 j25i6) fun (u40 : S_huff_tree) => (opt (at? (l21x0_0.set (j25i6).toNat u28) l21i5) fun (u44 : S_huff_tree) => (kk24 ((l21x0_0.set (j25i6).toNat u28).set (l21i5).toNat u34) j25i6))))))) fun (kk26 : Int → Option (S_huff_tree × D_huff_heap_huff_tree_)) => (f___huff_heap_huff_tree___pop_L50 a0 l21x0_0 l21i5 kk26 fu fu l21i5 (0 : Int))))
def f___huff_heap_huff_tree___pop (fu : Nat) (a0 : D_huff_heap_huff_tree_) : Option (S_huff_tree × D_huff_heap_huff_tree_) := (opt (at? a0.items (0 : Int)) fun (u2 : S_huff_tree) => (opt (at? a0.items (IntKind.i64.wrap ((a0.items.length : Int) - (1 : Int)))) fun (u9 : S_huff_tree) => (opt (at? a0.items (0 : Int)) fun (u15 : S_huff_tree) => (req (0 ≤ (IntKind.i64.wrap ((a0.items.length : Int) - (1 : Int))) ∧ (IntKind.i64.wrap ((a0.items.length : Int) - (1 : Int))) ≤ ((a0.items.set ((0 : Int)).toNat u9).length : Int)) (f___huff_heap_huff_tree___pop_L23 a0 u2 fu fu ((a0.items.set ((0 : Int)).toNat u9).take ((IntKind.i64.wrap ((a0.items.length : Int) - (1 : Int)))).toNat) (0 : Int))))))
end Go.Proofs.YtfhifdmbdkkgaaaDoor
