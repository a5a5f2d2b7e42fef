/- What MoveReads leans on, part 2. No condition. -/
import Derived.Test.YtfhifdmbdkkgaaaGreatDoorQMoveReadsa
import Derived.Shelf.Small.Strs
import Derived.Test.YtfhifdmbdkkgaaaGreatDoorChecked
import Derived.Lib.SplitLaws
import Derived.Shelf.Strings.Trim
import Derived.Ground.MnProg
import Derived.Shelf.Bin.BEAppendUint64
import Derived.Shelf.Bin.BEPutUint64
import Derived.Shelf.Strings.Repeat
import Derived.Test.YtfhifdmbdkkgaaaGreatDoorRows
namespace Go.Proofs.YtfhifdmbdkkgaaaGreatDoor.En
open Go.RowKit
set_option linter.unusedVariables false
def fMax (g : Nat) : Fact where
  p Z w := Z g ∧ ∃ m, w.cell? ⟨g, 0, none⟩ = some (.int .i64 m)
  keep := fun {Z w w'} hz h => by
    obtain ⟨h3, m, h1⟩ := h
    exact ⟨h3, m, (World.cell?_of_block (a := ⟨g, 0, none⟩) (hz g h3)).trans h1⟩
  mono := fun hz h => ⟨hz _ h.1, h.2⟩
abbrev uMax : Fact := fMax (Tryz.laysM155_ren.g 1)
theorem full_max {w : World} (h : w.ShapedOpen Tryz.prog) : uMax.p (Full w) w := by
  obtain ⟨m, hm⟩ := Tryz.laysM155.s1_3 w h
  refine ⟨?_, m, hm⟩
  rcases Nat.lt_or_ge (Tryz.laysM155_ren.g 1) w.heap.size with h9 | h9
  · exact h9
  · simp [World.cell?, Array.getElem?_eq_none h9] at hm
end Go.Proofs.YtfhifdmbdkkgaaaGreatDoor.En
namespace Go.Proofs.YtfhifdmbdkkgaaaGreatDoor
open Go.RowKit YtfhifdmbdkkgaaaGreatDoor.En
set_option linter.unusedVariables false
def f_strings_ReplaceAll (fu : Nat) (a0 a1 a2 : List UInt8) : Option (List UInt8) := req (a0.length < 4294967281 ∧ 1 ≤ a1.length ∧ a0.length + Lib.count a0 a1 * a2.length ≤ 140737488355328) (some (Lib.replaceAll a0 a1 a2))
theorem f_strings_ReplaceAll_ok (fu : Nat) (a0 a1 a2 : List UInt8) {r : List UInt8} (h : f_strings_ReplaceAll fu a0 a1 a2 = some r) : FnOk Tryz.prog 51 [(str a0), (str a1), (str a2)] [uMax] [] (fun (i : Unit) => { val := (str r) }) := by
  unfold f_strings_ReplaceAll at h
  obtain ⟨hc, h⟩ := req_some h
  obtain rfl := Option.some.inj h
  refine fnok_pre fun w Z hg => ?_
  obtain ⟨m, hm⟩ := (hg uMax (by simp)).2
  exact Any.strings_ReplaceAll { Tryz.laysM155 with } Tryz.Builder_Extra_M155 ⟨a0.toArray⟩ ⟨a1.toArray⟩ ⟨a2.toArray⟩ m w (by simpa [ByteArray.size] using hc.1) hm (by simpa [ByteArray.size] using hc.2.1) (by simpa [ByteArray.size, Lib.countB] using hc.2.2)
end Go.Proofs.YtfhifdmbdkkgaaaGreatDoor
namespace Go.Proofs
open Go.Shelf
def Tryz.lays137_ren : Go.Shelf.Ren := ⟨fun | 137 => 108 | 217 => 133 | 266 => 152 | n => n, fun | 9 => 9 | 5 => 5 | 3 => 3 | n => n, fun | n => n⟩
theorem Tryz.lays137 : Go.Proofs.Lays.n137 Tryz.prog Tryz.lays137_ren := {
  mixed := by kernel_rfl
  f137 := Tryz.func108.trans (congrArg some (by kernel_rfl))
  f217 := Tryz.func133.trans (congrArg some (by kernel_rfl))
  f266 := Tryz.func152.trans (congrArg some (by kernel_rfl))
  t3 := Tryz.underlying3
  a3 := Tryz.isAgg3
  z3 := Tryz.sizeOf3
  v3 := Tryz.zeroValue3
  t5 := Tryz.underlying5
  a5 := Tryz.isAgg5
  z5 := Tryz.sizeOf5
  v5 := Tryz.zeroValue5
  t9 := Tryz.underlying9
  a9 := Tryz.isAgg9
  z9 := Tryz.sizeOf9
  v9 := Tryz.zeroValue9 }
open Go.RowKit in
theorem Tryz.strings_IndexByte (s : ByteArray) (c : Int) (w : World) :
    Calls Tryz.prog 108 #[.string s, .int .u8 c] w fun e w' => e = .returned (.int .i64 (Lib.indexByte s.data.toList c.toNat.toUInt8)) ∧ w' = w := Any.strings_IndexByte Tryz.lays137 s c w
end Go.Proofs
namespace Go.Proofs.YtfhifdmbdkkgaaaGreatDoor.En
open Go.RowKit
set_option linter.unusedVariables false
set_option linter.unusedSimpArgs false
theorem str_row {Z : Nat → Prop} {w : World} : ∀ l : List (List UInt8), RepL tyStr Z w (l.map str) l
  | [] => rfl
  | b :: l => ⟨[_], _, rfl, rfl, str_row l⟩
theorem fnok_ownP {P : Program} {f : FuncId} {args : List Value} {pre : List Fact} {e : TypeId} {α : Type} {τ : Ty α} {xs : List α}
    (h : ∀ w Z, (∀ g ∈ pre, g.p Z w) → Calls P f args.toArray w fun ex w' => ∃ v cs, ex = .returned v ∧ w'.ownsRow w.heap.size e τ.size v xs.length cs ∧ (∀ Z, RepL τ Z w' cs xs) ∧ Below w.heap.size w w') :
    FnOk P f args pre [] (fun i : Value => { val := i, own := [oRow i e τ xs] }) := fun w Z hZ hnd hX hpre hoin =>
  (h w Z hpre).mono fun ex w' ⟨v, cs, he, ho, hr, hb⟩ => ⟨v, he, Bel.of hb, by
    show ([oRow v e τ xs].flatMap Own.blk).Nodup
    cases hv : v.ownBlock <;> simp [oRow, hv], fun b hb' => by
    right
    have hb2 : v.ownBlock = some b := by simpa [oRow] using hb'
    rcases ho.2 with ⟨rfl, _⟩ | ⟨g, cap, cur, rfl, hg, _⟩
    · simp [Value.ownBlock] at hb2
    · simp [Value.ownBlock] at hb2; omega, fun Z' _ => ⟨by
    intro o ho'
    rw [List.mem_singleton.1 ho']
    exact ⟨cs, ⟨ho.1, ho.2.imp id fun ⟨g, cap, cur, h1, _, h2⟩ => ⟨g, cap, cur, h1, Nat.zero_le _, h2⟩⟩, hr Z'⟩, by simp⟩⟩
def splitV (s sep : List UInt8) : List (List UInt8) := Lib.splitK sep 0 (Lib.count s sep) s
theorem splitV_len (s : List UInt8) (sep : List UInt8) (h : 1 ≤ sep.length) : (splitV s sep).length = Lib.count s sep + 1 := by
  have h1 := Lib.splitB_data ⟨sep.toArray⟩ 0 (Lib.count s sep) ⟨s.toArray⟩
  have h2 := Lib.splitB_all ⟨sep.toArray⟩ (by simpa [ByteArray.size] using h) 0 (Lib.count s sep) ⟨s.toArray⟩ (by simp [Lib.countB])
  have h3 := congrArg List.length h1
  rw [List.length_map, h2] at h3
  exact h3.symm
end Go.Proofs.YtfhifdmbdkkgaaaGreatDoor.En
namespace Go.Proofs.YtfhifdmbdkkgaaaGreatDoor
open Go.RowKit YtfhifdmbdkkgaaaGreatDoor.En
set_option linter.unusedVariables false
set_option linter.unusedSimpArgs false
def f_strings_IndexByte (fu : Nat) (a0 : List UInt8) (a1 : Int) : Option Int := some (Lib.indexByte a0 a1.toNat.toUInt8)
theorem f_strings_IndexByte_ok (fu : Nat) (a0 : List UInt8) (a1 : Int) {r : Int} (h : f_strings_IndexByte fu a0 a1 = some r) : FnOk Tryz.prog 108 [(str a0), (Value.int .u8 a1)] [] [] (fun (i : Unit) => { val := (Value.int .i64 r) }) := by
  unfold f_strings_IndexByte at h
  obtain rfl := Option.some.inj h
  refine fnok_pure fun w => ?_
  exact (Tryz.strings_IndexByte ⟨a0.toArray⟩ a1 w).mono fun e w' h9 => ⟨h9.1, by rw [h9.2]; exact Below.refl _ _⟩
def f_strings_Split (fu : Nat) (a0 a1 : List UInt8) : Option (List (List UInt8)) := req (a0.length < 4294967281 ∧ 1 ≤ a1.length) (some (splitV a0 a1))
theorem f_strings_Split_ok (fu : Nat) (a0 a1 : List UInt8) {r : List (List UInt8)} (h : f_strings_Split fu a0 a1 = some r) : FnOk Tryz.prog 105 [(str a0), (str a1)] [uMax] [] (fun (i : Value) => { val := i, own := [(oRow i 9 tyStr r)] }) := by
  unfold f_strings_Split at h
  obtain ⟨hc, h⟩ := req_some h
  obtain rfl := Option.some.inj h
  refine fnok_ownP fun w Z hg => ?_
  obtain ⟨m, hm⟩ := (hg uMax (by simp)).2
  have h1 := Tryz.laysM146
  refine (Any.strings_Split { Tryz.laysM146 with } Tryz.laysM146.i9 ⟨a0.toArray⟩ ⟨a1.toArray⟩ m w (by simpa [ByteArray.size] using hc.1) hm (by simpa [ByteArray.size] using hc.2)).mono fun ex w' h9 => ?_
  obtain ⟨he, hw⟩ := h9
  have hcnt : Lib.countB ⟨a0.toArray⟩ ⟨a1.toArray⟩ = Lib.count a0 a1 := by simp [Lib.countB]
  have hlen := splitV_len a0 a1 hc.2
  have hcle := Lib.count_le a0 a1
  rw [hcnt] at he hw
  have hmap : (Lib.splitB ⟨a1.toArray⟩ 0 (Lib.count a0 a1) ⟨a0.toArray⟩).map Value.string = (splitV a0 a1).map str := by
    unfold splitV
    rw [← Lib.splitB_data ⟨a1.toArray⟩ 0 (Lib.count a0 a1) ⟨a0.toArray⟩, List.map_map]
    apply List.map_congr_left
    intro x _
    simp [str]
  rw [hmap] at hw
  refine ⟨_, (splitV a0 a1).map str, he, ⟨by rw [List.length_map]; show _ = _ * 1; omega, .inr ⟨w.heap.size, Lib.count a0 a1 + 1, _, by rw [hlen], Nat.le_refl _, by rw [hw]; exact heap_alloc_new w _, by omega, by unfold maxLen; omega, by simp [hlen, tyStr, tyEnc], ?_⟩⟩, fun Z => str_row _, by rw [hw]; exact (Below.refl _ _).alloc (Nat.le_refl _) _⟩
  rw [List.take_of_length_le (by simp [tyStr, tyEnc])]
end Go.Proofs.YtfhifdmbdkkgaaaGreatDoor
namespace Go.Proofs.YtfhifdmbdkkgaaaGreatDoor.En
open Go.RowKit Go.Maps YtfhifdmbdkkgaaaGreatDoor
set_option linter.unusedVariables false
set_option linter.unusedSimpArgs false
section
variable {κ ν : Type}
variable {P : Program} {Q : Exit → Act → World → Prop} {n : Nat} {m : Mem} {S : Sl} {ops : Array Oper} {rest : List Oper} {o : Oper} {l : List (κ × ν)} {t kt vt : TypeId} {g : Nat} {ek : κ → Value} {ew : ν → Value}
theorem al_insertK [DecidableEq κ] {x y z : Operand} (i : Nat) (K : Keyed P kt) (hinj : ∀ a b, ek a = ek b → a = b) {k : κ} {v : ν} (hkey : ∃ t, keyOf P kt (ek k) = some t) (hi : m.own[i]? = some (oMapK P kt g ek ew l)) (hx : ev S x = some (.map (some g))) (hy : ev S y = some (ek k)) (hz : ev S z = some (ew v)) (ht : P.underlying t = some (.map kt vt)) (ho : o.op = .insert t x y z)
    (h : AL P ops rest Q n (m.upd i (oMapK P kt g ek ew (gset l k v))) S) (hdst : o.dst = none := by rfl) (hg : wantS ops S o true = true := by rfl) : AL P ops (o :: rest) Q n m S :=
  al_step hg fun w a hm hs K' hK => by
    obtain ⟨es, clock, hh, he, hn, hk⟩ := own_at hm hi
    have hf := find_K (P := P) K hinj he hn hk hkey w
    obtain ⟨lx, hlx⟩ := hkey
    have hc := K.check w false hlx
    have hgo := Go.MapKept.run_getObj_map (P := P) hh
    have hes : es.size = l.length := by have := congrArg List.length he; simpa using this
    rcases hf with ⟨h1, h2⟩ | ⟨j, u, h1, h2⟩
    · have hset := Go.MapKept.run_setObj_map (P := P) (.map (es.push { key := ek k, val := ew v, born := clock }) (clock + 1)) hh
      refine step_skip (w' := { w with heap := w.heap.setIfInBounds g (.map (es.push { key := ek k, val := ew v, born := clock }) (clock + 1)) }) ?_ (hK _ _ (h _ _ (hm.upd hi ⟨rfl, rfl, rfl, by simp, fun b _ hb => setIter_other w g b _ (by simpa [oMapK] using hb)⟩ (by simp [oMapK]) (fun b hb => .inl hb) (fun Z _ => ⟨_, _, (Go.MapKept.heap_set hh).1, ?_, ?_, ?_⟩)) (by rw [hdst]; exact hs)))
      · unfold execOp
        simp only [ho, hs.ev hx, hs.ev hy, hs.ev hz]
        simp [Instr.mapUpdate, Sem.run_bind, run_underlying ht, hgo, hc, h1, hset]
      · rw [gset_new v h2]
        unfold eMapK at *
        simp [he]
      · rw [gset_new v h2, List.map_append, List.nodup_append]
        refine ⟨hn, by simp, ?_⟩
        intro b hb c hcc
        obtain ⟨q, hq, rfl⟩ := List.mem_map.1 hb
        simp at hcc
        subst hcc
        exact h2 q hq
      · rw [gset_new v h2]
        intro q hq
        rcases List.mem_append.1 hq with hq | hq
        · exact hk q hq
        · rw [List.mem_singleton.1 hq]; exact ⟨lx, hlx⟩
    · have hj : j < l.length := (List.getElem?_eq_some_iff.1 h2).1
      have hky : (es[j]?).map (·.key) = some (ek k) := by
        have h3 : (es.toList.map fun e => (e.key, e.val))[j]? = some (ek k, ew u) := by
          have he' : es.toList.map (fun e => (e.key, e.val)) = l.map (fun x => (ek x.1, ew x.2)) := he
          rw [he', List.getElem?_map, h2]; rfl
        rw [List.getElem?_map, Array.getElem?_toList] at h3
        cases hq : es[j]? with
        | none => rw [hq] at h3; cases h3
        | some q =>
          rw [hq] at h3
          exact congrArg some (Prod.mk.inj (Option.some.inj h3)).1
      have hkts := K.stays w hlx
      have hset := Go.MapKept.run_setObj_map (P := P) (.map (es.modify j fun e => { e with key := ek k, val := ew v }) clock) hh
      have hgs := (gget_at hn h2).2 v
      refine step_skip (w' := { w with heap := w.heap.setIfInBounds g (.map (es.modify j fun e => { e with key := ek k, val := ew v }) clock) }) ?_ (hK _ _ (h _ _ (hm.upd hi ⟨rfl, rfl, rfl, by simp, fun b _ hb => setIter_other w g b _ (by simpa [oMapK] using hb)⟩ (by simp [oMapK]) (fun b hb => .inl hb) (fun Z _ => ⟨_, _, (Go.MapKept.heap_set hh).1, ?_, ?_, ?_⟩)) (by rw [hdst]; exact hs)))
      · unfold execOp
        simp only [ho, hs.ev hx, hs.ev hy, hs.ev hz]
        simp [Instr.mapUpdate, Sem.run_bind, run_underlying ht, hgo, hc, h1, hset, hky, hkts]
      · rw [hgs]
        unfold eMapK at *
        rw [List.map_set, ← he]
        apply List.ext_getElem?
        intro q
        rw [List.getElem?_map, Array.getElem?_toList, Array.getElem?_modify, List.getElem?_set, List.getElem?_map, List.length_map, Array.getElem?_toList]
        by_cases e : j = q
        · subst e
          have : j < es.size := by omega
          simp [this]
        · simp [e]
      · rw [hgs, gset_keys l k v j u h2]; exact hn
      · rw [hgs]
        intro q hq
        rcases List.mem_or_eq_of_mem_set hq with hq | hq
        · exact hk q hq
        · rw [hq]; exact ⟨lx, hlx⟩
end
end Go.Proofs.YtfhifdmbdkkgaaaGreatDoor.En
namespace Go.Proofs
open Go.Shelf
def Tryz.lays161_ren : Go.Shelf.Ren := ⟨fun | 161 => 111 | 231 => 134 | 227 => 135 | 233 => 136 | 235 => 137 | 228 => 153 | 197 => 117 | 151 => 154 | 260 => 143 | 152 => 165 | 137 => 108 | 119 => 171 | 224 => 158 | 225 => 157 | 217 => 133 | 266 => 152 | n => n, fun | 9 => 9 | 4 => 4 | 3 => 3 | 5 => 5 | 117 => 169 | 116 => 168 | 0 => 0 | 124 => 172 | 105 => 152 | 21 => 21 | 119 => 135 | 46 => 139 | 139 => 138 | 138 => 137 | n => n, fun | 3 => 1 | 4 => 2 | n => n⟩
theorem Tryz.lays161 : Go.Proofs.Lays.n161 Tryz.prog Tryz.lays161_ren := {
  mixed := by kernel_rfl
  f119 := Tryz.func171.trans (congrArg some (by kernel_rfl))
  f137 := Tryz.func108.trans (congrArg some (by kernel_rfl))
  f151 := Tryz.func154.trans (congrArg some (by kernel_rfl))
  f152 := Tryz.func165.trans (congrArg some (by kernel_rfl))
  f161 := Tryz.func111.trans (congrArg some (by kernel_rfl))
  f197 := Tryz.func117.trans (congrArg some (by kernel_rfl))
  f217 := Tryz.func133.trans (congrArg some (by kernel_rfl))
  f224 := Tryz.func158.trans (congrArg some (by kernel_rfl))
  f225 := Tryz.func157.trans (congrArg some (by kernel_rfl))
  f227 := Tryz.func135.trans (congrArg some (by kernel_rfl))
  f228 := Tryz.func153.trans (congrArg some (by kernel_rfl))
  f231 := Tryz.func134.trans (congrArg some (by kernel_rfl))
  f233 := Tryz.func136.trans (congrArg some (by kernel_rfl))
  f235 := Tryz.func137.trans (congrArg some (by kernel_rfl))
  f260 := Tryz.func143.trans (congrArg some (by kernel_rfl))
  f266 := Tryz.func152.trans (congrArg some (by kernel_rfl))
  t0 := Tryz.underlying0
  a0 := Tryz.isAgg0
  z0 := Tryz.sizeOf0
  v0 := Tryz.zeroValue0
  t3 := Tryz.underlying3
  a3 := Tryz.isAgg3
  z3 := Tryz.sizeOf3
  v3 := Tryz.zeroValue3
  t4 := Tryz.underlying4
  a4 := Tryz.isAgg4
  z4 := Tryz.sizeOf4
  v4 := Tryz.zeroValue4
  t5 := Tryz.underlying5
  a5 := Tryz.isAgg5
  z5 := Tryz.sizeOf5
  v5 := Tryz.zeroValue5
  t9 := Tryz.underlying9
  a9 := Tryz.isAgg9
  z9 := Tryz.sizeOf9
  v9 := Tryz.zeroValue9
  t21 := Tryz.underlying21
  a21 := Tryz.isAgg21
  z21 := Tryz.sizeOf21
  v21 := Tryz.zeroValue21
  t46 := Tryz.underlying139
  a46 := Tryz.isAgg139
  z46 := Tryz.sizeOf139
  v46 := Tryz.zeroValue139
  t105 := Tryz.underlying152
  a105 := Tryz.isAgg152
  z105 := Tryz.sizeOf152
  v105 := Tryz.zeroValue152
  t116 := Tryz.underlying168
  a116 := Tryz.isAgg168
  z116 := Tryz.sizeOf168
  t117 := Tryz.underlying169
  a117 := Tryz.isAgg169
  z117 := Tryz.sizeOf169
  v117 := Tryz.zeroValue169
  t119 := Tryz.underlying135
  a119 := Tryz.isAgg135
  z119 := Tryz.sizeOf135
  t124 := Tryz.underlying172
  a124 := Tryz.isAgg172
  z124 := Tryz.sizeOf172
  v124 := Tryz.zeroValue172
  t138 := Tryz.underlying137
  a138 := Tryz.isAgg137
  z138 := Tryz.sizeOf137
  v138 := Tryz.zeroValue137
  t139 := Tryz.underlying138
  a139 := Tryz.isAgg138
  z139 := Tryz.sizeOf138
  v139 := Tryz.zeroValue138
  g3 := by kernel_rfl
  g4 := by kernel_rfl }
open Go.RowKit in
theorem Tryz.strings_TrimLeft_one (s : ByteArray) (c : UInt8) (hc : c.toNat < 128) (w : World) :
    Calls Tryz.prog 111 #[.string s, .string ⟨#[c]⟩] w fun e w' => e = .returned (.string ⟨(Lib.trimLeftB s.data.toList c).toArray⟩) ∧ w' = w := Any.strings_TrimLeft_one Tryz.lays161 s c hc w
end Go.Proofs
namespace Go.Proofs
open Go.Shelf
def Tryz.laysBin44_ren : Go.Shelf.Ren := ⟨fun | 44 => 110 | n => n, fun | 37 => 122 | 22 => 58 | 33 => 55 | 0 => 0 | 45 => 139 | 5 => 5 | n => n, fun | n => n⟩
theorem Tryz.laysBin44 : Go.Proofs.LaysBin.n44 Tryz.prog Tryz.laysBin44_ren := {
  mixed := by kernel_rfl
  f44 := Tryz.func110.trans (congrArg some (by kernel_rfl))
  t0 := Tryz.underlying0
  a0 := Tryz.isAgg0
  z0 := Tryz.sizeOf0
  v0 := Tryz.zeroValue0
  i0 := by kernel_rfl
  t5 := Tryz.underlying5
  a5 := Tryz.isAgg5
  z5 := Tryz.sizeOf5
  v5 := Tryz.zeroValue5
  i5 := by kernel_rfl
  t22 := Tryz.underlying58
  a22 := Tryz.isAgg58
  z22 := Tryz.sizeOf58
  v22 := Tryz.zeroValue58
  i22 := by kernel_rfl
  t33 := Tryz.underlying55
  a33 := Tryz.isAgg55
  z33 := Tryz.sizeOf55
  v33 := Tryz.zeroValue55
  i33 := by kernel_rfl
  t37 := Tryz.underlying122
  a37 := Tryz.isAgg122
  z37 := Tryz.sizeOf122
  v37 := Tryz.zeroValue122
  i37 := by kernel_rfl
  t45 := Tryz.underlying139
  a45 := Tryz.isAgg139
  z45 := Tryz.sizeOf139
  v45 := Tryz.zeroValue139
  i45 := by kernel_rfl }
open Go.RowKit in
theorem Tryz.binary_BE_AppendUint64 (B n v : Nat) (hv : v < 18446744073709551616) (sv : Value) (xs : List Value) (w : World) (hown : w.ownsRow B 5 1 sv n xs) (hBw : B ≤ w.heap.size) (hlim : n + 8 ≤ 140737488355328) :
    Calls Tryz.prog 110 #[.agg #[], sv, .int .u64 v] w fun e w' => ∃ v', e = .returned v' ∧ w'.ownsRow B 5 1 v' (n + 8) (xs ++ Lib.byteCells (Lib.beBytes 8 v)) ∧ Below B w w' := Any.binary_BE_AppendUint64 Tryz.laysBin44 B n v hv sv xs w hown hBw hlim
end Go.Proofs
namespace Go.Proofs
open Go.Shelf
def Tryz.laysBin43_ren : Go.Shelf.Ren := ⟨fun | 43 => 87 | n => n, fun | 37 => 122 | 22 => 58 | 33 => 55 | 0 => 0 | 5 => 5 | 45 => 139 | n => n, fun | n => n⟩
theorem Tryz.laysBin43 : Go.Proofs.LaysBin.n43 Tryz.prog Tryz.laysBin43_ren := {
  mixed := by kernel_rfl
  f43 := Tryz.func87.trans (congrArg some (by kernel_rfl))
  t0 := Tryz.underlying0
  a0 := Tryz.isAgg0
  z0 := Tryz.sizeOf0
  v0 := Tryz.zeroValue0
  i0 := by kernel_rfl
  t5 := Tryz.underlying5
  a5 := Tryz.isAgg5
  z5 := Tryz.sizeOf5
  v5 := Tryz.zeroValue5
  i5 := by kernel_rfl
  t22 := Tryz.underlying58
  a22 := Tryz.isAgg58
  z22 := Tryz.sizeOf58
  v22 := Tryz.zeroValue58
  i22 := by kernel_rfl
  t33 := Tryz.underlying55
  a33 := Tryz.isAgg55
  z33 := Tryz.sizeOf55
  v33 := Tryz.zeroValue55
  i33 := by kernel_rfl
  t37 := Tryz.underlying122
  a37 := Tryz.isAgg122
  z37 := Tryz.sizeOf122
  v37 := Tryz.zeroValue122
  i37 := by kernel_rfl
  t45 := Tryz.underlying139
  a45 := Tryz.isAgg139
  z45 := Tryz.sizeOf139
  v45 := Tryz.zeroValue139
  i45 := by kernel_rfl }
open Go.RowKit in
theorem Tryz.binary_BE_PutUint64 (g o n c v : Nat) (hv : v < 18446744073709551616) (x0 x1 x2 x3 x4 x5 x6 x7 : Value) (w : World) (hn : 8 ≤ n) (c0 : w.cell? ⟨g, o, none⟩ = some x0) (c1 : w.cell? ⟨g, o + 1, none⟩ = some x1) (c2 : w.cell? ⟨g, o + 2, none⟩ = some x2) (c3 : w.cell? ⟨g, o + 3, none⟩ = some x3) (c4 : w.cell? ⟨g, o + 4, none⟩ = some x4) (c5 : w.cell? ⟨g, o + 5, none⟩ = some x5) (c6 : w.cell? ⟨g, o + 6, none⟩ = some x6) (c7 : w.cell? ⟨g, o + 7, none⟩ = some x7) (f0 : w.frozen? ⟨g, o, none⟩ = false) (f1 : w.frozen? ⟨g, o + 1, none⟩ = false) (f2 : w.frozen? ⟨g, o + 2, none⟩ = false) (f3 : w.frozen? ⟨g, o + 3, none⟩ = false) (f4 : w.frozen? ⟨g, o + 4, none⟩ = false) (f5 : w.frozen? ⟨g, o + 5, none⟩ = false) (f6 : w.frozen? ⟨g, o + 6, none⟩ = false) (f7 : w.frozen? ⟨g, o + 7, none⟩ = false) :
    Calls Tryz.prog 87 #[.agg #[], .slice (some ⟨g, o, none⟩) n c, .int .u64 v] w fun e w' => e = .returned (.tuple #[]) ∧ w' = (w.alloc (.cells #[] 122)).setCells g o (Lib.byteCells (Lib.beBytes 8 v)) := Any.binary_BE_PutUint64 Tryz.laysBin43 g o n c v hv x0 x1 x2 x3 x4 x5 x6 x7 w hn c0 c1 c2 c3 c4 c5 c6 c7 f0 f1 f2 f3 f4 f5 f6 f7
end Go.Proofs
namespace Go.Proofs
open Go.Shelf
def Tryz.lays105_ren : Go.Shelf.Ren := ⟨fun | 105 => 144 | 212 => 160 | 99 => 91 | 165 => 114 | 166 => 116 | 170 => 161 | 169 => 118 | 263 => 167 | 264 => 168 | 206 => 122 | 240 => 140 | 241 => 141 | 276 => 155 | 277 => 156 | n => n, fun | 9 => 9 | 3 => 3 | 4 => 4 | 20 => 20 | 0 => 0 | 46 => 139 | 109 => 188 | 5 => 5 | 72 => 146 | 76 => 150 | 51 => 159 | 146 => 160 | 53 => 55 | 148 => 194 | 70 => 144 | 37 => 58 | 75 => 149 | 127 => 174 | 164 => 184 | 80 => 91 | n => n, fun | n => n⟩
theorem Tryz.lays105 : Go.Proofs.Lays.n105 Tryz.prog Tryz.lays105_ren := {
  mixed := by kernel_rfl
  f99 := Tryz.func91.trans (congrArg some (by kernel_rfl))
  f105 := Tryz.func144.trans (congrArg some (by kernel_rfl))
  f165 := Tryz.func114.trans (congrArg some (by kernel_rfl))
  f166 := Tryz.func116.trans (congrArg some (by kernel_rfl))
  f169 := Tryz.func118.trans (congrArg some (by kernel_rfl))
  f170 := Tryz.func161.trans (congrArg some (by kernel_rfl))
  f206 := Tryz.func122.trans (congrArg some (by kernel_rfl))
  f212 := Tryz.func160.trans (congrArg some (by kernel_rfl))
  f240 := Tryz.func140.trans (congrArg some (by kernel_rfl))
  f241 := Tryz.func141.trans (congrArg some (by kernel_rfl))
  f263 := Tryz.func167.trans (congrArg some (by kernel_rfl))
  f264 := Tryz.func168.trans (congrArg some (by kernel_rfl))
  f276 := Tryz.func155.trans (congrArg some (by kernel_rfl))
  f277 := Tryz.func156.trans (congrArg some (by kernel_rfl))
  t0 := Tryz.underlying0
  a0 := Tryz.isAgg0
  z0 := Tryz.sizeOf0
  v0 := Tryz.zeroValue0
  t3 := Tryz.underlying3
  a3 := Tryz.isAgg3
  z3 := Tryz.sizeOf3
  v3 := Tryz.zeroValue3
  t4 := Tryz.underlying4
  a4 := Tryz.isAgg4
  z4 := Tryz.sizeOf4
  v4 := Tryz.zeroValue4
  t5 := Tryz.underlying5
  a5 := Tryz.isAgg5
  z5 := Tryz.sizeOf5
  v5 := Tryz.zeroValue5
  t9 := Tryz.underlying9
  a9 := Tryz.isAgg9
  z9 := Tryz.sizeOf9
  v9 := Tryz.zeroValue9
  t20 := Tryz.underlying20
  a20 := Tryz.isAgg20
  z20 := Tryz.sizeOf20
  v20 := Tryz.zeroValue20
  t37 := Tryz.underlying58
  a37 := Tryz.isAgg58
  z37 := Tryz.sizeOf58
  v37 := Tryz.zeroValue58
  t46 := Tryz.underlying139
  a46 := Tryz.isAgg139
  z46 := Tryz.sizeOf139
  v46 := Tryz.zeroValue139
  t51 := Tryz.underlying159
  a51 := Tryz.isAgg159
  z51 := Tryz.sizeOf159
  v51 := Tryz.zeroValue159
  t53 := Tryz.underlying55
  a53 := Tryz.isAgg55
  z53 := Tryz.sizeOf55
  v53 := Tryz.zeroValue55
  t70 := Tryz.underlying144
  a70 := Tryz.isAgg144
  z70 := Tryz.sizeOf144
  v70 := Tryz.zeroValue144
  t72 := Tryz.underlying146
  a72 := Tryz.isAgg146
  z72 := Tryz.sizeOf146
  v72 := Tryz.zeroValue146
  t75 := Tryz.underlying149
  a75 := Tryz.isAgg149
  z75 := Tryz.sizeOf149
  v75 := Tryz.zeroValue149
  t76 := Tryz.underlying150
  a76 := Tryz.isAgg150
  z76 := Tryz.sizeOf150
  v76 := Tryz.zeroValue150
  t109 := Tryz.underlying188
  a109 := Tryz.isAgg188
  z109 := Tryz.sizeOf188
  v109 := Tryz.zeroValue188
  t127 := Tryz.underlying174
  a127 := Tryz.isAgg174
  z127 := Tryz.sizeOf174
  v127 := Tryz.zeroValue174
  t146 := Tryz.underlying160
  a146 := Tryz.isAgg160
  z146 := Tryz.sizeOf160
  v146 := Tryz.zeroValue160
  t148 := Tryz.underlying194
  a148 := Tryz.isAgg194
  z148 := Tryz.sizeOf194
  v148 := Tryz.zeroValue194
  t164 := Tryz.underlying184
  a164 := Tryz.isAgg184
  z164 := Tryz.sizeOf184
  v164 := Tryz.zeroValue184 }
theorem Tryz.Builder_Extra_105 : Builder.Extra Tryz.prog Tryz.lays105_ren := {
  sizeBuilder := by kernel_rfl
  liesBuilder := by kernel_rfl
  t5 := Tryz.underlying5
  a5 := Tryz.isAgg5
  z5 := Tryz.sizeOf5
  v5 := Tryz.zeroValue5
  infoByte := by kernel_rfl
  cellsByte := by kernel_rfl
  sizeByte := by kernel_rfl
  neB5 := by decide }
open Go.RowKit Go.Lib in
theorem Tryz.strings_Repeat (s : ByteArray) (c : Nat) (w : World) (hc : c ≤ 9223372036854775807) (hlen : s.size * c ≤ 140737488355328) :
    Calls Tryz.prog 144 #[.string s, .int .i64 c] w fun e w' => e = .returned (.string ⟨(Lib.repeatL s.data.toList c).toArray⟩) ∧ Below w.heap.size w w' := Any.strings_Repeat Tryz.lays105 Tryz.Builder_Extra_105 s c w hc hlen
end Go.Proofs
namespace Go.Proofs.YtfhifdmbdkkgaaaGreatDoor.En
open Go.RowKit Go.ChangeShapes Go.WideShapes Go.Deep
set_option linter.unusedVariables false
set_option linter.unusedSimpArgs false
theorem bulk_pos {H : Type} : ∀ d : DataW H, 1 ≤ Rows.uptoBulk d := by
  intro d
  cases d with
  | lit l => cases l <;> simp [Rows.uptoBulk]
  | nil => simp [Rows.uptoBulk]
  | ptr d => simp [Rows.uptoBulk]
  | slice a b => simp [Rows.uptoBulk]
  | agg a => simp [Rows.uptoBulk]
  | iface a d => simp [Rows.uptoBulk]
  | map e => simp [Rows.uptoBulk]
  | held h => simp [Rows.uptoBulk]
theorem bulk_part {H : Type} {d : DataW H} : ∀ {l : List (DataW H)}, d ∈ l → Rows.uptoBulk d ≤ Rows.uptoBulkAll l
  | [], h => by cases h
  | x :: r, h => by
    simp only [Rows.uptoBulkAll]
    rcases List.mem_cons.1 h with e | e
    · subst e; omega
    · have := bulk_part e; omega
theorem bulk_len {H : Type} : ∀ l : List (DataW H), l.length ≤ Rows.uptoBulkAll l
  | [] => by simp
  | x :: r => by
    simp only [Rows.uptoBulkAll, List.length_cons]
    have h1 := bulk_len r
    have h2 := bulk_pos x
    omega
section
variable {H : Type} {P : Program} {α β : Type}
def Opb (H : Type) (P : Program) (t : TypeId) (τ : Ty α) (ok : Nat → α → Prop) : Prop := ∀ (enc : TypeId × Value → H) (w : World) (base : Nat) (spare : Nat → Bool) (held : Bool) (n : Nat) (cs : List Value) (y : DataW H × List MemPlace), DataW.trod enc P w base spare held n t cs = some y → ∃ x, (∀ N, Rows.uptoBulk y.1 ≤ N → ok N x) ∧ τ.rep (Full w) w cs x
theorem opb_of {t : TypeId} {τ : Ty α} {ok : α → Prop} (h : Opn H P t τ ok) : Opb H P t τ (fun _ => ok) := fun enc w base spare held n cs y hy => by
  obtain ⟨x, h1, h2⟩ := h enc w base spare held n cs y hy
  exact ⟨x, fun _ _ => h1, h2⟩
theorem opb_str {t : TypeId} (hu : P.underlying t = some .string) : Opb H P t tyStr (fun N x => x.length ≤ 9223372036854775807 ∧ x.length ≤ N) := fun enc w base spare held n cs y h => by
  obtain ⟨x, hx, hy, hs⟩ := DataW.trod_string hu h
  refine ⟨x.data.toList, fun N hN => ⟨?_, ?_⟩, ?_⟩
  · unfold maxLen at hs; simpa using hs
  · rw [hy] at hN
    simp only [Rows.uptoBulk] at hN
    omega
  · show cs = [str x.data.toList]
    rw [hx]; simp [str]
def okB (ok : Nat → α → Prop) (N : Nat) (xs : List α) : Prop := xs.length ≤ N ∧ ∀ x ∈ xs, ok N x
theorem opb_list {t e : TypeId} {τ : Ty α} {ok : Nat → α → Prop} (hu : P.underlying t = some (.slice e)) (hsz : szOf P e = some τ.size) (hpos : Nat.blt 0 τ.size = true) (he : Opb H P e τ ok) : Opb H P t (tyList τ) (okB ok) := fun enc w base spare held n cs y h => by
  have hce : P.cellsOf e = τ.size := by
    unfold szOf at hsz; unfold Program.cellsOf; rw [hsz]; rfl
  rcases open_slice hu h with ⟨hcs, _⟩ | ⟨a, len, cap, m, n', D, Pl, hcs, hb, hle, hm, hmm, hy, hx⟩
  · exact ⟨[], fun N _ => ⟨by simp, by simp⟩, none, 0, 0, hcs, rfl, Nat.le_refl _, Nat.zero_le _, .inl rfl⟩
  · have hmn : len ≤ m := by rw [hmm]; split <;> omega
    obtain ⟨L, hL, hp⟩ := exists_list (γ := List Value × α) (p := fun i p => w.cells? base (a.add (i * P.cellsOf e)) (P.cellsOf e) = some p.1 ∧ (∀ N, Rows.uptoBulk (D i) ≤ N → ok N p.2) ∧ τ.rep (Full w) w p.1 p.2) len (fun i hi => by
      obtain ⟨cs', h1, h2⟩ := hx i (by omega)
      obtain ⟨x, hok, hr⟩ := he enc w base spare held _ cs' _ h2
      exact ⟨(cs', x), h1, hok, hr⟩)
    have hlen : (L.map (·.2)).length = len := by simp [hL]
    have hall : ∀ i, i < len → Rows.uptoBulk (D i) ≤ Rows.uptoBulk y.1 := fun i hi => by
      rw [hy]
      have := bulk_part (d := D i) (l := (List.range len).map D) (List.mem_map.2 ⟨i, List.mem_range.2 hi, rfl⟩)
      simp only [Rows.uptoBulk]
      omega
    have hlb : len ≤ Rows.uptoBulk y.1 := by
      rw [hy]
      have := bulk_len ((List.range len).map D)
      simp only [Rows.uptoBulk, List.length_map, List.length_range] at this ⊢
      omega
    refine ⟨L.map (·.2), fun N hN => ⟨by rw [hlen]; omega, fun x hx => ?_⟩, some a, len, cap, hcs, hlen.symm, hle, Nat.le_trans hle hm, ?_⟩
    · obtain ⟨p, hpm, rfl⟩ := List.mem_map.1 hx
      obtain ⟨i, hi⟩ := List.getElem?_of_mem hpm
      have hil : i < len := by rw [← hL]; exact (List.getElem?_eq_some_iff.1 hi).1
      exact (hp i p hi).2.1 N (Nat.le_trans (hall i hil) hN)
    · by_cases h0 : len = 0
      · exact .inl h0
      right
      have hchunk : ∀ c ∈ L.map (·.1), c.length = τ.size := fun c hc => by
        obtain ⟨p, hpm, rfl⟩ := List.mem_map.1 hc
        obtain ⟨i, hi⟩ := List.getElem?_of_mem hpm
        exact τ.len (hp i p hi).2.2
      refine ⟨a, (L.map (·.1)).flatten, rfl, ⟨?_, fun j u hj => ?_⟩, RepL.mk' _ _ (by simp) (fun i c x h1 h2 => ?_)⟩
      · obtain ⟨p, hpi⟩ : ∃ p, L[0]? = some p := ⟨L[0], List.getElem?_eq_getElem (by omega)⟩
        obtain ⟨_, hl2, hat⟩ := World.cells?_some (hp 0 p hpi).1
        have hpos' : 0 < τ.size := by simpa [Nat.blt_eq] using hpos
        have hc := hat 0 (by rw [hce]; exact hpos')
        have hlt : 0 < p.1.length := by rw [hl2, hce]; exact hpos'
        rw [List.getElem?_eq_getElem hlt] at hc
        have := World.block_lt_of_cell? w _ hc
        rw [add_block, add_block] at this
        exact this
      · -- the cell j lies in the chunk j / size
        have key : ∀ (CS : List (List Value)) (i0 : Nat), (∀ c ∈ CS, c.length = τ.size) → (∀ i c, CS[i]? = some c → ∀ r, r < τ.size → w.cell? ((a.add ((i0 + i) * τ.size)).add r) = c[r]?) → ∀ j u, CS.flatten[j]? = some u → w.cell? (a.add (i0 * τ.size + j)) = some u := by
          intro CS
          induction CS with
          | nil => intro i0 _ _ j u hj; simp at hj
          | cons c CS ih =>
            intro i0 hc hcell j u hj
            rw [List.flatten_cons] at hj
            have hcl := hc c (by simp)
            by_cases hjc : j < τ.size
            · rw [List.getElem?_append_left (by omega)] at hj
              have := hcell 0 c rfl j hjc
              rw [add_add, Nat.add_zero, hj] at this
              exact this
            · rw [List.getElem?_append_right (by omega), hcl] at hj
              have := ih (i0 + 1) (fun c' hc' => hc c' (by simp [hc'])) (fun i c' hi r hr => by
                have := hcell (i + 1) c' (by simpa using hi) r hr
                rw [show i0 + 1 + i = i0 + (i + 1) by omega]; exact this) (j - τ.size) u hj
              rw [Nat.succ_mul] at this
              rw [show i0 * τ.size + j = i0 * τ.size + τ.size + (j - τ.size) by omega]
              exact this
        have := key (L.map (·.1)) 0 hchunk (fun i c hi r hr => by
          rw [List.getElem?_map] at hi
          obtain ⟨p, hpi, rfl⟩ := Option.map_eq_some_iff.1 hi
          obtain ⟨_, _, hat⟩ := World.cells?_some (hp i p hpi).1
          rw [hce] at hat
          rw [Nat.zero_add]
          exact hat r hr) j u hj
        rw [Nat.zero_mul, Nat.zero_add] at this
        exact this
      · rw [List.getElem?_map] at h1 h2
        obtain ⟨p, hpi, rfl⟩ := Option.map_eq_some_iff.1 h1
        obtain ⟨q, hqi, rfl⟩ := Option.map_eq_some_iff.1 h2
        rw [hpi] at hqi
        cases hqi
        exact (hp i p hpi).2.2
def FieldsOpb (H : Type) (P : Program) (fs : List (Nat × TypeId)) (off : Nat) (τ : Ty α) (ok : Nat → α → Prop) : Prop := ∀ (enc : TypeId × Value → H) (w : World) (base : Nat) (spare : Nat → Bool) (held : Bool) (n : Nat) (cs : List Value) (B : Nat),
  (∀ f ∈ fs, ∃ y : DataW H × List MemPlace, Rows.uptoBulk y.1 ≤ B ∧ DataW.trod enc P w base spare held n f.2 ((cs.drop f.1).take (P.cellsOf f.2)) = some y) → ∃ x, (∀ N, B ≤ N → ok N x) ∧ τ.rep (Full w) w ((cs.drop off).take τ.size) x
theorem fieldsb_one {t : TypeId} {off : Nat} {τ : Ty α} {ok : Nat → α → Prop} (hsz : szOf P t = some τ.size) (h : Opb H P t τ ok) : FieldsOpb H P [(off, t)] off τ ok := fun enc w base spare held n cs B hf => by
  obtain ⟨y, hyb, hy⟩ := hf (off, t) (by simp)
  have hce : P.cellsOf t = τ.size := by unfold szOf at hsz; unfold Program.cellsOf; rw [hsz]; rfl
  rw [hce] at hy
  obtain ⟨x, h1, h2⟩ := h enc w base spare held n _ y hy
  exact ⟨x, fun N hN => h1 N (Nat.le_trans hyb hN), h2⟩
theorem fieldsb_cons {t : TypeId} {off : Nat} {τ : Ty α} {υ : Ty β} {ok : Nat → α → Prop} {okb : Nat → β → Prop} {fs : List (Nat × TypeId)} (hsz : szOf P t = some τ.size) (h : Opb H P t τ ok) (hr : FieldsOpb H P fs (off + τ.size) υ okb) : FieldsOpb H P ((off, t) :: fs) off (tyPair τ υ) (fun N x => ok N x.1 ∧ okb N x.2) := fun enc w base spare held n cs B hf => by
  obtain ⟨y, hyb, hy⟩ := hf (off, t) (by simp)
  have hce : P.cellsOf t = τ.size := by unfold szOf at hsz; unfold Program.cellsOf; rw [hsz]; rfl
  rw [hce] at hy
  obtain ⟨x, h1, h2⟩ := h enc w base spare held n _ y hy
  obtain ⟨z, h3, h4⟩ := hr enc w base spare held n cs B (fun f hff => hf f (by simp [hff]))
  refine ⟨(x, z), fun N hN => ⟨h1 N (Nat.le_trans hyb hN), h3 N hN⟩, _, _, ?_, h2, h4⟩
  rw [show (tyPair τ υ).size = τ.size + υ.size from rfl, List.take_add, List.drop_drop]
theorem opb_struct {t : TypeId} {fs : Array Field} {υ : Ty β} {ok : Nat → β → Prop} (f : α → β) (g : β → α) (hfg : ∀ y, f (g y) = y) (hu : P.underlying t = some (.struct fs)) (hsz : szOf P t = some υ.size) (hr : FieldsOpb H P (fs.toList.map fun f => (f.offset, f.type)) 0 υ ok) : Opb H P t (tyVia f υ) (fun N x => ok N (f x)) := fun enc w base spare held n cs y h => by
  obtain ⟨xs, m, _, hy, hcl, hxl, hf⟩ := DataW.trod_struct hu h
  have hce : P.cellsOf t = υ.size := by unfold szOf at hsz; unfold Program.cellsOf; rw [hsz]; rfl
  have hpart : ∀ q ∈ xs, Rows.uptoBulk q.1 ≤ Rows.uptoBulk y.1 := fun q hq => by
    rw [hy]
    have := bulk_part (d := q.1) (l := xs.map (·.1)) (List.mem_map.2 ⟨q, hq, rfl⟩)
    simp only [Rows.uptoBulk]
    omega
  obtain ⟨z, h1, h2⟩ := hr enc w base spare held m cs (Rows.uptoBulk y.1) (fun p hp => by
    obtain ⟨fl, hfl, rfl⟩ := List.mem_map.1 hp
    obtain ⟨i, hi⟩ := List.getElem?_of_mem hfl
    have hi' : fs[i]? = some fl := by simpa using hi
    have hlt : i < xs.length := by rw [hxl]; exact (Array.getElem?_eq_some_iff.1 hi').1
    exact ⟨xs[i], hpart _ (List.getElem_mem hlt), (hf i fl hi').trans (List.getElem?_eq_getElem hlt)⟩)
  refine ⟨g z, (fun N hN => by show ok N (f (g z)); rw [hfg]; exact h1 N hN), ?_⟩
  show υ.rep _ _ cs (f (g z))
  rw [hfg]
  rw [List.drop_zero, List.take_of_length_le (by rw [hcl, hce]; exact Nat.le_refl _)] at h2
  exact h2
variable {w : World} {base : Nat} {spare : Nat → Bool} {held : Bool} {enc : TypeId × Value → H} {v : Value} {d : DataW H} {ps : List MemPlace} {r : Reach} {b0 : Nat} {t : TypeId}
theorem par_sliceB {e : TypeId} {τ : Ty α} {ok : Nat → List α → Prop} (ht : P.underlying t = some (.slice e)) (ho : Opb H P t (tyList τ) ok) (hval : Value.okWide P w r b0 t v) (hd : DataW.Trod enc P w base spare held t v d ps) : ∃ xs, (∀ N, Rows.uptoBulk d ≤ N → ok N xs) ∧ (tyList τ).rep (Full w) w [v] xs := by
  obtain ⟨A, l, c, rfl⟩ := okWide_slice ht hval
  obtain ⟨fuel, hf⟩ := hd
  exact ho enc w base spare held fuel _ _ hf
end
end Go.Proofs.YtfhifdmbdkkgaaaGreatDoor.En
namespace Go.Proofs.YtfhifdmbdkkgaaaGreatDoor.En
open Go.RowKit YtfhifdmbdkkgaaaGreatDoor
@[reducible] def iq (x : Int) : Value := Value.int .i64 x
@[reducible] def uq (x : Int) : Value := Value.int .u64 x
@[reducible] def i8 (x : Int) : Value := Value.int .u8 x
@[reducible] def wq (x : Int) : Int := IntKind.i64.wrap x
@[reducible] def wu (x : Int) : Int := IntKind.u64.wrap x
@[reducible] def w8 (x : Int) : Int := IntKind.u8.wrap x
@[reducible] def nS : Value := Value.slice none 0 0
@[reducible] def fq (k : Nat) : Value := Value.func (.func k) #[] #[]
@[reducible] def tq : Ty Int := tyInt .i64
@[reducible] def pq (g : Nat) : Value := ptr g 0
end Go.Proofs.YtfhifdmbdkkgaaaGreatDoor.En
