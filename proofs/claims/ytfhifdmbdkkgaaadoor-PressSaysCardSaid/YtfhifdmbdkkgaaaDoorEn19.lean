/- An engine for walks: slices of whole boxes that are written (copy of a string, PutUint64). No condition. -/
import Derived.Test.YtfhifdmbdkkgaaaDoorEn18
import Derived.Lib.UnsafeStr
import Derived.Laws.CopyRow
import Derived.Laws.IdiomCopy
import Derived.Lib.AppendStr
namespace Go.Proofs.YtfhifdmbdkkgaaaDoor.En
open Go.RowKit
set_option linter.unusedVariables false
set_option linter.unusedSimpArgs false
/-- the slice of n cells of a box from a place on -/
def sbx (g off n : Nat) : Value := .slice (some ⟨g, off, none⟩) n n
theorem setCells_row (g : Nat) (t : TypeId) : ∀ (vs : List Value) (o : Nat) (cur : Array Value) (w : World), w.heap[g]? = some (.cells cur t (0, 0)) → o + vs.length ≤ cur.size →
    w.setCells g o vs = w.setRow g (cur.toList.take o ++ vs ++ cur.toList.drop (o + vs.length)).toArray
  | [], o, cur, w, hg, _ => by
    simp only [World.setCells, List.append_nil, List.length_nil, Nat.add_zero, List.take_append_drop, Array.toArray_toList]
    rw [setRow_self w g cur t (0, 0) hg]
  | v :: rest, o, cur, w, hg, hl => by
    rw [World.setCells, setCell_eq_setRow w g o cur t (0, 0) v hg]
    rw [setCells_row g t rest (o + 1) (cur.setIfInBounds o v) _ (setRow_heap w g cur _ t _ hg) (by simp at hl ⊢; omega), setRow_setRow]
    congr 2
    have e := list_seg_step cur.toList o v rest (by simp at hl ⊢; omega)
    simpa [Array.toList_setIfInBounds, Nat.add_assoc] using e
theorem bytes_one (l : List UInt8) : ∀ v ∈ Lib.byteCells l, v.oneCell' = true := by
  intro v hv
  simp only [Lib.byteCells, List.mem_map] at hv
  obtain ⟨b, _, rfl⟩ := hv
  rfl
theorem run_copyS {P : Program} (w : World) (dT sT ty elem : TypeId) (g o dLen : Nat) (xs : List UInt8) (cur : List Value) (t : TypeId) (hu : P.underlying dT = some (.slice elem)) (hs : szOf P elem = some 1)
    (hg : w.heap[g]? = some (.cells cur.toArray t (0, 0))) (hfit : o + dLen ≤ cur.length) :
    (Builtin.copy_ #[dT, sT] ty #[sbx g o dLen, str xs]).run P w =
      .ok (goInt (Nat.min xs.length dLen)) (w.setRow g (cur.take o ++ Lib.byteCells (xs.take dLen) ++ cur.drop (o + (xs.take dLen).length)).toArray) := by
  have hlen : (Lib.byteCells (xs.take dLen)).length = (xs.take dLen).length := Lib.byteCells_length _
  have hle : (xs.take dLen).length ≤ dLen := by rw [List.length_take]; exact Nat.min_le_left _ _
  have hst := run_storeCells_at P g o t (Lib.byteCells (xs.take dLen)) 0 cur.toArray w hg (by rw [hlen]; simp only [Nat.add_zero]; simp only [List.size_toArray]; omega) (bytes_one _)
  have htk : List.take (Nat.min xs.length dLen) (List.map (fun b : UInt8 => Value.int IntKind.u8 (b.toNat : Int)) xs) = Lib.byteCells (xs.take dLen) := by
    unfold Lib.byteCells
    rw [← List.map_take]
    congr 1
    rcases Nat.le_total xs.length dLen with h | h
    · rw [show Nat.min xs.length dLen = xs.length from Nat.min_eq_left h, List.take_length, List.take_of_length_le h]
    · rw [show Nat.min xs.length dLen = dLen from Nat.min_eq_right h]
  rw [hlen] at hst
  simp only [Nat.add_zero] at hst
  cases hq : P.info? elem with
  | none => unfold szOf at hs; rw [hq] at hs; simp at hs
  | some i =>
    simp [Builtin.copy_, sbx, str, run_underlying hu, Builtin.lenOf, Builtin.firstCells, sizeOf, typeInfo, hq, ByteArray.size]
    rw [htk, hst]
    simp [Result.andThen]
/-- append of a string's bytes: the new row lies in the old one's block or in a new one -/
theorem run_appendS {P : Program} (w : World) (base : Nat) (t u ty e : TypeId) (i : TypeInfo) (ht : P.underlying t = some (.slice e)) (hu : P.underlying u = some .string) (hi : P.info? e = some i) (hz : i.zero = some (.int .u8 0))
    (hsize : i.size = 1) (hby : i.bytes = 1) (v : Value) (n : Nat) (xs : List Value) (hown : w.ownsRow base e 1 v n xs) (s : ByteArray)
    (h63 : n + s.size ≤ maxLen) (hbytes : n + s.size ≤ 140737488355328) (hbase : base ≤ w.heap.size) :
    ∃ v' w', (Builtin.append_ #[t, u] ty #[v, .string s]).run P w = .ok v' w' ∧ w'.ownsRow base e 1 v' (n + s.size) (xs ++ Lib.strCells s) ∧ w.grownBy w' v.ownBlock ∧
      (v'.ownBlock = v.ownBlock ∨ v'.ownBlock = some w.heap.size) := by
  obtain ⟨v', w', hr, h1, h2, h3⟩ := Lib.run_append_own_string (P := P) w base t u ty e i ht hu hi hz hsize hby v n xs hown s h63 hbytes hbase
  refine ⟨v', w', hr, h1, h2, ?_⟩
  have hxl : xs.length = n := by simpa using hown.1
  rcases hown.2 with ⟨rfl, rfl⟩ | ⟨g, cap, cur, rfl, hbg, hg, hnc, hcm, hcs, htake⟩
  · by_cases hm : s.size = 0
    · left; rw [h3.2 ⟨rfl, hm⟩]
    · right
      have hq := run_append_nil_string (P := P) w t u ty e i (.int .u8 0) ht hu hi hz s (by omega) (by unfold maxLen at h63; omega) (by rw [hby]; omega)
      rw [hq] at hr
      cases hr
      rfl
  · by_cases hroom : n + s.size ≤ cap
    · left
      have hcs' : cur.size = cap := by simpa using hcs
      have hq := Lib.run_append_room_string (P := P) w t u ty e i ht hu hi hsize g n cap cur hg s hroom (by omega)
      rw [hq] at hr
      cases hr
      rfl
    · right
      have holds : ∀ j u, xs[j]? = some u → w.cell? ((⟨g, 0, none⟩ : Addr).add j) = some u := hown.cells (g := g) rfl
      have hq := Lib.run_append_grow_string (P := P) w t u ty e i (.int .u8 0) ht hu hi hz ⟨g, 0, none⟩ n cap xs (by rw [hsize]; simpa using hxl) holds s (by omega) (by unfold maxLen at h63; omega) (by rw [hby]; exact growslice_fits (by omega) (by omega))
      rw [hq] at hr
      cases hr
      rfl
section
variable {P : Program} {Q : Exit → Act → World → Prop} {n : Nat} {m : Mem} {S : Sl} {ops : Array Oper} {rest : List Oper} {o : Oper} {α β : Type}
theorem ov_sliceBox {i g off len : Nat} {t e et : TypeId} {cs : List Value} {y : Operand} (hi : m.own[i]? = some (oBox g et cs)) (hx : ev S y = some (ptr g off)) (ht : P.underlying t = some (.array len e)) (hsz : szOf P e = some 1) (ho : o.op = .slice t y none none none) :
    OpV P o n m S (sbx g off len) := fun w a hm hs => by
  unfold execOp
  simp only [ho, hs.ev hx, Option.map_none]
  simp [sbx, ptr, Instr.sliceAt, Instr.sureAddr, Instr.sliceBounds, Instr.sliceBound, asIntOf, Sem.run_bind, run_underlying ht, run_sizeOf' hsz, add_plain]
theorem box_step {w : World} (hm : Holds m w) {i g : Nat} {et : TypeId} {cs cs' : List Value} (hi : m.own[i]? = some (oBox g et cs)) : Holds (m.upd i (oBox g et cs')) (w.setRow g cs'.toArray) :=
  hm.upd hi ⟨rfl, rfl, rfl, by rw [size_setRow]; exact Nat.le_refl _, fun b _ hb => setRow_other w g b _ (by simpa [oBox] using hb)⟩ (by simp [oBox]) (fun b hb => .inl hb) (fun Z _ => setRow_heap w g cs.toArray cs'.toArray et (0, 0) (box_at hm hi))
theorem al_copyS {i g off len d : Nat} {et dT sT elem : TypeId} {cs cs' : List Value} {xs : List UInt8} {x y : Operand} (hi : m.own[i]? = some (oBox g et cs)) (hx : ev S x = some (sbx g off len)) (hy : ev S y = some (str xs))
    (hu : P.underlying dT = some (.slice elem)) (hsz : szOf P elem = some 1) (hfit : Nat.ble (off + len) cs.length = true) (hcs : cs.take off ++ Lib.byteCells (xs.take len) ++ cs.drop (off + (xs.take len).length) = cs')
    (ho : o.op = .call { callee := .builtin .copy, args := #[x, y], argTypes := #[dT, sT] })
    (h : AL P ops rest Q n (m.upd i (oBox g et cs')) (put S d (.int .i64 ((Nat.min xs.length len : Nat) : Int)))) (hdd : o.dst = some d := by rfl) (hd : Nat.blt d n = true := by rfl) (hg : wantS ops S o true = true := by rfl) : AL P ops (o :: rest) Q n m S :=
  al_step hg fun w a hm hs K hK => by
    have hr := run_copyS (P := P) w dT sT o.type elem g off len xs cs et hu hsz (box_at hm hi) (by simpa [Nat.ble_eq] using hfit)
    rw [hcs] at hr
    refine step_val (w' := w.setRow g cs'.toArray) (v := .int .i64 ((Nat.min xs.length len : Nat) : Int)) ?_ (hK _ _ (h _ _ (box_step hm hi) (hs.put' hdd hd _)))
    unfold execOp; simp only [ho, resolve, invoke, builtin, Sem.run_bind, Sem.run_pure, Result.andThen_ok, List.map_toArray, List.map_cons, List.map_nil, hs.ev hx, hs.ev hy, hr, goInt]
theorem al_appendS {d : Nat} {v : Value} {xs ys : List UInt8} (i : Nat) {t u e : TypeId} {x y : Operand} (hb : xs.length + ys.length ≤ 140737488355328) (hi : m.own[i]? = some (oRow v e tyU8 xs)) (hx : ev S x = some v) (hy : ev S y = some (str ys))
    (ht : P.underlying t = some (.slice e)) (hu : P.underlying u = some .string) (hin : tyOf P e = some (1, 1, some (.int .u8 0))) (ho : o.op = .call { callee := .builtin .append, args := #[x, y], argTypes := #[t, u] })
    (h : ∀ v', AL P ops rest Q n (m.upd i (oRow v' e tyU8 (xs ++ ys))) (put S d v')) (hdd : o.dst = some d := by rfl) (hd : Nat.blt d n = true := by rfl) (hg : wantS ops S o true = true := by rfl) : AL P ops (o :: rest) Q n m S :=
  al_step hg fun w a hmm hs K hK => by
    obtain ⟨inf, hi1, hi2, hi3, hi4⟩ := tyOf_parts hin
    obtain ⟨cs, h1, h2⟩ := own_at hmm hi
    have hsz : (⟨ys.toArray⟩ : ByteArray).size = ys.length := by simp [ByteArray.size]
    obtain ⟨v', w', hr, h3, h4, h5⟩ := run_appendS (P := P) w 0 t u o.type e inf ht hu hi1 hi2 hi3 hi4 v xs.length cs h1 ⟨ys.toArray⟩ (by rw [hsz]; unfold maxLen; omega) (by rw [hsz]; exact hb) (Nat.zero_le _)
    rw [hsz] at h3
    refine step_val (w' := w') (v := v') (by unfold execOp; simp only [ho, resolve, invoke, builtin, Sem.run_bind, Sem.run_pure, Result.andThen_ok, List.map_toArray, List.map_cons, List.map_nil, hs.ev hx, hs.ev hy, str, hr]) ?_
    refine hK _ _ (h v' _ _ (hmm.upd hi ⟨h4.os, h4.tape, h4.output, h4.size, fun b hb1 hb2 => h4.block b hb1 (fun e => hb2 (by simp [oRow, ← e]))⟩ (ownBlock_nodup _) (fun b hb' => ?_) (fun Z hZ => ?_)) (hs.put' hdd hd _))
    · have hb' : v'.ownBlock = some b := by simpa [oRow] using hb'
      rcases h5 with h5 | h5
      · exact .inl (by simp [oRow, ← h5, hb'])
      · rw [hb'] at h5; exact .inr (by have := Option.some.inj h5; omega)
    · have hag : Agr (m.frz w) w w' := fun b hb' => h4.block b hb'.1 (fun e => hb'.2.1 (List.mem_flatMap.2 ⟨_, List.mem_of_getElem? hi, by simp [oRow, ← e]⟩))
      refine ⟨cs ++ Lib.strCells ⟨ys.toArray⟩, by rw [List.length_append]; exact h3, ?_⟩
      exact ((h2.keep hag).mono hZ).append (by rw [Lib.strCells_eq]; exact u8_row ys)
end
/-- PutUint64 into a box -/
theorem fnok_put8 {P : Program} {f : FuncId} {g off len t v zt : Nat} {cs cs' : List Value} {l : List UInt8} (hl : l.length = 8) (hfit : off + 8 ≤ cs.length) (hcs : cs.take off ++ Lib.byteCells l ++ cs.drop (off + 8) = cs')
    (H : ∀ (x0 x1 x2 x3 x4 x5 x6 x7 : Value) (w : World), w.cell? ⟨g, off, none⟩ = some x0 → w.cell? ⟨g, off + 1, none⟩ = some x1 → w.cell? ⟨g, off + 2, none⟩ = some x2 → w.cell? ⟨g, off + 3, none⟩ = some x3 → w.cell? ⟨g, off + 4, none⟩ = some x4 → w.cell? ⟨g, off + 5, none⟩ = some x5 → w.cell? ⟨g, off + 6, none⟩ = some x6 → w.cell? ⟨g, off + 7, none⟩ = some x7 →
      w.frozen? ⟨g, off, none⟩ = false → w.frozen? ⟨g, off + 1, none⟩ = false → w.frozen? ⟨g, off + 2, none⟩ = false → w.frozen? ⟨g, off + 3, none⟩ = false → w.frozen? ⟨g, off + 4, none⟩ = false → w.frozen? ⟨g, off + 5, none⟩ = false → w.frozen? ⟨g, off + 6, none⟩ = false → w.frozen? ⟨g, off + 7, none⟩ = false →
      Calls P f #[.agg #[], sbx g off len, .int .u64 v] w fun e w' => e = .returned (.tuple #[]) ∧ w' = (w.alloc (.cells #[] zt)).setCells g off (Lib.byteCells l)) :
    FnOk P f [ag [], sbx g off len, .int .u64 v] [] [oBox g t cs] (fun _ : Unit => { val := .tuple #[], own := [oBox g t cs'] }) := fun w Z hZ hnd hX hpre hoin => by
  have hb : w.heap[g]? = some (.cells cs.toArray t (0, 0)) := hoin _ (.head _)
  have hglt : g < w.heap.size := (Array.getElem?_eq_some_iff.1 hb).1
  have hc : ∀ k, k < 8 → w.cell? ⟨g, off + k, none⟩ = some (cs.getD (off + k) undef) := fun k hk => by
    have : off + k < cs.length := by omega
    simp [World.cell?, hb, List.getD_eq_getElem?_getD, List.getElem?_eq_getElem this]
  have hf : ∀ k, w.frozen? ⟨g, off + k, none⟩ = false := fun k => by simp [World.frozen?, hb]
  refine (H _ _ _ _ _ _ _ _ w (hc 0 (by omega)) (hc 1 (by omega)) (hc 2 (by omega)) (hc 3 (by omega)) (hc 4 (by omega)) (hc 5 (by omega)) (hc 6 (by omega)) (hc 7 (by omega)) (hf 0) (hf 1) (hf 2) (hf 3) (hf 4) (hf 5) (hf 6) (hf 7)).mono fun e w' ⟨he, hw⟩ => ?_
  have hb2 : (w.alloc (.cells #[] zt)).heap[g]? = some (.cells cs.toArray t (0, 0)) := (((Below.refl w.heap.size w).alloc (Nat.le_refl _) (.cells #[] zt)).block g hglt).trans hb
  have hlen : (Lib.byteCells l).length = 8 := by rw [Lib.byteCells_length, hl]
  have hrow := setCells_row g t (Lib.byteCells l) off cs.toArray (w.alloc (.cells #[] zt)) hb2 (by rw [hlen]; simpa using hfit)
  rw [hlen, hcs] at hrow
  have hbel : Below w.heap.size w (w.alloc (.cells #[] zt)) := (Below.refl _ _).alloc (Nat.le_refl _) _
  refine ⟨(), he, ?_, ?_, ?_, ?_⟩
  · rw [hw, hrow]
    exact ⟨hbel.os, hbel.tape, hbel.output, by rw [size_setRow]; exact hbel.size, fun k hk hk2 => (setRow_other _ g k _ (by simpa [oBox] using hk2)).trans (hbel.block k hk)⟩
  · simp [oBox]
  · intro b hb'; left; simpa [oBox] using hb'
  · intro Z' hZ'
    refine ⟨?_, by simp⟩
    intro o ho
    rw [List.mem_singleton.1 ho, hw, hrow]
    exact setRow_heap _ g cs.toArray cs'.toArray t (0, 0) hb2
end Go.Proofs.YtfhifdmbdkkgaaaDoor.En
