/- An engine for walks: memory, calls, entry and return. No condition. -/
import Derived.Test.YtfhifdmbdkkgaaaDoorEn2
namespace Go.Proofs.YtfhifdmbdkkgaaaDoor.En
open Go.RowKit
set_option linter.unusedVariables false
set_option linter.unusedSimpArgs false
def ag (cs : List Value) : Value := .agg cs.toArray
def ptr (g o : Nat) : Value := .pointer (some ⟨g, o, none⟩)
def szOf (P : Program) (t : TypeId) : Option Nat := (P.info? t).map (·.size)
def zeroOf (P : Program) (t : TypeId) : Option Value := (P.info? t).bind (·.zero)
def isAggD : TypeDesc → Bool
  | .struct _ | .array _ _ => true
  | _ => false
section
variable {P : Program}
theorem run_sizeOf' {t : TypeId} {k : Nat} (h : szOf P t = some k) (w : World) : (sizeOf t).run P w = .ok k w := by
  unfold szOf at h
  cases hq : P.info? t with
  | none => simp [hq] at h
  | some i => have hs : i.size = k := by simpa [hq] using h
              simp [sizeOf, typeInfo, hq, hs]
theorem run_zeroValue' {t : TypeId} {z : Value} (h : zeroOf P t = some z) (w : World) : (zeroValue t).run P w = .ok z w := by
  unfold zeroOf at h
  cases hq : P.info? t with
  | none => simp [hq] at h
  | some i => have hs : i.zero = some z := by simpa [hq] using h
              simp [zeroValue, typeInfo, hq, hs]
theorem run_isAgg' {t : TypeId} {d : TypeDesc} (h : P.underlying t = some d) (w : World) : (isAgg t).run P w = .ok (isAggD d) w := by
  unfold isAgg
  rw [Sem.run_bind, run_underlying h w]
  cases d <;> rfl
/-- what a variable holds, read -/
def mk (d : TypeDesc) (cs : List Value) : Value := if isAggD d then ag cs else cs.headD undef
theorem run_loadVar' {t : TypeId} {d : TypeDesc} {k : Nat} (hu : P.underlying t = some d) (hs : szOf P t = some k) (w : World) (ad : Addr) (cs : List Value) (hl : cs.length = k) (h1 : isAggD d = false → k = 1)
    (hc : ∀ j u, cs[j]? = some u → w.cell? (ad.add j) = some u) : (loadVar t ad).run P w = .ok (mk d cs) w := by
  unfold loadVar mk
  rw [Sem.run_bind, run_isAgg' hu w, Result.andThen_ok]
  cases hd : isAggD d with
  | true =>
    have h2 := run_loadCells_list (P := P) w ad cs hc
    rw [hl] at h2
    simp [Sem.run_bind, run_sizeOf' hs w, h2, ag]
  | false =>
    have hk := h1 hd
    subst hk
    obtain ⟨u, rfl⟩ : ∃ u, cs = [u] := by
      match cs, hl with
      | [u], _ => exact ⟨u, rfl⟩
    have h0 := hc 0 u rfl
    rw [show ad.add 0 = ad from rfl] at h0
    simp [load, Sem.run, h0]
theorem run_storeVar' {t : TypeId} {k : Nat} (hs : szOf P t = some k) (w : World) (g off : Nat) (v : Value) (et : TypeId) (old vs : List Value) (hv : v.cells.toList = vs) (hl : vs.length = k) (hg : w.heap[g]? = some (.cells old.toArray et (0, 0)))
    (hfit : off + k ≤ old.length) (h1 : ∀ u ∈ vs, u.oneCell' = true) :
    (storeVar t ⟨g, off, none⟩ v).run P w = .ok () (w.setRow g (old.take off ++ vs ++ old.drop (off + k)).toArray) := by
  have h2 := run_storeCells_at (P := P) g off et vs 0 old.toArray w hg (by simp; omega) h1
  simp only [Nat.add_zero, List.size_toArray, hl] at h2
  have h3 : v.cells.size = k := by rw [← Array.length_toList, hv, hl]
  unfold storeVar
  simp [Sem.run_bind, run_sizeOf' hs w, h3, hv, h2]
theorem run_fieldPlace' {f : Field} {k : Nat} (h : szOf P f.type = some k) (hk : Nat.beq k 0 = false) (w : World) (ad : Addr) : (fieldPlace ad f).run P w = .ok (ad.add f.offset) w := by
  have hk' := Nat.ne_of_beq_eq_false hk
  unfold fieldPlace
  simp [Sem.run_bind, run_sizeOf' h w, hk']
end
/-! ### boxes -/
section
variable {P : Program} {Q : Exit → Act → World → Prop} {n : Nat} {m : Mem} {S : Sl} {ops : Array Oper} {rest : List Oper} {o : Oper}
theorem step_val {v : Value} {w w' : World} {a : Act} {K : Act → World → Prop} (hr : (execOp a.eval o).run P w = .ok (.value v) w') (h : K (a.put o.dst v) w') : o.wp P a w K Q := by
  unfold Oper.wp; rw [hr, Oper.upon_value]; exact h
theorem step_skip {w w' : World} {a : Act} {K : Act → World → Prop} (hr : (execOp a.eval o).run P w = .ok .skip w') (h : K (a.put o.dst undef) w') : o.wp P a w K Q := by
  unfold Oper.wp; rw [hr, Oper.upon_skip]; exact h
theorem box_push {w : World} (hm : Holds m w) (t : TypeId) (cs : List Value) : Holds (m.push (oBox w.heap.size t cs)) (w.alloc (.cells cs.toArray t)) :=
  hm.push ((Below.refl _ _).alloc (Nat.le_refl _) _) (by simp [oBox]) (by simp [oBox]) (fun Z _ => heap_alloc_new w _)
theorem al_alloc {d : Nat} {t : TypeId} {z : Value} {zs : List Value} (hz : zeroOf P t = some z) (hzs : z.cells = zs.toArray) (ho : o.op = .alloc t)
    (h : ∀ g, AL P ops rest Q n (m.push (oBox g t zs)) (put S d (ptr g 0))) (hdd : o.dst = some d := by rfl) (hd : Nat.blt d n = true := by rfl) (hg : wantS ops S o true = true := by rfl) : AL P ops (o :: rest) Q n m S :=
  al_step hg fun w a hm hs K hK => by
    refine step_val (v := ptr w.heap.size 0) (w' := w.alloc (.cells zs.toArray t)) ?_ (hK _ _ (h _ _ _ (box_push hm t zs) (hs.put' hdd hd _)))
    unfold execOp
    simp only [ho]
    simp [Instr.alloc, Sem.run_bind, run_zeroValue' hz w, newVar, newRow, newObj, hzs, ptr]
    rfl
theorem sl_fz {α : Type} {τ : Ty α} {v : Value} {xs : List α} (i : Nat) (hi : m.fz[i]? = some (fDat (tyList τ) [v] xs)) {w : World} (hm : Holds m w) : ∃ A l c, v = .slice A l c := by
  obtain ⟨A, l, c, he, _⟩ := hm.fz _ (List.mem_of_getElem? hi)
  exact ⟨A, l, c, by simpa using he⟩
theorem sl_own {α : Type} {τ : Ty α} {v : Value} {e : TypeId} {xs : List α} (i : Nat) (hi : m.own[i]? = some (oRow v e τ xs)) {w : World} (hm : Holds m w) : ∃ A l c, v = .slice A l c := by
  obtain ⟨cs, h1, _⟩ := hm.own _ (List.mem_of_getElem? hi)
  rcases h1.2 with ⟨rfl, _⟩ | ⟨g, cap, cur, rfl, _⟩
  · exact ⟨_, _, _, rfl⟩
  · exact ⟨_, _, _, rfl⟩
/-- the cells of a value that stands in a place -/
def CV (m : Mem) (v : Value) (vs : List Value) : Prop := ∀ {w : World}, Holds m w → v.cells = vs.toArray
def CO (m : Mem) (vs : List Value) : Prop := ∀ {w : World}, Holds m w → ∀ u ∈ vs, u.oneCell' = true
theorem cells_one {v : Value} (h : v.oneCell' = true) : v.cells = #[v] := by cases v <;> first | rfl | cases h
theorem list_one {α : Type} {τ : Ty α} {Z : Nat → Prop} {w : World} {v : Value} {xs : List α} (h : (tyList τ).rep Z w [v] xs) : v.oneCell' = true := (tyList τ).one h v (by simp)
theorem row_one {α : Type} {v : Value} {e : TypeId} {τ : Ty α} {xs : List α} {Z : Nat → Prop} {w : World} (h : (oRow v e τ xs).p Z w) : v.oneCell' = true := by
  obtain ⟨cs, h1, _⟩ := h
  rcases h1.2 with ⟨rfl, _⟩ | ⟨g, cap, cur, rfl, _⟩ <;> rfl
theorem cv_rfl {v : Value} {vs : List Value} (h : v.cells = vs.toArray) : CV m v vs := fun _ => h
theorem cv_fz {α : Type} {τ : Ty α} {v : Value} {xs : List α} (i : Nat) (hi : m.fz[i]? = some (fDat (tyList τ) [v] xs)) : CV m v [v] := fun hm => cells_one (list_one (hm.fz _ (List.mem_of_getElem? hi)))
theorem cv_own {α : Type} {τ : Ty α} {v : Value} {e : TypeId} {xs : List α} (i : Nat) (hi : m.own[i]? = some (oRow v e τ xs)) : CV m v [v] := fun hm => cells_one (row_one (hm.own _ (List.mem_of_getElem? hi)))
theorem co_nil : CO m [] := fun _ _ h => absurd h (by simp)
theorem co_cons {v : Value} {l : List Value} (h : ∀ {w : World}, Holds m w → v.oneCell' = true) (hl : CO m l) : CO m (v :: l) := fun hm u hu => by
  rcases List.mem_cons.1 hu with rfl | hu
  · exact h hm
  · exact hl hm u hu
theorem co_val {v : Value} {l : List Value} (h : v.oneCell' = true) (hl : CO m l) : CO m (v :: l) := co_cons (fun _ => h) hl
theorem co_fz {α : Type} {τ : Ty α} {v : Value} {xs : List α} {l : List Value} (i : Nat) (hi : m.fz[i]? = some (fDat (tyList τ) [v] xs)) (hl : CO m l) : CO m (v :: l) := co_cons (fun hm => list_one (hm.fz _ (List.mem_of_getElem? hi))) hl
theorem co_own {α : Type} {τ : Ty α} {v : Value} {e : TypeId} {xs : List α} {l : List Value} (i : Nat) (hi : m.own[i]? = some (oRow v e τ xs)) (hl : CO m l) : CO m (v :: l) := co_cons (fun hm => row_one (hm.own _ (List.mem_of_getElem? hi))) hl
/-- the cells of values in a row -/
def BS (m : Mem) (sz : Nat) (vs cs : List Value) : Prop := ∀ {w : World}, Holds m w → (∀ v ∈ vs, v.cells.size = sz) ∧ vs.flatMap (fun v => v.cells.toList) = cs
theorem bs_nil {sz : Nat} : BS m sz [] [] := fun _ => ⟨fun _ h => absurd h (by simp), rfl⟩
theorem bs_cons {sz : Nat} {v : Value} {l vs cs : List Value} (h : CV m v l) (hl : l.length = sz) (hr : BS m sz vs cs) : BS m sz (v :: vs) (l ++ cs) := fun hm => by
  obtain ⟨h1, h2⟩ := hr hm
  refine ⟨fun u hu => ?_, ?_⟩
  · rcases List.mem_cons.1 hu with rfl | hu
    · rw [h hm]; simpa using hl
    · exact h1 u hu
  · rw [List.flatMap_cons, h2, h hm]
theorem al_box {d : Nat} {t : TypeId} {x : Operand} {v : Value} {vs : List Value} (hx : ev S x = some v) (hv : CV m v vs) (ho : o.op = .box t x)
    (h : ∀ g, AL P ops rest Q n (m.push (oBox g t vs)) (put S d (ptr g 0))) (hdd : o.dst = some d := by rfl) (hd : Nat.blt d n = true := by rfl) (hg : wantS ops S o true = true := by rfl) : AL P ops (o :: rest) Q n m S :=
  al_step hg fun w a hm hs K hK => by
    refine step_val (v := ptr w.heap.size 0) (w' := w.alloc (.cells vs.toArray t)) ?_ (hK _ _ (h _ _ _ (box_push hm t vs) (hs.put' hdd hd _)))
    unfold execOp
    simp only [ho, hs.ev hx]
    simp [Instr.box, Sem.run_bind, newVar, newRow, newObj, hv hm, ptr]
    rfl
theorem box_at {w : World} (hm : Holds m w) {i g : Nat} {t : TypeId} {cs : List Value} (hi : m.own[i]? = some (oBox g t cs)) : w.heap[g]? = some (.cells cs.toArray t (0, 0)) := hm.own _ (List.mem_of_getElem? hi)
theorem box_cell {w : World} (hm : Holds m w) {i g : Nat} {t : TypeId} {cs : List Value} (hi : m.own[i]? = some (oBox g t cs)) (off j : Nat) : w.cell? ((⟨g, off, none⟩ : Addr).add j) = cs[off + j]? := by
  rw [add_plain, cell_of_row _ _ _ _ _ _ (box_at hm hi)]; simp
theorem ov_load {t : TypeId} {d : TypeDesc} {x : Operand} {i g off k : Nat} {et : TypeId} {cs : List Value} {v : Value} (hi : m.own[i]? = some (oBox g et cs)) (hx : ev S x = some (ptr g off)) (hu : P.underlying t = some d) (hsz : szOf P t = some k)
    (h1 : (isAggD d || Nat.beq k 1) = true) (hl : ((cs.drop off).take k).length = k) (hv : mk d ((cs.drop off).take k) = v) (ho : o.op = .load t x) : OpV P o n m S v := fun w a hm hs => by
  have hr := run_loadVar' hu hsz w ⟨g, off, none⟩ ((cs.drop off).take k) hl (fun hd => by rw [hd] at h1; exact Nat.eq_of_beq_eq_true (by simpa using h1)) (fun j u hj => by
    rw [box_cell hm hi]
    rw [List.getElem?_take] at hj
    split at hj
    · rw [List.getElem?_drop] at hj; exact hj
    · cases hj)
  unfold execOp
  simp only [ho, hs.ev hx]
  simp [Instr.loadAt, Instr.sureAddr, ptr, hr, hv]
theorem al_store {t : TypeId} {x y : Operand} {i g off k : Nat} {et : TypeId} {cs cs' vs : List Value} {v : Value} (hi : m.own[i]? = some (oBox g et cs)) (hx : ev S x = some (ptr g off)) (hy : ev S y = some v) (hsz : szOf P t = some k) (hv : CV m v vs) (hl : vs.length = k)
    (hone : CO m vs) (hfit : off + k ≤ cs.length) (hcs : cs.take off ++ vs ++ cs.drop (off + k) = cs') (ho : o.op = .store t x y)
    (h : AL P ops rest Q n (m.upd i (oBox g et cs')) S) (hdst : o.dst = none := by rfl) (hg : wantS ops S o true = true := by rfl) : AL P ops (o :: rest) Q n m S :=
  al_step hg fun w a hm hs K hK => by
    have hr := run_storeVar' hsz w g off v et cs vs (by rw [hv hm]) hl (box_at hm hi) hfit (hone hm)
    rw [hcs] at hr
    refine step_skip (w' := w.setRow g cs'.toArray) ?_ (hK _ _ (h _ _ (hm.upd hi ⟨rfl, rfl, rfl, by rw [size_setRow]; exact Nat.le_refl _, fun b _ hb => setRow_other w g b _ (by simpa [oBox] using hb)⟩ (by simp [oBox]) (fun b hb => .inl hb) (fun Z _ => setRow_heap w g cs.toArray cs'.toArray et (0, 0) (box_at hm hi))) (by rw [hdst]; exact hs)))
    unfold execOp
    simp only [ho, hs.ev hx, hs.ev hy]
    simp [Instr.storeAt, Instr.sureAddr, ptr, hr]
theorem ov_fieldAddr {t : TypeId} {x : Operand} {j g off k : Nat} {fs : Array Field} {f : Field} (hx : ev S x = some (ptr g off)) (hu : P.underlying t = some (.struct fs)) (hf : fs[j]? = some f) (hk : szOf P f.type = some k) (hk0 : Nat.beq k 0 = false) (ho : o.op = .fieldAddr t x j) : OpV P o n m S (ptr g (off + f.offset)) := fun w a hm hs => by
  unfold execOp
  simp only [ho, hs.ev hx]
  have h1 := run_fieldPlace' hk hk0 w ⟨g, off, none⟩
  rw [add_plain] at h1
  simp [Instr.fieldAt, Sem.run_bind, run_underlying hu, hf, Instr.sureAddr, ptr, h1]
theorem ov_idxArr {t e : TypeId} {x y : Operand} {g off len sz : Nat} {k : IntKind} {j : Int} (h0 : 0 ≤ j) (h1 : j < len) (hx : ev S x = some (ptr g off)) (hy : ev S y = some (.int k j)) (hu : P.underlying t = some (.array len e)) (hsz : szOf P e = some sz) (ho : o.op = .indexAddr t x y) :
    OpV P o n m S (ptr g (off + j.toNat * sz)) := fun w a hm hs => by
  unfold execOp
  simp only [ho, hs.ev hx, hs.ev hy]
  simp [Instr.indexAt, asIntOf, Sem.run_bind, run_underlying hu, Instr.sureAddr, ptr, h0, h1, run_sizeOf' hsz, add_plain]
theorem ov_field {t : TypeId} {x : Operand} {j k : Nat} {fs : Array Field} {f : Field} {cs : List Value} {d : TypeDesc} {v : Value} (hx : ev S x = some (ag cs)) (hu : P.underlying t = some (.struct fs)) (hf : fs[j]? = some f) (hd : P.underlying f.type = some d) (hk : szOf P f.type = some k)
    (h1 : (isAggD d || Nat.blt f.offset cs.length) = true) (hv : (if isAggD d then ag ((cs.drop f.offset).take k) else cs.getD f.offset undef) = v) (ho : o.op = .field t x j) : OpV P o n m S v := fun w a hm hs => by
  unfold execOp
  simp only [ho, hs.ev hx]
  subst hv
  cases hdd : isAggD d with
  | true => simp [Instr.field, run_underlying hu, hf, asAgg, ag, part, Sem.run_bind, run_isAgg' hd, hdd, run_sizeOf' hk, List.extract_eq_take_drop]
  | false =>
    rw [hdd, Bool.false_or] at h1
    have hlt : f.offset < cs.length := by simpa [Nat.blt_eq] using h1
    simp [Instr.field, run_underlying hu, hf, asAgg, ag, part, Sem.run_bind, run_isAgg' hd, hdd, List.getElem?_eq_getElem hlt, List.getD_eq_getElem?_getD]
theorem ov_build {t : TypeId} {parts : Array (Nat × Operand)} {cells : Array Value} {cs : List Value} (ho : o.op = .build t parts) (hb : ∀ w a, Holds m w → Sat n S a → P.built t ((parts.map fun (i, x) => (i, a.eval x)).toList) = some cs.toArray) : OpV P o n m S (ag cs) := fun w a hm hs => by
  unfold execOp
  simp only [ho]
  have := run_build (P := P) w t (parts.map fun (i, x) => (i, a.eval x)) cs.toArray (hb w a hm hs)
  simp [this, ag]
end
/-! ### data that is only read -/
/-- the field at an offset -/
def Sub {α β : Type} (t : Ty α) (off : Nat) (u : Ty β) (p : α → β) : Prop := ∀ {Z w cs x}, t.rep Z w cs x → u.rep Z w ((cs.drop off).take u.size) (p x)
theorem Sub.whole {α : Type} (t : Ty α) : Sub t 0 t (fun x => x) := fun h => by
  rw [List.drop_zero, List.take_of_length_le (by rw [t.len h]; exact Nat.le_refl _)]; exact h
theorem Sub.fst {α β γ : Type} {a : Ty α} {b : Ty β} {u : Ty γ} {off : Nat} {p : α → γ} (h : Sub a off u p) : Sub (tyPair a b) off u (fun x => p x.1) := fun hr => by
  obtain ⟨c1, c2, rfl, h1, h2⟩ := hr
  have h3 := h h1
  have hl := u.len h3
  rw [List.length_take, List.length_drop] at hl
  by_cases hu : u.size = 0
  · rw [hu, List.take_zero] at h3 ⊢; exact h3
  · rw [List.drop_append_of_le_length (by omega), List.take_append_of_le_length (by rw [List.length_drop]; omega)]; exact h3
theorem Sub.snd {α β γ : Type} {a : Ty α} {b : Ty β} {u : Ty γ} {off : Nat} {p : β → γ} (h : Sub b off u p) : Sub (tyPair a b) (a.size + off) u (fun x => p x.2) := fun hr => by
  obtain ⟨c1, c2, rfl, h1, h2⟩ := hr
  have h3 := h h2
  have e : (c1 ++ c2).drop a.size = c2 := by
    rw [List.drop_append_of_le_length (by rw [a.len h1]; exact Nat.le_refl _), List.drop_of_length_le (by rw [a.len h1]; exact Nat.le_refl _), List.nil_append]
  rw [← List.drop_drop, e]
  exact h3
theorem Sub.via {α β γ : Type} {f : α → β} {b : Ty β} {u : Ty γ} {off : Nat} {p : β → γ} (h : Sub b off u p) : Sub (tyVia f b) off u (fun x => p (f x)) := fun hr => h hr
def at? {α : Type} (xs : List α) (i : Int) : Option α := if 0 ≤ i then xs[i.toNat]? else none
theorem at_some {α : Type} {xs : List α} {i : Int} {x : α} (h : at? xs i = some x) : 0 ≤ i ∧ i < xs.length ∧ xs[i.toNat]? = some x := by
  unfold at? at h
  split at h
  · rename_i h0
    have := (List.getElem?_eq_some_iff.1 h).1
    exact ⟨h0, by omega, h⟩
  · cases h
section
variable {P : Program} {Q : Exit → Act → World → Prop} {n : Nat} {m : Mem} {S : Sl} {ops : Array Oper} {rest : List Oper} {o : Oper} {α β : Type}
theorem fz_at {w : World} (hm : Holds m w) {i : Nat} {f : Fact} (hi : m.fz[i]? = some f) : f.p (m.frz w) w := hm.fz f (List.mem_of_getElem? hi)
theorem own_at {w : World} (hm : Holds m w) {i : Nat} {f : Own} (hi : m.own[i]? = some f) : f.p (m.frz w) w := hm.own f (List.mem_of_getElem? hi)
theorem ov_lenD {τ : Ty α} {v : Value} {xs : List α} (i : Nat) {t e : TypeId} {x : Operand} (hi : m.fz[i]? = some (fDat (tyList τ) [v] xs)) (hx : ev S x = some v) (ht : P.underlying t = some (.slice e)) (ho : o.op = .call { callee := .builtin .len, args := #[x], argTypes := #[t] }) : OpV P o n m S (.int .i64 xs.length) := fun w a hm hs => by
  obtain ⟨A, k, c, he, hk, _⟩ := fz_at hm hi
  have he' : v = .slice A k c := by simpa using he
  unfold execOp
  simp [ho, resolve, invoke, builtin, hs.ev hx, he', hk, Builtin.len_, run_underlying ht, goInt]
theorem ov_lenR {τ : Ty α} {v : Value} {xs : List α} (i : Nat) {t e et : TypeId} {x : Operand} (hi : m.own[i]? = some (oRow v et τ xs)) (hx : ev S x = some v) (ht : P.underlying t = some (.slice e)) (ho : o.op = .call { callee := .builtin .len, args := #[x], argTypes := #[t] }) : OpV P o n m S (.int .i64 xs.length) := fun w a hm hs => by
  obtain ⟨cs, h1, h2⟩ := own_at hm hi
  have he' : ∃ A c, v = .slice A xs.length c := by
    rcases h1.2 with ⟨rfl, hn⟩ | ⟨g, cap, cur, rfl, _⟩
    · exact ⟨none, 0, by rw [hn]⟩
    · exact ⟨_, _, rfl⟩
  obtain ⟨A, c, rfl⟩ := he'
  unfold execOp
  simp [ho, resolve, invoke, builtin, hs.ev hx, Builtin.len_, run_underlying ht, goInt]
theorem ov_lenN {t e : TypeId} {x : Operand} {A : Option Addr} {k c : Nat} (hx : ev S x = some (.slice A k c)) (ht : P.underlying t = some (.slice e)) (ho : o.op = .call { callee := .builtin .len, args := #[x], argTypes := #[t] }) : OpV P o n m S (.int .i64 k) := fun w a hm hs => by
  unfold execOp
  simp [ho, resolve, invoke, builtin, hs.ev hx, Builtin.len_, run_underlying ht, goInt]
theorem of_idxD {τ : Ty α} {v : Value} {xs : List α} (i : Nat) {t e : TypeId} {x y : Operand} {k : IntKind} {j : Int} {u : α} (hu : at? xs j = some u) (hi : m.fz[i]? = some (fDat (tyList τ) [v] xs)) (hx : ev S x = some v) (hy : ev S y = some (.int k j)) (ht : P.underlying t = some (.slice e)) (hsz : szOf P e = some τ.size) (ho : o.op = .indexAddr t x y) : OpF P o n m S (fun p => fPtr τ p u) := fun w a hm hs => by
    obtain ⟨A, l, c, he, hl, _, _, hr⟩ := fz_at hm hi
    have he' : v = .slice A l c := by simpa using he
    obtain ⟨h0, h1, h2⟩ := at_some hu
    rcases hr with hr | ⟨ad, cs, rfl, hca, hrep⟩
    · omega
    refine ⟨.pointer (some (ad.add (j.toNat * τ.size))), ?_, _, _, rfl, (hca.drop (j.toNat * τ.size)).take τ.size, hrep.at h2⟩
    unfold execOp
    simp only [ho, hs.ev hx, hs.ev hy]
    simp [Instr.indexAt, asIntOf, Sem.run_bind, run_underlying ht, he', h0, hl, h1, run_sizeOf' hsz]
theorem al_idxD {d : Nat} {τ : Ty α} {v : Value} {xs : List α} (i : Nat) {t e : TypeId} {x y : Operand} {k : IntKind} {j : Int} {u : α} (hu : at? xs j = some u) (hi : m.fz[i]? = some (fDat (tyList τ) [v] xs)) (hx : ev S x = some v) (hy : ev S y = some (.int k j)) (ht : P.underlying t = some (.slice e)) (hsz : szOf P e = some τ.size) (ho : o.op = .indexAddr t x y)
    (h : ∀ p, AL P ops rest Q n (m.add (fPtr τ p u)) (put S d p)) (hdd : o.dst = some d := by rfl) (hd : Nat.blt d n = true := by rfl) (hg : wantS ops S o true = true := by rfl) : AL P ops (o :: rest) Q n m S :=
  al_fact (R := fun p => fPtr τ p u) (of_idxD i hu hi hx hy ht hsz ho) h hdd hd hg
theorem of_fieldD {τ : Ty α} {υ : Ty β} {v : Value} {x : α} {pr : α → β} (i : Nat) {t : TypeId} {y : Operand} {j : Nat} {fs : Array Field} {f : Field} (hi : m.fz[i]? = some (fPtr τ v x)) (hsub : Sub τ f.offset υ pr) (hx : ev S y = some v) (hu : P.underlying t = some (.struct fs)) (hf : fs[j]? = some f) (hk : szOf P f.type = some υ.size) (hk0 : Nat.beq υ.size 0 = false) (ho : o.op = .fieldAddr t y j) : OpF P o n m S (fun p => fPtr υ p (pr x)) := fun w a hm hs => by
    obtain ⟨ad, cs, rfl, hca, hrep⟩ := fz_at hm hi
    refine ⟨.pointer (some (ad.add f.offset)), ?_, _, _, rfl, (hca.drop f.offset).take υ.size, hsub hrep⟩
    unfold execOp
    simp only [ho, hs.ev hx]
    simp [Instr.fieldAt, Sem.run_bind, run_underlying hu, hf, Instr.sureAddr, run_fieldPlace' hk hk0]
theorem al_fieldD {d : Nat} {τ : Ty α} {υ : Ty β} {v : Value} {x : α} {pr : α → β} (i : Nat) {t : TypeId} {y : Operand} {j : Nat} {fs : Array Field} {f : Field} (hi : m.fz[i]? = some (fPtr τ v x)) (hsub : Sub τ f.offset υ pr) (hx : ev S y = some v) (hu : P.underlying t = some (.struct fs)) (hf : fs[j]? = some f) (hk : szOf P f.type = some υ.size) (hk0 : Nat.beq υ.size 0 = false) (ho : o.op = .fieldAddr t y j)
    (h : ∀ p, AL P ops rest Q n (m.add (fPtr υ p (pr x))) (put S d p)) (hdd : o.dst = some d := by rfl) (hd : Nat.blt d n = true := by rfl) (hg : wantS ops S o true = true := by rfl) : AL P ops (o :: rest) Q n m S :=
  al_fact (R := fun p => fPtr υ p (pr x)) (of_fieldD i hi hsub hx hu hf hk hk0 ho) h hdd hd hg
/-- read: the cells are known to the sign -/
theorem ov_loadP {τ : Ty α} {v u : Value} {x : α} {ds : List Value} (i : Nat) {t : TypeId} {d : TypeDesc} {y : Operand} (hi : m.fz[i]? = some (fPtr τ v x)) (hds : ∀ {Z w cs}, τ.rep Z w cs x → cs = ds) (hx : ev S y = some v) (hu : P.underlying t = some d) (hsz : szOf P t = some τ.size) (h1 : (isAggD d || Nat.beq τ.size 1) = true) (hv : mk d ds = u) (ho : o.op = .load t y) : OpV P o n m S u := fun w a hm hs => by
  obtain ⟨ad, cs, rfl, hca, hrep⟩ := fz_at hm hi
  have hr := run_loadVar' hu hsz w ad cs (τ.len hrep) (fun hd => by rw [hd] at h1; exact Nat.eq_of_beq_eq_true (by simpa using h1)) hca.2
  rw [hds hrep, hv] at hr
  unfold execOp
  simp only [ho, hs.ev hx]
  simp [Instr.loadAt, Instr.sureAddr, hr]
/-- read: one cell -/
theorem of_loadP1 {τ : Ty α} {v : Value} {x : α} (i : Nat) {t : TypeId} {d : TypeDesc} {y : Operand} (hi : m.fz[i]? = some (fPtr τ v x)) (hx : ev S y = some v) (hu : P.underlying t = some d) (hsz : szOf P t = some τ.size) (h1 : τ.size = 1) (h2 : isAggD d = false) (ho : o.op = .load t y) : OpF P o n m S (fun u => fDat τ [u] x) := fun w a hm hs => by
    obtain ⟨ad, cs, rfl, hca, hrep⟩ := fz_at hm hi
    have hr := run_loadVar' hu hsz w ad cs (τ.len hrep) (fun _ => h1) hca.2
    have hl := τ.len hrep
    rw [h1] at hl
    obtain ⟨u, rfl⟩ : ∃ u, cs = [u] := by
      match cs, hl with
      | [u], _ => exact ⟨u, rfl⟩
    refine ⟨u, ?_, hrep⟩
    unfold execOp
    simp only [ho, hs.ev hx]
    simp [Instr.loadAt, Instr.sureAddr, hr, mk, h2]
theorem al_loadP1 {ds : Nat} {τ : Ty α} {v : Value} {x : α} (i : Nat) {t : TypeId} {d : TypeDesc} {y : Operand} (hi : m.fz[i]? = some (fPtr τ v x)) (hx : ev S y = some v) (hu : P.underlying t = some d) (hsz : szOf P t = some τ.size) (h1 : τ.size = 1) (h2 : isAggD d = false) (ho : o.op = .load t y)
    (h : ∀ u, AL P ops rest Q n (m.add (fDat τ [u] x)) (put S ds u)) (hdd : o.dst = some ds := by rfl) (hd : Nat.blt ds n = true := by rfl) (hg : wantS ops S o true = true := by rfl) : AL P ops (o :: rest) Q n m S :=
  al_fact (R := fun u => fDat τ [u] x) (of_loadP1 i hi hx hu hsz h1 h2 ho) h hdd hd hg
/-- read: many cells -/
theorem al_loadPA {ds : Nat} {τ : Ty α} {v : Value} {x : α} (i : Nat) {t : TypeId} {d : TypeDesc} {y : Operand} (hi : m.fz[i]? = some (fPtr τ v x)) (hx : ev S y = some v) (hu : P.underlying t = some d) (hsz : szOf P t = some τ.size) (h2 : isAggD d = true) (ho : o.op = .load t y)
    (h : ∀ cs, AL P ops rest Q n (m.add (fDat τ cs x)) (put S ds (ag cs))) (hdd : o.dst = some ds := by rfl) (hd : Nat.blt ds n = true := by rfl) (hg : wantS ops S o true = true := by rfl) : AL P ops (o :: rest) Q n m S :=
  al_step hg fun w a hm hs K hK => by
    obtain ⟨ad, cs, rfl, hca, hrep⟩ := fz_at hm hi
    have hr := run_loadVar' hu hsz w ad cs (τ.len hrep) (fun hd' => by rw [h2] at hd'; cases hd') hca.2
    refine step_val (v := ag cs) (w' := w) ?_ (hK _ _ (h cs w _ (hm.add hrep) (hs.put' hdd hd _)))
    unfold execOp
    simp only [ho, hs.ev hx]
    simp [Instr.loadAt, Instr.sureAddr, hr, mk, h2]
def cutL {α : Type} (xs : List α) (l h : Int) : List α := (xs.take h.toNat).drop l.toNat
theorem slice_dat {Z : Nat → Prop} {w : World} {τ : Ty α} {A : Option Addr} {len c l h : Nat} {xs : List α} (hrep : (tyList τ).rep Z w [.slice A len c] xs) (h1 : l ≤ h) (h2 : h ≤ len) :
    (tyList τ).rep Z w [.slice (if c = l then A else A.map (·.add (l * τ.size))) (h - l) (c - l)] ((xs.take h).drop l) := by
  obtain ⟨A', n', c', he, hn, hc, hm, hr⟩ := hrep
  simp only [List.cons.injEq, Value.slice.injEq, and_true] at he
  obtain ⟨rfl, rfl, rfl⟩ := he
  refine ⟨_, _, _, rfl, by rw [List.length_drop, List.length_take]; omega, by omega, by omega, ?_⟩
  by_cases hz : h - l = 0
  · exact .inl hz
  right
  rcases hr with hr | ⟨ad, cs, rfl, hca, hrl⟩
  · omega
  rw [if_neg (by omega)]
  refine ⟨ad.add (l * τ.size), (cs.take (h * τ.size)).drop (l * τ.size), rfl, (hca.take _).drop _, ?_⟩
  exact (hrl.take h).drop l
theorem of_sliceD {τ : Ty α} {v : Value} {xs : List α} (i : Nat) {t e : TypeId} {x y z : Operand} {ky kz : IntKind} {l h : Int} (h0 : 0 ≤ l) (h1 : l ≤ h) (h2 : h ≤ xs.length) (hi : m.fz[i]? = some (fDat (tyList τ) [v] xs)) (hx : ev S x = some v) (hy : ev S y = some (.int ky l)) (hz : ev S z = some (.int kz h)) (ht : P.underlying t = some (.slice e)) (hsz : szOf P e = some τ.size) (ho : o.op = .slice t x (some y) (some z) none) : OpF P o n m S (fun u => fDat (tyList τ) [u] (cutL xs l h)) := fun w a hm hs => by
    have hf := fz_at hm hi
    obtain ⟨A, len, c, he, hl, hc, _⟩ := hf
    have he' : v = .slice A len c := by simpa using he
    subst he'
    refine ⟨_, ?_, slice_dat (l := l.toNat) (h := h.toNat) (fz_at hm hi) (by omega) (by omega)⟩
    unfold execOp
    simp only [ho, hs.ev hx, Option.map_some, Option.map_none, hs.ev hy, hs.ev hz]
    have hh0 : 0 ≤ h := by omega
    have hh1 : h ≤ (c : Int) := by omega
    have hh2 : l ≤ (h.toNat : Int) := by omega
    simp [Instr.sliceAt, Instr.slice, Instr.sliceBounds, Instr.sliceBound, asIntOf, Sem.run_bind, run_underlying ht, h0, hh0, hh1, h1, run_sizeOf' hsz]
    intro hx'; omega
theorem al_sliceD {d : Nat} {τ : Ty α} {v : Value} {xs : List α} (i : Nat) {t e : TypeId} {x y z : Operand} {ky kz : IntKind} {l h : Int} (h0 : 0 ≤ l) (h1 : l ≤ h) (h2 : h ≤ xs.length) (hi : m.fz[i]? = some (fDat (tyList τ) [v] xs)) (hx : ev S x = some v) (hy : ev S y = some (.int ky l)) (hz : ev S z = some (.int kz h)) (ht : P.underlying t = some (.slice e)) (hsz : szOf P e = some τ.size) (ho : o.op = .slice t x (some y) (some z) none)
    (hh : ∀ u, AL P ops rest Q n (m.add (fDat (tyList τ) [u] (cutL xs l h))) (put S d u)) (hdd : o.dst = some d := by rfl) (hd : Nat.blt d n = true := by rfl) (hg : wantS ops S o true = true := by rfl) : AL P ops (o :: rest) Q n m S :=
  al_fact (R := fun u => fDat (tyList τ) [u] (cutL xs l h)) (of_sliceD i h0 h1 h2 hi hx hy hz ht hsz ho) hh hdd hd hg
theorem of_sliceDF {τ : Ty α} {v : Value} {xs : List α} (i : Nat) {t e : TypeId} {x y : Operand} {ky : IntKind} {l : Int} (h0 : 0 ≤ l) (h1 : l ≤ xs.length) (hi : m.fz[i]? = some (fDat (tyList τ) [v] xs)) (hx : ev S x = some v) (hy : ev S y = some (.int ky l)) (ht : P.underlying t = some (.slice e)) (hsz : szOf P e = some τ.size) (ho : o.op = .slice t x (some y) none none) : OpF P o n m S (fun u => fDat (tyList τ) [u] (xs.drop l.toNat)) := fun w a hm hs => by
    have hf := fz_at hm hi
    obtain ⟨A, len, c, he, hl, hc, _⟩ := hf
    have he' : v = .slice A len c := by simpa using he
    subst he'
    have hsd := slice_dat (l := l.toNat) (h := xs.length) (fz_at hm hi) (by omega) (by omega)
    rw [List.take_length] at hsd
    refine ⟨_, ?_, hsd⟩
    unfold execOp
    simp only [ho, hs.ev hx, Option.map_some, Option.map_none, hs.ev hy]
    simp [Instr.sliceAt, Instr.slice, Instr.sliceBounds, Instr.sliceBound, asIntOf, Sem.run_bind, run_underlying ht, h0, hl, h1, run_sizeOf' hsz]
theorem al_sliceDF {d : Nat} {τ : Ty α} {v : Value} {xs : List α} (i : Nat) {t e : TypeId} {x y : Operand} {ky : IntKind} {l : Int} (h0 : 0 ≤ l) (h1 : l ≤ xs.length) (hi : m.fz[i]? = some (fDat (tyList τ) [v] xs)) (hx : ev S x = some v) (hy : ev S y = some (.int ky l)) (ht : P.underlying t = some (.slice e)) (hsz : szOf P e = some τ.size) (ho : o.op = .slice t x (some y) none none)
    (hh : ∀ u, AL P ops rest Q n (m.add (fDat (tyList τ) [u] (xs.drop l.toNat))) (put S d u)) (hdd : o.dst = some d := by rfl) (hd : Nat.blt d n = true := by rfl) (hg : wantS ops S o true = true := by rfl) : AL P ops (o :: rest) Q n m S :=
  al_fact (R := fun u => fDat (tyList τ) [u] (xs.drop l.toNat)) (of_sliceDF i h0 h1 hi hx hy ht hsz ho) hh hdd hd hg
theorem of_sliceDT {τ : Ty α} {v : Value} {xs : List α} (i : Nat) {t e : TypeId} {x z : Operand} {kz : IntKind} {h : Int} (h0 : 0 ≤ h) (h2 : h ≤ xs.length) (hi : m.fz[i]? = some (fDat (tyList τ) [v] xs)) (hx : ev S x = some v) (hz : ev S z = some (.int kz h)) (ht : P.underlying t = some (.slice e)) (hsz : szOf P e = some τ.size) (ho : o.op = .slice t x none (some z) none) : OpF P o n m S (fun u => fDat (tyList τ) [u] (xs.take h.toNat)) := fun w a hm hs => by
    have hf := fz_at hm hi
    obtain ⟨A, len, c, he, hl, hc, _⟩ := hf
    have he' : v = .slice A len c := by simpa using he
    subst he'
    have hsd := slice_dat (l := 0) (h := h.toNat) (fz_at hm hi) (by omega) (by omega)
    rw [List.drop_zero] at hsd
    refine ⟨_, ?_, hsd⟩
    unfold execOp
    simp only [ho, hs.ev hx, Option.map_some, Option.map_none, hs.ev hz]
    have hh1 : h ≤ (c : Int) := by omega
    simp [Instr.sliceAt, Instr.slice, Instr.sliceBounds, Instr.sliceBound, asIntOf, Sem.run_bind, run_underlying ht, h0, hh1, run_sizeOf' hsz]
theorem al_sliceDT {d : Nat} {τ : Ty α} {v : Value} {xs : List α} (i : Nat) {t e : TypeId} {x z : Operand} {kz : IntKind} {h : Int} (h0 : 0 ≤ h) (h2 : h ≤ xs.length) (hi : m.fz[i]? = some (fDat (tyList τ) [v] xs)) (hx : ev S x = some v) (hz : ev S z = some (.int kz h)) (ht : P.underlying t = some (.slice e)) (hsz : szOf P e = some τ.size) (ho : o.op = .slice t x none (some z) none)
    (hh : ∀ u, AL P ops rest Q n (m.add (fDat (tyList τ) [u] (xs.take h.toNat))) (put S d u)) (hdd : o.dst = some d := by rfl) (hd : Nat.blt d n = true := by rfl) (hg : wantS ops S o true = true := by rfl) : AL P ops (o :: rest) Q n m S :=
  al_fact (R := fun u => fDat (tyList τ) [u] (xs.take h.toNat)) (of_sliceDT i h0 h2 hi hx hz ht hsz ho) hh hdd hd hg
end
end Go.Proofs.YtfhifdmbdkkgaaaDoor.En
