/- An engine for walks: the bytes of a string as a row that is written. No condition. -/
import Derived.Test.YtfhifdmbdkkgaaaDoorEn15
namespace Go.Proofs.YtfhifdmbdkkgaaaDoor.En
open Go.RowKit
set_option linter.unusedVariables false
set_option linter.unusedSimpArgs false
/-- the row that '[]byte(s)' makes: its own, written at will -/
def oBy (v : Value) (e : TypeId) (l : List UInt8) : Own where
  blk := v.ownBlock.toList
  p _ w := ∃ g cap cur, v = .slice (some ⟨g, 0, none⟩) l.length cap ∧ w.heap[g]? = some (.cells cur e (cur.size, cur.size + 1)) ∧ l.length ≤ cap ∧ cur.size = cap ∧ cur.toList.take l.length = Lib.byteCells l
  keep hz h := by
    obtain ⟨g, cap, cur, rfl, hg, r⟩ := h
    exact ⟨g, cap, cur, rfl, (hz g (.inr (by simp [Value.ownBlock]))).trans hg, r⟩
  mono _ h := h
  lt h := by
    obtain ⟨g, cap, cur, rfl, hg, r⟩ := h
    intro b hb
    have hb2 : b = g := by simpa [Value.ownBlock] using hb
    subst hb2
    exact (Array.getElem?_eq_some_iff.1 hg).1
theorem by_at {l : List UInt8} {cur : Array Value} {k : Nat} (h : cur.toList.take l.length = Lib.byteCells l) (hk : k < l.length) : cur[k]? = some (.int .u8 (l[k].toNat : Int)) := by
  have h1 : (cur.toList.take l.length)[k]? = some (.int .u8 (l[k].toNat : Int)) := by
    rw [h]; unfold Lib.byteCells; rw [List.getElem?_map, List.getElem?_eq_getElem hk]; rfl
  rw [List.getElem?_take, if_pos hk] at h1
  simpa using h1
theorem run_storeOne {P : Program} {t : TypeId} (hs : szOf P t = some 1) (w : World) (g off : Nat) (v u : Value) (et : TypeId) (cur : Array Value) (fz : Nat × Nat) (hv : v.cells = #[u]) (h1 : u.oneCell' = true) (hg : w.heap[g]? = some (.cells cur et fz)) (hlt : off < cur.size) (hz : cur.size ≤ fz.1) :
    (storeVar t ⟨g, off, none⟩ v).run P w = .ok () (w.setRow g (cur.setIfInBounds off u)) := by
  have hcell : w.cell? ⟨g, off, none⟩ = some cur[off] := by simp [World.cell?, hg, hlt]
  have hfro : w.frozen? ⟨g, off, none⟩ = false := by
    obtain ⟨lo, hi⟩ := fz
    simp [World.frozen?, hg]
    intro h; have : cur.size ≤ lo := hz; omega
  have hadd : (⟨g, off, none⟩ : Addr).add 0 = ⟨g, off, none⟩ := by rw [add_plain]; rfl
  have hst : (store ((⟨g, off, none⟩ : Addr).add 0) u).run P w = .ok () (w.setRow g (cur.setIfInBounds off u)) := by
    rw [hadd, run_store P w _ u _ h1, hcell]
    simp [hfro, setCell_eq_setRow w g off cur et fz u hg]
  unfold storeVar
  simp [Sem.run_bind, run_sizeOf' hs w, hv, storeCells, hst]
section
variable {P : Program} {Q : Exit → Act → World → Prop} {n : Nat} {m : Mem} {S : Sl} {ops : Array Oper} {rest : List Oper} {o : Oper} {v : Value} {l : List UInt8} {e et t : TypeId}
theorem al_bytesO {d : Nat} {x : Operand} {s : TypeId} (hl : l.length ≤ 9223372036854775807) (hx : ev S x = some (str l)) (hs' : P.underlying s = some .string) (hd' : P.underlying t = some (.slice e)) (he : P.underlying e = some (.int .u8)) (ho : o.op = .convert s t x)
    (h : ∀ v, AL P ops rest Q n (m.push (oBy v e l)) (put S d v)) (hdd : o.dst = some d := by rfl) (hd : Nat.blt d n = true := by rfl) (hg : wantS ops S o true = true := by rfl) : AL P ops (o :: rest) Q n m S :=
  al_step hg fun w a hm hs K hK => by
    have hrun := run_bytes_of_string (P := P) w s t e ⟨l.toArray⟩ hs' hd' he
    rw [size_str] at hrun
    have hr : (execOp a.eval o).run P w = .ok (.value (.slice (some ⟨w.heap.size, 0, none⟩) l.length (grownCap w l.length 0 e))) (w.drew.alloc (.cells (bytesRow ⟨l.toArray⟩ (grownCap w l.length 0 e)) e ((bytesRow ⟨l.toArray⟩ (grownCap w l.length 0 e)).size, (bytesRow ⟨l.toArray⟩ (grownCap w l.length 0 e)).size + 1))) := by
      unfold execOp; simp only [ho, hs.ev hx]; unfold str; simp only [Sem.run_bind, hrun, Result.andThen_ok, Sem.run_pure]
    refine step_val hr ?_
    have hc := grownCap_ge w l.length 0 e
    refine hK _ _ (h _ _ _ (hm.push (((Below.refl _ _).drew).alloc (Nat.le_refl _) _) (by simp [oBy, Value.ownBlock]) (by simp [oBy, Value.ownBlock]) (fun Z _ => ?_)) (hs.put' hdd hd _))
    refine ⟨w.heap.size, _, _, rfl, heap_alloc_new w.drew _, hc, ?_, ?_⟩
    · unfold bytesRow; simp [ByteArray.size]; omega
    · unfold bytesRow Lib.byteCells; simp
theorem ov_lenO (i : Nat) {x : Operand} (hi : m.own[i]? = some (oBy v et l)) (hx : ev S x = some v) (ht : P.underlying t = some (.slice e)) (ho : o.op = .call { callee := .builtin .len, args := #[x], argTypes := #[t] }) : OpV P o n m S (.int .i64 l.length) := fun w a hm hs => by
  obtain ⟨g, cap, cur, rfl, _⟩ := own_at hm hi
  unfold execOp
  simp [ho, resolve, invoke, builtin, hs.ev hx, Builtin.len_, run_underlying ht, goInt]
theorem al_idxO {d : Nat} (i : Nat) {x y : Operand} {k : IntKind} {j : Int} (h0 : 0 ≤ j) (h1 : j < l.length) (hi : m.own[i]? = some (oBy v et l)) (hx : ev S x = some v) (hy : ev S y = some (.int k j)) (ht : P.underlying t = some (.slice e)) (hsz : szOf P e = some 1) (ho : o.op = .indexAddr t x y)
    (h : ∀ p, EltOf v p (j.toNat * tyU8.size) → AL P ops rest Q n m (put S d p)) (hdd : o.dst = some d := by rfl) (hd : Nat.blt d n = true := by rfl) (hg : wantS ops S o true = true := by rfl) : AL P ops (o :: rest) Q n m S :=
  al_step hg fun w a hm hs K hK => by
    obtain ⟨g, cap, cur, rfl, r⟩ := own_at hm hi
    refine step_val (w' := w) (v := .pointer (some ⟨g, j.toNat * 1, none⟩)) ?_ (hK _ _ (h _ ⟨g, _, _, rfl, rfl⟩ w _ hm (hs.put' hdd hd _)))
    unfold execOp
    simp only [ho, hs.ev hx, hs.ev hy]
    simp [Instr.indexAt, asIntOf, Sem.run_bind, run_underlying ht, h0, h1, run_sizeOf' hsz, add_plain]
theorem ov_loadO {p u : Value} {k : Nat} {x : UInt8} {ds : List Value} (i : Nat) {d : TypeDesc} {y : Operand} (hi : m.own[i]? = some (oBy v et l)) (hp : EltOf v p (k * tyU8.size)) (hxk : l[k]? = some x) (hds : ∀ {Z w cs}, tyU8.rep Z w cs x → cs = ds) (hx : ev S y = some p) (hu : P.underlying t = some d) (hsz : szOf P t = some 1) (h1 : (isAggD d || Nat.beq 1 1) = true) (hv : mk d ds = u) (ho : o.op = .load t y) : OpV P o n m S u := fun w a hm hs => by
  obtain ⟨g, cap, cur, rfl, hgg, hlc, hsz', htk⟩ := own_at hm hi
  obtain ⟨g', l', c', he, rfl⟩ := hp
  cases he
  have hk : k < l.length := (List.getElem?_eq_some_iff.1 hxk).1
  have hc := by_at htk hk
  rw [List.getElem?_eq_getElem hk] at hxk
  cases hxk
  have hr := run_loadVar' hu hsz w ⟨g, k * 1, none⟩ [.int .u8 (l[k].toNat : Int)] rfl (fun _ => rfl) (fun j q hj => by
    have hj0 : j = 0 := by have := (List.getElem?_eq_some_iff.1 hj).1; simp at this; omega
    subst hj0
    rw [add_plain, cell_of_row _ _ _ _ _ _ hgg, ← hj]
    simpa using hc)
  rw [hds (show tyU8.rep (fun _ => True) w [.int .u8 (l[k].toNat : Int)] l[k] from rfl), hv] at hr
  unfold execOp
  simp only [ho, hs.ev hx]
  have hr' : (loadVar t ⟨g, k * tyU8.size, none⟩).run P w = .ok u w := hr
  simp [Instr.loadAt, Instr.sureAddr, hr']
theorem al_storeO {p : Value} {k : Nat} {x : UInt8} {vs : List Value} {val : Value} (i : Nat) {x' y : Operand} (hi : m.own[i]? = some (oBy v et l)) (hp : EltOf v p (k * tyU8.size)) (hk : k < l.length) (hx : ev S x' = some p) (hy : ev S y = some val) (hv : CV m val vs) (hrep : ∀ {w}, Holds m w → tyU8.rep (m.frz w) w vs x) (hsz : szOf P t = some 1) (ho : o.op = .store t x' y)
    (h : AL P ops rest Q n (m.upd i (oBy v et (l.set k x))) S) (hdst : o.dst = none := by rfl) (hg : wantS ops S o true = true := by rfl) : AL P ops (o :: rest) Q n m S :=
  al_step hg fun w a hm hs K hK => by
    obtain ⟨g, cap, cur, rfl, hgg, hlc, hsz', htk⟩ := own_at hm hi
    obtain ⟨g', l', c', he, rfl⟩ := hp
    cases he
    have hvs : vs = [.int .u8 (x.toNat : Int)] := hrep hm
    subst hvs
    have hr := run_storeOne hsz w g (k * 1) val (.int .u8 (x.toNat : Int)) et cur _ (hv hm) rfl hgg (by omega) (Nat.le_refl _)
    have hr' : (storeVar t ⟨g, k * tyU8.size, none⟩ val).run P w = .ok () (w.setRow g (cur.setIfInBounds (k * 1) (.int .u8 (x.toNat : Int)))) := hr
    refine step_skip (w' := w.setRow g (cur.setIfInBounds (k * 1) (.int .u8 (x.toNat : Int)))) (by
      unfold execOp
      simp only [ho, hs.ev hx, hs.ev hy]
      simp [Instr.storeAt, Instr.sureAddr, hr']) (hK _ _ (h _ _ (hm.upd hi ⟨rfl, rfl, rfl, by rw [size_setRow]; exact Nat.le_refl _, fun b _ hb => setRow_other w g b _ (by simpa [oBy, Value.ownBlock] using hb)⟩ (by simp [oBy, Value.ownBlock]) (fun b hb => .inl hb) (fun Z hZ => ?_)) (by rw [hdst]; exact hs)))
    have hh := setRow_heap w g cur (cur.setIfInBounds (k * 1) (.int .u8 (x.toNat : Int))) et _ hgg
    refine ⟨g, cap, cur.setIfInBounds (k * 1) (.int .u8 (x.toNat : Int)), by rw [List.length_set], ?_, by rw [List.length_set]; exact hlc, by simpa using hsz', ?_⟩
    · rw [hh]; simp
    · rw [List.length_set, Array.toList_setIfInBounds, Nat.mul_one]
      unfold Lib.byteCells at htk ⊢
      rw [List.map_set, ← htk, List.take_set]
theorem ov_toStrO {x : Operand} {s d : TypeId} (i : Nat) (hi : m.own[i]? = some (oBy v et l)) (hx : ev S x = some v) (hs' : P.underlying s = some (.slice e)) (he : P.underlying e = some (.int .u8)) (hd' : P.underlying d = some .string) (ho : o.op = .convert s d x) : OpV P o n m S (str l) := fun w a hm hs => by
  obtain ⟨g, cap, cur, rfl, hgg, hlc, hsz', htk⟩ := own_at hm hi
  unfold execOp
  simp only [ho, hs.ev hx]
  have := run_convert_bytes_back (P := P) w s d e ⟨g, 0, none⟩ cap l hs' he hd' (fun j hj => by
    rw [add_plain, cell_of_row _ _ _ _ _ _ hgg, Nat.zero_add]
    exact by_at htk hj)
  simp [this, str]
end
end Go.Proofs.YtfhifdmbdkkgaaaDoor.En
