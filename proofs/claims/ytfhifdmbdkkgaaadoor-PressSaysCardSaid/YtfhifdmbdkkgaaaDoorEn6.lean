/- An engine for walks: the words that the printed proofs use. No condition. -/
import Derived.Test.YtfhifdmbdkkgaaaDoorEn5
import Derived.Scope
import Derived.Laws.BytesString
import Derived.Laws.BytesArg
import Derived.Laws.IdiomStrings
namespace Go.Proofs.YtfhifdmbdkkgaaaDoor.En
open Go.RowKit
set_option linter.unusedVariables false
set_option linter.unusedSimpArgs false
def memOf (w : World) (Z : Nat → Prop) (oin own : List Own) (fz : List Fact) : Mem := { B := w.heap.size, w0 := w, Z0 := Z, X := oin.flatMap Own.blk, own := own, fz := fz }
section
variable {P : Program} {Q : Exit → Act → World → Prop} {n : Nat} {m : Mem} {S : Sl} {ops : Array Oper} {rest : List Oper} {o : Oper} {α β ι : Type}
theorem aw_show {c : Code} (h : AW P c Q n m S) : AW P c Q n m S := h
theorem al_caseB {l : List Oper} {b : Bool} (t : Nat) (ht : S t = some (.bool b)) (h1 : b = true → AL P ops l Q n m (put S t (.bool true))) (h2 : b = false → AL P ops l Q n m (put S t (.bool false))) : AL P ops l Q n m S := fun w a hm hs => by
  have key : ∀ v, S t = some v → Sat n (put S t v) a := fun v hv => ⟨hs.def_, hs.size, fun u x hx => by
    rcases put_some hx with ⟨rfl, rfl⟩ | ⟨_, hx⟩
    · exact hs.val _ _ hv
    · exact hs.val _ _ hx⟩
  cases b with
  | true => exact h1 rfl w a hm (key _ ht)
  | false => exact h2 rfl w a hm (key _ ht)
theorem idx_lt {xs : List α} {i : Int} {x : α} (h : at? xs i = some x) : i.toNat < xs.length := by have := at_some h; omega
theorem u8_rep {Z : Nat → Prop} {w : World} {n : Int} (h : 0 ≤ n ∧ n ≤ 255) : tyU8.rep Z w [.int .u8 n] (UInt8.ofNat n.toNat) := by
  show _ = [Value.int .u8 ((UInt8.ofNat n.toNat).toNat : Int)]
  have : ((UInt8.ofNat n.toNat).toNat : Int) = n := by
    rw [UInt8.toNat_ofNat']; omega
  rw [this]
theorem zeroOf_to {e : TypeId} {sz by_ : Nat} {z : Value} (h : tyOf P e = some (sz, by_, some z)) : zeroOf P e = some z := by
  obtain ⟨i, h1, h2, _, _⟩ := tyOf_parts h
  unfold zeroOf; rw [h1]; exact h2
theorem ov_min {x y : Operand} {tys : Array TypeId} {k : IntKind} {p q : Int} (ho : o.op = .call { callee := .builtin .min, args := #[x, y], argTypes := tys }) (hx : ev S x = some (.int k p)) (hy : ev S y = some (.int k q)) : OpV P o n m S (.int k (if q < p then q else p)) := fun w a _ hs => by
  unfold execOp
  simp [ho, resolve, invoke, builtin, hs.ev hx, hs.ev hy, Builtin.min_, Builtin.min2]
theorem ov_max {x y : Operand} {tys : Array TypeId} {k : IntKind} {p q : Int} (ho : o.op = .call { callee := .builtin .max, args := #[x, y], argTypes := tys }) (hx : ev S x = some (.int k p)) (hy : ev S y = some (.int k q)) : OpV P o n m S (.int k (if q > p then q else p)) := fun w a _ hs => by
  unfold execOp
  simp [ho, resolve, invoke, builtin, hs.ev hx, hs.ev hy, Builtin.max_, Builtin.max2]
theorem aw_scope {c : Code} (h : AW P c (Exit.noGoto Q) n m S) : AW P (.scope c) Q n m S := fun w a hm hs => wp_scope_straight (h w a hm hs)
theorem aq_scope (h : AQ Q .normal n m S) : AQ (Exit.noGoto Q) .normal n m S := h
theorem aq_scope_ret (h : AQ Q .ret n m S) : AQ (Exit.noGoto Q) .ret n m S := h
theorem aq_scope_exit {i : Nat} (h : AQ Q (.exit i) n m S) : AQ (Exit.noGoto Q) (.exit i) n m S := h
theorem aw_body_join {c : Code} {K : Act → World → Prop} {ι : Type _} (M : ι → Mem) (T : ι → Sl) (φ : ι → Prop) (hy : ∀ i, φ i → AQ (Exit.then K Q) .normal n (M i) (T i))
    (hx : AW P c (Exit.then (fun a w => ∃ i, φ i ∧ Holds (M i) w ∧ Sat n (T i) a) Q) n m S) : AW P c (Exit.then K Q) n m S := fun w a hm hs =>
  Code.wp_mono (fun e a w q => by
    cases e with
    | normal => obtain ⟨i, hp, h1, h2⟩ := q; exact hy i hp w a h1 h2
    | exit i => exact q
    | goto i => exact q
    | ret => exact q
    | panic ch => exact q
    | outgrown => exact q) (hx w a hm hs)
/-! a slice written out -/
def enumF : Nat → List Value → List (Nat × Value)
  | _, [] => []
  | j, v :: vs => (j, v) :: enumF (j + 1) vs
theorem foldl_put (vs : List Value) : ∀ (pre mid post : List Value) (k : Nat), mid.length = vs.length → k = 0 →
    (vs.zipIdx k).foldl (fun (cs : Array Value) (p : Value × Nat) => cs.setIfInBounds (pre.length - k + p.2) p.1) (pre ++ mid ++ post).toArray = (pre ++ vs ++ post).toArray := by
  have gen : ∀ (vs pre mid post : List Value) (k b : Nat), mid.length = vs.length → pre.length = b + k →
      (vs.zipIdx k).foldl (fun (cs : Array Value) (p : Value × Nat) => cs.setIfInBounds (b + p.2) p.1) (pre ++ mid ++ post).toArray = (pre ++ vs ++ post).toArray := by
    intro vs
    induction vs with
    | nil =>
      intro pre mid post k b hm _
      have hm0 : mid = [] := List.eq_nil_of_length_eq_zero (by simpa using hm)
      subst hm0; rfl
    | cons v vs ih =>
      intro pre mid post k b hm hp
      cases mid with
      | nil => simp at hm
      | cons u mid =>
        simp only [List.zipIdx_cons, List.foldl_cons]
        have e : (pre ++ u :: mid ++ post).toArray.setIfInBounds (b + k) v = ((pre ++ [v]) ++ mid ++ post).toArray := by
          rw [List.setIfInBounds_toArray, ← hp]
          simp
        rw [e, ih (pre ++ [v]) mid post (k + 1) b (by simpa using hm) (by simp; omega)]
        simp
  intro pre mid post k hm hk
  subst hk
  exact gen vs pre mid post 0 pre.length hm (by simp)
theorem fill_seq {sz : Nat} : ∀ (vs : List Value) (j : Nat) (pre rest : List Value), pre.length = j * sz → rest.length = vs.length * sz → (∀ v ∈ vs, v.cells.size = sz) →
    Instr.fill (fun i => some (i * sz, sz)) (pre ++ rest).toArray (enumF j vs) = some (pre ++ vs.flatMap fun v => v.cells.toList).toArray
  | [], j, pre, rest, _, hr, _ => by
    have hr0 : rest = [] := List.eq_nil_of_length_eq_zero (by simpa using hr)
    subst hr0; simp [enumF, Instr.fill]
  | v :: vs, j, pre, rest, hp, hr, hv => by
    have h1 := hv v (by simp)
    have hl : v.cells.toList.length = sz := by rw [Array.length_toList, h1]
    rw [List.length_cons, Nat.succ_mul] at hr
    unfold enumF Instr.fill
    simp only
    rw [if_neg (by simp [h1]; omega)]
    have hsp : pre ++ rest = pre ++ rest.take sz ++ rest.drop sz := by rw [List.append_assoc, List.take_append_drop]
    have h2 : (v.cells.zipIdx.foldl (fun (cs : Array Value) (p : Value × Nat) => cs.setIfInBounds (j * sz + p.2) p.1) (pre ++ rest).toArray) = (pre ++ v.cells.toList ++ rest.drop sz).toArray := by
      rw [hsp, ← hp]
      have := foldl_put v.cells.toList pre (rest.take sz) (rest.drop sz) 0 (by rw [List.length_take, hl]; omega) rfl
      simp only [Nat.sub_zero] at this
      rw [← this]
      rw [← Array.foldl_toList]
      simp
    have h3 := fill_seq vs (j + 1) (pre ++ v.cells.toList) (rest.drop sz) (by rw [List.length_append, hl, hp, Nat.succ_mul]) (by rw [List.length_drop]; omega) (fun u hu => hv u (by simp [hu]))
    have e : (fun (x : Array Value) (x_1 : Value × Nat) => match x_1 with | (c, j_1) => x.setIfInBounds (j * sz + j_1) c) = (fun (cs : Array Value) (p : Value × Nat) => cs.setIfInBounds (j * sz + p.2) p.1) := rfl
    rw [List.flatMap_cons, ← List.append_assoc, ← h3, ← h2]
theorem run_bs {t e sz by_ : Nat} {z : Value} (vs : List Value) (cells : List Value) (ht : P.underlying t = some (.slice e)) (hi : tyOf P e = some (sz, by_, some z)) (hzs : z.cells.size = sz) (hk : Nat.ble (vs.length * sz) 16777216 = true) (hbs : BS m sz vs cells) {w : World} (hm : Holds m w) :
    (Instr.buildSlice t vs.length (enumF 0 vs).toArray).run P w = .ok (.slice (some ⟨w.heap.size, 0, none⟩) vs.length vs.length) (w.alloc (.cells cells.toArray e)) := by
  obtain ⟨i, hi1, hi2, hi3, hi4⟩ := tyOf_parts hi
  have hsz : szOf P e = some sz := by unfold szOf; rw [hi1]; simp [hi3]
  have hzv := run_zeroValue' (zeroOf_to hi) w
  have hk' : ¬ 16777216 < vs.length * sz := by have := Nat.le_of_ble_eq_true hk; omega
  obtain ⟨hv', hc⟩ := hbs hm
  have key : ∀ zs : Array Value, zs.size = vs.length * sz → Instr.fill (fun i => some (i * sz, sz)) zs (enumF 0 vs) = some cells.toArray := fun zs hz => by
    have hf := fill_seq vs 0 [] zs.toList (by simp) (by simpa using hz) hv'
    rw [← hc]; simpa using hf
  unfold Instr.buildSlice
  simp only [Sem.run_bind, run_underlying ht, Result.andThen_ok, run_sizeOf' hsz, Nat.reducePow, gt_iff_lt, if_neg hk']
  by_cases h0 : vs.length * sz = 0
  · simp only [h0, if_true, Sem.run_bind, Sem.run_pure, Result.andThen_ok]
    rw [key _ (by simp [h0])]
    rfl
  · simp only [if_neg h0, Sem.run_bind, hzv, Result.andThen_ok, Sem.run_pure]
    rw [key _ (by simp)]
    rfl
/-! structs with slices in them -/
theorem one_of {τ : Ty α} {Z : Nat → Prop} {w : World} {c : List Value} {x : List α} (h : (tyList τ).rep Z w c x) : ∃ v, c = [v] := by
  obtain ⟨A, n, cap, rfl, _⟩ := h; exact ⟨_, rfl⟩
theorem fall_nil {Z : Nat → Prop} {w : World} : ∀ g ∈ ([] : List Fact), g.p Z w := by simp
theorem fall_cons {Z : Nat → Prop} {w : World} {f : Fact} {l : List Fact} (h : f.p Z w) (hl : ∀ g ∈ l, g.p Z w) : ∀ g ∈ f :: l, g.p Z w := fun g hg => by
  rcases List.mem_cons.1 hg with rfl | hg
  · exact h
  · exact hl g hg
/-! bytes and strings -/
theorem u8_cells {Z : Nat → Prop} {w : World} : ∀ {l : List UInt8} {cs : List Value}, RepL tyU8 Z w cs l → cs = l.map fun b => .int .u8 (b.toNat : Int)
  | [], _, h => h
  | b :: l, _, h => by
    obtain ⟨c1, c2, rfl, h1, h2⟩ := h
    rw [show c1 = [_] from h1, u8_cells h2]; rfl
theorem ov_toStr {x : Operand} {v : Value} {l : List UInt8} {s d e : TypeId} (i : Nat) (hi : m.fz[i]? = some (fDat (tyList tyU8) [v] l)) (hx : ev S x = some v) (hs' : P.underlying s = some (.slice e)) (he : P.underlying e = some (.int .u8)) (hd' : P.underlying d = some .string) (ho : o.op = .convert s d x) : OpV P o n m S (str l) := fun w a hm hs => by
  obtain ⟨A, k, c, hv, hk, hc, _, hr⟩ := fz_at hm hi
  have hv' : v = .slice A k c := by simpa using hv
  subst hv'
  unfold execOp
  simp only [ho, hs.ev hx]
  rcases hr with h0 | ⟨ad, cs, rfl, hca, hrl⟩
  · have hl : l = [] := List.eq_nil_of_length_eq_zero (by omega)
    subst hl; subst h0
    cases A with
    | none => simp [convert, run_underlying hs', run_underlying hd', run_underlying he, Conv.bytesToString, str]; rfl
    | some ad =>
      have := run_convert_bytes_back (P := P) w s d e ad c [] hs' he hd' (by simp)
      simp only [List.length_nil] at this
      simp [this, str]
  · have hcs := u8_cells hrl
    have := run_convert_bytes_back (P := P) w s d e ad c l hs' he hd' (fun j hj => by
      refine hca.2 j _ ?_
      rw [hcs, List.getElem?_map, List.getElem?_eq_getElem hj]; rfl)
    rw [← hk] at this
    simp [this, str]
theorem ov_toStrR {x : Operand} {v : Value} {l : List UInt8} {s d e et : TypeId} (i : Nat) (hi : m.own[i]? = some (oRow v et tyU8 l)) (hx : ev S x = some v) (hs' : P.underlying s = some (.slice e)) (he : P.underlying e = some (.int .u8)) (hd' : P.underlying d = some .string) (ho : o.op = .convert s d x) : OpV P o n m S (str l) := fun w a hm hs => by
  obtain ⟨cs, h1, h2⟩ := own_at hm hi
  have hcs := u8_cells h2
  unfold execOp
  simp only [ho, hs.ev hx]
  rcases h1.2 with ⟨rfl, hn⟩ | ⟨g, cap, cur, rfl, r⟩
  · have hl : l = [] := List.eq_nil_of_length_eq_zero hn
    subst hl
    simp [convert, run_underlying hs', run_underlying hd', run_underlying he, Conv.bytesToString, str]; rfl
  · have := run_convert_bytes_back (P := P) w s d e ⟨g, 0, none⟩ cap l hs' he hd' (fun j hj => by
      refine h1.cells rfl j _ ?_
      rw [hcs, List.getElem?_map, List.getElem?_eq_getElem hj]; rfl)
    simp [this, str]
theorem ov_toStrN {x : Operand} {s d e : TypeId} {k c : Nat} (hx : ev S x = some (.slice none k c)) (hs' : P.underlying s = some (.slice e)) (he : P.underlying e = some (.int .u8)) (hd' : P.underlying d = some .string) (ho : o.op = .convert s d x) : OpV P o n m S (str []) := fun w a hm hs => by
  unfold execOp
  simp only [ho, hs.ev hx]
  simp [convert, run_underlying hs', run_underlying hd', run_underlying he, Conv.bytesToString, str]; rfl
/-- '[]byte(s)': data -/
theorem al_bytes {d : Nat} {x : Operand} {l : List UInt8} {s t e : TypeId} (hl : l.length ≤ 9223372036854775807) (hx : ev S x = some (str l)) (hs' : P.underlying s = some .string) (hd' : P.underlying t = some (.slice e)) (he : P.underlying e = some (.int .u8)) (ho : o.op = .convert s t x)
    (h : ∀ v, AL P ops rest Q n (m.add (fDat (tyList tyU8) [v] l)) (put S d v)) (hdd : o.dst = some d := by rfl) (hd : Nat.blt d n = true := by rfl) (hg : wantS ops S o true = true := by rfl) : AL P ops (o :: rest) Q n m S :=
  al_step hg fun w a hm hs K hK => by
    have hrun := run_bytes_of_string (P := P) w s t e ⟨l.toArray⟩ hs' hd' he
    rw [size_str] at hrun
    have hr : (execOp a.eval o).run P w = .ok (.value (.slice (some ⟨w.heap.size, 0, none⟩) l.length (grownCap w l.length 0 e))) (w.drew.alloc (.cells (bytesRow ⟨l.toArray⟩ (grownCap w l.length 0 e)) e ((bytesRow ⟨l.toArray⟩ (grownCap w l.length 0 e)).size, (bytesRow ⟨l.toArray⟩ (grownCap w l.length 0 e)).size + 1))) := by
      unfold execOp; simp only [ho, hs.ev hx]; unfold str; simp only [Sem.run_bind, hrun, Result.andThen_ok, Sem.run_pure]
    refine step_val hr ?_
    have hbel : Below w.heap.size w (w.drew.alloc (.cells (bytesRow ⟨l.toArray⟩ (grownCap w l.length 0 e)) e ((bytesRow ⟨l.toArray⟩ (grownCap w l.length 0 e)).size, (bytesRow ⟨l.toArray⟩ (grownCap w l.length 0 e)).size + 1))) := ((Below.refl _ _).drew).alloc (Nat.le_refl _) _
    refine hK _ _ (h _ _ _ ((hm.ext hbel).add ?_) (hs.put' hdd hd _))
    refine ⟨_, _, _, rfl, rfl, grownCap_ge w l.length 0 e, by unfold maxLen; omega, ?_⟩
    by_cases h0 : l.length = 0
    · exact .inl h0
    right
    refine ⟨_, l.map fun b => .int .u8 (b.toNat : Int), rfl, ⟨⟨by simp, fun hx => ?_, fun hlt => ?_⟩, fun j u hu => ?_⟩, ?_⟩
    · have := hm.lt hx; simp at this
    · have := hm.size; have hlt' : w.heap.size < m.B := hlt; omega
    · rw [add_plain, Nat.zero_add]
      have hj : j < l.length := by have := (List.getElem?_eq_some_iff.1 hu).1; simpa using this
      have hc := World.cell?_alloc_mark w.drew (bytesRow ⟨l.toArray⟩ (grownCap w l.length 0 e)) e ((bytesRow ⟨l.toArray⟩ (grownCap w l.length 0 e)).size, (bytesRow ⟨l.toArray⟩ (grownCap w l.length 0 e)).size + 1) j
      refine Eq.trans hc ?_
      have hj' : j < (⟨l.toArray⟩ : ByteArray).data.size := by simpa using hj
      rw [bytesRow_at _ _ j hj']
      rw [List.getElem?_map, List.getElem?_eq_getElem hj] at hu
      rw [← hu]
      rfl
    · clear h hK hx hrun h0 hbel hr
      generalize hZ : Mem.frz m _ = Z
      generalize hw : (w.drew.alloc _) = w'
      clear hZ hw hl
      induction l with
      | nil => rfl
      | cons b l ih => exact ⟨[_], _, rfl, rfl, ih⟩
end
end Go.Proofs.YtfhifdmbdkkgaaaDoor.En
