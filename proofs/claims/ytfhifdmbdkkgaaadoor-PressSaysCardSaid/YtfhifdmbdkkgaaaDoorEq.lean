/- '==' of two values of a type made of numbers, bools and strings alone (structs and arrays of these): it says whether their cells are alike. No condition. -/
import Derived.Test.YtfhifdmbdkkgaaaDoorBase
import Derived.DeepKeys
namespace Go.Proofs.YtfhifdmbdkkgaaaDoor
open Go.RowKit
set_option linter.unusedVariables false
set_option linter.unusedSimpArgs false
/-- the cells of a type, each by its own (plain) type -/
def fieldLeaves (L : TypeId → Option (List TypeId)) : List Field → Nat → Option (List TypeId)
  | [], _ => some []
  | f :: fs, off => if f.name != "_" && f.offset == off then
      match L f.type with
      | some l => (fieldLeaves L fs (off + l.length)).map (l ++ ·)
      | none => none
    else none
def leaves (P : Program) : Nat → TypeId → Option (List TypeId)
  | 0, _ => none
  | d + 1, t => match P.underlying t with
    | some (.int _) => if P.cellsOf t = 1 then some [t] else none
    | some .bool => if P.cellsOf t = 1 then some [t] else none
    | some .string => if P.cellsOf t = 1 then some [t] else none
    | some (.struct fs) => match fieldLeaves (leaves P d) fs.toList 0 with
      | some l => if P.cellsOf t = l.length then some l else none
      | none => none
    | some (.array n e) => match leaves P d e with
      | some l => if P.cellsOf t = n * l.length then some (List.replicate n l).flatten else none
      | none => none
    | _ => if P.cellsOf t = 1 then some [t] else none
def litOf : Value → Lit
  | .bool b => .bool b
  | .int k n => .int k n
  | .string s => .string s.data.toList
  | _ => .bool false
/-- a cell that fits its plain type -/
def leafOk (P : Program) (t : TypeId) (v : Value) : Bool :=
  match P.underlying t, v with
  | some .bool, .bool _ => true
  | some (.int q), .int q' n => decide (q' = q) && (Lit.int q n).wf
  | some .string, .string s => decide (s.size ≤ maxLen)
  | _, _ => false
def fits (P : Program) : List TypeId → List Value → Bool
  | [], [] => true
  | t :: ts, v :: vs => leafOk P t v && fits P ts vs
  | _, _ => false
theorem fits_len {P : Program} : ∀ {ts : List TypeId} {vs : List Value}, fits P ts vs = true → vs.length = ts.length
  | [], [], _ => rfl
  | [], v :: vs, h => by simp [fits] at h
  | t :: ts, [], h => by simp [fits] at h
  | t :: ts, v :: vs, h => by
    simp only [fits, Bool.and_eq_true] at h
    simp [fits_len h.2]
theorem fits_append {P : Program} : ∀ {ts us : List TypeId} {vs : List Value}, fits P (ts ++ us) vs = true → fits P ts (vs.take ts.length) = true ∧ fits P us (vs.drop ts.length) = true
  | [], us, vs, h => by simpa [fits] using h
  | t :: ts, us, [], h => by simp [fits] at h
  | t :: ts, us, v :: vs, h => by
    simp only [List.cons_append, fits, Bool.and_eq_true] at h
    have := fits_append h.2
    simp [fits, h.1, this.1, this.2]
theorem fits_join {P : Program} : ∀ {ts us : List TypeId} {vs ws : List Value}, fits P ts vs = true → fits P us ws = true → fits P (ts ++ us) (vs ++ ws) = true
  | [], us, [], ws, _, h => by simpa using h
  | [], us, v :: vs, ws, h, _ => by simp [fits] at h
  | t :: ts, us, [], ws, h, _ => by simp [fits] at h
  | t :: ts, us, v :: vs, ws, h, h2 => by
    simp only [fits, Bool.and_eq_true] at h
    simp [fits, h.1, fits_join h.2 h2]
theorem keyLits_leaf {P : Program} {d : Nat} {t : TypeId} {v : Value} (h : leafOk P t v = true) : P.keyLits (d + 1) t [v] = some [litOf v] := by
  unfold leafOk at h
  unfold Program.keyLits
  split at h
  · rename_i hu; simp [hu, litOf]
  · rename_i q q' n hu
    simp only [Bool.and_eq_true, decide_eq_true_eq] at h
    simp [hu, litOf, h.1, h.2]
  · rename_i s hu
    simp only [decide_eq_true_eq] at h
    simp [hu, litOf, h]
  · cases h
theorem leaves_cells {P : Program} {d : Nat} {t : TypeId} {ls : List TypeId} (h : leaves P d t = some ls) : P.cellsOf t = ls.length := by
  cases d with
  | zero => simp [leaves] at h
  | succ d =>
    unfold leaves at h
    split at h
    · split at h <;> simp_all
      subst h; rfl
    · split at h <;> simp_all
      subst h; rfl
    · split at h <;> simp_all
      subst h; rfl
    · split at h
      · split at h
        · cases h; assumption
        · cases h
      · cases h
    · split at h
      · split at h
        · cases h
          rename_i hc
          rw [hc]; simp
        · cases h
      · cases h
    · split at h <;> simp_all
      subst h; rfl
theorem mapM_nil_opt {α β : Type} (f : α → Option β) : ([] : List α).mapM f = some [] := rfl
theorem mapM_cons_opt {α β : Type} (f : α → Option β) (a : α) (l : List α) (b : β) (bs : List β) (h : f a = some b) (hl : l.mapM f = some bs) : (a :: l).mapM f = some (b :: bs) := by
  rw [List.mapM_cons, h, hl]; rfl
theorem mapM_range {β : Type} (f : Nat → Option β) (g : Nat → β) (n : Nat) (h : ∀ i, i < n → f i = some (g i)) : (List.range n).mapM f = some ((List.range n).map g) := by
  have aux : ∀ l : List Nat, (∀ i ∈ l, f i = some (g i)) → l.mapM f = some (l.map g) := by
    intro l
    induction l with
    | nil => intro _; rfl
    | cons a l ih => intro h; exact mapM_cons_opt f a l _ _ (h a (by simp)) (ih fun i hi => h i (by simp [hi]))
  exact aux _ fun i hi => h i (by simpa using hi)
theorem fits_flat {P : Program} (l : List TypeId) : ∀ (n : Nat) (cs : List Value), fits P (List.replicate n l).flatten cs = true → ∀ i, i < n → fits P l ((cs.drop (i * l.length)).take l.length) = true
  | 0, cs, _, i, hi => by omega
  | n + 1, cs, h, i, hi => by
    rw [List.replicate_succ, List.flatten_cons] at h
    obtain ⟨h1, h2⟩ := fits_append h
    cases i with
    | zero => simpa using h1
    | succ i =>
      have := fits_flat l n _ h2 i (by omega)
      rw [List.drop_drop] at this
      rw [Nat.succ_mul, Nat.add_comm]
      exact this
theorem flatten_chunks {α : Type} (c : Nat) : ∀ (n : Nat) (l : List α), l.length = n * c → ((List.range n).map fun i => (l.drop (i * c)).take c).flatten = l
  | 0, l, h => by simp at h; simp [h]
  | n + 1, l, h => by
    rw [List.range_succ_eq_map]
    simp only [List.map_cons, List.map_map, List.flatten_cons, Nat.zero_mul, List.drop_zero]
    have h2 := flatten_chunks c n (l.drop c) (by rw [List.length_drop, h, Nat.succ_mul]; omega)
    have h3 : ((fun i => List.take c (List.drop (i * c) l)) ∘ Nat.succ) = fun i => ((l.drop c).drop (i * c)).take c := by
      funext i
      simp only [Function.comp, List.drop_drop]
      rw [Nat.succ_mul, Nat.add_comm]
    rw [h3, h2, List.take_append_drop]
theorem keyLits_fields {P : Program} {d : Nat} (ih : ∀ (t : TypeId) (ls : List TypeId) (cs : List Value), leaves P d t = some ls → fits P ls cs = true → P.keyLits d t cs = some (cs.map litOf)) :
    ∀ (fs : List Field) (off : Nat) (l : List TypeId) (cs : List Value), fieldLeaves (leaves P d) fs off = some l → fits P l (cs.drop off) = true →
      (fs.all (·.name != "_") = true) ∧ ∃ lss, (fs.mapM fun f => P.keyLits d f.type ((cs.drop f.offset).take (P.cellsOf f.type))) = some lss ∧ lss.flatten = (cs.drop off).map litOf
  | [], off, l, cs, h, hf => by
    simp only [fieldLeaves, Option.some.injEq] at h
    subst h
    have : cs.drop off = [] := by
      cases hc : cs.drop off with
      | nil => rfl
      | cons v vs => rw [hc] at hf; simp [fits] at hf
    exact ⟨rfl, [], rfl, by rw [this]; rfl⟩
  | f :: fs, off, l, cs, h, hf => by
    unfold fieldLeaves at h
    split at h
    · rename_i hc
      simp only [Bool.and_eq_true, beq_iff_eq] at hc
      split at h
      · rename_i l0 hl0
        simp only [Option.map_eq_some_iff] at h
        obtain ⟨l1, hl1, rfl⟩ := h
        obtain ⟨h1, h2⟩ := fits_append hf
        rw [List.drop_drop] at h2
        obtain ⟨ha, lss, hm, hfl⟩ := keyLits_fields ih fs (off + l0.length) l1 cs hl1 h2
        have hcell := leaves_cells hl0
        refine ⟨by simp [hc.1, ha], _, mapM_cons_opt _ f fs _ lss (by rw [hc.2, hcell]; exact ih f.type l0 _ hl0 h1) hm, ?_⟩
        rw [List.flatten_cons, hfl, ← List.map_append]
        congr 1
        rw [← List.drop_drop, List.take_append_drop]
      · cases h
    · cases h
theorem keyLits_leaves {P : Program} : ∀ (d : Nat) (t : TypeId) (ls : List TypeId) (cs : List Value), leaves P d t = some ls → fits P ls cs = true → P.keyLits d t cs = some (cs.map litOf)
  | 0, t, ls, cs, h, _ => by simp [leaves] at h
  | d + 1, t, ls, cs, h, hf => by
    have ih := keyLits_leaves (P := P) d
    have hcell := leaves_cells h
    have hlen := fits_len hf
    have leafc : ls = [t] → P.keyLits (d + 1) t cs = some (cs.map litOf) := by
      rintro rfl
      match cs, hlen with
      | [v], _ =>
        simp only [fits, Bool.and_true] at hf
        exact keyLits_leaf hf
    unfold leaves at h
    split at h
    · split at h
      · cases h; exact leafc rfl
      · cases h
    · split at h
      · cases h; exact leafc rfl
      · cases h
    · split at h
      · cases h; exact leafc rfl
      · cases h
    · rename_i fs hu
      split at h
      · rename_i l hl
        split at h
        · cases h
          rename_i hc
          obtain ⟨ha, lss, hm, hfl⟩ := keyLits_fields ih fs.toList 0 _ cs hl (by simpa using hf)
          have hall : fs.all (·.name != "_") = true := by rw [← Array.all_toList]; exact ha
          have hlc : cs.length = P.cellsOf t := by rw [hlen, hc]
          unfold Program.keyLits
          simp only [hu, hlc, hall, and_self, if_true]
          rw [hm]
          simpa using hfl
        · cases h
      · cases h
    · rename_i n e hu
      split at h
      · rename_i l hl
        split at h
        · cases h
          rename_i hc
          have hce := leaves_cells hl
          have hlc : cs.length = P.cellsOf t := by rw [hlen, hcell]
          unfold Program.keyLits
          simp only [hu, hlc, if_true]
          rw [mapM_range _ (fun i => ((cs.drop (i * P.cellsOf e)).take (P.cellsOf e)).map litOf) n (fun i hi => by
            rw [hce]
            exact ih e l _ hl (fits_flat l n cs hf i hi))]
          simp only [Option.map_some, Option.some.injEq]
          have hcs : cs.length = n * P.cellsOf e := by rw [hlc, hc, hce]
          have := congrArg (List.map litOf) (flatten_chunks (P.cellsOf e) n cs hcs)
          rw [List.map_flatten, List.map_map] at this
          exact this
        · cases h
      · cases h
    · split at h
      · cases h; exact leafc rfl
      · cases h
theorem leaf_inj {P : Program} {t : TypeId} {v u : Value} (h1 : leafOk P t v = true) (h2 : leafOk P t u = true) : litOf v = litOf u ↔ v = u := by
  constructor
  · intro e
    unfold leafOk at h1 h2
    cases v <;> cases u <;> simp_all [litOf]
    all_goals first
      | (exact ByteArray.ext (Array.toList_inj.1 e))
      | (exact ByteArray.ext e)
      | (split at h1 <;> simp_all; try exact ByteArray.ext (by assumption))
  · intro e; rw [e]
theorem litOf_inj {P : Program} : ∀ {ls : List TypeId} {xs ys : List Value}, fits P ls xs = true → fits P ls ys = true → (xs.map litOf = ys.map litOf ↔ xs = ys)
  | [], [], [], _, _ => by simp
  | [], v :: vs, _, h, _ => by simp [fits] at h
  | [], _, v :: vs, _, h => by simp [fits] at h
  | t :: ts, [], _, h, _ => by simp [fits] at h
  | t :: ts, _, [], _, h => by simp [fits] at h
  | t :: ts, v :: vs, u :: us, h, h' => by
    simp only [fits, Bool.and_eq_true] at h h'
    have ih := litOf_inj h.2 h'.2
    have hvu : litOf v = litOf u ↔ v = u := leaf_inj h.1 h'.1
    simp [hvu, ih]
section
variable {P : Program} (w : World)
/-- '==' of two values whose cells fit. -/
theorem run_equal_plain (d m : Nat) (hm : m ≤ 10000) (t : TypeId) (ls : List TypeId) (hk : P.keyTypeAt m t = true) (hl : leaves P d t = some ls) (x y : Value) (hx : x.formed P t = true) (hy : y.formed P t = true)
    (fx : fits P ls x.cells.toList = true) (fy : fits P ls y.cells.toList = true) (p : Bool) (hp : p = true ↔ x.cells.toList = y.cells.toList) :
    (Op.equal t x y).run P w = .ok p w := by
  obtain ⟨r, hr, hiff⟩ := run_equalIn_deep (10000 - m) m t hk w d d x y _ _ hx hy (keyLits_leaves d t ls _ hl fx) (keyLits_leaves d t ls _ hl fy)
  rw [show 10000 - m + m = 10000 from by omega] at hr
  have : r = p := by rw [Bool.eq_iff_iff, hiff, litOf_inj fx fy, hp]
  rw [← this]
  exact hr
theorem run_eql_plain (d m : Nat) (hm : m ≤ 10000) (t : TypeId) (ls : List TypeId) (hk : P.keyTypeAt m t = true) (hl : leaves P d t = some ls) (xs ys : Array Value) (hx : (Value.agg xs).formed P t = true) (hy : (Value.agg ys).formed P t = true)
    (fx : fits P ls xs.toList = true) (fy : fits P ls ys.toList = true) (p : Bool) (hp : p = true ↔ xs.toList = ys.toList) :
    (binOp .eql t (.agg xs) (.agg ys)).run P w = .ok (.bool p) w := by
  have h := run_equal_plain (P := P) w d m hm t ls hk hl (.agg xs) (.agg ys) hx hy fx fy p hp
  simp only [binOp]
  simp [h]
theorem run_neq_plain (d m : Nat) (hm : m ≤ 10000) (t : TypeId) (ls : List TypeId) (hk : P.keyTypeAt m t = true) (hl : leaves P d t = some ls) (xs ys : Array Value) (hx : (Value.agg xs).formed P t = true) (hy : (Value.agg ys).formed P t = true)
    (fx : fits P ls xs.toList = true) (fy : fits P ls ys.toList = true) (p : Bool) (hp : p = true ↔ xs.toList = ys.toList) :
    (binOp .neq t (.agg xs) (.agg ys)).run P w = .ok (.bool (!p)) w := by
  have h := run_equal_plain (P := P) w d m hm t ls hk hl (.agg xs) (.agg ys) hx hy fx fy p hp
  simp only [binOp]
  simp [h]
end
/-! ### what fits, cell by cell -/
theorem fits_at {P : Program} : ∀ {ts : List TypeId} {vs : List Value}, fits P ts vs = true → ∀ (i : Nat) (t : TypeId), ts[i]? = some t → ∃ v, vs[i]? = some v ∧ leafOk P t v = true
  | [], _, _, i, t, h => by simp at h
  | t :: ts, [], h, _, _, _ => by simp [fits] at h
  | t :: ts, v :: vs, h, 0, t', hi => by
    simp only [fits, Bool.and_eq_true] at h
    simp only [List.getElem?_cons_zero, Option.some.injEq] at hi
    subst hi
    exact ⟨v, rfl, h.1⟩
  | t :: ts, v :: vs, h, i + 1, t', hi => by
    simp only [fits, Bool.and_eq_true] at h
    exact fits_at h.2 i t' (by simpa using hi)
theorem fits_set {P : Program} : ∀ {ts : List TypeId} {vs : List Value}, fits P ts vs = true → ∀ (i : Nat) (t : TypeId) (u : Value), ts[i]? = some t → leafOk P t u = true → fits P ts (vs.set i u) = true
  | [], _, _, i, t, u, h, _ => by simp at h
  | t :: ts, [], h, _, _, _, _, _ => by simp [fits] at h
  | t :: ts, v :: vs, h, 0, t', u, hi, hu => by
    simp only [fits, Bool.and_eq_true] at h
    simp only [List.getElem?_cons_zero, Option.some.injEq] at hi
    subst hi
    simp [fits, hu, h.2]
  | t :: ts, v :: vs, h, i + 1, t', u, hi, hu => by
    simp only [fits, Bool.and_eq_true] at h
    simp [fits, h.1, fits_set h.2 i t' u (by simpa using hi) hu]
theorem fits_setA {P : Program} {ts : List TypeId} {vs : Array Value} (h : fits P ts vs.toList = true) (i : Nat) (t : TypeId) (u : Value) (hi : ts[i]? = some t) (hu : leafOk P t u = true) : fits P ts (vs.setIfInBounds i u).toList = true := by
  rw [Array.toList_setIfInBounds]
  exact fits_set h i t u hi hu
theorem fits_one {P : Program} : ∀ {ts : List TypeId} {vs : List Value}, fits P ts vs = true → vs.all (·.oneCell') = true
  | [], [], _ => rfl
  | [], v :: vs, h => by simp [fits] at h
  | t :: ts, [], h => by simp [fits] at h
  | t :: ts, v :: vs, h => by
    simp only [fits, Bool.and_eq_true] at h
    have h1 : v.oneCell' = true := by
      have := h.1
      unfold leafOk at this
      split at this <;> first | rfl | cases this
    simp [h1, fits_one h.2]
theorem leaf_int {P : Program} {t : TypeId} {q : IntKind} {v : Value} (hu : P.underlying t = some (.int q)) (h : leafOk P t v = true) : ∃ n, v = .int q n ∧ (Lit.int q n).wf = true := by
  unfold leafOk at h
  rw [hu] at h
  cases v <;> simp_all
theorem leaf_bool {P : Program} {t : TypeId} {v : Value} (hu : P.underlying t = some .bool) (h : leafOk P t v = true) : ∃ n, v = .bool n := by
  unfold leafOk at h
  rw [hu] at h
  cases v <;> simp_all
theorem leaf_string {P : Program} {t : TypeId} {v : Value} (hu : P.underlying t = some .string) (h : leafOk P t v = true) : ∃ n, v = .string n ∧ n.size ≤ maxLen := by
  unfold leafOk at h
  rw [hu] at h
  cases v <;> simp_all
theorem leaf_mk_int {P : Program} {t : TypeId} {q : IntKind} {n : Int} (hu : P.underlying t = some (.int q)) (h : (Lit.int q n).wf = true) : leafOk P t (.int q n) = true := by
  unfold leafOk; rw [hu]; simp [h]
theorem leaf_mk_bool {P : Program} {t : TypeId} {n : Bool} (hu : P.underlying t = some .bool) : leafOk P t (.bool n) = true := by
  unfold leafOk; rw [hu]
theorem leaf_mk_string {P : Program} {t : TypeId} {n : ByteArray} (hu : P.underlying t = some .string) (h : n.size ≤ maxLen) : leafOk P t (.string n) = true := by
  unfold leafOk; rw [hu]; simp [h]
/-! ### the bounds of the kinds -/
theorem wf_u8 {n : Int} : (Lit.int .u8 n).wf = true ↔ 0 ≤ n ∧ n ≤ 255 := by simp [Lit.wf, IntKind.min, IntKind.max, IntKind.signed, IntKind.bits]
theorem wf_u32 {n : Int} : (Lit.int .u32 n).wf = true ↔ 0 ≤ n ∧ n ≤ 4294967295 := by simp [Lit.wf, IntKind.min, IntKind.max, IntKind.signed, IntKind.bits]
theorem wf_u64 {n : Int} : (Lit.int .u64 n).wf = true ↔ 0 ≤ n ∧ n ≤ 18446744073709551615 := by simp [Lit.wf, IntKind.min, IntKind.max, IntKind.signed, IntKind.bits]
theorem wf_i64 {n : Int} : (Lit.int .i64 n).wf = true ↔ -9223372036854775808 ≤ n ∧ n ≤ 9223372036854775807 := by simp [Lit.wf, IntKind.min, IntKind.max, IntKind.signed, IntKind.bits]
theorem wf_i32 {n : Int} : (Lit.int .i32 n).wf = true ↔ -2147483648 ≤ n ∧ n ≤ 2147483647 := by simp [Lit.wf, IntKind.min, IntKind.max, IntKind.signed, IntKind.bits]
end Go.Proofs.YtfhifdmbdkkgaaaDoor
