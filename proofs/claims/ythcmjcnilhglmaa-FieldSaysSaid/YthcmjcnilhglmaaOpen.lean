/- Arguments opened: from the reading of an argument to the cells of a struct, of a slice, of a slice of structs, each cell with its own reading. No condition. -/
import Derived.Test.YthcmjcnilhglmaaEq
import Derived.Test.YthcmjcnilhglmaaFlat
import Derived.Deep.Slices
import Derived.OpenShut
namespace Go.Proofs.Ythcmjcnilhglmaa
open Go.RowKit Go.ChangeShapes Go.WideShapes Go.Deep
set_option linter.unusedVariables false
set_option linter.unusedSimpArgs false
section
variable {H : Type} {enc : TypeId × Value → H} {P : Program} {w : World} {base : Nat} {spare : Nat → Bool} {held : Bool}
/-- each cell of the list reads by its own type -/
def CellsRead (enc : TypeId × Value → H) (P : Program) (w : World) (base : Nat) (spare : Nat → Bool) (held : Bool) : List TypeId → List Value → Prop
  | [], [] => True
  | t :: ts, v :: vs => (∃ n y, DataW.trod enc P w base spare held n t [v] = some y) ∧ CellsRead enc P w base spare held ts vs
  | _, _ => False
theorem CellsRead.join : ∀ {ts us : List TypeId} {vs ws : List Value}, CellsRead enc P w base spare held ts vs → CellsRead enc P w base spare held us ws → CellsRead enc P w base spare held (ts ++ us) (vs ++ ws)
  | [], us, [], ws, _, h => h
  | [], us, v :: vs, ws, h, _ => h.elim
  | t :: ts, us, [], ws, h, _ => h.elim
  | t :: ts, us, v :: vs, ws, h, h2 => ⟨h.1, CellsRead.join h.2 h2⟩
theorem CellsRead.at : ∀ {ts : List TypeId} {vs : List Value}, CellsRead enc P w base spare held ts vs → ∀ (i : Nat) (t : TypeId), ts[i]? = some t → ∃ v n y, vs[i]? = some v ∧ DataW.trod enc P w base spare held n t [v] = some y
  | [], _, _, i, t, hi => by simp at hi
  | t :: ts, [], h, i, _, _ => h.elim
  | t :: ts, v :: vs, h, 0, t', hi => by
    simp only [List.getElem?_cons_zero, Option.some.injEq] at hi
    subst hi
    obtain ⟨n, y, hy⟩ := h.1
    exact ⟨v, n, y, rfl, hy⟩
  | t :: ts, v :: vs, h, i + 1, t', hi => CellsRead.at h.2 i t' (by simpa using hi)
theorem CellsRead.len : ∀ {ts : List TypeId} {vs : List Value}, CellsRead enc P w base spare held ts vs → vs.length = ts.length
  | [], [], _ => rfl
  | [], v :: vs, h => h.elim
  | t :: ts, [], h => h.elim
  | t :: ts, v :: vs, h => by simp [CellsRead.len h.2]
def plainT (P : Program) (t : TypeId) : Bool := match P.underlying t with | some (.int _) | some .bool | some .string => true | _ => false
theorem leafOk_of_trod {n : Nat} {t : TypeId} {v : Value} {y : DataW H × List MemPlace} (hp : plainT P t = true) (h : DataW.trod enc P w base spare held n t [v] = some y) : leafOk P t v = true := by
  unfold plainT at hp
  split at hp
  · rename_i k hu
    obtain ⟨x, hx, _, hwf⟩ := DataW.trod_int hu h
    simp only [List.cons.injEq, and_true] at hx
    subst hx
    simp [leafOk, hu, hwf]
  · rename_i hu
    obtain ⟨x, hx, _⟩ := DataW.trod_bool hu h
    simp only [List.cons.injEq, and_true] at hx
    subst hx
    simp [leafOk, hu]
  · rename_i hu
    obtain ⟨x, hx, _, hs⟩ := DataW.trod_string hu h
    simp only [List.cons.injEq, and_true] at hx
    subst hx
    simp [leafOk, hu, hs]
  · cases hp
theorem CellsRead.fits : ∀ {ts : List TypeId} {vs : List Value}, CellsRead enc P w base spare held ts vs → ts.all (plainT P) = true → fits P ts vs = true
  | [], [], _, _ => rfl
  | [], v :: vs, h, _ => h.elim
  | t :: ts, [], h, _ => h.elim
  | t :: ts, v :: vs, h, hp => by
    simp only [List.all_cons, Bool.and_eq_true] at hp
    obtain ⟨n, y, hy⟩ := h.1
    simp [Go.Proofs.Ythcmjcnilhglmaa.fits, leafOk_of_trod hp.1 hy, CellsRead.fits h.2 hp.2]
theorem one_cell_read {n : Nat} {t : TypeId} {cs : List Value} {y : DataW H × List MemPlace} (hl : cs.length = 1) (h : DataW.trod enc P w base spare held n t cs = some y) : CellsRead enc P w base spare held [t] cs := by
  match cs, hl with
  | [v], _ => exact ⟨⟨n, y, h⟩, trivial⟩
theorem read_leaves : ∀ (d : Nat) (t : TypeId) (ls : List TypeId) (n : Nat) (cs : List Value) (y : DataW H × List MemPlace), leaves P d t = some ls → cs.length = P.cellsOf t → DataW.trod enc P w base spare held n t cs = some y → CellsRead enc P w base spare held ls cs
  | 0, t, ls, n, cs, y, h, _, _ => by simp [leaves] at h
  | d + 1, t, ls, n, cs, y, h, hlen, hy => by
    have hcell := leaves_cells h
    have leafc : ls = [t] → CellsRead enc P w base spare held ls cs := by
      rintro rfl
      exact one_cell_read (by rw [hlen, hcell]; rfl) hy
    unfold leaves at h
    split at h
    · split at h
      · cases h; exact leafc rfl
      · cases h
    · split at h
      · cases h; exact leafc rfl
      · cases h
    · split at h
      · cases h; exact leafc rfl
      · cases h
    · rename_i fs hu
      split at h
      · rename_i l hl
        split at h
        · cases h
          rename_i hc
          obtain ⟨xs, m, _, _, _, hxl, hf⟩ := DataW.trod_struct hu hy
          have aux : ∀ (gs : List Field) (off : Nat) (l : List TypeId), fieldLeaves (leaves P d) gs off = some l → (∀ g ∈ gs, ∃ z, DataW.trod enc P w base spare held m g.type ((cs.drop g.offset).take (P.cellsOf g.type)) = some z) →
              off + l.length ≤ cs.length → CellsRead enc P w base spare held l ((cs.drop off).take l.length) := by
            intro gs
            induction gs with
            | nil => intro off l hl _ _; simp only [fieldLeaves, Option.some.injEq] at hl; subst hl; simp [CellsRead]
            | cons g gs ih =>
              intro off l hl hg hle
              unfold fieldLeaves at hl
              split at hl
              · rename_i hcc
                simp only [Bool.and_eq_true, beq_iff_eq] at hcc
                split at hl
                · rename_i l0 hl0
                  simp only [Option.map_eq_some_iff] at hl
                  obtain ⟨l1, hl1, rfl⟩ := hl
                  rw [List.length_append] at hle
                  obtain ⟨z, hz⟩ := hg g (by simp)
                  have hc0 := leaves_cells hl0
                  rw [hcc.2, hc0] at hz
                  have h1 := read_leaves d g.type l0 m _ z hl0 (by rw [hc0, List.length_take, List.length_drop]; omega) hz
                  have h2 := ih (off + l0.length) l1 hl1 (fun g' hg' => hg g' (by simp [hg'])) (by omega)
                  have hj := h1.join h2
                  rw [← List.drop_drop] at hj
                  have e : (cs.drop off).take (l0 ++ l1).length = (cs.drop off).take l0.length ++ ((cs.drop off).drop l0.length).take l1.length := by
                    rw [List.length_append, List.take_add]
                  rw [e]; exact hj
                · cases hl
              · cases hl
          have := aux fs.toList 0 _ hl (fun g hg => by
            obtain ⟨i, hi⟩ := List.getElem?_of_mem hg
            have hi' : fs[i]? = some g := by simpa using hi
            have hlt : i < xs.length := by rw [hxl]; exact (Array.getElem?_eq_some_iff.1 hi').1
            exact ⟨xs[i], (hf i g hi').trans (List.getElem?_eq_getElem hlt)⟩) (by omega)
          rw [List.drop_zero, List.take_of_length_le (by omega)] at this
          exact this
        · cases h
      · cases h
    · rename_i k e hu
      split at h
      · rename_i l hl
        split at h
        · cases h
          rename_i hc
          obtain ⟨xs, m, _, _, _, hxl, hf⟩ := DataW.trod_array hu hy
          have hce := leaves_cells hl
          have aux : ∀ (j i : Nat), i + j = k → CellsRead enc P w base spare held (List.replicate j l).flatten (cs.drop (i * l.length)) := by
            intro j
            induction j with
            | zero =>
              intro i hi
              have : cs.length ≤ i * l.length := by rw [hlen, hc]; have : i = k := by omega
                                                    rw [this]; exact Nat.le_refl _
              rw [List.drop_eq_nil_of_le this]
              trivial
            | succ j ih =>
              intro i hi
              rw [List.replicate_succ, List.flatten_cons]
              have hz := hf i (by omega)
              rw [List.getElem?_eq_getElem (show i < xs.length by omega), hce] at hz
              have hlen2 : ((cs.drop (i * l.length)).take l.length).length = P.cellsOf e := by
                rw [hce, List.length_take, List.length_drop, hlen, hc]
                have : (i + 1) * l.length ≤ k * l.length := Nat.mul_le_mul_right _ (by omega)
                rw [Nat.succ_mul] at this
                omega
              have h1 := read_leaves d e l m _ _ hl hlen2 hz
              have h2 := ih (i + 1) (by omega)
              have hj := h1.join h2
              rw [Nat.succ_mul, ← List.drop_drop, List.take_append_drop] at hj
              exact hj
          have := aux k 0 (by omega)
          simpa using this
        · cases h
      · cases h
    · split at h
      · cases h; exact leafc rfl
      · cases h
/-- a struct, an array that came in by value: its cells, each with its own reading -/
theorem open_struct {d : Nat} {t : TypeId} {fs : Array Field} {ls : List TypeId} {r : Reach} {b0 : Nat} {v : Value} {dd : DataW H} {p : List MemPlace} (hu : P.underlying t = some (.struct fs)) (hl : leaves P d t = some ls)
    (hv : Value.okWide P w r b0 t v) (h : DataW.Trod enc P w base spare held t v dd p) : ∃ cs : Array Value, v = .agg cs ∧ cs.size = ls.length ∧ CellsRead enc P w base spare held ls cs.toList := by
  obtain ⟨cs, rfl, hsz⟩ := okWide_struct hu hv
  obtain ⟨fuel, hf⟩ := h
  exact ⟨cs, rfl, hsz.trans (leaves_cells hl), read_leaves d t ls fuel _ _ hl (by simpa using hsz) hf⟩
theorem open_array {d : Nat} {t e : TypeId} {m : Nat} {ls : List TypeId} {r : Reach} {b0 : Nat} {v : Value} {dd : DataW H} {p : List MemPlace} (hu : P.underlying t = some (.array m e)) (hl : leaves P d t = some ls)
    (hv : Value.okWide P w r b0 t v) (h : DataW.Trod enc P w base spare held t v dd p) : ∃ cs : Array Value, v = .agg cs ∧ cs.size = ls.length ∧ CellsRead enc P w base spare held ls cs.toList := by
  have : ∃ cs, v = .agg cs ∧ cs.size = P.cellsOf t := by
    simp only [Value.okWide, hu] at hv
    obtain ⟨cs, h1, h2, _⟩ := hv
    exact ⟨cs, h1, h2⟩
  obtain ⟨cs, rfl, hsz⟩ := this
  obtain ⟨fuel, hf⟩ := h
  exact ⟨cs, rfl, hsz.trans (leaves_cells hl), read_leaves d t ls fuel _ _ hl (by simpa using hsz) hf⟩
/-- a slice that came in: what its elements' cells read as -/
theorem open_sl {d : Nat} {t e : TypeId} {ls : List TypeId} {A0 : Option Addr} {n0 c0 : Nat} {dd : DataW H} {p : List MemPlace} (ht : P.underlying t = some (.slice e)) (hl : leaves P d e = some ls)
    (h : DataW.Trod enc P w base spare held t (.slice A0 n0 c0) dd p) :
    n0 ≤ c0 ∧ c0 ≤ maxLen ∧ (A0 = none → c0 = 0) ∧ ∃ CS : Nat → List Value, Rd w w.heap.size ls.length A0 n0 ((List.range n0).flatMap CS) ∧ ∀ i, i < n0 → CellsRead enc P w base spare held ls (CS i) := by
  obtain ⟨fuel, hf⟩ := h
  rcases open_slice ht hf with ⟨hcs, _⟩ | ⟨a, len, cap, m, n, D, Pl, hcs, hb, hle, hm, hmm, _, hx⟩
  · have hcs' : Value.slice A0 n0 c0 = .slice none 0 0 := by simpa [Value.cells] using hcs
    cases hcs'
    exact ⟨Nat.le_refl _, by simp [maxLen], fun _ => rfl, fun _ => [], Rd.nil, fun i hi => by omega⟩
  · have hcs' : Value.slice A0 n0 c0 = .slice (some a) len cap := by simpa [Value.cells] using hcs
    cases hcs'
    have hc := leaves_cells hl
    have hmn : n0 ≤ m := by rw [hmm]; split <;> omega
    refine ⟨hle, hm, (fun h => by cases h), ?_⟩
    obtain ⟨CS, hCS⟩ := choose_lt (α := List Value) (n := n0) (p := fun i cs => w.cells? base (a.add (i * P.cellsOf e)) (P.cellsOf e) = some cs ∧ CellsRead enc P w base spare held ls cs) (fun i hi => by
      obtain ⟨cs', h1, h2⟩ := hx i (by omega)
      obtain ⟨_, hlen, _⟩ := World.cells?_some h1
      exact ⟨cs', h1, read_leaves d e ls _ _ _ hl hlen h2⟩)
    have hlen : ∀ i, i < n0 → (CS i).length = ls.length := fun i hi => (World.cells?_some (hCS i hi).1).2.1.trans hc
    have hfl : ∀ q : Nat, q ≤ n0 → ((List.range q).flatMap CS).length = q * ls.length := by
      intro q
      induction q with
      | zero => intro _; simp
      | succ q ih => intro hq; rw [List.range_succ, List.flatMap_append, List.length_append, ih (by omega), Nat.succ_mul]; simp [hlen q (by omega)]
    refine ⟨CS, ⟨hfl n0 (Nat.le_refl _), ?_⟩, fun i hi => (hCS i hi).2⟩
    have key : ∀ q : Nat, q ≤ n0 → ∀ (j : Nat) (u : Value), ((List.range q).flatMap CS)[j]? = some u → ∃ i r, i < q ∧ (CS i)[r]? = some u ∧ j = i * ls.length + r := by
      intro q
      induction q with
      | zero => intro _ j u hu; simp at hu
      | succ q ih =>
        intro hq j u hu
        rw [List.range_succ, List.flatMap_append] at hu
        by_cases hj : j < ((List.range q).flatMap CS).length
        · rw [List.getElem?_append_left hj] at hu
          obtain ⟨i, r, hi, hr, he⟩ := ih (by omega) j u hu
          exact ⟨i, r, by omega, hr, he⟩
        · rw [List.getElem?_append_right (by omega), hfl q (by omega)] at hu
          rw [hfl q (by omega)] at hj
          exact ⟨q, j - q * ls.length, by omega, by simpa using hu, by omega⟩
    intro j u hu
    obtain ⟨i, r, hi, hr, rfl⟩ := key n0 (Nat.le_refl _) j u hu
    obtain ⟨_, hl2, hat⟩ := World.cells?_some (hCS i hi).1
    have hrl : r < P.cellsOf e := by rw [hc, ← hlen i hi]; exact (List.getElem?_eq_some_iff.1 hr).1
    have hcell : w.cell? (a.add (i * ls.length + r)) = some u := by
      have := hat r hrl
      rw [hr, add_add, hc] at this
      exact this
    refine ⟨a, rfl, ?_, hcell⟩
    have := World.block_lt_of_cell? w _ hcell
    rwa [add_block] at this
/-- a slice whose elements are one cell each -/
theorem open_cells {γ : Type} {f : γ → Value} {p : γ → Prop} {t e : TypeId} {A0 : Option Addr} {n0 c0 : Nat} {dd : DataW H} {pl : List MemPlace} (ht : P.underlying t = some (.slice e)) (hl : leaves P 1 e = some [e])
    (hf : ∀ v n y, DataW.trod enc P w base spare held n e [v] = some y → ∃ t, v = f t ∧ p t)
    (h : DataW.Trod enc P w base spare held t (.slice A0 n0 c0) dd pl) :
    n0 ≤ c0 ∧ c0 ≤ maxLen ∧ ∃ l : List γ, l.length = n0 ∧ Rd w w.heap.size 1 A0 n0 (l.map f) ∧ ∀ t ∈ l, p t := by
  obtain ⟨h1, h2, _, CS, hrd, hcs⟩ := open_sl ht hl h
  obtain ⟨l, hlen, he, hp⟩ := flat_range CS (fun t : γ => [f t]) p n0 (fun i hi => by
    have hc := hcs i hi
    match hCS : CS i with
    | [] => rw [hCS] at hc; exact hc.elim
    | [v] =>
      rw [hCS] at hc
      obtain ⟨n, y, hy⟩ := hc.1
      obtain ⟨t, rfl, hpt⟩ := hf v n y hy
      exact ⟨t, rfl, hpt⟩
    | v :: v' :: vs => rw [hCS] at hc; exact hc.2.elim)
  have e2 : l.flatMap (fun t : γ => [f t]) = l.map f := by
    clear he hp hlen
    induction l with
    | nil => rfl
    | cons a l ih => simp [ih]
  rw [he, e2] at hrd
  exact ⟨h1, h2, l, hlen, hrd, hp⟩
theorem open_bytes {t e : TypeId} {A0 : Option Addr} {n0 c0 : Nat} {dd : DataW H} {pl : List MemPlace} (ht : P.underlying t = some (.slice e)) (hu : P.underlying e = some (.int .u8)) (hl : leaves P 1 e = some [e])
    (h : DataW.Trod enc P w base spare held t (.slice A0 n0 c0) dd pl) :
    n0 ≤ c0 ∧ c0 ≤ maxLen ∧ ∃ l : List Nat, l.length = n0 ∧ Rd w w.heap.size 1 A0 n0 (l.map fun b => .int .u8 (b : Nat)) ∧ ∀ t ∈ l, t < 256 :=
  open_cells ht hl (fun v n y hy => by
    obtain ⟨x, hx, _, hwf⟩ := DataW.trod_int hu hy
    simp only [List.cons.injEq, and_true] at hx
    rw [wf_u8] at hwf
    obtain ⟨m, rfl⟩ := Int.eq_ofNat_of_zero_le hwf.1
    exact ⟨m, hx, by omega⟩) h
theorem open_i64s {t e : TypeId} {A0 : Option Addr} {n0 c0 : Nat} {dd : DataW H} {pl : List MemPlace} (ht : P.underlying t = some (.slice e)) (hu : P.underlying e = some (.int .i64)) (hl : leaves P 1 e = some [e])
    (h : DataW.Trod enc P w base spare held t (.slice A0 n0 c0) dd pl) :
    n0 ≤ c0 ∧ c0 ≤ maxLen ∧ ∃ l : List Int, l.length = n0 ∧ Rd w w.heap.size 1 A0 n0 (l.map fun b => .int .i64 b) ∧ ∀ t ∈ l, -9223372036854775808 ≤ t ∧ t ≤ 9223372036854775807 :=
  open_cells ht hl (fun v n y hy => by
    obtain ⟨x, hx, _, hwf⟩ := DataW.trod_int hu hy
    simp only [List.cons.injEq, and_true] at hx
    exact ⟨x, hx, wf_i64.1 hwf⟩) h
theorem open_strs {t e : TypeId} {A0 : Option Addr} {n0 c0 : Nat} {dd : DataW H} {pl : List MemPlace} (ht : P.underlying t = some (.slice e)) (hu : P.underlying e = some .string) (hl : leaves P 1 e = some [e])
    (h : DataW.Trod enc P w base spare held t (.slice A0 n0 c0) dd pl) :
    n0 ≤ c0 ∧ c0 ≤ maxLen ∧ ∃ l : List ByteArray, l.length = n0 ∧ Rd w w.heap.size 1 A0 n0 (l.map .string) ∧ ∀ t ∈ l, t.size ≤ maxLen :=
  open_cells ht hl (fun v n y hy => by
    obtain ⟨x, hx, _, hwf⟩ := DataW.trod_string hu hy
    simp only [List.cons.injEq, and_true] at hx
    exact ⟨x, hx, hwf⟩) h
theorem open_bools {t e : TypeId} {A0 : Option Addr} {n0 c0 : Nat} {dd : DataW H} {pl : List MemPlace} (ht : P.underlying t = some (.slice e)) (hu : P.underlying e = some .bool) (hl : leaves P 1 e = some [e])
    (h : DataW.Trod enc P w base spare held t (.slice A0 n0 c0) dd pl) :
    n0 ≤ c0 ∧ c0 ≤ maxLen ∧ ∃ l : List Bool, l.length = n0 ∧ Rd w w.heap.size 1 A0 n0 (l.map .bool) :=
  by
    obtain ⟨h1, h2, l, h3, h4, _⟩ := open_cells (p := fun _ => True) ht hl (fun v n y hy => by
      obtain ⟨x, hx, _⟩ := DataW.trod_bool hu hy
      simp only [List.cons.injEq, and_true] at hx
      exact ⟨x, hx, trivial⟩) h
    exact ⟨h1, h2, l, h3, h4⟩
end
end Go.Proofs.Ythcmjcnilhglmaa
