/- Arguments opened with a bound by their bulk. No condition. -/
import Derived.Test.YtjbgahmcobcojaaDoorEn8
import Derived.Test.YtjbgahmcobcojaaDoorRows
namespace Go.Proofs.YtjbgahmcobcojaaDoor.En
open Go.RowKit Go.ChangeShapes Go.WideShapes Go.Deep
set_option linter.unusedVariables false
set_option linter.unusedSimpArgs false
theorem bulk_pos {H : Type} : ∀ d : DataW H, 1 ≤ Rows.uptoBulk d := by
  intro d
  cases d with
  | lit l => cases l <;> simp [Rows.uptoBulk]
  | nil => simp [Rows.uptoBulk]
  | ptr d => simp [Rows.uptoBulk]
  | slice a b => simp [Rows.uptoBulk]
  | agg a => simp [Rows.uptoBulk]
  | iface a d => simp [Rows.uptoBulk]
  | map e => simp [Rows.uptoBulk]
  | held h => simp [Rows.uptoBulk]
theorem bulk_part {H : Type} {d : DataW H} : ∀ {l : List (DataW H)}, d ∈ l → Rows.uptoBulk d ≤ Rows.uptoBulkAll l
  | [], h => by cases h
  | x :: r, h => by
    simp only [Rows.uptoBulkAll]
    rcases List.mem_cons.1 h with e | e
    · subst e; omega
    · have := bulk_part e; omega
theorem bulk_len {H : Type} : ∀ l : List (DataW H), l.length ≤ Rows.uptoBulkAll l
  | [] => by simp
  | x :: r => by
    simp only [Rows.uptoBulkAll, List.length_cons]
    have h1 := bulk_len r
    have h2 := bulk_pos x
    omega
section
variable {H : Type} {P : Program} {α β : Type}
/-- what reads by the type t reads as data of the kind τ, bounded by its bulk -/
def Opb (H : Type) (P : Program) (t : TypeId) (τ : Ty α) (ok : Nat → α → Prop) : Prop := ∀ (enc : TypeId × Value → H) (w : World) (base : Nat) (spare : Nat → Bool) (held : Bool) (n : Nat) (cs : List Value) (y : DataW H × List MemPlace), DataW.trod enc P w base spare held n t cs = some y → ∃ x, (∀ N, Rows.uptoBulk y.1 ≤ N → ok N x) ∧ τ.rep (Full w) w cs x
theorem opb_of {t : TypeId} {τ : Ty α} {ok : α → Prop} (h : Opn H P t τ ok) : Opb H P t τ (fun _ => ok) := fun enc w base spare held n cs y hy => by
  obtain ⟨x, h1, h2⟩ := h enc w base spare held n cs y hy
  exact ⟨x, fun _ _ => h1, h2⟩
theorem opb_str {t : TypeId} (hu : P.underlying t = some .string) : Opb H P t tyStr (fun N x => x.length ≤ 9223372036854775807 ∧ x.length ≤ N) := fun enc w base spare held n cs y h => by
  obtain ⟨x, hx, hy, hs⟩ := DataW.trod_string hu h
  refine ⟨x.data.toList, fun N hN => ⟨?_, ?_⟩, ?_⟩
  · unfold maxLen at hs; simpa using hs
  · rw [hy] at hN
    simp only [Rows.uptoBulk] at hN
    omega
  · show cs = [str x.data.toList]
    rw [hx]; simp [str]
def okB (ok : Nat → α → Prop) (N : Nat) (xs : List α) : Prop := xs.length ≤ N ∧ ∀ x ∈ xs, ok N x
theorem opb_list {t e : TypeId} {τ : Ty α} {ok : Nat → α → Prop} (hu : P.underlying t = some (.slice e)) (hsz : szOf P e = some τ.size) (hpos : Nat.blt 0 τ.size = true) (he : Opb H P e τ ok) : Opb H P t (tyList τ) (okB ok) := fun enc w base spare held n cs y h => by
  have hce : P.cellsOf e = τ.size := by
    unfold szOf at hsz; unfold Program.cellsOf; rw [hsz]; rfl
  rcases open_slice hu h with ⟨hcs, _⟩ | ⟨a, len, cap, m, n', D, Pl, hcs, hb, hle, hm, hmm, hy, hx⟩
  · exact ⟨[], fun N _ => ⟨by simp, by simp⟩, none, 0, 0, hcs, rfl, Nat.le_refl _, Nat.zero_le _, .inl rfl⟩
  · have hmn : len ≤ m := by rw [hmm]; split <;> omega
    obtain ⟨L, hL, hp⟩ := exists_list (γ := List Value × α) (p := fun i p => w.cells? base (a.add (i * P.cellsOf e)) (P.cellsOf e) = some p.1 ∧ (∀ N, Rows.uptoBulk (D i) ≤ N → ok N p.2) ∧ τ.rep (Full w) w p.1 p.2) len (fun i hi => by
      obtain ⟨cs', h1, h2⟩ := hx i (by omega)
      obtain ⟨x, hok, hr⟩ := he enc w base spare held _ cs' _ h2
      exact ⟨(cs', x), h1, hok, hr⟩)
    have hlen : (L.map (·.2)).length = len := by simp [hL]
    have hall : ∀ i, i < len → Rows.uptoBulk (D i) ≤ Rows.uptoBulk y.1 := fun i hi => by
      rw [hy]
      have := bulk_part (d := D i) (l := (List.range len).map D) (List.mem_map.2 ⟨i, List.mem_range.2 hi, rfl⟩)
      simp only [Rows.uptoBulk]
      omega
    have hlb : len ≤ Rows.uptoBulk y.1 := by
      rw [hy]
      have := bulk_len ((List.range len).map D)
      simp only [Rows.uptoBulk, List.length_map, List.length_range] at this ⊢
      omega
    refine ⟨L.map (·.2), fun N hN => ⟨by rw [hlen]; omega, fun x hx => ?_⟩, some a, len, cap, hcs, hlen.symm, hle, Nat.le_trans hle hm, ?_⟩
    · obtain ⟨p, hpm, rfl⟩ := List.mem_map.1 hx
      obtain ⟨i, hi⟩ := List.getElem?_of_mem hpm
      have hil : i < len := by rw [← hL]; exact (List.getElem?_eq_some_iff.1 hi).1
      exact (hp i p hi).2.1 N (Nat.le_trans (hall i hil) hN)
    · by_cases h0 : len = 0
      · exact .inl h0
      right
      have hchunk : ∀ c ∈ L.map (·.1), c.length = τ.size := fun c hc => by
        obtain ⟨p, hpm, rfl⟩ := List.mem_map.1 hc
        obtain ⟨i, hi⟩ := List.getElem?_of_mem hpm
        exact τ.len (hp i p hi).2.2
      refine ⟨a, (L.map (·.1)).flatten, rfl, ⟨?_, fun j u hj => ?_⟩, RepL.mk' _ _ (by simp) (fun i c x h1 h2 => ?_)⟩
      · obtain ⟨p, hpi⟩ : ∃ p, L[0]? = some p := ⟨L[0], List.getElem?_eq_getElem (by omega)⟩
        obtain ⟨_, hl2, hat⟩ := World.cells?_some (hp 0 p hpi).1
        have hpos' : 0 < τ.size := by simpa [Nat.blt_eq] using hpos
        have hc := hat 0 (by rw [hce]; exact hpos')
        have hlt : 0 < p.1.length := by rw [hl2, hce]; exact hpos'
        rw [List.getElem?_eq_getElem hlt] at hc
        have := World.block_lt_of_cell? w _ hc
        rw [add_block, add_block] at this
        exact this
      · -- the cell j lies in the chunk j / size
        have key : ∀ (CS : List (List Value)) (i0 : Nat), (∀ c ∈ CS, c.length = τ.size) → (∀ i c, CS[i]? = some c → ∀ r, r < τ.size → w.cell? ((a.add ((i0 + i) * τ.size)).add r) = c[r]?) → ∀ j u, CS.flatten[j]? = some u → w.cell? (a.add (i0 * τ.size + j)) = some u := by
          intro CS
          induction CS with
          | nil => intro i0 _ _ j u hj; simp at hj
          | cons c CS ih =>
            intro i0 hc hcell j u hj
            rw [List.flatten_cons] at hj
            have hcl := hc c (by simp)
            by_cases hjc : j < τ.size
            · rw [List.getElem?_append_left (by omega)] at hj
              have := hcell 0 c rfl j hjc
              rw [add_add, Nat.add_zero, hj] at this
              exact this
            · rw [List.getElem?_append_right (by omega), hcl] at hj
              have := ih (i0 + 1) (fun c' hc' => hc c' (by simp [hc'])) (fun i c' hi r hr => by
                have := hcell (i + 1) c' (by simpa using hi) r hr
                rw [show i0 + 1 + i = i0 + (i + 1) by omega]; exact this) (j - τ.size) u hj
              rw [Nat.succ_mul] at this
              rw [show i0 * τ.size + j = i0 * τ.size + τ.size + (j - τ.size) by omega]
              exact this
        have := key (L.map (·.1)) 0 hchunk (fun i c hi r hr => by
          rw [List.getElem?_map] at hi
          obtain ⟨p, hpi, rfl⟩ := Option.map_eq_some_iff.1 hi
          obtain ⟨_, _, hat⟩ := World.cells?_some (hp i p hpi).1
          rw [hce] at hat
          rw [Nat.zero_add]
          exact hat r hr) j u hj
        rw [Nat.zero_mul, Nat.zero_add] at this
        exact this
      · rw [List.getElem?_map] at h1 h2
        obtain ⟨p, hpi, rfl⟩ := Option.map_eq_some_iff.1 h1
        obtain ⟨q, hqi, rfl⟩ := Option.map_eq_some_iff.1 h2
        rw [hpi] at hqi
        cases hqi
        exact (hp i p hpi).2.2
def FieldsOpb (H : Type) (P : Program) (fs : List (Nat × TypeId)) (off : Nat) (τ : Ty α) (ok : Nat → α → Prop) : Prop := ∀ (enc : TypeId × Value → H) (w : World) (base : Nat) (spare : Nat → Bool) (held : Bool) (n : Nat) (cs : List Value) (B : Nat),
  (∀ f ∈ fs, ∃ y : DataW H × List MemPlace, Rows.uptoBulk y.1 ≤ B ∧ DataW.trod enc P w base spare held n f.2 ((cs.drop f.1).take (P.cellsOf f.2)) = some y) → ∃ x, (∀ N, B ≤ N → ok N x) ∧ τ.rep (Full w) w ((cs.drop off).take τ.size) x
theorem fieldsb_one {t : TypeId} {off : Nat} {τ : Ty α} {ok : Nat → α → Prop} (hsz : szOf P t = some τ.size) (h : Opb H P t τ ok) : FieldsOpb H P [(off, t)] off τ ok := fun enc w base spare held n cs B hf => by
  obtain ⟨y, hyb, hy⟩ := hf (off, t) (by simp)
  have hce : P.cellsOf t = τ.size := by unfold szOf at hsz; unfold Program.cellsOf; rw [hsz]; rfl
  rw [hce] at hy
  obtain ⟨x, h1, h2⟩ := h enc w base spare held n _ y hy
  exact ⟨x, fun N hN => h1 N (Nat.le_trans hyb hN), h2⟩
theorem fieldsb_cons {t : TypeId} {off : Nat} {τ : Ty α} {υ : Ty β} {ok : Nat → α → Prop} {okb : Nat → β → Prop} {fs : List (Nat × TypeId)} (hsz : szOf P t = some τ.size) (h : Opb H P t τ ok) (hr : FieldsOpb H P fs (off + τ.size) υ okb) : FieldsOpb H P ((off, t) :: fs) off (tyPair τ υ) (fun N x => ok N x.1 ∧ okb N x.2) := fun enc w base spare held n cs B hf => by
  obtain ⟨y, hyb, hy⟩ := hf (off, t) (by simp)
  have hce : P.cellsOf t = τ.size := by unfold szOf at hsz; unfold Program.cellsOf; rw [hsz]; rfl
  rw [hce] at hy
  obtain ⟨x, h1, h2⟩ := h enc w base spare held n _ y hy
  obtain ⟨z, h3, h4⟩ := hr enc w base spare held n cs B (fun f hff => hf f (by simp [hff]))
  refine ⟨(x, z), fun N hN => ⟨h1 N (Nat.le_trans hyb hN), h3 N hN⟩, _, _, ?_, h2, h4⟩
  rw [show (tyPair τ υ).size = τ.size + υ.size from rfl, List.take_add, List.drop_drop]
theorem opb_struct {t : TypeId} {fs : Array Field} {υ : Ty β} {ok : Nat → β → Prop} (f : α → β) (g : β → α) (hfg : ∀ y, f (g y) = y) (hu : P.underlying t = some (.struct fs)) (hsz : szOf P t = some υ.size) (hr : FieldsOpb H P (fs.toList.map fun f => (f.offset, f.type)) 0 υ ok) : Opb H P t (tyVia f υ) (fun N x => ok N (f x)) := fun enc w base spare held n cs y h => by
  obtain ⟨xs, m, _, hy, hcl, hxl, hf⟩ := DataW.trod_struct hu h
  have hce : P.cellsOf t = υ.size := by unfold szOf at hsz; unfold Program.cellsOf; rw [hsz]; rfl
  have hpart : ∀ q ∈ xs, Rows.uptoBulk q.1 ≤ Rows.uptoBulk y.1 := fun q hq => by
    rw [hy]
    have := bulk_part (d := q.1) (l := xs.map (·.1)) (List.mem_map.2 ⟨q, hq, rfl⟩)
    simp only [Rows.uptoBulk]
    omega
  obtain ⟨z, h1, h2⟩ := hr enc w base spare held m cs (Rows.uptoBulk y.1) (fun p hp => by
    obtain ⟨fl, hfl, rfl⟩ := List.mem_map.1 hp
    obtain ⟨i, hi⟩ := List.getElem?_of_mem hfl
    have hi' : fs[i]? = some fl := by simpa using hi
    have hlt : i < xs.length := by rw [hxl]; exact (Array.getElem?_eq_some_iff.1 hi').1
    exact ⟨xs[i], hpart _ (List.getElem_mem hlt), (hf i fl hi').trans (List.getElem?_eq_getElem hlt)⟩)
  refine ⟨g z, (fun N hN => by show ok N (f (g z)); rw [hfg]; exact h1 N hN), ?_⟩
  show υ.rep _ _ cs (f (g z))
  rw [hfg]
  rw [List.drop_zero, List.take_of_length_le (by rw [hcl, hce]; exact Nat.le_refl _)] at h2
  exact h2
theorem opb_array {t e : TypeId} {k : Nat} {υ : Ty β} {ok : Nat → β → Prop} (f : α → β) (g : β → α) (hfg : ∀ y, f (g y) = y) (hu : P.underlying t = some (.array k e)) (hsz : szOf P t = some υ.size) (hr : FieldsOpb H P ((List.range k).map fun i => (i * P.cellsOf e, e)) 0 υ ok) : Opb H P t (tyVia f υ) (fun N x => ok N (f x)) := fun enc w base spare held n cs y h => by
  obtain ⟨xs, m, _, hy, hcl, hxl, hf⟩ := DataW.trod_array hu h
  have hce : P.cellsOf t = υ.size := by unfold szOf at hsz; unfold Program.cellsOf; rw [hsz]; rfl
  have hpart : ∀ q ∈ xs, Rows.uptoBulk q.1 ≤ Rows.uptoBulk y.1 := fun q hq => by
    rw [hy]
    have := bulk_part (d := q.1) (l := xs.map (·.1)) (List.mem_map.2 ⟨q, hq, rfl⟩)
    simp only [Rows.uptoBulk]
    omega
  obtain ⟨z, h1, h2⟩ := hr enc w base spare held m cs (Rows.uptoBulk y.1) (fun p hp => by
    obtain ⟨i, hi, rfl⟩ := List.mem_map.1 hp
    have hik := List.mem_range.1 hi
    have hlt : i < xs.length := by omega
    exact ⟨xs[i], hpart _ (List.getElem_mem hlt), (hf i hik).trans (List.getElem?_eq_getElem hlt)⟩)
  refine ⟨g z, (fun N hN => by show ok N (f (g z)); rw [hfg]; exact h1 N hN), ?_⟩
  show υ.rep _ _ cs (f (g z))
  rw [hfg]
  rw [List.drop_zero, List.take_of_length_le (by rw [hcl, hce]; exact Nat.le_refl _)] at h2
  exact h2
variable {w : World} {base : Nat} {spare : Nat → Bool} {held : Bool} {enc : TypeId × Value → H} {v : Value} {d : DataW H} {ps : List MemPlace} {r : Reach} {b0 : Nat} {t : TypeId}
theorem par_sliceB {e : TypeId} {τ : Ty α} {ok : Nat → List α → Prop} (ht : P.underlying t = some (.slice e)) (ho : Opb H P t (tyList τ) ok) (hval : Value.okWide P w r b0 t v) (hd : DataW.Trod enc P w base spare held t v d ps) : ∃ xs, (∀ N, Rows.uptoBulk d ≤ N → ok N xs) ∧ (tyList τ).rep (Full w) w [v] xs := by
  obtain ⟨A, l, c, rfl⟩ := okWide_slice ht hval
  obtain ⟨fuel, hf⟩ := hd
  exact ho enc w base spare held fuel _ _ hf
theorem par_aggB {τ : Ty α} {ok : Nat → α → Prop} {dd : TypeDesc} (ht : P.underlying t = some dd) (hdd : isAggD dd = true) (ho : Opb H P t τ ok) (hval : Value.okWide P w r b0 t v) (hd : DataW.Trod enc P w base spare held t v d ps) : ∃ cs x, v = ag cs ∧ (∀ N, Rows.uptoBulk d ≤ N → ok N x) ∧ τ.rep (Full w) w cs x := by
  have : ∃ cs : Array Value, v = .agg cs := by
    unfold Value.okWide at hval
    rw [ht] at hval
    cases dd <;> simp [isAggD] at hdd <;> (obtain ⟨cs, h, _⟩ := hval; exact ⟨cs, h⟩)
  obtain ⟨cs, rfl⟩ := this
  obtain ⟨fuel, hf⟩ := hd
  obtain ⟨x, h1, h2⟩ := ho enc w base spare held fuel _ _ hf
  exact ⟨cs.toList, x, by simp [ag], h1, h2⟩
end
end Go.Proofs.YtjbgahmcobcojaaDoor.En
