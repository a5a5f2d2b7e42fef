/- An engine for walks: arguments opened, a law's call from its contract. No condition. -/
import Derived.Test.YtfhifdmbdkkgaaaDoorEn7
import Derived.OpenShut
import Derived.Deep.Slices
import Derived.Deep.WholeRow
namespace Go.Proofs.YtfhifdmbdkkgaaaDoor.En
open Go.RowKit Go.ChangeShapes Go.WideShapes Go.Deep
set_option linter.unusedVariables false
set_option linter.unusedSimpArgs false
section
variable {H : Type} {P : Program} {α β : Type}
def Full (w : World) (b : Nat) : Prop := b < w.heap.size
/-- what reads by the type t reads as data of the kind τ -/
def Opn (H : Type) (P : Program) (t : TypeId) (τ : Ty α) (ok : α → Prop) : Prop := ∀ (enc : TypeId × Value → H) (w : World) (base : Nat) (spare : Nat → Bool) (held : Bool) (n : Nat) (cs : List Value) y, DataW.trod enc P w base spare held n t cs = some y → ∃ x, ok x ∧ τ.rep (Full w) w cs x
theorem opn_int {t : TypeId} {k : IntKind} (hu : P.underlying t = some (.int k)) : Opn H P t (tyInt k) (fun x => (Lit.int k x).wf = true) := fun enc w base spare held n cs y h => by
  obtain ⟨x, hx, _, hwf⟩ := DataW.trod_int hu h
  exact ⟨x, hwf, hx⟩
theorem opn_bool {t : TypeId} (hu : P.underlying t = some .bool) : Opn H P t tyBool (fun _ => True) := fun enc w base spare held n cs y h => by
  obtain ⟨x, hx, _⟩ := DataW.trod_bool hu h
  exact ⟨x, trivial, hx⟩
theorem opn_str {t : TypeId} (hu : P.underlying t = some .string) : Opn H P t tyStr (fun x => x.length ≤ 9223372036854775807) := fun enc w base spare held n cs y h => by
  obtain ⟨x, hx, _, hs⟩ := DataW.trod_string hu h
  refine ⟨x.data.toList, ?_, ?_⟩
  · unfold maxLen at hs; simpa using hs
  · show cs = [str x.data.toList]
    rw [hx]; simp [str]
theorem opn_u8 {t : TypeId} (hu : P.underlying t = some (.int .u8)) : Opn H P t tyU8 (fun _ => True) := fun enc w base spare held n cs y h => by
  obtain ⟨x, hx, _, hwf⟩ := DataW.trod_int hu h
  have h1 : 0 ≤ x ∧ x ≤ 255 := by simpa [Lit.wf, IntKind.min, IntKind.max, IntKind.signed, IntKind.bits] using hwf
  exact ⟨UInt8.ofNat x.toNat, trivial, by rw [hx]; exact u8_rep h1⟩
theorem RepL.mk' {τ : Ty α} {Z : Nat → Prop} {w : World} : ∀ (xs : List α) (CS : List (List Value)), CS.length = xs.length → (∀ (i : Nat) (c : List Value) (x : α), CS[i]? = some c → xs[i]? = some x → τ.rep Z w c x) → RepL τ Z w CS.flatten xs
  | [], [], _, _ => rfl
  | [], _ :: _, h, _ => by simp at h
  | _ :: _, [], h, _ => by simp at h
  | x :: xs, c :: CS, h, hr => ⟨c, CS.flatten, rfl, hr 0 c x rfl rfl, RepL.mk' xs CS (by simpa using h) (fun i c' x' h1 h2 => hr (i + 1) c' x' (by simpa using h1) (by simpa using h2))⟩
theorem exists_list {γ : Type} {p : Nat → γ → Prop} : ∀ n : Nat, (∀ i, i < n → ∃ x, p i x) → ∃ l : List γ, l.length = n ∧ ∀ (i : Nat) (x : γ), l[i]? = some x → p i x
  | 0, _ => ⟨[], rfl, by simp⟩
  | n + 1, h => by
    obtain ⟨l, hl, hp⟩ := exists_list n (fun i hi => h i (by omega))
    obtain ⟨x, hx⟩ := h n (by omega)
    refine ⟨l ++ [x], by simp [hl], fun i y hy => ?_⟩
    by_cases hi : i < n
    · rw [List.getElem?_append_left (by omega)] at hy; exact hp i y hy
    · have hlt := (List.getElem?_eq_some_iff.1 hy).1
      rw [List.length_append, hl] at hlt
      have : i = n := by simp at hlt; omega
      subst this
      rw [List.getElem?_append_right (by omega), hl] at hy
      simp at hy; subst hy; exact hx
def okL (ok : α → Prop) (xs : List α) : Prop := xs.length ≤ 9223372036854775807 ∧ ∀ x ∈ xs, ok x
theorem opn_list {t e : TypeId} {τ : Ty α} {ok : α → Prop} (hu : P.underlying t = some (.slice e)) (hsz : szOf P e = some τ.size) (hpos : Nat.blt 0 τ.size = true) (he : Opn H P e τ ok) : Opn H P t (tyList τ) (okL ok) := fun enc w base spare held n cs y h => by
  have hce : P.cellsOf e = τ.size := by
    unfold szOf at hsz; unfold Program.cellsOf; rw [hsz]; rfl
  rcases open_slice hu h with ⟨hcs, _⟩ | ⟨a, len, cap, m, n', D, Pl, hcs, hb, hle, hm, hmm, _, hx⟩
  · exact ⟨[], ⟨by simp, by simp⟩, none, 0, 0, hcs, rfl, Nat.le_refl _, Nat.zero_le _, .inl rfl⟩
  · have hmn : len ≤ m := by rw [hmm]; split <;> omega
    obtain ⟨L, hL, hp⟩ := exists_list (γ := List Value × α) (p := fun i p => w.cells? base (a.add (i * P.cellsOf e)) (P.cellsOf e) = some p.1 ∧ ok p.2 ∧ τ.rep (Full w) w p.1 p.2) len (fun i hi => by
      obtain ⟨cs', h1, h2⟩ := hx i (by omega)
      obtain ⟨x, hok, hr⟩ := he enc w base spare held _ cs' _ h2
      exact ⟨(cs', x), h1, hok, hr⟩)
    have hlen : (L.map (·.2)).length = len := by simp [hL]
    refine ⟨L.map (·.2), ⟨by rw [hlen]; unfold maxLen at hm; omega, fun x hx => ?_⟩, some a, len, cap, hcs, hlen.symm, hle, Nat.le_trans hle hm, ?_⟩
    · obtain ⟨p, hpm, rfl⟩ := List.mem_map.1 hx
      obtain ⟨i, hi⟩ := List.getElem?_of_mem hpm
      exact (hp i p hi).2.1
    · by_cases h0 : len = 0
      · exact .inl h0
      right
      have hchunk : ∀ c ∈ L.map (·.1), c.length = τ.size := fun c hc => by
        obtain ⟨p, hpm, rfl⟩ := List.mem_map.1 hc
        obtain ⟨i, hi⟩ := List.getElem?_of_mem hpm
        exact τ.len (hp i p hi).2.2
      refine ⟨a, (L.map (·.1)).flatten, rfl, ⟨?_, fun j u hj => ?_⟩, RepL.mk' _ _ (by simp) (fun i c x h1 h2 => ?_)⟩
      · obtain ⟨p, hpi⟩ : ∃ p, L[0]? = some p := ⟨L[0], List.getElem?_eq_getElem (by omega)⟩
        obtain ⟨_, hl2, hat⟩ := World.cells?_some (hp 0 p hpi).1
        have hpos' : 0 < τ.size := by simpa [Nat.blt_eq] using hpos
        have hc := hat 0 (by rw [hce]; exact hpos')
        have hlt : 0 < p.1.length := by rw [hl2, hce]; exact hpos'
        rw [List.getElem?_eq_getElem hlt] at hc
        have := World.block_lt_of_cell? w _ hc
        rw [add_block, add_block] at this
        exact this
      · -- the cell j lies in the chunk j / size
        have key : ∀ (CS : List (List Value)) (i0 : Nat), (∀ c ∈ CS, c.length = τ.size) → (∀ i c, CS[i]? = some c → ∀ r, r < τ.size → w.cell? ((a.add ((i0 + i) * τ.size)).add r) = c[r]?) → ∀ j u, CS.flatten[j]? = some u → w.cell? (a.add (i0 * τ.size + j)) = some u := by
          intro CS
          induction CS with
          | nil => intro i0 _ _ j u hj; simp at hj
          | cons c CS ih =>
            intro i0 hc hcell j u hj
            rw [List.flatten_cons] at hj
            have hcl := hc c (by simp)
            by_cases hjc : j < τ.size
            · rw [List.getElem?_append_left (by omega)] at hj
              have := hcell 0 c rfl j hjc
              rw [add_add, Nat.add_zero, hj] at this
              exact this
            · rw [List.getElem?_append_right (by omega), hcl] at hj
              have := ih (i0 + 1) (fun c' hc' => hc c' (by simp [hc'])) (fun i c' hi r hr => by
                have := hcell (i + 1) c' (by simpa using hi) r hr
                rw [show i0 + 1 + i = i0 + (i + 1) by omega]; exact this) (j - τ.size) u hj
              rw [Nat.succ_mul] at this
              rw [show i0 * τ.size + j = i0 * τ.size + τ.size + (j - τ.size) by omega]
              exact this
        have := key (L.map (·.1)) 0 hchunk (fun i c hi r hr => by
          rw [List.getElem?_map] at hi
          obtain ⟨p, hpi, rfl⟩ := Option.map_eq_some_iff.1 hi
          obtain ⟨_, _, hat⟩ := World.cells?_some (hp i p hpi).1
          rw [hce] at hat
          rw [Nat.zero_add]
          exact hat r hr) j u hj
        rw [Nat.zero_mul, Nat.zero_add] at this
        exact this
      · rw [List.getElem?_map] at h1 h2
        obtain ⟨p, hpi, rfl⟩ := Option.map_eq_some_iff.1 h1
        obtain ⟨q, hqi, rfl⟩ := Option.map_eq_some_iff.1 h2
        rw [hpi] at hqi
        cases hqi
        exact (hp i p hpi).2.2
/-! structs -/
def FieldsOpn (H : Type) (P : Program) (fs : List (Nat × TypeId)) (off : Nat) (τ : Ty α) (ok : α → Prop) : Prop := ∀ (enc : TypeId × Value → H) (w : World) (base : Nat) (spare : Nat → Bool) (held : Bool) (n : Nat) (cs : List Value),
  (∀ f ∈ fs, ∃ y, DataW.trod enc P w base spare held n f.2 ((cs.drop f.1).take (P.cellsOf f.2)) = some y) → ∃ x, ok x ∧ τ.rep (Full w) w ((cs.drop off).take τ.size) x
theorem fields_one {t : TypeId} {off : Nat} {τ : Ty α} {ok : α → Prop} (hsz : szOf P t = some τ.size) (h : Opn H P t τ ok) : FieldsOpn H P [(off, t)] off τ ok := fun enc w base spare held n cs hf => by
  obtain ⟨y, hy⟩ := hf (off, t) (by simp)
  have hce : P.cellsOf t = τ.size := by unfold szOf at hsz; unfold Program.cellsOf; rw [hsz]; rfl
  rw [hce] at hy
  exact h enc w base spare held n _ y hy
theorem fields_cons {t : TypeId} {off : Nat} {τ : Ty α} {υ : Ty β} {ok : α → Prop} {okb : β → Prop} {fs : List (Nat × TypeId)} (hsz : szOf P t = some τ.size) (h : Opn H P t τ ok) (hr : FieldsOpn H P fs (off + τ.size) υ okb) : FieldsOpn H P ((off, t) :: fs) off (tyPair τ υ) (fun x => ok x.1 ∧ okb x.2) := fun enc w base spare held n cs hf => by
  obtain ⟨y, hy⟩ := hf (off, t) (by simp)
  have hce : P.cellsOf t = τ.size := by unfold szOf at hsz; unfold Program.cellsOf; rw [hsz]; rfl
  rw [hce] at hy
  obtain ⟨x, h1, h2⟩ := h enc w base spare held n _ y hy
  obtain ⟨z, h3, h4⟩ := hr enc w base spare held n cs (fun f hff => hf f (by simp [hff]))
  refine ⟨(x, z), ⟨h1, h3⟩, _, _, ?_, h2, h4⟩
  rw [show (tyPair τ υ).size = τ.size + υ.size from rfl, List.take_add, List.drop_drop]
theorem opn_struct {t : TypeId} {fs : Array Field} {υ : Ty β} {ok : β → Prop} (f : α → β) (g : β → α) (hfg : ∀ y, f (g y) = y) (hu : P.underlying t = some (.struct fs)) (hsz : szOf P t = some υ.size) (hr : FieldsOpn H P (fs.toList.map fun f => (f.offset, f.type)) 0 υ ok) : Opn H P t (tyVia f υ) (fun x => ok (f x)) := fun enc w base spare held n cs y h => by
  obtain ⟨xs, m, _, _, hcl, hxl, hf⟩ := DataW.trod_struct hu h
  have hce : P.cellsOf t = υ.size := by unfold szOf at hsz; unfold Program.cellsOf; rw [hsz]; rfl
  obtain ⟨z, h1, h2⟩ := hr enc w base spare held m cs (fun p hp => by
    obtain ⟨fl, hfl, rfl⟩ := List.mem_map.1 hp
    obtain ⟨i, hi⟩ := List.getElem?_of_mem hfl
    have hi' : fs[i]? = some fl := by simpa using hi
    have hlt : i < xs.length := by rw [hxl]; exact (Array.getElem?_eq_some_iff.1 hi').1
    exact ⟨xs[i], (hf i fl hi').trans (List.getElem?_eq_getElem hlt)⟩)
  refine ⟨g z, (by show ok (f (g z)); rw [hfg]; exact h1), ?_⟩
  show υ.rep _ _ cs (f (g z))
  rw [hfg]
  rw [List.drop_zero, List.take_of_length_le (by rw [hcl, hce]; exact Nat.le_refl _)] at h2
  exact h2
/-! arrays, as structs of their elements -/
theorem opn_array {t e : TypeId} {k : Nat} {υ : Ty β} {ok : β → Prop} (f : α → β) (g : β → α) (hfg : ∀ y, f (g y) = y) (hu : P.underlying t = some (.array k e)) (hsz : szOf P t = some υ.size) (hr : FieldsOpn H P ((List.range k).map fun i => (i * P.cellsOf e, e)) 0 υ ok) : Opn H P t (tyVia f υ) (fun x => ok (f x)) := fun enc w base spare held n cs y h => by
  obtain ⟨xs, m, _, _, hcl, hxl, hf⟩ := DataW.trod_array hu h
  have hce : P.cellsOf t = υ.size := by unfold szOf at hsz; unfold Program.cellsOf; rw [hsz]; rfl
  obtain ⟨z, h1, h2⟩ := hr enc w base spare held m cs (fun p hp => by
    obtain ⟨i, hi, rfl⟩ := List.mem_map.1 hp
    have hik := List.mem_range.1 hi
    exact ⟨xs[i], (hf i hik).trans (List.getElem?_eq_getElem (by omega))⟩)
  refine ⟨g z, (by show ok (f (g z)); rw [hfg]; exact h1), ?_⟩
  show υ.rep _ _ cs (f (g z))
  rw [hfg]
  rw [List.drop_zero, List.take_of_length_le (by rw [hcl, hce]; exact Nat.le_refl _)] at h2
  exact h2
/-! parameters -/
variable {w : World} {base : Nat} {spare : Nat → Bool} {held : Bool} {enc : TypeId × Value → H} {v : Value} {d : DataW H} {ps : List MemPlace} {r : Reach} {b0 : Nat} {t : TypeId}
theorem par_str (ht : P.underlying t = some .string) (hval : Value.okWide P w r b0 t v) (hd : DataW.Trod enc P w base spare held t v d ps) : ∃ l : List UInt8, v = str l ∧ d = .lit (.string l) ∧ ps = [] ∧ l.length ≤ 9223372036854775807 := by
  obtain ⟨s, rfl⟩ := okWide_string ht hval
  obtain ⟨fuel, hf⟩ := hd
  obtain ⟨s', h, hx, hs⟩ := DataW.trod_string ht hf
  simp [Value.cells] at h
  subst h
  simp at hx
  exact ⟨s.data.toList, by simp [str], hx.1, hx.2, by unfold maxLen at hs; simpa using hs⟩
theorem par_slice {e : TypeId} {τ : Ty α} {ok : List α → Prop} (ht : P.underlying t = some (.slice e)) (ho : Opn H P t (tyList τ) ok) (hval : Value.okWide P w r b0 t v) (hd : DataW.Trod enc P w base spare held t v d ps) : ∃ xs, ok xs ∧ (tyList τ).rep (Full w) w [v] xs := by
  obtain ⟨A, l, c, rfl⟩ := okWide_slice ht hval
  obtain ⟨fuel, hf⟩ := hd
  exact ho enc w base spare held fuel _ _ hf
theorem par_agg {τ : Ty α} {ok : α → Prop} {dd : TypeDesc} (ht : P.underlying t = some dd) (hdd : isAggD dd = true) (ho : Opn H P t τ ok) (hval : Value.okWide P w r b0 t v) (hd : DataW.Trod enc P w base spare held t v d ps) : ∃ cs x, v = ag cs ∧ ok x ∧ τ.rep (Full w) w cs x := by
  have : ∃ cs : Array Value, v = .agg cs := by
    unfold Value.okWide at hval
    rw [ht] at hval
    cases dd <;> simp [isAggD] at hdd <;> (obtain ⟨cs, h, _⟩ := hval; exact ⟨cs, h⟩)
  obtain ⟨cs, rfl⟩ := this
  obtain ⟨fuel, hf⟩ := hd
  obtain ⟨x, h1, h2⟩ := ho enc w base spare held fuel _ _ hf
  exact ⟨cs.toList, x, by simp [ag], h1, h2⟩
/-- a law's call -/
theorem law_call {f : FuncId} {args : List Value} {pre : List Fact} {W : World} (h : FnOk P f args pre [] (fun _ : Unit => { val := .bool true })) (hpre : ∀ g ∈ pre, g.p (Full W) W) :
    Calls P f args.toArray W fun e w' => e = .returned (.bool true) ∧ Below W.heap.size W w' :=
  (h W (Full W) (fun b h => h) (by simp) (by simp) hpre (by simp)).mono (by
    rintro e w' ⟨i, he, hbel, _⟩
    exact ⟨he, (by simpa using hbel : Bel W.heap.size [] W w').below⟩)
theorem all_nil : ∀ g ∈ ([] : List Fact), g.p (Full w) w := by simp
theorem all_cons {g : Fact} {l : List Fact} (h : g.p (Full w) w) (hl : ∀ g ∈ l, g.p (Full w) w) : ∀ g' ∈ g :: l, g'.p (Full w) w := by
  intro g' hg'
  rcases List.mem_cons.1 hg' with rfl | hg'
  · exact h
  · exact hl g' hg'
end
end Go.Proofs.YtfhifdmbdkkgaaaDoor.En
