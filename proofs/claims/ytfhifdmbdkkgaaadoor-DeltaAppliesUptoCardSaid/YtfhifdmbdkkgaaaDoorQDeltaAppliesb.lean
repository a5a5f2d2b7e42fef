/- What DeltaApplies leans on, part 2. No condition. -/
import Derived.Test.YtfhifdmbdkkgaaaDoorQDeltaAppliesa
import Derived.Test.YtfhifdmbdkkgaaaDoorRows
import Derived.Test.YtfhifdmbdkkgaaaDoorChecked
namespace Go.Proofs.YtfhifdmbdkkgaaaDoor.En
open Go.RowKit Go.ChangeShapes Go.WideShapes Go.Deep
set_option linter.unusedVariables false
set_option linter.unusedSimpArgs false
theorem bulk_pos {H : Type} : ∀ d : DataW H, 1 ≤ Rows.uptoBulk d := by
  intro d
  cases d with
  | lit l => cases l <;> simp [Rows.uptoBulk]
  | nil => simp [Rows.uptoBulk]
  | ptr d => simp [Rows.uptoBulk]
  | slice a b => simp [Rows.uptoBulk]
  | agg a => simp [Rows.uptoBulk]
  | iface a d => simp [Rows.uptoBulk]
  | map e => simp [Rows.uptoBulk]
  | held h => simp [Rows.uptoBulk]
theorem bulk_part {H : Type} {d : DataW H} : ∀ {l : List (DataW H)}, d ∈ l → Rows.uptoBulk d ≤ Rows.uptoBulkAll l
  | [], h => by cases h
  | x :: r, h => by
    simp only [Rows.uptoBulkAll]
    rcases List.mem_cons.1 h with e | e
    · subst e; omega
    · have := bulk_part e; omega
theorem bulk_len {H : Type} : ∀ l : List (DataW H), l.length ≤ Rows.uptoBulkAll l
  | [] => by simp
  | x :: r => by
    simp only [Rows.uptoBulkAll, List.length_cons]
    have h1 := bulk_len r
    have h2 := bulk_pos x
    omega
section
variable {H : Type} {P : Program} {α β : Type}
def Opb (H : Type) (P : Program) (t : TypeId) (τ : Ty α) (ok : Nat → α → Prop) : Prop := ∀ (enc : TypeId × Value → H) (w : World) (base : Nat) (spare : Nat → Bool) (held : Bool) (n : Nat) (cs : List Value) (y : DataW H × List MemPlace), DataW.trod enc P w base spare held n t cs = some y → ∃ x, (∀ N, Rows.uptoBulk y.1 ≤ N → ok N x) ∧ τ.rep (Full w) w cs x
theorem opb_of {t : TypeId} {τ : Ty α} {ok : α → Prop} (h : Opn H P t τ ok) : Opb H P t τ (fun _ => ok) := fun enc w base spare held n cs y hy => by
  obtain ⟨x, h1, h2⟩ := h enc w base spare held n cs y hy
  exact ⟨x, fun _ _ => h1, h2⟩
theorem opb_str {t : TypeId} (hu : P.underlying t = some .string) : Opb H P t tyStr (fun N x => x.length ≤ 9223372036854775807 ∧ x.length ≤ N) := fun enc w base spare held n cs y h => by
  obtain ⟨x, hx, hy, hs⟩ := DataW.trod_string hu h
  refine ⟨x.data.toList, fun N hN => ⟨?_, ?_⟩, ?_⟩
  · unfold maxLen at hs; simpa using hs
  · rw [hy] at hN
    simp only [Rows.uptoBulk] at hN
    omega
  · show cs = [str x.data.toList]
    rw [hx]; simp [str]
def okB (ok : Nat → α → Prop) (N : Nat) (xs : List α) : Prop := xs.length ≤ N ∧ ∀ x ∈ xs, ok N x
theorem opb_list {t e : TypeId} {τ : Ty α} {ok : Nat → α → Prop} (hu : P.underlying t = some (.slice e)) (hsz : szOf P e = some τ.size) (hpos : Nat.blt 0 τ.size = true) (he : Opb H P e τ ok) : Opb H P t (tyList τ) (okB ok) := fun enc w base spare held n cs y h => by
  have hce : P.cellsOf e = τ.size := by
    unfold szOf at hsz; unfold Program.cellsOf; rw [hsz]; rfl
  rcases open_slice hu h with ⟨hcs, _⟩ | ⟨a, len, cap, m, n', D, Pl, hcs, hb, hle, hm, hmm, hy, hx⟩
  · exact ⟨[], fun N _ => ⟨by simp, by simp⟩, none, 0, 0, hcs, rfl, Nat.le_refl _, Nat.zero_le _, .inl rfl⟩
  · have hmn : len ≤ m := by rw [hmm]; split <;> omega
    obtain ⟨L, hL, hp⟩ := exists_list (γ := List Value × α) (p := fun i p => w.cells? base (a.add (i * P.cellsOf e)) (P.cellsOf e) = some p.1 ∧ (∀ N, Rows.uptoBulk (D i) ≤ N → ok N p.2) ∧ τ.rep (Full w) w p.1 p.2) len (fun i hi => by
      obtain ⟨cs', h1, h2⟩ := hx i (by omega)
      obtain ⟨x, hok, hr⟩ := he enc w base spare held _ cs' _ h2
      exact ⟨(cs', x), h1, hok, hr⟩)
    have hlen : (L.map (·.2)).length = len := by simp [hL]
    have hall : ∀ i, i < len → Rows.uptoBulk (D i) ≤ Rows.uptoBulk y.1 := fun i hi => by
      rw [hy]
      have := bulk_part (d := D i) (l := (List.range len).map D) (List.mem_map.2 ⟨i, List.mem_range.2 hi, rfl⟩)
      simp only [Rows.uptoBulk]
      omega
    have hlb : len ≤ Rows.uptoBulk y.1 := by
      rw [hy]
      have := bulk_len ((List.range len).map D)
      simp only [Rows.uptoBulk, List.length_map, List.length_range] at this ⊢
      omega
    refine ⟨L.map (·.2), fun N hN => ⟨by rw [hlen]; omega, fun x hx => ?_⟩, some a, len, cap, hcs, hlen.symm, hle, Nat.le_trans hle hm, ?_⟩
    · obtain ⟨p, hpm, rfl⟩ := List.mem_map.1 hx
      obtain ⟨i, hi⟩ := List.getElem?_of_mem hpm
      have hil : i < len := by rw [← hL]; exact (List.getElem?_eq_some_iff.1 hi).1
      exact (hp i p hi).2.1 N (Nat.le_trans (hall i hil) hN)
    · by_cases h0 : len = 0
      · exact .inl h0
      right
      have hchunk : ∀ c ∈ L.map (·.1), c.length = τ.size := fun c hc => by
        obtain ⟨p, hpm, rfl⟩ := List.mem_map.1 hc
        obtain ⟨i, hi⟩ := List.getElem?_of_mem hpm
        exact τ.len (hp i p hi).2.2
      refine ⟨a, (L.map (·.1)).flatten, rfl, ⟨?_, fun j u hj => ?_⟩, RepL.mk' _ _ (by simp) (fun i c x h1 h2 => ?_)⟩
      · obtain ⟨p, hpi⟩ : ∃ p, L[0]? = some p := ⟨L[0], List.getElem?_eq_getElem (by omega)⟩
        obtain ⟨_, hl2, hat⟩ := World.cells?_some (hp 0 p hpi).1
        have hpos' : 0 < τ.size := by simpa [Nat.blt_eq] using hpos
        have hc := hat 0 (by rw [hce]; exact hpos')
        have hlt : 0 < p.1.length := by rw [hl2, hce]; exact hpos'
        rw [List.getElem?_eq_getElem hlt] at hc
        have := World.block_lt_of_cell? w _ hc
        rw [add_block, add_block] at this
        exact this
      · -- the cell j lies in the chunk j / size
        have key : ∀ (CS : List (List Value)) (i0 : Nat), (∀ c ∈ CS, c.length = τ.size) → (∀ i c, CS[i]? = some c → ∀ r, r < τ.size → w.cell? ((a.add ((i0 + i) * τ.size)).add r) = c[r]?) → ∀ j u, CS.flatten[j]? = some u → w.cell? (a.add (i0 * τ.size + j)) = some u := by
          intro CS
          induction CS with
          | nil => intro i0 _ _ j u hj; simp at hj
          | cons c CS ih =>
            intro i0 hc hcell j u hj
            rw [List.flatten_cons] at hj
            have hcl := hc c (by simp)
            by_cases hjc : j < τ.size
            · rw [List.getElem?_append_left (by omega)] at hj
              have := hcell 0 c rfl j hjc
              rw [add_add, Nat.add_zero, hj] at this
              exact this
            · rw [List.getElem?_append_right (by omega), hcl] at hj
              have := ih (i0 + 1) (fun c' hc' => hc c' (by simp [hc'])) (fun i c' hi r hr => by
                have := hcell (i + 1) c' (by simpa using hi) r hr
                rw [show i0 + 1 + i = i0 + (i + 1) by omega]; exact this) (j - τ.size) u hj
              rw [Nat.succ_mul] at this
              rw [show i0 * τ.size + j = i0 * τ.size + τ.size + (j - τ.size) by omega]
              exact this
        have := key (L.map (·.1)) 0 hchunk (fun i c hi r hr => by
          rw [List.getElem?_map] at hi
          obtain ⟨p, hpi, rfl⟩ := Option.map_eq_some_iff.1 hi
          obtain ⟨_, _, hat⟩ := World.cells?_some (hp i p hpi).1
          rw [hce] at hat
          rw [Nat.zero_add]
          exact hat r hr) j u hj
        rw [Nat.zero_mul, Nat.zero_add] at this
        exact this
      · rw [List.getElem?_map] at h1 h2
        obtain ⟨p, hpi, rfl⟩ := Option.map_eq_some_iff.1 h1
        obtain ⟨q, hqi, rfl⟩ := Option.map_eq_some_iff.1 h2
        rw [hpi] at hqi
        cases hqi
        exact (hp i p hpi).2.2
def FieldsOpb (H : Type) (P : Program) (fs : List (Nat × TypeId)) (off : Nat) (τ : Ty α) (ok : Nat → α → Prop) : Prop := ∀ (enc : TypeId × Value → H) (w : World) (base : Nat) (spare : Nat → Bool) (held : Bool) (n : Nat) (cs : List Value) (B : Nat),
  (∀ f ∈ fs, ∃ y : DataW H × List MemPlace, Rows.uptoBulk y.1 ≤ B ∧ DataW.trod enc P w base spare held n f.2 ((cs.drop f.1).take (P.cellsOf f.2)) = some y) → ∃ x, (∀ N, B ≤ N → ok N x) ∧ τ.rep (Full w) w ((cs.drop off).take τ.size) x
theorem fieldsb_one {t : TypeId} {off : Nat} {τ : Ty α} {ok : Nat → α → Prop} (hsz : szOf P t = some τ.size) (h : Opb H P t τ ok) : FieldsOpb H P [(off, t)] off τ ok := fun enc w base spare held n cs B hf => by
  obtain ⟨y, hyb, hy⟩ := hf (off, t) (by simp)
  have hce : P.cellsOf t = τ.size := by unfold szOf at hsz; unfold Program.cellsOf; rw [hsz]; rfl
  rw [hce] at hy
  obtain ⟨x, h1, h2⟩ := h enc w base spare held n _ y hy
  exact ⟨x, fun N hN => h1 N (Nat.le_trans hyb hN), h2⟩
theorem fieldsb_cons {t : TypeId} {off : Nat} {τ : Ty α} {υ : Ty β} {ok : Nat → α → Prop} {okb : Nat → β → Prop} {fs : List (Nat × TypeId)} (hsz : szOf P t = some τ.size) (h : Opb H P t τ ok) (hr : FieldsOpb H P fs (off + τ.size) υ okb) : FieldsOpb H P ((off, t) :: fs) off (tyPair τ υ) (fun N x => ok N x.1 ∧ okb N x.2) := fun enc w base spare held n cs B hf => by
  obtain ⟨y, hyb, hy⟩ := hf (off, t) (by simp)
  have hce : P.cellsOf t = τ.size := by unfold szOf at hsz; unfold Program.cellsOf; rw [hsz]; rfl
  rw [hce] at hy
  obtain ⟨x, h1, h2⟩ := h enc w base spare held n _ y hy
  obtain ⟨z, h3, h4⟩ := hr enc w base spare held n cs B (fun f hff => hf f (by simp [hff]))
  refine ⟨(x, z), fun N hN => ⟨h1 N (Nat.le_trans hyb hN), h3 N hN⟩, _, _, ?_, h2, h4⟩
  rw [show (tyPair τ υ).size = τ.size + υ.size from rfl, List.take_add, List.drop_drop]
theorem opb_struct {t : TypeId} {fs : Array Field} {υ : Ty β} {ok : Nat → β → Prop} (f : α → β) (g : β → α) (hfg : ∀ y, f (g y) = y) (hu : P.underlying t = some (.struct fs)) (hsz : szOf P t = some υ.size) (hr : FieldsOpb H P (fs.toList.map fun f => (f.offset, f.type)) 0 υ ok) : Opb H P t (tyVia f υ) (fun N x => ok N (f x)) := fun enc w base spare held n cs y h => by
  obtain ⟨xs, m, _, hy, hcl, hxl, hf⟩ := DataW.trod_struct hu h
  have hce : P.cellsOf t = υ.size := by unfold szOf at hsz; unfold Program.cellsOf; rw [hsz]; rfl
  have hpart : ∀ q ∈ xs, Rows.uptoBulk q.1 ≤ Rows.uptoBulk y.1 := fun q hq => by
    rw [hy]
    have := bulk_part (d := q.1) (l := xs.map (·.1)) (List.mem_map.2 ⟨q, hq, rfl⟩)
    simp only [Rows.uptoBulk]
    omega
  obtain ⟨z, h1, h2⟩ := hr enc w base spare held m cs (Rows.uptoBulk y.1) (fun p hp => by
    obtain ⟨fl, hfl, rfl⟩ := List.mem_map.1 hp
    obtain ⟨i, hi⟩ := List.getElem?_of_mem hfl
    have hi' : fs[i]? = some fl := by simpa using hi
    have hlt : i < xs.length := by rw [hxl]; exact (Array.getElem?_eq_some_iff.1 hi').1
    exact ⟨xs[i], hpart _ (List.getElem_mem hlt), (hf i fl hi').trans (List.getElem?_eq_getElem hlt)⟩)
  refine ⟨g z, (fun N hN => by show ok N (f (g z)); rw [hfg]; exact h1 N hN), ?_⟩
  show υ.rep _ _ cs (f (g z))
  rw [hfg]
  rw [List.drop_zero, List.take_of_length_le (by rw [hcl, hce]; exact Nat.le_refl _)] at h2
  exact h2
variable {w : World} {base : Nat} {spare : Nat → Bool} {held : Bool} {enc : TypeId × Value → H} {v : Value} {d : DataW H} {ps : List MemPlace} {r : Reach} {b0 : Nat} {t : TypeId}
theorem par_sliceB {e : TypeId} {τ : Ty α} {ok : Nat → List α → Prop} (ht : P.underlying t = some (.slice e)) (ho : Opb H P t (tyList τ) ok) (hval : Value.okWide P w r b0 t v) (hd : DataW.Trod enc P w base spare held t v d ps) : ∃ xs, (∀ N, Rows.uptoBulk d ≤ N → ok N xs) ∧ (tyList τ).rep (Full w) w [v] xs := by
  obtain ⟨A, l, c, rfl⟩ := okWide_slice ht hval
  obtain ⟨fuel, hf⟩ := hd
  exact ho enc w base spare held fuel _ _ hf
end
end Go.Proofs.YtfhifdmbdkkgaaaDoor.En
namespace Go.Proofs.YtfhifdmbdkkgaaaDoor.En
open Go.RowKit YtfhifdmbdkkgaaaDoor
@[reducible] def iq (x : Int) : Value := Value.int .i64 x
@[reducible] def uq (x : Int) : Value := Value.int .u64 x
@[reducible] def i8 (x : Int) : Value := Value.int .u8 x
@[reducible] def wq (x : Int) : Int := IntKind.i64.wrap x
@[reducible] def wu (x : Int) : Int := IntKind.u64.wrap x
@[reducible] def w8 (x : Int) : Int := IntKind.u8.wrap x
@[reducible] def nS : Value := Value.slice none 0 0
@[reducible] def fq (k : Nat) : Value := Value.func (.func k) #[] #[]
@[reducible] def tq : Ty Int := tyInt .i64
@[reducible] def pq (g : Nat) : Value := ptr g 0
end Go.Proofs.YtfhifdmbdkkgaaaDoor.En
namespace Go.Proofs.YtfhifdmbdkkgaaaDoor
open Go.RowKit YtfhifdmbdkkgaaaDoor.En
set_option linter.unusedVariables false
set_option linter.unusedSimpArgs false
open Go.Value (int bool)
structure S_api_Item where
  Path : (List UInt8)
  Kind : Int
  Mode : Int
  Time : Int
  Bytes : (List UInt8)
  deriving DecidableEq
def tyS_api_Item : Ty S_api_Item := tyVia (fun x => (x.Path, (x.Kind, (x.Mode, (x.Time, x.Bytes))))) (tyPair tyStr (tyPair (tyInt .i64) (tyPair (tyInt .i64) (tyPair (tyInt .i64) tyStr))))
theorem subS_api_Item_0 : Sub tyS_api_Item 0 tyStr (fun x => x.Path) := Sub.via (Sub.fst (Sub.whole _))
theorem flatS_api_Item : FlatTy tyS_api_Item := flat_via (flat_pair flat_enc (flat_pair flat_enc (flat_pair flat_enc (flat_pair flat_enc flat_enc))))
theorem encS_api_Item {Z w cs} {x : S_api_Item} (h : tyS_api_Item.rep Z w cs x) : cs = [(str x.Path), (int .i64 x.Kind), (int .i64 x.Mode), (int .i64 x.Time), (str x.Bytes)] := by
  obtain ⟨c0, d0, rfl, p0, q0⟩ := h
  obtain ⟨c1, d1, rfl, p1, q1⟩ := q0
  obtain ⟨c2, d2, rfl, p2, q2⟩ := q1
  obtain ⟨c3, d3, rfl, p3, q3⟩ := q2
  rw [show _ = _ from p0]
  rw [show _ = _ from p1]
  rw [show _ = _ from p2]
  rw [show _ = _ from p3]
  rw [show _ = _ from q3]
  rfl
theorem mkS_api_Item {Z w cs} {x : S_api_Item} (h : cs = [(str x.Path), (int .i64 x.Kind), (int .i64 x.Mode), (int .i64 x.Time), (str x.Bytes)]) : tyS_api_Item.rep Z w cs x := by
  subst h
  exact ⟨_, _, (List.take_append_drop 1 _).symm, rfl, ⟨_, _, (List.take_append_drop 1 _).symm, rfl, ⟨_, _, (List.take_append_drop 1 _).symm, rfl, ⟨_, _, (List.take_append_drop 1 _).symm, rfl, rfl⟩⟩⟩⟩
structure S_api_Edit where
  Path : (List UInt8)
  Gone : Bool
  Item : S_api_Item
  deriving DecidableEq
def tyS_api_Edit : Ty S_api_Edit := tyVia (fun x => (x.Path, (x.Gone, x.Item))) (tyPair tyStr (tyPair tyBool tyS_api_Item))
theorem subS_api_Edit_0 : Sub tyS_api_Edit 0 tyStr (fun x => x.Path) := Sub.via (Sub.fst (Sub.whole _))
theorem subS_api_Edit_1 : Sub tyS_api_Edit 1 tyBool (fun x => x.Gone) := Sub.via (Sub.snd (Sub.fst (Sub.whole _)))
theorem subS_api_Edit_2 : Sub tyS_api_Edit 2 tyS_api_Item (fun x => x.Item) := Sub.via (Sub.snd (Sub.snd (Sub.whole _)))
theorem flatS_api_Edit : FlatTy tyS_api_Edit := flat_via (flat_pair flat_enc (flat_pair flat_enc flatS_api_Item))
theorem encS_api_Edit {Z w cs} {x : S_api_Edit} (h : tyS_api_Edit.rep Z w cs x) : cs = [(str x.Path), (bool x.Gone), (str x.Item.Path), (int .i64 x.Item.Kind), (int .i64 x.Item.Mode), (int .i64 x.Item.Time), (str x.Item.Bytes)] := by
  obtain ⟨c0, d0, rfl, p0, q0⟩ := h
  obtain ⟨c1, d1, rfl, p1, q1⟩ := q0
  rw [show _ = _ from p0]
  rw [show _ = _ from p1]
  rw [encS_api_Item q1]
  rfl
theorem mkS_api_Edit {Z w cs} {x : S_api_Edit} (h : cs = [(str x.Path), (bool x.Gone), (str x.Item.Path), (int .i64 x.Item.Kind), (int .i64 x.Item.Mode), (int .i64 x.Item.Time), (str x.Item.Bytes)]) : tyS_api_Edit.rep Z w cs x := by
  subst h
  exact ⟨_, _, (List.take_append_drop 1 _).symm, rfl, ⟨_, _, (List.take_append_drop 1 _).symm, rfl, (mkS_api_Item rfl)⟩⟩
theorem sz3 : szOf Tryd.prog 3 = some 1 := by kernel_rfl
theorem to3 : tyOf Tryd.prog 3 = some (1, 8, some (int .i64 (0 : Int))) := by kernel_rfl
theorem sz4 : szOf Tryd.prog 4 = some 1 := by kernel_rfl
theorem to4 : tyOf Tryd.prog 4 = some (1, 1, some (bool false)) := by kernel_rfl
theorem sz5 : szOf Tryd.prog 5 = some 1 := by kernel_rfl
theorem sz9 : szOf Tryd.prog 9 = some 1 := by kernel_rfl
theorem to9 : tyOf Tryd.prog 9 = some (1, 16, some (str ([] : List UInt8))) := by kernel_rfl
theorem sz35 : szOf Tryd.prog 35 = some 1 := by kernel_rfl
theorem to35 : tyOf Tryd.prog 35 = some (1, 24, some (Value.slice none 0 0)) := by kernel_rfl
theorem sz36 : szOf Tryd.prog 36 = some 1 := by kernel_rfl
theorem to36 : tyOf Tryd.prog 36 = some (1, 24, some (Value.slice none 0 0)) := by kernel_rfl
theorem sz41 : szOf Tryd.prog 41 = some 5 := by kernel_rfl
theorem to41 : tyOf Tryd.prog 41 = some (5, 56, some (ag [(str ([] : List UInt8)), (int .i64 (0 : Int)), (int .i64 (0 : Int)), (int .i64 (0 : Int)), (str ([] : List UInt8))])) := by kernel_rfl
theorem sz43 : szOf Tryd.prog 43 = some 7 := by kernel_rfl
theorem to43 : tyOf Tryd.prog 43 = some (7, 80, some (ag [(str ([] : List UInt8)), (bool false), (str ([] : List UInt8)), (int .i64 (0 : Int)), (int .i64 (0 : Int)), (int .i64 (0 : Int)), (str ([] : List UInt8))])) := by kernel_rfl
theorem mixed : Tryd.prog.follows .mixedOrders = true := by kernel_rfl
theorem eg41 : Tryd.prog.eqGuardType Tryd.prog.depth 41 = false := by kernel_rfl
theorem kt41 : Tryd.prog.keyTypeAt 20 41 = true := by kernel_rfl
theorem lv41 : leaves Tryd.prog 20 41 = some [9, 3, 3, 3, 9] := by kernel_rfl
theorem injS_api_Item {x y : S_api_Item} : (x == y) = true ↔ [(str x.Path), (int .i64 x.Kind), (int .i64 x.Mode), (int .i64 x.Time), (str x.Bytes)] = [(str y.Path), (int .i64 y.Kind), (int .i64 y.Mode), (int .i64 y.Time), (str y.Bytes)] := by
  rw [beq_iff_eq]
  constructor
  · rintro rfl; rfl
  · intro h
    obtain ⟨⟩ := x
    obtain ⟨⟩ := y
    simp only [S_api_Item.mk.injEq, str, List.cons_append, List.nil_append, List.cons.injEq, Value.int.injEq, Value.bool.injEq, Value.string.injEq, ByteArray.mk.injEq, Array.mk.injEq, Int.natCast_inj, UInt8.toNat_inj, true_and, and_true] at h ⊢
    first | exact h | simpa [and_assoc] using h
theorem extS_api_Item (x y : S_api_Item) : x = y ↔ x.Path = y.Path ∧ x.Kind = y.Kind ∧ x.Mode = y.Mode ∧ x.Time = y.Time ∧ x.Bytes = y.Bytes := by
  constructor
  · rintro rfl; simp
  · intro h
    obtain ⟨⟩ := x
    obtain ⟨⟩ := y
    simpa using h
theorem eg43 : Tryd.prog.eqGuardType Tryd.prog.depth 43 = false := by kernel_rfl
theorem kt43 : Tryd.prog.keyTypeAt 20 43 = true := by kernel_rfl
theorem lv43 : leaves Tryd.prog 20 43 = some [9, 4, 9, 3, 3, 3, 9] := by kernel_rfl
theorem injS_api_Edit {x y : S_api_Edit} : (x == y) = true ↔ [(str x.Path), (bool x.Gone), (str x.Item.Path), (int .i64 x.Item.Kind), (int .i64 x.Item.Mode), (int .i64 x.Item.Time), (str x.Item.Bytes)] = [(str y.Path), (bool y.Gone), (str y.Item.Path), (int .i64 y.Item.Kind), (int .i64 y.Item.Mode), (int .i64 y.Item.Time), (str y.Item.Bytes)] := by
  rw [beq_iff_eq]
  constructor
  · rintro rfl; rfl
  · intro h
    obtain ⟨⟩ := x
    obtain ⟨⟩ := y
    simp only [S_api_Edit.mk.injEq, S_api_Item.mk.injEq, extS_api_Item, str, List.cons_append, List.nil_append, List.cons.injEq, Value.int.injEq, Value.bool.injEq, Value.string.injEq, ByteArray.mk.injEq, Array.mk.injEq, Int.natCast_inj, UInt8.toNat_inj, true_and, and_true] at h ⊢
    first | exact h | simpa [and_assoc] using h
theorem kd9 : Go.Maps.Keyed Tryd.prog 9 := Go.Maps.string_keyed Tryd.underlying9
def okS_api_Item (x : S_api_Item) : Prop := (x.Path.length ≤ 9223372036854775807) ∧ ((Lit.int .i64 x.Kind).wf = true) ∧ ((Lit.int .i64 x.Mode).wf = true) ∧ ((Lit.int .i64 x.Time).wf = true) ∧ (x.Bytes.length ≤ 9223372036854775807)
set_option maxRecDepth 100000 in
theorem opnS_api_Item {H : Type} : Opn H Tryd.prog 41 tyS_api_Item okS_api_Item := opn_struct (fun x => (x.Path, (x.Kind, (x.Mode, (x.Time, x.Bytes))))) (fun y => S_api_Item.mk y.1 y.2.1 y.2.2.1 y.2.2.2.1 y.2.2.2.2) (fun _ => rfl) Tryd.underlying41 sz41 (fields_cons sz9 (opn_str Tryd.underlying9) (fields_cons sz3 (opn_int Tryd.underlying3) (fields_cons sz3 (opn_int Tryd.underlying3) (fields_cons sz3 (opn_int Tryd.underlying3) (fields_one sz9 (opn_str Tryd.underlying9))))))
def okS_api_Edit (x : S_api_Edit) : Prop := (x.Path.length ≤ 9223372036854775807) ∧ (True) ∧ (okS_api_Item x.Item)
set_option maxRecDepth 100000 in
theorem opnS_api_Edit {H : Type} : Opn H Tryd.prog 43 tyS_api_Edit okS_api_Edit := opn_struct (fun x => (x.Path, (x.Gone, x.Item))) (fun y => S_api_Edit.mk y.1 y.2.1 y.2.2) (fun _ => rfl) Tryd.underlying43 sz43 (fields_cons sz9 (opn_str Tryd.underlying9) (fields_cons sz4 (opn_bool Tryd.underlying4) (fields_one sz41 opnS_api_Item)))
def okbS_api_Item (N : Nat) (x : S_api_Item) : Prop := ((x.Path.length ≤ 9223372036854775807 ∧ x.Path.length ≤ N)) ∧ ((Lit.int .i64 x.Kind).wf = true) ∧ ((Lit.int .i64 x.Mode).wf = true) ∧ ((Lit.int .i64 x.Time).wf = true) ∧ ((x.Bytes.length ≤ 9223372036854775807 ∧ x.Bytes.length ≤ N))
set_option maxRecDepth 100000 in
theorem opbS_api_Item {H : Type} : Opb H Tryd.prog 41 tyS_api_Item okbS_api_Item := opb_struct (fun x => (x.Path, (x.Kind, (x.Mode, (x.Time, x.Bytes))))) (fun y => S_api_Item.mk y.1 y.2.1 y.2.2.1 y.2.2.2.1 y.2.2.2.2) (fun _ => rfl) Tryd.underlying41 sz41 (fieldsb_cons sz9 (opb_str Tryd.underlying9) (fieldsb_cons sz3 (opb_of (opn_int Tryd.underlying3)) (fieldsb_cons sz3 (opb_of (opn_int Tryd.underlying3)) (fieldsb_cons sz3 (opb_of (opn_int Tryd.underlying3)) (fieldsb_one sz9 (opb_str Tryd.underlying9))))))
def okbS_api_Edit (N : Nat) (x : S_api_Edit) : Prop := ((x.Path.length ≤ 9223372036854775807 ∧ x.Path.length ≤ N)) ∧ (True) ∧ (okbS_api_Item N x.Item)
set_option maxRecDepth 100000 in
theorem opbS_api_Edit {H : Type} : Opb H Tryd.prog 43 tyS_api_Edit okbS_api_Edit := opb_struct (fun x => (x.Path, (x.Gone, x.Item))) (fun y => S_api_Edit.mk y.1 y.2.1 y.2.2) (fun _ => rfl) Tryd.underlying43 sz43 (fieldsb_cons sz9 (opb_str Tryd.underlying9) (fieldsb_cons sz4 (opb_of (opn_bool Tryd.underlying4)) (fieldsb_one sz41 opbS_api_Item)))
def f_stringslite_HasPrefix (fu : Nat) (a0 : (List UInt8)) (a1 : (List UInt8)) : Option Bool := (lt (fun (j1b4 : Bool) => (some j1b4)) fun (kk2 : Bool → Option Bool) => (bif (decide ((a0.length : Int) ≥ (a1.length : Int))) then (req (0 ≤ (a1.length : Int) ∧ (a1.length : Int) ≤ (a0.length : Int)) (kk2 ((a0.take ((a1.length : Int)).toNat) == a1))) else (kk2 false)))
set_option maxHeartbeats 2000000 in
set_option maxRecDepth 100000 in
theorem f_stringslite_HasPrefix_ok (fu : Nat) (a0 : (List UInt8)) (a1 : (List UInt8)) {r : Bool} (h : f_stringslite_HasPrefix fu a0 a1 = some r) : FnOk Tryd.prog 126 [(str a0), (str a1)] [] [] (fun (i : Unit) => { val := (bool r) }) := by
 unfold f_stringslite_HasPrefix at h
 refine fn_enter Tryd.func126 rfl Tryd.ntmps126 rfl (fun w0 Z0 => ?_)
 refine aw_sr ?_
 refine al_as rfl rfl ?_
 refine al_nt ?_
 obtain ⟨kk2, hkk2, h⟩ := lt_some h
 refine aw_seq_join (ι := Bool) (fun i => (memOf w0 Z0 [] [] [])) (fun i => (tab [(4, (bool i))])) (fun i => kk2 i = some r) ?_ ?_
 ·rintro j1b4 h
  have h : kk2 j1b4 = some r := h
  rw [hkk2] at h
  dsimp only at h
  clear hkk2
  refine aw_show (m := (memOf w0 Z0 [] [] [])) (S := (tab [(4, (bool j1b4))])) ?_
  refine aw_ret ?_
  obtain rfl := Option.some.inj h
  exact fn_ret () [] [] rfl rfl rfl rfl (res1 rfl rfl) rfl rfl rfl (by decide)
 ·clear hkk2
  refine aw_region ?_
  refine al_mv rfl rfl ?_
  refine al_val (ov_strLen Tryd.underlying9 rfl rfl) ?_
  refine al_mv rfl rfl ?_
  refine al_val (ov_strLen Tryd.underlying9 rfl rfl) ?_
  refine al_in rfl rfl rfl rfl ?_
  refine al_mv rfl rfl ?_
  refine al_caseB 10 rfl (fun hb3 => ?_) (fun hb3 => ?_)
  ·replace h := bif_t hb3 h
   refine al_mv rfl rfl ?_
   refine al_mv rfl rfl ?_
   refine al_val (ov_strLen Tryd.underlying9 rfl rfl) ?_
   obtain ⟨hc4, h⟩ := req_some h
   refine al_val (ov_strTo hc4.1 hc4.2 Tryd.underlying9 rfl rfl rfl) ?_
   refine al_mv rfl rfl ?_
   refine al_val (ov_strCmp rfl rfl rfl rfl) ?_
   refine al_val (ov_pick_t rfl rfl rfl) ?_
   refine al_as rfl rfl ?_
   refine al_nil ?_
   exact aq_join ((a0.take ((a1.length : Int)).toNat) == a1) h (fun w a hm hs => norm hm hs [] [] [(4, (bool ((a0.take ((a1.length : Int)).toNat) == a1)))] (by decide) ⟨rfl, trivial⟩)
  ·replace h := bif_f hb3 h
   refine al_skip ?_
   refine al_skip ?_
   refine al_skip ?_
   refine al_skip ?_
   refine al_skip ?_
   refine al_skip ?_
   refine al_val (ov_pick_f rfl rfl rfl) ?_
   refine al_as rfl rfl ?_
   refine al_nil ?_
   exact aq_join false h (fun w a hm hs => norm hm hs [] [] [(4, (bool false))] (by decide) ⟨rfl, trivial⟩)
def f_stringslite_CutPrefix (fu : Nat) (a0 : (List UInt8)) (a1 : (List UInt8)) : Option ((List UInt8) × Bool) := (opt (f_stringslite_HasPrefix fu a0 a1) fun (r2 : Bool) => (bif (!r2) then (some (a0, false)) else (req (0 ≤ (a1.length : Int) ∧ (a1.length : Int) ≤ (a0.length : Int)) (some ((a0.drop ((a1.length : Int)).toNat), true)))))
set_option maxHeartbeats 2000000 in
set_option maxRecDepth 100000 in
theorem f_stringslite_CutPrefix_ok (fu : Nat) (a0 : (List UInt8)) (a1 : (List UInt8)) {r : ((List UInt8) × Bool)} (h : f_stringslite_CutPrefix fu a0 a1 = some r) : FnOk Tryd.prog 161 [(str a0), (str a1)] [] [] (fun (i : Unit) => { val := (Value.tuple #[(str r.1), (bool r.2)]) }) := by
 unfold f_stringslite_CutPrefix at h
 refine fn_enter Tryd.func161 rfl Tryd.ntmps161 rfl (fun w0 Z0 => ?_)
 refine aw_sr ?_
 refine al_as rfl rfl ?_
 refine al_as rfl rfl ?_
 refine al_nt ?_
 refine aw_seq ?_
 refine aw_sr ?_
 refine al_mv rfl rfl ?_
 refine al_mv rfl rfl ?_
 obtain ⟨r2, hc1, h⟩ := opt_some h
 refine al_call (vs := [(str a0), (str a1)]) (f_stringslite_HasPrefix_ok fu a0 a1 hc1) [] [] [] pre_nil rfl (by simp) (by decide) (.inl rfl) rfl Tryd.func126 rfl rfl rfl (fun _ => ?_)
 refine al_val (ov_not rfl rfl) ?_
 refine al_nt ?_
 refine aw_cond rfl (fun hb3 => ?_) (fun hb3 => ?_)
 ·replace h := bif_t hb3 h
  refine aw_sr ?_
  refine al_mv rfl rfl ?_
  refine al_as rfl rfl ?_
  refine al_as rfl rfl ?_
  refine al_nt ?_
  refine aw_ret ?_
  refine aq_then_ret ?_
  obtain rfl := Option.some.inj h
  exact fn_ret () [] [] rfl rfl rfl rfl (res2 rfl rfl rfl) rfl rfl rfl (by decide)
 ·replace h := bif_f hb3 h
  refine aw_skip ?_
  refine aq_tr ?_
  refine al_mv rfl rfl ?_
  refine al_mv rfl rfl ?_
  refine al_val (ov_strLen Tryd.underlying9 rfl rfl) ?_
  obtain ⟨hc4, h⟩ := req_some h
  refine al_val (ov_strFrom hc4.1 hc4.2 Tryd.underlying9 rfl rfl rfl) ?_
  refine al_as rfl rfl ?_
  refine al_as rfl rfl ?_
  refine al_nt ?_
  refine aw_ret ?_
  obtain rfl := Option.some.inj h
  exact fn_ret () [] [] rfl rfl rfl rfl (res2 rfl rfl rfl) rfl rfl rfl (by decide)
def f_strings_CutPrefix (fu : Nat) (a0 : (List UInt8)) (a1 : (List UInt8)) : Option ((List UInt8) × Bool) := (opt (f_stringslite_CutPrefix fu a0 a1) fun (r2 : ((List UInt8) × Bool)) => (some (r2.1, r2.2)))
set_option maxRecDepth 100000 in
theorem f_strings_CutPrefix_ok (fu : Nat) (a0 : (List UInt8)) (a1 : (List UInt8)) {r : ((List UInt8) × Bool)} (h : f_strings_CutPrefix fu a0 a1 = some r) : FnOk Tryd.prog 113 [(str a0), (str a1)] [] [] (fun (i : Unit) => { val := (Value.tuple #[(str r.1), (bool r.2)]) }) := by
 unfold f_strings_CutPrefix at h
 refine fn_enter Tryd.func113 rfl Tryd.ntmps113 rfl (fun w0 Z0 => ?_)
 refine aw_sr ?_
 refine al_as rfl rfl ?_
 refine al_as rfl rfl ?_
 refine al_nt ?_
 refine aw_sr ?_
 refine al_mv rfl rfl ?_
 refine al_mv rfl rfl ?_
 obtain ⟨r2, hc1, h⟩ := opt_some h
 refine al_call (vs := [(str a0), (str a1)]) (f_stringslite_CutPrefix_ok fu a0 a1 hc1) [] [] [] pre_nil rfl (by simp) (by decide) (.inl rfl) rfl Tryd.func161 rfl rfl rfl (fun _ => ?_)
 refine al_ex rfl rfl rfl ?_
 refine al_ex rfl rfl rfl ?_
 refine al_as rfl rfl ?_
 refine al_as rfl rfl ?_
 refine al_nt ?_
 refine aw_ret ?_
 obtain rfl := Option.some.inj h
 exact fn_ret () [] [] rfl rfl rfl rfl (res2 rfl rfl rfl) rfl rfl rfl (by decide)
def f_names_Check_L10 (a0 : (List UInt8)) (kk5 : (Int → Option Int)) : Nat → Int → Int → Option Int
  | 0, _, _ => none
  | k9 + 1, l8i3, l8xp22 => (bif (decide (l8xp22.toNat < a0.length)) then (lt (fun (j12b35 : Bool) => (bif j12b35 then (some (8 : Int)) else (f_names_Check_L10 a0 kk5 k9 (IntKind.i64.wrap (l8i3 + (1 : Int))) ((l8xp22.toNat + (dec a0 l8xp22.toNat).2 : Nat) : Int)))) fun (kk13 : Bool → Option Int) => (bif ((((dec a0 l8xp22.toNat).1 : Nat) : Int) == (47 : Int)) then (kk13 true) else (bif (decide ((((dec a0 l8xp22.toNat).1 : Nat) : Int) < (32 : Int))) then (kk13 true) else (kk13 ((((dec a0 l8xp22.toNat).1 : Nat) : Int) == (127 : Int)))))) else (kk5 l8i3))
def f_names_Check (fu : Nat) (a0 : (List UInt8)) : Option Int := (lt (fun (j1b20 : Bool) => (bif j1b20 then (some (8 : Int)) else (lt (fun (j4i3 : Int) => (bif (decide (j4i3 > (24 : Int))) then (some (2 : Int)) else (some (0 : Int)))) fun (kk5 : Int → Option Int) => (f_names_Check_L10 a0 kk5 fu (0 : Int) (0 : Int))))) fun (kk2 : Bool → Option Int) => (bif (a0 == ([] : List UInt8)) then (kk2 true) else (bif (a0 == ([46] : List UInt8)) then (kk2 true) else (bif (a0 == ([46, 46] : List UInt8)) then (kk2 true) else (opt (f_utf8_ValidString fu a0) fun (r21 : Bool) => (kk2 (!r21)))))))
set_option maxHeartbeats 2000000 in
set_option maxRecDepth 100000 in
theorem f_names_Check_ok (fu : Nat) (a0 : (List UInt8)) {r : Int} (h : f_names_Check fu a0 = some r) : FnOk Tryd.prog 163 [(str a0)] [uTabs] [] (fun (i : Unit) => { val := (int .i64 r) }) := by
 unfold f_names_Check at h
 refine fn_enter Tryd.func163 rfl Tryd.ntmps163 rfl (fun w0 Z0 => ?_)
 refine aw_sr ?_
 refine al_as rfl rfl ?_
 refine al_nt ?_
 refine aw_seq ?_
 obtain ⟨kk2, hkk2, h⟩ := lt_some h
 refine aw_seq_join (ι := Bool) (fun i => (memOf w0 Z0 [] [] [uTabs])) (fun i => (tab [(0, (str a0)), (20, (bool i))])) (fun i => kk2 i = some r) ?_ ?_
 ·rintro j1b20 h
  have h : kk2 j1b20 = some r := h
  rw [hkk2] at h
  dsimp only at h
  clear hkk2
  refine aw_show (m := (memOf w0 Z0 [] [] [uTabs])) (S := (tab [(0, (str a0)), (20, (bool j1b20))])) ?_
  refine aw_cond rfl (fun hb3 => ?_) (fun hb3 => ?_)
  ·replace h := bif_t hb3 h
   refine aw_sr ?_
   refine al_as rfl rfl ?_
   refine al_nt ?_
   refine aw_ret ?_
   refine aq_then_ret ?_
   obtain rfl := Option.some.inj h
   exact fn_ret () [] [] rfl rfl rfl rfl (res1 rfl rfl) rfl rfl rfl (by decide)
  ·replace h := bif_f hb3 h
   refine aw_skip ?_
   refine aq_tr ?_
   refine al_as rfl rfl ?_
   refine al_nt ?_
   obtain ⟨kk5, hkk5, h⟩ := lt_some h
   refine aw_seq_join (ι := Int) (fun i => (memOf w0 Z0 [] [] [uTabs])) (fun i => (tab [(3, (iq i))])) (fun i => kk5 i = some r) ?_ ?_
   ·rintro j4i3 h
    have h : kk5 j4i3 = some r := h
    rw [hkk5] at h
    dsimp only at h
    clear hkk5
    refine aw_show (m := (memOf w0 Z0 [] [] [uTabs])) (S := (tab [(3, (iq j4i3))])) ?_
    refine aw_seq ?_
    refine aw_sr ?_
    refine al_mv rfl rfl ?_
    refine al_in rfl rfl rfl rfl ?_
    refine al_nt ?_
    refine aw_cond rfl (fun hb6 => ?_) (fun hb6 => ?_)
    ·replace h := bif_t hb6 h
     refine aw_sr ?_
     refine al_as rfl rfl ?_
     refine al_nt ?_
     refine aw_ret ?_
     refine aq_then_ret ?_
     obtain rfl := Option.some.inj h
     exact fn_ret () [] [] rfl rfl rfl rfl (res1 rfl rfl) rfl rfl rfl (by decide)
    ·replace h := bif_f hb6 h
     refine aw_skip ?_
     refine aq_tr ?_
     refine al_as rfl rfl ?_
     refine al_nt ?_
     refine aw_ret ?_
     obtain rfl := Option.some.inj h
     exact fn_ret () [] [] rfl rfl rfl rfl (res1 rfl rfl) rfl rfl rfl (by decide)
   ·clear hkk5
    refine aw_sr ?_
    refine al_mv rfl rfl ?_
    refine al_range rfl Tryd.underlying9 rfl (fun g7 => ?_)
    refine al_nt ?_
    refine aw_block ?_
    refine aw_state (aw_loop (ι := Int × Int) (fun i => (memOf w0 Z0 [] [(oIter g7 a0 i.2)] [uTabs])) (fun i => (tab [(3, (iq i.1)), (22, (pq g7))])) (fun q i => f_names_Check_L10 a0 kk5 q i.1 i.2 = some r) ?_ fu ((0 : Int), (0 : Int)) h) (fun w a hm hs => norm hm hs [0] [0] [(3, (iq (0 : Int))), (22, (pq g7))] (by decide) ⟨rfl, rfl, trivial⟩)
    clear h
    rintro k9 ⟨l8i3, l8xp22⟩ h
    have h : f_names_Check_L10 a0 kk5 k9 l8i3 l8xp22 = some r := h
    obtain _ | k9 := k9
    · rw [f_names_Check_L10] at h; cases h
    rw [f_names_Check_L10] at h
    refine aw_show (m := (memOf w0 Z0 [] [(oIter g7 a0 l8xp22)] [uTabs])) (S := (tab [(3, (iq l8i3)), (22, (pq g7))])) ?_
    refine aw_sr ?_
    refine al_next 0 rfl rfl rfl (fun hn11 => ?_) (fun hn11 => ?_)
    ·replace h := bif_t (decide_eq_true hn11) h
     refine al_ex rfl rfl rfl ?_
     refine al_nt ?_
     refine aw_seq ?_
     refine aw_cond_t rfl ?_
     refine aw_skip ?_
     refine aq_then ?_
     refine aw_block ?_
     refine aw_sr ?_
     refine al_ex rfl rfl rfl ?_
     refine al_as rfl rfl ?_
     refine al_nt ?_
     refine aw_seq ?_
     obtain ⟨kk13, hkk13, h⟩ := lt_some h
     refine aw_seq_join (ι := Bool) (fun i => (memOf w0 Z0 [] [(oIter g7 a0 ((l8xp22.toNat + (dec a0 l8xp22.toNat).2 : Nat) : Int))] [uTabs])) (fun i => (tab [(3, (iq l8i3)), (22, (pq g7)), (35, (bool i))])) (fun i => kk13 i = some r) ?_ ?_
     ·rintro j12b35 h
      have h : kk13 j12b35 = some r := h
      rw [hkk13] at h
      dsimp only at h
      clear hkk13
      refine aw_show (m := (memOf w0 Z0 [] [(oIter g7 a0 ((l8xp22.toNat + (dec a0 l8xp22.toNat).2 : Nat) : Int))] [uTabs])) (S := (tab [(3, (iq l8i3)), (22, (pq g7)), (35, (bool j12b35))])) ?_
      refine aw_cond rfl (fun hb14 => ?_) (fun hb14 => ?_)
      ·replace h := bif_t hb14 h
       refine aw_sr ?_
       refine al_as rfl rfl ?_
       refine al_nt ?_
       refine aw_ret ?_
       refine aq_then_ret ?_
       refine aq_block_ret ?_
       refine aq_then_ret ?_
       refine aq_block_ret ?_
       refine aq_then_ret ?_
       obtain rfl := Option.some.inj h
       exact fn_ret () [] [] rfl rfl rfl rfl (res1 rfl rfl) rfl rfl rfl (by decide)
      ·replace h := bif_f hb14 h
       refine aw_skip ?_
       refine aq_then ?_
       refine aw_region ?_
       refine al_mv rfl rfl ?_
       refine al_in rfl rfl rfl rfl ?_
       refine al_as rfl rfl ?_
       refine al_nil ?_
       refine aq_block ?_
       exact aq_again k9 ((wq (l8i3 + (1 : Int))), ((l8xp22.toNat + (dec a0 l8xp22.toNat).2 : Nat) : Int)) (Nat.lt_succ_self _) h (fun w a hm hs => norm hm hs [0] [0] [(3, (iq (wq (l8i3 + (1 : Int))))), (22, (pq g7))] (by decide) ⟨rfl, rfl, trivial⟩)
     ·clear hkk13
      refine aw_region ?_
      refine al_mv rfl rfl ?_
      refine al_in rfl rfl rfl rfl ?_
      refine al_mv rfl rfl ?_
      refine al_caseB 28 rfl (fun hb15 => ?_) (fun hb15 => ?_)
      ·replace h := bif_t hb15 h
       refine al_skip ?_
       refine al_skip ?_
       refine al_val (ov_pick_t rfl rfl rfl) ?_
       refine al_mv rfl rfl ?_
       refine al_skip ?_
       refine al_skip ?_
       refine al_val (ov_pick_t rfl rfl rfl) ?_
       refine al_nil ?_
       exact aq_join true h (fun w a hm hs => norm hm hs [0] [0] [(3, (iq l8i3)), (22, (pq g7)), (35, (bool true))] (by decide) ⟨rfl, rfl, rfl, trivial⟩)
      ·replace h := bif_f hb15 h
       refine al_mv rfl rfl ?_
       refine al_in rfl rfl rfl rfl ?_
       refine al_val (ov_pick_f rfl rfl rfl) ?_
       refine al_mv rfl rfl ?_
       refine al_caseB 32 rfl (fun hb16 => ?_) (fun hb16 => ?_)
       ·replace h := bif_t hb16 h
        refine al_skip ?_
        refine al_skip ?_
        refine al_val (ov_pick_t rfl rfl rfl) ?_
        refine al_nil ?_
        exact aq_join true h (fun w a hm hs => norm hm hs [0] [0] [(3, (iq l8i3)), (22, (pq g7)), (35, (bool true))] (by decide) ⟨rfl, rfl, rfl, trivial⟩)
       ·replace h := bif_f hb16 h
        refine al_mv rfl rfl ?_
        refine al_in rfl rfl rfl rfl ?_
        refine al_val (ov_pick_f rfl rfl rfl) ?_
        refine al_nil ?_
        exact aq_join ((((dec a0 l8xp22.toNat).1 : Nat) : Int) == (127 : Int)) h (fun w a hm hs => norm hm hs [0] [0] [(3, (iq l8i3)), (22, (pq g7)), (35, (bool ((((dec a0 l8xp22.toNat).1 : Nat) : Int) == (127 : Int))))] (by decide) ⟨rfl, rfl, rfl, trivial⟩)
    ·replace h := bif_f (decide_eq_false hn11) h
     refine al_ex rfl rfl rfl ?_
     refine al_nt ?_
     refine aw_seq ?_
     refine aw_cond_f rfl ?_
     refine aw_exit ?_
     refine aq_then_exit ?_
     refine aq_then_exit ?_
     refine aq_block_exit ?_
     exact aq_join l8i3 h (fun w a hm hs => norm hm hs [] [0] [(3, (iq l8i3))] (by decide) ⟨rfl, trivial⟩)
 ·clear hkk2
  refine aw_region ?_
  refine al_mv rfl rfl ?_
  refine al_val (ov_strCmp rfl rfl rfl rfl) ?_
  refine al_mv rfl rfl ?_
  refine al_caseB 8 rfl (fun hb17 => ?_) (fun hb17 => ?_)
  ·replace h := bif_t hb17 h
   refine al_skip ?_
   refine al_skip ?_
   refine al_val (ov_pick_t rfl rfl rfl) ?_
   refine al_mv rfl rfl ?_
   refine al_skip ?_
   refine al_skip ?_
   refine al_val (ov_pick_t rfl rfl rfl) ?_
   refine al_mv rfl rfl ?_
   refine al_skip ?_
   refine al_skip ?_
   refine al_skip ?_
   refine al_val (ov_pick_t rfl rfl rfl) ?_
   refine al_nil ?_
   exact aq_join true h (fun w a hm hs => norm hm hs [] [0] [(0, (str a0)), (20, (bool true))] (by decide) ⟨rfl, rfl, trivial⟩)
  ·replace h := bif_f hb17 h
   refine al_mv rfl rfl ?_
   refine al_val (ov_strCmp rfl rfl rfl rfl) ?_
   refine al_val (ov_pick_f rfl rfl rfl) ?_
   refine al_mv rfl rfl ?_
   refine al_caseB 12 rfl (fun hb18 => ?_) (fun hb18 => ?_)
   ·replace h := bif_t hb18 h
    refine al_skip ?_
    refine al_skip ?_
    refine al_val (ov_pick_t rfl rfl rfl) ?_
    refine al_mv rfl rfl ?_
    refine al_skip ?_
    refine al_skip ?_
    refine al_skip ?_
    refine al_val (ov_pick_t rfl rfl rfl) ?_
    refine al_nil ?_
    exact aq_join true h (fun w a hm hs => norm hm hs [] [0] [(0, (str a0)), (20, (bool true))] (by decide) ⟨rfl, rfl, trivial⟩)
   ·replace h := bif_f hb18 h
    refine al_mv rfl rfl ?_
    refine al_val (ov_strCmp rfl rfl rfl rfl) ?_
    refine al_val (ov_pick_f rfl rfl rfl) ?_
    refine al_mv rfl rfl ?_
    refine al_caseB 16 rfl (fun hb19 => ?_) (fun hb19 => ?_)
    ·replace h := bif_t hb19 h
     refine al_skip ?_
     refine al_skip ?_
     refine al_skip ?_
     refine al_val (ov_pick_t rfl rfl rfl) ?_
     refine al_nil ?_
     exact aq_join true h (fun w a hm hs => norm hm hs [] [0] [(0, (str a0)), (20, (bool true))] (by decide) ⟨rfl, rfl, trivial⟩)
    ·replace h := bif_f hb19 h
     refine al_mv rfl rfl ?_
     obtain ⟨r21, hc20, h⟩ := opt_some h
     refine al_call (vs := [(str a0)]) (f_utf8_ValidString_ok fu a0 hc20) [] [] [] (pre_fz 0 rfl pre_nil) rfl (by simp) (by decide) (.inl rfl) rfl Tryd.func119 rfl rfl rfl (fun _ => ?_)
     refine al_val (ov_not rfl rfl) ?_
     refine al_val (ov_pick_f rfl rfl rfl) ?_
     refine al_nil ?_
     exact aq_join (!r21) h (fun w a hm hs => norm hm hs [] [0] [(0, (str a0)), (20, (bool (!r21)))] (by decide) ⟨rfl, rfl, trivial⟩)
def f_names_checkAll_L5 (a0 : (List (List UInt8))) (kk2 : (Unit → Option Int)) (fu : Nat) : Nat → Int → Option Int
  | 0, _ => none
  | k4 + 1, l3i8 => (bif (decide (l3i8 < (a0.length : Int))) then (opt (at? a0 l3i8) fun (u7 : (List UInt8)) => (bif (decide (l3i8 ≥ (8 : Int))) then (some (14 : Int)) else (opt (f_names_Check fu u7) fun (r12 : Int) => (bif (r12 != (0 : Int)) then (some r12) else (f_names_checkAll_L5 a0 kk2 fu k4 (IntKind.i64.wrap (l3i8 + (1 : Int)))))))) else (kk2 ()))
def f_names_checkAll (fu : Nat) (a0 : (List (List UInt8))) : Option Int := (lt (fun (_ : Unit) => (some (0 : Int))) fun (kk2 : Unit → Option Int) => (f_names_checkAll_L5 a0 kk2 fu fu (0 : Int)))
set_option maxHeartbeats 2000000 in
set_option maxRecDepth 100000 in
theorem f_names_checkAll_ok (fu : Nat) (v0_0 : Value) (a0 : (List (List UInt8))) {r : Int} (h : f_names_checkAll fu a0 = some r) : FnOk Tryd.prog 115 [v0_0] [(fDat (tyList tyStr) [v0_0] a0), uTabs] [] (fun (i : Unit) => { val := (int .i64 r) }) := by
 unfold f_names_checkAll at h
 refine fn_enter Tryd.func115 rfl Tryd.ntmps115 rfl (fun w0 Z0 => ?_)
 refine aw_sr ?_
 refine al_as rfl rfl ?_
 refine al_nt ?_
 obtain ⟨kk2, hkk2, h⟩ := lt_some h
 refine aw_seq_join (ι := Unit) (fun i => (memOf w0 Z0 [] [] [(fDat (tyList tyStr) [v0_0] a0), uTabs])) (fun i => (tab [])) (fun i => kk2 () = some r) ?_ ?_
 ·rintro _ h
  have h : kk2 () = some r := h
  rw [hkk2] at h
  dsimp only at h
  clear hkk2
  refine aw_show (m := (memOf w0 Z0 [] [] [(fDat (tyList tyStr) [v0_0] a0), uTabs])) (S := (tab [])) ?_
  refine aw_sr ?_
  refine al_as rfl rfl ?_
  refine al_nt ?_
  refine aw_ret ?_
  obtain rfl := Option.some.inj h
  exact fn_ret () [] [] rfl rfl rfl rfl (res1 rfl rfl) rfl rfl rfl (by decide)
 ·clear hkk2
  refine aw_sr ?_
  refine al_mv rfl rfl ?_
  refine al_val (ov_lenD 0 rfl rfl Tryd.underlying50 rfl) ?_
  refine al_mv rfl rfl ?_
  refine al_nt ?_
  refine aw_block ?_
  refine aw_state (aw_loop (ι := Int) (fun i => (memOf w0 Z0 [] [] [(fDat (tyList tyStr) [v0_0] a0), uTabs])) (fun i => (tab [(6, v0_0), (7, (iq (a0.length : Int))), (8, (iq i))])) (fun q i => f_names_checkAll_L5 a0 kk2 fu q i = some r) ?_ fu (0 : Int) h) (fun w a hm hs => norm hm hs [] [0, 1] [(6, v0_0), (7, (iq (a0.length : Int))), (8, (iq (0 : Int)))] (by decide) ⟨rfl, rfl, rfl, trivial⟩)
  clear h
  rintro k4 l3i8 h
  have h : f_names_checkAll_L5 a0 kk2 fu k4 l3i8 = some r := h
  obtain _ | k4 := k4
  · rw [f_names_checkAll_L5] at h; cases h
  rw [f_names_checkAll_L5] at h
  refine aw_show (m := (memOf w0 Z0 [] [] [(fDat (tyList tyStr) [v0_0] a0), uTabs])) (S := (tab [(6, v0_0), (7, (iq (a0.length : Int))), (8, (iq l3i8))])) ?_
  refine aw_sr ?_
  refine al_in rfl rfl rfl rfl ?_
  refine al_nt ?_
  refine aw_seq ?_
  refine aw_cond rfl (fun hb6 => ?_) (fun hb6 => ?_)
  ·replace h := bif_t hb6 h
   refine aw_skip ?_
   refine aq_then ?_
   refine aw_seq ?_
   refine aw_block ?_
   refine aw_sr ?_
   refine al_mv rfl rfl ?_
   obtain ⟨u7, hu8, h⟩ := opt_some h
   refine al_idxD 0 hu8 rfl rfl rfl Tryd.underlying50 sz9 rfl (fun p9 => ?_)
   refine al_val (ov_loadP (ds := [(str u7)]) 0 rfl (fun h => h) rfl Tryd.underlying9 sz9 rfl rfl rfl) ?_
   refine al_as rfl rfl ?_
   refine al_as rfl rfl ?_
   refine al_nt ?_
   refine aw_seq ?_
   refine aw_sr ?_
   refine al_mv rfl rfl ?_
   refine al_in rfl rfl rfl rfl ?_
   refine al_nt ?_
   refine aw_cond rfl (fun hb10 => ?_) (fun hb10 => ?_)
   ·replace h := bif_t hb10 h
    refine aw_sr ?_
    refine al_as rfl rfl ?_
    refine al_nt ?_
    refine aw_ret ?_
    refine aq_then_ret ?_
    refine aq_block_ret ?_
    refine aq_then_ret ?_
    refine aq_then_ret ?_
    refine aq_block_ret ?_
    refine aq_then_ret ?_
    obtain rfl := Option.some.inj h
    exact fn_ret () [] [] rfl rfl rfl rfl (res1 rfl rfl) rfl rfl rfl (by decide)
   ·replace h := bif_f hb10 h
    refine aw_skip ?_
    refine aq_tr ?_
    refine al_mv rfl rfl ?_
    obtain ⟨r12, hc11, h⟩ := opt_some h
    refine al_call (vs := [(str u7)]) (f_names_Check_ok fu u7 hc11) [] [] [] (pre_fz 2 rfl pre_nil) rfl (by simp) (by decide) (.inl rfl) rfl Tryd.func163 rfl rfl rfl (fun _ => ?_)
    refine al_as rfl rfl ?_
    refine al_nt ?_
    refine aw_sr ?_
    refine al_mv rfl rfl ?_
    refine al_in rfl rfl rfl rfl ?_
    refine al_nt ?_
    refine aw_cond rfl (fun hb13 => ?_) (fun hb13 => ?_)
    ·replace h := bif_t hb13 h
     refine aw_sr ?_
     refine al_mv rfl rfl ?_
     refine al_as rfl rfl ?_
     refine al_nt ?_
     refine aw_ret ?_
     refine aq_block_ret ?_
     refine aq_then_ret ?_
     refine aq_then_ret ?_
     refine aq_block_ret ?_
     refine aq_then_ret ?_
     obtain rfl := Option.some.inj h
     exact fn_ret () [] [] rfl rfl rfl rfl (res1 rfl rfl) rfl rfl rfl (by decide)
    ·replace h := bif_f hb13 h
     refine aw_skip ?_
     refine aq_block ?_
     refine aq_then ?_
     refine aw_region ?_
     refine al_in rfl rfl rfl rfl ?_
     refine al_mv rfl rfl ?_
     refine al_nil ?_
     exact aq_again k4 (wq (l3i8 + (1 : Int))) (Nat.lt_succ_self _) h (fun w a hm hs => norm hm hs [] [1, 2] [(6, v0_0), (7, (iq (a0.length : Int))), (8, (iq (wq (l3i8 + (1 : Int)))))] (by decide) ⟨rfl, rfl, rfl, trivial⟩)
  ·replace h := bif_f hb6 h
   refine aw_exit ?_
   refine aq_then_exit ?_
   refine aq_then_exit ?_
   refine aq_block_exit ?_
   exact aq_join () h (fun w a hm hs => norm hm hs [] [0, 1] [] (by decide) trivial)
def f_names_Split (fu : Nat) (a0 : (List UInt8)) : Option ((List (List UInt8)) × Int) := (opt (f_strings_CutPrefix fu a0 ([47] : List UInt8)) fun (r2 : ((List UInt8) × Bool)) => (bif (!r2.2) then (some (([] : List (List UInt8)), (8 : Int))) else (bif (r2.1 == ([] : List UInt8)) then (some (([] : List (List UInt8)), (0 : Int))) else (opt (f_strings_Split fu r2.1 ([47] : List UInt8)) fun (r6 : (List (List UInt8))) => (opt (f_names_checkAll fu r6) fun (r9 : Int) => (bif (r9 != (0 : Int)) then (some (([] : List (List UInt8)), r9)) else (some (r6, (0 : Int)))))))))
set_option maxHeartbeats 2000000 in
set_option maxRecDepth 100000 in
theorem f_names_Split_ok (fu : Nat) (a0 : (List UInt8)) {r : ((List (List UInt8)) × Int)} (h : f_names_Split fu a0 = some r) : FnOk Tryd.prog 65 [(str a0)] [uMax, uTabs] [] (fun (i : Value) => { val := (Value.tuple #[i, (int .i64 r.2)]), own := [(oRow i 9 tyStr r.1)] }) := by
 unfold f_names_Split at h
 refine fn_enter Tryd.func65 rfl Tryd.ntmps65 rfl (fun w0 Z0 => ?_)
 refine aw_sr ?_
 refine al_as rfl rfl ?_
 refine al_as rfl rfl ?_
 refine al_nt ?_
 refine aw_sr ?_
 refine al_mv rfl rfl ?_
 obtain ⟨r2, hc1, h⟩ := opt_some h
 refine al_call (vs := [(str a0), (str ([47] : List UInt8))]) (f_strings_CutPrefix_ok fu a0 ([47] : List UInt8) hc1) [] [] [] pre_nil rfl (by simp) (by decide) (.inl rfl) rfl Tryd.func113 rfl rfl rfl (fun _ => ?_)
 refine al_mv rfl rfl ?_
 refine al_ex rfl rfl rfl ?_
 refine al_ex rfl rfl rfl ?_
 refine al_as rfl rfl ?_
 refine al_as rfl rfl ?_
 refine al_nt ?_
 refine aw_seq ?_
 refine aw_sr ?_
 refine al_mv rfl rfl ?_
 refine al_val (ov_not rfl rfl) ?_
 refine al_nt ?_
 refine aw_cond rfl (fun hb3 => ?_) (fun hb3 => ?_)
 ·replace h := bif_t hb3 h
  refine aw_sr ?_
  refine al_as rfl rfl ?_
  refine al_as rfl rfl ?_
  refine al_nt ?_
  refine aw_ret ?_
  refine aq_then_ret ?_
  refine aq_nilR 9 tyStr ?_
  obtain rfl := Option.some.inj h
  exact fn_ret nS [0] [] rfl rfl rfl rfl (res2 rfl rfl rfl) rfl rfl rfl (by decide)
 ·replace h := bif_f hb3 h
  refine aw_skip ?_
  refine aq_then ?_
  refine aw_seq ?_
  refine aw_sr ?_
  refine al_mv rfl rfl ?_
  refine al_val (ov_strCmp rfl rfl rfl rfl) ?_
  refine al_nt ?_
  refine aw_cond rfl (fun hb4 => ?_) (fun hb4 => ?_)
  ·replace h := bif_t hb4 h
   refine aw_sr ?_
   refine al_as rfl rfl ?_
   refine al_as rfl rfl ?_
   refine al_nt ?_
   refine aw_ret ?_
   refine aq_then_ret ?_
   refine aq_nilR 9 tyStr ?_
   obtain rfl := Option.some.inj h
   exact fn_ret nS [0] [] rfl rfl rfl rfl (res2 rfl rfl rfl) rfl rfl rfl (by decide)
  ·replace h := bif_f hb4 h
   refine aw_skip ?_
   refine aq_tr ?_
   refine al_mv rfl rfl ?_
   obtain ⟨r6, hc5, h⟩ := opt_some h
   refine al_call (vs := [(str r2.1), (str ([47] : List UInt8))]) (f_strings_Split_ok fu r2.1 ([47] : List UInt8) hc5) [] [] [] (pre_fz 0 rfl pre_nil) rfl (by simp) (by decide) (.inl rfl) rfl Tryd.func114 rfl rfl rfl (fun v7 => ?_)
   refine al_as rfl rfl ?_
   refine al_nt ?_
   refine aw_seq ?_
   refine aw_sr ?_
   refine al_mv rfl rfl ?_
   obtain ⟨r9, hc8, h⟩ := opt_some h
   refine al_call (vs := [v7]) (f_names_checkAll_ok fu v7 r6 hc8) [0] [] [0] (pre_own 0 rfl rfl (pre_fz 1 rfl pre_nil)) rfl (by simp) (by decide) (.inr flat_res0) rfl Tryd.func115 rfl rfl rfl (fun _ => ?_)
   refine al_as rfl rfl ?_
   refine al_nt ?_
   refine aw_sr ?_
   refine al_mv rfl rfl ?_
   refine al_in rfl rfl rfl rfl ?_
   refine al_nt ?_
   refine aw_cond rfl (fun hb10 => ?_) (fun hb10 => ?_)
   ·replace h := bif_t hb10 h
    refine aw_sr ?_
    refine al_mv rfl rfl ?_
    refine al_as rfl rfl ?_
    refine al_as rfl rfl ?_
    refine al_nt ?_
    refine aw_ret ?_
    refine aq_then_ret ?_
    refine aq_nilR 9 tyStr ?_
    obtain rfl := Option.some.inj h
    exact fn_ret nS [0] [] rfl rfl rfl rfl (res2 rfl rfl rfl) rfl rfl rfl (by decide)
   ·replace h := bif_f hb10 h
    refine aw_skip ?_
    refine aq_tr ?_
    refine al_mv rfl rfl ?_
    refine al_as rfl rfl ?_
    refine al_as rfl rfl ?_
    refine al_nt ?_
    refine aw_ret ?_
    obtain rfl := Option.some.inj h
    exact fn_ret v7 [0] [] rfl rfl rfl rfl (res2 rfl rfl rfl) rfl rfl rfl (by decide)
def f_tree_Known (fu : Nat) (a0 : Int) : Option Bool := (lt (fun (j1b2 : Bool) => (some j1b2)) fun (kk2 : Bool → Option Bool) => (bif (decide (a0 ≥ (1 : Int))) then (kk2 (decide (a0 ≤ (3 : Int)))) else (kk2 false)))
set_option maxHeartbeats 2000000 in
set_option maxRecDepth 100000 in
theorem f_tree_Known_ok (fu : Nat) (a0 : Int) {r : Bool} (h : f_tree_Known fu a0 = some r) : FnOk Tryd.prog 157 [(int .i64 a0)] [] [] (fun (i : Unit) => { val := (bool r) }) := by
 unfold f_tree_Known at h
 refine fn_enter Tryd.func157 rfl Tryd.ntmps157 rfl (fun w0 Z0 => ?_)
 refine aw_sr ?_
 refine al_as rfl rfl ?_
 refine al_nt ?_
 obtain ⟨kk2, hkk2, h⟩ := lt_some h
 refine aw_seq_join (ι := Bool) (fun i => (memOf w0 Z0 [] [] [])) (fun i => (tab [(2, (bool i))])) (fun i => kk2 i = some r) ?_ ?_
 ·rintro j1b2 h
  have h : kk2 j1b2 = some r := h
  rw [hkk2] at h
  dsimp only at h
  clear hkk2
  refine aw_show (m := (memOf w0 Z0 [] [] [])) (S := (tab [(2, (bool j1b2))])) ?_
  refine aw_ret ?_
  obtain rfl := Option.some.inj h
  exact fn_ret () [] [] rfl rfl rfl rfl (res1 rfl rfl) rfl rfl rfl (by decide)
 ·clear hkk2
  refine aw_region ?_
  refine al_mv rfl rfl ?_
  refine al_in rfl rfl rfl rfl ?_
  refine al_mv rfl rfl ?_
  refine al_caseB 5 rfl (fun hb3 => ?_) (fun hb3 => ?_)
  ·replace h := bif_t hb3 h
   refine al_mv rfl rfl ?_
   refine al_in rfl rfl rfl rfl ?_
   refine al_val (ov_pick_t rfl rfl rfl) ?_
   refine al_as rfl rfl ?_
   refine al_nil ?_
   exact aq_join (decide (a0 ≤ (3 : Int))) h (fun w a hm hs => norm hm hs [] [] [(2, (bool (decide (a0 ≤ (3 : Int)))))] (by decide) ⟨rfl, trivial⟩)
  ·replace h := bif_f hb3 h
   refine al_skip ?_
   refine al_skip ?_
   refine al_val (ov_pick_f rfl rfl rfl) ?_
   refine al_as rfl rfl ?_
   refine al_nil ?_
   exact aq_join false h (fun w a hm hs => norm hm hs [] [] [(2, (bool false))] (by decide) ⟨rfl, trivial⟩)
def f_walk_item (fu : Nat) (a0 : S_api_Item) : Option Int := (opt (f_names_Split fu a0.Path) fun (r3 : ((List (List UInt8)) × Int)) => (bif (r3.2 != (0 : Int)) then (some r3.2) else (bif ((r3.1.length : Int) == (0 : Int)) then (some (8 : Int)) else (opt (f_tree_Known fu a0.Kind) fun (r8 : Bool) => (bif (!r8) then (some (5 : Int)) else (lt (fun (j10b24 : Bool) => (bif j10b24 then (some (1 : Int)) else (lt (fun (j13b33 : Bool) => (bif j13b33 then (some (2 : Int)) else (lt (fun (j16b60 : Bool) => (bif j16b60 then (some (4 : Int)) else (some (0 : Int)))) fun (kk17 : Bool → Option Int) => (bif (a0.Kind == (3 : Int)) then (kk17 (a0.Bytes == ([] : List UInt8))) else (kk17 false))))) fun (kk14 : Bool → Option Int) => (lt (fun (j20b33 : Bool) => (bif j20b33 then (kk14 j20b33) else (lt (fun (j23b33 : Bool) => (bif j23b33 then (kk14 j23b33) else (bif (a0.Kind == (3 : Int)) then (kk14 (decide ((a0.Bytes.length : Int) > (1024 : Int)))) else (kk14 false)))) fun (kk24 : Bool → Option Int) => (bif (a0.Kind == (2 : Int)) then (kk24 (!(a0.Bytes == ([] : List UInt8)))) else (kk24 false))))) fun (kk21 : Bool → Option Int) => (bif (a0.Kind == (1 : Int)) then (kk21 (decide ((a0.Bytes.length : Int) > (4096 : Int)))) else (kk21 false)))))) fun (kk11 : Bool → Option Int) => (bif (decide (a0.Mode < (0 : Int))) then (kk11 true) else (kk11 (decide (a0.Mode > (511 : Int)))))))))))
set_option maxRecDepth 100000 in
set_option maxHeartbeats 2000000 in
set_option maxHeartbeats 2000000 in
theorem f_walk_item_ok (fu : Nat) (a0 : S_api_Item) {r : Int} (h : f_walk_item fu a0 = some r) : FnOk Tryd.prog 108 [(ag [(str a0.Path), (int .i64 a0.Kind), (int .i64 a0.Mode), (int .i64 a0.Time), (str a0.Bytes)])] [uMax, uTabs] [] (fun (i : Unit) => { val := (int .i64 r) }) := by
 unfold f_walk_item at h
 refine fn_enter Tryd.func108 rfl Tryd.ntmps108 rfl (fun w0 Z0 => ?_)
 refine aw_sr ?_
 refine al_box (vs := [(str a0.Path), (iq a0.Kind), (iq a0.Mode), (iq a0.Time), (str a0.Bytes)]) rfl (cv_rfl rfl) rfl (fun g1 => ?_)
 refine al_as rfl rfl ?_
 refine al_nt ?_
 refine aw_sr ?_
 refine al_val (ov_fieldA (p := 0) rfl Tryd.underlying41 rfl sz9 rfl rfl rfl) ?_
 refine al_val (ov_load (i := 0) (v := (str a0.Path)) rfl rfl Tryd.underlying9 sz9 rfl rfl rfl rfl) ?_
 obtain ⟨r3, hc2, h⟩ := opt_some h
 refine al_call (vs := [(str a0.Path)]) (f_names_Split_ok fu a0.Path hc2) [] [] [0] (pre_fz 0 rfl (pre_fz 1 rfl pre_nil)) rfl (by simp) (by decide) (.inl rfl) rfl Tryd.func65 rfl rfl rfl (fun v4 => ?_)
 refine al_mv rfl rfl ?_
 refine al_ex rfl rfl rfl ?_
 refine al_ex rfl rfl rfl ?_
 refine al_as rfl rfl ?_
 refine al_as rfl rfl ?_
 refine al_nt ?_
 refine aw_seq ?_
 refine aw_block ?_
 refine aw_sr ?_
 refine al_mv rfl rfl ?_
 refine al_in rfl rfl rfl rfl ?_
 refine al_as rfl rfl ?_
 refine al_nt ?_
 refine aw_cond rfl (fun hb5 => ?_) (fun hb5 => ?_)
 ·replace h := bif_t hb5 h
  refine aw_sr ?_
  refine al_mv rfl rfl ?_
  refine al_as rfl rfl ?_
  refine al_nt ?_
  refine aw_ret ?_
  refine aq_block_ret ?_
  refine aq_then_ret ?_
  obtain rfl := Option.some.inj h
  exact fn_ret () [] [] rfl rfl rfl rfl (res1 rfl rfl) rfl rfl rfl (by decide)
 ·replace h := bif_f hb5 h
  refine aw_sr ?_
  refine al_mv rfl rfl ?_
  refine al_val (ov_lenR 0 rfl rfl Tryd.underlying50 rfl) ?_
  refine al_in rfl rfl rfl rfl ?_
  refine al_as rfl rfl ?_
  refine al_nt ?_
  refine aw_cond rfl (fun hb6 => ?_) (fun hb6 => ?_)
  ·replace h := bif_t hb6 h
   refine aw_sr ?_
   refine al_as rfl rfl ?_
   refine al_nt ?_
   refine aw_ret ?_
   refine aq_block_ret ?_
   refine aq_then_ret ?_
   obtain rfl := Option.some.inj h
   exact fn_ret () [] [] rfl rfl rfl rfl (res1 rfl rfl) rfl rfl rfl (by decide)
  ·replace h := bif_f hb6 h
   refine aw_sr ?_
   refine al_val (ov_fieldA (p := 1) rfl Tryd.underlying41 rfl sz3 rfl rfl rfl) ?_
   refine al_val (ov_load (i := 1) (v := (iq a0.Kind)) rfl rfl Tryd.underlying3 sz3 rfl rfl rfl rfl) ?_
   obtain ⟨r8, hc7, h⟩ := opt_some h
   refine al_call (vs := [(iq a0.Kind)]) (f_tree_Known_ok fu a0.Kind hc7) [] [] [0, 1] pre_nil rfl (by simp) (by decide) (.inl rfl) rfl Tryd.func157 rfl rfl rfl (fun _ => ?_)
   refine al_val (ov_not rfl rfl) ?_
   refine al_as rfl rfl ?_
   refine al_nt ?_
   refine aw_cond rfl (fun hb9 => ?_) (fun hb9 => ?_)
   ·replace h := bif_t hb9 h
    refine aw_sr ?_
    refine al_as rfl rfl ?_
    refine al_nt ?_
    refine aw_ret ?_
    refine aq_block_ret ?_
    refine aq_then_ret ?_
    obtain rfl := Option.some.inj h
    exact fn_ret () [] [] rfl rfl rfl rfl (res1 rfl rfl) rfl rfl rfl (by decide)
   ·replace h := bif_f hb9 h
    obtain ⟨kk11, hkk11, h⟩ := lt_some h
    refine aw_seq_join (ι := Bool) (fun i => (memOf w0 Z0 [] [(oBox g1 41 [(str a0.Path), (iq a0.Kind), (iq a0.Mode), (iq a0.Time), (str a0.Bytes)])] [uMax, uTabs])) (fun i => (tab [(1, (pq g1)), (24, (bool i))])) (fun i => kk11 i = some r) ?_ ?_
    ·rintro j10b24 h
     have h : kk11 j10b24 = some r := h
     rw [hkk11] at h
     dsimp only at h
     clear hkk11
     refine aw_show (m := (memOf w0 Z0 [] [(oBox g1 41 [(str a0.Path), (iq a0.Kind), (iq a0.Mode), (iq a0.Time), (str a0.Bytes)])] [uMax, uTabs])) (S := (tab [(1, (pq g1)), (24, (bool j10b24))])) ?_
     refine aw_cond rfl (fun hb12 => ?_) (fun hb12 => ?_)
     ·replace h := bif_t hb12 h
      refine aw_sr ?_
      refine al_as rfl rfl ?_
      refine al_nt ?_
      refine aw_ret ?_
      refine aq_block_ret ?_
      refine aq_then_ret ?_
      obtain rfl := Option.some.inj h
      exact fn_ret () [] [] rfl rfl rfl rfl (res1 rfl rfl) rfl rfl rfl (by decide)
     ·replace h := bif_f hb12 h
      obtain ⟨kk14, hkk14, h⟩ := lt_some h
      refine aw_seq_join (ι := Bool) (fun i => (memOf w0 Z0 [] [(oBox g1 41 [(str a0.Path), (iq a0.Kind), (iq a0.Mode), (iq a0.Time), (str a0.Bytes)])] [uMax, uTabs])) (fun i => (tab [(1, (pq g1)), (33, (bool i))])) (fun i => kk14 i = some r) ?_ ?_
      ·rintro j13b33 h
       have h : kk14 j13b33 = some r := h
       rw [hkk14] at h
       dsimp only at h
       clear hkk14
       refine aw_show (m := (memOf w0 Z0 [] [(oBox g1 41 [(str a0.Path), (iq a0.Kind), (iq a0.Mode), (iq a0.Time), (str a0.Bytes)])] [uMax, uTabs])) (S := (tab [(1, (pq g1)), (33, (bool j13b33))])) ?_
       refine aw_cond rfl (fun hb15 => ?_) (fun hb15 => ?_)
       ·replace h := bif_t hb15 h
        refine aw_sr ?_
        refine al_as rfl rfl ?_
        refine al_nt ?_
        refine aw_ret ?_
        refine aq_block_ret ?_
        refine aq_then_ret ?_
        obtain rfl := Option.some.inj h
        exact fn_ret () [] [] rfl rfl rfl rfl (res1 rfl rfl) rfl rfl rfl (by decide)
       ·replace h := bif_f hb15 h
        obtain ⟨kk17, hkk17, h⟩ := lt_some h
        refine aw_seq_join (ι := Bool) (fun i => (memOf w0 Z0 [] [] [uMax, uTabs])) (fun i => (tab [(60, (bool i))])) (fun i => kk17 i = some r) ?_ ?_
        ·rintro j16b60 h
         have h : kk17 j16b60 = some r := h
         rw [hkk17] at h
         dsimp only at h
         clear hkk17
         refine aw_show (m := (memOf w0 Z0 [] [] [uMax, uTabs])) (S := (tab [(60, (bool j16b60))])) ?_
         refine aw_cond rfl (fun hb18 => ?_) (fun hb18 => ?_)
         ·replace h := bif_t hb18 h
          refine aw_sr ?_
          refine al_as rfl rfl ?_
          refine al_nt ?_
          refine aw_ret ?_
          refine aq_block_ret ?_
          refine aq_then_ret ?_
          obtain rfl := Option.some.inj h
          exact fn_ret () [] [] rfl rfl rfl rfl (res1 rfl rfl) rfl rfl rfl (by decide)
         ·replace h := bif_f hb18 h
          refine aw_skip ?_
          refine aq_block ?_
          refine aq_tr ?_
          refine al_as rfl rfl ?_
          refine al_nt ?_
          refine aw_ret ?_
          obtain rfl := Option.some.inj h
          exact fn_ret () [] [] rfl rfl rfl rfl (res1 rfl rfl) rfl rfl rfl (by decide)
        ·clear hkk17
         refine aw_region ?_
         refine al_val (ov_fieldA (p := 1) rfl Tryd.underlying41 rfl sz3 rfl rfl rfl) ?_
         refine al_val (ov_load (i := 0) (v := (iq a0.Kind)) rfl rfl Tryd.underlying3 sz3 rfl rfl rfl rfl) ?_
         refine al_in rfl rfl rfl rfl ?_
         refine al_mv rfl rfl ?_
         refine al_caseB 64 rfl (fun hb19 => ?_) (fun hb19 => ?_)
         ·replace h := bif_t hb19 h
          refine al_val (ov_fieldA (p := 4) rfl Tryd.underlying41 rfl sz9 rfl rfl rfl) ?_
          refine al_val (ov_load (i := 0) (v := (str a0.Bytes)) rfl rfl Tryd.underlying9 sz9 rfl rfl rfl rfl) ?_
          refine al_val (ov_strCmp rfl rfl rfl rfl) ?_
          refine al_val (ov_pick_t rfl rfl rfl) ?_
          refine al_as rfl rfl ?_
          refine al_nil ?_
          exact aq_join (a0.Bytes == ([] : List UInt8)) h (fun w a hm hs => norm hm hs [] [0, 1] [(60, (bool (a0.Bytes == ([] : List UInt8))))] (by decide) ⟨rfl, trivial⟩)
         ·replace h := bif_f hb19 h
          refine al_skip ?_
          refine al_skip ?_
          refine al_skip ?_
          refine al_val (ov_pick_f rfl rfl rfl) ?_
          refine al_as rfl rfl ?_
          refine al_nil ?_
          exact aq_join false h (fun w a hm hs => norm hm hs [] [0, 1] [(60, (bool false))] (by decide) ⟨rfl, trivial⟩)
      ·clear hkk14
       obtain ⟨kk21, hkk21, h⟩ := lt_some h
       refine aw_seq_join (ι := Bool) (fun i => (memOf w0 Z0 [] [(oBox g1 41 [(str a0.Path), (iq a0.Kind), (iq a0.Mode), (iq a0.Time), (str a0.Bytes)])] [uMax, uTabs])) (fun i => (tab [(1, (pq g1)), (33, (bool i))])) (fun i => kk21 i = some r) ?_ ?_
       ·rintro j20b33 h
        have h : kk21 j20b33 = some r := h
        rw [hkk21] at h
        dsimp only at h
        clear hkk21
        refine aw_show (m := (memOf w0 Z0 [] [(oBox g1 41 [(str a0.Path), (iq a0.Kind), (iq a0.Mode), (iq a0.Time), (str a0.Bytes)])] [uMax, uTabs])) (S := (tab [(1, (pq g1)), (33, (bool j20b33))])) ?_
        refine aw_cond rfl (fun hb22 => ?_) (fun hb22 => ?_)
        ·replace h := bif_t hb22 h
         refine aw_skip ?_
         exact aq_join j20b33 h (fun w a hm hs => norm hm hs [0] [0, 1] [(1, (pq g1)), (33, (bool j20b33))] (by decide) ⟨rfl, rfl, trivial⟩)
        ·replace h := bif_f hb22 h
         obtain ⟨kk24, hkk24, h⟩ := lt_some h
         refine aw_seq_join (ι := Bool) (fun i => (memOf w0 Z0 [] [(oBox g1 41 [(str a0.Path), (iq a0.Kind), (iq a0.Mode), (iq a0.Time), (str a0.Bytes)])] [uMax, uTabs])) (fun i => (tab [(1, (pq g1)), (33, (bool i))])) (fun i => kk24 i = some r) ?_ ?_
         ·rintro j23b33 h
          have h : kk24 j23b33 = some r := h
          rw [hkk24] at h
          dsimp only at h
          clear hkk24
          refine aw_show (m := (memOf w0 Z0 [] [(oBox g1 41 [(str a0.Path), (iq a0.Kind), (iq a0.Mode), (iq a0.Time), (str a0.Bytes)])] [uMax, uTabs])) (S := (tab [(1, (pq g1)), (33, (bool j23b33))])) ?_
          refine aw_cond rfl (fun hb25 => ?_) (fun hb25 => ?_)
          ·replace h := bif_t hb25 h
           refine aw_skip ?_
           exact aq_join j23b33 h (fun w a hm hs => norm hm hs [0] [0, 1] [(1, (pq g1)), (33, (bool j23b33))] (by decide) ⟨rfl, rfl, trivial⟩)
          ·replace h := bif_f hb25 h
           refine aw_region ?_
           refine al_val (ov_fieldA (p := 1) rfl Tryd.underlying41 rfl sz3 rfl rfl rfl) ?_
           refine al_val (ov_load (i := 0) (v := (iq a0.Kind)) rfl rfl Tryd.underlying3 sz3 rfl rfl rfl rfl) ?_
           refine al_in rfl rfl rfl rfl ?_
           refine al_mv rfl rfl ?_
           refine al_caseB 54 rfl (fun hb26 => ?_) (fun hb26 => ?_)
           ·replace h := bif_t hb26 h
            refine al_val (ov_fieldA (p := 4) rfl Tryd.underlying41 rfl sz9 rfl rfl rfl) ?_
            refine al_val (ov_load (i := 0) (v := (str a0.Bytes)) rfl rfl Tryd.underlying9 sz9 rfl rfl rfl rfl) ?_
            refine al_val (ov_strLen Tryd.underlying9 rfl rfl) ?_
            refine al_in rfl rfl rfl rfl ?_
            refine al_val (ov_pick_t rfl rfl rfl) ?_
            refine al_as rfl rfl ?_
            refine al_nil ?_
            exact aq_join (decide ((a0.Bytes.length : Int) > (1024 : Int))) h (fun w a hm hs => norm hm hs [0] [0, 1] [(1, (pq g1)), (33, (bool (decide ((a0.Bytes.length : Int) > (1024 : Int)))))] (by decide) ⟨rfl, rfl, trivial⟩)
           ·replace h := bif_f hb26 h
            refine al_skip ?_
            refine al_skip ?_
            refine al_skip ?_
            refine al_skip ?_
            refine al_val (ov_pick_f rfl rfl rfl) ?_
            refine al_as rfl rfl ?_
            refine al_nil ?_
            exact aq_join false h (fun w a hm hs => norm hm hs [0] [0, 1] [(1, (pq g1)), (33, (bool false))] (by decide) ⟨rfl, rfl, trivial⟩)
         ·clear hkk24
          refine aw_region ?_
          refine al_val (ov_fieldA (p := 1) rfl Tryd.underlying41 rfl sz3 rfl rfl rfl) ?_
          refine al_val (ov_load (i := 0) (v := (iq a0.Kind)) rfl rfl Tryd.underlying3 sz3 rfl rfl rfl rfl) ?_
          refine al_in rfl rfl rfl rfl ?_
          refine al_mv rfl rfl ?_
          refine al_caseB 46 rfl (fun hb27 => ?_) (fun hb27 => ?_)
          ·replace h := bif_t hb27 h
           refine al_val (ov_fieldA (p := 4) rfl Tryd.underlying41 rfl sz9 rfl rfl rfl) ?_
           refine al_val (ov_load (i := 0) (v := (str a0.Bytes)) rfl rfl Tryd.underlying9 sz9 rfl rfl rfl rfl) ?_
           refine al_val (ov_strCmp rfl rfl rfl rfl) ?_
           refine al_val (ov_pick_t rfl rfl rfl) ?_
           refine al_as rfl rfl ?_
           refine al_nil ?_
           exact aq_join (!(a0.Bytes == ([] : List UInt8))) h (fun w a hm hs => norm hm hs [0] [0, 1] [(1, (pq g1)), (33, (bool (!(a0.Bytes == ([] : List UInt8)))))] (by decide) ⟨rfl, rfl, trivial⟩)
          ·replace h := bif_f hb27 h
           refine al_skip ?_
           refine al_skip ?_
           refine al_skip ?_
           refine al_val (ov_pick_f rfl rfl rfl) ?_
           refine al_as rfl rfl ?_
           refine al_nil ?_
           exact aq_join false h (fun w a hm hs => norm hm hs [0] [0, 1] [(1, (pq g1)), (33, (bool false))] (by decide) ⟨rfl, rfl, trivial⟩)
       ·clear hkk21
        refine aw_region ?_
        refine al_val (ov_fieldA (p := 1) rfl Tryd.underlying41 rfl sz3 rfl rfl rfl) ?_
        refine al_val (ov_load (i := 0) (v := (iq a0.Kind)) rfl rfl Tryd.underlying3 sz3 rfl rfl rfl rfl) ?_
        refine al_in rfl rfl rfl rfl ?_
        refine al_mv rfl rfl ?_
        refine al_caseB 37 rfl (fun hb28 => ?_) (fun hb28 => ?_)
        ·replace h := bif_t hb28 h
         refine al_val (ov_fieldA (p := 4) rfl Tryd.underlying41 rfl sz9 rfl rfl rfl) ?_
         refine al_val (ov_load (i := 0) (v := (str a0.Bytes)) rfl rfl Tryd.underlying9 sz9 rfl rfl rfl rfl) ?_
         refine al_val (ov_strLen Tryd.underlying9 rfl rfl) ?_
         refine al_in rfl rfl rfl rfl ?_
         refine al_val (ov_pick_t rfl rfl rfl) ?_
         refine al_as rfl rfl ?_
         refine al_nil ?_
         exact aq_join (decide ((a0.Bytes.length : Int) > (4096 : Int))) h (fun w a hm hs => norm hm hs [0] [0, 1] [(1, (pq g1)), (33, (bool (decide ((a0.Bytes.length : Int) > (4096 : Int)))))] (by decide) ⟨rfl, rfl, trivial⟩)
        ·replace h := bif_f hb28 h
         refine al_skip ?_
         refine al_skip ?_
         refine al_skip ?_
         refine al_skip ?_
         refine al_val (ov_pick_f rfl rfl rfl) ?_
         refine al_as rfl rfl ?_
         refine al_nil ?_
         exact aq_join false h (fun w a hm hs => norm hm hs [0] [0, 1] [(1, (pq g1)), (33, (bool false))] (by decide) ⟨rfl, rfl, trivial⟩)
    ·clear hkk11
     refine aw_region ?_
     refine al_val (ov_fieldA (p := 2) rfl Tryd.underlying41 rfl sz3 rfl rfl rfl) ?_
     refine al_val (ov_load (i := 1) (v := (iq a0.Mode)) rfl rfl Tryd.underlying3 sz3 rfl rfl rfl rfl) ?_
     refine al_in rfl rfl rfl rfl ?_
     refine al_mv rfl rfl ?_
     refine al_caseB 28 rfl (fun hb29 => ?_) (fun hb29 => ?_)
     ·replace h := bif_t hb29 h
      refine al_skip ?_
      refine al_skip ?_
      refine al_skip ?_
      refine al_val (ov_pick_t rfl rfl rfl) ?_
      refine al_as rfl rfl ?_
      refine al_nil ?_
      exact aq_join true h (fun w a hm hs => norm hm hs [1] [0, 1] [(1, (pq g1)), (24, (bool true))] (by decide) ⟨rfl, rfl, trivial⟩)
     ·replace h := bif_f hb29 h
      refine al_val (ov_fieldA (p := 2) rfl Tryd.underlying41 rfl sz3 rfl rfl rfl) ?_
      refine al_val (ov_load (i := 1) (v := (iq a0.Mode)) rfl rfl Tryd.underlying3 sz3 rfl rfl rfl rfl) ?_
      refine al_in rfl rfl rfl rfl ?_
      refine al_val (ov_pick_f rfl rfl rfl) ?_
      refine al_as rfl rfl ?_
      refine al_nil ?_
      exact aq_join (decide (a0.Mode > (511 : Int))) h (fun w a hm hs => norm hm hs [1] [0, 1] [(1, (pq g1)), (24, (bool (decide (a0.Mode > (511 : Int)))))] (by decide) ⟨rfl, rfl, trivial⟩)
def f_cmp_isNaN_string_ (fu : Nat) (a0 : (List UInt8)) : Option Bool := (some (!(a0 == a0)))
set_option maxRecDepth 100000 in
theorem f_cmp_isNaN_string__ok (fu : Nat) (a0 : (List UInt8)) {r : Bool} (h : f_cmp_isNaN_string_ fu a0 = some r) : FnOk Tryd.prog 195 [(str a0)] [] [] (fun (i : Unit) => { val := (bool r) }) := by
 unfold f_cmp_isNaN_string_ at h
 refine fn_enter Tryd.func195 rfl Tryd.ntmps195 rfl (fun w0 Z0 => ?_)
 refine aw_sr ?_
 refine al_as rfl rfl ?_
 refine al_nt ?_
 refine aw_sr ?_
 refine al_mv rfl rfl ?_
 refine al_mv rfl rfl ?_
 refine al_val (ov_strCmp rfl rfl rfl rfl) ?_
 refine al_as rfl rfl ?_
 refine al_nt ?_
 refine aw_ret ?_
 obtain rfl := Option.some.inj h
 exact fn_ret () [] [] rfl rfl rfl rfl (res1 rfl rfl) rfl rfl rfl (by decide)
def f_cmp_Compare_string_ (fu : Nat) (a0 : (List UInt8)) (a1 : (List UInt8)) : Option Int := (opt (f_cmp_isNaN_string_ fu a0) fun (r2 : Bool) => (opt (f_cmp_isNaN_string_ fu a1) fun (r4 : Bool) => (bif r2 then (bif r4 then (some (0 : Int)) else (some (-1 : Int))) else (bif r4 then (some (1 : Int)) else (bif (Op.bytesLess a0 a1) then (some (-1 : Int)) else (bif (!(Op.bytesLess a0 a1 || a0 == a1)) then (some (1 : Int)) else (some (0 : Int))))))))
set_option maxHeartbeats 2000000 in
set_option maxRecDepth 100000 in
theorem f_cmp_Compare_string__ok (fu : Nat) (a0 : (List UInt8)) (a1 : (List UInt8)) {r : Int} (h : f_cmp_Compare_string_ fu a0 a1 = some r) : FnOk Tryd.prog 164 [(str a0), (str a1)] [] [] (fun (i : Unit) => { val := (int .i64 r) }) := by
 unfold f_cmp_Compare_string_ at h
 refine fn_enter Tryd.func164 rfl Tryd.ntmps164 rfl (fun w0 Z0 => ?_)
 refine aw_sr ?_
 refine al_as rfl rfl ?_
 refine al_nt ?_
 refine aw_sr ?_
 refine al_mv rfl rfl ?_
 obtain ⟨r2, hc1, h⟩ := opt_some h
 refine al_call (vs := [(str a0)]) (f_cmp_isNaN_string__ok fu a0 hc1) [] [] [] pre_nil rfl (by simp) (by decide) (.inl rfl) rfl Tryd.func195 rfl rfl rfl (fun _ => ?_)
 refine al_as rfl rfl ?_
 refine al_nt ?_
 refine aw_sr ?_
 refine al_mv rfl rfl ?_
 obtain ⟨r4, hc3, h⟩ := opt_some h
 refine al_call (vs := [(str a1)]) (f_cmp_isNaN_string__ok fu a1 hc3) [] [] [] pre_nil rfl (by simp) (by decide) (.inl rfl) rfl Tryd.func195 rfl rfl rfl (fun _ => ?_)
 refine al_as rfl rfl ?_
 refine al_nt ?_
 refine aw_seq ?_
 refine aw_sr ?_
 refine al_mv rfl rfl ?_
 refine al_nt ?_
 refine aw_cond rfl (fun hb5 => ?_) (fun hb5 => ?_)
 ·replace h := bif_t hb5 h
  refine aw_seq ?_
  refine aw_sr ?_
  refine al_mv rfl rfl ?_
  refine al_nt ?_
  refine aw_cond rfl (fun hb6 => ?_) (fun hb6 => ?_)
  ·replace h := bif_t hb6 h
   refine aw_sr ?_
   refine al_as rfl rfl ?_
   refine al_nt ?_
   refine aw_ret ?_
   refine aq_then_ret ?_
   refine aq_then_ret ?_
   obtain rfl := Option.some.inj h
   exact fn_ret () [] [] rfl rfl rfl rfl (res1 rfl rfl) rfl rfl rfl (by decide)
  ·replace h := bif_f hb6 h
   refine aw_skip ?_
   refine aq_tr ?_
   refine al_as rfl rfl ?_
   refine al_nt ?_
   refine aw_ret ?_
   refine aq_then_ret ?_
   obtain rfl := Option.some.inj h
   exact fn_ret () [] [] rfl rfl rfl rfl (res1 rfl rfl) rfl rfl rfl (by decide)
 ·replace h := bif_f hb5 h
  refine aw_skip ?_
  refine aq_then ?_
  refine aw_seq ?_
  refine aw_sr ?_
  refine al_mv rfl rfl ?_
  refine al_nt ?_
  refine aw_cond rfl (fun hb7 => ?_) (fun hb7 => ?_)
  ·replace h := bif_t hb7 h
   refine aw_sr ?_
   refine al_as rfl rfl ?_
   refine al_nt ?_
   refine aw_ret ?_
   refine aq_then_ret ?_
   obtain rfl := Option.some.inj h
   exact fn_ret () [] [] rfl rfl rfl rfl (res1 rfl rfl) rfl rfl rfl (by decide)
  ·replace h := bif_f hb7 h
   refine aw_skip ?_
   refine aq_then ?_
   refine aw_seq ?_
   refine aw_sr ?_
   refine al_mv rfl rfl ?_
   refine al_mv rfl rfl ?_
   refine al_val (ov_strCmp rfl rfl rfl rfl) ?_
   refine al_nt ?_
   refine aw_cond rfl (fun hb8 => ?_) (fun hb8 => ?_)
   ·replace h := bif_t hb8 h
    refine aw_sr ?_
    refine al_as rfl rfl ?_
    refine al_nt ?_
    refine aw_ret ?_
    refine aq_then_ret ?_
    obtain rfl := Option.some.inj h
    exact fn_ret () [] [] rfl rfl rfl rfl (res1 rfl rfl) rfl rfl rfl (by decide)
   ·replace h := bif_f hb8 h
    refine aw_skip ?_
    refine aq_then ?_
    refine aw_seq ?_
    refine aw_sr ?_
    refine al_mv rfl rfl ?_
    refine al_mv rfl rfl ?_
    refine al_val (ov_strCmp rfl rfl rfl rfl) ?_
    refine al_nt ?_
    refine aw_cond rfl (fun hb9 => ?_) (fun hb9 => ?_)
    ·replace h := bif_t hb9 h
     refine aw_sr ?_
     refine al_as rfl rfl ?_
     refine al_nt ?_
     refine aw_ret ?_
     refine aq_then_ret ?_
     obtain rfl := Option.some.inj h
     exact fn_ret () [] [] rfl rfl rfl rfl (res1 rfl rfl) rfl rfl rfl (by decide)
    ·replace h := bif_f hb9 h
     refine aw_skip ?_
     refine aq_tr ?_
     refine al_as rfl rfl ?_
     refine al_nt ?_
     refine aw_ret ?_
     obtain rfl := Option.some.inj h
     exact fn_ret () [] [] rfl rfl rfl rfl (res1 rfl rfl) rfl rfl rfl (by decide)
def f_slices_Compare___string_string__L6 (a0 : (List (List UInt8))) (a1 : (List (List UInt8))) (kk2 : (Unit → Option Int)) (fu : Nat) : Nat → Int → Option Int
  | 0, _ => none
  | k5 + 1, l4i11 => (bif (decide (l4i11 < (a0.length : Int))) then (opt (at? a0 l4i11) fun (u8 : (List UInt8)) => (bif (decide (l4i11 ≥ (a1.length : Int))) then (some (1 : Int)) else (opt (at? a1 l4i11) fun (u12 : (List UInt8)) => (opt (f_cmp_Compare_string_ fu u8 u12) fun (r16 : Int) => (bif (r16 != (0 : Int)) then (some r16) else (f_slices_Compare___string_string__L6 a0 a1 kk2 fu k5 (IntKind.i64.wrap (l4i11 + (1 : Int))))))))) else (kk2 ()))
def f_slices_Compare___string_string_ (fu : Nat) (a0 : (List (List UInt8))) (a1 : (List (List UInt8))) : Option Int := (lt (fun (_ : Unit) => (bif (decide ((a0.length : Int) < (a1.length : Int))) then (some (-1 : Int)) else (some (0 : Int)))) fun (kk2 : Unit → Option Int) => (f_slices_Compare___string_string__L6 a0 a1 kk2 fu fu (0 : Int)))
set_option maxHeartbeats 2000000 in
set_option maxRecDepth 100000 in
theorem f_slices_Compare___string_string__ok (fu : Nat) (v0_0 : Value) (a0 : (List (List UInt8))) (v1_0 : Value) (a1 : (List (List UInt8))) {r : Int} (h : f_slices_Compare___string_string_ fu a0 a1 = some r) : FnOk Tryd.prog 116 [v0_0, v1_0] [(fDat (tyList tyStr) [v0_0] a0), (fDat (tyList tyStr) [v1_0] a1)] [] (fun (i : Unit) => { val := (int .i64 r) }) := by
 unfold f_slices_Compare___string_string_ at h
 refine fn_enter Tryd.func116 rfl Tryd.ntmps116 rfl (fun w0 Z0 => ?_)
 refine aw_sr ?_
 refine al_as rfl rfl ?_
 refine al_nt ?_
 obtain ⟨kk2, hkk2, h⟩ := lt_some h
 refine aw_seq_join (ι := Unit) (fun i => (memOf w0 Z0 [] [] [(fDat (tyList tyStr) [v0_0] a0), (fDat (tyList tyStr) [v1_0] a1)])) (fun i => (tab [(0, v0_0), (1, v1_0)])) (fun i => kk2 () = some r) ?_ ?_
 ·rintro _ h
  have h : kk2 () = some r := h
  rw [hkk2] at h
  dsimp only at h
  clear hkk2
  refine aw_show (m := (memOf w0 Z0 [] [] [(fDat (tyList tyStr) [v0_0] a0), (fDat (tyList tyStr) [v1_0] a1)])) (S := (tab [(0, v0_0), (1, v1_0)])) ?_
  refine aw_seq ?_
  refine aw_sr ?_
  refine al_mv rfl rfl ?_
  refine al_val (ov_lenD 0 rfl rfl Tryd.underlying50 rfl) ?_
  refine al_mv rfl rfl ?_
  refine al_val (ov_lenD 1 rfl rfl Tryd.underlying50 rfl) ?_
  refine al_in rfl rfl rfl rfl ?_
  refine al_nt ?_
  refine aw_cond rfl (fun hb3 => ?_) (fun hb3 => ?_)
  ·replace h := bif_t hb3 h
   refine aw_sr ?_
   refine al_as rfl rfl ?_
   refine al_nt ?_
   refine aw_ret ?_
   refine aq_then_ret ?_
   obtain rfl := Option.some.inj h
   exact fn_ret () [] [] rfl rfl rfl rfl (res1 rfl rfl) rfl rfl rfl (by decide)
  ·replace h := bif_f hb3 h
   refine aw_skip ?_
   refine aq_tr ?_
   refine al_as rfl rfl ?_
   refine al_nt ?_
   refine aw_ret ?_
   obtain rfl := Option.some.inj h
   exact fn_ret () [] [] rfl rfl rfl rfl (res1 rfl rfl) rfl rfl rfl (by decide)
 ·clear hkk2
  refine aw_sr ?_
  refine al_mv rfl rfl ?_
  refine al_val (ov_lenD 0 rfl rfl Tryd.underlying50 rfl) ?_
  refine al_mv rfl rfl ?_
  refine al_nt ?_
  refine aw_block ?_
  refine aw_state (aw_loop (ι := Int) (fun i => (memOf w0 Z0 [] [] [(fDat (tyList tyStr) [v0_0] a0), (fDat (tyList tyStr) [v1_0] a1)])) (fun i => (tab [(0, v0_0), (1, v1_0), (9, v0_0), (10, (iq (a0.length : Int))), (11, (iq i))])) (fun q i => f_slices_Compare___string_string__L6 a0 a1 kk2 fu q i = some r) ?_ fu (0 : Int) h) (fun w a hm hs => norm hm hs [] [0, 1] [(0, v0_0), (1, v1_0), (9, v0_0), (10, (iq (a0.length : Int))), (11, (iq (0 : Int)))] (by decide) ⟨rfl, rfl, rfl, rfl, rfl, trivial⟩)
  clear h
  rintro k5 l4i11 h
  have h : f_slices_Compare___string_string__L6 a0 a1 kk2 fu k5 l4i11 = some r := h
  obtain _ | k5 := k5
  · rw [f_slices_Compare___string_string__L6] at h; cases h
  rw [f_slices_Compare___string_string__L6] at h
  refine aw_show (m := (memOf w0 Z0 [] [] [(fDat (tyList tyStr) [v0_0] a0), (fDat (tyList tyStr) [v1_0] a1)])) (S := (tab [(0, v0_0), (1, v1_0), (9, v0_0), (10, (iq (a0.length : Int))), (11, (iq l4i11))])) ?_
  refine aw_sr ?_
  refine al_in rfl rfl rfl rfl ?_
  refine al_nt ?_
  refine aw_seq ?_
  refine aw_cond rfl (fun hb7 => ?_) (fun hb7 => ?_)
  ·replace h := bif_t hb7 h
   refine aw_skip ?_
   refine aq_then ?_
   refine aw_seq ?_
   refine aw_block ?_
   refine aw_sr ?_
   refine al_mv rfl rfl ?_
   obtain ⟨u8, hu9, h⟩ := opt_some h
   refine al_idxD 0 hu9 rfl rfl rfl Tryd.underlying50 sz9 rfl (fun p10 => ?_)
   refine al_val (ov_loadP (ds := [(str u8)]) 0 rfl (fun h => h) rfl Tryd.underlying9 sz9 rfl rfl rfl) ?_
   refine al_as rfl rfl ?_
   refine al_as rfl rfl ?_
   refine al_nt ?_
   refine aw_seq ?_
   refine aw_sr ?_
   refine al_mv rfl rfl ?_
   refine al_mv rfl rfl ?_
   refine al_val (ov_lenD 2 rfl rfl Tryd.underlying50 rfl) ?_
   refine al_in rfl rfl rfl rfl ?_
   refine al_nt ?_
   refine aw_cond rfl (fun hb11 => ?_) (fun hb11 => ?_)
   ·replace h := bif_t hb11 h
    refine aw_sr ?_
    refine al_as rfl rfl ?_
    refine al_nt ?_
    refine aw_ret ?_
    refine aq_then_ret ?_
    refine aq_block_ret ?_
    refine aq_then_ret ?_
    refine aq_then_ret ?_
    refine aq_block_ret ?_
    refine aq_then_ret ?_
    obtain rfl := Option.some.inj h
    exact fn_ret () [] [] rfl rfl rfl rfl (res1 rfl rfl) rfl rfl rfl (by decide)
   ·replace h := bif_f hb11 h
    refine aw_skip ?_
    refine aq_tr ?_
    refine al_mv rfl rfl ?_
    refine al_mv rfl rfl ?_
    obtain ⟨u12, hu13, h⟩ := opt_some h
    refine al_idxD 2 hu13 rfl rfl rfl Tryd.underlying50 sz9 rfl (fun p14 => ?_)
    refine al_val (ov_loadP (ds := [(str u12)]) 0 rfl (fun h => h) rfl Tryd.underlying9 sz9 rfl rfl rfl) ?_
    refine al_as rfl rfl ?_
    refine al_nt ?_
    refine aw_sr ?_
    refine al_mv rfl rfl ?_
    refine al_mv rfl rfl ?_
    obtain ⟨r16, hc15, h⟩ := opt_some h
    refine al_call (vs := [(str u8), (str u12)]) (f_cmp_Compare_string__ok fu u8 u12 hc15) [] [] [] pre_nil rfl (by simp) (by decide) (.inl rfl) rfl Tryd.func164 rfl rfl rfl (fun _ => ?_)
    refine al_as rfl rfl ?_
    refine al_nt ?_
    refine aw_sr ?_
    refine al_mv rfl rfl ?_
    refine al_in rfl rfl rfl rfl ?_
    refine al_nt ?_
    refine aw_cond rfl (fun hb17 => ?_) (fun hb17 => ?_)
    ·replace h := bif_t hb17 h
     refine aw_sr ?_
     refine al_mv rfl rfl ?_
     refine al_as rfl rfl ?_
     refine al_nt ?_
     refine aw_ret ?_
     refine aq_block_ret ?_
     refine aq_then_ret ?_
     refine aq_then_ret ?_
     refine aq_block_ret ?_
     refine aq_then_ret ?_
     obtain rfl := Option.some.inj h
     exact fn_ret () [] [] rfl rfl rfl rfl (res1 rfl rfl) rfl rfl rfl (by decide)
    ·replace h := bif_f hb17 h
     refine aw_skip ?_
     refine aq_block ?_
     refine aq_then ?_
     refine aw_region ?_
     refine al_in rfl rfl rfl rfl ?_
     refine al_mv rfl rfl ?_
     refine al_nil ?_
     exact aq_again k5 (wq (l4i11 + (1 : Int))) (Nat.lt_succ_self _) h (fun w a hm hs => norm hm hs [] [2, 3] [(0, v0_0), (1, v1_0), (9, v0_0), (10, (iq (a0.length : Int))), (11, (iq (wq (l4i11 + (1 : Int)))))] (by decide) ⟨rfl, rfl, rfl, rfl, rfl, trivial⟩)
  ·replace h := bif_f hb7 h
   refine aw_exit ?_
   refine aq_then_exit ?_
   refine aq_then_exit ?_
   refine aq_block_exit ?_
   exact aq_join () h (fun w a hm hs => norm hm hs [] [0, 1] [(0, v0_0), (1, v1_0)] (by decide) ⟨rfl, rfl, trivial⟩)
def f_names_Compare (fu : Nat) (a0 : (List UInt8)) (a1 : (List UInt8)) : Option Int := (opt (f_names_Split fu a0) fun (r2 : ((List (List UInt8)) × Int)) => (opt (f_names_Split fu a1) fun (r5 : ((List (List UInt8)) × Int)) => (opt (f_slices_Compare___string_string_ fu r2.1 r5.1) fun (r8 : Int) => (some r8))))
set_option maxHeartbeats 2000000 in
set_option maxRecDepth 100000 in
theorem f_names_Compare_ok (fu : Nat) (a0 : (List UInt8)) (a1 : (List UInt8)) {r : Int} (h : f_names_Compare fu a0 a1 = some r) : FnOk Tryd.prog 66 [(str a0), (str a1)] [uMax, uTabs] [] (fun (i : Unit) => { val := (int .i64 r) }) := by
 unfold f_names_Compare at h
 refine fn_enter Tryd.func66 rfl Tryd.ntmps66 rfl (fun w0 Z0 => ?_)
 refine aw_sr ?_
 refine al_as rfl rfl ?_
 refine al_nt ?_
 refine aw_sr ?_
 refine al_mv rfl rfl ?_
 obtain ⟨r2, hc1, h⟩ := opt_some h
 refine al_call (vs := [(str a0)]) (f_names_Split_ok fu a0 hc1) [] [] [] (pre_fz 0 rfl (pre_fz 1 rfl pre_nil)) rfl (by simp) (by decide) (.inl rfl) rfl Tryd.func65 rfl rfl rfl (fun v3 => ?_)
 refine al_mv rfl rfl ?_
 refine al_ex rfl rfl rfl ?_
 refine al_ex rfl rfl rfl ?_
 refine al_as rfl rfl ?_
 refine al_as rfl rfl ?_
 refine al_nt ?_
 refine aw_sr ?_
 refine al_mv rfl rfl ?_
 obtain ⟨r5, hc4, h⟩ := opt_some h
 refine al_call (vs := [(str a1)]) (f_names_Split_ok fu a1 hc4) [] [] [0] (pre_fz 0 rfl (pre_fz 1 rfl pre_nil)) rfl (by simp) (by decide) (.inl rfl) rfl Tryd.func65 rfl rfl rfl (fun v6 => ?_)
 refine al_mv rfl rfl ?_
 refine al_ex rfl rfl rfl ?_
 refine al_ex rfl rfl rfl ?_
 refine al_as rfl rfl ?_
 refine al_as rfl rfl ?_
 refine al_nt ?_
 refine aw_sr ?_
 refine al_mv rfl rfl ?_
 refine al_mv rfl rfl ?_
 obtain ⟨r8, hc7, h⟩ := opt_some h
 refine al_call (vs := [v3, v6]) (f_slices_Compare___string_string__ok fu v3 r2.1 v6 r5.1 hc7) [0, 1] [] [0, 1] (pre_own 1 rfl rfl (pre_own 0 rfl rfl pre_nil)) rfl (by simp) (by decide) (.inr flat_res0) rfl Tryd.func116 rfl rfl rfl (fun _ => ?_)
 refine al_as rfl rfl ?_
 refine al_nt ?_
 refine aw_ret ?_
 obtain rfl := Option.some.inj h
 exact fn_ret () [] [] rfl rfl rfl rfl (res1 rfl rfl) rfl rfl rfl (by decide)
def f_bytealg_LastIndexByteString_L5 (a0 : (List UInt8)) (a1 : Int) (kk2 : (Unit → Option Int)) : Nat → Int → Option Int
  | 0, _ => none
  | k4 + 1, l3i5 => (bif (decide (l3i5 ≥ (0 : Int))) then (req (0 ≤ l3i5 ∧ l3i5 < (a0.length : Int)) (bif ((En.bAt a0 l3i5) == a1) then (some l3i5) else (f_bytealg_LastIndexByteString_L5 a0 a1 kk2 k4 (IntKind.i64.wrap (l3i5 - (1 : Int)))))) else (kk2 ()))
def f_bytealg_LastIndexByteString (fu : Nat) (a0 : (List UInt8)) (a1 : Int) : Option Int := (lt (fun (_ : Unit) => (some (-1 : Int))) fun (kk2 : Unit → Option Int) => (f_bytealg_LastIndexByteString_L5 a0 a1 kk2 fu (IntKind.i64.wrap ((a0.length : Int) - (1 : Int)))))
set_option maxHeartbeats 2000000 in
set_option maxRecDepth 100000 in
theorem f_bytealg_LastIndexByteString_ok (fu : Nat) (a0 : (List UInt8)) (a1 : Int) {r : Int} (h : f_bytealg_LastIndexByteString fu a0 a1 = some r) : FnOk Tryd.prog 190 [(str a0), (int .u8 a1)] [] [] (fun (i : Unit) => { val := (int .i64 r) }) := by
 unfold f_bytealg_LastIndexByteString at h
 refine fn_enter Tryd.func190 rfl Tryd.ntmps190 rfl (fun w0 Z0 => ?_)
 refine aw_sr ?_
 refine al_as rfl rfl ?_
 refine al_nt ?_
 obtain ⟨kk2, hkk2, h⟩ := lt_some h
 refine aw_seq_join (ι := Unit) (fun i => (memOf w0 Z0 [] [] [])) (fun i => (tab [])) (fun i => kk2 () = some r) ?_ ?_
 ·rintro _ h
  have h : kk2 () = some r := h
  rw [hkk2] at h
  dsimp only at h
  clear hkk2
  refine aw_show (m := (memOf w0 Z0 [] [] [])) (S := (tab [])) ?_
  refine aw_sr ?_
  refine al_as rfl rfl ?_
  refine al_nt ?_
  refine aw_ret ?_
  obtain rfl := Option.some.inj h
  exact fn_ret () [] [] rfl rfl rfl rfl (res1 rfl rfl) rfl rfl rfl (by decide)
 ·clear hkk2
  refine aw_sr ?_
  refine al_mv rfl rfl ?_
  refine al_val (ov_strLen Tryd.underlying9 rfl rfl) ?_
  refine al_in rfl rfl rfl rfl ?_
  refine al_as rfl rfl ?_
  refine al_nt ?_
  refine aw_block ?_
  refine aw_state (aw_loop (ι := Int) (fun i => (memOf w0 Z0 [] [] [])) (fun i => (tab [(0, (str a0)), (1, (i8 a1)), (5, (iq i))])) (fun q i => f_bytealg_LastIndexByteString_L5 a0 a1 kk2 q i = some r) ?_ fu (wq ((a0.length : Int) - (1 : Int))) h) (fun w a hm hs => norm hm hs [] [] [(0, (str a0)), (1, (i8 a1)), (5, (iq (wq ((a0.length : Int) - (1 : Int)))))] (by decide) ⟨rfl, rfl, rfl, trivial⟩)
  clear h
  rintro k4 l3i5 h
  have h : f_bytealg_LastIndexByteString_L5 a0 a1 kk2 k4 l3i5 = some r := h
  obtain _ | k4 := k4
  · rw [f_bytealg_LastIndexByteString_L5] at h; cases h
  rw [f_bytealg_LastIndexByteString_L5] at h
  refine aw_show (m := (memOf w0 Z0 [] [] [])) (S := (tab [(0, (str a0)), (1, (i8 a1)), (5, (iq l3i5))])) ?_
  refine aw_seq ?_
  refine aw_sr ?_
  refine al_mv rfl rfl ?_
  refine al_in rfl rfl rfl rfl ?_
  refine al_nt ?_
  refine aw_cond rfl (fun hb6 => ?_) (fun hb6 => ?_)
  ·replace h := bif_t hb6 h
   refine aw_skip ?_
   refine aq_then ?_
   refine aw_seq ?_
   refine aw_block ?_
   refine aw_sr ?_
   refine al_mv rfl rfl ?_
   refine al_mv rfl rfl ?_
   obtain ⟨hc7, h⟩ := req_some h
   refine al_val (ov_strIdx hc7.1 hc7.2 Tryd.underlying9 rfl rfl rfl) ?_
   refine al_mv rfl rfl ?_
   refine al_in rfl rfl rfl rfl ?_
   refine al_nt ?_
   refine aw_cond rfl (fun hb8 => ?_) (fun hb8 => ?_)
   ·replace h := bif_t hb8 h
    refine aw_sr ?_
    refine al_mv rfl rfl ?_
    refine al_as rfl rfl ?_
    refine al_nt ?_
    refine aw_ret ?_
    refine aq_block_ret ?_
    refine aq_then_ret ?_
    refine aq_then_ret ?_
    refine aq_block_ret ?_
    refine aq_then_ret ?_
    obtain rfl := Option.some.inj h
    exact fn_ret () [] [] rfl rfl rfl rfl (res1 rfl rfl) rfl rfl rfl (by decide)
   ·replace h := bif_f hb8 h
    refine aw_skip ?_
    refine aq_block ?_
    refine aq_then ?_
    refine aw_region ?_
    refine al_mv rfl rfl ?_
    refine al_in rfl rfl rfl rfl ?_
    refine al_as rfl rfl ?_
    refine al_nil ?_
    exact aq_again k4 (wq (l3i5 - (1 : Int))) (Nat.lt_succ_self _) h (fun w a hm hs => norm hm hs [] [] [(0, (str a0)), (1, (i8 a1)), (5, (iq (wq (l3i5 - (1 : Int)))))] (by decide) ⟨rfl, rfl, rfl, trivial⟩)
  ·replace h := bif_f hb6 h
   refine aw_exit ?_
   refine aq_then_exit ?_
   refine aq_then_exit ?_
   refine aq_block_exit ?_
   exact aq_join () h (fun w a hm hs => norm hm hs [] [] [] (by decide) trivial)
def f_strings_LastIndexByte (fu : Nat) (a0 : (List UInt8)) (a1 : Int) : Option Int := (opt (f_bytealg_LastIndexByteString fu a0 a1) fun (r2 : Int) => (some r2))
set_option maxRecDepth 100000 in
theorem f_strings_LastIndexByte_ok (fu : Nat) (a0 : (List UInt8)) (a1 : Int) {r : Int} (h : f_strings_LastIndexByte fu a0 a1 = some r) : FnOk Tryd.prog 158 [(str a0), (int .u8 a1)] [] [] (fun (i : Unit) => { val := (int .i64 r) }) := by
 unfold f_strings_LastIndexByte at h
 refine fn_enter Tryd.func158 rfl Tryd.ntmps158 rfl (fun w0 Z0 => ?_)
 refine aw_sr ?_
 refine al_as rfl rfl ?_
 refine al_nt ?_
 refine aw_sr ?_
 refine al_mv rfl rfl ?_
 refine al_mv rfl rfl ?_
 obtain ⟨r2, hc1, h⟩ := opt_some h
 refine al_call (vs := [(str a0), (i8 a1)]) (f_bytealg_LastIndexByteString_ok fu a0 a1 hc1) [] [] [] pre_nil rfl (by simp) (by decide) (.inl rfl) rfl Tryd.func190 rfl rfl rfl (fun _ => ?_)
 refine al_as rfl rfl ?_
 refine al_nt ?_
 refine aw_ret ?_
 obtain rfl := Option.some.inj h
 exact fn_ret () [] [] rfl rfl rfl rfl (res1 rfl rfl) rfl rfl rfl (by decide)
def f_walk_Parent (fu : Nat) (a0 : (List UInt8)) : Option (List UInt8) := (opt (f_strings_LastIndexByte fu a0 (47 : Int)) fun (r2 : Int) => (req (0 ≤ r2 ∧ r2 ≤ (a0.length : Int)) (some (a0.take (r2).toNat))))
set_option maxRecDepth 100000 in
theorem f_walk_Parent_ok (fu : Nat) (a0 : (List UInt8)) {r : (List UInt8)} (h : f_walk_Parent fu a0 = some r) : FnOk Tryd.prog 109 [(str a0)] [] [] (fun (i : Unit) => { val := (str r) }) := by
 unfold f_walk_Parent at h
 refine fn_enter Tryd.func109 rfl Tryd.ntmps109 rfl (fun w0 Z0 => ?_)
 refine aw_sr ?_
 refine al_as rfl rfl ?_
 refine al_nt ?_
 refine aw_sr ?_
 refine al_mv rfl rfl ?_
 refine al_mv rfl rfl ?_
 obtain ⟨r2, hc1, h⟩ := opt_some h
 refine al_call (vs := [(str a0), (i8 (47 : Int))]) (f_strings_LastIndexByte_ok fu a0 (47 : Int) hc1) [] [] [] pre_nil rfl (by simp) (by decide) (.inl rfl) rfl Tryd.func158 rfl rfl rfl (fun _ => ?_)
 obtain ⟨hc3, h⟩ := req_some h
 refine al_val (ov_strTo hc3.1 hc3.2 Tryd.underlying9 rfl rfl rfl) ?_
 refine al_as rfl rfl ?_
 refine al_nt ?_
 refine aw_ret ?_
 obtain rfl := Option.some.inj h
 exact fn_ret () [] [] rfl rfl rfl rfl (res1 rfl rfl) rfl rfl rfl (by decide)
def f_walk_Check_L8 (a0 : (List S_api_Item)) (kk5 : (Unit → Option Int)) (fu : Nat) : Nat → (List ((List UInt8) × Bool)) → Int → Option Int
  | 0, _, _ => none
  | k7 + 1, l6xm3, l6i14 => (bif (decide (l6i14 < (a0.length : Int))) then (opt (at? a0 l6i14) fun (u10 : S_api_Item) => (opt (f_walk_item fu u10) fun (r15 : Int) => (bif (r15 != (0 : Int)) then (some r15) else (lt (fun (j17b37 : Bool) => (bif j17b37 then (some (4 : Int)) else (opt (f_walk_Parent fu u10.Path) fun (r21 : (List UInt8)) => (req (r21.length ≤ 9223372036854775807) (bif (!((gget l6xm3 r21).getD false)) then (some (9 : Int)) else (req (u10.Path.length ≤ 9223372036854775807) (f_walk_Check_L8 a0 kk5 fu k7 (gset l6xm3 u10.Path (u10.Kind == (2 : Int))) (IntKind.i64.wrap (l6i14 + (1 : Int)))))))))) fun (kk18 : Bool → Option Int) => (bif (decide (l6i14 > (0 : Int))) then (opt (at? a0 (IntKind.i64.wrap (l6i14 - (1 : Int)))) fun (u26 : S_api_Item) => (opt (f_names_Compare fu u26.Path u10.Path) fun (r31 : Int) => (kk18 (decide (r31 ≥ (0 : Int)))))) else (kk18 false)))))) else (kk5 ()))
def f_walk_Check (fu : Nat) (a0 : (List S_api_Item)) : Option Int := (bif (decide ((a0.length : Int) > (100 : Int))) then (some (2 : Int)) else (req (([] : List UInt8).length ≤ 9223372036854775807) (lt (fun (_ : Unit) => (some (0 : Int))) fun (kk5 : Unit → Option Int) => (f_walk_Check_L8 a0 kk5 fu fu (gset ([] : List ((List UInt8) × Bool)) ([] : List UInt8) true) (0 : Int)))))
set_option maxHeartbeats 2000000 in
set_option maxRecDepth 100000 in
theorem f_walk_Check_ok (fu : Nat) (v0_0 : Value) (a0 : (List S_api_Item)) {r : Int} (h : f_walk_Check fu a0 = some r) : FnOk Tryd.prog 50 [v0_0] [(fDat (tyList tyS_api_Item) [v0_0] a0), uMax, uTabs] [] (fun (i : Unit) => { val := (int .i64 r) }) := by
 unfold f_walk_Check at h
 refine fn_enter Tryd.func50 rfl Tryd.ntmps50 rfl (fun w0 Z0 => ?_)
 refine aw_sr ?_
 refine al_as rfl rfl ?_
 refine al_nt ?_
 refine aw_seq ?_
 refine aw_sr ?_
 refine al_mv rfl rfl ?_
 refine al_val (ov_lenD 0 rfl rfl Tryd.underlying35 rfl) ?_
 refine al_in rfl rfl rfl rfl ?_
 refine al_nt ?_
 refine aw_cond rfl (fun hb1 => ?_) (fun hb1 => ?_)
 ·replace h := bif_t hb1 h
  refine aw_sr ?_
  refine al_as rfl rfl ?_
  refine al_nt ?_
  refine aw_ret ?_
  refine aq_then_ret ?_
  obtain rfl := Option.some.inj h
  exact fn_ret () [] [] rfl rfl rfl rfl (res1 rfl rfl) rfl rfl rfl (by decide)
 ·replace h := bif_f hb1 h
  refine aw_skip ?_
  refine aq_tr ?_
  refine al_makeMapK (ν := Bool) 9 str (fun x : Bool => bool x) rfl (fun g2 => ?_)
  obtain ⟨hc3, h⟩ := req_some h
  refine al_insertK (ek := str) (ew := (fun x : Bool => bool x)) (k := ([] : List UInt8)) (v := true) 0 kd9 str_inj (key_str Tryd.underlying9 hc3) rfl rfl rfl rfl Tryd.underlying166 rfl ?_
  refine al_mv rfl rfl ?_
  refine al_as rfl rfl ?_
  refine al_nt ?_
  obtain ⟨kk5, hkk5, h⟩ := lt_some h
  refine aw_seq_join (ι := Unit) (fun i => (memOf w0 Z0 [] [] [(fDat (tyList tyS_api_Item) [v0_0] a0), uMax, uTabs])) (fun i => (tab [])) (fun i => kk5 () = some r) ?_ ?_
  ·rintro _ h
   have h : kk5 () = some r := h
   rw [hkk5] at h
   dsimp only at h
   clear hkk5
   refine aw_show (m := (memOf w0 Z0 [] [] [(fDat (tyList tyS_api_Item) [v0_0] a0), uMax, uTabs])) (S := (tab [])) ?_
   refine aw_sr ?_
   refine al_as rfl rfl ?_
   refine al_nt ?_
   refine aw_ret ?_
   obtain rfl := Option.some.inj h
   exact fn_ret () [] [] rfl rfl rfl rfl (res1 rfl rfl) rfl rfl rfl (by decide)
  ·clear hkk5
   refine aw_sr ?_
   refine al_mv rfl rfl ?_
   refine al_val (ov_lenD 0 rfl rfl Tryd.underlying35 rfl) ?_
   refine al_mv rfl rfl ?_
   refine al_nt ?_
   refine aw_block ?_
   refine aw_state (aw_loop (ι := (List ((List UInt8) × Bool)) × Int) (fun i => (memOf w0 Z0 [] [(oMapK Tryd.prog 9 g2 str (fun x : Bool => bool x) i.1)] [(fDat (tyList tyS_api_Item) [v0_0] a0), uMax, uTabs])) (fun i => (tab [(0, v0_0), (3, (Value.map (some g2))), (12, v0_0), (13, (iq (a0.length : Int))), (14, (iq i.2))])) (fun q i => f_walk_Check_L8 a0 kk5 fu q i.1 i.2 = some r) ?_ fu ((gset ([] : List ((List UInt8) × Bool)) ([] : List UInt8) true), (0 : Int)) h) (fun w a hm hs => norm hm hs [0] [0, 1, 2] [(0, v0_0), (3, (Value.map (some g2))), (12, v0_0), (13, (iq (a0.length : Int))), (14, (iq (0 : Int)))] (by decide) ⟨rfl, rfl, rfl, rfl, rfl, trivial⟩)
   clear h
   rintro k7 ⟨l6xm3, l6i14⟩ h
   have h : f_walk_Check_L8 a0 kk5 fu k7 l6xm3 l6i14 = some r := h
   obtain _ | k7 := k7
   · rw [f_walk_Check_L8] at h; cases h
   rw [f_walk_Check_L8] at h
   refine aw_show (m := (memOf w0 Z0 [] [(oMapK Tryd.prog 9 g2 str (fun x : Bool => bool x) l6xm3)] [(fDat (tyList tyS_api_Item) [v0_0] a0), uMax, uTabs])) (S := (tab [(0, v0_0), (3, (Value.map (some g2))), (12, v0_0), (13, (iq (a0.length : Int))), (14, (iq l6i14))])) ?_
   refine aw_sr ?_
   refine al_in rfl rfl rfl rfl ?_
   refine al_nt ?_
   refine aw_seq ?_
   refine aw_cond rfl (fun hb9 => ?_) (fun hb9 => ?_)
   ·replace h := bif_t hb9 h
    refine aw_skip ?_
    refine aq_then ?_
    refine aw_seq ?_
    refine aw_block ?_
    refine aw_sr ?_
    refine al_mv rfl rfl ?_
    obtain ⟨u10, hu11, h⟩ := opt_some h
    refine al_idxD 0 hu11 rfl rfl rfl Tryd.underlying35 sz41 rfl (fun p12 => ?_)
    refine al_val (ov_loadP (ds := [(str u10.Path), (iq u10.Kind), (iq u10.Mode), (iq u10.Time), (str u10.Bytes)]) 0 rfl encS_api_Item rfl Tryd.underlying41 sz41 rfl rfl rfl) ?_
    refine al_alloc (zs := [(str ([] : List UInt8)), (iq (0 : Int)), (iq (0 : Int)), (iq (0 : Int)), (str ([] : List UInt8))]) (zeroOf_to to41) rfl rfl (fun g13 => ?_)
    refine al_as rfl rfl ?_
    refine al_store (i := 0) (vs := [(str u10.Path), (iq u10.Kind), (iq u10.Mode), (iq u10.Time), (str u10.Bytes)]) (cs' := [(str u10.Path), (iq u10.Kind), (iq u10.Mode), (iq u10.Time), (str u10.Bytes)]) rfl rfl rfl sz41 (cv_rfl rfl) rfl (co_val rfl (co_val rfl (co_val rfl (co_val rfl (co_val rfl co_nil))))) (Nat.le_of_ble_eq_true rfl) rfl rfl ?_
    refine al_nt ?_
    refine aw_seq ?_
    refine aw_sr ?_
    refine al_val (ov_load (i := 0) (v := (ag [(str u10.Path), (iq u10.Kind), (iq u10.Mode), (iq u10.Time), (str u10.Bytes)])) rfl rfl Tryd.underlying41 sz41 rfl rfl rfl rfl) ?_
    obtain ⟨r15, hc14, h⟩ := opt_some h
    refine al_call (vs := [(ag [(str u10.Path), (iq u10.Kind), (iq u10.Mode), (iq u10.Time), (str u10.Bytes)])]) (f_walk_item_ok fu u10 hc14) [] [] [0, 1] (pre_fz 2 rfl (pre_fz 3 rfl pre_nil)) rfl (by simp) (by decide) (.inl rfl) rfl Tryd.func108 rfl rfl rfl (fun _ => ?_)
    refine al_as rfl rfl ?_
    refine al_nt ?_
    refine aw_sr ?_
    refine al_mv rfl rfl ?_
    refine al_in rfl rfl rfl rfl ?_
    refine al_nt ?_
    refine aw_cond rfl (fun hb16 => ?_) (fun hb16 => ?_)
    ·replace h := bif_t hb16 h
     refine aw_sr ?_
     refine al_mv rfl rfl ?_
     refine al_as rfl rfl ?_
     refine al_nt ?_
     refine aw_ret ?_
     refine aq_then_ret ?_
     refine aq_block_ret ?_
     refine aq_then_ret ?_
     refine aq_then_ret ?_
     refine aq_block_ret ?_
     refine aq_then_ret ?_
     obtain rfl := Option.some.inj h
     exact fn_ret () [] [] rfl rfl rfl rfl (res1 rfl rfl) rfl rfl rfl (by decide)
    ·replace h := bif_f hb16 h
     refine aw_skip ?_
     refine aq_then ?_
     refine aw_seq ?_
     obtain ⟨kk18, hkk18, h⟩ := lt_some h
     refine aw_seq_join (ι := Bool) (fun i => (memOf w0 Z0 [] [(oMapK Tryd.prog 9 g2 str (fun x : Bool => bool x) l6xm3), (oBox g13 41 [(str u10.Path), (iq u10.Kind), (iq u10.Mode), (iq u10.Time), (str u10.Bytes)])] [(fDat (tyList tyS_api_Item) [v0_0] a0), (fPtr tyS_api_Item p12 u10), uMax, uTabs])) (fun i => (tab [(0, v0_0), (3, (Value.map (some g2))), (5, (pq g13)), (12, v0_0), (13, (iq (a0.length : Int))), (14, (iq l6i14)), (37, (bool i))])) (fun i => kk18 i = some r) ?_ ?_
     ·rintro j17b37 h
      have h : kk18 j17b37 = some r := h
      rw [hkk18] at h
      dsimp only at h
      clear hkk18
      refine aw_show (m := (memOf w0 Z0 [] [(oMapK Tryd.prog 9 g2 str (fun x : Bool => bool x) l6xm3), (oBox g13 41 [(str u10.Path), (iq u10.Kind), (iq u10.Mode), (iq u10.Time), (str u10.Bytes)])] [(fDat (tyList tyS_api_Item) [v0_0] a0), (fPtr tyS_api_Item p12 u10), uMax, uTabs])) (S := (tab [(0, v0_0), (3, (Value.map (some g2))), (5, (pq g13)), (12, v0_0), (13, (iq (a0.length : Int))), (14, (iq l6i14)), (37, (bool j17b37))])) ?_
      refine aw_cond rfl (fun hb19 => ?_) (fun hb19 => ?_)
      ·replace h := bif_t hb19 h
       refine aw_sr ?_
       refine al_as rfl rfl ?_
       refine al_nt ?_
       refine aw_ret ?_
       refine aq_then_ret ?_
       refine aq_block_ret ?_
       refine aq_then_ret ?_
       refine aq_then_ret ?_
       refine aq_block_ret ?_
       refine aq_then_ret ?_
       obtain rfl := Option.some.inj h
       exact fn_ret () [] [] rfl rfl rfl rfl (res1 rfl rfl) rfl rfl rfl (by decide)
      ·replace h := bif_f hb19 h
       refine aw_skip ?_
       refine aq_then ?_
       refine aw_seq ?_
       refine aw_sr ?_
       refine al_mv rfl rfl ?_
       refine al_val (ov_fieldA (p := 0) rfl Tryd.underlying41 rfl sz9 rfl rfl rfl) ?_
       refine al_val (ov_load (i := 1) (v := (str u10.Path)) rfl rfl Tryd.underlying9 sz9 rfl rfl rfl rfl) ?_
       obtain ⟨r21, hc20, h⟩ := opt_some h
       refine al_call (vs := [(str u10.Path)]) (f_walk_Parent_ok fu u10.Path hc20) [] [] [0, 1] pre_nil rfl (by simp) (by decide) (.inl rfl) rfl Tryd.func109 rfl rfl rfl (fun _ => ?_)
       obtain ⟨hc22, h⟩ := req_some h
       refine al_val (v := (bool ((gget l6xm3 r21).getD false))) (ov_lookupK (k := r21) (ek := str) (ew := (fun x : Bool => bool x)) (z := false) 0 kd9 str_inj (key_str Tryd.underlying9 hc22) rfl rfl rfl Tryd.underlying166 (zeroOf_to to4) rfl) ?_
       refine al_val (ov_not rfl rfl) ?_
       refine al_nt ?_
       refine aw_cond rfl (fun hb23 => ?_) (fun hb23 => ?_)
       ·replace h := bif_t hb23 h
        refine aw_sr ?_
        refine al_as rfl rfl ?_
        refine al_nt ?_
        refine aw_ret ?_
        refine aq_then_ret ?_
        refine aq_block_ret ?_
        refine aq_then_ret ?_
        refine aq_then_ret ?_
        refine aq_block_ret ?_
        refine aq_then_ret ?_
        obtain rfl := Option.some.inj h
        exact fn_ret () [] [] rfl rfl rfl rfl (res1 rfl rfl) rfl rfl rfl (by decide)
       ·replace h := bif_f hb23 h
        refine aw_skip ?_
        refine aq_then ?_
        refine aw_region ?_
        refine al_mv rfl rfl ?_
        refine al_val (ov_fieldA (p := 0) rfl Tryd.underlying41 rfl sz9 rfl rfl rfl) ?_
        refine al_val (ov_load (i := 1) (v := (str u10.Path)) rfl rfl Tryd.underlying9 sz9 rfl rfl rfl rfl) ?_
        refine al_val (ov_fieldA (p := 1) rfl Tryd.underlying41 rfl sz3 rfl rfl rfl) ?_
        refine al_val (ov_load (i := 1) (v := (iq u10.Kind)) rfl rfl Tryd.underlying3 sz3 rfl rfl rfl rfl) ?_
        refine al_in rfl rfl rfl rfl ?_
        obtain ⟨hc24, h⟩ := req_some h
        refine al_mapSetK (ek := str) (ew := (fun x : Bool => bool x)) (k := u10.Path) (v := (u10.Kind == (2 : Int))) 0 kd9 str_inj (key_str Tryd.underlying9 hc24) rfl rfl rfl rfl Tryd.underlying166 rfl ?_
        refine al_nil ?_
        refine aq_block ?_
        refine aq_then ?_
        refine aw_region ?_
        refine al_in rfl rfl rfl rfl ?_
        refine al_mv rfl rfl ?_
        refine al_nil ?_
        exact aq_again k7 ((gset l6xm3 u10.Path (u10.Kind == (2 : Int))), (wq (l6i14 + (1 : Int)))) (Nat.lt_succ_self _) h (fun w a hm hs => norm hm hs [0] [0, 2, 3] [(0, v0_0), (3, (Value.map (some g2))), (12, v0_0), (13, (iq (a0.length : Int))), (14, (iq (wq (l6i14 + (1 : Int)))))] (by decide) ⟨rfl, rfl, rfl, rfl, rfl, trivial⟩)
     ·clear hkk18
      rcases Bool.eq_false_or_eq_true (decide (l6i14 > (0 : Int))) with hb25 | hb25
      ·replace h := bif_t hb25 h
       obtain ⟨u26, hu27, h⟩ := opt_some h
       obtain ⟨r31, hc30, h⟩ := opt_some h
       refine aw_region_draw 13 [(24, (fun u => fEq u (iq l6i14))), (25, (fun u => fEq u (bool true))), (26, (fun u => fEq u (bool true))), (27, (fun u => fEq u v0_0)), (28, (fun u => fEq u (iq l6i14))), (29, (fun u => fEq u (iq (wq (l6i14 - (1 : Int)))))), (30, (fun p28 => (fPtr tyS_api_Item p28 u26))), (31, (fun p29 => (fPtr tyStr p29 u26.Path))), (32, (fun u => fEq u (str u26.Path))), (33, (fun u => fEq u (pq g13))), (34, (fun u => fEq u (str u10.Path))), (35, (fun u => fEq u (iq r31))), (36, (fun u => fEq u (bool (decide (r31 ≥ (0 : Int))))))] (tab [(0, v0_0), (3, (Value.map (some g2))), (4, (iq l6i14)), (5, (pq g13)), (12, v0_0), (13, (iq (a0.length : Int))), (14, (iq l6i14))]) mixed (by kernel_rfl) rfl rfl rfl (fun a hs => hs.tab _ (allT_mem ⟨rfl, rfl, rfl, rfl, rfl, rfl, rfl, trivial⟩)) ⟨⟨rfl, ld_val (ov_move rfl rfl)⟩, ⟨rfl, ld_eq (j := 0) rfl rfl (ld_val (ov_cast (by first | rw [hb25] | rfl) (ov_int rfl rfl rfl rfl)))⟩, ⟨rfl, ld_eq (j := 1) rfl rfl (ld_val (ov_cast (by first | rw [hb25] | rfl) (ov_move rfl rfl)))⟩, ⟨rfl, ld_eq (j := 2) rfl rfl (ld_val (ov_move rfl rfl))⟩, ⟨rfl, ld_eq (j := 2) rfl rfl (ld_val (ov_move rfl rfl))⟩, ⟨rfl, ld_eq (j := 2) rfl rfl (ld_eq (j := 4) rfl rfl (ld_val (ov_int rfl rfl rfl rfl)))⟩, ⟨rfl, ld_eq (j := 2) rfl rfl (ld_eq (j := 3) rfl rfl (ld_eq (j := 5) rfl rfl (ld_of (of_idxD 1 hu27 rfl rfl rfl Tryd.underlying35 sz41 rfl))))⟩, ⟨rfl, ld_eq (j := 2) rfl rfl (ld_fact (j := 6) rfl rfl (fun p28 => ld_of (of_fieldD (pr := fun (y : S_api_Item) => y.Path) 0 rfl subS_api_Item_0 rfl Tryd.underlying41 rfl sz9 rfl rfl)))⟩, ⟨rfl, ld_eq (j := 2) rfl rfl (ld_fact (j := 7) rfl rfl (fun p29 => ld_val (ov_loadP (ds := [(str u26.Path)]) 0 rfl (fun h => h) rfl Tryd.underlying9 sz9 rfl rfl rfl)))⟩, ⟨rfl, ld_eq (j := 2) rfl rfl (ld_val (ov_fieldA (p := 0) rfl Tryd.underlying41 rfl sz9 rfl rfl rfl))⟩, ⟨rfl, ld_eq (j := 2) rfl rfl (ld_eq (j := 9) rfl rfl (ld_val (ov_load (i := 0) (v := (str u10.Path)) rfl rfl Tryd.underlying9 sz9 rfl rfl rfl rfl)))⟩, ⟨rfl, ld_eq (j := 2) rfl rfl (ld_eq (j := 8) rfl rfl (ld_eq (j := 10) rfl rfl (ld_callV (vs := [(str u26.Path), (str u10.Path)]) (f_names_Compare_ok fu u26.Path u10.Path hc30) [] (pre_fz 2 rfl (pre_fz 3 rfl pre_nil)) rfl Tryd.func66 rfl rfl rfl)))⟩, ⟨rfl, ld_eq (j := 2) rfl rfl (ld_eq (j := 11) rfl rfl (ld_val (ov_int rfl rfl rfl rfl)))⟩, trivial⟩ ?_
       refine tl_eq 2 rfl ?_
       refine tl_eq 12 rfl ?_
       refine tl_done ?_
       refine al_val (ov_pick_t rfl rfl rfl) ?_
       refine al_nil ?_
       exact aq_join (decide (r31 ≥ (0 : Int))) h (fun w a hm hs => norm hm hs [1, 0] [1, 0, 2, 3] [(0, v0_0), (3, (Value.map (some g2))), (5, (pq g13)), (12, v0_0), (13, (iq (a0.length : Int))), (14, (iq l6i14)), (37, (bool (decide (r31 ≥ (0 : Int)))))] (by decide) ⟨rfl, rfl, rfl, rfl, rfl, rfl, rfl, trivial⟩)
      ·replace h := bif_f hb25 h
       refine aw_region_draw 13 [(24, (fun u => fEq u (iq l6i14))), (25, (fun u => fEq u (bool false))), (26, (fun u => fEq u (bool false))), (27, (fun u => fEq u undef)), (28, (fun u => fEq u undef)), (29, (fun u => fEq u undef)), (30, (fun u => fEq u undef)), (31, (fun u => fEq u undef)), (32, (fun u => fEq u undef)), (33, (fun u => fEq u undef)), (34, (fun u => fEq u undef)), (35, (fun u => fEq u undef)), (36, (fun u => fEq u undef))] (tab [(0, v0_0), (3, (Value.map (some g2))), (4, (iq l6i14)), (5, (pq g13)), (12, v0_0), (13, (iq (a0.length : Int))), (14, (iq l6i14))]) mixed (by kernel_rfl) rfl rfl rfl (fun a hs => hs.tab _ (allT_mem ⟨rfl, rfl, rfl, rfl, rfl, rfl, rfl, trivial⟩)) ⟨⟨rfl, ld_val (ov_move rfl rfl)⟩, ⟨rfl, ld_eq (j := 0) rfl rfl (ld_val (ov_cast (by first | rw [hb25] | rfl) (ov_int rfl rfl rfl rfl)))⟩, ⟨rfl, ld_eq (j := 1) rfl rfl (ld_val (ov_cast (by first | rw [hb25] | rfl) (ov_move rfl rfl)))⟩, ⟨rfl, ld_eq (j := 2) rfl rfl (ld_skip)⟩, ⟨rfl, ld_eq (j := 2) rfl rfl (ld_skip)⟩, ⟨rfl, ld_eq (j := 2) rfl rfl (ld_skip)⟩, ⟨rfl, ld_eq (j := 2) rfl rfl (ld_skip)⟩, ⟨rfl, ld_eq (j := 2) rfl rfl (ld_skip)⟩, ⟨rfl, ld_eq (j := 2) rfl rfl (ld_skip)⟩, ⟨rfl, ld_eq (j := 2) rfl rfl (ld_skip)⟩, ⟨rfl, ld_eq (j := 2) rfl rfl (ld_skip)⟩, ⟨rfl, ld_eq (j := 2) rfl rfl (ld_skip)⟩, ⟨rfl, ld_eq (j := 2) rfl rfl (ld_skip)⟩, trivial⟩ ?_
       refine tl_eq 2 rfl ?_
       refine tl_eq 12 rfl ?_
       refine tl_done ?_
       refine al_val (ov_pick_f rfl rfl rfl) ?_
       refine al_nil ?_
       exact aq_join false h (fun w a hm hs => norm hm hs [1, 0] [1, 0, 2, 3] [(0, v0_0), (3, (Value.map (some g2))), (5, (pq g13)), (12, v0_0), (13, (iq (a0.length : Int))), (14, (iq l6i14)), (37, (bool false))] (by decide) ⟨rfl, rfl, rfl, rfl, rfl, rfl, rfl, trivial⟩)
   ·replace h := bif_f hb9 h
    refine aw_exit ?_
    refine aq_then_exit ?_
    refine aq_then_exit ?_
    refine aq_block_exit ?_
    exact aq_join () h (fun w a hm hs => norm hm hs [] [0, 1, 2] [] (by decide) trivial)
def f_delta_Check_L6 (a0 : (List S_api_Edit)) (kk3 : (Unit → Option Int)) (fu : Nat) : Nat → Int → Option Int
  | 0, _ => none
  | k5 + 1, l4i13 => (bif (decide (l4i13 < (a0.length : Int))) then (opt (at? a0 l4i13) fun (u8 : S_api_Edit) => (opt (f_names_Split fu u8.Path) fun (r13 : ((List (List UInt8)) × Int)) => (bif (r13.2 != (0 : Int)) then (some r13.2) else (req (u8.Item.Path.length ≤ 9223372036854775807) (req ((Lit.int .i64 u8.Item.Kind).wf = true) (req ((Lit.int .i64 u8.Item.Mode).wf = true) (req ((Lit.int .i64 u8.Item.Time).wf = true) (req (u8.Item.Bytes.length ≤ 9223372036854775807) (req (([] : List UInt8).length ≤ 9223372036854775807) (req ((Lit.int .i64 (0 : Int)).wf = true) (req ((Lit.int .i64 (0 : Int)).wf = true) (req ((Lit.int .i64 (0 : Int)).wf = true) (req (([] : List UInt8).length ≤ 9223372036854775807) (lt (fun (j26b65 : Bool) => (bif j26b65 then (some (4 : Int)) else (f_delta_Check_L6 a0 kk3 fu k5 (IntKind.i64.wrap (l4i13 + (1 : Int)))))) fun (kk27 : Bool → Option Int) => (bif u8.Gone then (bif (!(u8.Item == (S_api_Item.mk ([] : List UInt8) (0 : Int) (0 : Int) (0 : Int) ([] : List UInt8)))) then (kk27 true) else (bif (!true) then (bif (!(u8.Item.Path == u8.Path)) then (kk27 true) else (bif (decide (l4i13 > (0 : Int))) then (opt (at? a0 (IntKind.i64.wrap (l4i13 - (1 : Int)))) fun (u34 : S_api_Edit) => (opt (f_names_Compare fu u34.Path u8.Path) fun (r39 : Int) => (kk27 (decide (r39 ≥ (0 : Int)))))) else (kk27 false))) else (bif (decide (l4i13 > (0 : Int))) then (opt (at? a0 (IntKind.i64.wrap (l4i13 - (1 : Int)))) fun (u41 : S_api_Edit) => (opt (f_names_Compare fu u41.Path u8.Path) fun (r46 : Int) => (kk27 (decide (r46 ≥ (0 : Int)))))) else (kk27 false)))) else (bif (!false) then (bif (!(u8.Item.Path == u8.Path)) then (kk27 true) else (bif (decide (l4i13 > (0 : Int))) then (opt (at? a0 (IntKind.i64.wrap (l4i13 - (1 : Int)))) fun (u50 : S_api_Edit) => (opt (f_names_Compare fu u50.Path u8.Path) fun (r55 : Int) => (kk27 (decide (r55 ≥ (0 : Int)))))) else (kk27 false))) else (bif (decide (l4i13 > (0 : Int))) then (opt (at? a0 (IntKind.i64.wrap (l4i13 - (1 : Int)))) fun (u57 : S_api_Edit) => (opt (f_names_Compare fu u57.Path u8.Path) fun (r62 : Int) => (kk27 (decide (r62 ≥ (0 : Int)))))) else (kk27 false)))))))))))))))))) else (kk3 ()))
def f_delta_Check (fu : Nat) (a0 : (List S_api_Edit)) : Option Int := (bif (decide ((a0.length : Int) > (200 : Int))) then (some (2 : Int)) else (lt (fun (_ : Unit) => (some (0 : Int))) fun (kk3 : Unit → Option Int) => (f_delta_Check_L6 a0 kk3 fu fu (0 : Int))))
set_option maxRecDepth 100000 in
set_option maxHeartbeats 2000000 in
set_option maxHeartbeats 2000000 in
theorem f_delta_Check_ok (fu : Nat) (v0_0 : Value) (a0 : (List S_api_Edit)) {r : Int} (h : f_delta_Check fu a0 = some r) : FnOk Tryd.prog 23 [v0_0] [(fDat (tyList tyS_api_Edit) [v0_0] a0), uMax, uTabs] [] (fun (i : Unit) => { val := (int .i64 r) }) := by
 unfold f_delta_Check at h
 refine fn_enter Tryd.func23 rfl Tryd.ntmps23 rfl (fun w0 Z0 => ?_)
 refine aw_sr ?_
 refine al_as rfl rfl ?_
 refine al_nt ?_
 refine aw_seq ?_
 refine aw_sr ?_
 refine al_mv rfl rfl ?_
 refine al_val (ov_lenD 0 rfl rfl Tryd.underlying36 rfl) ?_
 refine al_in rfl rfl rfl rfl ?_
 refine al_nt ?_
 refine aw_cond rfl (fun hb1 => ?_) (fun hb1 => ?_)
 ·replace h := bif_t hb1 h
  refine aw_sr ?_
  refine al_as rfl rfl ?_
  refine al_nt ?_
  refine aw_ret ?_
  refine aq_then_ret ?_
  obtain rfl := Option.some.inj h
  exact fn_ret () [] [] rfl rfl rfl rfl (res1 rfl rfl) rfl rfl rfl (by decide)
 ·replace h := bif_f hb1 h
  refine aw_skip ?_
  refine aq_then ?_
  obtain ⟨kk3, hkk3, h⟩ := lt_some h
  refine aw_seq_join (ι := Unit) (fun i => (memOf w0 Z0 [] [] [(fDat (tyList tyS_api_Edit) [v0_0] a0), uMax, uTabs])) (fun i => (tab [])) (fun i => kk3 () = some r) ?_ ?_
  ·rintro _ h
   have h : kk3 () = some r := h
   rw [hkk3] at h
   dsimp only at h
   clear hkk3
   refine aw_show (m := (memOf w0 Z0 [] [] [(fDat (tyList tyS_api_Edit) [v0_0] a0), uMax, uTabs])) (S := (tab [])) ?_
   refine aw_sr ?_
   refine al_as rfl rfl ?_
   refine al_nt ?_
   refine aw_ret ?_
   obtain rfl := Option.some.inj h
   exact fn_ret () [] [] rfl rfl rfl rfl (res1 rfl rfl) rfl rfl rfl (by decide)
  ·clear hkk3
   refine aw_sr ?_
   refine al_mv rfl rfl ?_
   refine al_val (ov_lenD 0 rfl rfl Tryd.underlying36 rfl) ?_
   refine al_mv rfl rfl ?_
   refine al_nt ?_
   refine aw_block ?_
   refine aw_state (aw_loop (ι := Int) (fun i => (memOf w0 Z0 [] [] [(fDat (tyList tyS_api_Edit) [v0_0] a0), uMax, uTabs])) (fun i => (tab [(0, v0_0), (11, v0_0), (12, (iq (a0.length : Int))), (13, (iq i))])) (fun q i => f_delta_Check_L6 a0 kk3 fu q i = some r) ?_ fu (0 : Int) h) (fun w a hm hs => norm hm hs [] [0, 1, 2] [(0, v0_0), (11, v0_0), (12, (iq (a0.length : Int))), (13, (iq (0 : Int)))] (by decide) ⟨rfl, rfl, rfl, rfl, trivial⟩)
   clear h
   rintro k5 l4i13 h
   have h : f_delta_Check_L6 a0 kk3 fu k5 l4i13 = some r := h
   obtain _ | k5 := k5
   · rw [f_delta_Check_L6] at h; cases h
   rw [f_delta_Check_L6] at h
   refine aw_show (m := (memOf w0 Z0 [] [] [(fDat (tyList tyS_api_Edit) [v0_0] a0), uMax, uTabs])) (S := (tab [(0, v0_0), (11, v0_0), (12, (iq (a0.length : Int))), (13, (iq l4i13))])) ?_
   refine aw_sr ?_
   refine al_in rfl rfl rfl rfl ?_
   refine al_nt ?_
   refine aw_seq ?_
   refine aw_cond rfl (fun hb7 => ?_) (fun hb7 => ?_)
   ·replace h := bif_t hb7 h
    refine aw_skip ?_
    refine aq_then ?_
    refine aw_seq ?_
    refine aw_block ?_
    refine aw_sr ?_
    refine al_mv rfl rfl ?_
    obtain ⟨u8, hu9, h⟩ := opt_some h
    refine al_idxD 0 hu9 rfl rfl rfl Tryd.underlying36 sz43 rfl (fun p10 => ?_)
    refine al_val (ov_loadP (ds := [(str u8.Path), (bool u8.Gone), (str u8.Item.Path), (iq u8.Item.Kind), (iq u8.Item.Mode), (iq u8.Item.Time), (str u8.Item.Bytes)]) 0 rfl encS_api_Edit rfl Tryd.underlying43 sz43 rfl rfl rfl) ?_
    refine al_alloc (zs := [(str ([] : List UInt8)), (bool false), (str ([] : List UInt8)), (iq (0 : Int)), (iq (0 : Int)), (iq (0 : Int)), (str ([] : List UInt8))]) (zeroOf_to to43) rfl rfl (fun g11 => ?_)
    refine al_as rfl rfl ?_
    refine al_store (i := 0) (vs := [(str u8.Path), (bool u8.Gone), (str u8.Item.Path), (iq u8.Item.Kind), (iq u8.Item.Mode), (iq u8.Item.Time), (str u8.Item.Bytes)]) (cs' := [(str u8.Path), (bool u8.Gone), (str u8.Item.Path), (iq u8.Item.Kind), (iq u8.Item.Mode), (iq u8.Item.Time), (str u8.Item.Bytes)]) rfl rfl rfl sz43 (cv_rfl rfl) rfl (co_val rfl (co_val rfl (co_val rfl (co_val rfl (co_val rfl (co_val rfl (co_val rfl co_nil))))))) (Nat.le_of_ble_eq_true rfl) rfl rfl ?_
    refine al_nt ?_
    refine aw_seq ?_
    refine aw_sr ?_
    refine al_val (ov_fieldA (p := 0) rfl Tryd.underlying43 rfl sz9 rfl rfl rfl) ?_
    refine al_val (ov_load (i := 0) (v := (str u8.Path)) rfl rfl Tryd.underlying9 sz9 rfl rfl rfl rfl) ?_
    obtain ⟨r13, hc12, h⟩ := opt_some h
    refine al_call (vs := [(str u8.Path)]) (f_names_Split_ok fu u8.Path hc12) [] [] [0] (pre_fz 2 rfl (pre_fz 3 rfl pre_nil)) rfl (by simp) (by decide) (.inl rfl) rfl Tryd.func65 rfl rfl rfl (fun v14 => ?_)
    refine al_mv rfl rfl ?_
    refine al_ex rfl rfl rfl ?_
    refine al_ex rfl rfl rfl ?_
    refine al_as rfl rfl ?_
    refine al_as rfl rfl ?_
    refine al_nt ?_
    refine aw_sr ?_
    refine al_mv rfl rfl ?_
    refine al_in rfl rfl rfl rfl ?_
    refine al_nt ?_
    refine aw_cond rfl (fun hb15 => ?_) (fun hb15 => ?_)
    ·replace h := bif_t hb15 h
     refine aw_sr ?_
     refine al_mv rfl rfl ?_
     refine al_as rfl rfl ?_
     refine al_nt ?_
     refine aw_ret ?_
     refine aq_then_ret ?_
     refine aq_block_ret ?_
     refine aq_then_ret ?_
     refine aq_then_ret ?_
     refine aq_block_ret ?_
     refine aq_then_ret ?_
     obtain rfl := Option.some.inj h
     exact fn_ret () [] [] rfl rfl rfl rfl (res1 rfl rfl) rfl rfl rfl (by decide)
    ·replace h := bif_f hb15 h
     refine aw_skip ?_
     refine aq_tr ?_
     refine al_val (ov_fieldA (p := 2) rfl Tryd.underlying43 rfl sz41 rfl rfl rfl) ?_
     refine al_val (ov_load (i := 1) (v := (ag [(str u8.Item.Path), (iq u8.Item.Kind), (iq u8.Item.Mode), (iq u8.Item.Time), (str u8.Item.Bytes)])) rfl rfl Tryd.underlying41 sz41 rfl rfl rfl rfl) ?_
     refine al_val (ov_build (cells := ([(str ([] : List UInt8)), (iq (0 : Int)), (iq (0 : Int)), (iq (0 : Int)), (str ([] : List UInt8))]).toArray) (cs := [(str ([] : List UInt8)), (iq (0 : Int)), (iq (0 : Int)), (iq (0 : Int)), (str ([] : List UInt8))]) rfl (fun w a hm hs => by simp only [List.map_toArray, List.map_cons, List.map_nil, List.toList_toArray]; kernel_rfl)) ?_
     obtain ⟨hc16, h⟩ := req_some h
     obtain ⟨hc17, h⟩ := req_some h
     obtain ⟨hc18, h⟩ := req_some h
     obtain ⟨hc19, h⟩ := req_some h
     obtain ⟨hc20, h⟩ := req_some h
     obtain ⟨hc21, h⟩ := req_some h
     obtain ⟨hc22, h⟩ := req_some h
     obtain ⟨hc23, h⟩ := req_some h
     obtain ⟨hc24, h⟩ := req_some h
     obtain ⟨hc25, h⟩ := req_some h
     refine al_val (ov_eqlA (cs := [(str u8.Item.Path), (iq u8.Item.Kind), (iq u8.Item.Mode), (iq u8.Item.Time), (str u8.Item.Bytes)]) (ds := [(str ([] : List UInt8)), (iq (0 : Int)), (iq (0 : Int)), (iq (0 : Int)), (str ([] : List UInt8))]) (ls := [9, 3, 3, 3, 9]) (p := (u8.Item == (S_api_Item.mk ([] : List UInt8) (0 : Int) (0 : Int) (0 : Int) ([] : List UInt8)))) eg41 kt41 lv41 rfl rfl (by kernel_rfl) (by kernel_rfl) (fit_cons (fit_str Tryd.underlying9 hc16) (fit_cons (fit_int Tryd.underlying3 hc17) (fit_cons (fit_int Tryd.underlying3 hc18) (fit_cons (fit_int Tryd.underlying3 hc19) (fit_cons (fit_str Tryd.underlying9 hc20) fit_nil))))) (fit_cons (fit_str Tryd.underlying9 hc21) (fit_cons (fit_int Tryd.underlying3 hc22) (fit_cons (fit_int Tryd.underlying3 hc23) (fit_cons (fit_int Tryd.underlying3 hc24) (fit_cons (fit_str Tryd.underlying9 hc25) fit_nil))))) (injS_api_Item (x := u8.Item) (y := (S_api_Item.mk ([] : List UInt8) (0 : Int) (0 : Int) (0 : Int) ([] : List UInt8)))) rfl) ?_
     refine al_as rfl rfl ?_
     refine al_nt ?_
     obtain ⟨kk27, hkk27, h⟩ := lt_some h
     refine aw_seq_join (ι := Bool) (fun i => (memOf w0 Z0 [] [] [(fDat (tyList tyS_api_Edit) [v0_0] a0), (fPtr tyS_api_Edit p10 u8), uMax, uTabs])) (fun i => (tab [(0, v0_0), (11, v0_0), (12, (iq (a0.length : Int))), (13, (iq l4i13)), (65, (bool i))])) (fun i => kk27 i = some r) ?_ ?_
     ·rintro j26b65 h
      have h : kk27 j26b65 = some r := h
      rw [hkk27] at h
      dsimp only at h
      clear hkk27
      refine aw_show (m := (memOf w0 Z0 [] [] [(fDat (tyList tyS_api_Edit) [v0_0] a0), (fPtr tyS_api_Edit p10 u8), uMax, uTabs])) (S := (tab [(0, v0_0), (11, v0_0), (12, (iq (a0.length : Int))), (13, (iq l4i13)), (65, (bool j26b65))])) ?_
      refine aw_cond rfl (fun hb28 => ?_) (fun hb28 => ?_)
      ·replace h := bif_t hb28 h
       refine aw_sr ?_
       refine al_as rfl rfl ?_
       refine al_nt ?_
       refine aw_ret ?_
       refine aq_block_ret ?_
       refine aq_then_ret ?_
       refine aq_then_ret ?_
       refine aq_block_ret ?_
       refine aq_then_ret ?_
       obtain rfl := Option.some.inj h
       exact fn_ret () [] [] rfl rfl rfl rfl (res1 rfl rfl) rfl rfl rfl (by decide)
      ·replace h := bif_f hb28 h
       refine aw_skip ?_
       refine aq_block ?_
       refine aq_then ?_
       refine aw_region ?_
       refine al_in rfl rfl rfl rfl ?_
       refine al_mv rfl rfl ?_
       refine al_nil ?_
       exact aq_again k5 (wq (l4i13 + (1 : Int))) (Nat.lt_succ_self _) h (fun w a hm hs => norm hm hs [] [0, 2, 3] [(0, v0_0), (11, v0_0), (12, (iq (a0.length : Int))), (13, (iq (wq (l4i13 + (1 : Int)))))] (by decide) ⟨rfl, rfl, rfl, rfl, trivial⟩)
     ·clear hkk27
      rcases Bool.eq_false_or_eq_true u8.Gone with hb29 | hb29
      ·replace h := bif_t hb29 h
       rcases Bool.eq_false_or_eq_true (!(u8.Item == (S_api_Item.mk ([] : List UInt8) (0 : Int) (0 : Int) (0 : Int) ([] : List UInt8)))) with hb30 | hb30
       ·replace h := bif_t hb30 h
        refine aw_region_draw 34 [(31, (fun u => fEq u (ptr g11 1))), (32, (fun u => fEq u (bool true))), (33, (fun u => fEq u (bool true))), (34, (fun u => fEq u (bool (u8.Item == (S_api_Item.mk ([] : List UInt8) (0 : Int) (0 : Int) (0 : Int) ([] : List UInt8)))))), (35, (fun u => fEq u (bool true))), (36, (fun u => fEq u (bool true))), (37, (fun u => fEq u (bool true))), (38, (fun u => fEq u undef)), (39, (fun u => fEq u undef)), (40, (fun u => fEq u undef)), (41, (fun u => fEq u undef)), (42, (fun u => fEq u undef)), (43, (fun u => fEq u undef)), (44, (fun u => fEq u undef)), (45, (fun u => fEq u undef)), (46, (fun u => fEq u undef)), (47, (fun u => fEq u undef)), (48, (fun u => fEq u undef)), (49, (fun u => fEq u (bool true))), (50, (fun u => fEq u (bool true))), (51, (fun u => fEq u undef)), (52, (fun u => fEq u undef)), (53, (fun u => fEq u undef)), (54, (fun u => fEq u undef)), (55, (fun u => fEq u undef)), (56, (fun u => fEq u undef)), (57, (fun u => fEq u undef)), (58, (fun u => fEq u undef)), (59, (fun u => fEq u undef)), (60, (fun u => fEq u undef)), (61, (fun u => fEq u undef)), (62, (fun u => fEq u undef)), (63, (fun u => fEq u undef)), (64, (fun u => fEq u undef))] (tab [(0, v0_0), (3, (iq l4i13)), (4, (pq g11)), (7, (bool (u8.Item == (S_api_Item.mk ([] : List UInt8) (0 : Int) (0 : Int) (0 : Int) ([] : List UInt8))))), (11, v0_0), (12, (iq (a0.length : Int))), (13, (iq l4i13))]) mixed (by kernel_rfl) rfl rfl rfl (fun a hs => hs.tab _ (allT_mem ⟨rfl, rfl, rfl, rfl, rfl, rfl, rfl, trivial⟩)) ⟨⟨rfl, ld_val (ov_fieldA (p := 1) rfl Tryd.underlying43 rfl sz4 rfl rfl rfl)⟩, ⟨rfl, ld_eq (j := 0) rfl rfl (ld_val (ov_cast (by first | rw [hb29] | rfl) (ov_load (i := 1) (v := (bool u8.Gone)) rfl rfl Tryd.underlying4 sz4 rfl rfl rfl rfl)))⟩, ⟨rfl, ld_eq (j := 1) rfl rfl (ld_val (ov_cast (by first | rw [hb29] | rfl) (ov_move rfl rfl)))⟩, ⟨rfl, ld_eq (j := 2) rfl rfl (ld_val (ov_move rfl rfl))⟩, ⟨rfl, ld_eq (j := 2) rfl rfl (ld_eq (j := 3) rfl rfl (ld_val (ov_cast (by first | rw [hb30] | rfl) (ov_not rfl rfl))))⟩, ⟨rfl, ld_eq (j := 2) rfl rfl (ld_eq (j := 4) rfl rfl (ld_val (ov_cast (by first | rw [hb30] | rfl) (ov_pick_t rfl rfl rfl))))⟩, ⟨rfl, ld_eq (j := 5) rfl rfl (ld_val (ov_cast (by first | rw [hb30] | rfl) (ov_move rfl rfl)))⟩, ⟨rfl, ld_eq (j := 6) rfl rfl (ld_skip)⟩, ⟨rfl, ld_eq (j := 6) rfl rfl (ld_skip)⟩, ⟨rfl, ld_eq (j := 6) rfl rfl (ld_skip)⟩, ⟨rfl, ld_eq (j := 6) rfl rfl (ld_skip)⟩, ⟨rfl, ld_eq (j := 10) rfl rfl (ld_skip)⟩, ⟨rfl, ld_eq (j := 10) rfl rfl (ld_skip)⟩, ⟨rfl, ld_eq (j := 10) rfl rfl (ld_skip)⟩, ⟨rfl, ld_eq (j := 10) rfl rfl (ld_skip)⟩, ⟨rfl, ld_eq (j := 10) rfl rfl (ld_skip)⟩, ⟨rfl, ld_eq (j := 10) rfl rfl (ld_skip)⟩, ⟨rfl, ld_eq (j := 6) rfl rfl (ld_skip)⟩, ⟨rfl, ld_eq (j := 6) rfl rfl (ld_eq (j := 17) rfl rfl (ld_val (ov_pick_t rfl rfl rfl)))⟩, ⟨rfl, ld_eq (j := 18) rfl rfl (ld_val (ov_move rfl rfl))⟩, ⟨rfl, ld_eq (j := 19) rfl rfl (ld_skip)⟩, ⟨rfl, ld_eq (j := 19) rfl rfl (ld_skip)⟩, ⟨rfl, ld_eq (j := 19) rfl rfl (ld_skip)⟩, ⟨rfl, ld_eq (j := 22) rfl rfl (ld_skip)⟩, ⟨rfl, ld_eq (j := 22) rfl rfl (ld_skip)⟩, ⟨rfl, ld_eq (j := 22) rfl rfl (ld_skip)⟩, ⟨rfl, ld_eq (j := 22) rfl rfl (ld_skip)⟩, ⟨rfl, ld_eq (j := 22) rfl rfl (ld_skip)⟩, ⟨rfl, ld_eq (j := 22) rfl rfl (ld_skip)⟩, ⟨rfl, ld_eq (j := 22) rfl rfl (ld_skip)⟩, ⟨rfl, ld_eq (j := 22) rfl rfl (ld_skip)⟩, ⟨rfl, ld_eq (j := 22) rfl rfl (ld_skip)⟩, ⟨rfl, ld_eq (j := 22) rfl rfl (ld_skip)⟩, ⟨rfl, ld_eq (j := 19) rfl rfl (ld_skip)⟩, trivial⟩ ?_
        refine tl_eq 19 rfl ?_
        refine tl_eq 33 rfl ?_
        refine tl_done ?_
        refine al_val (ov_pick_t rfl rfl rfl) ?_
        refine al_nil ?_
        exact aq_join true h (fun w a hm hs => norm hm hs [] [1, 0, 2, 3] [(0, v0_0), (11, v0_0), (12, (iq (a0.length : Int))), (13, (iq l4i13)), (65, (bool true))] (by decide) ⟨rfl, rfl, rfl, rfl, rfl, trivial⟩)
       ·replace h := bif_f hb30 h
        rcases Bool.eq_false_or_eq_true (!true) with hb31 | hb31
        ·replace h := bif_t hb31 h
         rcases Bool.eq_false_or_eq_true (!(u8.Item.Path == u8.Path)) with hb32 | hb32
         ·replace h := bif_t hb32 h
          refine aw_region_draw 34 [(31, (fun u => fEq u (ptr g11 1))), (32, (fun u => fEq u (bool true))), (33, (fun u => fEq u (bool true))), (34, (fun u => fEq u (bool (u8.Item == (S_api_Item.mk ([] : List UInt8) (0 : Int) (0 : Int) (0 : Int) ([] : List UInt8)))))), (35, (fun u => fEq u (bool false))), (36, (fun u => fEq u (bool false))), (37, (fun u => fEq u (bool false))), (38, (fun u => fEq u (ptr g11 1))), (39, (fun u => fEq u (bool true))), (40, (fun u => fEq u (bool true))), (41, (fun u => fEq u (bool true))), (42, (fun u => fEq u (ptr g11 2))), (43, (fun u => fEq u (ptr g11 2))), (44, (fun u => fEq u (str u8.Item.Path))), (45, (fun u => fEq u (pq g11))), (46, (fun u => fEq u (str u8.Path))), (47, (fun u => fEq u (bool true))), (48, (fun u => fEq u (bool true))), (49, (fun u => fEq u (bool true))), (50, (fun u => fEq u (bool true))), (51, (fun u => fEq u undef)), (52, (fun u => fEq u undef)), (53, (fun u => fEq u undef)), (54, (fun u => fEq u undef)), (55, (fun u => fEq u undef)), (56, (fun u => fEq u undef)), (57, (fun u => fEq u undef)), (58, (fun u => fEq u undef)), (59, (fun u => fEq u undef)), (60, (fun u => fEq u undef)), (61, (fun u => fEq u undef)), (62, (fun u => fEq u undef)), (63, (fun u => fEq u undef)), (64, (fun u => fEq u undef))] (tab [(0, v0_0), (3, (iq l4i13)), (4, (pq g11)), (7, (bool (u8.Item == (S_api_Item.mk ([] : List UInt8) (0 : Int) (0 : Int) (0 : Int) ([] : List UInt8))))), (11, v0_0), (12, (iq (a0.length : Int))), (13, (iq l4i13))]) mixed (by kernel_rfl) rfl rfl rfl (fun a hs => hs.tab _ (allT_mem ⟨rfl, rfl, rfl, rfl, rfl, rfl, rfl, trivial⟩)) ⟨⟨rfl, ld_val (ov_fieldA (p := 1) rfl Tryd.underlying43 rfl sz4 rfl rfl rfl)⟩, ⟨rfl, ld_eq (j := 0) rfl rfl (ld_val (ov_cast (by first | rw [hb29] | rfl) (ov_load (i := 1) (v := (bool u8.Gone)) rfl rfl Tryd.underlying4 sz4 rfl rfl rfl rfl)))⟩, ⟨rfl, ld_eq (j := 1) rfl rfl (ld_val (ov_cast (by first | rw [hb29] | rfl) (ov_move rfl rfl)))⟩, ⟨rfl, ld_eq (j := 2) rfl rfl (ld_val (ov_move rfl rfl))⟩, ⟨rfl, ld_eq (j := 2) rfl rfl (ld_eq (j := 3) rfl rfl (ld_val (ov_cast (by first | rw [hb30] | rfl) (ov_not rfl rfl))))⟩, ⟨rfl, ld_eq (j := 2) rfl rfl (ld_eq (j := 4) rfl rfl (ld_val (ov_cast (by first | rw [hb30] | rfl) (ov_pick_t rfl rfl rfl))))⟩, ⟨rfl, ld_eq (j := 5) rfl rfl (ld_val (ov_cast (by first | rw [hb30] | rfl) (ov_move rfl rfl)))⟩, ⟨rfl, ld_eq (j := 6) rfl rfl (ld_val (ov_fieldA (p := 1) rfl Tryd.underlying43 rfl sz4 rfl rfl rfl))⟩, ⟨rfl, ld_eq (j := 6) rfl rfl (ld_eq (j := 7) rfl rfl (ld_val (ov_cast (by first | rw [hb29] | rfl) (ov_load (i := 1) (v := (bool u8.Gone)) rfl rfl Tryd.underlying4 sz4 rfl rfl rfl rfl))))⟩, ⟨rfl, ld_eq (j := 6) rfl rfl (ld_eq (j := 8) rfl rfl (ld_val (ov_cast (by first | rw [hb31] | rfl) (ov_not rfl rfl))))⟩, ⟨rfl, ld_eq (j := 6) rfl rfl (ld_eq (j := 9) rfl rfl (ld_val (ov_cast (by first | rw [hb31] | rfl) (ov_move rfl rfl))))⟩, ⟨rfl, ld_eq (j := 10) rfl rfl (ld_val (ov_fieldA (p := 2) rfl Tryd.underlying43 rfl sz41 rfl rfl rfl))⟩, ⟨rfl, ld_eq (j := 10) rfl rfl (ld_eq (j := 11) rfl rfl (ld_val (ov_fieldA (p := 2) rfl Tryd.underlying41 rfl sz9 rfl rfl rfl)))⟩, ⟨rfl, ld_eq (j := 10) rfl rfl (ld_eq (j := 12) rfl rfl (ld_val (ov_load (i := 1) (v := (str u8.Item.Path)) rfl rfl Tryd.underlying9 sz9 rfl rfl rfl rfl)))⟩, ⟨rfl, ld_eq (j := 10) rfl rfl (ld_val (ov_fieldA (p := 0) rfl Tryd.underlying43 rfl sz9 rfl rfl rfl))⟩, ⟨rfl, ld_eq (j := 10) rfl rfl (ld_eq (j := 14) rfl rfl (ld_val (ov_load (i := 1) (v := (str u8.Path)) rfl rfl Tryd.underlying9 sz9 rfl rfl rfl rfl)))⟩, ⟨rfl, ld_eq (j := 10) rfl rfl (ld_eq (j := 13) rfl rfl (ld_eq (j := 15) rfl rfl (ld_val (ov_cast (by first | rw [hb32] | rfl) (ov_strCmp rfl rfl rfl rfl)))))⟩, ⟨rfl, ld_eq (j := 6) rfl rfl (ld_eq (j := 10) rfl rfl (ld_eq (j := 16) rfl rfl (ld_val (ov_cast (by first | rw [hb32] | rfl) (ov_pick_t rfl rfl rfl)))))⟩, ⟨rfl, ld_eq (j := 6) rfl rfl (ld_eq (j := 17) rfl rfl (ld_val (ov_cast (by first | rw [hb32] | rfl) (ov_pick_f rfl rfl rfl))))⟩, ⟨rfl, ld_eq (j := 18) rfl rfl (ld_val (ov_cast (by first | rw [hb32] | rfl) (ov_move rfl rfl)))⟩, ⟨rfl, ld_eq (j := 19) rfl rfl (ld_skip)⟩, ⟨rfl, ld_eq (j := 19) rfl rfl (ld_skip)⟩, ⟨rfl, ld_eq (j := 19) rfl rfl (ld_skip)⟩, ⟨rfl, ld_eq (j := 22) rfl rfl (ld_skip)⟩, ⟨rfl, ld_eq (j := 22) rfl rfl (ld_skip)⟩, ⟨rfl, ld_eq (j := 22) rfl rfl (ld_skip)⟩, ⟨rfl, ld_eq (j := 22) rfl rfl (ld_skip)⟩, ⟨rfl, ld_eq (j := 22) rfl rfl (ld_skip)⟩, ⟨rfl, ld_eq (j := 22) rfl rfl (ld_skip)⟩, ⟨rfl, ld_eq (j := 22) rfl rfl (ld_skip)⟩, ⟨rfl, ld_eq (j := 22) rfl rfl (ld_skip)⟩, ⟨rfl, ld_eq (j := 22) rfl rfl (ld_skip)⟩, ⟨rfl, ld_eq (j := 22) rfl rfl (ld_skip)⟩, ⟨rfl, ld_eq (j := 19) rfl rfl (ld_skip)⟩, trivial⟩ ?_
          refine tl_eq 19 rfl ?_
          refine tl_eq 33 rfl ?_
          refine tl_done ?_
          refine al_val (ov_pick_t rfl rfl rfl) ?_
          refine al_nil ?_
          exact aq_join true h (fun w a hm hs => norm hm hs [] [1, 0, 2, 3] [(0, v0_0), (11, v0_0), (12, (iq (a0.length : Int))), (13, (iq l4i13)), (65, (bool true))] (by decide) ⟨rfl, rfl, rfl, rfl, rfl, trivial⟩)
         ·replace h := bif_f hb32 h
          rcases Bool.eq_false_or_eq_true (decide (l4i13 > (0 : Int))) with hb33 | hb33
          ·replace h := bif_t hb33 h
           obtain ⟨u34, hu35, h⟩ := opt_some h
           obtain ⟨r39, hc38, h⟩ := opt_some h
           refine aw_region_draw 34 [(31, (fun u => fEq u (ptr g11 1))), (32, (fun u => fEq u (bool true))), (33, (fun u => fEq u (bool true))), (34, (fun u => fEq u (bool (u8.Item == (S_api_Item.mk ([] : List UInt8) (0 : Int) (0 : Int) (0 : Int) ([] : List UInt8)))))), (35, (fun u => fEq u (bool false))), (36, (fun u => fEq u (bool false))), (37, (fun u => fEq u (bool false))), (38, (fun u => fEq u (ptr g11 1))), (39, (fun u => fEq u (bool true))), (40, (fun u => fEq u (bool true))), (41, (fun u => fEq u (bool true))), (42, (fun u => fEq u (ptr g11 2))), (43, (fun u => fEq u (ptr g11 2))), (44, (fun u => fEq u (str u8.Item.Path))), (45, (fun u => fEq u (pq g11))), (46, (fun u => fEq u (str u8.Path))), (47, (fun u => fEq u (bool false))), (48, (fun u => fEq u (bool false))), (49, (fun u => fEq u (bool false))), (50, (fun u => fEq u (bool false))), (51, (fun u => fEq u (iq l4i13))), (52, (fun u => fEq u (bool true))), (53, (fun u => fEq u (bool true))), (54, (fun u => fEq u v0_0)), (55, (fun u => fEq u (iq l4i13))), (56, (fun u => fEq u (iq (wq (l4i13 - (1 : Int)))))), (57, (fun p36 => (fPtr tyS_api_Edit p36 u34))), (58, (fun p37 => (fPtr tyStr p37 u34.Path))), (59, (fun u => fEq u (str u34.Path))), (60, (fun u => fEq u (pq g11))), (61, (fun u => fEq u (str u8.Path))), (62, (fun u => fEq u (iq r39))), (63, (fun u => fEq u (bool (decide (r39 ≥ (0 : Int)))))), (64, (fun u => fEq u (bool (decide (r39 ≥ (0 : Int))))))] (tab [(0, v0_0), (3, (iq l4i13)), (4, (pq g11)), (7, (bool (u8.Item == (S_api_Item.mk ([] : List UInt8) (0 : Int) (0 : Int) (0 : Int) ([] : List UInt8))))), (11, v0_0), (12, (iq (a0.length : Int))), (13, (iq l4i13))]) mixed (by kernel_rfl) rfl rfl rfl (fun a hs => hs.tab _ (allT_mem ⟨rfl, rfl, rfl, rfl, rfl, rfl, rfl, trivial⟩)) ⟨⟨rfl, ld_val (ov_fieldA (p := 1) rfl Tryd.underlying43 rfl sz4 rfl rfl rfl)⟩, ⟨rfl, ld_eq (j := 0) rfl rfl (ld_val (ov_cast (by first | rw [hb29] | rfl) (ov_load (i := 1) (v := (bool u8.Gone)) rfl rfl Tryd.underlying4 sz4 rfl rfl rfl rfl)))⟩, ⟨rfl, ld_eq (j := 1) rfl rfl (ld_val (ov_cast (by first | rw [hb29] | rfl) (ov_move rfl rfl)))⟩, ⟨rfl, ld_eq (j := 2) rfl rfl (ld_val (ov_move rfl rfl))⟩, ⟨rfl, ld_eq (j := 2) rfl rfl (ld_eq (j := 3) rfl rfl (ld_val (ov_cast (by first | rw [hb30] | rfl) (ov_not rfl rfl))))⟩, ⟨rfl, ld_eq (j := 2) rfl rfl (ld_eq (j := 4) rfl rfl (ld_val (ov_cast (by first | rw [hb30] | rfl) (ov_pick_t rfl rfl rfl))))⟩, ⟨rfl, ld_eq (j := 5) rfl rfl (ld_val (ov_cast (by first | rw [hb30] | rfl) (ov_move rfl rfl)))⟩, ⟨rfl, ld_eq (j := 6) rfl rfl (ld_val (ov_fieldA (p := 1) rfl Tryd.underlying43 rfl sz4 rfl rfl rfl))⟩, ⟨rfl, ld_eq (j := 6) rfl rfl (ld_eq (j := 7) rfl rfl (ld_val (ov_cast (by first | rw [hb29] | rfl) (ov_load (i := 1) (v := (bool u8.Gone)) rfl rfl Tryd.underlying4 sz4 rfl rfl rfl rfl))))⟩, ⟨rfl, ld_eq (j := 6) rfl rfl (ld_eq (j := 8) rfl rfl (ld_val (ov_cast (by first | rw [hb31] | rfl) (ov_not rfl rfl))))⟩, ⟨rfl, ld_eq (j := 6) rfl rfl (ld_eq (j := 9) rfl rfl (ld_val (ov_cast (by first | rw [hb31] | rfl) (ov_move rfl rfl))))⟩, ⟨rfl, ld_eq (j := 10) rfl rfl (ld_val (ov_fieldA (p := 2) rfl Tryd.underlying43 rfl sz41 rfl rfl rfl))⟩, ⟨rfl, ld_eq (j := 10) rfl rfl (ld_eq (j := 11) rfl rfl (ld_val (ov_fieldA (p := 2) rfl Tryd.underlying41 rfl sz9 rfl rfl rfl)))⟩, ⟨rfl, ld_eq (j := 10) rfl rfl (ld_eq (j := 12) rfl rfl (ld_val (ov_load (i := 1) (v := (str u8.Item.Path)) rfl rfl Tryd.underlying9 sz9 rfl rfl rfl rfl)))⟩, ⟨rfl, ld_eq (j := 10) rfl rfl (ld_val (ov_fieldA (p := 0) rfl Tryd.underlying43 rfl sz9 rfl rfl rfl))⟩, ⟨rfl, ld_eq (j := 10) rfl rfl (ld_eq (j := 14) rfl rfl (ld_val (ov_load (i := 1) (v := (str u8.Path)) rfl rfl Tryd.underlying9 sz9 rfl rfl rfl rfl)))⟩, ⟨rfl, ld_eq (j := 10) rfl rfl (ld_eq (j := 13) rfl rfl (ld_eq (j := 15) rfl rfl (ld_val (ov_cast (by first | rw [hb32] | rfl) (ov_strCmp rfl rfl rfl rfl)))))⟩, ⟨rfl, ld_eq (j := 6) rfl rfl (ld_eq (j := 10) rfl rfl (ld_eq (j := 16) rfl rfl (ld_val (ov_cast (by first | rw [hb32] | rfl) (ov_pick_t rfl rfl rfl)))))⟩, ⟨rfl, ld_eq (j := 6) rfl rfl (ld_eq (j := 17) rfl rfl (ld_val (ov_cast (by first | rw [hb32] | rfl) (ov_pick_f rfl rfl rfl))))⟩, ⟨rfl, ld_eq (j := 18) rfl rfl (ld_val (ov_cast (by first | rw [hb32] | rfl) (ov_move rfl rfl)))⟩, ⟨rfl, ld_eq (j := 19) rfl rfl (ld_val (ov_move rfl rfl))⟩, ⟨rfl, ld_eq (j := 19) rfl rfl (ld_eq (j := 20) rfl rfl (ld_val (ov_cast (by first | rw [hb33] | rfl) (ov_int rfl rfl rfl rfl))))⟩, ⟨rfl, ld_eq (j := 19) rfl rfl (ld_eq (j := 21) rfl rfl (ld_val (ov_cast (by first | rw [hb33] | rfl) (ov_move rfl rfl))))⟩, ⟨rfl, ld_eq (j := 22) rfl rfl (ld_val (ov_move rfl rfl))⟩, ⟨rfl, ld_eq (j := 22) rfl rfl (ld_val (ov_move rfl rfl))⟩, ⟨rfl, ld_eq (j := 22) rfl rfl (ld_eq (j := 24) rfl rfl (ld_val (ov_int rfl rfl rfl rfl)))⟩, ⟨rfl, ld_eq (j := 22) rfl rfl (ld_eq (j := 23) rfl rfl (ld_eq (j := 25) rfl rfl (ld_of (of_idxD 1 hu35 rfl rfl rfl Tryd.underlying36 sz43 rfl))))⟩, ⟨rfl, ld_eq (j := 22) rfl rfl (ld_fact (j := 26) rfl rfl (fun p36 => ld_of (of_fieldD (pr := fun (y : S_api_Edit) => y.Path) 0 rfl subS_api_Edit_0 rfl Tryd.underlying43 rfl sz9 rfl rfl)))⟩, ⟨rfl, ld_eq (j := 22) rfl rfl (ld_fact (j := 27) rfl rfl (fun p37 => ld_val (ov_loadP (ds := [(str u34.Path)]) 0 rfl (fun h => h) rfl Tryd.underlying9 sz9 rfl rfl rfl)))⟩, ⟨rfl, ld_eq (j := 22) rfl rfl (ld_val (ov_fieldA (p := 0) rfl Tryd.underlying43 rfl sz9 rfl rfl rfl))⟩, ⟨rfl, ld_eq (j := 22) rfl rfl (ld_eq (j := 29) rfl rfl (ld_val (ov_load (i := 1) (v := (str u8.Path)) rfl rfl Tryd.underlying9 sz9 rfl rfl rfl rfl)))⟩, ⟨rfl, ld_eq (j := 22) rfl rfl (ld_eq (j := 28) rfl rfl (ld_eq (j := 30) rfl rfl (ld_callV (vs := [(str u34.Path), (str u8.Path)]) (f_names_Compare_ok fu u34.Path u8.Path hc38) [] (pre_fz 2 rfl (pre_fz 3 rfl pre_nil)) rfl Tryd.func66 rfl rfl rfl)))⟩, ⟨rfl, ld_eq (j := 22) rfl rfl (ld_eq (j := 31) rfl rfl (ld_val (ov_int rfl rfl rfl rfl)))⟩, ⟨rfl, ld_eq (j := 19) rfl rfl (ld_eq (j := 22) rfl rfl (ld_eq (j := 32) rfl rfl (ld_val (ov_pick_t rfl rfl rfl))))⟩, trivial⟩ ?_
           refine tl_eq 19 rfl ?_
           refine tl_eq 33 rfl ?_
           refine tl_done ?_
           refine al_val (ov_pick_f rfl rfl rfl) ?_
           refine al_nil ?_
           exact aq_join (decide (r39 ≥ (0 : Int))) h (fun w a hm hs => norm hm hs [] [1, 0, 2, 3] [(0, v0_0), (11, v0_0), (12, (iq (a0.length : Int))), (13, (iq l4i13)), (65, (bool (decide (r39 ≥ (0 : Int)))))] (by decide) ⟨rfl, rfl, rfl, rfl, rfl, trivial⟩)
          ·replace h := bif_f hb33 h
           refine aw_region_draw 34 [(31, (fun u => fEq u (ptr g11 1))), (32, (fun u => fEq u (bool true))), (33, (fun u => fEq u (bool true))), (34, (fun u => fEq u (bool (u8.Item == (S_api_Item.mk ([] : List UInt8) (0 : Int) (0 : Int) (0 : Int) ([] : List UInt8)))))), (35, (fun u => fEq u (bool false))), (36, (fun u => fEq u (bool false))), (37, (fun u => fEq u (bool false))), (38, (fun u => fEq u (ptr g11 1))), (39, (fun u => fEq u (bool true))), (40, (fun u => fEq u (bool true))), (41, (fun u => fEq u (bool true))), (42, (fun u => fEq u (ptr g11 2))), (43, (fun u => fEq u (ptr g11 2))), (44, (fun u => fEq u (str u8.Item.Path))), (45, (fun u => fEq u (pq g11))), (46, (fun u => fEq u (str u8.Path))), (47, (fun u => fEq u (bool false))), (48, (fun u => fEq u (bool false))), (49, (fun u => fEq u (bool false))), (50, (fun u => fEq u (bool false))), (51, (fun u => fEq u (iq l4i13))), (52, (fun u => fEq u (bool false))), (53, (fun u => fEq u (bool false))), (54, (fun u => fEq u undef)), (55, (fun u => fEq u undef)), (56, (fun u => fEq u undef)), (57, (fun u => fEq u undef)), (58, (fun u => fEq u undef)), (59, (fun u => fEq u undef)), (60, (fun u => fEq u undef)), (61, (fun u => fEq u undef)), (62, (fun u => fEq u undef)), (63, (fun u => fEq u undef)), (64, (fun u => fEq u (bool false)))] (tab [(0, v0_0), (3, (iq l4i13)), (4, (pq g11)), (7, (bool (u8.Item == (S_api_Item.mk ([] : List UInt8) (0 : Int) (0 : Int) (0 : Int) ([] : List UInt8))))), (11, v0_0), (12, (iq (a0.length : Int))), (13, (iq l4i13))]) mixed (by kernel_rfl) rfl rfl rfl (fun a hs => hs.tab _ (allT_mem ⟨rfl, rfl, rfl, rfl, rfl, rfl, rfl, trivial⟩)) ⟨⟨rfl, ld_val (ov_fieldA (p := 1) rfl Tryd.underlying43 rfl sz4 rfl rfl rfl)⟩, ⟨rfl, ld_eq (j := 0) rfl rfl (ld_val (ov_cast (by first | rw [hb29] | rfl) (ov_load (i := 1) (v := (bool u8.Gone)) rfl rfl Tryd.underlying4 sz4 rfl rfl rfl rfl)))⟩, ⟨rfl, ld_eq (j := 1) rfl rfl (ld_val (ov_cast (by first | rw [hb29] | rfl) (ov_move rfl rfl)))⟩, ⟨rfl, ld_eq (j := 2) rfl rfl (ld_val (ov_move rfl rfl))⟩, ⟨rfl, ld_eq (j := 2) rfl rfl (ld_eq (j := 3) rfl rfl (ld_val (ov_cast (by first | rw [hb30] | rfl) (ov_not rfl rfl))))⟩, ⟨rfl, ld_eq (j := 2) rfl rfl (ld_eq (j := 4) rfl rfl (ld_val (ov_cast (by first | rw [hb30] | rfl) (ov_pick_t rfl rfl rfl))))⟩, ⟨rfl, ld_eq (j := 5) rfl rfl (ld_val (ov_cast (by first | rw [hb30] | rfl) (ov_move rfl rfl)))⟩, ⟨rfl, ld_eq (j := 6) rfl rfl (ld_val (ov_fieldA (p := 1) rfl Tryd.underlying43 rfl sz4 rfl rfl rfl))⟩, ⟨rfl, ld_eq (j := 6) rfl rfl (ld_eq (j := 7) rfl rfl (ld_val (ov_cast (by first | rw [hb29] | rfl) (ov_load (i := 1) (v := (bool u8.Gone)) rfl rfl Tryd.underlying4 sz4 rfl rfl rfl rfl))))⟩, ⟨rfl, ld_eq (j := 6) rfl rfl (ld_eq (j := 8) rfl rfl (ld_val (ov_cast (by first | rw [hb31] | rfl) (ov_not rfl rfl))))⟩, ⟨rfl, ld_eq (j := 6) rfl rfl (ld_eq (j := 9) rfl rfl (ld_val (ov_cast (by first | rw [hb31] | rfl) (ov_move rfl rfl))))⟩, ⟨rfl, ld_eq (j := 10) rfl rfl (ld_val (ov_fieldA (p := 2) rfl Tryd.underlying43 rfl sz41 rfl rfl rfl))⟩, ⟨rfl, ld_eq (j := 10) rfl rfl (ld_eq (j := 11) rfl rfl (ld_val (ov_fieldA (p := 2) rfl Tryd.underlying41 rfl sz9 rfl rfl rfl)))⟩, ⟨rfl, ld_eq (j := 10) rfl rfl (ld_eq (j := 12) rfl rfl (ld_val (ov_load (i := 1) (v := (str u8.Item.Path)) rfl rfl Tryd.underlying9 sz9 rfl rfl rfl rfl)))⟩, ⟨rfl, ld_eq (j := 10) rfl rfl (ld_val (ov_fieldA (p := 0) rfl Tryd.underlying43 rfl sz9 rfl rfl rfl))⟩, ⟨rfl, ld_eq (j := 10) rfl rfl (ld_eq (j := 14) rfl rfl (ld_val (ov_load (i := 1) (v := (str u8.Path)) rfl rfl Tryd.underlying9 sz9 rfl rfl rfl rfl)))⟩, ⟨rfl, ld_eq (j := 10) rfl rfl (ld_eq (j := 13) rfl rfl (ld_eq (j := 15) rfl rfl (ld_val (ov_cast (by first | rw [hb32] | rfl) (ov_strCmp rfl rfl rfl rfl)))))⟩, ⟨rfl, ld_eq (j := 6) rfl rfl (ld_eq (j := 10) rfl rfl (ld_eq (j := 16) rfl rfl (ld_val (ov_cast (by first | rw [hb32] | rfl) (ov_pick_t rfl rfl rfl)))))⟩, ⟨rfl, ld_eq (j := 6) rfl rfl (ld_eq (j := 17) rfl rfl (ld_val (ov_cast (by first | rw [hb32] | rfl) (ov_pick_f rfl rfl rfl))))⟩, ⟨rfl, ld_eq (j := 18) rfl rfl (ld_val (ov_cast (by first | rw [hb32] | rfl) (ov_move rfl rfl)))⟩, ⟨rfl, ld_eq (j := 19) rfl rfl (ld_val (ov_move rfl rfl))⟩, ⟨rfl, ld_eq (j := 19) rfl rfl (ld_eq (j := 20) rfl rfl (ld_val (ov_cast (by first | rw [hb33] | rfl) (ov_int rfl rfl rfl rfl))))⟩, ⟨rfl, ld_eq (j := 19) rfl rfl (ld_eq (j := 21) rfl rfl (ld_val (ov_cast (by first | rw [hb33] | rfl) (ov_move rfl rfl))))⟩, ⟨rfl, ld_eq (j := 22) rfl rfl (ld_skip)⟩, ⟨rfl, ld_eq (j := 22) rfl rfl (ld_skip)⟩, ⟨rfl, ld_eq (j := 22) rfl rfl (ld_skip)⟩, ⟨rfl, ld_eq (j := 22) rfl rfl (ld_skip)⟩, ⟨rfl, ld_eq (j := 22) rfl rfl (ld_skip)⟩, ⟨rfl, ld_eq (j := 22) rfl rfl (ld_skip)⟩, ⟨rfl, ld_eq (j := 22) rfl rfl (ld_skip)⟩, ⟨rfl, ld_eq (j := 22) rfl rfl (ld_skip)⟩, ⟨rfl, ld_eq (j := 22) rfl rfl (ld_skip)⟩, ⟨rfl, ld_eq (j := 22) rfl rfl (ld_skip)⟩, ⟨rfl, ld_eq (j := 19) rfl rfl (ld_eq (j := 22) rfl rfl (ld_eq (j := 32) rfl rfl (ld_val (ov_pick_f rfl rfl rfl))))⟩, trivial⟩ ?_
           refine tl_eq 19 rfl ?_
           refine tl_eq 33 rfl ?_
           refine tl_done ?_
           refine al_val (ov_pick_f rfl rfl rfl) ?_
           refine al_nil ?_
           exact aq_join false h (fun w a hm hs => norm hm hs [] [1, 0, 2, 3] [(0, v0_0), (11, v0_0), (12, (iq (a0.length : Int))), (13, (iq l4i13)), (65, (bool false))] (by decide) ⟨rfl, rfl, rfl, rfl, rfl, trivial⟩)
        ·replace h := bif_f hb31 h
         rcases Bool.eq_false_or_eq_true (decide (l4i13 > (0 : Int))) with hb40 | hb40
         ·replace h := bif_t hb40 h
          obtain ⟨u41, hu42, h⟩ := opt_some h
          obtain ⟨r46, hc45, h⟩ := opt_some h
          refine aw_region_draw 34 [(31, (fun u => fEq u (ptr g11 1))), (32, (fun u => fEq u (bool true))), (33, (fun u => fEq u (bool true))), (34, (fun u => fEq u (bool (u8.Item == (S_api_Item.mk ([] : List UInt8) (0 : Int) (0 : Int) (0 : Int) ([] : List UInt8)))))), (35, (fun u => fEq u (bool false))), (36, (fun u => fEq u (bool false))), (37, (fun u => fEq u (bool false))), (38, (fun u => fEq u (ptr g11 1))), (39, (fun u => fEq u (bool true))), (40, (fun u => fEq u (bool false))), (41, (fun u => fEq u (bool false))), (42, (fun u => fEq u undef)), (43, (fun u => fEq u undef)), (44, (fun u => fEq u undef)), (45, (fun u => fEq u undef)), (46, (fun u => fEq u undef)), (47, (fun u => fEq u undef)), (48, (fun u => fEq u (bool false))), (49, (fun u => fEq u (bool false))), (50, (fun u => fEq u (bool false))), (51, (fun u => fEq u (iq l4i13))), (52, (fun u => fEq u (bool true))), (53, (fun u => fEq u (bool true))), (54, (fun u => fEq u v0_0)), (55, (fun u => fEq u (iq l4i13))), (56, (fun u => fEq u (iq (wq (l4i13 - (1 : Int)))))), (57, (fun p43 => (fPtr tyS_api_Edit p43 u41))), (58, (fun p44 => (fPtr tyStr p44 u41.Path))), (59, (fun u => fEq u (str u41.Path))), (60, (fun u => fEq u (pq g11))), (61, (fun u => fEq u (str u8.Path))), (62, (fun u => fEq u (iq r46))), (63, (fun u => fEq u (bool (decide (r46 ≥ (0 : Int)))))), (64, (fun u => fEq u (bool (decide (r46 ≥ (0 : Int))))))] (tab [(0, v0_0), (3, (iq l4i13)), (4, (pq g11)), (7, (bool (u8.Item == (S_api_Item.mk ([] : List UInt8) (0 : Int) (0 : Int) (0 : Int) ([] : List UInt8))))), (11, v0_0), (12, (iq (a0.length : Int))), (13, (iq l4i13))]) mixed (by kernel_rfl) rfl rfl rfl (fun a hs => hs.tab _ (allT_mem ⟨rfl, rfl, rfl, rfl, rfl, rfl, rfl, trivial⟩)) ⟨⟨rfl, ld_val (ov_fieldA (p := 1) rfl Tryd.underlying43 rfl sz4 rfl rfl rfl)⟩, ⟨rfl, ld_eq (j := 0) rfl rfl (ld_val (ov_cast (by first | rw [hb29] | rfl) (ov_load (i := 1) (v := (bool u8.Gone)) rfl rfl Tryd.underlying4 sz4 rfl rfl rfl rfl)))⟩, ⟨rfl, ld_eq (j := 1) rfl rfl (ld_val (ov_cast (by first | rw [hb29] | rfl) (ov_move rfl rfl)))⟩, ⟨rfl, ld_eq (j := 2) rfl rfl (ld_val (ov_move rfl rfl))⟩, ⟨rfl, ld_eq (j := 2) rfl rfl (ld_eq (j := 3) rfl rfl (ld_val (ov_cast (by first | rw [hb30] | rfl) (ov_not rfl rfl))))⟩, ⟨rfl, ld_eq (j := 2) rfl rfl (ld_eq (j := 4) rfl rfl (ld_val (ov_cast (by first | rw [hb30] | rfl) (ov_pick_t rfl rfl rfl))))⟩, ⟨rfl, ld_eq (j := 5) rfl rfl (ld_val (ov_cast (by first | rw [hb30] | rfl) (ov_move rfl rfl)))⟩, ⟨rfl, ld_eq (j := 6) rfl rfl (ld_val (ov_fieldA (p := 1) rfl Tryd.underlying43 rfl sz4 rfl rfl rfl))⟩, ⟨rfl, ld_eq (j := 6) rfl rfl (ld_eq (j := 7) rfl rfl (ld_val (ov_cast (by first | rw [hb29] | rfl) (ov_load (i := 1) (v := (bool u8.Gone)) rfl rfl Tryd.underlying4 sz4 rfl rfl rfl rfl))))⟩, ⟨rfl, ld_eq (j := 6) rfl rfl (ld_eq (j := 8) rfl rfl (ld_val (ov_cast (by first | rw [hb31] | rfl) (ov_not rfl rfl))))⟩, ⟨rfl, ld_eq (j := 6) rfl rfl (ld_eq (j := 9) rfl rfl (ld_val (ov_cast (by first | rw [hb31] | rfl) (ov_move rfl rfl))))⟩, ⟨rfl, ld_eq (j := 10) rfl rfl (ld_skip)⟩, ⟨rfl, ld_eq (j := 10) rfl rfl (ld_skip)⟩, ⟨rfl, ld_eq (j := 10) rfl rfl (ld_skip)⟩, ⟨rfl, ld_eq (j := 10) rfl rfl (ld_skip)⟩, ⟨rfl, ld_eq (j := 10) rfl rfl (ld_skip)⟩, ⟨rfl, ld_eq (j := 10) rfl rfl (ld_skip)⟩, ⟨rfl, ld_eq (j := 6) rfl rfl (ld_eq (j := 10) rfl rfl (ld_eq (j := 16) rfl rfl (ld_val (ov_pick_f rfl rfl rfl))))⟩, ⟨rfl, ld_eq (j := 6) rfl rfl (ld_eq (j := 17) rfl rfl (ld_val (ov_pick_f rfl rfl rfl)))⟩, ⟨rfl, ld_eq (j := 18) rfl rfl (ld_val (ov_move rfl rfl))⟩, ⟨rfl, ld_eq (j := 19) rfl rfl (ld_val (ov_move rfl rfl))⟩, ⟨rfl, ld_eq (j := 19) rfl rfl (ld_eq (j := 20) rfl rfl (ld_val (ov_cast (by first | rw [hb40] | rfl) (ov_int rfl rfl rfl rfl))))⟩, ⟨rfl, ld_eq (j := 19) rfl rfl (ld_eq (j := 21) rfl rfl (ld_val (ov_cast (by first | rw [hb40] | rfl) (ov_move rfl rfl))))⟩, ⟨rfl, ld_eq (j := 22) rfl rfl (ld_val (ov_move rfl rfl))⟩, ⟨rfl, ld_eq (j := 22) rfl rfl (ld_val (ov_move rfl rfl))⟩, ⟨rfl, ld_eq (j := 22) rfl rfl (ld_eq (j := 24) rfl rfl (ld_val (ov_int rfl rfl rfl rfl)))⟩, ⟨rfl, ld_eq (j := 22) rfl rfl (ld_eq (j := 23) rfl rfl (ld_eq (j := 25) rfl rfl (ld_of (of_idxD 1 hu42 rfl rfl rfl Tryd.underlying36 sz43 rfl))))⟩, ⟨rfl, ld_eq (j := 22) rfl rfl (ld_fact (j := 26) rfl rfl (fun p43 => ld_of (of_fieldD (pr := fun (y : S_api_Edit) => y.Path) 0 rfl subS_api_Edit_0 rfl Tryd.underlying43 rfl sz9 rfl rfl)))⟩, ⟨rfl, ld_eq (j := 22) rfl rfl (ld_fact (j := 27) rfl rfl (fun p44 => ld_val (ov_loadP (ds := [(str u41.Path)]) 0 rfl (fun h => h) rfl Tryd.underlying9 sz9 rfl rfl rfl)))⟩, ⟨rfl, ld_eq (j := 22) rfl rfl (ld_val (ov_fieldA (p := 0) rfl Tryd.underlying43 rfl sz9 rfl rfl rfl))⟩, ⟨rfl, ld_eq (j := 22) rfl rfl (ld_eq (j := 29) rfl rfl (ld_val (ov_load (i := 1) (v := (str u8.Path)) rfl rfl Tryd.underlying9 sz9 rfl rfl rfl rfl)))⟩, ⟨rfl, ld_eq (j := 22) rfl rfl (ld_eq (j := 28) rfl rfl (ld_eq (j := 30) rfl rfl (ld_callV (vs := [(str u41.Path), (str u8.Path)]) (f_names_Compare_ok fu u41.Path u8.Path hc45) [] (pre_fz 2 rfl (pre_fz 3 rfl pre_nil)) rfl Tryd.func66 rfl rfl rfl)))⟩, ⟨rfl, ld_eq (j := 22) rfl rfl (ld_eq (j := 31) rfl rfl (ld_val (ov_int rfl rfl rfl rfl)))⟩, ⟨rfl, ld_eq (j := 19) rfl rfl (ld_eq (j := 22) rfl rfl (ld_eq (j := 32) rfl rfl (ld_val (ov_pick_t rfl rfl rfl))))⟩, trivial⟩ ?_
          refine tl_eq 19 rfl ?_
          refine tl_eq 33 rfl ?_
          refine tl_done ?_
          refine al_val (ov_pick_f rfl rfl rfl) ?_
          refine al_nil ?_
          exact aq_join (decide (r46 ≥ (0 : Int))) h (fun w a hm hs => norm hm hs [] [1, 0, 2, 3] [(0, v0_0), (11, v0_0), (12, (iq (a0.length : Int))), (13, (iq l4i13)), (65, (bool (decide (r46 ≥ (0 : Int)))))] (by decide) ⟨rfl, rfl, rfl, rfl, rfl, trivial⟩)
         ·replace h := bif_f hb40 h
          refine aw_region_draw 34 [(31, (fun u => fEq u (ptr g11 1))), (32, (fun u => fEq u (bool true))), (33, (fun u => fEq u (bool true))), (34, (fun u => fEq u (bool (u8.Item == (S_api_Item.mk ([] : List UInt8) (0 : Int) (0 : Int) (0 : Int) ([] : List UInt8)))))), (35, (fun u => fEq u (bool false))), (36, (fun u => fEq u (bool false))), (37, (fun u => fEq u (bool false))), (38, (fun u => fEq u (ptr g11 1))), (39, (fun u => fEq u (bool true))), (40, (fun u => fEq u (bool false))), (41, (fun u => fEq u (bool false))), (42, (fun u => fEq u undef)), (43, (fun u => fEq u undef)), (44, (fun u => fEq u undef)), (45, (fun u => fEq u undef)), (46, (fun u => fEq u undef)), (47, (fun u => fEq u undef)), (48, (fun u => fEq u (bool false))), (49, (fun u => fEq u (bool false))), (50, (fun u => fEq u (bool false))), (51, (fun u => fEq u (iq l4i13))), (52, (fun u => fEq u (bool false))), (53, (fun u => fEq u (bool false))), (54, (fun u => fEq u undef)), (55, (fun u => fEq u undef)), (56, (fun u => fEq u undef)), (57, (fun u => fEq u undef)), (58, (fun u => fEq u undef)), (59, (fun u => fEq u undef)), (60, (fun u => fEq u undef)), (61, (fun u => fEq u undef)), (62, (fun u => fEq u undef)), (63, (fun u => fEq u undef)), (64, (fun u => fEq u (bool false)))] (tab [(0, v0_0), (3, (iq l4i13)), (4, (pq g11)), (7, (bool (u8.Item == (S_api_Item.mk ([] : List UInt8) (0 : Int) (0 : Int) (0 : Int) ([] : List UInt8))))), (11, v0_0), (12, (iq (a0.length : Int))), (13, (iq l4i13))]) mixed (by kernel_rfl) rfl rfl rfl (fun a hs => hs.tab _ (allT_mem ⟨rfl, rfl, rfl, rfl, rfl, rfl, rfl, trivial⟩)) ⟨⟨rfl, ld_val (ov_fieldA (p := 1) rfl Tryd.underlying43 rfl sz4 rfl rfl rfl)⟩, ⟨rfl, ld_eq (j := 0) rfl rfl (ld_val (ov_cast (by first | rw [hb29] | rfl) (ov_load (i := 1) (v := (bool u8.Gone)) rfl rfl Tryd.underlying4 sz4 rfl rfl rfl rfl)))⟩, ⟨rfl, ld_eq (j := 1) rfl rfl (ld_val (ov_cast (by first | rw [hb29] | rfl) (ov_move rfl rfl)))⟩, ⟨rfl, ld_eq (j := 2) rfl rfl (ld_val (ov_move rfl rfl))⟩, ⟨rfl, ld_eq (j := 2) rfl rfl (ld_eq (j := 3) rfl rfl (ld_val (ov_cast (by first | rw [hb30] | rfl) (ov_not rfl rfl))))⟩, ⟨rfl, ld_eq (j := 2) rfl rfl (ld_eq (j := 4) rfl rfl (ld_val (ov_cast (by first | rw [hb30] | rfl) (ov_pick_t rfl rfl rfl))))⟩, ⟨rfl, ld_eq (j := 5) rfl rfl (ld_val (ov_cast (by first | rw [hb30] | rfl) (ov_move rfl rfl)))⟩, ⟨rfl, ld_eq (j := 6) rfl rfl (ld_val (ov_fieldA (p := 1) rfl Tryd.underlying43 rfl sz4 rfl rfl rfl))⟩, ⟨rfl, ld_eq (j := 6) rfl rfl (ld_eq (j := 7) rfl rfl (ld_val (ov_cast (by first | rw [hb29] | rfl) (ov_load (i := 1) (v := (bool u8.Gone)) rfl rfl Tryd.underlying4 sz4 rfl rfl rfl rfl))))⟩, ⟨rfl, ld_eq (j := 6) rfl rfl (ld_eq (j := 8) rfl rfl (ld_val (ov_cast (by first | rw [hb31] | rfl) (ov_not rfl rfl))))⟩, ⟨rfl, ld_eq (j := 6) rfl rfl (ld_eq (j := 9) rfl rfl (ld_val (ov_cast (by first | rw [hb31] | rfl) (ov_move rfl rfl))))⟩, ⟨rfl, ld_eq (j := 10) rfl rfl (ld_skip)⟩, ⟨rfl, ld_eq (j := 10) rfl rfl (ld_skip)⟩, ⟨rfl, ld_eq (j := 10) rfl rfl (ld_skip)⟩, ⟨rfl, ld_eq (j := 10) rfl rfl (ld_skip)⟩, ⟨rfl, ld_eq (j := 10) rfl rfl (ld_skip)⟩, ⟨rfl, ld_eq (j := 10) rfl rfl (ld_skip)⟩, ⟨rfl, ld_eq (j := 6) rfl rfl (ld_eq (j := 10) rfl rfl (ld_eq (j := 16) rfl rfl (ld_val (ov_pick_f rfl rfl rfl))))⟩, ⟨rfl, ld_eq (j := 6) rfl rfl (ld_eq (j := 17) rfl rfl (ld_val (ov_pick_f rfl rfl rfl)))⟩, ⟨rfl, ld_eq (j := 18) rfl rfl (ld_val (ov_move rfl rfl))⟩, ⟨rfl, ld_eq (j := 19) rfl rfl (ld_val (ov_move rfl rfl))⟩, ⟨rfl, ld_eq (j := 19) rfl rfl (ld_eq (j := 20) rfl rfl (ld_val (ov_cast (by first | rw [hb40] | rfl) (ov_int rfl rfl rfl rfl))))⟩, ⟨rfl, ld_eq (j := 19) rfl rfl (ld_eq (j := 21) rfl rfl (ld_val (ov_cast (by first | rw [hb40] | rfl) (ov_move rfl rfl))))⟩, ⟨rfl, ld_eq (j := 22) rfl rfl (ld_skip)⟩, ⟨rfl, ld_eq (j := 22) rfl rfl (ld_skip)⟩, ⟨rfl, ld_eq (j := 22) rfl rfl (ld_skip)⟩, ⟨rfl, ld_eq (j := 22) rfl rfl (ld_skip)⟩, ⟨rfl, ld_eq (j := 22) rfl rfl (ld_skip)⟩, ⟨rfl, ld_eq (j := 22) rfl rfl (ld_skip)⟩, ⟨rfl, ld_eq (j := 22) rfl rfl (ld_skip)⟩, ⟨rfl, ld_eq (j := 22) rfl rfl (ld_skip)⟩, ⟨rfl, ld_eq (j := 22) rfl rfl (ld_skip)⟩, ⟨rfl, ld_eq (j := 22) rfl rfl (ld_skip)⟩, ⟨rfl, ld_eq (j := 19) rfl rfl (ld_eq (j := 22) rfl rfl (ld_eq (j := 32) rfl rfl (ld_val (ov_pick_f rfl rfl rfl))))⟩, trivial⟩ ?_
          refine tl_eq 19 rfl ?_
          refine tl_eq 33 rfl ?_
          refine tl_done ?_
          refine al_val (ov_pick_f rfl rfl rfl) ?_
          refine al_nil ?_
          exact aq_join false h (fun w a hm hs => norm hm hs [] [1, 0, 2, 3] [(0, v0_0), (11, v0_0), (12, (iq (a0.length : Int))), (13, (iq l4i13)), (65, (bool false))] (by decide) ⟨rfl, rfl, rfl, rfl, rfl, trivial⟩)
      ·replace h := bif_f hb29 h
       rcases Bool.eq_false_or_eq_true (!false) with hb47 | hb47
       ·replace h := bif_t hb47 h
        rcases Bool.eq_false_or_eq_true (!(u8.Item.Path == u8.Path)) with hb48 | hb48
        ·replace h := bif_t hb48 h
         refine aw_region_draw 34 [(31, (fun u => fEq u (ptr g11 1))), (32, (fun u => fEq u (bool false))), (33, (fun u => fEq u (bool false))), (34, (fun u => fEq u undef)), (35, (fun u => fEq u undef)), (36, (fun u => fEq u (bool false))), (37, (fun u => fEq u (bool false))), (38, (fun u => fEq u (ptr g11 1))), (39, (fun u => fEq u (bool false))), (40, (fun u => fEq u (bool true))), (41, (fun u => fEq u (bool true))), (42, (fun u => fEq u (ptr g11 2))), (43, (fun u => fEq u (ptr g11 2))), (44, (fun u => fEq u (str u8.Item.Path))), (45, (fun u => fEq u (pq g11))), (46, (fun u => fEq u (str u8.Path))), (47, (fun u => fEq u (bool true))), (48, (fun u => fEq u (bool true))), (49, (fun u => fEq u (bool true))), (50, (fun u => fEq u (bool true))), (51, (fun u => fEq u undef)), (52, (fun u => fEq u undef)), (53, (fun u => fEq u undef)), (54, (fun u => fEq u undef)), (55, (fun u => fEq u undef)), (56, (fun u => fEq u undef)), (57, (fun u => fEq u undef)), (58, (fun u => fEq u undef)), (59, (fun u => fEq u undef)), (60, (fun u => fEq u undef)), (61, (fun u => fEq u undef)), (62, (fun u => fEq u undef)), (63, (fun u => fEq u undef)), (64, (fun u => fEq u undef))] (tab [(0, v0_0), (3, (iq l4i13)), (4, (pq g11)), (7, (bool (u8.Item == (S_api_Item.mk ([] : List UInt8) (0 : Int) (0 : Int) (0 : Int) ([] : List UInt8))))), (11, v0_0), (12, (iq (a0.length : Int))), (13, (iq l4i13))]) mixed (by kernel_rfl) rfl rfl rfl (fun a hs => hs.tab _ (allT_mem ⟨rfl, rfl, rfl, rfl, rfl, rfl, rfl, trivial⟩)) ⟨⟨rfl, ld_val (ov_fieldA (p := 1) rfl Tryd.underlying43 rfl sz4 rfl rfl rfl)⟩, ⟨rfl, ld_eq (j := 0) rfl rfl (ld_val (ov_cast (by first | rw [hb29] | rfl) (ov_load (i := 1) (v := (bool u8.Gone)) rfl rfl Tryd.underlying4 sz4 rfl rfl rfl rfl)))⟩, ⟨rfl, ld_eq (j := 1) rfl rfl (ld_val (ov_cast (by first | rw [hb29] | rfl) (ov_move rfl rfl)))⟩, ⟨rfl, ld_eq (j := 2) rfl rfl (ld_skip)⟩, ⟨rfl, ld_eq (j := 2) rfl rfl (ld_skip)⟩, ⟨rfl, ld_eq (j := 2) rfl rfl (ld_eq (j := 4) rfl rfl (ld_val (ov_pick_f rfl rfl rfl)))⟩, ⟨rfl, ld_eq (j := 5) rfl rfl (ld_val (ov_move rfl rfl))⟩, ⟨rfl, ld_eq (j := 6) rfl rfl (ld_val (ov_fieldA (p := 1) rfl Tryd.underlying43 rfl sz4 rfl rfl rfl))⟩, ⟨rfl, ld_eq (j := 6) rfl rfl (ld_eq (j := 7) rfl rfl (ld_val (ov_cast (by first | rw [hb29] | rfl) (ov_load (i := 1) (v := (bool u8.Gone)) rfl rfl Tryd.underlying4 sz4 rfl rfl rfl rfl))))⟩, ⟨rfl, ld_eq (j := 6) rfl rfl (ld_eq (j := 8) rfl rfl (ld_val (ov_cast (by first | rw [hb47] | rfl) (ov_not rfl rfl))))⟩, ⟨rfl, ld_eq (j := 6) rfl rfl (ld_eq (j := 9) rfl rfl (ld_val (ov_cast (by first | rw [hb47] | rfl) (ov_move rfl rfl))))⟩, ⟨rfl, ld_eq (j := 10) rfl rfl (ld_val (ov_fieldA (p := 2) rfl Tryd.underlying43 rfl sz41 rfl rfl rfl))⟩, ⟨rfl, ld_eq (j := 10) rfl rfl (ld_eq (j := 11) rfl rfl (ld_val (ov_fieldA (p := 2) rfl Tryd.underlying41 rfl sz9 rfl rfl rfl)))⟩, ⟨rfl, ld_eq (j := 10) rfl rfl (ld_eq (j := 12) rfl rfl (ld_val (ov_load (i := 1) (v := (str u8.Item.Path)) rfl rfl Tryd.underlying9 sz9 rfl rfl rfl rfl)))⟩, ⟨rfl, ld_eq (j := 10) rfl rfl (ld_val (ov_fieldA (p := 0) rfl Tryd.underlying43 rfl sz9 rfl rfl rfl))⟩, ⟨rfl, ld_eq (j := 10) rfl rfl (ld_eq (j := 14) rfl rfl (ld_val (ov_load (i := 1) (v := (str u8.Path)) rfl rfl Tryd.underlying9 sz9 rfl rfl rfl rfl)))⟩, ⟨rfl, ld_eq (j := 10) rfl rfl (ld_eq (j := 13) rfl rfl (ld_eq (j := 15) rfl rfl (ld_val (ov_cast (by first | rw [hb48] | rfl) (ov_strCmp rfl rfl rfl rfl)))))⟩, ⟨rfl, ld_eq (j := 6) rfl rfl (ld_eq (j := 10) rfl rfl (ld_eq (j := 16) rfl rfl (ld_val (ov_cast (by first | rw [hb48] | rfl) (ov_pick_t rfl rfl rfl)))))⟩, ⟨rfl, ld_eq (j := 6) rfl rfl (ld_eq (j := 17) rfl rfl (ld_val (ov_cast (by first | rw [hb48] | rfl) (ov_pick_f rfl rfl rfl))))⟩, ⟨rfl, ld_eq (j := 18) rfl rfl (ld_val (ov_cast (by first | rw [hb48] | rfl) (ov_move rfl rfl)))⟩, ⟨rfl, ld_eq (j := 19) rfl rfl (ld_skip)⟩, ⟨rfl, ld_eq (j := 19) rfl rfl (ld_skip)⟩, ⟨rfl, ld_eq (j := 19) rfl rfl (ld_skip)⟩, ⟨rfl, ld_eq (j := 22) rfl rfl (ld_skip)⟩, ⟨rfl, ld_eq (j := 22) rfl rfl (ld_skip)⟩, ⟨rfl, ld_eq (j := 22) rfl rfl (ld_skip)⟩, ⟨rfl, ld_eq (j := 22) rfl rfl (ld_skip)⟩, ⟨rfl, ld_eq (j := 22) rfl rfl (ld_skip)⟩, ⟨rfl, ld_eq (j := 22) rfl rfl (ld_skip)⟩, ⟨rfl, ld_eq (j := 22) rfl rfl (ld_skip)⟩, ⟨rfl, ld_eq (j := 22) rfl rfl (ld_skip)⟩, ⟨rfl, ld_eq (j := 22) rfl rfl (ld_skip)⟩, ⟨rfl, ld_eq (j := 22) rfl rfl (ld_skip)⟩, ⟨rfl, ld_eq (j := 19) rfl rfl (ld_skip)⟩, trivial⟩ ?_
         refine tl_eq 19 rfl ?_
         refine tl_eq 33 rfl ?_
         refine tl_done ?_
         refine al_val (ov_pick_t rfl rfl rfl) ?_
         refine al_nil ?_
         exact aq_join true h (fun w a hm hs => norm hm hs [] [1, 0, 2, 3] [(0, v0_0), (11, v0_0), (12, (iq (a0.length : Int))), (13, (iq l4i13)), (65, (bool true))] (by decide) ⟨rfl, rfl, rfl, rfl, rfl, trivial⟩)
        ·replace h := bif_f hb48 h
         rcases Bool.eq_false_or_eq_true (decide (l4i13 > (0 : Int))) with hb49 | hb49
         ·replace h := bif_t hb49 h
          obtain ⟨u50, hu51, h⟩ := opt_some h
          obtain ⟨r55, hc54, h⟩ := opt_some h
          refine aw_region_draw 34 [(31, (fun u => fEq u (ptr g11 1))), (32, (fun u => fEq u (bool false))), (33, (fun u => fEq u (bool false))), (34, (fun u => fEq u undef)), (35, (fun u => fEq u undef)), (36, (fun u => fEq u (bool false))), (37, (fun u => fEq u (bool false))), (38, (fun u => fEq u (ptr g11 1))), (39, (fun u => fEq u (bool false))), (40, (fun u => fEq u (bool true))), (41, (fun u => fEq u (bool true))), (42, (fun u => fEq u (ptr g11 2))), (43, (fun u => fEq u (ptr g11 2))), (44, (fun u => fEq u (str u8.Item.Path))), (45, (fun u => fEq u (pq g11))), (46, (fun u => fEq u (str u8.Path))), (47, (fun u => fEq u (bool false))), (48, (fun u => fEq u (bool false))), (49, (fun u => fEq u (bool false))), (50, (fun u => fEq u (bool false))), (51, (fun u => fEq u (iq l4i13))), (52, (fun u => fEq u (bool true))), (53, (fun u => fEq u (bool true))), (54, (fun u => fEq u v0_0)), (55, (fun u => fEq u (iq l4i13))), (56, (fun u => fEq u (iq (wq (l4i13 - (1 : Int)))))), (57, (fun p52 => (fPtr tyS_api_Edit p52 u50))), (58, (fun p53 => (fPtr tyStr p53 u50.Path))), (59, (fun u => fEq u (str u50.Path))), (60, (fun u => fEq u (pq g11))), (61, (fun u => fEq u (str u8.Path))), (62, (fun u => fEq u (iq r55))), (63, (fun u => fEq u (bool (decide (r55 ≥ (0 : Int)))))), (64, (fun u => fEq u (bool (decide (r55 ≥ (0 : Int))))))] (tab [(0, v0_0), (3, (iq l4i13)), (4, (pq g11)), (7, (bool (u8.Item == (S_api_Item.mk ([] : List UInt8) (0 : Int) (0 : Int) (0 : Int) ([] : List UInt8))))), (11, v0_0), (12, (iq (a0.length : Int))), (13, (iq l4i13))]) mixed (by kernel_rfl) rfl rfl rfl (fun a hs => hs.tab _ (allT_mem ⟨rfl, rfl, rfl, rfl, rfl, rfl, rfl, trivial⟩)) ⟨⟨rfl, ld_val (ov_fieldA (p := 1) rfl Tryd.underlying43 rfl sz4 rfl rfl rfl)⟩, ⟨rfl, ld_eq (j := 0) rfl rfl (ld_val (ov_cast (by first | rw [hb29] | rfl) (ov_load (i := 1) (v := (bool u8.Gone)) rfl rfl Tryd.underlying4 sz4 rfl rfl rfl rfl)))⟩, ⟨rfl, ld_eq (j := 1) rfl rfl (ld_val (ov_cast (by first | rw [hb29] | rfl) (ov_move rfl rfl)))⟩, ⟨rfl, ld_eq (j := 2) rfl rfl (ld_skip)⟩, ⟨rfl, ld_eq (j := 2) rfl rfl (ld_skip)⟩, ⟨rfl, ld_eq (j := 2) rfl rfl (ld_eq (j := 4) rfl rfl (ld_val (ov_pick_f rfl rfl rfl)))⟩, ⟨rfl, ld_eq (j := 5) rfl rfl (ld_val (ov_move rfl rfl))⟩, ⟨rfl, ld_eq (j := 6) rfl rfl (ld_val (ov_fieldA (p := 1) rfl Tryd.underlying43 rfl sz4 rfl rfl rfl))⟩, ⟨rfl, ld_eq (j := 6) rfl rfl (ld_eq (j := 7) rfl rfl (ld_val (ov_cast (by first | rw [hb29] | rfl) (ov_load (i := 1) (v := (bool u8.Gone)) rfl rfl Tryd.underlying4 sz4 rfl rfl rfl rfl))))⟩, ⟨rfl, ld_eq (j := 6) rfl rfl (ld_eq (j := 8) rfl rfl (ld_val (ov_cast (by first | rw [hb47] | rfl) (ov_not rfl rfl))))⟩, ⟨rfl, ld_eq (j := 6) rfl rfl (ld_eq (j := 9) rfl rfl (ld_val (ov_cast (by first | rw [hb47] | rfl) (ov_move rfl rfl))))⟩, ⟨rfl, ld_eq (j := 10) rfl rfl (ld_val (ov_fieldA (p := 2) rfl Tryd.underlying43 rfl sz41 rfl rfl rfl))⟩, ⟨rfl, ld_eq (j := 10) rfl rfl (ld_eq (j := 11) rfl rfl (ld_val (ov_fieldA (p := 2) rfl Tryd.underlying41 rfl sz9 rfl rfl rfl)))⟩, ⟨rfl, ld_eq (j := 10) rfl rfl (ld_eq (j := 12) rfl rfl (ld_val (ov_load (i := 1) (v := (str u8.Item.Path)) rfl rfl Tryd.underlying9 sz9 rfl rfl rfl rfl)))⟩, ⟨rfl, ld_eq (j := 10) rfl rfl (ld_val (ov_fieldA (p := 0) rfl Tryd.underlying43 rfl sz9 rfl rfl rfl))⟩, ⟨rfl, ld_eq (j := 10) rfl rfl (ld_eq (j := 14) rfl rfl (ld_val (ov_load (i := 1) (v := (str u8.Path)) rfl rfl Tryd.underlying9 sz9 rfl rfl rfl rfl)))⟩, ⟨rfl, ld_eq (j := 10) rfl rfl (ld_eq (j := 13) rfl rfl (ld_eq (j := 15) rfl rfl (ld_val (ov_cast (by first | rw [hb48] | rfl) (ov_strCmp rfl rfl rfl rfl)))))⟩, ⟨rfl, ld_eq (j := 6) rfl rfl (ld_eq (j := 10) rfl rfl (ld_eq (j := 16) rfl rfl (ld_val (ov_cast (by first | rw [hb48] | rfl) (ov_pick_t rfl rfl rfl)))))⟩, ⟨rfl, ld_eq (j := 6) rfl rfl (ld_eq (j := 17) rfl rfl (ld_val (ov_cast (by first | rw [hb48] | rfl) (ov_pick_f rfl rfl rfl))))⟩, ⟨rfl, ld_eq (j := 18) rfl rfl (ld_val (ov_cast (by first | rw [hb48] | rfl) (ov_move rfl rfl)))⟩, ⟨rfl, ld_eq (j := 19) rfl rfl (ld_val (ov_move rfl rfl))⟩, ⟨rfl, ld_eq (j := 19) rfl rfl (ld_eq (j := 20) rfl rfl (ld_val (ov_cast (by first | rw [hb49] | rfl) (ov_int rfl rfl rfl rfl))))⟩, ⟨rfl, ld_eq (j := 19) rfl rfl (ld_eq (j := 21) rfl rfl (ld_val (ov_cast (by first | rw [hb49] | rfl) (ov_move rfl rfl))))⟩, ⟨rfl, ld_eq (j := 22) rfl rfl (ld_val (ov_move rfl rfl))⟩, ⟨rfl, ld_eq (j := 22) rfl rfl (ld_val (ov_move rfl rfl))⟩, ⟨rfl, ld_eq (j := 22) rfl rfl (ld_eq (j := 24) rfl rfl (ld_val (ov_int rfl rfl rfl rfl)))⟩, ⟨rfl, ld_eq (j := 22) rfl rfl (ld_eq (j := 23) rfl rfl (ld_eq (j := 25) rfl rfl (ld_of (of_idxD 1 hu51 rfl rfl rfl Tryd.underlying36 sz43 rfl))))⟩, ⟨rfl, ld_eq (j := 22) rfl rfl (ld_fact (j := 26) rfl rfl (fun p52 => ld_of (of_fieldD (pr := fun (y : S_api_Edit) => y.Path) 0 rfl subS_api_Edit_0 rfl Tryd.underlying43 rfl sz9 rfl rfl)))⟩, ⟨rfl, ld_eq (j := 22) rfl rfl (ld_fact (j := 27) rfl rfl (fun p53 => ld_val (ov_loadP (ds := [(str u50.Path)]) 0 rfl (fun h => h) rfl Tryd.underlying9 sz9 rfl rfl rfl)))⟩, ⟨rfl, ld_eq (j := 22) rfl rfl (ld_val (ov_fieldA (p := 0) rfl Tryd.underlying43 rfl sz9 rfl rfl rfl))⟩, ⟨rfl, ld_eq (j := 22) rfl rfl (ld_eq (j := 29) rfl rfl (ld_val (ov_load (i := 1) (v := (str u8.Path)) rfl rfl Tryd.underlying9 sz9 rfl rfl rfl rfl)))⟩, ⟨rfl, ld_eq (j := 22) rfl rfl (ld_eq (j := 28) rfl rfl (ld_eq (j := 30) rfl rfl (ld_callV (vs := [(str u50.Path), (str u8.Path)]) (f_names_Compare_ok fu u50.Path u8.Path hc54) [] (pre_fz 2 rfl (pre_fz 3 rfl pre_nil)) rfl Tryd.func66 rfl rfl rfl)))⟩, ⟨rfl, ld_eq (j := 22) rfl rfl (ld_eq (j := 31) rfl rfl (ld_val (ov_int rfl rfl rfl rfl)))⟩, ⟨rfl, ld_eq (j := 19) rfl rfl (ld_eq (j := 22) rfl rfl (ld_eq (j := 32) rfl rfl (ld_val (ov_pick_t rfl rfl rfl))))⟩, trivial⟩ ?_
          refine tl_eq 19 rfl ?_
          refine tl_eq 33 rfl ?_
          refine tl_done ?_
          refine al_val (ov_pick_f rfl rfl rfl) ?_
          refine al_nil ?_
          exact aq_join (decide (r55 ≥ (0 : Int))) h (fun w a hm hs => norm hm hs [] [1, 0, 2, 3] [(0, v0_0), (11, v0_0), (12, (iq (a0.length : Int))), (13, (iq l4i13)), (65, (bool (decide (r55 ≥ (0 : Int)))))] (by decide) ⟨rfl, rfl, rfl, rfl, rfl, trivial⟩)
         ·replace h := bif_f hb49 h
          refine aw_region_draw 34 [(31, (fun u => fEq u (ptr g11 1))), (32, (fun u => fEq u (bool false))), (33, (fun u => fEq u (bool false))), (34, (fun u => fEq u undef)), (35, (fun u => fEq u undef)), (36, (fun u => fEq u (bool false))), (37, (fun u => fEq u (bool false))), (38, (fun u => fEq u (ptr g11 1))), (39, (fun u => fEq u (bool false))), (40, (fun u => fEq u (bool true))), (41, (fun u => fEq u (bool true))), (42, (fun u => fEq u (ptr g11 2))), (43, (fun u => fEq u (ptr g11 2))), (44, (fun u => fEq u (str u8.Item.Path))), (45, (fun u => fEq u (pq g11))), (46, (fun u => fEq u (str u8.Path))), (47, (fun u => fEq u (bool false))), (48, (fun u => fEq u (bool false))), (49, (fun u => fEq u (bool false))), (50, (fun u => fEq u (bool false))), (51, (fun u => fEq u (iq l4i13))), (52, (fun u => fEq u (bool false))), (53, (fun u => fEq u (bool false))), (54, (fun u => fEq u undef)), (55, (fun u => fEq u undef)), (56, (fun u => fEq u undef)), (57, (fun u => fEq u undef)), (58, (fun u => fEq u undef)), (59, (fun u => fEq u undef)), (60, (fun u => fEq u undef)), (61, (fun u => fEq u undef)), (62, (fun u => fEq u undef)), (63, (fun u => fEq u undef)), (64, (fun u => fEq u (bool false)))] (tab [(0, v0_0), (3, (iq l4i13)), (4, (pq g11)), (7, (bool (u8.Item == (S_api_Item.mk ([] : List UInt8) (0 : Int) (0 : Int) (0 : Int) ([] : List UInt8))))), (11, v0_0), (12, (iq (a0.length : Int))), (13, (iq l4i13))]) mixed (by kernel_rfl) rfl rfl rfl (fun a hs => hs.tab _ (allT_mem ⟨rfl, rfl, rfl, rfl, rfl, rfl, rfl, trivial⟩)) ⟨⟨rfl, ld_val (ov_fieldA (p := 1) rfl Tryd.underlying43 rfl sz4 rfl rfl rfl)⟩, ⟨rfl, ld_eq (j := 0) rfl rfl (ld_val (ov_cast (by first | rw [hb29] | rfl) (ov_load (i := 1) (v := (bool u8.Gone)) rfl rfl Tryd.underlying4 sz4 rfl rfl rfl rfl)))⟩, ⟨rfl, ld_eq (j := 1) rfl rfl (ld_val (ov_cast (by first | rw [hb29] | rfl) (ov_move rfl rfl)))⟩, ⟨rfl, ld_eq (j := 2) rfl rfl (ld_skip)⟩, ⟨rfl, ld_eq (j := 2) rfl rfl (ld_skip)⟩, ⟨rfl, ld_eq (j := 2) rfl rfl (ld_eq (j := 4) rfl rfl (ld_val (ov_pick_f rfl rfl rfl)))⟩, ⟨rfl, ld_eq (j := 5) rfl rfl (ld_val (ov_move rfl rfl))⟩, ⟨rfl, ld_eq (j := 6) rfl rfl (ld_val (ov_fieldA (p := 1) rfl Tryd.underlying43 rfl sz4 rfl rfl rfl))⟩, ⟨rfl, ld_eq (j := 6) rfl rfl (ld_eq (j := 7) rfl rfl (ld_val (ov_cast (by first | rw [hb29] | rfl) (ov_load (i := 1) (v := (bool u8.Gone)) rfl rfl Tryd.underlying4 sz4 rfl rfl rfl rfl))))⟩, ⟨rfl, ld_eq (j := 6) rfl rfl (ld_eq (j := 8) rfl rfl (ld_val (ov_cast (by first | rw [hb47] | rfl) (ov_not rfl rfl))))⟩, ⟨rfl, ld_eq (j := 6) rfl rfl (ld_eq (j := 9) rfl rfl (ld_val (ov_cast (by first | rw [hb47] | rfl) (ov_move rfl rfl))))⟩, ⟨rfl, ld_eq (j := 10) rfl rfl (ld_val (ov_fieldA (p := 2) rfl Tryd.underlying43 rfl sz41 rfl rfl rfl))⟩, ⟨rfl, ld_eq (j := 10) rfl rfl (ld_eq (j := 11) rfl rfl (ld_val (ov_fieldA (p := 2) rfl Tryd.underlying41 rfl sz9 rfl rfl rfl)))⟩, ⟨rfl, ld_eq (j := 10) rfl rfl (ld_eq (j := 12) rfl rfl (ld_val (ov_load (i := 1) (v := (str u8.Item.Path)) rfl rfl Tryd.underlying9 sz9 rfl rfl rfl rfl)))⟩, ⟨rfl, ld_eq (j := 10) rfl rfl (ld_val (ov_fieldA (p := 0) rfl Tryd.underlying43 rfl sz9 rfl rfl rfl))⟩, ⟨rfl, ld_eq (j := 10) rfl rfl (ld_eq (j := 14) rfl rfl (ld_val (ov_load (i := 1) (v := (str u8.Path)) rfl rfl Tryd.underlying9 sz9 rfl rfl rfl rfl)))⟩, ⟨rfl, ld_eq (j := 10) rfl rfl (ld_eq (j := 13) rfl rfl (ld_eq (j := 15) rfl rfl (ld_val (ov_cast (by first | rw [hb48] | rfl) (ov_strCmp rfl rfl rfl rfl)))))⟩, ⟨rfl, ld_eq (j := 6) rfl rfl (ld_eq (j := 10) rfl rfl (ld_eq (j := 16) rfl rfl (ld_val (ov_cast (by first | rw [hb48] | rfl) (ov_pick_t rfl rfl rfl)))))⟩, ⟨rfl, ld_eq (j := 6) rfl rfl (ld_eq (j := 17) rfl rfl (ld_val (ov_cast (by first | rw [hb48] | rfl) (ov_pick_f rfl rfl rfl))))⟩, ⟨rfl, ld_eq (j := 18) rfl rfl (ld_val (ov_cast (by first | rw [hb48] | rfl) (ov_move rfl rfl)))⟩, ⟨rfl, ld_eq (j := 19) rfl rfl (ld_val (ov_move rfl rfl))⟩, ⟨rfl, ld_eq (j := 19) rfl rfl (ld_eq (j := 20) rfl rfl (ld_val (ov_cast (by first | rw [hb49] | rfl) (ov_int rfl rfl rfl rfl))))⟩, ⟨rfl, ld_eq (j := 19) rfl rfl (ld_eq (j := 21) rfl rfl (ld_val (ov_cast (by first | rw [hb49] | rfl) (ov_move rfl rfl))))⟩, ⟨rfl, ld_eq (j := 22) rfl rfl (ld_skip)⟩, ⟨rfl, ld_eq (j := 22) rfl rfl (ld_skip)⟩, ⟨rfl, ld_eq (j := 22) rfl rfl (ld_skip)⟩, ⟨rfl, ld_eq (j := 22) rfl rfl (ld_skip)⟩, ⟨rfl, ld_eq (j := 22) rfl rfl (ld_skip)⟩, ⟨rfl, ld_eq (j := 22) rfl rfl (ld_skip)⟩, ⟨rfl, ld_eq (j := 22) rfl rfl (ld_skip)⟩, ⟨rfl, ld_eq (j := 22) rfl rfl (ld_skip)⟩, ⟨rfl, ld_eq (j := 22) rfl rfl (ld_skip)⟩, ⟨rfl, ld_eq (j := 22) rfl rfl (ld_skip)⟩, ⟨rfl, ld_eq (j := 19) rfl rfl (ld_eq (j := 22) rfl rfl (ld_eq (j := 32) rfl rfl (ld_val (ov_pick_f rfl rfl rfl))))⟩, trivial⟩ ?_
          refine tl_eq 19 rfl ?_
          refine tl_eq 33 rfl ?_
          refine tl_done ?_
          refine al_val (ov_pick_f rfl rfl rfl) ?_
          refine al_nil ?_
          exact aq_join false h (fun w a hm hs => norm hm hs [] [1, 0, 2, 3] [(0, v0_0), (11, v0_0), (12, (iq (a0.length : Int))), (13, (iq l4i13)), (65, (bool false))] (by decide) ⟨rfl, rfl, rfl, rfl, rfl, trivial⟩)
       ·replace h := bif_f hb47 h
        rcases Bool.eq_false_or_eq_true (decide (l4i13 > (0 : Int))) with hb56 | hb56
        ·replace h := bif_t hb56 h
         obtain ⟨u57, hu58, h⟩ := opt_some h
         obtain ⟨r62, hc61, h⟩ := opt_some h
         refine aw_region_draw 34 [(31, (fun u => fEq u (ptr g11 1))), (32, (fun u => fEq u (bool false))), (33, (fun u => fEq u (bool false))), (34, (fun u => fEq u undef)), (35, (fun u => fEq u undef)), (36, (fun u => fEq u (bool false))), (37, (fun u => fEq u (bool false))), (38, (fun u => fEq u (ptr g11 1))), (39, (fun u => fEq u (bool false))), (40, (fun u => fEq u (bool false))), (41, (fun u => fEq u (bool false))), (42, (fun u => fEq u undef)), (43, (fun u => fEq u undef)), (44, (fun u => fEq u undef)), (45, (fun u => fEq u undef)), (46, (fun u => fEq u undef)), (47, (fun u => fEq u undef)), (48, (fun u => fEq u (bool false))), (49, (fun u => fEq u (bool false))), (50, (fun u => fEq u (bool false))), (51, (fun u => fEq u (iq l4i13))), (52, (fun u => fEq u (bool true))), (53, (fun u => fEq u (bool true))), (54, (fun u => fEq u v0_0)), (55, (fun u => fEq u (iq l4i13))), (56, (fun u => fEq u (iq (wq (l4i13 - (1 : Int)))))), (57, (fun p59 => (fPtr tyS_api_Edit p59 u57))), (58, (fun p60 => (fPtr tyStr p60 u57.Path))), (59, (fun u => fEq u (str u57.Path))), (60, (fun u => fEq u (pq g11))), (61, (fun u => fEq u (str u8.Path))), (62, (fun u => fEq u (iq r62))), (63, (fun u => fEq u (bool (decide (r62 ≥ (0 : Int)))))), (64, (fun u => fEq u (bool (decide (r62 ≥ (0 : Int))))))] (tab [(0, v0_0), (3, (iq l4i13)), (4, (pq g11)), (7, (bool (u8.Item == (S_api_Item.mk ([] : List UInt8) (0 : Int) (0 : Int) (0 : Int) ([] : List UInt8))))), (11, v0_0), (12, (iq (a0.length : Int))), (13, (iq l4i13))]) mixed (by kernel_rfl) rfl rfl rfl (fun a hs => hs.tab _ (allT_mem ⟨rfl, rfl, rfl, rfl, rfl, rfl, rfl, trivial⟩)) ⟨⟨rfl, ld_val (ov_fieldA (p := 1) rfl Tryd.underlying43 rfl sz4 rfl rfl rfl)⟩, ⟨rfl, ld_eq (j := 0) rfl rfl (ld_val (ov_cast (by first | rw [hb29] | rfl) (ov_load (i := 1) (v := (bool u8.Gone)) rfl rfl Tryd.underlying4 sz4 rfl rfl rfl rfl)))⟩, ⟨rfl, ld_eq (j := 1) rfl rfl (ld_val (ov_cast (by first | rw [hb29] | rfl) (ov_move rfl rfl)))⟩, ⟨rfl, ld_eq (j := 2) rfl rfl (ld_skip)⟩, ⟨rfl, ld_eq (j := 2) rfl rfl (ld_skip)⟩, ⟨rfl, ld_eq (j := 2) rfl rfl (ld_eq (j := 4) rfl rfl (ld_val (ov_pick_f rfl rfl rfl)))⟩, ⟨rfl, ld_eq (j := 5) rfl rfl (ld_val (ov_move rfl rfl))⟩, ⟨rfl, ld_eq (j := 6) rfl rfl (ld_val (ov_fieldA (p := 1) rfl Tryd.underlying43 rfl sz4 rfl rfl rfl))⟩, ⟨rfl, ld_eq (j := 6) rfl rfl (ld_eq (j := 7) rfl rfl (ld_val (ov_cast (by first | rw [hb29] | rfl) (ov_load (i := 1) (v := (bool u8.Gone)) rfl rfl Tryd.underlying4 sz4 rfl rfl rfl rfl))))⟩, ⟨rfl, ld_eq (j := 6) rfl rfl (ld_eq (j := 8) rfl rfl (ld_val (ov_cast (by first | rw [hb47] | rfl) (ov_not rfl rfl))))⟩, ⟨rfl, ld_eq (j := 6) rfl rfl (ld_eq (j := 9) rfl rfl (ld_val (ov_cast (by first | rw [hb47] | rfl) (ov_move rfl rfl))))⟩, ⟨rfl, ld_eq (j := 10) rfl rfl (ld_skip)⟩, ⟨rfl, ld_eq (j := 10) rfl rfl (ld_skip)⟩, ⟨rfl, ld_eq (j := 10) rfl rfl (ld_skip)⟩, ⟨rfl, ld_eq (j := 10) rfl rfl (ld_skip)⟩, ⟨rfl, ld_eq (j := 10) rfl rfl (ld_skip)⟩, ⟨rfl, ld_eq (j := 10) rfl rfl (ld_skip)⟩, ⟨rfl, ld_eq (j := 6) rfl rfl (ld_eq (j := 10) rfl rfl (ld_eq (j := 16) rfl rfl (ld_val (ov_pick_f rfl rfl rfl))))⟩, ⟨rfl, ld_eq (j := 6) rfl rfl (ld_eq (j := 17) rfl rfl (ld_val (ov_pick_f rfl rfl rfl)))⟩, ⟨rfl, ld_eq (j := 18) rfl rfl (ld_val (ov_move rfl rfl))⟩, ⟨rfl, ld_eq (j := 19) rfl rfl (ld_val (ov_move rfl rfl))⟩, ⟨rfl, ld_eq (j := 19) rfl rfl (ld_eq (j := 20) rfl rfl (ld_val (ov_cast (by first | rw [hb56] | rfl) (ov_int rfl rfl rfl rfl))))⟩, ⟨rfl, ld_eq (j := 19) rfl rfl (ld_eq (j := 21) rfl rfl (ld_val (ov_cast (by first | rw [hb56] | rfl) (ov_move rfl rfl))))⟩, ⟨rfl, ld_eq (j := 22) rfl rfl (ld_val (ov_move rfl rfl))⟩, ⟨rfl, ld_eq (j := 22) rfl rfl (ld_val (ov_move rfl rfl))⟩, ⟨rfl, ld_eq (j := 22) rfl rfl (ld_eq (j := 24) rfl rfl (ld_val (ov_int rfl rfl rfl rfl)))⟩, ⟨rfl, ld_eq (j := 22) rfl rfl (ld_eq (j := 23) rfl rfl (ld_eq (j := 25) rfl rfl (ld_of (of_idxD 1 hu58 rfl rfl rfl Tryd.underlying36 sz43 rfl))))⟩, ⟨rfl, ld_eq (j := 22) rfl rfl (ld_fact (j := 26) rfl rfl (fun p59 => ld_of (of_fieldD (pr := fun (y : S_api_Edit) => y.Path) 0 rfl subS_api_Edit_0 rfl Tryd.underlying43 rfl sz9 rfl rfl)))⟩, ⟨rfl, ld_eq (j := 22) rfl rfl (ld_fact (j := 27) rfl rfl (fun p60 => ld_val (ov_loadP (ds := [(str u57.Path)]) 0 rfl (fun h => h) rfl Tryd.underlying9 sz9 rfl rfl rfl)))⟩, ⟨rfl, ld_eq (j := 22) rfl rfl (ld_val (ov_fieldA (p := 0) rfl Tryd.underlying43 rfl sz9 rfl rfl rfl))⟩, ⟨rfl, ld_eq (j := 22) rfl rfl (ld_eq (j := 29) rfl rfl (ld_val (ov_load (i := 1) (v := (str u8.Path)) rfl rfl Tryd.underlying9 sz9 rfl rfl rfl rfl)))⟩, ⟨rfl, ld_eq (j := 22) rfl rfl (ld_eq (j := 28) rfl rfl (ld_eq (j := 30) rfl rfl (ld_callV (vs := [(str u57.Path), (str u8.Path)]) (f_names_Compare_ok fu u57.Path u8.Path hc61) [] (pre_fz 2 rfl (pre_fz 3 rfl pre_nil)) rfl Tryd.func66 rfl rfl rfl)))⟩, ⟨rfl, ld_eq (j := 22) rfl rfl (ld_eq (j := 31) rfl rfl (ld_val (ov_int rfl rfl rfl rfl)))⟩, ⟨rfl, ld_eq (j := 19) rfl rfl (ld_eq (j := 22) rfl rfl (ld_eq (j := 32) rfl rfl (ld_val (ov_pick_t rfl rfl rfl))))⟩, trivial⟩ ?_
         refine tl_eq 19 rfl ?_
         refine tl_eq 33 rfl ?_
         refine tl_done ?_
         refine al_val (ov_pick_f rfl rfl rfl) ?_
         refine al_nil ?_
         exact aq_join (decide (r62 ≥ (0 : Int))) h (fun w a hm hs => norm hm hs [] [1, 0, 2, 3] [(0, v0_0), (11, v0_0), (12, (iq (a0.length : Int))), (13, (iq l4i13)), (65, (bool (decide (r62 ≥ (0 : Int)))))] (by decide) ⟨rfl, rfl, rfl, rfl, rfl, trivial⟩)
        ·replace h := bif_f hb56 h
         refine aw_region_draw 34 [(31, (fun u => fEq u (ptr g11 1))), (32, (fun u => fEq u (bool false))), (33, (fun u => fEq u (bool false))), (34, (fun u => fEq u undef)), (35, (fun u => fEq u undef)), (36, (fun u => fEq u (bool false))), (37, (fun u => fEq u (bool false))), (38, (fun u => fEq u (ptr g11 1))), (39, (fun u => fEq u (bool false))), (40, (fun u => fEq u (bool false))), (41, (fun u => fEq u (bool false))), (42, (fun u => fEq u undef)), (43, (fun u => fEq u undef)), (44, (fun u => fEq u undef)), (45, (fun u => fEq u undef)), (46, (fun u => fEq u undef)), (47, (fun u => fEq u undef)), (48, (fun u => fEq u (bool false))), (49, (fun u => fEq u (bool false))), (50, (fun u => fEq u (bool false))), (51, (fun u => fEq u (iq l4i13))), (52, (fun u => fEq u (bool false))), (53, (fun u => fEq u (bool false))), (54, (fun u => fEq u undef)), (55, (fun u => fEq u undef)), (56, (fun u => fEq u undef)), (57, (fun u => fEq u undef)), (58, (fun u => fEq u undef)), (59, (fun u => fEq u undef)), (60, (fun u => fEq u undef)), (61, (fun u => fEq u undef)), (62, (fun u => fEq u undef)), (63, (fun u => fEq u undef)), (64, (fun u => fEq u (bool false)))] (tab [(0, v0_0), (3, (iq l4i13)), (4, (pq g11)), (7, (bool (u8.Item == (S_api_Item.mk ([] : List UInt8) (0 : Int) (0 : Int) (0 : Int) ([] : List UInt8))))), (11, v0_0), (12, (iq (a0.length : Int))), (13, (iq l4i13))]) mixed (by kernel_rfl) rfl rfl rfl (fun a hs => hs.tab _ (allT_mem ⟨rfl, rfl, rfl, rfl, rfl, rfl, rfl, trivial⟩)) ⟨⟨rfl, ld_val (ov_fieldA (p := 1) rfl Tryd.underlying43 rfl sz4 rfl rfl rfl)⟩, ⟨rfl, ld_eq (j := 0) rfl rfl (ld_val (ov_cast (by first | rw [hb29] | rfl) (ov_load (i := 1) (v := (bool u8.Gone)) rfl rfl Tryd.underlying4 sz4 rfl rfl rfl rfl)))⟩, ⟨rfl, ld_eq (j := 1) rfl rfl (ld_val (ov_cast (by first | rw [hb29] | rfl) (ov_move rfl rfl)))⟩, ⟨rfl, ld_eq (j := 2) rfl rfl (ld_skip)⟩, ⟨rfl, ld_eq (j := 2) rfl rfl (ld_skip)⟩, ⟨rfl, ld_eq (j := 2) rfl rfl (ld_eq (j := 4) rfl rfl (ld_val (ov_pick_f rfl rfl rfl)))⟩, ⟨rfl, ld_eq (j := 5) rfl rfl (ld_val (ov_move rfl rfl))⟩, ⟨rfl, ld_eq (j := 6) rfl rfl (ld_val (ov_fieldA (p := 1) rfl Tryd.underlying43 rfl sz4 rfl rfl rfl))⟩, ⟨rfl, ld_eq (j := 6) rfl rfl (ld_eq (j := 7) rfl rfl (ld_val (ov_cast (by first | rw [hb29] | rfl) (ov_load (i := 1) (v := (bool u8.Gone)) rfl rfl Tryd.underlying4 sz4 rfl rfl rfl rfl))))⟩, ⟨rfl, ld_eq (j := 6) rfl rfl (ld_eq (j := 8) rfl rfl (ld_val (ov_cast (by first | rw [hb47] | rfl) (ov_not rfl rfl))))⟩, ⟨rfl, ld_eq (j := 6) rfl rfl (ld_eq (j := 9) rfl rfl (ld_val (ov_cast (by first | rw [hb47] | rfl) (ov_move rfl rfl))))⟩, ⟨rfl, ld_eq (j := 10) rfl rfl (ld_skip)⟩, ⟨rfl, ld_eq (j := 10) rfl rfl (ld_skip)⟩, ⟨rfl, ld_eq (j := 10) rfl rfl (ld_skip)⟩, ⟨rfl, ld_eq (j := 10) rfl rfl (ld_skip)⟩, ⟨rfl, ld_eq (j := 10) rfl rfl (ld_skip)⟩, ⟨rfl, ld_eq (j := 10) rfl rfl (ld_skip)⟩, ⟨rfl, ld_eq (j := 6) rfl rfl (ld_eq (j := 10) rfl rfl (ld_eq (j := 16) rfl rfl (ld_val (ov_pick_f rfl rfl rfl))))⟩, ⟨rfl, ld_eq (j := 6) rfl rfl (ld_eq (j := 17) rfl rfl (ld_val (ov_pick_f rfl rfl rfl)))⟩, ⟨rfl, ld_eq (j := 18) rfl rfl (ld_val (ov_move rfl rfl))⟩, ⟨rfl, ld_eq (j := 19) rfl rfl (ld_val (ov_move rfl rfl))⟩, ⟨rfl, ld_eq (j := 19) rfl rfl (ld_eq (j := 20) rfl rfl (ld_val (ov_cast (by first | rw [hb56] | rfl) (ov_int rfl rfl rfl rfl))))⟩, ⟨rfl, ld_eq (j := 19) rfl rfl (ld_eq (j := 21) rfl rfl (ld_val (ov_cast (by first | rw [hb56] | rfl) (ov_move rfl rfl))))⟩, ⟨rfl, ld_eq (j := 22) rfl rfl (ld_skip)⟩, ⟨rfl, ld_eq (j := 22) rfl rfl (ld_skip)⟩, ⟨rfl, ld_eq (j := 22) rfl rfl (ld_skip)⟩, ⟨rfl, ld_eq (j := 22) rfl rfl (ld_skip)⟩, ⟨rfl, ld_eq (j := 22) rfl rfl (ld_skip)⟩, ⟨rfl, ld_eq (j := 22) rfl rfl (ld_skip)⟩, ⟨rfl, ld_eq (j := 22) rfl rfl (ld_skip)⟩, ⟨rfl, ld_eq (j := 22) rfl rfl (ld_skip)⟩, ⟨rfl, ld_eq (j := 22) rfl rfl (ld_skip)⟩, ⟨rfl, ld_eq (j := 22) rfl rfl (ld_skip)⟩, ⟨rfl, ld_eq (j := 19) rfl rfl (ld_eq (j := 22) rfl rfl (ld_eq (j := 32) rfl rfl (ld_val (ov_pick_f rfl rfl rfl))))⟩, trivial⟩ ?_
         refine tl_eq 19 rfl ?_
         refine tl_eq 33 rfl ?_
         refine tl_done ?_
         refine al_val (ov_pick_f rfl rfl rfl) ?_
         refine al_nil ?_
         exact aq_join false h (fun w a hm hs => norm hm hs [] [1, 0, 2, 3] [(0, v0_0), (11, v0_0), (12, (iq (a0.length : Int))), (13, (iq l4i13)), (65, (bool false))] (by decide) ⟨rfl, rfl, rfl, rfl, rfl, trivial⟩)
   ·replace h := bif_f hb7 h
    refine aw_exit ?_
    refine aq_then_exit ?_
    refine aq_then_exit ?_
    refine aq_block_exit ?_
    exact aq_join () h (fun w a hm hs => norm hm hs [] [0, 1, 2] [] (by decide) trivial)
-- STUCK lumberroom/delta.Apply$1: lty ['pointer', 41]
-- STUCK lumberroom/delta.sideBySide[lumberroom/api.Item,lumberroom/api.Edit]: lty ['func', [41], [9], False]
def f_delta_itemPath (fu : Nat) (a0 : S_api_Item) : Option (List UInt8) := (some a0.Path)
set_option maxRecDepth 100000 in
theorem f_delta_itemPath_ok (fu : Nat) (a0 : S_api_Item) {r : (List UInt8)} (h : f_delta_itemPath fu a0 = some r) : FnOk Tryd.prog 52 [(ag [(str a0.Path), (int .i64 a0.Kind), (int .i64 a0.Mode), (int .i64 a0.Time), (str a0.Bytes)])] [] [] (fun (i : Unit) => { val := (str r) }) := by
 unfold f_delta_itemPath at h
 refine fn_enter Tryd.func52 rfl Tryd.ntmps52 rfl (fun w0 Z0 => ?_)
 refine aw_sr ?_
 refine al_box (vs := [(str a0.Path), (iq a0.Kind), (iq a0.Mode), (iq a0.Time), (str a0.Bytes)]) rfl (cv_rfl rfl) rfl (fun g1 => ?_)
 refine al_as rfl rfl ?_
 refine al_nt ?_
 refine aw_sr ?_
 refine al_val (ov_fieldA (p := 0) rfl Tryd.underlying41 rfl sz9 rfl rfl rfl) ?_
 refine al_val (ov_load (i := 0) (v := (str a0.Path)) rfl rfl Tryd.underlying9 sz9 rfl rfl rfl rfl) ?_
 refine al_as rfl rfl ?_
 refine al_nt ?_
 refine aw_ret ?_
 obtain rfl := Option.some.inj h
 exact fn_ret () [] [] rfl rfl rfl rfl (res1 rfl rfl) rfl rfl rfl (by decide)
def f_delta_editPath (fu : Nat) (a0 : S_api_Edit) : Option (List UInt8) := (some a0.Path)
set_option maxRecDepth 100000 in
theorem f_delta_editPath_ok (fu : Nat) (a0 : S_api_Edit) {r : (List UInt8)} (h : f_delta_editPath fu a0 = some r) : FnOk Tryd.prog 59 [(ag [(str a0.Path), (bool a0.Gone), (str a0.Item.Path), (int .i64 a0.Item.Kind), (int .i64 a0.Item.Mode), (int .i64 a0.Item.Time), (str a0.Item.Bytes)])] [] [] (fun (i : Unit) => { val := (str r) }) := by
 unfold f_delta_editPath at h
 refine fn_enter Tryd.func59 rfl Tryd.ntmps59 rfl (fun w0 Z0 => ?_)
 refine aw_sr ?_
 refine al_box (vs := [(str a0.Path), (bool a0.Gone), (str a0.Item.Path), (iq a0.Item.Kind), (iq a0.Item.Mode), (iq a0.Item.Time), (str a0.Item.Bytes)]) rfl (cv_rfl rfl) rfl (fun g1 => ?_)
 refine al_as rfl rfl ?_
 refine al_nt ?_
 refine aw_sr ?_
 refine al_val (ov_fieldA (p := 0) rfl Tryd.underlying43 rfl sz9 rfl rfl rfl) ?_
 refine al_val (ov_load (i := 0) (v := (str a0.Path)) rfl rfl Tryd.underlying9 sz9 rfl rfl rfl rfl) ?_
 refine al_as rfl rfl ?_
 refine al_nt ?_
 refine aw_ret ?_
 obtain rfl := Option.some.inj h
 exact fn_ret () [] [] rfl rfl rfl rfl (res1 rfl rfl) rfl rfl rfl (by decide)
def f_delta_Apply_1_ptrD_ptrD (fu : Nat) (a0 : S_api_Item) (a1 : S_api_Edit) (a2 : (List S_api_Item)) : Option (List S_api_Item) := (bif (!a1.Gone) then (req (((a2.length + ([a1.Item]).length) * 56 : Nat) ≤ 140737488355328 ∧ a2.length + ([a1.Item]).length ≤ 9223372036854775807) (some (a2 ++ ([a1.Item])))) else (some a2))
set_option maxHeartbeats 2000000 in
set_option maxRecDepth 100000 in
theorem f_delta_Apply_1_ptrD_ptrD_ok (fu : Nat) (v0_0 : Value) (a0 : S_api_Item) (v1_0 : Value) (a1 : S_api_Edit) (bx2 : Nat) (v2_0 : Value) (a2 : (List S_api_Item)) {r : (List S_api_Item)} (h : f_delta_Apply_1_ptrD_ptrD fu a0 a1 a2 = some r) : FnOk Tryd.prog 60 [v0_0, v1_0, (ptr bx2 0)] [(fPtr tyS_api_Item v0_0 a0), (fPtr tyS_api_Edit v1_0 a1)] [(oBox bx2 35 [v2_0]), (oRow v2_0 41 tyS_api_Item a2)] (fun (i : Value) => { val := (Value.tuple #[]), own := [(oBox bx2 35 [i]), (oRow i 41 tyS_api_Item r)] }) := by
 unfold f_delta_Apply_1_ptrD_ptrD at h
 refine fn_enter Tryd.func60 rfl Tryd.ntmps60 rfl (fun w0 Z0 => ?_)
 refine aw_block ?_
 refine aw_sr ?_
 refine al_mv rfl rfl ?_
 refine al_val (ov_ptrEqP 1 rfl rfl rfl Tryd.underlying100 rfl) ?_
 refine al_as rfl rfl ?_
 refine al_nt ?_
 refine aw_cond_f rfl ?_
 refine aw_sr ?_
 refine al_mv rfl rfl ?_
 refine al_val (ov_nilCheckP 1 rfl rfl rfl) ?_
 refine al_fieldD (pr := fun (y : S_api_Edit) => y.Gone) 1 rfl subS_api_Edit_1 rfl Tryd.underlying43 rfl sz4 rfl rfl (fun p1 => ?_)
 refine al_val (ov_loadP (ds := [(bool a1.Gone)]) 0 rfl (fun h => h) rfl Tryd.underlying4 sz4 rfl rfl rfl) ?_
 refine al_val (ov_not rfl rfl) ?_
 refine al_as rfl rfl ?_
 refine al_nt ?_
 refine aw_cond rfl (fun hb2 => ?_) (fun hb2 => ?_)
 ·replace h := bif_t hb2 h
  refine aw_region_open [⟨0, 20, Unit, fun _ => { val := v2_0 }⟩, ⟨1, 21, Unit, fun _ => { val := v1_0 }⟩, ⟨2, 22, Unit, fun _ => { val := v1_0 }⟩, ⟨3, 23, Value, fun (i : Value) => { val := i, fz := [(fPtr tyS_api_Item i a1.Item)] }⟩, ⟨4, 24, Unit, fun _ => { val := (ag [(str a1.Item.Path), (iq a1.Item.Kind), (iq a1.Item.Mode), (iq a1.Item.Time), (str a1.Item.Bytes)]) }⟩, ⟨5, 25, Value, fun (i : Value) => { val := i, own := [(oRow i 41 tyS_api_Item [a1.Item])] }⟩] (tab [(1, v1_0), (2, (pq bx2))]) mixed (fun a hs => hs.tab _ (allT_mem ⟨rfl, rfl, trivial⟩)) ?_
  refine ta_show (m := (memOf w0 Z0 [(oBox bx2 35 [v2_0]), (oRow v2_0 41 tyS_api_Item a2)] [(oBox bx2 35 [v2_0]), (oRow v2_0 41 tyS_api_Item a2)] [(fPtr tyBool p1 a1.Gone), (fPtr tyS_api_Item v0_0 a0), (fPtr tyS_api_Edit v1_0 a1)])) (S := (tab [(1, v1_0), (2, (pq bx2))])) ?_
  refine ta_step 6 _ [0, 1, 2, 3, 4, 5] [20, 21, 22, 23, 24, 25] [0, 1, 2, 3, 4, 5] [] [⟨0, 20, Unit, fun _ => { val := v2_0 }⟩, ⟨1, 21, Unit, fun _ => { val := v1_0 }⟩, ⟨2, 22, Unit, fun _ => { val := v1_0 }⟩, ⟨3, 23, Value, fun (i : Value) => { val := i, fz := [(fPtr tyS_api_Item i a1.Item)] }⟩, ⟨4, 24, Unit, fun _ => { val := (ag [(str a1.Item.Path), (iq a1.Item.Kind), (iq a1.Item.Mode), (iq a1.Item.Time), (str a1.Item.Bytes)]) }⟩, ⟨5, 25, Value, fun (i : Value) => { val := i, own := [(oRow i 41 tyS_api_Item [a1.Item])] }⟩] [] rfl rfl rfl (by kernel_rfl) rfl rfl rfl ⟨⟨_, rfl, [], rfl, by
 intro X_ Y_ F_ K_ hK_
 refine al_show (m := Mem.plus (memOf w0 Z0 [(oBox bx2 35 [v2_0]), (oRow v2_0 41 tyS_api_Item a2)] [(oBox bx2 35 [v2_0]), (oRow v2_0 41 tyS_api_Item a2)] [(fPtr tyBool p1 a1.Gone), (fPtr tyS_api_Item v0_0 a0), (fPtr tyS_api_Edit v1_0 a1)]) X_ Y_) (S := over (tab [(1, v1_0), (2, (pq bx2))]) F_) ?_
 refine al_val (ov_load (i := 0) (v := v2_0) rfl rfl Tryd.underlying35 sz35 rfl rfl rfl rfl) ?_
 refine al_nil ?_
 exact fr_fin hK_ ()⟩, ⟨_, rfl, [], rfl, by
 intro X_ Y_ F_ K_ hK_
 refine al_show (m := Mem.plus (memOf w0 Z0 [(oBox bx2 35 [v2_0]), (oRow v2_0 41 tyS_api_Item a2)] [(oBox bx2 35 [v2_0]), (oRow v2_0 41 tyS_api_Item a2)] [(fPtr tyBool p1 a1.Gone), (fPtr tyS_api_Item v0_0 a0), (fPtr tyS_api_Edit v1_0 a1)]) X_ Y_) (S := over (tab [(1, v1_0), (2, (pq bx2))]) F_) ?_
 refine al_mv rfl rfl ?_
 refine al_nil ?_
 exact fr_fin hK_ ()⟩, ⟨_, rfl, [1], rfl, by
 intro _
 intro X_ Y_ F_ K_ hK_
 refine al_show (m := Mem.plus (memOf w0 Z0 [(oBox bx2 35 [v2_0]), (oRow v2_0 41 tyS_api_Item a2)] [(oBox bx2 35 [v2_0]), (oRow v2_0 41 tyS_api_Item a2)] [(fPtr tyBool p1 a1.Gone), (fPtr tyS_api_Item v0_0 a0), (fPtr tyS_api_Edit v1_0 a1)]) X_ Y_) (S := over (put (tab [(1, v1_0), (2, (pq bx2))]) 21 v1_0) F_) ?_
 refine al_val (ov_nilCheckP 2 rfl rfl rfl) ?_
 refine al_nil ?_
 exact fr_fin hK_ ()⟩, ⟨_, rfl, [2], rfl, by
 intro _
 intro X_ Y_ F_ K_ hK_
 refine al_show (m := Mem.plus (memOf w0 Z0 [(oBox bx2 35 [v2_0]), (oRow v2_0 41 tyS_api_Item a2)] [(oBox bx2 35 [v2_0]), (oRow v2_0 41 tyS_api_Item a2)] [(fPtr tyBool p1 a1.Gone), (fPtr tyS_api_Item v0_0 a0), (fPtr tyS_api_Edit v1_0 a1)]) X_ Y_) (S := over (put (tab [(1, v1_0), (2, (pq bx2))]) 22 v1_0) F_) ?_
 refine al_fieldD (pr := fun (y : S_api_Edit) => y.Item) 2 rfl subS_api_Edit_2 rfl Tryd.underlying43 rfl sz41 rfl rfl (fun p3 => ?_)
 refine al_nil ?_
 exact fr_fin hK_ p3⟩, ⟨_, rfl, [3], rfl, by
 intro p3
 intro X_ Y_ F_ K_ hK_
 refine al_show (m := Mem.plus (memOf w0 Z0 [(oBox bx2 35 [v2_0]), (oRow v2_0 41 tyS_api_Item a2)] [(oBox bx2 35 [v2_0]), (oRow v2_0 41 tyS_api_Item a2)] [(fPtr tyS_api_Item p3 a1.Item), (fPtr tyBool p1 a1.Gone), (fPtr tyS_api_Item v0_0 a0), (fPtr tyS_api_Edit v1_0 a1)]) X_ Y_) (S := over (put (tab [(1, v1_0), (2, (pq bx2))]) 23 p3) F_) ?_
 refine al_val (ov_loadP (ds := [(str a1.Item.Path), (iq a1.Item.Kind), (iq a1.Item.Mode), (iq a1.Item.Time), (str a1.Item.Bytes)]) 0 rfl encS_api_Item rfl Tryd.underlying41 sz41 rfl rfl rfl) ?_
 refine al_nil ?_
 exact fr_fin hK_ ()⟩, ⟨_, rfl, [4], rfl, by
 intro _
 intro X_ Y_ F_ K_ hK_
 refine al_show (m := Mem.plus (memOf w0 Z0 [(oBox bx2 35 [v2_0]), (oRow v2_0 41 tyS_api_Item a2)] [(oBox bx2 35 [v2_0]), (oRow v2_0 41 tyS_api_Item a2)] [(fPtr tyBool p1 a1.Gone), (fPtr tyS_api_Item v0_0 a0), (fPtr tyS_api_Edit v1_0 a1)]) X_ Y_) (S := over (put (tab [(1, v1_0), (2, (pq bx2))]) 24 (ag [(str a1.Item.Path), (iq a1.Item.Kind), (iq a1.Item.Mode), (iq a1.Item.Time), (str a1.Item.Bytes)])) F_) ?_
 refine al_buildSlice (τ := tyS_api_Item) (e := 41) (k := 1) (sz := 0) (by_ := 0) (z := undef) (cs := [(str a1.Item.Path), (iq a1.Item.Kind), (iq a1.Item.Mode), (iq a1.Item.Time), (str a1.Item.Bytes)]) (xs := [a1.Item]) rfl (by decide) (fun w a hm hs => ⟨([(str a1.Item.Path), (iq a1.Item.Kind), (iq a1.Item.Mode), (iq a1.Item.Time), (str a1.Item.Bytes)]).toArray, rfl, by simp only [List.map_toArray, List.map_cons, List.map_nil, hs.ev (x := .tmp 24) rfl]; exact run_bs [(ag [(str a1.Item.Path), (iq a1.Item.Kind), (iq a1.Item.Mode), (iq a1.Item.Time), (str a1.Item.Bytes)])] [(str a1.Item.Path), (iq a1.Item.Kind), (iq a1.Item.Mode), (iq a1.Item.Time), (str a1.Item.Bytes)] Tryd.underlying35 to41 rfl rfl (bs_cons (l := [(str a1.Item.Path), (iq a1.Item.Kind), (iq a1.Item.Mode), (iq a1.Item.Time), (str a1.Item.Bytes)]) (cs := []) (cv_rfl rfl) rfl bs_nil) hm⟩) (fun hm => ⟨_, _, rfl, (fun _ => mkS_api_Item rfl) hm, rfl⟩) rfl (fun v4 => ?_)
 refine al_nil ?_
 exact fr_fin hK_ v4⟩, trivial⟩ ?_
  intro _
  intro _
  intro _
  intro p3
  intro _
  intro v4
  intro X_ Y_ F_ K_ hK_
  refine al_show (m := Mem.plus (memOf w0 Z0 [(oBox bx2 35 [v2_0]), (oRow v2_0 41 tyS_api_Item a2)] [(oRow v4 41 tyS_api_Item [a1.Item]), (oBox bx2 35 [v2_0]), (oRow v2_0 41 tyS_api_Item a2)] [(fPtr tyS_api_Item p3 a1.Item), (fPtr tyBool p1 a1.Gone), (fPtr tyS_api_Item v0_0 a0), (fPtr tyS_api_Edit v1_0 a1)]) X_ Y_) (S := over (put (put (put (put (put (put (tab [(1, v1_0), (2, (pq bx2))]) 20 v2_0) 21 v1_0) 22 v1_0) 23 p3) 24 (ag [(str a1.Item.Path), (iq a1.Item.Kind), (iq a1.Item.Mode), (iq a1.Item.Time), (str a1.Item.Bytes)])) 25 v4) F_) ?_
  obtain ⟨hc5, h⟩ := req_some h
  refine al_append 2 hc5.1 hc5.2 rfl (src_own (i := 2) 0 rfl) rfl rfl Tryd.underlying35 to41 rfl rfl rfl (fun v6 => ?_)
  refine al_nil ?_
  refine aq_show (m := Mem.plus (memOf w0 Z0 [(oBox bx2 35 [v2_0]), (oRow v2_0 41 tyS_api_Item a2)] [(oRow v4 41 tyS_api_Item [a1.Item]), (oBox bx2 35 [v2_0]), (oRow v6 41 tyS_api_Item (a2 ++ ([a1.Item])))] [(fPtr tyS_api_Item p3 a1.Item), (fPtr tyBool p1 a1.Gone), (fPtr tyS_api_Item v0_0 a0), (fPtr tyS_api_Edit v1_0 a1)]) X_ Y_) ?_
  refine aq_next hK_ [0, 1, 2] [1, 2, 3] [(2, (pq bx2)), (26, v6)] [] [] rfl rfl (by decide) rfl ⟨rfl, rfl, trivial⟩ trivial ?_
  clear hK_ K_ F_ X_ Y_
  refine ta_show (m := (memOf w0 Z0 [(oBox bx2 35 [v2_0]), (oRow v2_0 41 tyS_api_Item a2)] [(oRow v4 41 tyS_api_Item [a1.Item]), (oBox bx2 35 [v2_0]), (oRow v6 41 tyS_api_Item (a2 ++ ([a1.Item])))] [(fPtr tyBool p1 a1.Gone), (fPtr tyS_api_Item v0_0 a0), (fPtr tyS_api_Edit v1_0 a1)])) (S := (tab [(2, (pq bx2)), (26, v6)])) ?_
  refine ta_step 7 _ [] [] [] [] [] [] rfl rfl rfl (by kernel_rfl) rfl rfl rfl trivial ?_
  intro X_ Y_ F_ K_ hK_
  refine al_show (m := Mem.plus (memOf w0 Z0 [(oBox bx2 35 [v2_0]), (oRow v2_0 41 tyS_api_Item a2)] [(oRow v4 41 tyS_api_Item [a1.Item]), (oBox bx2 35 [v2_0]), (oRow v6 41 tyS_api_Item (a2 ++ ([a1.Item])))] [(fPtr tyBool p1 a1.Gone), (fPtr tyS_api_Item v0_0 a0), (fPtr tyS_api_Edit v1_0 a1)]) X_ Y_) (S := over (tab [(2, (pq bx2)), (26, v6)]) F_) ?_
  refine al_store (i := 1) (vs := [v6]) (cs' := [v6]) rfl rfl rfl sz35 (cv_own 2 rfl) rfl (co_own 2 rfl co_nil) (Nat.le_of_ble_eq_true rfl) rfl rfl ?_
  refine al_nil ?_
  refine aq_show (m := Mem.plus (memOf w0 Z0 [(oBox bx2 35 [v2_0]), (oRow v2_0 41 tyS_api_Item a2)] [(oRow v4 41 tyS_api_Item [a1.Item]), (oBox bx2 35 [v6]), (oRow v6 41 tyS_api_Item (a2 ++ ([a1.Item])))] [(fPtr tyBool p1 a1.Gone), (fPtr tyS_api_Item v0_0 a0), (fPtr tyS_api_Edit v1_0 a1)]) X_ Y_) ?_
  refine aq_next hK_ [0, 1, 2] [0, 1, 2] [(2, (pq bx2))] [] [] rfl rfl (by decide) rfl ⟨rfl, trivial⟩ trivial ?_
  clear hK_ K_ F_ X_ Y_
  refine ta_show (m := (memOf w0 Z0 [(oBox bx2 35 [v2_0]), (oRow v2_0 41 tyS_api_Item a2)] [(oRow v4 41 tyS_api_Item [a1.Item]), (oBox bx2 35 [v6]), (oRow v6 41 tyS_api_Item (a2 ++ ([a1.Item])))] [(fPtr tyBool p1 a1.Gone), (fPtr tyS_api_Item v0_0 a0), (fPtr tyS_api_Edit v1_0 a1)])) (S := (tab [(2, (pq bx2))])) ?_
  refine ta_end [] [] rfl rfl (by kernel_rfl) rfl trivial ?_
  refine aq_show (m := (memOf w0 Z0 [(oBox bx2 35 [v2_0]), (oRow v2_0 41 tyS_api_Item a2)] [(oRow v4 41 tyS_api_Item [a1.Item]), (oBox bx2 35 [v6]), (oRow v6 41 tyS_api_Item (a2 ++ ([a1.Item])))] [(fPtr tyBool p1 a1.Gone), (fPtr tyS_api_Item v0_0 a0), (fPtr tyS_api_Edit v1_0 a1)])) (S := (tab [(2, (pq bx2))])) ?_
  refine aq_block ?_
  refine fn_end ?_
  obtain rfl := Option.some.inj h
  exact fn_ret v6 [1, 2] [] rfl rfl rfl rfl (resC rfl (resN) rfl) rfl rfl rfl (by decide)
 ·replace h := bif_f hb2 h
  refine aw_skip ?_
  refine aq_block ?_
  refine fn_end ?_
  obtain rfl := Option.some.inj h
  exact fn_ret v2_0 [0, 1] [] rfl rfl rfl rfl (resC rfl (resN) rfl) rfl rfl rfl (by decide)
def f_delta_Apply_1_ptrD_nilp (fu : Nat) (a0 : S_api_Item) (a2 : (List S_api_Item)) : Option (List S_api_Item) := (req (((a2.length + ([a0]).length) * 56 : Nat) ≤ 140737488355328 ∧ a2.length + ([a0]).length ≤ 9223372036854775807) (some (a2 ++ ([a0]))))
set_option maxHeartbeats 2000000 in
set_option maxRecDepth 100000 in
theorem f_delta_Apply_1_ptrD_nilp_ok (fu : Nat) (v0_0 : Value) (a0 : S_api_Item) (bx2 : Nat) (v2_0 : Value) (a2 : (List S_api_Item)) {r : (List S_api_Item)} (h : f_delta_Apply_1_ptrD_nilp fu a0 a2 = some r) : FnOk Tryd.prog 60 [v0_0, (Value.pointer none), (ptr bx2 0)] [(fPtr tyS_api_Item v0_0 a0)] [(oBox bx2 35 [v2_0]), (oRow v2_0 41 tyS_api_Item a2)] (fun (i : Value) => { val := (Value.tuple #[]), own := [(oBox bx2 35 [i]), (oRow i 41 tyS_api_Item r)] }) := by
 unfold f_delta_Apply_1_ptrD_nilp at h
 refine fn_enter Tryd.func60 rfl Tryd.ntmps60 rfl (fun w0 Z0 => ?_)
 refine aw_block ?_
 refine aw_sr ?_
 refine al_mv rfl rfl ?_
 refine al_val (ov_ptrEqN rfl rfl Tryd.underlying100 rfl) ?_
 refine al_as rfl rfl ?_
 refine al_nt ?_
 refine aw_cond_t rfl ?_
 refine aw_region_open [⟨0, 8, Unit, fun _ => { val := v2_0 }⟩, ⟨1, 9, Unit, fun _ => { val := v0_0 }⟩, ⟨2, 10, Unit, fun _ => { val := v0_0 }⟩, ⟨3, 11, Unit, fun _ => { val := (ag [(str a0.Path), (iq a0.Kind), (iq a0.Mode), (iq a0.Time), (str a0.Bytes)]) }⟩, ⟨4, 12, Value, fun (i : Value) => { val := i, own := [(oRow i 41 tyS_api_Item [a0])] }⟩] (tab [(0, v0_0), (2, (pq bx2))]) mixed (fun a hs => hs.tab _ (allT_mem ⟨rfl, rfl, trivial⟩)) ?_
 refine ta_show (m := (memOf w0 Z0 [(oBox bx2 35 [v2_0]), (oRow v2_0 41 tyS_api_Item a2)] [(oBox bx2 35 [v2_0]), (oRow v2_0 41 tyS_api_Item a2)] [(fPtr tyS_api_Item v0_0 a0)])) (S := (tab [(0, v0_0), (2, (pq bx2))])) ?_
 refine ta_step 5 _ [0, 1, 2, 3, 4] [8, 9, 10, 11, 12] [0, 1, 2, 3, 4] [] [⟨0, 8, Unit, fun _ => { val := v2_0 }⟩, ⟨1, 9, Unit, fun _ => { val := v0_0 }⟩, ⟨2, 10, Unit, fun _ => { val := v0_0 }⟩, ⟨3, 11, Unit, fun _ => { val := (ag [(str a0.Path), (iq a0.Kind), (iq a0.Mode), (iq a0.Time), (str a0.Bytes)]) }⟩, ⟨4, 12, Value, fun (i : Value) => { val := i, own := [(oRow i 41 tyS_api_Item [a0])] }⟩] [] rfl rfl rfl (by kernel_rfl) rfl rfl rfl ⟨⟨_, rfl, [], rfl, by
 intro X_ Y_ F_ K_ hK_
 refine al_show (m := Mem.plus (memOf w0 Z0 [(oBox bx2 35 [v2_0]), (oRow v2_0 41 tyS_api_Item a2)] [(oBox bx2 35 [v2_0]), (oRow v2_0 41 tyS_api_Item a2)] [(fPtr tyS_api_Item v0_0 a0)]) X_ Y_) (S := over (tab [(0, v0_0), (2, (pq bx2))]) F_) ?_
 refine al_val (ov_load (i := 0) (v := v2_0) rfl rfl Tryd.underlying35 sz35 rfl rfl rfl rfl) ?_
 refine al_nil ?_
 exact fr_fin hK_ ()⟩, ⟨_, rfl, [], rfl, by
 intro X_ Y_ F_ K_ hK_
 refine al_show (m := Mem.plus (memOf w0 Z0 [(oBox bx2 35 [v2_0]), (oRow v2_0 41 tyS_api_Item a2)] [(oBox bx2 35 [v2_0]), (oRow v2_0 41 tyS_api_Item a2)] [(fPtr tyS_api_Item v0_0 a0)]) X_ Y_) (S := over (tab [(0, v0_0), (2, (pq bx2))]) F_) ?_
 refine al_mv rfl rfl ?_
 refine al_nil ?_
 exact fr_fin hK_ ()⟩, ⟨_, rfl, [1], rfl, by
 intro _
 intro X_ Y_ F_ K_ hK_
 refine al_show (m := Mem.plus (memOf w0 Z0 [(oBox bx2 35 [v2_0]), (oRow v2_0 41 tyS_api_Item a2)] [(oBox bx2 35 [v2_0]), (oRow v2_0 41 tyS_api_Item a2)] [(fPtr tyS_api_Item v0_0 a0)]) X_ Y_) (S := over (put (tab [(0, v0_0), (2, (pq bx2))]) 9 v0_0) F_) ?_
 refine al_val (ov_nilCheckP 0 rfl rfl rfl) ?_
 refine al_nil ?_
 exact fr_fin hK_ ()⟩, ⟨_, rfl, [2], rfl, by
 intro _
 intro X_ Y_ F_ K_ hK_
 refine al_show (m := Mem.plus (memOf w0 Z0 [(oBox bx2 35 [v2_0]), (oRow v2_0 41 tyS_api_Item a2)] [(oBox bx2 35 [v2_0]), (oRow v2_0 41 tyS_api_Item a2)] [(fPtr tyS_api_Item v0_0 a0)]) X_ Y_) (S := over (put (tab [(0, v0_0), (2, (pq bx2))]) 10 v0_0) F_) ?_
 refine al_val (ov_loadP (ds := [(str a0.Path), (iq a0.Kind), (iq a0.Mode), (iq a0.Time), (str a0.Bytes)]) 0 rfl encS_api_Item rfl Tryd.underlying41 sz41 rfl rfl rfl) ?_
 refine al_nil ?_
 exact fr_fin hK_ ()⟩, ⟨_, rfl, [3], rfl, by
 intro _
 intro X_ Y_ F_ K_ hK_
 refine al_show (m := Mem.plus (memOf w0 Z0 [(oBox bx2 35 [v2_0]), (oRow v2_0 41 tyS_api_Item a2)] [(oBox bx2 35 [v2_0]), (oRow v2_0 41 tyS_api_Item a2)] [(fPtr tyS_api_Item v0_0 a0)]) X_ Y_) (S := over (put (tab [(0, v0_0), (2, (pq bx2))]) 11 (ag [(str a0.Path), (iq a0.Kind), (iq a0.Mode), (iq a0.Time), (str a0.Bytes)])) F_) ?_
 refine al_buildSlice (τ := tyS_api_Item) (e := 41) (k := 1) (sz := 0) (by_ := 0) (z := undef) (cs := [(str a0.Path), (iq a0.Kind), (iq a0.Mode), (iq a0.Time), (str a0.Bytes)]) (xs := [a0]) rfl (by decide) (fun w a hm hs => ⟨([(str a0.Path), (iq a0.Kind), (iq a0.Mode), (iq a0.Time), (str a0.Bytes)]).toArray, rfl, by simp only [List.map_toArray, List.map_cons, List.map_nil, hs.ev (x := .tmp 11) rfl]; exact run_bs [(ag [(str a0.Path), (iq a0.Kind), (iq a0.Mode), (iq a0.Time), (str a0.Bytes)])] [(str a0.Path), (iq a0.Kind), (iq a0.Mode), (iq a0.Time), (str a0.Bytes)] Tryd.underlying35 to41 rfl rfl (bs_cons (l := [(str a0.Path), (iq a0.Kind), (iq a0.Mode), (iq a0.Time), (str a0.Bytes)]) (cs := []) (cv_rfl rfl) rfl bs_nil) hm⟩) (fun hm => ⟨_, _, rfl, (fun _ => mkS_api_Item rfl) hm, rfl⟩) rfl (fun v1 => ?_)
 refine al_nil ?_
 exact fr_fin hK_ v1⟩, trivial⟩ ?_
 intro _
 intro _
 intro _
 intro _
 intro v1
 intro X_ Y_ F_ K_ hK_
 refine al_show (m := Mem.plus (memOf w0 Z0 [(oBox bx2 35 [v2_0]), (oRow v2_0 41 tyS_api_Item a2)] [(oRow v1 41 tyS_api_Item [a0]), (oBox bx2 35 [v2_0]), (oRow v2_0 41 tyS_api_Item a2)] [(fPtr tyS_api_Item v0_0 a0)]) X_ Y_) (S := over (put (put (put (put (put (tab [(0, v0_0), (2, (pq bx2))]) 8 v2_0) 9 v0_0) 10 v0_0) 11 (ag [(str a0.Path), (iq a0.Kind), (iq a0.Mode), (iq a0.Time), (str a0.Bytes)])) 12 v1) F_) ?_
 obtain ⟨hc2, h⟩ := req_some h
 refine al_append 2 hc2.1 hc2.2 rfl (src_own (i := 2) 0 rfl) rfl rfl Tryd.underlying35 to41 rfl rfl rfl (fun v3 => ?_)
 refine al_nil ?_
 refine aq_show (m := Mem.plus (memOf w0 Z0 [(oBox bx2 35 [v2_0]), (oRow v2_0 41 tyS_api_Item a2)] [(oRow v1 41 tyS_api_Item [a0]), (oBox bx2 35 [v2_0]), (oRow v3 41 tyS_api_Item (a2 ++ ([a0])))] [(fPtr tyS_api_Item v0_0 a0)]) X_ Y_) ?_
 refine aq_next hK_ [0, 1, 2] [0] [(2, (pq bx2)), (13, v3)] [] [] rfl rfl (by decide) rfl ⟨rfl, rfl, trivial⟩ trivial ?_
 clear hK_ K_ F_ X_ Y_
 refine ta_show (m := (memOf w0 Z0 [(oBox bx2 35 [v2_0]), (oRow v2_0 41 tyS_api_Item a2)] [(oRow v1 41 tyS_api_Item [a0]), (oBox bx2 35 [v2_0]), (oRow v3 41 tyS_api_Item (a2 ++ ([a0])))] [(fPtr tyS_api_Item v0_0 a0)])) (S := (tab [(2, (pq bx2)), (13, v3)])) ?_
 refine ta_step 6 _ [] [] [] [] [] [] rfl rfl rfl (by kernel_rfl) rfl rfl rfl trivial ?_
 intro X_ Y_ F_ K_ hK_
 refine al_show (m := Mem.plus (memOf w0 Z0 [(oBox bx2 35 [v2_0]), (oRow v2_0 41 tyS_api_Item a2)] [(oRow v1 41 tyS_api_Item [a0]), (oBox bx2 35 [v2_0]), (oRow v3 41 tyS_api_Item (a2 ++ ([a0])))] [(fPtr tyS_api_Item v0_0 a0)]) X_ Y_) (S := over (tab [(2, (pq bx2)), (13, v3)]) F_) ?_
 refine al_store (i := 1) (vs := [v3]) (cs' := [v3]) rfl rfl rfl sz35 (cv_own 2 rfl) rfl (co_own 2 rfl co_nil) (Nat.le_of_ble_eq_true rfl) rfl rfl ?_
 refine al_nil ?_
 refine aq_show (m := Mem.plus (memOf w0 Z0 [(oBox bx2 35 [v2_0]), (oRow v2_0 41 tyS_api_Item a2)] [(oRow v1 41 tyS_api_Item [a0]), (oBox bx2 35 [v3]), (oRow v3 41 tyS_api_Item (a2 ++ ([a0])))] [(fPtr tyS_api_Item v0_0 a0)]) X_ Y_) ?_
 refine aq_next hK_ [0, 1, 2] [0] [(2, (pq bx2))] [] [] rfl rfl (by decide) rfl ⟨rfl, trivial⟩ trivial ?_
 clear hK_ K_ F_ X_ Y_
 refine ta_show (m := (memOf w0 Z0 [(oBox bx2 35 [v2_0]), (oRow v2_0 41 tyS_api_Item a2)] [(oRow v1 41 tyS_api_Item [a0]), (oBox bx2 35 [v3]), (oRow v3 41 tyS_api_Item (a2 ++ ([a0])))] [(fPtr tyS_api_Item v0_0 a0)])) (S := (tab [(2, (pq bx2))])) ?_
 refine ta_end [] [] rfl rfl (by kernel_rfl) rfl trivial ?_
 refine aq_show (m := (memOf w0 Z0 [(oBox bx2 35 [v2_0]), (oRow v2_0 41 tyS_api_Item a2)] [(oRow v1 41 tyS_api_Item [a0]), (oBox bx2 35 [v3]), (oRow v3 41 tyS_api_Item (a2 ++ ([a0])))] [(fPtr tyS_api_Item v0_0 a0)])) (S := (tab [(2, (pq bx2))])) ?_
 refine aq_block ?_
 refine fn_end ?_
 obtain rfl := Option.some.inj h
 exact fn_ret v3 [1, 2] [] rfl rfl rfl rfl (resC rfl (resN) rfl) rfl rfl rfl (by decide)
def f_delta_Apply_1_nilp_ptrD (fu : Nat) (a1 : S_api_Edit) (a2 : (List S_api_Item)) : Option (List S_api_Item) := (bif (!a1.Gone) then (req (((a2.length + ([a1.Item]).length) * 56 : Nat) ≤ 140737488355328 ∧ a2.length + ([a1.Item]).length ≤ 9223372036854775807) (some (a2 ++ ([a1.Item])))) else (some a2))
set_option maxHeartbeats 2000000 in
set_option maxRecDepth 100000 in
theorem f_delta_Apply_1_nilp_ptrD_ok (fu : Nat) (v1_0 : Value) (a1 : S_api_Edit) (bx2 : Nat) (v2_0 : Value) (a2 : (List S_api_Item)) {r : (List S_api_Item)} (h : f_delta_Apply_1_nilp_ptrD fu a1 a2 = some r) : FnOk Tryd.prog 60 [(Value.pointer none), v1_0, (ptr bx2 0)] [(fPtr tyS_api_Edit v1_0 a1)] [(oBox bx2 35 [v2_0]), (oRow v2_0 41 tyS_api_Item a2)] (fun (i : Value) => { val := (Value.tuple #[]), own := [(oBox bx2 35 [i]), (oRow i 41 tyS_api_Item r)] }) := by
 unfold f_delta_Apply_1_nilp_ptrD at h
 refine fn_enter Tryd.func60 rfl Tryd.ntmps60 rfl (fun w0 Z0 => ?_)
 refine aw_block ?_
 refine aw_sr ?_
 refine al_mv rfl rfl ?_
 refine al_val (ov_ptrEqP 0 rfl rfl rfl Tryd.underlying100 rfl) ?_
 refine al_as rfl rfl ?_
 refine al_nt ?_
 refine aw_cond_f rfl ?_
 refine aw_sr ?_
 refine al_mv rfl rfl ?_
 refine al_val (ov_nilCheckP 0 rfl rfl rfl) ?_
 refine al_fieldD (pr := fun (y : S_api_Edit) => y.Gone) 0 rfl subS_api_Edit_1 rfl Tryd.underlying43 rfl sz4 rfl rfl (fun p1 => ?_)
 refine al_val (ov_loadP (ds := [(bool a1.Gone)]) 0 rfl (fun h => h) rfl Tryd.underlying4 sz4 rfl rfl rfl) ?_
 refine al_val (ov_not rfl rfl) ?_
 refine al_as rfl rfl ?_
 refine al_nt ?_
 refine aw_cond rfl (fun hb2 => ?_) (fun hb2 => ?_)
 ·replace h := bif_t hb2 h
  refine aw_region_open [⟨0, 20, Unit, fun _ => { val := v2_0 }⟩, ⟨1, 21, Unit, fun _ => { val := v1_0 }⟩, ⟨2, 22, Unit, fun _ => { val := v1_0 }⟩, ⟨3, 23, Value, fun (i : Value) => { val := i, fz := [(fPtr tyS_api_Item i a1.Item)] }⟩, ⟨4, 24, Unit, fun _ => { val := (ag [(str a1.Item.Path), (iq a1.Item.Kind), (iq a1.Item.Mode), (iq a1.Item.Time), (str a1.Item.Bytes)]) }⟩, ⟨5, 25, Value, fun (i : Value) => { val := i, own := [(oRow i 41 tyS_api_Item [a1.Item])] }⟩] (tab [(1, v1_0), (2, (pq bx2))]) mixed (fun a hs => hs.tab _ (allT_mem ⟨rfl, rfl, trivial⟩)) ?_
  refine ta_show (m := (memOf w0 Z0 [(oBox bx2 35 [v2_0]), (oRow v2_0 41 tyS_api_Item a2)] [(oBox bx2 35 [v2_0]), (oRow v2_0 41 tyS_api_Item a2)] [(fPtr tyBool p1 a1.Gone), (fPtr tyS_api_Edit v1_0 a1)])) (S := (tab [(1, v1_0), (2, (pq bx2))])) ?_
  refine ta_step 6 _ [0, 1, 2, 3, 4, 5] [20, 21, 22, 23, 24, 25] [0, 1, 2, 3, 4, 5] [] [⟨0, 20, Unit, fun _ => { val := v2_0 }⟩, ⟨1, 21, Unit, fun _ => { val := v1_0 }⟩, ⟨2, 22, Unit, fun _ => { val := v1_0 }⟩, ⟨3, 23, Value, fun (i : Value) => { val := i, fz := [(fPtr tyS_api_Item i a1.Item)] }⟩, ⟨4, 24, Unit, fun _ => { val := (ag [(str a1.Item.Path), (iq a1.Item.Kind), (iq a1.Item.Mode), (iq a1.Item.Time), (str a1.Item.Bytes)]) }⟩, ⟨5, 25, Value, fun (i : Value) => { val := i, own := [(oRow i 41 tyS_api_Item [a1.Item])] }⟩] [] rfl rfl rfl (by kernel_rfl) rfl rfl rfl ⟨⟨_, rfl, [], rfl, by
 intro X_ Y_ F_ K_ hK_
 refine al_show (m := Mem.plus (memOf w0 Z0 [(oBox bx2 35 [v2_0]), (oRow v2_0 41 tyS_api_Item a2)] [(oBox bx2 35 [v2_0]), (oRow v2_0 41 tyS_api_Item a2)] [(fPtr tyBool p1 a1.Gone), (fPtr tyS_api_Edit v1_0 a1)]) X_ Y_) (S := over (tab [(1, v1_0), (2, (pq bx2))]) F_) ?_
 refine al_val (ov_load (i := 0) (v := v2_0) rfl rfl Tryd.underlying35 sz35 rfl rfl rfl rfl) ?_
 refine al_nil ?_
 exact fr_fin hK_ ()⟩, ⟨_, rfl, [], rfl, by
 intro X_ Y_ F_ K_ hK_
 refine al_show (m := Mem.plus (memOf w0 Z0 [(oBox bx2 35 [v2_0]), (oRow v2_0 41 tyS_api_Item a2)] [(oBox bx2 35 [v2_0]), (oRow v2_0 41 tyS_api_Item a2)] [(fPtr tyBool p1 a1.Gone), (fPtr tyS_api_Edit v1_0 a1)]) X_ Y_) (S := over (tab [(1, v1_0), (2, (pq bx2))]) F_) ?_
 refine al_mv rfl rfl ?_
 refine al_nil ?_
 exact fr_fin hK_ ()⟩, ⟨_, rfl, [1], rfl, by
 intro _
 intro X_ Y_ F_ K_ hK_
 refine al_show (m := Mem.plus (memOf w0 Z0 [(oBox bx2 35 [v2_0]), (oRow v2_0 41 tyS_api_Item a2)] [(oBox bx2 35 [v2_0]), (oRow v2_0 41 tyS_api_Item a2)] [(fPtr tyBool p1 a1.Gone), (fPtr tyS_api_Edit v1_0 a1)]) X_ Y_) (S := over (put (tab [(1, v1_0), (2, (pq bx2))]) 21 v1_0) F_) ?_
 refine al_val (ov_nilCheckP 1 rfl rfl rfl) ?_
 refine al_nil ?_
 exact fr_fin hK_ ()⟩, ⟨_, rfl, [2], rfl, by
 intro _
 intro X_ Y_ F_ K_ hK_
 refine al_show (m := Mem.plus (memOf w0 Z0 [(oBox bx2 35 [v2_0]), (oRow v2_0 41 tyS_api_Item a2)] [(oBox bx2 35 [v2_0]), (oRow v2_0 41 tyS_api_Item a2)] [(fPtr tyBool p1 a1.Gone), (fPtr tyS_api_Edit v1_0 a1)]) X_ Y_) (S := over (put (tab [(1, v1_0), (2, (pq bx2))]) 22 v1_0) F_) ?_
 refine al_fieldD (pr := fun (y : S_api_Edit) => y.Item) 1 rfl subS_api_Edit_2 rfl Tryd.underlying43 rfl sz41 rfl rfl (fun p3 => ?_)
 refine al_nil ?_
 exact fr_fin hK_ p3⟩, ⟨_, rfl, [3], rfl, by
 intro p3
 intro X_ Y_ F_ K_ hK_
 refine al_show (m := Mem.plus (memOf w0 Z0 [(oBox bx2 35 [v2_0]), (oRow v2_0 41 tyS_api_Item a2)] [(oBox bx2 35 [v2_0]), (oRow v2_0 41 tyS_api_Item a2)] [(fPtr tyS_api_Item p3 a1.Item), (fPtr tyBool p1 a1.Gone), (fPtr tyS_api_Edit v1_0 a1)]) X_ Y_) (S := over (put (tab [(1, v1_0), (2, (pq bx2))]) 23 p3) F_) ?_
 refine al_val (ov_loadP (ds := [(str a1.Item.Path), (iq a1.Item.Kind), (iq a1.Item.Mode), (iq a1.Item.Time), (str a1.Item.Bytes)]) 0 rfl encS_api_Item rfl Tryd.underlying41 sz41 rfl rfl rfl) ?_
 refine al_nil ?_
 exact fr_fin hK_ ()⟩, ⟨_, rfl, [4], rfl, by
 intro _
 intro X_ Y_ F_ K_ hK_
 refine al_show (m := Mem.plus (memOf w0 Z0 [(oBox bx2 35 [v2_0]), (oRow v2_0 41 tyS_api_Item a2)] [(oBox bx2 35 [v2_0]), (oRow v2_0 41 tyS_api_Item a2)] [(fPtr tyBool p1 a1.Gone), (fPtr tyS_api_Edit v1_0 a1)]) X_ Y_) (S := over (put (tab [(1, v1_0), (2, (pq bx2))]) 24 (ag [(str a1.Item.Path), (iq a1.Item.Kind), (iq a1.Item.Mode), (iq a1.Item.Time), (str a1.Item.Bytes)])) F_) ?_
 refine al_buildSlice (τ := tyS_api_Item) (e := 41) (k := 1) (sz := 0) (by_ := 0) (z := undef) (cs := [(str a1.Item.Path), (iq a1.Item.Kind), (iq a1.Item.Mode), (iq a1.Item.Time), (str a1.Item.Bytes)]) (xs := [a1.Item]) rfl (by decide) (fun w a hm hs => ⟨([(str a1.Item.Path), (iq a1.Item.Kind), (iq a1.Item.Mode), (iq a1.Item.Time), (str a1.Item.Bytes)]).toArray, rfl, by simp only [List.map_toArray, List.map_cons, List.map_nil, hs.ev (x := .tmp 24) rfl]; exact run_bs [(ag [(str a1.Item.Path), (iq a1.Item.Kind), (iq a1.Item.Mode), (iq a1.Item.Time), (str a1.Item.Bytes)])] [(str a1.Item.Path), (iq a1.Item.Kind), (iq a1.Item.Mode), (iq a1.Item.Time), (str a1.Item.Bytes)] Tryd.underlying35 to41 rfl rfl (bs_cons (l := [(str a1.Item.Path), (iq a1.Item.Kind), (iq a1.Item.Mode), (iq a1.Item.Time), (str a1.Item.Bytes)]) (cs := []) (cv_rfl rfl) rfl bs_nil) hm⟩) (fun hm => ⟨_, _, rfl, (fun _ => mkS_api_Item rfl) hm, rfl⟩) rfl (fun v4 => ?_)
 refine al_nil ?_
 exact fr_fin hK_ v4⟩, trivial⟩ ?_
  intro _
  intro _
  intro _
  intro p3
  intro _
  intro v4
  intro X_ Y_ F_ K_ hK_
  refine al_show (m := Mem.plus (memOf w0 Z0 [(oBox bx2 35 [v2_0]), (oRow v2_0 41 tyS_api_Item a2)] [(oRow v4 41 tyS_api_Item [a1.Item]), (oBox bx2 35 [v2_0]), (oRow v2_0 41 tyS_api_Item a2)] [(fPtr tyS_api_Item p3 a1.Item), (fPtr tyBool p1 a1.Gone), (fPtr tyS_api_Edit v1_0 a1)]) X_ Y_) (S := over (put (put (put (put (put (put (tab [(1, v1_0), (2, (pq bx2))]) 20 v2_0) 21 v1_0) 22 v1_0) 23 p3) 24 (ag [(str a1.Item.Path), (iq a1.Item.Kind), (iq a1.Item.Mode), (iq a1.Item.Time), (str a1.Item.Bytes)])) 25 v4) F_) ?_
  obtain ⟨hc5, h⟩ := req_some h
  refine al_append 2 hc5.1 hc5.2 rfl (src_own (i := 2) 0 rfl) rfl rfl Tryd.underlying35 to41 rfl rfl rfl (fun v6 => ?_)
  refine al_nil ?_
  refine aq_show (m := Mem.plus (memOf w0 Z0 [(oBox bx2 35 [v2_0]), (oRow v2_0 41 tyS_api_Item a2)] [(oRow v4 41 tyS_api_Item [a1.Item]), (oBox bx2 35 [v2_0]), (oRow v6 41 tyS_api_Item (a2 ++ ([a1.Item])))] [(fPtr tyS_api_Item p3 a1.Item), (fPtr tyBool p1 a1.Gone), (fPtr tyS_api_Edit v1_0 a1)]) X_ Y_) ?_
  refine aq_next hK_ [0, 1, 2] [1, 2] [(2, (pq bx2)), (26, v6)] [] [] rfl rfl (by decide) rfl ⟨rfl, rfl, trivial⟩ trivial ?_
  clear hK_ K_ F_ X_ Y_
  refine ta_show (m := (memOf w0 Z0 [(oBox bx2 35 [v2_0]), (oRow v2_0 41 tyS_api_Item a2)] [(oRow v4 41 tyS_api_Item [a1.Item]), (oBox bx2 35 [v2_0]), (oRow v6 41 tyS_api_Item (a2 ++ ([a1.Item])))] [(fPtr tyBool p1 a1.Gone), (fPtr tyS_api_Edit v1_0 a1)])) (S := (tab [(2, (pq bx2)), (26, v6)])) ?_
  refine ta_step 7 _ [] [] [] [] [] [] rfl rfl rfl (by kernel_rfl) rfl rfl rfl trivial ?_
  intro X_ Y_ F_ K_ hK_
  refine al_show (m := Mem.plus (memOf w0 Z0 [(oBox bx2 35 [v2_0]), (oRow v2_0 41 tyS_api_Item a2)] [(oRow v4 41 tyS_api_Item [a1.Item]), (oBox bx2 35 [v2_0]), (oRow v6 41 tyS_api_Item (a2 ++ ([a1.Item])))] [(fPtr tyBool p1 a1.Gone), (fPtr tyS_api_Edit v1_0 a1)]) X_ Y_) (S := over (tab [(2, (pq bx2)), (26, v6)]) F_) ?_
  refine al_store (i := 1) (vs := [v6]) (cs' := [v6]) rfl rfl rfl sz35 (cv_own 2 rfl) rfl (co_own 2 rfl co_nil) (Nat.le_of_ble_eq_true rfl) rfl rfl ?_
  refine al_nil ?_
  refine aq_show (m := Mem.plus (memOf w0 Z0 [(oBox bx2 35 [v2_0]), (oRow v2_0 41 tyS_api_Item a2)] [(oRow v4 41 tyS_api_Item [a1.Item]), (oBox bx2 35 [v6]), (oRow v6 41 tyS_api_Item (a2 ++ ([a1.Item])))] [(fPtr tyBool p1 a1.Gone), (fPtr tyS_api_Edit v1_0 a1)]) X_ Y_) ?_
  refine aq_next hK_ [0, 1, 2] [0, 1] [(2, (pq bx2))] [] [] rfl rfl (by decide) rfl ⟨rfl, trivial⟩ trivial ?_
  clear hK_ K_ F_ X_ Y_
  refine ta_show (m := (memOf w0 Z0 [(oBox bx2 35 [v2_0]), (oRow v2_0 41 tyS_api_Item a2)] [(oRow v4 41 tyS_api_Item [a1.Item]), (oBox bx2 35 [v6]), (oRow v6 41 tyS_api_Item (a2 ++ ([a1.Item])))] [(fPtr tyBool p1 a1.Gone), (fPtr tyS_api_Edit v1_0 a1)])) (S := (tab [(2, (pq bx2))])) ?_
  refine ta_end [] [] rfl rfl (by kernel_rfl) rfl trivial ?_
  refine aq_show (m := (memOf w0 Z0 [(oBox bx2 35 [v2_0]), (oRow v2_0 41 tyS_api_Item a2)] [(oRow v4 41 tyS_api_Item [a1.Item]), (oBox bx2 35 [v6]), (oRow v6 41 tyS_api_Item (a2 ++ ([a1.Item])))] [(fPtr tyBool p1 a1.Gone), (fPtr tyS_api_Edit v1_0 a1)])) (S := (tab [(2, (pq bx2))])) ?_
  refine aq_block ?_
  refine fn_end ?_
  obtain rfl := Option.some.inj h
  exact fn_ret v6 [1, 2] [] rfl rfl rfl rfl (resC rfl (resN) rfl) rfl rfl rfl (by decide)
 ·replace h := bif_f hb2 h
  refine aw_skip ?_
  refine aq_block ?_
  refine fn_end ?_
  obtain rfl := Option.some.inj h
  exact fn_ret v2_0 [0, 1] [] rfl rfl rfl rfl (resC rfl (resN) rfl) rfl rfl rfl (by decide)
def f_delta_Apply_1_nilp_nilp (fu : Nat) (a2 : (List S_api_Item)) : Option (List S_api_Item) := (none : Option (List S_api_Item))
set_option maxRecDepth 100000 in
theorem f_delta_Apply_1_nilp_nilp_ok (fu : Nat) (bx2 : Nat) (v2_0 : Value) (a2 : (List S_api_Item)) {r : (List S_api_Item)} (h : f_delta_Apply_1_nilp_nilp fu a2 = some r) : FnOk Tryd.prog 60 [(Value.pointer none), (Value.pointer none), (ptr bx2 0)] [] [(oBox bx2 35 [v2_0]), (oRow v2_0 41 tyS_api_Item a2)] (fun (i : Value) => { val := (Value.tuple #[]), own := [(oBox bx2 35 [i]), (oRow i 41 tyS_api_Item r)] }) := by
 unfold f_delta_Apply_1_nilp_nilp at h
 refine fn_enter Tryd.func60 rfl Tryd.ntmps60 rfl (fun w0 Z0 => ?_)
 refine aw_block ?_
 refine aw_sr ?_
 refine al_mv rfl rfl ?_
 refine al_val (ov_ptrEqN rfl rfl Tryd.underlying100 rfl) ?_
 refine al_as rfl rfl ?_
 refine al_nt ?_
 refine aw_cond_t rfl ?_
 cases h
def f_delta_sideBySide_api_Item_api_Edit__F52_F59_F60_L3 (fu : Nat) : Nat → (List S_api_Item) → (List S_api_Edit) → (List S_api_Item) → Option (List S_api_Item)
  | 0, _, _, _ => none
  | k2 + 1, l1x0, l1x1, l1x4_0_0 => (lt (fun (j4b20 : Bool) => (bif j4b20 then (lt (fun (j7i10 : Int) => (bif (decide (j7i10 ≤ (0 : Int))) then (opt (at? l1x0 (0 : Int)) fun (u11 : S_api_Item) => (req (0 ≤ (1 : Int) ∧ (1 : Int) ≤ (l1x0.length : Int)) (bif (decide (j7i10 ≥ (0 : Int))) then (opt (at? l1x1 (0 : Int)) fun (u18 : S_api_Edit) => (req (0 ≤ (1 : Int) ∧ (1 : Int) ≤ (l1x1.length : Int)) (opt (f_delta_Apply_1_ptrD_ptrD fu u11 u18 l1x4_0_0) fun (r24 : (List S_api_Item)) => (f_delta_sideBySide_api_Item_api_Edit__F52_F59_F60_L3 fu k2 (l1x0.drop ((1 : Int)).toNat) (l1x1.drop ((1 : Int)).toNat) r24)))) else (opt (f_delta_Apply_1_ptrD_nilp fu u11 l1x4_0_0) fun (r27 : (List S_api_Item)) => (f_delta_sideBySide_api_Item_api_Edit__F52_F59_F60_L3 fu k2 (l1x0.drop ((1 : Int)).toNat) l1x1 r27))))) else (bif (decide (j7i10 ≥ (0 : Int))) then (opt (at? l1x1 (0 : Int)) fun (u31 : S_api_Edit) => (req (0 ≤ (1 : Int) ∧ (1 : Int) ≤ (l1x1.length : Int)) (opt (f_delta_Apply_1_nilp_ptrD fu u31 l1x4_0_0) fun (r37 : (List S_api_Item)) => (f_delta_sideBySide_api_Item_api_Edit__F52_F59_F60_L3 fu k2 l1x0 (l1x1.drop ((1 : Int)).toNat) r37)))) else (opt (f_delta_Apply_1_nilp_nilp fu l1x4_0_0) fun (r40 : (List S_api_Item)) => (f_delta_sideBySide_api_Item_api_Edit__F52_F59_F60_L3 fu k2 l1x0 l1x1 r40))))) fun (kk8 : Int → Option (List S_api_Item)) => (bif ((l1x1.length : Int) == (0 : Int)) then (kk8 (-1 : Int)) else (bif ((l1x0.length : Int) == (0 : Int)) then (kk8 (1 : Int)) else (opt (at? l1x0 (0 : Int)) fun (u44 : S_api_Item) => (opt (f_delta_itemPath fu u44) fun (r48 : (List UInt8)) => (opt (at? l1x1 (0 : Int)) fun (u49 : S_api_Edit) => (opt (f_delta_editPath fu u49) fun (r53 : (List UInt8)) => (opt (f_names_Compare fu r48 r53) fun (r55 : Int) => (kk8 r55))))))))) else (some l1x4_0_0))) fun (kk5 : Bool → Option (List S_api_Item)) => (bif (decide ((l1x0.length : Int) > (0 : Int))) then (kk5 true) else (kk5 (decide ((l1x1.length : Int) > (0 : Int))))))
def f_delta_sideBySide_api_Item_api_Edit__F52_F59_F60 (fu : Nat) (a0 : (List S_api_Item)) (a1 : (List S_api_Edit)) (a4_0 : (List S_api_Item)) : Option (List S_api_Item) := (f_delta_sideBySide_api_Item_api_Edit__F52_F59_F60_L3 fu fu a0 a1 a4_0)
set_option maxHeartbeats 2000000 in
set_option maxRecDepth 100000 in
theorem f_delta_sideBySide_api_Item_api_Edit__F52_F59_F60_ok (fu : Nat) (v0_0 : Value) (a0 : (List S_api_Item)) (v1_0 : Value) (a1 : (List S_api_Edit)) (bx4_0 : Nat) (v4_0_0 : Value) (a4_0 : (List S_api_Item)) {r : (List S_api_Item)} (h : f_delta_sideBySide_api_Item_api_Edit__F52_F59_F60 fu a0 a1 a4_0 = some r) : FnOk Tryd.prog 58 [v0_0, v1_0, (Value.func (.func 52) #[] #[]), (Value.func (.func 59) #[] #[]), (Value.func (.func 60) #[] #[(ptr bx4_0 0)])] [(fDat (tyList tyS_api_Item) [v0_0] a0), (fDat (tyList tyS_api_Edit) [v1_0] a1), uMax, uTabs] [(oBox bx4_0 35 [v4_0_0]), (oRow v4_0_0 41 tyS_api_Item a4_0)] (fun (i : Value) => { val := (Value.tuple #[]), own := [(oBox bx4_0 35 [i]), (oRow i 41 tyS_api_Item r)] }) := by
 unfold f_delta_sideBySide_api_Item_api_Edit__F52_F59_F60 at h
 refine fn_enter Tryd.func58 rfl Tryd.ntmps58 rfl (fun w0 Z0 => ?_)
 refine aw_block ?_
 refine aw_state (aw_loop (ι := Value × (List S_api_Item) × Value × (List S_api_Edit) × Value × (List S_api_Item)) (fun i => (memOf w0 Z0 [(oBox bx4_0 35 [v4_0_0]), (oRow v4_0_0 41 tyS_api_Item a4_0)] [(oRow i.2.2.2.2.1 41 tyS_api_Item i.2.2.2.2.2), (oBox bx4_0 35 [i.2.2.2.2.1])] [(fDat (tyList tyS_api_Item) [i.1] i.2.1), (fDat (tyList tyS_api_Edit) [i.2.2.1] i.2.2.2.1), (fDat (tyList tyS_api_Item) [v0_0] a0), (fDat (tyList tyS_api_Edit) [v1_0] a1), uMax, uTabs])) (fun i => (tab [(0, i.1), (1, i.2.2.1), (2, (fq 52)), (3, (fq 59)), (4, (Value.func (.func 60) #[] #[(pq bx4_0)]))])) (fun q i => f_delta_sideBySide_api_Item_api_Edit__F52_F59_F60_L3 fu q i.2.1 i.2.2.2.1 i.2.2.2.2.2 = some r) ?_ fu (v0_0, a0, v1_0, a1, v4_0_0, a4_0) h) (fun w a hm hs => norm hm hs [1, 0] [0, 1, 0, 1, 2, 3] [(0, v0_0), (1, v1_0), (2, (fq 52)), (3, (fq 59)), (4, (Value.func (.func 60) #[] #[(pq bx4_0)]))] (by decide) ⟨rfl, rfl, rfl, rfl, rfl, trivial⟩)
 clear h
 rintro k2 ⟨l1v0, l1x0, l1v1, l1x1, l1v4_0_0, l1x4_0_0⟩ h
 have h : f_delta_sideBySide_api_Item_api_Edit__F52_F59_F60_L3 fu k2 l1x0 l1x1 l1x4_0_0 = some r := h
 obtain _ | k2 := k2
 · rw [f_delta_sideBySide_api_Item_api_Edit__F52_F59_F60_L3] at h; cases h
 rw [f_delta_sideBySide_api_Item_api_Edit__F52_F59_F60_L3] at h
 refine aw_show (m := (memOf w0 Z0 [(oBox bx4_0 35 [v4_0_0]), (oRow v4_0_0 41 tyS_api_Item a4_0)] [(oRow l1v4_0_0 41 tyS_api_Item l1x4_0_0), (oBox bx4_0 35 [l1v4_0_0])] [(fDat (tyList tyS_api_Item) [l1v0] l1x0), (fDat (tyList tyS_api_Edit) [l1v1] l1x1), (fDat (tyList tyS_api_Item) [v0_0] a0), (fDat (tyList tyS_api_Edit) [v1_0] a1), uMax, uTabs])) (S := (tab [(0, l1v0), (1, l1v1), (2, (fq 52)), (3, (fq 59)), (4, (Value.func (.func 60) #[] #[(pq bx4_0)]))])) ?_
 refine aw_seq ?_
 obtain ⟨kk5, hkk5, h⟩ := lt_some h
 refine aw_seq_join (ι := Bool) (fun i => (memOf w0 Z0 [(oBox bx4_0 35 [v4_0_0]), (oRow v4_0_0 41 tyS_api_Item a4_0)] [(oRow l1v4_0_0 41 tyS_api_Item l1x4_0_0), (oBox bx4_0 35 [l1v4_0_0])] [(fDat (tyList tyS_api_Item) [l1v0] l1x0), (fDat (tyList tyS_api_Edit) [l1v1] l1x1), (fDat (tyList tyS_api_Item) [v0_0] a0), (fDat (tyList tyS_api_Edit) [v1_0] a1), uMax, uTabs])) (fun i => (tab [(0, l1v0), (1, l1v1), (2, (fq 52)), (3, (fq 59)), (4, (Value.func (.func 60) #[] #[(pq bx4_0)])), (20, (bool i))])) (fun i => kk5 i = some r) ?_ ?_
 ·rintro j4b20 h
  have h : kk5 j4b20 = some r := h
  rw [hkk5] at h
  dsimp only at h
  clear hkk5
  refine aw_show (m := (memOf w0 Z0 [(oBox bx4_0 35 [v4_0_0]), (oRow v4_0_0 41 tyS_api_Item a4_0)] [(oRow l1v4_0_0 41 tyS_api_Item l1x4_0_0), (oBox bx4_0 35 [l1v4_0_0])] [(fDat (tyList tyS_api_Item) [l1v0] l1x0), (fDat (tyList tyS_api_Edit) [l1v1] l1x1), (fDat (tyList tyS_api_Item) [v0_0] a0), (fDat (tyList tyS_api_Edit) [v1_0] a1), uMax, uTabs])) (S := (tab [(0, l1v0), (1, l1v1), (2, (fq 52)), (3, (fq 59)), (4, (Value.func (.func 60) #[] #[(pq bx4_0)])), (20, (bool j4b20))])) ?_
  refine aw_cond rfl (fun hb6 => ?_) (fun hb6 => ?_)
  ·replace h := bif_t hb6 h
   refine aw_skip ?_
   refine aq_then ?_
   refine aw_block ?_
   refine aw_sr ?_
   refine al_as rfl rfl ?_
   refine al_nt ?_
   obtain ⟨kk8, hkk8, h⟩ := lt_some h
   refine aw_seq_join (ι := Int) (fun i => (memOf w0 Z0 [(oBox bx4_0 35 [v4_0_0]), (oRow v4_0_0 41 tyS_api_Item a4_0)] [(oRow l1v4_0_0 41 tyS_api_Item l1x4_0_0), (oBox bx4_0 35 [l1v4_0_0])] [(fDat (tyList tyS_api_Item) [l1v0] l1x0), (fDat (tyList tyS_api_Edit) [l1v1] l1x1), (fDat (tyList tyS_api_Item) [v0_0] a0), (fDat (tyList tyS_api_Edit) [v1_0] a1), uMax, uTabs])) (fun i => (tab [(0, l1v0), (1, l1v1), (2, (fq 52)), (3, (fq 59)), (4, (Value.func (.func 60) #[] #[(pq bx4_0)])), (10, (iq i))])) (fun i => kk8 i = some r) ?_ ?_
   ·rintro j7i10 h
    have h : kk8 j7i10 = some r := h
    rw [hkk8] at h
    dsimp only at h
    clear hkk8
    refine aw_show (m := (memOf w0 Z0 [(oBox bx4_0 35 [v4_0_0]), (oRow v4_0_0 41 tyS_api_Item a4_0)] [(oRow l1v4_0_0 41 tyS_api_Item l1x4_0_0), (oBox bx4_0 35 [l1v4_0_0])] [(fDat (tyList tyS_api_Item) [l1v0] l1x0), (fDat (tyList tyS_api_Edit) [l1v1] l1x1), (fDat (tyList tyS_api_Item) [v0_0] a0), (fDat (tyList tyS_api_Edit) [v1_0] a1), uMax, uTabs])) (S := (tab [(0, l1v0), (1, l1v1), (2, (fq 52)), (3, (fq 59)), (4, (Value.func (.func 60) #[] #[(pq bx4_0)])), (10, (iq j7i10))])) ?_
    refine aw_sr ?_
    refine al_as rfl rfl ?_
    refine al_nt ?_
    refine aw_sr ?_
    refine al_as rfl rfl ?_
    refine al_nt ?_
    refine aw_seq ?_
    refine aw_sr ?_
    refine al_mv rfl rfl ?_
    refine al_in rfl rfl rfl rfl ?_
    refine al_nt ?_
    refine aw_cond rfl (fun hb10 => ?_) (fun hb10 => ?_)
    ·replace h := bif_t hb10 h
     obtain ⟨u11, hu12, h⟩ := opt_some h
     obtain ⟨hc14, h⟩ := req_some h
     refine aw_region_draw 5 [(42, (fun u => fEq u l1v0)), (43, (fun p13 => (fPtr tyS_api_Item p13 u11))), (44, (fun u => fEq u l1v0)), (45, (fun s15 => (fDat (tyList tyS_api_Item) [s15] (l1x0.drop ((1 : Int)).toNat)))), (11, (fun p13 => (fPtr tyS_api_Item p13 u11)))] (tab [(0, l1v0), (1, l1v1), (2, (fq 52)), (3, (fq 59)), (4, (Value.func (.func 60) #[] #[(pq bx4_0)])), (10, (iq j7i10)), (12, (Value.pointer none))]) mixed (by kernel_rfl) rfl rfl rfl (fun a hs => hs.tab _ (allT_mem ⟨rfl, rfl, rfl, rfl, rfl, rfl, rfl, trivial⟩)) ⟨⟨rfl, ld_val (ov_move rfl rfl)⟩, ⟨rfl, ld_eq (j := 0) rfl rfl (ld_of (of_idxD 0 hu12 rfl rfl rfl Tryd.underlying35 sz41 rfl))⟩, ⟨rfl, ld_val (ov_move rfl rfl)⟩, ⟨rfl, ld_eq (j := 2) rfl rfl (ld_of (of_sliceDF 0 hc14.1 hc14.2 rfl rfl rfl Tryd.underlying35 sz41 rfl))⟩, ⟨rfl, ld_fact (j := 1) rfl rfl (fun p13 => ld_of (of_assign 0 rfl rfl rfl))⟩, trivial⟩ ?_
     refine tl_fact 3 rfl (fun s15 => ?_)
     refine tl_fact 4 rfl (fun p13 => ?_)
     refine tl_done ?_
     refine al_as rfl rfl ?_
     refine al_nt ?_
     refine aw_seq ?_
     refine aw_sr ?_
     refine al_mv rfl rfl ?_
     refine al_in rfl rfl rfl rfl ?_
     refine al_nt ?_
     refine aw_cond rfl (fun hb17 => ?_) (fun hb17 => ?_)
     ·replace h := bif_t hb17 h
      obtain ⟨u18, hu19, h⟩ := opt_some h
      obtain ⟨hc21, h⟩ := req_some h
      refine aw_region_draw 5 [(48, (fun u => fEq u l1v1)), (49, (fun p20 => (fPtr tyS_api_Edit p20 u18))), (50, (fun u => fEq u l1v1)), (51, (fun s22 => (fDat (tyList tyS_api_Edit) [s22] (l1x1.drop ((1 : Int)).toNat)))), (12, (fun p20 => (fPtr tyS_api_Edit p20 u18)))] (tab [(0, s15), (1, l1v1), (2, (fq 52)), (3, (fq 59)), (4, (Value.func (.func 60) #[] #[(pq bx4_0)])), (11, p13)]) mixed (by kernel_rfl) rfl rfl rfl (fun a hs => hs.tab _ (allT_mem ⟨rfl, rfl, rfl, rfl, rfl, rfl, trivial⟩)) ⟨⟨rfl, ld_val (ov_move rfl rfl)⟩, ⟨rfl, ld_eq (j := 0) rfl rfl (ld_of (of_idxD 3 hu19 rfl rfl rfl Tryd.underlying36 sz43 rfl))⟩, ⟨rfl, ld_val (ov_move rfl rfl)⟩, ⟨rfl, ld_eq (j := 2) rfl rfl (ld_of (of_sliceDF 3 hc21.1 hc21.2 rfl rfl rfl Tryd.underlying36 sz43 rfl))⟩, ⟨rfl, ld_fact (j := 1) rfl rfl (fun p20 => ld_of (of_assign 0 rfl rfl rfl))⟩, trivial⟩ ?_
      refine tl_fact 3 rfl (fun s22 => ?_)
      refine tl_fact 4 rfl (fun p20 => ?_)
      refine tl_done ?_
      refine al_as rfl rfl ?_
      refine al_nt ?_
      refine aw_region ?_
      refine al_mv rfl rfl ?_
      refine al_mv rfl rfl ?_
      refine al_mv rfl rfl ?_
      obtain ⟨r24, hc23, h⟩ := opt_some h
      refine al_callF (vs := [p13, p20]) (caps := [(pq bx4_0)]) (f_delta_Apply_1_ptrD_ptrD_ok fu p13 u11 p20 u18 bx4_0 l1v4_0_0 l1x4_0_0 hc23) rfl [] [1, 0] [] (pre_fz 2 rfl (pre_fz 0 rfl pre_nil)) rfl (by simp) (by decide) (.inl rfl) rfl rfl Tryd.func60 rfl rfl rfl (fun v25 => ?_)
      refine al_nil ?_
      refine aq_block ?_
      exact aq_again k2 (s15, (l1x0.drop ((1 : Int)).toNat), s22, (l1x1.drop ((1 : Int)).toNat), v25, r24) (Nat.lt_succ_self _) h (fun w a hm hs => norm hm hs [1, 0] [3, 1, 6, 7, 8, 9] [(0, s15), (1, s22), (2, (fq 52)), (3, (fq 59)), (4, (Value.func (.func 60) #[] #[(pq bx4_0)]))] (by decide) ⟨rfl, rfl, rfl, rfl, rfl, trivial⟩)
     ·replace h := bif_f hb17 h
      refine aw_skip ?_
      refine aq_then ?_
      refine aw_region ?_
      refine al_mv rfl rfl ?_
      refine al_mv rfl rfl ?_
      refine al_mv rfl rfl ?_
      obtain ⟨r27, hc26, h⟩ := opt_some h
      refine al_callF (vs := [p13, (Value.pointer none)]) (caps := [(pq bx4_0)]) (f_delta_Apply_1_ptrD_nilp_ok fu p13 u11 bx4_0 l1v4_0_0 l1x4_0_0 hc26) rfl [] [1, 0] [] (pre_fz 0 rfl pre_nil) rfl (by simp) (by decide) (.inl rfl) rfl rfl Tryd.func60 rfl rfl rfl (fun v28 => ?_)
      refine al_nil ?_
      refine aq_block ?_
      exact aq_again k2 (s15, (l1x0.drop ((1 : Int)).toNat), l1v1, l1x1, v28, r27) (Nat.lt_succ_self _) h (fun w a hm hs => norm hm hs [1, 0] [1, 3, 4, 5, 6, 7] [(0, s15), (1, l1v1), (2, (fq 52)), (3, (fq 59)), (4, (Value.func (.func 60) #[] #[(pq bx4_0)]))] (by decide) ⟨rfl, rfl, rfl, rfl, rfl, trivial⟩)
    ·replace h := bif_f hb10 h
     refine aw_skip ?_
     refine aq_then ?_
     refine aw_seq ?_
     refine aw_sr ?_
     refine al_mv rfl rfl ?_
     refine al_in rfl rfl rfl rfl ?_
     refine al_nt ?_
     refine aw_cond rfl (fun hb30 => ?_) (fun hb30 => ?_)
     ·replace h := bif_t hb30 h
      obtain ⟨u31, hu32, h⟩ := opt_some h
      obtain ⟨hc34, h⟩ := req_some h
      refine aw_region_draw 5 [(48, (fun u => fEq u l1v1)), (49, (fun p33 => (fPtr tyS_api_Edit p33 u31))), (50, (fun u => fEq u l1v1)), (51, (fun s35 => (fDat (tyList tyS_api_Edit) [s35] (l1x1.drop ((1 : Int)).toNat)))), (12, (fun p33 => (fPtr tyS_api_Edit p33 u31)))] (tab [(0, l1v0), (1, l1v1), (2, (fq 52)), (3, (fq 59)), (4, (Value.func (.func 60) #[] #[(pq bx4_0)])), (11, (Value.pointer none))]) mixed (by kernel_rfl) rfl rfl rfl (fun a hs => hs.tab _ (allT_mem ⟨rfl, rfl, rfl, rfl, rfl, rfl, trivial⟩)) ⟨⟨rfl, ld_val (ov_move rfl rfl)⟩, ⟨rfl, ld_eq (j := 0) rfl rfl (ld_of (of_idxD 1 hu32 rfl rfl rfl Tryd.underlying36 sz43 rfl))⟩, ⟨rfl, ld_val (ov_move rfl rfl)⟩, ⟨rfl, ld_eq (j := 2) rfl rfl (ld_of (of_sliceDF 1 hc34.1 hc34.2 rfl rfl rfl Tryd.underlying36 sz43 rfl))⟩, ⟨rfl, ld_fact (j := 1) rfl rfl (fun p33 => ld_of (of_assign 0 rfl rfl rfl))⟩, trivial⟩ ?_
      refine tl_fact 3 rfl (fun s35 => ?_)
      refine tl_fact 4 rfl (fun p33 => ?_)
      refine tl_done ?_
      refine al_as rfl rfl ?_
      refine al_nt ?_
      refine aw_region ?_
      refine al_mv rfl rfl ?_
      refine al_mv rfl rfl ?_
      refine al_mv rfl rfl ?_
      obtain ⟨r37, hc36, h⟩ := opt_some h
      refine al_callF (vs := [(Value.pointer none), p33]) (caps := [(pq bx4_0)]) (f_delta_Apply_1_nilp_ptrD_ok fu p33 u31 bx4_0 l1v4_0_0 l1x4_0_0 hc36) rfl [] [1, 0] [] (pre_fz 0 rfl pre_nil) rfl (by simp) (by decide) (.inl rfl) rfl rfl Tryd.func60 rfl rfl rfl (fun v38 => ?_)
      refine al_nil ?_
      refine aq_block ?_
      exact aq_again k2 (l1v0, l1x0, s35, (l1x1.drop ((1 : Int)).toNat), v38, r37) (Nat.lt_succ_self _) h (fun w a hm hs => norm hm hs [1, 0] [2, 1, 4, 5, 6, 7] [(0, l1v0), (1, s35), (2, (fq 52)), (3, (fq 59)), (4, (Value.func (.func 60) #[] #[(pq bx4_0)]))] (by decide) ⟨rfl, rfl, rfl, rfl, rfl, trivial⟩)
     ·replace h := bif_f hb30 h
      refine aw_skip ?_
      refine aq_then ?_
      refine aw_region ?_
      refine al_mv rfl rfl ?_
      refine al_mv rfl rfl ?_
      refine al_mv rfl rfl ?_
      obtain ⟨r40, hc39, h⟩ := opt_some h
      refine al_callF (vs := [(Value.pointer none), (Value.pointer none)]) (caps := [(pq bx4_0)]) (f_delta_Apply_1_nilp_nilp_ok fu bx4_0 l1v4_0_0 l1x4_0_0 hc39) rfl [] [1, 0] [] pre_nil rfl (by simp) (by decide) (.inl rfl) rfl rfl Tryd.func60 rfl rfl rfl (fun v41 => ?_)
      refine al_nil ?_
      refine aq_block ?_
      exact aq_again k2 (l1v0, l1x0, l1v1, l1x1, v41, r40) (Nat.lt_succ_self _) h (fun w a hm hs => norm hm hs [1, 0] [0, 1, 2, 3, 4, 5] [(0, l1v0), (1, l1v1), (2, (fq 52)), (3, (fq 59)), (4, (Value.func (.func 60) #[] #[(pq bx4_0)]))] (by decide) ⟨rfl, rfl, rfl, rfl, rfl, trivial⟩)
   ·clear hkk8
    refine aw_block ?_
    refine aw_sr ?_
    refine al_mv rfl rfl ?_
    refine al_val (ov_lenD 1 rfl rfl Tryd.underlying36 rfl) ?_
    refine al_in rfl rfl rfl rfl ?_
    refine al_as rfl rfl ?_
    refine al_nt ?_
    refine aw_cond rfl (fun hb42 => ?_) (fun hb42 => ?_)
    ·replace h := bif_t hb42 h
     refine aw_region ?_
     refine al_as rfl rfl ?_
     refine al_nil ?_
     refine aq_block ?_
     exact aq_join (-1 : Int) h (fun w a hm hs => norm hm hs [0, 1] [0, 1, 2, 3, 4, 5] [(0, l1v0), (1, l1v1), (2, (fq 52)), (3, (fq 59)), (4, (Value.func (.func 60) #[] #[(pq bx4_0)])), (10, (iq (-1 : Int)))] (by decide) ⟨rfl, rfl, rfl, rfl, rfl, rfl, trivial⟩)
    ·replace h := bif_f hb42 h
     refine aw_sr ?_
     refine al_mv rfl rfl ?_
     refine al_val (ov_lenD 0 rfl rfl Tryd.underlying35 rfl) ?_
     refine al_in rfl rfl rfl rfl ?_
     refine al_as rfl rfl ?_
     refine al_nt ?_
     refine aw_cond rfl (fun hb43 => ?_) (fun hb43 => ?_)
     ·replace h := bif_t hb43 h
      refine aw_region ?_
      refine al_as rfl rfl ?_
      refine al_nil ?_
      refine aq_block ?_
      exact aq_join (1 : Int) h (fun w a hm hs => norm hm hs [0, 1] [0, 1, 2, 3, 4, 5] [(0, l1v0), (1, l1v1), (2, (fq 52)), (3, (fq 59)), (4, (Value.func (.func 60) #[] #[(pq bx4_0)])), (10, (iq (1 : Int)))] (by decide) ⟨rfl, rfl, rfl, rfl, rfl, rfl, trivial⟩)
     ·replace h := bif_f hb43 h
      obtain ⟨u44, hu45, h⟩ := opt_some h
      obtain ⟨r48, hc47, h⟩ := opt_some h
      obtain ⟨u49, hu50, h⟩ := opt_some h
      obtain ⟨r53, hc52, h⟩ := opt_some h
      obtain ⟨r55, hc54, h⟩ := opt_some h
      refine aw_region_draw 11 [(21, (fun u => fEq u (fq 52))), (22, (fun u => fEq u l1v0)), (23, (fun p46 => (fPtr tyS_api_Item p46 u44))), (24, (fun u => fEq u (ag [(str u44.Path), (iq u44.Kind), (iq u44.Mode), (iq u44.Time), (str u44.Bytes)]))), (25, (fun u => fEq u (str r48))), (26, (fun u => fEq u (fq 59))), (27, (fun u => fEq u l1v1)), (28, (fun p51 => (fPtr tyS_api_Edit p51 u49))), (29, (fun u => fEq u (ag [(str u49.Path), (bool u49.Gone), (str u49.Item.Path), (iq u49.Item.Kind), (iq u49.Item.Mode), (iq u49.Item.Time), (str u49.Item.Bytes)]))), (30, (fun u => fEq u (str r53))), (31, (fun u => fEq u (iq r55)))] (tab [(0, l1v0), (1, l1v1), (2, (fq 52)), (3, (fq 59)), (4, (Value.func (.func 60) #[] #[(pq bx4_0)])), (10, (iq (0 : Int)))]) mixed (by kernel_rfl) rfl rfl rfl (fun a hs => hs.tab _ (allT_mem ⟨rfl, rfl, rfl, rfl, rfl, rfl, trivial⟩)) ⟨⟨rfl, ld_val (ov_move rfl rfl)⟩, ⟨rfl, ld_val (ov_move rfl rfl)⟩, ⟨rfl, ld_eq (j := 1) rfl rfl (ld_of (of_idxD 0 hu45 rfl rfl rfl Tryd.underlying35 sz41 rfl))⟩, ⟨rfl, ld_fact (j := 2) rfl rfl (fun p46 => ld_val (ov_loadP (ds := [(str u44.Path), (iq u44.Kind), (iq u44.Mode), (iq u44.Time), (str u44.Bytes)]) 0 rfl encS_api_Item rfl Tryd.underlying41 sz41 rfl rfl rfl))⟩, ⟨rfl, ld_eq (j := 0) rfl rfl (ld_eq (j := 3) rfl rfl (ld_callF (vs := [(ag [(str u44.Path), (iq u44.Kind), (iq u44.Mode), (iq u44.Time), (str u44.Bytes)])]) (caps := []) (f_delta_itemPath_ok fu u44 hc47) rfl [] pre_nil rfl rfl Tryd.func52 rfl rfl rfl))⟩, ⟨rfl, ld_val (ov_move rfl rfl)⟩, ⟨rfl, ld_val (ov_move rfl rfl)⟩, ⟨rfl, ld_eq (j := 6) rfl rfl (ld_of (of_idxD 1 hu50 rfl rfl rfl Tryd.underlying36 sz43 rfl))⟩, ⟨rfl, ld_fact (j := 7) rfl rfl (fun p51 => ld_val (ov_loadP (ds := [(str u49.Path), (bool u49.Gone), (str u49.Item.Path), (iq u49.Item.Kind), (iq u49.Item.Mode), (iq u49.Item.Time), (str u49.Item.Bytes)]) 0 rfl encS_api_Edit rfl Tryd.underlying43 sz43 rfl rfl rfl))⟩, ⟨rfl, ld_eq (j := 5) rfl rfl (ld_eq (j := 8) rfl rfl (ld_callF (vs := [(ag [(str u49.Path), (bool u49.Gone), (str u49.Item.Path), (iq u49.Item.Kind), (iq u49.Item.Mode), (iq u49.Item.Time), (str u49.Item.Bytes)])]) (caps := []) (f_delta_editPath_ok fu u49 hc52) rfl [] pre_nil rfl rfl Tryd.func59 rfl rfl rfl))⟩, ⟨rfl, ld_eq (j := 4) rfl rfl (ld_eq (j := 9) rfl rfl (ld_callV (vs := [(str r48), (str r53)]) (f_names_Compare_ok fu r48 r53 hc54) [] (pre_fz 4 rfl (pre_fz 5 rfl pre_nil)) rfl Tryd.func66 rfl rfl rfl))⟩, trivial⟩ ?_
      refine tl_eq 10 rfl ?_
      refine tl_done ?_
      refine al_as rfl rfl ?_
      refine al_nil ?_
      refine aq_block ?_
      exact aq_join r55 h (fun w a hm hs => norm hm hs [0, 1] [0, 1, 2, 3, 4, 5] [(0, l1v0), (1, l1v1), (2, (fq 52)), (3, (fq 59)), (4, (Value.func (.func 60) #[] #[(pq bx4_0)])), (10, (iq r55))] (by decide) ⟨rfl, rfl, rfl, rfl, rfl, rfl, trivial⟩)
  ·replace h := bif_f hb6 h
   refine aw_exit ?_
   refine aq_then_exit ?_
   refine aq_then_exit ?_
   refine aq_block_exit ?_
   refine fn_end ?_
   obtain rfl := Option.some.inj h
   exact fn_ret l1v4_0_0 [1, 0] [] rfl rfl rfl rfl (resC rfl (resN) rfl) rfl rfl rfl (by decide)
 ·clear hkk5
  refine aw_region ?_
  refine al_mv rfl rfl ?_
  refine al_val (ov_lenD 0 rfl rfl Tryd.underlying35 rfl) ?_
  refine al_in rfl rfl rfl rfl ?_
  refine al_mv rfl rfl ?_
  refine al_caseB 16 rfl (fun hb56 => ?_) (fun hb56 => ?_)
  ·replace h := bif_t hb56 h
   refine al_skip ?_
   refine al_skip ?_
   refine al_skip ?_
   refine al_val (ov_pick_t rfl rfl rfl) ?_
   refine al_nil ?_
   exact aq_join true h (fun w a hm hs => norm hm hs [0, 1] [0, 1, 2, 3, 4, 5] [(0, l1v0), (1, l1v1), (2, (fq 52)), (3, (fq 59)), (4, (Value.func (.func 60) #[] #[(pq bx4_0)])), (20, (bool true))] (by decide) ⟨rfl, rfl, rfl, rfl, rfl, rfl, trivial⟩)
  ·replace h := bif_f hb56 h
   refine al_mv rfl rfl ?_
   refine al_val (ov_lenD 1 rfl rfl Tryd.underlying36 rfl) ?_
   refine al_in rfl rfl rfl rfl ?_
   refine al_val (ov_pick_f rfl rfl rfl) ?_
   refine al_nil ?_
   exact aq_join (decide ((l1x1.length : Int) > (0 : Int))) h (fun w a hm hs => norm hm hs [0, 1] [0, 1, 2, 3, 4, 5] [(0, l1v0), (1, l1v1), (2, (fq 52)), (3, (fq 59)), (4, (Value.func (.func 60) #[] #[(pq bx4_0)])), (20, (bool (decide ((l1x1.length : Int) > (0 : Int)))))] (by decide) ⟨rfl, rfl, rfl, rfl, rfl, rfl, trivial⟩)
def f_delta_Apply (fu : Nat) (a0 : (List S_api_Item)) (a1 : (List S_api_Edit)) : Option ((List S_api_Item) × Int) := (opt (f_walk_Check fu a0) fun (r2 : Int) => (bif (r2 != (0 : Int)) then (some (([] : List S_api_Item), r2)) else (opt (f_delta_Check fu a1) fun (r5 : Int) => (bif (r5 != (0 : Int)) then (some (([] : List S_api_Item), r5)) else (opt (f_delta_sideBySide_api_Item_api_Edit__F52_F59_F60 fu a0 a1 ([] : List S_api_Item)) fun (r9 : (List S_api_Item)) => (opt (f_walk_Check fu r9) fun (r12 : Int) => (bif (r12 != (0 : Int)) then (some (([] : List S_api_Item), r12)) else (some (r9, (0 : Int))))))))))
set_option maxHeartbeats 2000000 in
set_option maxRecDepth 100000 in
theorem f_delta_Apply_ok (fu : Nat) (v0_0 : Value) (a0 : (List S_api_Item)) (v1_0 : Value) (a1 : (List S_api_Edit)) {r : ((List S_api_Item) × Int)} (h : f_delta_Apply fu a0 a1 = some r) : FnOk Tryd.prog 19 [v0_0, v1_0] [(fDat (tyList tyS_api_Item) [v0_0] a0), (fDat (tyList tyS_api_Edit) [v1_0] a1), uMax, uTabs] [] (fun (i : Value) => { val := (Value.tuple #[i, (int .i64 r.2)]), own := [(oRow i 41 tyS_api_Item r.1)] }) := by
 unfold f_delta_Apply at h
 refine fn_enter Tryd.func19 rfl Tryd.ntmps19 rfl (fun w0 Z0 => ?_)
 refine aw_sr ?_
 refine al_as rfl rfl ?_
 refine al_as rfl rfl ?_
 refine al_nt ?_
 refine aw_seq ?_
 refine aw_sr ?_
 refine al_mv rfl rfl ?_
 obtain ⟨r2, hc1, h⟩ := opt_some h
 refine al_call (vs := [v0_0]) (f_walk_Check_ok fu v0_0 a0 hc1) [] [] [] (pre_fz 0 rfl (pre_fz 2 rfl (pre_fz 3 rfl pre_nil))) rfl (by simp) (by decide) (.inl rfl) rfl Tryd.func50 rfl rfl rfl (fun _ => ?_)
 refine al_as rfl rfl ?_
 refine al_nt ?_
 refine aw_sr ?_
 refine al_mv rfl rfl ?_
 refine al_in rfl rfl rfl rfl ?_
 refine al_nt ?_
 refine aw_cond rfl (fun hb3 => ?_) (fun hb3 => ?_)
 ·replace h := bif_t hb3 h
  refine aw_sr ?_
  refine al_mv rfl rfl ?_
  refine al_as rfl rfl ?_
  refine al_as rfl rfl ?_
  refine al_nt ?_
  refine aw_ret ?_
  refine aq_then_ret ?_
  refine aq_nilR 41 tyS_api_Item ?_
  obtain rfl := Option.some.inj h
  exact fn_ret nS [0] [] rfl rfl rfl rfl (res2 rfl rfl rfl) rfl rfl rfl (by decide)
 ·replace h := bif_f hb3 h
  refine aw_skip ?_
  refine aq_then ?_
  refine aw_seq ?_
  refine aw_sr ?_
  refine al_mv rfl rfl ?_
  obtain ⟨r5, hc4, h⟩ := opt_some h
  refine al_call (vs := [v1_0]) (f_delta_Check_ok fu v1_0 a1 hc4) [] [] [] (pre_fz 1 rfl (pre_fz 2 rfl (pre_fz 3 rfl pre_nil))) rfl (by simp) (by decide) (.inl rfl) rfl Tryd.func23 rfl rfl rfl (fun _ => ?_)
  refine al_as rfl rfl ?_
  refine al_nt ?_
  refine aw_sr ?_
  refine al_mv rfl rfl ?_
  refine al_in rfl rfl rfl rfl ?_
  refine al_nt ?_
  refine aw_cond rfl (fun hb6 => ?_) (fun hb6 => ?_)
  ·replace h := bif_t hb6 h
   refine aw_sr ?_
   refine al_mv rfl rfl ?_
   refine al_as rfl rfl ?_
   refine al_as rfl rfl ?_
   refine al_nt ?_
   refine aw_ret ?_
   refine aq_then_ret ?_
   refine aq_nilR 41 tyS_api_Item ?_
   obtain rfl := Option.some.inj h
   exact fn_ret nS [0] [] rfl rfl rfl rfl (res2 rfl rfl rfl) rfl rfl rfl (by decide)
  ·replace h := bif_f hb6 h
   refine aw_skip ?_
   refine aq_tr ?_
   refine al_alloc (zs := [nS]) (zeroOf_to to35) rfl rfl (fun g7 => ?_)
   refine al_nt ?_
   refine aw_sr ?_
   refine al_mv rfl rfl ?_
   refine al_mv rfl rfl ?_
   refine al_val (ov_makeFunc2 (vs := [(pq g7)]) rfl rfl) ?_
   refine al_nilR 41 tyS_api_Item ?_
   obtain ⟨r9, hc8, h⟩ := opt_some h
   refine al_call (vs := [v0_0, v1_0, (fq 52), (fq 59), (Value.func (.func 60) #[] #[(pq g7)])]) (f_delta_sideBySide_api_Item_api_Edit__F52_F59_F60_ok fu v0_0 a0 v1_0 a1 g7 nS ([] : List S_api_Item) hc8) [] [1, 0] [] (pre_fz 0 rfl (pre_fz 1 rfl (pre_fz 2 rfl (pre_fz 3 rfl pre_nil)))) rfl (by simp) (by decide) (.inl rfl) rfl Tryd.func58 rfl rfl rfl (fun v10 => ?_)
   refine al_nt ?_
   refine aw_seq ?_
   refine aw_sr ?_
   refine al_val (ov_load (i := 0) (v := v10) rfl rfl Tryd.underlying35 sz35 rfl rfl rfl rfl) ?_
   obtain ⟨r12, hc11, h⟩ := opt_some h
   refine al_call (vs := [v10]) (f_walk_Check_ok fu v10 r9 hc11) [1] [] [0, 1] (pre_own 1 rfl rfl (pre_fz 2 rfl (pre_fz 3 rfl pre_nil))) rfl (by simp) (by decide) (.inr flat_res0) rfl Tryd.func50 rfl rfl rfl (fun _ => ?_)
   refine al_as rfl rfl ?_
   refine al_nt ?_
   refine aw_sr ?_
   refine al_mv rfl rfl ?_
   refine al_in rfl rfl rfl rfl ?_
   refine al_nt ?_
   refine aw_cond rfl (fun hb13 => ?_) (fun hb13 => ?_)
   ·replace h := bif_t hb13 h
    refine aw_sr ?_
    refine al_mv rfl rfl ?_
    refine al_as rfl rfl ?_
    refine al_as rfl rfl ?_
    refine al_nt ?_
    refine aw_ret ?_
    refine aq_then_ret ?_
    refine aq_nilR 41 tyS_api_Item ?_
    obtain rfl := Option.some.inj h
    exact fn_ret nS [0] [] rfl rfl rfl rfl (res2 rfl rfl rfl) rfl rfl rfl (by decide)
   ·replace h := bif_f hb13 h
    refine aw_skip ?_
    refine aq_tr ?_
    refine al_val (ov_load (i := 0) (v := v10) rfl rfl Tryd.underlying35 sz35 rfl rfl rfl rfl) ?_
    refine al_as rfl rfl ?_
    refine al_as rfl rfl ?_
    refine al_nt ?_
    refine aw_ret ?_
    obtain rfl := Option.some.inj h
    exact fn_ret v10 [1] [] rfl rfl rfl rfl (res2 rfl rfl rfl) rfl rfl rfl (by decide)
def f_lumref_cutAt : Nat → (List UInt8) → Option (List (List UInt8))
  | 0, _ => none
  | fu + 1, a0 => (opt (f_strings_IndexByte fu a0 (47 : Int)) fun (r2 : Int) => (bif (decide (r2 < (0 : Int))) then (some [a0]) else (req (0 ≤ r2 ∧ r2 ≤ (a0.length : Int)) (req (0 ≤ (IntKind.i64.wrap (r2 + (1 : Int))) ∧ (IntKind.i64.wrap (r2 + (1 : Int))) ≤ (a0.length : Int)) (opt (f_lumref_cutAt fu (a0.drop ((IntKind.i64.wrap (r2 + (1 : Int)))).toNat)) fun (r9 : (List (List UInt8))) => (req (((([(a0.take (r2).toNat)]).length + r9.length) * 16 : Nat) ≤ 140737488355328 ∧ ([(a0.take (r2).toNat)]).length + r9.length ≤ 9223372036854775807) (some (([(a0.take (r2).toNat)]) ++ r9))))))))
set_option maxHeartbeats 2000000 in
set_option maxRecDepth 100000 in
theorem f_lumref_cutAt_ok (fu : Nat) (a0 : (List UInt8)) {r : (List (List UInt8))} (h : f_lumref_cutAt fu a0 = some r) : FnOk Tryd.prog 75 [(str a0)] [] [] (fun (i : Value) => { val := i, own := [(oRow i 9 tyStr r)] }) := by
 cases fu with
 | zero => rw [f_lumref_cutAt] at h; cases h
 | succ fu =>
  rw [f_lumref_cutAt] at h
  refine fn_enter Tryd.func75 rfl Tryd.ntmps75 rfl (fun w0 Z0 => ?_)
  refine aw_sr ?_
  refine al_as rfl rfl ?_
  refine al_nt ?_
  refine aw_sr ?_
  refine al_mv rfl rfl ?_
  obtain ⟨r2, hc1, h⟩ := opt_some h
  refine al_call (vs := [(str a0), (i8 (47 : Int))]) (f_strings_IndexByte_ok fu a0 (47 : Int) hc1) [] [] [] pre_nil rfl (by simp) (by decide) (.inl rfl) rfl Tryd.func128 rfl rfl rfl (fun _ => ?_)
  refine al_as rfl rfl ?_
  refine al_nt ?_
  refine aw_seq ?_
  refine aw_sr ?_
  refine al_mv rfl rfl ?_
  refine al_in rfl rfl rfl rfl ?_
  refine al_nt ?_
  refine aw_cond rfl (fun hb3 => ?_) (fun hb3 => ?_)
  ·replace h := bif_t hb3 h
   refine aw_sr ?_
   refine al_mv rfl rfl ?_
   refine al_buildSlice (τ := tyStr) (e := 9) (k := 1) (sz := 0) (by_ := 0) (z := undef) (cs := [(str a0)]) (xs := [a0]) rfl (by decide) (fun w a hm hs => ⟨([(str a0)]).toArray, rfl, by simp only [List.map_toArray, List.map_cons, List.map_nil, hs.ev (x := .tmp 8) rfl]; exact run_bs [(str a0)] [(str a0)] Tryd.underlying50 to9 rfl rfl (bs_cons (l := [(str a0)]) (cs := []) (cv_rfl rfl) rfl bs_nil) hm⟩) (fun hm => ⟨_, _, rfl, (fun _ => rfl) hm, rfl⟩) rfl (fun v4 => ?_)
   refine al_as rfl rfl ?_
   refine al_nt ?_
   refine aw_ret ?_
   refine aq_then_ret ?_
   obtain rfl := Option.some.inj h
   exact fn_ret v4 [0] [] rfl rfl rfl rfl (res1 rfl rfl) rfl rfl rfl (by decide)
  ·replace h := bif_f hb3 h
   refine aw_skip ?_
   refine aq_then ?_
   refine aw_seq ?_
   obtain ⟨hc5, h⟩ := req_some h
   obtain ⟨hc7, h⟩ := req_some h
   refine aw_region_open [⟨0, 10, Unit, fun _ => { val := (str a0) }⟩, ⟨1, 11, Unit, fun _ => { val := (iq r2) }⟩, ⟨2, 12, Unit, fun _ => { val := (str (a0.take (r2).toNat)) }⟩, ⟨3, 13, Value, fun (i : Value) => { val := i, own := [(oRow i 9 tyStr [(a0.take (r2).toNat)])] }⟩, ⟨4, 14, Unit, fun _ => { val := (str a0) }⟩, ⟨5, 15, Unit, fun _ => { val := (iq r2) }⟩, ⟨6, 16, Unit, fun _ => { val := (iq (wq (r2 + (1 : Int)))) }⟩, ⟨7, 17, Unit, fun _ => { val := (str (a0.drop ((wq (r2 + (1 : Int)))).toNat)) }⟩] (tab [(0, (str a0)), (2, nS), (3, (iq r2))]) mixed (fun a hs => hs.tab _ (allT_mem ⟨rfl, rfl, rfl, trivial⟩)) ?_
   refine ta_show (m := (memOf w0 Z0 [] [] [])) (S := (tab [(0, (str a0)), (2, nS), (3, (iq r2))])) ?_
   refine ta_step 8 _ [0, 1, 2, 3, 4, 5, 6, 7] [10, 11, 12, 13, 14, 15, 16, 17] [4, 5, 6, 7] [] [⟨4, 14, Unit, fun _ => { val := (str a0) }⟩, ⟨5, 15, Unit, fun _ => { val := (iq r2) }⟩, ⟨6, 16, Unit, fun _ => { val := (iq (wq (r2 + (1 : Int)))) }⟩, ⟨7, 17, Unit, fun _ => { val := (str (a0.drop ((wq (r2 + (1 : Int)))).toNat)) }⟩] [⟨0, 10, Unit, fun _ => { val := (str a0) }⟩, ⟨1, 11, Unit, fun _ => { val := (iq r2) }⟩, ⟨2, 12, Unit, fun _ => { val := (str (a0.take (r2).toNat)) }⟩, ⟨3, 13, Value, fun (i : Value) => { val := i, own := [(oRow i 9 tyStr [(a0.take (r2).toNat)])] }⟩] rfl rfl rfl (by kernel_rfl) rfl rfl rfl ⟨⟨_, rfl, [], rfl, by
 intro X_ Y_ F_ K_ hK_
 refine al_show (m := Mem.plus (memOf w0 Z0 [] [] []) X_ Y_) (S := over (tab [(0, (str a0)), (2, nS), (3, (iq r2))]) F_) ?_
 refine al_mv rfl rfl ?_
 refine al_nil ?_
 exact fr_fin hK_ ()⟩, ⟨_, rfl, [], rfl, by
 intro X_ Y_ F_ K_ hK_
 refine al_show (m := Mem.plus (memOf w0 Z0 [] [] []) X_ Y_) (S := over (tab [(0, (str a0)), (2, nS), (3, (iq r2))]) F_) ?_
 refine al_mv rfl rfl ?_
 refine al_nil ?_
 exact fr_fin hK_ ()⟩, ⟨_, rfl, [0, 1], rfl, by
 intro _
 intro _
 intro X_ Y_ F_ K_ hK_
 refine al_show (m := Mem.plus (memOf w0 Z0 [] [] []) X_ Y_) (S := over (put (put (tab [(0, (str a0)), (2, nS), (3, (iq r2))]) 10 (str a0)) 11 (iq r2)) F_) ?_
 refine al_val (ov_strTo hc5.1 hc5.2 Tryd.underlying9 rfl rfl rfl) ?_
 refine al_nil ?_
 exact fr_fin hK_ ()⟩, ⟨_, rfl, [2], rfl, by
 intro _
 intro X_ Y_ F_ K_ hK_
 refine al_show (m := Mem.plus (memOf w0 Z0 [] [] []) X_ Y_) (S := over (put (tab [(0, (str a0)), (2, nS), (3, (iq r2))]) 12 (str (a0.take (r2).toNat))) F_) ?_
 refine al_buildSlice (τ := tyStr) (e := 9) (k := 1) (sz := 0) (by_ := 0) (z := undef) (cs := [(str (a0.take (r2).toNat))]) (xs := [(a0.take (r2).toNat)]) rfl (by decide) (fun w a hm hs => ⟨([(str (a0.take (r2).toNat))]).toArray, rfl, by simp only [List.map_toArray, List.map_cons, List.map_nil, hs.ev (x := .tmp 12) rfl]; exact run_bs [(str (a0.take (r2).toNat))] [(str (a0.take (r2).toNat))] Tryd.underlying50 to9 rfl rfl (bs_cons (l := [(str (a0.take (r2).toNat))]) (cs := []) (cv_rfl rfl) rfl bs_nil) hm⟩) (fun hm => ⟨_, _, rfl, (fun _ => rfl) hm, rfl⟩) rfl (fun v6 => ?_)
 refine al_nil ?_
 exact fr_fin hK_ v6⟩, ⟨_, rfl, [], rfl, by
 intro X_ Y_ F_ K_ hK_
 refine al_show (m := Mem.plus (memOf w0 Z0 [] [] []) X_ Y_) (S := over (tab [(0, (str a0)), (2, nS), (3, (iq r2))]) F_) ?_
 refine al_mv rfl rfl ?_
 refine al_nil ?_
 exact fr_fin hK_ ()⟩, ⟨_, rfl, [], rfl, by
 intro X_ Y_ F_ K_ hK_
 refine al_show (m := Mem.plus (memOf w0 Z0 [] [] []) X_ Y_) (S := over (tab [(0, (str a0)), (2, nS), (3, (iq r2))]) F_) ?_
 refine al_mv rfl rfl ?_
 refine al_nil ?_
 exact fr_fin hK_ ()⟩, ⟨_, rfl, [5], rfl, by
 intro _
 intro X_ Y_ F_ K_ hK_
 refine al_show (m := Mem.plus (memOf w0 Z0 [] [] []) X_ Y_) (S := over (put (tab [(0, (str a0)), (2, nS), (3, (iq r2))]) 15 (iq r2)) F_) ?_
 refine al_in rfl rfl rfl rfl ?_
 refine al_nil ?_
 exact fr_fin hK_ ()⟩, ⟨_, rfl, [4, 6], rfl, by
 intro _
 intro _
 intro X_ Y_ F_ K_ hK_
 refine al_show (m := Mem.plus (memOf w0 Z0 [] [] []) X_ Y_) (S := over (put (put (tab [(0, (str a0)), (2, nS), (3, (iq r2))]) 14 (str a0)) 16 (iq (wq (r2 + (1 : Int))))) F_) ?_
 refine al_val (ov_strFrom hc7.1 hc7.2 Tryd.underlying9 rfl rfl rfl) ?_
 refine al_nil ?_
 exact fr_fin hK_ ()⟩, trivial⟩ ?_
   intro _
   intro _
   intro _
   intro _
   intro X_ Y_ F_ K_ hK_
   refine al_show (m := Mem.plus (memOf w0 Z0 [] [] []) X_ Y_) (S := over (put (put (put (put (tab [(0, (str a0)), (2, nS), (3, (iq r2))]) 14 (str a0)) 15 (iq r2)) 16 (iq (wq (r2 + (1 : Int))))) 17 (str (a0.drop ((wq (r2 + (1 : Int)))).toNat))) F_) ?_
   obtain ⟨r9, hc8, h⟩ := opt_some h
   refine al_callX (vs := [(str (a0.drop ((wq (r2 + (1 : Int)))).toNat))]) (f_lumref_cutAt_ok fu (a0.drop ((wq (r2 + (1 : Int)))).toNat) hc8) [] [] [] pre_nil rfl (by simp) (by decide) rfl (.inl rfl) rfl Tryd.func75 rfl rfl rfl (fun v10 => ?_)
   refine al_nil ?_
   refine aq_show (m := Mem.plus (memOf w0 Z0 [] [(oRow v10 9 tyStr r9)] []) X_ Y_) ?_
   refine aq_next hK_ [0] [] [(0, (str a0)), (2, nS), (3, (iq r2)), (18, v10)] [10, 11, 12, 13] [] rfl rfl (by decide) rfl ⟨rfl, rfl, rfl, rfl, trivial⟩ ⟨rfl, rfl, rfl, rfl, trivial⟩ ?_
   clear hK_ K_ F_ X_ Y_
   refine ta_show (m := (memOf w0 Z0 [] [(oRow v10 9 tyStr r9)] [])) (S := (tab [(0, (str a0)), (2, nS), (3, (iq r2)), (18, v10)])) ?_
   refine ta_step 9 _ [0, 1, 2, 3] [10, 11, 12, 13] [0, 1, 2, 3] [] [⟨0, 10, Unit, fun _ => { val := (str a0) }⟩, ⟨1, 11, Unit, fun _ => { val := (iq r2) }⟩, ⟨2, 12, Unit, fun _ => { val := (str (a0.take (r2).toNat)) }⟩, ⟨3, 13, Value, fun (i : Value) => { val := i, own := [(oRow i 9 tyStr [(a0.take (r2).toNat)])] }⟩] [] rfl rfl rfl (by kernel_rfl) rfl rfl rfl ⟨⟨_, rfl, [], rfl, by
 intro X_ Y_ F_ K_ hK_
 refine al_show (m := Mem.plus (memOf w0 Z0 [] [(oRow v10 9 tyStr r9)] []) X_ Y_) (S := over (tab [(0, (str a0)), (2, nS), (3, (iq r2)), (18, v10)]) F_) ?_
 refine al_mv rfl rfl ?_
 refine al_nil ?_
 exact fr_fin hK_ ()⟩, ⟨_, rfl, [], rfl, by
 intro X_ Y_ F_ K_ hK_
 refine al_show (m := Mem.plus (memOf w0 Z0 [] [(oRow v10 9 tyStr r9)] []) X_ Y_) (S := over (tab [(0, (str a0)), (2, nS), (3, (iq r2)), (18, v10)]) F_) ?_
 refine al_mv rfl rfl ?_
 refine al_nil ?_
 exact fr_fin hK_ ()⟩, ⟨_, rfl, [0, 1], rfl, by
 intro _
 intro _
 intro X_ Y_ F_ K_ hK_
 refine al_show (m := Mem.plus (memOf w0 Z0 [] [(oRow v10 9 tyStr r9)] []) X_ Y_) (S := over (put (put (tab [(0, (str a0)), (2, nS), (3, (iq r2)), (18, v10)]) 10 (str a0)) 11 (iq r2)) F_) ?_
 refine al_val (ov_strTo hc5.1 hc5.2 Tryd.underlying9 rfl rfl rfl) ?_
 refine al_nil ?_
 exact fr_fin hK_ ()⟩, ⟨_, rfl, [2], rfl, by
 intro _
 intro X_ Y_ F_ K_ hK_
 refine al_show (m := Mem.plus (memOf w0 Z0 [] [(oRow v10 9 tyStr r9)] []) X_ Y_) (S := over (put (tab [(0, (str a0)), (2, nS), (3, (iq r2)), (18, v10)]) 12 (str (a0.take (r2).toNat))) F_) ?_
 refine al_buildSlice (τ := tyStr) (e := 9) (k := 1) (sz := 0) (by_ := 0) (z := undef) (cs := [(str (a0.take (r2).toNat))]) (xs := [(a0.take (r2).toNat)]) rfl (by decide) (fun w a hm hs => ⟨([(str (a0.take (r2).toNat))]).toArray, rfl, by simp only [List.map_toArray, List.map_cons, List.map_nil, hs.ev (x := .tmp 12) rfl]; exact run_bs [(str (a0.take (r2).toNat))] [(str (a0.take (r2).toNat))] Tryd.underlying50 to9 rfl rfl (bs_cons (l := [(str (a0.take (r2).toNat))]) (cs := []) (cv_rfl rfl) rfl bs_nil) hm⟩) (fun hm => ⟨_, _, rfl, (fun _ => rfl) hm, rfl⟩) rfl (fun v6 => ?_)
 refine al_nil ?_
 exact fr_fin hK_ v6⟩, trivial⟩ ?_
   intro _
   intro _
   intro _
   intro v6
   intro X_ Y_ F_ K_ hK_
   refine al_show (m := Mem.plus (memOf w0 Z0 [] [(oRow v6 9 tyStr [(a0.take (r2).toNat)]), (oRow v10 9 tyStr r9)] []) X_ Y_) (S := over (put (put (put (put (tab [(0, (str a0)), (2, nS), (3, (iq r2)), (18, v10)]) 10 (str a0)) 11 (iq r2)) 12 (str (a0.take (r2).toNat))) 13 v6) F_) ?_
   obtain ⟨hc11, h⟩ := req_some h
   refine al_append 0 hc11.1 hc11.2 rfl (src_own (i := 0) 1 rfl) rfl rfl Tryd.underlying50 to9 rfl rfl rfl (fun v12 => ?_)
   refine al_nil ?_
   refine aq_show (m := Mem.plus (memOf w0 Z0 [] [(oRow v12 9 tyStr (([(a0.take (r2).toNat)]) ++ r9)), (oRow v10 9 tyStr r9)] []) X_ Y_) ?_
   refine aq_next hK_ [0, 1] [] [(2, nS), (19, v12)] [] [] rfl rfl (by decide) rfl ⟨rfl, rfl, trivial⟩ trivial ?_
   clear hK_ K_ F_ X_ Y_
   refine ta_show (m := (memOf w0 Z0 [] [(oRow v12 9 tyStr (([(a0.take (r2).toNat)]) ++ r9)), (oRow v10 9 tyStr r9)] [])) (S := (tab [(2, nS), (19, v12)])) ?_
   refine ta_step 10 _ [] [] [] [] [] [] rfl rfl rfl (by kernel_rfl) rfl rfl rfl trivial ?_
   intro X_ Y_ F_ K_ hK_
   refine al_show (m := Mem.plus (memOf w0 Z0 [] [(oRow v12 9 tyStr (([(a0.take (r2).toNat)]) ++ r9)), (oRow v10 9 tyStr r9)] []) X_ Y_) (S := over (tab [(2, nS), (19, v12)]) F_) ?_
   refine al_as rfl rfl ?_
   refine al_nil ?_
   refine aq_show (m := Mem.plus (memOf w0 Z0 [] [(oRow v12 9 tyStr (([(a0.take (r2).toNat)]) ++ r9)), (oRow v10 9 tyStr r9)] []) X_ Y_) ?_
   refine aq_next hK_ [0, 1] [] [(2, v12)] [] [] rfl rfl (by decide) rfl ⟨rfl, trivial⟩ trivial ?_
   clear hK_ K_ F_ X_ Y_
   refine ta_show (m := (memOf w0 Z0 [] [(oRow v12 9 tyStr (([(a0.take (r2).toNat)]) ++ r9)), (oRow v10 9 tyStr r9)] [])) (S := (tab [(2, v12)])) ?_
   refine ta_end [] [] rfl rfl (by kernel_rfl) rfl trivial ?_
   refine aq_show (m := (memOf w0 Z0 [] [(oRow v12 9 tyStr (([(a0.take (r2).toNat)]) ++ r9)), (oRow v10 9 tyStr r9)] [])) (S := (tab [(2, v12)])) ?_
   refine aq_then ?_
   refine aw_ret ?_
   obtain rfl := Option.some.inj h
   exact fn_ret v12 [0] [] rfl rfl rfl rfl (res1 rfl rfl) rfl rfl rfl (by decide)
def f_lumref_char_L20 (a0 : (List UInt8)) (j4i5 : Int) (kk8 : (Int → Option (Int × Int))) : Nat → Int → Int → Option (Int × Int)
  | 0, _, _ => none
  | k19 + 1, l18i4, l18i53 => (bif (decide (l18i53 < ((cut a0 (1 : Int) j4i5).length : Int))) then (opt (at? (cut a0 (1 : Int) j4i5) l18i53) fun (u22 : UInt8) => (lt (fun (j25b62 : Bool) => (bif j25b62 then (some ((0 : Int), (0 : Int))) else (f_lumref_char_L20 a0 j4i5 kk8 k19 (IntKind.i64.wrap ((IntKind.i64.wrap ((IntKind.i64.wrap ((64 : Int) * l18i4)) + (IntKind.i64.wrap (u22.toNat : Int)))) - (128 : Int))) (IntKind.i64.wrap (l18i53 + (1 : Int)))))) fun (kk26 : Bool → Option (Int × Int)) => (bif (decide ((u22.toNat : Int) < (128 : Int))) then (kk26 true) else (kk26 (decide ((u22.toNat : Int) > (191 : Int))))))) else (kk8 l18i4))
def f_lumref_char (fu : Nat) (a0 : (List UInt8)) : Option (Int × Int) := (bif (a0 == ([] : List UInt8)) then (some ((0 : Int), (0 : Int))) else (req (0 ≤ (0 : Int) ∧ (0 : Int) < (a0.length : Int)) (bif (decide ((IntKind.i64.wrap (En.bAt a0 (0 : Int))) < (128 : Int))) then (some ((IntKind.i64.wrap (En.bAt a0 (0 : Int))), (1 : Int))) else (lt (fun (j4i4 : Int) (j4i5 : Int) (j4i6 : Int) => (bif (decide ((a0.length : Int) < j4i5)) then (some ((0 : Int), (0 : Int))) else (lt (fun (j7i4 : Int) => (lt (fun (j9b84 : Bool) => (bif j9b84 then (some ((0 : Int), (0 : Int))) else (some (j7i4, j4i5)))) fun (kk10 : Bool → Option (Int × Int)) => (bif (decide (j7i4 < j4i6)) then (kk10 true) else (bif (decide (j7i4 > (1114111 : Int))) then (kk10 true) else (bif (decide (j7i4 ≥ (55296 : Int))) then (kk10 (decide (j7i4 < (57344 : Int)))) else (kk10 false)))))) fun (kk8 : Int → Option (Int × Int)) => (req (0 ≤ (1 : Int) ∧ (1 : Int) ≤ j4i5 ∧ j4i5 ≤ (a0.length : Int)) (req ((cut a0 (1 : Int) j4i5).length ≤ 9223372036854775807) (f_lumref_char_L20 a0 j4i5 kk8 fu j4i4 (0 : Int))))))) fun (kk5 : Int → Int → Int → Option (Int × Int)) => (lt (fun (j29b17 : Bool) => (bif j29b17 then (kk5 (IntKind.i64.wrap ((IntKind.i64.wrap (En.bAt a0 (0 : Int))) - (192 : Int))) (2 : Int) (128 : Int)) else (lt (fun (j32b26 : Bool) => (bif j32b26 then (kk5 (IntKind.i64.wrap ((IntKind.i64.wrap (En.bAt a0 (0 : Int))) - (224 : Int))) (3 : Int) (2048 : Int)) else (lt (fun (j35b35 : Bool) => (bif j35b35 then (kk5 (IntKind.i64.wrap ((IntKind.i64.wrap (En.bAt a0 (0 : Int))) - (240 : Int))) (4 : Int) (65536 : Int)) else (some ((0 : Int), (0 : Int))))) fun (kk36 : Bool → Option (Int × Int)) => (bif (decide ((IntKind.i64.wrap (En.bAt a0 (0 : Int))) ≥ (240 : Int))) then (kk36 (decide ((IntKind.i64.wrap (En.bAt a0 (0 : Int))) < (245 : Int)))) else (kk36 false))))) fun (kk33 : Bool → Option (Int × Int)) => (bif (decide ((IntKind.i64.wrap (En.bAt a0 (0 : Int))) ≥ (224 : Int))) then (kk33 (decide ((IntKind.i64.wrap (En.bAt a0 (0 : Int))) < (240 : Int)))) else (kk33 false))))) fun (kk30 : Bool → Option (Int × Int)) => (bif (decide ((IntKind.i64.wrap (En.bAt a0 (0 : Int))) ≥ (194 : Int))) then (kk30 (decide ((IntKind.i64.wrap (En.bAt a0 (0 : Int))) < (224 : Int)))) else (kk30 false)))))))
set_option maxRecDepth 100000 in
set_option maxHeartbeats 2000000 in
set_option maxHeartbeats 2000000 in
theorem f_lumref_char_ok (fu : Nat) (a0 : (List UInt8)) {r : (Int × Int)} (h : f_lumref_char fu a0 = some r) : FnOk Tryd.prog 127 [(str a0)] [] [] (fun (i : Unit) => { val := (Value.tuple #[(int .i64 r.1), (int .i64 r.2)]) }) := by
 unfold f_lumref_char at h
 refine fn_enter Tryd.func127 rfl Tryd.ntmps127 rfl (fun w0 Z0 => ?_)
 refine aw_sr ?_
 refine al_as rfl rfl ?_
 refine al_as rfl rfl ?_
 refine al_nt ?_
 refine aw_seq ?_
 refine aw_sr ?_
 refine al_mv rfl rfl ?_
 refine al_val (ov_strCmp rfl rfl rfl rfl) ?_
 refine al_nt ?_
 refine aw_cond rfl (fun hb1 => ?_) (fun hb1 => ?_)
 ·replace h := bif_t hb1 h
  refine aw_sr ?_
  refine al_as rfl rfl ?_
  refine al_as rfl rfl ?_
  refine al_nt ?_
  refine aw_ret ?_
  refine aq_then_ret ?_
  obtain rfl := Option.some.inj h
  exact fn_ret () [] [] rfl rfl rfl rfl (res2 rfl rfl rfl) rfl rfl rfl (by decide)
 ·replace h := bif_f hb1 h
  refine aw_skip ?_
  refine aq_tr ?_
  refine al_mv rfl rfl ?_
  obtain ⟨hc2, h⟩ := req_some h
  refine al_val (ov_strIdx hc2.1 hc2.2 Tryd.underlying9 rfl rfl rfl) ?_
  refine al_val (ov_convInt (by rw [Tryd.underlying5]; rfl) Tryd.underlying3 rfl rfl) ?_
  refine al_as rfl rfl ?_
  refine al_nt ?_
  refine aw_seq ?_
  refine aw_sr ?_
  refine al_mv rfl rfl ?_
  refine al_in rfl rfl rfl rfl ?_
  refine al_nt ?_
  refine aw_cond rfl (fun hb3 => ?_) (fun hb3 => ?_)
  ·replace h := bif_t hb3 h
   refine aw_sr ?_
   refine al_mv rfl rfl ?_
   refine al_as rfl rfl ?_
   refine al_as rfl rfl ?_
   refine al_nt ?_
   refine aw_ret ?_
   refine aq_then_ret ?_
   obtain rfl := Option.some.inj h
   exact fn_ret () [] [] rfl rfl rfl rfl (res2 rfl rfl rfl) rfl rfl rfl (by decide)
  ·replace h := bif_f hb3 h
   refine aw_skip ?_
   refine aq_tr ?_
   refine al_as rfl rfl ?_
   refine al_as rfl rfl ?_
   refine al_nt ?_
   obtain ⟨kk5, hkk5, h⟩ := lt_some h
   refine aw_seq_join (ι := Int × Int × Int) (fun i => (memOf w0 Z0 [] [] [])) (fun i => (tab [(0, (str a0)), (4, (iq i.1)), (5, (iq i.2.1)), (6, (iq i.2.2))])) (fun i => kk5 i.1 i.2.1 i.2.2 = some r) ?_ ?_
   ·rintro ⟨j4i4, j4i5, j4i6⟩ h
    have h : kk5 j4i4 j4i5 j4i6 = some r := h
    rw [hkk5] at h
    dsimp only at h
    clear hkk5
    refine aw_show (m := (memOf w0 Z0 [] [] [])) (S := (tab [(0, (str a0)), (4, (iq j4i4)), (5, (iq j4i5)), (6, (iq j4i6))])) ?_
    refine aw_seq ?_
    refine aw_sr ?_
    refine al_mv rfl rfl ?_
    refine al_val (ov_strLen Tryd.underlying9 rfl rfl) ?_
    refine al_mv rfl rfl ?_
    refine al_in rfl rfl rfl rfl ?_
    refine al_nt ?_
    refine aw_cond rfl (fun hb6 => ?_) (fun hb6 => ?_)
    ·replace h := bif_t hb6 h
     refine aw_sr ?_
     refine al_as rfl rfl ?_
     refine al_as rfl rfl ?_
     refine al_nt ?_
     refine aw_ret ?_
     refine aq_then_ret ?_
     obtain rfl := Option.some.inj h
     exact fn_ret () [] [] rfl rfl rfl rfl (res2 rfl rfl rfl) rfl rfl rfl (by decide)
    ·replace h := bif_f hb6 h
     refine aw_skip ?_
     refine aq_then ?_
     obtain ⟨kk8, hkk8, h⟩ := lt_some h
     refine aw_seq_join (ι := Int) (fun i => (memOf w0 Z0 [] [] [])) (fun i => (tab [(4, (iq i)), (5, (iq j4i5)), (6, (iq j4i6))])) (fun i => kk8 i = some r) ?_ ?_
     ·rintro j7i4 h
      have h : kk8 j7i4 = some r := h
      rw [hkk8] at h
      dsimp only at h
      clear hkk8
      refine aw_show (m := (memOf w0 Z0 [] [] [])) (S := (tab [(4, (iq j7i4)), (5, (iq j4i5)), (6, (iq j4i6))])) ?_
      refine aw_seq ?_
      obtain ⟨kk10, hkk10, h⟩ := lt_some h
      refine aw_seq_join (ι := Bool) (fun i => (memOf w0 Z0 [] [] [])) (fun i => (tab [(4, (iq j7i4)), (5, (iq j4i5)), (84, (bool i))])) (fun i => kk10 i = some r) ?_ ?_
      ·rintro j9b84 h
       have h : kk10 j9b84 = some r := h
       rw [hkk10] at h
       dsimp only at h
       clear hkk10
       refine aw_show (m := (memOf w0 Z0 [] [] [])) (S := (tab [(4, (iq j7i4)), (5, (iq j4i5)), (84, (bool j9b84))])) ?_
       refine aw_cond rfl (fun hb11 => ?_) (fun hb11 => ?_)
       ·replace h := bif_t hb11 h
        refine aw_sr ?_
        refine al_as rfl rfl ?_
        refine al_as rfl rfl ?_
        refine al_nt ?_
        refine aw_ret ?_
        refine aq_then_ret ?_
        obtain rfl := Option.some.inj h
        exact fn_ret () [] [] rfl rfl rfl rfl (res2 rfl rfl rfl) rfl rfl rfl (by decide)
       ·replace h := bif_f hb11 h
        refine aw_skip ?_
        refine aq_tr ?_
        refine al_mv rfl rfl ?_
        refine al_mv rfl rfl ?_
        refine al_as rfl rfl ?_
        refine al_as rfl rfl ?_
        refine al_nt ?_
        refine aw_ret ?_
        obtain rfl := Option.some.inj h
        exact fn_ret () [] [] rfl rfl rfl rfl (res2 rfl rfl rfl) rfl rfl rfl (by decide)
      ·clear hkk10
       refine aw_region ?_
       refine al_mv rfl rfl ?_
       refine al_mv rfl rfl ?_
       refine al_in rfl rfl rfl rfl ?_
       refine al_mv rfl rfl ?_
       refine al_caseB 73 rfl (fun hb12 => ?_) (fun hb12 => ?_)
       ·replace h := bif_t hb12 h
        refine al_skip ?_
        refine al_skip ?_
        refine al_val (ov_pick_t rfl rfl rfl) ?_
        refine al_mv rfl rfl ?_
        refine al_skip ?_
        refine al_skip ?_
        refine al_skip ?_
        refine al_skip ?_
        refine al_skip ?_
        refine al_skip ?_
        refine al_val (ov_pick_t rfl rfl rfl) ?_
        refine al_nil ?_
        exact aq_join true h (fun w a hm hs => norm hm hs [] [] [(4, (iq j7i4)), (5, (iq j4i5)), (84, (bool true))] (by decide) ⟨rfl, rfl, rfl, trivial⟩)
       ·replace h := bif_f hb12 h
        refine al_mv rfl rfl ?_
        refine al_in rfl rfl rfl rfl ?_
        refine al_val (ov_pick_f rfl rfl rfl) ?_
        refine al_mv rfl rfl ?_
        refine al_caseB 77 rfl (fun hb13 => ?_) (fun hb13 => ?_)
        ·replace h := bif_t hb13 h
         refine al_skip ?_
         refine al_skip ?_
         refine al_skip ?_
         refine al_skip ?_
         refine al_skip ?_
         refine al_skip ?_
         refine al_val (ov_pick_t rfl rfl rfl) ?_
         refine al_nil ?_
         exact aq_join true h (fun w a hm hs => norm hm hs [] [] [(4, (iq j7i4)), (5, (iq j4i5)), (84, (bool true))] (by decide) ⟨rfl, rfl, rfl, trivial⟩)
        ·replace h := bif_f hb13 h
         refine al_mv rfl rfl ?_
         refine al_in rfl rfl rfl rfl ?_
         refine al_mv rfl rfl ?_
         refine al_caseB 80 rfl (fun hb14 => ?_) (fun hb14 => ?_)
         ·replace h := bif_t hb14 h
          refine al_mv rfl rfl ?_
          refine al_in rfl rfl rfl rfl ?_
          refine al_val (ov_pick_t rfl rfl rfl) ?_
          refine al_val (ov_pick_f rfl rfl rfl) ?_
          refine al_nil ?_
          exact aq_join (decide (j7i4 < (57344 : Int))) h (fun w a hm hs => norm hm hs [] [] [(4, (iq j7i4)), (5, (iq j4i5)), (84, (bool (decide (j7i4 < (57344 : Int)))))] (by decide) ⟨rfl, rfl, rfl, trivial⟩)
         ·replace h := bif_f hb14 h
          refine al_skip ?_
          refine al_skip ?_
          refine al_val (ov_pick_f rfl rfl rfl) ?_
          refine al_val (ov_pick_f rfl rfl rfl) ?_
          refine al_nil ?_
          exact aq_join false h (fun w a hm hs => norm hm hs [] [] [(4, (iq j7i4)), (5, (iq j4i5)), (84, (bool false))] (by decide) ⟨rfl, rfl, rfl, trivial⟩)
     ·clear hkk8
      refine aw_sr ?_
      refine al_mv rfl rfl ?_
      refine al_mv rfl rfl ?_
      obtain ⟨hc15, h⟩ := req_some h
      refine al_val (ov_strCut hc15.1 hc15.2.1 hc15.2.2 Tryd.underlying9 rfl rfl rfl rfl) ?_
      obtain ⟨hc16, h⟩ := req_some h
      refine al_bytes hc16 rfl Tryd.underlying9 Tryd.underlying74 Tryd.underlying5 rfl (fun s17 => ?_)
      refine al_val (ov_lenD 0 rfl rfl Tryd.underlying74 rfl) ?_
      refine al_mv rfl rfl ?_
      refine al_nt ?_
      refine aw_block ?_
      refine aw_state (aw_loop (ι := Int × Int) (fun i => (memOf w0 Z0 [] [] [(fDat (tyList tyU8) [s17] (cut a0 (1 : Int) j4i5))])) (fun i => (tab [(4, (iq i.1)), (5, (iq j4i5)), (6, (iq j4i6)), (51, s17), (52, (iq ((cut a0 (1 : Int) j4i5).length : Int))), (53, (iq i.2))])) (fun q i => f_lumref_char_L20 a0 j4i5 kk8 q i.1 i.2 = some r) ?_ fu (j4i4, (0 : Int)) h) (fun w a hm hs => norm hm hs [] [0] [(4, (iq j4i4)), (5, (iq j4i5)), (6, (iq j4i6)), (51, s17), (52, (iq ((cut a0 (1 : Int) j4i5).length : Int))), (53, (iq (0 : Int)))] (by decide) ⟨rfl, rfl, rfl, rfl, rfl, rfl, trivial⟩)
      clear h
      rintro k19 ⟨l18i4, l18i53⟩ h
      have h : f_lumref_char_L20 a0 j4i5 kk8 k19 l18i4 l18i53 = some r := h
      obtain _ | k19 := k19
      · rw [f_lumref_char_L20] at h; cases h
      rw [f_lumref_char_L20] at h
      refine aw_show (m := (memOf w0 Z0 [] [] [(fDat (tyList tyU8) [s17] (cut a0 (1 : Int) j4i5))])) (S := (tab [(4, (iq l18i4)), (5, (iq j4i5)), (6, (iq j4i6)), (51, s17), (52, (iq ((cut a0 (1 : Int) j4i5).length : Int))), (53, (iq l18i53))])) ?_
      refine aw_sr ?_
      refine al_in rfl rfl rfl rfl ?_
      refine al_nt ?_
      refine aw_seq ?_
      refine aw_cond rfl (fun hb21 => ?_) (fun hb21 => ?_)
      ·replace h := bif_t hb21 h
       refine aw_skip ?_
       refine aq_then ?_
       refine aw_seq ?_
       refine aw_block ?_
       refine aw_sr ?_
       obtain ⟨u22, hu23, h⟩ := opt_some h
       refine al_idxD 0 hu23 rfl rfl rfl Tryd.underlying74 sz5 rfl (fun p24 => ?_)
       refine al_val (ov_loadP (ds := [(i8 (u22.toNat : Int))]) 0 rfl (fun h => h) rfl Tryd.underlying5 sz5 rfl rfl rfl) ?_
       refine al_as rfl rfl ?_
       refine al_nt ?_
       refine aw_seq ?_
       obtain ⟨kk26, hkk26, h⟩ := lt_some h
       refine aw_seq_join (ι := Bool) (fun i => (memOf w0 Z0 [] [] [(fDat (tyList tyU8) [s17] (cut a0 (1 : Int) j4i5)), (fPtr tyU8 p24 u22)])) (fun i => (tab [(4, (iq l18i4)), (5, (iq j4i5)), (6, (iq j4i6)), (8, (i8 (u22.toNat : Int))), (51, s17), (52, (iq ((cut a0 (1 : Int) j4i5).length : Int))), (53, (iq l18i53)), (62, (bool i))])) (fun i => kk26 i = some r) ?_ ?_
       ·rintro j25b62 h
        have h : kk26 j25b62 = some r := h
        rw [hkk26] at h
        dsimp only at h
        clear hkk26
        refine aw_show (m := (memOf w0 Z0 [] [] [(fDat (tyList tyU8) [s17] (cut a0 (1 : Int) j4i5)), (fPtr tyU8 p24 u22)])) (S := (tab [(4, (iq l18i4)), (5, (iq j4i5)), (6, (iq j4i6)), (8, (i8 (u22.toNat : Int))), (51, s17), (52, (iq ((cut a0 (1 : Int) j4i5).length : Int))), (53, (iq l18i53)), (62, (bool j25b62))])) ?_
        refine aw_cond rfl (fun hb27 => ?_) (fun hb27 => ?_)
        ·replace h := bif_t hb27 h
         refine aw_sr ?_
         refine al_as rfl rfl ?_
         refine al_as rfl rfl ?_
         refine al_nt ?_
         refine aw_ret ?_
         refine aq_then_ret ?_
         refine aq_block_ret ?_
         refine aq_then_ret ?_
         refine aq_then_ret ?_
         refine aq_block_ret ?_
         refine aq_then_ret ?_
         obtain rfl := Option.some.inj h
         exact fn_ret () [] [] rfl rfl rfl rfl (res2 rfl rfl rfl) rfl rfl rfl (by decide)
        ·replace h := bif_f hb27 h
         refine aw_skip ?_
         refine aq_then ?_
         refine aw_region ?_
         refine al_mv rfl rfl ?_
         refine al_in rfl rfl rfl rfl ?_
         refine al_mv rfl rfl ?_
         refine al_val (ov_convInt (by rw [Tryd.underlying5]; rfl) Tryd.underlying3 rfl rfl) ?_
         refine al_in rfl rfl rfl rfl ?_
         refine al_in rfl rfl rfl rfl ?_
         refine al_as rfl rfl ?_
         refine al_nil ?_
         refine aq_block ?_
         refine aq_then ?_
         refine aw_region ?_
         refine al_in rfl rfl rfl rfl ?_
         refine al_mv rfl rfl ?_
         refine al_nil ?_
         exact aq_again k19 ((wq ((wq ((wq ((64 : Int) * l18i4)) + (wq (u22.toNat : Int)))) - (128 : Int))), (wq (l18i53 + (1 : Int)))) (Nat.lt_succ_self _) h (fun w a hm hs => norm hm hs [] [0] [(4, (iq (wq ((wq ((wq ((64 : Int) * l18i4)) + (wq (u22.toNat : Int)))) - (128 : Int))))), (5, (iq j4i5)), (6, (iq j4i6)), (51, s17), (52, (iq ((cut a0 (1 : Int) j4i5).length : Int))), (53, (iq (wq (l18i53 + (1 : Int)))))] (by decide) ⟨rfl, rfl, rfl, rfl, rfl, rfl, trivial⟩)
       ·clear hkk26
        refine aw_region ?_
        refine al_mv rfl rfl ?_
        refine al_in rfl rfl rfl rfl ?_
        refine al_mv rfl rfl ?_
        refine al_caseB 59 rfl (fun hb28 => ?_) (fun hb28 => ?_)
        ·replace h := bif_t hb28 h
         refine al_skip ?_
         refine al_skip ?_
         refine al_val (ov_pick_t rfl rfl rfl) ?_
         refine al_nil ?_
         exact aq_join true h (fun w a hm hs => norm hm hs [] [1, 0] [(4, (iq l18i4)), (5, (iq j4i5)), (6, (iq j4i6)), (8, (i8 (u22.toNat : Int))), (51, s17), (52, (iq ((cut a0 (1 : Int) j4i5).length : Int))), (53, (iq l18i53)), (62, (bool true))] (by decide) ⟨rfl, rfl, rfl, rfl, rfl, rfl, rfl, rfl, trivial⟩)
        ·replace h := bif_f hb28 h
         refine al_mv rfl rfl ?_
         refine al_in rfl rfl rfl rfl ?_
         refine al_val (ov_pick_f rfl rfl rfl) ?_
         refine al_nil ?_
         exact aq_join (decide ((u22.toNat : Int) > (191 : Int))) h (fun w a hm hs => norm hm hs [] [1, 0] [(4, (iq l18i4)), (5, (iq j4i5)), (6, (iq j4i6)), (8, (i8 (u22.toNat : Int))), (51, s17), (52, (iq ((cut a0 (1 : Int) j4i5).length : Int))), (53, (iq l18i53)), (62, (bool (decide ((u22.toNat : Int) > (191 : Int)))))] (by decide) ⟨rfl, rfl, rfl, rfl, rfl, rfl, rfl, rfl, trivial⟩)
      ·replace h := bif_f hb21 h
       refine aw_exit ?_
       refine aq_then_exit ?_
       refine aq_then_exit ?_
       refine aq_block_exit ?_
       exact aq_join l18i4 h (fun w a hm hs => norm hm hs [] [] [(4, (iq l18i4)), (5, (iq j4i5)), (6, (iq j4i6))] (by decide) ⟨rfl, rfl, rfl, trivial⟩)
   ·clear hkk5
    refine aw_block ?_
    obtain ⟨kk30, hkk30, h⟩ := lt_some h
    refine aw_seq_join (ι := Bool) (fun i => (memOf w0 Z0 [] [] [])) (fun i => (tab [(0, (str a0)), (4, (iq (wq (En.bAt a0 (0 : Int))))), (17, (bool i))])) (fun i => kk30 i = some r) ?_ ?_
    ·rintro j29b17 h
     have h : kk30 j29b17 = some r := h
     rw [hkk30] at h
     dsimp only at h
     clear hkk30
     refine aw_show (m := (memOf w0 Z0 [] [] [])) (S := (tab [(0, (str a0)), (4, (iq (wq (En.bAt a0 (0 : Int))))), (17, (bool j29b17))])) ?_
     refine aw_cond rfl (fun hb31 => ?_) (fun hb31 => ?_)
     ·replace h := bif_t hb31 h
      refine aw_region ?_
      refine al_mv rfl rfl ?_
      refine al_in rfl rfl rfl rfl ?_
      refine al_as rfl rfl ?_
      refine al_as rfl rfl ?_
      refine al_as rfl rfl ?_
      refine al_nil ?_
      refine aq_block ?_
      exact aq_join ((wq ((wq (En.bAt a0 (0 : Int))) - (192 : Int))), (2 : Int), (128 : Int)) h (fun w a hm hs => norm hm hs [] [] [(0, (str a0)), (4, (iq (wq ((wq (En.bAt a0 (0 : Int))) - (192 : Int))))), (5, (iq (2 : Int))), (6, (iq (128 : Int)))] (by decide) ⟨rfl, rfl, rfl, rfl, trivial⟩)
     ·replace h := bif_f hb31 h
      obtain ⟨kk33, hkk33, h⟩ := lt_some h
      refine aw_seq_join (ι := Bool) (fun i => (memOf w0 Z0 [] [] [])) (fun i => (tab [(0, (str a0)), (4, (iq (wq (En.bAt a0 (0 : Int))))), (26, (bool i))])) (fun i => kk33 i = some r) ?_ ?_
      ·rintro j32b26 h
       have h : kk33 j32b26 = some r := h
       rw [hkk33] at h
       dsimp only at h
       clear hkk33
       refine aw_show (m := (memOf w0 Z0 [] [] [])) (S := (tab [(0, (str a0)), (4, (iq (wq (En.bAt a0 (0 : Int))))), (26, (bool j32b26))])) ?_
       refine aw_cond rfl (fun hb34 => ?_) (fun hb34 => ?_)
       ·replace h := bif_t hb34 h
        refine aw_region ?_
        refine al_mv rfl rfl ?_
        refine al_in rfl rfl rfl rfl ?_
        refine al_as rfl rfl ?_
        refine al_as rfl rfl ?_
        refine al_as rfl rfl ?_
        refine al_nil ?_
        refine aq_block ?_
        exact aq_join ((wq ((wq (En.bAt a0 (0 : Int))) - (224 : Int))), (3 : Int), (2048 : Int)) h (fun w a hm hs => norm hm hs [] [] [(0, (str a0)), (4, (iq (wq ((wq (En.bAt a0 (0 : Int))) - (224 : Int))))), (5, (iq (3 : Int))), (6, (iq (2048 : Int)))] (by decide) ⟨rfl, rfl, rfl, rfl, trivial⟩)
       ·replace h := bif_f hb34 h
        obtain ⟨kk36, hkk36, h⟩ := lt_some h
        refine aw_seq_join (ι := Bool) (fun i => (memOf w0 Z0 [] [] [])) (fun i => (tab [(0, (str a0)), (4, (iq (wq (En.bAt a0 (0 : Int))))), (35, (bool i))])) (fun i => kk36 i = some r) ?_ ?_
        ·rintro j35b35 h
         have h : kk36 j35b35 = some r := h
         rw [hkk36] at h
         dsimp only at h
         clear hkk36
         refine aw_show (m := (memOf w0 Z0 [] [] [])) (S := (tab [(0, (str a0)), (4, (iq (wq (En.bAt a0 (0 : Int))))), (35, (bool j35b35))])) ?_
         refine aw_cond rfl (fun hb37 => ?_) (fun hb37 => ?_)
         ·replace h := bif_t hb37 h
          refine aw_region ?_
          refine al_mv rfl rfl ?_
          refine al_in rfl rfl rfl rfl ?_
          refine al_as rfl rfl ?_
          refine al_as rfl rfl ?_
          refine al_as rfl rfl ?_
          refine al_nil ?_
          refine aq_block ?_
          exact aq_join ((wq ((wq (En.bAt a0 (0 : Int))) - (240 : Int))), (4 : Int), (65536 : Int)) h (fun w a hm hs => norm hm hs [] [] [(0, (str a0)), (4, (iq (wq ((wq (En.bAt a0 (0 : Int))) - (240 : Int))))), (5, (iq (4 : Int))), (6, (iq (65536 : Int)))] (by decide) ⟨rfl, rfl, rfl, rfl, trivial⟩)
         ·replace h := bif_f hb37 h
          refine aw_sr ?_
          refine al_as rfl rfl ?_
          refine al_as rfl rfl ?_
          refine al_nt ?_
          refine aw_ret ?_
          refine aq_block_ret ?_
          refine aq_then_ret ?_
          obtain rfl := Option.some.inj h
          exact fn_ret () [] [] rfl rfl rfl rfl (res2 rfl rfl rfl) rfl rfl rfl (by decide)
        ·clear hkk36
         refine aw_region ?_
         refine al_mv rfl rfl ?_
         refine al_in rfl rfl rfl rfl ?_
         refine al_mv rfl rfl ?_
         refine al_caseB 38 rfl (fun hb38 => ?_) (fun hb38 => ?_)
         ·replace h := bif_t hb38 h
          refine al_mv rfl rfl ?_
          refine al_in rfl rfl rfl rfl ?_
          refine al_val (ov_pick_t rfl rfl rfl) ?_
          refine al_as rfl rfl ?_
          refine al_nil ?_
          exact aq_join (decide ((wq (En.bAt a0 (0 : Int))) < (245 : Int))) h (fun w a hm hs => norm hm hs [] [] [(0, (str a0)), (4, (iq (wq (En.bAt a0 (0 : Int))))), (35, (bool (decide ((wq (En.bAt a0 (0 : Int))) < (245 : Int)))))] (by decide) ⟨rfl, rfl, rfl, trivial⟩)
         ·replace h := bif_f hb38 h
          refine al_skip ?_
          refine al_skip ?_
          refine al_val (ov_pick_f rfl rfl rfl) ?_
          refine al_as rfl rfl ?_
          refine al_nil ?_
          exact aq_join false h (fun w a hm hs => norm hm hs [] [] [(0, (str a0)), (4, (iq (wq (En.bAt a0 (0 : Int))))), (35, (bool false))] (by decide) ⟨rfl, rfl, rfl, trivial⟩)
      ·clear hkk33
       refine aw_region ?_
       refine al_mv rfl rfl ?_
       refine al_in rfl rfl rfl rfl ?_
       refine al_mv rfl rfl ?_
       refine al_caseB 29 rfl (fun hb39 => ?_) (fun hb39 => ?_)
       ·replace h := bif_t hb39 h
        refine al_mv rfl rfl ?_
        refine al_in rfl rfl rfl rfl ?_
        refine al_val (ov_pick_t rfl rfl rfl) ?_
        refine al_as rfl rfl ?_
        refine al_nil ?_
        exact aq_join (decide ((wq (En.bAt a0 (0 : Int))) < (240 : Int))) h (fun w a hm hs => norm hm hs [] [] [(0, (str a0)), (4, (iq (wq (En.bAt a0 (0 : Int))))), (26, (bool (decide ((wq (En.bAt a0 (0 : Int))) < (240 : Int)))))] (by decide) ⟨rfl, rfl, rfl, trivial⟩)
       ·replace h := bif_f hb39 h
        refine al_skip ?_
        refine al_skip ?_
        refine al_val (ov_pick_f rfl rfl rfl) ?_
        refine al_as rfl rfl ?_
        refine al_nil ?_
        exact aq_join false h (fun w a hm hs => norm hm hs [] [] [(0, (str a0)), (4, (iq (wq (En.bAt a0 (0 : Int))))), (26, (bool false))] (by decide) ⟨rfl, rfl, rfl, trivial⟩)
    ·clear hkk30
     refine aw_region ?_
     refine al_mv rfl rfl ?_
     refine al_in rfl rfl rfl rfl ?_
     refine al_mv rfl rfl ?_
     refine al_caseB 20 rfl (fun hb40 => ?_) (fun hb40 => ?_)
     ·replace h := bif_t hb40 h
      refine al_mv rfl rfl ?_
      refine al_in rfl rfl rfl rfl ?_
      refine al_val (ov_pick_t rfl rfl rfl) ?_
      refine al_as rfl rfl ?_
      refine al_nil ?_
      exact aq_join (decide ((wq (En.bAt a0 (0 : Int))) < (224 : Int))) h (fun w a hm hs => norm hm hs [] [] [(0, (str a0)), (4, (iq (wq (En.bAt a0 (0 : Int))))), (17, (bool (decide ((wq (En.bAt a0 (0 : Int))) < (224 : Int)))))] (by decide) ⟨rfl, rfl, rfl, trivial⟩)
     ·replace h := bif_f hb40 h
      refine al_skip ?_
      refine al_skip ?_
      refine al_val (ov_pick_f rfl rfl rfl) ?_
      refine al_as rfl rfl ?_
      refine al_nil ?_
      exact aq_join false h (fun w a hm hs => norm hm hs [] [] [(0, (str a0)), (4, (iq (wq (En.bAt a0 (0 : Int))))), (17, (bool false))] (by decide) ⟨rfl, rfl, rfl, trivial⟩)
def f_lumref_Chars_L5 (kk2 : ((List Int) → Option ((List Int) × Bool))) (fu : Nat) : Nat → (List UInt8) → (List Int) → Option ((List Int) × Bool)
  | 0, _, _ => none
  | k4 + 1, l3s0, l3x4 => (bif (!(l3s0 == ([] : List UInt8))) then (opt (f_lumref_char fu l3s0) fun (r8 : (Int × Int)) => (bif (r8.2 == (0 : Int)) then (some (([] : List Int), false)) else (req (((l3x4.length + ([r8.1]).length) * 8 : Nat) ≤ 140737488355328 ∧ l3x4.length + ([r8.1]).length ≤ 9223372036854775807) (req (0 ≤ r8.2 ∧ r8.2 ≤ (l3s0.length : Int)) (f_lumref_Chars_L5 kk2 fu k4 (l3s0.drop (r8.2).toNat) (l3x4 ++ ([r8.1]))))))) else (kk2 l3x4))
def f_lumref_Chars (fu : Nat) (a0 : (List UInt8)) : Option ((List Int) × Bool) := (lt (fun (j1x4 : (List Int)) => (some (j1x4, true))) fun (kk2 : (List Int) → Option ((List Int) × Bool)) => (f_lumref_Chars_L5 kk2 fu fu a0 ([] : List Int)))
set_option maxHeartbeats 2000000 in
set_option maxRecDepth 100000 in
theorem f_lumref_Chars_ok (fu : Nat) (a0 : (List UInt8)) {r : ((List Int) × Bool)} (h : f_lumref_Chars fu a0 = some r) : FnOk Tryd.prog 74 [(str a0)] [] [] (fun (i : Value) => { val := (Value.tuple #[i, (bool r.2)]), own := [(oRow i 3 (tyInt .i64) r.1)] }) := by
 unfold f_lumref_Chars at h
 refine fn_enter Tryd.func74 rfl Tryd.ntmps74 rfl (fun w0 Z0 => ?_)
 refine aw_sr ?_
 refine al_as rfl rfl ?_
 refine al_as rfl rfl ?_
 refine al_nt ?_
 refine aw_sr ?_
 refine al_as rfl rfl ?_
 refine al_nt ?_
 obtain ⟨kk2, hkk2, h⟩ := lt_some h
 refine aw_seq_join (ι := Value × (List Int)) (fun i => (memOf w0 Z0 [] [(oRow i.1 3 tq i.2)] [])) (fun i => (tab [(4, i.1)])) (fun i => kk2 i.2 = some r) ?_ ?_
 ·rintro ⟨j1v4, j1x4⟩ h
  have h : kk2 j1x4 = some r := h
  rw [hkk2] at h
  dsimp only at h
  clear hkk2
  refine aw_show (m := (memOf w0 Z0 [] [(oRow j1v4 3 tq j1x4)] [])) (S := (tab [(4, j1v4)])) ?_
  refine aw_sr ?_
  refine al_mv rfl rfl ?_
  refine al_as rfl rfl ?_
  refine al_as rfl rfl ?_
  refine al_nt ?_
  refine aw_ret ?_
  obtain rfl := Option.some.inj h
  exact fn_ret j1v4 [0] [] rfl rfl rfl rfl (res2 rfl rfl rfl) rfl rfl rfl (by decide)
 ·clear hkk2
  refine aw_block ?_
  refine aw_nilR 3 tq ?_
  refine aw_state (aw_loop (ι := (List UInt8) × Value × (List Int)) (fun i => (memOf w0 Z0 [] [(oRow i.2.1 3 tq i.2.2)] [])) (fun i => (tab [(0, (str i.1)), (4, i.2.1)])) (fun q i => f_lumref_Chars_L5 kk2 fu q i.1 i.2.2 = some r) ?_ fu (a0, nS, ([] : List Int)) h) (fun w a hm hs => norm hm hs [0] [] [(0, (str a0)), (4, nS)] (by decide) ⟨rfl, rfl, trivial⟩)
  clear h
  rintro k4 ⟨l3s0, l3v4, l3x4⟩ h
  have h : f_lumref_Chars_L5 kk2 fu k4 l3s0 l3x4 = some r := h
  obtain _ | k4 := k4
  · rw [f_lumref_Chars_L5] at h; cases h
  rw [f_lumref_Chars_L5] at h
  refine aw_show (m := (memOf w0 Z0 [] [(oRow l3v4 3 tq l3x4)] [])) (S := (tab [(0, (str l3s0)), (4, l3v4)])) ?_
  refine aw_seq ?_
  refine aw_sr ?_
  refine al_mv rfl rfl ?_
  refine al_val (ov_strCmp rfl rfl rfl rfl) ?_
  refine al_nt ?_
  refine aw_cond rfl (fun hb6 => ?_) (fun hb6 => ?_)
  ·replace h := bif_t hb6 h
   refine aw_skip ?_
   refine aq_then ?_
   refine aw_block ?_
   refine aw_sr ?_
   refine al_mv rfl rfl ?_
   obtain ⟨r8, hc7, h⟩ := opt_some h
   refine al_call (vs := [(str l3s0)]) (f_lumref_char_ok fu l3s0 hc7) [] [] [0] pre_nil rfl (by simp) (by decide) (.inl rfl) rfl Tryd.func127 rfl rfl rfl (fun _ => ?_)
   refine al_mv rfl rfl ?_
   refine al_ex rfl rfl rfl ?_
   refine al_ex rfl rfl rfl ?_
   refine al_as rfl rfl ?_
   refine al_as rfl rfl ?_
   refine al_nt ?_
   refine aw_seq ?_
   refine aw_sr ?_
   refine al_mv rfl rfl ?_
   refine al_in rfl rfl rfl rfl ?_
   refine al_nt ?_
   refine aw_cond rfl (fun hb9 => ?_) (fun hb9 => ?_)
   ·replace h := bif_t hb9 h
    refine aw_sr ?_
    refine al_as rfl rfl ?_
    refine al_as rfl rfl ?_
    refine al_nt ?_
    refine aw_ret ?_
    refine aq_then_ret ?_
    refine aq_block_ret ?_
    refine aq_then_ret ?_
    refine aq_block_ret ?_
    refine aq_then_ret ?_
    refine aq_nilR 3 tq ?_
    obtain rfl := Option.some.inj h
    exact fn_ret nS [0] [] rfl rfl rfl rfl (res2 rfl rfl rfl) rfl rfl rfl (by decide)
   ·replace h := bif_f hb9 h
    refine aw_skip ?_
    refine aq_tr ?_
    refine al_mv rfl rfl ?_
    refine al_mv rfl rfl ?_
    refine al_buildSlice (τ := tq) (e := 3) (k := 1) (sz := 0) (by_ := 0) (z := undef) (cs := [(iq r8.1)]) (xs := [r8.1]) rfl (by decide) (fun w a hm hs => ⟨([(iq r8.1)]).toArray, rfl, by simp only [List.map_toArray, List.map_cons, List.map_nil, hs.ev (x := .tmp 17) rfl]; exact run_bs [(iq r8.1)] [(iq r8.1)] Tryd.underlying71 to3 rfl rfl (bs_cons (l := [(iq r8.1)]) (cs := []) (cv_rfl rfl) rfl bs_nil) hm⟩) (fun hm => ⟨_, _, rfl, (fun _ => rfl) hm, rfl⟩) rfl (fun v10 => ?_)
    obtain ⟨hc11, h⟩ := req_some h
    refine al_append 1 hc11.1 hc11.2 rfl (src_own (i := 1) 0 rfl) rfl rfl Tryd.underlying71 to3 rfl rfl rfl (fun v12 => ?_)
    refine al_as rfl rfl ?_
    refine al_nt ?_
    refine aw_region ?_
    refine al_mv rfl rfl ?_
    refine al_mv rfl rfl ?_
    obtain ⟨hc13, h⟩ := req_some h
    refine al_val (ov_strFrom hc13.1 hc13.2 Tryd.underlying9 rfl rfl rfl) ?_
    refine al_as rfl rfl ?_
    refine al_nil ?_
    refine aq_block ?_
    exact aq_again k4 ((l3s0.drop (r8.2).toNat), v12, (l3x4 ++ ([r8.1]))) (Nat.lt_succ_self _) h (fun w a hm hs => norm hm hs [1] [] [(0, (str (l3s0.drop (r8.2).toNat))), (4, v12)] (by decide) ⟨rfl, rfl, trivial⟩)
  ·replace h := bif_f hb6 h
   refine aw_exit ?_
   refine aq_then_exit ?_
   refine aq_then_exit ?_
   refine aq_block_exit ?_
   exact aq_join (l3v4, l3x4) h (fun w a hm hs => norm hm hs [0] [] [(4, l3v4)] (by decide) ⟨rfl, trivial⟩)
def f_lumref_Name_L12 (r2 : ((List Int) × Bool)) (kk8 : (Unit → Option Int)) : Nat → Int → Option Int
  | 0, _ => none
  | k11 + 1, l10i29 => (bif (decide (l10i29 < (r2.1.length : Int))) then (opt (at? r2.1 l10i29) fun (u14 : Int) => (lt (fun (j18b42 : Bool) => (bif j18b42 then (some (8 : Int)) else (f_lumref_Name_L12 r2 kk8 k11 (IntKind.i64.wrap (l10i29 + (1 : Int)))))) fun (kk19 : Bool → Option Int) => (bif (u14 == (47 : Int)) then (kk19 true) else (bif (decide (u14 < (32 : Int))) then (kk19 true) else (kk19 (u14 == (127 : Int))))))) else (kk8 ()))
def f_lumref_Name (fu : Nat) (a0 : (List UInt8)) : Option Int := (opt (f_lumref_Chars fu a0) fun (r2 : ((List Int) × Bool)) => (lt (fun (j4b26 : Bool) => (bif j4b26 then (some (8 : Int)) else (lt (fun (_ : Unit) => (bif (decide ((r2.1.length : Int) > (24 : Int))) then (some (2 : Int)) else (some (0 : Int)))) fun (kk8 : Unit → Option Int) => (f_lumref_Name_L12 r2 kk8 fu (0 : Int))))) fun (kk5 : Bool → Option Int) => (bif (!r2.2) then (kk5 true) else (bif ((r2.1.length : Int) == (0 : Int)) then (kk5 true) else (bif (a0 == ([46] : List UInt8)) then (kk5 true) else (kk5 (a0 == ([46, 46] : List UInt8))))))))
end Go.Proofs.YtfhifdmbdkkgaaaDoor
