/- What DiskPlays leans on, part 1. No condition. -/
import Derived.WalkKit
import Derived.Lib.Hide
import Derived.Maps.AppendAt
import Derived.Laws.MakeOwn
import Derived.Scope
import Derived.Laws.BytesString
import Derived.Laws.BytesArg
import Derived.Laws.IdiomStrings
import Derived.StillTail
import Derived.OpenShut
import Derived.Deep.Slices
import Derived.Deep.WholeRow
import Derived.Lib.AppendZeros
import Derived.Laws.Cover3
import Derived.Deep.Draws
import Derived.StillTailTactics
import Derived.DeepKeys
import Derived.Lib.BytesEntry
import Derived.Lib.Bytealg
import Derived.Laws.Externs
import Derived.Laws.RangeString
import Derived.Lib.UnsafeStr
import Derived.MapKept
import Derived.Laws.CopyRow
import Derived.Laws.IdiomCopy
import Derived.Lib.AppendStr
import Derived.LoopN
import Derived.Maps.Keyed
import Derived.DeepKeys4
import Derived.Laws.IdiomRangeMap
import Derived.Lib.AppendZerosOnto
import Derived.Lib.Overlaps
import Derived.Shelf.SlMaps.Clone
import Derived.Shelf.SlIter.Nil
import Derived.Shelf.SortM.Plain
import Derived.Shelf.SortM.SortNone
import Derived.Ground.SlmcProg
import Derived.Ground.GgzProg
import Derived.Ground.SlgmProg
import Derived.Test.YtiioclkiapbjnaaChecked
namespace Go.Proofs.Ytiioclkiapbjnaa.En
open Go.RowKit
set_option linter.unusedVariables false
set_option linter.unusedSimpArgs false
def Agr (Z : Nat → Prop) (w w' : World) : Prop := ∀ b, Z b → w'.heap[b]? = w.heap[b]?
structure Ty (α : Type) where
  size : Nat
  rep : (Nat → Prop) → World → List Value → α → Prop
  len : ∀ {Z w cs x}, rep Z w cs x → cs.length = size
  one : ∀ {Z w cs x}, rep Z w cs x → ∀ v ∈ cs, v.oneCell' = true
  keep : ∀ {Z w w' cs x}, Agr Z w w' → rep Z w cs x → rep Z w' cs x
  mono : ∀ {Z Z' : Nat → Prop} {w cs x}, (∀ b, Z b → Z' b) → rep Z w cs x → rep Z' w cs x
def str (l : List UInt8) : Value := .string ⟨l.toArray⟩
def tyEnc {α : Type} (n : Nat) (enc : α → List Value) (hl : ∀ x, (enc x).length = n) (h1 : ∀ x, ∀ v ∈ enc x, v.oneCell' = true) : Ty α where
  size := n
  rep _ _ cs x := cs = enc x
  len h := by rw [h, hl]
  one h := by rw [h]; exact h1 _
  keep _ h := h
  mono _ h := h
def tyInt (k : IntKind) : Ty Int := tyEnc 1 (fun n => [.int k n]) (fun _ => rfl) (by simp [Value.oneCell'])
def tyStr : Ty (List UInt8) := tyEnc 1 (fun l => [str l]) (fun _ => rfl) (by simp [Value.oneCell', str])
def tyPair {α β : Type} (a : Ty α) (b : Ty β) : Ty (α × β) where
  size := a.size + b.size
  rep Z w cs x := ∃ c1 c2, cs = c1 ++ c2 ∧ a.rep Z w c1 x.1 ∧ b.rep Z w c2 x.2
  len h := by obtain ⟨c1, c2, rfl, h1, h2⟩ := h; rw [List.length_append, a.len h1, b.len h2]
  one h := by
    obtain ⟨c1, c2, rfl, h1, h2⟩ := h
    intro v hv
    rcases List.mem_append.1 hv with hv | hv
    · exact a.one h1 v hv
    · exact b.one h2 v hv
  keep hz h := by obtain ⟨c1, c2, he, h1, h2⟩ := h; exact ⟨c1, c2, he, a.keep hz h1, b.keep hz h2⟩
  mono hz h := by obtain ⟨c1, c2, he, h1, h2⟩ := h; exact ⟨c1, c2, he, a.mono hz h1, b.mono hz h2⟩
def tyVia {α β : Type} (f : α → β) (b : Ty β) : Ty α where
  size := b.size
  rep Z w cs x := b.rep Z w cs (f x)
  len h := b.len h
  one h := b.one h
  keep hz h := b.keep hz h
  mono hz h := b.mono hz h
def RepL {α : Type} (t : Ty α) (Z : Nat → Prop) (w : World) : List Value → List α → Prop
  | cs, [] => cs = []
  | cs, x :: xs => ∃ c1 c2, cs = c1 ++ c2 ∧ t.rep Z w c1 x ∧ RepL t Z w c2 xs
section
variable {α : Type} {t : Ty α} {Z Z' : Nat → Prop} {w w' : World}
theorem RepL.len : ∀ {xs : List α} {cs : List Value}, RepL t Z w cs xs → cs.length = xs.length * t.size
  | [], _, h => by rw [show _ = [] from h]; simp
  | x :: xs, _, h => by
    obtain ⟨c1, c2, rfl, h1, h2⟩ := h
    rw [List.length_append, t.len h1, RepL.len h2, List.length_cons, Nat.succ_mul, Nat.add_comm]
theorem RepL.one : ∀ {xs : List α} {cs : List Value}, RepL t Z w cs xs → ∀ v ∈ cs, v.oneCell' = true
  | [], _, h => by rw [show _ = [] from h]; simp
  | x :: xs, _, h => by
    obtain ⟨c1, c2, rfl, h1, h2⟩ := h
    intro v hv
    rcases List.mem_append.1 hv with hv | hv
    · exact t.one h1 v hv
    · exact RepL.one h2 v hv
theorem RepL.keep (hz : Agr Z w w') : ∀ {xs : List α} {cs : List Value}, RepL t Z w cs xs → RepL t Z w' cs xs
  | [], _, h => h
  | x :: xs, _, h => by obtain ⟨c1, c2, he, h1, h2⟩ := h; exact ⟨c1, c2, he, t.keep hz h1, RepL.keep hz h2⟩
theorem RepL.mono (hz : ∀ b, Z b → Z' b) : ∀ {xs : List α} {cs : List Value}, RepL t Z w cs xs → RepL t Z' w cs xs
  | [], _, h => h
  | x :: xs, _, h => by obtain ⟨c1, c2, he, h1, h2⟩ := h; exact ⟨c1, c2, he, t.mono hz h1, RepL.mono hz h2⟩
theorem RepL.append : ∀ {xs ys : List α} {cs ds : List Value}, RepL t Z w cs xs → RepL t Z w ds ys → RepL t Z w (cs ++ ds) (xs ++ ys)
  | [], _, _, _, h, h' => by rw [show _ = [] from h]; exact h'
  | x :: xs, _, _, _, h, h' => by
    obtain ⟨c1, c2, rfl, h1, h2⟩ := h
    exact ⟨c1, c2 ++ _, by rw [List.append_assoc], h1, RepL.append h2 h'⟩
theorem RepL.drop : ∀ (k : Nat) {xs : List α} {cs : List Value}, RepL t Z w cs xs → RepL t Z w (cs.drop (k * t.size)) (xs.drop k)
  | 0, _, _, h => by simpa using h
  | k + 1, [], _, h => by rw [show _ = [] from h]; simp [RepL]
  | k + 1, x :: xs, _, h => by
    obtain ⟨c1, c2, rfl, h1, h2⟩ := h
    have := RepL.drop k h2
    have e : (c1 ++ c2).drop t.size = c2 := by
      rw [List.drop_append_of_le_length (by rw [t.len h1]; exact Nat.le_refl _), List.drop_of_length_le (by rw [t.len h1]; exact Nat.le_refl _), List.nil_append]
    rw [List.drop_succ_cons, Nat.succ_mul, Nat.add_comm, ← List.drop_drop, e]
    exact this
theorem RepL.take : ∀ (k : Nat) {xs : List α} {cs : List Value}, RepL t Z w cs xs → RepL t Z w (cs.take (k * t.size)) (xs.take k)
  | 0, _, _, h => by simp [RepL]
  | k + 1, [], _, h => by rw [show _ = [] from h]; simp [RepL]
  | k + 1, x :: xs, _, h => by
    obtain ⟨c1, c2, rfl, h1, h2⟩ := h
    refine ⟨c1, c2.take (k * t.size), ?_, h1, RepL.take k h2⟩
    rw [List.take_append, List.take_of_length_le (by rw [t.len h1, Nat.succ_mul]; omega), t.len h1, Nat.succ_mul, Nat.add_sub_cancel]
theorem RepL.at {xs : List α} {cs : List Value} (h : RepL t Z w cs xs) {k : Nat} {x : α} (hk : xs[k]? = some x) : t.rep Z w ((cs.drop (k * t.size)).take t.size) x := by
  have h1 := RepL.drop k h
  have hlt : k < xs.length := (List.getElem?_eq_some_iff.1 hk).1
  rw [List.drop_eq_getElem_cons hlt] at h1
  obtain ⟨c1, c2, he, h2, h3⟩ := h1
  rw [List.getElem?_eq_getElem hlt] at hk
  rw [he, List.take_append_of_le_length (by rw [t.len h2]; exact Nat.le_refl _), List.take_of_length_le (by rw [t.len h2]; exact Nat.le_refl _)]
  exact Option.some.inj hk ▸ h2
theorem RepL.set : ∀ (k : Nat) {xs : List α} {cs : List Value} {x : α} {c : List Value}, RepL t Z w cs xs → t.rep Z w c x → k < xs.length → RepL t Z w (cs.take (k * t.size) ++ c ++ cs.drop ((k + 1) * t.size)) (xs.set k x)
  | 0, [], _, _, _, _, _, hk => by simp at hk
  | 0, y :: xs, _, x, c, h, hc, _ => by
    obtain ⟨c1, c2, rfl, h1, h2⟩ := h
    refine ⟨c, c2, ?_, hc, h2⟩
    rw [Nat.zero_mul, List.take_zero, List.nil_append, Nat.zero_add, Nat.one_mul, List.drop_append_of_le_length (by rw [t.len h1]; exact Nat.le_refl _), List.drop_of_length_le (by rw [t.len h1]; exact Nat.le_refl _), List.nil_append]
  | k + 1, [], _, _, _, _, _, hk => by simp at hk
  | k + 1, y :: xs, _, x, c, h, hc, hk => by
    obtain ⟨c1, c2, rfl, h1, h2⟩ := h
    refine ⟨c1, _, ?_, h1, RepL.set k h2 hc (by simpa using hk)⟩
    have e1 : ∀ j, (c1 ++ c2).take ((j + 1) * t.size) = c1 ++ c2.take (j * t.size) := fun j => by
      rw [List.take_append, List.take_of_length_le (by rw [t.len h1, Nat.succ_mul]; omega), t.len h1, Nat.succ_mul, Nat.add_sub_cancel]
    have e2 : ∀ j, (c1 ++ c2).drop ((j + 1) * t.size) = c2.drop (j * t.size) := fun j => by
      rw [List.drop_append, List.drop_of_length_le (by rw [t.len h1, Nat.succ_mul]; omega), t.len h1, Nat.succ_mul, Nat.add_sub_cancel, List.nil_append]
    rw [e1, e2]; simp
end
def CellsAt (Z : Nat → Prop) (w : World) (ad : Addr) (cs : List Value) : Prop := Z ad.block ∧ ∀ j u, cs[j]? = some u → w.cell? (ad.add j) = some u
theorem add_block (a : Addr) (n : Nat) : (a.add n).block = a.block := by unfold Addr.add; split <;> rfl
theorem add_plain (g o n : Nat) : (⟨g, o, none⟩ : Addr).add n = ⟨g, o + n, none⟩ := by unfold Addr.add; split <;> simp_all
theorem add_add (a : Addr) (i j : Nat) : (a.add i).add j = a.add (i + j) := by
  unfold Addr.add
  by_cases hi : i = 0 <;> by_cases hj : j = 0 <;> simp [hi, hj, Nat.add_assoc]
section
variable {Z Z' : Nat → Prop} {w w' : World} {ad : Addr} {cs : List Value}
theorem CellsAt.keep (hz : Agr Z w w') (h : CellsAt Z w ad cs) : CellsAt Z w' ad cs :=
  ⟨h.1, fun j u hu => (World.cell?_of_block (w := w) (hz (ad.add j).block (by rw [add_block]; exact h.1))).trans (h.2 j u hu)⟩
theorem CellsAt.mono (hz : ∀ b, Z b → Z' b) (h : CellsAt Z w ad cs) : CellsAt Z' w ad cs := ⟨hz _ h.1, h.2⟩
theorem CellsAt.drop (h : CellsAt Z w ad cs) (k : Nat) : CellsAt Z w (ad.add k) (cs.drop k) :=
  ⟨by rw [add_block]; exact h.1, fun j u hu => by rw [add_add]; exact h.2 _ u (by rw [List.getElem?_drop] at hu; exact hu)⟩
theorem CellsAt.take (h : CellsAt Z w ad cs) (k : Nat) : CellsAt Z w ad (cs.take k) :=
  ⟨h.1, fun j u hu => h.2 _ u (by rw [List.getElem?_take] at hu; split at hu; exact hu; cases hu)⟩
end
def tyList {α : Type} (t : Ty α) : Ty (List α) where
  size := 1
  rep Z w c xs := ∃ A n cap, c = [.slice A n cap] ∧ n = xs.length ∧ n ≤ cap ∧ n ≤ maxLen ∧ (n = 0 ∨ ∃ ad cs, A = some ad ∧ CellsAt Z w ad cs ∧ RepL t Z w cs xs)
  len h := by obtain ⟨_, _, _, rfl, _⟩ := h; rfl
  one h := by obtain ⟨_, _, _, rfl, _⟩ := h; simp [Value.oneCell']
  keep hz h := by
    obtain ⟨A, n, c, he, hn, hc, hm, h⟩ := h
    refine ⟨A, n, c, he, hn, hc, hm, h.imp id ?_⟩
    rintro ⟨ad, cs, e, h1, h2⟩
    exact ⟨ad, cs, e, h1.keep hz, h2.keep hz⟩
  mono hz h := by
    obtain ⟨A, n, c, he, hn, hc, hm, h⟩ := h
    refine ⟨A, n, c, he, hn, hc, hm, h.imp id ?_⟩
    rintro ⟨ad, cs, e, h1, h2⟩
    exact ⟨ad, cs, e, h1.mono hz, h2.mono hz⟩
structure Fact where
  p : (Nat → Prop) → World → Prop
  keep : ∀ {Z w w'}, Agr Z w w' → p Z w → p Z w'
  mono : ∀ {Z Z' : Nat → Prop} {w}, (∀ b, Z b → Z' b) → p Z w → p Z' w
def fDat {α : Type} (t : Ty α) (cs : List Value) (x : α) : Fact := ⟨fun Z w => t.rep Z w cs x, t.keep, t.mono⟩
def fPtr {α : Type} (t : Ty α) (v : Value) (x : α) : Fact :=
  ⟨fun Z w => ∃ ad cs, v = .pointer (some ad) ∧ CellsAt Z w ad cs ∧ t.rep Z w cs x,
   fun hz h => by obtain ⟨ad, cs, e, h1, h2⟩ := h; exact ⟨ad, cs, e, h1.keep hz, t.keep hz h2⟩,
   fun hz h => by obtain ⟨ad, cs, e, h1, h2⟩ := h; exact ⟨ad, cs, e, h1.mono hz, t.mono hz h2⟩⟩
structure Own where
  blk : List Nat
  p : (Nat → Prop) → World → Prop
  keep : ∀ {Z w w'}, Agr (fun b => Z b ∨ b ∈ blk) w w' → p Z w → p Z w'
  mono : ∀ {Z Z' : Nat → Prop} {w}, (∀ b, Z b → Z' b) → p Z w → p Z' w
  lt : ∀ {Z w}, p Z w → ∀ b ∈ blk, b < w.heap.size
def oBox (g : Nat) (t : TypeId) (cs : List Value) : Own where
  blk := [g]
  p _ w := w.heap[g]? = some (.cells cs.toArray t (0, 0))
  keep hz h := (hz g (.inr (by simp))).trans h
  mono _ h := h
  lt h := by intro b hb; rw [List.mem_singleton.1 hb]; exact (Array.getElem?_eq_some_iff.1 h).1
theorem grown_agr {v : Value} {w w' : World} {base n sz : Nat} {e : TypeId} {xs : List Value} (h : w.ownsRow base e sz v n xs) (hz : ∀ b, v.ownBlock = some b → w'.heap[b]? = w.heap[b]?) : w'.ownsRow base e sz v n xs := by
  refine ⟨h.1, h.2.imp id ?_⟩
  rintro ⟨g, cap, cur, rfl, hb, hg, r⟩
  exact ⟨g, cap, cur, rfl, hb, (hz g rfl).trans hg, r⟩
def oRow {α : Type} (v : Value) (e : TypeId) (t : Ty α) (xs : List α) : Own where
  blk := v.ownBlock.toList
  p Z w := ∃ cs, w.ownsRow 0 e t.size v xs.length cs ∧ RepL t Z w cs xs
  keep hz h := by
    obtain ⟨cs, h1, h2⟩ := h
    exact ⟨cs, grown_agr h1 (fun b hb => hz b (.inr (by simp [hb]))), h2.keep (fun b hb => hz b (.inl hb))⟩
  mono hz h := by obtain ⟨cs, h1, h2⟩ := h; exact ⟨cs, h1, h2.mono hz⟩
  lt h := by
    obtain ⟨cs, h1, h2⟩ := h
    intro b hb
    exact (h1.lt b (by simpa using hb)).2
structure Mem where
  B : Nat
  w0 : World
  Z0 : Nat → Prop
  X : List Nat
  own : List Own
  fz : List Fact
def Mem.blks (m : Mem) : List Nat := m.own.flatMap Own.blk
def Mem.frz (m : Mem) (w : World) (b : Nat) : Prop := b < w.heap.size ∧ b ∉ m.blks ∧ (b < m.B → m.Z0 b)
structure Bel (B : Nat) (X : List Nat) (w w' : World) : Prop where
  os : w'.os = w.os
  tape : w'.tape = w.tape
  output : w'.output = w.output
  size : w.heap.size ≤ w'.heap.size
  block : ∀ k, k < B → k ∉ X → w'.heap[k]? = w.heap[k]?
theorem Bel.refl (B : Nat) (X : List Nat) (w : World) : Bel B X w w := ⟨rfl, rfl, rfl, Nat.le_refl _, fun _ _ _ => rfl⟩
theorem Bel.below {B : Nat} {w w' : World} (h : Bel B [] w w') : Below B w w' := ⟨h.os, h.tape, h.output, h.size, fun k hk => h.block k hk (by simp)⟩
theorem Bel.of {B : Nat} {X : List Nat} {w w' : World} (h : Below B w w') : Bel B X w w' := ⟨h.os, h.tape, h.output, h.size, fun k hk _ => h.block k hk⟩
structure Holds (m : Mem) (w : World) : Prop where
  bel : Bel m.B m.X m.w0 w
  B : m.w0.heap.size = m.B
  nd : m.blks.Nodup
  lo : ∀ b ∈ m.blks, m.B ≤ b ∨ b ∈ m.X
  zx : ∀ b ∈ m.X, b < m.B ∧ ¬ m.Z0 b
  own : ∀ o ∈ m.own, o.p (m.frz w) w
  fz : ∀ f ∈ m.fz, f.p (m.frz w) w
def Mem.add (m : Mem) (f : Fact) : Mem := { m with fz := f :: m.fz }
def Mem.adds (m : Mem) (l : List Fact) : Mem := { m with fz := l ++ m.fz }
def Mem.push (m : Mem) (o : Own) : Mem := { m with own := o :: m.own }
def Mem.pushs (m : Mem) (l : List Own) : Mem := { m with own := l ++ m.own }
def Mem.upd (m : Mem) (i : Nat) (o : Own) : Mem := { m with own := m.own.set i o }
structure Step (m : Mem) (w : World) (bs : List Nat) (w' : World) : Prop where
  os : w'.os = w.os
  tape : w'.tape = w.tape
  output : w'.output = w.output
  size : w.heap.size ≤ w'.heap.size
  block : ∀ b, b < w.heap.size → b ∉ bs → w'.heap[b]? = w.heap[b]?
theorem Step.of {m : Mem} {w w' : World} {bs : List Nat} (h : Below w.heap.size w w') : Step m w bs w' := ⟨h.os, h.tape, h.output, h.size, fun b hb _ => h.block b hb⟩
section
variable {m : Mem} {w w' : World}
theorem Holds.lt (h : Holds m w) {b : Nat} (hb : b ∈ m.blks) : b < w.heap.size := by
  obtain ⟨o, ho, hb⟩ := List.mem_flatMap.1 hb
  exact o.lt (h.own o ho) b hb
theorem Holds.size (h : Holds m w) : m.B ≤ w.heap.size := by rw [← h.B]; exact h.bel.size
theorem Holds.add (h : Holds m w) {f : Fact} (hf : f.p (m.frz w) w) : Holds (m.add f) w :=
  ⟨h.bel, h.B, h.nd, h.lo, h.zx, h.own, fun g hg => by
    rcases List.mem_cons.1 hg with rfl | hg
    · exact hf
    · exact h.fz g hg⟩
theorem Holds.adds (h : Holds m w) {l : List Fact} (hf : ∀ f ∈ l, f.p (m.frz w) w) : Holds (m.adds l) w :=
  ⟨h.bel, h.B, h.nd, h.lo, h.zx, h.own, fun g hg => by
    rcases List.mem_append.1 hg with hg | hg
    · exact hf g hg
    · exact h.fz g hg⟩
theorem Holds.step (h : Holds m w) {bs : List Nat} (hs : Step m w bs w') (hbs : ∀ b ∈ bs, b ∈ m.blks) (own' new : List Own)
    (hnd : ((new ++ own').flatMap Own.blk).Nodup) (hold : ∀ o ∈ own', o ∈ m.own ∧ ∀ b ∈ o.blk, b ∉ bs)
    (hnew : ∀ o ∈ new, (∀ b ∈ o.blk, b ∈ bs ∨ w.heap.size ≤ b) ∧ ∀ Z : Nat → Prop, (∀ b, m.frz w b → Z b) → (∀ b, w.heap.size ≤ b → b < w'.heap.size → b ∉ new.flatMap Own.blk → Z b) → o.p Z w') :
    Holds { m with own := new ++ own' } w' := by
  have hz : ∀ b, m.frz w b → Mem.frz { m with own := new ++ own' } w' b := fun b hb => by
    refine ⟨Nat.lt_of_lt_of_le hb.1 hs.size, fun hx => ?_, hb.2.2⟩
    obtain ⟨o, ho, hx⟩ := List.mem_flatMap.1 hx
    rcases List.mem_append.1 ho with ho | ho
    · rcases (hnew o ho).1 b hx with hx | hx
      · exact hb.2.1 (hbs b hx)
      · have := hb.1; omega
    · exact hb.2.1 (List.mem_flatMap.2 ⟨o, (hold o ho).1, hx⟩)
  have hag : Agr (m.frz w) w w' := fun b hb => hs.block b hb.1 (fun hx => hb.2.1 (hbs b hx))
  have hlo : ∀ b ∈ bs, m.B ≤ b ∨ b ∈ m.X := fun b hb => h.lo b (hbs b hb)
  refine ⟨⟨hs.os.trans h.bel.os, hs.tape.trans h.bel.tape, hs.output.trans h.bel.output, Nat.le_trans h.bel.size hs.size, fun k hk hx => ?_⟩, h.B, hnd, fun b hb => ?_, h.zx, fun o ho => ?_, fun f hf => f.mono hz (f.keep hag (h.fz f hf))⟩
  · refine (hs.block k (Nat.lt_of_lt_of_le hk h.size) (fun hb => ?_)).trans (h.bel.block k hk hx)
    rcases hlo k hb with h1 | h1
    · have hk' : k < m.B := hk; omega
    · exact hx h1
  · obtain ⟨o, ho, hb⟩ := List.mem_flatMap.1 hb
    rcases List.mem_append.1 ho with ho | ho
    · rcases (hnew o ho).1 b hb with hx | hx
      · exact hlo b hx
      · exact .inl (Nat.le_trans h.size hx)
    · exact h.lo b (List.mem_flatMap.2 ⟨o, (hold o ho).1, hb⟩)
  · rcases List.mem_append.1 ho with ho | ho
    · refine (hnew o ho).2 _ hz (fun b h1 h2 h3 => ⟨h2, fun hx => ?_, fun hx => ?_⟩)
      · obtain ⟨o', ho', hx⟩ := List.mem_flatMap.1 hx
        rcases List.mem_append.1 ho' with ho' | ho'
        · exact h3 (List.mem_flatMap.2 ⟨o', ho', hx⟩)
        · have := h.lt (List.mem_flatMap.2 ⟨o', (hold o' ho').1, hx⟩); omega
      · have := h.size; have hx' : b < m.B := hx; omega
    · refine o.mono hz (o.keep (fun b hb => ?_) (h.own o (hold o ho).1))
      rcases hb with hb | hb
      · exact hag b hb
      · exact hs.block b (o.lt (h.own o (hold o ho).1) b hb) ((hold o ho).2 b hb)
theorem Holds.ext (h : Holds m w) (hb : Below w.heap.size w w') : Holds m w' := by
  have := h.step (bs := []) (.of hb) (by simp) m.own [] (by simpa using (show (m.own.flatMap Own.blk).Nodup from h.nd)) (fun o ho => ⟨ho, by simp⟩) (by simp)
  simpa using this
theorem Holds.pushs (h : Holds m w) (hb : Below w.heap.size w w') {l : List Own} (hnd : (l.flatMap Own.blk).Nodup)
    (hnew : ∀ o ∈ l, (∀ b ∈ o.blk, w.heap.size ≤ b) ∧ ∀ Z : Nat → Prop, (∀ b, m.frz w b → Z b) → (∀ b, w.heap.size ≤ b → b < w'.heap.size → b ∉ l.flatMap Own.blk → Z b) → o.p Z w') : Holds (m.pushs l) w' := by
  refine h.step (bs := []) (.of hb) (by simp) m.own l ?_ (fun o ho => ⟨ho, by simp⟩) (fun o ho => ⟨fun b hb => .inr ((hnew o ho).1 b hb), (hnew o ho).2⟩)
  rw [List.flatMap_append, List.nodup_append]
  refine ⟨hnd, h.nd, fun b hb1 c hc e => ?_⟩
  obtain ⟨o, ho, hb1⟩ := List.mem_flatMap.1 hb1
  have := (hnew o ho).1 b hb1
  have := h.lt hc
  omega
theorem Holds.push (h : Holds m w) (hb : Below w.heap.size w w') {o : Own} (hnd : o.blk.Nodup) (hlo : ∀ b ∈ o.blk, w.heap.size ≤ b)
    (ho : ∀ Z : Nat → Prop, (∀ b, m.frz w b → Z b) → o.p Z w') : Holds (m.push o) w' :=
  h.pushs (l := [o]) hb (by simpa using hnd) (fun o' ho' => by rw [List.mem_singleton.1 ho']; exact ⟨hlo, fun Z h1 _ => ho Z h1⟩)
theorem Holds.reown (h : Holds m w) (own' : List Own) (hsub : ∀ o ∈ own', o ∈ m.own) (hnd : (own'.flatMap Own.blk).Nodup) : Holds { m with own := own' } w := by
  have := h.step (w' := w) (bs := []) (.of (Below.refl _ _)) (by simp) own' [] (by simpa using hnd) (fun o ho => ⟨hsub o ho, by simp⟩) (by simp)
  simpa using this
theorem Holds.refz (h : Holds m w) (fz' : List Fact) (hsub : ∀ f ∈ fz', f ∈ m.fz) : Holds { m with fz := fz' } w :=
  ⟨h.bel, h.B, h.nd, h.lo, h.zx, h.own, fun f hf => h.fz f (hsub f hf)⟩
theorem set_split {l : List Own} {i : Nat} {o : Own} (o' : Own) (hi : l[i]? = some o) : l.set i o' = l.take i ++ o' :: l.drop (i + 1) := by
  have hlt : i < l.length := (List.getElem?_eq_some_iff.1 hi).1
  rw [List.set_eq_take_append_cons_drop, if_pos hlt]
theorem perm_set {l : List Own} {i : Nat} {o : Own} (o' : Own) (hi : l[i]? = some o) : ((l.set i o').flatMap Own.blk).Perm ((o' :: (l.take i ++ l.drop (i + 1))).flatMap Own.blk) := by
  rw [set_split o' hi]
  exact List.Perm.flatMap_right _ List.perm_middle
theorem perm_get {l : List Own} {i : Nat} {o : Own} (hi : l[i]? = some o) : (l.flatMap Own.blk).Perm ((o :: (l.take i ++ l.drop (i + 1))).flatMap Own.blk) := by
  have := perm_set o hi
  have e : l.set i o = l := by
    apply List.ext_getElem?
    intro j
    rw [List.getElem?_set]
    split
    · rename_i e; subst e; rw [hi, if_pos (List.getElem?_eq_some_iff.1 hi).1]
    · rfl
  rwa [e] at this
theorem Holds.upd (h : Holds m w) {i : Nat} {o o' : Own} (hi : m.own[i]? = some o) (hs : Step m w o.blk w') (hnd : o'.blk.Nodup) (hnew : ∀ b ∈ o'.blk, b ∈ o.blk ∨ w.heap.size ≤ b)
    (ho : ∀ Z : Nat → Prop, (∀ b, m.frz w b → Z b) → o'.p Z w') : Holds (m.upd i o') w' := by
  have hnd0 : ((o :: (m.own.take i ++ m.own.drop (i + 1))).flatMap Own.blk).Nodup := (perm_get hi).nodup_iff.1 h.nd
  have hmo : o ∈ m.own := List.mem_of_getElem? hi
  have hin : ∀ b ∈ o.blk, b ∈ m.blks := fun b hb => List.mem_flatMap.2 ⟨o, hmo, hb⟩
  rw [List.flatMap_cons, List.nodup_append] at hnd0
  have hsub : ∀ x ∈ m.own.take i ++ m.own.drop (i + 1), x ∈ m.own := fun x hx => by
    rcases List.mem_append.1 hx with hx | hx
    · exact List.mem_of_mem_take hx
    · exact List.mem_of_mem_drop hx
  have h1 := h.step hs hin (m.own.take i ++ m.own.drop (i + 1)) [o'] (by
      rw [List.singleton_append, List.flatMap_cons, List.nodup_append]
      refine ⟨hnd, hnd0.2.1, fun b hb c hc e => ?_⟩
      subst e
      rcases hnew b hb with hx | hx
      · exact hnd0.2.2 b hx b hc rfl
      · obtain ⟨x, hx1, hx2⟩ := List.mem_flatMap.1 hc
        have := h.lt (List.mem_flatMap.2 ⟨x, hsub x hx1, hx2⟩); omega)
    (fun x hx => ⟨hsub x hx, fun b hb hbo => hnd0.2.2 b hbo b (List.mem_flatMap.2 ⟨x, hx, hb⟩) rfl⟩)
    (fun x hx => by rw [List.mem_singleton.1 hx]; exact ⟨hnew, fun Z h1 _ => ho Z h1⟩)
  have h2 := h1.reown (m.own.set i o') (fun x hx => by
    rw [set_split o' hi] at hx
    show x ∈ [o'] ++ (m.own.take i ++ m.own.drop (i + 1))
    simp only [List.mem_append, List.mem_cons] at hx ⊢
    rcases hx with hx | rfl | hx
    · exact .inr (.inl hx)
    · exact .inl (.inl rfl)
    · exact .inr (.inr hx)) ((perm_set o' hi).nodup_iff.2 (by have h9 : (([o'] ++ (m.own.take i ++ m.own.drop (i + 1))).flatMap Own.blk).Nodup := h1.nd; simpa using h9))
  exact h2
end
end Go.Proofs.Ytiioclkiapbjnaa.En
namespace Go.Proofs.Ytiioclkiapbjnaa.En
open Go.RowKit
set_option linter.unusedVariables false
set_option linter.unusedSimpArgs false
abbrev Sl := Nat → Option Value
def put (S : Sl) (d : Nat) (v : Value) : Sl := fun t => bif Nat.beq t d then some v else S t
def Sl.nil : Sl := fun _ => none
def ev (S : Sl) : Operand → Option Value
  | .tmp t => S t
  | .const v => some v
  | .global g => some (.pointer (some ⟨g, 0, none⟩))
  | .func f => some (.func (.func f) #[] #[])
structure Sat (n : Nat) (S : Sl) (a : Act) : Prop where
  def_ : a.defers = []
  size : a.tmps.size = n
  val : ∀ t v, S t = some v → a.tmps.getD t undef = v
section
variable {n : Nat} {S S' : Sl} {a : Act}
theorem Sat.ev (h : Sat n S a) {x : Operand} {v : Value} (hx : ev S x = some v) : a.eval x = v := by
  cases x with
  | tmp t => exact h.val t v hx
  | const u => exact Option.some.inj hx
  | global g => exact Option.some.inj hx
  | func f => exact Option.some.inj hx
theorem put_some {d t : Nat} {v u : Value} (h : put S d v t = some u) : (t = d ∧ u = v) ∨ (t ≠ d ∧ S t = some u) := by
  unfold put at h
  cases hb : Nat.beq t d with
  | true => rw [hb] at h; exact .inl ⟨Nat.eq_of_beq_eq_true hb, (Option.some.inj h).symm⟩
  | false => rw [hb] at h; exact .inr ⟨Nat.ne_of_beq_eq_false hb, h⟩
theorem Sat.put (h : Sat n S a) {d : Nat} (hd : d < n) (v : Value) : Sat n (put S d v) (a.put (some d) v) := by
  refine ⟨h.def_, by simp [Act.put, h.size], fun t u hu => ?_⟩
  have hsz := h.size
  rcases put_some hu with ⟨rfl, rfl⟩ | ⟨hne, hu⟩
  · simp [Act.put, Array.getD, hsz, hd]
  · have h0 := h.val t u hu
    have he : (a.tmps.setIfInBounds d v).getD t undef = a.tmps.getD t undef := by
      simp only [Array.getD_eq_getD_getElem?]
      rw [Array.getElem?_setIfInBounds_ne (fun e => hne e.symm)]
    exact he.trans h0
theorem Sat.put' (h : Sat n S a) {od : Option Nat} {d : Nat} (hdd : od = some d) (hd : Nat.blt d n = true) (v : Value) : Sat n (En.put S d v) (a.put od v) := by subst hdd; exact h.put (by simpa [Nat.blt_eq] using hd) v
theorem Sat.weak (h : Sat n S a) (hs : ∀ t v, S' t = some v → S t = some v) : Sat n S' a := ⟨h.def_, h.size, fun t v hv => h.val t v (hs t v hv)⟩
end
def tab : List (Nat × Value) → Sl
  | [] => fun _ => none
  | (d, v) :: l => put (tab l) d v
theorem Sat.tab {n : Nat} {S : Sl} {a : Act} (h : Sat n S a) : ∀ (l : List (Nat × Value)), (∀ p ∈ l, S p.1 = some p.2) → Sat n (tab l) a
  | [], _ => h.weak (fun t v hv => by cases hv)
  | (d, v) :: l, hl => by
    have h1 := Sat.tab h l (fun p hp => hl p (by simp [hp]))
    refine ⟨h.def_, h.size, fun t u hu => ?_⟩
    rcases put_some hu with ⟨rfl, rfl⟩ | ⟨_, hu⟩
    · exact h.val _ _ (hl (t, u) (by simp))
    · exact h1.val t u hu
def allT (S : Sl) : List (Nat × Value) → Prop
  | [] => True
  | (d, v) :: l => S d = some v ∧ allT S l
theorem allT_mem {S : Sl} : ∀ {l : List (Nat × Value)}, allT S l → ∀ p ∈ l, S p.1 = some p.2
  | [], _, p, hp => by simp at hp
  | (d, v) :: l, h, p, hp => by
    rcases List.mem_cons.1 hp with rfl | hp
    · exact h.1
    · exact allT_mem h.2 p hp
def AW (P : Program) (c : Code) (Q : Exit → Act → World → Prop) (n : Nat) (m : Mem) (S : Sl) : Prop := ∀ w a, Holds m w → Sat n S a → c.wp P Q a w
def AL (P : Program) (ops : Array Oper) (l : List Oper) (Q : Exit → Act → World → Prop) (n : Nat) (m : Mem) (S : Sl) : Prop := ∀ w a, Holds m w → Sat n S a → wpList P ops Q l a w
def AQ (Q : Exit → Act → World → Prop) (e : Exit) (n : Nat) (m : Mem) (S : Sl) : Prop := ∀ w a, Holds m w → Sat n S a → Q e a w
section
variable {P : Program} {Q : Exit → Act → World → Prop} {n : Nat} {m m' : Mem} {S S' : Sl}
theorem aw_seq {x y : Code} (h : AW P x (Exit.then (y.wp P Q) Q) n m S) : AW P (.seq x y) Q n m S := fun w a hm hs => wp_seq (h w a hm hs)
theorem aq_then {y : Code} (h : AW P y Q n m S) : AQ (Exit.then (y.wp P Q) Q) .normal n m S := h
theorem aq_then_ret {K : Act → World → Prop} (h : AQ Q .ret n m S) : AQ (Exit.then K Q) .ret n m S := h
theorem aq_then_exit {K : Act → World → Prop} {i : Nat} (h : AQ Q (.exit i) n m S) : AQ (Exit.then K Q) (.exit i) n m S := h
theorem aw_block {id : Nat} {c : Code} (h : AW P c (Exit.inBlock id Q) n m S) : AW P (.block id c) Q n m S := fun w a hm hs => wp_block (h w a hm hs)
theorem aq_block {id : Nat} (h : AQ Q .normal n m S) : AQ (Exit.inBlock id Q) .normal n m S := h
theorem aq_block_ret {id : Nat} (h : AQ Q .ret n m S) : AQ (Exit.inBlock id Q) .ret n m S := h
theorem aq_block_exit {id : Nat} (h : AQ Q .normal n m S) : AQ (Exit.inBlock id Q) (.exit id) n m S := fun w a hm hs => by
  show if id = id then _ else _
  rw [if_pos rfl]; exact h w a hm hs
theorem aw_skip (h : AQ Q .normal n m S) : AW P .skip Q n m S := fun w a hm hs => wp_skip (h w a hm hs)
theorem aw_exit {i : Nat} (h : AQ Q (.exit i) n m S) : AW P (.exit i) Q n m S := fun w a hm hs => wp_exit (h w a hm hs)
theorem aw_ret (h : AQ Q .ret n m S) : AW P .ret Q n m S := fun w a hm hs => wp_ret (h w a hm hs)
theorem aw_cond {c : Operand} {x y : Code} {b : Bool} (hc : ev S c = some (.bool b)) (ht : b = true → AW P x Q n m S) (hf : b = false → AW P y Q n m S) : AW P (.cond c x y) Q n m S :=
  fun w a hm hs => wp_cond_split (hs.ev hc) (fun e => ht e w a hm hs) (fun e => hf e w a hm hs)
theorem aw_cond_t {c : Operand} {x y : Code} (hc : ev S c = some (.bool true)) (h : AW P x Q n m S) : AW P (.cond c x y) Q n m S :=
  fun w a hm hs => wp_cond_true (hs.ev hc) (h w a hm hs)
theorem aw_cond_f {c : Operand} {x y : Code} (hc : ev S c = some (.bool false)) (h : AW P y Q n m S) : AW P (.cond c x y) Q n m S :=
  fun w a hm hs => wp_cond_false (hs.ev hc) (h w a hm hs)
theorem aw_region {id : Nat} {l : List Oper} (h : AL P l.toArray l Q n m S) : AW P (.region id l.toArray false) Q n m S := fun w a hm hs => wp_region_lit (h w a hm hs)
theorem al_nil {ops : Array Oper} (h : AQ Q .normal n m S) : AL P ops [] Q n m S := fun w a hm hs => wpList_nil (h w a hm hs)
theorem least {p : Nat → Prop} (h : ∃ k, p k) : ∃ k, p k ∧ ∀ j, p j → k ≤ j := by
  obtain ⟨k, hk⟩ := h
  induction k using Nat.strongRecOn with
  | _ k ih =>
    by_cases hj : ∃ j, j < k ∧ p j
    · obtain ⟨j, hlt, hp⟩ := hj; exact ih j hlt hp
    · exact ⟨k, hk, fun j hp => Nat.le_of_not_lt fun hlt => hj ⟨j, hlt, hp⟩⟩
theorem wp_loop_fuel {c : Code} (J : Nat → Act → World → Prop) (round : ∀ k a w, J k a w → c.wp P (Exit.then (fun a' w' => ∃ j, j < k ∧ J j a' w') Q) a w) {k : Nat} {a : Act} {w : World} (h : J k a w) : (Code.loop c).wp P Q a w := by
  classical
  let μ : Act → World → Nat := fun a w => if h : ∃ k, J k a w then Classical.choose (least h) else 0
  refine wp_loop (fun a w => ∃ k, J k a w) μ ⟨k, h⟩ (fun a w hI => ?_)
  have hk := (Classical.choose_spec (least hI)).1
  refine Code.wp_mono (fun e a' w' q => ?_) (round _ a w hk)
  cases e with
  | normal =>
    obtain ⟨j, hj, hJ⟩ := q
    refine ⟨⟨j, hJ⟩, ?_⟩
    have hex : ∃ k, J k a' w' := ⟨j, hJ⟩
    have h1 : μ a' w' ≤ j := by
      show (if h : ∃ k, J k a' w' then Classical.choose (least h) else 0) ≤ j
      rw [dif_pos hex]; exact (Classical.choose_spec (least hex)).2 j hJ
    have h2 : μ a w = Classical.choose (least hI) := dif_pos hI
    omega
  | exit i => exact q
  | goto i => exact q
  | ret => exact q
  | panic ch => exact q
  | outgrown => exact q
theorem aw_loop {c : Code} {ι : Type _} (M : ι → Mem) (T : ι → Sl) (φ : Nat → ι → Prop)
    (round : ∀ k i, φ k i → AW P c (Exit.then (fun a' w' => ∃ j, j < k ∧ ∃ i', φ j i' ∧ Holds (M i') w' ∧ Sat n (T i') a') Q) n (M i) (T i)) (k : Nat) (i : ι) (h : φ k i) : AW P (.loop c) Q n (M i) (T i) :=
  fun w a hm hs => wp_loop_fuel (fun k a w => ∃ i, φ k i ∧ Holds (M i) w ∧ Sat n (T i) a)
    (fun k a w ⟨i, hp, hm, hs⟩ => round k i hp w a hm hs) ⟨i, h, hm, hs⟩
theorem aq_again {ι : Type _} {M : ι → Mem} {T : ι → Sl} {φ : Nat → ι → Prop} {k : Nat} (j : Nat) (i : ι) (hj : j < k) (hp : φ j i)
    (h : ∀ w a, Holds m w → Sat n S a → Holds (M i) w ∧ Sat n (T i) a) : AQ (Exit.then (fun a' w' => ∃ j, j < k ∧ ∃ i', φ j i' ∧ Holds (M i') w' ∧ Sat n (T i') a') Q) .normal n m S :=
  fun w a hm hs => ⟨j, hj, i, hp, h w a hm hs⟩
theorem aw_state {c : Code} (h : AW P c Q n m' S') (hh : ∀ w a, Holds m w → Sat n S a → Holds m' w ∧ Sat n S' a) : AW P c Q n m S := fun w a hm hs => h w a (hh w a hm hs).1 (hh w a hm hs).2
def picks {β : Type _} (l : List β) (is : List Nat) : List β := is.filterMap fun i => l[i]?
theorem picks_sub {β : Type _} {l : List β} {is : List Nat} {x : β} (h : x ∈ picks l is) : x ∈ l := by
  obtain ⟨i, _, hi⟩ := List.mem_filterMap.1 h
  exact List.mem_of_getElem? hi
theorem nodup_flat {l : List Own} (hl : (l.flatMap Own.blk).Nodup) {i j : Nat} {o o' : Own} (hi : l[i]? = some o) (hj : l[j]? = some o') (hne : i ≠ j) : ∀ b ∈ o.blk, b ∉ o'.blk := by
  induction l generalizing i j with
  | nil => simp at hi
  | cons x l ih =>
    rw [List.flatMap_cons, List.nodup_append] at hl
    cases i with
    | zero =>
      cases j with
      | zero => exact absurd rfl hne
      | succ j =>
        simp only [List.getElem?_cons_zero, Option.some.injEq] at hi
        subst hi
        rw [List.getElem?_cons_succ] at hj
        exact fun b hb hb' => hl.2.2 b hb b (List.mem_flatMap.2 ⟨o', List.mem_of_getElem? hj, hb'⟩) rfl
    | succ i =>
      rw [List.getElem?_cons_succ] at hi
      cases j with
      | zero =>
        simp only [List.getElem?_cons_zero, Option.some.injEq] at hj
        subst hj
        exact fun b hb hb' => hl.2.2 b hb' b (List.mem_flatMap.2 ⟨o, List.mem_of_getElem? hi, hb⟩) rfl
      | succ j =>
        rw [List.getElem?_cons_succ] at hj
        exact ih hl.2.1 hi hj (by omega)
theorem nodup_at {l : List Own} (hl : (l.flatMap Own.blk).Nodup) {o : Own} (ho : o ∈ l) : o.blk.Nodup := by
  induction l with
  | nil => simp at ho
  | cons x l ih =>
    rw [List.flatMap_cons, List.nodup_append] at hl
    rcases List.mem_cons.1 ho with rfl | ho
    · exact hl.1
    · exact ih hl.2.1 ho
theorem picks_nodup {l : List Own} (hl : (l.flatMap Own.blk).Nodup) : ∀ {is : List Nat}, is.Nodup → ((picks l is).flatMap Own.blk).Nodup
  | [], _ => by simp [picks]
  | i :: is, h => by
    have h2 := picks_nodup hl (List.nodup_cons.1 h).2
    unfold picks at h2 ⊢
    rw [List.filterMap_cons]
    cases hi : l[i]? with
    | none => exact h2
    | some o =>
      show ((o :: _).flatMap Own.blk).Nodup
      rw [List.flatMap_cons, List.nodup_append]
      refine ⟨nodup_at hl (List.mem_of_getElem? hi), h2, fun b hb c hc e => ?_⟩
      subst e
      obtain ⟨o', ho', hb'⟩ := List.mem_flatMap.1 hc
      obtain ⟨j, hj, ho'⟩ := List.mem_filterMap.1 ho'
      exact nodup_flat hl hi ho' (fun e => (List.nodup_cons.1 h).1 (e ▸ hj)) b hb hb'
theorem Holds.pick {w : World} (h : Holds m w) (io iz : List Nat) (hio : io.Nodup) : Holds { m with own := picks m.own io, fz := picks m.fz iz } w :=
  (h.reown (picks m.own io) (fun o ho => picks_sub ho) (picks_nodup h.nd hio)).refz _ (fun f hf => picks_sub hf)
theorem norm {w : World} {a : Act} (h : Holds m w) (hs : Sat n S a) (io iz : List Nat) (l : List (Nat × Value)) (hio : io.Nodup) (hl : allT S l) :
    Holds { m with own := picks m.own io, fz := picks m.fz iz } w ∧ Sat n (tab l) a := ⟨h.pick io iz hio, hs.tab l (allT_mem hl)⟩
theorem al_use {ops : Array Oper} {l : List Oper} {ι : Sort _} {f : Fact} (i : Nat) (hi : m.fz[i]? = some f) (φ : ι → Prop) (fs : ι → List Fact) (hf : ∀ Z w, f.p Z w → ∃ j, φ j ∧ ∀ g ∈ fs j, g.p Z w)
    (h : ∀ j, φ j → AL P ops l Q n (m.adds (fs j)) S) : AL P ops l Q n m S := fun w a hm hs => by
  obtain ⟨j, hj, hg⟩ := hf _ _ (hm.fz f (List.mem_of_getElem? hi))
  exact h j hj w a (hm.adds hg) hs
end
def wantS (ops : Array Oper) (S : Sl) (o : Oper) (want : Bool) : Bool :=
  match o.guard with
  | none => want
  | some (j, y) => match (ops[j]?).bind (·.dst) with
    | some t => match S t with
      | some (.bool b) => (b == y) == want
      | some _ => !want
      | none => false
    | none => false
section
variable {P : Program} {Q : Exit → Act → World → Prop} {n : Nat} {m m' : Mem} {S S' : Sl} {ops : Array Oper} {rest : List Oper} {o : Oper}
theorem getD_tmps {a : Act} {t : Nat} {b : Bool} (h : a.tmps.getD t undef = .bool b) : a.tmps[t]? = some (.bool b) := by
  unfold Array.getD at h
  split at h
  · rename_i hlt
    rw [Array.getElem?_eq_getElem hlt]
    exact congrArg some h
  · cases h
theorem wantS_of {a : Act} (hs : Sat n S a) {want : Bool} (h : wantS ops S o want = true) : Region.wanted o (yielded ops a.tmps) = want := by
  unfold wantS at h
  unfold Region.wanted
  cases hg : o.guard with
  | none => rw [hg] at h; exact h.symm
  | some p =>
    obtain ⟨j, y⟩ := p
    rw [hg] at h
    simp only at h ⊢
    cases hd : (ops[j]?).bind (·.dst) with
    | none => rw [hd] at h; cases h
    | some t =>
      rw [hd] at h
      simp only at h
      cases hv : S t with
      | none => rw [hv] at h; cases h
      | some v =>
        rw [hv] at h
        cases v with
        | bool b =>
          simp only at h
          have := getD_tmps (hs.val t _ hv)
          unfold yielded
          rw [hd]
          simp only [Option.bind_some, this]
          have h2 : (b == y) = want := by simpa using h
          rw [← h2]
          cases b <;> cases y <;> rfl
        | _ =>
          have hw : want = false := by simpa using h
          subst hw
          have hsv := hs.val t _ hv
          unfold yielded
          rw [hd]
          simp only [Option.bind_some]
          unfold Array.getD at hsv
          split at hsv
          · rename_i hlt
            have h9 : a.tmps[t]? = some (a.tmps[t]) := Array.getElem?_eq_getElem hlt
            rw [h9]
            have h8 : a.tmps[t] = _ := hsv
            rw [h8]; rfl
          · rename_i hlt
            rw [Array.getElem?_eq_none (by omega)]; rfl
theorem al_skip {d : Nat} (h : AL P ops rest Q n m (put S d undef)) (hdd : o.dst = some d := by rfl) (hd : Nat.blt d n = true := by rfl) (hg : wantS ops S o false = true := by rfl) : AL P ops (o :: rest) Q n m S := fun w a hm hs => by
  refine wpList_step fun K hK => ?_
  rw [wantS_of hs hg]
  exact hK _ _ (h w _ hm (hs.put' hdd hd _))
theorem al_step (hg : wantS ops S o true = true) (hst : ∀ w a, Holds m w → Sat n S a → ∀ K : Act → World → Prop, (∀ a w, wpList P ops Q rest a w → K a w) → o.wp P a w K Q) : AL P ops (o :: rest) Q n m S := fun w a hm hs => by
  refine wpList_step fun K hK => ?_
  rw [wantS_of hs hg]
  exact hst w a hm hs K hK
def OpV (P : Program) (o : Oper) (n : Nat) (m : Mem) (S : Sl) (v : Value) : Prop := ∀ w a, Holds m w → Sat n S a → (execOp a.eval o).run P w = .ok (.value v) w
theorem al_val {d : Nat} {v : Value} (hv : OpV P o n m S v) (h : AL P ops rest Q n m (put S d v)) (hdd : o.dst = some d := by rfl) (hd : Nat.blt d n = true := by rfl) (hg : wantS ops S o true = true := by rfl) : AL P ops (o :: rest) Q n m S :=
  al_step hg fun w a hm hs K hK => by
    unfold Oper.wp
    rw [hv w a hm hs, Oper.upon_value]
    exact hK _ _ (h w _ hm (hs.put' hdd hd _))
def OpF (P : Program) (o : Oper) (n : Nat) (m : Mem) (S : Sl) (R : Value → Fact) : Prop := ∀ w a, Holds m w → Sat n S a → ∃ v, (execOp a.eval o).run P w = .ok (.value v) w ∧ (R v).p (m.frz w) w
theorem al_fact {d : Nat} {R : Value → Fact} (hv : ∀ w a, Holds m w → Sat n S a → ∃ v, (execOp a.eval o).run P w = .ok (.value v) w ∧ (R v).p (m.frz w) w)
    (h : ∀ v, AL P ops rest Q n (m.add (R v)) (put S d v)) (hdd : o.dst = some d := by rfl) (hd : Nat.blt d n = true := by rfl) (hg : wantS ops S o true = true := by rfl) : AL P ops (o :: rest) Q n m S :=
  al_step hg fun w a hm hs K hK => by
    unfold Oper.wp
    obtain ⟨v, hr, hf⟩ := hv w a hm hs
    rw [hr, Oper.upon_value]
    exact hK _ _ (h v w _ (hm.add hf) (hs.put' hdd hd _))
end
section
variable {P : Program} {n : Nat} {m : Mem} {S : Sl} {o : Oper}
theorem ov_move {x : Operand} {v : Value} (ho : o.op = .move x) (hx : ev S x = some v) : OpV P o n m S v := fun w a _ hs => by
  unfold execOp; simp [ho, hs.ev hx]
theorem ov_assign {x : Operand} {v : Value} (ho : o.op = .assign x) (hx : ev S x = some v) : OpV P o n m S v := fun w a _ hs => by
  unfold execOp; simp [ho, hs.ev hx]
theorem ov_pick {c x y : Operand} {b : Bool} {v u : Value} (ho : o.op = .pick c x y) (hc : ev S c = some (.bool b)) (hx : b = true → ev S x = some v) (hy : b = false → ev S y = some v) : OpV P o n m S v := fun w a _ hs => by
  unfold execOp
  simp only [ho, hs.ev hc, asBool, Sem.run_bind, Sem.run_pure, Result.andThen_ok]
  cases b with
  | true => rw [if_pos rfl, hs.ev (hx rfl)]
  | false => rw [if_neg (by simp), hs.ev (hy rfl)]
theorem ov_pick_t {c x y : Operand} {v : Value} (ho : o.op = .pick c x y) (hc : ev S c = some (.bool true)) (hx : ev S x = some v) : OpV P o n m S v := ov_pick (u := v) ho hc (fun _ => hx) (fun e => by cases e)
theorem ov_pick_f {c x y : Operand} {v : Value} (ho : o.op = .pick c x y) (hc : ev S c = some (.bool false)) (hy : ev S y = some v) : OpV P o n m S v := ov_pick (u := v) ho hc (fun e => by cases e) (fun _ => hy)
theorem ov_extract {x : Operand} {i : Nat} {vs : Array Value} {v : Value} (ho : o.op = .extract x i) (hx : ev S x = some (.tuple vs)) (hv : vs[i]? = some v) : OpV P o n m S v := fun w a _ hs => by
  unfold execOp
  simp [ho, hs.ev hx, Instr.extract, hv]
def intRes : BinOp → IntKind → Int → Int → Option Value
  | .add, k, a, b => some (.int k (k.wrap (a + b)))
  | .sub, k, a, b => some (.int k (k.wrap (a - b)))
  | .mul, k, a, b => some (.int k (k.wrap (a * b)))
  | .eql, _, a, b => some (.bool (a == b))
  | .neq, _, a, b => some (.bool (a != b))
  | .lss, _, a, b => some (.bool (decide (a < b)))
  | .leq, _, a, b => some (.bool (decide (a ≤ b)))
  | .gtr, _, a, b => some (.bool (decide (a > b)))
  | .geq, _, a, b => some (.bool (decide (a ≥ b)))
  | .and, k, a, b => some (.int k (bits .and k a b))
  | .or, k, a, b => some (.int k (bits .or k a b))
  | .xor, k, a, b => some (.int k (bits .xor k a b))
  | .andNot, k, a, b => some (.int k (bits .andNot k a b))
  | _, _, _, _ => none
theorem ov_int {op : BinOp} {xt yt : TypeId} {x y : Operand} {k : IntKind} {p q : Int} {v : Value} (ho : o.op = .binOp op xt x y yt) (hx : ev S x = some (.int k p)) (hy : ev S y = some (.int k q)) (hv : intRes op k p q = some v) : OpV P o n m S v := fun w a _ hs => by
  unfold execOp
  simp only [ho, hs.ev hx, hs.ev hy]
  cases op <;> simp only [intRes, Option.some.injEq, reduceCtorEq] at hv <;> subst hv <;>
    simp [eqGuard, binOp, Op.intArith, Op.intCmp, Op.intBits, bits]
theorem ov_not {xt : TypeId} {x : Operand} {b : Bool} (ho : o.op = .unOp .not xt x) (hx : ev S x = some (.bool b)) : OpV P o n m S (.bool (!b)) := fun w a _ hs => by
  unfold execOp
  simp only [ho, hs.ev hx]
  simp [Op.unary]
theorem size_str (l : List UInt8) : (⟨l.toArray⟩ : ByteArray).size = l.length := by show l.toArray.size = _; simp
def strRes : BinOp → List UInt8 → List UInt8 → Option Value
  | .eql, p, q => some (.bool (p == q))
  | .neq, p, q => some (.bool (!(p == q)))
  | .lss, p, q => some (.bool (Op.bytesLess p q))
  | .leq, p, q => some (.bool (Op.bytesLess p q || p == q))
  | .gtr, p, q => some (.bool (!(Op.bytesLess p q || p == q)))
  | .geq, p, q => some (.bool (!Op.bytesLess p q))
  | _, _, _ => none
theorem ov_strCmp {op : BinOp} {xt yt : TypeId} {x y : Operand} {p q : List UInt8} {v : Value} (ho : o.op = .binOp op xt x y yt) (hx : ev S x = some (str p)) (hy : ev S y = some (str q)) (hv : strRes op p q = some v) : OpV P o n m S v := fun w a _ hs => by
  unfold execOp
  simp only [ho, hs.ev hx, hs.ev hy]
  cases op <;> simp only [strRes, Option.some.injEq, reduceCtorEq] at hv <;> subst hv <;>
    simp [eqGuard, binOp, str, Op.stringOp]
theorem ov_strLen {t : TypeId} {x : Operand} {p : List UInt8} (ht : P.underlying t = some .string) (ho : o.op = .call { callee := .builtin .len, args := #[x], argTypes := #[t] }) (hx : ev S x = some (str p)) : OpV P o n m S (.int .i64 p.length) := fun w a _ hs => by
  unfold execOp
  simp [ho, resolve, invoke, builtin, hs.ev hx, Builtin.len_, run_underlying ht, str, goInt, size_str]
def cut (s : List UInt8) (l h : Int) : List UInt8 := (s.take h.toNat).drop l.toNat
theorem extract_str (p : List UInt8) (l h : Nat) : (⟨p.toArray⟩ : ByteArray).extract l h = ⟨((p.take h).drop l).toArray⟩ := by
  apply ByteArray.ext
  rw [ByteArray.data_extract]
  apply Array.toList_inj.1
  rw [Array.toList_extract]
  simp [List.extract_eq_take_drop, List.drop_take]
theorem ov_strTo {t : TypeId} {x j : Operand} {p : List UInt8} {kj : IntKind} {h : Int} (h1 : 0 ≤ h) (h2 : h ≤ p.length) (ht : P.underlying t = some .string) (ho : o.op = .slice t x none (some j) none) (hx : ev S x = some (str p)) (hj : ev S j = some (.int kj h)) : OpV P o n m S (str (p.take h.toNat)) := fun w a _ hs => by
  unfold execOp
  simp only [ho, hs.ev hx, Option.map_some, Option.map_none, hs.ev hj]
  simp [Instr.sliceAt, Instr.slice, Instr.sliceBounds, Instr.sliceBound, asIntOf, run_underlying ht, str, size_str, h1, h2, extract_str]
end
end Go.Proofs.Ytiioclkiapbjnaa.En
namespace Go.Proofs.Ytiioclkiapbjnaa.En
open Go.RowKit
set_option linter.unusedVariables false
set_option linter.unusedSimpArgs false
def ag (cs : List Value) : Value := .agg cs.toArray
def ptr (g o : Nat) : Value := .pointer (some ⟨g, o, none⟩)
def szOf (P : Program) (t : TypeId) : Option Nat := (P.info? t).map (·.size)
def zeroOf (P : Program) (t : TypeId) : Option Value := (P.info? t).bind (·.zero)
def isAggD : TypeDesc → Bool
  | .struct _ | .array _ _ => true
  | _ => false
section
variable {P : Program}
theorem run_sizeOf' {t : TypeId} {k : Nat} (h : szOf P t = some k) (w : World) : (sizeOf t).run P w = .ok k w := by
  unfold szOf at h
  cases hq : P.info? t with
  | none => simp [hq] at h
  | some i => have hs : i.size = k := by simpa [hq] using h
              simp [sizeOf, typeInfo, hq, hs]
theorem run_zeroValue' {t : TypeId} {z : Value} (h : zeroOf P t = some z) (w : World) : (zeroValue t).run P w = .ok z w := by
  unfold zeroOf at h
  cases hq : P.info? t with
  | none => simp [hq] at h
  | some i => have hs : i.zero = some z := by simpa [hq] using h
              simp [zeroValue, typeInfo, hq, hs]
theorem run_isAgg' {t : TypeId} {d : TypeDesc} (h : P.underlying t = some d) (w : World) : (isAgg t).run P w = .ok (isAggD d) w := by
  unfold isAgg
  rw [Sem.run_bind, run_underlying h w]
  cases d <;> rfl
def mk (d : TypeDesc) (cs : List Value) : Value := if isAggD d then ag cs else cs.headD undef
theorem run_loadVar' {t : TypeId} {d : TypeDesc} {k : Nat} (hu : P.underlying t = some d) (hs : szOf P t = some k) (w : World) (ad : Addr) (cs : List Value) (hl : cs.length = k) (h1 : isAggD d = false → k = 1)
    (hc : ∀ j u, cs[j]? = some u → w.cell? (ad.add j) = some u) : (loadVar t ad).run P w = .ok (mk d cs) w := by
  unfold loadVar mk
  rw [Sem.run_bind, run_isAgg' hu w, Result.andThen_ok]
  cases hd : isAggD d with
  | true =>
    have h2 := run_loadCells_list (P := P) w ad cs hc
    rw [hl] at h2
    simp [Sem.run_bind, run_sizeOf' hs w, h2, ag]
  | false =>
    have hk := h1 hd
    subst hk
    obtain ⟨u, rfl⟩ : ∃ u, cs = [u] := by
      match cs, hl with
      | [u], _ => exact ⟨u, rfl⟩
    have h0 := hc 0 u rfl
    rw [show ad.add 0 = ad from rfl] at h0
    simp [load, Sem.run, h0]
theorem run_storeVar' {t : TypeId} {k : Nat} (hs : szOf P t = some k) (w : World) (g off : Nat) (v : Value) (et : TypeId) (old vs : List Value) (hv : v.cells.toList = vs) (hl : vs.length = k) (hg : w.heap[g]? = some (.cells old.toArray et (0, 0)))
    (hfit : off + k ≤ old.length) (h1 : ∀ u ∈ vs, u.oneCell' = true) :
    (storeVar t ⟨g, off, none⟩ v).run P w = .ok () (w.setRow g (old.take off ++ vs ++ old.drop (off + k)).toArray) := by
  have h2 := run_storeCells_at (P := P) g off et vs 0 old.toArray w hg (by simp; omega) h1
  simp only [Nat.add_zero, List.size_toArray, hl] at h2
  have h3 : v.cells.size = k := by rw [← Array.length_toList, hv, hl]
  unfold storeVar
  simp [Sem.run_bind, run_sizeOf' hs w, h3, hv, h2]
theorem run_fieldPlace' {f : Field} {k : Nat} (h : szOf P f.type = some k) (hk : Nat.beq k 0 = false) (w : World) (ad : Addr) : (fieldPlace ad f).run P w = .ok (ad.add f.offset) w := by
  have hk' := Nat.ne_of_beq_eq_false hk
  unfold fieldPlace
  simp [Sem.run_bind, run_sizeOf' h w, hk']
end
section
variable {P : Program} {Q : Exit → Act → World → Prop} {n : Nat} {m : Mem} {S : Sl} {ops : Array Oper} {rest : List Oper} {o : Oper}
theorem step_val {v : Value} {w w' : World} {a : Act} {K : Act → World → Prop} (hr : (execOp a.eval o).run P w = .ok (.value v) w') (h : K (a.put o.dst v) w') : o.wp P a w K Q := by
  unfold Oper.wp; rw [hr, Oper.upon_value]; exact h
theorem step_skip {w w' : World} {a : Act} {K : Act → World → Prop} (hr : (execOp a.eval o).run P w = .ok .skip w') (h : K (a.put o.dst undef) w') : o.wp P a w K Q := by
  unfold Oper.wp; rw [hr, Oper.upon_skip]; exact h
theorem box_push {w : World} (hm : Holds m w) (t : TypeId) (cs : List Value) : Holds (m.push (oBox w.heap.size t cs)) (w.alloc (.cells cs.toArray t)) :=
  hm.push ((Below.refl _ _).alloc (Nat.le_refl _) _) (by simp [oBox]) (by simp [oBox]) (fun Z _ => heap_alloc_new w _)
theorem al_alloc {d : Nat} {t : TypeId} {z : Value} {zs : List Value} (hz : zeroOf P t = some z) (hzs : z.cells = zs.toArray) (ho : o.op = .alloc t)
    (h : ∀ g, AL P ops rest Q n (m.push (oBox g t zs)) (put S d (ptr g 0))) (hdd : o.dst = some d := by rfl) (hd : Nat.blt d n = true := by rfl) (hg : wantS ops S o true = true := by rfl) : AL P ops (o :: rest) Q n m S :=
  al_step hg fun w a hm hs K hK => by
    refine step_val (v := ptr w.heap.size 0) (w' := w.alloc (.cells zs.toArray t)) ?_ (hK _ _ (h _ _ _ (box_push hm t zs) (hs.put' hdd hd _)))
    unfold execOp
    simp only [ho]
    simp [Instr.alloc, Sem.run_bind, run_zeroValue' hz w, newVar, newRow, newObj, hzs, ptr]
    rfl
def CV (m : Mem) (v : Value) (vs : List Value) : Prop := ∀ {w : World}, Holds m w → v.cells = vs.toArray
def CO (m : Mem) (vs : List Value) : Prop := ∀ {w : World}, Holds m w → ∀ u ∈ vs, u.oneCell' = true
theorem cells_one {v : Value} (h : v.oneCell' = true) : v.cells = #[v] := by cases v <;> first | rfl | cases h
theorem list_one {α : Type} {τ : Ty α} {Z : Nat → Prop} {w : World} {v : Value} {xs : List α} (h : (tyList τ).rep Z w [v] xs) : v.oneCell' = true := (tyList τ).one h v (by simp)
theorem row_one {α : Type} {v : Value} {e : TypeId} {τ : Ty α} {xs : List α} {Z : Nat → Prop} {w : World} (h : (oRow v e τ xs).p Z w) : v.oneCell' = true := by
  obtain ⟨cs, h1, _⟩ := h
  rcases h1.2 with ⟨rfl, _⟩ | ⟨g, cap, cur, rfl, _⟩ <;> rfl
theorem cv_rfl {v : Value} {vs : List Value} (h : v.cells = vs.toArray) : CV m v vs := fun _ => h
theorem cv_fz {α : Type} {τ : Ty α} {v : Value} {xs : List α} (i : Nat) (hi : m.fz[i]? = some (fDat (tyList τ) [v] xs)) : CV m v [v] := fun hm => cells_one (list_one (hm.fz _ (List.mem_of_getElem? hi)))
theorem cv_own {α : Type} {τ : Ty α} {v : Value} {e : TypeId} {xs : List α} (i : Nat) (hi : m.own[i]? = some (oRow v e τ xs)) : CV m v [v] := fun hm => cells_one (row_one (hm.own _ (List.mem_of_getElem? hi)))
theorem co_nil : CO m [] := fun _ _ h => absurd h (by simp)
theorem co_cons {v : Value} {l : List Value} (h : ∀ {w : World}, Holds m w → v.oneCell' = true) (hl : CO m l) : CO m (v :: l) := fun hm u hu => by
  rcases List.mem_cons.1 hu with rfl | hu
  · exact h hm
  · exact hl hm u hu
theorem co_val {v : Value} {l : List Value} (h : v.oneCell' = true) (hl : CO m l) : CO m (v :: l) := co_cons (fun _ => h) hl
theorem co_fz {α : Type} {τ : Ty α} {v : Value} {xs : List α} {l : List Value} (i : Nat) (hi : m.fz[i]? = some (fDat (tyList τ) [v] xs)) (hl : CO m l) : CO m (v :: l) := co_cons (fun hm => list_one (hm.fz _ (List.mem_of_getElem? hi))) hl
theorem co_own {α : Type} {τ : Ty α} {v : Value} {e : TypeId} {xs : List α} {l : List Value} (i : Nat) (hi : m.own[i]? = some (oRow v e τ xs)) (hl : CO m l) : CO m (v :: l) := co_cons (fun hm => row_one (hm.own _ (List.mem_of_getElem? hi))) hl
def BS (m : Mem) (sz : Nat) (vs cs : List Value) : Prop := ∀ {w : World}, Holds m w → (∀ v ∈ vs, v.cells.size = sz) ∧ vs.flatMap (fun v => v.cells.toList) = cs
theorem bs_nil {sz : Nat} : BS m sz [] [] := fun _ => ⟨fun _ h => absurd h (by simp), rfl⟩
theorem bs_cons {sz : Nat} {v : Value} {l vs cs : List Value} (h : CV m v l) (hl : l.length = sz) (hr : BS m sz vs cs) : BS m sz (v :: vs) (l ++ cs) := fun hm => by
  obtain ⟨h1, h2⟩ := hr hm
  refine ⟨fun u hu => ?_, ?_⟩
  · rcases List.mem_cons.1 hu with rfl | hu
    · rw [h hm]; simpa using hl
    · exact h1 u hu
  · rw [List.flatMap_cons, h2, h hm]
theorem al_box {d : Nat} {t : TypeId} {x : Operand} {v : Value} {vs : List Value} (hx : ev S x = some v) (hv : CV m v vs) (ho : o.op = .box t x)
    (h : ∀ g, AL P ops rest Q n (m.push (oBox g t vs)) (put S d (ptr g 0))) (hdd : o.dst = some d := by rfl) (hd : Nat.blt d n = true := by rfl) (hg : wantS ops S o true = true := by rfl) : AL P ops (o :: rest) Q n m S :=
  al_step hg fun w a hm hs K hK => by
    refine step_val (v := ptr w.heap.size 0) (w' := w.alloc (.cells vs.toArray t)) ?_ (hK _ _ (h _ _ _ (box_push hm t vs) (hs.put' hdd hd _)))
    unfold execOp
    simp only [ho, hs.ev hx]
    simp [Instr.box, Sem.run_bind, newVar, newRow, newObj, hv hm, ptr]
    rfl
theorem box_at {w : World} (hm : Holds m w) {i g : Nat} {t : TypeId} {cs : List Value} (hi : m.own[i]? = some (oBox g t cs)) : w.heap[g]? = some (.cells cs.toArray t (0, 0)) := hm.own _ (List.mem_of_getElem? hi)
theorem box_cell {w : World} (hm : Holds m w) {i g : Nat} {t : TypeId} {cs : List Value} (hi : m.own[i]? = some (oBox g t cs)) (off j : Nat) : w.cell? ((⟨g, off, none⟩ : Addr).add j) = cs[off + j]? := by
  rw [add_plain, cell_of_row _ _ _ _ _ _ (box_at hm hi)]; simp
theorem ov_load {t : TypeId} {d : TypeDesc} {x : Operand} {i g off k : Nat} {et : TypeId} {cs : List Value} {v : Value} (hi : m.own[i]? = some (oBox g et cs)) (hx : ev S x = some (ptr g off)) (hu : P.underlying t = some d) (hsz : szOf P t = some k)
    (h1 : (isAggD d || Nat.beq k 1) = true) (hl : ((cs.drop off).take k).length = k) (hv : mk d ((cs.drop off).take k) = v) (ho : o.op = .load t x) : OpV P o n m S v := fun w a hm hs => by
  have hr := run_loadVar' hu hsz w ⟨g, off, none⟩ ((cs.drop off).take k) hl (fun hd => by rw [hd] at h1; exact Nat.eq_of_beq_eq_true (by simpa using h1)) (fun j u hj => by
    rw [box_cell hm hi]
    rw [List.getElem?_take] at hj
    split at hj
    · rw [List.getElem?_drop] at hj; exact hj
    · cases hj)
  unfold execOp
  simp only [ho, hs.ev hx]
  simp [Instr.loadAt, Instr.sureAddr, ptr, hr, hv]
theorem al_store {t : TypeId} {x y : Operand} {i g off k : Nat} {et : TypeId} {cs cs' vs : List Value} {v : Value} (hi : m.own[i]? = some (oBox g et cs)) (hx : ev S x = some (ptr g off)) (hy : ev S y = some v) (hsz : szOf P t = some k) (hv : CV m v vs) (hl : vs.length = k)
    (hone : CO m vs) (hfit : off + k ≤ cs.length) (hcs : cs.take off ++ vs ++ cs.drop (off + k) = cs') (ho : o.op = .store t x y)
    (h : AL P ops rest Q n (m.upd i (oBox g et cs')) S) (hdst : o.dst = none := by rfl) (hg : wantS ops S o true = true := by rfl) : AL P ops (o :: rest) Q n m S :=
  al_step hg fun w a hm hs K hK => by
    have hr := run_storeVar' hsz w g off v et cs vs (by rw [hv hm]) hl (box_at hm hi) hfit (hone hm)
    rw [hcs] at hr
    refine step_skip (w' := w.setRow g cs'.toArray) ?_ (hK _ _ (h _ _ (hm.upd hi ⟨rfl, rfl, rfl, by rw [size_setRow]; exact Nat.le_refl _, fun b _ hb => setRow_other w g b _ (by simpa [oBox] using hb)⟩ (by simp [oBox]) (fun b hb => .inl hb) (fun Z _ => setRow_heap w g cs.toArray cs'.toArray et (0, 0) (box_at hm hi))) (by rw [hdst]; exact hs)))
    unfold execOp
    simp only [ho, hs.ev hx, hs.ev hy]
    simp [Instr.storeAt, Instr.sureAddr, ptr, hr]
theorem ov_fieldAddr {t : TypeId} {x : Operand} {j g off k : Nat} {fs : Array Field} {f : Field} (hx : ev S x = some (ptr g off)) (hu : P.underlying t = some (.struct fs)) (hf : fs[j]? = some f) (hk : szOf P f.type = some k) (hk0 : Nat.beq k 0 = false) (ho : o.op = .fieldAddr t x j) : OpV P o n m S (ptr g (off + f.offset)) := fun w a hm hs => by
  unfold execOp
  simp only [ho, hs.ev hx]
  have h1 := run_fieldPlace' hk hk0 w ⟨g, off, none⟩
  rw [add_plain] at h1
  simp [Instr.fieldAt, Sem.run_bind, run_underlying hu, hf, Instr.sureAddr, ptr, h1]
theorem ov_build {t : TypeId} {parts : Array (Nat × Operand)} {cells : Array Value} {cs : List Value} (ho : o.op = .build t parts) (hb : ∀ w a, Holds m w → Sat n S a → P.built t ((parts.map fun (i, x) => (i, a.eval x)).toList) = some cs.toArray) : OpV P o n m S (ag cs) := fun w a hm hs => by
  unfold execOp
  simp only [ho]
  have := run_build (P := P) w t (parts.map fun (i, x) => (i, a.eval x)) cs.toArray (hb w a hm hs)
  simp [this, ag]
end
def Sub {α β : Type} (t : Ty α) (off : Nat) (u : Ty β) (p : α → β) : Prop := ∀ {Z w cs x}, t.rep Z w cs x → u.rep Z w ((cs.drop off).take u.size) (p x)
theorem Sub.whole {α : Type} (t : Ty α) : Sub t 0 t (fun x => x) := fun h => by
  rw [List.drop_zero, List.take_of_length_le (by rw [t.len h]; exact Nat.le_refl _)]; exact h
theorem Sub.fst {α β γ : Type} {a : Ty α} {b : Ty β} {u : Ty γ} {off : Nat} {p : α → γ} (h : Sub a off u p) : Sub (tyPair a b) off u (fun x => p x.1) := fun hr => by
  obtain ⟨c1, c2, rfl, h1, h2⟩ := hr
  have h3 := h h1
  have hl := u.len h3
  rw [List.length_take, List.length_drop] at hl
  by_cases hu : u.size = 0
  · rw [hu, List.take_zero] at h3 ⊢; exact h3
  · rw [List.drop_append_of_le_length (by omega), List.take_append_of_le_length (by rw [List.length_drop]; omega)]; exact h3
theorem Sub.via {α β γ : Type} {f : α → β} {b : Ty β} {u : Ty γ} {off : Nat} {p : β → γ} (h : Sub b off u p) : Sub (tyVia f b) off u (fun x => p (f x)) := fun hr => h hr
def at? {α : Type} (xs : List α) (i : Int) : Option α := if 0 ≤ i then xs[i.toNat]? else none
theorem at_some {α : Type} {xs : List α} {i : Int} {x : α} (h : at? xs i = some x) : 0 ≤ i ∧ i < xs.length ∧ xs[i.toNat]? = some x := by
  unfold at? at h
  split at h
  · rename_i h0
    have := (List.getElem?_eq_some_iff.1 h).1
    exact ⟨h0, by omega, h⟩
  · cases h
section
variable {P : Program} {Q : Exit → Act → World → Prop} {n : Nat} {m : Mem} {S : Sl} {ops : Array Oper} {rest : List Oper} {o : Oper} {α β : Type}
theorem fz_at {w : World} (hm : Holds m w) {i : Nat} {f : Fact} (hi : m.fz[i]? = some f) : f.p (m.frz w) w := hm.fz f (List.mem_of_getElem? hi)
theorem own_at {w : World} (hm : Holds m w) {i : Nat} {f : Own} (hi : m.own[i]? = some f) : f.p (m.frz w) w := hm.own f (List.mem_of_getElem? hi)
theorem ov_lenD {τ : Ty α} {v : Value} {xs : List α} (i : Nat) {t e : TypeId} {x : Operand} (hi : m.fz[i]? = some (fDat (tyList τ) [v] xs)) (hx : ev S x = some v) (ht : P.underlying t = some (.slice e)) (ho : o.op = .call { callee := .builtin .len, args := #[x], argTypes := #[t] }) : OpV P o n m S (.int .i64 xs.length) := fun w a hm hs => by
  obtain ⟨A, k, c, he, hk, _⟩ := fz_at hm hi
  have he' : v = .slice A k c := by simpa using he
  unfold execOp
  simp [ho, resolve, invoke, builtin, hs.ev hx, he', hk, Builtin.len_, run_underlying ht, goInt]
theorem ov_lenR {τ : Ty α} {v : Value} {xs : List α} (i : Nat) {t e et : TypeId} {x : Operand} (hi : m.own[i]? = some (oRow v et τ xs)) (hx : ev S x = some v) (ht : P.underlying t = some (.slice e)) (ho : o.op = .call { callee := .builtin .len, args := #[x], argTypes := #[t] }) : OpV P o n m S (.int .i64 xs.length) := fun w a hm hs => by
  obtain ⟨cs, h1, h2⟩ := own_at hm hi
  have he' : ∃ A c, v = .slice A xs.length c := by
    rcases h1.2 with ⟨rfl, hn⟩ | ⟨g, cap, cur, rfl, _⟩
    · exact ⟨none, 0, by rw [hn]⟩
    · exact ⟨_, _, rfl⟩
  obtain ⟨A, c, rfl⟩ := he'
  unfold execOp
  simp [ho, resolve, invoke, builtin, hs.ev hx, Builtin.len_, run_underlying ht, goInt]
theorem of_idxD {τ : Ty α} {v : Value} {xs : List α} (i : Nat) {t e : TypeId} {x y : Operand} {k : IntKind} {j : Int} {u : α} (hu : at? xs j = some u) (hi : m.fz[i]? = some (fDat (tyList τ) [v] xs)) (hx : ev S x = some v) (hy : ev S y = some (.int k j)) (ht : P.underlying t = some (.slice e)) (hsz : szOf P e = some τ.size) (ho : o.op = .indexAddr t x y) : OpF P o n m S (fun p => fPtr τ p u) := fun w a hm hs => by
    obtain ⟨A, l, c, he, hl, _, _, hr⟩ := fz_at hm hi
    have he' : v = .slice A l c := by simpa using he
    obtain ⟨h0, h1, h2⟩ := at_some hu
    rcases hr with hr | ⟨ad, cs, rfl, hca, hrep⟩
    · omega
    refine ⟨.pointer (some (ad.add (j.toNat * τ.size))), ?_, _, _, rfl, (hca.drop (j.toNat * τ.size)).take τ.size, hrep.at h2⟩
    unfold execOp
    simp only [ho, hs.ev hx, hs.ev hy]
    simp [Instr.indexAt, asIntOf, Sem.run_bind, run_underlying ht, he', h0, hl, h1, run_sizeOf' hsz]
theorem al_idxD {d : Nat} {τ : Ty α} {v : Value} {xs : List α} (i : Nat) {t e : TypeId} {x y : Operand} {k : IntKind} {j : Int} {u : α} (hu : at? xs j = some u) (hi : m.fz[i]? = some (fDat (tyList τ) [v] xs)) (hx : ev S x = some v) (hy : ev S y = some (.int k j)) (ht : P.underlying t = some (.slice e)) (hsz : szOf P e = some τ.size) (ho : o.op = .indexAddr t x y)
    (h : ∀ p, AL P ops rest Q n (m.add (fPtr τ p u)) (put S d p)) (hdd : o.dst = some d := by rfl) (hd : Nat.blt d n = true := by rfl) (hg : wantS ops S o true = true := by rfl) : AL P ops (o :: rest) Q n m S :=
  al_fact (R := fun p => fPtr τ p u) (of_idxD i hu hi hx hy ht hsz ho) h hdd hd hg
theorem ov_loadP {τ : Ty α} {v u : Value} {x : α} {ds : List Value} (i : Nat) {t : TypeId} {d : TypeDesc} {y : Operand} (hi : m.fz[i]? = some (fPtr τ v x)) (hds : ∀ {Z w cs}, τ.rep Z w cs x → cs = ds) (hx : ev S y = some v) (hu : P.underlying t = some d) (hsz : szOf P t = some τ.size) (h1 : (isAggD d || Nat.beq τ.size 1) = true) (hv : mk d ds = u) (ho : o.op = .load t y) : OpV P o n m S u := fun w a hm hs => by
  obtain ⟨ad, cs, rfl, hca, hrep⟩ := fz_at hm hi
  have hr := run_loadVar' hu hsz w ad cs (τ.len hrep) (fun hd => by rw [hd] at h1; exact Nat.eq_of_beq_eq_true (by simpa using h1)) hca.2
  rw [hds hrep, hv] at hr
  unfold execOp
  simp only [ho, hs.ev hx]
  simp [Instr.loadAt, Instr.sureAddr, hr]
theorem al_loadPA {ds : Nat} {τ : Ty α} {v : Value} {x : α} (i : Nat) {t : TypeId} {d : TypeDesc} {y : Operand} (hi : m.fz[i]? = some (fPtr τ v x)) (hx : ev S y = some v) (hu : P.underlying t = some d) (hsz : szOf P t = some τ.size) (h2 : isAggD d = true) (ho : o.op = .load t y)
    (h : ∀ cs, AL P ops rest Q n (m.add (fDat τ cs x)) (put S ds (ag cs))) (hdd : o.dst = some ds := by rfl) (hd : Nat.blt ds n = true := by rfl) (hg : wantS ops S o true = true := by rfl) : AL P ops (o :: rest) Q n m S :=
  al_step hg fun w a hm hs K hK => by
    obtain ⟨ad, cs, rfl, hca, hrep⟩ := fz_at hm hi
    have hr := run_loadVar' hu hsz w ad cs (τ.len hrep) (fun hd' => by rw [h2] at hd'; cases hd') hca.2
    refine step_val (v := ag cs) (w' := w) ?_ (hK _ _ (h cs w _ (hm.add hrep) (hs.put' hdd hd _)))
    unfold execOp
    simp only [ho, hs.ev hx]
    simp [Instr.loadAt, Instr.sureAddr, hr, mk, h2]
end
end Go.Proofs.Ytiioclkiapbjnaa.En
namespace Go.Proofs.Ytiioclkiapbjnaa.En
open Go.RowKit
set_option linter.unusedVariables false
set_option linter.unusedSimpArgs false
def tyOf (P : Program) (e : TypeId) : Option (Nat × Nat × Option Value) := (P.info? e).map fun i => (i.size, i.bytes, i.zero)
theorem tyOf_parts {P : Program} {e : TypeId} {sz by_ : Nat} {z : Value} (h : tyOf P e = some (sz, by_, some z)) : ∃ i, P.info? e = some i ∧ i.zero = some z ∧ i.size = sz ∧ i.bytes = by_ := by
  unfold tyOf at h
  cases hq : P.info? e with
  | none => rw [hq] at h; cases h
  | some i => rw [hq] at h; simp at h; exact ⟨i, rfl, h.2.2, h.1, h.2.1⟩
theorem own_len {w : World} {base : Nat} {e : TypeId} {sz n : Nat} {v : Value} {xs : List Value} (h : w.ownsRow base e sz v n xs) : ∃ A c, v = .slice A n c ∧ n ≤ c ∧ n ≤ maxLen := by
  rcases h.2 with ⟨rfl, rfl⟩ | ⟨g, cap, cur, rfl, _, _, h1, h2, _⟩
  · exact ⟨none, 0, rfl, Nat.le_refl _, Nat.zero_le _⟩
  · exact ⟨_, _, rfl, h1, Nat.le_trans h1 h2⟩
theorem ownBlock_nodup (v : Value) : v.ownBlock.toList.Nodup := by cases v.ownBlock <;> simp
def EltOf (v p : Value) (k : Nat) : Prop := ∃ g l c, v = .slice (some ⟨g, 0, none⟩) l c ∧ p = .pointer (some ⟨g, k, none⟩)
section
variable {P : Program} {Q : Exit → Act → World → Prop} {n : Nat} {m : Mem} {S : Sl} {ops : Array Oper} {rest : List Oper} {o : Oper} {α β : Type}
theorem row_dat {Z Z' : Nat → Prop} {w : World} {v : Value} {e : TypeId} {τ : Ty α} {xs : List α} (h : (oRow v e τ xs).p Z w) (hz : ∀ b, Z b → Z' b) (hb : ∀ b ∈ (oRow v e τ xs).blk, Z' b) : (fDat (tyList τ) [v] xs).p Z' w := by
  obtain ⟨cs, h1, h2⟩ := h
  obtain ⟨A, c, rfl, hc, hm⟩ := own_len h1
  refine ⟨A, _, c, rfl, rfl, hc, hm, ?_⟩
  rcases h1.2 with ⟨he, hn⟩ | ⟨g, cap, cur, he, _⟩
  · exact .inl hn
  · right
    cases he
    exact ⟨_, cs, rfl, ⟨hb g (by simp [oRow, Value.ownBlock]), h1.cells rfl⟩, h2.mono hz⟩
theorem nil_own (e : TypeId) (τ : Ty α) (Z : Nat → Prop) (w : World) : (oRow (.slice none 0 0) e τ ([] : List α)).p Z w := ⟨[], World.ownsRow_nil w 0 e τ.size, rfl⟩
theorem nil_dat (τ : Ty α) (Z : Nat → Prop) (w : World) : (fDat (tyList τ) [.slice none 0 0] ([] : List α)).p Z w := ⟨none, 0, 0, rfl, rfl, Nat.le_refl _, Nat.zero_le _, .inl rfl⟩
theorem aw_nilR {c : Code} (e : TypeId) (τ : Ty α) (h : AW P c Q n (m.push (oRow (.slice none 0 0) e τ ([] : List α))) S) : AW P c Q n m S := fun w a hm hs =>
  h w a (hm.push (w' := w) (Below.refl _ _) (by simp [oRow, Value.ownBlock]) (by simp [oRow, Value.ownBlock]) (fun Z _ => nil_own e τ Z w)) hs
theorem Holds.freeze {w : World} (hm : Holds m w) {i : Nat} {v : Value} {e : TypeId} {τ : Ty α} {xs : List α} (hi : m.own[i]? = some (oRow v e τ xs)) (hX : m.X = []) :
    Holds (Mem.add { m with own := m.own.take i ++ m.own.drop (i + 1) } (fDat (tyList τ) [v] xs)) w := by
  have hsub : ∀ x ∈ m.own.take i ++ m.own.drop (i + 1), x ∈ m.own := fun x hx => by
    rcases List.mem_append.1 hx with hx | hx
    · exact List.mem_of_mem_take hx
    · exact List.mem_of_mem_drop hx
  have hmo : oRow v e τ xs ∈ m.own := List.mem_of_getElem? hi
  have hnd0 : ((oRow v e τ xs :: (m.own.take i ++ m.own.drop (i + 1))).flatMap Own.blk).Nodup := (perm_get hi).nodup_iff.1 hm.nd
  rw [List.flatMap_cons, List.nodup_append] at hnd0
  have h1 := hm.reown (m.own.take i ++ m.own.drop (i + 1)) hsub hnd0.2.1
  refine h1.add (row_dat (own_at hm hi) (fun b hb => ⟨hb.1, fun hx => hb.2.1 ?_, hb.2.2⟩) (fun b hb => ⟨?_, fun hx => ?_, fun hlt => ?_⟩))
  · obtain ⟨x, hx1, hx2⟩ := List.mem_flatMap.1 hx
    exact List.mem_flatMap.2 ⟨x, hsub x hx1, hx2⟩
  · exact (oRow v e τ xs).lt (own_at hm hi) b hb
  · exact hnd0.2.2 b hb b hx rfl
  · rcases hm.lo b (List.mem_flatMap.2 ⟨_, hmo, hb⟩) with h | h
    · have hlt' : b < m.B := hlt; omega
    · rw [hX] at h; simp at h
theorem repl_rep {τ : Ty α} {z : Value} {x : α} (hz : ∀ Z w, τ.rep Z w z.cells.toList x) (Z : Nat → Prop) (w : World) : ∀ k : Nat, RepL τ Z w (madeCells z.cells (k * τ.size)).toList (List.replicate k x)
  | 0 => by simp [madeCells, RepL]
  | k + 1 => by
    have hl : z.cells.toList.length = τ.size := τ.len (hz Z w)
    refine ⟨z.cells.toList, (madeCells z.cells (k * τ.size)).toList, ?_, hz Z w, repl_rep hz Z w k⟩
    have hsz : z.cells.size = τ.size := by rw [← Array.length_toList]; exact hl
    apply List.ext_getElem?
    intro j
    rw [List.getElem?_append, hl]
    unfold madeCells
    by_cases hj : j < τ.size
    · rw [if_pos hj]
      have hj2 : j < (k + 1) * τ.size := by rw [Nat.succ_mul]; omega
      simp [hj2, hsz, Nat.mod_eq_of_lt hj, Array.getElem?_eq_getElem, hj]
    · rw [if_neg hj]
      by_cases hj2 : j < (k + 1) * τ.size
      · have hj3 : j - τ.size < k * τ.size := by rw [Nat.succ_mul] at hj2; omega
        have hmod : (j - τ.size) % τ.size = j % τ.size := by
          conv => rhs; rw [show j = (j - τ.size) + τ.size from by omega, Nat.add_mod_right]
        simp [hj2, hj3, hsz, hmod]
      · have hj3 : ¬ j - τ.size < k * τ.size := by rw [Nat.succ_mul] at hj2; omega
        simp [hj2, hj3]
theorem al_buildSlice {d : Nat} {τ : Ty α} {t e : TypeId} {k sz : Nat} {by_ : Nat} {z : Value} {parts : Array (Nat × Operand)} {cs : List Value} {xs : List α} (hxs : xs.length = k) (hk : k ≤ 4096) (hb : ∀ w a, Holds m w → Sat n S a → ∃ cells : Array Value, cells.toList = cs ∧ (Instr.buildSlice t k (parts.map fun (i, x) => (i, a.eval x))).run P w = .ok (.slice (some ⟨w.heap.size, 0, none⟩) k k) (w.alloc (.cells cells e)))
    (hrep : ∀ {w : World}, Holds m w → RepL τ (m.frz w) w cs xs) (ho : o.op = .buildSlice t k parts)
    (h : ∀ v, AL P ops rest Q n (m.push (oRow v e τ xs)) (put S d v)) (hdd : o.dst = some d := by rfl) (hd : Nat.blt d n = true := by rfl) (hg : wantS ops S o true = true := by rfl) : AL P ops (o :: rest) Q n m S :=
  al_step hg fun w a hm hs K hK => by
    obtain ⟨cells, hc, hr⟩ := hb w a hm hs
    have hrp := hrep hm
    have hlen := hrp.len
    refine step_val (w' := w.alloc (.cells cells e)) (v := .slice (some ⟨w.heap.size, 0, none⟩) k k) (by unfold execOp; simp only [ho]; simp [hr]) ?_
    have hbel : Below w.heap.size w (w.alloc (.cells cells e)) := (Below.refl _ _).alloc (Nat.le_refl _) _
    refine hK _ _ (h _ _ _ (hm.push hbel (ownBlock_nodup _) (by simp [oRow, Value.ownBlock]) (fun Z hZ => ?_)) (hs.put' hdd hd _))
    have hcl : cells.size = k * τ.size := by rw [← Array.length_toList, hc, hlen, hxs]
    refine ⟨cs, ⟨by rw [hlen], .inr ⟨w.heap.size, k, cells, by rw [hxs], Nat.zero_le _, heap_alloc_new w _, by omega, by unfold maxLen; omega, hcl, by rw [hc, List.take_of_length_le (by rw [hlen]; exact Nat.le_refl _)]⟩⟩, ?_⟩
    exact (hrp.keep (fun b hb' => hbel.block b hb'.1)).mono hZ
def Src (m : Mem) (i : Nat) (u : Value) (τ : Ty α) (ys : List α) : Prop := ∀ {w : World}, Holds m w → ∃ A l c cs, u = .slice A l c ∧ l = ys.length ∧ RepL τ (m.frz w) w cs ys ∧ (l = 0 ∨ ∃ ad, A = some ad ∧ ∀ j x, cs[j]? = some x → w.cell? (ad.add j) = some x)
theorem src_own {i : Nat} (j : Nat) {u : Value} {e : TypeId} {τ : Ty α} {ys : List α} (hj : m.own[j]? = some (oRow u e τ ys)) : Src m i u τ ys := fun hm => by
  obtain ⟨cs, h1, h2⟩ := own_at hm hj
  obtain ⟨A, c, rfl, _, _⟩ := own_len h1
  refine ⟨A, _, c, cs, rfl, rfl, h2, ?_⟩
  rcases h1.2 with ⟨he, hn⟩ | ⟨g, cap, cur, he, _⟩
  · exact .inl hn
  · cases he; exact .inr ⟨_, rfl, h1.cells rfl⟩
theorem src_dat {i : Nat} (j : Nat) {u : Value} {τ : Ty α} {ys : List α} (hj : m.fz[j]? = some (fDat (tyList τ) [u] ys)) : Src m i u τ ys := fun hm => by
  obtain ⟨A, l, c, he, hl, _, _, hr⟩ := fz_at hm hj
  have he' : u = .slice A l c := by simpa using he
  rcases hr with hr | ⟨ad, cs, rfl, hca, hrl⟩
  · have hy : ys = [] := List.eq_nil_of_length_eq_zero (by omega)
    subst hy
    exact ⟨A, l, c, [], he', hl, rfl, .inl hr⟩
  · exact ⟨_, l, c, cs, he', hl, hrl, .inr ⟨ad, rfl, hca.2⟩⟩
theorem al_append {d : Nat} {τ : Ty α} {v u : Value} {xs ys : List α} (i : Nat) {t e : TypeId} {x y : Operand} {by_ : Nat} {z : Value} (hb : ((xs.length + ys.length) * by_ : Nat) ≤ 140737488355328) (hm : xs.length + ys.length ≤ 9223372036854775807)
    (hi : m.own[i]? = some (oRow v e τ xs)) (hsrc : Src m i u τ ys) (hx : ev S x = some v) (hy : ev S y = some u)
    (ht : P.underlying t = some (.slice e)) (hin : tyOf P e = some (τ.size, by_, some z)) (hzs : z.cells.size = τ.size) (hsz : Nat.blt 0 τ.size = true) (ho : o.op = .call { callee := .builtin .append, args := #[x, y], argTypes := #[t, t] })
    (h : ∀ v', AL P ops rest Q n (m.upd i (oRow v' e τ (xs ++ ys))) (put S d v')) (hdd : o.dst = some d := by rfl) (hd : Nat.blt d n = true := by rfl) (hg : wantS ops S o true = true := by rfl) : AL P ops (o :: rest) Q n m S :=
  al_step hg fun w a hmm hs K hK => by
    obtain ⟨inf, hi1, hi2, hi3, hi4⟩ := tyOf_parts hin
    have hsz' : 0 < τ.size := by simpa [Nat.blt_eq] using hsz
    obtain ⟨cs, h1, h2⟩ := own_at hmm hi
    obtain ⟨A, l, c, ds, rfl, hl, hrl, hsr⟩ := hsrc hmm
    have hdl := hrl.len
    rcases hsr with hsr | ⟨ad, rfl, hcells⟩
    · -- nothing is appended
      have hy0 : ys = [] := List.eq_nil_of_length_eq_zero (by omega)
      subst hy0
      have hr : (Builtin.append_ #[t, t] o.type #[v, .slice A l c]).run P w = .ok v w := by
        obtain ⟨A', c', rfl, hc', _⟩ := own_len h1
        subst hsr
        have hfc : (Builtin.firstCells τ.size 0 (.slice A 0 c)).run P w = .ok #[] w := by
          cases A with
          | none => simp [Builtin.firstCells]
          | some ad => simp [Builtin.firstCells, loadCells, loadCellsFrom]
        have hT : ((underlying t).run P w) = .ok (.slice e) w := run_underlying ht w
        cases A' with
        | none => simp [Builtin.append_, hT, run_underlying ht, Sem.run_bind, run_sizeOf' (show szOf P e = some τ.size by unfold szOf; rw [hi1]; simp [hi3]), Builtin.lenOf, hc', hfc]
        | some ad => simp [Builtin.append_, hT, run_underlying ht, Sem.run_bind, run_sizeOf' (show szOf P e = some τ.size by unfold szOf; rw [hi1]; simp [hi3]), Builtin.lenOf, hc', hfc, storeCells]
      refine step_val (w' := w) (v := v) (by unfold execOp; simp only [ho, resolve, invoke, builtin, Sem.run_bind, Sem.run_pure, Result.andThen_ok, List.map_toArray, List.map_cons, List.map_nil, hs.ev hx, hs.ev hy, hr]) ?_
      refine hK _ _ (h v _ _ ?_ (hs.put' hdd hd _))
      rw [List.append_nil]
      have hset : m.upd i (oRow v e τ xs) = m := by
        unfold Mem.upd
        have : m.own.set i (oRow v e τ xs) = m.own := by
          apply List.ext_getElem?; intro j
          rw [List.getElem?_set]
          split
          · rename_i e'; subst e'; rw [hi, if_pos (List.getElem?_eq_some_iff.1 hi).1]
          · rfl
        rw [this]
      rw [hset]; exact hmm
    · obtain ⟨v', w', hr, h3, h4, _, h5⟩ := run_append_own_at (P := P) w 0 t o.type e inf z τ.size by_ ht hi1 hi2 hi3 hi4 hzs hsz' v xs.length cs h1 ad l c ds (by rw [hdl, hl]) hcells hrl.one (by unfold maxLen; omega) (by rw [hl]; exact hb) (Nat.zero_le _)
      refine step_val (w' := w') (v := v') (by unfold execOp; simp only [ho, resolve, invoke, builtin, Sem.run_bind, Sem.run_pure, Result.andThen_ok, List.map_toArray, List.map_cons, List.map_nil, hs.ev hx, hs.ev hy, hr]) ?_
      refine hK _ _ (h v' _ _ (hmm.upd hi ⟨h4.os, h4.tape, h4.output, h4.size, fun b hb1 hb2 => h4.block b hb1 (fun e => hb2 (by simp [oRow, ← e]))⟩ (ownBlock_nodup _) (fun b hb' => ?_) (fun Z hZ => ?_)) (hs.put' hdd hd _))
      · have hb' : v'.ownBlock = some b := by simpa [oRow] using hb'
        rcases h5 with h5 | h5
        · exact .inl (by simp [oRow, ← h5, hb'])
        · rw [hb'] at h5; exact .inr (by have := Option.some.inj h5; omega)
      · have hag : Agr (m.frz w) w w' := fun b hb' => h4.block b hb'.1 (fun e => hb'.2.1 (List.mem_flatMap.2 ⟨_, List.mem_of_getElem? hi, by simp [oRow, ← e]⟩))
        refine ⟨cs ++ ds, by rw [List.length_append, ← hl]; exact h3, ?_⟩
        exact ((h2.keep hag).mono hZ).append ((hrl.keep hag).mono hZ)
theorem al_idxR {d : Nat} {τ : Ty α} {v : Value} {xs : List α} (i : Nat) {t e et : TypeId} {x y : Operand} {k : IntKind} {j : Int} (h0 : 0 ≤ j) (h1 : j < xs.length) (hi : m.own[i]? = some (oRow v et τ xs)) (hx : ev S x = some v) (hy : ev S y = some (.int k j)) (ht : P.underlying t = some (.slice e)) (hsz : szOf P e = some τ.size) (ho : o.op = .indexAddr t x y)
    (h : ∀ p, EltOf v p (j.toNat * τ.size) → AL P ops rest Q n m (put S d p)) (hdd : o.dst = some d := by rfl) (hd : Nat.blt d n = true := by rfl) (hg : wantS ops S o true = true := by rfl) : AL P ops (o :: rest) Q n m S :=
  al_step hg fun w a hm hs K hK => by
    obtain ⟨cs, hr1, hr2⟩ := own_at hm hi
    rcases hr1.2 with ⟨rfl, hn⟩ | ⟨g, cap, cur, rfl, r⟩
    · omega
    refine step_val (w' := w) (v := .pointer (some ⟨g, j.toNat * τ.size, none⟩)) ?_ (hK _ _ (h _ ⟨g, _, _, rfl, rfl⟩ w _ hm (hs.put' hdd hd _)))
    unfold execOp
    simp only [ho, hs.ev hx, hs.ev hy]
    simp [Instr.indexAt, asIntOf, Sem.run_bind, run_underlying ht, h0, h1, run_sizeOf' hsz, add_plain]
theorem row_cells {w : World} {v p : Value} {e : TypeId} {τ : Ty α} {xs : List α} {Z : Nat → Prop} {k : Nat} {x : α} (h : (oRow v e τ xs).p Z w) (hp : EltOf v p (k * τ.size)) (hx : xs[k]? = some x) :
    ∃ g l c cs cur, v = .slice (some ⟨g, 0, none⟩) l c ∧ p = .pointer (some ⟨g, k * τ.size, none⟩) ∧ w.heap[g]? = some (.cells cur e (0, 0)) ∧ RepL τ Z w cs xs ∧ cur.toList.take (xs.length * τ.size) = cs ∧ cur.size = c * τ.size ∧ l = xs.length ∧ l ≤ c ∧ c ≤ maxLen ∧
      τ.rep Z w ((cs.drop (k * τ.size)).take τ.size) x ∧ ∀ j u, ((cs.drop (k * τ.size)).take τ.size)[j]? = some u → w.cell? ((⟨g, k * τ.size, none⟩ : Addr).add j) = some u := by
  obtain ⟨cs, h1, h2⟩ := h
  obtain ⟨g, l, c, rfl, rfl⟩ := hp
  rcases h1.2 with ⟨he, hn⟩ | ⟨g', cap, cur, he, _, hg, hc, hcm, hsz, htk⟩
  · cases he
  · cases he
    refine ⟨g, _, c, cs, cur, rfl, rfl, hg, h2, htk, hsz, rfl, hc, hcm, h2.at hx, fun j u hu => ?_⟩
    rw [List.getElem?_take] at hu
    split at hu
    · rw [List.getElem?_drop] at hu
      have := h1.cells (g := g) rfl _ u hu
      rw [add_plain] at this ⊢
      rw [Nat.zero_add] at this
      exact this
    · cases hu
theorem ov_loadR {τ : Ty α} {v p u : Value} {xs : List α} {k : Nat} {x : α} {ds : List Value} (i : Nat) {t et : TypeId} {d : TypeDesc} {y : Operand} (hi : m.own[i]? = some (oRow v et τ xs)) (hp : EltOf v p (k * τ.size)) (hxk : xs[k]? = some x) (hds : ∀ {Z w cs}, τ.rep Z w cs x → cs = ds) (hx : ev S y = some p) (hu : P.underlying t = some d) (hsz : szOf P t = some τ.size) (h1 : (isAggD d || Nat.beq τ.size 1) = true) (hv : mk d ds = u) (ho : o.op = .load t y) : OpV P o n m S u := fun w a hm hs => by
  obtain ⟨g, l, c, cs, cur, rfl, rfl, _, _, _, _, _, _, _, hrep, hcells⟩ := row_cells (own_at hm hi) hp hxk
  have hr := run_loadVar' hu hsz w _ _ (τ.len hrep) (fun hd => by rw [hd] at h1; exact Nat.eq_of_beq_eq_true (by simpa using h1)) hcells
  rw [hds hrep, hv] at hr
  unfold execOp
  simp only [ho, hs.ev hx]
  simp [Instr.loadAt, Instr.sureAddr, hr]
theorem al_loadRA {ds : Nat} {τ : Ty α} {v p : Value} {xs : List α} {k : Nat} {x : α} (i : Nat) {t et : TypeId} {d : TypeDesc} {y : Operand} (hi : m.own[i]? = some (oRow v et τ xs)) (hp : EltOf v p (k * τ.size)) (hxk : xs[k]? = some x) (hx : ev S y = some p) (hu : P.underlying t = some d) (hsz : szOf P t = some τ.size) (h2 : isAggD d = true) (ho : o.op = .load t y)
    (h : ∀ cs, AL P ops rest Q n (m.add (fDat τ cs x)) (put S ds (ag cs))) (hdd : o.dst = some ds := by rfl) (hd : Nat.blt ds n = true := by rfl) (hg : wantS ops S o true = true := by rfl) : AL P ops (o :: rest) Q n m S :=
  al_step hg fun w a hm hs K hK => by
    obtain ⟨g, l, c, cs, cur, rfl, rfl, _, _, _, _, _, _, _, hrep, hcells⟩ := row_cells (own_at hm hi) hp hxk
    have hr := run_loadVar' hu hsz w _ _ (τ.len hrep) (fun hd' => by rw [h2] at hd'; cases hd') hcells
    refine step_val (v := ag ((cs.drop (k * τ.size)).take τ.size)) (w' := w) ?_ (hK _ _ (h _ w _ (hm.add hrep) (hs.put' hdd hd _)))
    unfold execOp
    simp only [ho, hs.ev hx]
    simp [Instr.loadAt, Instr.sureAddr, hr, mk, h2]
end
end Go.Proofs.Ytiioclkiapbjnaa.En
namespace Go.Proofs.Ytiioclkiapbjnaa.En
def req {β : Type} (c : Prop) [Decidable c] (k : Option β) : Option β := if c then k else none
def opt {α β : Type} (o : Option α) (k : α → Option β) : Option β := match o with | some x => k x | none => none
def lt {α : Type _} {β : Type} (a : α) (k : α → Option β) : Option β := k a
theorem req_some {β : Type} {c : Prop} [Decidable c] {k : Option β} {r : β} (h : req c k = some r) : c ∧ k = some r := by
  unfold req at h; split at h
  · rename_i hc; exact ⟨hc, h⟩
  · cases h
theorem opt_some {α β : Type} {o : Option α} {k : α → Option β} {r : β} (h : opt o k = some r) : ∃ x, o = some x ∧ k x = some r := by
  cases o with
  | none => cases h
  | some x => exact ⟨x, rfl, h⟩
theorem lt_some {α : Type _} {β : Type} {a : α} {k : α → Option β} {r : β} (h : lt a k = some r) : ∃ x, x = a ∧ k x = some r := ⟨a, rfl, h⟩
@[simp] theorem req_pos {β : Type} {c : Prop} [Decidable c] {k : Option β} (hc : c) : req c k = k := by unfold req; rw [if_pos hc]
@[simp] theorem opt_of {α β : Type} (x : α) (k : α → Option β) : opt (some x) k = k x := rfl
@[simp] theorem lt_of {α : Type _} {β : Type} (x : α) (k : α → Option β) : lt x k = k x := rfl
end Go.Proofs.Ytiioclkiapbjnaa.En
namespace Go.Proofs.Ytiioclkiapbjnaa.En
open Go.RowKit
set_option linter.unusedVariables false
set_option linter.unusedSimpArgs false
structure Res where
  val : Value
  own : List Own := []
  fz : List Fact := []
def FnOk (P : Program) (f : FuncId) (args : List Value) (pre : List Fact) (oin : List Own) {ι : Type} (res : ι → Res) : Prop :=
  ∀ (w : World) (Z : Nat → Prop), (∀ b, Z b → b < w.heap.size) → (oin.flatMap Own.blk).Nodup → (∀ b ∈ oin.flatMap Own.blk, b < w.heap.size ∧ ¬ Z b) → (∀ g ∈ pre, g.p Z w) → (∀ o ∈ oin, o.p Z w) →
    Calls P f args.toArray w fun e w' => ∃ i, e = .returned (res i).val ∧ Bel w.heap.size (oin.flatMap Own.blk) w w' ∧ ((res i).own.flatMap Own.blk).Nodup ∧ (∀ b ∈ (res i).own.flatMap Own.blk, b ∈ oin.flatMap Own.blk ∨ w.heap.size ≤ b) ∧
      ∀ Z' : Nat → Prop, (∀ b, b < w'.heap.size → b ∉ (res i).own.flatMap Own.blk → (b < w.heap.size → Z b) → Z' b) → (∀ o ∈ (res i).own, o.p Z' w') ∧ ∀ g ∈ (res i).fz, g.p Z' w'
section
variable {P : Program} {Q : Exit → Act → World → Prop} {n : Nat} {m : Mem} {S : Sl} {ops : Array Oper} {rest : List Oper} {o : Oper} {α β ι : Type}
def argTab : Nat → List Value → List (Nat × Value)
  | _, [] => []
  | k, v :: l => (k, v) :: argTab (k + 1) l
def memIn (w : World) (Z : Nat → Prop) (pre : List Fact) (oin : List Own) : Mem := { B := w.heap.size, w0 := w, Z0 := Z, X := oin.flatMap Own.blk, own := oin, fz := pre }
def FnPost (P : Program) (fn : Func) (w : World) (Z : Nat → Prop) (oin : List Own) (res : ι → Res) : Exit → Act → World → Prop :=
  bodyPost P fn fun e w' => ∃ i, e = .returned (res i).val ∧ Bel w.heap.size (oin.flatMap Own.blk) w w' ∧ ((res i).own.flatMap Own.blk).Nodup ∧ (∀ b ∈ (res i).own.flatMap Own.blk, b ∈ oin.flatMap Own.blk ∨ w.heap.size ≤ b) ∧
      ∀ Z' : Nat → Prop, (∀ b, b < w'.heap.size → b ∉ (res i).own.flatMap Own.blk → (b < w.heap.size → Z b) → Z' b) → (∀ o ∈ (res i).own, o.p Z' w') ∧ ∀ g ∈ (res i).fz, g.p Z' w'
theorem fn_enter {f : FuncId} {fn : Func} {c : Code} {args : List Value} {pre : List Fact} {oin : List Own} {res : ι → Res} (hf : P.funcs[f]? = some fn) (hb : fn.body = some c) (hn : fn.ntmps = n) (hargs : Nat.ble args.length n = true)
    (h : ∀ w Z, AW P c (FnPost P fn w Z oin res) n (memIn w Z pre oin) (tab (argTab 0 args))) : FnOk P f args pre oin res := fun w Z hZ hnd hX hpre hoin => by
  refine calls_of_wp hf hb (h w Z w _ ?_ ?_)
  · have hz : ∀ b, Z b → (memIn w Z pre oin).frz w b := fun b hb => ⟨hZ b hb, fun hx => (hX b hx).2 hb, fun _ => hb⟩
    exact ⟨Bel.refl _ _ _, rfl, hnd, fun b hb => .inr hb, hX, fun o ho => o.mono hz (hoin o ho), fun g hg => g.mono hz (hpre g hg)⟩
  · have hle : args.length ≤ n := by simpa [Nat.ble_eq] using hargs
    refine ⟨rfl, by simp [hn]; omega, ?_⟩
    have key : ∀ (l : List Value) (k : Nat) (t : Nat) (v : Value), tab (argTab k l) t = some v → k ≤ t ∧ l[t - k]? = some v := by
      intro l
      induction l with
      | nil => intro k t v hv; cases hv
      | cons u l ih =>
        intro k t v hv
        rcases put_some hv with ⟨rfl, rfl⟩ | ⟨hne, hv⟩
        · exact ⟨Nat.le_refl _, by simp⟩
        · obtain ⟨h1, h2⟩ := ih (k + 1) t v hv
          refine ⟨by omega, ?_⟩
          rw [show t - k = (t - (k + 1)) + 1 by omega, List.getElem?_cons_succ]
          exact h2
    intro t v hv
    obtain ⟨_, h2⟩ := key args 0 t v hv
    rw [Nat.sub_zero] at h2
    have hlt := (List.getElem?_eq_some_iff.1 h2).1
    simp only [Array.getD_eq_getD_getElem?]
    rw [Array.getElem?_append_left (by simpa using hlt)]
    simp [h2]
theorem fn_ret {fn : Func} {w0 : World} {Z0 : Nat → Prop} {oin : List Own} {res : ι → Res} {v : Value} (i : ι) (io iz : List Nat) (hB : m.B = w0.heap.size) (hw : m.w0 = w0) (hZ : m.Z0 = Z0) (hX : m.X = oin.flatMap Own.blk)
    (hres : ∀ w a, Holds m w → Sat n S a → (results fn a.tmps).run P w = .ok v w) (hv : (res i).val = v) (ho : (res i).own = picks m.own io) (hf : (res i).fz = picks m.fz iz) (hio : io.Nodup) :
    AQ (FnPost P fn w0 Z0 oin res) .ret n m S := fun w a hm hs => by
  have hp := hm.pick io iz hio
  refine ⟨hs.def_, v, hres w a hm hs, i, by rw [hv], ?_, ?_, ?_, ?_⟩
  · have := hm.bel; rw [hB, hX, hw] at this; exact this
  · rw [ho]; exact hp.nd
  · rw [ho]; intro b hb
    rcases hp.lo b hb with h | h
    · right; rw [← hB]; exact h
    · left; rw [← hX]; exact h
  · intro Z' hZ'
    have hz : ∀ b, Mem.frz { m with own := picks m.own io, fz := picks m.fz iz } w b → Z' b := fun b hb => hZ' b hb.1 (by rw [ho]; exact hb.2.1) (fun hlt => by rw [← hZ]; exact hb.2.2 (by show b < m.B; rw [hB]; exact hlt))
    rw [ho, hf]
    exact ⟨fun o ho => o.mono hz (hp.own o ho), fun g hg => g.mono hz (hp.fz g hg)⟩
theorem fn_end {fn : Func} {w0 : World} {Z0 : Nat → Prop} {oin : List Own} {res : ι → Res} (h : AQ (FnPost P fn w0 Z0 oin res) .ret n m S) : AQ (FnPost P fn w0 Z0 oin res) .normal n m S := h
theorem res1 {fn : Func} {t : Nat} {v : Value} (hr : fn.results = #[.tmp t]) (hv : S t = some v) : ∀ w a, Holds m w → Sat n S a → (results fn a.tmps).run P w = .ok v w := fun w a _ hs => by
  rw [results_tmp hr, hs.val t v hv]
theorem res2 {fn : Func} {t u : Nat} {v x : Value} (hr : fn.results = #[.tmp t, .tmp u]) (hv : S t = some v) (hx : S u = some x) : ∀ w a, Holds m w → Sat n S a → (results fn a.tmps).run P w = .ok (.tuple #[v, x]) w := fun w a _ hs => by
  rw [results_tmp2 hr, hs.val t v hv, hs.val u x hx]
theorem aw_seq_join {x y : Code} {ι : Type _} (M : ι → Mem) (T : ι → Sl) (φ : ι → Prop) (hy : ∀ i, φ i → AW P y Q n (M i) (T i))
    (hx : AW P x (Exit.then (fun a w => ∃ i, φ i ∧ Holds (M i) w ∧ Sat n (T i) a) Q) n m S) : AW P (.seq x y) Q n m S := fun w a hm hs =>
  wp_seq (Code.wp_mono (fun e a w q => by
    cases e with
    | normal => obtain ⟨i, hp, h1, h2⟩ := q; exact hy i hp w a h1 h2
    | exit i => exact q
    | goto i => exact q
    | ret => exact q
    | panic ch => exact q
    | outgrown => exact q) (hx w a hm hs))
theorem aq_join {ι : Type _} {M : ι → Mem} {T : ι → Sl} {φ : ι → Prop} (i : ι) (hp : φ i) (h : ∀ w a, Holds m w → Sat n S a → Holds (M i) w ∧ Sat n (T i) a) :
    AQ (Exit.then (fun a w => ∃ i, φ i ∧ Holds (M i) w ∧ Sat n (T i) a) Q) .normal n m S := fun w a hm hs => ⟨i, hp, h w a hm hs⟩
theorem run_enter {f : FuncId} {fn : Func} (hf : P.funcs[f]? = some fn) (hb : fn.body.isNone = false) (hn : (fn.name == "runtime.NumGoroutine") = false) (w : World) (args : Array Value) : (callFunc f args).run P w = .ok (.enter f args) w := by
  have hn' : fn.name ≠ "runtime.NumGoroutine" := by simpa using hn
  have hb' : fn.body ≠ none := by intro e; rw [e] at hb; cases hb
  unfold callFunc
  simp [Sem.run_bind, program, Sem.run, hf, hn', hb']
def PreOk (m : Mem) (iv : List Nat) (pre : List Fact) : Prop := ∀ (w : World) (Z : Nat → Prop), Holds m w → (∀ b, m.frz w b → Z b) → (∀ j ∈ iv, ∀ o, m.own[j]? = some o → ∀ b ∈ o.blk, Z b) → ∀ g ∈ pre, g.p Z w
theorem pre_nil {iv : List Nat} : PreOk m iv [] := fun _ _ _ _ _ g hg => by cases hg
theorem pre_fz {iv : List Nat} {g : Fact} {l : List Fact} (i : Nat) (hi : m.fz[i]? = some g) (h : PreOk m iv l) : PreOk m iv (g :: l) := fun w Z hm hz hv x hx => by
  rcases List.mem_cons.1 hx with rfl | hx
  · exact x.mono hz (fz_at hm hi)
  · exact h w Z hm hz hv x hx
theorem pre_own {iv : List Nat} {v : Value} {e : TypeId} {τ : Ty α} {xs : List α} {l : List Fact} (i : Nat) (hi : m.own[i]? = some (oRow v e τ xs)) (hiv : iv.contains i = true) (h : PreOk m iv l) : PreOk m iv (fDat (tyList τ) [v] xs :: l) := fun w Z hm hz hv x hx => by
  rcases List.mem_cons.1 hx with rfl | hx
  · exact row_dat (own_at hm hi) hz (fun b hb => hv i (by simpa using hiv) _ hi b hb)
  · exact h w Z hm hz hv x hx
theorem pre_nilD {iv : List Nat} {τ : Ty α} {l : List Fact} (h : PreOk m iv l) : PreOk m iv (fDat (tyList τ) [.slice none 0 0] ([] : List α) :: l) := fun w Z hm hz hv x hx => by
  rcases List.mem_cons.1 hx with rfl | hx
  · exact nil_dat τ Z w
  · exact h w Z hm hz hv x hx
def FlatRes (res : ι → Res) : Prop := ∀ i, (∀ o ∈ (res i).own, ∀ Z Z' w, o.p Z w → o.p Z' w) ∧ ∀ g ∈ (res i).fz, ∀ Z Z' w, g.p Z w → g.p Z' w
theorem run_callV {f : FuncId} {args : List Operand} {tys : Array TypeId} {vs : List Value} {fn : Func} {a : Act} (ho : o.op = .call { callee := .value (.func f), args := args.toArray, argTypes := tys }) (hvs : args.map a.eval = vs) (hf : P.funcs[f]? = some fn) (hb : fn.body.isNone = false) (hn : (fn.name == "runtime.NumGoroutine") = false) (w : World) :
    (execOp a.eval o).run P w = .ok (.enter f vs.toArray) w := by
  unfold execOp
  simp only [ho]
  have h1 : (args.toArray.map a.eval) = vs.toArray := by rw [← hvs]; simp
  simp [resolve, Act.eval, Deferred.ofValue, invoke, h1, run_enter hf hb hn]
theorem evs {a : Act} (hs : Sat n S a) : ∀ {args : List Operand} {vs : List Value}, args.map (ev S) = vs.map some → args.map a.eval = vs
  | [], [], _ => rfl
  | [], _ :: _, h => by cases h
  | _ :: _, [], h => by cases h
  | x :: args, v :: vs, h => by
    simp only [List.map_cons, List.cons.injEq] at h
    rw [List.map_cons, hs.ev h.1, evs hs h.2]
theorem al_enter {d : Nat} {f : FuncId} {vs : List Value} {pre : List Fact} {oin : List Own} {res : ι → Res} (hfn : FnOk P f vs pre oin res) (iv io ik : List Nat) (hpre : PreOk m iv pre) (hoin : picks m.own io = oin)
    (hX : ∀ j ∈ io, j ∉ iv) (hnd : (io ++ ik).Nodup) (hflat : iv = [] ∨ FlatRes res) (hrun : ∀ w a, Sat n S a → (execOp a.eval o).run P w = .ok (.enter f vs.toArray) w)
    (h : ∀ i, AL P ops rest Q n { m with own := (res i).own ++ picks m.own ik, fz := (res i).fz ++ m.fz } (put S d (res i).val)) (hdd : o.dst = some d := by rfl) (hd : Nat.blt d n = true := by rfl) (hg : wantS ops S o true = true := by rfl) : AL P ops (o :: rest) Q n m S :=
  al_step hg fun w a hm hs K hK => by
    unfold Oper.wp
    rw [hrun w a hs, Oper.upon_enter]
    let Z : Nat → Prop := fun b => m.frz w b ∨ ∃ j ∈ iv, ∃ o, m.own[j]? = some o ∧ b ∈ o.blk
    have hin : ∀ o ∈ oin, ∃ j ∈ io, m.own[j]? = some o := fun o ho => by
      rw [← hoin] at ho
      obtain ⟨j, hj, hjo⟩ := List.mem_filterMap.1 ho
      exact ⟨j, hj, hjo⟩
    have hblk : ∀ b ∈ oin.flatMap Own.blk, b ∈ m.blks ∧ ∃ j ∈ io, ∃ o, m.own[j]? = some o ∧ b ∈ o.blk := fun b hb => by
      obtain ⟨o, ho, hb⟩ := List.mem_flatMap.1 hb
      obtain ⟨j, hj, hjo⟩ := hin o ho
      exact ⟨List.mem_flatMap.2 ⟨o, List.mem_of_getElem? hjo, hb⟩, j, hj, o, hjo, hb⟩
    have hsplit := List.nodup_append.1 hnd
    have hndo : (oin.flatMap Own.blk).Nodup := by rw [← hoin]; exact picks_nodup hm.nd hsplit.1
    have hfz : ∀ b, m.frz w b → b ∉ m.blks := fun b hb => hb.2.1
    have hc := hfn w Z (fun b hb => by
        rcases hb with hb | ⟨j, _, o, ho, hb⟩
        · exact hb.1
        · exact hm.lt (List.mem_flatMap.2 ⟨o, List.mem_of_getElem? ho, hb⟩)) hndo
      (fun b hb => by
        obtain ⟨h1, j, hj, o, hjo, hbo⟩ := hblk b hb
        refine ⟨hm.lt h1, fun hz => ?_⟩
        rcases hz with hz | ⟨j', hj', o', hjo', hbo'⟩
        · exact hz.2.1 h1
        · exact nodup_flat hm.nd hjo hjo' (fun e => hX j hj (e ▸ hj')) b hbo hbo')
      (hpre w Z hm (fun b hb => .inl hb) (fun j hj o ho b hb => .inr ⟨j, hj, o, ho, hb⟩))
      (fun o ho => by
        obtain ⟨j, _, hjo⟩ := hin o ho
        exact o.mono (fun b hb => .inl hb) (own_at hm hjo))
    refine hc.mono fun e w' ⟨i, he, hbel, hnd', hlo', hz'⟩ => ?_
    subst he
    refine hK _ _ (h i w' _ ?_ (hs.put' hdd hd _))
    have hstep : Step m w (oin.flatMap Own.blk) w' := ⟨hbel.os, hbel.tape, hbel.output, hbel.size, hbel.block⟩
    have hout : ∀ b ∈ (res i).own.flatMap Own.blk, b ∈ oin.flatMap Own.blk ∨ w.heap.size ≤ b := hlo'
    have hk : ∀ o ∈ picks m.own ik, o ∈ m.own ∧ ∀ b ∈ o.blk, b ∉ oin.flatMap Own.blk := fun o ho => by
      refine ⟨picks_sub ho, fun b hb hx => ?_⟩
      obtain ⟨j, hj, hjo⟩ := List.mem_filterMap.1 ho
      obtain ⟨_, j', hj', o', hjo', hbo'⟩ := hblk b hx
      exact nodup_flat hm.nd hjo hjo' (fun e => hsplit.2.2 j' hj' j hj e.symm) b hb hbo'
    have hnew : ∀ Z' : Nat → Prop, (∀ b, m.frz w b → Z' b) → (∀ b, w.heap.size ≤ b → b < w'.heap.size → b ∉ (res i).own.flatMap Own.blk → Z' b) → (∀ o ∈ (res i).own, o.p Z' w') ∧ ∀ g ∈ (res i).fz, g.p Z' w' := by
      intro Z' h1 h2
      rcases hflat with hiv | hflat
      · refine hz' Z' (fun b hb1 hb2 hb3 => ?_)
        by_cases hlt : b < w.heap.size
        · rcases hb3 hlt with hx | ⟨j, hj, _⟩
          · exact h1 b hx
          · rw [hiv] at hj; cases hj
        · exact h2 b (by omega) hb1 hb2
      · obtain ⟨h3, h4⟩ := hz' (fun _ => True) (fun _ _ _ _ => trivial)
        exact ⟨fun o ho => (hflat i).1 o ho _ _ _ (h3 o ho), fun g hg => (hflat i).2 g hg _ _ _ (h4 g hg)⟩
    have hs1 := hm.step hstep (fun b hb => (hblk b hb).1) (picks m.own ik) (res i).own (by
        rw [List.flatMap_append, List.nodup_append]
        refine ⟨hnd', picks_nodup hm.nd hsplit.2.1, fun b hb c hc e => ?_⟩
        subst e
        obtain ⟨o, ho, hbo⟩ := List.mem_flatMap.1 hc
        rcases hout b hb with hx | hx
        · exact (hk o ho).2 b hbo hx
        · have := hm.lt (List.mem_flatMap.2 ⟨o, (hk o ho).1, hbo⟩); omega)
      hk (fun o ho => ⟨fun b hb => hout b (List.mem_flatMap.2 ⟨o, ho, hb⟩), fun Z' h1 h2 => (hnew Z' h1 h2).1 o ho⟩)
    refine hs1.adds fun g hg => ?_
    refine (hnew _ (fun b hb => ⟨Nat.lt_of_lt_of_le hb.1 hbel.size, fun hx => ?_, hb.2.2⟩) (fun b h1 h2 h3 => ⟨h2, fun hx => ?_, fun hlt => ?_⟩)).2 g hg
    · obtain ⟨o, ho, hbo⟩ := List.mem_flatMap.1 hx
      rcases List.mem_append.1 ho with ho | ho
      · rcases hout b (List.mem_flatMap.2 ⟨o, ho, hbo⟩) with hx | hx
        · exact hb.2.1 (hblk b hx).1
        · have := hb.1; omega
      · exact hb.2.1 (List.mem_flatMap.2 ⟨o, (hk o ho).1, hbo⟩)
    · obtain ⟨o, ho, hbo⟩ := List.mem_flatMap.1 hx
      rcases List.mem_append.1 ho with ho | ho
      · exact h3 (List.mem_flatMap.2 ⟨o, ho, hbo⟩)
      · have := hm.lt (List.mem_flatMap.2 ⟨o, (hk o ho).1, hbo⟩); omega
    · have := hm.size; have hlt' : b < m.B := hlt; omega
theorem al_call {d : Nat} {f : FuncId} {fn : Func} {args : List Operand} {vs : List Value} {tys : Array TypeId} {pre : List Fact} {oin : List Own} {res : ι → Res} (hfn : FnOk P f vs pre oin res) (iv io ik : List Nat) (hpre : PreOk m iv pre) (hoin : picks m.own io = oin)
    (hX : ∀ j ∈ io, j ∉ iv) (hnd : (io ++ ik).Nodup) (hflat : iv = [] ∨ FlatRes res) (hargs : args.map (ev S) = vs.map some) (hf : P.funcs[f]? = some fn) (hb : fn.body.isNone = false) (hn : (fn.name == "runtime.NumGoroutine") = false)
    (ho : o.op = .call { callee := .value (.func f), args := args.toArray, argTypes := tys })
    (h : ∀ i, AL P ops rest Q n { m with own := (res i).own ++ picks m.own ik, fz := (res i).fz ++ m.fz } (put S d (res i).val)) (hdd : o.dst = some d := by rfl) (hd : Nat.blt d n = true := by rfl) (hg : wantS ops S o true = true := by rfl) : AL P ops (o :: rest) Q n m S :=
  al_enter hfn iv io ik hpre hoin hX hnd hflat (fun w a hs => run_callV ho (evs hs hargs) hf hb hn w) h hdd hd hg
theorem aq_nilR {e : Exit} (et : TypeId) (τ : Ty α) (h : AQ Q e n (m.push (oRow (.slice none 0 0) et τ ([] : List α))) S) : AQ Q e n m S := fun w a hm hs =>
  h w a (hm.push (w' := w) (Below.refl _ _) (by simp [oRow, Value.ownBlock]) (by simp [oRow, Value.ownBlock]) (fun Z _ => nil_own et τ Z w)) hs
theorem aq_nilD {e : Exit} (τ : Ty α) (h : AQ Q e n (m.add (fDat (tyList τ) [.slice none 0 0] ([] : List α))) S) : AQ Q e n m S := fun w a hm hs => h w a (hm.add (nil_dat τ _ _)) hs
theorem aq_freeze {e' : Exit} (i : Nat) {v : Value} {e : TypeId} {τ : Ty α} {xs : List α} (hi : m.own[i]? = some (oRow v e τ xs)) (hX : m.X = [])
    (h : AQ Q e' n (Mem.add { m with own := m.own.take i ++ m.own.drop (i + 1) } (fDat (tyList τ) [v] xs)) S) : AQ Q e' n m S := fun w a hm hs => h w a (hm.freeze hi hX) hs
def FlatTy (τ : Ty α) : Prop := ∀ Z Z' w w' cs x, τ.rep Z w cs x → τ.rep Z' w' cs x
theorem flat_list {τ : Ty α} (h : FlatTy τ) : ∀ {Z Z' : Nat → Prop} {w w' : World} {xs : List α} {cs : List Value}, RepL τ Z w cs xs → RepL τ Z' w' cs xs
  | _, _, _, _, [], _, hr => hr
  | _, _, _, _, x :: xs, _, hr => by obtain ⟨c1, c2, he, h1, h2⟩ := hr; exact ⟨c1, c2, he, h _ _ _ _ _ _ h1, flat_list h h2⟩
theorem flat_pair {a : Ty α} {b : Ty β} (ha : FlatTy a) (hb : FlatTy b) : FlatTy (tyPair a b) := fun Z Z' w w' cs x hr => by
  obtain ⟨c1, c2, he, h1, h2⟩ := hr; exact ⟨c1, c2, he, ha _ _ _ _ _ _ h1, hb _ _ _ _ _ _ h2⟩
theorem flat_via {f : α → β} {b : Ty β} (hb : FlatTy b) : FlatTy (tyVia f b) := fun Z Z' w w' cs x hr => hb _ _ _ _ _ _ hr
theorem flat_enc {k : Nat} {enc : α → List Value} {h1 h2} : FlatTy (tyEnc k enc h1 h2) := fun Z Z' w w' cs x hr => hr
theorem flat_row {v : Value} {e : TypeId} {τ : Ty α} {xs : List α} (h : FlatTy τ) : ∀ Z Z' w, (oRow v e τ xs).p Z w → (oRow v e τ xs).p Z' w := fun Z Z' w hr => by
  obtain ⟨cs, h1, h2⟩ := hr; exact ⟨cs, h1, flat_list h h2⟩
theorem flat_res0 {v : ι → Value} : FlatRes (fun i => { val := v i } : ι → Res) := fun i => ⟨by simp, by simp⟩
theorem bif_t {b : Bool} {x y : Option β} {r : β} (hb : b = true) (h : (bif b then x else y) = some r) : x = some r := by rw [hb] at h; exact h
theorem bif_f {b : Bool} {x y : Option β} {r : β} (hb : b = false) (h : (bif b then x else y) = some r) : y = some r := by rw [hb] at h; exact h
end
end Go.Proofs.Ytiioclkiapbjnaa.En
namespace Go.Proofs.Ytiioclkiapbjnaa.En
open Go.RowKit
set_option linter.unusedVariables false
set_option linter.unusedSimpArgs false
def memOf (w : World) (Z : Nat → Prop) (oin own : List Own) (fz : List Fact) : Mem := { B := w.heap.size, w0 := w, Z0 := Z, X := oin.flatMap Own.blk, own := own, fz := fz }
section
variable {P : Program} {Q : Exit → Act → World → Prop} {n : Nat} {m : Mem} {S : Sl} {ops : Array Oper} {rest : List Oper} {o : Oper} {α β ι : Type}
theorem aw_show {c : Code} (h : AW P c Q n m S) : AW P c Q n m S := h
theorem al_caseB {l : List Oper} {b : Bool} (t : Nat) (ht : S t = some (.bool b)) (h1 : b = true → AL P ops l Q n m (put S t (.bool true))) (h2 : b = false → AL P ops l Q n m (put S t (.bool false))) : AL P ops l Q n m S := fun w a hm hs => by
  have key : ∀ v, S t = some v → Sat n (put S t v) a := fun v hv => ⟨hs.def_, hs.size, fun u x hx => by
    rcases put_some hx with ⟨rfl, rfl⟩ | ⟨_, hx⟩
    · exact hs.val _ _ hv
    · exact hs.val _ _ hx⟩
  cases b with
  | true => exact h1 rfl w a hm (key _ ht)
  | false => exact h2 rfl w a hm (key _ ht)
theorem zeroOf_to {e : TypeId} {sz by_ : Nat} {z : Value} (h : tyOf P e = some (sz, by_, some z)) : zeroOf P e = some z := by
  obtain ⟨i, h1, h2, _, _⟩ := tyOf_parts h
  unfold zeroOf; rw [h1]; exact h2
theorem ov_min {x y : Operand} {tys : Array TypeId} {k : IntKind} {p q : Int} (ho : o.op = .call { callee := .builtin .min, args := #[x, y], argTypes := tys }) (hx : ev S x = some (.int k p)) (hy : ev S y = some (.int k q)) : OpV P o n m S (.int k (if q < p then q else p)) := fun w a _ hs => by
  unfold execOp
  simp [ho, resolve, invoke, builtin, hs.ev hx, hs.ev hy, Builtin.min_, Builtin.min2]
theorem ov_max {x y : Operand} {tys : Array TypeId} {k : IntKind} {p q : Int} (ho : o.op = .call { callee := .builtin .max, args := #[x, y], argTypes := tys }) (hx : ev S x = some (.int k p)) (hy : ev S y = some (.int k q)) : OpV P o n m S (.int k (if q > p then q else p)) := fun w a _ hs => by
  unfold execOp
  simp [ho, resolve, invoke, builtin, hs.ev hx, hs.ev hy, Builtin.max_, Builtin.max2]
def enumF : Nat → List Value → List (Nat × Value)
  | _, [] => []
  | j, v :: vs => (j, v) :: enumF (j + 1) vs
theorem foldl_put (vs : List Value) : ∀ (pre mid post : List Value) (k : Nat), mid.length = vs.length → k = 0 →
    (vs.zipIdx k).foldl (fun (cs : Array Value) (p : Value × Nat) => cs.setIfInBounds (pre.length - k + p.2) p.1) (pre ++ mid ++ post).toArray = (pre ++ vs ++ post).toArray := by
  have gen : ∀ (vs pre mid post : List Value) (k b : Nat), mid.length = vs.length → pre.length = b + k →
      (vs.zipIdx k).foldl (fun (cs : Array Value) (p : Value × Nat) => cs.setIfInBounds (b + p.2) p.1) (pre ++ mid ++ post).toArray = (pre ++ vs ++ post).toArray := by
    intro vs
    induction vs with
    | nil =>
      intro pre mid post k b hm _
      have hm0 : mid = [] := List.eq_nil_of_length_eq_zero (by simpa using hm)
      subst hm0; rfl
    | cons v vs ih =>
      intro pre mid post k b hm hp
      cases mid with
      | nil => simp at hm
      | cons u mid =>
        simp only [List.zipIdx_cons, List.foldl_cons]
        have e : (pre ++ u :: mid ++ post).toArray.setIfInBounds (b + k) v = ((pre ++ [v]) ++ mid ++ post).toArray := by
          rw [List.setIfInBounds_toArray, ← hp]
          simp
        rw [e, ih (pre ++ [v]) mid post (k + 1) b (by simpa using hm) (by simp; omega)]
        simp
  intro pre mid post k hm hk
  subst hk
  exact gen vs pre mid post 0 pre.length hm (by simp)
theorem fill_seq {sz : Nat} : ∀ (vs : List Value) (j : Nat) (pre rest : List Value), pre.length = j * sz → rest.length = vs.length * sz → (∀ v ∈ vs, v.cells.size = sz) →
    Instr.fill (fun i => some (i * sz, sz)) (pre ++ rest).toArray (enumF j vs) = some (pre ++ vs.flatMap fun v => v.cells.toList).toArray
  | [], j, pre, rest, _, hr, _ => by
    have hr0 : rest = [] := List.eq_nil_of_length_eq_zero (by simpa using hr)
    subst hr0; simp [enumF, Instr.fill]
  | v :: vs, j, pre, rest, hp, hr, hv => by
    have h1 := hv v (by simp)
    have hl : v.cells.toList.length = sz := by rw [Array.length_toList, h1]
    rw [List.length_cons, Nat.succ_mul] at hr
    unfold enumF Instr.fill
    simp only
    rw [if_neg (by simp [h1]; omega)]
    have hsp : pre ++ rest = pre ++ rest.take sz ++ rest.drop sz := by rw [List.append_assoc, List.take_append_drop]
    have h2 : (v.cells.zipIdx.foldl (fun (cs : Array Value) (p : Value × Nat) => cs.setIfInBounds (j * sz + p.2) p.1) (pre ++ rest).toArray) = (pre ++ v.cells.toList ++ rest.drop sz).toArray := by
      rw [hsp, ← hp]
      have := foldl_put v.cells.toList pre (rest.take sz) (rest.drop sz) 0 (by rw [List.length_take, hl]; omega) rfl
      simp only [Nat.sub_zero] at this
      rw [← this]
      rw [← Array.foldl_toList]
      simp
    have h3 := fill_seq vs (j + 1) (pre ++ v.cells.toList) (rest.drop sz) (by rw [List.length_append, hl, hp, Nat.succ_mul]) (by rw [List.length_drop]; omega) (fun u hu => hv u (by simp [hu]))
    have e : (fun (x : Array Value) (x_1 : Value × Nat) => match x_1 with | (c, j_1) => x.setIfInBounds (j * sz + j_1) c) = (fun (cs : Array Value) (p : Value × Nat) => cs.setIfInBounds (j * sz + p.2) p.1) := rfl
    rw [List.flatMap_cons, ← List.append_assoc, ← h3, ← h2]
theorem run_bs {t e sz by_ : Nat} {z : Value} (vs : List Value) (cells : List Value) (ht : P.underlying t = some (.slice e)) (hi : tyOf P e = some (sz, by_, some z)) (hzs : z.cells.size = sz) (hk : Nat.ble (vs.length * sz) 16777216 = true) (hbs : BS m sz vs cells) {w : World} (hm : Holds m w) :
    (Instr.buildSlice t vs.length (enumF 0 vs).toArray).run P w = .ok (.slice (some ⟨w.heap.size, 0, none⟩) vs.length vs.length) (w.alloc (.cells cells.toArray e)) := by
  obtain ⟨i, hi1, hi2, hi3, hi4⟩ := tyOf_parts hi
  have hsz : szOf P e = some sz := by unfold szOf; rw [hi1]; simp [hi3]
  have hzv := run_zeroValue' (zeroOf_to hi) w
  have hk' : ¬ 16777216 < vs.length * sz := by have := Nat.le_of_ble_eq_true hk; omega
  obtain ⟨hv', hc⟩ := hbs hm
  have key : ∀ zs : Array Value, zs.size = vs.length * sz → Instr.fill (fun i => some (i * sz, sz)) zs (enumF 0 vs) = some cells.toArray := fun zs hz => by
    have hf := fill_seq vs 0 [] zs.toList (by simp) (by simpa using hz) hv'
    rw [← hc]; simpa using hf
  unfold Instr.buildSlice
  simp only [Sem.run_bind, run_underlying ht, Result.andThen_ok, run_sizeOf' hsz, Nat.reducePow, gt_iff_lt, if_neg hk']
  by_cases h0 : vs.length * sz = 0
  · simp only [h0, if_true, Sem.run_bind, Sem.run_pure, Result.andThen_ok]
    rw [key _ (by simp [h0])]
    rfl
  · simp only [if_neg h0, Sem.run_bind, hzv, Result.andThen_ok, Sem.run_pure]
    rw [key _ (by simp)]
    rfl
theorem one_of {τ : Ty α} {Z : Nat → Prop} {w : World} {c : List Value} {x : List α} (h : (tyList τ).rep Z w c x) : ∃ v, c = [v] := by
  obtain ⟨A, n, cap, rfl, _⟩ := h; exact ⟨_, rfl⟩
theorem fall_nil {Z : Nat → Prop} {w : World} : ∀ g ∈ ([] : List Fact), g.p Z w := by simp
theorem fall_cons {Z : Nat → Prop} {w : World} {f : Fact} {l : List Fact} (h : f.p Z w) (hl : ∀ g ∈ l, g.p Z w) : ∀ g ∈ f :: l, g.p Z w := fun g hg => by
  rcases List.mem_cons.1 hg with rfl | hg
  · exact h
  · exact hl g hg
end
end Go.Proofs.Ytiioclkiapbjnaa.En
namespace Go.Proofs.Ytiioclkiapbjnaa.En
open Go.RowKit
set_option linter.unusedVariables false
set_option linter.unusedSimpArgs false
def fEq (v t : Value) : Fact := ⟨fun _ _ => v = t, fun _ h => h, fun _ h => h⟩
def Tame (P : Program) (o : Oper) (a : Act) (w : World) (Φ : Value → World → Prop) : Prop :=
  (∃ v w', (execOp a.eval o).run P w = .ok (.value v) w' ∧ Φ v w') ∨ (∃ f args, (execOp a.eval o).run P w = .ok (.enter f args) w ∧ Calls P f args w fun e w' => ∃ v, e = .returned v ∧ Φ v w')
theorem Tame.wp {P : Program} {o : Oper} {a : Act} {w : World} {Φ : Value → World → Prop} {K : Act → World → Prop} {Q : Exit → Act → World → Prop} (h : Tame P o a w Φ) (hK : ∀ v w', Φ v w' → K (a.put o.dst v) w') : o.wp P a w K Q := by
  unfold Oper.wp
  rcases h with ⟨v, w', hr, hv⟩ | ⟨f, args, hr, hc⟩
  · rw [hr, Oper.upon_value]; exact hK v w' hv
  · rw [hr, Oper.upon_enter]
    refine hc.mono fun e w' ⟨v, he, hv⟩ => ?_
    subst he; exact hK v w' hv
abbrev Spec := List (Nat × (Value → Fact))
def FactAt (m : Mem) (L : Spec) (j : Nat) (w : World) (a : Act) : Prop := match L[j]? with | some (d, R) => (R (a.tmps.getD d undef)).p (m.frz w) w | none => True
def LocD (P : Program) (ops : Array Oper) (m0 : Mem) (L : Spec) (o : Oper) (E : List Nat) (n : Nat) (m : Mem) (S : Sl) (R : Value → Fact) : Prop := ∀ w a, Holds m0 w → Holds m w → m.frz w = m0.frz w → Sat n S a → (∀ j ∈ E, FactAt m0 L j w a) →
  if Region.wanted o (yielded ops a.tmps) then Tame P o a w (fun v w' => Below w.heap.size w w' ∧ (R v).p (m0.frz w') w') else (R undef).p (m0.frz w) w
def edgesOf (o : Oper) : List Nat := (o.after.toList.filter fun e => Region.binds .any e).map (·.on)
def LocFrom (P : Program) (ops : Array Oper) (n : Nat) (m : Mem) (S : Sl) (L : Spec) : Spec → List Oper → Prop
  | [], _ => True
  | _ :: _, [] => False
  | s :: L', o :: l => (o.dst = some s.1 ∧ LocD P ops m L o (edgesOf o) n m S s.2) ∧ LocFrom P ops n m S L L' l
theorem LocFrom.at {P : Program} {ops : Array Oper} {n : Nat} {m : Mem} {S : Sl} {L : Spec} : ∀ {L' : Spec} {l : List Oper}, LocFrom P ops n m S L L' l → ∀ {i : Nat} {s : Nat × (Value → Fact)}, L'[i]? = some s → ∃ o, l[i]? = some o ∧ o.dst = some s.1 ∧ LocD P ops m L o (edgesOf o) n m S s.2
  | [], _, _, i, s, hi => by simp at hi
  | _ :: _, [], h, _, _, _ => h.elim
  | s' :: L', o :: l, h, 0, s, hi => by simp at hi; subst hi; exact ⟨o, rfl, h.1.1, h.1.2⟩
  | s' :: L', o :: l, h, i + 1, s, hi => by rw [List.getElem?_cons_succ] at hi ⊢; exact LocFrom.at h.2 hi
def prefixA (k n : Nat) : Array Bool := ((List.replicate k true) ++ List.replicate (n - k) false).toArray
theorem Sat.put_none {n : Nat} {S : Sl} {a : Act} (h : Sat n S a) {d : Nat} (hd : S d = none) (v : Value) : Sat n S (a.put (some d) v) := by
  refine ⟨h.def_, by simp [Act.put, h.size], fun t u hu => ?_⟩
  have hne : t ≠ d := fun e => by rw [e, hd] at hu; cases hu
  have h0 := h.val t u hu
  have he : (a.tmps.setIfInBounds d v).getD t undef = a.tmps.getD t undef := by
    simp only [Array.getD_eq_getD_getElem?]
    rw [Array.getElem?_setIfInBounds_ne (fun e => hne e.symm)]
  exact he.trans h0
theorem nodup_idx {l : List Nat} (h : l.Nodup) {i j : Nat} {x : Nat} (hi : l[i]? = some x) (hj : l[j]? = some x) : i = j := by
  have h1 := (List.getElem?_eq_some_iff.1 hi)
  have h2 := (List.getElem?_eq_some_iff.1 hj)
  obtain ⟨hi', e1⟩ := h1
  obtain ⟨hj', e2⟩ := h2
  exact (List.getElem_inj h).1 (e1.trans e2.symm)
def TailOk (P : Program) (ops : Array Oper) (l : List Oper) (Q : Exit → Act → World → Prop) (m0 : Mem) (L : Spec) (n : Nat) (m : Mem) (S : Sl) : Prop := ∀ w a, Holds m0 w → Holds m w → m.frz w = m0.frz w → Sat n S a → (∀ j, FactAt m0 L j w a) → wpList P ops Q l a w
theorem set_prefix {listed : Array Bool} {k n : Nat} (hk : k ≤ n) (hs : listed.size = n) (hp : ∀ i, i < k → listed.getD i false = true) (ht : ∀ t, k ≤ t → t < n → listed.getD t true = false) : listed = prefixA k n := by
  unfold prefixA
  apply Array.ext_getElem?
  intro i
  by_cases hi : i < n
  · have hi' : i < listed.size := by omega
    rw [Array.getElem?_eq_getElem hi']
    by_cases hik : i < k
    · have := hp i hik
      simp [hi'] at this
      simp [List.getElem?_append, hik, this]
    · have := ht i (by omega) hi
      simp [hi'] at this
      rw [List.getElem?_toArray, List.getElem?_append_right (by simp; omega), List.getElem?_replicate, if_pos (by simp; omega), this]
  · rw [Array.getElem?_eq_none (by omega)]
    simp
    omega
theorem fact_ext {m : Mem} {w w' : World} (hb : Below w.heap.size w w') {f : Fact} (h : f.p (m.frz w) w) : f.p (m.frz w') w' :=
  f.mono (fun b hb' => ⟨Nat.lt_of_lt_of_le hb'.1 hb.size, hb'.2⟩) (f.keep (fun b hb' => hb.block b hb'.1) h)
def backB (l : List Oper) : Bool := (l.zipIdx.all fun p => p.1.after.all fun e => !Region.binds .any e || Nat.blt e.on p.2)
theorem backB_spec {l : List Oper} (h : backB l = true) {i : Nat} {o : Oper} (hi : l[i]? = some o) : ∀ e ∈ o.after, Region.binds .any e = true → e.on < i := fun e he hb => by
  have h1 := List.all_eq_true.1 h (o, i) (List.mem_iff_getElem?.2 ⟨i, by rw [List.getElem?_zipIdx, hi]; simp⟩)
  have h2 := Array.all_eq_true'.1 h1 e he
  simpa [hb, Nat.blt_eq] using h2
def nodupB : List Nat → Bool
  | [] => true
  | x :: l => !(l.any fun y => Nat.beq x y) && nodupB l
theorem nodupB_spec : ∀ {l : List Nat}, nodupB l = true → l.Nodup
  | [], _ => List.nodup_nil
  | x :: l, h => by
    simp only [nodupB, Bool.and_eq_true, Bool.not_eq_true', List.any_eq_false] at h
    refine List.nodup_cons.2 ⟨fun hx => ?_, nodupB_spec h.2⟩
    have := h.1 x hx
    simp at this
theorem aw_region_draw {P : Program} {Q : Exit → Act → World → Prop} {n : Nat} {m : Mem} {S : Sl} {id : Nat} {l : List Oper} (k : Nat) (L : Spec) (S' : Sl) (hm : P.follows .mixedOrders = true)
    (hB : (decide (k < l.length) && L.length == k && backB l && Region.sinkB .any l.toArray k && Region.chainB .any l.toArray k && Region.seqB .any l.toArray (l.length - k) k (prefixA k l.length)) = true)
    (hD : nodupB (L.map (·.1)) = true) (hn : (L.all fun s => Nat.blt s.1 n) = true) (hS0 : (L.all fun s => (S' s.1).isNone) = true) (hS : ∀ a, Sat n S a → Sat n S' a)
    (hloc : LocFrom P l.toArray n m S' L L l) (htail : TailOk P l.toArray (l.drop k) Q m L n m S') : AW P (.region id l.toArray true) Q n m S := fun w a hm0 hs0 => by
  simp only [Bool.and_eq_true, decide_eq_true_eq, beq_iff_eq] at hB
  obtain ⟨⟨⟨⟨⟨hkl, hLk⟩, hback⟩, hsink⟩, hchain⟩, hseq⟩ := hB
  have hD := nodupB_spec hD
  refine wp_region_any hm ?_
  have hop : ∀ i, i < k → ∃ s, L[i]? = some s := fun i hi => ⟨_, List.getElem?_eq_getElem (by omega)⟩
  have main : ∀ (f : Nat) (listed : Array Bool) (a : Act) (w : World), HeadInv .any l.toArray k listed → ((List.range k).filter fun i => !listed.getD i true).length = f → Holds m w → Sat n S' a →
      (∀ j, j < k → listed.getD j false = true → FactAt m L j w a) → wpAny P .any l.toArray Q (f + (l.length - k)) listed a w := by
    intro f
    induction f with
    | zero =>
      intro listed a w inv hf hmw hsa hfacts
      rw [Nat.zero_add]
      have hall : ∀ i, i < k → listed.getD i false = true := fun i hi => by
        have h0 : (List.range k).filter (fun i => !listed.getD i true) = [] := List.eq_nil_of_length_eq_zero hf
        have h1 := List.filter_eq_nil_iff.1 h0 i (List.mem_range.2 hi)
        have hsz : i < listed.size := by rw [inv.size]; simp; omega
        simp [hsz] at h1 ⊢; exact h1
      have hpre := set_prefix (n := l.length) (by omega) (by rw [inv.size]; simp) hall (fun t ht1 ht2 => inv.tail t ht1 (by simpa using ht2))
      have hdl : (l.drop k).length = l.length - k := by simp
      have := wpAny_of_seq (P := P) (md := .any) (Q' := Q) (ops := l.toArray) (l.drop k) k listed a w (fun j => by simp [List.getElem?_drop]) (by rw [hdl, hpre]; exact hseq) (htail w a hmw hmw rfl hsa (fun j => by
        by_cases hj : j < k
        · exact hfacts j hj (hall j hj)
        · unfold FactAt; rw [List.getElem?_eq_none (by omega)]; trivial))
      rwa [hdl] at this
    | succ f ih =>
      intro listed a w inv hf hmw hsa hfacts
      rw [show f + 1 + (l.length - k) = (f + (l.length - k)) + 1 by omega]
      obtain ⟨i0, hi0⟩ : ∃ i, i ∈ (List.range k).filter fun i => !listed.getD i true := by
        cases hq : (List.range k).filter (fun i => !listed.getD i true) with
        | nil => rw [hq] at hf; cases hf
        | cons x _ => exact ⟨x, by simp⟩
      have hi0' := List.mem_filter.1 hi0
      have hi0k : i0 < k := List.mem_range.1 hi0'.1
      have hun0 : listed.getD i0 true = false := by simpa using hi0'.2
      have hlt : ∀ t, k ≤ t → t ∉ Region.ready .any l.toArray listed := tail_waits hsink hchain (by simpa using hkl) inv _ i0 rfl hi0k hun0
      refine ⟨fun hempty => ?_, fun i hi => ?_⟩
      · exfalso
        have key : ∀ q, q < k → listed.getD q true = false → False := by
          intro q
          induction q using Nat.strongRecOn with
          | _ q ihq =>
            intro hq hunq
            obtain ⟨s, hs⟩ := hop q hq
            obtain ⟨o, ho, _, _⟩ := hloc.at hs
            have hready : q ∈ Region.ready .any l.toArray listed := mem_ready.2 ⟨hunq, o, by simpa using ho, fun e he hb => by
              have hlt' := backB_spec hback ho e he hb
              have hsz : e.on < listed.size := by rw [inv.size]; simp; omega
              cases hl : listed.getD e.on false with
              | true => rfl
              | false => exact (ihq e.on hlt' (by omega) (getD_in hsz hl)).elim⟩
            rw [hempty] at hready; cases hready
        exact key i0 hi0k hun0
      · have hik : i < k := by
          rcases Nat.lt_or_ge i k with h | h
          · exact h
          · exact absurd hi (hlt i h)
        obtain ⟨hun, o', ho', hall⟩ := mem_ready.1 hi
        obtain ⟨s, hs⟩ := hop i hik
        obtain ⟨o, ho, hd, hl⟩ := hloc.at hs
        have hoo : o' = o := by have : l.toArray[i]? = some o := by simpa using ho
                                rw [this] at ho'; exact (Option.some.inj ho').symm
        subst hoo
        have hsn : Nat.blt s.1 n = true := List.all_eq_true.1 hn s (List.mem_of_getElem? hs)
        have hs0' : S' s.1 = none := by have := List.all_eq_true.1 hS0 s (List.mem_of_getElem? hs); simpa using this
        have hedge : ∀ j ∈ edgesOf o', FactAt m L j w a := fun j hj => by
          obtain ⟨e, he, rfl⟩ := List.mem_map.1 hj
          have he' := List.mem_filter.1 he
          exact hfacts e.on (by have := backB_spec hback ho e (by simpa using he'.1) he'.2; omega) (hall e (by simpa using he'.1) he'.2)
        have hloci := hl w a hmw hmw rfl hsa hedge
        have hszi : i < listed.size := by rw [inv.size]; simp; omega
        have next : ∀ v w', Below w.heap.size w w' → (s.2 v).p (m.frz w') w' → wpAny P .any l.toArray Q (f + (l.length - k)) (listed.setIfInBounds i true) (a.put o'.dst v) w' := fun v w' hb hv => by
          rw [hd]
          have hsz2 : s.1 < a.tmps.size := by rw [hsa.size]; simpa [Nat.blt_eq] using hsn
          refine ih _ _ _ (inv.set hi hik) ?_ (hmw.ext hb) (hsa.put_none hs0' v) (fun j hj hlj => ?_)
          · have e1 : (List.range k).filter (fun q => !(listed.setIfInBounds i true).getD q true) = ((List.range k).filter fun q => !listed.getD q true).filter (fun q => decide (q ≠ i)) := by
              rw [List.filter_filter]
              apply List.filter_congr
              intro q _
              by_cases hqi : q = i
              · subst hqi; simp [hszi]
              · rw [getD_set_ne true (fun e => hqi e.symm)]; simp [hqi]
            rw [e1]
            have hmem : i ∈ (List.range k).filter fun q => !listed.getD q true := List.mem_filter.2 ⟨List.mem_range.2 hik, by simp [hun]⟩
            have hndp : ((List.range k).filter fun q => !listed.getD q true).Nodup := List.Pairwise.filter _ List.nodup_range
            have h2 := List.Nodup.erase_eq_filter hndp i
            have h3 := List.length_erase_of_mem hmem
            rw [h2] at h3
            have h4 : List.filter (fun q => decide (q ≠ i)) ((List.range k).filter fun q => !listed.getD q true) = List.filter (fun q => q != i) ((List.range k).filter fun q => !listed.getD q true) := by
              apply List.filter_congr; intro q _; by_cases hqi : q = i <;> simp [hqi]
            rw [h4, h3, hf]; rfl
          · unfold FactAt
            by_cases hji : j = i
            · subst hji
              rw [hs]
              show (s.2 ((a.tmps.setIfInBounds s.1 v).getD s.1 undef)).p (m.frz w') w'
              have : (a.tmps.setIfInBounds s.1 v).getD s.1 undef = v := by simp [Array.getD_eq_getD_getElem?, hsz2]
              rw [this]; exact hv
            · rw [getD_set_ne false (fun e => hji e.symm)] at hlj
              have h1 := hfacts j hj hlj
              unfold FactAt at h1
              cases hLj : L[j]? with
              | none => trivial
              | some sj =>
                obtain ⟨dj, Rj⟩ := sj
                rw [hLj] at h1
                simp only at h1 ⊢
                have hne : dj ≠ s.1 := fun e => hji (nodup_idx hD (x := s.1) (by rw [List.getElem?_map, hLj]; simp [e]) (by rw [List.getElem?_map, hs]; rfl))
                have : (a.tmps.setIfInBounds s.1 v).getD dj undef = a.tmps.getD dj undef := by
                  simp only [Array.getD_eq_getD_getElem?]
                  rw [Array.getElem?_setIfInBounds_ne (fun e => hne e.symm)]
                show (Rj ((a.tmps.setIfInBounds s.1 v).getD dj undef)).p (m.frz w') w'
                rw [this]
                exact fact_ext hb h1
        unfold wpOp
        rw [show l.toArray[i]? = some o' by simpa using ho]
        simp only
        split
        · rename_i hw
          rw [if_pos hw] at hloci
          exact .inl (hloci.wp fun v w' h => next v w' h.1 h.2)
        · rename_i hw
          rw [if_neg hw] at hloci
          exact next undef w (Below.refl _ _) hloci
  have inv0 : HeadInv .any l.toArray k (Array.replicate l.toArray.size false) :=
    ⟨by simp, fun j oj _ hl => (by rw [getD_replicate_false] at hl; cases hl), fun t _ ht => getD_in (by simpa using ht) (getD_replicate_false _ _)⟩
  have hdrew : Below w.heap.size w { w with drawn := w.drawn + 1 } := (Below.refl _ _).drew
  have := main k (Array.replicate l.toArray.size false) a { w with drawn := w.drawn + 1 } inv0 (by
      have : (List.range k).filter (fun i => !(Array.replicate l.toArray.size false).getD i true) = List.range k := by
        apply List.filter_eq_self.2
        intro i hi
        have hik := List.mem_range.1 hi
        have : i < l.length := by omega
        simp [this]
      rw [this]; simp) (hm0.ext hdrew) (hS a hs0) (fun j _ hl => by rw [getD_replicate_false] at hl; cases hl)
  rw [show k + (l.length - k) = l.toArray.size by simp; omega] at this
  exact this
section
variable {P : Program} {Q : Exit → Act → World → Prop} {n : Nat} {m0 m : Mem} {S : Sl} {ops : Array Oper} {o : Oper} {E : List Nat} {L : Spec} {R : Value → Fact} {α ι : Type}
theorem Sat.put_at {a : Act} (h : Sat n S a) {d : Nat} {v : Value} (hv : a.tmps.getD d undef = v) : Sat n (En.put S d v) a :=
  ⟨h.def_, h.size, fun t u hu => by
    rcases put_some hu with ⟨rfl, rfl⟩ | ⟨_, hu⟩
    · exact hv
    · exact h.val t u hu⟩
theorem ld_eq {j d : Nat} {t : Value} (hL : L[j]? = some (d, fun v => fEq v t)) (hj : E.contains j = true) (h : LocD P ops m0 L o E n m (put S d t) R) : LocD P ops m0 L o E n m S R := fun w a h0 hm hf hs hE => by
  have h1 := hE j (by simpa using hj)
  unfold FactAt at h1; rw [hL] at h1
  exact h w a h0 hm hf (hs.put_at h1) hE
theorem ld_fact {j d : Nat} {R' : Value → Fact} (hL : L[j]? = some (d, R')) (hj : E.contains j = true) (h : ∀ v, LocD P ops m0 L o E n (m.add (R' v)) (put S d v) R) : LocD P ops m0 L o E n m S R := fun w a h0 hm hf hs hE => by
  have h1 := hE j (by simpa using hj)
  unfold FactAt at h1; rw [hL] at h1
  exact h _ w a h0 (hm.add (by rw [hf]; exact h1)) hf (hs.put_at rfl) hE
theorem ld_val {v : Value} (hv : OpV P o n m S v) (hg : wantS ops S o true = true := by rfl) : LocD P ops m0 L o E n m S (fun u => fEq u v) := fun w a h0 hm hf hs hE => by
  rw [if_pos (wantS_of hs hg)]
  exact .inl ⟨v, w, hv w a hm hs, Below.refl _ _, rfl⟩
theorem ld_of (hv : OpF P o n m S R) (hg : wantS ops S o true = true := by rfl) : LocD P ops m0 L o E n m S R := fun w a h0 hm hf hs hE => by
  rw [if_pos (wantS_of hs hg)]
  obtain ⟨v, hr, hp⟩ := hv w a hm hs
  exact .inl ⟨v, w, hr, Below.refl _ _, by rw [← hf]; exact hp⟩
theorem ld_callR {f : FuncId} {fn : Func} {args : List Operand} {vs : List Value} {tys : Array TypeId} {pre : List Fact} {e : TypeId} {τ : Ty α} {xs : List α} (hτ : FlatTy τ) (hfn : FnOk P f vs pre [] (fun i : Value => { val := i, own := [oRow i e τ xs] })) (iv : List Nat) (hpre : PreOk m iv pre) (hargs : args.map (ev S) = vs.map some) (hf : P.funcs[f]? = some fn) (hb : fn.body.isNone = false) (hnm : (fn.name == "runtime.NumGoroutine") = false)
    (ho : o.op = .call { callee := .value (.func f), args := args.toArray, argTypes := tys }) (hg : wantS ops S o true = true := by rfl) : LocD P ops m0 L o E n m S (fun u => fDat (tyList τ) [u] xs) := fun w a h0 hm hf' hs hE => by
  rw [if_pos (wantS_of hs hg)]
  refine .inr ⟨f, _, run_callV ho (evs hs hargs) hf hb hnm w, ?_⟩
  refine (hfn w (fun b => b < w.heap.size) (fun b h => h) (by simp) (by simp) (hpre w _ hm (fun b hb => hb.1) (fun j _ o ho b hb => hm.lt (List.mem_flatMap.2 ⟨o, List.mem_of_getElem? ho, hb⟩))) (by simp)).mono ?_
  rintro e' w' ⟨i, he, hbel, _, hlo, hz⟩
  have hbel' : Below w.heap.size w w' := (by simpa using hbel : Bel w.heap.size [] w w').below
  refine ⟨i, he, hbel', ?_⟩
  obtain ⟨h1, _⟩ := hz (fun _ => True) (fun _ _ _ _ => trivial)
  have h2 := h1 (oRow i e τ xs) (by simp)
  have h3 := flat_row hτ _ (fun _ => False) _ h2
  refine row_dat h3 (fun b hb => hb.elim) (fun b hb => ?_)
  have h4 : w.heap.size ≤ b := by
    rcases hlo b (by simpa using hb) with h | h
    · simp at h
    · exact h
  refine ⟨(oRow i e τ xs).lt h2 b hb, fun hx => ?_, fun hlt => ?_⟩
  · have := h0.lt hx; omega
  · have := h0.size; have hlt' : b < m0.B := hlt; omega
theorem tl_eq {l : List Oper} {d : Nat} {t : Value} (j : Nat) (hL : L[j]? = some (d, fun v => fEq v t)) (h : TailOk P ops l Q m0 L n m (put S d t)) : TailOk P ops l Q m0 L n m S := fun w a h0 hm hf hs hE => by
  have h1 := hE j
  unfold FactAt at h1; rw [hL] at h1
  exact h w a h0 hm hf (hs.put_at h1) hE
theorem tl_fact {l : List Oper} {d : Nat} {R' : Value → Fact} (j : Nat) (hL : L[j]? = some (d, R')) (h : ∀ v, TailOk P ops l Q m0 L n (m.add (R' v)) (put S d v)) : TailOk P ops l Q m0 L n m S := fun w a h0 hm hf hs hE => by
  have h1 := hE j
  unfold FactAt at h1; rw [hL] at h1
  exact h _ w a h0 (hm.add (by rw [hf]; exact h1)) hf (hs.put_at rfl) hE
theorem tl_done {l : List Oper} (h : AL P ops l Q n m S) : TailOk P ops l Q m0 L n m S := fun w a h0 hm hf hs hE => h w a hm hs
end
end Go.Proofs.Ytiioclkiapbjnaa.En
namespace Go.Proofs.Ytiioclkiapbjnaa.En
open Go.RowKit Go.ChangeShapes Go.WideShapes Go.Deep
set_option linter.unusedVariables false
set_option linter.unusedSimpArgs false
section
variable {H : Type} {P : Program} {α β : Type}
def Full (w : World) (b : Nat) : Prop := b < w.heap.size
def Opn (H : Type) (P : Program) (t : TypeId) (τ : Ty α) (ok : α → Prop) : Prop := ∀ (enc : TypeId × Value → H) (w : World) (base : Nat) (spare : Nat → Bool) (held : Bool) (n : Nat) (cs : List Value) y, DataW.trod enc P w base spare held n t cs = some y → ∃ x, ok x ∧ τ.rep (Full w) w cs x
theorem opn_int {t : TypeId} {k : IntKind} (hu : P.underlying t = some (.int k)) : Opn H P t (tyInt k) (fun x => (Lit.int k x).wf = true) := fun enc w base spare held n cs y h => by
  obtain ⟨x, hx, _, hwf⟩ := DataW.trod_int hu h
  exact ⟨x, hwf, hx⟩
theorem opn_str {t : TypeId} (hu : P.underlying t = some .string) : Opn H P t tyStr (fun x => x.length ≤ 9223372036854775807) := fun enc w base spare held n cs y h => by
  obtain ⟨x, hx, _, hs⟩ := DataW.trod_string hu h
  refine ⟨x.data.toList, ?_, ?_⟩
  · unfold maxLen at hs; simpa using hs
  · show cs = [str x.data.toList]
    rw [hx]; simp [str]
theorem RepL.mk' {τ : Ty α} {Z : Nat → Prop} {w : World} : ∀ (xs : List α) (CS : List (List Value)), CS.length = xs.length → (∀ (i : Nat) (c : List Value) (x : α), CS[i]? = some c → xs[i]? = some x → τ.rep Z w c x) → RepL τ Z w CS.flatten xs
  | [], [], _, _ => rfl
  | [], _ :: _, h, _ => by simp at h
  | _ :: _, [], h, _ => by simp at h
  | x :: xs, c :: CS, h, hr => ⟨c, CS.flatten, rfl, hr 0 c x rfl rfl, RepL.mk' xs CS (by simpa using h) (fun i c' x' h1 h2 => hr (i + 1) c' x' (by simpa using h1) (by simpa using h2))⟩
theorem exists_list {γ : Type} {p : Nat → γ → Prop} : ∀ n : Nat, (∀ i, i < n → ∃ x, p i x) → ∃ l : List γ, l.length = n ∧ ∀ (i : Nat) (x : γ), l[i]? = some x → p i x
  | 0, _ => ⟨[], rfl, by simp⟩
  | n + 1, h => by
    obtain ⟨l, hl, hp⟩ := exists_list n (fun i hi => h i (by omega))
    obtain ⟨x, hx⟩ := h n (by omega)
    refine ⟨l ++ [x], by simp [hl], fun i y hy => ?_⟩
    by_cases hi : i < n
    · rw [List.getElem?_append_left (by omega)] at hy; exact hp i y hy
    · have hlt := (List.getElem?_eq_some_iff.1 hy).1
      rw [List.length_append, hl] at hlt
      have : i = n := by simp at hlt; omega
      subst this
      rw [List.getElem?_append_right (by omega), hl] at hy
      simp at hy; subst hy; exact hx
def okL (ok : α → Prop) (xs : List α) : Prop := xs.length ≤ 9223372036854775807 ∧ ∀ x ∈ xs, ok x
theorem opn_list {t e : TypeId} {τ : Ty α} {ok : α → Prop} (hu : P.underlying t = some (.slice e)) (hsz : szOf P e = some τ.size) (hpos : Nat.blt 0 τ.size = true) (he : Opn H P e τ ok) : Opn H P t (tyList τ) (okL ok) := fun enc w base spare held n cs y h => by
  have hce : P.cellsOf e = τ.size := by
    unfold szOf at hsz; unfold Program.cellsOf; rw [hsz]; rfl
  rcases open_slice hu h with ⟨hcs, _⟩ | ⟨a, len, cap, m, n', D, Pl, hcs, hb, hle, hm, hmm, _, hx⟩
  · exact ⟨[], ⟨by simp, by simp⟩, none, 0, 0, hcs, rfl, Nat.le_refl _, Nat.zero_le _, .inl rfl⟩
  · have hmn : len ≤ m := by rw [hmm]; split <;> omega
    obtain ⟨L, hL, hp⟩ := exists_list (γ := List Value × α) (p := fun i p => w.cells? base (a.add (i * P.cellsOf e)) (P.cellsOf e) = some p.1 ∧ ok p.2 ∧ τ.rep (Full w) w p.1 p.2) len (fun i hi => by
      obtain ⟨cs', h1, h2⟩ := hx i (by omega)
      obtain ⟨x, hok, hr⟩ := he enc w base spare held _ cs' _ h2
      exact ⟨(cs', x), h1, hok, hr⟩)
    have hlen : (L.map (·.2)).length = len := by simp [hL]
    refine ⟨L.map (·.2), ⟨by rw [hlen]; unfold maxLen at hm; omega, fun x hx => ?_⟩, some a, len, cap, hcs, hlen.symm, hle, Nat.le_trans hle hm, ?_⟩
    · obtain ⟨p, hpm, rfl⟩ := List.mem_map.1 hx
      obtain ⟨i, hi⟩ := List.getElem?_of_mem hpm
      exact (hp i p hi).2.1
    · by_cases h0 : len = 0
      · exact .inl h0
      right
      have hchunk : ∀ c ∈ L.map (·.1), c.length = τ.size := fun c hc => by
        obtain ⟨p, hpm, rfl⟩ := List.mem_map.1 hc
        obtain ⟨i, hi⟩ := List.getElem?_of_mem hpm
        exact τ.len (hp i p hi).2.2
      refine ⟨a, (L.map (·.1)).flatten, rfl, ⟨?_, fun j u hj => ?_⟩, RepL.mk' _ _ (by simp) (fun i c x h1 h2 => ?_)⟩
      · obtain ⟨p, hpi⟩ : ∃ p, L[0]? = some p := ⟨L[0], List.getElem?_eq_getElem (by omega)⟩
        obtain ⟨_, hl2, hat⟩ := World.cells?_some (hp 0 p hpi).1
        have hpos' : 0 < τ.size := by simpa [Nat.blt_eq] using hpos
        have hc := hat 0 (by rw [hce]; exact hpos')
        have hlt : 0 < p.1.length := by rw [hl2, hce]; exact hpos'
        rw [List.getElem?_eq_getElem hlt] at hc
        have := World.block_lt_of_cell? w _ hc
        rw [add_block, add_block] at this
        exact this
      · -- the cell j lies in the chunk j / size
        have key : ∀ (CS : List (List Value)) (i0 : Nat), (∀ c ∈ CS, c.length = τ.size) → (∀ i c, CS[i]? = some c → ∀ r, r < τ.size → w.cell? ((a.add ((i0 + i) * τ.size)).add r) = c[r]?) → ∀ j u, CS.flatten[j]? = some u → w.cell? (a.add (i0 * τ.size + j)) = some u := by
          intro CS
          induction CS with
          | nil => intro i0 _ _ j u hj; simp at hj
          | cons c CS ih =>
            intro i0 hc hcell j u hj
            rw [List.flatten_cons] at hj
            have hcl := hc c (by simp)
            by_cases hjc : j < τ.size
            · rw [List.getElem?_append_left (by omega)] at hj
              have := hcell 0 c rfl j hjc
              rw [add_add, Nat.add_zero, hj] at this
              exact this
            · rw [List.getElem?_append_right (by omega), hcl] at hj
              have := ih (i0 + 1) (fun c' hc' => hc c' (by simp [hc'])) (fun i c' hi r hr => by
                have := hcell (i + 1) c' (by simpa using hi) r hr
                rw [show i0 + 1 + i = i0 + (i + 1) by omega]; exact this) (j - τ.size) u hj
              rw [Nat.succ_mul] at this
              rw [show i0 * τ.size + j = i0 * τ.size + τ.size + (j - τ.size) by omega]
              exact this
        have := key (L.map (·.1)) 0 hchunk (fun i c hi r hr => by
          rw [List.getElem?_map] at hi
          obtain ⟨p, hpi, rfl⟩ := Option.map_eq_some_iff.1 hi
          obtain ⟨_, _, hat⟩ := World.cells?_some (hp i p hpi).1
          rw [hce] at hat
          rw [Nat.zero_add]
          exact hat r hr) j u hj
        rw [Nat.zero_mul, Nat.zero_add] at this
        exact this
      · rw [List.getElem?_map] at h1 h2
        obtain ⟨p, hpi, rfl⟩ := Option.map_eq_some_iff.1 h1
        obtain ⟨q, hqi, rfl⟩ := Option.map_eq_some_iff.1 h2
        rw [hpi] at hqi
        cases hqi
        exact (hp i p hpi).2.2
def FieldsOpn (H : Type) (P : Program) (fs : List (Nat × TypeId)) (off : Nat) (τ : Ty α) (ok : α → Prop) : Prop := ∀ (enc : TypeId × Value → H) (w : World) (base : Nat) (spare : Nat → Bool) (held : Bool) (n : Nat) (cs : List Value),
  (∀ f ∈ fs, ∃ y, DataW.trod enc P w base spare held n f.2 ((cs.drop f.1).take (P.cellsOf f.2)) = some y) → ∃ x, ok x ∧ τ.rep (Full w) w ((cs.drop off).take τ.size) x
theorem fields_one {t : TypeId} {off : Nat} {τ : Ty α} {ok : α → Prop} (hsz : szOf P t = some τ.size) (h : Opn H P t τ ok) : FieldsOpn H P [(off, t)] off τ ok := fun enc w base spare held n cs hf => by
  obtain ⟨y, hy⟩ := hf (off, t) (by simp)
  have hce : P.cellsOf t = τ.size := by unfold szOf at hsz; unfold Program.cellsOf; rw [hsz]; rfl
  rw [hce] at hy
  exact h enc w base spare held n _ y hy
theorem fields_cons {t : TypeId} {off : Nat} {τ : Ty α} {υ : Ty β} {ok : α → Prop} {okb : β → Prop} {fs : List (Nat × TypeId)} (hsz : szOf P t = some τ.size) (h : Opn H P t τ ok) (hr : FieldsOpn H P fs (off + τ.size) υ okb) : FieldsOpn H P ((off, t) :: fs) off (tyPair τ υ) (fun x => ok x.1 ∧ okb x.2) := fun enc w base spare held n cs hf => by
  obtain ⟨y, hy⟩ := hf (off, t) (by simp)
  have hce : P.cellsOf t = τ.size := by unfold szOf at hsz; unfold Program.cellsOf; rw [hsz]; rfl
  rw [hce] at hy
  obtain ⟨x, h1, h2⟩ := h enc w base spare held n _ y hy
  obtain ⟨z, h3, h4⟩ := hr enc w base spare held n cs (fun f hff => hf f (by simp [hff]))
  refine ⟨(x, z), ⟨h1, h3⟩, _, _, ?_, h2, h4⟩
  rw [show (tyPair τ υ).size = τ.size + υ.size from rfl, List.take_add, List.drop_drop]
theorem opn_struct {t : TypeId} {fs : Array Field} {υ : Ty β} {ok : β → Prop} (f : α → β) (g : β → α) (hfg : ∀ y, f (g y) = y) (hu : P.underlying t = some (.struct fs)) (hsz : szOf P t = some υ.size) (hr : FieldsOpn H P (fs.toList.map fun f => (f.offset, f.type)) 0 υ ok) : Opn H P t (tyVia f υ) (fun x => ok (f x)) := fun enc w base spare held n cs y h => by
  obtain ⟨xs, m, _, _, hcl, hxl, hf⟩ := DataW.trod_struct hu h
  have hce : P.cellsOf t = υ.size := by unfold szOf at hsz; unfold Program.cellsOf; rw [hsz]; rfl
  obtain ⟨z, h1, h2⟩ := hr enc w base spare held m cs (fun p hp => by
    obtain ⟨fl, hfl, rfl⟩ := List.mem_map.1 hp
    obtain ⟨i, hi⟩ := List.getElem?_of_mem hfl
    have hi' : fs[i]? = some fl := by simpa using hi
    have hlt : i < xs.length := by rw [hxl]; exact (Array.getElem?_eq_some_iff.1 hi').1
    exact ⟨xs[i], (hf i fl hi').trans (List.getElem?_eq_getElem hlt)⟩)
  refine ⟨g z, (by show ok (f (g z)); rw [hfg]; exact h1), ?_⟩
  show υ.rep _ _ cs (f (g z))
  rw [hfg]
  rw [List.drop_zero, List.take_of_length_le (by rw [hcl, hce]; exact Nat.le_refl _)] at h2
  exact h2
variable {w : World} {base : Nat} {spare : Nat → Bool} {held : Bool} {enc : TypeId × Value → H} {v : Value} {d : DataW H} {ps : List MemPlace} {r : Reach} {b0 : Nat} {t : TypeId}
theorem par_str (ht : P.underlying t = some .string) (hval : Value.okWide P w r b0 t v) (hd : DataW.Trod enc P w base spare held t v d ps) : ∃ l : List UInt8, v = str l ∧ d = .lit (.string l) ∧ ps = [] ∧ l.length ≤ 9223372036854775807 := by
  obtain ⟨s, rfl⟩ := okWide_string ht hval
  obtain ⟨fuel, hf⟩ := hd
  obtain ⟨s', h, hx, hs⟩ := DataW.trod_string ht hf
  simp [Value.cells] at h
  subst h
  simp at hx
  exact ⟨s.data.toList, by simp [str], hx.1, hx.2, by unfold maxLen at hs; simpa using hs⟩
theorem par_slice {e : TypeId} {τ : Ty α} {ok : List α → Prop} (ht : P.underlying t = some (.slice e)) (ho : Opn H P t (tyList τ) ok) (hval : Value.okWide P w r b0 t v) (hd : DataW.Trod enc P w base spare held t v d ps) : ∃ xs, ok xs ∧ (tyList τ).rep (Full w) w [v] xs := by
  obtain ⟨A, l, c, rfl⟩ := okWide_slice ht hval
  obtain ⟨fuel, hf⟩ := hd
  exact ho enc w base spare held fuel _ _ hf
theorem par_agg {τ : Ty α} {ok : α → Prop} {dd : TypeDesc} (ht : P.underlying t = some dd) (hdd : isAggD dd = true) (ho : Opn H P t τ ok) (hval : Value.okWide P w r b0 t v) (hd : DataW.Trod enc P w base spare held t v d ps) : ∃ cs x, v = ag cs ∧ ok x ∧ τ.rep (Full w) w cs x := by
  have : ∃ cs : Array Value, v = .agg cs := by
    unfold Value.okWide at hval
    rw [ht] at hval
    cases dd <;> simp [isAggD] at hdd <;> (obtain ⟨cs, h, _⟩ := hval; exact ⟨cs, h⟩)
  obtain ⟨cs, rfl⟩ := this
  obtain ⟨fuel, hf⟩ := hd
  obtain ⟨x, h1, h2⟩ := ho enc w base spare held fuel _ _ hf
  exact ⟨cs.toList, x, by simp [ag], h1, h2⟩
theorem law_call {f : FuncId} {args : List Value} {pre : List Fact} {W : World} (h : FnOk P f args pre [] (fun _ : Unit => { val := .bool true })) (hpre : ∀ g ∈ pre, g.p (Full W) W) :
    Calls P f args.toArray W fun e w' => e = .returned (.bool true) ∧ Below W.heap.size W w' :=
  (h W (Full W) (fun b h => h) (by simp) (by simp) hpre (by simp)).mono (by
    rintro e w' ⟨i, he, hbel, _⟩
    exact ⟨he, (by simpa using hbel : Bel W.heap.size [] W w').below⟩)
theorem all_nil : ∀ g ∈ ([] : List Fact), g.p (Full w) w := by simp
theorem all_cons {g : Fact} {l : List Fact} (h : g.p (Full w) w) (hl : ∀ g ∈ l, g.p (Full w) w) : ∀ g' ∈ g :: l, g'.p (Full w) w := by
  intro g' hg'
  rcases List.mem_cons.1 hg' with rfl | hg'
  · exact h
  · exact hl g' hg'
end
end Go.Proofs.Ytiioclkiapbjnaa.En
namespace Go.Proofs.Ytiioclkiapbjnaa.En
open Go.RowKit
set_option linter.unusedVariables false
set_option linter.unusedSimpArgs false
section
variable {P : Program} {Q : Exit → Act → World → Prop} {n : Nat} {m : Mem} {S : Sl} {ops : Array Oper} {rest : List Oper} {o : Oper} {α β ι : Type}
def oneRes (tmps : Array Value) : ResultVar → Sem Value
  | .tmp t => pure (tmps.getD t undef)
  | .cell a t => do loadVar t (← asAddr (tmps.getD a undef))
def RL (P : Program) (n : Nat) (m : Mem) (S : Sl) (rs : List ResultVar) (vs : List Value) : Prop :=
  ∀ w a, Holds m w → Sat n S a → (rs.mapM (oneRes a.tmps)).run P w = .ok vs w
theorem resN : RL P n m S [] [] := fun w a _ _ => by simp
def tupOf : List Value → Value
  | [v] => v
  | vs => .tuple vs.toArray
theorem resC {fn : Func} {rs : List ResultVar} {vs : List Value} {v : Value} (hr : fn.results = rs.toArray) (h : RL P n m S rs vs) (hv : tupOf vs = v) : ∀ w a, Holds m w → Sat n S a → (results fn a.tmps).run P w = .ok v w := fun w a hm hs => by
  have hq := h w a hm hs
  have he : results fn a.tmps = (do let vs ← fn.results.mapM (oneRes a.tmps); pure (if h : vs.size = 1 then vs[0] else .tuple vs)) := rfl
  rw [he, hr, List.mapM_toArray]
  simp only [Sem.run_bind, map_eq_pure_bind, hq, Result.andThen_ok, Sem.run_pure]
  rw [← hv]
  match vs with
  | [] => rfl
  | [x] => rfl
  | x :: y :: zs => simp [tupOf]
theorem al_isNilD {d : Nat} {τ : Ty α} {v : Value} {xs : List α} (i : Nat) {t e yt : TypeId} {x y : Operand} (hi : m.fz[i]? = some (fDat (tyList τ) [v] xs)) (hx : ev S x = some v) (hy : ev S y = some (.slice none 0 0)) (ht : P.underlying t = some (.slice e)) (ho : o.op = .binOp .eql t x y yt)
    (h : ∀ b, (b = true → xs = []) → AL P ops rest Q n m (put S d (.bool b))) (hdd : o.dst = some d := by rfl) (hd : Nat.blt d n = true := by rfl) (hg : wantS ops S o true = true := by rfl) : AL P ops (o :: rest) Q n m S :=
  al_step hg fun w a hm hs K hK => by
    obtain ⟨A, l, c, he, hl, _, _, hr⟩ := fz_at hm hi
    have he' : v = .slice A l c := by simpa using he
    refine step_val (w' := w) (v := .bool A.isNone) ?_ (hK _ _ (h _ (fun hb => ?_) w _ hm (hs.put' hdd hd _)))
    · unfold execOp
      simp only [ho, hs.ev hx, hs.ev hy, he']
      simp [eqGuard, binOp, run_equal_slice_nil (P := P) w t e A l c ht]
    · rcases hr with hr | ⟨ad, cs, rfl, _⟩
      · exact List.eq_nil_of_length_eq_zero (by omega)
      · cases hb
def amb {β : Type} [DecidableEq β] (c : Bool) (a b : Option β) : Option β := bif c then (if a = b then b else none) else b
theorem amb_some {β : Type} [DecidableEq β] {c : Bool} {a b : Option β} {r : β} (h : amb c a b = some r) : b = some r ∧ (c = true → a = some r) := by
  unfold amb at h
  cases c with
  | false => exact ⟨h, fun h => by cases h⟩
  | true =>
    simp only [cond_true] at h
    split at h
    · rename_i he; exact ⟨h, fun _ => he ▸ h⟩
    · cases h
theorem amb_same {β : Type} [DecidableEq β] {c : Bool} {a : Option β} : amb c a a = a := by unfold amb; cases c <;> simp
theorem isEmpty_of {xs : List α} (h : xs = []) : xs.isEmpty = true := by rw [h]; rfl
end
end Go.Proofs.Ytiioclkiapbjnaa.En
namespace Go.Proofs.Ytiioclkiapbjnaa.En
open Go.RowKit
set_option linter.unusedVariables false
set_option linter.unusedSimpArgs false
section
variable {P : Program} {Q : Exit → Act → World → Prop} {n : Nat} {m : Mem} {S : Sl} {ops : Array Oper} {rest : List Oper} {o : Oper} {α β ι : Type}
theorem ov_fieldA {t : TypeId} {x : Operand} {j g off k p : Nat} {fs : Array Field} {f : Field} (hx : ev S x = some (ptr g off)) (hu : P.underlying t = some (.struct fs)) (hf : fs[j]? = some f) (hk : szOf P f.type = some k) (hk0 : Nat.beq k 0 = false) (ho : o.op = .fieldAddr t x j) (hp : off + f.offset = p) : OpV P o n m S (ptr g p) := by
  subst hp; exact ov_fieldAddr hx hu hf hk hk0 ho
end
end Go.Proofs.Ytiioclkiapbjnaa.En
namespace Go.Proofs.Ytiioclkiapbjnaa
open Go.RowKit
set_option linter.unusedVariables false
set_option linter.unusedSimpArgs false
theorem add_block (a : Addr) (n : Nat) : (a.add n).block = a.block := by unfold Addr.add; split <;> rfl
theorem add_plain (g o n : Nat) : (⟨g, o, none⟩ : Addr).add n = ⟨g, o + n, none⟩ := by unfold Addr.add; split <;> simp_all
theorem add_add (a : Addr) (i j : Nat) : (a.add i).add j = a.add (i + j) := by
  unfold Addr.add
  by_cases hi : i = 0 <;> by_cases hj : j = 0 <;> simp [hi, hj, Nat.add_assoc]
def Rd (w : World) (B sz : Nat) (A : Option Addr) (n : Nat) (xs : List Value) : Prop :=
  xs.length = n * sz ∧ ∀ j u, xs[j]? = some u → ∃ ad, A = some ad ∧ ad.block < B ∧ w.cell? (ad.add j) = some u
section
variable {w w' : World} {B B' sz n : Nat} {A : Option Addr} {xs : List Value}
theorem Rd.at (h : Rd w B sz A n xs) {k : Nat} {u : Value} (hk : xs[k]? = some u) : ∃ ad, A = some ad ∧ ad.block < B ∧ w.cell? (ad.add k) = some u := h.2 k u hk
theorem Rd.keep (h : Rd w B sz A n xs) (hk : ∀ p : Addr, p.block < B → w'.cell? p = w.cell? p) : Rd w' B sz A n xs :=
  ⟨h.1, fun j u hu => by
    obtain ⟨ad, e, hb, hc⟩ := h.2 j u hu
    exact ⟨ad, e, hb, (hk _ (by rw [add_block]; exact hb)).trans hc⟩⟩
theorem Rd.below (h : Rd w B sz A n xs) (hb : Below B' w w') (hB : B ≤ B') : Rd w' B sz A n xs := h.keep fun _ hp => hb.cell (by omega)
theorem Rd.nil : Rd w B sz A 0 [] := ⟨by simp, fun j u hu => by simp at hu⟩
theorem Rd.lit (w : World) (cs : Array Value) (e : TypeId) (fr : Nat × Nat) (n : Nat) (xs : List Value) (hx : ∀ (j : Nat) (u : Value), xs[j]? = some u → cs.toList[j]? = some u) (hl : xs.length = n * sz) (hB : w.heap.size < B) :
    Rd (w.alloc (.cells cs e fr)) B sz (some ⟨w.heap.size, 0, none⟩) n xs :=
  ⟨hl, fun j u hu => ⟨_, rfl, hB, by
    rw [add_plain, Nat.zero_add, cell_of_row _ _ j cs e fr (heap_alloc_new w _)]
    simpa using hx j u hu⟩⟩
end
def Blk (w : World) (g : Nat) (t : TypeId) (cs : Array Value) : Prop := w.heap[g]? = some (.cells cs t (0, 0))
section
variable {w w' : World} {g : Nat} {t : TypeId} {cs : Array Value}
theorem Blk.lt (h : Blk w g t cs) : g < w.heap.size := by
  rcases Nat.lt_or_ge g w.heap.size with hlt | hge
  · exact hlt
  · unfold Blk at h; rw [Array.getElem?_eq_none hge] at h; cases h
theorem Blk.cell (h : Blk w g t cs) (i : Nat) : w.cell? ⟨g, i, none⟩ = cs[i]? := cell_of_row w g i cs t (0, 0) h
theorem Blk.new (w : World) (t : TypeId) (cs : Array Value) : Blk (w.alloc (.cells cs t)) w.heap.size t cs := heap_alloc_new w _
theorem Blk.drew (h : Blk w g t cs) : Blk w.drew g t cs := h
theorem Blk.alloc (h : Blk w g t cs) (o : Obj) : Blk (w.alloc o) g t cs := (Below.heap_alloc w o g h.lt).trans h
theorem Blk.set (h : Blk w g t cs) (i : Nat) (u : Value) : Blk (w.setCell ⟨g, i, none⟩ u) g t (cs.setIfInBounds i u) := by
  unfold Blk at h ⊢
  simp [World.setCell, Array.getElem?_modify, h]
theorem Blk.below {B : Nat} (h : Blk w g t cs) (hb : Below B w w') (hg : g < B) : Blk w' g t cs := (hb.block g hg).trans h
end
theorem Rd.drew {w : World} {B sz n : Nat} {A : Option Addr} {xs : List Value} (h : Rd w B sz A n xs) : Rd w.drew B sz A n xs := h
theorem Blk.setRow {w : World} {g : Nat} {t : TypeId} {old : Array Value} (h : Blk w g t old) (cs : Array Value) : Blk (w.setRow g cs) g t cs := setRow_heap w g old cs t (0, 0) h
theorem Rd.chunk {w : World} {B sz n : Nat} {A : Option Addr} {xs : List Value} (h : Rd w B sz A n xs) (hsz : 0 < sz) {k : Nat} (hk : k < n) :
    ∃ ad, A = some ad ∧ ad.block < B ∧ ∀ j u, ((xs.drop (k * sz)).take sz)[j]? = some u → w.cell? ((ad.add (k * sz)).add j) = some u := by
  have hlen := h.1
  have hlt : k * sz < xs.length := by
    rw [hlen]; exact Nat.mul_lt_mul_of_pos_right hk hsz
  obtain ⟨ad, e, hb, _⟩ := h.2 (k * sz) xs[k * sz] (List.getElem?_eq_getElem hlt)
  refine ⟨ad, e, hb, fun j u hu => ?_⟩
  rw [List.getElem?_take] at hu
  split at hu
  · rw [List.getElem?_drop] at hu
    obtain ⟨ad', e', _, hc⟩ := h.2 _ u hu
    rw [e] at e'
    injection e' with e'
    subst e'
    rw [add_add]
    exact hc
  · cases hu
section
variable {w w' : World} {base : Nat} {e : TypeId} {sz n : Nat} {v : Value} {xs : List Value}
end
end Go.Proofs.Ytiioclkiapbjnaa
namespace Go.Proofs.Ytiioclkiapbjnaa
open Go.RowKit
set_option linter.unusedVariables false
set_option linter.unusedSimpArgs false
section
variable {P : Program} (w : World)
end
end Go.Proofs.Ytiioclkiapbjnaa
namespace Go.Proofs.Ytiioclkiapbjnaa.En
open Go.RowKit Ytiioclkiapbjnaa
set_option linter.unusedVariables false
set_option linter.unusedSimpArgs false
section
variable {P : Program} {Q : Exit → Act → World → Prop} {n : Nat} {m : Mem} {S : Sl} {ops : Array Oper} {rest : List Oper} {o : Oper} {α β ι : Type}
end
end Go.Proofs.Ytiioclkiapbjnaa.En
namespace Go.Proofs.Ytiioclkiapbjnaa.En
open Go.RowKit Ytiioclkiapbjnaa
set_option linter.unusedVariables false
set_option linter.unusedSimpArgs false
section
variable {P : Program} {Q : Exit → Act → World → Prop} {n : Nat} {m : Mem} {S : Sl} {ops : Array Oper} {rest : List Oper} {o : Oper} {α β ι : Type}
end
end Go.Proofs.Ytiioclkiapbjnaa.En
namespace Go.Proofs.Ytiioclkiapbjnaa.En
open Go.RowKit
set_option linter.unusedVariables false
set_option linter.unusedSimpArgs false
def Mem.plus (m : Mem) (X : List Own) (Y : List Fact) : Mem := { m with own := m.own ++ X, fz := m.fz ++ Y }
structure Sp where
  i : Nat
  d : Nat
  ι : Type
  res : ι → Res
def Got (a : Act) (lst : Array Bool) : List Sp → List Own → List Fact → Prop
  | [], X, Y => X = [] ∧ Y = []
  | s :: L, X, Y => (lst.getD s.i false = false ∧ Got a lst L X Y) ∨ (lst.getD s.i false = true ∧ ∃ j X' Y', a.tmps.getD s.d undef = (s.res j).val ∧ X = (s.res j).own ++ X' ∧ Y = (s.res j).fz ++ Y' ∧ Got a lst L X' Y')
def over (S F : Sl) : Sl := fun t => match S t with | some v => some v | none => F t
theorem Sat.over {n : Nat} {S F : Sl} {a : Act} (h : Sat n S a) (hF : ∀ t v, F t = some v → a.tmps.getD t undef = v) : Sat n (over S F) a :=
  ⟨h.def_, h.size, fun t v hv => by
    unfold En.over at hv
    cases hS : S t with
    | some u => rw [hS] at hv; exact (Option.some.inj hv) ▸ h.val t u hS
    | none => rw [hS] at hv; exact hF t v hv⟩
theorem Holds.re {m : Mem} {w : World} {own' rest : List Own} {fz' : List Fact} (h : Holds m w) (hp : (own' ++ rest).Perm m.own) (hf : ∀ f ∈ fz', f ∈ m.fz) : Holds { m with own := own', fz := fz' } w :=
  (h.reown own' (fun o ho => hp.mem_iff.1 (List.mem_append_left _ ho)) (by
    have h1 := ((List.Perm.flatMap_right Own.blk hp).nodup_iff).2 h.nd
    rw [List.flatMap_append, List.nodup_append] at h1
    exact h1.1)).refz fz' hf
def QK (K : Act → World → Prop) : Exit → Act → World → Prop := fun e a w => match e with | .normal => K a w | _ => False
theorem not_outQK {K : Act → World → Prop} (h : LetsOut (QK K)) : False := by obtain ⟨a, w, h⟩ := h; exact h
theorem wp_QK {P : Program} {o : Oper} {a : Act} {w : World} {K K' : Act → World → Prop} {Q : Exit → Act → World → Prop} (h : o.wp P a w K (QK K')) : o.wp P a w K Q := by
  unfold Oper.wp at *
  generalize (execOp a.eval o).run P w = r at *
  cases r with
  | ok x w' =>
    cases x <;> simp only [Oper.upon] at h ⊢ <;>
      first
        | exact h
        | exact Calls.mono h (fun e w'' he => by
            cases e with
            | returned v => exact he
            | panicked ch => exact he.elim
            | outgrown => exact (not_outQK he).elim)
  | halt x w' => cases x <;> simp only [Oper.upon] at h ⊢ <;> exact h.elim
theorem wpOp_of {P : Program} {ops : Array Oper} {Q : Exit → Act → World → Prop} {K : Act → World → Prop} {i : Nat} {o : Oper} {a : Act} {w : World} (ho : ops[i]? = some o) (h : wpList P ops (QK K) [o] a w) : wpOp P ops Q i K a w := by
  unfold wpOp
  rw [ho]
  simp only
  unfold wpList at h
  split at h
  · rename_i hw
    rw [if_pos hw]
    rcases h with h | ⟨_, h⟩
    · exact .inl (wp_QK h)
    · exact (not_outQK h).elim
  · rename_i hw
    rw [if_neg hw]
    exact h
def preds (l : List Oper) (i : Nat) : List Nat := match l[i]? with | some o => edgesOf o | none => []
def reachGo (l : List Oper) : Nat → List Nat → List Nat
  | 0, acc => acc
  | i + 1, acc => if acc.contains i then reachGo l i (preds l i ++ acc) else reachGo l i acc
theorem edge_mem {o : Oper} {j : Nat} : j ∈ edgesOf o ↔ ∃ e ∈ o.after, Region.binds .any e = true ∧ e.on = j := by
  unfold edgesOf
  rw [List.mem_map]
  constructor
  · rintro ⟨e, he, rfl⟩
    have := List.mem_filter.1 he
    exact ⟨e, by simpa using this.1, this.2, rfl⟩
  · rintro ⟨e, he, hb, rfl⟩
    exact ⟨e, List.mem_filter.2 ⟨by simpa using he, hb⟩, rfl⟩
structure TInv (l : List Oper) (C : List Nat) (L : List Sp) (lst : Array Bool) : Prop where
  size : lst.size = l.length
  closed : ∀ j, lst.getD j false = true → ∀ e ∈ preds l j, lst.getD e false = true
  done : ∀ c ∈ C, lst.getD c false = true
  only : ∀ i, lst.getD i false = true → i ∈ C ∨ i ∈ L.map Sp.i
theorem reach_listed {l : List Oper} {lst : Array Bool} (hcl : ∀ j, lst.getD j false = true → ∀ e ∈ preds l j, lst.getD e false = true) : ∀ (k : Nat) (acc : List Nat), (∀ x ∈ acc, lst.getD x false = true) → ∀ x ∈ reachGo l k acc, lst.getD x false = true
  | 0, acc, h => h
  | k + 1, acc, h => by
    unfold reachGo
    split
    · rename_i hc
      refine reach_listed hcl k _ (fun x hx => ?_)
      rcases List.mem_append.1 hx with hx | hx
      · exact hcl k (h k (by simpa using hc)) x hx
      · exact h x hx
    · exact reach_listed hcl k acc h
section
variable {a a' : Act} {lst lst' : Array Bool}
theorem got_mem : ∀ {L : List Sp} {X : List Own} {Y : List Fact}, Got a lst L X Y → ∀ s ∈ L, lst.getD s.i false = true → ∃ j, a.tmps.getD s.d undef = (s.res j).val ∧ ∀ f ∈ (s.res j).fz, f ∈ Y
  | [], _, _, _, s, hs, _ => by simp at hs
  | t :: L, X, Y, h, s, hs, hl => by
    rcases h with ⟨h0, h⟩ | ⟨h0, j, X', Y', hv, hX, hY, h⟩
    · rcases List.mem_cons.1 hs with rfl | hs
      · rw [h0] at hl; cases hl
      · exact got_mem h s hs hl
    · rcases List.mem_cons.1 hs with rfl | hs
      · exact ⟨j, hv, fun f hf => by rw [hY]; exact List.mem_append_left _ hf⟩
      · obtain ⟨j', h1, h2⟩ := got_mem h s hs hl
        exact ⟨j', h1, fun f hf => by rw [hY]; exact List.mem_append_right _ (h2 f hf)⟩
theorem got_congr : ∀ {L : List Sp} {X : List Own} {Y : List Fact}, Got a lst L X Y → (∀ s ∈ L, lst'.getD s.i false = lst.getD s.i false ∧ (lst.getD s.i false = true → a'.tmps.getD s.d undef = a.tmps.getD s.d undef)) → Got a' lst' L X Y
  | [], _, _, h, _ => h
  | s :: L, X, Y, h, hc => by
    have h1 := hc s (by simp)
    rcases h with ⟨h0, h⟩ | ⟨h0, j, X', Y', hv, hX, hY, h⟩
    · exact .inl ⟨h1.1.trans h0, got_congr h (fun t ht => hc t (by simp [ht]))⟩
    · exact .inr ⟨h1.1.trans h0, j, X', Y', (h1.2 h0).trans hv, hX, hY, got_congr h (fun t ht => hc t (by simp [ht]))⟩
theorem got_ext : ∀ {L Ln : List Sp} {X : List Own} {Y : List Fact}, Got a lst L X Y → (∀ s ∈ Ln, lst.getD s.i false = false) → Got a lst (L ++ Ln) X Y
  | [], [], _, _, h, _ => h
  | [], s :: Ln, X, Y, h, hn => .inl ⟨hn s (by simp), got_ext (L := []) h (fun t ht => hn t (by simp [ht]))⟩
  | s :: L, Ln, X, Y, h, hn => by
    rcases h with ⟨h0, h⟩ | ⟨h0, j, X', Y', hv, hX, hY, h⟩
    · exact .inl ⟨h0, got_ext h hn⟩
    · exact .inr ⟨h0, j, X', Y', hv, hX, hY, got_ext h hn⟩
theorem got_split (p : Sp → Bool) : ∀ {L : List Sp} {X : List Own} {Y : List Fact}, Got a lst L X Y → ∃ Xm Ym Xf Yf, Got a lst (L.filter p) Xm Ym ∧ Got a lst (L.filter fun s => !p s) Xf Yf ∧ (Xm ++ Xf).Perm X ∧ (∀ f ∈ Ym, f ∈ Y) ∧ ∀ f ∈ Yf, f ∈ Y
  | [], X, Y, h => ⟨[], [], [], [], ⟨rfl, rfl⟩, ⟨rfl, rfl⟩, by rw [h.1]; exact .refl _, by simp, by simp⟩
  | s :: L, X, Y, h => by
    rcases h with ⟨h0, h⟩ | ⟨h0, j, X', Y', hv, hX, hY, h⟩
    · obtain ⟨Xm, Ym, Xf, Yf, h1, h2, h3, h4, h5⟩ := got_split p h
      cases hp : p s with
      | true =>
        rw [List.filter_cons_of_pos (by simpa using hp), List.filter_cons_of_neg (by simp [hp])]
        exact ⟨Xm, Ym, Xf, Yf, .inl ⟨h0, h1⟩, h2, h3, h4, h5⟩
      | false =>
        rw [List.filter_cons_of_neg (by simp [hp]), List.filter_cons_of_pos (by simp [hp])]
        exact ⟨Xm, Ym, Xf, Yf, h1, .inl ⟨h0, h2⟩, h3, h4, h5⟩
    · obtain ⟨Xm, Ym, Xf, Yf, h1, h2, h3, h4, h5⟩ := got_split p h
      subst hX hY
      cases hp : p s with
      | true =>
        rw [List.filter_cons_of_pos (by simpa using hp), List.filter_cons_of_neg (by simp [hp])]
        refine ⟨_, _, Xf, Yf, .inr ⟨h0, j, Xm, Ym, hv, rfl, rfl, h1⟩, h2, ?_, fun f hf => ?_, fun f hf => List.mem_append_right _ (h5 f hf)⟩
        · rw [List.append_assoc]; exact h3.append_left _
        · rcases List.mem_append.1 hf with hf | hf
          · exact List.mem_append_left _ hf
          · exact List.mem_append_right _ (h4 f hf)
      | false =>
        rw [List.filter_cons_of_neg (by simp [hp]), List.filter_cons_of_pos (by simp [hp])]
        refine ⟨Xm, Ym, _, _, h1, .inr ⟨h0, j, Xf, Yf, hv, rfl, rfl, h2⟩, ?_, fun f hf => List.mem_append_right _ (h4 f hf), fun f hf => ?_⟩
        · rw [← List.append_assoc]
          refine (List.Perm.append_right _ List.perm_append_comm).trans ?_
          rw [List.append_assoc]; exact h3.append_left _
        · rcases List.mem_append.1 hf with hf | hf
          · exact List.mem_append_left _ hf
          · exact List.mem_append_right _ (h5 f hf)
theorem getD_set {lst : Array Bool} {i : Nat} (h : i < lst.size) : (lst.setIfInBounds i true).getD i false = true := by simp [h]
theorem got_set {s : Sp} (j : s.ι) (hv : a'.tmps.getD s.d undef = (s.res j).val) (hlt : s.i < lst.size) (h0 : lst.getD s.i false = false) : ∀ {L : List Sp} {X : List Own} {Y : List Fact}, Got a lst L X Y → (L.map Sp.i).Nodup → s ∈ L → (∀ t ∈ L, lst.getD t.i false = true → a'.tmps.getD t.d undef = a.tmps.getD t.d undef) →
    ∃ X' Y', Got a' (lst.setIfInBounds s.i true) L X' Y' ∧ X'.Perm ((s.res j).own ++ X) ∧ ∀ f ∈ Y', f ∈ (s.res j).fz ++ Y
  | [], _, _, _, _, hs, _ => by simp at hs
  | t :: L, X, Y, h, hnd, hs, hc => by
    rw [List.map_cons, List.nodup_cons] at hnd
    by_cases hst : s = t
    · subst hst
      rcases h with ⟨_, h⟩ | ⟨h1, _⟩
      · refine ⟨_, _, .inr ⟨getD_set hlt, j, X, Y, hv, rfl, rfl, got_congr h (fun q hq => ⟨?_, fun hl => hc q (by simp [hq]) hl⟩)⟩, .refl _, fun f hf => hf⟩
        exact getD_set_ne false (fun e => hnd.1 (by rw [e]; exact List.mem_map_of_mem hq))
      · rw [h0] at h1; cases h1
    · have hs' : s ∈ L := by
        rcases List.mem_cons.1 hs with h | h
        · exact absurd h hst
        · exact h
      have hne : s.i ≠ t.i := fun e => hnd.1 (by rw [← e]; exact List.mem_map_of_mem hs')
      rcases h with ⟨h1, h⟩ | ⟨h1, k, X', Y', hv', hX, hY, h⟩
      · obtain ⟨X2, Y2, g1, g2, g3⟩ := got_set j hv hlt h0 h hnd.2 hs' (fun q hq => hc q (by simp [hq]))
        exact ⟨X2, Y2, .inl ⟨(getD_set_ne false hne).trans h1, g1⟩, g2, g3⟩
      · obtain ⟨X2, Y2, g1, g2, g3⟩ := got_set j hv hlt h0 h hnd.2 hs' (fun q hq => hc q (by simp [hq]))
        subst hX hY
        refine ⟨_, _, .inr ⟨(getD_set_ne false hne).trans h1, k, X2, Y2, (hc t (by simp) h1).trans hv', rfl, rfl, g1⟩, ?_, fun f hf => ?_⟩
        · refine (g2.append_left _).trans ?_
          rw [← List.append_assoc, ← List.append_assoc]
          exact List.Perm.append_right _ List.perm_append_comm
        · rcases List.mem_append.1 hf with hf | hf
          · exact List.mem_append_right _ (List.mem_append_left _ hf)
          · rcases List.mem_append.1 (g3 f hf) with hf | hf
            · exact List.mem_append_left _ hf
            · exact List.mem_append_right _ (List.mem_append_right _ hf)
end
def Pull (G : Mem → Sl → Prop) : List Sp → Mem → Sl → Prop
  | [], m, S => G m S
  | s :: l, m, S => ∀ j : s.ι, Pull G l { m with own := (s.res j).own ++ m.own, fz := (s.res j).fz ++ m.fz } (put S s.d (s.res j).val)
def PullF (G : Mem → Sl → Prop) : List Sp → Mem → Sl → Prop
  | [], m, S => G m S
  | s :: l, m, S => ∀ j : s.ι, PullF G l { m with fz := (s.res j).fz ++ m.fz } (put S s.d (s.res j).val)
theorem beq_ff {a b : Nat} (h : a ≠ b) : Nat.beq a b = false := by
  cases hb : Nat.beq a b with
  | false => rfl
  | true => exact absurd (Nat.eq_of_beq_eq_true hb) h
theorem put_keeps {S : Sl} {d t : Nat} {v : Value} (h : (S t).isSome = true) : (put S d v t).isSome = true := by
  unfold put; cases Nat.beq t d <;> simp [h]
theorem pullF_use {n : Nat} {G : Mem → Sl → Prop} {a : Act} {Y : List Fact} : ∀ {L : List Sp} {m : Mem} {S : Sl}, PullF G L m S → (∀ s ∈ L, ∃ j, a.tmps.getD s.d undef = (s.res j).val ∧ ∀ f ∈ (s.res j).fz, f ∈ Y) → Sat n S a →
    ∃ ex S', G { m with fz := ex ++ m.fz } S' ∧ (∀ f ∈ ex, f ∈ Y) ∧ Sat n S' a ∧ ∀ t, (S t).isSome = true → (S' t).isSome = true
  | [], m, S, h, _, hs => ⟨[], S, h, by simp, hs, fun _ h => h⟩
  | s :: L, m, S, h, hg, hs => by
    obtain ⟨j, hv, hf⟩ := hg s (by simp)
    obtain ⟨ex, S', h1, h2, h3, h4⟩ := pullF_use (h j) (fun t ht => hg t (by simp [ht])) (hs.put_at hv)
    refine ⟨ex ++ (s.res j).fz, S', ?_, fun f hf' => ?_, h3, fun t ht => h4 t (put_keeps ht)⟩
    · rw [List.append_assoc]; exact h1
    · rcases List.mem_append.1 hf' with hf' | hf'
      · exact h2 f hf'
      · exact hf f hf'
theorem pull_use {n : Nat} {G : Mem → Sl → Prop} {a : Act} {lst : Array Bool} : ∀ {L : List Sp} {m : Mem} {S : Sl} {X : List Own} {Y : List Fact}, Pull G L m S → Got a lst L X Y → (∀ s ∈ L, lst.getD s.i false = true) → Sat n S a →
    ∃ ow ex S', G { m with own := ow ++ m.own, fz := ex ++ m.fz } S' ∧ ow.Perm X ∧ (∀ f ∈ ex, f ∈ Y) ∧ Sat n S' a ∧ ∀ t, (S t).isSome = true → (S' t).isSome = true
  | [], m, S, X, Y, h, hg, _, hs => ⟨[], [], S, h, by rw [hg.1], by simp, hs, fun _ h => h⟩
  | s :: L, m, S, X, Y, h, hg, hl, hs => by
    rcases hg with ⟨h0, _⟩ | ⟨_, j, X', Y', hv, hX, hY, hg⟩
    · rw [hl s (by simp)] at h0; cases h0
    · obtain ⟨ow, ex, S', h1, h2, h3, h4, h5⟩ := pull_use (h j) hg (fun t ht => hl t (by simp [ht])) (hs.put_at hv)
      subst hX hY
      refine ⟨ow ++ (s.res j).own, ex ++ (s.res j).fz, S', ?_, ?_, fun f hf => ?_, h4, fun t ht => h5 t (put_keeps ht)⟩
      · rw [List.append_assoc, List.append_assoc]; exact h1
      · exact List.perm_append_comm.trans (h2.append_left _)
      · rcases List.mem_append.1 hf with hf | hf
        · exact List.mem_append_right _ (h3 f hf)
        · exact List.mem_append_left _ hf
section
variable {P : Program} {Q : Exit → Act → World → Prop} {n : Nat} {m : Mem} {S : Sl} {l : List Oper} {C : List Nat} {L : List Sp}
def opened (lst : Array Bool) : Nat := ((List.range lst.size).filter fun i => !lst.getD i true).length
def TA (P : Program) (l : List Oper) (Q : Exit → Act → World → Prop) (n : Nat) (C : List Nat) (L : List Sp) (m : Mem) (S : Sl) : Prop :=
  ∀ lst a w X Y, TInv l C L lst → Got a lst L X Y → Holds (m.plus X Y) w → Sat n S a → wpAny P .any l.toArray Q (opened lst) lst a w
def FreeGoal (P : Program) (l : List Oper) (n : Nat) (o : Oper) (s : Sp) (m' : Mem) (S' : Sl) : Prop := ∀ (X : List Own) (Y : List Fact) (F : Sl) (K : Act → World → Prop),
  (∀ j a' w', Holds (m'.plus ((s.res j).own ++ X) ((s.res j).fz ++ Y)) w' → Sat n (put (over S' F) s.d (s.res j).val) a' → K a' w') → AL P l.toArray [o] (QK K) n (m'.plus X Y) (over S' F)
def picksS (L : List Sp) (ix : List Nat) : List Sp := ix.filterMap fun q => L[q]?
def FreeOk (P : Program) (l : List Oper) (n : Nat) (L : List Sp) (m : Mem) (S : Sl) (s : Sp) : Prop := ∃ o, l[s.i]? = some o ∧ ∃ ix : List Nat, ((picksS L ix).all fun t => (preds l s.i).contains t.i) = true ∧ PullF (FreeGoal P l n o s) (picksS L ix) m S
def FreeAll (P : Program) (l : List Oper) (n : Nat) (L : List Sp) (m : Mem) (S : Sl) : List Sp → Prop
  | [] => True
  | s :: r => FreeOk P l n L m S s ∧ FreeAll P l n L m S r
theorem FreeAll.mem : ∀ {r : List Sp}, FreeAll P l n L m S r → ∀ s ∈ r, FreeOk P l n L m S s
  | [], _, s, hs => by simp at hs
  | t :: r, h, s, hs => by
    rcases List.mem_cons.1 hs with rfl | hs
    · exact h.1
    · exact FreeAll.mem h.2 s hs
def Next (P : Program) (l : List Oper) (Q : Exit → Act → World → Prop) (n : Nat) (C1 In : List Nat) (Lf : List Sp) (X : List Own) (Y : List Fact) (F : Sl) (K : Act → World → Prop) : Prop :=
  ∀ Ln m1 S1, Ln.map Sp.i = In → TA P l Q n C1 (Lf ++ Ln) m1 S1 → ∀ a' w', Holds (m1.plus X Y) w' → Sat n S1 a' → (∀ s ∈ Lf, ∀ v, F s.d = some v → a'.tmps.getD s.d undef = v) → K a' w'
def ChainGoal (P : Program) (l : List Oper) (Q : Exit → Act → World → Prop) (n : Nat) (o : Oper) (C1 In : List Nat) (Lf : List Sp) (m' : Mem) (S' : Sl) : Prop :=
  ∀ (X : List Own) (Y : List Fact) (F : Sl) (K : Act → World → Prop), Next P l Q n C1 In Lf X Y F K → AL P l.toArray [o] (QK K) n (m'.plus X Y) (over S' F)
def stageB (l : List Oper) (C I : List Nat) (c : Option Nat) : Bool :=
  (List.range l.length).all fun i => C.contains i || I.contains i || (match c with | some c => Nat.beq c i | none => false) || ((preds l i).any fun e => !C.contains e && !I.contains e)
theorem opened_set {lst : Array Bool} {i f : Nat} (h : lst.getD i true = false) (hf : opened lst = f + 1) : opened (lst.setIfInBounds i true) = f := by
  unfold opened at *
  have hlt : i < lst.size := by
    rcases Nat.lt_or_ge i lst.size with h' | h'
    · exact h'
    · simp [Array.getElem?_eq_none h'] at h
  have e1 : (List.range (lst.setIfInBounds i true).size).filter (fun q => !(lst.setIfInBounds i true).getD q true) = ((List.range lst.size).filter fun q => !lst.getD q true).filter (fun q => q != i) := by
    rw [List.filter_filter, Array.size_setIfInBounds]
    apply List.filter_congr
    intro q _
    by_cases hqi : q = i
    · subst hqi; simp [hlt]
    · rw [getD_set_ne true (fun e => hqi e.symm)]; simp [hqi]
  have hmem : i ∈ (List.range lst.size).filter fun q => !lst.getD q true := List.mem_filter.2 ⟨List.mem_range.2 hlt, by simp [h]⟩
  have hndp : ((List.range lst.size).filter fun q => !lst.getD q true).Nodup := List.Pairwise.filter _ List.nodup_range
  have h2 := List.Nodup.erase_eq_filter hndp i
  have h3 := List.length_erase_of_mem hmem
  rw [h2] at h3
  rw [e1, h3, hf]; rfl
theorem unlisted {lst : Array Bool} {i : Nat} (hi : i < lst.size) (h : lst.getD i false = false) : lst.getD i true = false := getD_in hi h
theorem some_ready (hback : backB l = true) {lst : Array Bool} (hsz : lst.size = l.length) {c : Nat} (hc : c < l.length) (hu : lst.getD c false = false) (he : Region.ready .any l.toArray lst = []) : False := by
  induction c using Nat.strongRecOn with
  | _ c ih =>
    have hr : c ∈ Region.ready .any l.toArray lst := mem_ready.2 ⟨unlisted (by omega) hu, l[c], by simp [hc], fun e hm hb => by
      have hlt := backB_spec hback (List.getElem?_eq_getElem hc) e hm hb
      cases hl : lst.getD e.on false with
      | true => rfl
      | false => exact (ih e.on hlt (by omega) hl).elim⟩
    rw [he] at hr; cases hr
theorem TInv.set {lst : Array Bool} {C' : List Nat} {L' : List Sp} {i : Nat} (inv : TInv l C L lst) (hr : i ∈ Region.ready .any l.toArray lst) (hd : ∀ c ∈ C', c = i ∨ lst.getD c false = true) (ho : ∀ j, j = i ∨ j ∈ C ∨ j ∈ L.map Sp.i → j ∈ C' ∨ j ∈ L'.map Sp.i) : TInv l C' L' (lst.setIfInBounds i true) := by
  obtain ⟨hu, oi, hoi, hall⟩ := mem_ready.1 hr
  have hlt : i < l.length := by have := (Array.getElem?_eq_some_iff.1 hoi).1; simpa using this
  have hlt' : i < lst.size := by rw [inv.size]; exact hlt
  have hoi' : l[i]? = some oi := by simpa using hoi
  refine ⟨by simp [inv.size], fun j hj e he => ?_, fun c hc => ?_, fun j hj => ho j ?_⟩
  · by_cases hij : i = j
    · subst hij
      unfold preds at he
      rw [hoi'] at he
      obtain ⟨e', he', hb, rfl⟩ := edge_mem.1 he
      exact getD_set_true (hall e' he' hb)
    · rw [getD_set_ne false hij] at hj
      exact getD_set_true (inv.closed j hj e he)
  · rcases hd c hc with rfl | h
    · exact getD_set hlt'
    · exact getD_set_true h
  · by_cases hij : i = j
    · exact .inl hij.symm
    · rw [getD_set_ne false hij] at hj
      exact .inr (inv.only j hj)
theorem ready_direct {lst : Array Bool} {i : Nat} (hr : i ∈ Region.ready .any l.toArray lst) : ∀ e ∈ preds l i, lst.getD e false = true := by
  obtain ⟨_, oi, hoi, hall⟩ := mem_ready.1 hr
  intro e he
  have hoi' : l[i]? = some oi := by simpa using hoi
  unfold preds at he
  rw [hoi'] at he
  obtain ⟨e', he', hb, rfl⟩ := edge_mem.1 he
  exact hall e' he' hb
def heldF (L : List Sp) (lst : Array Bool) (a : Act) : Sl := fun t => if L.any (fun s => Nat.beq s.d t && lst.getD s.i false) then some (a.tmps.getD t undef) else none
theorem heldF_ok {lst : Array Bool} {a : Act} (t : Nat) (v : Value) (h : heldF L lst a t = some v) : a.tmps.getD t undef = v := by
  unfold heldF at h
  split at h
  · exact Option.some.inj h
  · cases h
theorem heldF_in {lst : Array Bool} {a : Act} {s : Sp} (hs : s ∈ L) (hl : lst.getD s.i false = true) : heldF L lst a s.d = some (a.tmps.getD s.d undef) := by
  unfold heldF
  rw [if_pos (List.any_eq_true.2 ⟨s, hs, by simp [hl]⟩)]
theorem free_step (hD : (L.map Sp.d).Nodup) (hI : (L.map Sp.i).Nodup) (hS0 : ∀ s ∈ L, S s.d = none) {s : Sp} (hs : s ∈ L) (hf : FreeOk P l n L m S s) {lst : Array Bool} {a : Act} {w : World} {X : List Own} {Y : List Fact} (inv : TInv l C L lst) (hr : s.i ∈ Region.ready .any l.toArray lst) (hg : Got a lst L X Y) (hm : Holds (m.plus X Y) w) (hsa : Sat n S a)
    {K : Act → World → Prop} (hK : ∀ a' w' X' Y', TInv l C L (lst.setIfInBounds s.i true) → Got a' (lst.setIfInBounds s.i true) L X' Y' → Holds (m.plus X' Y') w' → Sat n S a' → K a' w') : wpOp P l.toArray Q s.i K a w := by
  obtain ⟨o, ho, ix, hix, hp⟩ := hf
  have hix' : ∀ t ∈ picksS L ix, t ∈ L ∧ t.i ∈ preds l s.i := fun t ht => by
    refine ⟨?_, by simpa using List.all_eq_true.1 hix t ht⟩
    obtain ⟨q, _, hq⟩ := List.mem_filterMap.1 ht
    exact List.mem_of_getElem? hq
  have hu : lst.getD s.i true = false := (mem_ready.1 hr).1
  obtain ⟨ex, S', hG, hex, hS', hkeep⟩ := pullF_use hp (fun t ht => got_mem hg t (hix' t ht).1 (ready_direct hr _ (hix' t ht).2)) hsa
  have hlt : s.i < lst.size := by rw [inv.size]; exact (List.getElem?_eq_some_iff.1 ho).1
  have h0 : lst.getD s.i false = false := getD_both hu
  refine wpOp_of (by simpa using ho) (hG X Y (heldF L lst a) K (fun j a' w' hm' hs' => ?_) w a ?_ ?_)
  · have hval : ∀ t v, over S' (heldF L lst a) t = some v → t ≠ s.d → a'.tmps.getD t undef = v := fun t v hv hne => hs'.val t v (by
      unfold put; rw [beq_ff hne]; exact hv)
    have hov : ∀ t v, over S' (heldF L lst a) t = some v → a.tmps.getD t undef = v := (hS'.over heldF_ok).val
    have hother : ∀ t ∈ L, lst.getD t.i false = true → a'.tmps.getD t.d undef = a.tmps.getD t.d undef := fun t ht hl => by
      have hne : t.d ≠ s.d := fun e => by
        have : t = s := by
          obtain ⟨p, hp⟩ := List.mem_iff_getElem?.1 ht
          obtain ⟨q, hq⟩ := List.mem_iff_getElem?.1 hs
          have h1 := nodup_idx hD (i := p) (j := q) (x := s.d) (by rw [List.getElem?_map, hp]; simp [e]) (by rw [List.getElem?_map, hq]; rfl)
          subst h1
          exact Option.some.inj (hp.symm.trans hq)
        rw [this] at hl; rw [h0] at hl; cases hl
      obtain ⟨u, hu⟩ : ∃ u, over S' (heldF L lst a) t.d = some u := by
        unfold over
        cases hx : S' t.d with
        | some u => exact ⟨u, rfl⟩
        | none => exact ⟨_, heldF_in ht hl⟩
      rw [hval _ _ hu hne, hov _ _ hu]
    obtain ⟨X', Y', g1, g2, g3⟩ := got_set j (hs'.val s.d _ (by unfold put; simp)) hlt h0 hg hI hs hother
    refine hK a' w' X' Y' (inv.set hr (fun c hc => .inr (inv.done c hc)) (fun q hq => ?_)) g1 ?_ ⟨hs'.def_, hs'.size, fun t v hv => ?_⟩
    · rcases hq with rfl | hq
      · exact .inr (List.mem_map_of_mem hs)
      · exact hq
    · have := hm'.re (own' := m.own ++ X') (rest := []) (fz' := m.fz ++ Y') (by
        rw [List.append_nil]; exact g2.append_left _) (fun f hf => by
        rcases List.mem_append.1 hf with hf | hf
        · exact List.mem_append_left _ (List.mem_append_right _ hf)
        · exact List.mem_append_right _ (g3 f hf))
      exact this
    · have hne : t ≠ s.d := fun e => by rw [e, hS0 s hs] at hv; cases hv
      have h1 := hkeep t (by rw [hv]; rfl)
      obtain ⟨u, hu⟩ := Option.isSome_iff_exists.1 h1
      have h2 : over S' (heldF L lst a) t = some u := by unfold over; rw [hu]
      rw [hval t u h2 hne, ← hov t u h2, hsa.val t v hv]
  · have := hm.re (own' := m.own ++ X) (rest := []) (fz' := (ex ++ m.fz) ++ Y) (by rw [List.append_nil]; exact .refl _) (fun f hf => by
      rcases List.mem_append.1 hf with hf | hf
      · rcases List.mem_append.1 hf with hf | hf
        · exact List.mem_append_right _ (hex f hf)
        · exact List.mem_append_left _ hf
      · exact List.mem_append_right _ hf)
    exact this
  · exact hS'.over heldF_ok
def stepB (l : List Oper) (C I D : List Nat) (c : Nat) (mu In : List Nat) : Bool :=
  backB l && stageB l C I (some c) && nodupB D && nodupB I && (mu.all fun i => (reachGo l c (preds l c)).contains i) && ((c :: In).all fun i => !C.contains i && !I.contains i) && !In.contains c
def endB (l : List Oper) (C I D : List Nat) : Bool :=
  backB l && stageB l C I none && nodupB D && nodupB I && (I.all fun i => Nat.blt i l.length) && (List.range l.length).all (fun i => C.contains i || I.contains i)
theorem ta_step (c : Nat) (o : Oper) (I D mu In : List Nat) (Lm Lf : List Sp) (ho : l[c]? = some o) (hLi : L.map Sp.i = I) (hLd : L.map Sp.d = D)
    (hB : stepB l C I D c mu In = true) (hS0 : (D.all fun d => (S d).isNone) = true)
    (hLm : (L.filter fun s => mu.contains s.i) = Lm) (hLf : (L.filter fun s => !mu.contains s.i) = Lf)
    (hfree : FreeAll P l n L m S L) (hchain : Pull (ChainGoal P l Q n o (c :: (mu ++ C)) In Lf) Lm m S) : TA P l Q n C L m S := by
  subst hLi hLd
  unfold stepB at hB
  simp only [Bool.and_eq_true] at hB
  obtain ⟨⟨⟨⟨⟨⟨hback, hstage⟩, hD⟩, hI⟩, hmu⟩, hnew⟩, hcn⟩ := hB
  have hD := nodupB_spec hD
  have hI := nodupB_spec hI
  have hS0' : ∀ s ∈ L, S s.d = none := fun s hs => by have := List.all_eq_true.1 hS0 s.d (List.mem_map_of_mem hs); simpa using this
  have hc0 : c ∉ C ∧ c ∉ L.map Sp.i := by
    have := List.all_eq_true.1 hnew c (by simp)
    simpa using this
  have hclt : c < l.length := (List.getElem?_eq_some_iff.1 ho).1
  intro lst
  generalize hf : opened lst = f
  induction f generalizing lst with
  | zero =>
    intro a w X Y inv hg hm hs
    exfalso
    have hcu : lst.getD c false = false := by
      cases hx : lst.getD c false with
      | false => rfl
      | true => exact ((inv.only c hx).elim hc0.1 hc0.2).elim
    have h0 : (List.range lst.size).filter (fun i => !lst.getD i true) = [] := List.eq_nil_of_length_eq_zero hf
    have h1 := List.filter_eq_nil_iff.1 h0 c (List.mem_range.2 (by rw [inv.size]; exact hclt))
    rw [unlisted (by rw [inv.size]; exact hclt) hcu] at h1
    exact h1 rfl
  | succ f ih =>
    intro a w X Y inv hg hm hs
    have hcu : lst.getD c false = false := by
      cases hx : lst.getD c false with
      | false => rfl
      | true => exact ((inv.only c hx).elim hc0.1 hc0.2).elim
    refine ⟨fun he => (some_ready hback inv.size hclt hcu he).elim, fun i hi => ?_⟩
    have hiu : lst.getD i true = false := (mem_ready.1 hi).1
    have hif : lst.getD i false = false := getD_both hiu
    have hilt : i < l.length := by
      obtain ⟨oi, hoi, _⟩ := (mem_ready.1 hi).2
      have := (Array.getElem?_eq_some_iff.1 hoi).1; simpa using this
    by_cases hic : i = c
    · subst hic
      subst hLm hLf
      obtain ⟨Xm, Ym, Xf, Yf, g1, g2, g3, g4, g5⟩ := got_split (fun s => mu.contains s.i) hg
      have hreach := reach_listed inv.closed i (preds l i) (ready_direct hi)
      have hmul : ∀ q ∈ mu, lst.getD q false = true := fun q hq => hreach q (by simpa using List.all_eq_true.1 hmu q hq)
      obtain ⟨ow, ex, S', hG, hp, hex, hS', hkeep⟩ := pull_use hchain g1 (fun s hs' => hmul _ (by simpa using (List.mem_filter.1 hs').2)) hs
      have hlt : i < lst.size := by rw [inv.size]; exact hclt
      refine wpOp_of (by simpa using ho) (hG Xf Yf (heldF L lst a) _ (fun Ln m1 S1 hLn hTA a' w' hm' hs' hF => ?_) w a ?_ (hS'.over heldF_ok))
      · have hsz : opened (lst.setIfInBounds i true) = f := opened_set hiu hf
        rw [← hsz]
        refine hTA _ a' w' Xf Yf (inv.set hi (fun q hq => ?_) (fun q hq => ?_)) ?_ hm' hs'
        · rcases List.mem_cons.1 hq with rfl | hq
          · exact .inl rfl
          · rcases List.mem_append.1 hq with hq | hq
            · exact .inr (hmul q hq)
            · exact .inr (inv.done q hq)
        · rcases hq with rfl | hq | hq
          · exact .inl (by simp)
          · exact .inl (by simp [hq])
          · by_cases hqm : q ∈ mu
            · exact .inl (by simp [hqm])
            · right
              obtain ⟨s, hs1, rfl⟩ := List.mem_map.1 hq
              rw [List.map_append]
              exact List.mem_append_left _ (List.mem_map_of_mem (List.mem_filter.2 ⟨hs1, by simpa using hqm⟩))
        · refine got_ext (got_congr g2 (fun s hs1 => ?_)) (fun s hs1 => ?_)
          · have hsL := (List.mem_filter.1 hs1).1
            have hne : i ≠ s.i := fun e => hc0.2 (by rw [e]; exact List.mem_map_of_mem hsL)
            exact ⟨getD_set_ne false hne, fun hl => hF s hs1 _ (heldF_in hsL hl)⟩
          · have h1 := List.all_eq_true.1 hnew s.i (List.mem_cons_of_mem _ (by rw [← hLn]; exact List.mem_map_of_mem hs1))
            have hne : i ≠ s.i := fun e => by
              have hx : In.contains i = true := by rw [e, ← hLn]; simpa using ⟨s, hs1, rfl⟩
              rw [hx] at hcn; cases hcn
            rw [getD_set_ne false hne]
            cases hx : lst.getD s.i false with
            | false => rfl
            | true =>
              have h2 : s.i ∉ C ∧ s.i ∉ L.map Sp.i := by simpa using h1
              exact ((inv.only _ hx).elim h2.1 h2.2).elim
      · have := hm.re (own' := (ow ++ m.own) ++ Xf) (rest := []) (fz' := (ex ++ m.fz) ++ Yf) (by
          rw [List.append_nil]
          refine List.Perm.trans ?_ (g3.append_left m.own)
          rw [← List.append_assoc]
          refine List.Perm.append_right _ ?_
          exact List.perm_append_comm.trans (hp.append_left _)) (fun q hq => by
          rcases List.mem_append.1 hq with hq | hq
          · rcases List.mem_append.1 hq with hq | hq
            · exact List.mem_append_right _ (g4 q (hex q hq))
            · exact List.mem_append_left _ hq
          · exact List.mem_append_right _ (g5 q hq))
        exact this
    · have hst := List.all_eq_true.1 hstage i (List.mem_range.2 hilt)
      simp only [Bool.or_eq_true, List.contains_iff_mem] at hst
      rcases hst with ((hst | hst) | hst) | hst
      · rw [inv.done i hst] at hif; cases hif
      · obtain ⟨s, hsL, rfl⟩ := List.mem_map.1 hst
        refine free_step hD hI hS0' hsL (hfree.mem s hsL) inv hi hg hm hs (fun a' w' X' Y' i1 i2 i3 i4 => ?_)
        exact ih _ (opened_set hiu hf) a' w' X' Y' i1 i2 i3 i4
      · exact absurd (Nat.eq_of_beq_eq_true hst).symm hic
      · obtain ⟨e, he, hb⟩ := List.any_eq_true.1 hst
        have h1 := ready_direct hi e he
        have h2 : e ∉ C ∧ e ∉ L.map Sp.i := by simpa using hb
        exact ((inv.only e h1).elim h2.1 h2.2).elim
theorem ta_end (I D : List Nat) (hLi : L.map Sp.i = I) (hLd : L.map Sp.d = D) (hB : endB l C I D = true) (hS0 : (D.all fun d => (S d).isNone) = true)
    (hfree : FreeAll P l n L m S L) (hend : Pull (fun m' S' => AQ Q .normal n m' S') L m S) : TA P l Q n C L m S := by
  subst hLi hLd
  unfold endB at hB
  simp only [Bool.and_eq_true] at hB
  obtain ⟨⟨⟨⟨⟨hback, hstage⟩, hD⟩, hI⟩, hlt'⟩, hC⟩ := hB
  have hD := nodupB_spec hD
  have hI := nodupB_spec hI
  have hlt : (L.all fun s => Nat.blt s.i l.length) = true := List.all_eq_true.2 fun s hs => List.all_eq_true.1 hlt' s.i (List.mem_map_of_mem hs)
  have hS0' : ∀ s ∈ L, S s.d = none := fun s hs => by have := List.all_eq_true.1 hS0 s.d (List.mem_map_of_mem hs); simpa using this
  have fin : ∀ lst a w X Y, TInv l C L lst → Got a lst L X Y → Holds (m.plus X Y) w → Sat n S a → (∀ s ∈ L, lst.getD s.i false = true) → Q .normal a w := fun lst a w X Y inv hg hm hs hall => by
    obtain ⟨ow, ex, S', hG, hp, hex, hS', _⟩ := pull_use hend hg hall hs
    refine hG w a ?_ hS'
    have := hm.re (own' := ow ++ m.own) (rest := []) (fz' := ex ++ m.fz) (by
      rw [List.append_nil]; exact List.perm_append_comm.trans (hp.append_left _)) (fun q hq => by
      rcases List.mem_append.1 hq with hq | hq
      · exact List.mem_append_right _ (hex q hq)
      · exact List.mem_append_left _ hq)
    exact this
  intro lst
  generalize hf : opened lst = f
  induction f generalizing lst with
  | zero =>
    intro a w X Y inv hg hm hs
    have h0 : (List.range lst.size).filter (fun i => !lst.getD i true) = [] := List.eq_nil_of_length_eq_zero hf
    have hall : ∀ i, i < lst.size → lst.getD i false = true := fun i hi => by
      have h1 := List.filter_eq_nil_iff.1 h0 i (List.mem_range.2 hi)
      cases hx : lst.getD i false with
      | true => rfl
      | false => rw [unlisted hi hx] at h1; exact absurd rfl h1
    refine ⟨?_, fin lst a w X Y inv hg hm hs (fun s hsL => hall _ ?_)⟩
    · refine List.eq_nil_iff_forall_not_mem.2 fun i hi => ?_
      obtain ⟨hu, oi, hoi, _⟩ := mem_ready.1 hi
      have hlt' : i < lst.size := by rw [inv.size]; have := (Array.getElem?_eq_some_iff.1 hoi).1; simpa using this
      have h9 := hall i hlt'
      rw [getD_both hu] at h9
      cases h9
    · rw [inv.size]; have := List.all_eq_true.1 hlt s hsL; simpa [Nat.blt_eq] using this
  | succ f ih =>
    intro a w X Y inv hg hm hs
    have hready : ∀ c, c < l.length → lst.getD c false = false → Region.ready .any l.toArray lst = [] → False := fun c hc hu he => some_ready hback inv.size hc hu he
    refine ⟨fun he => fin lst a w X Y inv hg hm hs (fun s hsL => ?_), fun i hi => ?_⟩
    · cases hx : lst.getD s.i false with
      | true => rfl
      | false => exact (hready s.i (by have := List.all_eq_true.1 hlt s hsL; simpa [Nat.blt_eq] using this) hx he).elim
    · have hiu : lst.getD i true = false := (mem_ready.1 hi).1
      have hif : lst.getD i false = false := getD_both hiu
      have hilt : i < l.length := by
        obtain ⟨oi, hoi, _⟩ := (mem_ready.1 hi).2
        have := (Array.getElem?_eq_some_iff.1 hoi).1; simpa using this
      have hst := List.all_eq_true.1 hC i (List.mem_range.2 hilt)
      simp only [Bool.or_eq_true, List.contains_iff_mem] at hst
      rcases hst with hst | hst
      · rw [inv.done i hst] at hif; cases hif
      · obtain ⟨s, hsL, rfl⟩ := List.mem_map.1 hst
        refine free_step hD hI hS0' hsL (hfree.mem s hsL) inv hi hg hm hs (fun a' w' X' Y' i1 i2 i3 i4 => ?_)
        exact ih _ (opened_set hiu hf) a' w' X' Y' i1 i2 i3 i4
theorem got_none {a : Act} {k : Nat} : ∀ L : List Sp, Got a (Array.replicate k false) L [] []
  | [] => ⟨rfl, rfl⟩
  | s :: L => .inl ⟨getD_replicate_false _ _, got_none L⟩
theorem aw_region_open {id : Nat} (L : List Sp) (S' : Sl) (hmx : P.follows .mixedOrders = true) (hS : ∀ a, Sat n S a → Sat n S' a) (h : TA P l Q n [] L m S') : AW P (.region id l.toArray true) Q n m S := fun w a hm hs => by
  refine wp_region_any hmx ?_
  have hdrew : Below w.heap.size w { w with drawn := w.drawn + 1 } := (Below.refl _ _).drew
  have hm' := hm.ext hdrew
  have hm2 : Holds (m.plus [] []) { w with drawn := w.drawn + 1 } := hm'.re (own' := m.own ++ []) (rest := []) (fz' := m.fz ++ []) (by simp) (by simp)
  have h1 := h (Array.replicate l.length false) a _ [] [] ⟨by simp, fun j hj => (by rw [getD_replicate_false] at hj; cases hj), fun c hc => (by cases hc), fun i hi => (by rw [getD_replicate_false] at hi; cases hi)⟩ (got_none L) hm2 (hS a hs)
  have h2 : opened (Array.replicate l.length false) = l.length := by
    unfold opened
    rw [List.filter_eq_self.2 (fun i hi => by have := List.mem_range.1 hi; simp at this; simp [this])]
    simp
  rw [h2] at h1
  have h3 : l.toArray.size = l.length := by simp
  rw [h3]
  exact h1
theorem fr_fin {s : Sp} {X : List Own} {Y : List Fact} {F : Sl} {K : Act → World → Prop} (hK : ∀ j a' w', Holds (m.plus ((s.res j).own ++ X) ((s.res j).fz ++ Y)) w' → Sat n (put (over S F) s.d (s.res j).val) a' → K a' w') (j : s.ι) :
    AQ (QK K) .normal n { m with own := (s.res j).own ++ (m.own ++ X), fz := (s.res j).fz ++ (m.fz ++ Y) } (put (over S F) s.d (s.res j).val) := fun w a hm hs => by
  refine hK j a w ?_ hs
  have := hm.re (own' := m.own ++ ((s.res j).own ++ X)) (rest := []) (fz' := m.fz ++ ((s.res j).fz ++ Y)) (by
    rw [List.append_nil, ← List.append_assoc, ← List.append_assoc]
    exact List.Perm.append_right _ List.perm_append_comm) (fun f hf => by
    simp only [List.mem_append] at hf ⊢
    rcases hf with hf | hf | hf
    · exact .inr (.inl hf)
    · exact .inl hf
    · exact .inr (.inr hf))
  exact this
theorem aq_show {e : Exit} (h : AQ Q e n m S) : AQ Q e n m S := h
theorem ta_show (h : TA P l Q n C L m S) : TA P l Q n C L m S := h
theorem picks_plus {O X : List Own} {io : List Nat} (h : (io.all fun i => Nat.blt i O.length) = true) : picks (O ++ X) (io ++ List.range' O.length X.length) = picks O io ++ X := by
  unfold picks
  rw [List.filterMap_append]
  congr 1
  · have h' : ∀ i ∈ io, i < O.length := fun i hi => by have := List.all_eq_true.1 h i hi; simpa [Nat.blt_eq] using this
    clear h
    induction io with
    | nil => rfl
    | cons i io ih =>
      rw [List.filterMap_cons, List.filterMap_cons, List.getElem?_append_left (h' i (by simp)), ih (fun j hj => h' j (by simp [hj]))]
  · apply List.ext_getElem?
    intro k
    have key : ∀ (X : List Own) (b : Nat) (O : List Own), O.length = b → (List.range' b X.length).filterMap (fun i => (O ++ X)[i]?) = X := by
      intro X
      induction X with
      | nil => intro b O _; rfl
      | cons x X ih =>
        intro b O hb
        rw [List.length_cons, List.range'_succ, List.filterMap_cons]
        have e1 : (O ++ x :: X)[b]? = some x := by rw [List.getElem?_append_right (by omega), hb, Nat.sub_self]; rfl
        rw [e1]
        simp only
        congr 1
        have := ih (b + 1) (O ++ [x]) (by simp [hb])
        rw [List.append_assoc] at this
        exact this
    rw [key X O.length O rfl]
theorem nodup_plus {io : List Nat} {a k : Nat} (h : io.Nodup) (hl : (io.all fun i => Nat.blt i a) = true) : (io ++ List.range' a k).Nodup := by
  rw [List.nodup_append]
  refine ⟨h, List.nodup_range', fun i hi j hj e => ?_⟩
  have h1 := List.all_eq_true.1 hl i hi
  have h2 : i < a := by simpa [Nat.blt_eq] using h1
  have h3 := (List.mem_range'_1.1 hj).1
  omega
theorem norm_plus {w : World} {X : List Own} {Y : List Fact} (io iz : List Nat) (hm : Holds (m.plus X Y) w) (hio : io.Nodup) (hl : (io.all fun i => Nat.blt i m.own.length) = true) : Holds (Mem.plus { m with own := picks m.own io, fz := picks m.fz iz } X Y) w := by
  have h0 : ∀ o ∈ picks m.own io ++ X, o ∈ m.own ++ X := fun o ho => by
    rcases List.mem_append.1 ho with ho | ho
    · exact List.mem_append_left _ (picks_sub ho)
    · exact List.mem_append_right _ ho
  have h1 := hm.reown (picks m.own io ++ X) h0 (by
    rw [← picks_plus hl]
    exact picks_nodup (l := m.own ++ X) hm.nd (nodup_plus hio hl))
  have h2 := h1.refz (picks m.fz iz ++ Y) (fun f hf => by
    rcases List.mem_append.1 hf with hf | hf
    · exact List.mem_append_left _ (picks_sub hf)
    · exact List.mem_append_right _ hf)
  exact h2
def sameF (SS F : Sl) : List Nat → Prop
  | [] => True
  | d :: l => SS d = F d ∧ sameF SS F l
theorem sameF_mem {SS F : Sl} : ∀ {l : List Nat}, sameF SS F l → ∀ d ∈ l, SS d = F d
  | [], _, d, hd => by simp at hd
  | e :: l, h, d, hd => by
    rcases List.mem_cons.1 hd with rfl | hd
    · exact h.1
    · exact sameF_mem h.2 d hd
theorem aq_next {C1 In : List Nat} {Lf : List Sp} {X : List Own} {Y : List Fact} {F : Sl} {K : Act → World → Prop} {SS : Sl} (hN : Next P l Q n C1 In Lf X Y F K) (io iz : List Nat) (tb : List (Nat × Value)) (D : List Nat) (Ln : List Sp) (hD : Lf.map Sp.d = D) (hLn : Ln.map Sp.i = In) (hio : io.Nodup) (hl : (io.all fun i => Nat.blt i m.own.length) = true) (hS : allT SS tb) (hF : sameF SS F D)
    (h : TA P l Q n C1 (Lf ++ Ln) { m with own := picks m.own io, fz := picks m.fz iz } (tab tb)) : AQ (QK K) .normal n (m.plus X Y) SS := fun w a hm hs => by
  subst hD
  refine hN _ _ _ hLn h a w (norm_plus io iz hm hio hl) (hs.tab tb (allT_mem hS)) (fun s hs' v hv => hs.val _ _ ?_)
  rw [sameF_mem hF s.d (List.mem_map_of_mem hs'), hv]
theorem al_enterX {ops : Array Oper} {rest : List Oper} {o : Oper} {ι : Type} {X : List Own} {Y : List Fact} {d : Nat} {f : FuncId} {vs : List Value} {pre : List Fact} {oin : List Own} {res : ι → Res} (hfn : FnOk P f vs pre oin res) (iv io ik : List Nat) (hpre : PreOk (m.plus X Y) iv pre) (hoin : picks m.own io = oin)
    (hX : ∀ j ∈ io, j ∉ iv) (hnd : (io ++ ik).Nodup) (hlt : ((io ++ ik ++ iv).all fun i => Nat.blt i m.own.length) = true) (hflat : iv = [] ∨ FlatRes res) (hrun : ∀ w a, Sat n S a → (execOp a.eval o).run P w = .ok (.enter f vs.toArray) w)
    (h : ∀ i, AL P ops rest Q n (Mem.plus { m with own := (res i).own ++ picks m.own ik, fz := (res i).fz ++ m.fz } X Y) (put S d (res i).val)) (hdd : o.dst = some d) (hd : Nat.blt d n = true) (hg : wantS ops S o true = true) : AL P ops (o :: rest) Q n (m.plus X Y) S := by
  rw [List.all_append, Bool.and_eq_true] at hlt
  have hl1 := hlt.1
  rw [List.all_append, Bool.and_eq_true] at hl1
  have e1 : picks (m.plus X Y).own io = oin := by
    rw [← hoin]
    show picks (m.own ++ X) io = picks m.own io
    unfold picks
    have h' : ∀ i ∈ io, i < m.own.length := fun i hi => by have := List.all_eq_true.1 hl1.1 i hi; simpa [Nat.blt_eq] using this
    clear hX hnd hlt hl1 hoin
    induction io with
    | nil => rfl
    | cons i io ih => rw [List.filterMap_cons, List.filterMap_cons, List.getElem?_append_left (h' i (by simp)), ih (fun j hj => h' j (by simp [hj]))]
  refine al_enter (m := m.plus X Y) hfn iv io (ik ++ List.range' m.own.length X.length) hpre e1 hX ?_ hflat hrun (fun i => ?_) hdd hd hg
  · rw [← List.append_assoc]
    exact nodup_plus hnd hlt.1
  · have e2 : picks (m.plus X Y).own (ik ++ List.range' m.own.length X.length) = picks m.own ik ++ X := picks_plus hl1.2
    rw [e2, ← List.append_assoc, show (m.plus X Y).fz = m.fz ++ Y from rfl, ← List.append_assoc]
    exact h i
theorem al_callX {ops : Array Oper} {rest : List Oper} {o : Oper} {ι : Type} {X : List Own} {Y : List Fact} {d : Nat} {f : FuncId} {fn : Func} {args : List Operand} {vs : List Value} {tys : Array TypeId} {pre : List Fact} {oin : List Own} {res : ι → Res} (hfn : FnOk P f vs pre oin res) (iv io ik : List Nat) (hpre : PreOk (m.plus X Y) iv pre) (hoin : picks m.own io = oin)
    (hX : ∀ j ∈ io, j ∉ iv) (hnd : (io ++ ik).Nodup) (hlt : ((io ++ ik ++ iv).all fun i => Nat.blt i m.own.length) = true) (hflat : iv = [] ∨ FlatRes res) (hargs : args.map (ev S) = vs.map some) (hf : P.funcs[f]? = some fn) (hb : fn.body.isNone = false) (hn : (fn.name == "runtime.NumGoroutine") = false)
    (ho : o.op = .call { callee := .value (.func f), args := args.toArray, argTypes := tys })
    (h : ∀ i, AL P ops rest Q n (Mem.plus { m with own := (res i).own ++ picks m.own ik, fz := (res i).fz ++ m.fz } X Y) (put S d (res i).val)) (hdd : o.dst = some d := by rfl) (hd : Nat.blt d n = true := by rfl) (hg : wantS ops S o true = true := by rfl) : AL P ops (o :: rest) Q n (m.plus X Y) S :=
  al_enterX hfn iv io ik hpre hoin hX hnd hlt hflat (fun w a hs => run_callV ho (evs hs hargs) hf hb hn w) h hdd hd hg
end
end Go.Proofs.Ytiioclkiapbjnaa.En
namespace Go.Proofs.Ytiioclkiapbjnaa.En
open Go.RowKit
set_option linter.unusedVariables false
set_option linter.unusedSimpArgs false
section
variable {P : Program} {Q : Exit → Act → World → Prop} {n : Nat} {m : Mem} {S : Sl} {ops : Array Oper} {rest : List Oper} {o : Oper}
theorem ov_nilCheck {x : Operand} {g off : Nat} (ho : o.op = .nilCheck x) (hx : ev S x = some (ptr g off)) : OpV P o n m S (ptr g off) := fun w a _ hs => by
  unfold execOp; simp only [ho, hs.ev hx]; simp [ptr]
theorem setIter_other (w : World) (g b : Nat) (o' : Obj) (h : b ≠ g) : ({ w with heap := w.heap.setIfInBounds g o' } : World).heap[b]? = w.heap[b]? := by
  simp only [Array.getElem?_setIfInBounds]
  rw [if_neg (fun e => h e.symm)]
end
end Go.Proofs.Ytiioclkiapbjnaa.En
namespace Go.Proofs.Ytiioclkiapbjnaa.En
open Go.RowKit
set_option linter.unusedVariables false
set_option linter.unusedSimpArgs false
section
variable {P : Program} {n : Nat} {m : Mem} {S : Sl} {o : Oper}
end
end Go.Proofs.Ytiioclkiapbjnaa.En
namespace Go.Proofs.Ytiioclkiapbjnaa.En
open Go.RowKit
set_option linter.unusedVariables false
set_option linter.unusedSimpArgs false
section
variable {P : Program} {Q : Exit → Act → World → Prop} {n : Nat} {m : Mem} {S : Sl} {ops : Array Oper} {rest : List Oper} {o : Oper} {v : Value} {l : List UInt8} {e et t : TypeId}
end
end Go.Proofs.Ytiioclkiapbjnaa.En
namespace Go.Proofs.Ytiioclkiapbjnaa.En
open Go.RowKit
set_option linter.unusedVariables false
set_option linter.unusedSimpArgs false
section
variable {P : Program} {Q : Exit → Act → World → Prop} {n : Nat} {m : Mem} {S : Sl} {ops : Array Oper} {rest : List Oper} {o : Oper} {α : Type}
theorem Holds.freezeX {w : World} (hm : Holds m w) {i : Nat} (ks : List Nat) {v : Value} {e : TypeId} {τ : Ty α} {xs : List α} (hi : m.own[i]? = some (oRow v e τ xs)) (hX : m.X = (picks m.own ks).flatMap Own.blk) (hk : ks.contains i = false) :
    Holds (Mem.add { m with own := m.own.take i ++ m.own.drop (i + 1) } (fDat (tyList τ) [v] xs)) w := by
  have hsub : ∀ x ∈ m.own.take i ++ m.own.drop (i + 1), x ∈ m.own := fun x hx => by
    rcases List.mem_append.1 hx with hx | hx
    · exact List.mem_of_mem_take hx
    · exact List.mem_of_mem_drop hx
  have hmo : oRow v e τ xs ∈ m.own := List.mem_of_getElem? hi
  have hnd0 : ((oRow v e τ xs :: (m.own.take i ++ m.own.drop (i + 1))).flatMap Own.blk).Nodup := (perm_get hi).nodup_iff.1 hm.nd
  rw [List.flatMap_cons, List.nodup_append] at hnd0
  have h1 := hm.reown (m.own.take i ++ m.own.drop (i + 1)) hsub hnd0.2.1
  refine h1.add (row_dat (own_at hm hi) (fun b hb => ⟨hb.1, fun hx => hb.2.1 ?_, hb.2.2⟩) (fun b hb => ⟨?_, fun hx => ?_, fun hlt => ?_⟩))
  · obtain ⟨x, hx1, hx2⟩ := List.mem_flatMap.1 hx
    exact List.mem_flatMap.2 ⟨x, hsub x hx1, hx2⟩
  · exact (oRow v e τ xs).lt (own_at hm hi) b hb
  · exact hnd0.2.2 b hb b hx rfl
  · rcases hm.lo b (List.mem_flatMap.2 ⟨_, hmo, hb⟩) with h | h
    · have hlt' : b < m.B := hlt; omega
    · rw [hX] at h
      obtain ⟨o', ho', hb'⟩ := List.mem_flatMap.1 h
      obtain ⟨k, hk1, hk2⟩ := List.mem_filterMap.1 ho'
      have hne : i ≠ k := by
        rintro rfl
        rw [List.contains_iff_mem.2 hk1] at hk; cases hk
      exact absurd hb' (nodup_flat hm.nd hi hk2 hne b hb)
theorem aq_freezeX {e' : Exit} (i : Nat) (ks : List Nat) {v : Value} {e : TypeId} {τ : Ty α} {xs : List α} (hi : m.own[i]? = some (oRow v e τ xs)) (hX : m.X = (picks m.own ks).flatMap Own.blk) (hk : ks.contains i = false)
    (h : AQ Q e' n (Mem.add { m with own := m.own.take i ++ m.own.drop (i + 1) } (fDat (tyList τ) [v] xs)) S) : AQ Q e' n m S := fun w a hm hs => h w a (hm.freezeX ks hi hX hk) hs
end
end Go.Proofs.Ytiioclkiapbjnaa.En
namespace Go.Proofs.Ytiioclkiapbjnaa.En
open Go.RowKit
set_option linter.unusedVariables false
set_option linter.unusedSimpArgs false
section
variable {P : Program} {Q : Exit → Act → World → Prop} {n : Nat} {m : Mem} {S : Sl} {ops : Array Oper} {rest : List Oper} {o : Oper} {kk vk : IntKind} {l : List (Int × Int)} {t kt vt : TypeId} {g : Nat}
end
end Go.Proofs.Ytiioclkiapbjnaa.En
namespace Go.Proofs.Ytiioclkiapbjnaa.En
open Go.RowKit
set_option linter.unusedVariables false
set_option linter.unusedSimpArgs false
section
variable {P : Program} {Q : Exit → Act → World → Prop} {n : Nat} {m : Mem} {S : Sl} {ops : Array Oper} {rest : List Oper} {o : Oper} {α β : Type}
end
end Go.Proofs.Ytiioclkiapbjnaa.En
namespace Go.Proofs.Ytiioclkiapbjnaa.En
open Go.RowKit
set_option linter.unusedVariables false
set_option linter.unusedSimpArgs false
section
variable {P : Program} {Q : Exit → Act → World → Prop} {n : Nat} {m : Mem} {S : Sl} {ops : Array Oper} {rest : List Oper} {o : Oper} {α β : Type}
end
end Go.Proofs.Ytiioclkiapbjnaa.En
namespace Go.Proofs.Ytiioclkiapbjnaa.En
open Go.RowKit Go.Maps Ytiioclkiapbjnaa
set_option linter.unusedVariables false
set_option linter.unusedSimpArgs false
section
variable {κ ν : Type}
def gget [DecidableEq κ] : List (κ × ν) → κ → Option ν
  | [], _ => none
  | x :: l, k => if x.1 = k then some x.2 else gget l k
def gset [DecidableEq κ] : List (κ × ν) → κ → ν → List (κ × ν)
  | [], k, v => [(k, v)]
  | x :: l, k, v => if x.1 = k then (k, v) :: l else x :: gset l k v
theorem gget_none [DecidableEq κ] : ∀ {l : List (κ × ν)} {k : κ}, (∀ x ∈ l, x.1 ≠ k) → gget l k = none
  | [], _, _ => rfl
  | x :: l, k, h => by
    unfold gget
    rw [if_neg (h x (by simp)), gget_none (fun y hy => h y (by simp [hy]))]
theorem gset_new [DecidableEq κ] : ∀ {l : List (κ × ν)} {k : κ} (v : ν), (∀ x ∈ l, x.1 ≠ k) → gset l k v = l ++ [(k, v)]
  | [], _, _, _ => rfl
  | x :: l, k, v, h => by
    unfold gset
    rw [if_neg (h x (by simp)), gset_new v (fun y hy => h y (by simp [hy]))]; rfl
theorem gget_at [DecidableEq κ] : ∀ {l : List (κ × ν)} {k : κ} {v : ν} {j : Nat}, (l.map fun x : κ × ν => x.1).Nodup → l[j]? = some (k, v) → gget l k = some v ∧ ∀ u, gset l k u = l.set j (k, u)
  | [], _, _, _, _, h => by simp at h
  | x :: l, k, v, 0, _, h => by
    simp at h
    subst h
    exact ⟨by unfold gget; rw [if_pos rfl], fun u => by unfold gset; rw [if_pos rfl]; rfl⟩
  | x :: l, k, v, j + 1, hn, h => by
    rw [List.map_cons, List.nodup_cons] at hn
    rw [List.getElem?_cons_succ] at h
    obtain ⟨h1, h2⟩ := gget_at hn.2 h
    have hne : x.1 ≠ k := fun e => hn.1 (by rw [e]; exact List.mem_map.2 ⟨(k, v), List.mem_of_getElem? h, rfl⟩)
    exact ⟨by unfold gget; rw [if_neg hne, h1], fun u => by unfold gset; rw [if_neg hne, h2 u]; rfl⟩
theorem gset_keys (l : List (κ × ν)) (k : κ) (v : ν) (j : Nat) (u : ν) (h : l[j]? = some (k, u)) : ((l.set j (k, v)).map fun x : κ × ν => x.1) = l.map fun x : κ × ν => x.1 := by
  rw [List.map_set]
  apply List.ext_getElem?
  intro i
  rw [List.getElem?_set]
  split
  · rename_i e
    subst e
    have hlt := (List.getElem?_eq_some_iff.1 h).1
    rw [if_pos (by simpa using hlt), List.getElem?_map, h]; rfl
  · rfl
def eMapK (ek : κ → Value) (ew : ν → Value) (l : List (κ × ν)) (es : List MapEntry) : Prop := es.map (fun e => (e.key, e.val)) = l.map (fun x => (ek x.1, ew x.2))
def oMapK (P : Program) (kt : TypeId) (g : Nat) (ek : κ → Value) (ew : ν → Value) (l : List (κ × ν)) : Own where
  blk := [g]
  p _ w := ∃ es clock, w.heap[g]? = some (.map es clock) ∧ eMapK ek ew l es.toList ∧ (l.map fun x : κ × ν => x.1).Nodup ∧ (∀ x ∈ l, ∃ t, keyOf P kt (ek x.1) = some t) ∧ Go.MapKept.Stamped es clock
  keep hz h := by obtain ⟨es, c, h1, h2⟩ := h; exact ⟨es, c, (hz g (.inr (by simp))).trans h1, h2⟩
  mono _ h := h
  lt h := by obtain ⟨es, c, h1, h2⟩ := h; intro b hb; rw [List.mem_singleton.1 hb]; exact (Array.getElem?_eq_some_iff.1 h1).1
variable {P : Program} {Q : Exit → Act → World → Prop} {n : Nat} {m : Mem} {S : Sl} {ops : Array Oper} {rest : List Oper} {o : Oper} {l : List (κ × ν)} {t kt vt : TypeId} {g : Nat} {ek : κ → Value} {ew : ν → Value}
theorem al_makeMapK {d : Nat} (kt : TypeId) (ek : κ → Value) (ew : ν → Value) (ho : o.op = .makeMap t none)
    (h : ∀ g, AL P ops rest Q n (m.push (oMapK P kt g ek ew [])) (put S d (.map (some g)))) (hdd : o.dst = some d := by rfl) (hd : Nat.blt d n = true := by rfl) (hg : wantS ops S o true = true := by rfl) : AL P ops (o :: rest) Q n m S :=
  al_step hg fun w a hm hs K hK => by
    refine step_val (v := .map (some w.heap.size)) (w' := w.alloc (.map #[] 0)) ?_ (hK _ _ (h _ _ _ (hm.push ((Below.refl _ _).alloc (Nat.le_refl _) _) (by simp [oMapK]) (by simp [oMapK]) (fun Z _ => ⟨#[], 0, heap_alloc_new w _, rfl, by simp, by simp, Go.MapKept.stamped_empty 0⟩)) (hs.put' hdd hd _)))
    unfold execOp
    simp only [ho]
    rfl
theorem eMapK_keys {es : List MapEntry} (he : eMapK ek ew l es) : ∀ e ∈ es, ∃ x ∈ l, e.key = ek x.1 := fun e hee => by
  have h1 : (e.key, e.val) ∈ es.map (fun e => (e.key, e.val)) := List.mem_map.2 ⟨e, hee, rfl⟩
  rw [he] at h1
  obtain ⟨x, hx, hxe⟩ := List.mem_map.1 h1
  exact ⟨x, hx, (Prod.mk.inj hxe).1.symm⟩
theorem find_K (K : Keyed P kt) (hinj : ∀ a b, ek a = ek b → a = b) {es : Array MapEntry} (he : eMapK ek ew l es.toList) (hn : (l.map fun x : κ × ν => x.1).Nodup) (hk : ∀ x ∈ l, ∃ t, keyOf P kt (ek x.1) = some t) {k : κ} (hkey : ∃ t, keyOf P kt (ek k) = some t) (w : World) :
    ((Instr.findKey kt (ek k) es.toList).run P w = .ok none w ∧ ∀ x ∈ l, x.1 ≠ k) ∨ ∃ (j : Nat) (v : ν), (Instr.findKey kt (ek k) es.toList).run P w = .ok (some (j, ew v)) w ∧ l[j]? = some (k, v) := by
  obtain ⟨lx, hlx⟩ := hkey
  have hes : ∀ e ∈ es.toList, ∃ x ∈ l, e.key = ek x.1 := fun e hee => by
    have h1 : (e.key, e.val) ∈ es.toList.map (fun e => (e.key, e.val)) := List.mem_map.2 ⟨e, hee, rfl⟩
    rw [he] at h1
    obtain ⟨x, hx, hxe⟩ := List.mem_map.1 h1
    exact ⟨x, hx, (Prod.mk.inj hxe).1.symm⟩
  rcases K.find w hlx es.toList (fun e hee => by obtain ⟨x, hx, hxe⟩ := hes e hee; rw [hxe]; exact hk x hx) with ⟨h1, h2⟩ | ⟨j, e, h1, h2, h3⟩
  · refine .inl ⟨h1, fun x hx hxk => ?_⟩
    have h4 : (ek x.1, ew x.2) ∈ l.map (fun x => (ek x.1, ew x.2)) := List.mem_map.2 ⟨x, hx, rfl⟩
    rw [← he] at h4
    obtain ⟨e, hee, hxe⟩ := List.mem_map.1 h4
    exact h2 e hee (by rw [(Prod.mk.inj hxe).1, hxk])
  · right
    have h4 : (es.toList.map fun e => (e.key, e.val))[j]? = some (e.key, e.val) := by rw [List.getElem?_map, h2]; rfl
    have he' : es.toList.map (fun e => (e.key, e.val)) = l.map (fun x => (ek x.1, ew x.2)) := he
    rw [he', List.getElem?_map] at h4
    obtain ⟨x, hx, hxe⟩ := Option.map_eq_some_iff.1 h4
    obtain ⟨q1, q2⟩ := Prod.mk.inj hxe
    refine ⟨j, x.2, by rw [h1, q2], ?_⟩
    rw [hx]
    have : x.1 = k := hinj _ _ (by rw [q1, h3])
    rw [← this]
theorem run_lookK [DecidableEq κ] (i : Nat) (K : Keyed P kt) (hinj : ∀ a b, ek a = ek b → a = b) {k : κ} (hkey : ∃ t, keyOf P kt (ek k) = some t) (hi : m.own[i]? = some (oMapK P kt g ek ew l)) (ht : P.underlying t = some (.map kt vt)) {z : ν} (hv : zeroOf P vt = some (ew z)) (c : Bool) {w : World} (hm : Holds m w) :
    (Instr.lookup t (.map (some g)) (ek k) c).run P w = .ok (if c then .tuple #[ew ((gget l k).getD z), .bool (gget l k).isSome] else ew ((gget l k).getD z)) w := by
  obtain ⟨es, clock, hh, he, hn, hk, _⟩ := own_at hm hi
  have hf := find_K (P := P) K hinj he hn hk hkey w
  obtain ⟨lx, hlx⟩ := hkey
  have hc := K.check w es.isEmpty hlx
  have hgo := Go.MapKept.run_getObj_map (P := P) hh
  have hz := run_zeroValue' hv w
  unfold Instr.lookup
  rcases hf with ⟨h1, h2⟩ | ⟨j, v, h1, h2⟩
  · rw [gget_none h2]
    cases c <;> simp [Sem.run_bind, run_underlying ht, hgo, hc, h1, hz]
  · rw [(gget_at hn h2).1]
    cases c <;> simp [Sem.run_bind, run_underlying ht, hgo, hc, h1]
theorem ov_lookupOkK [DecidableEq κ] (i : Nat) (K : Keyed P kt) (hinj : ∀ a b, ek a = ek b → a = b) {x y : Operand} {k : κ} (hkey : ∃ t, keyOf P kt (ek k) = some t) (hi : m.own[i]? = some (oMapK P kt g ek ew l)) (hx : ev S x = some (.map (some g))) (hy : ev S y = some (ek k)) (ht : P.underlying t = some (.map kt vt)) {z : ν} (hv : zeroOf P vt = some (ew z)) (ho : o.op = .lookup t x y true) : OpV P o n m S (.tuple #[ew ((gget l k).getD z), .bool (gget l k).isSome]) := fun w a hm hs => by
  have := run_lookK i K hinj hkey hi ht hv true hm
  unfold execOp
  simp only [ho, hs.ev hx, hs.ev hy]
  simp [this]
theorem al_mapSetK [DecidableEq κ] {x y z : Operand} (i : Nat) (K : Keyed P kt) (hinj : ∀ a b, ek a = ek b → a = b) {k : κ} {v : ν} (hkey : ∃ t, keyOf P kt (ek k) = some t) (hi : m.own[i]? = some (oMapK P kt g ek ew l)) (hx : ev S x = some (.map (some g))) (hy : ev S y = some (ek k)) (hz : ev S z = some (ew v)) (ht : P.underlying t = some (.map kt vt)) (ho : o.op = .mapUpdate t x y z)
    (h : AL P ops rest Q n (m.upd i (oMapK P kt g ek ew (gset l k v))) S) (hdst : o.dst = none := by rfl) (hg : wantS ops S o true = true := by rfl) : AL P ops (o :: rest) Q n m S :=
  al_step hg fun w a hm hs K' hK => by
    obtain ⟨es, clock, hh, he, hn, hk, hst⟩ := own_at hm hi
    have hf := find_K (P := P) K hinj he hn hk hkey w
    obtain ⟨lx, hlx⟩ := hkey
    have hc := K.check w false hlx
    have hgo := Go.MapKept.run_getObj_map (P := P) hh
    have hes : es.size = l.length := by have := congrArg List.length he; simpa using this
    rcases hf with ⟨h1, h2⟩ | ⟨j, u, h1, h2⟩
    · have hset := Go.MapKept.run_setObj_map (P := P) (.map (es.push { key := ek k, val := ew v, born := clock }) (clock + 1)) hh
      refine step_skip (w' := { w with heap := w.heap.setIfInBounds g (.map (es.push { key := ek k, val := ew v, born := clock }) (clock + 1)) }) ?_ (hK _ _ (h _ _ (hm.upd hi ⟨rfl, rfl, rfl, by simp, fun b _ hb => setIter_other w g b _ (by simpa [oMapK] using hb)⟩ (by simp [oMapK]) (fun b hb => .inl hb) (fun Z _ => ⟨_, _, (Go.MapKept.heap_set hh).1, ?_, ?_, ?_, Go.MapKept.stamped_push hst (fun x hx hxk => by obtain ⟨y, hy, hye⟩ := eMapK_keys he x hx; exact h2 y hy (hinj _ _ (hye.symm.trans hxk)))⟩)) (by rw [hdst]; exact hs)))
      · unfold execOp
        simp only [ho, hs.ev hx, hs.ev hy, hs.ev hz]
        simp [Instr.mapUpdate, Sem.run_bind, run_underlying ht, hgo, hc, h1, hset]
      · rw [gset_new v h2]
        unfold eMapK at *
        simp [he]
      · rw [gset_new v h2, List.map_append, List.nodup_append]
        refine ⟨hn, by simp, ?_⟩
        intro b hb c hcc
        obtain ⟨q, hq, rfl⟩ := List.mem_map.1 hb
        simp at hcc
        subst hcc
        exact h2 q hq
      · rw [gset_new v h2]
        intro q hq
        rcases List.mem_append.1 hq with hq | hq
        · exact hk q hq
        · rw [List.mem_singleton.1 hq]; exact ⟨lx, hlx⟩
    · have hj : j < l.length := (List.getElem?_eq_some_iff.1 h2).1
      have hky : (es[j]?).map (·.key) = some (ek k) := by
        have h3 : (es.toList.map fun e => (e.key, e.val))[j]? = some (ek k, ew u) := by
          have he' : es.toList.map (fun e => (e.key, e.val)) = l.map (fun x => (ek x.1, ew x.2)) := he
          rw [he', List.getElem?_map, h2]; rfl
        rw [List.getElem?_map, Array.getElem?_toList] at h3
        cases hq : es[j]? with
        | none => rw [hq] at h3; cases h3
        | some q =>
          rw [hq] at h3
          exact congrArg some (Prod.mk.inj (Option.some.inj h3)).1
      have hkts := K.stays w hlx
      have hset := Go.MapKept.run_setObj_map (P := P) (.map (es.modify j fun e => { e with key := ek k, val := ew v }) clock) hh
      have hgs := (gget_at hn h2).2 v
      refine step_skip (w' := { w with heap := w.heap.setIfInBounds g (.map (es.modify j fun e => { e with key := ek k, val := ew v }) clock) }) ?_ (hK _ _ (h _ _ (hm.upd hi ⟨rfl, rfl, rfl, by simp, fun b _ hb => setIter_other w g b _ (by simpa [oMapK] using hb)⟩ (by simp [oMapK]) (fun b hb => .inl hb) (fun Z _ => ⟨_, _, (Go.MapKept.heap_set hh).1, ?_, ?_, ?_, Go.MapKept.stamped_modify hst _ _ (fun _ _ => rfl) (fun q _ hq => by rw [hq] at hky; exact (Option.some.inj hky).symm)⟩)) (by rw [hdst]; exact hs)))
      · unfold execOp
        simp only [ho, hs.ev hx, hs.ev hy, hs.ev hz]
        simp [Instr.mapUpdate, Sem.run_bind, run_underlying ht, hgo, hc, h1, hset, hky, hkts]
      · rw [hgs]
        unfold eMapK at *
        rw [List.map_set, ← he]
        apply List.ext_getElem?
        intro q
        rw [List.getElem?_map, Array.getElem?_toList, Array.getElem?_modify, List.getElem?_set, List.getElem?_map, List.length_map, Array.getElem?_toList]
        by_cases e : j = q
        · subst e
          have : j < es.size := by omega
          simp [this]
        · simp [e]
      · rw [hgs, gset_keys l k v j u h2]; exact hn
      · rw [hgs]
        intro q hq
        rcases List.mem_or_eq_of_mem_set hq with hq | hq
        · exact hk q hq
        · rw [hq]; exact ⟨lx, hlx⟩
end
theorem key_str {P : Program} {kt : TypeId} {l : List UInt8} (hu : P.underlying kt = some .string) (h : l.length ≤ 9223372036854775807) : ∃ t, keyOf P kt (str l) = some t := by
  unfold keyOf str
  simp [hu, mapKey, maxLen, ByteArray.size]
  omega
theorem str_inj (a b : List UInt8) (h : str a = str b) : a = b := by
  unfold str at h
  injection h with h
  injection h with h
  injection h
end Go.Proofs.Ytiioclkiapbjnaa.En
namespace Go.Proofs.Ytiioclkiapbjnaa.En
open Go.RowKit Go.Maps Ytiioclkiapbjnaa
set_option linter.unusedVariables false
set_option linter.unusedSimpArgs false
section
variable {P : Program} {Q : Exit → Act → World → Prop} {n : Nat} {m : Mem} {S : Sl} {ops : Array Oper} {rest : List Oper} {o : Oper}
theorem al_ex {d : Nat} {x : Operand} {i : Nat} {vs : Array Value} {v : Value} (ho : o.op = .extract x i) (hx : ev S x = some (.tuple vs)) (hv : vs[i]? = some v) (h : AL P ops rest Q n m (put S d v)) (hdd : o.dst = some d := by rfl) (hd : Nat.blt d n = true := by rfl) (hg : wantS ops S o true = true := by rfl) : AL P ops (o :: rest) Q n m S := al_val (ov_extract ho hx hv) h hdd hd hg
theorem aw_sr {id : Nat} {l : List Oper} {y : Code} (h : AL P l.toArray l (Exit.then (y.wp P Q) Q) n m S) : AW P (.seq (.region id l.toArray false) y) Q n m S := aw_seq (aw_region h)
theorem al_nt {y : Code} (h : AW P y Q n m S) : AL P ops [] (Exit.then (y.wp P Q) Q) n m S := al_nil (aq_then h)
theorem aq_tr {id : Nat} {l : List Oper} {y : Code} (h : AL P l.toArray l (Exit.then (y.wp P Q) Q) n m S) : AQ (Exit.then ((Code.seq (.region id l.toArray false) y).wp P Q) Q) .normal n m S := aq_then (aw_sr h)
end
end Go.Proofs.Ytiioclkiapbjnaa.En
namespace Go.Proofs.Ytiioclkiapbjnaa.En
open Go.RowKit Ytiioclkiapbjnaa
@[reducible] def iq (x : Int) : Value := Value.int .i64 x
@[reducible] def uq (x : Int) : Value := Value.int .u64 x
@[reducible] def i8 (x : Int) : Value := Value.int .u8 x
@[reducible] def wq (x : Int) : Int := IntKind.i64.wrap x
@[reducible] def wu (x : Int) : Int := IntKind.u64.wrap x
@[reducible] def w8 (x : Int) : Int := IntKind.u8.wrap x
@[reducible] def nS : Value := Value.slice none 0 0
@[reducible] def fq (k : Nat) : Value := Value.func (.func k) #[] #[]
@[reducible] def tq : Ty Int := tyInt .i64
@[reducible] def pq (g : Nat) : Value := ptr g 0
end Go.Proofs.Ytiioclkiapbjnaa.En
namespace Go.Proofs.Ytiioclkiapbjnaa.En
open Go.RowKit Go.Maps Ytiioclkiapbjnaa
set_option linter.unusedVariables false
set_option linter.unusedSimpArgs false
@[reducible] def sp_ (i d : Nat) (v : Value) : Sp := ⟨i, d, Unit, fun _ => { val := v }⟩
@[reducible] def fE (v : Value) : Value → Fact := fun u => fEq u v
section
variable {P : Program} {Q : Exit → Act → World → Prop} {n : Nat} {m : Mem} {S : Sl} {ops : Array Oper} {rest : List Oper} {o : Oper}
theorem mv_ {d : Nat} {x : Operand} {v : Value} (h : AL P ops rest Q n m (put S d v)) (ho : o.op = .move x := by rfl) (hx : ev S x = some v := by rfl) (hdd : o.dst = some d := by rfl) (hd : Nat.blt d n = true := by rfl) (hg : wantS ops S o true = true := by rfl) : AL P ops (o :: rest) Q n m S := al_val (ov_move ho hx) h hdd hd hg
theorem as_ {d : Nat} {x : Operand} {v : Value} (h : AL P ops rest Q n m (put S d v)) (ho : o.op = .assign x := by rfl) (hx : ev S x = some v := by rfl) (hdd : o.dst = some d := by rfl) (hd : Nat.blt d n = true := by rfl) (hg : wantS ops S o true = true := by rfl) : AL P ops (o :: rest) Q n m S := al_val (ov_assign ho hx) h hdd hd hg
theorem in_ {d : Nat} {op : BinOp} {xt yt : TypeId} {x y : Operand} {k : IntKind} {p q : Int} {v : Value} (h : AL P ops rest Q n m (put S d v)) (ho : o.op = .binOp op xt x y yt := by rfl) (hx : ev S x = some (.int k p) := by rfl) (hy : ev S y = some (.int k q) := by rfl) (hv : intRes op k p q = some v := by rfl) (hdd : o.dst = some d := by rfl) (hd : Nat.blt d n = true := by rfl) (hg : wantS ops S o true = true := by rfl) : AL P ops (o :: rest) Q n m S := al_val (ov_int ho hx hy hv) h hdd hd hg
theorem an_ {d : Nat} {x : Operand} {v : Value} {y : Code} (h : AW P y Q n m (put S d v)) (ho : o.op = .assign x := by rfl) (hx : ev S x = some v := by rfl) (hdd : o.dst = some d := by rfl) (hd : Nat.blt d n = true := by rfl) (hg : wantS ops S o true = true := by rfl) : AL P ops [o] (Exit.then (y.wp P Q) Q) n m S := al_val (ov_assign ho hx) (al_nil (aq_then h)) hdd hd hg
theorem im_ {d : Nat} {op : BinOp} {xt yt : TypeId} {x z : Operand} {k : IntKind} {p q : Int} {v : Value} {y : Code} (h : AW P y Q n m (put S d v)) (ho : o.op = .binOp op xt x z yt := by rfl) (hx : ev S x = some (.int k p) := by rfl) (hy : ev S z = some (.int k q) := by rfl) (hv : intRes op k p q = some v := by rfl) (hdd : o.dst = some d := by rfl) (hd : Nat.blt d n = true := by rfl) (hg : wantS ops S o true = true := by rfl) : AL P ops [o] (Exit.then (y.wp P Q) Q) n m S := al_val (ov_int ho hx hy hv) (al_nil (aq_then h)) hdd hd hg
theorem fr1_ {fn : Func} {w0 : World} {Z0 : Nat → Prop} {oin : List Own} {res : Unit → Res} {v : Value} {t : Nat} (hB : m.B = w0.heap.size := by rfl) (hw : m.w0 = w0 := by rfl) (hZ : m.Z0 = Z0 := by rfl) (hX : m.X = oin.flatMap Own.blk := by rfl) (hr : fn.results = #[.tmp t] := by rfl) (ht : S t = some v := by rfl) (hv : (res ()).val = v := by rfl) (ho : (res ()).own = [] := by rfl) (hf : (res ()).fz = [] := by rfl) : AQ (FnPost P fn w0 Z0 oin res) .ret n m S :=
  fn_ret () [] [] hB hw hZ hX (res1 hr ht) hv ho hf (by decide)
theorem fr2_ {fn : Func} {w0 : World} {Z0 : Nat → Prop} {oin : List Own} {res : Unit → Res} {v x : Value} {t u : Nat} (hB : m.B = w0.heap.size := by rfl) (hw : m.w0 = w0 := by rfl) (hZ : m.Z0 = Z0 := by rfl) (hX : m.X = oin.flatMap Own.blk := by rfl) (hr : fn.results = #[.tmp t, .tmp u] := by rfl) (ht : S t = some v := by rfl) (hu : S u = some x := by rfl) (hv : (res ()).val = .tuple #[v, x] := by rfl) (ho : (res ()).own = [] := by rfl) (hf : (res ()).fz = [] := by rfl) : AQ (FnPost P fn w0 Z0 oin res) .ret n m S :=
  fn_ret () [] [] hB hw hZ hX (res2 hr ht hu) hv ho hf (by decide)
theorem sm_ {id : Nat} {l : List Oper} {o : Oper} {y : Code} {d : Nat} {x : Operand} {v : Value} (h : AL P (o :: l).toArray l (Exit.then (y.wp P Q) Q) n m (put S d v)) (ho : o.op = .move x := by rfl) (hx : ev S x = some v := by rfl) (hdd : o.dst = some d := by rfl) (hd : Nat.blt d n = true := by rfl) (hg : wantS (o :: l).toArray S o true = true := by rfl) : AW P (.seq (.region id (o :: l).toArray false) y) Q n m S := aw_seq (aw_region (al_val (ov_move ho hx) h hdd hd hg))
theorem sh_ {l : List Oper} (m : Mem) (X : List Own) (Y : List Fact) (h : AL P ops l Q n (m.plus X Y) S) : AL P ops l Q n (m.plus X Y) S := h
theorem nm_ (io iz : List Nat) {l : List (Nat × Value)} (hio : io.Nodup) (hl : allT S l) : ∀ w a, Holds m w → Sat n S a → Holds { m with own := picks m.own io, fz := picks m.fz iz } w ∧ Sat n (tab l) a := fun w a hm hs => norm hm hs io iz l hio hl
end
end Go.Proofs.Ytiioclkiapbjnaa.En
namespace Go.Proofs.Ytiioclkiapbjnaa.En
open Go.RowKit Go.Proofs.Ytiioclkiapbjnaa
set_option linter.unusedVariables false
set_option linter.unusedSimpArgs false
section
variable {P : Program} {Q : Exit → Act → World → Prop} {n : Nat} {m : Mem} {S : Sl} {ops : Array Oper} {rest : List Oper} {o : Oper} {α β : Type}
theorem al_fieldR {d : Nat} {v p : Value} {k : Nat} {t : TypeId} {y : Operand} {j sz : Nat} {fs : Array Field} {f : Field} (hp : EltOf v p k) (hx : ev S y = some p) (hu : P.underlying t = some (.struct fs)) (hf : fs[j]? = some f) (hk : szOf P f.type = some sz) (hk0 : Nat.beq sz 0 = false) (ho : o.op = .fieldAddr t y j)
    (h : ∀ q, EltOf v q (k + f.offset) → AL P ops rest Q n m (put S d q)) (hdd : o.dst = some d := by rfl) (hd : Nat.blt d n = true := by rfl) (hg : wantS ops S o true = true := by rfl) : AL P ops (o :: rest) Q n m S := by
  obtain ⟨g, l, c, rfl, rfl⟩ := hp
  exact al_val (ov_fieldAddr hx hu hf hk hk0 ho) (h _ ⟨g, l, c, rfl, rfl⟩) hdd hd hg
theorem row_cellsF {w : World} {v p : Value} {e : TypeId} {τ : Ty α} {υ : Ty β} {pr : α → β} {off : Nat} {xs : List α} {Z : Nat → Prop} {k : Nat} {x : α} (h : (oRow v e τ xs).p Z w) (hp : EltOf v p (k * τ.size + off)) (hx : xs[k]? = some x) (hsub : Sub τ off υ pr) :
    ∃ ad cs, p = .pointer (some ad) ∧ υ.rep Z w cs (pr x) ∧ ∀ j u, cs[j]? = some u → w.cell? (ad.add j) = some u := by
  obtain ⟨g, l, c, rfl, rfl⟩ := hp
  obtain ⟨g', l', c', cs, cur, h1, h2, -, -, -, -, -, -, -, hrep, hc⟩ := row_cells (p := .pointer (some ⟨g, k * τ.size, none⟩)) h ⟨g, l, c, rfl, rfl⟩ hx
  cases h1
  refine ⟨_, _, rfl, hsub hrep, fun j u hu => ?_⟩
  rw [List.getElem?_take] at hu
  split at hu
  · rw [List.getElem?_drop] at hu
    have := hc _ _ hu
    rw [add_plain] at this ⊢
    rw [Nat.add_assoc]
    exact this
  · cases hu
theorem ov_loadF {τ : Ty α} {υ : Ty β} {pr : α → β} {off : Nat} {v p u : Value} {xs : List α} {k : Nat} {x : α} {ds : List Value} (i : Nat) {t et : TypeId} {d : TypeDesc} {y : Operand} (hi : m.own[i]? = some (oRow v et τ xs)) (hp : EltOf v p (k * τ.size + off)) (hxk : xs[k]? = some x) (hsub : Sub τ off υ pr) (hds : ∀ {Z w cs}, υ.rep Z w cs (pr x) → cs = ds) (hx : ev S y = some p) (hu : P.underlying t = some d) (hsz : szOf P t = some υ.size) (h1 : (isAggD d || Nat.beq υ.size 1) = true) (hv : mk d ds = u) (ho : o.op = .load t y) : OpV P o n m S u := fun w a hm hs => by
  obtain ⟨ad, cs, rfl, hrep, hcells⟩ := row_cellsF (own_at hm hi) hp hxk hsub
  have hr := run_loadVar' hu hsz w _ _ (υ.len hrep) (fun hd => by rw [hd] at h1; exact Nat.eq_of_beq_eq_true (by simpa using h1)) hcells
  rw [hds hrep, hv] at hr
  unfold execOp
  simp only [ho, hs.ev hx]
  simp [Instr.loadAt, Instr.sureAddr, hr]
end
end Go.Proofs.Ytiioclkiapbjnaa.En
namespace Go.Proofs.Ytiioclkiapbjnaa.En
open Go.RowKit Go.Proofs.Ytiioclkiapbjnaa
set_option linter.unusedVariables false
set_option linter.unusedSimpArgs false
structure SubSet {α β : Type} (t : Ty α) (off : Nat) (u : Ty β) (up : α → β → α) : Prop where
  laid : ∀ {Z w cs vs x y}, t.rep Z w cs x → u.rep Z w vs y → t.rep Z w (cs.take off ++ vs ++ cs.drop (off + u.size)) (up x y)
theorem SubSet.whole {α : Type} (t : Ty α) : SubSet t 0 t (fun _ y => y) := ⟨fun h h2 => by
  rw [List.take_zero, Nat.zero_add, List.drop_of_length_le (by rw [t.len h]; exact Nat.le_refl _), List.nil_append, List.append_nil]; exact h2⟩
theorem SubSet.fst {α β γ : Type} {a : Ty α} {b : Ty β} {u : Ty γ} {off : Nat} {p : α → γ → α} (hf : off + u.size ≤ a.size) (h : SubSet a off u p) : SubSet (tyPair a b) off u (fun x y => (p x.1 y, x.2)) := ⟨fun hr h0 => by
  obtain ⟨c1, c2, rfl, h1, h2⟩ := hr
  have hl := a.len h1
  refine ⟨c1.take off ++ _ ++ c1.drop (off + u.size), c2, ?_, h.laid h1 h0, h2⟩
  rw [List.take_append_of_le_length (by omega), List.drop_append_of_le_length (by omega), List.append_assoc, List.append_assoc, List.append_assoc]⟩
theorem SubSet.via {α β γ : Type} {f : α → β} {b : Ty β} {u : Ty γ} {off : Nat} {p : β → γ → β} {q : α → γ → α} (h : SubSet b off u p) (hq : ∀ x y, f (q x y) = p (f x) y) : SubSet (tyVia f b) off u q := ⟨fun hr h0 => by
  show b.rep _ _ _ (f (q _ _))
  rw [hq]; exact h.laid hr h0⟩
section
variable {P : Program} {Q : Exit → Act → World → Prop} {n : Nat} {m : Mem} {S : Sl} {ops : Array Oper} {rest : List Oper} {o : Oper} {α β : Type}
end
end Go.Proofs.Ytiioclkiapbjnaa.En
namespace Go.Proofs.Ytiioclkiapbjnaa.En
open Go.RowKit Ytiioclkiapbjnaa Go.Op
set_option linter.unusedVariables false
set_option linter.unusedSimpArgs false
def WinOf (v s : Value) (k sz : Nat) : Prop := ∃ A n c, v = .slice A n c ∧ k ≤ n ∧ n ≤ c ∧ s = .slice (if c = k then A else A.map (·.add (k * sz))) (n - k) (c - k)
def fWin (v s : Value) (k sz : Nat) : Fact := ⟨fun _ _ => WinOf v s k sz, fun _ h => h, fun _ h => h⟩
section
variable {P : Program} {Q : Exit → Act → World → Prop} {n : Nat} {m : Mem} {S : Sl} {ops : Array Oper} {rest : List Oper} {o : Oper} {α : Type}
theorem of_winR {τ : Ty α} {v : Value} {xs : List α} (i : Nat) {t e et : TypeId} {x y : Operand} {ky : IntKind} {l : Int} (h0 : 0 ≤ l) (h1 : l ≤ xs.length) (hi : m.own[i]? = some (oRow v et τ xs)) (hx : ev S x = some v) (hy : ev S y = some (.int ky l)) (ht : P.underlying t = some (.slice e)) (hsz : szOf P e = some τ.size) (ho : o.op = .slice t x (some y) none none) : OpF P o n m S (fun s => fWin v s l.toNat τ.size) := fun w a hm hs => by
  obtain ⟨cs, hr1, hr2⟩ := own_at hm hi
  obtain ⟨A, c, rfl, hc, hmx⟩ := own_len hr1
  refine ⟨_, ?_, ⟨A, _, c, rfl, by omega, hc, rfl⟩⟩
  unfold execOp
  simp only [ho, hs.ev hx, Option.map_some, Option.map_none, hs.ev hy]
  simp [Instr.sliceAt, Instr.slice, Instr.sliceBounds, Instr.sliceBound, asIntOf, Sem.run_bind, run_underlying ht, h0, h1, run_sizeOf' hsz]
theorem al_winR {d : Nat} {τ : Ty α} {v : Value} {xs : List α} (i : Nat) {t e et : TypeId} {x y : Operand} {ky : IntKind} {l : Int} (h0 : 0 ≤ l) (h1 : l ≤ xs.length) (hi : m.own[i]? = some (oRow v et τ xs)) (hx : ev S x = some v) (hy : ev S y = some (.int ky l)) (ht : P.underlying t = some (.slice e)) (hsz : szOf P e = some τ.size) (ho : o.op = .slice t x (some y) none none)
    (h : ∀ s, WinOf v s l.toNat τ.size → AL P ops rest Q n m (put S d s)) (hdd : o.dst = some d := by rfl) (hd : Nat.blt d n = true := by rfl) (hg : wantS ops S o true = true := by rfl) : AL P ops (o :: rest) Q n m S :=
  al_step hg fun w a hm hs K hK => by
    obtain ⟨s, hr, hp⟩ := of_winR i h0 h1 hi hx hy ht hsz ho w a hm hs
    exact step_val (w' := w) hr (hK _ _ (h s hp w _ hm (hs.put' hdd hd _)))
end
end Go.Proofs.Ytiioclkiapbjnaa.En
namespace Go.Proofs.Ytiioclkiapbjnaa.En
open Go.RowKit
set_option linter.unusedVariables false
set_option linter.unusedSimpArgs false
section
variable {P : Program} {Q : Exit → Act → World → Prop} {n : Nat} {m : Mem} {S : Sl} {ops : Array Oper} {rest : List Oper} {o : Oper} {α β : Type}
theorem RepL.wide {τ τ' : Ty α} (hw : ∀ {Z w cs x}, τ.rep Z w cs x → τ'.rep Z w cs x) {Z : Nat → Prop} {w : World} : ∀ {xs : List α} {cs : List Value}, RepL τ Z w cs xs → RepL τ' Z w cs xs
  | [], _, h => h
  | x :: xs, _, h => by obtain ⟨c1, c2, he, h1, h2⟩ := h; exact ⟨c1, c2, he, hw h1, RepL.wide hw h2⟩
end
section
variable {P : Program} {Q : Exit → Act → World → Prop} {n : Nat} {m0 m : Mem} {S : Sl} {ops : Array Oper} {o : Oper} {E : List Nat} {L : Spec} {R : Value → Fact} {α ι : Type}
end
end Go.Proofs.Ytiioclkiapbjnaa.En
namespace Go.Proofs.Ytiioclkiapbjnaa.En
open Go.RowKit Go.Proofs.Ytiioclkiapbjnaa
set_option linter.unusedVariables false
set_option linter.unusedSimpArgs false
section
variable {P : Program} {Q : Exit → Act → World → Prop} {n : Nat} {m : Mem} {S : Sl} {ops : Array Oper} {rest : List Oper} {o : Oper} {α β κ : Type} {L : List Own}
section
variable {v u : Value} {e eb : TypeId} {τh : Ty (Value × α)} {τk : Ty κ} {kd : α → List κ} {hole : Option Nat} {us us2 : List Value} {xs xs2 : List α} {x : α}
end
end
end Go.Proofs.Ytiioclkiapbjnaa.En
namespace Go.Proofs.Ytiioclkiapbjnaa.En
open Go.RowKit Go.Maps Go.Proofs.Ytiioclkiapbjnaa
set_option linter.unusedVariables false
set_option linter.unusedSimpArgs false
section
variable {κ α : Type}
def hold [DecidableEq κ] (l : List (κ × Option (List α))) (k : κ) : List (κ × Option (List α)) := match gget l k with | none => l | some _ => gset l k none
variable {P : Program} {Q : Exit → Act → World → Prop} {n : Nat} {m : Mem} {S : Sl} {ops : Array Oper} {rest : List Oper} {o : Oper} {L : List Own} {t kt vt e : TypeId} {g : Nat} {ek : κ → Value} {τ : Ty α} {us : List Value} {l : List (κ × Option (List α))}
end
end Go.Proofs.Ytiioclkiapbjnaa.En
namespace Go.Proofs.Ytiioclkiapbjnaa.En
open Go.RowKit Go.Maps Go.Proofs.Ytiioclkiapbjnaa
set_option linter.unusedVariables false
set_option linter.unusedSimpArgs false
section
variable {κ ν : Type}
def pk {α β : Type} (f : α → List α → Option β) (l : List α) (j : Nat) : Option β := match l[j]? with | some y => f y (l.eraseIdx j) | none => none
def pickM {α β : Type} [DecidableEq β] (l : List α) (f : α → List α → Option β) (z : Option β) : Option β := match l with
  | [] => z
  | x :: r => if (List.range r.length).all (fun j => decide (pk f (x :: r) (j + 1) = f x r)) = true then f x r else none
theorem pickM_nil {α β : Type} [DecidableEq β] {l : List α} {f : α → List α → Option β} {z : Option β} {r : β} (h : pickM l f z = some r) (hl : l = []) : z = some r := by
  subst hl; exact h
theorem pickM_at {α β : Type} [DecidableEq β] {l : List α} {f : α → List α → Option β} {z : Option β} {r : β} (h : pickM l f z = some r) {j : Nat} {x : α} (hj : l[j]? = some x) : f x (l.eraseIdx j) = some r := by
  cases l with
  | nil => simp at hj
  | cons y l =>
    unfold pickM at h
    dsimp only at h
    split at h
    · rename_i ha
      cases j with
      | zero => simp at hj; subst hj; exact h
      | succ j =>
        have hlt : j < l.length := by simpa using (List.getElem?_eq_some_iff.1 hj).1
        have := List.all_eq_true.1 ha j (List.mem_range.2 hlt)
        have := of_decide_eq_true this
        unfold pk at this
        rw [hj] at this
        exact this.trans h
    · cases h
theorem map_er {α β : Type} (f : α → β) : ∀ (l : List α) (j : Nat), (l.eraseIdx j).map f = (l.map f).eraseIdx j
  | [], _ => rfl
  | _ :: _, 0 => rfl
  | x :: l, j + 1 => by
    simp only [List.eraseIdx_cons_succ, List.map_cons, map_er f l j]
def encE (ek : κ → Value) (ew : ν → Value) (l : List (κ × ν)) (es : List MapEntry) : Prop := es.map (fun e => (e.key, e.val)) = l.map (fun x => (ek x.1, ew x.2))
def oMapIt (P : Program) (kt : TypeId) (gm : Nat) (ek : κ → Value) (ew : ν → Value) (l : List (κ × ν)) (g : Nat) (left : List (κ × ν)) (cur : Option (κ × ν)) : Own where
  blk := [gm, g]
  p _ w := ∃ es clock seen, gm ≠ g ∧ w.heap[gm]? = some (.map es clock) ∧ eMapK ek ew l es.toList ∧ (l.map fun x : κ × ν => x.1).Nodup ∧ (∀ x ∈ l, ∃ t, keyOf P kt (ek x.1) = some t) ∧ Go.MapKept.Stamped es clock ∧ w.heap[g]? = some (.mapIter (some gm) clock seen clock) ∧ encE ek ew left (leftOf es seen).toList ∧ ∀ c, cur = some c → ∃ e ∈ es.toList, seen.back? = some e.born ∧ e.key = ek c.1 ∧ e.val = ew c.2
  keep hz h := by
    obtain ⟨es, c, sn, h0, h1, h2, h3, h4, h5, h6, h7⟩ := h
    exact ⟨es, c, sn, h0, (hz gm (.inr (by simp))).trans h1, h2, h3, h4, h5, (hz g (.inr (by simp))).trans h6, h7⟩
  mono _ h := h
  lt h := by
    obtain ⟨es, c, sn, h0, h1, h2, h3, h4, h5, h6, h7⟩ := h
    intro b hb
    simp only [List.mem_cons, List.not_mem_nil, or_false] at hb
    rcases hb with rfl | rfl
    · exact (Array.getElem?_eq_some_iff.1 h1).1
    · exact (Array.getElem?_eq_some_iff.1 h6).1
variable {P : Program} {Q : Exit → Act → World → Prop} {n : Nat} {m : Mem} {S : Sl} {ops : Array Oper} {rest : List Oper} {o : Oper} {l left : List (κ × ν)} {cur : Option (κ × ν)} {t kt vt : TypeId} {gm g : Nat} {ek : κ → Value} {ew : ν → Value}
theorem leftOf_none (es : Array MapEntry) : leftOf es #[] = es := by
  unfold leftOf
  exact Array.filter_eq_self.2 (fun x _ => by simp)
theorem al_rangeM {d : Nat} {x : Operand} (i : Nat) (hi : m.own[i]? = some (oMapK P kt gm ek ew l)) (hx : ev S x = some (.map (some gm))) (ht : P.underlying t = some (.map kt vt)) (ho : o.op = .range t x)
    (h : ∀ g, AL P ops rest Q n (m.upd i (oMapIt P kt gm ek ew l g l none)) (put S d (ptr g 0))) (hdd : o.dst = some d := by rfl) (hd : Nat.blt d n = true := by rfl) (hg : wantS ops S o true = true := by rfl) : AL P ops (o :: rest) Q n m S :=
  al_step hg fun w a hm hs K hK => by
    have hp := own_at hm hi
    obtain ⟨es, clock, hh, he, hn, hk, hst⟩ := hp
    have hlt : gm < w.heap.size := (Array.getElem?_eq_some_iff.1 hh).1
    refine step_val (v := ptr w.heap.size 0) (w' := w.alloc (.mapIter (some gm) clock #[] clock)) ?_ (hK _ _ (h w.heap.size _ _ (hm.upd hi (Step.of ((Below.refl _ _).alloc (Nat.le_refl _) _)) (by simp [oMapIt]; omega) (fun b hb => ?_) (fun Z _ => ?_)) (hs.put' hdd hd _)))
    · unfold execOp
      simp only [ho, hs.ev hx]
      have := run_range_map (P := P) w t kt vt gm es clock ht hh
      simp [this, ptr]
    · simp only [oMapIt, List.mem_cons, List.not_mem_nil, or_false] at hb
      rcases hb with rfl | rfl
      · exact .inl (by simp [oMapK])
      · exact .inr (Nat.le_refl _)
    · exact ⟨es, clock, #[], by omega, (heap_alloc_old w _ hlt).trans hh, he, hn, hk, hst, heap_alloc_new w _, by rw [leftOf_none]; exact he, fun c hc => by cases hc⟩
theorem filter_born (b : Nat) : ∀ (L : List MapEntry) (j : Nat) (e : MapEntry), (L.map (·.born)).Nodup → L[j]? = some e → e.born = b → L.filter (fun x => !(x.born == b)) = L.eraseIdx j
  | [], j, e, _, h, _ => by simp at h
  | x :: L, 0, e, hn, h, hb => by
    simp at h; subst h
    have hn' : x.born ∉ L.map (·.born) := (List.nodup_cons.1 hn).1
    rw [List.filter_cons, if_neg (by simp [hb])]
    simp only [List.eraseIdx_cons_zero]
    refine List.filter_eq_self.2 fun y hy => ?_
    have : y.born ≠ b := fun e => hn' (by rw [hb, ← e]; exact List.mem_map.2 ⟨y, hy, rfl⟩)
    simpa using this
  | x :: L, j + 1, e, hn, h, hb => by
    have hn' : x.born ∉ L.map (·.born) ∧ (L.map (·.born)).Nodup := List.nodup_cons.1 hn
    rw [List.getElem?_cons_succ] at h
    have hx : x.born ≠ b := fun e' => hn'.1 (by rw [e', ← hb]; exact List.mem_map.2 ⟨e, List.mem_of_getElem? h, rfl⟩)
    rw [List.filter_cons, if_pos (by simpa using hx), filter_born b L j e hn'.2 h hb, List.eraseIdx_cons_succ]
theorem leftOf_push {es : Array MapEntry} {seen : Array Nat} (hn : (es.toList.map (·.born)).Nodup) {j : Nat} {e : MapEntry} (hj : (leftOf es seen).toList[j]? = some e) : (leftOf es (seen.push e.born)).toList = (leftOf es seen).toList.eraseIdx j := by
  have h1 : (leftOf es (seen.push e.born)).toList = (leftOf es seen).toList.filter (fun x => !(x.born == e.born)) := by
    unfold leftOf
    rw [Array.toList_filter, Array.toList_filter, List.filter_filter]
    refine List.filter_congr fun x _ => ?_
    rw [contains_push]
    cases seen.contains x.born <;> cases x.born == e.born <;> rfl
  rw [h1]
  refine filter_born e.born _ j e ?_ hj rfl
  have hs : (leftOf es seen).toList.Sublist es.toList := by unfold leftOf; rw [Array.toList_filter]; exact List.filter_sublist
  exact (hs.map _).nodup hn
theorem run_nextM {w : World} {ty : TypeId} {bm c : Nat} {seen : Array Nat} {es : Array MapEntry} (hg : w.heap[g]? = some (.mapIter (some bm) c seen c)) (hb : w.heap[bm]? = some (.map es c)) (hold : ∀ x ∈ es.toList, x.born < c) :
    ((leftOf es seen).toList = [] ∧ (Instr.next (ptr g 0) false ty).run P w = .ok (.tuple #[.bool false]) w) ∨
    ∃ (j : Nat) (e : MapEntry) (w1 : World), (leftOf es seen).toList[j]? = some e ∧ w1.heap = w.heap ∧ w1.os = w.os ∧ w1.tape = w.tape ∧ w1.output = w.output ∧ (Instr.next (ptr g 0) false ty).run P w = .ok (.tuple #[.bool true, e.key, e.val]) { w1 with heap := w1.heap.setIfInBounds g (.mapIter (some bm) c (seen.push e.born) c) } := by
  unfold ptr
  simp only [Instr.next, getObj, Sem.run_bind, Sem.run, hg, hb, Result.andThen, next_test_false seen es c c hold (Nat.le_refl _), Bool.false_eq_true, if_false]
  unfold leftOf
  have hmem : ∀ x ∈ (Array.filter (fun e => !seen.contains e.born) es).toList, x.born < c := fun x hx => hold x (by simp at hx ⊢; exact hx.1)
  generalize Array.filter (fun e => !seen.contains e.born) es = L at hmem ⊢
  have e1 : L.filter (fun x => decide (x.born < c)) = L := Array.filter_eq_self.2 (fun x hx => by simpa using hmem x (by simpa using hx))
  have e2 : L.filter (fun x => decide (x.born ≥ c)) = #[] := by
    rw [Array.filter_eq_empty_iff]
    intro x hx
    have := hmem x (by simpa using hx)
    simp
    omega
  simp only [e1, e2, Array.append_empty]
  by_cases h0 : L.size = 0
  · left
    have : L = #[] := Array.eq_empty_of_size_eq_zero h0
    subst this
    refine ⟨rfl, ?_⟩
    simp [choose, Sem.run, Question.forced]
  · right
    have hne : L.isEmpty = false := by simp [Array.isEmpty, h0]
    simp only [hne, Bool.false_eq_true, if_false, Array.empty_append, Array.size_map]
    have hch : ∃ (j : Nat) (w1 : World), j < L.size ∧ w1.heap = w.heap ∧ w1.os = w.os ∧ w1.tape = w.tape ∧ w1.output = w.output ∧ (choose (Question.mapNext L.size)).run P w = .ok j w1 := by
      by_cases hf : L.size ≤ 1
      · exact ⟨0, w, by omega, rfl, rfl, rfl, rfl, by simp [choose, Sem.run, Question.forced, hf]⟩
      · exact ⟨_, w.drew, Nat.mod_lt _ (by omega), rfl, rfl, rfl, rfl, by
          simp only [choose, Sem.run, Question.forced, decide_eq_true_eq, hf, if_false, Question.cut]
          rfl⟩
    obtain ⟨j, w1, hj, q1, q2, q3, q4, hrun⟩ := hch
    refine ⟨j, L[j], w1, by rw [Array.getElem?_toList, Array.getElem?_eq_getElem hj], q1, q2, q3, q4, ?_⟩
    have hset : (setObj g (.mapIter (some bm) c (seen.push L[j].born) c)).run P w1 = .ok () { w1 with heap := w1.heap.setIfInBounds g (.mapIter (some bm) c (seen.push L[j].born) c) } := by
      simp only [setObj, Sem.run]
      rw [q1, hg]
    simp only [hrun, Array.getElem?_map, Array.getElem?_eq_getElem hj, Option.map_some, Sem.run_bind, hset, Result.andThen]
    rfl
theorem al_nextM {d : Nat} {it : Operand} (i : Nat) (hi : m.own[i]? = some (oMapIt P kt gm ek ew l g left cur)) (hx : ev S it = some (ptr g 0)) (ho : o.op = .next it false)
    (h1 : ∀ j x, left[j]? = some x → AL P ops rest Q n (m.upd i (oMapIt P kt gm ek ew l g (left.eraseIdx j) (some x))) (put S d (.tuple #[.bool true, ek x.1, ew x.2])))
    (h2 : left = [] → AL P ops rest Q n m (put S d (.tuple #[.bool false]))) (hdd : o.dst = some d := by rfl) (hd : Nat.blt d n = true := by rfl) (hgd : wantS ops S o true = true := by rfl) : AL P ops (o :: rest) Q n m S :=
  al_step hgd fun w a hm hs K hK => by
    obtain ⟨es, c, seen, h0, hh, he, hn, hk, hst, hgi, hl, hc⟩ := own_at hm hi
    rcases run_nextM (P := P) (ty := o.type) hgi hh hst.1 with ⟨hle, hr⟩ | ⟨j, e, w1, hj, q1, q2, q3, q4, hr⟩
    · have hl0 : left = [] := by
        unfold encE at hl
        rw [hle] at hl
        cases left with
        | nil => rfl
        | cons a b => cases hl
      refine step_val (v := .tuple #[.bool false]) (w' := w) ?_ (hK _ _ (h2 hl0 _ _ hm (hs.put' hdd hd _)))
      unfold execOp
      simp only [ho, hs.ev hx]
      simp [hr]
    · have hlj : ((leftOf es seen).toList.map (fun e => (e.key, e.val)))[j]? = some (e.key, e.val) := by rw [List.getElem?_map, hj]; rfl
      have hl' : (leftOf es seen).toList.map (fun e => (e.key, e.val)) = left.map (fun x => (ek x.1, ew x.2)) := hl
      rw [hl', List.getElem?_map] at hlj
      obtain ⟨x, hx1, hx2⟩ := Option.map_eq_some_iff.1 hlj
      obtain ⟨k1, k2⟩ := Prod.mk.inj hx2
      have hgs : g < w.heap.size := (Array.getElem?_eq_some_iff.1 hgi).1
      refine step_val (v := .tuple #[.bool true, ek x.1, ew x.2]) (w' := { w1 with heap := w1.heap.setIfInBounds g (.mapIter (some gm) c (seen.push e.born) c) }) ?_ (hK _ _ (h1 j x hx1 _ _ (hm.upd hi ⟨q2, q3, q4, by simp [q1], fun b _ hb => ?_⟩ (by simp [oMapIt]; exact h0) (fun b hb => .inl hb) (fun Z _ => ?_)) (hs.put' hdd hd _)))
      · unfold execOp
        simp only [ho, hs.ev hx]
        simp [hr, k1, k2]
      · have hbg : b ≠ g := fun e' => hb (by rw [e']; simp [oMapIt])
        show (w1.heap.setIfInBounds g _)[b]? = _
        rw [q1]
        exact (Go.MapKept.heap_set hgi).2 b hbg
      · refine ⟨es, c, seen.push e.born, h0, ?_, he, hn, hk, hst, ?_, ?_, fun c' hc' => ?_⟩
        · show (w1.heap.setIfInBounds g _)[gm]? = _
          rw [q1, (Go.MapKept.heap_set hgi).2 gm h0, hh]
        · show (w1.heap.setIfInBounds g _)[g]? = _
          rw [q1]; exact (Go.MapKept.heap_set hgi).1
        · unfold encE at *
          rw [leftOf_push hst.2.1 hj, map_er, hl', map_er]
        · obtain rfl := Option.some.inj hc'
          exact ⟨e, (mem_left (List.mem_of_getElem? hj)).1, by simp, k1.symm, k2.symm⟩
theorem ov_entryM {it : Operand} {x : κ × ν} (i : Nat) (hi : m.own[i]? = some (oMapIt P kt gm ek ew l g left (some x))) (hx : ev S it = some (ptr g 0)) (ho : o.op = .entry it) : OpV P o n m S (.tuple #[ek x.1, ew x.2]) := fun w a hm hs => by
  obtain ⟨es, c, seen, h0, hh, he, hn, hk, hst, hgi, hl, hc⟩ := own_at hm hi
  obtain ⟨e, hee, hbk, k1, k2⟩ := hc x rfl
  have hf : es.find? (·.born == e.born) = some e := by rw [← Array.find?_toList]; exact find_born e es.toList hst.2.1 hee
  unfold execOp
  simp only [ho, hs.ev hx]
  have : (Instr.entry (ptr g 0)).run P w = .ok (.tuple #[e.key, e.val]) w := by
    unfold ptr
    simp only [Instr.entry, getObj, Sem.run_bind, Sem.run, hgi, hh, Result.andThen, hbk, bne_self_eq_false, Bool.false_eq_true, if_false, hf]
    rfl
  simp [this, k1, k2]
theorem Holds.itDone {w : World} (hm : Holds m w) {i : Nat} (hi : m.own[i]? = some (oMapIt P kt gm ek ew l g left cur)) : Holds (m.upd i (oMapK P kt gm ek ew l)) w := by
  have hp := own_at hm hi
  obtain ⟨es, c, seen, h0, hh, he, hn, hk, hst, _⟩ := hp
  exact hm.upd hi ⟨rfl, rfl, rfl, Nat.le_refl _, fun b _ _ => rfl⟩ (by simp [oMapK]) (fun b hb => .inl (by simp [oMapK] at hb; simp [oMapIt, hb])) (fun Z _ => ⟨es, c, hh, he, hn, hk, hst⟩)
theorem al_itDone {r : List Oper} (i : Nat) (hi : m.own[i]? = some (oMapIt P kt gm ek ew l g left cur)) (h : AL P ops r Q n (m.upd i (oMapK P kt gm ek ew l)) S) : AL P ops r Q n m S := fun w a hm hs => h w a (hm.itDone hi) hs
theorem Holds.itForget {w : World} (hm : Holds m w) {i : Nat} (hi : m.own[i]? = some (oMapIt P kt gm ek ew l g left cur)) : Holds (m.upd i (oMapIt P kt gm ek ew l g left none)) w := by
  have hp := own_at hm hi
  obtain ⟨es, c, seen, h0, hh, he, hn, hk, hst, hgi, hl, _⟩ := hp
  exact hm.upd hi ⟨rfl, rfl, rfl, Nat.le_refl _, fun b _ _ => rfl⟩ (by simp [oMapIt]; exact h0) (fun b hb => .inl hb) (fun Z _ => ⟨es, c, seen, h0, hh, he, hn, hk, hst, hgi, hl, fun c hc => by cases hc⟩)
theorem aq_itForget {y : Exit} (i : Nat) (hi : m.own[i]? = some (oMapIt P kt gm ek ew l g left cur)) (h : AQ Q y n (m.upd i (oMapIt P kt gm ek ew l g left none)) S) : AQ Q y n m S := fun w a hm hs => h w a (hm.itForget hi) hs
def gdel [DecidableEq κ] : List (κ × ν) → κ → List (κ × ν)
  | [], _ => []
  | x :: l, k => if x.1 = k then l else x :: gdel l k
theorem gdel_none [DecidableEq κ] : ∀ {l : List (κ × ν)} {k : κ}, (∀ x ∈ l, x.1 ≠ k) → gdel l k = l
  | [], _, _ => rfl
  | x :: l, k, h => by unfold gdel; rw [if_neg (h x (by simp)), gdel_none (fun y hy => h y (by simp [hy]))]
theorem gdel_at [DecidableEq κ] : ∀ {l : List (κ × ν)} {k : κ} {v : ν} {j : Nat}, (l.map fun x : κ × ν => x.1).Nodup → l[j]? = some (k, v) → gdel l k = l.eraseIdx j
  | [], _, _, _, _, h => by simp at h
  | x :: l, k, v, 0, _, h => by
    simp at h; subst h
    unfold gdel; rw [if_pos rfl]; rfl
  | x :: l, k, v, j + 1, hn, h => by
    rw [List.map_cons, List.nodup_cons] at hn
    rw [List.getElem?_cons_succ] at h
    have hne : x.1 ≠ k := fun e => hn.1 (by rw [e]; exact List.mem_map.2 ⟨(k, v), List.mem_of_getElem? h, rfl⟩)
    unfold gdel; rw [if_neg hne, gdel_at hn.2 h]; rfl
theorem gdel_sub [DecidableEq κ] : ∀ (l : List (κ × ν)) (k : κ), (gdel l k).Sublist l
  | [], _ => List.Sublist.refl _
  | x :: l, k => by
    unfold gdel
    split
    · exact List.sublist_cons_self x l
    · exact (gdel_sub l k).cons_cons x
theorem al_mapDelK [DecidableEq κ] {x y : Operand} (i : Nat) (K : Keyed P kt) (hinj : ∀ a b, ek a = ek b → a = b) {k : κ} (hkey : ∃ t, keyOf P kt (ek k) = some t) (hi : m.own[i]? = some (oMapK P kt gm ek ew l)) (hx : ev S x = some (.map (some gm))) (hy : ev S y = some (ek k)) (ht : P.underlying t = some (.map kt vt)) (ho : o.op = .call { callee := .builtin .delete, args := #[x, y], argTypes := #[t, kt] })
    (h : AL P ops rest Q n (m.upd i (oMapK P kt gm ek ew (gdel l k))) S) (hdst : o.dst = none := by rfl) (hgd : wantS ops S o true = true := by rfl) : AL P ops (o :: rest) Q n m S :=
  al_step hgd fun w a hm hs K' hK => by
    obtain ⟨es, clock, hh, he, hn, hk, hst⟩ := own_at hm hi
    have hf := find_K (P := P) K hinj he hn hk hkey w
    obtain ⟨lx, hlx⟩ := hkey
    have hc := K.check w es.isEmpty hlx
    have hgo := Go.MapKept.run_getObj_map (P := P) hh
    have hes : es.size = l.length := by have := congrArg List.length he; simpa using this
    rcases hf with ⟨h1, h2⟩ | ⟨j, u, h1, h2⟩
    · have hset := Go.MapKept.run_setObj_map (P := P) (.map es clock) hh
      refine step_val (v := .tuple #[]) (w' := { w with heap := w.heap.setIfInBounds gm (.map es clock) }) ?_ (hK _ _ (h _ _ (hm.upd hi ⟨rfl, rfl, rfl, by simp, fun b _ hb => setIter_other w gm b _ (by simpa [oMapK] using hb)⟩ (by simp [oMapK]) (fun b hb => .inl hb) (fun Z _ => ⟨_, _, (Go.MapKept.heap_set hh).1, ?_, ?_, ?_, hst⟩)) (by rw [hdst]; exact hs)))
      · unfold execOp
        simp only [ho]
        simp [resolve, invoke, builtin, hs.ev hx, hs.ev hy, Builtin.delete_, Sem.run_bind, run_underlying ht, hgo, hc, h1, hset]
      · rw [gdel_none h2]; exact he
      · rw [gdel_none h2]; exact hn
      · rw [gdel_none h2]; exact hk
    · have hj : j < es.size := by have := (List.getElem?_eq_some_iff.1 h2).1; omega
      have hset := Go.MapKept.run_setObj_map (P := P) (.map (es.eraseIdxIfInBounds j) clock) hh
      refine step_val (v := .tuple #[]) (w' := { w with heap := w.heap.setIfInBounds gm (.map (es.eraseIdxIfInBounds j) clock) }) ?_ (hK _ _ (h _ _ (hm.upd hi ⟨rfl, rfl, rfl, by simp, fun b _ hb => setIter_other w gm b _ (by simpa [oMapK] using hb)⟩ (by simp [oMapK]) (fun b hb => .inl hb) (fun Z _ => ⟨_, _, (Go.MapKept.heap_set hh).1, ?_, ?_, ?_, Go.MapKept.stamped_erase hst j⟩)) (by rw [hdst]; exact hs)))
      · unfold execOp
        simp only [ho]
        simp [resolve, invoke, builtin, hs.ev hx, hs.ev hy, Builtin.delete_, Sem.run_bind, run_underlying ht, hgo, hc, h1, hset]
      · rw [gdel_at hn h2]
        unfold eMapK at *
        unfold Array.eraseIdxIfInBounds
        rw [dif_pos hj, Array.toList_eraseIdx, map_er, he, map_er]
      · exact ((gdel_sub l k).map _).nodup hn
      · exact fun q hq => hk q ((gdel_sub l k).subset hq)
end
end Go.Proofs.Ytiioclkiapbjnaa.En
namespace Go.Proofs.Ytiioclkiapbjnaa.En
open Go.RowKit Go.Maps Go.Proofs.Ytiioclkiapbjnaa
set_option linter.unusedVariables false
set_option linter.unusedSimpArgs false
def methOf (P : Program) (t : TypeId) (nm : String) : Option FuncId := match P.info? t with
  | some T => (match T.methods.find? (·.name == nm) with
    | some m => if m.path.isEmpty then (match m.func with | some (f, false) => some f | _ => none) else none
    | none => none)
  | none => none
def noPtr (d : TypeDesc) : Bool := match d with | .pointer _ => false | .interface _ => false | _ => true
section
variable {P : Program} {Q : Exit → Act → World → Prop} {n : Nat} {m : Mem} {S : Sl} {ops : Array Oper} {rest : List Oper} {o : Oper} {t : TypeId} {nm : String} {f : FuncId} {d : TypeDesc}
theorem methOf_some (h : methOf P t nm = some f) : ∃ T mm, P.info? t = some T ∧ T.methods.find? (fun x => x.name == nm) = some mm ∧ mm.path = #[] ∧ mm.func = some (f, false) := by
  unfold methOf at h
  split at h
  · rename_i T hT
    split at h
    · rename_i mm hm
      split at h
      · rename_i hp
        split at h
        · rename_i g hf
          obtain rfl := Option.some.inj h
          exact ⟨T, mm, hT, hm, by simpa [Array.isEmpty] using hp, hf⟩
        · cases h
      · cases h
    · cases h
  · cases h
theorem run_method (hm : methOf P t nm = some f) (hu : P.underlying t = some d) (hd : noPtr d = true) (v : Value) (k : Nat) (w : World) : (method (k + 1) t v nm).run P w = .ok (f, v) w := by
  obtain ⟨T, mm, h1, h2, h3, h4⟩ := methOf_some hm
  unfold method
  cases d <;> first
    | (simp [run_typeInfo w h1, Result.andThen, h2, h3, h4, follow, receiverAt, run_underlying hu, Place.get]; done)
    | (simp [noPtr] at hd; done)
theorem run_nilAhead (hm : methOf P t nm = some f) (hu : P.underlying t = some d) (hd : noPtr d = true) (v : Value) (k : Nat) (w : World) : (nilAhead (k + 1) t v nm).run P w = .ok (some false) w := by
  obtain ⟨T, mm, h1, h2, h3, h4⟩ := methOf_some hm
  unfold nilAhead
  cases d <;> first
    | (simp [run_typeInfo w h1, Result.andThen, h2, h3, h4, followBlind, run_underlying hu]; done)
    | (simp [noPtr] at hd; done)
theorem depth_pos : ∃ k, P.types.size + Made.depth = k + 1 := by
  have h : 0 < Made.depth := by decide
  exact ⟨P.types.size + Made.depth - 1, by omega⟩
theorem ov_makeIface {x : Operand} {v : Value} (hx : ev S x = some v) (hu : P.underlying t = some d) (hd : noPtr d = true) (ho : o.op = .makeInterface t x) : OpV P o n m S (.iface t v) := fun w a hm hs => by
  unfold execOp
  simp only [ho, hs.ev hx]
  have : (Instr.makeInterface t v).run P w = .ok (.iface t v) w := by
    unfold Instr.makeInterface
    cases d <;> first
      | (simp [run_underlying hu, Result.andThen]; done)
      | (simp [noPtr] at hd; done)
  simp [this]
theorem ov_makeMeth {x : Operand} {v : Value} (hx : ev S x = some v) (ho : o.op = .makeFunc (.method nm) #[x] #[]) : OpV P o n m S (.func (.method nm) #[v] #[]) := fun w a hm hs => by
  unfold execOp
  simp only [ho]
  simp [Instr.makeFunc, hs.ev hx]
theorem ov_nilCheckM {x : Operand} {v : Value} (hm' : methOf P t nm = some f) (hu : P.underlying t = some d) (hd : noPtr d = true) (hx : ev S x = some (.func (.method nm) #[.iface t v] #[])) (ho : o.op = .nilCheck x) : OpV P o n m S (.func (.method nm) #[.iface t v] #[]) := fun w a hm hs => by
  obtain ⟨k, hk⟩ := depth_pos (P := P)
  unfold execOp
  simp only [ho, hs.ev hx]
  have := run_nilAhead hm' hu hd v k w
  rw [← hk] at this
  simp [this]
theorem run_callI {x : Operand} {v : Value} {args : List Operand} {tys : Array TypeId} {vs : List Value} {fn : Func} {a : Act} (hm' : methOf P t nm = some f) (hu : P.underlying t = some d) (hd : noPtr d = true) (ho : o.op = .call { callee := .invoke x nm, args := args.toArray, argTypes := tys }) (hx : a.eval x = .iface t v) (hvs : args.map a.eval = vs) (hf : P.funcs[f]? = some fn) (hb : fn.body.isNone = false) (hn : (fn.name == "runtime.NumGoroutine") = false) (w : World) :
    (execOp a.eval o).run P w = .ok (.enter f (v :: vs).toArray) w := by
  obtain ⟨k, hk⟩ := depth_pos (P := P)
  have hme := run_method hm' hu hd v k w
  rw [← hk] at hme
  unfold execOp
  simp only [ho]
  have h1 : (args.toArray.map a.eval) = vs.toArray := by rw [← hvs]; simp
  have h2 : ((#[Value.iface t v] ++ vs.toArray).extract 1 (#[Value.iface t v] ++ vs.toArray).size) = vs.toArray := by
    apply Array.toList_inj.1; simp
  have h3 : (#[v] ++ vs.toArray) = (v :: vs).toArray := by apply Array.toList_inj.1; simp
  simp only [resolve, hx, h1, Sem.run_bind, Sem.run_pure, Result.andThen, invoke]
  have hp : Sem.run P program w = .ok P w := rfl
  simp only [show (#[Value.iface t v] ++ vs.toArray)[0]? = some (Value.iface t v) from by simp, h2, callMethod, Sem.run_bind, hp, Result.andThen, hme, h3, run_enter hf hb hn]
theorem al_callIX {d' : Nat} {ι : Type} {X : List Own} {Y : List Fact} {fn : Func} {x : Operand} {v : Value} {args : List Operand} {vs vc : List Value} {tys : Array TypeId} {pre : List Fact} {oin : List Own} {res : ι → Res} (hfn : FnOk P f vc pre oin res) (hvc : v :: vs = vc) (iv io ik : List Nat) (hpre : PreOk (m.plus X Y) iv pre) (hoin : picks m.own io = oin)
    (hX : ∀ j ∈ io, j ∉ iv) (hnd : (io ++ ik).Nodup) (hlt : ((io ++ ik ++ iv).all fun i => Nat.blt i m.own.length) = true) (hflat : iv = [] ∨ FlatRes res) (hm' : methOf P t nm = some f) (hu : P.underlying t = some d) (hd : noPtr d = true) (hx : ev S x = some (.iface t v)) (hargs : args.map (ev S) = vs.map some) (hf : P.funcs[f]? = some fn) (hb : fn.body.isNone = false) (hn : (fn.name == "runtime.NumGoroutine") = false)
    (ho : o.op = .call { callee := .invoke x nm, args := args.toArray, argTypes := tys })
    (h : ∀ i, AL P ops rest Q n (Mem.plus { m with own := (res i).own ++ picks m.own ik, fz := (res i).fz ++ m.fz } X Y) (put S d' (res i).val)) (hdd : o.dst = some d' := by rfl) (hd2 : Nat.blt d' n = true := by rfl) (hg : wantS ops S o true = true := by rfl) : AL P ops (o :: rest) Q n (m.plus X Y) S :=
  al_enterX hfn iv io ik hpre hoin hX hnd hlt hflat (fun w a hs => by subst hvc; exact run_callI hm' hu hd ho (hs.ev hx) (evs hs hargs) hf hb hn w) h hdd hd2 hg
end
end Go.Proofs.Ytiioclkiapbjnaa.En
namespace Go.Proofs.Ytiioclkiapbjnaa.En
open Go.RowKit Ytiioclkiapbjnaa Go.Op
set_option linter.unusedVariables false
set_option linter.unusedSimpArgs false
def CapOf (v : Value) (n c : Nat) : Prop := ∃ A, v = .slice A n c ∧ n ≤ c
theorem CapOf.le {v : Value} {n c : Nat} (h : CapOf v n c) : (n : Int) ≤ (c : Int) := by obtain ⟨_, _, h⟩ := h; omega
def CutOf (v u : Value) (k : Nat) : Prop := ∃ A n c, v = .slice A n c ∧ n ≤ c ∧ k ≤ c ∧ u = .slice A k c
def CutWin (v s : Value) (k K sz : Nat) : Prop := ∃ A n c, v = .slice A n c ∧ n ≤ c ∧ K ≤ c ∧ k ≤ K ∧ s = .slice (if c = k then A else A.map (·.add (k * sz))) (K - k) (c - k)
def fPure (p : Prop) : Fact := ⟨fun _ _ => p, fun _ h => h, fun _ h => h⟩
def both {β : Type} [DecidableEq β] (x y : Option β) : Option β := if x = y then x else none
theorem both_some {β : Type} [DecidableEq β] {x y : Option β} {r : β} (h : both x y = some r) : x = some r ∧ y = some r := by
  unfold both at h
  split at h
  · rename_i e; exact ⟨h, e ▸ h⟩
  · cases h
theorem both_of {β : Type} [DecidableEq β] {x y z : Option β} (h1 : x = z) (h2 : y = z) : both x y = z := by unfold both; rw [if_pos (h1.trans h2.symm)]; exact h1
section
variable {P : Program} {Q : Exit → Act → World → Prop} {n : Nat} {m : Mem} {S : Sl} {ops : Array Oper} {rest : List Oper} {o : Oper} {α : Type}
theorem al_capR {d : Nat} {τ : Ty α} {v : Value} {xs : List α} (i : Nat) {t e et : TypeId} {x : Operand} (hi : m.own[i]? = some (oRow v et τ xs)) (hx : ev S x = some v) (ht : P.underlying t = some (.slice e)) (ho : o.op = .call { callee := .builtin .cap, args := #[x], argTypes := #[t] })
    (h : ∀ c : Nat, CapOf v xs.length c → AL P ops rest Q n m (put S d (.int .i64 (c : Int)))) (hdd : o.dst = some d := by rfl) (hd : Nat.blt d n = true := by rfl) (hg : wantS ops S o true = true := by rfl) : AL P ops (o :: rest) Q n m S :=
  al_step hg fun w a hm hs K hK => by
    obtain ⟨cs, h1, _⟩ := own_at hm hi
    obtain ⟨A, c, rfl, hc, _⟩ := own_len h1
    refine step_val (w' := w) (v := .int .i64 (c : Int)) ?_ (hK _ _ (h c ⟨A, rfl, hc⟩ w _ hm (hs.put' hdd hd _)))
    unfold execOp
    simp [ho, resolve, invoke, builtin, hs.ev hx, Builtin.cap_, run_underlying ht, goInt]
theorem al_cutK {d : Nat} {τ : Ty α} {v : Value} {xs : List α} {c : Nat} (i : Nat) {t e et : TypeId} {x z : Operand} {kz : IntKind} {k : Int} (hc : CapOf v xs.length c) (h0 : 0 ≤ k) (h1 : k ≤ (c : Int)) (hi : m.own[i]? = some (oRow v et τ xs)) (hx : ev S x = some v) (hz : ev S z = some (.int kz k)) (ht : P.underlying t = some (.slice e)) (hsz : szOf P e = some τ.size) (ho : o.op = .slice t x none (some z) none)
    (h : ∀ u, CutOf v u k.toNat → AL P ops rest Q n m (put S d u)) (hdd : o.dst = some d := by rfl) (hd : Nat.blt d n = true := by rfl) (hg : wantS ops S o true = true := by rfl) : AL P ops (o :: rest) Q n m S :=
  al_step hg fun w a hm hs K hK => by
    obtain ⟨A, rfl, hnc⟩ := hc
    refine step_val (w' := w) (v := .slice A k.toNat c) ?_ (hK _ _ (h _ ⟨A, _, c, rfl, hnc, by omega, rfl⟩ w _ hm (hs.put' hdd hd _)))
    unfold execOp
    simp only [ho, hs.ev hx, Option.map_some, Option.map_none, hs.ev hz]
    have e1 : (if c = 0 then A else Option.map (fun x => x.add 0) A) = A := by cases A <;> simp [Addr.add]
    simp [Instr.sliceAt, Instr.slice, Instr.sliceBounds, Instr.sliceBound, asIntOf, Sem.run_bind, run_underlying ht, h0, h1, run_sizeOf' hsz, e1]
theorem of_winC {sz K : Nat} {v u : Value} (hc : CutOf v u K) {t e : TypeId} {x y : Operand} {ky : IntKind} {l : Int} (h0 : 0 ≤ l) (h1 : l ≤ (K : Int)) (hx : ev S x = some u) (hy : ev S y = some (.int ky l)) (ht : P.underlying t = some (.slice e)) (hsz : szOf P e = some sz) (ho : o.op = .slice t x (some y) none none) : OpF P o n m S (fun s => fPure (CutWin v s l.toNat K sz)) := fun w a hm hs => by
  obtain ⟨A, n', c, rfl, hnc, hkc, rfl⟩ := hc
  refine ⟨_, ?_, ⟨A, n', c, rfl, hnc, hkc, by omega, rfl⟩⟩
  unfold execOp
  simp only [ho, hs.ev hx, Option.map_some, Option.map_none, hs.ev hy]
  simp [Instr.sliceAt, Instr.slice, Instr.sliceBounds, Instr.sliceBound, asIntOf, Sem.run_bind, run_underlying ht, h0, h1, run_sizeOf' hsz]
theorem al_winC {d sz K : Nat} {v u : Value} (hc : CutOf v u K) {t e : TypeId} {x y : Operand} {ky : IntKind} {l : Int} (h0 : 0 ≤ l) (h1 : l ≤ (K : Int)) (hx : ev S x = some u) (hy : ev S y = some (.int ky l)) (ht : P.underlying t = some (.slice e)) (hsz : szOf P e = some sz) (ho : o.op = .slice t x (some y) none none)
    (h : ∀ s, CutWin v s l.toNat K sz → AL P ops rest Q n m (put S d s)) (hdd : o.dst = some d := by rfl) (hd : Nat.blt d n = true := by rfl) (hg : wantS ops S o true = true := by rfl) : AL P ops (o :: rest) Q n m S :=
  al_step hg fun w a hm hs K' hK => by
    obtain ⟨s, hr, hp⟩ := of_winC (m := m) hc h0 h1 hx hy ht hsz ho w a hm hs
    exact step_val (w' := w) hr (hK _ _ (h s hp w _ hm (hs.put' hdd hd _)))
theorem src_win {i : Nat} (j : Nat) {v s : Value} {e : TypeId} {τ : Ty α} {xs : List α} {k : Nat} (hj : m.own[j]? = some (oRow v e τ xs)) (hw : WinOf v s k τ.size) : Src m i s τ (xs.drop k) := fun hm => by
  obtain ⟨cs, h1, h2⟩ := own_at hm hj
  obtain ⟨A, n', c, rfl, hk, hnc, rfl⟩ := hw
  have hn : n' = xs.length := by
    rcases h1.2 with ⟨he, hn⟩ | ⟨g, cap, cur, he, _⟩
    · cases he; exact hn.symm
    · cases he; rfl
  refine ⟨_, _, _, cs.drop (k * τ.size), rfl, by rw [List.length_drop, hn], h2.drop k, ?_⟩
  by_cases hz : n' - k = 0
  · exact .inl hz
  right
  rcases h1.2 with ⟨he, hn0⟩ | ⟨g, cap, cur, he, _⟩
  · omega
  · cases he
    rw [if_neg (by omega)]
    refine ⟨_, rfl, fun j x hx => ?_⟩
    rw [add_add]
    rw [List.getElem?_drop] at hx
    exact h1.cells rfl _ x hx
theorem run_copyN {w : World} {dT sT ty elem : TypeId} {g o' dLen dCap : Nat} {a : Addr} {sLen sCap sz : Nat} {cur : Array Value} {t : TypeId} {cs : List Value} (hu : P.underlying dT = some (.slice elem)) (hs : szOf P elem = some sz) (hg : w.heap[g]? = some (.cells cur t (0, 0))) (hn : cs.length = Nat.min sLen dLen * sz)
    (hsrc : ∀ j v, cs[j]? = some v → w.cell? (a.add j) = some v) (hfit : o' + cs.length ≤ cur.size) (h1 : ∀ v ∈ cs, v.oneCell' = true) :
    (Builtin.copy_ #[dT, sT] ty #[.slice (some ⟨g, o', none⟩) dLen dCap, .slice (some a) sLen sCap]).run P w = .ok (goInt (Nat.min sLen dLen)) (w.setRow g (cur.toList.take o' ++ cs ++ cur.toList.drop (o' + cs.length)).toArray) := by
  have hl := run_firstCells_some (P := P) (w := w) sz (Nat.min sLen dLen) a sLen sCap cs hn hsrc
  have hst := run_storeCells_at (P := P) g o' t cs 0 cur w hg (by simpa using hfit) h1
  simp only [Nat.add_zero] at hst
  simp [Builtin.copy_, Sem.run_bind, run_underlying hu, Builtin.lenOf, run_sizeOf' hs, hl, hst]
theorem splice_take {L : List Value} (a N : Nat) (cy : List Value) (hN : N ≤ L.length) (h : a + cy.length ≤ N) : (L.take a ++ cy ++ L.drop (a + cy.length)).take N = (L.take N).take a ++ (cy ++ (L.take N).drop (a + cy.length)) := by
  have e1 : (L.take a).length = a := by rw [List.length_take]; omega
  rw [List.append_assoc, List.take_append, e1, List.take_of_length_le (l := L.take a) (by omega), List.take_append, List.take_of_length_le (l := cy) (by omega), List.take_take, Nat.min_eq_left (by omega), List.drop_take]
  congr 3; omega
theorem al_copyW {d : Nat} {τ : Ty α} {v s u : Value} {xs ys : List α} {k : Nat} (i : Nat) {t t' e : TypeId} {x y : Operand} (hk : k < xs.length) (hy0 : 0 < ys.length) (hi : m.own[i]? = some (oRow v e τ xs)) (hw : WinOf v s k τ.size) (hsrc : Src m i u τ ys) (hx : ev S x = some s) (hy : ev S y = some u) (ht : P.underlying t = some (.slice e)) (hsz : szOf P e = some τ.size) (ho : o.op = .call { callee := .builtin .copy, args := #[x, y], argTypes := #[t, t'] })
    (h : ∀ q : Int, AL P ops rest Q n (m.upd i (oRow v e τ (xs.take k ++ (ys.take (xs.length - k) ++ xs.drop (k + ys.length))))) (put S d (.int .i64 q))) (hdd : o.dst = some d := by rfl) (hd : Nat.blt d n = true := by rfl) (hg : wantS ops S o true = true := by rfl) : AL P ops (o :: rest) Q n m S :=
  al_step hg fun w a hm hs K hK => by
    obtain ⟨cs, h1, h2⟩ := own_at hm hi
    obtain ⟨A, l, c', ds, rfl, hl, hrl, hsr⟩ := hsrc hm
    have hcl := h2.len
    have hdl := hrl.len
    rcases h1.2 with ⟨rfl, hn⟩ | ⟨g, cap, cur, rfl, hg0, hgg, hcap, hmax, hsize, htk⟩
    · omega
    obtain ⟨A', n', c, he, hkn, hnc, rfl⟩ := hw
    obtain ⟨rfl, rfl, rfl⟩ : (some (⟨g, 0, none⟩ : Addr)) = A' ∧ xs.length = n' ∧ cap = c := by simpa using he
    obtain ⟨ad, rfl, hcells⟩ := hsr.resolve_left (by omega)
    have hne : ¬ cap = k := by omega
    -- what goes over
    have hq : (ds.take ((xs.length - k) * τ.size)).length = Nat.min l (xs.length - k) * τ.size := by
      rw [List.length_take, hdl, ← hl]
      rcases Nat.le_total l (xs.length - k) with hle | hle
      · rw [show Nat.min l (xs.length - k) = l from Nat.min_eq_left hle, Nat.min_eq_right (Nat.mul_le_mul_right _ hle)]
      · rw [show Nat.min l (xs.length - k) = xs.length - k from Nat.min_eq_right hle, Nat.min_eq_left (Nat.mul_le_mul_right _ hle)]
    obtain ⟨cy, hcy⟩ : ∃ cy, cy = ds.take ((xs.length - k) * τ.size) := ⟨_, rfl⟩
    rw [← hcy] at hq
    have hxl : xs.length * τ.size = k * τ.size + (xs.length - k) * τ.size := by rw [← Nat.add_mul]; congr 1; omega
    have hcl2 : xs.length * τ.size ≤ cap * τ.size := Nat.mul_le_mul_right _ hcap
    have hcyl : cy.length ≤ (xs.length - k) * τ.size := by rw [hcy, List.length_take]; exact Nat.min_le_left _ _
    have hone : ∀ z ∈ cy, z.oneCell' = true := fun z hz => hrl.one z (List.mem_of_mem_take (hcy ▸ hz))
    have hr := run_copyN (P := P) (w := w) (dT := t) (sT := t') (ty := o.type) (g := g) (o' := k * τ.size) (dLen := xs.length - k) (dCap := cap - k) (a := ad) (sLen := l) (sCap := c') (cur := cur) (t := e) (cs := cy) ht hsz hgg hq
      (fun j z hz => by
        rw [hcy, List.getElem?_take] at hz
        split at hz
        · exact hcells j z hz
        · cases hz) (by omega) hone
    refine step_val (w' := w.setRow g (cur.toList.take (k * τ.size) ++ cy ++ cur.toList.drop (k * τ.size + cy.length)).toArray) (v := goInt (Nat.min l (xs.length - k))) (by
      unfold execOp
      simp only [ho, resolve, invoke, builtin, Sem.run_bind, Sem.run_pure, Result.andThen_ok, List.map_toArray, List.map_cons, List.map_nil, hs.ev hx, hs.ev hy]
      rw [if_neg hne]
      simp only [Option.map_some, add_plain, Nat.zero_add, hr]
      rfl) ?_
    refine hK _ _ (h _ _ _ (hm.upd hi ⟨rfl, rfl, rfl, by rw [size_setRow]; exact Nat.le_refl _, fun b _ hb => setRow_other w g b _ (by simpa [oRow, Value.ownBlock] using hb)⟩ (by simp [oRow, Value.ownBlock]) (fun b hb => .inl hb) (fun Z hZ => ?_)) (hs.put' hdd hd _))
    have hag : Agr (m.frz w) w (w.setRow g (cur.toList.take (k * τ.size) ++ cy ++ cur.toList.drop (k * τ.size + cy.length)).toArray) := fun b hb => setRow_other w g b _ (fun e => hb.2.1 (List.mem_flatMap.2 ⟨_, List.mem_of_getElem? hi, by simp [oRow, Value.ownBlock, e]⟩))
    have hlen : (xs.take k ++ (ys.take (xs.length - k) ++ xs.drop (k + ys.length))).length = xs.length := by
      simp only [List.length_append, List.length_take, List.length_drop]; omega
    have hrep : RepL τ (m.frz w) w (cs.take (k * τ.size) ++ (cy ++ cs.drop ((k + ys.length) * τ.size))) (xs.take k ++ (ys.take (xs.length - k) ++ xs.drop (k + ys.length))) := (h2.take k).append ((hcy ▸ hrl.take (xs.length - k)).append (h2.drop _))
    have hrl' := hrep.len
    refine ⟨_, ⟨hrl', .inr ⟨g, cap, _, by rw [hlen], Nat.zero_le _, setRow_heap w g cur _ e (0, 0) hgg, by rw [hlen]; exact hcap, hmax, ?_, ?_⟩⟩, (hrep.keep hag).mono hZ⟩
    · simp only [List.size_toArray, List.length_append, List.length_take, List.length_drop, Array.length_toList]; omega
    · rw [hlen, ← htk]
      show (cur.toList.take (k * τ.size) ++ cy ++ cur.toList.drop (k * τ.size + cy.length)).take (xs.length * τ.size) = _
      have hcut : cur.toList.length = cap * τ.size := by rw [Array.length_toList, hsize]
      rw [splice_take (k * τ.size) (xs.length * τ.size) cy (by omega) (by omega)]
      congr 2
      have htl : (cur.toList.take (xs.length * τ.size)).length = xs.length * τ.size := by rw [List.length_take]; omega
      rcases Nat.le_total ys.length (xs.length - k) with hle | hle
      · have e1 : cy.length = ys.length * τ.size := by
          rw [hq, hl]; congr 1; exact Nat.min_eq_left hle
        rw [e1, ← Nat.add_mul]
      · have e1 : cy.length = (xs.length - k) * τ.size := by
          rw [hq, hl]; congr 1; exact Nat.min_eq_right hle
        have e2 : xs.length * τ.size ≤ (k + ys.length) * τ.size := Nat.mul_le_mul_right _ (by omega)
        rw [List.drop_of_length_le (by omega), List.drop_of_length_le (by omega)]
theorem al_appendZK {d : Nat} {τ : Ty α} {x0 : α} {v u : Value} {xs : List α} {c k : Nat} (i : Nat) {t tn e : TypeId} {x y : Operand} {kq kn : IntKind} {l T : Int} {by_ : Nat} {z : Value} (hc : CapOf v xs.length c) (hu : CutOf v u k) (hk : k ≤ xs.length) (h0 : 0 < l) (hT : (k : Int) + l = T) (hgt : T > (c : Int)) (hb : T * (by_ : Int) ≤ 140737488355328) (h63 : T ≤ 9223372036854775807)
    (hi : m.own[i]? = some (oRow v e τ xs)) (hx : ev S x = some u) (hy : ev S y = some (.int kq l)) (ht : P.underlying t = some (.slice e)) (htn : P.underlying tn = some (.int kn)) (hin : tyOf P e = some (τ.size, by_, some z)) (hz : ∀ Z w, τ.rep Z w z.cells.toList x0) (hsz : Nat.blt 0 τ.size = true)
    (ho : o.op = .call { callee := .builtin .append, args := #[x, y], argTypes := #[t, tn] })
    (h : ∀ v', AL P ops rest Q n (m.push (oRow v' e τ (xs.take k ++ List.replicate l.toNat x0))) (put S d v')) (hdd : o.dst = some d := by rfl) (hd : Nat.blt d n = true := by rfl) (hg : wantS ops S o true = true := by rfl) : AL P ops (o :: rest) Q n m S :=
  al_step hg fun w a hm hs K hK => by
    obtain ⟨inf, hi1, hi2, hi3, hi4⟩ := tyOf_parts hin
    have hsz' : 0 < τ.size := by simpa [Nat.blt_eq] using hsz
    obtain ⟨q, rfl⟩ : ∃ q : Nat, l = q := ⟨l.toNat, by omega⟩
    obtain ⟨cs, h1, h2⟩ := own_at hm hi
    obtain ⟨A, rfl, hnc⟩ := hc
    obtain ⟨A', n', c', he, _, hkc, rfl⟩ := hu
    obtain ⟨rfl, rfl, rfl⟩ : A = A' ∧ xs.length = n' ∧ c = c' := by simpa using he
    have hTq : T = ((k + q : Nat) : Int) := by omega
    subst hTq
    have hb' : (k + q) * by_ ≤ 140737488355328 := by
      have : (((k + q) * by_ : Nat) : Int) ≤ 140737488355328 := by rw [Int.natCast_mul]; exact hb
      omega
    have hcl := h2.len
    have hold : (Builtin.firstCells inf.size k (.slice A k c)).run P w.drew = .ok (cs.take (k * τ.size)).toArray w.drew := by
      rw [hi3]
      rcases h1.2 with ⟨he, hn⟩ | ⟨g, cap, cur, he, hg0, hgg, hcap, hmax, hsize, htk⟩
      · simp only [Value.slice.injEq] at he
        obtain ⟨rfl, _, rfl⟩ := he
        have : k = 0 := by omega
        subst this
        simp [Builtin.firstCells]
      · cases he
        exact run_firstCells_some w.drew τ.size k ⟨g, 0, none⟩ k c (cs.take (k * τ.size)) (by rw [List.length_take, hcl, Nat.min_eq_left (Nat.mul_le_mul_right _ hk)]) (fun j v hj => by
          rw [List.getElem?_take] at hj
          split at hj
          · exact h1.cells (g := g) rfl j v hj
          · cases hj)
    have hqb : q * by_ ≤ 281474976710656 := by
      have : q * by_ ≤ (k + q) * by_ := Nat.mul_le_mul_right _ (by omega)
      omega
    have hr := Lib.run_append_grow_zeros (P := P) w t tn o.type e inf z kq kn ht htn hi1 hi2 A k c (cs.take (k * τ.size)) hold q (by omega) (by omega) (by omega) (by omega) (by rw [hi4]; exact hqb) (by rw [hi4]; exact growslice_fits (by omega) hb')
    have hge := grownCap_ge w (k + q) c e
    have hle := grownCap_le_maxLen w (k + q) c e (by unfold maxLen; omega)
    obtain ⟨G, hG⟩ : ∃ G, G = grownCap w (k + q) c e := ⟨_, rfl⟩
    rw [← hG] at hr hge hle
    obtain ⟨W1, hW1⟩ : ∃ W1, W1 = (w.drew.alloc (.cells ((cs.take (k * τ.size)).toArray ++ Builtin.zeroCells z.cells q ++ Builtin.zeroCells z.cells (G - (k + q))) e)) := ⟨_, rfl⟩
    rw [← hW1] at hr
    refine step_val (w' := W1) (v := .slice (some ⟨w.heap.size, 0, none⟩) (k + q) G) (by
      unfold execOp
      simp only [ho, resolve, invoke, builtin, Sem.run_bind, Sem.run_pure, Result.andThen_ok, List.map_toArray, List.map_cons, List.map_nil, hs.ev hx, hs.ev hy, hr]) ?_
    subst hW1
    have hbel : Below w.heap.size w (w.drew.alloc (.cells ((cs.take (k * τ.size)).toArray ++ Builtin.zeroCells z.cells q ++ Builtin.zeroCells z.cells (G - (k + q))) e)) := ((Below.refl w.heap.size w).drew).alloc (Nat.le_refl _) _
    refine hK _ _ (h _ _ _ (hm.push hbel (ownBlock_nodup _) (by simp [oRow, Value.ownBlock]) (fun Z hZ => ?_)) (hs.put' hdd hd _))
    have hzl : z.cells.size = τ.size := by rw [← Array.length_toList]; exact τ.len (hz (m.frz w) w)
    have hzc : ∀ q, Builtin.zeroCells z.cells q = madeCells z.cells (q * τ.size) := fun q => by unfold Builtin.zeroCells madeCells; rw [hzl]
    have hrep0 := repl_rep hz Z (w.drew.alloc (.cells ((cs.take (k * τ.size)).toArray ++ Builtin.zeroCells z.cells q ++ Builtin.zeroCells z.cells (G - (k + q))) e)) q
    have hrep : RepL τ Z (w.drew.alloc (.cells ((cs.take (k * τ.size)).toArray ++ Builtin.zeroCells z.cells q ++ Builtin.zeroCells z.cells (G - (k + q))) e)) (cs.take (k * τ.size) ++ (madeCells z.cells (q * τ.size)).toList) (xs.take k ++ List.replicate q x0) :=
      (((h2.take k).keep (fun b hb => hbel.block b hb.1)).mono hZ).append hrep0
    have hlen : (xs.take k ++ List.replicate q x0).length = k + q := by rw [List.length_append, List.length_take, List.length_replicate, Nat.min_eq_left hk]
    have hml : (madeCells z.cells (q * τ.size)).size = q * τ.size := size_madeCells _ _
    have hml2 : (madeCells z.cells ((G - (k + q)) * τ.size)).size = (G - (k + q)) * τ.size := size_madeCells _ _
    have htl : (cs.take (k * τ.size)).length = k * τ.size := by rw [List.length_take, hcl, Nat.min_eq_left (Nat.mul_le_mul_right _ hk)]
    rw [Int.toNat_natCast]
    refine ⟨_, ⟨hrep.len, .inr ⟨w.heap.size, G, _, by rw [hlen], Nat.zero_le _, by exact heap_alloc_new w.drew _, by rw [hlen]; exact hge, hle, ?_, ?_⟩⟩, hrep⟩
    · rw [hzc, hzc]
      simp only [Array.size_append, List.size_toArray, htl, hml, hml2]
      rw [← Nat.add_mul, ← Nat.add_mul]; congr 1; omega
    · rw [hlen, hzc, hzc]
      simp only [Array.toList_append, List.toList_toArray]
      rw [List.take_append_of_le_length (by rw [List.length_append, htl, Array.length_toList, hml, ← Nat.add_mul]; exact Nat.le_refl _), List.take_of_length_le (by rw [List.length_append, htl, Array.length_toList, hml, ← Nat.add_mul]; exact Nat.le_refl _)]
theorem al_copyExt {d : Nat} {τ : Ty α} {v u s1 s2 : Value} {xs : List α} {k1 k2 K : Nat} (i : Nat) {t t' e : TypeId} {x y : Operand} (hk2 : k2 < xs.length) (hk1 : k1 ≤ xs.length) (h21 : k2 ≤ k1) (hK : k1 + (xs.length - k2) = K) (hi : m.own[i]? = some (oRow v e τ xs)) (hu : CutOf v u K) (hw1 : CutWin v s1 k1 K τ.size) (hw2 : CutWin v s2 k2 K τ.size) (hx : ev S x = some s1) (hy : ev S y = some s2) (ht : P.underlying t = some (.slice e)) (hsz : szOf P e = some τ.size) (ho : o.op = .call { callee := .builtin .copy, args := #[x, y], argTypes := #[t, t'] })
    (h : ∀ q : Int, AL P ops rest Q n (m.upd i (oRow u e τ (xs.take k1 ++ xs.drop k2))) (put S d (.int .i64 q))) (hdd : o.dst = some d := by rfl) (hd : Nat.blt d n = true := by rfl) (hg : wantS ops S o true = true := by rfl) : AL P ops (o :: rest) Q n m S :=
  al_step hg fun w a hm hs K' hKK => by
    obtain ⟨cs, h1, h2⟩ := own_at hm hi
    have hcl := h2.len
    rcases h1.2 with ⟨rfl, hn⟩ | ⟨g, cap, cur, rfl, hg0, hgg, hcap, hmax, hsize, htk⟩
    · omega
    obtain ⟨A1, n1, c1, he1, _, hKc1, rfl⟩ := hu
    obtain ⟨rfl, rfl, rfl⟩ : (some (⟨g, 0, none⟩ : Addr)) = A1 ∧ xs.length = n1 ∧ cap = c1 := by simpa using he1
    obtain ⟨A2, n2, c2, he2, _, _, hk1K, rfl⟩ := hw1
    obtain ⟨rfl, rfl, rfl⟩ : (some (⟨g, 0, none⟩ : Addr)) = A2 ∧ xs.length = n2 ∧ cap = c2 := by simpa using he2
    obtain ⟨A3, n3, c3, he3, _, _, hk2K, rfl⟩ := hw2
    obtain ⟨rfl, rfl, rfl⟩ : (some (⟨g, 0, none⟩ : Addr)) = A3 ∧ xs.length = n3 ∧ cap = c3 := by simpa using he3
    have hne1 : ¬ cap = k1 := by omega
    have hne2 : ¬ cap = k2 := by omega
    have hxl : xs.length * τ.size = k2 * τ.size + (xs.length - k2) * τ.size := by rw [← Nat.add_mul]; congr 1; omega
    have hKl : K * τ.size = k1 * τ.size + (xs.length - k2) * τ.size := by rw [← Nat.add_mul]; congr 1; omega
    have hcl2 : xs.length * τ.size ≤ cap * τ.size := Nat.mul_le_mul_right _ hcap
    have hcl3 : K * τ.size ≤ cap * τ.size := Nat.mul_le_mul_right _ hKc1
    have hk1l : k1 * τ.size ≤ xs.length * τ.size := Nat.mul_le_mul_right _ hk1
    obtain ⟨cy, hcy⟩ : ∃ cy, cy = cs.drop (k2 * τ.size) := ⟨_, rfl⟩
    have hcyl : cy.length = (xs.length - k2) * τ.size := by rw [hcy, List.length_drop, hcl]; omega
    have hmin : Nat.min (K - k2) (K - k1) = xs.length - k2 := by
      have : Nat.min (K - k2) (K - k1) = K - k1 := Nat.min_eq_right (by omega)
      omega
    have hone : ∀ z ∈ cy, z.oneCell' = true := fun z hz => h2.one z (List.mem_of_mem_drop (hcy ▸ hz))
    have hr := run_copyN (P := P) (w := w) (dT := t) (sT := t') (ty := o.type) (g := g) (o' := k1 * τ.size) (dLen := K - k1) (dCap := cap - k1) (a := ⟨g, k2 * τ.size, none⟩) (sLen := K - k2) (sCap := cap - k2) (cur := cur) (t := e) (cs := cy) ht hsz hgg (by rw [hmin]; exact hcyl)
      (fun j z hz => by
        rw [hcy, List.getElem?_drop] at hz
        have := h1.cells (g := g) rfl _ z hz
        rw [add_plain] at this ⊢
        rw [Nat.zero_add] at this
        exact this) (by omega) hone
    refine step_val (w' := w.setRow g (cur.toList.take (k1 * τ.size) ++ cy ++ cur.toList.drop (k1 * τ.size + cy.length)).toArray) (v := goInt (Nat.min (K - k2) (K - k1))) (by
      unfold execOp
      simp only [ho, resolve, invoke, builtin, Sem.run_bind, Sem.run_pure, Result.andThen_ok, List.map_toArray, List.map_cons, List.map_nil, hs.ev hx, hs.ev hy]
      rw [if_neg hne1, if_neg hne2]
      simp only [Option.map_some, add_plain, Nat.zero_add, hr]
      rfl) ?_
    refine hKK _ _ (h _ _ _ (hm.upd hi ⟨rfl, rfl, rfl, by rw [size_setRow]; exact Nat.le_refl _, fun b _ hb => setRow_other w g b _ (by simpa [oRow, Value.ownBlock] using hb)⟩ (by simp [oRow, Value.ownBlock]) (fun b hb => .inl (by simpa [oRow, Value.ownBlock] using hb)) (fun Z hZ => ?_)) (hs.put' hdd hd _))
    have hag : Agr (m.frz w) w (w.setRow g (cur.toList.take (k1 * τ.size) ++ cy ++ cur.toList.drop (k1 * τ.size + cy.length)).toArray) := fun b hb => setRow_other w g b _ (fun e => hb.2.1 (List.mem_flatMap.2 ⟨_, List.mem_of_getElem? hi, by simp [oRow, Value.ownBlock, e]⟩))
    have hlen : (xs.take k1 ++ xs.drop k2).length = K := by rw [List.length_append, List.length_take, List.length_drop]; omega
    have hrep : RepL τ (m.frz w) w (cs.take (k1 * τ.size) ++ cy) (xs.take k1 ++ xs.drop k2) := (h2.take k1).append (hcy ▸ h2.drop k2)
    refine ⟨_, ⟨hrep.len, .inr ⟨g, cap, _, by rw [hlen], Nat.zero_le _, setRow_heap w g cur _ e (0, 0) hgg, by rw [hlen]; exact hKc1, hmax, ?_, ?_⟩⟩, (hrep.keep hag).mono hZ⟩
    · simp only [List.size_toArray, List.length_append, List.length_take, List.length_drop, Array.length_toList]; omega
    · rw [hlen, ← htk]
      show (cur.toList.take (k1 * τ.size) ++ cy ++ cur.toList.drop (k1 * τ.size + cy.length)).take (K * τ.size) = _
      have hcut : cur.toList.length = cap * τ.size := by rw [Array.length_toList, hsize]
      rw [List.take_take, Nat.min_eq_left hk1l, List.take_append_of_le_length (by rw [List.length_append, List.length_take]; omega), List.take_of_length_le (by rw [List.length_append, List.length_take]; omega)]
theorem ov_overlapsF {τ : Ty α} {v u s : Value} {xs ys : List α} {k K : Nat} {f : FuncId} {fn : Func} {tys : Array TypeId} {x y : Operand} {tS tR e : TypeId} (i j : Nat) (hij : Nat.beq i j = false) (hy0 : 0 < ys.length) (hx0 : 0 < xs.length) (hi : m.own[i]? = some (oRow v e τ xs)) (hj : m.own[j]? = some (oRow u e τ ys)) (hw : CutWin v s k K τ.size) (hx : ev S x = some u) (hy : ev S y = some s) (ht : P.underlying tS = some (.slice e)) (hsz : szOf P e = some τ.size) (hsp : Nat.blt 0 τ.size = true)
    (hf : P.funcs[f]? = some fn) (hname : (fn.name == "runtime.NumGoroutine") = false) (hb : fn.body.isNone = true) (hn : Extern.findNext fn = none) (he : Extern.find fn = some (Extern.SlicesOverlaps.overlaps #[tS, tS] #[tR])) (ho : o.op = .call { callee := .value (.func f), args := #[x, y], argTypes := tys }) : OpV P o n m S (.bool false) := fun w a hm hs => by
  have hne : i ≠ j := fun e => by rw [e] at hij; simp at hij
  obtain ⟨cs, h1, h2⟩ := own_at hm hi
  obtain ⟨ds, h3, h4⟩ := own_at hm hj
  have hsp' : 0 < τ.size := by simpa [Nat.blt_eq] using hsp
  rcases h1.2 with ⟨rfl, hn0⟩ | ⟨g, cap, cur, rfl, hg0, hgg, hcap, hmax, hsize, htk⟩
  · omega
  rcases h3.2 with ⟨rfl, hn0⟩ | ⟨g2, cap2, cur2, rfl, hg20, hgg2, hcap2, hmax2, hsize2, htk2⟩
  · omega
  obtain ⟨A', n', c, he', _, _, _, rfl⟩ := hw
  obtain ⟨rfl, rfl, rfl⟩ : (some (⟨g, 0, none⟩ : Addr)) = A' ∧ xs.length = n' ∧ cap = c := by simpa using he'
  have hgne : g2 ≠ g := fun e => by
    subst e
    exact nodup_flat hm.nd hi hj hne g2 (by simp [oRow, Value.ownBlock]) (by simp [oRow, Value.ownBlock])
  have hkB : cur.size ≠ 0 := by
    rw [hsize]
    exact Nat.ne_of_gt (Nat.mul_pos (by omega) hsp')
  have hrun : ∀ (off L C : Nat), (callFunc f #[.slice (some ⟨g2, 0, none⟩) ys.length cap2, .slice (some ⟨g, off, none⟩) L C]).run P w = .ok (.value (.bool false)) w := fun off L C => by
    rw [run_callFunc_extern hf hname hb hn he, Lib.run_overlaps_apart w tS tR e ht τ.size (fun w => run_sizeOf' hsz w) ⟨g2, 0, none⟩ ⟨g, off, none⟩ ys.length cap2 L C hgne e e cur2.size cur.size (by simp [World.shape?, hgg2]) (by simp [World.shape?, hgg]) hkB (by simp [World.frozen?, hgg2]) (by simp [World.frozen?, hgg2])]
    rfl
  unfold execOp
  simp only [ho]
  have e : (#[x, y] : Array Operand).map a.eval = #[.slice (some ⟨g2, 0, none⟩) ys.length cap2, .slice (if cap = k then some ⟨g, 0, none⟩ else (some (⟨g, 0, none⟩ : Addr)).map (·.add (k * τ.size))) (K - k) (cap - k)] := by simp [hs.ev hx, hs.ev hy]
  simp only [resolve, Sem.run_bind, e]
  by_cases hc : cap = k
  · simp [Act.eval, Deferred.ofValue, invoke, hrun, hc]
  · simp [Act.eval, Deferred.ofValue, invoke, hrun, hc, add_plain]
end
section
variable {P : Program} {Q : Exit → Act → World → Prop} {n : Nat} {m0 m : Mem} {S : Sl} {ops : Array Oper} {o : Oper} {E : List Nat} {L : Spec} {R : Value → Fact} {α ι : Type}
theorem tl_pure {l : List Oper} {d : Nat} {p : Value → Prop} (j : Nat) (hL : L[j]? = some (d, fun s => fPure (p s))) (h : ∀ s, p s → TailOk P ops l Q m0 L n m (put S d s)) : TailOk P ops l Q m0 L n m S := fun w a h0 hm hf hs hE => by
  have h1 := hE j
  unfold FactAt at h1; rw [hL] at h1
  exact h _ h1 w a h0 hm hf (hs.put_at rfl) hE
theorem tl_win {l : List Oper} {d k sz : Nat} {v : Value} (j : Nat) (hL : L[j]? = some (d, fun s => fWin v s k sz)) (h : ∀ s, WinOf v s k sz → TailOk P ops l Q m0 L n m (put S d s)) : TailOk P ops l Q m0 L n m S := fun w a h0 hm hf hs hE => by
  have h1 := hE j
  unfold FactAt at h1; rw [hL] at h1
  exact h _ h1 w a h0 hm hf (hs.put_at rfl) hE
end
end Go.Proofs.Ytiioclkiapbjnaa.En
namespace Go.Proofs.Ytiioclkiapbjnaa.En
open Go.RowKit Ytiioclkiapbjnaa Go.Op
set_option linter.unusedVariables false
set_option linter.unusedSimpArgs false
section
variable {P : Program} {Q : Exit → Act → World → Prop} {n : Nat} {m : Mem} {S : Sl} {ops : Array Oper} {rest : List Oper} {o : Oper} {α : Type}
theorem run_eqIn_ptr (w : World) (d : Nat) (t e : TypeId) (p : Option Addr) (h : P.underlying t = some (.pointer e)) : (Op.equalIn (d + 1) t (.pointer p) (.pointer none)).run P w = .ok p.isNone w := by
  cases p <;> simp [Op.equalIn, run_underlying h]
theorem run_eq_ptr (w : World) (t e : TypeId) (p : Option Addr) (h : P.underlying t = some (.pointer e)) : (Op.equal t (.pointer p) (.pointer none)).run P w = .ok p.isNone w := run_eqIn_ptr w 9999 t e p h
theorem ov_ptrEqN {t e yt : TypeId} {x y : Operand} (hx : ev S x = some (.pointer none)) (hy : ev S y = some (.pointer none)) (ht : P.underlying t = some (.pointer e)) (ho : o.op = .binOp .eql t x y yt) : OpV P o n m S (.bool true) := fun w a hm hs => by
  unfold execOp
  simp only [ho, hs.ev hx, hs.ev hy]
  simp [eqGuard, binOp, run_eq_ptr w t e none ht]
theorem ov_ptrEqB {g off : Nat} {t e yt : TypeId} {x y : Operand} (hx : ev S x = some (ptr g off)) (hy : ev S y = some (.pointer none)) (ht : P.underlying t = some (.pointer e)) (ho : o.op = .binOp .eql t x y yt) : OpV P o n m S (.bool false) := fun w a hm hs => by
  unfold execOp
  simp only [ho, hs.ev hx, hs.ev hy]
  simp [ptr, eqGuard, binOp, run_eq_ptr w t e _ ht]
end
end Go.Proofs.Ytiioclkiapbjnaa.En
namespace Go.Proofs
open Go.Shelf
def Try.laysClone_ren : Go.Shelf.Ren := ⟨fun | 5 => 59 | 7 => 76 | n => n, fun | 23 => 51 | 25 => 9 | 3 => 9 | 4 => 4 | 20 => 20 | n => n, fun | n => n⟩
theorem Try.laysClone : Go.Proofs.SlLaysW.n5 Try.prog Try.laysClone_ren := {
  mixed := by kernel_rfl
  f5 := ⟨Try.f59.name, by decide, Try.func59.trans (congrArg some (by kernel_rfl))⟩
  f7 := Try.func76.trans (congrArg some (by kernel_rfl))
  t4 := Try.underlying4
  a4 := Try.isAgg4
  z4 := Try.sizeOf4
  v4 := Try.zeroValue4
  t20 := Try.underlying20
  a20 := Try.isAgg20
  z20 := Try.sizeOf20
  v20 := Try.zeroValue20
  t23 := Try.underlying51
  a23 := Try.isAgg51
  z23 := Try.sizeOf51
  v23 := Try.zeroValue51 }
def Try.laysKeys_ren : Go.Shelf.Ren := ⟨fun | 7 => 63 | 10 => 79 | n => n, fun | 23 => 51 | 26 => 9 | 3 => 9 | 28 => 111 | 0 => 0 | 27 => 110 | 33 => 92 | 4 => 4 | n => n, fun | n => n⟩
theorem Try.laysKeys : Go.Proofs.SlLaysZ.n7 Try.prog Try.laysKeys_ren := {
  mixed := by kernel_rfl
  f7 := ⟨Try.f63.name, by decide, Try.func63.trans (congrArg some (by kernel_rfl))⟩
  f10 := ⟨Try.f79.name, by decide, Try.func79.trans (congrArg some (by kernel_rfl))⟩
  t0 := Try.underlying0
  a0 := Try.isAgg0
  z0 := Try.sizeOf0
  v0 := Try.zeroValue0
  t4 := Try.underlying4
  a4 := Try.isAgg4
  z4 := Try.sizeOf4
  v4 := Try.zeroValue4
  t23 := Try.underlying51
  a23 := Try.isAgg51
  z23 := Try.sizeOf51
  v23 := Try.zeroValue51
  t26 := Try.underlying9
  a26 := Try.isAgg9
  z26 := Try.sizeOf9
  v26 := Try.zeroValue9
  t27 := Try.underlying110
  a27 := Try.isAgg110
  z27 := Try.sizeOf110
  v27 := Try.zeroValue110
  t28 := Try.underlying111
  a28 := Try.isAgg111
  z28 := Try.sizeOf111
  v28 := Try.zeroValue111
  t33 := Try.underlying92
  a33 := Try.isAgg92
  z33 := Try.sizeOf92
  v33 := Try.zeroValue92 }
def Try.laysSorted_ren : Go.Shelf.Ren := ⟨fun | 6 => 62 | 8 => 77 | 9 => 78 | 11 => 84 | 13 => 86 | 12 => 85 | 23 => 98 | 24 => 99 | 14 => 89 | 15 => 90 | 16 => 91 | 17 => 92 | 18 => 93 | 19 => 94 | 20 => 95 | 21 => 96 | 22 => 97 | 25 => 101 | 26 => 102 | 27 => 103 | 28 => 104 | 29 => 105 | 30 => 106 | 31 => 108 | n => n, fun | 26 => 9 | 28 => 111 | 24 => 64 | 0 => 0 | 3 => 3 | 37 => 131 | 48 => 144 | 50 => 146 | 4 => 4 | 40 => 136 | 39 => 135 | 45 => 141 | 5 => 5 | 9 => 9 | 51 => 147 | 55 => 151 | 57 => 154 | 58 => 155 | 33 => 92 | n => n, fun | n => n⟩
theorem Try.laysSorted : Go.Proofs.SlLaysZ.n6 Try.prog Try.laysSorted_ren := {
  mixed := by kernel_rfl
  f6 := ⟨Try.f62.name, by decide, Try.func62.trans (congrArg some (by kernel_rfl))⟩
  f8 := ⟨Try.f77.name, by decide, Try.func77.trans (congrArg some (by kernel_rfl))⟩
  f11 := ⟨Try.f84.name, by decide, Try.func84.trans (congrArg some (by kernel_rfl))⟩
  t0 := Try.underlying0
  a0 := Try.isAgg0
  z0 := Try.sizeOf0
  v0 := Try.zeroValue0
  t24 := Try.underlying64
  a24 := Try.isAgg64
  z24 := Try.sizeOf64
  v24 := Try.zeroValue64
  t26 := Try.underlying9
  a26 := Try.isAgg9
  z26 := Try.sizeOf9
  v26 := Try.zeroValue9
  t28 := Try.underlying111
  a28 := Try.isAgg111
  z28 := Try.sizeOf111
  v28 := Try.zeroValue111
  i26 := by kernel_rfl }
def Try.laysSortM_ren : Go.Shelf.Ren := ⟨fun | 6 => 78 | 8 => 86 | 9 => 85 | 19 => 98 | 20 => 99 | 21 => 89 | 22 => 90 | 23 => 91 | 24 => 92 | 25 => 93 | 26 => 94 | 27 => 95 | 28 => 96 | 29 => 97 | 36 => 101 | 31 => 102 | 32 => 103 | 37 => 104 | 38 => 105 | 39 => 106 | 41 => 108 | n => n, fun | 27 => 64 | 29 => 9 | 3 => 3 | 32 => 131 | 26 => 64 | 0 => 0 | 44 => 144 | 46 => 146 | 4 => 4 | 36 => 136 | 35 => 135 | 41 => 141 | 5 => 5 | 9 => 9 | 53 => 147 | 57 => 151 | 63 => 154 | 64 => 155 | n => n, fun | n => n⟩
theorem Try.laysSortM : Go.Proofs.SlLaysM.n6 Try.prog Try.laysSortM_ren := {
  mixed := by kernel_rfl
  f6 := ⟨Try.f78.name, by decide, Try.func78.trans (congrArg some (by kernel_rfl))⟩
  f8 := Try.func86.trans (congrArg some (by kernel_rfl))
  f9 := ⟨Try.f85.name, by decide, Try.func85.trans (congrArg some (by kernel_rfl))⟩
  f19 := Try.func98.trans (congrArg some (by kernel_rfl))
  f20 := Try.func99.trans (congrArg some (by kernel_rfl))
  f21 := ⟨Try.f89.name, by decide, Try.func89.trans (congrArg some (by kernel_rfl))⟩
  f22 := ⟨Try.f90.name, by decide, Try.func90.trans (congrArg some (by kernel_rfl))⟩
  f23 := ⟨Try.f91.name, by decide, Try.func91.trans (congrArg some (by kernel_rfl))⟩
  f24 := ⟨Try.f92.name, by decide, Try.func92.trans (congrArg some (by kernel_rfl))⟩
  f25 := ⟨Try.f93.name, by decide, Try.func93.trans (congrArg some (by kernel_rfl))⟩
  f26 := ⟨Try.f94.name, by decide, Try.func94.trans (congrArg some (by kernel_rfl))⟩
  f27 := ⟨Try.f95.name, by decide, Try.func95.trans (congrArg some (by kernel_rfl))⟩
  f28 := ⟨Try.f96.name, by decide, Try.func96.trans (congrArg some (by kernel_rfl))⟩
  f29 := ⟨Try.f97.name, by decide, Try.func97.trans (congrArg some (by kernel_rfl))⟩
  f31 := Try.func102.trans (congrArg some (by kernel_rfl))
  f32 := Try.func103.trans (congrArg some (by kernel_rfl))
  f36 := ⟨Try.f101.name, by decide, Try.func101.trans (congrArg some (by kernel_rfl))⟩
  f37 := ⟨Try.f104.name, by decide, Try.func104.trans (congrArg some (by kernel_rfl))⟩
  f38 := ⟨Try.f105.name, by decide, Try.func105.trans (congrArg some (by kernel_rfl))⟩
  f39 := ⟨Try.f106.name, by decide, Try.func106.trans (congrArg some (by kernel_rfl))⟩
  f41 := ⟨Try.f108.name, by decide, Try.func108.trans (congrArg some (by kernel_rfl))⟩
  t0 := Try.underlying0
  a0 := Try.isAgg0
  z0 := Try.sizeOf0
  v0 := Try.zeroValue0
  t3 := Try.underlying3
  a3 := Try.isAgg3
  z3 := Try.sizeOf3
  v3 := Try.zeroValue3
  t4 := Try.underlying4
  a4 := Try.isAgg4
  z4 := Try.sizeOf4
  v4 := Try.zeroValue4
  t5 := Try.underlying5
  a5 := Try.isAgg5
  z5 := Try.sizeOf5
  v5 := Try.zeroValue5
  t9 := Try.underlying9
  a9 := Try.isAgg9
  z9 := Try.sizeOf9
  v9 := Try.zeroValue9
  t26 := Try.underlying64
  a26 := Try.isAgg64
  z26 := Try.sizeOf64
  v26 := Try.zeroValue64
  t27 := Try.underlying64
  a27 := Try.isAgg64
  z27 := Try.sizeOf64
  v27 := Try.zeroValue64
  t29 := Try.underlying9
  a29 := Try.isAgg9
  z29 := Try.sizeOf9
  v29 := Try.zeroValue9
  t32 := Try.underlying131
  a32 := Try.isAgg131
  z32 := Try.sizeOf131
  v32 := Try.zeroValue131
  t35 := Try.underlying135
  a35 := Try.isAgg135
  z35 := Try.sizeOf135
  v35 := Try.zeroValue135
  t36 := Try.underlying136
  a36 := Try.isAgg136
  z36 := Try.sizeOf136
  v36 := Try.zeroValue136
  t41 := Try.underlying141
  a41 := Try.isAgg141
  z41 := Try.sizeOf141
  v41 := Try.zeroValue141
  t44 := Try.underlying144
  a44 := Try.isAgg144
  z44 := Try.sizeOf144
  v44 := Try.zeroValue144
  t46 := Try.underlying146
  a46 := Try.isAgg146
  z46 := Try.sizeOf146
  v46 := Try.zeroValue146
  t53 := Try.underlying147
  a53 := Try.isAgg147
  z53 := Try.sizeOf147
  v53 := Try.zeroValue147
  t57 := Try.underlying151
  a57 := Try.isAgg151
  z57 := Try.sizeOf151
  v57 := Try.zeroValue151
  t63 := Try.underlying154
  a63 := Try.isAgg154
  z63 := Try.sizeOf154
  v63 := Try.zeroValue154
  t64 := Try.underlying155
  a64 := Try.isAgg155
  z64 := Try.sizeOf155
  v64 := Try.zeroValue155 }
end Go.Proofs
