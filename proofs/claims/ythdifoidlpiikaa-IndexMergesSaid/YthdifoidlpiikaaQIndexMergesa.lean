/- What IndexMerges leans on, part 1. No condition. -/
import Derived.WalkKit
import Derived.Lib.Hide
import Derived.Maps.AppendAt
import Derived.Laws.MakeOwn
import Derived.Scope
import Derived.Laws.BytesString
import Derived.Laws.BytesArg
import Derived.Laws.IdiomStrings
import Derived.StillTail
import Derived.OpenShut
import Derived.Deep.Slices
import Derived.Deep.WholeRow
import Derived.Lib.AppendZeros
import Derived.Laws.Cover3
import Derived.Shelf.SlSortCmp.QuietGrown
import Derived.Deep.Draws
import Derived.StillTailTactics
import Derived.DeepKeys
import Derived.Lib.BytesEntry
import Derived.Lib.Bytealg
import Derived.Laws.Externs
import Derived.Test.YthdifoidlpiikaaProg
import Derived.ProofKit
import Derived.Outline
import Derived.LoopTactic
import Derived.WalkSpells
import Derived.Deep.DeepCutAuto
import Derived.Laws.RangeString
import Derived.Lib.UnsafeStr
import Derived.MapKept
import Derived.Laws.CopyRow
import Derived.Laws.IdiomCopy
import Derived.Lib.AppendStr
import Derived.LoopN
import Derived.Maps.Keyed
import Derived.DeepKeys4
import Derived.IntWalk
import Derived.Shelf.SlSortCmp.NoneTotal
import Derived.Shelf.SlicesG.Cmp
import Derived.Ground.SlsfProg
import Derived.Ground.SlgcProg
import Derived.Test.YthdifoidlpiikaaChecked
namespace Go.Proofs.Ythdifoidlpiikaa.En
open Go.RowKit
set_option linter.unusedVariables false
set_option linter.unusedSimpArgs false
def Agr (Z : Nat → Prop) (w w' : World) : Prop := ∀ b, Z b → w'.heap[b]? = w.heap[b]?
structure Ty (α : Type) where
  size : Nat
  rep : (Nat → Prop) → World → List Value → α → Prop
  len : ∀ {Z w cs x}, rep Z w cs x → cs.length = size
  one : ∀ {Z w cs x}, rep Z w cs x → ∀ v ∈ cs, v.oneCell' = true
  keep : ∀ {Z w w' cs x}, Agr Z w w' → rep Z w cs x → rep Z w' cs x
  mono : ∀ {Z Z' : Nat → Prop} {w cs x}, (∀ b, Z b → Z' b) → rep Z w cs x → rep Z' w cs x
def str (l : List UInt8) : Value := .string ⟨l.toArray⟩
def tyEnc {α : Type} (n : Nat) (enc : α → List Value) (hl : ∀ x, (enc x).length = n) (h1 : ∀ x, ∀ v ∈ enc x, v.oneCell' = true) : Ty α where
  size := n
  rep _ _ cs x := cs = enc x
  len h := by rw [h, hl]
  one h := by rw [h]; exact h1 _
  keep _ h := h
  mono _ h := h
def tyInt (k : IntKind) : Ty Int := tyEnc 1 (fun n => [.int k n]) (fun _ => rfl) (by simp [Value.oneCell'])
def tyU8 : Ty UInt8 := tyEnc 1 (fun b => [.int .u8 b.toNat]) (fun _ => rfl) (by simp [Value.oneCell'])
def tyPair {α β : Type} (a : Ty α) (b : Ty β) : Ty (α × β) where
  size := a.size + b.size
  rep Z w cs x := ∃ c1 c2, cs = c1 ++ c2 ∧ a.rep Z w c1 x.1 ∧ b.rep Z w c2 x.2
  len h := by obtain ⟨c1, c2, rfl, h1, h2⟩ := h; rw [List.length_append, a.len h1, b.len h2]
  one h := by
    obtain ⟨c1, c2, rfl, h1, h2⟩ := h
    intro v hv
    rcases List.mem_append.1 hv with hv | hv
    · exact a.one h1 v hv
    · exact b.one h2 v hv
  keep hz h := by obtain ⟨c1, c2, he, h1, h2⟩ := h; exact ⟨c1, c2, he, a.keep hz h1, b.keep hz h2⟩
  mono hz h := by obtain ⟨c1, c2, he, h1, h2⟩ := h; exact ⟨c1, c2, he, a.mono hz h1, b.mono hz h2⟩
def tyVia {α β : Type} (f : α → β) (b : Ty β) : Ty α where
  size := b.size
  rep Z w cs x := b.rep Z w cs (f x)
  len h := b.len h
  one h := b.one h
  keep hz h := b.keep hz h
  mono hz h := b.mono hz h
def RepL {α : Type} (t : Ty α) (Z : Nat → Prop) (w : World) : List Value → List α → Prop
  | cs, [] => cs = []
  | cs, x :: xs => ∃ c1 c2, cs = c1 ++ c2 ∧ t.rep Z w c1 x ∧ RepL t Z w c2 xs
section
variable {α : Type} {t : Ty α} {Z Z' : Nat → Prop} {w w' : World}
theorem RepL.len : ∀ {xs : List α} {cs : List Value}, RepL t Z w cs xs → cs.length = xs.length * t.size
  | [], _, h => by rw [show _ = [] from h]; simp
  | x :: xs, _, h => by
    obtain ⟨c1, c2, rfl, h1, h2⟩ := h
    rw [List.length_append, t.len h1, RepL.len h2, List.length_cons, Nat.succ_mul, Nat.add_comm]
theorem RepL.one : ∀ {xs : List α} {cs : List Value}, RepL t Z w cs xs → ∀ v ∈ cs, v.oneCell' = true
  | [], _, h => by rw [show _ = [] from h]; simp
  | x :: xs, _, h => by
    obtain ⟨c1, c2, rfl, h1, h2⟩ := h
    intro v hv
    rcases List.mem_append.1 hv with hv | hv
    · exact t.one h1 v hv
    · exact RepL.one h2 v hv
theorem RepL.keep (hz : Agr Z w w') : ∀ {xs : List α} {cs : List Value}, RepL t Z w cs xs → RepL t Z w' cs xs
  | [], _, h => h
  | x :: xs, _, h => by obtain ⟨c1, c2, he, h1, h2⟩ := h; exact ⟨c1, c2, he, t.keep hz h1, RepL.keep hz h2⟩
theorem RepL.mono (hz : ∀ b, Z b → Z' b) : ∀ {xs : List α} {cs : List Value}, RepL t Z w cs xs → RepL t Z' w cs xs
  | [], _, h => h
  | x :: xs, _, h => by obtain ⟨c1, c2, he, h1, h2⟩ := h; exact ⟨c1, c2, he, t.mono hz h1, RepL.mono hz h2⟩
theorem RepL.append : ∀ {xs ys : List α} {cs ds : List Value}, RepL t Z w cs xs → RepL t Z w ds ys → RepL t Z w (cs ++ ds) (xs ++ ys)
  | [], _, _, _, h, h' => by rw [show _ = [] from h]; exact h'
  | x :: xs, _, _, _, h, h' => by
    obtain ⟨c1, c2, rfl, h1, h2⟩ := h
    exact ⟨c1, c2 ++ _, by rw [List.append_assoc], h1, RepL.append h2 h'⟩
theorem RepL.drop : ∀ (k : Nat) {xs : List α} {cs : List Value}, RepL t Z w cs xs → RepL t Z w (cs.drop (k * t.size)) (xs.drop k)
  | 0, _, _, h => by simpa using h
  | k + 1, [], _, h => by rw [show _ = [] from h]; simp [RepL]
  | k + 1, x :: xs, _, h => by
    obtain ⟨c1, c2, rfl, h1, h2⟩ := h
    have := RepL.drop k h2
    have e : (c1 ++ c2).drop t.size = c2 := by
      rw [List.drop_append_of_le_length (by rw [t.len h1]; exact Nat.le_refl _), List.drop_of_length_le (by rw [t.len h1]; exact Nat.le_refl _), List.nil_append]
    rw [List.drop_succ_cons, Nat.succ_mul, Nat.add_comm, ← List.drop_drop, e]
    exact this
theorem RepL.take : ∀ (k : Nat) {xs : List α} {cs : List Value}, RepL t Z w cs xs → RepL t Z w (cs.take (k * t.size)) (xs.take k)
  | 0, _, _, h => by simp [RepL]
  | k + 1, [], _, h => by rw [show _ = [] from h]; simp [RepL]
  | k + 1, x :: xs, _, h => by
    obtain ⟨c1, c2, rfl, h1, h2⟩ := h
    refine ⟨c1, c2.take (k * t.size), ?_, h1, RepL.take k h2⟩
    rw [List.take_append, List.take_of_length_le (by rw [t.len h1, Nat.succ_mul]; omega), t.len h1, Nat.succ_mul, Nat.add_sub_cancel]
theorem RepL.at {xs : List α} {cs : List Value} (h : RepL t Z w cs xs) {k : Nat} {x : α} (hk : xs[k]? = some x) : t.rep Z w ((cs.drop (k * t.size)).take t.size) x := by
  have h1 := RepL.drop k h
  have hlt : k < xs.length := (List.getElem?_eq_some_iff.1 hk).1
  rw [List.drop_eq_getElem_cons hlt] at h1
  obtain ⟨c1, c2, he, h2, h3⟩ := h1
  rw [List.getElem?_eq_getElem hlt] at hk
  rw [he, List.take_append_of_le_length (by rw [t.len h2]; exact Nat.le_refl _), List.take_of_length_le (by rw [t.len h2]; exact Nat.le_refl _)]
  exact Option.some.inj hk ▸ h2
theorem RepL.set : ∀ (k : Nat) {xs : List α} {cs : List Value} {x : α} {c : List Value}, RepL t Z w cs xs → t.rep Z w c x → k < xs.length → RepL t Z w (cs.take (k * t.size) ++ c ++ cs.drop ((k + 1) * t.size)) (xs.set k x)
  | 0, [], _, _, _, _, _, hk => by simp at hk
  | 0, y :: xs, _, x, c, h, hc, _ => by
    obtain ⟨c1, c2, rfl, h1, h2⟩ := h
    refine ⟨c, c2, ?_, hc, h2⟩
    rw [Nat.zero_mul, List.take_zero, List.nil_append, Nat.zero_add, Nat.one_mul, List.drop_append_of_le_length (by rw [t.len h1]; exact Nat.le_refl _), List.drop_of_length_le (by rw [t.len h1]; exact Nat.le_refl _), List.nil_append]
  | k + 1, [], _, _, _, _, _, hk => by simp at hk
  | k + 1, y :: xs, _, x, c, h, hc, hk => by
    obtain ⟨c1, c2, rfl, h1, h2⟩ := h
    refine ⟨c1, _, ?_, h1, RepL.set k h2 hc (by simpa using hk)⟩
    have e1 : ∀ j, (c1 ++ c2).take ((j + 1) * t.size) = c1 ++ c2.take (j * t.size) := fun j => by
      rw [List.take_append, List.take_of_length_le (by rw [t.len h1, Nat.succ_mul]; omega), t.len h1, Nat.succ_mul, Nat.add_sub_cancel]
    have e2 : ∀ j, (c1 ++ c2).drop ((j + 1) * t.size) = c2.drop (j * t.size) := fun j => by
      rw [List.drop_append, List.drop_of_length_le (by rw [t.len h1, Nat.succ_mul]; omega), t.len h1, Nat.succ_mul, Nat.add_sub_cancel, List.nil_append]
    rw [e1, e2]; simp
end
def CellsAt (Z : Nat → Prop) (w : World) (ad : Addr) (cs : List Value) : Prop := Z ad.block ∧ ∀ j u, cs[j]? = some u → w.cell? (ad.add j) = some u
theorem add_block (a : Addr) (n : Nat) : (a.add n).block = a.block := by unfold Addr.add; split <;> rfl
theorem add_plain (g o n : Nat) : (⟨g, o, none⟩ : Addr).add n = ⟨g, o + n, none⟩ := by unfold Addr.add; split <;> simp_all
theorem add_add (a : Addr) (i j : Nat) : (a.add i).add j = a.add (i + j) := by
  unfold Addr.add
  by_cases hi : i = 0 <;> by_cases hj : j = 0 <;> simp [hi, hj, Nat.add_assoc]
section
variable {Z Z' : Nat → Prop} {w w' : World} {ad : Addr} {cs : List Value}
theorem CellsAt.keep (hz : Agr Z w w') (h : CellsAt Z w ad cs) : CellsAt Z w' ad cs :=
  ⟨h.1, fun j u hu => (World.cell?_of_block (w := w) (hz (ad.add j).block (by rw [add_block]; exact h.1))).trans (h.2 j u hu)⟩
theorem CellsAt.mono (hz : ∀ b, Z b → Z' b) (h : CellsAt Z w ad cs) : CellsAt Z' w ad cs := ⟨hz _ h.1, h.2⟩
theorem CellsAt.drop (h : CellsAt Z w ad cs) (k : Nat) : CellsAt Z w (ad.add k) (cs.drop k) :=
  ⟨by rw [add_block]; exact h.1, fun j u hu => by rw [add_add]; exact h.2 _ u (by rw [List.getElem?_drop] at hu; exact hu)⟩
theorem CellsAt.take (h : CellsAt Z w ad cs) (k : Nat) : CellsAt Z w ad (cs.take k) :=
  ⟨h.1, fun j u hu => h.2 _ u (by rw [List.getElem?_take] at hu; split at hu; exact hu; cases hu)⟩
end
def tyList {α : Type} (t : Ty α) : Ty (List α) where
  size := 1
  rep Z w c xs := ∃ A n cap, c = [.slice A n cap] ∧ n = xs.length ∧ n ≤ cap ∧ n ≤ maxLen ∧ (n = 0 ∨ ∃ ad cs, A = some ad ∧ CellsAt Z w ad cs ∧ RepL t Z w cs xs)
  len h := by obtain ⟨_, _, _, rfl, _⟩ := h; rfl
  one h := by obtain ⟨_, _, _, rfl, _⟩ := h; simp [Value.oneCell']
  keep hz h := by
    obtain ⟨A, n, c, he, hn, hc, hm, h⟩ := h
    refine ⟨A, n, c, he, hn, hc, hm, h.imp id ?_⟩
    rintro ⟨ad, cs, e, h1, h2⟩
    exact ⟨ad, cs, e, h1.keep hz, h2.keep hz⟩
  mono hz h := by
    obtain ⟨A, n, c, he, hn, hc, hm, h⟩ := h
    refine ⟨A, n, c, he, hn, hc, hm, h.imp id ?_⟩
    rintro ⟨ad, cs, e, h1, h2⟩
    exact ⟨ad, cs, e, h1.mono hz, h2.mono hz⟩
structure Fact where
  p : (Nat → Prop) → World → Prop
  keep : ∀ {Z w w'}, Agr Z w w' → p Z w → p Z w'
  mono : ∀ {Z Z' : Nat → Prop} {w}, (∀ b, Z b → Z' b) → p Z w → p Z' w
def fDat {α : Type} (t : Ty α) (cs : List Value) (x : α) : Fact := ⟨fun Z w => t.rep Z w cs x, t.keep, t.mono⟩
def fPtr {α : Type} (t : Ty α) (v : Value) (x : α) : Fact :=
  ⟨fun Z w => ∃ ad cs, v = .pointer (some ad) ∧ CellsAt Z w ad cs ∧ t.rep Z w cs x,
   fun hz h => by obtain ⟨ad, cs, e, h1, h2⟩ := h; exact ⟨ad, cs, e, h1.keep hz, t.keep hz h2⟩,
   fun hz h => by obtain ⟨ad, cs, e, h1, h2⟩ := h; exact ⟨ad, cs, e, h1.mono hz, t.mono hz h2⟩⟩
structure Own where
  blk : List Nat
  p : (Nat → Prop) → World → Prop
  keep : ∀ {Z w w'}, Agr (fun b => Z b ∨ b ∈ blk) w w' → p Z w → p Z w'
  mono : ∀ {Z Z' : Nat → Prop} {w}, (∀ b, Z b → Z' b) → p Z w → p Z' w
  lt : ∀ {Z w}, p Z w → ∀ b ∈ blk, b < w.heap.size
def oBox (g : Nat) (t : TypeId) (cs : List Value) : Own where
  blk := [g]
  p _ w := w.heap[g]? = some (.cells cs.toArray t (0, 0))
  keep hz h := (hz g (.inr (by simp))).trans h
  mono _ h := h
  lt h := by intro b hb; rw [List.mem_singleton.1 hb]; exact (Array.getElem?_eq_some_iff.1 h).1
theorem grown_agr {v : Value} {w w' : World} {base n sz : Nat} {e : TypeId} {xs : List Value} (h : w.ownsRow base e sz v n xs) (hz : ∀ b, v.ownBlock = some b → w'.heap[b]? = w.heap[b]?) : w'.ownsRow base e sz v n xs := by
  refine ⟨h.1, h.2.imp id ?_⟩
  rintro ⟨g, cap, cur, rfl, hb, hg, r⟩
  exact ⟨g, cap, cur, rfl, hb, (hz g rfl).trans hg, r⟩
def oRow {α : Type} (v : Value) (e : TypeId) (t : Ty α) (xs : List α) : Own where
  blk := v.ownBlock.toList
  p Z w := ∃ cs, w.ownsRow 0 e t.size v xs.length cs ∧ RepL t Z w cs xs
  keep hz h := by
    obtain ⟨cs, h1, h2⟩ := h
    exact ⟨cs, grown_agr h1 (fun b hb => hz b (.inr (by simp [hb]))), h2.keep (fun b hb => hz b (.inl hb))⟩
  mono hz h := by obtain ⟨cs, h1, h2⟩ := h; exact ⟨cs, h1, h2.mono hz⟩
  lt h := by
    obtain ⟨cs, h1, h2⟩ := h
    intro b hb
    exact (h1.lt b (by simpa using hb)).2
structure Mem where
  B : Nat
  w0 : World
  Z0 : Nat → Prop
  X : List Nat
  own : List Own
  fz : List Fact
def Mem.blks (m : Mem) : List Nat := m.own.flatMap Own.blk
def Mem.frz (m : Mem) (w : World) (b : Nat) : Prop := b < w.heap.size ∧ b ∉ m.blks ∧ (b < m.B → m.Z0 b)
structure Bel (B : Nat) (X : List Nat) (w w' : World) : Prop where
  os : w'.os = w.os
  tape : w'.tape = w.tape
  output : w'.output = w.output
  size : w.heap.size ≤ w'.heap.size
  block : ∀ k, k < B → k ∉ X → w'.heap[k]? = w.heap[k]?
theorem Bel.refl (B : Nat) (X : List Nat) (w : World) : Bel B X w w := ⟨rfl, rfl, rfl, Nat.le_refl _, fun _ _ _ => rfl⟩
theorem Bel.below {B : Nat} {w w' : World} (h : Bel B [] w w') : Below B w w' := ⟨h.os, h.tape, h.output, h.size, fun k hk => h.block k hk (by simp)⟩
theorem Bel.of {B : Nat} {X : List Nat} {w w' : World} (h : Below B w w') : Bel B X w w' := ⟨h.os, h.tape, h.output, h.size, fun k hk _ => h.block k hk⟩
structure Holds (m : Mem) (w : World) : Prop where
  bel : Bel m.B m.X m.w0 w
  B : m.w0.heap.size = m.B
  nd : m.blks.Nodup
  lo : ∀ b ∈ m.blks, m.B ≤ b ∨ b ∈ m.X
  zx : ∀ b ∈ m.X, b < m.B ∧ ¬ m.Z0 b
  own : ∀ o ∈ m.own, o.p (m.frz w) w
  fz : ∀ f ∈ m.fz, f.p (m.frz w) w
def Mem.add (m : Mem) (f : Fact) : Mem := { m with fz := f :: m.fz }
def Mem.adds (m : Mem) (l : List Fact) : Mem := { m with fz := l ++ m.fz }
def Mem.push (m : Mem) (o : Own) : Mem := { m with own := o :: m.own }
def Mem.pushs (m : Mem) (l : List Own) : Mem := { m with own := l ++ m.own }
def Mem.upd (m : Mem) (i : Nat) (o : Own) : Mem := { m with own := m.own.set i o }
structure Step (m : Mem) (w : World) (bs : List Nat) (w' : World) : Prop where
  os : w'.os = w.os
  tape : w'.tape = w.tape
  output : w'.output = w.output
  size : w.heap.size ≤ w'.heap.size
  block : ∀ b, b < w.heap.size → b ∉ bs → w'.heap[b]? = w.heap[b]?
theorem Step.of {m : Mem} {w w' : World} {bs : List Nat} (h : Below w.heap.size w w') : Step m w bs w' := ⟨h.os, h.tape, h.output, h.size, fun b hb _ => h.block b hb⟩
section
variable {m : Mem} {w w' : World}
theorem Holds.lt (h : Holds m w) {b : Nat} (hb : b ∈ m.blks) : b < w.heap.size := by
  obtain ⟨o, ho, hb⟩ := List.mem_flatMap.1 hb
  exact o.lt (h.own o ho) b hb
theorem Holds.size (h : Holds m w) : m.B ≤ w.heap.size := by rw [← h.B]; exact h.bel.size
theorem Holds.add (h : Holds m w) {f : Fact} (hf : f.p (m.frz w) w) : Holds (m.add f) w :=
  ⟨h.bel, h.B, h.nd, h.lo, h.zx, h.own, fun g hg => by
    rcases List.mem_cons.1 hg with rfl | hg
    · exact hf
    · exact h.fz g hg⟩
theorem Holds.adds (h : Holds m w) {l : List Fact} (hf : ∀ f ∈ l, f.p (m.frz w) w) : Holds (m.adds l) w :=
  ⟨h.bel, h.B, h.nd, h.lo, h.zx, h.own, fun g hg => by
    rcases List.mem_append.1 hg with hg | hg
    · exact hf g hg
    · exact h.fz g hg⟩
theorem Holds.step (h : Holds m w) {bs : List Nat} (hs : Step m w bs w') (hbs : ∀ b ∈ bs, b ∈ m.blks) (own' new : List Own)
    (hnd : ((new ++ own').flatMap Own.blk).Nodup) (hold : ∀ o ∈ own', o ∈ m.own ∧ ∀ b ∈ o.blk, b ∉ bs)
    (hnew : ∀ o ∈ new, (∀ b ∈ o.blk, b ∈ bs ∨ w.heap.size ≤ b) ∧ ∀ Z : Nat → Prop, (∀ b, m.frz w b → Z b) → (∀ b, w.heap.size ≤ b → b < w'.heap.size → b ∉ new.flatMap Own.blk → Z b) → o.p Z w') :
    Holds { m with own := new ++ own' } w' := by
  have hz : ∀ b, m.frz w b → Mem.frz { m with own := new ++ own' } w' b := fun b hb => by
    refine ⟨Nat.lt_of_lt_of_le hb.1 hs.size, fun hx => ?_, hb.2.2⟩
    obtain ⟨o, ho, hx⟩ := List.mem_flatMap.1 hx
    rcases List.mem_append.1 ho with ho | ho
    · rcases (hnew o ho).1 b hx with hx | hx
      · exact hb.2.1 (hbs b hx)
      · have := hb.1; omega
    · exact hb.2.1 (List.mem_flatMap.2 ⟨o, (hold o ho).1, hx⟩)
  have hag : Agr (m.frz w) w w' := fun b hb => hs.block b hb.1 (fun hx => hb.2.1 (hbs b hx))
  have hlo : ∀ b ∈ bs, m.B ≤ b ∨ b ∈ m.X := fun b hb => h.lo b (hbs b hb)
  refine ⟨⟨hs.os.trans h.bel.os, hs.tape.trans h.bel.tape, hs.output.trans h.bel.output, Nat.le_trans h.bel.size hs.size, fun k hk hx => ?_⟩, h.B, hnd, fun b hb => ?_, h.zx, fun o ho => ?_, fun f hf => f.mono hz (f.keep hag (h.fz f hf))⟩
  · refine (hs.block k (Nat.lt_of_lt_of_le hk h.size) (fun hb => ?_)).trans (h.bel.block k hk hx)
    rcases hlo k hb with h1 | h1
    · have hk' : k < m.B := hk; omega
    · exact hx h1
  · obtain ⟨o, ho, hb⟩ := List.mem_flatMap.1 hb
    rcases List.mem_append.1 ho with ho | ho
    · rcases (hnew o ho).1 b hb with hx | hx
      · exact hlo b hx
      · exact .inl (Nat.le_trans h.size hx)
    · exact h.lo b (List.mem_flatMap.2 ⟨o, (hold o ho).1, hb⟩)
  · rcases List.mem_append.1 ho with ho | ho
    · refine (hnew o ho).2 _ hz (fun b h1 h2 h3 => ⟨h2, fun hx => ?_, fun hx => ?_⟩)
      · obtain ⟨o', ho', hx⟩ := List.mem_flatMap.1 hx
        rcases List.mem_append.1 ho' with ho' | ho'
        · exact h3 (List.mem_flatMap.2 ⟨o', ho', hx⟩)
        · have := h.lt (List.mem_flatMap.2 ⟨o', (hold o' ho').1, hx⟩); omega
      · have := h.size; have hx' : b < m.B := hx; omega
    · refine o.mono hz (o.keep (fun b hb => ?_) (h.own o (hold o ho).1))
      rcases hb with hb | hb
      · exact hag b hb
      · exact hs.block b (o.lt (h.own o (hold o ho).1) b hb) ((hold o ho).2 b hb)
theorem Holds.ext (h : Holds m w) (hb : Below w.heap.size w w') : Holds m w' := by
  have := h.step (bs := []) (.of hb) (by simp) m.own [] (by simpa using (show (m.own.flatMap Own.blk).Nodup from h.nd)) (fun o ho => ⟨ho, by simp⟩) (by simp)
  simpa using this
theorem Holds.pushs (h : Holds m w) (hb : Below w.heap.size w w') {l : List Own} (hnd : (l.flatMap Own.blk).Nodup)
    (hnew : ∀ o ∈ l, (∀ b ∈ o.blk, w.heap.size ≤ b) ∧ ∀ Z : Nat → Prop, (∀ b, m.frz w b → Z b) → (∀ b, w.heap.size ≤ b → b < w'.heap.size → b ∉ l.flatMap Own.blk → Z b) → o.p Z w') : Holds (m.pushs l) w' := by
  refine h.step (bs := []) (.of hb) (by simp) m.own l ?_ (fun o ho => ⟨ho, by simp⟩) (fun o ho => ⟨fun b hb => .inr ((hnew o ho).1 b hb), (hnew o ho).2⟩)
  rw [List.flatMap_append, List.nodup_append]
  refine ⟨hnd, h.nd, fun b hb1 c hc e => ?_⟩
  obtain ⟨o, ho, hb1⟩ := List.mem_flatMap.1 hb1
  have := (hnew o ho).1 b hb1
  have := h.lt hc
  omega
theorem Holds.push (h : Holds m w) (hb : Below w.heap.size w w') {o : Own} (hnd : o.blk.Nodup) (hlo : ∀ b ∈ o.blk, w.heap.size ≤ b)
    (ho : ∀ Z : Nat → Prop, (∀ b, m.frz w b → Z b) → o.p Z w') : Holds (m.push o) w' :=
  h.pushs (l := [o]) hb (by simpa using hnd) (fun o' ho' => by rw [List.mem_singleton.1 ho']; exact ⟨hlo, fun Z h1 _ => ho Z h1⟩)
theorem Holds.reown (h : Holds m w) (own' : List Own) (hsub : ∀ o ∈ own', o ∈ m.own) (hnd : (own'.flatMap Own.blk).Nodup) : Holds { m with own := own' } w := by
  have := h.step (w' := w) (bs := []) (.of (Below.refl _ _)) (by simp) own' [] (by simpa using hnd) (fun o ho => ⟨hsub o ho, by simp⟩) (by simp)
  simpa using this
theorem Holds.refz (h : Holds m w) (fz' : List Fact) (hsub : ∀ f ∈ fz', f ∈ m.fz) : Holds { m with fz := fz' } w :=
  ⟨h.bel, h.B, h.nd, h.lo, h.zx, h.own, fun f hf => h.fz f (hsub f hf)⟩
theorem set_split {l : List Own} {i : Nat} {o : Own} (o' : Own) (hi : l[i]? = some o) : l.set i o' = l.take i ++ o' :: l.drop (i + 1) := by
  have hlt : i < l.length := (List.getElem?_eq_some_iff.1 hi).1
  rw [List.set_eq_take_append_cons_drop, if_pos hlt]
theorem perm_set {l : List Own} {i : Nat} {o : Own} (o' : Own) (hi : l[i]? = some o) : ((l.set i o').flatMap Own.blk).Perm ((o' :: (l.take i ++ l.drop (i + 1))).flatMap Own.blk) := by
  rw [set_split o' hi]
  exact List.Perm.flatMap_right _ List.perm_middle
theorem perm_get {l : List Own} {i : Nat} {o : Own} (hi : l[i]? = some o) : (l.flatMap Own.blk).Perm ((o :: (l.take i ++ l.drop (i + 1))).flatMap Own.blk) := by
  have := perm_set o hi
  have e : l.set i o = l := by
    apply List.ext_getElem?
    intro j
    rw [List.getElem?_set]
    split
    · rename_i e; subst e; rw [hi, if_pos (List.getElem?_eq_some_iff.1 hi).1]
    · rfl
  rwa [e] at this
theorem Holds.upd (h : Holds m w) {i : Nat} {o o' : Own} (hi : m.own[i]? = some o) (hs : Step m w o.blk w') (hnd : o'.blk.Nodup) (hnew : ∀ b ∈ o'.blk, b ∈ o.blk ∨ w.heap.size ≤ b)
    (ho : ∀ Z : Nat → Prop, (∀ b, m.frz w b → Z b) → o'.p Z w') : Holds (m.upd i o') w' := by
  have hnd0 : ((o :: (m.own.take i ++ m.own.drop (i + 1))).flatMap Own.blk).Nodup := (perm_get hi).nodup_iff.1 h.nd
  have hmo : o ∈ m.own := List.mem_of_getElem? hi
  have hin : ∀ b ∈ o.blk, b ∈ m.blks := fun b hb => List.mem_flatMap.2 ⟨o, hmo, hb⟩
  rw [List.flatMap_cons, List.nodup_append] at hnd0
  have hsub : ∀ x ∈ m.own.take i ++ m.own.drop (i + 1), x ∈ m.own := fun x hx => by
    rcases List.mem_append.1 hx with hx | hx
    · exact List.mem_of_mem_take hx
    · exact List.mem_of_mem_drop hx
  have h1 := h.step hs hin (m.own.take i ++ m.own.drop (i + 1)) [o'] (by
      rw [List.singleton_append, List.flatMap_cons, List.nodup_append]
      refine ⟨hnd, hnd0.2.1, fun b hb c hc e => ?_⟩
      subst e
      rcases hnew b hb with hx | hx
      · exact hnd0.2.2 b hx b hc rfl
      · obtain ⟨x, hx1, hx2⟩ := List.mem_flatMap.1 hc
        have := h.lt (List.mem_flatMap.2 ⟨x, hsub x hx1, hx2⟩); omega)
    (fun x hx => ⟨hsub x hx, fun b hb hbo => hnd0.2.2 b hbo b (List.mem_flatMap.2 ⟨x, hx, hb⟩) rfl⟩)
    (fun x hx => by rw [List.mem_singleton.1 hx]; exact ⟨hnew, fun Z h1 _ => ho Z h1⟩)
  have h2 := h1.reown (m.own.set i o') (fun x hx => by
    rw [set_split o' hi] at hx
    show x ∈ [o'] ++ (m.own.take i ++ m.own.drop (i + 1))
    simp only [List.mem_append, List.mem_cons] at hx ⊢
    rcases hx with hx | rfl | hx
    · exact .inr (.inl hx)
    · exact .inl (.inl rfl)
    · exact .inr (.inr hx)) ((perm_set o' hi).nodup_iff.2 (by have h9 : (([o'] ++ (m.own.take i ++ m.own.drop (i + 1))).flatMap Own.blk).Nodup := h1.nd; simpa using h9))
  exact h2
end
end Go.Proofs.Ythdifoidlpiikaa.En
namespace Go.Proofs.Ythdifoidlpiikaa.En
open Go.RowKit
set_option linter.unusedVariables false
set_option linter.unusedSimpArgs false
abbrev Sl := Nat → Option Value
def put (S : Sl) (d : Nat) (v : Value) : Sl := fun t => bif Nat.beq t d then some v else S t
def Sl.nil : Sl := fun _ => none
def ev (S : Sl) : Operand → Option Value
  | .tmp t => S t
  | .const v => some v
  | .global g => some (.pointer (some ⟨g, 0, none⟩))
  | .func f => some (.func (.func f) #[] #[])
structure Sat (n : Nat) (S : Sl) (a : Act) : Prop where
  def_ : a.defers = []
  size : a.tmps.size = n
  val : ∀ t v, S t = some v → a.tmps.getD t undef = v
section
variable {n : Nat} {S S' : Sl} {a : Act}
theorem Sat.ev (h : Sat n S a) {x : Operand} {v : Value} (hx : ev S x = some v) : a.eval x = v := by
  cases x with
  | tmp t => exact h.val t v hx
  | const u => exact Option.some.inj hx
  | global g => exact Option.some.inj hx
  | func f => exact Option.some.inj hx
theorem put_some {d t : Nat} {v u : Value} (h : put S d v t = some u) : (t = d ∧ u = v) ∨ (t ≠ d ∧ S t = some u) := by
  unfold put at h
  cases hb : Nat.beq t d with
  | true => rw [hb] at h; exact .inl ⟨Nat.eq_of_beq_eq_true hb, (Option.some.inj h).symm⟩
  | false => rw [hb] at h; exact .inr ⟨Nat.ne_of_beq_eq_false hb, h⟩
theorem Sat.put (h : Sat n S a) {d : Nat} (hd : d < n) (v : Value) : Sat n (put S d v) (a.put (some d) v) := by
  refine ⟨h.def_, by simp [Act.put, h.size], fun t u hu => ?_⟩
  have hsz := h.size
  rcases put_some hu with ⟨rfl, rfl⟩ | ⟨hne, hu⟩
  · simp [Act.put, Array.getD, hsz, hd]
  · have h0 := h.val t u hu
    have he : (a.tmps.setIfInBounds d v).getD t undef = a.tmps.getD t undef := by
      simp only [Array.getD_eq_getD_getElem?]
      rw [Array.getElem?_setIfInBounds_ne (fun e => hne e.symm)]
    exact he.trans h0
theorem Sat.put' (h : Sat n S a) {od : Option Nat} {d : Nat} (hdd : od = some d) (hd : Nat.blt d n = true) (v : Value) : Sat n (En.put S d v) (a.put od v) := by subst hdd; exact h.put (by simpa [Nat.blt_eq] using hd) v
theorem Sat.weak (h : Sat n S a) (hs : ∀ t v, S' t = some v → S t = some v) : Sat n S' a := ⟨h.def_, h.size, fun t v hv => h.val t v (hs t v hv)⟩
end
def tab : List (Nat × Value) → Sl
  | [] => fun _ => none
  | (d, v) :: l => put (tab l) d v
theorem Sat.tab {n : Nat} {S : Sl} {a : Act} (h : Sat n S a) : ∀ (l : List (Nat × Value)), (∀ p ∈ l, S p.1 = some p.2) → Sat n (tab l) a
  | [], _ => h.weak (fun t v hv => by cases hv)
  | (d, v) :: l, hl => by
    have h1 := Sat.tab h l (fun p hp => hl p (by simp [hp]))
    refine ⟨h.def_, h.size, fun t u hu => ?_⟩
    rcases put_some hu with ⟨rfl, rfl⟩ | ⟨_, hu⟩
    · exact h.val _ _ (hl (t, u) (by simp))
    · exact h1.val t u hu
def allT (S : Sl) : List (Nat × Value) → Prop
  | [] => True
  | (d, v) :: l => S d = some v ∧ allT S l
theorem allT_mem {S : Sl} : ∀ {l : List (Nat × Value)}, allT S l → ∀ p ∈ l, S p.1 = some p.2
  | [], _, p, hp => by simp at hp
  | (d, v) :: l, h, p, hp => by
    rcases List.mem_cons.1 hp with rfl | hp
    · exact h.1
    · exact allT_mem h.2 p hp
def AW (P : Program) (c : Code) (Q : Exit → Act → World → Prop) (n : Nat) (m : Mem) (S : Sl) : Prop := ∀ w a, Holds m w → Sat n S a → c.wp P Q a w
def AL (P : Program) (ops : Array Oper) (l : List Oper) (Q : Exit → Act → World → Prop) (n : Nat) (m : Mem) (S : Sl) : Prop := ∀ w a, Holds m w → Sat n S a → wpList P ops Q l a w
def AQ (Q : Exit → Act → World → Prop) (e : Exit) (n : Nat) (m : Mem) (S : Sl) : Prop := ∀ w a, Holds m w → Sat n S a → Q e a w
section
variable {P : Program} {Q : Exit → Act → World → Prop} {n : Nat} {m m' : Mem} {S S' : Sl}
theorem aw_seq {x y : Code} (h : AW P x (Exit.then (y.wp P Q) Q) n m S) : AW P (.seq x y) Q n m S := fun w a hm hs => wp_seq (h w a hm hs)
theorem aq_then {y : Code} (h : AW P y Q n m S) : AQ (Exit.then (y.wp P Q) Q) .normal n m S := h
theorem aq_then_ret {K : Act → World → Prop} (h : AQ Q .ret n m S) : AQ (Exit.then K Q) .ret n m S := h
theorem aq_then_exit {K : Act → World → Prop} {i : Nat} (h : AQ Q (.exit i) n m S) : AQ (Exit.then K Q) (.exit i) n m S := h
theorem aw_block {id : Nat} {c : Code} (h : AW P c (Exit.inBlock id Q) n m S) : AW P (.block id c) Q n m S := fun w a hm hs => wp_block (h w a hm hs)
theorem aq_block {id : Nat} (h : AQ Q .normal n m S) : AQ (Exit.inBlock id Q) .normal n m S := h
theorem aq_block_ret {id : Nat} (h : AQ Q .ret n m S) : AQ (Exit.inBlock id Q) .ret n m S := h
theorem aq_block_exit {id : Nat} (h : AQ Q .normal n m S) : AQ (Exit.inBlock id Q) (.exit id) n m S := fun w a hm hs => by
  show if id = id then _ else _
  rw [if_pos rfl]; exact h w a hm hs
theorem aw_skip (h : AQ Q .normal n m S) : AW P .skip Q n m S := fun w a hm hs => wp_skip (h w a hm hs)
theorem aw_exit {i : Nat} (h : AQ Q (.exit i) n m S) : AW P (.exit i) Q n m S := fun w a hm hs => wp_exit (h w a hm hs)
theorem aw_ret (h : AQ Q .ret n m S) : AW P .ret Q n m S := fun w a hm hs => wp_ret (h w a hm hs)
theorem aw_cond {c : Operand} {x y : Code} {b : Bool} (hc : ev S c = some (.bool b)) (ht : b = true → AW P x Q n m S) (hf : b = false → AW P y Q n m S) : AW P (.cond c x y) Q n m S :=
  fun w a hm hs => wp_cond_split (hs.ev hc) (fun e => ht e w a hm hs) (fun e => hf e w a hm hs)
theorem aw_region {id : Nat} {l : List Oper} (h : AL P l.toArray l Q n m S) : AW P (.region id l.toArray false) Q n m S := fun w a hm hs => wp_region_lit (h w a hm hs)
theorem al_nil {ops : Array Oper} (h : AQ Q .normal n m S) : AL P ops [] Q n m S := fun w a hm hs => wpList_nil (h w a hm hs)
theorem least {p : Nat → Prop} (h : ∃ k, p k) : ∃ k, p k ∧ ∀ j, p j → k ≤ j := by
  obtain ⟨k, hk⟩ := h
  induction k using Nat.strongRecOn with
  | _ k ih =>
    by_cases hj : ∃ j, j < k ∧ p j
    · obtain ⟨j, hlt, hp⟩ := hj; exact ih j hlt hp
    · exact ⟨k, hk, fun j hp => Nat.le_of_not_lt fun hlt => hj ⟨j, hlt, hp⟩⟩
theorem wp_loop_fuel {c : Code} (J : Nat → Act → World → Prop) (round : ∀ k a w, J k a w → c.wp P (Exit.then (fun a' w' => ∃ j, j < k ∧ J j a' w') Q) a w) {k : Nat} {a : Act} {w : World} (h : J k a w) : (Code.loop c).wp P Q a w := by
  classical
  let μ : Act → World → Nat := fun a w => if h : ∃ k, J k a w then Classical.choose (least h) else 0
  refine wp_loop (fun a w => ∃ k, J k a w) μ ⟨k, h⟩ (fun a w hI => ?_)
  have hk := (Classical.choose_spec (least hI)).1
  refine Code.wp_mono (fun e a' w' q => ?_) (round _ a w hk)
  cases e with
  | normal =>
    obtain ⟨j, hj, hJ⟩ := q
    refine ⟨⟨j, hJ⟩, ?_⟩
    have hex : ∃ k, J k a' w' := ⟨j, hJ⟩
    have h1 : μ a' w' ≤ j := by
      show (if h : ∃ k, J k a' w' then Classical.choose (least h) else 0) ≤ j
      rw [dif_pos hex]; exact (Classical.choose_spec (least hex)).2 j hJ
    have h2 : μ a w = Classical.choose (least hI) := dif_pos hI
    omega
  | exit i => exact q
  | goto i => exact q
  | ret => exact q
  | panic ch => exact q
  | outgrown => exact q
theorem aw_loop {c : Code} {ι : Type _} (M : ι → Mem) (T : ι → Sl) (φ : Nat → ι → Prop)
    (round : ∀ k i, φ k i → AW P c (Exit.then (fun a' w' => ∃ j, j < k ∧ ∃ i', φ j i' ∧ Holds (M i') w' ∧ Sat n (T i') a') Q) n (M i) (T i)) (k : Nat) (i : ι) (h : φ k i) : AW P (.loop c) Q n (M i) (T i) :=
  fun w a hm hs => wp_loop_fuel (fun k a w => ∃ i, φ k i ∧ Holds (M i) w ∧ Sat n (T i) a)
    (fun k a w ⟨i, hp, hm, hs⟩ => round k i hp w a hm hs) ⟨i, h, hm, hs⟩
theorem aq_again {ι : Type _} {M : ι → Mem} {T : ι → Sl} {φ : Nat → ι → Prop} {k : Nat} (j : Nat) (i : ι) (hj : j < k) (hp : φ j i)
    (h : ∀ w a, Holds m w → Sat n S a → Holds (M i) w ∧ Sat n (T i) a) : AQ (Exit.then (fun a' w' => ∃ j, j < k ∧ ∃ i', φ j i' ∧ Holds (M i') w' ∧ Sat n (T i') a') Q) .normal n m S :=
  fun w a hm hs => ⟨j, hj, i, hp, h w a hm hs⟩
theorem aw_state {c : Code} (h : AW P c Q n m' S') (hh : ∀ w a, Holds m w → Sat n S a → Holds m' w ∧ Sat n S' a) : AW P c Q n m S := fun w a hm hs => h w a (hh w a hm hs).1 (hh w a hm hs).2
def picks {β : Type _} (l : List β) (is : List Nat) : List β := is.filterMap fun i => l[i]?
theorem picks_sub {β : Type _} {l : List β} {is : List Nat} {x : β} (h : x ∈ picks l is) : x ∈ l := by
  obtain ⟨i, _, hi⟩ := List.mem_filterMap.1 h
  exact List.mem_of_getElem? hi
theorem nodup_flat {l : List Own} (hl : (l.flatMap Own.blk).Nodup) {i j : Nat} {o o' : Own} (hi : l[i]? = some o) (hj : l[j]? = some o') (hne : i ≠ j) : ∀ b ∈ o.blk, b ∉ o'.blk := by
  induction l generalizing i j with
  | nil => simp at hi
  | cons x l ih =>
    rw [List.flatMap_cons, List.nodup_append] at hl
    cases i with
    | zero =>
      cases j with
      | zero => exact absurd rfl hne
      | succ j =>
        simp only [List.getElem?_cons_zero, Option.some.injEq] at hi
        subst hi
        rw [List.getElem?_cons_succ] at hj
        exact fun b hb hb' => hl.2.2 b hb b (List.mem_flatMap.2 ⟨o', List.mem_of_getElem? hj, hb'⟩) rfl
    | succ i =>
      rw [List.getElem?_cons_succ] at hi
      cases j with
      | zero =>
        simp only [List.getElem?_cons_zero, Option.some.injEq] at hj
        subst hj
        exact fun b hb hb' => hl.2.2 b hb' b (List.mem_flatMap.2 ⟨o, List.mem_of_getElem? hi, hb⟩) rfl
      | succ j =>
        rw [List.getElem?_cons_succ] at hj
        exact ih hl.2.1 hi hj (by omega)
theorem nodup_at {l : List Own} (hl : (l.flatMap Own.blk).Nodup) {o : Own} (ho : o ∈ l) : o.blk.Nodup := by
  induction l with
  | nil => simp at ho
  | cons x l ih =>
    rw [List.flatMap_cons, List.nodup_append] at hl
    rcases List.mem_cons.1 ho with rfl | ho
    · exact hl.1
    · exact ih hl.2.1 ho
theorem picks_nodup {l : List Own} (hl : (l.flatMap Own.blk).Nodup) : ∀ {is : List Nat}, is.Nodup → ((picks l is).flatMap Own.blk).Nodup
  | [], _ => by simp [picks]
  | i :: is, h => by
    have h2 := picks_nodup hl (List.nodup_cons.1 h).2
    unfold picks at h2 ⊢
    rw [List.filterMap_cons]
    cases hi : l[i]? with
    | none => exact h2
    | some o =>
      show ((o :: _).flatMap Own.blk).Nodup
      rw [List.flatMap_cons, List.nodup_append]
      refine ⟨nodup_at hl (List.mem_of_getElem? hi), h2, fun b hb c hc e => ?_⟩
      subst e
      obtain ⟨o', ho', hb'⟩ := List.mem_flatMap.1 hc
      obtain ⟨j, hj, ho'⟩ := List.mem_filterMap.1 ho'
      exact nodup_flat hl hi ho' (fun e => (List.nodup_cons.1 h).1 (e ▸ hj)) b hb hb'
theorem Holds.pick {w : World} (h : Holds m w) (io iz : List Nat) (hio : io.Nodup) : Holds { m with own := picks m.own io, fz := picks m.fz iz } w :=
  (h.reown (picks m.own io) (fun o ho => picks_sub ho) (picks_nodup h.nd hio)).refz _ (fun f hf => picks_sub hf)
theorem norm {w : World} {a : Act} (h : Holds m w) (hs : Sat n S a) (io iz : List Nat) (l : List (Nat × Value)) (hio : io.Nodup) (hl : allT S l) :
    Holds { m with own := picks m.own io, fz := picks m.fz iz } w ∧ Sat n (tab l) a := ⟨h.pick io iz hio, hs.tab l (allT_mem hl)⟩
end
def wantS (ops : Array Oper) (S : Sl) (o : Oper) (want : Bool) : Bool :=
  match o.guard with
  | none => want
  | some (j, y) => match (ops[j]?).bind (·.dst) with
    | some t => match S t with
      | some (.bool b) => (b == y) == want
      | some _ => !want
      | none => false
    | none => false
section
variable {P : Program} {Q : Exit → Act → World → Prop} {n : Nat} {m m' : Mem} {S S' : Sl} {ops : Array Oper} {rest : List Oper} {o : Oper}
theorem getD_tmps {a : Act} {t : Nat} {b : Bool} (h : a.tmps.getD t undef = .bool b) : a.tmps[t]? = some (.bool b) := by
  unfold Array.getD at h
  split at h
  · rename_i hlt
    rw [Array.getElem?_eq_getElem hlt]
    exact congrArg some h
  · cases h
theorem wantS_of {a : Act} (hs : Sat n S a) {want : Bool} (h : wantS ops S o want = true) : Region.wanted o (yielded ops a.tmps) = want := by
  unfold wantS at h
  unfold Region.wanted
  cases hg : o.guard with
  | none => rw [hg] at h; exact h.symm
  | some p =>
    obtain ⟨j, y⟩ := p
    rw [hg] at h
    simp only at h ⊢
    cases hd : (ops[j]?).bind (·.dst) with
    | none => rw [hd] at h; cases h
    | some t =>
      rw [hd] at h
      simp only at h
      cases hv : S t with
      | none => rw [hv] at h; cases h
      | some v =>
        rw [hv] at h
        cases v with
        | bool b =>
          simp only at h
          have := getD_tmps (hs.val t _ hv)
          unfold yielded
          rw [hd]
          simp only [Option.bind_some, this]
          have h2 : (b == y) = want := by simpa using h
          rw [← h2]
          cases b <;> cases y <;> rfl
        | _ =>
          have hw : want = false := by simpa using h
          subst hw
          have hsv := hs.val t _ hv
          unfold yielded
          rw [hd]
          simp only [Option.bind_some]
          unfold Array.getD at hsv
          split at hsv
          · rename_i hlt
            have h9 : a.tmps[t]? = some (a.tmps[t]) := Array.getElem?_eq_getElem hlt
            rw [h9]
            have h8 : a.tmps[t] = _ := hsv
            rw [h8]; rfl
          · rename_i hlt
            rw [Array.getElem?_eq_none (by omega)]; rfl
theorem al_skip {d : Nat} (h : AL P ops rest Q n m (put S d undef)) (hdd : o.dst = some d := by rfl) (hd : Nat.blt d n = true := by rfl) (hg : wantS ops S o false = true := by rfl) : AL P ops (o :: rest) Q n m S := fun w a hm hs => by
  refine wpList_step fun K hK => ?_
  rw [wantS_of hs hg]
  exact hK _ _ (h w _ hm (hs.put' hdd hd _))
theorem al_step (hg : wantS ops S o true = true) (hst : ∀ w a, Holds m w → Sat n S a → ∀ K : Act → World → Prop, (∀ a w, wpList P ops Q rest a w → K a w) → o.wp P a w K Q) : AL P ops (o :: rest) Q n m S := fun w a hm hs => by
  refine wpList_step fun K hK => ?_
  rw [wantS_of hs hg]
  exact hst w a hm hs K hK
def OpV (P : Program) (o : Oper) (n : Nat) (m : Mem) (S : Sl) (v : Value) : Prop := ∀ w a, Holds m w → Sat n S a → (execOp a.eval o).run P w = .ok (.value v) w
theorem al_val {d : Nat} {v : Value} (hv : OpV P o n m S v) (h : AL P ops rest Q n m (put S d v)) (hdd : o.dst = some d := by rfl) (hd : Nat.blt d n = true := by rfl) (hg : wantS ops S o true = true := by rfl) : AL P ops (o :: rest) Q n m S :=
  al_step hg fun w a hm hs K hK => by
    unfold Oper.wp
    rw [hv w a hm hs, Oper.upon_value]
    exact hK _ _ (h w _ hm (hs.put' hdd hd _))
def OpF (P : Program) (o : Oper) (n : Nat) (m : Mem) (S : Sl) (R : Value → Fact) : Prop := ∀ w a, Holds m w → Sat n S a → ∃ v, (execOp a.eval o).run P w = .ok (.value v) w ∧ (R v).p (m.frz w) w
theorem al_fact {d : Nat} {R : Value → Fact} (hv : ∀ w a, Holds m w → Sat n S a → ∃ v, (execOp a.eval o).run P w = .ok (.value v) w ∧ (R v).p (m.frz w) w)
    (h : ∀ v, AL P ops rest Q n (m.add (R v)) (put S d v)) (hdd : o.dst = some d := by rfl) (hd : Nat.blt d n = true := by rfl) (hg : wantS ops S o true = true := by rfl) : AL P ops (o :: rest) Q n m S :=
  al_step hg fun w a hm hs K hK => by
    unfold Oper.wp
    obtain ⟨v, hr, hf⟩ := hv w a hm hs
    rw [hr, Oper.upon_value]
    exact hK _ _ (h v w _ (hm.add hf) (hs.put' hdd hd _))
end
section
variable {P : Program} {n : Nat} {m : Mem} {S : Sl} {o : Oper}
theorem ov_move {x : Operand} {v : Value} (ho : o.op = .move x) (hx : ev S x = some v) : OpV P o n m S v := fun w a _ hs => by
  unfold execOp; simp [ho, hs.ev hx]
theorem ov_assign {x : Operand} {v : Value} (ho : o.op = .assign x) (hx : ev S x = some v) : OpV P o n m S v := fun w a _ hs => by
  unfold execOp; simp [ho, hs.ev hx]
theorem ov_pick {c x y : Operand} {b : Bool} {v u : Value} (ho : o.op = .pick c x y) (hc : ev S c = some (.bool b)) (hx : b = true → ev S x = some v) (hy : b = false → ev S y = some v) : OpV P o n m S v := fun w a _ hs => by
  unfold execOp
  simp only [ho, hs.ev hc, asBool, Sem.run_bind, Sem.run_pure, Result.andThen_ok]
  cases b with
  | true => rw [if_pos rfl, hs.ev (hx rfl)]
  | false => rw [if_neg (by simp), hs.ev (hy rfl)]
theorem ov_pick_t {c x y : Operand} {v : Value} (ho : o.op = .pick c x y) (hc : ev S c = some (.bool true)) (hx : ev S x = some v) : OpV P o n m S v := ov_pick (u := v) ho hc (fun _ => hx) (fun e => by cases e)
theorem ov_pick_f {c x y : Operand} {v : Value} (ho : o.op = .pick c x y) (hc : ev S c = some (.bool false)) (hy : ev S y = some v) : OpV P o n m S v := ov_pick (u := v) ho hc (fun e => by cases e) (fun _ => hy)
theorem ov_extract {x : Operand} {i : Nat} {vs : Array Value} {v : Value} (ho : o.op = .extract x i) (hx : ev S x = some (.tuple vs)) (hv : vs[i]? = some v) : OpV P o n m S v := fun w a _ hs => by
  unfold execOp
  simp [ho, hs.ev hx, Instr.extract, hv]
def intRes : BinOp → IntKind → Int → Int → Option Value
  | .add, k, a, b => some (.int k (k.wrap (a + b)))
  | .sub, k, a, b => some (.int k (k.wrap (a - b)))
  | .mul, k, a, b => some (.int k (k.wrap (a * b)))
  | .eql, _, a, b => some (.bool (a == b))
  | .neq, _, a, b => some (.bool (a != b))
  | .lss, _, a, b => some (.bool (decide (a < b)))
  | .leq, _, a, b => some (.bool (decide (a ≤ b)))
  | .gtr, _, a, b => some (.bool (decide (a > b)))
  | .geq, _, a, b => some (.bool (decide (a ≥ b)))
  | .and, k, a, b => some (.int k (bits .and k a b))
  | .or, k, a, b => some (.int k (bits .or k a b))
  | .xor, k, a, b => some (.int k (bits .xor k a b))
  | .andNot, k, a, b => some (.int k (bits .andNot k a b))
  | _, _, _, _ => none
theorem ov_int {op : BinOp} {xt yt : TypeId} {x y : Operand} {k : IntKind} {p q : Int} {v : Value} (ho : o.op = .binOp op xt x y yt) (hx : ev S x = some (.int k p)) (hy : ev S y = some (.int k q)) (hv : intRes op k p q = some v) : OpV P o n m S v := fun w a _ hs => by
  unfold execOp
  simp only [ho, hs.ev hx, hs.ev hy]
  cases op <;> simp only [intRes, Option.some.injEq, reduceCtorEq] at hv <;> subst hv <;>
    simp [eqGuard, binOp, Op.intArith, Op.intCmp, Op.intBits, bits]
theorem ov_not {xt : TypeId} {x : Operand} {b : Bool} (ho : o.op = .unOp .not xt x) (hx : ev S x = some (.bool b)) : OpV P o n m S (.bool (!b)) := fun w a _ hs => by
  unfold execOp
  simp only [ho, hs.ev hx]
  simp [Op.unary]
def strRes : BinOp → List UInt8 → List UInt8 → Option Value
  | .eql, p, q => some (.bool (p == q))
  | .neq, p, q => some (.bool (!(p == q)))
  | .lss, p, q => some (.bool (Op.bytesLess p q))
  | .leq, p, q => some (.bool (Op.bytesLess p q || p == q))
  | .gtr, p, q => some (.bool (!(Op.bytesLess p q || p == q)))
  | .geq, p, q => some (.bool (!Op.bytesLess p q))
  | _, _, _ => none
theorem ov_strCmp {op : BinOp} {xt yt : TypeId} {x y : Operand} {p q : List UInt8} {v : Value} (ho : o.op = .binOp op xt x y yt) (hx : ev S x = some (str p)) (hy : ev S y = some (str q)) (hv : strRes op p q = some v) : OpV P o n m S v := fun w a _ hs => by
  unfold execOp
  simp only [ho, hs.ev hx, hs.ev hy]
  cases op <;> simp only [strRes, Option.some.injEq, reduceCtorEq] at hv <;> subst hv <;>
    simp [eqGuard, binOp, str, Op.stringOp]
end
end Go.Proofs.Ythdifoidlpiikaa.En
namespace Go.Proofs.Ythdifoidlpiikaa.En
open Go.RowKit
set_option linter.unusedVariables false
set_option linter.unusedSimpArgs false
def ag (cs : List Value) : Value := .agg cs.toArray
def ptr (g o : Nat) : Value := .pointer (some ⟨g, o, none⟩)
def szOf (P : Program) (t : TypeId) : Option Nat := (P.info? t).map (·.size)
def zeroOf (P : Program) (t : TypeId) : Option Value := (P.info? t).bind (·.zero)
def isAggD : TypeDesc → Bool
  | .struct _ | .array _ _ => true
  | _ => false
section
variable {P : Program}
theorem run_sizeOf' {t : TypeId} {k : Nat} (h : szOf P t = some k) (w : World) : (sizeOf t).run P w = .ok k w := by
  unfold szOf at h
  cases hq : P.info? t with
  | none => simp [hq] at h
  | some i => have hs : i.size = k := by simpa [hq] using h
              simp [sizeOf, typeInfo, hq, hs]
theorem run_zeroValue' {t : TypeId} {z : Value} (h : zeroOf P t = some z) (w : World) : (zeroValue t).run P w = .ok z w := by
  unfold zeroOf at h
  cases hq : P.info? t with
  | none => simp [hq] at h
  | some i => have hs : i.zero = some z := by simpa [hq] using h
              simp [zeroValue, typeInfo, hq, hs]
theorem run_isAgg' {t : TypeId} {d : TypeDesc} (h : P.underlying t = some d) (w : World) : (isAgg t).run P w = .ok (isAggD d) w := by
  unfold isAgg
  rw [Sem.run_bind, run_underlying h w]
  cases d <;> rfl
def mk (d : TypeDesc) (cs : List Value) : Value := if isAggD d then ag cs else cs.headD undef
theorem run_loadVar' {t : TypeId} {d : TypeDesc} {k : Nat} (hu : P.underlying t = some d) (hs : szOf P t = some k) (w : World) (ad : Addr) (cs : List Value) (hl : cs.length = k) (h1 : isAggD d = false → k = 1)
    (hc : ∀ j u, cs[j]? = some u → w.cell? (ad.add j) = some u) : (loadVar t ad).run P w = .ok (mk d cs) w := by
  unfold loadVar mk
  rw [Sem.run_bind, run_isAgg' hu w, Result.andThen_ok]
  cases hd : isAggD d with
  | true =>
    have h2 := run_loadCells_list (P := P) w ad cs hc
    rw [hl] at h2
    simp [Sem.run_bind, run_sizeOf' hs w, h2, ag]
  | false =>
    have hk := h1 hd
    subst hk
    obtain ⟨u, rfl⟩ : ∃ u, cs = [u] := by
      match cs, hl with
      | [u], _ => exact ⟨u, rfl⟩
    have h0 := hc 0 u rfl
    rw [show ad.add 0 = ad from rfl] at h0
    simp [load, Sem.run, h0]
theorem run_storeVar' {t : TypeId} {k : Nat} (hs : szOf P t = some k) (w : World) (g off : Nat) (v : Value) (et : TypeId) (old vs : List Value) (hv : v.cells.toList = vs) (hl : vs.length = k) (hg : w.heap[g]? = some (.cells old.toArray et (0, 0)))
    (hfit : off + k ≤ old.length) (h1 : ∀ u ∈ vs, u.oneCell' = true) :
    (storeVar t ⟨g, off, none⟩ v).run P w = .ok () (w.setRow g (old.take off ++ vs ++ old.drop (off + k)).toArray) := by
  have h2 := run_storeCells_at (P := P) g off et vs 0 old.toArray w hg (by simp; omega) h1
  simp only [Nat.add_zero, List.size_toArray, hl] at h2
  have h3 : v.cells.size = k := by rw [← Array.length_toList, hv, hl]
  unfold storeVar
  simp [Sem.run_bind, run_sizeOf' hs w, h3, hv, h2]
theorem run_fieldPlace' {f : Field} {k : Nat} (h : szOf P f.type = some k) (hk : Nat.beq k 0 = false) (w : World) (ad : Addr) : (fieldPlace ad f).run P w = .ok (ad.add f.offset) w := by
  have hk' := Nat.ne_of_beq_eq_false hk
  unfold fieldPlace
  simp [Sem.run_bind, run_sizeOf' h w, hk']
end
section
variable {P : Program} {Q : Exit → Act → World → Prop} {n : Nat} {m : Mem} {S : Sl} {ops : Array Oper} {rest : List Oper} {o : Oper}
theorem step_val {v : Value} {w w' : World} {a : Act} {K : Act → World → Prop} (hr : (execOp a.eval o).run P w = .ok (.value v) w') (h : K (a.put o.dst v) w') : o.wp P a w K Q := by
  unfold Oper.wp; rw [hr, Oper.upon_value]; exact h
theorem step_skip {w w' : World} {a : Act} {K : Act → World → Prop} (hr : (execOp a.eval o).run P w = .ok .skip w') (h : K (a.put o.dst undef) w') : o.wp P a w K Q := by
  unfold Oper.wp; rw [hr, Oper.upon_skip]; exact h
theorem box_push {w : World} (hm : Holds m w) (t : TypeId) (cs : List Value) : Holds (m.push (oBox w.heap.size t cs)) (w.alloc (.cells cs.toArray t)) :=
  hm.push ((Below.refl _ _).alloc (Nat.le_refl _) _) (by simp [oBox]) (by simp [oBox]) (fun Z _ => heap_alloc_new w _)
theorem al_alloc {d : Nat} {t : TypeId} {z : Value} {zs : List Value} (hz : zeroOf P t = some z) (hzs : z.cells = zs.toArray) (ho : o.op = .alloc t)
    (h : ∀ g, AL P ops rest Q n (m.push (oBox g t zs)) (put S d (ptr g 0))) (hdd : o.dst = some d := by rfl) (hd : Nat.blt d n = true := by rfl) (hg : wantS ops S o true = true := by rfl) : AL P ops (o :: rest) Q n m S :=
  al_step hg fun w a hm hs K hK => by
    refine step_val (v := ptr w.heap.size 0) (w' := w.alloc (.cells zs.toArray t)) ?_ (hK _ _ (h _ _ _ (box_push hm t zs) (hs.put' hdd hd _)))
    unfold execOp
    simp only [ho]
    simp [Instr.alloc, Sem.run_bind, run_zeroValue' hz w, newVar, newRow, newObj, hzs, ptr]
    rfl
def CV (m : Mem) (v : Value) (vs : List Value) : Prop := ∀ {w : World}, Holds m w → v.cells = vs.toArray
def CO (m : Mem) (vs : List Value) : Prop := ∀ {w : World}, Holds m w → ∀ u ∈ vs, u.oneCell' = true
theorem cells_one {v : Value} (h : v.oneCell' = true) : v.cells = #[v] := by cases v <;> first | rfl | cases h
theorem list_one {α : Type} {τ : Ty α} {Z : Nat → Prop} {w : World} {v : Value} {xs : List α} (h : (tyList τ).rep Z w [v] xs) : v.oneCell' = true := (tyList τ).one h v (by simp)
theorem cv_rfl {v : Value} {vs : List Value} (h : v.cells = vs.toArray) : CV m v vs := fun _ => h
theorem cv_fz {α : Type} {τ : Ty α} {v : Value} {xs : List α} (i : Nat) (hi : m.fz[i]? = some (fDat (tyList τ) [v] xs)) : CV m v [v] := fun hm => cells_one (list_one (hm.fz _ (List.mem_of_getElem? hi)))
theorem co_nil : CO m [] := fun _ _ h => absurd h (by simp)
theorem co_cons {v : Value} {l : List Value} (h : ∀ {w : World}, Holds m w → v.oneCell' = true) (hl : CO m l) : CO m (v :: l) := fun hm u hu => by
  rcases List.mem_cons.1 hu with rfl | hu
  · exact h hm
  · exact hl hm u hu
theorem co_val {v : Value} {l : List Value} (h : v.oneCell' = true) (hl : CO m l) : CO m (v :: l) := co_cons (fun _ => h) hl
def BS (m : Mem) (sz : Nat) (vs cs : List Value) : Prop := ∀ {w : World}, Holds m w → (∀ v ∈ vs, v.cells.size = sz) ∧ vs.flatMap (fun v => v.cells.toList) = cs
theorem bs_nil {sz : Nat} : BS m sz [] [] := fun _ => ⟨fun _ h => absurd h (by simp), rfl⟩
theorem bs_cons {sz : Nat} {v : Value} {l vs cs : List Value} (h : CV m v l) (hl : l.length = sz) (hr : BS m sz vs cs) : BS m sz (v :: vs) (l ++ cs) := fun hm => by
  obtain ⟨h1, h2⟩ := hr hm
  refine ⟨fun u hu => ?_, ?_⟩
  · rcases List.mem_cons.1 hu with rfl | hu
    · rw [h hm]; simpa using hl
    · exact h1 u hu
  · rw [List.flatMap_cons, h2, h hm]
theorem al_box {d : Nat} {t : TypeId} {x : Operand} {v : Value} {vs : List Value} (hx : ev S x = some v) (hv : CV m v vs) (ho : o.op = .box t x)
    (h : ∀ g, AL P ops rest Q n (m.push (oBox g t vs)) (put S d (ptr g 0))) (hdd : o.dst = some d := by rfl) (hd : Nat.blt d n = true := by rfl) (hg : wantS ops S o true = true := by rfl) : AL P ops (o :: rest) Q n m S :=
  al_step hg fun w a hm hs K hK => by
    refine step_val (v := ptr w.heap.size 0) (w' := w.alloc (.cells vs.toArray t)) ?_ (hK _ _ (h _ _ _ (box_push hm t vs) (hs.put' hdd hd _)))
    unfold execOp
    simp only [ho, hs.ev hx]
    simp [Instr.box, Sem.run_bind, newVar, newRow, newObj, hv hm, ptr]
    rfl
theorem box_at {w : World} (hm : Holds m w) {i g : Nat} {t : TypeId} {cs : List Value} (hi : m.own[i]? = some (oBox g t cs)) : w.heap[g]? = some (.cells cs.toArray t (0, 0)) := hm.own _ (List.mem_of_getElem? hi)
theorem box_cell {w : World} (hm : Holds m w) {i g : Nat} {t : TypeId} {cs : List Value} (hi : m.own[i]? = some (oBox g t cs)) (off j : Nat) : w.cell? ((⟨g, off, none⟩ : Addr).add j) = cs[off + j]? := by
  rw [add_plain, cell_of_row _ _ _ _ _ _ (box_at hm hi)]; simp
theorem ov_load {t : TypeId} {d : TypeDesc} {x : Operand} {i g off k : Nat} {et : TypeId} {cs : List Value} {v : Value} (hi : m.own[i]? = some (oBox g et cs)) (hx : ev S x = some (ptr g off)) (hu : P.underlying t = some d) (hsz : szOf P t = some k)
    (h1 : (isAggD d || Nat.beq k 1) = true) (hl : ((cs.drop off).take k).length = k) (hv : mk d ((cs.drop off).take k) = v) (ho : o.op = .load t x) : OpV P o n m S v := fun w a hm hs => by
  have hr := run_loadVar' hu hsz w ⟨g, off, none⟩ ((cs.drop off).take k) hl (fun hd => by rw [hd] at h1; exact Nat.eq_of_beq_eq_true (by simpa using h1)) (fun j u hj => by
    rw [box_cell hm hi]
    rw [List.getElem?_take] at hj
    split at hj
    · rw [List.getElem?_drop] at hj; exact hj
    · cases hj)
  unfold execOp
  simp only [ho, hs.ev hx]
  simp [Instr.loadAt, Instr.sureAddr, ptr, hr, hv]
theorem al_store {t : TypeId} {x y : Operand} {i g off k : Nat} {et : TypeId} {cs cs' vs : List Value} {v : Value} (hi : m.own[i]? = some (oBox g et cs)) (hx : ev S x = some (ptr g off)) (hy : ev S y = some v) (hsz : szOf P t = some k) (hv : CV m v vs) (hl : vs.length = k)
    (hone : CO m vs) (hfit : off + k ≤ cs.length) (hcs : cs.take off ++ vs ++ cs.drop (off + k) = cs') (ho : o.op = .store t x y)
    (h : AL P ops rest Q n (m.upd i (oBox g et cs')) S) (hdst : o.dst = none := by rfl) (hg : wantS ops S o true = true := by rfl) : AL P ops (o :: rest) Q n m S :=
  al_step hg fun w a hm hs K hK => by
    have hr := run_storeVar' hsz w g off v et cs vs (by rw [hv hm]) hl (box_at hm hi) hfit (hone hm)
    rw [hcs] at hr
    refine step_skip (w' := w.setRow g cs'.toArray) ?_ (hK _ _ (h _ _ (hm.upd hi ⟨rfl, rfl, rfl, by rw [size_setRow]; exact Nat.le_refl _, fun b _ hb => setRow_other w g b _ (by simpa [oBox] using hb)⟩ (by simp [oBox]) (fun b hb => .inl hb) (fun Z _ => setRow_heap w g cs.toArray cs'.toArray et (0, 0) (box_at hm hi))) (by rw [hdst]; exact hs)))
    unfold execOp
    simp only [ho, hs.ev hx, hs.ev hy]
    simp [Instr.storeAt, Instr.sureAddr, ptr, hr]
theorem ov_fieldAddr {t : TypeId} {x : Operand} {j g off k : Nat} {fs : Array Field} {f : Field} (hx : ev S x = some (ptr g off)) (hu : P.underlying t = some (.struct fs)) (hf : fs[j]? = some f) (hk : szOf P f.type = some k) (hk0 : Nat.beq k 0 = false) (ho : o.op = .fieldAddr t x j) : OpV P o n m S (ptr g (off + f.offset)) := fun w a hm hs => by
  unfold execOp
  simp only [ho, hs.ev hx]
  have h1 := run_fieldPlace' hk hk0 w ⟨g, off, none⟩
  rw [add_plain] at h1
  simp [Instr.fieldAt, Sem.run_bind, run_underlying hu, hf, Instr.sureAddr, ptr, h1]
theorem ov_build {t : TypeId} {parts : Array (Nat × Operand)} {cells : Array Value} {cs : List Value} (ho : o.op = .build t parts) (hb : ∀ w a, Holds m w → Sat n S a → P.built t ((parts.map fun (i, x) => (i, a.eval x)).toList) = some cs.toArray) : OpV P o n m S (ag cs) := fun w a hm hs => by
  unfold execOp
  simp only [ho]
  have := run_build (P := P) w t (parts.map fun (i, x) => (i, a.eval x)) cs.toArray (hb w a hm hs)
  simp [this, ag]
end
def Sub {α β : Type} (t : Ty α) (off : Nat) (u : Ty β) (p : α → β) : Prop := ∀ {Z w cs x}, t.rep Z w cs x → u.rep Z w ((cs.drop off).take u.size) (p x)
theorem Sub.whole {α : Type} (t : Ty α) : Sub t 0 t (fun x => x) := fun h => by
  rw [List.drop_zero, List.take_of_length_le (by rw [t.len h]; exact Nat.le_refl _)]; exact h
theorem Sub.fst {α β γ : Type} {a : Ty α} {b : Ty β} {u : Ty γ} {off : Nat} {p : α → γ} (h : Sub a off u p) : Sub (tyPair a b) off u (fun x => p x.1) := fun hr => by
  obtain ⟨c1, c2, rfl, h1, h2⟩ := hr
  have h3 := h h1
  have hl := u.len h3
  rw [List.length_take, List.length_drop] at hl
  by_cases hu : u.size = 0
  · rw [hu, List.take_zero] at h3 ⊢; exact h3
  · rw [List.drop_append_of_le_length (by omega), List.take_append_of_le_length (by rw [List.length_drop]; omega)]; exact h3
theorem Sub.via {α β γ : Type} {f : α → β} {b : Ty β} {u : Ty γ} {off : Nat} {p : β → γ} (h : Sub b off u p) : Sub (tyVia f b) off u (fun x => p (f x)) := fun hr => h hr
def at? {α : Type} (xs : List α) (i : Int) : Option α := if 0 ≤ i then xs[i.toNat]? else none
theorem at_some {α : Type} {xs : List α} {i : Int} {x : α} (h : at? xs i = some x) : 0 ≤ i ∧ i < xs.length ∧ xs[i.toNat]? = some x := by
  unfold at? at h
  split at h
  · rename_i h0
    have := (List.getElem?_eq_some_iff.1 h).1
    exact ⟨h0, by omega, h⟩
  · cases h
section
variable {P : Program} {Q : Exit → Act → World → Prop} {n : Nat} {m : Mem} {S : Sl} {ops : Array Oper} {rest : List Oper} {o : Oper} {α β : Type}
theorem fz_at {w : World} (hm : Holds m w) {i : Nat} {f : Fact} (hi : m.fz[i]? = some f) : f.p (m.frz w) w := hm.fz f (List.mem_of_getElem? hi)
theorem own_at {w : World} (hm : Holds m w) {i : Nat} {f : Own} (hi : m.own[i]? = some f) : f.p (m.frz w) w := hm.own f (List.mem_of_getElem? hi)
theorem ov_lenD {τ : Ty α} {v : Value} {xs : List α} (i : Nat) {t e : TypeId} {x : Operand} (hi : m.fz[i]? = some (fDat (tyList τ) [v] xs)) (hx : ev S x = some v) (ht : P.underlying t = some (.slice e)) (ho : o.op = .call { callee := .builtin .len, args := #[x], argTypes := #[t] }) : OpV P o n m S (.int .i64 xs.length) := fun w a hm hs => by
  obtain ⟨A, k, c, he, hk, _⟩ := fz_at hm hi
  have he' : v = .slice A k c := by simpa using he
  unfold execOp
  simp [ho, resolve, invoke, builtin, hs.ev hx, he', hk, Builtin.len_, run_underlying ht, goInt]
theorem ov_lenR {τ : Ty α} {v : Value} {xs : List α} (i : Nat) {t e et : TypeId} {x : Operand} (hi : m.own[i]? = some (oRow v et τ xs)) (hx : ev S x = some v) (ht : P.underlying t = some (.slice e)) (ho : o.op = .call { callee := .builtin .len, args := #[x], argTypes := #[t] }) : OpV P o n m S (.int .i64 xs.length) := fun w a hm hs => by
  obtain ⟨cs, h1, h2⟩ := own_at hm hi
  have he' : ∃ A c, v = .slice A xs.length c := by
    rcases h1.2 with ⟨rfl, hn⟩ | ⟨g, cap, cur, rfl, _⟩
    · exact ⟨none, 0, by rw [hn]⟩
    · exact ⟨_, _, rfl⟩
  obtain ⟨A, c, rfl⟩ := he'
  unfold execOp
  simp [ho, resolve, invoke, builtin, hs.ev hx, Builtin.len_, run_underlying ht, goInt]
theorem ov_lenN {t e : TypeId} {x : Operand} {A : Option Addr} {k c : Nat} (hx : ev S x = some (.slice A k c)) (ht : P.underlying t = some (.slice e)) (ho : o.op = .call { callee := .builtin .len, args := #[x], argTypes := #[t] }) : OpV P o n m S (.int .i64 k) := fun w a hm hs => by
  unfold execOp
  simp [ho, resolve, invoke, builtin, hs.ev hx, Builtin.len_, run_underlying ht, goInt]
theorem of_idxD {τ : Ty α} {v : Value} {xs : List α} (i : Nat) {t e : TypeId} {x y : Operand} {k : IntKind} {j : Int} {u : α} (hu : at? xs j = some u) (hi : m.fz[i]? = some (fDat (tyList τ) [v] xs)) (hx : ev S x = some v) (hy : ev S y = some (.int k j)) (ht : P.underlying t = some (.slice e)) (hsz : szOf P e = some τ.size) (ho : o.op = .indexAddr t x y) : OpF P o n m S (fun p => fPtr τ p u) := fun w a hm hs => by
    obtain ⟨A, l, c, he, hl, _, _, hr⟩ := fz_at hm hi
    have he' : v = .slice A l c := by simpa using he
    obtain ⟨h0, h1, h2⟩ := at_some hu
    rcases hr with hr | ⟨ad, cs, rfl, hca, hrep⟩
    · omega
    refine ⟨.pointer (some (ad.add (j.toNat * τ.size))), ?_, _, _, rfl, (hca.drop (j.toNat * τ.size)).take τ.size, hrep.at h2⟩
    unfold execOp
    simp only [ho, hs.ev hx, hs.ev hy]
    simp [Instr.indexAt, asIntOf, Sem.run_bind, run_underlying ht, he', h0, hl, h1, run_sizeOf' hsz]
theorem al_idxD {d : Nat} {τ : Ty α} {v : Value} {xs : List α} (i : Nat) {t e : TypeId} {x y : Operand} {k : IntKind} {j : Int} {u : α} (hu : at? xs j = some u) (hi : m.fz[i]? = some (fDat (tyList τ) [v] xs)) (hx : ev S x = some v) (hy : ev S y = some (.int k j)) (ht : P.underlying t = some (.slice e)) (hsz : szOf P e = some τ.size) (ho : o.op = .indexAddr t x y)
    (h : ∀ p, AL P ops rest Q n (m.add (fPtr τ p u)) (put S d p)) (hdd : o.dst = some d := by rfl) (hd : Nat.blt d n = true := by rfl) (hg : wantS ops S o true = true := by rfl) : AL P ops (o :: rest) Q n m S :=
  al_fact (R := fun p => fPtr τ p u) (of_idxD i hu hi hx hy ht hsz ho) h hdd hd hg
theorem of_fieldD {τ : Ty α} {υ : Ty β} {v : Value} {x : α} {pr : α → β} (i : Nat) {t : TypeId} {y : Operand} {j : Nat} {fs : Array Field} {f : Field} (hi : m.fz[i]? = some (fPtr τ v x)) (hsub : Sub τ f.offset υ pr) (hx : ev S y = some v) (hu : P.underlying t = some (.struct fs)) (hf : fs[j]? = some f) (hk : szOf P f.type = some υ.size) (hk0 : Nat.beq υ.size 0 = false) (ho : o.op = .fieldAddr t y j) : OpF P o n m S (fun p => fPtr υ p (pr x)) := fun w a hm hs => by
    obtain ⟨ad, cs, rfl, hca, hrep⟩ := fz_at hm hi
    refine ⟨.pointer (some (ad.add f.offset)), ?_, _, _, rfl, (hca.drop f.offset).take υ.size, hsub hrep⟩
    unfold execOp
    simp only [ho, hs.ev hx]
    simp [Instr.fieldAt, Sem.run_bind, run_underlying hu, hf, Instr.sureAddr, run_fieldPlace' hk hk0]
theorem ov_loadP {τ : Ty α} {v u : Value} {x : α} {ds : List Value} (i : Nat) {t : TypeId} {d : TypeDesc} {y : Operand} (hi : m.fz[i]? = some (fPtr τ v x)) (hds : ∀ {Z w cs}, τ.rep Z w cs x → cs = ds) (hx : ev S y = some v) (hu : P.underlying t = some d) (hsz : szOf P t = some τ.size) (h1 : (isAggD d || Nat.beq τ.size 1) = true) (hv : mk d ds = u) (ho : o.op = .load t y) : OpV P o n m S u := fun w a hm hs => by
  obtain ⟨ad, cs, rfl, hca, hrep⟩ := fz_at hm hi
  have hr := run_loadVar' hu hsz w ad cs (τ.len hrep) (fun hd => by rw [hd] at h1; exact Nat.eq_of_beq_eq_true (by simpa using h1)) hca.2
  rw [hds hrep, hv] at hr
  unfold execOp
  simp only [ho, hs.ev hx]
  simp [Instr.loadAt, Instr.sureAddr, hr]
theorem of_loadP1 {τ : Ty α} {v : Value} {x : α} (i : Nat) {t : TypeId} {d : TypeDesc} {y : Operand} (hi : m.fz[i]? = some (fPtr τ v x)) (hx : ev S y = some v) (hu : P.underlying t = some d) (hsz : szOf P t = some τ.size) (h1 : τ.size = 1) (h2 : isAggD d = false) (ho : o.op = .load t y) : OpF P o n m S (fun u => fDat τ [u] x) := fun w a hm hs => by
    obtain ⟨ad, cs, rfl, hca, hrep⟩ := fz_at hm hi
    have hr := run_loadVar' hu hsz w ad cs (τ.len hrep) (fun _ => h1) hca.2
    have hl := τ.len hrep
    rw [h1] at hl
    obtain ⟨u, rfl⟩ : ∃ u, cs = [u] := by
      match cs, hl with
      | [u], _ => exact ⟨u, rfl⟩
    refine ⟨u, ?_, hrep⟩
    unfold execOp
    simp only [ho, hs.ev hx]
    simp [Instr.loadAt, Instr.sureAddr, hr, mk, h2]
theorem al_loadP1 {ds : Nat} {τ : Ty α} {v : Value} {x : α} (i : Nat) {t : TypeId} {d : TypeDesc} {y : Operand} (hi : m.fz[i]? = some (fPtr τ v x)) (hx : ev S y = some v) (hu : P.underlying t = some d) (hsz : szOf P t = some τ.size) (h1 : τ.size = 1) (h2 : isAggD d = false) (ho : o.op = .load t y)
    (h : ∀ u, AL P ops rest Q n (m.add (fDat τ [u] x)) (put S ds u)) (hdd : o.dst = some ds := by rfl) (hd : Nat.blt ds n = true := by rfl) (hg : wantS ops S o true = true := by rfl) : AL P ops (o :: rest) Q n m S :=
  al_fact (R := fun u => fDat τ [u] x) (of_loadP1 i hi hx hu hsz h1 h2 ho) h hdd hd hg
theorem slice_dat {Z : Nat → Prop} {w : World} {τ : Ty α} {A : Option Addr} {len c l h : Nat} {xs : List α} (hrep : (tyList τ).rep Z w [.slice A len c] xs) (h1 : l ≤ h) (h2 : h ≤ len) :
    (tyList τ).rep Z w [.slice (if c = l then A else A.map (·.add (l * τ.size))) (h - l) (c - l)] ((xs.take h).drop l) := by
  obtain ⟨A', n', c', he, hn, hc, hm, hr⟩ := hrep
  simp only [List.cons.injEq, Value.slice.injEq, and_true] at he
  obtain ⟨rfl, rfl, rfl⟩ := he
  refine ⟨_, _, _, rfl, by rw [List.length_drop, List.length_take]; omega, by omega, by omega, ?_⟩
  by_cases hz : h - l = 0
  · exact .inl hz
  right
  rcases hr with hr | ⟨ad, cs, rfl, hca, hrl⟩
  · omega
  rw [if_neg (by omega)]
  refine ⟨ad.add (l * τ.size), (cs.take (h * τ.size)).drop (l * τ.size), rfl, (hca.take _).drop _, ?_⟩
  exact (hrl.take h).drop l
end
end Go.Proofs.Ythdifoidlpiikaa.En
namespace Go.Proofs.Ythdifoidlpiikaa.En
open Go.RowKit
set_option linter.unusedVariables false
set_option linter.unusedSimpArgs false
def tyOf (P : Program) (e : TypeId) : Option (Nat × Nat × Option Value) := (P.info? e).map fun i => (i.size, i.bytes, i.zero)
theorem tyOf_parts {P : Program} {e : TypeId} {sz by_ : Nat} {z : Value} (h : tyOf P e = some (sz, by_, some z)) : ∃ i, P.info? e = some i ∧ i.zero = some z ∧ i.size = sz ∧ i.bytes = by_ := by
  unfold tyOf at h
  cases hq : P.info? e with
  | none => rw [hq] at h; cases h
  | some i => rw [hq] at h; simp at h; exact ⟨i, rfl, h.2.2, h.1, h.2.1⟩
theorem own_len {w : World} {base : Nat} {e : TypeId} {sz n : Nat} {v : Value} {xs : List Value} (h : w.ownsRow base e sz v n xs) : ∃ A c, v = .slice A n c ∧ n ≤ c ∧ n ≤ maxLen := by
  rcases h.2 with ⟨rfl, rfl⟩ | ⟨g, cap, cur, rfl, _, _, h1, h2, _⟩
  · exact ⟨none, 0, rfl, Nat.le_refl _, Nat.zero_le _⟩
  · exact ⟨_, _, rfl, h1, Nat.le_trans h1 h2⟩
theorem ownBlock_nodup (v : Value) : v.ownBlock.toList.Nodup := by cases v.ownBlock <;> simp
def EltOf (v p : Value) (k : Nat) : Prop := ∃ g l c, v = .slice (some ⟨g, 0, none⟩) l c ∧ p = .pointer (some ⟨g, k, none⟩)
section
variable {P : Program} {Q : Exit → Act → World → Prop} {n : Nat} {m : Mem} {S : Sl} {ops : Array Oper} {rest : List Oper} {o : Oper} {α β : Type}
theorem row_dat {Z Z' : Nat → Prop} {w : World} {v : Value} {e : TypeId} {τ : Ty α} {xs : List α} (h : (oRow v e τ xs).p Z w) (hz : ∀ b, Z b → Z' b) (hb : ∀ b ∈ (oRow v e τ xs).blk, Z' b) : (fDat (tyList τ) [v] xs).p Z' w := by
  obtain ⟨cs, h1, h2⟩ := h
  obtain ⟨A, c, rfl, hc, hm⟩ := own_len h1
  refine ⟨A, _, c, rfl, rfl, hc, hm, ?_⟩
  rcases h1.2 with ⟨he, hn⟩ | ⟨g, cap, cur, he, _⟩
  · exact .inl hn
  · right
    cases he
    exact ⟨_, cs, rfl, ⟨hb g (by simp [oRow, Value.ownBlock]), h1.cells rfl⟩, h2.mono hz⟩
theorem nil_own (e : TypeId) (τ : Ty α) (Z : Nat → Prop) (w : World) : (oRow (.slice none 0 0) e τ ([] : List α)).p Z w := ⟨[], World.ownsRow_nil w 0 e τ.size, rfl⟩
theorem aw_nilR {c : Code} (e : TypeId) (τ : Ty α) (h : AW P c Q n (m.push (oRow (.slice none 0 0) e τ ([] : List α))) S) : AW P c Q n m S := fun w a hm hs =>
  h w a (hm.push (w' := w) (Below.refl _ _) (by simp [oRow, Value.ownBlock]) (by simp [oRow, Value.ownBlock]) (fun Z _ => nil_own e τ Z w)) hs
theorem repl_rep {τ : Ty α} {z : Value} {x : α} (hz : ∀ Z w, τ.rep Z w z.cells.toList x) (Z : Nat → Prop) (w : World) : ∀ k : Nat, RepL τ Z w (madeCells z.cells (k * τ.size)).toList (List.replicate k x)
  | 0 => by simp [madeCells, RepL]
  | k + 1 => by
    have hl : z.cells.toList.length = τ.size := τ.len (hz Z w)
    refine ⟨z.cells.toList, (madeCells z.cells (k * τ.size)).toList, ?_, hz Z w, repl_rep hz Z w k⟩
    have hsz : z.cells.size = τ.size := by rw [← Array.length_toList]; exact hl
    apply List.ext_getElem?
    intro j
    rw [List.getElem?_append, hl]
    unfold madeCells
    by_cases hj : j < τ.size
    · rw [if_pos hj]
      have hj2 : j < (k + 1) * τ.size := by rw [Nat.succ_mul]; omega
      simp [hj2, hsz, Nat.mod_eq_of_lt hj, Array.getElem?_eq_getElem, hj]
    · rw [if_neg hj]
      by_cases hj2 : j < (k + 1) * τ.size
      · have hj3 : j - τ.size < k * τ.size := by rw [Nat.succ_mul] at hj2; omega
        have hmod : (j - τ.size) % τ.size = j % τ.size := by
          conv => rhs; rw [show j = (j - τ.size) + τ.size from by omega, Nat.add_mod_right]
        simp [hj2, hj3, hsz, hmod]
      · have hj3 : ¬ j - τ.size < k * τ.size := by rw [Nat.succ_mul] at hj2; omega
        simp [hj2, hj3]
theorem al_buildSlice {d : Nat} {τ : Ty α} {t e : TypeId} {k sz : Nat} {by_ : Nat} {z : Value} {parts : Array (Nat × Operand)} {cs : List Value} {xs : List α} (hxs : xs.length = k) (hk : k ≤ 4096) (hb : ∀ w a, Holds m w → Sat n S a → ∃ cells : Array Value, cells.toList = cs ∧ (Instr.buildSlice t k (parts.map fun (i, x) => (i, a.eval x))).run P w = .ok (.slice (some ⟨w.heap.size, 0, none⟩) k k) (w.alloc (.cells cells e)))
    (hrep : ∀ {w : World}, Holds m w → RepL τ (m.frz w) w cs xs) (ho : o.op = .buildSlice t k parts)
    (h : ∀ v, AL P ops rest Q n (m.push (oRow v e τ xs)) (put S d v)) (hdd : o.dst = some d := by rfl) (hd : Nat.blt d n = true := by rfl) (hg : wantS ops S o true = true := by rfl) : AL P ops (o :: rest) Q n m S :=
  al_step hg fun w a hm hs K hK => by
    obtain ⟨cells, hc, hr⟩ := hb w a hm hs
    have hrp := hrep hm
    have hlen := hrp.len
    refine step_val (w' := w.alloc (.cells cells e)) (v := .slice (some ⟨w.heap.size, 0, none⟩) k k) (by unfold execOp; simp only [ho]; simp [hr]) ?_
    have hbel : Below w.heap.size w (w.alloc (.cells cells e)) := (Below.refl _ _).alloc (Nat.le_refl _) _
    refine hK _ _ (h _ _ _ (hm.push hbel (ownBlock_nodup _) (by simp [oRow, Value.ownBlock]) (fun Z hZ => ?_)) (hs.put' hdd hd _))
    have hcl : cells.size = k * τ.size := by rw [← Array.length_toList, hc, hlen, hxs]
    refine ⟨cs, ⟨by rw [hlen], .inr ⟨w.heap.size, k, cells, by rw [hxs], Nat.zero_le _, heap_alloc_new w _, by omega, by unfold maxLen; omega, hcl, by rw [hc, List.take_of_length_le (by rw [hlen]; exact Nat.le_refl _)]⟩⟩, ?_⟩
    exact (hrp.keep (fun b hb' => hbel.block b hb'.1)).mono hZ
def Src (m : Mem) (i : Nat) (u : Value) (τ : Ty α) (ys : List α) : Prop := ∀ {w : World}, Holds m w → ∃ A l c cs, u = .slice A l c ∧ l = ys.length ∧ RepL τ (m.frz w) w cs ys ∧ (l = 0 ∨ ∃ ad, A = some ad ∧ ∀ j x, cs[j]? = some x → w.cell? (ad.add j) = some x)
theorem src_own {i : Nat} (j : Nat) {u : Value} {e : TypeId} {τ : Ty α} {ys : List α} (hj : m.own[j]? = some (oRow u e τ ys)) : Src m i u τ ys := fun hm => by
  obtain ⟨cs, h1, h2⟩ := own_at hm hj
  obtain ⟨A, c, rfl, _, _⟩ := own_len h1
  refine ⟨A, _, c, cs, rfl, rfl, h2, ?_⟩
  rcases h1.2 with ⟨he, hn⟩ | ⟨g, cap, cur, he, _⟩
  · exact .inl hn
  · cases he; exact .inr ⟨_, rfl, h1.cells rfl⟩
theorem src_dat {i : Nat} (j : Nat) {u : Value} {τ : Ty α} {ys : List α} (hj : m.fz[j]? = some (fDat (tyList τ) [u] ys)) : Src m i u τ ys := fun hm => by
  obtain ⟨A, l, c, he, hl, _, _, hr⟩ := fz_at hm hj
  have he' : u = .slice A l c := by simpa using he
  rcases hr with hr | ⟨ad, cs, rfl, hca, hrl⟩
  · have hy : ys = [] := List.eq_nil_of_length_eq_zero (by omega)
    subst hy
    exact ⟨A, l, c, [], he', hl, rfl, .inl hr⟩
  · exact ⟨_, l, c, cs, he', hl, hrl, .inr ⟨ad, rfl, hca.2⟩⟩
theorem al_append {d : Nat} {τ : Ty α} {v u : Value} {xs ys : List α} (i : Nat) {t e : TypeId} {x y : Operand} {by_ : Nat} {z : Value} (hb : ((xs.length + ys.length) * by_ : Nat) ≤ 140737488355328) (hm : xs.length + ys.length ≤ 9223372036854775807)
    (hi : m.own[i]? = some (oRow v e τ xs)) (hsrc : Src m i u τ ys) (hx : ev S x = some v) (hy : ev S y = some u)
    (ht : P.underlying t = some (.slice e)) (hin : tyOf P e = some (τ.size, by_, some z)) (hzs : z.cells.size = τ.size) (hsz : Nat.blt 0 τ.size = true) (ho : o.op = .call { callee := .builtin .append, args := #[x, y], argTypes := #[t, t] })
    (h : ∀ v', AL P ops rest Q n (m.upd i (oRow v' e τ (xs ++ ys))) (put S d v')) (hdd : o.dst = some d := by rfl) (hd : Nat.blt d n = true := by rfl) (hg : wantS ops S o true = true := by rfl) : AL P ops (o :: rest) Q n m S :=
  al_step hg fun w a hmm hs K hK => by
    obtain ⟨inf, hi1, hi2, hi3, hi4⟩ := tyOf_parts hin
    have hsz' : 0 < τ.size := by simpa [Nat.blt_eq] using hsz
    obtain ⟨cs, h1, h2⟩ := own_at hmm hi
    obtain ⟨A, l, c, ds, rfl, hl, hrl, hsr⟩ := hsrc hmm
    have hdl := hrl.len
    rcases hsr with hsr | ⟨ad, rfl, hcells⟩
    · -- nothing is appended
      have hy0 : ys = [] := List.eq_nil_of_length_eq_zero (by omega)
      subst hy0
      have hr : (Builtin.append_ #[t, t] o.type #[v, .slice A l c]).run P w = .ok v w := by
        obtain ⟨A', c', rfl, hc', _⟩ := own_len h1
        subst hsr
        have hfc : (Builtin.firstCells τ.size 0 (.slice A 0 c)).run P w = .ok #[] w := by
          cases A with
          | none => simp [Builtin.firstCells]
          | some ad => simp [Builtin.firstCells, loadCells, loadCellsFrom]
        have hT : ((underlying t).run P w) = .ok (.slice e) w := run_underlying ht w
        cases A' with
        | none => simp [Builtin.append_, hT, run_underlying ht, Sem.run_bind, run_sizeOf' (show szOf P e = some τ.size by unfold szOf; rw [hi1]; simp [hi3]), Builtin.lenOf, hc', hfc]
        | some ad => simp [Builtin.append_, hT, run_underlying ht, Sem.run_bind, run_sizeOf' (show szOf P e = some τ.size by unfold szOf; rw [hi1]; simp [hi3]), Builtin.lenOf, hc', hfc, storeCells]
      refine step_val (w' := w) (v := v) (by unfold execOp; simp only [ho, resolve, invoke, builtin, Sem.run_bind, Sem.run_pure, Result.andThen_ok, List.map_toArray, List.map_cons, List.map_nil, hs.ev hx, hs.ev hy, hr]) ?_
      refine hK _ _ (h v _ _ ?_ (hs.put' hdd hd _))
      rw [List.append_nil]
      have hset : m.upd i (oRow v e τ xs) = m := by
        unfold Mem.upd
        have : m.own.set i (oRow v e τ xs) = m.own := by
          apply List.ext_getElem?; intro j
          rw [List.getElem?_set]
          split
          · rename_i e'; subst e'; rw [hi, if_pos (List.getElem?_eq_some_iff.1 hi).1]
          · rfl
        rw [this]
      rw [hset]; exact hmm
    · obtain ⟨v', w', hr, h3, h4, _, h5⟩ := run_append_own_at (P := P) w 0 t o.type e inf z τ.size by_ ht hi1 hi2 hi3 hi4 hzs hsz' v xs.length cs h1 ad l c ds (by rw [hdl, hl]) hcells hrl.one (by unfold maxLen; omega) (by rw [hl]; exact hb) (Nat.zero_le _)
      refine step_val (w' := w') (v := v') (by unfold execOp; simp only [ho, resolve, invoke, builtin, Sem.run_bind, Sem.run_pure, Result.andThen_ok, List.map_toArray, List.map_cons, List.map_nil, hs.ev hx, hs.ev hy, hr]) ?_
      refine hK _ _ (h v' _ _ (hmm.upd hi ⟨h4.os, h4.tape, h4.output, h4.size, fun b hb1 hb2 => h4.block b hb1 (fun e => hb2 (by simp [oRow, ← e]))⟩ (ownBlock_nodup _) (fun b hb' => ?_) (fun Z hZ => ?_)) (hs.put' hdd hd _))
      · have hb' : v'.ownBlock = some b := by simpa [oRow] using hb'
        rcases h5 with h5 | h5
        · exact .inl (by simp [oRow, ← h5, hb'])
        · rw [hb'] at h5; exact .inr (by have := Option.some.inj h5; omega)
      · have hag : Agr (m.frz w) w w' := fun b hb' => h4.block b hb'.1 (fun e => hb'.2.1 (List.mem_flatMap.2 ⟨_, List.mem_of_getElem? hi, by simp [oRow, ← e]⟩))
        refine ⟨cs ++ ds, by rw [List.length_append, ← hl]; exact h3, ?_⟩
        exact ((h2.keep hag).mono hZ).append ((hrl.keep hag).mono hZ)
theorem al_idxR {d : Nat} {τ : Ty α} {v : Value} {xs : List α} (i : Nat) {t e et : TypeId} {x y : Operand} {k : IntKind} {j : Int} (h0 : 0 ≤ j) (h1 : j < xs.length) (hi : m.own[i]? = some (oRow v et τ xs)) (hx : ev S x = some v) (hy : ev S y = some (.int k j)) (ht : P.underlying t = some (.slice e)) (hsz : szOf P e = some τ.size) (ho : o.op = .indexAddr t x y)
    (h : ∀ p, EltOf v p (j.toNat * τ.size) → AL P ops rest Q n m (put S d p)) (hdd : o.dst = some d := by rfl) (hd : Nat.blt d n = true := by rfl) (hg : wantS ops S o true = true := by rfl) : AL P ops (o :: rest) Q n m S :=
  al_step hg fun w a hm hs K hK => by
    obtain ⟨cs, hr1, hr2⟩ := own_at hm hi
    rcases hr1.2 with ⟨rfl, hn⟩ | ⟨g, cap, cur, rfl, r⟩
    · omega
    refine step_val (w' := w) (v := .pointer (some ⟨g, j.toNat * τ.size, none⟩)) ?_ (hK _ _ (h _ ⟨g, _, _, rfl, rfl⟩ w _ hm (hs.put' hdd hd _)))
    unfold execOp
    simp only [ho, hs.ev hx, hs.ev hy]
    simp [Instr.indexAt, asIntOf, Sem.run_bind, run_underlying ht, h0, h1, run_sizeOf' hsz, add_plain]
theorem row_cells {w : World} {v p : Value} {e : TypeId} {τ : Ty α} {xs : List α} {Z : Nat → Prop} {k : Nat} {x : α} (h : (oRow v e τ xs).p Z w) (hp : EltOf v p (k * τ.size)) (hx : xs[k]? = some x) :
    ∃ g l c cs cur, v = .slice (some ⟨g, 0, none⟩) l c ∧ p = .pointer (some ⟨g, k * τ.size, none⟩) ∧ w.heap[g]? = some (.cells cur e (0, 0)) ∧ RepL τ Z w cs xs ∧ cur.toList.take (xs.length * τ.size) = cs ∧ cur.size = c * τ.size ∧ l = xs.length ∧ l ≤ c ∧ c ≤ maxLen ∧
      τ.rep Z w ((cs.drop (k * τ.size)).take τ.size) x ∧ ∀ j u, ((cs.drop (k * τ.size)).take τ.size)[j]? = some u → w.cell? ((⟨g, k * τ.size, none⟩ : Addr).add j) = some u := by
  obtain ⟨cs, h1, h2⟩ := h
  obtain ⟨g, l, c, rfl, rfl⟩ := hp
  rcases h1.2 with ⟨he, hn⟩ | ⟨g', cap, cur, he, _, hg, hc, hcm, hsz, htk⟩
  · cases he
  · cases he
    refine ⟨g, _, c, cs, cur, rfl, rfl, hg, h2, htk, hsz, rfl, hc, hcm, h2.at hx, fun j u hu => ?_⟩
    rw [List.getElem?_take] at hu
    split at hu
    · rw [List.getElem?_drop] at hu
      have := h1.cells (g := g) rfl _ u hu
      rw [add_plain] at this ⊢
      rw [Nat.zero_add] at this
      exact this
    · cases hu
theorem ov_loadR {τ : Ty α} {v p u : Value} {xs : List α} {k : Nat} {x : α} {ds : List Value} (i : Nat) {t et : TypeId} {d : TypeDesc} {y : Operand} (hi : m.own[i]? = some (oRow v et τ xs)) (hp : EltOf v p (k * τ.size)) (hxk : xs[k]? = some x) (hds : ∀ {Z w cs}, τ.rep Z w cs x → cs = ds) (hx : ev S y = some p) (hu : P.underlying t = some d) (hsz : szOf P t = some τ.size) (h1 : (isAggD d || Nat.beq τ.size 1) = true) (hv : mk d ds = u) (ho : o.op = .load t y) : OpV P o n m S u := fun w a hm hs => by
  obtain ⟨g, l, c, cs, cur, rfl, rfl, _, _, _, _, _, _, _, hrep, hcells⟩ := row_cells (own_at hm hi) hp hxk
  have hr := run_loadVar' hu hsz w _ _ (τ.len hrep) (fun hd => by rw [hd] at h1; exact Nat.eq_of_beq_eq_true (by simpa using h1)) hcells
  rw [hds hrep, hv] at hr
  unfold execOp
  simp only [ho, hs.ev hx]
  simp [Instr.loadAt, Instr.sureAddr, hr]
theorem of_loadR1 {τ : Ty α} {v p : Value} {xs : List α} {k : Nat} {x : α} (i : Nat) {t et : TypeId} {d : TypeDesc} {y : Operand} (hi : m.own[i]? = some (oRow v et τ xs)) (hp : EltOf v p (k * τ.size)) (hxk : xs[k]? = some x) (hx : ev S y = some p) (hu : P.underlying t = some d) (hsz : szOf P t = some τ.size) (h1 : τ.size = 1) (h2 : isAggD d = false) (ho : o.op = .load t y) : OpF P o n m S (fun u => fDat τ [u] x) := fun w a hm hs => by
    obtain ⟨g, l, c, cs, cur, rfl, rfl, _, _, _, _, _, _, _, hrep, hcells⟩ := row_cells (own_at hm hi) hp hxk
    have hr := run_loadVar' hu hsz w _ _ (τ.len hrep) (fun _ => h1) hcells
    have hl : ((cs.drop (k * τ.size)).take τ.size).length = 1 := (τ.len hrep).trans h1
    obtain ⟨u, hue⟩ : ∃ u, ((cs.drop (k * τ.size)).take τ.size) = [u] := List.length_eq_one_iff.1 hl
    rw [hue] at hr hrep
    refine ⟨u, ?_, hrep⟩
    unfold execOp
    simp only [ho, hs.ev hx]
    simp [Instr.loadAt, Instr.sureAddr, hr, mk, h2]
theorem al_loadR1 {ds : Nat} {τ : Ty α} {v p : Value} {xs : List α} {k : Nat} {x : α} (i : Nat) {t et : TypeId} {d : TypeDesc} {y : Operand} (hi : m.own[i]? = some (oRow v et τ xs)) (hp : EltOf v p (k * τ.size)) (hxk : xs[k]? = some x) (hx : ev S y = some p) (hu : P.underlying t = some d) (hsz : szOf P t = some τ.size) (h1 : τ.size = 1) (h2 : isAggD d = false) (ho : o.op = .load t y)
    (h : ∀ u, AL P ops rest Q n (m.add (fDat τ [u] x)) (put S ds u)) (hdd : o.dst = some ds := by rfl) (hd : Nat.blt ds n = true := by rfl) (hg : wantS ops S o true = true := by rfl) : AL P ops (o :: rest) Q n m S :=
  al_fact (R := fun u => fDat τ [u] x) (of_loadR1 i hi hp hxk hx hu hsz h1 h2 ho) h hdd hd hg
theorem al_storeR {τ : Ty α} {v p : Value} {xs : List α} {k : Nat} {x : α} {vs : List Value} {val : Value} (i : Nat) {t et : TypeId} {x' y : Operand} (hi : m.own[i]? = some (oRow v et τ xs)) (hp : EltOf v p (k * τ.size)) (hk : k < xs.length) (hx : ev S x' = some p) (hy : ev S y = some val) (hv : CV m val vs) (hrep : ∀ {w}, Holds m w → τ.rep (m.frz w) w vs x) (hsz : szOf P t = some τ.size) (ho : o.op = .store t x' y)
    (h : AL P ops rest Q n (m.upd i (oRow v et τ (xs.set k x))) S) (hdst : o.dst = none := by rfl) (hg : wantS ops S o true = true := by rfl) : AL P ops (o :: rest) Q n m S :=
  al_step hg fun w a hm hs K hK => by
    obtain ⟨g, l, c, cs, cur, rfl, rfl, hgg, hRL, htk, hcs, hl, hlc, hcm, _, _⟩ := row_cells (own_at hm hi) hp (List.getElem?_eq_getElem hk)
    have hr0 := hrep hm
    have hvl := τ.len hr0
    have hkl : k * τ.size + τ.size ≤ xs.length * τ.size := by rw [← Nat.succ_mul]; exact Nat.mul_le_mul_right _ hk
    have hcl : xs.length * τ.size ≤ c * τ.size := Nat.mul_le_mul_right _ (by omega)
    have hgg' : w.heap[g]? = some (.cells cur.toList.toArray et (0, 0)) := by simpa using hgg
    have hr := run_storeVar' hsz w g (k * τ.size) val et cur.toList vs (by rw [hv hm]) hvl hgg' (by simp; omega) (τ.one hr0)
    refine step_skip (w' := w.setRow g (cur.toList.take (k * τ.size) ++ vs ++ cur.toList.drop (k * τ.size + τ.size)).toArray) (by
      unfold execOp
      simp only [ho, hs.ev hx, hs.ev hy]
      simp [Instr.storeAt, Instr.sureAddr, hr]) (hK _ _ (h _ _ (hm.upd hi ⟨rfl, rfl, rfl, by rw [size_setRow]; exact Nat.le_refl _, fun b _ hb => setRow_other w g b _ (by simpa [oRow, Value.ownBlock] using hb)⟩ (by simp [oRow, Value.ownBlock]) (fun b hb => .inl hb) (fun Z hZ => ?_)) (by rw [hdst]; exact hs)))
    have hag : Agr (m.frz w) w (w.setRow g (cur.toList.take (k * τ.size) ++ vs ++ cur.toList.drop (k * τ.size + τ.size)).toArray) := fun b hb => setRow_other w g b _ (fun e => hb.2.1 (List.mem_flatMap.2 ⟨_, List.mem_of_getElem? hi, by simp [oRow, Value.ownBlock, e]⟩))
    have hclen := hRL.len
    refine ⟨_, ⟨?_, .inr ⟨g, c, _, by rw [hl, List.length_set], Nat.zero_le _, setRow_heap w g cur _ et (0, 0) hgg, by rw [List.length_set]; omega, hcm, ?_, rfl⟩⟩, ?_⟩
    · simp [hvl]; omega
    · simp [hvl]; omega
    · rw [List.length_set]
      have e1 : (cur.toList.take (k * τ.size) ++ vs ++ cur.toList.drop (k * τ.size + τ.size)).toArray.toList.take (xs.length * τ.size) = cs.take (k * τ.size) ++ vs ++ cs.drop ((k + 1) * τ.size) := by
        rw [← htk, Nat.succ_mul]
        show (cur.toList.take (k * τ.size) ++ vs ++ cur.toList.drop (k * τ.size + τ.size)).take (xs.length * τ.size) = _
        rw [List.take_append, List.take_take, Nat.min_eq_left (by omega), List.drop_take, List.take_of_length_le (by simp [hvl]; omega)]
        congr 1
        simp [hvl]
        rw [show min (k * τ.size) cur.size = k * τ.size by omega]
      rw [e1]
      exact ((hRL.keep hag).mono hZ).set k (τ.mono hZ (τ.keep hag hr0)) hk
theorem al_cutR {d : Nat} {τ : Ty α} {v : Value} {xs : List α} (i : Nat) {t e et : TypeId} {x z : Operand} {kz : IntKind} {h : Int} (h0 : 0 ≤ h) (h2 : h ≤ xs.length) (hi : m.own[i]? = some (oRow v et τ xs)) (hx : ev S x = some v) (hz : ev S z = some (.int kz h)) (ht : P.underlying t = some (.slice e)) (hsz : szOf P e = some τ.size) (ho : o.op = .slice t x none (some z) none)
    (hh : ∀ u, AL P ops rest Q n (m.upd i (oRow u et τ (xs.take h.toNat))) (put S d u)) (hdd : o.dst = some d := by rfl) (hd : Nat.blt d n = true := by rfl) (hg : wantS ops S o true = true := by rfl) : AL P ops (o :: rest) Q n m S :=
  al_step hg fun w a hm hs K hK => by
    obtain ⟨cs, h1, h3⟩ := own_at hm hi
    obtain ⟨A, c, rfl, hc, hmx⟩ := own_len h1
    have hh1 : h ≤ (c : Int) := by omega
    have hh2 : h.toNat ≤ xs.length := by omega
    refine step_val (w' := w) (v := .slice A h.toNat c) (by
      unfold execOp
      simp only [ho, hs.ev hx, Option.map_some, Option.map_none, hs.ev hz]
      have e1 : (if c = 0 then A else Option.map (fun x => x.add 0) A) = A := by cases A <;> simp [Addr.add]
      simp [Instr.sliceAt, Instr.slice, Instr.sliceBounds, Instr.sliceBound, asIntOf, Sem.run_bind, run_underlying ht, h0, hh1, run_sizeOf' hsz, e1]) ?_
    refine hK _ _ (hh _ _ _ (hm.upd (w' := w) hi ⟨rfl, rfl, rfl, Nat.le_refl _, fun _ _ _ => rfl⟩ (ownBlock_nodup _) (fun b hb => .inl ?_) (fun Z hZ => ?_)) (hs.put' hdd hd _))
    · cases A with
      | none => simp [oRow, Value.ownBlock] at hb
      | some ad => simpa [oRow, Value.ownBlock] using hb
    · refine ⟨cs.take (h.toNat * τ.size), ⟨?_, ?_⟩, (h3.mono hZ).take _⟩
      · rw [List.length_take, List.length_take, h1.1, Nat.min_eq_left (Nat.mul_le_mul_right _ hh2), Nat.min_eq_left hh2]
      · rcases h1.2 with ⟨he, hn⟩ | ⟨g, cap, cur, he, hb, hgg, hcc, hcm, hcs, htk⟩
        · simp only [Value.slice.injEq] at he
          obtain ⟨rfl, hn', rfl⟩ := he
          have : h.toNat = 0 := by omega
          left; rw [this]; simp
        · simp only [Value.slice.injEq] at he
          obtain ⟨rfl, _, rfl⟩ := he
          refine .inr ⟨g, c, cur, by rw [List.length_take, Nat.min_eq_left hh2], hb, hgg, by rw [List.length_take]; omega, hcm, hcs, ?_⟩
          rw [List.length_take, Nat.min_eq_left hh2, ← htk, List.take_take, Nat.min_eq_left (Nat.mul_le_mul_right _ hh2)]
end
end Go.Proofs.Ythdifoidlpiikaa.En
namespace Go.Proofs.Ythdifoidlpiikaa.En
def req {β : Type} (c : Prop) [Decidable c] (k : Option β) : Option β := if c then k else none
def opt {α β : Type} (o : Option α) (k : α → Option β) : Option β := match o with | some x => k x | none => none
def lt {α : Type _} {β : Type} (a : α) (k : α → Option β) : Option β := k a
theorem req_some {β : Type} {c : Prop} [Decidable c] {k : Option β} {r : β} (h : req c k = some r) : c ∧ k = some r := by
  unfold req at h; split at h
  · rename_i hc; exact ⟨hc, h⟩
  · cases h
theorem opt_some {α β : Type} {o : Option α} {k : α → Option β} {r : β} (h : opt o k = some r) : ∃ x, o = some x ∧ k x = some r := by
  cases o with
  | none => cases h
  | some x => exact ⟨x, rfl, h⟩
theorem lt_some {α : Type _} {β : Type} {a : α} {k : α → Option β} {r : β} (h : lt a k = some r) : ∃ x, x = a ∧ k x = some r := ⟨a, rfl, h⟩
@[simp] theorem req_pos {β : Type} {c : Prop} [Decidable c] {k : Option β} (hc : c) : req c k = k := by unfold req; rw [if_pos hc]
@[simp] theorem opt_of {α β : Type} (x : α) (k : α → Option β) : opt (some x) k = k x := rfl
@[simp] theorem lt_of {α : Type _} {β : Type} (x : α) (k : α → Option β) : lt x k = k x := rfl
end Go.Proofs.Ythdifoidlpiikaa.En
namespace Go.Proofs.Ythdifoidlpiikaa.En
open Go.RowKit
set_option linter.unusedVariables false
set_option linter.unusedSimpArgs false
structure Res where
  val : Value
  own : List Own := []
  fz : List Fact := []
def FnOk (P : Program) (f : FuncId) (args : List Value) (pre : List Fact) (oin : List Own) {ι : Type} (res : ι → Res) : Prop :=
  ∀ (w : World) (Z : Nat → Prop), (∀ b, Z b → b < w.heap.size) → (oin.flatMap Own.blk).Nodup → (∀ b ∈ oin.flatMap Own.blk, b < w.heap.size ∧ ¬ Z b) → (∀ g ∈ pre, g.p Z w) → (∀ o ∈ oin, o.p Z w) →
    Calls P f args.toArray w fun e w' => ∃ i, e = .returned (res i).val ∧ Bel w.heap.size (oin.flatMap Own.blk) w w' ∧ ((res i).own.flatMap Own.blk).Nodup ∧ (∀ b ∈ (res i).own.flatMap Own.blk, b ∈ oin.flatMap Own.blk ∨ w.heap.size ≤ b) ∧
      ∀ Z' : Nat → Prop, (∀ b, b < w'.heap.size → b ∉ (res i).own.flatMap Own.blk → (b < w.heap.size → Z b) → Z' b) → (∀ o ∈ (res i).own, o.p Z' w') ∧ ∀ g ∈ (res i).fz, g.p Z' w'
section
variable {P : Program} {Q : Exit → Act → World → Prop} {n : Nat} {m : Mem} {S : Sl} {ops : Array Oper} {rest : List Oper} {o : Oper} {α β ι : Type}
def argTab : Nat → List Value → List (Nat × Value)
  | _, [] => []
  | k, v :: l => (k, v) :: argTab (k + 1) l
def memIn (w : World) (Z : Nat → Prop) (pre : List Fact) (oin : List Own) : Mem := { B := w.heap.size, w0 := w, Z0 := Z, X := oin.flatMap Own.blk, own := oin, fz := pre }
def FnPost (P : Program) (fn : Func) (w : World) (Z : Nat → Prop) (oin : List Own) (res : ι → Res) : Exit → Act → World → Prop :=
  bodyPost P fn fun e w' => ∃ i, e = .returned (res i).val ∧ Bel w.heap.size (oin.flatMap Own.blk) w w' ∧ ((res i).own.flatMap Own.blk).Nodup ∧ (∀ b ∈ (res i).own.flatMap Own.blk, b ∈ oin.flatMap Own.blk ∨ w.heap.size ≤ b) ∧
      ∀ Z' : Nat → Prop, (∀ b, b < w'.heap.size → b ∉ (res i).own.flatMap Own.blk → (b < w.heap.size → Z b) → Z' b) → (∀ o ∈ (res i).own, o.p Z' w') ∧ ∀ g ∈ (res i).fz, g.p Z' w'
theorem fn_enter {f : FuncId} {fn : Func} {c : Code} {args : List Value} {pre : List Fact} {oin : List Own} {res : ι → Res} (hf : P.funcs[f]? = some fn) (hb : fn.body = some c) (hn : fn.ntmps = n) (hargs : Nat.ble args.length n = true)
    (h : ∀ w Z, AW P c (FnPost P fn w Z oin res) n (memIn w Z pre oin) (tab (argTab 0 args))) : FnOk P f args pre oin res := fun w Z hZ hnd hX hpre hoin => by
  refine calls_of_wp hf hb (h w Z w _ ?_ ?_)
  · have hz : ∀ b, Z b → (memIn w Z pre oin).frz w b := fun b hb => ⟨hZ b hb, fun hx => (hX b hx).2 hb, fun _ => hb⟩
    exact ⟨Bel.refl _ _ _, rfl, hnd, fun b hb => .inr hb, hX, fun o ho => o.mono hz (hoin o ho), fun g hg => g.mono hz (hpre g hg)⟩
  · have hle : args.length ≤ n := by simpa [Nat.ble_eq] using hargs
    refine ⟨rfl, by simp [hn]; omega, ?_⟩
    have key : ∀ (l : List Value) (k : Nat) (t : Nat) (v : Value), tab (argTab k l) t = some v → k ≤ t ∧ l[t - k]? = some v := by
      intro l
      induction l with
      | nil => intro k t v hv; cases hv
      | cons u l ih =>
        intro k t v hv
        rcases put_some hv with ⟨rfl, rfl⟩ | ⟨hne, hv⟩
        · exact ⟨Nat.le_refl _, by simp⟩
        · obtain ⟨h1, h2⟩ := ih (k + 1) t v hv
          refine ⟨by omega, ?_⟩
          rw [show t - k = (t - (k + 1)) + 1 by omega, List.getElem?_cons_succ]
          exact h2
    intro t v hv
    obtain ⟨_, h2⟩ := key args 0 t v hv
    rw [Nat.sub_zero] at h2
    have hlt := (List.getElem?_eq_some_iff.1 h2).1
    simp only [Array.getD_eq_getD_getElem?]
    rw [Array.getElem?_append_left (by simpa using hlt)]
    simp [h2]
theorem fn_ret {fn : Func} {w0 : World} {Z0 : Nat → Prop} {oin : List Own} {res : ι → Res} {v : Value} (i : ι) (io iz : List Nat) (hB : m.B = w0.heap.size) (hw : m.w0 = w0) (hZ : m.Z0 = Z0) (hX : m.X = oin.flatMap Own.blk)
    (hres : ∀ w a, Holds m w → Sat n S a → (results fn a.tmps).run P w = .ok v w) (hv : (res i).val = v) (ho : (res i).own = picks m.own io) (hf : (res i).fz = picks m.fz iz) (hio : io.Nodup) :
    AQ (FnPost P fn w0 Z0 oin res) .ret n m S := fun w a hm hs => by
  have hp := hm.pick io iz hio
  refine ⟨hs.def_, v, hres w a hm hs, i, by rw [hv], ?_, ?_, ?_, ?_⟩
  · have := hm.bel; rw [hB, hX, hw] at this; exact this
  · rw [ho]; exact hp.nd
  · rw [ho]; intro b hb
    rcases hp.lo b hb with h | h
    · right; rw [← hB]; exact h
    · left; rw [← hX]; exact h
  · intro Z' hZ'
    have hz : ∀ b, Mem.frz { m with own := picks m.own io, fz := picks m.fz iz } w b → Z' b := fun b hb => hZ' b hb.1 (by rw [ho]; exact hb.2.1) (fun hlt => by rw [← hZ]; exact hb.2.2 (by show b < m.B; rw [hB]; exact hlt))
    rw [ho, hf]
    exact ⟨fun o ho => o.mono hz (hp.own o ho), fun g hg => g.mono hz (hp.fz g hg)⟩
theorem res1 {fn : Func} {t : Nat} {v : Value} (hr : fn.results = #[.tmp t]) (hv : S t = some v) : ∀ w a, Holds m w → Sat n S a → (results fn a.tmps).run P w = .ok v w := fun w a _ hs => by
  rw [results_tmp hr, hs.val t v hv]
theorem res2 {fn : Func} {t u : Nat} {v x : Value} (hr : fn.results = #[.tmp t, .tmp u]) (hv : S t = some v) (hx : S u = some x) : ∀ w a, Holds m w → Sat n S a → (results fn a.tmps).run P w = .ok (.tuple #[v, x]) w := fun w a _ hs => by
  rw [results_tmp2 hr, hs.val t v hv, hs.val u x hx]
theorem aw_seq_join {x y : Code} {ι : Type _} (M : ι → Mem) (T : ι → Sl) (φ : ι → Prop) (hy : ∀ i, φ i → AW P y Q n (M i) (T i))
    (hx : AW P x (Exit.then (fun a w => ∃ i, φ i ∧ Holds (M i) w ∧ Sat n (T i) a) Q) n m S) : AW P (.seq x y) Q n m S := fun w a hm hs =>
  wp_seq (Code.wp_mono (fun e a w q => by
    cases e with
    | normal => obtain ⟨i, hp, h1, h2⟩ := q; exact hy i hp w a h1 h2
    | exit i => exact q
    | goto i => exact q
    | ret => exact q
    | panic ch => exact q
    | outgrown => exact q) (hx w a hm hs))
theorem aq_join {ι : Type _} {M : ι → Mem} {T : ι → Sl} {φ : ι → Prop} (i : ι) (hp : φ i) (h : ∀ w a, Holds m w → Sat n S a → Holds (M i) w ∧ Sat n (T i) a) :
    AQ (Exit.then (fun a w => ∃ i, φ i ∧ Holds (M i) w ∧ Sat n (T i) a) Q) .normal n m S := fun w a hm hs => ⟨i, hp, h w a hm hs⟩
theorem ov_cast {v v' : Value} (e : v' = v) (h : OpV P o n m S v) : OpV P o n m S v' := e ▸ h
theorem run_enter {f : FuncId} {fn : Func} (hf : P.funcs[f]? = some fn) (hb : fn.body.isNone = false) (hn : (fn.name == "runtime.NumGoroutine") = false) (w : World) (args : Array Value) : (callFunc f args).run P w = .ok (.enter f args) w := by
  have hn' : fn.name ≠ "runtime.NumGoroutine" := by simpa using hn
  have hb' : fn.body ≠ none := by intro e; rw [e] at hb; cases hb
  unfold callFunc
  simp [Sem.run_bind, program, Sem.run, hf, hn', hb']
def PreOk (m : Mem) (iv : List Nat) (pre : List Fact) : Prop := ∀ (w : World) (Z : Nat → Prop), Holds m w → (∀ b, m.frz w b → Z b) → (∀ j ∈ iv, ∀ o, m.own[j]? = some o → ∀ b ∈ o.blk, Z b) → ∀ g ∈ pre, g.p Z w
theorem pre_nil {iv : List Nat} : PreOk m iv [] := fun _ _ _ _ _ g hg => by cases hg
theorem pre_fz {iv : List Nat} {g : Fact} {l : List Fact} (i : Nat) (hi : m.fz[i]? = some g) (h : PreOk m iv l) : PreOk m iv (g :: l) := fun w Z hm hz hv x hx => by
  rcases List.mem_cons.1 hx with rfl | hx
  · exact x.mono hz (fz_at hm hi)
  · exact h w Z hm hz hv x hx
theorem pre_own {iv : List Nat} {v : Value} {e : TypeId} {τ : Ty α} {xs : List α} {l : List Fact} (i : Nat) (hi : m.own[i]? = some (oRow v e τ xs)) (hiv : iv.contains i = true) (h : PreOk m iv l) : PreOk m iv (fDat (tyList τ) [v] xs :: l) := fun w Z hm hz hv x hx => by
  rcases List.mem_cons.1 hx with rfl | hx
  · exact row_dat (own_at hm hi) hz (fun b hb => hv i (by simpa using hiv) _ hi b hb)
  · exact h w Z hm hz hv x hx
def FlatRes (res : ι → Res) : Prop := ∀ i, (∀ o ∈ (res i).own, ∀ Z Z' w, o.p Z w → o.p Z' w) ∧ ∀ g ∈ (res i).fz, ∀ Z Z' w, g.p Z w → g.p Z' w
theorem run_callV {f : FuncId} {args : List Operand} {tys : Array TypeId} {vs : List Value} {fn : Func} {a : Act} (ho : o.op = .call { callee := .value (.func f), args := args.toArray, argTypes := tys }) (hvs : args.map a.eval = vs) (hf : P.funcs[f]? = some fn) (hb : fn.body.isNone = false) (hn : (fn.name == "runtime.NumGoroutine") = false) (w : World) :
    (execOp a.eval o).run P w = .ok (.enter f vs.toArray) w := by
  unfold execOp
  simp only [ho]
  have h1 : (args.toArray.map a.eval) = vs.toArray := by rw [← hvs]; simp
  simp [resolve, Act.eval, Deferred.ofValue, invoke, h1, run_enter hf hb hn]
theorem run_callF {f : FuncId} {x : Operand} {args : List Operand} {tys : Array TypeId} {vs caps : List Value} {fn : Func} {a : Act} (ho : o.op = .call { callee := .value x, args := args.toArray, argTypes := tys }) (hx : a.eval x = .func (.func f) #[] caps.toArray) (hvs : args.map a.eval = vs) (hf : P.funcs[f]? = some fn) (hb : fn.body.isNone = false) (hn : (fn.name == "runtime.NumGoroutine") = false) (w : World) :
    (execOp a.eval o).run P w = .ok (.enter f (vs ++ caps).toArray) w := by
  unfold execOp
  simp only [ho]
  have h1 : (args.toArray.map a.eval) = vs.toArray := by rw [← hvs]; simp
  simp [resolve, hx, Deferred.ofValue, invoke, h1, run_enter hf hb hn]
theorem evs {a : Act} (hs : Sat n S a) : ∀ {args : List Operand} {vs : List Value}, args.map (ev S) = vs.map some → args.map a.eval = vs
  | [], [], _ => rfl
  | [], _ :: _, h => by cases h
  | _ :: _, [], h => by cases h
  | x :: args, v :: vs, h => by
    simp only [List.map_cons, List.cons.injEq] at h
    rw [List.map_cons, hs.ev h.1, evs hs h.2]
theorem al_enter {d : Nat} {f : FuncId} {vs : List Value} {pre : List Fact} {oin : List Own} {res : ι → Res} (hfn : FnOk P f vs pre oin res) (iv io ik : List Nat) (hpre : PreOk m iv pre) (hoin : picks m.own io = oin)
    (hX : ∀ j ∈ io, j ∉ iv) (hnd : (io ++ ik).Nodup) (hflat : iv = [] ∨ FlatRes res) (hrun : ∀ w a, Sat n S a → (execOp a.eval o).run P w = .ok (.enter f vs.toArray) w)
    (h : ∀ i, AL P ops rest Q n { m with own := (res i).own ++ picks m.own ik, fz := (res i).fz ++ m.fz } (put S d (res i).val)) (hdd : o.dst = some d := by rfl) (hd : Nat.blt d n = true := by rfl) (hg : wantS ops S o true = true := by rfl) : AL P ops (o :: rest) Q n m S :=
  al_step hg fun w a hm hs K hK => by
    unfold Oper.wp
    rw [hrun w a hs, Oper.upon_enter]
    let Z : Nat → Prop := fun b => m.frz w b ∨ ∃ j ∈ iv, ∃ o, m.own[j]? = some o ∧ b ∈ o.blk
    have hin : ∀ o ∈ oin, ∃ j ∈ io, m.own[j]? = some o := fun o ho => by
      rw [← hoin] at ho
      obtain ⟨j, hj, hjo⟩ := List.mem_filterMap.1 ho
      exact ⟨j, hj, hjo⟩
    have hblk : ∀ b ∈ oin.flatMap Own.blk, b ∈ m.blks ∧ ∃ j ∈ io, ∃ o, m.own[j]? = some o ∧ b ∈ o.blk := fun b hb => by
      obtain ⟨o, ho, hb⟩ := List.mem_flatMap.1 hb
      obtain ⟨j, hj, hjo⟩ := hin o ho
      exact ⟨List.mem_flatMap.2 ⟨o, List.mem_of_getElem? hjo, hb⟩, j, hj, o, hjo, hb⟩
    have hsplit := List.nodup_append.1 hnd
    have hndo : (oin.flatMap Own.blk).Nodup := by rw [← hoin]; exact picks_nodup hm.nd hsplit.1
    have hfz : ∀ b, m.frz w b → b ∉ m.blks := fun b hb => hb.2.1
    have hc := hfn w Z (fun b hb => by
        rcases hb with hb | ⟨j, _, o, ho, hb⟩
        · exact hb.1
        · exact hm.lt (List.mem_flatMap.2 ⟨o, List.mem_of_getElem? ho, hb⟩)) hndo
      (fun b hb => by
        obtain ⟨h1, j, hj, o, hjo, hbo⟩ := hblk b hb
        refine ⟨hm.lt h1, fun hz => ?_⟩
        rcases hz with hz | ⟨j', hj', o', hjo', hbo'⟩
        · exact hz.2.1 h1
        · exact nodup_flat hm.nd hjo hjo' (fun e => hX j hj (e ▸ hj')) b hbo hbo')
      (hpre w Z hm (fun b hb => .inl hb) (fun j hj o ho b hb => .inr ⟨j, hj, o, ho, hb⟩))
      (fun o ho => by
        obtain ⟨j, _, hjo⟩ := hin o ho
        exact o.mono (fun b hb => .inl hb) (own_at hm hjo))
    refine hc.mono fun e w' ⟨i, he, hbel, hnd', hlo', hz'⟩ => ?_
    subst he
    refine hK _ _ (h i w' _ ?_ (hs.put' hdd hd _))
    have hstep : Step m w (oin.flatMap Own.blk) w' := ⟨hbel.os, hbel.tape, hbel.output, hbel.size, hbel.block⟩
    have hout : ∀ b ∈ (res i).own.flatMap Own.blk, b ∈ oin.flatMap Own.blk ∨ w.heap.size ≤ b := hlo'
    have hk : ∀ o ∈ picks m.own ik, o ∈ m.own ∧ ∀ b ∈ o.blk, b ∉ oin.flatMap Own.blk := fun o ho => by
      refine ⟨picks_sub ho, fun b hb hx => ?_⟩
      obtain ⟨j, hj, hjo⟩ := List.mem_filterMap.1 ho
      obtain ⟨_, j', hj', o', hjo', hbo'⟩ := hblk b hx
      exact nodup_flat hm.nd hjo hjo' (fun e => hsplit.2.2 j' hj' j hj e.symm) b hb hbo'
    have hnew : ∀ Z' : Nat → Prop, (∀ b, m.frz w b → Z' b) → (∀ b, w.heap.size ≤ b → b < w'.heap.size → b ∉ (res i).own.flatMap Own.blk → Z' b) → (∀ o ∈ (res i).own, o.p Z' w') ∧ ∀ g ∈ (res i).fz, g.p Z' w' := by
      intro Z' h1 h2
      rcases hflat with hiv | hflat
      · refine hz' Z' (fun b hb1 hb2 hb3 => ?_)
        by_cases hlt : b < w.heap.size
        · rcases hb3 hlt with hx | ⟨j, hj, _⟩
          · exact h1 b hx
          · rw [hiv] at hj; cases hj
        · exact h2 b (by omega) hb1 hb2
      · obtain ⟨h3, h4⟩ := hz' (fun _ => True) (fun _ _ _ _ => trivial)
        exact ⟨fun o ho => (hflat i).1 o ho _ _ _ (h3 o ho), fun g hg => (hflat i).2 g hg _ _ _ (h4 g hg)⟩
    have hs1 := hm.step hstep (fun b hb => (hblk b hb).1) (picks m.own ik) (res i).own (by
        rw [List.flatMap_append, List.nodup_append]
        refine ⟨hnd', picks_nodup hm.nd hsplit.2.1, fun b hb c hc e => ?_⟩
        subst e
        obtain ⟨o, ho, hbo⟩ := List.mem_flatMap.1 hc
        rcases hout b hb with hx | hx
        · exact (hk o ho).2 b hbo hx
        · have := hm.lt (List.mem_flatMap.2 ⟨o, (hk o ho).1, hbo⟩); omega)
      hk (fun o ho => ⟨fun b hb => hout b (List.mem_flatMap.2 ⟨o, ho, hb⟩), fun Z' h1 h2 => (hnew Z' h1 h2).1 o ho⟩)
    refine hs1.adds fun g hg => ?_
    refine (hnew _ (fun b hb => ⟨Nat.lt_of_lt_of_le hb.1 hbel.size, fun hx => ?_, hb.2.2⟩) (fun b h1 h2 h3 => ⟨h2, fun hx => ?_, fun hlt => ?_⟩)).2 g hg
    · obtain ⟨o, ho, hbo⟩ := List.mem_flatMap.1 hx
      rcases List.mem_append.1 ho with ho | ho
      · rcases hout b (List.mem_flatMap.2 ⟨o, ho, hbo⟩) with hx | hx
        · exact hb.2.1 (hblk b hx).1
        · have := hb.1; omega
      · exact hb.2.1 (List.mem_flatMap.2 ⟨o, (hk o ho).1, hbo⟩)
    · obtain ⟨o, ho, hbo⟩ := List.mem_flatMap.1 hx
      rcases List.mem_append.1 ho with ho | ho
      · exact h3 (List.mem_flatMap.2 ⟨o, ho, hbo⟩)
      · have := hm.lt (List.mem_flatMap.2 ⟨o, (hk o ho).1, hbo⟩); omega
    · have := hm.size; have hlt' : b < m.B := hlt; omega
theorem al_call {d : Nat} {f : FuncId} {fn : Func} {args : List Operand} {vs : List Value} {tys : Array TypeId} {pre : List Fact} {oin : List Own} {res : ι → Res} (hfn : FnOk P f vs pre oin res) (iv io ik : List Nat) (hpre : PreOk m iv pre) (hoin : picks m.own io = oin)
    (hX : ∀ j ∈ io, j ∉ iv) (hnd : (io ++ ik).Nodup) (hflat : iv = [] ∨ FlatRes res) (hargs : args.map (ev S) = vs.map some) (hf : P.funcs[f]? = some fn) (hb : fn.body.isNone = false) (hn : (fn.name == "runtime.NumGoroutine") = false)
    (ho : o.op = .call { callee := .value (.func f), args := args.toArray, argTypes := tys })
    (h : ∀ i, AL P ops rest Q n { m with own := (res i).own ++ picks m.own ik, fz := (res i).fz ++ m.fz } (put S d (res i).val)) (hdd : o.dst = some d := by rfl) (hd : Nat.blt d n = true := by rfl) (hg : wantS ops S o true = true := by rfl) : AL P ops (o :: rest) Q n m S :=
  al_enter hfn iv io ik hpre hoin hX hnd hflat (fun w a hs => run_callV ho (evs hs hargs) hf hb hn w) h hdd hd hg
theorem al_callF {d : Nat} {f : FuncId} {fn : Func} {x : Operand} {args : List Operand} {vs caps vc : List Value} {tys : Array TypeId} {pre : List Fact} {oin : List Own} {res : ι → Res} (hfn : FnOk P f vc pre oin res) (hvc : vs ++ caps = vc) (iv io ik : List Nat) (hpre : PreOk m iv pre) (hoin : picks m.own io = oin)
    (hX : ∀ j ∈ io, j ∉ iv) (hnd : (io ++ ik).Nodup) (hflat : iv = [] ∨ FlatRes res) (hx : ev S x = some (.func (.func f) #[] caps.toArray)) (hargs : args.map (ev S) = vs.map some) (hf : P.funcs[f]? = some fn) (hb : fn.body.isNone = false) (hn : (fn.name == "runtime.NumGoroutine") = false)
    (ho : o.op = .call { callee := .value x, args := args.toArray, argTypes := tys })
    (h : ∀ i, AL P ops rest Q n { m with own := (res i).own ++ picks m.own ik, fz := (res i).fz ++ m.fz } (put S d (res i).val)) (hdd : o.dst = some d := by rfl) (hd : Nat.blt d n = true := by rfl) (hg : wantS ops S o true = true := by rfl) : AL P ops (o :: rest) Q n m S :=
  al_enter hfn iv io ik hpre hoin hX hnd hflat (fun w a hs => by subst hvc; exact run_callF ho (hs.ev hx) (evs hs hargs) hf hb hn w) h hdd hd hg
theorem aq_nilR {e : Exit} (et : TypeId) (τ : Ty α) (h : AQ Q e n (m.push (oRow (.slice none 0 0) et τ ([] : List α))) S) : AQ Q e n m S := fun w a hm hs =>
  h w a (hm.push (w' := w) (Below.refl _ _) (by simp [oRow, Value.ownBlock]) (by simp [oRow, Value.ownBlock]) (fun Z _ => nil_own et τ Z w)) hs
def FlatTy (τ : Ty α) : Prop := ∀ Z Z' w w' cs x, τ.rep Z w cs x → τ.rep Z' w' cs x
theorem flat_list {τ : Ty α} (h : FlatTy τ) : ∀ {Z Z' : Nat → Prop} {w w' : World} {xs : List α} {cs : List Value}, RepL τ Z w cs xs → RepL τ Z' w' cs xs
  | _, _, _, _, [], _, hr => hr
  | _, _, _, _, x :: xs, _, hr => by obtain ⟨c1, c2, he, h1, h2⟩ := hr; exact ⟨c1, c2, he, h _ _ _ _ _ _ h1, flat_list h h2⟩
theorem flat_pair {a : Ty α} {b : Ty β} (ha : FlatTy a) (hb : FlatTy b) : FlatTy (tyPair a b) := fun Z Z' w w' cs x hr => by
  obtain ⟨c1, c2, he, h1, h2⟩ := hr; exact ⟨c1, c2, he, ha _ _ _ _ _ _ h1, hb _ _ _ _ _ _ h2⟩
theorem flat_via {f : α → β} {b : Ty β} (hb : FlatTy b) : FlatTy (tyVia f b) := fun Z Z' w w' cs x hr => hb _ _ _ _ _ _ hr
theorem flat_enc {k : Nat} {enc : α → List Value} {h1 h2} : FlatTy (tyEnc k enc h1 h2) := fun Z Z' w w' cs x hr => hr
theorem flat_row {v : Value} {e : TypeId} {τ : Ty α} {xs : List α} (h : FlatTy τ) : ∀ Z Z' w, (oRow v e τ xs).p Z w → (oRow v e τ xs).p Z' w := fun Z Z' w hr => by
  obtain ⟨cs, h1, h2⟩ := hr; exact ⟨cs, h1, flat_list h h2⟩
theorem flat_res0 {v : ι → Value} : FlatRes (fun i => { val := v i } : ι → Res) := fun i => ⟨by simp, by simp⟩
theorem flat_res1 {v : ι → Value} {o : ι → Own} (h : ∀ i Z Z' w, (o i).p Z w → (o i).p Z' w) : FlatRes (fun i => { val := v i, own := [o i] } : ι → Res) := fun i => ⟨by simpa using fun Z Z' w => h i Z Z' w, by simp⟩
theorem bif_t {b : Bool} {x y : Option β} {r : β} (hb : b = true) (h : (bif b then x else y) = some r) : x = some r := by rw [hb] at h; exact h
theorem bif_f {b : Bool} {x y : Option β} {r : β} (hb : b = false) (h : (bif b then x else y) = some r) : y = some r := by rw [hb] at h; exact h
end
end Go.Proofs.Ythdifoidlpiikaa.En
namespace Go.Proofs.Ythdifoidlpiikaa.En
open Go.RowKit
set_option linter.unusedVariables false
set_option linter.unusedSimpArgs false
def memOf (w : World) (Z : Nat → Prop) (oin own : List Own) (fz : List Fact) : Mem := { B := w.heap.size, w0 := w, Z0 := Z, X := oin.flatMap Own.blk, own := own, fz := fz }
section
variable {P : Program} {Q : Exit → Act → World → Prop} {n : Nat} {m : Mem} {S : Sl} {ops : Array Oper} {rest : List Oper} {o : Oper} {α β ι : Type}
theorem aw_show {c : Code} (h : AW P c Q n m S) : AW P c Q n m S := h
theorem al_caseB {l : List Oper} {b : Bool} (t : Nat) (ht : S t = some (.bool b)) (h1 : b = true → AL P ops l Q n m (put S t (.bool true))) (h2 : b = false → AL P ops l Q n m (put S t (.bool false))) : AL P ops l Q n m S := fun w a hm hs => by
  have key : ∀ v, S t = some v → Sat n (put S t v) a := fun v hv => ⟨hs.def_, hs.size, fun u x hx => by
    rcases put_some hx with ⟨rfl, rfl⟩ | ⟨_, hx⟩
    · exact hs.val _ _ hv
    · exact hs.val _ _ hx⟩
  cases b with
  | true => exact h1 rfl w a hm (key _ ht)
  | false => exact h2 rfl w a hm (key _ ht)
theorem idx_lt {xs : List α} {i : Int} {x : α} (h : at? xs i = some x) : i.toNat < xs.length := by have := at_some h; omega
theorem u8_rep {Z : Nat → Prop} {w : World} {n : Int} (h : 0 ≤ n ∧ n ≤ 255) : tyU8.rep Z w [.int .u8 n] (UInt8.ofNat n.toNat) := by
  show _ = [Value.int .u8 ((UInt8.ofNat n.toNat).toNat : Int)]
  have : ((UInt8.ofNat n.toNat).toNat : Int) = n := by
    rw [UInt8.toNat_ofNat']; omega
  rw [this]
theorem zeroOf_to {e : TypeId} {sz by_ : Nat} {z : Value} (h : tyOf P e = some (sz, by_, some z)) : zeroOf P e = some z := by
  obtain ⟨i, h1, h2, _, _⟩ := tyOf_parts h
  unfold zeroOf; rw [h1]; exact h2
theorem aw_body_join {c : Code} {K : Act → World → Prop} {ι : Type _} (M : ι → Mem) (T : ι → Sl) (φ : ι → Prop) (hy : ∀ i, φ i → AQ (Exit.then K Q) .normal n (M i) (T i))
    (hx : AW P c (Exit.then (fun a w => ∃ i, φ i ∧ Holds (M i) w ∧ Sat n (T i) a) Q) n m S) : AW P c (Exit.then K Q) n m S := fun w a hm hs =>
  Code.wp_mono (fun e a w q => by
    cases e with
    | normal => obtain ⟨i, hp, h1, h2⟩ := q; exact hy i hp w a h1 h2
    | exit i => exact q
    | goto i => exact q
    | ret => exact q
    | panic ch => exact q
    | outgrown => exact q) (hx w a hm hs)
def enumF : Nat → List Value → List (Nat × Value)
  | _, [] => []
  | j, v :: vs => (j, v) :: enumF (j + 1) vs
theorem foldl_put (vs : List Value) : ∀ (pre mid post : List Value) (k : Nat), mid.length = vs.length → k = 0 →
    (vs.zipIdx k).foldl (fun (cs : Array Value) (p : Value × Nat) => cs.setIfInBounds (pre.length - k + p.2) p.1) (pre ++ mid ++ post).toArray = (pre ++ vs ++ post).toArray := by
  have gen : ∀ (vs pre mid post : List Value) (k b : Nat), mid.length = vs.length → pre.length = b + k →
      (vs.zipIdx k).foldl (fun (cs : Array Value) (p : Value × Nat) => cs.setIfInBounds (b + p.2) p.1) (pre ++ mid ++ post).toArray = (pre ++ vs ++ post).toArray := by
    intro vs
    induction vs with
    | nil =>
      intro pre mid post k b hm _
      have hm0 : mid = [] := List.eq_nil_of_length_eq_zero (by simpa using hm)
      subst hm0; rfl
    | cons v vs ih =>
      intro pre mid post k b hm hp
      cases mid with
      | nil => simp at hm
      | cons u mid =>
        simp only [List.zipIdx_cons, List.foldl_cons]
        have e : (pre ++ u :: mid ++ post).toArray.setIfInBounds (b + k) v = ((pre ++ [v]) ++ mid ++ post).toArray := by
          rw [List.setIfInBounds_toArray, ← hp]
          simp
        rw [e, ih (pre ++ [v]) mid post (k + 1) b (by simpa using hm) (by simp; omega)]
        simp
  intro pre mid post k hm hk
  subst hk
  exact gen vs pre mid post 0 pre.length hm (by simp)
theorem fill_seq {sz : Nat} : ∀ (vs : List Value) (j : Nat) (pre rest : List Value), pre.length = j * sz → rest.length = vs.length * sz → (∀ v ∈ vs, v.cells.size = sz) →
    Instr.fill (fun i => some (i * sz, sz)) (pre ++ rest).toArray (enumF j vs) = some (pre ++ vs.flatMap fun v => v.cells.toList).toArray
  | [], j, pre, rest, _, hr, _ => by
    have hr0 : rest = [] := List.eq_nil_of_length_eq_zero (by simpa using hr)
    subst hr0; simp [enumF, Instr.fill]
  | v :: vs, j, pre, rest, hp, hr, hv => by
    have h1 := hv v (by simp)
    have hl : v.cells.toList.length = sz := by rw [Array.length_toList, h1]
    rw [List.length_cons, Nat.succ_mul] at hr
    unfold enumF Instr.fill
    simp only
    rw [if_neg (by simp [h1]; omega)]
    have hsp : pre ++ rest = pre ++ rest.take sz ++ rest.drop sz := by rw [List.append_assoc, List.take_append_drop]
    have h2 : (v.cells.zipIdx.foldl (fun (cs : Array Value) (p : Value × Nat) => cs.setIfInBounds (j * sz + p.2) p.1) (pre ++ rest).toArray) = (pre ++ v.cells.toList ++ rest.drop sz).toArray := by
      rw [hsp, ← hp]
      have := foldl_put v.cells.toList pre (rest.take sz) (rest.drop sz) 0 (by rw [List.length_take, hl]; omega) rfl
      simp only [Nat.sub_zero] at this
      rw [← this]
      rw [← Array.foldl_toList]
      simp
    have h3 := fill_seq vs (j + 1) (pre ++ v.cells.toList) (rest.drop sz) (by rw [List.length_append, hl, hp, Nat.succ_mul]) (by rw [List.length_drop]; omega) (fun u hu => hv u (by simp [hu]))
    have e : (fun (x : Array Value) (x_1 : Value × Nat) => match x_1 with | (c, j_1) => x.setIfInBounds (j * sz + j_1) c) = (fun (cs : Array Value) (p : Value × Nat) => cs.setIfInBounds (j * sz + p.2) p.1) := rfl
    rw [List.flatMap_cons, ← List.append_assoc, ← h3, ← h2]
theorem run_bs {t e sz by_ : Nat} {z : Value} (vs : List Value) (cells : List Value) (ht : P.underlying t = some (.slice e)) (hi : tyOf P e = some (sz, by_, some z)) (hzs : z.cells.size = sz) (hk : Nat.ble (vs.length * sz) 16777216 = true) (hbs : BS m sz vs cells) {w : World} (hm : Holds m w) :
    (Instr.buildSlice t vs.length (enumF 0 vs).toArray).run P w = .ok (.slice (some ⟨w.heap.size, 0, none⟩) vs.length vs.length) (w.alloc (.cells cells.toArray e)) := by
  obtain ⟨i, hi1, hi2, hi3, hi4⟩ := tyOf_parts hi
  have hsz : szOf P e = some sz := by unfold szOf; rw [hi1]; simp [hi3]
  have hzv := run_zeroValue' (zeroOf_to hi) w
  have hk' : ¬ 16777216 < vs.length * sz := by have := Nat.le_of_ble_eq_true hk; omega
  obtain ⟨hv', hc⟩ := hbs hm
  have key : ∀ zs : Array Value, zs.size = vs.length * sz → Instr.fill (fun i => some (i * sz, sz)) zs (enumF 0 vs) = some cells.toArray := fun zs hz => by
    have hf := fill_seq vs 0 [] zs.toList (by simp) (by simpa using hz) hv'
    rw [← hc]; simpa using hf
  unfold Instr.buildSlice
  simp only [Sem.run_bind, run_underlying ht, Result.andThen_ok, run_sizeOf' hsz, Nat.reducePow, gt_iff_lt, if_neg hk']
  by_cases h0 : vs.length * sz = 0
  · simp only [h0, if_true, Sem.run_bind, Sem.run_pure, Result.andThen_ok]
    rw [key _ (by simp [h0])]
    rfl
  · simp only [if_neg h0, Sem.run_bind, hzv, Result.andThen_ok, Sem.run_pure]
    rw [key _ (by simp)]
    rfl
theorem u8_cells {Z : Nat → Prop} {w : World} : ∀ {l : List UInt8} {cs : List Value}, RepL tyU8 Z w cs l → cs = l.map fun b => .int .u8 (b.toNat : Int)
  | [], _, h => h
  | b :: l, _, h => by
    obtain ⟨c1, c2, rfl, h1, h2⟩ := h
    rw [show c1 = [_] from h1, u8_cells h2]; rfl
theorem ov_toStr {x : Operand} {v : Value} {l : List UInt8} {s d e : TypeId} (i : Nat) (hi : m.fz[i]? = some (fDat (tyList tyU8) [v] l)) (hx : ev S x = some v) (hs' : P.underlying s = some (.slice e)) (he : P.underlying e = some (.int .u8)) (hd' : P.underlying d = some .string) (ho : o.op = .convert s d x) : OpV P o n m S (str l) := fun w a hm hs => by
  obtain ⟨A, k, c, hv, hk, hc, _, hr⟩ := fz_at hm hi
  have hv' : v = .slice A k c := by simpa using hv
  subst hv'
  unfold execOp
  simp only [ho, hs.ev hx]
  rcases hr with h0 | ⟨ad, cs, rfl, hca, hrl⟩
  · have hl : l = [] := List.eq_nil_of_length_eq_zero (by omega)
    subst hl; subst h0
    cases A with
    | none => simp [convert, run_underlying hs', run_underlying hd', run_underlying he, Conv.bytesToString, str]; rfl
    | some ad =>
      have := run_convert_bytes_back (P := P) w s d e ad c [] hs' he hd' (by simp)
      simp only [List.length_nil] at this
      simp [this, str]
  · have hcs := u8_cells hrl
    have := run_convert_bytes_back (P := P) w s d e ad c l hs' he hd' (fun j hj => by
      refine hca.2 j _ ?_
      rw [hcs, List.getElem?_map, List.getElem?_eq_getElem hj]; rfl)
    rw [← hk] at this
    simp [this, str]
end
end Go.Proofs.Ythdifoidlpiikaa.En
namespace Go.Proofs.Ythdifoidlpiikaa.En
open Go.RowKit
set_option linter.unusedVariables false
set_option linter.unusedSimpArgs false
def fEq (v t : Value) : Fact := ⟨fun _ _ => v = t, fun _ h => h, fun _ h => h⟩
def fElt (v p : Value) (k : Nat) : Fact := ⟨fun _ _ => EltOf v p k, fun _ h => h, fun _ h => h⟩
def Tame (P : Program) (o : Oper) (a : Act) (w : World) (Φ : Value → World → Prop) : Prop :=
  (∃ v w', (execOp a.eval o).run P w = .ok (.value v) w' ∧ Φ v w') ∨ (∃ f args, (execOp a.eval o).run P w = .ok (.enter f args) w ∧ Calls P f args w fun e w' => ∃ v, e = .returned v ∧ Φ v w')
theorem Tame.wp {P : Program} {o : Oper} {a : Act} {w : World} {Φ : Value → World → Prop} {K : Act → World → Prop} {Q : Exit → Act → World → Prop} (h : Tame P o a w Φ) (hK : ∀ v w', Φ v w' → K (a.put o.dst v) w') : o.wp P a w K Q := by
  unfold Oper.wp
  rcases h with ⟨v, w', hr, hv⟩ | ⟨f, args, hr, hc⟩
  · rw [hr, Oper.upon_value]; exact hK v w' hv
  · rw [hr, Oper.upon_enter]
    refine hc.mono fun e w' ⟨v, he, hv⟩ => ?_
    subst he; exact hK v w' hv
abbrev Spec := List (Nat × (Value → Fact))
def FactAt (m : Mem) (L : Spec) (j : Nat) (w : World) (a : Act) : Prop := match L[j]? with | some (d, R) => (R (a.tmps.getD d undef)).p (m.frz w) w | none => True
def LocD (P : Program) (ops : Array Oper) (m0 : Mem) (L : Spec) (o : Oper) (E : List Nat) (n : Nat) (m : Mem) (S : Sl) (R : Value → Fact) : Prop := ∀ w a, Holds m0 w → Holds m w → m.frz w = m0.frz w → Sat n S a → (∀ j ∈ E, FactAt m0 L j w a) →
  if Region.wanted o (yielded ops a.tmps) then Tame P o a w (fun v w' => Below w.heap.size w w' ∧ (R v).p (m0.frz w') w') else (R undef).p (m0.frz w) w
def edgesOf (o : Oper) : List Nat := (o.after.toList.filter fun e => Region.binds .any e).map (·.on)
def LocFrom (P : Program) (ops : Array Oper) (n : Nat) (m : Mem) (S : Sl) (L : Spec) : Spec → List Oper → Prop
  | [], _ => True
  | _ :: _, [] => False
  | s :: L', o :: l => (o.dst = some s.1 ∧ LocD P ops m L o (edgesOf o) n m S s.2) ∧ LocFrom P ops n m S L L' l
theorem LocFrom.at {P : Program} {ops : Array Oper} {n : Nat} {m : Mem} {S : Sl} {L : Spec} : ∀ {L' : Spec} {l : List Oper}, LocFrom P ops n m S L L' l → ∀ {i : Nat} {s : Nat × (Value → Fact)}, L'[i]? = some s → ∃ o, l[i]? = some o ∧ o.dst = some s.1 ∧ LocD P ops m L o (edgesOf o) n m S s.2
  | [], _, _, i, s, hi => by simp at hi
  | _ :: _, [], h, _, _, _ => h.elim
  | s' :: L', o :: l, h, 0, s, hi => by simp at hi; subst hi; exact ⟨o, rfl, h.1.1, h.1.2⟩
  | s' :: L', o :: l, h, i + 1, s, hi => by rw [List.getElem?_cons_succ] at hi ⊢; exact LocFrom.at h.2 hi
def prefixA (k n : Nat) : Array Bool := ((List.replicate k true) ++ List.replicate (n - k) false).toArray
theorem Sat.put_none {n : Nat} {S : Sl} {a : Act} (h : Sat n S a) {d : Nat} (hd : S d = none) (v : Value) : Sat n S (a.put (some d) v) := by
  refine ⟨h.def_, by simp [Act.put, h.size], fun t u hu => ?_⟩
  have hne : t ≠ d := fun e => by rw [e, hd] at hu; cases hu
  have h0 := h.val t u hu
  have he : (a.tmps.setIfInBounds d v).getD t undef = a.tmps.getD t undef := by
    simp only [Array.getD_eq_getD_getElem?]
    rw [Array.getElem?_setIfInBounds_ne (fun e => hne e.symm)]
  exact he.trans h0
theorem nodup_idx {l : List Nat} (h : l.Nodup) {i j : Nat} {x : Nat} (hi : l[i]? = some x) (hj : l[j]? = some x) : i = j := by
  have h1 := (List.getElem?_eq_some_iff.1 hi)
  have h2 := (List.getElem?_eq_some_iff.1 hj)
  obtain ⟨hi', e1⟩ := h1
  obtain ⟨hj', e2⟩ := h2
  exact (List.getElem_inj h).1 (e1.trans e2.symm)
def TailOk (P : Program) (ops : Array Oper) (l : List Oper) (Q : Exit → Act → World → Prop) (m0 : Mem) (L : Spec) (n : Nat) (m : Mem) (S : Sl) : Prop := ∀ w a, Holds m0 w → Holds m w → m.frz w = m0.frz w → Sat n S a → (∀ j, FactAt m0 L j w a) → wpList P ops Q l a w
theorem set_prefix {listed : Array Bool} {k n : Nat} (hk : k ≤ n) (hs : listed.size = n) (hp : ∀ i, i < k → listed.getD i false = true) (ht : ∀ t, k ≤ t → t < n → listed.getD t true = false) : listed = prefixA k n := by
  unfold prefixA
  apply Array.ext_getElem?
  intro i
  by_cases hi : i < n
  · have hi' : i < listed.size := by omega
    rw [Array.getElem?_eq_getElem hi']
    by_cases hik : i < k
    · have := hp i hik
      simp [hi'] at this
      simp [List.getElem?_append, hik, this]
    · have := ht i (by omega) hi
      simp [hi'] at this
      rw [List.getElem?_toArray, List.getElem?_append_right (by simp; omega), List.getElem?_replicate, if_pos (by simp; omega), this]
  · rw [Array.getElem?_eq_none (by omega)]
    simp
    omega
theorem fact_ext {m : Mem} {w w' : World} (hb : Below w.heap.size w w') {f : Fact} (h : f.p (m.frz w) w) : f.p (m.frz w') w' :=
  f.mono (fun b hb' => ⟨Nat.lt_of_lt_of_le hb'.1 hb.size, hb'.2⟩) (f.keep (fun b hb' => hb.block b hb'.1) h)
def backB (l : List Oper) : Bool := (l.zipIdx.all fun p => p.1.after.all fun e => !Region.binds .any e || Nat.blt e.on p.2)
theorem backB_spec {l : List Oper} (h : backB l = true) {i : Nat} {o : Oper} (hi : l[i]? = some o) : ∀ e ∈ o.after, Region.binds .any e = true → e.on < i := fun e he hb => by
  have h1 := List.all_eq_true.1 h (o, i) (List.mem_iff_getElem?.2 ⟨i, by rw [List.getElem?_zipIdx, hi]; simp⟩)
  have h2 := Array.all_eq_true'.1 h1 e he
  simpa [hb, Nat.blt_eq] using h2
def nodupB : List Nat → Bool
  | [] => true
  | x :: l => !(l.any fun y => Nat.beq x y) && nodupB l
theorem nodupB_spec : ∀ {l : List Nat}, nodupB l = true → l.Nodup
  | [], _ => List.nodup_nil
  | x :: l, h => by
    simp only [nodupB, Bool.and_eq_true, Bool.not_eq_true', List.any_eq_false] at h
    refine List.nodup_cons.2 ⟨fun hx => ?_, nodupB_spec h.2⟩
    have := h.1 x hx
    simp at this
theorem aw_region_draw {P : Program} {Q : Exit → Act → World → Prop} {n : Nat} {m : Mem} {S : Sl} {id : Nat} {l : List Oper} (k : Nat) (L : Spec) (S' : Sl) (hm : P.follows .mixedOrders = true)
    (hB : (decide (k < l.length) && L.length == k && backB l && Region.sinkB .any l.toArray k && Region.chainB .any l.toArray k && Region.seqB .any l.toArray (l.length - k) k (prefixA k l.length)) = true)
    (hD : nodupB (L.map (·.1)) = true) (hn : (L.all fun s => Nat.blt s.1 n) = true) (hS0 : (L.all fun s => (S' s.1).isNone) = true) (hS : ∀ a, Sat n S a → Sat n S' a)
    (hloc : LocFrom P l.toArray n m S' L L l) (htail : TailOk P l.toArray (l.drop k) Q m L n m S') : AW P (.region id l.toArray true) Q n m S := fun w a hm0 hs0 => by
  simp only [Bool.and_eq_true, decide_eq_true_eq, beq_iff_eq] at hB
  obtain ⟨⟨⟨⟨⟨hkl, hLk⟩, hback⟩, hsink⟩, hchain⟩, hseq⟩ := hB
  have hD := nodupB_spec hD
  refine wp_region_any hm ?_
  have hop : ∀ i, i < k → ∃ s, L[i]? = some s := fun i hi => ⟨_, List.getElem?_eq_getElem (by omega)⟩
  have main : ∀ (f : Nat) (listed : Array Bool) (a : Act) (w : World), HeadInv .any l.toArray k listed → ((List.range k).filter fun i => !listed.getD i true).length = f → Holds m w → Sat n S' a →
      (∀ j, j < k → listed.getD j false = true → FactAt m L j w a) → wpAny P .any l.toArray Q (f + (l.length - k)) listed a w := by
    intro f
    induction f with
    | zero =>
      intro listed a w inv hf hmw hsa hfacts
      rw [Nat.zero_add]
      have hall : ∀ i, i < k → listed.getD i false = true := fun i hi => by
        have h0 : (List.range k).filter (fun i => !listed.getD i true) = [] := List.eq_nil_of_length_eq_zero hf
        have h1 := List.filter_eq_nil_iff.1 h0 i (List.mem_range.2 hi)
        have hsz : i < listed.size := by rw [inv.size]; simp; omega
        simp [hsz] at h1 ⊢; exact h1
      have hpre := set_prefix (n := l.length) (by omega) (by rw [inv.size]; simp) hall (fun t ht1 ht2 => inv.tail t ht1 (by simpa using ht2))
      have hdl : (l.drop k).length = l.length - k := by simp
      have := wpAny_of_seq (P := P) (md := .any) (Q' := Q) (ops := l.toArray) (l.drop k) k listed a w (fun j => by simp [List.getElem?_drop]) (by rw [hdl, hpre]; exact hseq) (htail w a hmw hmw rfl hsa (fun j => by
        by_cases hj : j < k
        · exact hfacts j hj (hall j hj)
        · unfold FactAt; rw [List.getElem?_eq_none (by omega)]; trivial))
      rwa [hdl] at this
    | succ f ih =>
      intro listed a w inv hf hmw hsa hfacts
      rw [show f + 1 + (l.length - k) = (f + (l.length - k)) + 1 by omega]
      obtain ⟨i0, hi0⟩ : ∃ i, i ∈ (List.range k).filter fun i => !listed.getD i true := by
        cases hq : (List.range k).filter (fun i => !listed.getD i true) with
        | nil => rw [hq] at hf; cases hf
        | cons x _ => exact ⟨x, by simp⟩
      have hi0' := List.mem_filter.1 hi0
      have hi0k : i0 < k := List.mem_range.1 hi0'.1
      have hun0 : listed.getD i0 true = false := by simpa using hi0'.2
      have hlt : ∀ t, k ≤ t → t ∉ Region.ready .any l.toArray listed := tail_waits hsink hchain (by simpa using hkl) inv _ i0 rfl hi0k hun0
      refine ⟨fun hempty => ?_, fun i hi => ?_⟩
      · exfalso
        have key : ∀ q, q < k → listed.getD q true = false → False := by
          intro q
          induction q using Nat.strongRecOn with
          | _ q ihq =>
            intro hq hunq
            obtain ⟨s, hs⟩ := hop q hq
            obtain ⟨o, ho, _, _⟩ := hloc.at hs
            have hready : q ∈ Region.ready .any l.toArray listed := mem_ready.2 ⟨hunq, o, by simpa using ho, fun e he hb => by
              have hlt' := backB_spec hback ho e he hb
              have hsz : e.on < listed.size := by rw [inv.size]; simp; omega
              cases hl : listed.getD e.on false with
              | true => rfl
              | false => exact (ihq e.on hlt' (by omega) (getD_in hsz hl)).elim⟩
            rw [hempty] at hready; cases hready
        exact key i0 hi0k hun0
      · have hik : i < k := by
          rcases Nat.lt_or_ge i k with h | h
          · exact h
          · exact absurd hi (hlt i h)
        obtain ⟨hun, o', ho', hall⟩ := mem_ready.1 hi
        obtain ⟨s, hs⟩ := hop i hik
        obtain ⟨o, ho, hd, hl⟩ := hloc.at hs
        have hoo : o' = o := by have : l.toArray[i]? = some o := by simpa using ho
                                rw [this] at ho'; exact (Option.some.inj ho').symm
        subst hoo
        have hsn : Nat.blt s.1 n = true := List.all_eq_true.1 hn s (List.mem_of_getElem? hs)
        have hs0' : S' s.1 = none := by have := List.all_eq_true.1 hS0 s (List.mem_of_getElem? hs); simpa using this
        have hedge : ∀ j ∈ edgesOf o', FactAt m L j w a := fun j hj => by
          obtain ⟨e, he, rfl⟩ := List.mem_map.1 hj
          have he' := List.mem_filter.1 he
          exact hfacts e.on (by have := backB_spec hback ho e (by simpa using he'.1) he'.2; omega) (hall e (by simpa using he'.1) he'.2)
        have hloci := hl w a hmw hmw rfl hsa hedge
        have hszi : i < listed.size := by rw [inv.size]; simp; omega
        have next : ∀ v w', Below w.heap.size w w' → (s.2 v).p (m.frz w') w' → wpAny P .any l.toArray Q (f + (l.length - k)) (listed.setIfInBounds i true) (a.put o'.dst v) w' := fun v w' hb hv => by
          rw [hd]
          have hsz2 : s.1 < a.tmps.size := by rw [hsa.size]; simpa [Nat.blt_eq] using hsn
          refine ih _ _ _ (inv.set hi hik) ?_ (hmw.ext hb) (hsa.put_none hs0' v) (fun j hj hlj => ?_)
          · have e1 : (List.range k).filter (fun q => !(listed.setIfInBounds i true).getD q true) = ((List.range k).filter fun q => !listed.getD q true).filter (fun q => decide (q ≠ i)) := by
              rw [List.filter_filter]
              apply List.filter_congr
              intro q _
              by_cases hqi : q = i
              · subst hqi; simp [hszi]
              · rw [getD_set_ne true (fun e => hqi e.symm)]; simp [hqi]
            rw [e1]
            have hmem : i ∈ (List.range k).filter fun q => !listed.getD q true := List.mem_filter.2 ⟨List.mem_range.2 hik, by simp [hun]⟩
            have hndp : ((List.range k).filter fun q => !listed.getD q true).Nodup := List.Pairwise.filter _ List.nodup_range
            have h2 := List.Nodup.erase_eq_filter hndp i
            have h3 := List.length_erase_of_mem hmem
            rw [h2] at h3
            have h4 : List.filter (fun q => decide (q ≠ i)) ((List.range k).filter fun q => !listed.getD q true) = List.filter (fun q => q != i) ((List.range k).filter fun q => !listed.getD q true) := by
              apply List.filter_congr; intro q _; by_cases hqi : q = i <;> simp [hqi]
            rw [h4, h3, hf]; rfl
          · unfold FactAt
            by_cases hji : j = i
            · subst hji
              rw [hs]
              show (s.2 ((a.tmps.setIfInBounds s.1 v).getD s.1 undef)).p (m.frz w') w'
              have : (a.tmps.setIfInBounds s.1 v).getD s.1 undef = v := by simp [Array.getD_eq_getD_getElem?, hsz2]
              rw [this]; exact hv
            · rw [getD_set_ne false (fun e => hji e.symm)] at hlj
              have h1 := hfacts j hj hlj
              unfold FactAt at h1
              cases hLj : L[j]? with
              | none => trivial
              | some sj =>
                obtain ⟨dj, Rj⟩ := sj
                rw [hLj] at h1
                simp only at h1 ⊢
                have hne : dj ≠ s.1 := fun e => hji (nodup_idx hD (x := s.1) (by rw [List.getElem?_map, hLj]; simp [e]) (by rw [List.getElem?_map, hs]; rfl))
                have : (a.tmps.setIfInBounds s.1 v).getD dj undef = a.tmps.getD dj undef := by
                  simp only [Array.getD_eq_getD_getElem?]
                  rw [Array.getElem?_setIfInBounds_ne (fun e => hne e.symm)]
                show (Rj ((a.tmps.setIfInBounds s.1 v).getD dj undef)).p (m.frz w') w'
                rw [this]
                exact fact_ext hb h1
        unfold wpOp
        rw [show l.toArray[i]? = some o' by simpa using ho]
        simp only
        split
        · rename_i hw
          rw [if_pos hw] at hloci
          exact .inl (hloci.wp fun v w' h => next v w' h.1 h.2)
        · rename_i hw
          rw [if_neg hw] at hloci
          exact next undef w (Below.refl _ _) hloci
  have inv0 : HeadInv .any l.toArray k (Array.replicate l.toArray.size false) :=
    ⟨by simp, fun j oj _ hl => (by rw [getD_replicate_false] at hl; cases hl), fun t _ ht => getD_in (by simpa using ht) (getD_replicate_false _ _)⟩
  have hdrew : Below w.heap.size w { w with drawn := w.drawn + 1 } := (Below.refl _ _).drew
  have := main k (Array.replicate l.toArray.size false) a { w with drawn := w.drawn + 1 } inv0 (by
      have : (List.range k).filter (fun i => !(Array.replicate l.toArray.size false).getD i true) = List.range k := by
        apply List.filter_eq_self.2
        intro i hi
        have hik := List.mem_range.1 hi
        have : i < l.length := by omega
        simp [this]
      rw [this]; simp) (hm0.ext hdrew) (hS a hs0) (fun j _ hl => by rw [getD_replicate_false] at hl; cases hl)
  rw [show k + (l.length - k) = l.toArray.size by simp; omega] at this
  exact this
section
variable {P : Program} {Q : Exit → Act → World → Prop} {n : Nat} {m0 m : Mem} {S : Sl} {ops : Array Oper} {o : Oper} {E : List Nat} {L : Spec} {R : Value → Fact} {α ι : Type}
theorem Sat.put_at {a : Act} (h : Sat n S a) {d : Nat} {v : Value} (hv : a.tmps.getD d undef = v) : Sat n (En.put S d v) a :=
  ⟨h.def_, h.size, fun t u hu => by
    rcases put_some hu with ⟨rfl, rfl⟩ | ⟨_, hu⟩
    · exact hv
    · exact h.val t u hu⟩
theorem ld_eq {j d : Nat} {t : Value} (hL : L[j]? = some (d, fun v => fEq v t)) (hj : E.contains j = true) (h : LocD P ops m0 L o E n m (put S d t) R) : LocD P ops m0 L o E n m S R := fun w a h0 hm hf hs hE => by
  have h1 := hE j (by simpa using hj)
  unfold FactAt at h1; rw [hL] at h1
  exact h w a h0 hm hf (hs.put_at h1) hE
theorem ld_fact {j d : Nat} {R' : Value → Fact} (hL : L[j]? = some (d, R')) (hj : E.contains j = true) (h : ∀ v, LocD P ops m0 L o E n (m.add (R' v)) (put S d v) R) : LocD P ops m0 L o E n m S R := fun w a h0 hm hf hs hE => by
  have h1 := hE j (by simpa using hj)
  unfold FactAt at h1; rw [hL] at h1
  exact h _ w a h0 (hm.add (by rw [hf]; exact h1)) hf (hs.put_at rfl) hE
theorem ld_elt {j d k : Nat} {v : Value} (hL : L[j]? = some (d, fun p => fElt v p k)) (hj : E.contains j = true) (h : ∀ p, EltOf v p k → LocD P ops m0 L o E n m (put S d p) R) : LocD P ops m0 L o E n m S R := fun w a h0 hm hf hs hE => by
  have h1 := hE j (by simpa using hj)
  unfold FactAt at h1; rw [hL] at h1
  exact h _ h1 w a h0 hm hf (hs.put_at rfl) hE
theorem ld_val {v : Value} (hv : OpV P o n m S v) (hg : wantS ops S o true = true := by rfl) : LocD P ops m0 L o E n m S (fun u => fEq u v) := fun w a h0 hm hf hs hE => by
  rw [if_pos (wantS_of hs hg)]
  exact .inl ⟨v, w, hv w a hm hs, Below.refl _ _, rfl⟩
theorem ld_of (hv : OpF P o n m S R) (hg : wantS ops S o true = true := by rfl) : LocD P ops m0 L o E n m S R := fun w a h0 hm hf hs hE => by
  rw [if_pos (wantS_of hs hg)]
  obtain ⟨v, hr, hp⟩ := hv w a hm hs
  exact .inl ⟨v, w, hr, Below.refl _ _, by rw [← hf]; exact hp⟩
theorem ld_skip (hg : wantS ops S o false = true := by rfl) : LocD P ops m0 L o E n m S (fun u => fEq u undef) := fun w a h0 hm hf hs hE => by
  rw [if_neg (by rw [wantS_of hs hg]; simp)]; rfl
theorem ld_callV {f : FuncId} {fn : Func} {args : List Operand} {vs : List Value} {tys : Array TypeId} {pre : List Fact} {val : Value} (hfn : FnOk P f vs pre [] (fun _ : Unit => { val := val })) (iv : List Nat) (hpre : PreOk m iv pre) (hargs : args.map (ev S) = vs.map some) (hf : P.funcs[f]? = some fn) (hb : fn.body.isNone = false) (hnm : (fn.name == "runtime.NumGoroutine") = false)
    (ho : o.op = .call { callee := .value (.func f), args := args.toArray, argTypes := tys }) (hg : wantS ops S o true = true := by rfl) : LocD P ops m0 L o E n m S (fun u => fEq u val) := fun w a h0 hm hf' hs hE => by
  rw [if_pos (wantS_of hs hg)]
  refine .inr ⟨f, _, run_callV ho (evs hs hargs) hf hb hnm w, ?_⟩
  refine (hfn w (fun b => b < w.heap.size) (fun b h => h) (by simp) (by simp) (hpre w _ hm (fun b hb => hb.1) (fun j _ o ho b hb => hm.lt (List.mem_flatMap.2 ⟨o, List.mem_of_getElem? ho, hb⟩))) (by simp)).mono ?_
  rintro e w' ⟨i, he, hbel, _⟩
  exact ⟨val, he, (by simpa using hbel : Bel w.heap.size [] w w').below, rfl⟩
theorem tl_eq {l : List Oper} {d : Nat} {t : Value} (j : Nat) (hL : L[j]? = some (d, fun v => fEq v t)) (h : TailOk P ops l Q m0 L n m (put S d t)) : TailOk P ops l Q m0 L n m S := fun w a h0 hm hf hs hE => by
  have h1 := hE j
  unfold FactAt at h1; rw [hL] at h1
  exact h w a h0 hm hf (hs.put_at h1) hE
theorem tl_done {l : List Oper} (h : AL P ops l Q n m S) : TailOk P ops l Q m0 L n m S := fun w a h0 hm hf hs hE => h w a hm hs
theorem of_idxR {τ : Ty α} {v : Value} {xs : List α} (i : Nat) {t e et : TypeId} {x y : Operand} {k : IntKind} {j : Int} (h0 : 0 ≤ j) (h1 : j < xs.length) (hi : m.own[i]? = some (oRow v et τ xs)) (hx : ev S x = some v) (hy : ev S y = some (.int k j)) (ht : P.underlying t = some (.slice e)) (hsz : szOf P e = some τ.size) (ho : o.op = .indexAddr t x y) : OpF P o n m S (fun p => fElt v p (j.toNat * τ.size)) := fun w a hm hs => by
  obtain ⟨cs, hr1, hr2⟩ := own_at hm hi
  rcases hr1.2 with ⟨rfl, hn⟩ | ⟨g, cap, cur, rfl, r⟩
  · omega
  refine ⟨.pointer (some ⟨g, j.toNat * τ.size, none⟩), ?_, ⟨g, _, _, rfl, rfl⟩⟩
  unfold execOp
  simp only [ho, hs.ev hx, hs.ev hy]
  simp [Instr.indexAt, asIntOf, Sem.run_bind, run_underlying ht, h0, h1, run_sizeOf' hsz, add_plain]
end
end Go.Proofs.Ythdifoidlpiikaa.En
namespace Go.Proofs.Ythdifoidlpiikaa.En
open Go.RowKit Go.ChangeShapes Go.WideShapes Go.Deep
set_option linter.unusedVariables false
set_option linter.unusedSimpArgs false
section
variable {H : Type} {P : Program} {α β : Type}
def Full (w : World) (b : Nat) : Prop := b < w.heap.size
def Opn (H : Type) (P : Program) (t : TypeId) (τ : Ty α) (ok : α → Prop) : Prop := ∀ (enc : TypeId × Value → H) (w : World) (base : Nat) (spare : Nat → Bool) (held : Bool) (n : Nat) (cs : List Value) y, DataW.trod enc P w base spare held n t cs = some y → ∃ x, ok x ∧ τ.rep (Full w) w cs x
theorem opn_int {t : TypeId} {k : IntKind} (hu : P.underlying t = some (.int k)) : Opn H P t (tyInt k) (fun x => (Lit.int k x).wf = true) := fun enc w base spare held n cs y h => by
  obtain ⟨x, hx, _, hwf⟩ := DataW.trod_int hu h
  exact ⟨x, hwf, hx⟩
theorem opn_u8 {t : TypeId} (hu : P.underlying t = some (.int .u8)) : Opn H P t tyU8 (fun _ => True) := fun enc w base spare held n cs y h => by
  obtain ⟨x, hx, _, hwf⟩ := DataW.trod_int hu h
  have h1 : 0 ≤ x ∧ x ≤ 255 := by simpa [Lit.wf, IntKind.min, IntKind.max, IntKind.signed, IntKind.bits] using hwf
  exact ⟨UInt8.ofNat x.toNat, trivial, by rw [hx]; exact u8_rep h1⟩
theorem RepL.mk' {τ : Ty α} {Z : Nat → Prop} {w : World} : ∀ (xs : List α) (CS : List (List Value)), CS.length = xs.length → (∀ (i : Nat) (c : List Value) (x : α), CS[i]? = some c → xs[i]? = some x → τ.rep Z w c x) → RepL τ Z w CS.flatten xs
  | [], [], _, _ => rfl
  | [], _ :: _, h, _ => by simp at h
  | _ :: _, [], h, _ => by simp at h
  | x :: xs, c :: CS, h, hr => ⟨c, CS.flatten, rfl, hr 0 c x rfl rfl, RepL.mk' xs CS (by simpa using h) (fun i c' x' h1 h2 => hr (i + 1) c' x' (by simpa using h1) (by simpa using h2))⟩
theorem exists_list {γ : Type} {p : Nat → γ → Prop} : ∀ n : Nat, (∀ i, i < n → ∃ x, p i x) → ∃ l : List γ, l.length = n ∧ ∀ (i : Nat) (x : γ), l[i]? = some x → p i x
  | 0, _ => ⟨[], rfl, by simp⟩
  | n + 1, h => by
    obtain ⟨l, hl, hp⟩ := exists_list n (fun i hi => h i (by omega))
    obtain ⟨x, hx⟩ := h n (by omega)
    refine ⟨l ++ [x], by simp [hl], fun i y hy => ?_⟩
    by_cases hi : i < n
    · rw [List.getElem?_append_left (by omega)] at hy; exact hp i y hy
    · have hlt := (List.getElem?_eq_some_iff.1 hy).1
      rw [List.length_append, hl] at hlt
      have : i = n := by simp at hlt; omega
      subst this
      rw [List.getElem?_append_right (by omega), hl] at hy
      simp at hy; subst hy; exact hx
def okL (ok : α → Prop) (xs : List α) : Prop := xs.length ≤ 9223372036854775807 ∧ ∀ x ∈ xs, ok x
theorem opn_list {t e : TypeId} {τ : Ty α} {ok : α → Prop} (hu : P.underlying t = some (.slice e)) (hsz : szOf P e = some τ.size) (hpos : Nat.blt 0 τ.size = true) (he : Opn H P e τ ok) : Opn H P t (tyList τ) (okL ok) := fun enc w base spare held n cs y h => by
  have hce : P.cellsOf e = τ.size := by
    unfold szOf at hsz; unfold Program.cellsOf; rw [hsz]; rfl
  rcases open_slice hu h with ⟨hcs, _⟩ | ⟨a, len, cap, m, n', D, Pl, hcs, hb, hle, hm, hmm, _, hx⟩
  · exact ⟨[], ⟨by simp, by simp⟩, none, 0, 0, hcs, rfl, Nat.le_refl _, Nat.zero_le _, .inl rfl⟩
  · have hmn : len ≤ m := by rw [hmm]; split <;> omega
    obtain ⟨L, hL, hp⟩ := exists_list (γ := List Value × α) (p := fun i p => w.cells? base (a.add (i * P.cellsOf e)) (P.cellsOf e) = some p.1 ∧ ok p.2 ∧ τ.rep (Full w) w p.1 p.2) len (fun i hi => by
      obtain ⟨cs', h1, h2⟩ := hx i (by omega)
      obtain ⟨x, hok, hr⟩ := he enc w base spare held _ cs' _ h2
      exact ⟨(cs', x), h1, hok, hr⟩)
    have hlen : (L.map (·.2)).length = len := by simp [hL]
    refine ⟨L.map (·.2), ⟨by rw [hlen]; unfold maxLen at hm; omega, fun x hx => ?_⟩, some a, len, cap, hcs, hlen.symm, hle, Nat.le_trans hle hm, ?_⟩
    · obtain ⟨p, hpm, rfl⟩ := List.mem_map.1 hx
      obtain ⟨i, hi⟩ := List.getElem?_of_mem hpm
      exact (hp i p hi).2.1
    · by_cases h0 : len = 0
      · exact .inl h0
      right
      have hchunk : ∀ c ∈ L.map (·.1), c.length = τ.size := fun c hc => by
        obtain ⟨p, hpm, rfl⟩ := List.mem_map.1 hc
        obtain ⟨i, hi⟩ := List.getElem?_of_mem hpm
        exact τ.len (hp i p hi).2.2
      refine ⟨a, (L.map (·.1)).flatten, rfl, ⟨?_, fun j u hj => ?_⟩, RepL.mk' _ _ (by simp) (fun i c x h1 h2 => ?_)⟩
      · obtain ⟨p, hpi⟩ : ∃ p, L[0]? = some p := ⟨L[0], List.getElem?_eq_getElem (by omega)⟩
        obtain ⟨_, hl2, hat⟩ := World.cells?_some (hp 0 p hpi).1
        have hpos' : 0 < τ.size := by simpa [Nat.blt_eq] using hpos
        have hc := hat 0 (by rw [hce]; exact hpos')
        have hlt : 0 < p.1.length := by rw [hl2, hce]; exact hpos'
        rw [List.getElem?_eq_getElem hlt] at hc
        have := World.block_lt_of_cell? w _ hc
        rw [add_block, add_block] at this
        exact this
      · -- the cell j lies in the chunk j / size
        have key : ∀ (CS : List (List Value)) (i0 : Nat), (∀ c ∈ CS, c.length = τ.size) → (∀ i c, CS[i]? = some c → ∀ r, r < τ.size → w.cell? ((a.add ((i0 + i) * τ.size)).add r) = c[r]?) → ∀ j u, CS.flatten[j]? = some u → w.cell? (a.add (i0 * τ.size + j)) = some u := by
          intro CS
          induction CS with
          | nil => intro i0 _ _ j u hj; simp at hj
          | cons c CS ih =>
            intro i0 hc hcell j u hj
            rw [List.flatten_cons] at hj
            have hcl := hc c (by simp)
            by_cases hjc : j < τ.size
            · rw [List.getElem?_append_left (by omega)] at hj
              have := hcell 0 c rfl j hjc
              rw [add_add, Nat.add_zero, hj] at this
              exact this
            · rw [List.getElem?_append_right (by omega), hcl] at hj
              have := ih (i0 + 1) (fun c' hc' => hc c' (by simp [hc'])) (fun i c' hi r hr => by
                have := hcell (i + 1) c' (by simpa using hi) r hr
                rw [show i0 + 1 + i = i0 + (i + 1) by omega]; exact this) (j - τ.size) u hj
              rw [Nat.succ_mul] at this
              rw [show i0 * τ.size + j = i0 * τ.size + τ.size + (j - τ.size) by omega]
              exact this
        have := key (L.map (·.1)) 0 hchunk (fun i c hi r hr => by
          rw [List.getElem?_map] at hi
          obtain ⟨p, hpi, rfl⟩ := Option.map_eq_some_iff.1 hi
          obtain ⟨_, _, hat⟩ := World.cells?_some (hp i p hpi).1
          rw [hce] at hat
          rw [Nat.zero_add]
          exact hat r hr) j u hj
        rw [Nat.zero_mul, Nat.zero_add] at this
        exact this
      · rw [List.getElem?_map] at h1 h2
        obtain ⟨p, hpi, rfl⟩ := Option.map_eq_some_iff.1 h1
        obtain ⟨q, hqi, rfl⟩ := Option.map_eq_some_iff.1 h2
        rw [hpi] at hqi
        cases hqi
        exact (hp i p hpi).2.2
def FieldsOpn (H : Type) (P : Program) (fs : List (Nat × TypeId)) (off : Nat) (τ : Ty α) (ok : α → Prop) : Prop := ∀ (enc : TypeId × Value → H) (w : World) (base : Nat) (spare : Nat → Bool) (held : Bool) (n : Nat) (cs : List Value),
  (∀ f ∈ fs, ∃ y, DataW.trod enc P w base spare held n f.2 ((cs.drop f.1).take (P.cellsOf f.2)) = some y) → ∃ x, ok x ∧ τ.rep (Full w) w ((cs.drop off).take τ.size) x
theorem fields_one {t : TypeId} {off : Nat} {τ : Ty α} {ok : α → Prop} (hsz : szOf P t = some τ.size) (h : Opn H P t τ ok) : FieldsOpn H P [(off, t)] off τ ok := fun enc w base spare held n cs hf => by
  obtain ⟨y, hy⟩ := hf (off, t) (by simp)
  have hce : P.cellsOf t = τ.size := by unfold szOf at hsz; unfold Program.cellsOf; rw [hsz]; rfl
  rw [hce] at hy
  exact h enc w base spare held n _ y hy
theorem fields_cons {t : TypeId} {off : Nat} {τ : Ty α} {υ : Ty β} {ok : α → Prop} {okb : β → Prop} {fs : List (Nat × TypeId)} (hsz : szOf P t = some τ.size) (h : Opn H P t τ ok) (hr : FieldsOpn H P fs (off + τ.size) υ okb) : FieldsOpn H P ((off, t) :: fs) off (tyPair τ υ) (fun x => ok x.1 ∧ okb x.2) := fun enc w base spare held n cs hf => by
  obtain ⟨y, hy⟩ := hf (off, t) (by simp)
  have hce : P.cellsOf t = τ.size := by unfold szOf at hsz; unfold Program.cellsOf; rw [hsz]; rfl
  rw [hce] at hy
  obtain ⟨x, h1, h2⟩ := h enc w base spare held n _ y hy
  obtain ⟨z, h3, h4⟩ := hr enc w base spare held n cs (fun f hff => hf f (by simp [hff]))
  refine ⟨(x, z), ⟨h1, h3⟩, _, _, ?_, h2, h4⟩
  rw [show (tyPair τ υ).size = τ.size + υ.size from rfl, List.take_add, List.drop_drop]
theorem opn_struct {t : TypeId} {fs : Array Field} {υ : Ty β} {ok : β → Prop} (f : α → β) (g : β → α) (hfg : ∀ y, f (g y) = y) (hu : P.underlying t = some (.struct fs)) (hsz : szOf P t = some υ.size) (hr : FieldsOpn H P (fs.toList.map fun f => (f.offset, f.type)) 0 υ ok) : Opn H P t (tyVia f υ) (fun x => ok (f x)) := fun enc w base spare held n cs y h => by
  obtain ⟨xs, m, _, _, hcl, hxl, hf⟩ := DataW.trod_struct hu h
  have hce : P.cellsOf t = υ.size := by unfold szOf at hsz; unfold Program.cellsOf; rw [hsz]; rfl
  obtain ⟨z, h1, h2⟩ := hr enc w base spare held m cs (fun p hp => by
    obtain ⟨fl, hfl, rfl⟩ := List.mem_map.1 hp
    obtain ⟨i, hi⟩ := List.getElem?_of_mem hfl
    have hi' : fs[i]? = some fl := by simpa using hi
    have hlt : i < xs.length := by rw [hxl]; exact (Array.getElem?_eq_some_iff.1 hi').1
    exact ⟨xs[i], (hf i fl hi').trans (List.getElem?_eq_getElem hlt)⟩)
  refine ⟨g z, (by show ok (f (g z)); rw [hfg]; exact h1), ?_⟩
  show υ.rep _ _ cs (f (g z))
  rw [hfg]
  rw [List.drop_zero, List.take_of_length_le (by rw [hcl, hce]; exact Nat.le_refl _)] at h2
  exact h2
theorem opn_array {t e : TypeId} {k : Nat} {υ : Ty β} {ok : β → Prop} (f : α → β) (g : β → α) (hfg : ∀ y, f (g y) = y) (hu : P.underlying t = some (.array k e)) (hsz : szOf P t = some υ.size) (hr : FieldsOpn H P ((List.range k).map fun i => (i * P.cellsOf e, e)) 0 υ ok) : Opn H P t (tyVia f υ) (fun x => ok (f x)) := fun enc w base spare held n cs y h => by
  obtain ⟨xs, m, _, _, hcl, hxl, hf⟩ := DataW.trod_array hu h
  have hce : P.cellsOf t = υ.size := by unfold szOf at hsz; unfold Program.cellsOf; rw [hsz]; rfl
  obtain ⟨z, h1, h2⟩ := hr enc w base spare held m cs (fun p hp => by
    obtain ⟨i, hi, rfl⟩ := List.mem_map.1 hp
    have hik := List.mem_range.1 hi
    exact ⟨xs[i], (hf i hik).trans (List.getElem?_eq_getElem (by omega))⟩)
  refine ⟨g z, (by show ok (f (g z)); rw [hfg]; exact h1), ?_⟩
  show υ.rep _ _ cs (f (g z))
  rw [hfg]
  rw [List.drop_zero, List.take_of_length_le (by rw [hcl, hce]; exact Nat.le_refl _)] at h2
  exact h2
variable {w : World} {base : Nat} {spare : Nat → Bool} {held : Bool} {enc : TypeId × Value → H} {v : Value} {d : DataW H} {ps : List MemPlace} {r : Reach} {b0 : Nat} {t : TypeId}
theorem par_str (ht : P.underlying t = some .string) (hval : Value.okWide P w r b0 t v) (hd : DataW.Trod enc P w base spare held t v d ps) : ∃ l : List UInt8, v = str l ∧ d = .lit (.string l) ∧ ps = [] ∧ l.length ≤ 9223372036854775807 := by
  obtain ⟨s, rfl⟩ := okWide_string ht hval
  obtain ⟨fuel, hf⟩ := hd
  obtain ⟨s', h, hx, hs⟩ := DataW.trod_string ht hf
  simp [Value.cells] at h
  subst h
  simp at hx
  exact ⟨s.data.toList, by simp [str], hx.1, hx.2, by unfold maxLen at hs; simpa using hs⟩
theorem par_slice {e : TypeId} {τ : Ty α} {ok : List α → Prop} (ht : P.underlying t = some (.slice e)) (ho : Opn H P t (tyList τ) ok) (hval : Value.okWide P w r b0 t v) (hd : DataW.Trod enc P w base spare held t v d ps) : ∃ xs, ok xs ∧ (tyList τ).rep (Full w) w [v] xs := by
  obtain ⟨A, l, c, rfl⟩ := okWide_slice ht hval
  obtain ⟨fuel, hf⟩ := hd
  exact ho enc w base spare held fuel _ _ hf
theorem par_agg {τ : Ty α} {ok : α → Prop} {dd : TypeDesc} (ht : P.underlying t = some dd) (hdd : isAggD dd = true) (ho : Opn H P t τ ok) (hval : Value.okWide P w r b0 t v) (hd : DataW.Trod enc P w base spare held t v d ps) : ∃ cs x, v = ag cs ∧ ok x ∧ τ.rep (Full w) w cs x := by
  have : ∃ cs : Array Value, v = .agg cs := by
    unfold Value.okWide at hval
    rw [ht] at hval
    cases dd <;> simp [isAggD] at hdd <;> (obtain ⟨cs, h, _⟩ := hval; exact ⟨cs, h⟩)
  obtain ⟨cs, rfl⟩ := this
  obtain ⟨fuel, hf⟩ := hd
  obtain ⟨x, h1, h2⟩ := ho enc w base spare held fuel _ _ hf
  exact ⟨cs.toList, x, by simp [ag], h1, h2⟩
theorem law_call {f : FuncId} {args : List Value} {pre : List Fact} {W : World} (h : FnOk P f args pre [] (fun _ : Unit => { val := .bool true })) (hpre : ∀ g ∈ pre, g.p (Full W) W) :
    Calls P f args.toArray W fun e w' => e = .returned (.bool true) ∧ Below W.heap.size W w' :=
  (h W (Full W) (fun b h => h) (by simp) (by simp) hpre (by simp)).mono (by
    rintro e w' ⟨i, he, hbel, _⟩
    exact ⟨he, (by simpa using hbel : Bel W.heap.size [] W w').below⟩)
theorem all_nil : ∀ g ∈ ([] : List Fact), g.p (Full w) w := by simp
theorem all_cons {g : Fact} {l : List Fact} (h : g.p (Full w) w) (hl : ∀ g ∈ l, g.p (Full w) w) : ∀ g' ∈ g :: l, g'.p (Full w) w := by
  intro g' hg'
  rcases List.mem_cons.1 hg' with rfl | hg'
  · exact h
  · exact hl g' hg'
end
end Go.Proofs.Ythdifoidlpiikaa.En
namespace Go.Proofs.Ythdifoidlpiikaa.En
open Go.RowKit
set_option linter.unusedVariables false
set_option linter.unusedSimpArgs false
section
variable {P : Program} {Q : Exit → Act → World → Prop} {n : Nat} {m : Mem} {S : Sl} {ops : Array Oper} {rest : List Oper} {o : Oper} {α β ι : Type}
theorem al_isNilD {d : Nat} {τ : Ty α} {v : Value} {xs : List α} (i : Nat) {t e yt : TypeId} {x y : Operand} (hi : m.fz[i]? = some (fDat (tyList τ) [v] xs)) (hx : ev S x = some v) (hy : ev S y = some (.slice none 0 0)) (ht : P.underlying t = some (.slice e)) (ho : o.op = .binOp .eql t x y yt)
    (h : ∀ b, (b = true → xs = []) → AL P ops rest Q n m (put S d (.bool b))) (hdd : o.dst = some d := by rfl) (hd : Nat.blt d n = true := by rfl) (hg : wantS ops S o true = true := by rfl) : AL P ops (o :: rest) Q n m S :=
  al_step hg fun w a hm hs K hK => by
    obtain ⟨A, l, c, he, hl, _, _, hr⟩ := fz_at hm hi
    have he' : v = .slice A l c := by simpa using he
    refine step_val (w' := w) (v := .bool A.isNone) ?_ (hK _ _ (h _ (fun hb => ?_) w _ hm (hs.put' hdd hd _)))
    · unfold execOp
      simp only [ho, hs.ev hx, hs.ev hy, he']
      simp [eqGuard, binOp, run_equal_slice_nil (P := P) w t e A l c ht]
    · rcases hr with hr | ⟨ad, cs, rfl, _⟩
      · exact List.eq_nil_of_length_eq_zero (by omega)
      · cases hb
def amb {β : Type} [DecidableEq β] (c : Bool) (a b : Option β) : Option β := bif c then (if a = b then b else none) else b
theorem amb_some {β : Type} [DecidableEq β] {c : Bool} {a b : Option β} {r : β} (h : amb c a b = some r) : b = some r ∧ (c = true → a = some r) := by
  unfold amb at h
  cases c with
  | false => exact ⟨h, fun h => by cases h⟩
  | true =>
    simp only [cond_true] at h
    split at h
    · rename_i he; exact ⟨h, fun _ => he ▸ h⟩
    · cases h
theorem isEmpty_of {xs : List α} (h : xs = []) : xs.isEmpty = true := by rw [h]; rfl
theorem ov_capN {t e : TypeId} {x : Operand} {A : Option Addr} {k c : Nat} (hx : ev S x = some (.slice A k c)) (ht : P.underlying t = some (.slice e)) (ho : o.op = .call { callee := .builtin .cap, args := #[x], argTypes := #[t] }) : OpV P o n m S (.int .i64 c) := fun w a hm hs => by
  unfold execOp
  simp [ho, resolve, invoke, builtin, hs.ev hx, Builtin.cap_, run_underlying ht, goInt]
theorem ov_cutN {t e : TypeId} {x z : Operand} {kz : IntKind} {k : Nat} (hx : ev S x = some (.slice none 0 0)) (hz : ev S z = some (.int kz 0)) (ht : P.underlying t = some (.slice e)) (hsz : szOf P e = some k) (ho : o.op = .slice t x none (some z) none) : OpV P o n m S (.slice none 0 0) := fun w a hm hs => by
  unfold execOp
  simp only [ho, hs.ev hx, Option.map_some, Option.map_none, hs.ev hz]
  simp [Instr.sliceAt, Instr.slice, Instr.sliceBounds, Instr.sliceBound, asIntOf, run_underlying ht, run_sizeOf' hsz]
theorem zeros_rep {τ : Ty α} {z : Value} {x : α} (hz : ∀ Z w, τ.rep Z w z.cells.toList x) (Z : Nat → Prop) (w : World) (k : Nat) : RepL τ Z w (Builtin.zeroCells z.cells k).toList (List.replicate k x) := by
  have := repl_rep hz Z w k
  have hl : z.cells.toList.length = τ.size := τ.len (hz Z w)
  have hsz : z.cells.size = τ.size := by rw [← Array.length_toList]; exact hl
  have he : (Builtin.zeroCells z.cells k).toList = (madeCells z.cells (k * τ.size)).toList := by
    unfold Builtin.zeroCells madeCells
    simp [hsz]
  rw [he]; exact this
theorem al_appendZ {d : Nat} {τ : Ty α} {x0 : α} {t tn e : TypeId} {x y : Operand} {k kn : IntKind} {l : Int} {by_ : Nat} {z : Value} (h0 : 0 < l) (hb : l * (by_ : Int) ≤ 140737488355328) (h63 : l ≤ 9223372036854775807)
    (hx : ev S x = some (.slice none 0 0)) (hy : ev S y = some (.int k l)) (ht : P.underlying t = some (.slice e)) (htn : P.underlying tn = some (.int kn)) (hin : tyOf P e = some (τ.size, by_, some z)) (hz : ∀ Z w, τ.rep Z w z.cells.toList x0) (hsz : Nat.blt 0 τ.size = true)
    (ho : o.op = .call { callee := .builtin .append, args := #[x, y], argTypes := #[t, tn] })
    (h : ∀ v, AL P ops rest Q n (m.push (oRow v e τ (List.replicate l.toNat x0))) (put S d v)) (hdd : o.dst = some d := by rfl) (hd : Nat.blt d n = true := by rfl) (hg : wantS ops S o true = true := by rfl) : AL P ops (o :: rest) Q n m S :=
  al_step hg fun w a hm hs K hK => by
    obtain ⟨inf, hi1, hi2, hi3, hi4⟩ := tyOf_parts hin
    have hsz' : 0 < τ.size := by simpa [Nat.blt_eq] using hsz
    obtain ⟨q, rfl⟩ : ∃ q : Nat, l = q := ⟨l.toNat, by omega⟩
    have hb' : q * by_ ≤ 140737488355328 := by
      have : ((q * by_ : Nat) : Int) ≤ 140737488355328 := by rw [Int.natCast_mul]; exact hb
      omega
    have hr := Lib.run_append_nil_zeros (P := P) w t tn o.type e inf z k kn ht htn hi1 hi2 q (by omega) (by omega) h63 (by rw [hi4]; omega)
    have hge := grownCap_ge w q 0 e
    have hcm : grownCap w q 0 e ≤ maxLen := grownCap_le_maxLen w q 0 e (by unfold maxLen; omega)
    have hzl : z.cells.size = τ.size := by rw [← Array.length_toList]; exact τ.len (hz (fun _ => False) w)
    refine step_val (w' := w.drew.alloc (.cells (Builtin.zeroCells z.cells q ++ Builtin.zeroCells z.cells (grownCap w q 0 e - q)) e)) (v := .slice (some ⟨w.heap.size, 0, none⟩) q (grownCap w q 0 e)) (by
      unfold execOp; simp only [ho, resolve, invoke, builtin, Sem.run_bind, Sem.run_pure, Result.andThen_ok, List.map_toArray, List.map_cons, List.map_nil, hs.ev hx, hs.ev hy, hr]) ?_
    have hbel : Below w.heap.size w (w.drew.alloc (.cells (Builtin.zeroCells z.cells q ++ Builtin.zeroCells z.cells (grownCap w q 0 e - q)) e)) := ((Below.refl _ _).drew).alloc (Nat.le_refl _) _
    refine hK _ _ (h _ _ _ (hm.push hbel (ownBlock_nodup _) (by simp [oRow, Value.ownBlock]) (fun Z hZ => ?_)) (hs.put' hdd hd _))
    have hrep := zeros_rep hz Z (w.drew.alloc (.cells (Builtin.zeroCells z.cells q ++ Builtin.zeroCells z.cells (grownCap w q 0 e - q)) e)) q
    have hs1 : (Builtin.zeroCells z.cells q).size = q * τ.size := by rw [← Array.length_toList, hrep.len]; simp
    have hs2 : (Builtin.zeroCells z.cells (grownCap w q 0 e - q)).size = (grownCap w q 0 e - q) * τ.size := by
      have := (zeros_rep hz Z w (grownCap w q 0 e - q)).len
      rw [← Array.length_toList, this]; simp
    refine ⟨(Builtin.zeroCells z.cells q).toList, ⟨by simp [hs1], .inr ⟨w.heap.size, grownCap w q 0 e, _, by simp, Nat.zero_le _, heap_alloc_new w.drew _, by simpa using hge, hcm, ?_, ?_⟩⟩, ?_⟩
    · rw [Array.size_append, hs1, hs2, ← Nat.add_mul]; congr 1; omega
    · simp [hs1]
    · simpa using hrep
end
end Go.Proofs.Ythdifoidlpiikaa.En
namespace Go.Proofs.Ythdifoidlpiikaa.En
open Go.RowKit
set_option linter.unusedVariables false
set_option linter.unusedSimpArgs false
section
variable {P : Program} {Q : Exit → Act → World → Prop} {n : Nat} {m : Mem} {S : Sl} {ops : Array Oper} {rest : List Oper} {o : Oper} {α β ι : Type}
theorem Holds.freezeB {w : World} (hm : Holds m w) {i g : Nat} {t : TypeId} {cs : List Value} {τ : Ty α} {x : α} (hi : m.own[i]? = some (oBox g t cs)) (hX : m.X = []) (hrep : ∀ Z w, τ.rep Z w cs x) :
    Holds (Mem.add { m with own := m.own.take i ++ m.own.drop (i + 1) } (fPtr τ (ptr g 0) x)) w := by
  have hsub : ∀ x ∈ m.own.take i ++ m.own.drop (i + 1), x ∈ m.own := fun x hx => by
    rcases List.mem_append.1 hx with hx | hx
    · exact List.mem_of_mem_take hx
    · exact List.mem_of_mem_drop hx
  have hmo : oBox g t cs ∈ m.own := List.mem_of_getElem? hi
  have hnd0 : ((oBox g t cs :: (m.own.take i ++ m.own.drop (i + 1))).flatMap Own.blk).Nodup := (perm_get hi).nodup_iff.1 hm.nd
  rw [List.flatMap_cons, List.nodup_append] at hnd0
  have h1 := hm.reown (m.own.take i ++ m.own.drop (i + 1)) hsub hnd0.2.1
  have hg : g ∈ (oBox g t cs).blk := by simp [oBox]
  refine h1.add ⟨⟨g, 0, none⟩, cs, rfl, ⟨⟨?_, fun hx => ?_, fun hlt => ?_⟩, fun j u hu => ?_⟩, hrep _ _⟩
  · exact (oBox g t cs).lt (own_at hm hi) g hg
  · exact hnd0.2.2 g hg g hx rfl
  · rcases hm.lo g (List.mem_flatMap.2 ⟨_, hmo, hg⟩) with h | h
    · have hlt' : g < m.B := hlt; omega
    · rw [hX] at h; simp at h
  · rw [box_cell hm hi, Nat.zero_add]; exact hu
theorem aw_freezeB {c : Code} (i : Nat) {g : Nat} {t : TypeId} {cs : List Value} {τ : Ty α} (x : α) (hi : m.own[i]? = some (oBox g t cs)) (hX : m.X = []) (hrep : ∀ Z w, τ.rep Z w cs x)
    (h : AW P c Q n (Mem.add { m with own := m.own.take i ++ m.own.drop (i + 1) } (fPtr τ (ptr g 0) x)) S) : AW P c Q n m S := fun w a hm hs => h w a (hm.freezeB hi hX hrep) hs
theorem ptr_list {β : Type} {τA : Ty β} {τ : Ty α} {v : Value} {x : β} {xs : List α} {i : Nat} (hi : m.fz[i]? = some (fPtr τA v x)) (hL : ∀ {Z w cs}, τA.rep Z w cs x → RepL τ Z w cs xs) (hmx : Nat.ble xs.length 100000 = true) {w : World} (hm : Holds m w) :
    ∃ ad, v = .pointer (some ad) ∧ (tyList τ).rep (m.frz w) w [.slice (some ad) xs.length xs.length] xs := by
  obtain ⟨ad, cs, rfl, hca, hrep⟩ := fz_at hm hi
  have := Nat.le_of_ble_eq_true hmx
  exact ⟨ad, rfl, _, _, _, rfl, rfl, Nat.le_refl _, by unfold maxLen; omega, .inr ⟨ad, cs, rfl, hca, hL hrep⟩⟩
theorem of_sliceP {β : Type} {τA : Ty β} {τ : Ty α} {v : Value} {x : β} {xs : List α} (i : Nat) {t e : TypeId} {len : Nat} {y : Operand} (hL : ∀ {Z w cs}, τA.rep Z w cs x → RepL τ Z w cs xs) (hlen : xs.length = len) (hmx : Nat.ble xs.length 100000 = true) (hi : m.fz[i]? = some (fPtr τA v x)) (hx : ev S y = some v) (ht : P.underlying t = some (.array len e)) (hsz : szOf P e = some τ.size) (ho : o.op = .slice t y none none none) : OpF P o n m S (fun u => fDat (tyList τ) [u] xs) := fun w a hm hs => by
  obtain ⟨ad, rfl, hr⟩ := ptr_list hi hL hmx hm
  have hsd := slice_dat (l := 0) (h := xs.length) hr (by omega) (Nat.le_refl _)
  rw [List.take_length, List.drop_zero] at hsd
  refine ⟨_, ?_, hsd⟩
  subst hlen
  unfold execOp
  simp only [ho, hs.ev hx, Option.map_none]
  simp [Instr.sliceAt, Instr.sureAddr, Instr.sliceBounds, Instr.sliceBound, asIntOf, Sem.run_bind, run_underlying ht, run_sizeOf' hsz]
  split <;> rfl
theorem ov_min3 {x y z : Operand} {tys : Array TypeId} {k : IntKind} {p q r : Int} (ho : o.op = .call { callee := .builtin .min, args := #[x, y, z], argTypes := tys }) (hx : ev S x = some (.int k p)) (hy : ev S y = some (.int k q)) (hz : ev S z = some (.int k r)) : OpV P o n m S (.int k (if r < (if q < p then q else p) then r else (if q < p then q else p))) := fun w a _ hs => by
  unfold execOp
  simp [ho, resolve, invoke, builtin, hs.ev hx, hs.ev hy, hs.ev hz, Builtin.min_, Builtin.min2]
theorem ov_max3 {x y z : Operand} {tys : Array TypeId} {k : IntKind} {p q r : Int} (ho : o.op = .call { callee := .builtin .max, args := #[x, y, z], argTypes := tys }) (hx : ev S x = some (.int k p)) (hy : ev S y = some (.int k q)) (hz : ev S z = some (.int k r)) : OpV P o n m S (.int k (if r > (if q > p then q else p) then r else (if q > p then q else p))) := fun w a _ hs => by
  unfold execOp
  simp [ho, resolve, invoke, builtin, hs.ev hx, hs.ev hy, hs.ev hz, Builtin.max_, Builtin.max2]
theorem ov_fieldA {t : TypeId} {x : Operand} {j g off k p : Nat} {fs : Array Field} {f : Field} (hx : ev S x = some (ptr g off)) (hu : P.underlying t = some (.struct fs)) (hf : fs[j]? = some f) (hk : szOf P f.type = some k) (hk0 : Nat.beq k 0 = false) (ho : o.op = .fieldAddr t x j) (hp : off + f.offset = p) : OpV P o n m S (ptr g p) := by
  subst hp; exact ov_fieldAddr hx hu hf hk hk0 ho
theorem co_app {l r : List Value} (h : ∀ u ∈ l, u.oneCell' = true) (hr : CO m r) : CO m (l ++ r) := fun hm u hu => by
  rcases List.mem_append.1 hu with hu | hu
  · exact h u hu
  · exact hr hm u hu
theorem ones_map {enc : α → Value} {xs : List α} (h : ∀ x, (enc x).oneCell' = true) : ∀ u ∈ xs.map enc, u.oneCell' = true := fun u hu => by
  obtain ⟨x, _, rfl⟩ := List.mem_map.1 hu; exact h x
end
end Go.Proofs.Ythdifoidlpiikaa.En
namespace Go.Proofs.Ythdifoidlpiikaa.En
open Go.RowKit Go.Sort
set_option linter.unusedVariables false
set_option linter.unusedSimpArgs false
def KnownAt (L : List (Nat × Value)) (j : Nat) (a : Act) : Prop := match L[j]? with | some (d, v) => a.tmps.getD d undef = v | none => True
def LocC (P : Program) (ops : Array Oper) (C : World → Prop) (L : List (Nat × Value)) (o : Oper) (E : List Nat) (n : Nat) (S : Sl) (v : Value) : Prop := ∀ w a, C w → Sat n S a → (∀ j ∈ E, KnownAt L j a) →
  if Region.wanted o (yielded ops a.tmps) then Tame P o a w (fun u w' => u = v ∧ C w') else undef = v
def LocFromC (P : Program) (ops : Array Oper) (C : World → Prop) (n : Nat) (S : Sl) (L : List (Nat × Value)) : List (Nat × Value) → List Oper → Prop
  | [], _ => True
  | _ :: _, [] => False
  | s :: L', o :: l => (o.dst = some s.1 ∧ LocC P ops C L o (edgesOf o) n S s.2) ∧ LocFromC P ops C n S L L' l
theorem LocFromC.at {P : Program} {ops : Array Oper} {C : World → Prop} {n : Nat} {S : Sl} {L : List (Nat × Value)} : ∀ {L' : List (Nat × Value)} {l : List Oper}, LocFromC P ops C n S L L' l → ∀ {i : Nat} {s : Nat × Value}, L'[i]? = some s → ∃ o, l[i]? = some o ∧ o.dst = some s.1 ∧ LocC P ops C L o (edgesOf o) n S s.2
  | [], _, _, i, s, hi => by simp at hi
  | _ :: _, [], h, _, _, _ => h.elim
  | s' :: L', o :: l, h, 0, s, hi => by simp at hi; subst hi; exact ⟨o, rfl, h.1.1, h.1.2⟩
  | s' :: L', o :: l, h, i + 1, s, hi => by rw [List.getElem?_cons_succ] at hi ⊢; exact LocFromC.at h.2 hi
theorem wp_region_known {P : Program} {Q : Exit → Act → World → Prop} {n : Nat} {C : World → Prop} {S : Sl} {id : Nat} {l : List Oper} (k : Nat) (L : List (Nat × Value)) (S' : Sl) (hm : P.follows .mixedOrders = true)
    (hB : (decide (k < l.length) && L.length == k && backB l && Region.sinkB .any l.toArray k && Region.chainB .any l.toArray k && Region.seqB .any l.toArray (l.length - k) k (prefixA k l.length)) = true)
    (hD : nodupB (L.map (·.1)) = true) (hn : (L.all fun s => Nat.blt s.1 n) = true) (hS0 : (L.all fun s => (S' s.1).isNone) = true) (hS : ∀ a, Sat n S a → Sat n S' a)
    (hloc : LocFromC P l.toArray C n S' L L l) (htail : ∀ w a, C w → Sat n S' a → (∀ j, KnownAt L j a) → wpList P l.toArray Q (l.drop k) a w) (w : World) (a : Act) (hC0 : C { w with drawn := w.drawn + 1 }) (hs0 : Sat n S a) : (Code.region id l.toArray true).wp P Q a w := by
  simp only [Bool.and_eq_true, decide_eq_true_eq, beq_iff_eq] at hB
  obtain ⟨⟨⟨⟨⟨hkl, hLk⟩, hback⟩, hsink⟩, hchain⟩, hseq⟩ := hB
  have hD := nodupB_spec hD
  refine wp_region_any hm ?_
  have hop : ∀ i, i < k → ∃ s, L[i]? = some s := fun i hi => ⟨_, List.getElem?_eq_getElem (by omega)⟩
  have main : ∀ (f : Nat) (listed : Array Bool) (a : Act) (w : World), HeadInv .any l.toArray k listed → ((List.range k).filter fun i => !listed.getD i true).length = f → C w → Sat n S' a →
      (∀ j, j < k → listed.getD j false = true → KnownAt L j a) → wpAny P .any l.toArray Q (f + (l.length - k)) listed a w := by
    intro f
    induction f with
    | zero =>
      intro listed a w inv hf hmw hsa hfacts
      rw [Nat.zero_add]
      have hall : ∀ i, i < k → listed.getD i false = true := fun i hi => by
        have h0 : (List.range k).filter (fun i => !listed.getD i true) = [] := List.eq_nil_of_length_eq_zero hf
        have h1 := List.filter_eq_nil_iff.1 h0 i (List.mem_range.2 hi)
        have hsz : i < listed.size := by rw [inv.size]; simp; omega
        simp [hsz] at h1 ⊢; exact h1
      have hpre := set_prefix (n := l.length) (by omega) (by rw [inv.size]; simp) hall (fun t ht1 ht2 => inv.tail t ht1 (by simpa using ht2))
      have hdl : (l.drop k).length = l.length - k := by simp
      have := wpAny_of_seq (P := P) (md := .any) (Q' := Q) (ops := l.toArray) (l.drop k) k listed a w (fun j => by simp [List.getElem?_drop]) (by rw [hdl, hpre]; exact hseq) (htail w a hmw hsa (fun j => by
        by_cases hj : j < k
        · exact hfacts j hj (hall j hj)
        · unfold KnownAt; rw [List.getElem?_eq_none (by omega)]; trivial))
      rwa [hdl] at this
    | succ f ih =>
      intro listed a w inv hf hmw hsa hfacts
      rw [show f + 1 + (l.length - k) = (f + (l.length - k)) + 1 by omega]
      obtain ⟨i0, hi0⟩ : ∃ i, i ∈ (List.range k).filter fun i => !listed.getD i true := by
        cases hq : (List.range k).filter (fun i => !listed.getD i true) with
        | nil => rw [hq] at hf; cases hf
        | cons x _ => exact ⟨x, by simp⟩
      have hi0' := List.mem_filter.1 hi0
      have hi0k : i0 < k := List.mem_range.1 hi0'.1
      have hun0 : listed.getD i0 true = false := by simpa using hi0'.2
      have hlt : ∀ t, k ≤ t → t ∉ Region.ready .any l.toArray listed := tail_waits hsink hchain (by simpa using hkl) inv _ i0 rfl hi0k hun0
      refine ⟨fun hempty => ?_, fun i hi => ?_⟩
      · exfalso
        have key : ∀ q, q < k → listed.getD q true = false → False := by
          intro q
          induction q using Nat.strongRecOn with
          | _ q ihq =>
            intro hq hunq
            obtain ⟨s, hs⟩ := hop q hq
            obtain ⟨o, ho, _, _⟩ := hloc.at hs
            have hready : q ∈ Region.ready .any l.toArray listed := mem_ready.2 ⟨hunq, o, by simpa using ho, fun e he hb => by
              have hlt' := backB_spec hback ho e he hb
              have hsz : e.on < listed.size := by rw [inv.size]; simp; omega
              cases hl : listed.getD e.on false with
              | true => rfl
              | false => exact (ihq e.on hlt' (by omega) (getD_in hsz hl)).elim⟩
            rw [hempty] at hready; cases hready
        exact key i0 hi0k hun0
      · have hik : i < k := by
          rcases Nat.lt_or_ge i k with h | h
          · exact h
          · exact absurd hi (hlt i h)
        obtain ⟨hun, o', ho', hall⟩ := mem_ready.1 hi
        obtain ⟨s, hs⟩ := hop i hik
        obtain ⟨o, ho, hd, hl⟩ := hloc.at hs
        have hoo : o' = o := by have : l.toArray[i]? = some o := by simpa using ho
                                rw [this] at ho'; exact (Option.some.inj ho').symm
        subst hoo
        have hsn : Nat.blt s.1 n = true := List.all_eq_true.1 hn s (List.mem_of_getElem? hs)
        have hs0' : S' s.1 = none := by have := List.all_eq_true.1 hS0 s (List.mem_of_getElem? hs); simpa using this
        have hedge : ∀ j ∈ edgesOf o', KnownAt L j a := fun j hj => by
          obtain ⟨e, he, rfl⟩ := List.mem_map.1 hj
          have he' := List.mem_filter.1 he
          exact hfacts e.on (by have := backB_spec hback ho e (by simpa using he'.1) he'.2; omega) (hall e (by simpa using he'.1) he'.2)
        have hloci := hl w a hmw hsa hedge
        have hszi : i < listed.size := by rw [inv.size]; simp; omega
        have next : ∀ v w', v = s.2 → C w' → wpAny P .any l.toArray Q (f + (l.length - k)) (listed.setIfInBounds i true) (a.put o'.dst v) w' := fun v w' hv hb => by
          rw [hd]
          have hsz2 : s.1 < a.tmps.size := by rw [hsa.size]; simpa [Nat.blt_eq] using hsn
          refine ih _ _ _ (inv.set hi hik) ?_ hb (hsa.put_none hs0' v) (fun j hj hlj => ?_)
          · have e1 : (List.range k).filter (fun q => !(listed.setIfInBounds i true).getD q true) = ((List.range k).filter fun q => !listed.getD q true).filter (fun q => decide (q ≠ i)) := by
              rw [List.filter_filter]
              apply List.filter_congr
              intro q _
              by_cases hqi : q = i
              · subst hqi; simp [hszi]
              · rw [getD_set_ne true (fun e => hqi e.symm)]; simp [hqi]
            rw [e1]
            have hmem : i ∈ (List.range k).filter fun q => !listed.getD q true := List.mem_filter.2 ⟨List.mem_range.2 hik, by simp [hun]⟩
            have hndp : ((List.range k).filter fun q => !listed.getD q true).Nodup := List.Pairwise.filter _ List.nodup_range
            have h2 := List.Nodup.erase_eq_filter hndp i
            have h3 := List.length_erase_of_mem hmem
            rw [h2] at h3
            have h4 : List.filter (fun q => decide (q ≠ i)) ((List.range k).filter fun q => !listed.getD q true) = List.filter (fun q => q != i) ((List.range k).filter fun q => !listed.getD q true) := by
              apply List.filter_congr; intro q _; by_cases hqi : q = i <;> simp [hqi]
            rw [h4, h3, hf]; rfl
          · unfold KnownAt
            by_cases hji : j = i
            · subst hji
              rw [hs]
              show (a.tmps.setIfInBounds s.1 v).getD s.1 undef = s.2
              have : (a.tmps.setIfInBounds s.1 v).getD s.1 undef = v := by simp [Array.getD_eq_getD_getElem?, hsz2]
              rw [this]; exact hv
            · rw [getD_set_ne false (fun e => hji e.symm)] at hlj
              have h1 := hfacts j hj hlj
              unfold KnownAt at h1
              cases hLj : L[j]? with
              | none => trivial
              | some sj =>
                obtain ⟨dj, Rj⟩ := sj
                rw [hLj] at h1
                simp only at h1 ⊢
                have hne : dj ≠ s.1 := fun e => hji (nodup_idx hD (x := s.1) (by rw [List.getElem?_map, hLj]; simp [e]) (by rw [List.getElem?_map, hs]; rfl))
                have : (a.tmps.setIfInBounds s.1 v).getD dj undef = a.tmps.getD dj undef := by
                  simp only [Array.getD_eq_getD_getElem?]
                  rw [Array.getElem?_setIfInBounds_ne (fun e => hne e.symm)]
                show (a.tmps.setIfInBounds s.1 v).getD dj undef = Rj
                rw [this]
                exact h1
        unfold wpOp
        rw [show l.toArray[i]? = some o' by simpa using ho]
        simp only
        split
        · rename_i hw
          rw [if_pos hw] at hloci
          exact .inl (hloci.wp fun v w' h => next v w' h.1 h.2)
        · rename_i hw
          rw [if_neg hw] at hloci
          exact next undef w hloci hmw
  have inv0 : HeadInv .any l.toArray k (Array.replicate l.toArray.size false) :=
    ⟨by simp, fun j oj _ hl => (by rw [getD_replicate_false] at hl; cases hl), fun t _ ht => getD_in (by simpa using ht) (getD_replicate_false _ _)⟩
  have := main k (Array.replicate l.toArray.size false) a { w with drawn := w.drawn + 1 } inv0 (by
      have : (List.range k).filter (fun i => !(Array.replicate l.toArray.size false).getD i true) = List.range k := by
        apply List.filter_eq_self.2
        intro i hi
        have hik := List.mem_range.1 hi
        have : i < l.length := by omega
        simp [this]
      rw [this]; simp) hC0 (hS a hs0) (fun j _ hl => by rw [getD_replicate_false] at hl; cases hl)
  rw [show k + (l.length - k) = l.toArray.size by simp; omega] at this
  exact this
section
variable {P : Program} {Q : Exit → Act → World → Prop} {n : Nat} {m : Mem} {S : Sl} {ops : Array Oper} {o : Oper} {E : List Nat} {L : List (Nat × Value)} {v : Value} {J C : World → Prop} {rest : List Oper} {a : Act} {w w' : World}
theorem grow_below (w : World) (q : Nat) (os : Array Obj) : Below w.heap.size w (grow (w.drewN q) os) :=
  ⟨rfl, rfl, rfl, by simp [grow, World.drewN], fun k hk => by show (w.heap ++ os)[k]? = _; rw [Array.getElem?_append_left hk]⟩
theorem lc_val (hv : OpV P o n m S v) (hg : wantS ops S o true = true := by rfl) : LocC P ops (fun w => Holds m w ∧ J w) L o E n S v := fun w a hC hs hE => by
  rw [if_pos (wantS_of hs hg)]
  exact .inl ⟨v, w, hv w a hC.1 hs, rfl, hC⟩
theorem lc_eq {j d : Nat} {t : Value} (hL : L[j]? = some (d, t)) (hj : E.contains j = true) (h : LocC P ops C L o E n (put S d t) v) : LocC P ops C L o E n S v := fun w a hC hs hE => by
  have h1 := hE j (by simpa using hj)
  unfold KnownAt at h1; rw [hL] at h1
  exact h w a hC (hs.put_at h1) hE
theorem lc_call {f : FuncId} {fn : Func} {args : List Operand} {vs : List Value} {tys : Array TypeId} (hJ : ∀ w q os, J w → J (grow (w.drewN q) os)) (hc : ∀ w, Calls P f vs.toArray w fun e w' => e = .returned v ∧ ∃ q os, w' = grow (w.drewN q) os) (hargs : args.map (ev S) = vs.map some) (hf : P.funcs[f]? = some fn) (hb : fn.body.isNone = false) (hnm : (fn.name == "runtime.NumGoroutine") = false)
    (ho : o.op = .call { callee := .value (.func f), args := args.toArray, argTypes := tys }) (hg : wantS ops S o true = true := by rfl) : LocC P ops (fun w => Holds m w ∧ J w) L o E n S v := fun w a hC hs hE => by
  rw [if_pos (wantS_of hs hg)]
  refine .inr ⟨f, _, run_callV ho (evs hs hargs) hf hb hnm w, ?_⟩
  refine (hc w).mono ?_
  rintro e w' ⟨he, q, os, rfl⟩
  exact ⟨v, he, rfl, hC.1.ext (grow_below w q os), hJ _ _ _ hC.2⟩
def TailC (P : Program) (ops : Array Oper) (l : List Oper) (Q : Exit → Act → World → Prop) (C : World → Prop) (L : List (Nat × Value)) (n : Nat) (S : Sl) : Prop := ∀ w a, C w → Sat n S a → (∀ j, KnownAt L j a) → wpList P ops Q l a w
theorem tlc_eq {l : List Oper} {d : Nat} {t : Value} (j : Nat) (hL : L[j]? = some (d, t)) (h : TailC P ops l Q C L n (put S d t)) : TailC P ops l Q C L n S := fun w a hC hs hE => by
  have h1 := hE j
  unfold KnownAt at h1; rw [hL] at h1
  exact h w a hC (hs.put_at h1) hE
theorem wl_val (hs : Sat n S a) (hr : (execOp a.eval o).run P w = .ok (.value v) w') (h : wpList P ops Q rest (a.put o.dst v) w') (hg : wantS ops S o true = true := by rfl) : wpList P ops Q (o :: rest) a w := by
  refine wpList_step fun K hK => ?_
  rw [wantS_of hs hg]
  show o.wp P a w K Q
  unfold Oper.wp
  rw [hr, Oper.upon_value]
  exact hK _ _ h
theorem wl_call {f : FuncId} {fn : Func} {args : List Operand} {vs : List Value} {tys : Array TypeId} (hs : Sat n S a) (hc : Calls P f vs.toArray w fun e w' => e = .returned v ∧ wpList P ops Q rest (a.put o.dst v) w') (hargs : args.map (ev S) = vs.map some) (hf : P.funcs[f]? = some fn) (hb : fn.body.isNone = false) (hnm : (fn.name == "runtime.NumGoroutine") = false)
    (ho : o.op = .call { callee := .value (.func f), args := args.toArray, argTypes := tys }) (hg : wantS ops S o true = true := by rfl) : wpList P ops Q (o :: rest) a w := by
  refine wpList_step fun K hK => ?_
  rw [wantS_of hs hg]
  show o.wp P a w K Q
  unfold Oper.wp
  rw [run_callV ho (evs hs hargs) hf hb hnm w, Oper.upon_enter]
  refine hc.mono ?_
  rintro e w' ⟨rfl, h⟩
  exact hK _ _ h
end
end Go.Proofs.Ythdifoidlpiikaa.En
namespace Go.Proofs.Ythdifoidlpiikaa
open Go.RowKit
set_option linter.unusedVariables false
set_option linter.unusedSimpArgs false
theorem add_block (a : Addr) (n : Nat) : (a.add n).block = a.block := by unfold Addr.add; split <;> rfl
theorem add_plain (g o n : Nat) : (⟨g, o, none⟩ : Addr).add n = ⟨g, o + n, none⟩ := by unfold Addr.add; split <;> simp_all
theorem add_add (a : Addr) (i j : Nat) : (a.add i).add j = a.add (i + j) := by
  unfold Addr.add
  by_cases hi : i = 0 <;> by_cases hj : j = 0 <;> simp [hi, hj, Nat.add_assoc]
def Rd (w : World) (B sz : Nat) (A : Option Addr) (n : Nat) (xs : List Value) : Prop :=
  xs.length = n * sz ∧ ∀ j u, xs[j]? = some u → ∃ ad, A = some ad ∧ ad.block < B ∧ w.cell? (ad.add j) = some u
section
variable {w w' : World} {B B' sz n : Nat} {A : Option Addr} {xs : List Value}
theorem Rd.at (h : Rd w B sz A n xs) {k : Nat} {u : Value} (hk : xs[k]? = some u) : ∃ ad, A = some ad ∧ ad.block < B ∧ w.cell? (ad.add k) = some u := h.2 k u hk
theorem Rd.keep (h : Rd w B sz A n xs) (hk : ∀ p : Addr, p.block < B → w'.cell? p = w.cell? p) : Rd w' B sz A n xs :=
  ⟨h.1, fun j u hu => by
    obtain ⟨ad, e, hb, hc⟩ := h.2 j u hu
    exact ⟨ad, e, hb, (hk _ (by rw [add_block]; exact hb)).trans hc⟩⟩
theorem Rd.below (h : Rd w B sz A n xs) (hb : Below B' w w') (hB : B ≤ B') : Rd w' B sz A n xs := h.keep fun _ hp => hb.cell (by omega)
theorem Rd.nil : Rd w B sz A 0 [] := ⟨by simp, fun j u hu => by simp at hu⟩
theorem Rd.lit (w : World) (cs : Array Value) (e : TypeId) (fr : Nat × Nat) (n : Nat) (xs : List Value) (hx : ∀ (j : Nat) (u : Value), xs[j]? = some u → cs.toList[j]? = some u) (hl : xs.length = n * sz) (hB : w.heap.size < B) :
    Rd (w.alloc (.cells cs e fr)) B sz (some ⟨w.heap.size, 0, none⟩) n xs :=
  ⟨hl, fun j u hu => ⟨_, rfl, hB, by
    rw [add_plain, Nat.zero_add, cell_of_row _ _ j cs e fr (heap_alloc_new w _)]
    simpa using hx j u hu⟩⟩
end
def Blk (w : World) (g : Nat) (t : TypeId) (cs : Array Value) : Prop := w.heap[g]? = some (.cells cs t (0, 0))
section
variable {w w' : World} {g : Nat} {t : TypeId} {cs : Array Value}
theorem Blk.lt (h : Blk w g t cs) : g < w.heap.size := by
  rcases Nat.lt_or_ge g w.heap.size with hlt | hge
  · exact hlt
  · unfold Blk at h; rw [Array.getElem?_eq_none hge] at h; cases h
theorem Blk.cell (h : Blk w g t cs) (i : Nat) : w.cell? ⟨g, i, none⟩ = cs[i]? := cell_of_row w g i cs t (0, 0) h
theorem Blk.new (w : World) (t : TypeId) (cs : Array Value) : Blk (w.alloc (.cells cs t)) w.heap.size t cs := heap_alloc_new w _
theorem Blk.drew (h : Blk w g t cs) : Blk w.drew g t cs := h
theorem Blk.drewN (h : Blk w g t cs) (n : Nat) : Blk (w.drewN n) g t cs := h
theorem Blk.alloc (h : Blk w g t cs) (o : Obj) : Blk (w.alloc o) g t cs := (Below.heap_alloc w o g h.lt).trans h
theorem Blk.set (h : Blk w g t cs) (i : Nat) (u : Value) : Blk (w.setCell ⟨g, i, none⟩ u) g t (cs.setIfInBounds i u) := by
  unfold Blk at h ⊢
  simp [World.setCell, Array.getElem?_modify, h]
theorem Blk.below {B : Nat} (h : Blk w g t cs) (hb : Below B w w') (hg : g < B) : Blk w' g t cs := (hb.block g hg).trans h
end
theorem Rd.drew {w : World} {B sz n : Nat} {A : Option Addr} {xs : List Value} (h : Rd w B sz A n xs) : Rd w.drew B sz A n xs := h
theorem Blk.setRow {w : World} {g : Nat} {t : TypeId} {old : Array Value} (h : Blk w g t old) (cs : Array Value) : Blk (w.setRow g cs) g t cs := setRow_heap w g old cs t (0, 0) h
theorem Rd.chunk {w : World} {B sz n : Nat} {A : Option Addr} {xs : List Value} (h : Rd w B sz A n xs) (hsz : 0 < sz) {k : Nat} (hk : k < n) :
    ∃ ad, A = some ad ∧ ad.block < B ∧ ∀ j u, ((xs.drop (k * sz)).take sz)[j]? = some u → w.cell? ((ad.add (k * sz)).add j) = some u := by
  have hlen := h.1
  have hlt : k * sz < xs.length := by
    rw [hlen]; exact Nat.mul_lt_mul_of_pos_right hk hsz
  obtain ⟨ad, e, hb, _⟩ := h.2 (k * sz) xs[k * sz] (List.getElem?_eq_getElem hlt)
  refine ⟨ad, e, hb, fun j u hu => ?_⟩
  rw [List.getElem?_take] at hu
  split at hu
  · rw [List.getElem?_drop] at hu
    obtain ⟨ad', e', _, hc⟩ := h.2 _ u hu
    rw [e] at e'
    injection e' with e'
    subst e'
    rw [add_add]
    exact hc
  · cases hu
section
variable {w w' : World} {base : Nat} {e : TypeId} {sz n : Nat} {v : Value} {xs : List Value}
end
end Go.Proofs.Ythdifoidlpiikaa
namespace Go.Proofs.Ythdifoidlpiikaa
open Go.RowKit
set_option linter.unusedVariables false
set_option linter.unusedSimpArgs false
def fieldLeaves (L : TypeId → Option (List TypeId)) : List Field → Nat → Option (List TypeId)
  | [], _ => some []
  | f :: fs, off => if f.name != "_" && f.offset == off then
      match L f.type with
      | some l => (fieldLeaves L fs (off + l.length)).map (l ++ ·)
      | none => none
    else none
def leaves (P : Program) : Nat → TypeId → Option (List TypeId)
  | 0, _ => none
  | d + 1, t => match P.underlying t with
    | some (.int _) => if P.cellsOf t = 1 then some [t] else none
    | some .bool => if P.cellsOf t = 1 then some [t] else none
    | some .string => if P.cellsOf t = 1 then some [t] else none
    | some (.struct fs) => match fieldLeaves (leaves P d) fs.toList 0 with
      | some l => if P.cellsOf t = l.length then some l else none
      | none => none
    | some (.array n e) => match leaves P d e with
      | some l => if P.cellsOf t = n * l.length then some (List.replicate n l).flatten else none
      | none => none
    | _ => if P.cellsOf t = 1 then some [t] else none
def litOf : Value → Lit
  | .bool b => .bool b
  | .int k n => .int k n
  | .string s => .string s.data.toList
  | _ => .bool false
def leafOk (P : Program) (t : TypeId) (v : Value) : Bool :=
  match P.underlying t, v with
  | some .bool, .bool _ => true
  | some (.int q), .int q' n => decide (q' = q) && (Lit.int q n).wf
  | some .string, .string s => decide (s.size ≤ maxLen)
  | _, _ => false
def fits (P : Program) : List TypeId → List Value → Bool
  | [], [] => true
  | t :: ts, v :: vs => leafOk P t v && fits P ts vs
  | _, _ => false
theorem fits_len {P : Program} : ∀ {ts : List TypeId} {vs : List Value}, fits P ts vs = true → vs.length = ts.length
  | [], [], _ => rfl
  | [], v :: vs, h => by simp [fits] at h
  | t :: ts, [], h => by simp [fits] at h
  | t :: ts, v :: vs, h => by
    simp only [fits, Bool.and_eq_true] at h
    simp [fits_len h.2]
theorem fits_append {P : Program} : ∀ {ts us : List TypeId} {vs : List Value}, fits P (ts ++ us) vs = true → fits P ts (vs.take ts.length) = true ∧ fits P us (vs.drop ts.length) = true
  | [], us, vs, h => by simpa [fits] using h
  | t :: ts, us, [], h => by simp [fits] at h
  | t :: ts, us, v :: vs, h => by
    simp only [List.cons_append, fits, Bool.and_eq_true] at h
    have := fits_append h.2
    simp [fits, h.1, this.1, this.2]
theorem keyLits_leaf {P : Program} {d : Nat} {t : TypeId} {v : Value} (h : leafOk P t v = true) : P.keyLits (d + 1) t [v] = some [litOf v] := by
  unfold leafOk at h
  unfold Program.keyLits
  split at h
  · rename_i hu; simp [hu, litOf]
  · rename_i q q' n hu
    simp only [Bool.and_eq_true, decide_eq_true_eq] at h
    simp [hu, litOf, h.1, h.2]
  · rename_i s hu
    simp only [decide_eq_true_eq] at h
    simp [hu, litOf, h]
  · cases h
theorem leaves_cells {P : Program} {d : Nat} {t : TypeId} {ls : List TypeId} (h : leaves P d t = some ls) : P.cellsOf t = ls.length := by
  cases d with
  | zero => simp [leaves] at h
  | succ d =>
    unfold leaves at h
    split at h
    · split at h <;> simp_all
      subst h; rfl
    · split at h <;> simp_all
      subst h; rfl
    · split at h <;> simp_all
      subst h; rfl
    · split at h
      · split at h
        · cases h; assumption
        · cases h
      · cases h
    · split at h
      · split at h
        · cases h
          rename_i hc
          rw [hc]; simp
        · cases h
      · cases h
    · split at h <;> simp_all
      subst h; rfl
theorem mapM_cons_opt {α β : Type} (f : α → Option β) (a : α) (l : List α) (b : β) (bs : List β) (h : f a = some b) (hl : l.mapM f = some bs) : (a :: l).mapM f = some (b :: bs) := by
  rw [List.mapM_cons, h, hl]; rfl
theorem mapM_range {β : Type} (f : Nat → Option β) (g : Nat → β) (n : Nat) (h : ∀ i, i < n → f i = some (g i)) : (List.range n).mapM f = some ((List.range n).map g) := by
  have aux : ∀ l : List Nat, (∀ i ∈ l, f i = some (g i)) → l.mapM f = some (l.map g) := by
    intro l
    induction l with
    | nil => intro _; rfl
    | cons a l ih => intro h; exact mapM_cons_opt f a l _ _ (h a (by simp)) (ih fun i hi => h i (by simp [hi]))
  exact aux _ fun i hi => h i (by simpa using hi)
theorem fits_flat {P : Program} (l : List TypeId) : ∀ (n : Nat) (cs : List Value), fits P (List.replicate n l).flatten cs = true → ∀ i, i < n → fits P l ((cs.drop (i * l.length)).take l.length) = true
  | 0, cs, _, i, hi => by omega
  | n + 1, cs, h, i, hi => by
    rw [List.replicate_succ, List.flatten_cons] at h
    obtain ⟨h1, h2⟩ := fits_append h
    cases i with
    | zero => simpa using h1
    | succ i =>
      have := fits_flat l n _ h2 i (by omega)
      rw [List.drop_drop] at this
      rw [Nat.succ_mul, Nat.add_comm]
      exact this
theorem flatten_chunks {α : Type} (c : Nat) : ∀ (n : Nat) (l : List α), l.length = n * c → ((List.range n).map fun i => (l.drop (i * c)).take c).flatten = l
  | 0, l, h => by simp at h; simp [h]
  | n + 1, l, h => by
    rw [List.range_succ_eq_map]
    simp only [List.map_cons, List.map_map, List.flatten_cons, Nat.zero_mul, List.drop_zero]
    have h2 := flatten_chunks c n (l.drop c) (by rw [List.length_drop, h, Nat.succ_mul]; omega)
    have h3 : ((fun i => List.take c (List.drop (i * c) l)) ∘ Nat.succ) = fun i => ((l.drop c).drop (i * c)).take c := by
      funext i
      simp only [Function.comp, List.drop_drop]
      rw [Nat.succ_mul, Nat.add_comm]
    rw [h3, h2, List.take_append_drop]
theorem keyLits_fields {P : Program} {d : Nat} (ih : ∀ (t : TypeId) (ls : List TypeId) (cs : List Value), leaves P d t = some ls → fits P ls cs = true → P.keyLits d t cs = some (cs.map litOf)) :
    ∀ (fs : List Field) (off : Nat) (l : List TypeId) (cs : List Value), fieldLeaves (leaves P d) fs off = some l → fits P l (cs.drop off) = true →
      (fs.all (·.name != "_") = true) ∧ ∃ lss, (fs.mapM fun f => P.keyLits d f.type ((cs.drop f.offset).take (P.cellsOf f.type))) = some lss ∧ lss.flatten = (cs.drop off).map litOf
  | [], off, l, cs, h, hf => by
    simp only [fieldLeaves, Option.some.injEq] at h
    subst h
    have : cs.drop off = [] := by
      cases hc : cs.drop off with
      | nil => rfl
      | cons v vs => rw [hc] at hf; simp [fits] at hf
    exact ⟨rfl, [], rfl, by rw [this]; rfl⟩
  | f :: fs, off, l, cs, h, hf => by
    unfold fieldLeaves at h
    split at h
    · rename_i hc
      simp only [Bool.and_eq_true, beq_iff_eq] at hc
      split at h
      · rename_i l0 hl0
        simp only [Option.map_eq_some_iff] at h
        obtain ⟨l1, hl1, rfl⟩ := h
        obtain ⟨h1, h2⟩ := fits_append hf
        rw [List.drop_drop] at h2
        obtain ⟨ha, lss, hm, hfl⟩ := keyLits_fields ih fs (off + l0.length) l1 cs hl1 h2
        have hcell := leaves_cells hl0
        refine ⟨by simp [hc.1, ha], _, mapM_cons_opt _ f fs _ lss (by rw [hc.2, hcell]; exact ih f.type l0 _ hl0 h1) hm, ?_⟩
        rw [List.flatten_cons, hfl, ← List.map_append]
        congr 1
        rw [← List.drop_drop, List.take_append_drop]
      · cases h
    · cases h
theorem keyLits_leaves {P : Program} : ∀ (d : Nat) (t : TypeId) (ls : List TypeId) (cs : List Value), leaves P d t = some ls → fits P ls cs = true → P.keyLits d t cs = some (cs.map litOf)
  | 0, t, ls, cs, h, _ => by simp [leaves] at h
  | d + 1, t, ls, cs, h, hf => by
    have ih := keyLits_leaves (P := P) d
    have hcell := leaves_cells h
    have hlen := fits_len hf
    have leafc : ls = [t] → P.keyLits (d + 1) t cs = some (cs.map litOf) := by
      rintro rfl
      match cs, hlen with
      | [v], _ =>
        simp only [fits, Bool.and_true] at hf
        exact keyLits_leaf hf
    unfold leaves at h
    split at h
    · split at h
      · cases h; exact leafc rfl
      · cases h
    · split at h
      · cases h; exact leafc rfl
      · cases h
    · split at h
      · cases h; exact leafc rfl
      · cases h
    · rename_i fs hu
      split at h
      · rename_i l hl
        split at h
        · cases h
          rename_i hc
          obtain ⟨ha, lss, hm, hfl⟩ := keyLits_fields ih fs.toList 0 _ cs hl (by simpa using hf)
          have hall : fs.all (·.name != "_") = true := by rw [← Array.all_toList]; exact ha
          have hlc : cs.length = P.cellsOf t := by rw [hlen, hc]
          unfold Program.keyLits
          simp only [hu, hlc, hall, and_self, if_true]
          rw [hm]
          simpa using hfl
        · cases h
      · cases h
    · rename_i n e hu
      split at h
      · rename_i l hl
        split at h
        · cases h
          rename_i hc
          have hce := leaves_cells hl
          have hlc : cs.length = P.cellsOf t := by rw [hlen, hcell]
          unfold Program.keyLits
          simp only [hu, hlc, if_true]
          rw [mapM_range _ (fun i => ((cs.drop (i * P.cellsOf e)).take (P.cellsOf e)).map litOf) n (fun i hi => by
            rw [hce]
            exact ih e l _ hl (fits_flat l n cs hf i hi))]
          simp only [Option.map_some, Option.some.injEq]
          have hcs : cs.length = n * P.cellsOf e := by rw [hlc, hc, hce]
          have := congrArg (List.map litOf) (flatten_chunks (P.cellsOf e) n cs hcs)
          rw [List.map_flatten, List.map_map] at this
          exact this
        · cases h
      · cases h
    · split at h
      · cases h; exact leafc rfl
      · cases h
theorem leaf_inj {P : Program} {t : TypeId} {v u : Value} (h1 : leafOk P t v = true) (h2 : leafOk P t u = true) : litOf v = litOf u ↔ v = u := by
  constructor
  · intro e
    unfold leafOk at h1 h2
    cases v <;> cases u <;> simp_all [litOf]
    all_goals first
      | (exact ByteArray.ext (Array.toList_inj.1 e))
      | (exact ByteArray.ext e)
      | (split at h1 <;> simp_all; try exact ByteArray.ext (by assumption))
  · intro e; rw [e]
theorem litOf_inj {P : Program} : ∀ {ls : List TypeId} {xs ys : List Value}, fits P ls xs = true → fits P ls ys = true → (xs.map litOf = ys.map litOf ↔ xs = ys)
  | [], [], [], _, _ => by simp
  | [], v :: vs, _, h, _ => by simp [fits] at h
  | [], _, v :: vs, _, h => by simp [fits] at h
  | t :: ts, [], _, h, _ => by simp [fits] at h
  | t :: ts, _, [], _, h => by simp [fits] at h
  | t :: ts, v :: vs, u :: us, h, h' => by
    simp only [fits, Bool.and_eq_true] at h h'
    have ih := litOf_inj h.2 h'.2
    have hvu : litOf v = litOf u ↔ v = u := leaf_inj h.1 h'.1
    simp [hvu, ih]
section
variable {P : Program} (w : World)
theorem run_equal_plain (d m : Nat) (hm : m ≤ 10000) (t : TypeId) (ls : List TypeId) (hk : P.keyTypeAt m t = true) (hl : leaves P d t = some ls) (x y : Value) (hx : x.formed P t = true) (hy : y.formed P t = true)
    (fx : fits P ls x.cells.toList = true) (fy : fits P ls y.cells.toList = true) (p : Bool) (hp : p = true ↔ x.cells.toList = y.cells.toList) :
    (Op.equal t x y).run P w = .ok p w := by
  obtain ⟨r, hr, hiff⟩ := run_equalIn_deep (10000 - m) m t hk w d d x y _ _ hx hy (keyLits_leaves d t ls _ hl fx) (keyLits_leaves d t ls _ hl fy)
  rw [show 10000 - m + m = 10000 from by omega] at hr
  have : r = p := by rw [Bool.eq_iff_iff, hiff, litOf_inj fx fy, hp]
  rw [← this]
  exact hr
theorem run_eql_plain (d m : Nat) (hm : m ≤ 10000) (t : TypeId) (ls : List TypeId) (hk : P.keyTypeAt m t = true) (hl : leaves P d t = some ls) (xs ys : Array Value) (hx : (Value.agg xs).formed P t = true) (hy : (Value.agg ys).formed P t = true)
    (fx : fits P ls xs.toList = true) (fy : fits P ls ys.toList = true) (p : Bool) (hp : p = true ↔ xs.toList = ys.toList) :
    (binOp .eql t (.agg xs) (.agg ys)).run P w = .ok (.bool p) w := by
  have h := run_equal_plain (P := P) w d m hm t ls hk hl (.agg xs) (.agg ys) hx hy fx fy p hp
  simp only [binOp]
  simp [h]
theorem run_neq_plain (d m : Nat) (hm : m ≤ 10000) (t : TypeId) (ls : List TypeId) (hk : P.keyTypeAt m t = true) (hl : leaves P d t = some ls) (xs ys : Array Value) (hx : (Value.agg xs).formed P t = true) (hy : (Value.agg ys).formed P t = true)
    (fx : fits P ls xs.toList = true) (fy : fits P ls ys.toList = true) (p : Bool) (hp : p = true ↔ xs.toList = ys.toList) :
    (binOp .neq t (.agg xs) (.agg ys)).run P w = .ok (.bool (!p)) w := by
  have h := run_equal_plain (P := P) w d m hm t ls hk hl (.agg xs) (.agg ys) hx hy fx fy p hp
  simp only [binOp]
  simp [h]
end
end Go.Proofs.Ythdifoidlpiikaa
namespace Go.Proofs.Ythdifoidlpiikaa.En
open Go.RowKit Ythdifoidlpiikaa
set_option linter.unusedVariables false
set_option linter.unusedSimpArgs false
section
variable {P : Program} {Q : Exit → Act → World → Prop} {n : Nat} {m : Mem} {S : Sl} {ops : Array Oper} {rest : List Oper} {o : Oper} {α β ι : Type}
theorem fit_nil : fits P [] [] = true := rfl
theorem fit_cons {t : TypeId} {ts : List TypeId} {v : Value} {vs : List Value} (h : leafOk P t v = true) (hr : fits P ts vs = true) : fits P (t :: ts) (v :: vs) = true := by unfold fits; rw [h, hr]; rfl
theorem fit_int {t : TypeId} {k : IntKind} {x : Int} (hu : P.underlying t = some (.int k)) (h : (Lit.int k x).wf = true) : leafOk P t (.int k x) = true := by
  unfold leafOk; rw [hu]; simp [h]
theorem fit_u8 {t : TypeId} {b : UInt8} (hu : P.underlying t = some (.int .u8)) : leafOk P t (.int .u8 (b.toNat : Int)) = true := fit_int hu (by
  have := b.toNat_lt
  simp [Lit.wf, IntKind.min, IntKind.max, IntKind.signed, IntKind.bits]; omega)
theorem ov_eqlA {t yt : TypeId} {x y : Operand} {cs ds : List Value} {ls : List TypeId} {p : Bool} (hg : P.eqGuardType P.depth t = false) (hk : P.keyTypeAt 20 t = true) (hl : leaves P 20 t = some ls) (hx : ev S x = some (ag cs)) (hy : ev S y = some (ag ds)) (hfx : (ag cs).formed P t = true) (hfy : (ag ds).formed P t = true)
    (fx : fits P ls cs = true) (fy : fits P ls ds = true) (hp : p = true ↔ cs = ds) (ho : o.op = .binOp .eql t x y yt) : OpV P o n m S (.bool p) := fun w a hm hs => by
  unfold execOp
  simp only [ho, hs.ev hx, hs.ev hy]
  have := run_eql_plain (P := P) w 20 20 (by decide) t ls hk hl cs.toArray ds.toArray hfx hfy fx fy p hp
  simp [eqGuard, Sem.run_bind, this, ag, hg]
theorem ov_neqA {t yt : TypeId} {x y : Operand} {cs ds : List Value} {ls : List TypeId} {p : Bool} (hg : P.eqGuardType P.depth t = false) (hk : P.keyTypeAt 20 t = true) (hl : leaves P 20 t = some ls) (hx : ev S x = some (ag cs)) (hy : ev S y = some (ag ds)) (hfx : (ag cs).formed P t = true) (hfy : (ag ds).formed P t = true)
    (fx : fits P ls cs = true) (fy : fits P ls ds = true) (hp : p = true ↔ cs = ds) (ho : o.op = .binOp .neq t x y yt) : OpV P o n m S (.bool (!p)) := fun w a hm hs => by
  unfold execOp
  simp only [ho, hs.ev hx, hs.ev hy]
  have := run_neq_plain (P := P) w 20 20 (by decide) t ls hk hl cs.toArray ds.toArray hfx hfy fx fy p hp
  simp [eqGuard, Sem.run_bind, this, ag, hg]
end
end Go.Proofs.Ythdifoidlpiikaa.En
namespace Go.Proofs.Ythdifoidlpiikaa.En
open Go.RowKit Ythdifoidlpiikaa
set_option linter.unusedVariables false
set_option linter.unusedSimpArgs false
section
variable {P : Program} {Q : Exit → Act → World → Prop} {n : Nat} {m : Mem} {S : Sl} {ops : Array Oper} {rest : List Oper} {o : Oper} {α β ι : Type}
theorem load_u8 {w : World} (l : List UInt8) (a : Addr) (acc : ByteArray) (h : ∀ j x, l[j]? = some x → w.cell? (a.add j) = some (.int .u8 (x.toNat : Int))) : (Extern.Bytes.loadBytes a l.length acc).run P w = .ok ⟨acc.data ++ l.toArray⟩ w := by
  have := Lib.run_loadBytesX (P := P) w (l.map fun b => (b.toNat : Int)) a acc (fun j x hj => by
    rw [List.getElem?_map] at hj
    cases hl : l[j]? with
    | none => rw [hl] at hj; cases hj
    | some b => rw [hl] at hj; cases hj; exact h j b hl)
  rw [List.length_map] at this
  rw [this]
  congr 3
  unfold Lib.bytesOf
  rw [List.map_map]
  have : ((fun n : Int => UInt8.ofNat n.toNat) ∘ fun b : UInt8 => (b.toNat : Int)) = id := by funext b; simp
  rw [this, List.map_id]
theorem run_cmp {u v : Value} {a b : ByteArray} {w : World} (h1 : (Extern.Bytes.bytesOf u).run P w = .ok a w) (h2 : (Extern.Bytes.bytesOf v).run P w = .ok b w) : (Extern.BytealgCompare.compare #[u, v]).run P w = .ok (.int .i64 (Lib.compareBytes a.data.toList b.data.toList)) w := by
  change Sem.run P (do pure (goInt (Extern.BytealgCompare.cmp (← Extern.Bytes.bytesOf u) (← Extern.Bytes.bytesOf v)))) w = _
  simp only [Sem.run_bind, h1, h2, Result.andThen, Sem.run_pure]
  rw [Lib.cmp_eq]; rfl
theorem bytes_dat {v : Value} {l : List UInt8} (i : Nat) (hi : m.fz[i]? = some (fDat (tyList tyU8) [v] l)) {w : World} (hm : Holds m w) : (Extern.Bytes.bytesOf v).run P w = .ok ⟨l.toArray⟩ w := by
  obtain ⟨A, k, c, hv, hk, hc, _, hr⟩ := fz_at hm hi
  have hv' : v = .slice A k c := by simpa using hv
  subst hv'
  rcases hr with h0 | ⟨ad, cs, rfl, hca, hrl⟩
  · have hl : l = [] := List.eq_nil_of_length_eq_zero (by omega)
    subst hl; subst h0
    cases A with
    | none => simp [Extern.Bytes.bytesOf]; rfl
    | some ad => simp [Extern.Bytes.bytesOf, Extern.Bytes.loadBytes]; rfl
  · have hcs := u8_cells hrl
    have := load_u8 (P := P) (w := w) l ad .empty (fun j x hj => by
      refine hca.2 j _ ?_
      rw [hcs, List.getElem?_map, hj]; rfl)
    rw [hk]
    simp [Extern.Bytes.bytesOf, this]
theorem ov_bytesCmp {x y : Operand} {u v : Value} {xs ys : List UInt8} {f : FuncId} {fn : Func} {tys : Array TypeId} (i j : Nat) (hi : m.fz[i]? = some (fDat (tyList tyU8) [u] xs)) (hj : m.fz[j]? = some (fDat (tyList tyU8) [v] ys)) (hx : ev S x = some u) (hy : ev S y = some v)
    (hf : P.funcs[f]? = some fn) (hname : (fn.name == "runtime.NumGoroutine") = false) (hb : fn.body.isNone = true) (hn : Extern.findNext fn = none) (he : Extern.find fn = some Extern.BytealgCompare.compare) (ho : o.op = .call { callee := .value (.func f), args := #[x, y], argTypes := tys }) : OpV P o n m S (.int .i64 (Lib.compareBytes xs ys)) := fun w a hm hs => by
  have h1 := bytes_dat (P := P) i hi hm
  have h2 := bytes_dat (P := P) j hj hm
  unfold execOp
  simp only [ho]
  have e : (#[x, y] : Array Operand).map a.eval = #[u, v] := by simp [hs.ev hx, hs.ev hy]
  simp only [resolve, Sem.run_bind, e]
  simp [Act.eval, Deferred.ofValue, invoke, run_callFunc_extern hf hname hb hn he, Sem.run_bind, run_cmp h1 h2]
theorem ld_callF {m0 : Mem} {L : Spec} {E : List Nat} {f : FuncId} {fn : Func} {x : Operand} {args : List Operand} {vs caps vc : List Value} {tys : Array TypeId} {pre : List Fact} {val : Value} (hfn : FnOk P f vc pre [] (fun _ : Unit => { val := val })) (hvc : vs ++ caps = vc) (iv : List Nat) (hpre : PreOk m iv pre) (hx : ev S x = some (.func (.func f) #[] caps.toArray)) (hargs : args.map (ev S) = vs.map some) (hf : P.funcs[f]? = some fn) (hb : fn.body.isNone = false) (hnm : (fn.name == "runtime.NumGoroutine") = false)
    (ho : o.op = .call { callee := .value x, args := args.toArray, argTypes := tys }) (hg : wantS ops S o true = true := by rfl) : LocD P ops m0 L o E n m S (fun u => fEq u val) := fun w a h0 hm hf' hs hE => by
  rw [if_pos (wantS_of hs hg)]
  subst hvc
  refine .inr ⟨f, _, run_callF ho (hs.ev hx) (evs hs hargs) hf hb hnm w, ?_⟩
  refine (hfn w (fun b => b < w.heap.size) (fun b h => h) (by simp) (by simp) (hpre w _ hm (fun b hb => hb.1) (fun j _ o ho b hb => hm.lt (List.mem_flatMap.2 ⟨o, List.mem_of_getElem? ho, hb⟩))) (by simp)).mono ?_
  rintro e w' ⟨i, he, hbel, _⟩
  exact ⟨val, he, (by simpa using hbel : Bel w.heap.size [] w w').below, rfl⟩
end
end Go.Proofs.Ythdifoidlpiikaa.En
namespace Go.Proofs.Ythdifoidlpiikaa.ImC
open Go.RowKit Ythdifoidlpiikaa Ythdifoidlpiikaa.En Go.Sort
set_option linter.unusedSimpArgs false
set_option linter.unusedVariables false
@[go_sem] theorem callBC (args : Array Value) (w : World) : (callFunc 184 args).run Try.prog w = ((Extern.BytealgCompare.compare args).run Try.prog w).andThen fun v w' => .ok (.value v) w' :=
  run_callFunc_extern Try.func184 (by kernel_rfl) (by kernel_rfl) (by kernel_rfl) (by kernel_rfl) args w
theorem bcmp (u v : Value) (l1 l2 : List UInt8) (w : World) (h1 : (Extern.Bytes.bytesOf u).run Try.prog w = .ok ⟨l1.toArray⟩ w) (h2 : (Extern.Bytes.bytesOf v).run Try.prog w = .ok ⟨l2.toArray⟩ w) :
    Calls Try.prog 165 #[u, v] w fun e w' => e = .returned (.int .i64 (Lib.compareBytes l1 l2)) ∧ w' = w := by
  have hc := run_cmp h1 h2
  dsimp only at hc
  go_enter Try.func165, Try.ntmps165
  go_wp2
  go_ret
  exact ⟨rfl, rfl⟩
def e8 (x : List UInt8) : Array Value := (x.map (fun b => Value.int .u8 (b.toNat : Int))).toArray
theorem bytesOf_box (w : World) (b : Nat) (l : List UInt8) (c : Nat) (h : ∀ j x, l[j]? = some x → w.cell? ⟨b, j, none⟩ = some (.int .u8 (x.toNat : Int))) : (Extern.Bytes.bytesOf (.slice (some ⟨b, 0, none⟩) l.length c)).run Try.prog w = .ok ⟨l.toArray⟩ w := by
  have := load_u8 (P := Try.prog) (w := w) l ⟨b, 0, none⟩ .empty (fun j x hj => by
    rw [add_plain, Nat.zero_add]
    exact h j x hj)
  simp [Extern.Bytes.bytesOf, this]
theorem two1 (w : World) (a b : Array Value) (t u : TypeId) (j : Nat) : ((w.alloc (Obj.cells a t)).alloc (Obj.cells b u)).cell? ⟨w.heap.size, j, none⟩ = a[j]? := by
  have h1 : ((w.alloc (Obj.cells a t)).alloc (Obj.cells b u)).heap[w.heap.size]? = some (Obj.cells a t) := by
    rw [heap_alloc_old _ _ (by rw [World.size_alloc]; omega)]; exact heap_alloc_new w _
  simp only [World.cell?, h1]; rfl
theorem two2 (w : World) (a b : Array Value) (t u : TypeId) (j : Nat) : ((w.alloc (Obj.cells a t)).alloc (Obj.cells b u)).cell? ⟨w.heap.size + 1, j, none⟩ = b[j]? := by
  have h1 : ((w.alloc (Obj.cells a t)).alloc (Obj.cells b u)).heap[w.heap.size + 1]? = some (Obj.cells b u) := by
    have := heap_alloc_new (w.alloc (Obj.cells a t)) (Obj.cells b u)
    rwa [World.size_alloc] at this
  simp only [World.cell?, h1]; rfl
theorem e8_get {l : List UInt8} {j : Nat} {z : UInt8} (h : l[j]? = some z) : (e8 l)[j]? = some (.int .u8 (z.toNat : Int)) := by simp [e8, h]
theorem regrow (w : World) (n : Nat) (os os' : Array Obj) : grow ((grow w os).drewN n) os' = grow (w.drewN n) (os ++ os') := by
  show grow (grow (w.drewN n) os) os' = _
  rw [grow_grow]
theorem icmp (x y : List UInt8) (hx : x.length = 8) (hy : y.length = 8) (w : World) :
    Calls Try.prog 123 #[.agg (e8 x), .agg (e8 y)] w fun e w' => e = .returned (.int .i64 (Lib.compareBytes x y)) ∧ ∃ q os', w' = grow (w.drewN q) os' := by
  obtain ⟨x0, x1, x2, x3, x4, x5, x6, x7, rfl⟩ : ∃ x0 x1 x2 x3 x4 x5 x6 x7, x = [x0, x1, x2, x3, x4, x5, x6, x7] := by
    match x, hx with
    | [x0, x1, x2, x3, x4, x5, x6, x7], _ => exact ⟨x0, x1, x2, x3, x4, x5, x6, x7, rfl⟩
  obtain ⟨y0, y1, y2, y3, y4, y5, y6, y7, rfl⟩ : ∃ x0 x1 x2 x3 x4 x5 x6 x7, y = [x0, x1, x2, x3, x4, x5, x6, x7] := by
    match y, hy with
    | [x0, x1, x2, x3, x4, x5, x6, x7], _ => exact ⟨x0, x1, x2, x3, x4, x5, x6, x7, rfl⟩
  simp only [e8, List.map_cons, List.map_nil]
  have hm : Try.prog.follows .mixedOrders = true := by kernel_rfl
  go_enter Try.func123, Try.ntmps123
  go_wp2_with fail
  have c1 : ∀ (j : Nat) (z : UInt8), [x0, x1, x2, x3, x4, x5, x6, x7][j]? = some z → ((w.alloc (Obj.cells (e8 [x0, x1, x2, x3, x4, x5, x6, x7]) 30)).alloc (Obj.cells (e8 [y0, y1, y2, y3, y4, y5, y6, y7]) 30)).cell? ⟨w.heap.size, j, none⟩ = some (.int .u8 (z.toNat : Int)) := fun j z hj => by
    rw [two1]; exact e8_get hj
  have c2 : ∀ (j : Nat) (z : UInt8), [y0, y1, y2, y3, y4, y5, y6, y7][j]? = some z → ((w.alloc (Obj.cells (e8 [x0, x1, x2, x3, x4, x5, x6, x7]) 30)).alloc (Obj.cells (e8 [y0, y1, y2, y3, y4, y5, y6, y7]) 30)).cell? ⟨w.heap.size + 1, j, none⟩ = some (.int .u8 (z.toNat : Int)) := fun j z hj => by
    rw [two2]; exact e8_get hj
  simp only [e8, List.map_cons, List.map_nil] at c1 c2
  go_quiet_grown (first | (go_at_call 165; refine Calls.grown_of ((bcmp _ _ [x0, x1, x2, x3, x4, x5, x6, x7] [y0, y1, y2, y3, y4, y5, y6, y7] _ (bytesOf_box _ _ [x0, x1, x2, x3, x4, x5, x6, x7] 8 (fun j z hj => cell_grown (by simp; omega) (c1 j z hj) _ _)) (bytesOf_box _ _ [y0, y1, y2, y3, y4, y5, y6, y7] 8 (fun j z hj => cell_grown (by simp) (c2 j z hj) _ _))).mono fun e w' ⟨he, hw⟩ => ⟨he, 0, #[], by rw [hw, grow_empty]; rfl⟩)))
  go_wp2
  go_ret
  exact ⟨rfl, _, _, by rw [alloc_eq_grow, alloc_eq_grow, grow_grow]; exact regrow _ _ _ _⟩
theorem ret_int {a b : Int} (h : a = b) : Ending.returned (.int .i64 a) = .returned (.int .i64 b) := by rw [h]
def orL : List Int → Int
  | [] => 0
  | x :: t => if x ≠ 0 then x else orL t
theorem orL_step {l : List Int} {j : Nat} (h : j < l.length) (h0 : l[j] = 0) : orL (l.drop (j + 1)) = orL (l.drop j) := by
  rw [List.drop_eq_getElem_cons h, orL, if_neg (by simpa using h0)]
theorem orL_hit {l : List Int} {j : Nat} (h : j < l.length) (h0 : l[j] ≠ 0) : orL (l.drop j) = l[j] := by
  rw [List.drop_eq_getElem_cons h, orL, if_pos h0]
theorem cmpOr (g : Nat) (l : List Int) (w : World) (hl : l.length ≤ 1000) (hc : ∀ j (hj : j < l.length), w.cell? ⟨g, j, none⟩ = some (.int .i64 l[j])) :
    Calls Try.prog 126 #[.slice (some ⟨g, 0, none⟩) l.length l.length] w fun e w' => e = .returned (.int .i64 (orL l)) ∧ w' = w := by
  go_enter Try.func126, Try.ntmps126
  go_wp2_with fail
  go_loop [8] (fun k => ∃ j : Nat, j ≤ l.length ∧ k = .int .i64 j ∧ orL (l.drop j) = orL l) (fun k => (l.length - intOf k).toNat)
  case atStart => exact ⟨0, by omega, rfl, rfl⟩
  case round =>
    obtain ⟨j, hj, rfl, ho⟩ := hrel
    by_cases hlt : j < l.length
    · have hcj := hc j hlt
      by_cases h0 : l[j] = 0
      · have hs := orL_step hlt h0
        have HS := Lib.hid (hs.trans ho)
        clear hs ho
        rw [h0] at hcj
        go_wp2
        go_round
        case rel => exact ⟨j + 1, by omega, by go_num, HS.out⟩
        case measure => simp [intOf]; omega
      · have hs := (orL_hit hlt h0).symm.trans ho
        have HS := Lib.hid hs
        clear hs ho
        go_wp2
        go_ret
        exact ⟨ret_int HS.out, rfl⟩
    · have hz : orL l = 0 := by rw [← ho, List.drop_of_length_le (by omega)]; rfl
      have HZ := Lib.hid hz
      clear hz ho
      go_wp2
      go_ret
      exact ⟨ret_int HZ.out.symm, rfl⟩
def cI (x y : Int) : Int := if x < y then -1 else if y < x then 1 else 0
theorem nanI (x : Int) (w : World) : Calls Try.prog 151 #[.int .i64 x] w fun e w' => e = .returned (.bool false) ∧ w' = w := by
  go_enter Try.func151, Try.ntmps151
  go_wp2
  go_ret
  exact ⟨by simp, rfl⟩
theorem cmpI (x y : Int) (w : World) : Calls Try.prog 103 #[.int .i64 x, .int .i64 y] w fun e w' => e = .returned (.int .i64 (cI x y)) ∧ w' = w := by
  go_enter Try.func103, Try.ntmps103
  go_wp2_with (go_at_call 151; refine (nanI _ _).mono ?_; rintro e w' ⟨rfl, rfl⟩)
  all_goals go_ret
  all_goals (refine ⟨ret_int ?_, rfl⟩; unfold cI; first | (rw [if_pos (by omega)]; done) | (rw [if_neg (by omega), if_pos (by omega)]; done) | (rw [if_neg (by omega), if_neg (by omega)]; done))
end Go.Proofs.Ythdifoidlpiikaa.ImC
namespace Go.Proofs.Ythdifoidlpiikaa.En
open Go.RowKit
set_option linter.unusedVariables false
set_option linter.unusedSimpArgs false
def Mem.plus (m : Mem) (X : List Own) (Y : List Fact) : Mem := { m with own := m.own ++ X, fz := m.fz ++ Y }
structure Sp where
  i : Nat
  d : Nat
  ι : Type
  res : ι → Res
def over (S F : Sl) : Sl := fun t => match S t with | some v => some v | none => F t
theorem Sat.over {n : Nat} {S F : Sl} {a : Act} (h : Sat n S a) (hF : ∀ t v, F t = some v → a.tmps.getD t undef = v) : Sat n (over S F) a :=
  ⟨h.def_, h.size, fun t v hv => by
    unfold En.over at hv
    cases hS : S t with
    | some u => rw [hS] at hv; exact (Option.some.inj hv) ▸ h.val t u hS
    | none => rw [hS] at hv; exact hF t v hv⟩
def QK (K : Act → World → Prop) : Exit → Act → World → Prop := fun e a w => match e with | .normal => K a w | _ => False
def preds (l : List Oper) (i : Nat) : List Nat := match l[i]? with | some o => edgesOf o | none => []
theorem edge_mem {o : Oper} {j : Nat} : j ∈ edgesOf o ↔ ∃ e ∈ o.after, Region.binds .any e = true ∧ e.on = j := by
  unfold edgesOf
  rw [List.mem_map]
  constructor
  · rintro ⟨e, he, rfl⟩
    have := List.mem_filter.1 he
    exact ⟨e, by simpa using this.1, this.2, rfl⟩
  · rintro ⟨e, he, hb, rfl⟩
    exact ⟨e, List.mem_filter.2 ⟨by simpa using he, hb⟩, rfl⟩
structure TInv (l : List Oper) (C : List Nat) (L : List Sp) (lst : Array Bool) : Prop where
  size : lst.size = l.length
  closed : ∀ j, lst.getD j false = true → ∀ e ∈ preds l j, lst.getD e false = true
  done : ∀ c ∈ C, lst.getD c false = true
  only : ∀ i, lst.getD i false = true → i ∈ C ∨ i ∈ L.map Sp.i
section
variable {a a' : Act} {lst lst' : Array Bool}
theorem getD_set {lst : Array Bool} {i : Nat} (h : i < lst.size) : (lst.setIfInBounds i true).getD i false = true := by simp [h]
end
def PullF (G : Mem → Sl → Prop) : List Sp → Mem → Sl → Prop
  | [], m, S => G m S
  | s :: l, m, S => ∀ j : s.ι, PullF G l { m with fz := (s.res j).fz ++ m.fz } (put S s.d (s.res j).val)
section
variable {P : Program} {Q : Exit → Act → World → Prop} {n : Nat} {m : Mem} {S : Sl} {l : List Oper} {C : List Nat} {L : List Sp}
def FreeGoal (P : Program) (l : List Oper) (n : Nat) (o : Oper) (s : Sp) (m' : Mem) (S' : Sl) : Prop := ∀ (X : List Own) (Y : List Fact) (F : Sl) (K : Act → World → Prop),
  (∀ j a' w', Holds (m'.plus ((s.res j).own ++ X) ((s.res j).fz ++ Y)) w' → Sat n (put (over S' F) s.d (s.res j).val) a' → K a' w') → AL P l.toArray [o] (QK K) n (m'.plus X Y) (over S' F)
def picksS (L : List Sp) (ix : List Nat) : List Sp := ix.filterMap fun q => L[q]?
def FreeOk (P : Program) (l : List Oper) (n : Nat) (L : List Sp) (m : Mem) (S : Sl) (s : Sp) : Prop := ∃ o, l[s.i]? = some o ∧ ∃ ix : List Nat, ((picksS L ix).all fun t => (preds l s.i).contains t.i) = true ∧ PullF (FreeGoal P l n o s) (picksS L ix) m S
def FreeAll (P : Program) (l : List Oper) (n : Nat) (L : List Sp) (m : Mem) (S : Sl) : List Sp → Prop
  | [] => True
  | s :: r => FreeOk P l n L m S s ∧ FreeAll P l n L m S r
theorem FreeAll.mem : ∀ {r : List Sp}, FreeAll P l n L m S r → ∀ s ∈ r, FreeOk P l n L m S s
  | [], _, s, hs => by simp at hs
  | t :: r, h, s, hs => by
    rcases List.mem_cons.1 hs with rfl | hs
    · exact h.1
    · exact FreeAll.mem h.2 s hs
theorem TInv.set {lst : Array Bool} {C' : List Nat} {L' : List Sp} {i : Nat} (inv : TInv l C L lst) (hr : i ∈ Region.ready .any l.toArray lst) (hd : ∀ c ∈ C', c = i ∨ lst.getD c false = true) (ho : ∀ j, j = i ∨ j ∈ C ∨ j ∈ L.map Sp.i → j ∈ C' ∨ j ∈ L'.map Sp.i) : TInv l C' L' (lst.setIfInBounds i true) := by
  obtain ⟨hu, oi, hoi, hall⟩ := mem_ready.1 hr
  have hlt : i < l.length := by have := (Array.getElem?_eq_some_iff.1 hoi).1; simpa using this
  have hlt' : i < lst.size := by rw [inv.size]; exact hlt
  have hoi' : l[i]? = some oi := by simpa using hoi
  refine ⟨by simp [inv.size], fun j hj e he => ?_, fun c hc => ?_, fun j hj => ho j ?_⟩
  · by_cases hij : i = j
    · subst hij
      unfold preds at he
      rw [hoi'] at he
      obtain ⟨e', he', hb, rfl⟩ := edge_mem.1 he
      exact getD_set_true (hall e' he' hb)
    · rw [getD_set_ne false hij] at hj
      exact getD_set_true (inv.closed j hj e he)
  · rcases hd c hc with rfl | h
    · exact getD_set hlt'
    · exact getD_set_true h
  · by_cases hij : i = j
    · exact .inl hij.symm
    · rw [getD_set_ne false hij] at hj
      exact .inr (inv.only j hj)
end
end Go.Proofs.Ythdifoidlpiikaa.En
namespace Go.Proofs.Ythdifoidlpiikaa.En
open Go.RowKit
set_option linter.unusedVariables false
set_option linter.unusedSimpArgs false
section
variable {P : Program} {Q : Exit → Act → World → Prop} {n : Nat} {m : Mem} {S : Sl} {ops : Array Oper} {rest : List Oper} {o : Oper}
end
end Go.Proofs.Ythdifoidlpiikaa.En
namespace Go.Proofs.Ythdifoidlpiikaa.En
open Go.RowKit
set_option linter.unusedVariables false
set_option linter.unusedSimpArgs false
section
variable {P : Program} {n : Nat} {m : Mem} {S : Sl} {o : Oper}
end
end Go.Proofs.Ythdifoidlpiikaa.En
namespace Go.Proofs.Ythdifoidlpiikaa.En
open Go.RowKit
set_option linter.unusedVariables false
set_option linter.unusedSimpArgs false
section
variable {P : Program} {Q : Exit → Act → World → Prop} {n : Nat} {m : Mem} {S : Sl} {ops : Array Oper} {rest : List Oper} {o : Oper} {v : Value} {l : List UInt8} {e et t : TypeId}
end
end Go.Proofs.Ythdifoidlpiikaa.En
namespace Go.Proofs.Ythdifoidlpiikaa.En
open Go.RowKit
set_option linter.unusedVariables false
set_option linter.unusedSimpArgs false
section
variable {P : Program} {Q : Exit → Act → World → Prop} {n : Nat} {m : Mem} {S : Sl} {ops : Array Oper} {rest : List Oper} {o : Oper} {α : Type}
end
end Go.Proofs.Ythdifoidlpiikaa.En
namespace Go.Proofs.Ythdifoidlpiikaa.En
open Go.RowKit
set_option linter.unusedVariables false
set_option linter.unusedSimpArgs false
section
variable {P : Program} {Q : Exit → Act → World → Prop} {n : Nat} {m : Mem} {S : Sl} {ops : Array Oper} {rest : List Oper} {o : Oper} {kk vk : IntKind} {l : List (Int × Int)} {t kt vt : TypeId} {g : Nat}
end
end Go.Proofs.Ythdifoidlpiikaa.En
namespace Go.Proofs.Ythdifoidlpiikaa.En
open Go.RowKit
set_option linter.unusedVariables false
set_option linter.unusedSimpArgs false
def sbx (g off n : Nat) : Value := .slice (some ⟨g, off, none⟩) n n
section
variable {P : Program} {Q : Exit → Act → World → Prop} {n : Nat} {m : Mem} {S : Sl} {ops : Array Oper} {rest : List Oper} {o : Oper} {α β : Type}
theorem ov_sliceBox {i g off len : Nat} {t e et : TypeId} {cs : List Value} {y : Operand} (hi : m.own[i]? = some (oBox g et cs)) (hx : ev S y = some (ptr g off)) (ht : P.underlying t = some (.array len e)) (hsz : szOf P e = some 1) (ho : o.op = .slice t y none none none) :
    OpV P o n m S (sbx g off len) := fun w a hm hs => by
  unfold execOp
  simp only [ho, hs.ev hx, Option.map_none]
  simp [sbx, ptr, Instr.sliceAt, Instr.sureAddr, Instr.sliceBounds, Instr.sliceBound, asIntOf, Sem.run_bind, run_underlying ht, run_sizeOf' hsz, add_plain]
end
end Go.Proofs.Ythdifoidlpiikaa.En
namespace Go.Proofs.Ythdifoidlpiikaa.En
open Go.RowKit
set_option linter.unusedVariables false
set_option linter.unusedSimpArgs false
section
variable {P : Program} {Q : Exit → Act → World → Prop} {n : Nat} {m : Mem} {S : Sl} {ops : Array Oper} {rest : List Oper} {o : Oper} {α β : Type}
end
end Go.Proofs.Ythdifoidlpiikaa.En
namespace Go.Proofs.Ythdifoidlpiikaa.En
open Go.RowKit Go.Maps Ythdifoidlpiikaa
set_option linter.unusedVariables false
set_option linter.unusedSimpArgs false
section
variable {κ ν : Type}
variable {P : Program} {Q : Exit → Act → World → Prop} {n : Nat} {m : Mem} {S : Sl} {ops : Array Oper} {rest : List Oper} {o : Oper} {l : List (κ × ν)} {t kt vt : TypeId} {g : Nat} {ek : κ → Value} {ew : ν → Value}
end
end Go.Proofs.Ythdifoidlpiikaa.En
namespace Go.Proofs.Ythdifoidlpiikaa.En
open Go.RowKit Go.Maps Ythdifoidlpiikaa
set_option linter.unusedVariables false
set_option linter.unusedSimpArgs false
section
variable {P : Program} {Q : Exit → Act → World → Prop} {n : Nat} {m : Mem} {S : Sl} {ops : Array Oper} {rest : List Oper} {o : Oper}
theorem al_mv {d : Nat} {x : Operand} {v : Value} (ho : o.op = .move x) (hx : ev S x = some v) (h : AL P ops rest Q n m (put S d v)) (hdd : o.dst = some d := by rfl) (hd : Nat.blt d n = true := by rfl) (hg : wantS ops S o true = true := by rfl) : AL P ops (o :: rest) Q n m S := al_val (ov_move ho hx) h hdd hd hg
theorem al_as {d : Nat} {x : Operand} {v : Value} (ho : o.op = .assign x) (hx : ev S x = some v) (h : AL P ops rest Q n m (put S d v)) (hdd : o.dst = some d := by rfl) (hd : Nat.blt d n = true := by rfl) (hg : wantS ops S o true = true := by rfl) : AL P ops (o :: rest) Q n m S := al_val (ov_assign ho hx) h hdd hd hg
theorem al_in {d : Nat} {op : BinOp} {xt yt : TypeId} {x y : Operand} {k : IntKind} {p q : Int} {v : Value} (ho : o.op = .binOp op xt x y yt) (hx : ev S x = some (.int k p)) (hy : ev S y = some (.int k q)) (hv : intRes op k p q = some v) (h : AL P ops rest Q n m (put S d v)) (hdd : o.dst = some d := by rfl) (hd : Nat.blt d n = true := by rfl) (hg : wantS ops S o true = true := by rfl) : AL P ops (o :: rest) Q n m S := al_val (ov_int ho hx hy hv) h hdd hd hg
theorem al_ex {d : Nat} {x : Operand} {i : Nat} {vs : Array Value} {v : Value} (ho : o.op = .extract x i) (hx : ev S x = some (.tuple vs)) (hv : vs[i]? = some v) (h : AL P ops rest Q n m (put S d v)) (hdd : o.dst = some d := by rfl) (hd : Nat.blt d n = true := by rfl) (hg : wantS ops S o true = true := by rfl) : AL P ops (o :: rest) Q n m S := al_val (ov_extract ho hx hv) h hdd hd hg
theorem aw_sr {id : Nat} {l : List Oper} {y : Code} (h : AL P l.toArray l (Exit.then (y.wp P Q) Q) n m S) : AW P (.seq (.region id l.toArray false) y) Q n m S := aw_seq (aw_region h)
theorem al_nt {y : Code} (h : AW P y Q n m S) : AL P ops [] (Exit.then (y.wp P Q) Q) n m S := al_nil (aq_then h)
theorem aq_tr {id : Nat} {l : List Oper} {y : Code} (h : AL P l.toArray l (Exit.then (y.wp P Q) Q) n m S) : AQ (Exit.then ((Code.seq (.region id l.toArray false) y).wp P Q) Q) .normal n m S := aq_then (aw_sr h)
end
end Go.Proofs.Ythdifoidlpiikaa.En
namespace Go.Proofs.Ythdifoidlpiikaa.En
open Go.RowKit Ythdifoidlpiikaa
@[reducible] def iq (x : Int) : Value := Value.int .i64 x
@[reducible] def uq (x : Int) : Value := Value.int .u64 x
@[reducible] def i8 (x : Int) : Value := Value.int .u8 x
@[reducible] def wq (x : Int) : Int := IntKind.i64.wrap x
@[reducible] def wu (x : Int) : Int := IntKind.u64.wrap x
@[reducible] def w8 (x : Int) : Int := IntKind.u8.wrap x
@[reducible] def nS : Value := Value.slice none 0 0
@[reducible] def fq (k : Nat) : Value := Value.func (.func k) #[] #[]
@[reducible] def tq : Ty Int := tyInt .i64
@[reducible] def pq (g : Nat) : Value := ptr g 0
end Go.Proofs.Ythdifoidlpiikaa.En
namespace Go.Proofs.Ythdifoidlpiikaa.ImC
open Go.RowKit Ythdifoidlpiikaa Ythdifoidlpiikaa.En Go.Sort
set_option linter.unusedSimpArgs false
set_option linter.unusedVariables false
theorem szI : szOf Try.prog 30 = some 8 := by kernel_rfl
theorem sz1 : szOf Try.prog 3 = some 1 := by kernel_rfl
theorem toI : tyOf Try.prog 3 = some (1, 8, some (.int .i64 0)) := by kernel_rfl
theorem mixedO : Try.prog.follows .mixedOrders = true := by kernel_rfl
theorem sat_lit {n : Nat} {tm : Array Value} (hsz : tm.size = n) (l : List (Nat × Value)) (h : ∀ p ∈ l, tm.getD p.1 undef = p.2) : Sat n (tab l) { tmps := tm, defers := [] } := by
  refine ⟨rfl, hsz, ?_⟩
  induction l with
  | nil => intro t v hv; cases hv
  | cons p l ih =>
    intro t v hv
    rcases put_some hv with ⟨rfl, rfl⟩ | ⟨_, hv⟩
    · exact h p (by simp)
    · exact ih (fun q hq => h q (by simp [hq])) t v hv
theorem hold0 (w : World) : Holds (memIn w (fun b => b < w.heap.size) [] []) w :=
  ⟨Bel.refl _ _ _, rfl, List.nodup_nil, (fun b hb => by cases hb), (fun b hb => by cases hb), (fun o ho => by cases ho), (fun g hg => by cases hg)⟩
def b8 (x : UInt8) : Value := .int .u8 (x.toNat : Int)
set_option maxRecDepth 100000 in
theorem clos (X Y : List UInt8) (hX : X.length = 8) (hY : Y.length = 8) (xk xp xa xl yk yp ya yl : Int) (w : World) :
    Calls Try.prog 125 #[.agg (X.map b8 ++ [iq xk, iq xp, iq xa, iq xl]).toArray, .agg (Y.map b8 ++ [iq yk, iq yp, iq ya, iq yl]).toArray] w fun e w' =>
      e = .returned (.int .i64 (orL [Lib.compareBytes X Y, cI xp yp, cI xa ya, cI xl yl, cI xk yk])) ∧ ∃ q os', w' = grow (w.drewN q) os' := by
  have hcI : ∀ u : World, Calls Try.prog 123 ([ag (X.map b8), ag (Y.map b8)] : List Value).toArray u fun e w' => e = .returned (iq (Lib.compareBytes X Y)) ∧ ∃ q os, w' = grow (u.drewN q) os := fun u => icmp X Y hX hY u
  have hcC : ∀ (s t : Int) (u : World), Calls Try.prog 103 ([iq s, iq t] : List Value).toArray u fun e w' => e = .returned (iq (cI s t)) ∧ ∃ q os, w' = grow (u.drewN q) os := fun s t u =>
    (cmpI s t u).mono fun e w' ⟨he, hw⟩ => ⟨he, 0, #[], by rw [hw, grow_empty]; rfl⟩
  generalize hr1 : Lib.compareBytes X Y = r1 at hcI ⊢
  obtain ⟨x0, x1, x2, x3, x4, x5, x6, x7, rfl⟩ : ∃ x0 x1 x2 x3 x4 x5 x6 x7, X = [x0, x1, x2, x3, x4, x5, x6, x7] := by
    match X, hX with
    | [x0, x1, x2, x3, x4, x5, x6, x7], _ => exact ⟨x0, x1, x2, x3, x4, x5, x6, x7, rfl⟩
  obtain ⟨y0, y1, y2, y3, y4, y5, y6, y7, rfl⟩ : ∃ x0 x1 x2 x3 x4 x5 x6 x7, Y = [x0, x1, x2, x3, x4, x5, x6, x7] := by
    match Y, hY with
    | [x0, x1, x2, x3, x4, x5, x6, x7], _ => exact ⟨x0, x1, x2, x3, x4, x5, x6, x7, rfl⟩
  have h2 := box_push (box_push (hold0 w) 32 [b8 x0, b8 x1, b8 x2, b8 x3, b8 x4, b8 x5, b8 x6, b8 x7, iq xk, iq xp, iq xa, iq xl]) 32 [b8 y0, b8 y1, b8 y2, b8 y3, b8 y4, b8 y5, b8 y6, b8 y7, iq yk, iq yp, iq ya, iq yl]
  rw [World.size_alloc] at h2
  generalize hm : Mem.push _ _ = m at h2
  subst hm
  simp only [List.map_cons, List.map_nil, List.cons_append, List.nil_append] at hcI ⊢
  go_enter Try.func125, Try.ntmps125
  go_wp2_with fail
  rename_i Q' K hK
  have hJ : ∀ (u : World) q os, (∃ q0 os0, u = grow (((w.alloc (Obj.cells [b8 x0, b8 x1, b8 x2, b8 x3, b8 x4, b8 x5, b8 x6, b8 x7, iq xk, iq xp, iq xa, iq xl].toArray 32)).alloc (Obj.cells [b8 y0, b8 y1, b8 y2, b8 y3, b8 y4, b8 y5, b8 y6, b8 y7, iq yk, iq yp, iq ya, iq yl].toArray 32)).drewN q0) os0) → ∃ q0 os0, grow (u.drewN q) os = grow (((w.alloc (Obj.cells [b8 x0, b8 x1, b8 x2, b8 x3, b8 x4, b8 x5, b8 x6, b8 x7, iq xk, iq xp, iq xa, iq xl].toArray 32)).alloc (Obj.cells [b8 y0, b8 y1, b8 y2, b8 y3, b8 y4, b8 y5, b8 y6, b8 y7, iq yk, iq yp, iq ya, iq yl].toArray 32)).drewN q0) os0 := by
    rintro u q os ⟨q0, os0, rfl⟩
    exact ⟨q0 + q, os0 ++ os, by rw [regrow, World.drewN_drewN]⟩
  refine wp_region_known (n := 32) (S := (tab [(2, ptr w.heap.size 0), (3, ptr (w.heap.size + 1) 0)])) (C := fun u => Holds (((memIn w (fun b => b < w.heap.size) [] []).push (oBox w.heap.size 32 [b8 x0, b8 x1, b8 x2, b8 x3, b8 x4, b8 x5, b8 x6, b8 x7, iq xk, iq xp, iq xa, iq xl])).push (oBox (w.heap.size + 1) 32 [b8 y0, b8 y1, b8 y2, b8 y3, b8 y4, b8 y5, b8 y6, b8 y7, iq yk, iq yp, iq ya, iq yl])) u ∧ ∃ q0 os0, u = grow (((w.alloc (Obj.cells [b8 x0, b8 x1, b8 x2, b8 x3, b8 x4, b8 x5, b8 x6, b8 x7, iq xk, iq xp, iq xa, iq xl].toArray 32)).alloc (Obj.cells [b8 y0, b8 y1, b8 y2, b8 y3, b8 y4, b8 y5, b8 y6, b8 y7, iq yk, iq yp, iq ya, iq yl].toArray 32)).drewN q0) os0) 25
    [(5, ptr w.heap.size 0), (6, ag ([b8 x0, b8 x1, b8 x2, b8 x3, b8 x4, b8 x5, b8 x6, b8 x7])), (7, ptr (w.heap.size + 1) 0), (8, ag ([b8 y0, b8 y1, b8 y2, b8 y3, b8 y4, b8 y5, b8 y6, b8 y7])), (9, iq r1), (10, ptr w.heap.size 9), (11, iq xp), (12, ptr (w.heap.size + 1) 9), (13, iq yp), (14, iq (cI xp yp)), (15, ptr w.heap.size 10), (16, iq xa), (17, ptr (w.heap.size + 1) 10), (18, iq ya), (19, iq (cI xa ya)), (20, ptr w.heap.size 11), (21, iq xl), (22, ptr (w.heap.size + 1) 11), (23, iq yl), (24, iq (cI xl yl)), (25, ptr w.heap.size 8), (26, iq xk), (27, ptr (w.heap.size + 1) 8), (28, iq yk), (29, iq (cI xk yk))]
    (tab [(2, ptr w.heap.size 0), (3, ptr (w.heap.size + 1) 0)]) mixedO (by kernel_rfl) rfl rfl rfl (fun a hs => hs)
    ?loc ?tail _ _ ?c ?sat
  case loc => exact ⟨⟨rfl, lc_val (ov_fieldA (p := 0) rfl Try.underlying32 rfl szI rfl rfl rfl)⟩, ⟨rfl, lc_eq (j := 0) rfl rfl (lc_val (ov_load (i := 1) (v := ag ([b8 x0, b8 x1, b8 x2, b8 x3, b8 x4, b8 x5, b8 x6, b8 x7])) rfl rfl Try.underlying30 szI rfl rfl rfl rfl))⟩, ⟨rfl, lc_val (ov_fieldA (p := 0) rfl Try.underlying32 rfl szI rfl rfl rfl)⟩, ⟨rfl, lc_eq (j := 2) rfl rfl (lc_val (ov_load (i := 0) (v := ag ([b8 y0, b8 y1, b8 y2, b8 y3, b8 y4, b8 y5, b8 y6, b8 y7])) rfl rfl Try.underlying30 szI rfl rfl rfl rfl))⟩, ⟨rfl, lc_eq (j := 1) rfl rfl (lc_eq (j := 3) rfl rfl (lc_call (vs := [ag ([b8 x0, b8 x1, b8 x2, b8 x3, b8 x4, b8 x5, b8 x6, b8 x7]), ag ([b8 y0, b8 y1, b8 y2, b8 y3, b8 y4, b8 y5, b8 y6, b8 y7])]) hJ hcI rfl Try.func123 rfl rfl rfl))⟩, ⟨rfl, lc_val (ov_fieldA (p := 9) rfl Try.underlying32 rfl sz1 rfl rfl rfl)⟩, ⟨rfl, lc_eq (j := 5) rfl rfl (lc_val (ov_load (i := 1) (v := iq xp) rfl rfl Try.underlying3 sz1 rfl rfl rfl rfl))⟩, ⟨rfl, lc_val (ov_fieldA (p := 9) rfl Try.underlying32 rfl sz1 rfl rfl rfl)⟩, ⟨rfl, lc_eq (j := 7) rfl rfl (lc_val (ov_load (i := 0) (v := iq yp) rfl rfl Try.underlying3 sz1 rfl rfl rfl rfl))⟩, ⟨rfl, lc_eq (j := 6) rfl rfl (lc_eq (j := 8) rfl rfl (lc_call (vs := [iq xp, iq yp]) hJ (hcC xp yp) rfl Try.func103 rfl rfl rfl))⟩, ⟨rfl, lc_val (ov_fieldA (p := 10) rfl Try.underlying32 rfl sz1 rfl rfl rfl)⟩, ⟨rfl, lc_eq (j := 10) rfl rfl (lc_val (ov_load (i := 1) (v := iq xa) rfl rfl Try.underlying3 sz1 rfl rfl rfl rfl))⟩, ⟨rfl, lc_val (ov_fieldA (p := 10) rfl Try.underlying32 rfl sz1 rfl rfl rfl)⟩, ⟨rfl, lc_eq (j := 12) rfl rfl (lc_val (ov_load (i := 0) (v := iq ya) rfl rfl Try.underlying3 sz1 rfl rfl rfl rfl))⟩, ⟨rfl, lc_eq (j := 11) rfl rfl (lc_eq (j := 13) rfl rfl (lc_call (vs := [iq xa, iq ya]) hJ (hcC xa ya) rfl Try.func103 rfl rfl rfl))⟩, ⟨rfl, lc_val (ov_fieldA (p := 11) rfl Try.underlying32 rfl sz1 rfl rfl rfl)⟩, ⟨rfl, lc_eq (j := 15) rfl rfl (lc_val (ov_load (i := 1) (v := iq xl) rfl rfl Try.underlying3 sz1 rfl rfl rfl rfl))⟩, ⟨rfl, lc_val (ov_fieldA (p := 11) rfl Try.underlying32 rfl sz1 rfl rfl rfl)⟩, ⟨rfl, lc_eq (j := 17) rfl rfl (lc_val (ov_load (i := 0) (v := iq yl) rfl rfl Try.underlying3 sz1 rfl rfl rfl rfl))⟩, ⟨rfl, lc_eq (j := 16) rfl rfl (lc_eq (j := 18) rfl rfl (lc_call (vs := [iq xl, iq yl]) hJ (hcC xl yl) rfl Try.func103 rfl rfl rfl))⟩, ⟨rfl, lc_val (ov_fieldA (p := 8) rfl Try.underlying32 rfl sz1 rfl rfl rfl)⟩, ⟨rfl, lc_eq (j := 20) rfl rfl (lc_val (ov_load (i := 1) (v := iq xk) rfl rfl Try.underlying3 sz1 rfl rfl rfl rfl))⟩, ⟨rfl, lc_val (ov_fieldA (p := 8) rfl Try.underlying32 rfl sz1 rfl rfl rfl)⟩, ⟨rfl, lc_eq (j := 22) rfl rfl (lc_val (ov_load (i := 0) (v := iq yk) rfl rfl Try.underlying3 sz1 rfl rfl rfl rfl))⟩, ⟨rfl, lc_eq (j := 21) rfl rfl (lc_eq (j := 23) rfl rfl (lc_call (vs := [iq xk, iq yk]) hJ (hcC xk yk) rfl Try.func103 rfl rfl rfl))⟩, trivial⟩
  case c => exact ⟨h2.ext ((Below.refl _ _).drew), 1, #[], by rw [grow_empty]; rfl⟩
  case sat =>
    refine sat_lit (n := 32) rfl [(2, ptr w.heap.size 0), (3, ptr (w.heap.size + 1) 0)] (fun p hp => ?_)
    rcases List.mem_cons.1 hp with rfl | hp
    · rfl
    · rw [List.mem_singleton.1 hp]; rfl
  refine tlc_eq 4 rfl (tlc_eq 9 rfl (tlc_eq 14 rfl (tlc_eq 19 rfl (tlc_eq 24 rfl ?_))))
  intro u a hC hs _
  obtain ⟨hH, q0, os0, hu⟩ := hC
  have hb := run_bs (P := Try.prog) [(iq r1), (iq (cI xp yp)), (iq (cI xa ya)), (iq (cI xl yl)), (iq (cI xk yk))] [(iq r1), (iq (cI xp yp)), (iq (cI xa ya)), (iq (cI xl yl)), (iq (cI xk yk))] Try.underlying49 toI rfl rfl (bs_cons (l := [(iq r1)]) (cs := [(iq (cI xp yp)), (iq (cI xa ya)), (iq (cI xl yl)), (iq (cI xk yk))]) (cv_rfl rfl) rfl (bs_cons (l := [(iq (cI xp yp))]) (cs := [(iq (cI xa ya)), (iq (cI xl yl)), (iq (cI xk yk))]) (cv_rfl rfl) rfl (bs_cons (l := [(iq (cI xa ya))]) (cs := [(iq (cI xl yl)), (iq (cI xk yk))]) (cv_rfl rfl) rfl (bs_cons (l := [(iq (cI xl yl))]) (cs := [(iq (cI xk yk))]) (cv_rfl rfl) rfl (bs_cons (l := [(iq (cI xk yk))]) (cs := []) (cv_rfl rfl) rfl bs_nil))))) hH
  refine wl_val (v := .slice (some ⟨u.heap.size, 0, none⟩) 5 5) (w' := u.alloc (.cells ([iq (r1), iq (cI xp yp), iq (cI xa ya), iq (cI xl yl), iq (cI xk yk)] : List Value).toArray 3)) hs ?run ?rest
  case run =>
    unfold execOp
    simp only [List.map_toArray, List.map_cons, List.map_nil, hs.ev (x := .tmp 9) rfl, hs.ev (x := .tmp 14) rfl, hs.ev (x := .tmp 19) rfl, hs.ev (x := .tmp 24) rfl, hs.ev (x := .tmp 29) rfl]
    have hb' : (Instr.buildSlice 49 5 #[(0, iq r1), (1, iq (cI xp yp)), (2, iq (cI xa ya)), (3, iq (cI xl yl)), (4, iq (cI xk yk))]).run Try.prog u = .ok (.slice (some ⟨u.heap.size, 0, none⟩) 5 5) (u.alloc (.cells ([iq (r1), iq (cI xp yp), iq (cI xa ya), iq (cI xl yl), iq (cI xk yk)] : List Value).toArray 3)) := hb
    simp [hb']
  case rest =>
    have hs1 := hs.put' (od := some 30) (d := 30) rfl rfl (.slice (some ⟨u.heap.size, 0, none⟩) 5 5)
    refine wl_call (vs := [.slice (some ⟨u.heap.size, 0, none⟩) 5 5]) (v := iq (orL [r1, cI xp yp, cI xa ya, cI xl yl, cI xk yk])) hs1 ?_ rfl Try.func126 rfl rfl rfl
    have hcells : ∀ j (hj : j < ([r1, cI xp yp, cI xa ya, cI xl yl, cI xk yk] : List Int).length), (u.alloc (.cells ([iq (r1), iq (cI xp yp), iq (cI xa ya), iq (cI xl yl), iq (cI xk yk)] : List Value).toArray 3)).cell? ⟨u.heap.size, j, none⟩ = some (.int .i64 ([r1, cI xp yp, cI xa ya, cI xl yl, cI xk yk] : List Int)[j]) := fun j hj => by
      have h1 : (u.alloc (.cells ([iq (r1), iq (cI xp yp), iq (cI xa ya), iq (cI xl yl), iq (cI xk yk)] : List Value).toArray 3)).heap[u.heap.size]? = some (.cells ([iq (r1), iq (cI xp yp), iq (cI xa ya), iq (cI xl yl), iq (cI xk yk)] : List Value).toArray 3) := heap_alloc_new u _
      simp only [World.cell?, h1]
      match j, hj with
      | 0, _ => rfl
      | 1, _ => rfl
      | 2, _ => rfl
      | 3, _ => rfl
      | 4, _ => rfl
    refine (cmpOr u.heap.size [r1, cI xp yp, cI xa ya, cI xl yl, cI xk yk] _ (by simp) hcells).mono ?_
    rintro e w' ⟨rfl, rfl⟩
    refine ⟨rfl, ?_⟩
    have hs2 := hs1.put' (od := some 31) (d := 31) rfl rfl (iq (orL [r1, cI xp yp, cI xa ya, cI xl yl, cI xk yk]))
    refine wl_val (v := iq (orL [r1, cI xp yp, cI xa ya, cI xl yl, cI xk yk])) (w' := _) hs2 (by unfold execOp; simp only [hs2.ev (x := .tmp 31) rfl]; rfl) ?_
    have hs3 := hs2.put' (od := some 4) (d := 4) rfl rfl (iq (orL [r1, cI xp yp, cI xa ya, cI xl yl, cI xk yk]))
    refine hK _ _ (wp_ret ⟨hs3.def_, _, by rw [results_tmp rfl, hs3.val 4 _ rfl], rfl, ?_⟩)
    exact ⟨_, _, by rw [hu, alloc_eq_grow, grow_grow, alloc_eq_grow, alloc_eq_grow, grow_grow, regrow]⟩
end Go.Proofs.Ythdifoidlpiikaa.ImC
namespace Go.Proofs.Ythdifoidlpiikaa
open Go.RowKit Ythdifoidlpiikaa.En
theorem at_nat {α : Type} (xs : List α) (k : Nat) : at? xs (k : Int) = xs[k]? := by unfold at?; rw [if_pos (Int.natCast_nonneg k)]; simp
theorem at_lt {α : Type} {xs : List α} {k : Nat} (h : k < xs.length) : at? xs (k : Int) = some xs[k] := by rw [at_nat, List.getElem?_eq_getElem h]
theorem at_of {α : Type} {xs : List α} {k : Nat} {x : α} (h : xs[k]? = some x) : at? xs (k : Int) = some x := by rw [at_nat, h]
theorem w64 {x : Int} (h0 : -9223372036854775808 ≤ x) (h1 : x ≤ 9223372036854775807) : IntKind.i64.wrap x = x := IntWalk.i64_in x (by omega)
theorem wsucc {k : Nat} (h : k < 9223372036854775807) : IntKind.i64.wrap ((k : Int) + 1) = ((k + 1 : Nat) : Int) := by rw [w64 (by omega) (by omega)]; omega
theorem dlt {a b : Int} (h : a < b) : decide (a < b) = true := decide_eq_true h
theorem dge {a b : Int} (h : b ≤ a) : decide (a < b) = false := decide_eq_false (by omega)
theorem cond_tt {α : Type} {b : Bool} {x y : α} (h : b = true) : (bif b then x else y) = x := by rw [h]; rfl
theorem cond_ff {α : Type} {b : Bool} {x y : α} (h : b = false) : (bif b then x else y) = y := by rw [h]; rfl
end Go.Proofs.Ythdifoidlpiikaa
namespace Go.Proofs.Ythdifoidlpiikaa.StrOrd
open Go.RowKit Ythdifoidlpiikaa.En Ythdifoidlpiikaa
theorem u8_tri (a b : UInt8) : a < b ∨ a = b ∨ b < a := by
  rcases Nat.lt_trichotomy a.toNat b.toNat with h | h | h
  · exact .inl (UInt8.lt_iff_toNat_lt.2 h)
  · exact .inr (.inl (UInt8.toNat_inj.1 h))
  · exact .inr (.inr (UInt8.lt_iff_toNat_lt.2 h))
theorem u8_irr (a : UInt8) : ¬ a < a := fun h => Nat.lt_irrefl _ (UInt8.lt_iff_toNat_lt.1 h)
theorem u8_asymm {a b : UInt8} (h : a < b) : ¬ b < a := fun h' => by
  have h1 := UInt8.lt_iff_toNat_lt.1 h
  have h2 := UInt8.lt_iff_toNat_lt.1 h'
  omega
theorem u8_trans {a b c : UInt8} (h : a < b) (h' : b < c) : a < c := UInt8.lt_iff_toNat_lt.2 (Nat.lt_trans (UInt8.lt_iff_toNat_lt.1 h) (UInt8.lt_iff_toNat_lt.1 h'))
abbrev L (a b : List UInt8) : Prop := Op.bytesLess a b = true
theorem less_nil (a : List UInt8) : ¬ L a [] := by cases a <;> simp [L, Op.bytesLess]
theorem less_cons {x y : UInt8} {a b : List UInt8} : L (x :: a) (y :: b) ↔ x < y ∨ (x = y ∧ L a b) := by simp [L, Op.bytesLess]
theorem irr : ∀ a : List UInt8, ¬ L a a
  | [] => less_nil []
  | x :: a => fun h => by
    rcases less_cons.1 h with h | h
    · exact u8_irr x h
    · exact irr a h.2
theorem trans : ∀ {a b c : List UInt8}, L a b → L b c → L a c
  | a, [], c, h, _ => absurd h (less_nil a)
  | a, _ :: _, [], _, h => absurd h (less_nil _)
  | [], _ :: _, _ :: _, _, _ => rfl
  | x :: a, y :: b, z :: c, h, h' => by
    rcases less_cons.1 h with k | ⟨e, k⟩
    · rcases less_cons.1 h' with k' | ⟨e', _⟩
      · exact less_cons.2 (.inl (u8_trans k k'))
      · subst e'; exact less_cons.2 (.inl k)
    · subst e
      rcases less_cons.1 h' with k' | ⟨e', k'⟩
      · exact less_cons.2 (.inl k')
      · exact less_cons.2 (.inr ⟨e', trans k k'⟩)
theorem tri : ∀ a b : List UInt8, L a b ∨ a = b ∨ L b a
  | [], [] => .inr (.inl rfl)
  | [], _ :: _ => .inl rfl
  | _ :: _, [] => .inr (.inr rfl)
  | x :: a, y :: b => by
    rcases u8_tri x y with h | rfl | h
    · exact .inl (less_cons.2 (.inl h))
    · rcases tri a b with h | rfl | h
      · exact .inl (less_cons.2 (.inr ⟨rfl, h⟩))
      · exact .inr (.inl rfl)
      · exact .inr (.inr (less_cons.2 (.inr ⟨rfl, h⟩)))
    · exact .inr (.inr (less_cons.2 (.inl h)))
theorem asymm {a b : List UInt8} (h : L a b) : ¬ L b a := fun h' => irr a (trans h h')
theorem cmp : ∀ a b : List UInt8, (L a b ∧ Lib.compareBytes a b = -1) ∨ (a = b ∧ Lib.compareBytes a b = 0) ∨ (L b a ∧ Lib.compareBytes a b = 1)
  | [], [] => .inr (.inl ⟨rfl, rfl⟩)
  | [], _ :: _ => .inl ⟨rfl, rfl⟩
  | _ :: _, [] => .inr (.inr ⟨rfl, rfl⟩)
  | x :: a, y :: b => by
    unfold Lib.compareBytes
    rcases u8_tri x y with h | rfl | h
    · rw [if_pos h]; exact .inl ⟨less_cons.2 (.inl h), rfl⟩
    · rw [if_neg (u8_irr x), if_neg (u8_irr x)]
      rcases cmp a b with ⟨h, e⟩ | ⟨rfl, e⟩ | ⟨h, e⟩
      · exact .inl ⟨less_cons.2 (.inr ⟨rfl, h⟩), e⟩
      · exact .inr (.inl ⟨rfl, e⟩)
      · exact .inr (.inr ⟨less_cons.2 (.inr ⟨rfl, h⟩), e⟩)
    · rw [if_neg (u8_asymm h), if_pos h]; exact .inr (.inr ⟨less_cons.2 (.inl h), rfl⟩)
theorem cmp_neg {a b : List UInt8} : Lib.compareBytes a b < 0 ↔ L a b := by
  rcases cmp a b with ⟨h, e⟩ | ⟨rfl, e⟩ | ⟨h, e⟩
  · rw [e]; exact ⟨fun _ => h, fun _ => by omega⟩
  · rw [e]; exact ⟨fun h => by omega, fun h => absurd h (irr _)⟩
  · rw [e]; exact ⟨fun h' => by omega, fun h' => absurd h (asymm h')⟩
theorem cmp_zero {a b : List UInt8} : Lib.compareBytes a b = 0 ↔ a = b := by
  rcases cmp a b with ⟨h, e⟩ | ⟨rfl, e⟩ | ⟨h, e⟩
  · rw [e]; exact ⟨fun h' => by omega, fun h' => by subst h'; exact absurd h (irr _)⟩
  · rw [e]; simp
  · rw [e]; exact ⟨fun h' => by omega, fun h' => by subst h'; exact absurd h (irr _)⟩
theorem cmp_le {a b : List UInt8} : Lib.compareBytes a b ≤ 0 ↔ ¬ L b a := by
  rcases cmp a b with ⟨h, e⟩ | ⟨rfl, e⟩ | ⟨h, e⟩
  · rw [e]; exact ⟨fun _ => asymm h, fun _ => by omega⟩
  · rw [e]; exact ⟨fun _ => irr _, fun _ => by omega⟩
  · rw [e]; exact ⟨fun h' => by omega, fun h' => absurd h h'⟩
end Go.Proofs.Ythdifoidlpiikaa.StrOrd
namespace Go.Proofs.Ythdifoidlpiikaa.ImC
open Go.RowKit Ythdifoidlpiikaa Ythdifoidlpiikaa.En Go.Sort
set_option linter.unusedSimpArgs false
set_option linter.unusedVariables false
structure Tot {α : Type} (c : α → α → Int) : Prop where
  refl : ∀ x, c x x = 0
  anti : ∀ x y, c x y < 0 ↔ 0 < c y x
  trans : ∀ x y z, c x y < 0 → c y z < 0 → c x z < 0
  eql : ∀ x y z, c x y = 0 → c x z = c y z
  eqr : ∀ x y z, c x y = 0 → c z x = c z y
variable {α : Type}
theorem Tot.chain {c d : α → α → Int} (hc : Tot c) (hd : Tot d) : Tot (fun x y => if c x y ≠ 0 then c x y else d x y) where
  refl x := by simp [hc.refl, hd.refl]
  anti x y := by
    have h1 := hc.anti x y
    have h2 := hc.anti y x
    have h3 := hd.anti x y
    by_cases h : c x y = 0
    · have h' : c y x = 0 := by omega
      simp [h, h', h3]
    · have h' : c y x ≠ 0 := by omega
      simp [h, h', h1]
  trans x y z := by
    intro h1 h2
    by_cases a : c x y = 0
    · have e := hc.eql x y z a
      simp only [a, ne_eq, not_true_eq_false, if_false] at h1
      by_cases b : c y z = 0
      · simp only [b, ne_eq, not_true_eq_false, if_false] at h2
        have : c x z = 0 := by omega
        simp only [this, ne_eq, not_true_eq_false, if_false]
        exact hd.trans x y z h1 h2
      · simp only [ne_eq, b, not_false_eq_true, if_true] at h2
        have : c x z ≠ 0 := by omega
        simp only [ne_eq, this, not_false_eq_true, if_true]; omega
    · simp only [ne_eq, a, not_false_eq_true, if_true] at h1
      by_cases b : c y z = 0
      · have e := hc.eqr y z x b
        have : c x z ≠ 0 := by omega
        simp only [ne_eq, this, not_false_eq_true, if_true]; omega
      · simp only [ne_eq, b, not_false_eq_true, if_true] at h2
        have h3 := hc.trans x y z h1 h2
        have : c x z ≠ 0 := by omega
        simp only [ne_eq, this, not_false_eq_true, if_true]; exact h3
  eql x y z := by
    intro h
    by_cases a : c x y = 0
    · simp only [a, ne_eq, not_true_eq_false, if_false] at h
      simp only [hc.eql x y z a, hd.eql x y z h]
    · simp only [ne_eq, a, not_false_eq_true, if_true] at h
  eqr x y z := by
    intro h
    by_cases a : c x y = 0
    · simp only [a, ne_eq, not_true_eq_false, if_false] at h
      simp only [hc.eqr x y z a, hd.eqr x y z h]
    · simp only [ne_eq, a, not_false_eq_true, if_true] at h
theorem Tot.zero : Tot (fun _ _ : α => (0 : Int)) := ⟨fun _ => rfl, fun _ _ => by simp, fun _ _ _ h _ => h, fun _ _ _ _ => rfl, fun _ _ _ _ => rfl⟩
theorem Tot.int (f : α → Int) : Tot (fun x y => cI (f x) (f y)) where
  refl x := by unfold cI; rw [if_neg (by omega), if_neg (by omega)]
  anti x y := by unfold cI; split <;> split <;> (try split) <;> omega
  trans x y z := by unfold cI; split <;> split <;> (try split) <;> (try split) <;> (try split) <;> omega
  eql x y z := by intro h; have : f x = f y := by { unfold cI at h; split at h <;> (try split at h) <;> omega }; rw [this]
  eqr x y z := by intro h; have : f x = f y := by { unfold cI at h; split at h <;> (try split at h) <;> omega }; rw [this]
theorem cI_zero {x y : Int} : cI x y = 0 ↔ x = y := by unfold cI; split <;> (try split) <;> omega
theorem Tot.bytes (f : α → List UInt8) : Tot (fun x y => Lib.compareBytes (f x) (f y)) where
  refl x := StrOrd.cmp_zero.2 rfl
  anti x y := by
    rcases StrOrd.cmp (f x) (f y) with ⟨a, b⟩ | ⟨a, b⟩ | ⟨a, b⟩ <;> rcases StrOrd.cmp (f y) (f x) with ⟨c, d⟩ | ⟨c, d⟩ | ⟨c, d⟩
    · exact absurd c (StrOrd.asymm a)
    · rw [c] at a; exact absurd a (StrOrd.irr _)
    · simp [b, d]
    · rw [a] at c; exact absurd c (StrOrd.irr _)
    · simp [b, d]
    · rw [a] at c; exact absurd c (StrOrd.irr _)
    · simp [b, d]
    · rw [c] at a; exact absurd a (StrOrd.irr _)
    · exact absurd c (StrOrd.asymm a)
  trans x y z h1 h2 := StrOrd.cmp_neg.2 (StrOrd.trans (StrOrd.cmp_neg.1 h1) (StrOrd.cmp_neg.1 h2))
  eql x y z h := by rw [StrOrd.cmp_zero.1 h]
  eqr x y z h := by rw [StrOrd.cmp_zero.1 h]
theorem Tot.swo {c : α → α → Int} (h : Tot c) : SWO (ltOf c) where
  irrefl x := by unfold ltOf; rw [h.refl]; rfl
  trans x y z h1 h2 := by
    unfold ltOf at *
    exact decide_eq_true (h.trans x y z (of_decide_eq_true h1) (of_decide_eq_true h2))
  ntrans x y z h1 h2 := by
    unfold ltOf at *
    have h1 := of_decide_eq_false h1
    have h2 := of_decide_eq_false h2
    refine decide_eq_false fun h3 => ?_
    by_cases a : c x y = 0
    · rw [h.eql x y z a] at h3; exact h2 h3
    · have h4 : c y x < 0 := by have := h.anti y x; omega
      exact h2 (h.trans y x z h4 h3)
theorem Tot.part {c : α → α → Int} (h : Tot c) (hz : ∀ x y, c x y = 0 → x = y) (x y : α) (h1 : ltOf c x y = false) (h2 : ltOf c y x = false) : x = y := by
  unfold ltOf at *
  have h1 := of_decide_eq_false h1
  have h2 := of_decide_eq_false h2
  have := h.anti y x
  exact hz x y (by omega)
def plc (b : α → List UInt8) (k p a l : α → Int) (x y : α) : Int := orL [Lib.compareBytes (b x) (b y), cI (p x) (p y), cI (a x) (a y), cI (l x) (l y), cI (k x) (k y)]
theorem plc_tot (b : α → List UInt8) (k p a l : α → Int) : Tot (plc b k p a l) :=
  (Tot.bytes b).chain ((Tot.int p).chain ((Tot.int a).chain ((Tot.int l).chain ((Tot.int k).chain Tot.zero))))
theorem plc_zero {b : α → List UInt8} {k p a l : α → Int} (x y : α) (h : plc b k p a l x y = 0) : b x = b y ∧ p x = p y ∧ a x = a y ∧ l x = l y ∧ k x = k y := by
  unfold plc at h
  simp only [orL] at h
  by_cases h1 : Lib.compareBytes (b x) (b y) = 0
  · rw [if_neg (by simpa using h1)] at h
    by_cases h2 : cI (p x) (p y) = 0
    · rw [if_neg (by simpa using h2)] at h
      by_cases h3 : cI (a x) (a y) = 0
      · rw [if_neg (by simpa using h3)] at h
        by_cases h4 : cI (l x) (l y) = 0
        · rw [if_neg (by simpa using h4)] at h
          by_cases h5 : cI (k x) (k y) = 0
          · exact ⟨StrOrd.cmp_zero.1 h1, cI_zero.1 h2, cI_zero.1 h3, cI_zero.1 h4, cI_zero.1 h5⟩
          · rw [if_pos h5] at h; exact absurd h h5
        · rw [if_pos h4] at h; exact absurd h h4
      · rw [if_pos h3] at h; exact absurd h h3
    · rw [if_pos h2] at h; exact absurd h h2
  · rw [if_pos h1] at h; exact absurd h h1
end Go.Proofs.Ythdifoidlpiikaa.ImC
namespace Go.Proofs
open Go.Shelf
def Try.laysSort_ren : Go.Shelf.Ren := ⟨fun | 6 => 124 | 15 => 167 | 14 => 166 | 28 => 193 | 29 => 194 | 20 => 185 | 21 => 186 | 22 => 187 | 23 => 188 | 24 => 189 | 25 => 190 | 26 => 191 | 27 => 192 | 46 => 202 | 47 => 203 | 48 => 204 | 49 => 205 | 50 => 206 | 57 => 220 | n => n, fun | 22 => 22 | 24 => 32 | 25 => 191 | 3 => 3 | 39 => 225 | 0 => 0 | 53 => 240 | 55 => 54 | 4 => 4 | 46 => 249 | 45 => 248 | 50 => 164 | 5 => 5 | 9 => 9 | 66 => 262 | 70 => 266 | 76 => 281 | 77 => 282 | n => n, fun | n => n⟩
theorem Try.laysSort : Go.Proofs.SlLaysF0.n6 Try.prog Try.laysSort_ren := {
  mixed := by kernel_rfl
  f6 := ⟨Try.f124.name, by decide, Try.func124.trans (congrArg some (by kernel_rfl))⟩
  f14 := ⟨Try.f166.name, by decide, Try.func166.trans (congrArg some (by kernel_rfl))⟩
  f15 := Try.func167.trans (congrArg some (by kernel_rfl))
  f20 := ⟨Try.f185.name, by decide, Try.func185.trans (congrArg some (by kernel_rfl))⟩
  f21 := ⟨Try.f186.name, by decide, Try.func186.trans (congrArg some (by kernel_rfl))⟩
  f22 := ⟨Try.f187.name, by decide, Try.func187.trans (congrArg some (by kernel_rfl))⟩
  f23 := ⟨Try.f188.name, by decide, Try.func188.trans (congrArg some (by kernel_rfl))⟩
  f24 := ⟨Try.f189.name, by decide, Try.func189.trans (congrArg some (by kernel_rfl))⟩
  f25 := ⟨Try.f190.name, by decide, Try.func190.trans (congrArg some (by kernel_rfl))⟩
  f26 := ⟨Try.f191.name, by decide, Try.func191.trans (congrArg some (by kernel_rfl))⟩
  f27 := ⟨Try.f192.name, by decide, Try.func192.trans (congrArg some (by kernel_rfl))⟩
  f28 := Try.func193.trans (congrArg some (by kernel_rfl))
  f29 := Try.func194.trans (congrArg some (by kernel_rfl))
  f46 := ⟨Try.f202.name, by decide, Try.func202.trans (congrArg some (by kernel_rfl))⟩
  f47 := Try.func203.trans (congrArg some (by kernel_rfl))
  f48 := Try.func204.trans (congrArg some (by kernel_rfl))
  f49 := ⟨Try.f205.name, by decide, Try.func205.trans (congrArg some (by kernel_rfl))⟩
  f50 := ⟨Try.f206.name, by decide, Try.func206.trans (congrArg some (by kernel_rfl))⟩
  f57 := ⟨Try.f220.name, by decide, Try.func220.trans (congrArg some (by kernel_rfl))⟩
  t0 := Try.underlying0
  a0 := Try.isAgg0
  z0 := Try.sizeOf0
  v0 := Try.zeroValue0
  t3 := Try.underlying3
  a3 := Try.isAgg3
  z3 := Try.sizeOf3
  v3 := Try.zeroValue3
  t4 := Try.underlying4
  a4 := Try.isAgg4
  z4 := Try.sizeOf4
  v4 := Try.zeroValue4
  t5 := Try.underlying5
  a5 := Try.isAgg5
  z5 := Try.sizeOf5
  v5 := Try.zeroValue5
  t9 := Try.underlying9
  a9 := Try.isAgg9
  z9 := Try.sizeOf9
  v9 := Try.zeroValue9
  t22 := Try.underlying22
  a22 := Try.isAgg22
  z22 := Try.sizeOf22
  v22 := Try.zeroValue22
  t25 := Try.underlying191
  a25 := Try.isAgg191
  z25 := Try.sizeOf191
  v25 := Try.zeroValue191
  t39 := Try.underlying225
  a39 := Try.isAgg225
  z39 := Try.sizeOf225
  v39 := Try.zeroValue225
  t45 := Try.underlying248
  a45 := Try.isAgg248
  z45 := Try.sizeOf248
  v45 := Try.zeroValue248
  t46 := Try.underlying249
  a46 := Try.isAgg249
  z46 := Try.sizeOf249
  v46 := Try.zeroValue249
  t50 := Try.underlying164
  a50 := Try.isAgg164
  z50 := Try.sizeOf164
  v50 := Try.zeroValue164
  t53 := Try.underlying240
  a53 := Try.isAgg240
  z53 := Try.sizeOf240
  v53 := Try.zeroValue240
  t55 := Try.underlying54
  a55 := Try.isAgg54
  z55 := Try.sizeOf54
  v55 := Try.zeroValue54
  t66 := Try.underlying262
  a66 := Try.isAgg262
  z66 := Try.sizeOf262
  v66 := Try.zeroValue262
  t70 := Try.underlying266
  a70 := Try.isAgg266
  z70 := Try.sizeOf266
  v70 := Try.zeroValue266
  t76 := Try.underlying281
  a76 := Try.isAgg281
  z76 := Try.sizeOf281
  v76 := Try.zeroValue281
  t77 := Try.underlying282
  a77 := Try.isAgg282
  z77 := Try.sizeOf282
  v77 := Try.zeroValue282 }
end Go.Proofs
namespace Go.Proofs.Ythdifoidlpiikaa.ImC
open Go.RowKit Ythdifoidlpiikaa Ythdifoidlpiikaa.En Go.Sort Go.Shelf
set_option linter.unusedSimpArgs false
set_option linter.unusedVariables false
section
variable {α : Type} (b : α → List UInt8) (k p a l : α → Int)
def encP (x : α) : List Value := (b x).map b8 ++ [iq (k x), iq (p x), iq (a x), iq (l x)]
theorem encP_len (hb : ∀ x, (b x).length = 8) (x : α) : (encP b k p a l x).length = 12 := by unfold encP; simp [hb x]
theorem encP_one (x : α) : ∀ v ∈ encP b k p a l x, v.oneCell' = true := fun v hv => by
  unfold encP at hv
  rcases List.mem_append.1 hv with h | h
  · obtain ⟨y, _, rfl⟩ := List.mem_map.1 h; rfl
  · simp at h; rcases h with rfl | rfl | rfl | rfl <;> rfl
end
section
variable {α : Type} [Inhabited α] (b : α → List UInt8) (k p a l : α → Int)
theorem cmpL (hb : ∀ x, (b x).length = 8) (blk off size : Nat) (w : World) : CmpLays Try.prog 125 #[] (encP b k p a l) 12 (plc b k p a l) blk off size w :=
  fun m os dk hs x y => clos (b x) (b y) (hb x) (hb y) (k x) (p x) (a x) (l x) (k y) (p y) (a y) (l y) _
theorem sortP (hb : ∀ x, (b x).length = 8) (hinj : ∀ x y, b x = b y → p x = p y → a x = a y → l x = l y → k x = k y → x = y) (blk off cap : Nat) (d : Array α) (w : World) (hH : HoldsK (encP b k p a l) 12 w blk off d) (hblk : blk < w.heap.size) (hsz : d.size < 4611686018427387904) :
    Calls Try.prog 124 #[.slice (some ⟨blk, off, none⟩) d.size cap, .func (.func 125) #[] #[]] w fun e w' =>
      e = .returned (.tuple #[]) ∧ ∃ n os, w' = sortWorldK (encP b k p a l) 12 w blk off n (d.toList.mergeSort fun x y => !(ltOf (plc b k p a l)) y x).toArray os :=
  AnyQ.slices_SortFunc_total Try.laysSort 12 (by intro w; kernel_rfl) (by intro w; kernel_rfl) (encP b k p a l) (encP_len b k p a l hb) (encP_one b k p a l) (plc b k p a l) (plc_tot b k p a l).swo 125 #[] blk off cap d w
    (enters_of Try.func125 (by kernel_rfl) rfl) (cmpL b k p a l hb blk off d.size w) hH hblk hsz
    (fun x y h1 h2 => (plc_tot b k p a l).part (fun x y h => by obtain ⟨e1, e2, e3, e4, e5⟩ := plc_zero x y h; exact hinj x y e1 e2 e3 e4 e5) x y h1 h2)
end
theorem flat_get {α : Type} {enc : α → List Value} {k : Nat} (hk : ∀ x, (enc x).length = k) (hk0 : 0 < k) : ∀ (xs : List α) (t : Nat), (xs.flatMap enc)[t]? = (xs[t / k]?).bind fun x => (enc x)[t % k]?
  | [], t => by simp
  | x :: xs, t => by
    rw [List.flatMap_cons]
    by_cases h : t < k
    · rw [List.getElem?_append_left (by rw [hk]; exact h), Nat.div_eq_of_lt h, Nat.mod_eq_of_lt h]; rfl
    · rw [List.getElem?_append_right (by rw [hk]; omega), hk, flat_get hk hk0 xs (t - k)]
      have e1 : t / k = (t - k) / k + 1 := Nat.div_eq_sub_div hk0 (by omega)
      have e2 : t % k = (t - k) % k := Nat.mod_eq_sub_mod (by omega)
      rw [e1, e2, List.getElem?_cons_succ]
theorem flatK_list {α : Type} [Inhabited α] {enc : α → List Value} {k : Nat} (hk : ∀ x, (enc x).length = k) (hk0 : 0 < k) (xs : List α) : (flatK enc k xs.toArray).toList = xs.flatMap enc := by
  apply List.ext_getElem?
  intro t
  rw [flat_get hk hk0]
  by_cases h : t < xs.length * k
  · have hd : t / k < xs.length := (Nat.div_lt_iff_lt_mul hk0).2 h
    have hm : t % k < k := Nat.mod_lt _ hk0
    have hg := get_flatK enc k xs.toArray t (by simpa using h)
    have hsz : t < (flatK enc k xs.toArray).size := by simpa using h
    rw [getElem!_pos _ t hsz] at hg
    rw [Array.getElem?_toList, Array.getElem?_eq_getElem hsz, hg, List.getElem?_eq_getElem hd]
    have e1 : xs.toArray[t / k]! = xs[t / k] := by rw [getElem!_pos _ _ (by simpa using hd)]; simp
    have hl : t % k < (enc xs[t / k]).length := by rw [hk]; exact hm
    rw [e1]
    show _ = (enc xs[t / k])[t % k]?
    rw [List.getElem?_eq_getElem hl, getElem!_pos (enc xs[t / k]) (t % k) hl]
  · rw [Array.getElem?_toList, Array.getElem?_eq_none (by simpa using h)]
    have : xs.length ≤ t / k := (Nat.le_div_iff_mul_le hk0).2 (by omega)
    rw [List.getElem?_eq_none this]; rfl
theorem rep_flat {α : Type} {τ : Ty α} {enc : α → List Value} (hrep : ∀ Z w cs x, τ.rep Z w cs x ↔ cs = enc x) : ∀ {xs : List α} {Z w cs}, RepL τ Z w cs xs ↔ cs = xs.flatMap enc
  | [], _, _, _ => by simp [RepL]
  | x :: xs, Z, w, cs => by
    rw [List.flatMap_cons]
    constructor
    · rintro ⟨c1, c2, rfl, h1, h2⟩
      rw [(hrep _ _ _ _).1 h1, (rep_flat hrep).1 h2]
    · rintro rfl
      exact ⟨_, _, rfl, (hrep _ _ _ _).2 rfl, (rep_flat hrep).2 rfl⟩
section
variable {α : Type} [Inhabited α] (b : α → List UInt8) (k p a l : α → Int)
def sortL (xs : List α) : List α := xs.mergeSort fun x y => !(ltOf (plc b k p a l)) y x
theorem sort_ok {v : Value} {xs : List α} (τ : Ty α) (hτ : τ.size = 12) (hrep : ∀ Z w cs x, τ.rep Z w cs x ↔ cs = encP b k p a l x) (hb : ∀ x, (b x).length = 8) (hinj : ∀ x y, b x = b y → p x = p y → a x = a y → l x = l y → k x = k y → x = y) (hn : xs.length < 4611686018427387904) :
    FnOk Try.prog 124 [v, .func (.func 125) #[] #[]] [] [oRow v 32 τ xs] (fun _ : Unit => { val := .tuple #[], own := [oRow v 32 τ (sortL b k p a l xs)] }) := fun w Z hZ hnd hX hpre hoin => by
  obtain ⟨cs, hr, hcs⟩ := hoin _ (List.mem_singleton.2 rfl)
  rw [rep_flat hrep] at hcs
  have hlen : (sortL b k p a l xs).length = xs.length := List.length_mergeSort xs
  have hk := encP_len b k p a l hb
  rw [hτ] at hr
  rcases hr.2 with ⟨rfl, h0⟩ | ⟨g, cap, cur, rfl, hg0, hg, hcap, hmax, hsize, htk⟩
  · obtain rfl : xs = [] := List.eq_nil_of_length_eq_zero h0
    refine (AnyF.slices_SortFunc_none (P := Try.prog) { Try.laysSort with } none 0 (.func (.func 125) #[] #[]) w).mono ?_
    rintro e w' ⟨he, rfl⟩
    refine ⟨(), he, Bel.refl _ _ _, hnd, fun b' hb' => .inl hb', fun Z' _ => ⟨fun o ho => ?_, by simp⟩⟩
    have e0 : sortL b k p a l ([] : List α) = [] := List.eq_nil_of_length_eq_zero hlen
    rw [List.mem_singleton.1 ho, e0]
    exact nil_own _ τ Z' _
  · have hlt : g < w.heap.size := (Array.getElem?_eq_some_iff.1 hg).1
    have hfl := flatK_list (enc := encP b k p a l) hk (by omega) xs
    have hF : ∀ ys : List α, (flatK (encP b k p a l) 12 ys.toArray).size = ys.length * 12 := fun ys => by simp
    have hH : HoldsK (encP b k p a l) 12 w g 0 xs.toArray := fun j hj => by
      rw [hF] at hj
      have h1 : (cur.toList.take (xs.length * 12))[j]? = (flatK (encP b k p a l) 12 xs.toArray).toList[j]? := by rw [htk, hcs, hfl]
      have hsz : j < (flatK (encP b k p a l) 12 xs.toArray).size := by rw [hF]; exact hj
      rw [List.getElem?_take_of_lt hj, Array.getElem?_toList, Array.getElem?_toList, Array.getElem?_eq_getElem hsz] at h1
      refine ⟨?_, by simp [World.frozen?, hg]⟩
      rw [Nat.zero_add, getElem!_pos (flatK (encP b k p a l) 12 xs.toArray) j hsz]
      show w.cell? ⟨g, j, none⟩ = some ((flatK (encP b k p a l) 12 xs.toArray)[j]'hsz)
      rw [← h1]
      simp [World.cell?, hg]
    have hc := sortP b k p a l hb hinj g 0 cap xs.toArray w hH hlt (by simpa using hn)
    simp only [List.size_toArray] at hc
    refine hc.mono ?_
    rintro e w' ⟨he, n, os, hw⟩
    have hF' := hF (sortL b k p a l xs)
    rw [hlen] at hF'
    have hfl' := flatK_list (enc := encP b k p a l) hk (by omega) (sortL b k p a l xs)
    have hheap : w'.heap = (w.heap.modify g (onCells (putCells id 0 (flatK (encP b k p a l) 12 (sortL b k p a l xs).toArray)))) ++ os := by rw [hw]; rfl
    have hat : w'.heap[g]? = some (.cells (putCells id 0 (flatK (encP b k p a l) 12 (sortL b k p a l xs).toArray) cur) 32 (0, 0)) := by
      rw [hheap, Array.getElem?_append_left (by simpa using hlt), Array.getElem?_modify, if_pos rfl, hg]; rfl
    refine ⟨(), he, ⟨by rw [hw]; rfl, by rw [hw]; rfl, by rw [hw]; rfl, by rw [hheap]; simp, fun j hj hne => ?_⟩, hnd, fun b' hb' => .inl hb', fun Z' _ => ⟨fun o ho => ?_, by simp⟩⟩
    · have hne' : g ≠ j := fun e => hne (by simp [oRow, Value.ownBlock, e])
      rw [hheap, Array.getElem?_append_left (by simpa using hj), Array.getElem?_modify, if_neg hne']
    · rw [List.mem_singleton.1 ho]
      refine ⟨(sortL b k p a l xs).flatMap (encP b k p a l), ?_, (rep_flat hrep).2 rfl⟩
      rw [hτ, hlen]
      refine ⟨by rw [← hfl', Array.length_toList, hF'], .inr ⟨g, cap, _, rfl, Nat.zero_le _, hat, hcap, hmax, by simp [putCells, hsize], ?_⟩⟩
      rw [← hfl']
      apply List.ext_getElem?
      intro t
      have hcs' : xs.length * 12 ≤ cur.size := by rw [hsize]; exact Nat.mul_le_mul_right _ hcap
      by_cases h : t < xs.length * 12
      · have ht : t < cur.size := by omega
        rw [List.getElem?_take_of_lt h, Array.getElem?_toList, Array.getElem?_toList]
        have hsz : t < (flatK (encP b k p a l) 12 (sortL b k p a l xs).toArray).size := by rw [hF']; exact h
        rw [Array.getElem?_eq_getElem hsz]
        simp [putCells, ht, hlen, h]
      · rw [List.getElem?_eq_none (by simp; omega), List.getElem?_eq_none (by rw [Array.length_toList, hF']; omega)]
end
end Go.Proofs.Ythdifoidlpiikaa.ImC
namespace Go.Proofs.Ythdifoidlpiikaa.En
open Go.RowKit Go.Proofs.Ythdifoidlpiikaa
set_option linter.unusedVariables false
set_option linter.unusedSimpArgs false
section
variable {P : Program} {Q : Exit → Act → World → Prop} {n : Nat} {m : Mem} {S : Sl} {ops : Array Oper} {rest : List Oper} {o : Oper} {α β : Type}
end
end Go.Proofs.Ythdifoidlpiikaa.En
namespace Go.Proofs.Ythdifoidlpiikaa.En
open Go.RowKit Ythdifoidlpiikaa Go.Op
set_option linter.unusedVariables false
set_option linter.unusedSimpArgs false
def WinOf (v s : Value) (k sz : Nat) : Prop := ∃ A n c, v = .slice A n c ∧ k ≤ n ∧ n ≤ c ∧ s = .slice (if c = k then A else A.map (·.add (k * sz))) (n - k) (c - k)
def fWin (v s : Value) (k sz : Nat) : Fact := ⟨fun _ _ => WinOf v s k sz, fun _ h => h, fun _ h => h⟩
section
variable {P : Program} {Q : Exit → Act → World → Prop} {n : Nat} {m : Mem} {S : Sl} {ops : Array Oper} {rest : List Oper} {o : Oper} {α : Type}
theorem of_winR {τ : Ty α} {v : Value} {xs : List α} (i : Nat) {t e et : TypeId} {x y : Operand} {ky : IntKind} {l : Int} (h0 : 0 ≤ l) (h1 : l ≤ xs.length) (hi : m.own[i]? = some (oRow v et τ xs)) (hx : ev S x = some v) (hy : ev S y = some (.int ky l)) (ht : P.underlying t = some (.slice e)) (hsz : szOf P e = some τ.size) (ho : o.op = .slice t x (some y) none none) : OpF P o n m S (fun s => fWin v s l.toNat τ.size) := fun w a hm hs => by
  obtain ⟨cs, hr1, hr2⟩ := own_at hm hi
  obtain ⟨A, c, rfl, hc, hmx⟩ := own_len hr1
  refine ⟨_, ?_, ⟨A, _, c, rfl, by omega, hc, rfl⟩⟩
  unfold execOp
  simp only [ho, hs.ev hx, Option.map_some, Option.map_none, hs.ev hy]
  simp [Instr.sliceAt, Instr.slice, Instr.sliceBounds, Instr.sliceBound, asIntOf, Sem.run_bind, run_underlying ht, h0, h1, run_sizeOf' hsz]
theorem al_winR {d : Nat} {τ : Ty α} {v : Value} {xs : List α} (i : Nat) {t e et : TypeId} {x y : Operand} {ky : IntKind} {l : Int} (h0 : 0 ≤ l) (h1 : l ≤ xs.length) (hi : m.own[i]? = some (oRow v et τ xs)) (hx : ev S x = some v) (hy : ev S y = some (.int ky l)) (ht : P.underlying t = some (.slice e)) (hsz : szOf P e = some τ.size) (ho : o.op = .slice t x (some y) none none)
    (h : ∀ s, WinOf v s l.toNat τ.size → AL P ops rest Q n m (put S d s)) (hdd : o.dst = some d := by rfl) (hd : Nat.blt d n = true := by rfl) (hg : wantS ops S o true = true := by rfl) : AL P ops (o :: rest) Q n m S :=
  al_step hg fun w a hm hs K hK => by
    obtain ⟨s, hr, hp⟩ := of_winR i h0 h1 hi hx hy ht hsz ho w a hm hs
    exact step_val (w' := w) hr (hK _ _ (h s hp w _ hm (hs.put' hdd hd _)))
theorem ov_lenW {τ : Ty α} {v s : Value} {xs : List α} {k : Nat} (i : Nat) {t e et : TypeId} {x : Operand} (hi : m.own[i]? = some (oRow v et τ xs)) (hw : WinOf v s k τ.size) (hx : ev S x = some s) (ht : P.underlying t = some (.slice e)) (ho : o.op = .call { callee := .builtin .len, args := #[x], argTypes := #[t] }) : OpV P o n m S (.int .i64 ((xs.length - k : Nat) : Int)) := fun w a hm hs => by
  obtain ⟨cs, h1, h2⟩ := own_at hm hi
  obtain ⟨A, c, rfl, hc, hmx⟩ := own_len h1
  obtain ⟨A', n', c', he, hk, hc', rfl⟩ := hw
  cases he
  unfold execOp
  simp [ho, resolve, invoke, builtin, hs.ev hx, Builtin.len_, run_underlying ht, goInt]
theorem of_idxW {τ : Ty α} {v s : Value} {xs : List α} {k : Nat} {u : α} (i : Nat) {t e et : TypeId} {x y : Operand} {ky : IntKind} {j : Int} (h0 : 0 ≤ j) (hu : at? xs ((k : Int) + j) = some u) (hi : m.own[i]? = some (oRow v et τ xs)) (hw : WinOf v s k τ.size) (hx : ev S x = some s) (hy : ev S y = some (.int ky j)) (ht : P.underlying t = some (.slice e)) (hsz : szOf P e = some τ.size) (ho : o.op = .indexAddr t x y) : OpF P o n m S (fun p => fElt v p (((k : Int) + j).toNat * τ.size)) := fun w a hm hs => by
  obtain ⟨hk0, hk1, _⟩ := at_some hu
  obtain ⟨cs, hr1, hr2⟩ := own_at hm hi
  rcases hr1.2 with ⟨rfl, hn⟩ | ⟨g, cap, cur, rfl, r⟩
  · omega
  obtain ⟨A', n', c', he, hk, hc', rfl⟩ := hw
  cases he
  have hcc : xs.length ≤ cap := r.2.2.1
  refine ⟨.pointer (some ⟨g, ((k : Int) + j).toNat * τ.size, none⟩), ?_, ⟨g, _, _, rfl, rfl⟩⟩
  obtain ⟨q, rfl⟩ : ∃ q : Nat, j = q := ⟨j.toNat, by omega⟩
  have hq : q < xs.length - k := by omega
  have e1 : ((k : Int) + (q : Int)).toNat = k + q := by omega
  unfold execOp
  simp only [ho, hs.ev hx, hs.ev hy]
  rw [if_neg (by omega)]
  simp [Instr.indexAt, asIntOf, Sem.run_bind, run_underlying ht, run_sizeOf' hsz, add_plain, hq, e1, Nat.add_mul]
theorem al_idxW {d : Nat} {τ : Ty α} {v s : Value} {xs : List α} {k : Nat} {u : α} (i : Nat) {t e et : TypeId} {x y : Operand} {ky : IntKind} {j : Int} (h0 : 0 ≤ j) (hu : at? xs ((k : Int) + j) = some u) (hi : m.own[i]? = some (oRow v et τ xs)) (hw : WinOf v s k τ.size) (hx : ev S x = some s) (hy : ev S y = some (.int ky j)) (ht : P.underlying t = some (.slice e)) (hsz : szOf P e = some τ.size) (ho : o.op = .indexAddr t x y)
    (h : ∀ p, EltOf v p (((k : Int) + j).toNat * τ.size) → AL P ops rest Q n m (put S d p)) (hdd : o.dst = some d := by rfl) (hd : Nat.blt d n = true := by rfl) (hg : wantS ops S o true = true := by rfl) : AL P ops (o :: rest) Q n m S :=
  al_step hg fun w a hm hs K hK => by
    obtain ⟨p, hr, hp⟩ := of_idxW i h0 hu hi hw hx hy ht hsz ho w a hm hs
    exact step_val (w' := w) hr (hK _ _ (h p hp w _ hm (hs.put' hdd hd _)))
theorem repl_append {τ : Ty α} {Z : Nat → Prop} {w : World} {xs : List α} {x0 : α} {cs ds : List Value} (k : Nat) (h : RepL τ Z w cs xs) (h' : RepL τ Z w ds (List.replicate (xs.length - k) x0)) : RepL τ Z w (cs.take (k * τ.size) ++ ds) (xs.take k ++ List.replicate (xs.length - k) x0) := (h.take k).append h'
theorem al_clearW {τ : Ty α} {v s : Value} {xs : List α} {k : Nat} {x0 : α} (i : Nat) {t e : TypeId} {x : Operand} {sz by_ : Nat} {z : Value} (hi : m.own[i]? = some (oRow v e τ xs)) (hw : WinOf v s k τ.size) (hx : ev S x = some s) (ht : P.underlying t = some (.slice e)) (hty : tyOf P e = some (sz, by_, some z)) (hz : ∀ Z w, τ.rep Z w z.cells.toList x0) (ho : o.op = .call { callee := .builtin .clear, args := #[x], argTypes := #[t] })
    (h : AL P ops rest Q n (m.upd i (oRow v e τ (xs.take k ++ List.replicate (xs.length - k) x0))) S) (hdst : o.dst = none := by rfl) (hg : wantS ops S o true = true := by rfl) : AL P ops (o :: rest) Q n m S :=
  al_step hg fun w a hm hs K hK => by
    obtain ⟨cs, h1, h2⟩ := own_at hm hi
    have hcl := h2.len
    have hsat : Sat n S (a.put o.dst (.tuple #[])) := by rw [hdst]; exact hs
    obtain ⟨A', n', c', he, hk, hc', rfl⟩ := hw
    have hzl : z.cells.size = τ.size := by rw [← Array.length_toList]; exact τ.len (hz (m.frz w) w)
    have hzv := run_zeroValue' (zeroOf_to hty) w
    rcases h1.2 with ⟨rfl, hn⟩ | ⟨g, cap, cur, rfl, hg0, hgg, hcap, hmax, hsize, htk⟩
    · cases he
      obtain rfl : xs = [] := List.eq_nil_of_length_eq_zero hn
      obtain rfl : k = 0 := by simpa using hk
      refine step_val (w' := w) (v := .tuple #[]) (by unfold execOp; simp only [ho, resolve, invoke, builtin, Sem.run_bind, Sem.run_pure, Result.andThen_ok, List.map_toArray, List.map_cons, List.map_nil, hs.ev hx]; simp [Builtin.clear_, run_underlying ht]) ?_
      refine hK _ _ (h _ _ ?_ hsat)
      have hset : m.upd i (oRow (.slice none 0 0) e τ (([] : List α).take 0 ++ List.replicate (([] : List α).length - 0) x0)) = m := by
        unfold Mem.upd
        have : m.own.set i (oRow (.slice none 0 0) e τ ([] : List α)) = m.own := by
          apply List.ext_getElem?; intro j
          rw [List.getElem?_set]
          split
          · rename_i e'; subst e'; rw [hi, if_pos (List.getElem?_eq_some_iff.1 hi).1]
          · rfl
        simp [this]
      rw [hset]; exact hm
    · obtain ⟨rfl, rfl, rfl⟩ : (some (⟨g, 0, none⟩ : Addr)) = A' ∧ xs.length = n' ∧ cap = c' := by simpa using he
      by_cases hk' : k = xs.length
      · -- nothing to clear
        subst hk'
        have hr : (Builtin.clear_ #[t] o.type #[.slice (if cap = xs.length then some ⟨g, 0, none⟩ else (some (⟨g, 0, none⟩ : Addr)).map (·.add (xs.length * τ.size))) (xs.length - xs.length) (cap - xs.length)]).run P w = .ok (.tuple #[]) w := by
          simp only [Nat.sub_self]
          split <;> simp [Builtin.clear_, run_underlying ht]
        refine step_val (w' := w) (v := .tuple #[]) (by unfold execOp; simp only [ho, resolve, invoke, builtin, Sem.run_bind, Sem.run_pure, Result.andThen_ok, List.map_toArray, List.map_cons, List.map_nil, hs.ev hx, hr]) ?_
        refine hK _ _ (h _ _ ?_ hsat)
        have hset : m.upd i (oRow (.slice (some ⟨g, 0, none⟩) xs.length cap) e τ (xs.take xs.length ++ List.replicate (xs.length - xs.length) x0)) = m := by
          unfold Mem.upd
          have : m.own.set i (oRow (.slice (some ⟨g, 0, none⟩) xs.length cap) e τ xs) = m.own := by
            apply List.ext_getElem?; intro j
            rw [List.getElem?_set]
            split
            · rename_i e'; subst e'; rw [hi, if_pos (List.getElem?_eq_some_iff.1 hi).1]
            · rfl
          simp [this]
        rw [hset]; exact hm
      have hkl : k < xs.length := by omega
      obtain ⟨q, hq⟩ : ∃ q, xs.length - k = q + 1 := ⟨xs.length - k - 1, by omega⟩
      have hxl : xs.length * τ.size = k * τ.size + (q + 1) * τ.size := by rw [← Nat.add_mul]; congr 1; omega
      have hcl2 : xs.length * τ.size ≤ cap * τ.size := Nat.mul_le_mul_right _ hcap
      have hzc : Builtin.zeroCells z.cells (q + 1) = madeCells z.cells ((q + 1) * τ.size) := by unfold Builtin.zeroCells madeCells; rw [hzl]
      have hrep := repl_rep hz (m.frz w) w (q + 1)
      have hml : (madeCells z.cells ((q + 1) * τ.size)).toList.length = (q + 1) * τ.size := by rw [Array.length_toList, size_madeCells]
      have hst := run_storeCells_at (P := P) g (k * τ.size) e (madeCells z.cells ((q + 1) * τ.size)).toList 0 cur w hgg (by rw [hml, hsize]; omega) hrep.one
      simp only [Nat.add_zero, hml] at hst
      have hne : ¬ cap = k := by omega
      have hr : (Builtin.clear_ #[t] o.type #[.slice (if cap = k then some ⟨g, 0, none⟩ else (some (⟨g, 0, none⟩ : Addr)).map (·.add (k * τ.size))) (xs.length - k) (cap - k)]).run P w = .ok (.tuple #[]) (w.setRow g (cur.toList.take (k * τ.size) ++ (madeCells z.cells ((q + 1) * τ.size)).toList ++ cur.toList.drop (k * τ.size + (q + 1) * τ.size)).toArray) := by
        rw [if_neg hne, hq]
        simp only [Option.map_some, add_plain, Nat.zero_add]
        simp [Builtin.clear_, Sem.run_bind, run_underlying ht, hzv, hzc, hst]
      refine step_val (w' := w.setRow g (cur.toList.take (k * τ.size) ++ (madeCells z.cells ((q + 1) * τ.size)).toList ++ cur.toList.drop (k * τ.size + (q + 1) * τ.size)).toArray) (v := .tuple #[]) (by unfold execOp; simp only [ho, resolve, invoke, builtin, Sem.run_bind, Sem.run_pure, Result.andThen_ok, List.map_toArray, List.map_cons, List.map_nil, hs.ev hx, hr]) ?_
      refine hK _ _ (h _ _ (hm.upd hi ⟨rfl, rfl, rfl, by rw [size_setRow]; exact Nat.le_refl _, fun b _ hb => setRow_other w g b _ (by simpa [oRow, Value.ownBlock] using hb)⟩ (by simp [oRow, Value.ownBlock]) (fun b hb => .inl hb) (fun Z hZ => ?_)) hsat)
      have hag : Agr (m.frz w) w (w.setRow g (cur.toList.take (k * τ.size) ++ (madeCells z.cells ((q + 1) * τ.size)).toList ++ cur.toList.drop (k * τ.size + (q + 1) * τ.size)).toArray) := fun b hb => setRow_other w g b _ (fun e => hb.2.1 (List.mem_flatMap.2 ⟨_, List.mem_of_getElem? hi, by simp [oRow, Value.ownBlock, e]⟩))
      have hlen : (xs.take k ++ List.replicate (xs.length - k) x0).length = xs.length := by simp; omega
      refine ⟨cs.take (k * τ.size) ++ (madeCells z.cells ((q + 1) * τ.size)).toList, ⟨?_, .inr ⟨g, cap, _, by rw [hlen], Nat.zero_le _, setRow_heap w g cur _ e (0, 0) hgg, by rw [hlen]; exact hcap, hmax, ?_, ?_⟩⟩, ?_⟩
      · rw [hlen, List.length_append, List.length_take, hml, hcl]; omega
      · simp only [List.size_toArray, List.length_append, List.length_take, List.length_drop, hml, Array.length_toList]; omega
      · rw [hlen, ← htk]
        show (cur.toList.take (k * τ.size) ++ (madeCells z.cells ((q + 1) * τ.size)).toList ++ cur.toList.drop (k * τ.size + (q + 1) * τ.size)).take (xs.length * τ.size) = _
        rw [List.take_append_of_le_length (by simp only [List.length_append, List.length_take, hml, Array.length_toList]; omega), List.take_of_length_le (by simp only [List.length_append, List.length_take, hml, Array.length_toList]; omega), List.take_take, Nat.min_eq_left (by omega)]
      · rw [hq]
        have := repl_append (x0 := x0) (ds := (madeCells z.cells ((q + 1) * τ.size)).toList) k (h2.keep hag) (by rw [hq]; exact hrep.keep hag)
        rw [hq] at this
        exact this.mono hZ
end
end Go.Proofs.Ythdifoidlpiikaa.En
namespace Go.Proofs.Ythdifoidlpiikaa.En
open Go.RowKit Ythdifoidlpiikaa Go.Op
set_option linter.unusedVariables false
set_option linter.unusedSimpArgs false
section
variable {P : Program} {Q : Exit → Act → World → Prop} {n : Nat} {m : Mem} {S : Sl} {ops : Array Oper} {rest : List Oper} {o : Oper}
theorem ov_toStrB {i g off len : Nat} {s d e et : TypeId} {cs : List Value} {l : List UInt8} {x : Operand} (hi : m.own[i]? = some (oBox g et cs)) (hx : ev S x = some (sbx g off len)) (hlen : l.length = len) (hcs : ∀ j (hj : j < l.length), cs[off + j]? = some (.int .u8 (l[j].toNat : Int)))
    (hs' : P.underlying s = some (.slice e)) (he : P.underlying e = some (.int .u8)) (hd' : P.underlying d = some .string) (ho : o.op = .convert s d x) : OpV P o n m S (str l) := fun w a hm hs => by
  subst hlen
  unfold execOp
  simp only [ho, hs.ev hx, sbx]
  have := run_convert_bytes_back (P := P) w s d e ⟨g, off, none⟩ l.length l hs' he hd' (fun j hj => by rw [box_cell hm hi off j]; exact hcs j hj)
  simp [this, str]
theorem box_bytes {off : Nat} {cs pre post : List Value} {l : List UInt8} (h : cs = pre ++ (l.map (fun b => Value.int .u8 (b.toNat : Int)) ++ post)) (hp : pre.length = off) : ∀ j (hj : j < l.length), cs[off + j]? = some (.int .u8 (l[j].toNat : Int)) := by
  intro j hj
  subst h; subst hp
  rw [List.getElem?_append_right (by omega), Nat.add_sub_cancel_left, List.getElem?_append_left (by simpa using hj), List.getElem?_map, List.getElem?_eq_getElem hj]; rfl
end
end Go.Proofs.Ythdifoidlpiikaa.En
