/- What MixSays leans on, part 1. No condition. -/
import Derived.WalkKit
import Derived.Lib.Hide
import Derived.Maps.AppendAt
import Derived.Laws.MakeOwn
import Derived.Scope
import Derived.Laws.BytesString
import Derived.Laws.BytesArg
import Derived.Laws.IdiomStrings
import Derived.StillTail
import Derived.OpenShut
import Derived.Deep.Slices
import Derived.Deep.WholeRow
import Derived.Lib.AppendZeros
import Derived.Laws.Cover3
import Derived.Deep.Draws
import Derived.StillTailTactics
import Derived.DeepKeys
import Derived.Lib.BytesEntry
import Derived.Lib.Bytealg
import Derived.Laws.Externs
import Derived.Laws.RangeString
import Derived.Lib.UnsafeStr
import Derived.MapKept
import Derived.Laws.CopyRow
import Derived.Laws.IdiomCopy
import Derived.Lib.AppendStr
import Derived.LoopN
import Derived.Maps.Keyed
import Derived.DeepKeys4
import Derived.Shelf.Strings.Repeat
import Derived.Test.YtnnfmgobbhlbiaaChecked
import Derived.Ground.MnProg
import Derived.Shelf.Bin.BEPutUint64
import Derived.Lib.Endian
import Derived.Lib.TrimByte
import Derived.IntWalk
import Derived.Lib.Repeat
namespace Go.Proofs.Ytnnfmgobbhlbiaa.En
open Go.RowKit
set_option linter.unusedVariables false
set_option linter.unusedSimpArgs false
def Agr (Z : Nat → Prop) (w w' : World) : Prop := ∀ b, Z b → w'.heap[b]? = w.heap[b]?
structure Ty (α : Type) where
  size : Nat
  rep : (Nat → Prop) → World → List Value → α → Prop
  len : ∀ {Z w cs x}, rep Z w cs x → cs.length = size
  one : ∀ {Z w cs x}, rep Z w cs x → ∀ v ∈ cs, v.oneCell' = true
  keep : ∀ {Z w w' cs x}, Agr Z w w' → rep Z w cs x → rep Z w' cs x
  mono : ∀ {Z Z' : Nat → Prop} {w cs x}, (∀ b, Z b → Z' b) → rep Z w cs x → rep Z' w cs x
def str (l : List UInt8) : Value := .string ⟨l.toArray⟩
def tyEnc {α : Type} (n : Nat) (enc : α → List Value) (hl : ∀ x, (enc x).length = n) (h1 : ∀ x, ∀ v ∈ enc x, v.oneCell' = true) : Ty α where
  size := n
  rep _ _ cs x := cs = enc x
  len h := by rw [h, hl]
  one h := by rw [h]; exact h1 _
  keep _ h := h
  mono _ h := h
def tyInt (k : IntKind) : Ty Int := tyEnc 1 (fun n => [.int k n]) (fun _ => rfl) (by simp [Value.oneCell'])
def tyU8 : Ty UInt8 := tyEnc 1 (fun b => [.int .u8 b.toNat]) (fun _ => rfl) (by simp [Value.oneCell'])
def tyPair {α β : Type} (a : Ty α) (b : Ty β) : Ty (α × β) where
  size := a.size + b.size
  rep Z w cs x := ∃ c1 c2, cs = c1 ++ c2 ∧ a.rep Z w c1 x.1 ∧ b.rep Z w c2 x.2
  len h := by obtain ⟨c1, c2, rfl, h1, h2⟩ := h; rw [List.length_append, a.len h1, b.len h2]
  one h := by
    obtain ⟨c1, c2, rfl, h1, h2⟩ := h
    intro v hv
    rcases List.mem_append.1 hv with hv | hv
    · exact a.one h1 v hv
    · exact b.one h2 v hv
  keep hz h := by obtain ⟨c1, c2, he, h1, h2⟩ := h; exact ⟨c1, c2, he, a.keep hz h1, b.keep hz h2⟩
  mono hz h := by obtain ⟨c1, c2, he, h1, h2⟩ := h; exact ⟨c1, c2, he, a.mono hz h1, b.mono hz h2⟩
def tyVia {α β : Type} (f : α → β) (b : Ty β) : Ty α where
  size := b.size
  rep Z w cs x := b.rep Z w cs (f x)
  len h := b.len h
  one h := b.one h
  keep hz h := b.keep hz h
  mono hz h := b.mono hz h
def RepL {α : Type} (t : Ty α) (Z : Nat → Prop) (w : World) : List Value → List α → Prop
  | cs, [] => cs = []
  | cs, x :: xs => ∃ c1 c2, cs = c1 ++ c2 ∧ t.rep Z w c1 x ∧ RepL t Z w c2 xs
section
variable {α : Type} {t : Ty α} {Z Z' : Nat → Prop} {w w' : World}
theorem RepL.len : ∀ {xs : List α} {cs : List Value}, RepL t Z w cs xs → cs.length = xs.length * t.size
  | [], _, h => by rw [show _ = [] from h]; simp
  | x :: xs, _, h => by
    obtain ⟨c1, c2, rfl, h1, h2⟩ := h
    rw [List.length_append, t.len h1, RepL.len h2, List.length_cons, Nat.succ_mul, Nat.add_comm]
theorem RepL.one : ∀ {xs : List α} {cs : List Value}, RepL t Z w cs xs → ∀ v ∈ cs, v.oneCell' = true
  | [], _, h => by rw [show _ = [] from h]; simp
  | x :: xs, _, h => by
    obtain ⟨c1, c2, rfl, h1, h2⟩ := h
    intro v hv
    rcases List.mem_append.1 hv with hv | hv
    · exact t.one h1 v hv
    · exact RepL.one h2 v hv
theorem RepL.keep (hz : Agr Z w w') : ∀ {xs : List α} {cs : List Value}, RepL t Z w cs xs → RepL t Z w' cs xs
  | [], _, h => h
  | x :: xs, _, h => by obtain ⟨c1, c2, he, h1, h2⟩ := h; exact ⟨c1, c2, he, t.keep hz h1, RepL.keep hz h2⟩
theorem RepL.mono (hz : ∀ b, Z b → Z' b) : ∀ {xs : List α} {cs : List Value}, RepL t Z w cs xs → RepL t Z' w cs xs
  | [], _, h => h
  | x :: xs, _, h => by obtain ⟨c1, c2, he, h1, h2⟩ := h; exact ⟨c1, c2, he, t.mono hz h1, RepL.mono hz h2⟩
theorem RepL.drop : ∀ (k : Nat) {xs : List α} {cs : List Value}, RepL t Z w cs xs → RepL t Z w (cs.drop (k * t.size)) (xs.drop k)
  | 0, _, _, h => by simpa using h
  | k + 1, [], _, h => by rw [show _ = [] from h]; simp [RepL]
  | k + 1, x :: xs, _, h => by
    obtain ⟨c1, c2, rfl, h1, h2⟩ := h
    have := RepL.drop k h2
    have e : (c1 ++ c2).drop t.size = c2 := by
      rw [List.drop_append_of_le_length (by rw [t.len h1]; exact Nat.le_refl _), List.drop_of_length_le (by rw [t.len h1]; exact Nat.le_refl _), List.nil_append]
    rw [List.drop_succ_cons, Nat.succ_mul, Nat.add_comm, ← List.drop_drop, e]
    exact this
theorem RepL.take : ∀ (k : Nat) {xs : List α} {cs : List Value}, RepL t Z w cs xs → RepL t Z w (cs.take (k * t.size)) (xs.take k)
  | 0, _, _, h => by simp [RepL]
  | k + 1, [], _, h => by rw [show _ = [] from h]; simp [RepL]
  | k + 1, x :: xs, _, h => by
    obtain ⟨c1, c2, rfl, h1, h2⟩ := h
    refine ⟨c1, c2.take (k * t.size), ?_, h1, RepL.take k h2⟩
    rw [List.take_append, List.take_of_length_le (by rw [t.len h1, Nat.succ_mul]; omega), t.len h1, Nat.succ_mul, Nat.add_sub_cancel]
theorem RepL.at {xs : List α} {cs : List Value} (h : RepL t Z w cs xs) {k : Nat} {x : α} (hk : xs[k]? = some x) : t.rep Z w ((cs.drop (k * t.size)).take t.size) x := by
  have h1 := RepL.drop k h
  have hlt : k < xs.length := (List.getElem?_eq_some_iff.1 hk).1
  rw [List.drop_eq_getElem_cons hlt] at h1
  obtain ⟨c1, c2, he, h2, h3⟩ := h1
  rw [List.getElem?_eq_getElem hlt] at hk
  rw [he, List.take_append_of_le_length (by rw [t.len h2]; exact Nat.le_refl _), List.take_of_length_le (by rw [t.len h2]; exact Nat.le_refl _)]
  exact Option.some.inj hk ▸ h2
theorem RepL.set : ∀ (k : Nat) {xs : List α} {cs : List Value} {x : α} {c : List Value}, RepL t Z w cs xs → t.rep Z w c x → k < xs.length → RepL t Z w (cs.take (k * t.size) ++ c ++ cs.drop ((k + 1) * t.size)) (xs.set k x)
  | 0, [], _, _, _, _, _, hk => by simp at hk
  | 0, y :: xs, _, x, c, h, hc, _ => by
    obtain ⟨c1, c2, rfl, h1, h2⟩ := h
    refine ⟨c, c2, ?_, hc, h2⟩
    rw [Nat.zero_mul, List.take_zero, List.nil_append, Nat.zero_add, Nat.one_mul, List.drop_append_of_le_length (by rw [t.len h1]; exact Nat.le_refl _), List.drop_of_length_le (by rw [t.len h1]; exact Nat.le_refl _), List.nil_append]
  | k + 1, [], _, _, _, _, _, hk => by simp at hk
  | k + 1, y :: xs, _, x, c, h, hc, hk => by
    obtain ⟨c1, c2, rfl, h1, h2⟩ := h
    refine ⟨c1, _, ?_, h1, RepL.set k h2 hc (by simpa using hk)⟩
    have e1 : ∀ j, (c1 ++ c2).take ((j + 1) * t.size) = c1 ++ c2.take (j * t.size) := fun j => by
      rw [List.take_append, List.take_of_length_le (by rw [t.len h1, Nat.succ_mul]; omega), t.len h1, Nat.succ_mul, Nat.add_sub_cancel]
    have e2 : ∀ j, (c1 ++ c2).drop ((j + 1) * t.size) = c2.drop (j * t.size) := fun j => by
      rw [List.drop_append, List.drop_of_length_le (by rw [t.len h1, Nat.succ_mul]; omega), t.len h1, Nat.succ_mul, Nat.add_sub_cancel, List.nil_append]
    rw [e1, e2]; simp
end
def CellsAt (Z : Nat → Prop) (w : World) (ad : Addr) (cs : List Value) : Prop := Z ad.block ∧ ∀ j u, cs[j]? = some u → w.cell? (ad.add j) = some u
theorem add_block (a : Addr) (n : Nat) : (a.add n).block = a.block := by unfold Addr.add; split <;> rfl
theorem add_plain (g o n : Nat) : (⟨g, o, none⟩ : Addr).add n = ⟨g, o + n, none⟩ := by unfold Addr.add; split <;> simp_all
theorem add_add (a : Addr) (i j : Nat) : (a.add i).add j = a.add (i + j) := by
  unfold Addr.add
  by_cases hi : i = 0 <;> by_cases hj : j = 0 <;> simp [hi, hj, Nat.add_assoc]
section
variable {Z Z' : Nat → Prop} {w w' : World} {ad : Addr} {cs : List Value}
theorem CellsAt.keep (hz : Agr Z w w') (h : CellsAt Z w ad cs) : CellsAt Z w' ad cs :=
  ⟨h.1, fun j u hu => (World.cell?_of_block (w := w) (hz (ad.add j).block (by rw [add_block]; exact h.1))).trans (h.2 j u hu)⟩
theorem CellsAt.mono (hz : ∀ b, Z b → Z' b) (h : CellsAt Z w ad cs) : CellsAt Z' w ad cs := ⟨hz _ h.1, h.2⟩
theorem CellsAt.drop (h : CellsAt Z w ad cs) (k : Nat) : CellsAt Z w (ad.add k) (cs.drop k) :=
  ⟨by rw [add_block]; exact h.1, fun j u hu => by rw [add_add]; exact h.2 _ u (by rw [List.getElem?_drop] at hu; exact hu)⟩
theorem CellsAt.take (h : CellsAt Z w ad cs) (k : Nat) : CellsAt Z w ad (cs.take k) :=
  ⟨h.1, fun j u hu => h.2 _ u (by rw [List.getElem?_take] at hu; split at hu; exact hu; cases hu)⟩
end
def tyList {α : Type} (t : Ty α) : Ty (List α) where
  size := 1
  rep Z w c xs := ∃ A n cap, c = [.slice A n cap] ∧ n = xs.length ∧ n ≤ cap ∧ n ≤ maxLen ∧ (n = 0 ∨ ∃ ad cs, A = some ad ∧ CellsAt Z w ad cs ∧ RepL t Z w cs xs)
  len h := by obtain ⟨_, _, _, rfl, _⟩ := h; rfl
  one h := by obtain ⟨_, _, _, rfl, _⟩ := h; simp [Value.oneCell']
  keep hz h := by
    obtain ⟨A, n, c, he, hn, hc, hm, h⟩ := h
    refine ⟨A, n, c, he, hn, hc, hm, h.imp id ?_⟩
    rintro ⟨ad, cs, e, h1, h2⟩
    exact ⟨ad, cs, e, h1.keep hz, h2.keep hz⟩
  mono hz h := by
    obtain ⟨A, n, c, he, hn, hc, hm, h⟩ := h
    refine ⟨A, n, c, he, hn, hc, hm, h.imp id ?_⟩
    rintro ⟨ad, cs, e, h1, h2⟩
    exact ⟨ad, cs, e, h1.mono hz, h2.mono hz⟩
structure Fact where
  p : (Nat → Prop) → World → Prop
  keep : ∀ {Z w w'}, Agr Z w w' → p Z w → p Z w'
  mono : ∀ {Z Z' : Nat → Prop} {w}, (∀ b, Z b → Z' b) → p Z w → p Z' w
def fDat {α : Type} (t : Ty α) (cs : List Value) (x : α) : Fact := ⟨fun Z w => t.rep Z w cs x, t.keep, t.mono⟩
def fPtr {α : Type} (t : Ty α) (v : Value) (x : α) : Fact :=
  ⟨fun Z w => ∃ ad cs, v = .pointer (some ad) ∧ CellsAt Z w ad cs ∧ t.rep Z w cs x,
   fun hz h => by obtain ⟨ad, cs, e, h1, h2⟩ := h; exact ⟨ad, cs, e, h1.keep hz, t.keep hz h2⟩,
   fun hz h => by obtain ⟨ad, cs, e, h1, h2⟩ := h; exact ⟨ad, cs, e, h1.mono hz, t.mono hz h2⟩⟩
structure Own where
  blk : List Nat
  p : (Nat → Prop) → World → Prop
  keep : ∀ {Z w w'}, Agr (fun b => Z b ∨ b ∈ blk) w w' → p Z w → p Z w'
  mono : ∀ {Z Z' : Nat → Prop} {w}, (∀ b, Z b → Z' b) → p Z w → p Z' w
  lt : ∀ {Z w}, p Z w → ∀ b ∈ blk, b < w.heap.size
def oBox (g : Nat) (t : TypeId) (cs : List Value) : Own where
  blk := [g]
  p _ w := w.heap[g]? = some (.cells cs.toArray t (0, 0))
  keep hz h := (hz g (.inr (by simp))).trans h
  mono _ h := h
  lt h := by intro b hb; rw [List.mem_singleton.1 hb]; exact (Array.getElem?_eq_some_iff.1 h).1
structure Mem where
  B : Nat
  w0 : World
  Z0 : Nat → Prop
  X : List Nat
  own : List Own
  fz : List Fact
def Mem.blks (m : Mem) : List Nat := m.own.flatMap Own.blk
def Mem.frz (m : Mem) (w : World) (b : Nat) : Prop := b < w.heap.size ∧ b ∉ m.blks ∧ (b < m.B → m.Z0 b)
structure Bel (B : Nat) (X : List Nat) (w w' : World) : Prop where
  os : w'.os = w.os
  tape : w'.tape = w.tape
  output : w'.output = w.output
  size : w.heap.size ≤ w'.heap.size
  block : ∀ k, k < B → k ∉ X → w'.heap[k]? = w.heap[k]?
theorem Bel.refl (B : Nat) (X : List Nat) (w : World) : Bel B X w w := ⟨rfl, rfl, rfl, Nat.le_refl _, fun _ _ _ => rfl⟩
theorem Bel.below {B : Nat} {w w' : World} (h : Bel B [] w w') : Below B w w' := ⟨h.os, h.tape, h.output, h.size, fun k hk => h.block k hk (by simp)⟩
theorem Bel.of {B : Nat} {X : List Nat} {w w' : World} (h : Below B w w') : Bel B X w w' := ⟨h.os, h.tape, h.output, h.size, fun k hk _ => h.block k hk⟩
structure Holds (m : Mem) (w : World) : Prop where
  bel : Bel m.B m.X m.w0 w
  B : m.w0.heap.size = m.B
  nd : m.blks.Nodup
  lo : ∀ b ∈ m.blks, m.B ≤ b ∨ b ∈ m.X
  zx : ∀ b ∈ m.X, b < m.B ∧ ¬ m.Z0 b
  own : ∀ o ∈ m.own, o.p (m.frz w) w
  fz : ∀ f ∈ m.fz, f.p (m.frz w) w
def Mem.add (m : Mem) (f : Fact) : Mem := { m with fz := f :: m.fz }
def Mem.adds (m : Mem) (l : List Fact) : Mem := { m with fz := l ++ m.fz }
def Mem.push (m : Mem) (o : Own) : Mem := { m with own := o :: m.own }
def Mem.pushs (m : Mem) (l : List Own) : Mem := { m with own := l ++ m.own }
def Mem.upd (m : Mem) (i : Nat) (o : Own) : Mem := { m with own := m.own.set i o }
structure Step (m : Mem) (w : World) (bs : List Nat) (w' : World) : Prop where
  os : w'.os = w.os
  tape : w'.tape = w.tape
  output : w'.output = w.output
  size : w.heap.size ≤ w'.heap.size
  block : ∀ b, b < w.heap.size → b ∉ bs → w'.heap[b]? = w.heap[b]?
theorem Step.of {m : Mem} {w w' : World} {bs : List Nat} (h : Below w.heap.size w w') : Step m w bs w' := ⟨h.os, h.tape, h.output, h.size, fun b hb _ => h.block b hb⟩
section
variable {m : Mem} {w w' : World}
theorem Holds.lt (h : Holds m w) {b : Nat} (hb : b ∈ m.blks) : b < w.heap.size := by
  obtain ⟨o, ho, hb⟩ := List.mem_flatMap.1 hb
  exact o.lt (h.own o ho) b hb
theorem Holds.size (h : Holds m w) : m.B ≤ w.heap.size := by rw [← h.B]; exact h.bel.size
theorem Holds.add (h : Holds m w) {f : Fact} (hf : f.p (m.frz w) w) : Holds (m.add f) w :=
  ⟨h.bel, h.B, h.nd, h.lo, h.zx, h.own, fun g hg => by
    rcases List.mem_cons.1 hg with rfl | hg
    · exact hf
    · exact h.fz g hg⟩
theorem Holds.adds (h : Holds m w) {l : List Fact} (hf : ∀ f ∈ l, f.p (m.frz w) w) : Holds (m.adds l) w :=
  ⟨h.bel, h.B, h.nd, h.lo, h.zx, h.own, fun g hg => by
    rcases List.mem_append.1 hg with hg | hg
    · exact hf g hg
    · exact h.fz g hg⟩
theorem Holds.step (h : Holds m w) {bs : List Nat} (hs : Step m w bs w') (hbs : ∀ b ∈ bs, b ∈ m.blks) (own' new : List Own)
    (hnd : ((new ++ own').flatMap Own.blk).Nodup) (hold : ∀ o ∈ own', o ∈ m.own ∧ ∀ b ∈ o.blk, b ∉ bs)
    (hnew : ∀ o ∈ new, (∀ b ∈ o.blk, b ∈ bs ∨ w.heap.size ≤ b) ∧ ∀ Z : Nat → Prop, (∀ b, m.frz w b → Z b) → (∀ b, w.heap.size ≤ b → b < w'.heap.size → b ∉ new.flatMap Own.blk → Z b) → o.p Z w') :
    Holds { m with own := new ++ own' } w' := by
  have hz : ∀ b, m.frz w b → Mem.frz { m with own := new ++ own' } w' b := fun b hb => by
    refine ⟨Nat.lt_of_lt_of_le hb.1 hs.size, fun hx => ?_, hb.2.2⟩
    obtain ⟨o, ho, hx⟩ := List.mem_flatMap.1 hx
    rcases List.mem_append.1 ho with ho | ho
    · rcases (hnew o ho).1 b hx with hx | hx
      · exact hb.2.1 (hbs b hx)
      · have := hb.1; omega
    · exact hb.2.1 (List.mem_flatMap.2 ⟨o, (hold o ho).1, hx⟩)
  have hag : Agr (m.frz w) w w' := fun b hb => hs.block b hb.1 (fun hx => hb.2.1 (hbs b hx))
  have hlo : ∀ b ∈ bs, m.B ≤ b ∨ b ∈ m.X := fun b hb => h.lo b (hbs b hb)
  refine ⟨⟨hs.os.trans h.bel.os, hs.tape.trans h.bel.tape, hs.output.trans h.bel.output, Nat.le_trans h.bel.size hs.size, fun k hk hx => ?_⟩, h.B, hnd, fun b hb => ?_, h.zx, fun o ho => ?_, fun f hf => f.mono hz (f.keep hag (h.fz f hf))⟩
  · refine (hs.block k (Nat.lt_of_lt_of_le hk h.size) (fun hb => ?_)).trans (h.bel.block k hk hx)
    rcases hlo k hb with h1 | h1
    · have hk' : k < m.B := hk; omega
    · exact hx h1
  · obtain ⟨o, ho, hb⟩ := List.mem_flatMap.1 hb
    rcases List.mem_append.1 ho with ho | ho
    · rcases (hnew o ho).1 b hb with hx | hx
      · exact hlo b hx
      · exact .inl (Nat.le_trans h.size hx)
    · exact h.lo b (List.mem_flatMap.2 ⟨o, (hold o ho).1, hb⟩)
  · rcases List.mem_append.1 ho with ho | ho
    · refine (hnew o ho).2 _ hz (fun b h1 h2 h3 => ⟨h2, fun hx => ?_, fun hx => ?_⟩)
      · obtain ⟨o', ho', hx⟩ := List.mem_flatMap.1 hx
        rcases List.mem_append.1 ho' with ho' | ho'
        · exact h3 (List.mem_flatMap.2 ⟨o', ho', hx⟩)
        · have := h.lt (List.mem_flatMap.2 ⟨o', (hold o' ho').1, hx⟩); omega
      · have := h.size; have hx' : b < m.B := hx; omega
    · refine o.mono hz (o.keep (fun b hb => ?_) (h.own o (hold o ho).1))
      rcases hb with hb | hb
      · exact hag b hb
      · exact hs.block b (o.lt (h.own o (hold o ho).1) b hb) ((hold o ho).2 b hb)
theorem Holds.ext (h : Holds m w) (hb : Below w.heap.size w w') : Holds m w' := by
  have := h.step (bs := []) (.of hb) (by simp) m.own [] (by simpa using (show (m.own.flatMap Own.blk).Nodup from h.nd)) (fun o ho => ⟨ho, by simp⟩) (by simp)
  simpa using this
theorem Holds.pushs (h : Holds m w) (hb : Below w.heap.size w w') {l : List Own} (hnd : (l.flatMap Own.blk).Nodup)
    (hnew : ∀ o ∈ l, (∀ b ∈ o.blk, w.heap.size ≤ b) ∧ ∀ Z : Nat → Prop, (∀ b, m.frz w b → Z b) → (∀ b, w.heap.size ≤ b → b < w'.heap.size → b ∉ l.flatMap Own.blk → Z b) → o.p Z w') : Holds (m.pushs l) w' := by
  refine h.step (bs := []) (.of hb) (by simp) m.own l ?_ (fun o ho => ⟨ho, by simp⟩) (fun o ho => ⟨fun b hb => .inr ((hnew o ho).1 b hb), (hnew o ho).2⟩)
  rw [List.flatMap_append, List.nodup_append]
  refine ⟨hnd, h.nd, fun b hb1 c hc e => ?_⟩
  obtain ⟨o, ho, hb1⟩ := List.mem_flatMap.1 hb1
  have := (hnew o ho).1 b hb1
  have := h.lt hc
  omega
theorem Holds.push (h : Holds m w) (hb : Below w.heap.size w w') {o : Own} (hnd : o.blk.Nodup) (hlo : ∀ b ∈ o.blk, w.heap.size ≤ b)
    (ho : ∀ Z : Nat → Prop, (∀ b, m.frz w b → Z b) → o.p Z w') : Holds (m.push o) w' :=
  h.pushs (l := [o]) hb (by simpa using hnd) (fun o' ho' => by rw [List.mem_singleton.1 ho']; exact ⟨hlo, fun Z h1 _ => ho Z h1⟩)
theorem Holds.reown (h : Holds m w) (own' : List Own) (hsub : ∀ o ∈ own', o ∈ m.own) (hnd : (own'.flatMap Own.blk).Nodup) : Holds { m with own := own' } w := by
  have := h.step (w' := w) (bs := []) (.of (Below.refl _ _)) (by simp) own' [] (by simpa using hnd) (fun o ho => ⟨hsub o ho, by simp⟩) (by simp)
  simpa using this
theorem Holds.refz (h : Holds m w) (fz' : List Fact) (hsub : ∀ f ∈ fz', f ∈ m.fz) : Holds { m with fz := fz' } w :=
  ⟨h.bel, h.B, h.nd, h.lo, h.zx, h.own, fun f hf => h.fz f (hsub f hf)⟩
theorem set_split {l : List Own} {i : Nat} {o : Own} (o' : Own) (hi : l[i]? = some o) : l.set i o' = l.take i ++ o' :: l.drop (i + 1) := by
  have hlt : i < l.length := (List.getElem?_eq_some_iff.1 hi).1
  rw [List.set_eq_take_append_cons_drop, if_pos hlt]
theorem perm_set {l : List Own} {i : Nat} {o : Own} (o' : Own) (hi : l[i]? = some o) : ((l.set i o').flatMap Own.blk).Perm ((o' :: (l.take i ++ l.drop (i + 1))).flatMap Own.blk) := by
  rw [set_split o' hi]
  exact List.Perm.flatMap_right _ List.perm_middle
theorem perm_get {l : List Own} {i : Nat} {o : Own} (hi : l[i]? = some o) : (l.flatMap Own.blk).Perm ((o :: (l.take i ++ l.drop (i + 1))).flatMap Own.blk) := by
  have := perm_set o hi
  have e : l.set i o = l := by
    apply List.ext_getElem?
    intro j
    rw [List.getElem?_set]
    split
    · rename_i e; subst e; rw [hi, if_pos (List.getElem?_eq_some_iff.1 hi).1]
    · rfl
  rwa [e] at this
theorem Holds.upd (h : Holds m w) {i : Nat} {o o' : Own} (hi : m.own[i]? = some o) (hs : Step m w o.blk w') (hnd : o'.blk.Nodup) (hnew : ∀ b ∈ o'.blk, b ∈ o.blk ∨ w.heap.size ≤ b)
    (ho : ∀ Z : Nat → Prop, (∀ b, m.frz w b → Z b) → o'.p Z w') : Holds (m.upd i o') w' := by
  have hnd0 : ((o :: (m.own.take i ++ m.own.drop (i + 1))).flatMap Own.blk).Nodup := (perm_get hi).nodup_iff.1 h.nd
  have hmo : o ∈ m.own := List.mem_of_getElem? hi
  have hin : ∀ b ∈ o.blk, b ∈ m.blks := fun b hb => List.mem_flatMap.2 ⟨o, hmo, hb⟩
  rw [List.flatMap_cons, List.nodup_append] at hnd0
  have hsub : ∀ x ∈ m.own.take i ++ m.own.drop (i + 1), x ∈ m.own := fun x hx => by
    rcases List.mem_append.1 hx with hx | hx
    · exact List.mem_of_mem_take hx
    · exact List.mem_of_mem_drop hx
  have h1 := h.step hs hin (m.own.take i ++ m.own.drop (i + 1)) [o'] (by
      rw [List.singleton_append, List.flatMap_cons, List.nodup_append]
      refine ⟨hnd, hnd0.2.1, fun b hb c hc e => ?_⟩
      subst e
      rcases hnew b hb with hx | hx
      · exact hnd0.2.2 b hx b hc rfl
      · obtain ⟨x, hx1, hx2⟩ := List.mem_flatMap.1 hc
        have := h.lt (List.mem_flatMap.2 ⟨x, hsub x hx1, hx2⟩); omega)
    (fun x hx => ⟨hsub x hx, fun b hb hbo => hnd0.2.2 b hbo b (List.mem_flatMap.2 ⟨x, hx, hb⟩) rfl⟩)
    (fun x hx => by rw [List.mem_singleton.1 hx]; exact ⟨hnew, fun Z h1 _ => ho Z h1⟩)
  have h2 := h1.reown (m.own.set i o') (fun x hx => by
    rw [set_split o' hi] at hx
    show x ∈ [o'] ++ (m.own.take i ++ m.own.drop (i + 1))
    simp only [List.mem_append, List.mem_cons] at hx ⊢
    rcases hx with hx | rfl | hx
    · exact .inr (.inl hx)
    · exact .inl (.inl rfl)
    · exact .inr (.inr hx)) ((perm_set o' hi).nodup_iff.2 (by have h9 : (([o'] ++ (m.own.take i ++ m.own.drop (i + 1))).flatMap Own.blk).Nodup := h1.nd; simpa using h9))
  exact h2
end
end Go.Proofs.Ytnnfmgobbhlbiaa.En
namespace Go.Proofs.Ytnnfmgobbhlbiaa.En
open Go.RowKit
set_option linter.unusedVariables false
set_option linter.unusedSimpArgs false
abbrev Sl := Nat → Option Value
def put (S : Sl) (d : Nat) (v : Value) : Sl := fun t => bif Nat.beq t d then some v else S t
def Sl.nil : Sl := fun _ => none
def ev (S : Sl) : Operand → Option Value
  | .tmp t => S t
  | .const v => some v
  | .global g => some (.pointer (some ⟨g, 0, none⟩))
  | .func f => some (.func (.func f) #[] #[])
structure Sat (n : Nat) (S : Sl) (a : Act) : Prop where
  def_ : a.defers = []
  size : a.tmps.size = n
  val : ∀ t v, S t = some v → a.tmps.getD t undef = v
section
variable {n : Nat} {S S' : Sl} {a : Act}
theorem Sat.ev (h : Sat n S a) {x : Operand} {v : Value} (hx : ev S x = some v) : a.eval x = v := by
  cases x with
  | tmp t => exact h.val t v hx
  | const u => exact Option.some.inj hx
  | global g => exact Option.some.inj hx
  | func f => exact Option.some.inj hx
theorem put_some {d t : Nat} {v u : Value} (h : put S d v t = some u) : (t = d ∧ u = v) ∨ (t ≠ d ∧ S t = some u) := by
  unfold put at h
  cases hb : Nat.beq t d with
  | true => rw [hb] at h; exact .inl ⟨Nat.eq_of_beq_eq_true hb, (Option.some.inj h).symm⟩
  | false => rw [hb] at h; exact .inr ⟨Nat.ne_of_beq_eq_false hb, h⟩
theorem Sat.put (h : Sat n S a) {d : Nat} (hd : d < n) (v : Value) : Sat n (put S d v) (a.put (some d) v) := by
  refine ⟨h.def_, by simp [Act.put, h.size], fun t u hu => ?_⟩
  have hsz := h.size
  rcases put_some hu with ⟨rfl, rfl⟩ | ⟨hne, hu⟩
  · simp [Act.put, Array.getD, hsz, hd]
  · have h0 := h.val t u hu
    have he : (a.tmps.setIfInBounds d v).getD t undef = a.tmps.getD t undef := by
      simp only [Array.getD_eq_getD_getElem?]
      rw [Array.getElem?_setIfInBounds_ne (fun e => hne e.symm)]
    exact he.trans h0
theorem Sat.put' (h : Sat n S a) {od : Option Nat} {d : Nat} (hdd : od = some d) (hd : Nat.blt d n = true) (v : Value) : Sat n (En.put S d v) (a.put od v) := by subst hdd; exact h.put (by simpa [Nat.blt_eq] using hd) v
theorem Sat.weak (h : Sat n S a) (hs : ∀ t v, S' t = some v → S t = some v) : Sat n S' a := ⟨h.def_, h.size, fun t v hv => h.val t v (hs t v hv)⟩
end
def tab : List (Nat × Value) → Sl
  | [] => fun _ => none
  | (d, v) :: l => put (tab l) d v
theorem Sat.tab {n : Nat} {S : Sl} {a : Act} (h : Sat n S a) : ∀ (l : List (Nat × Value)), (∀ p ∈ l, S p.1 = some p.2) → Sat n (tab l) a
  | [], _ => h.weak (fun t v hv => by cases hv)
  | (d, v) :: l, hl => by
    have h1 := Sat.tab h l (fun p hp => hl p (by simp [hp]))
    refine ⟨h.def_, h.size, fun t u hu => ?_⟩
    rcases put_some hu with ⟨rfl, rfl⟩ | ⟨_, hu⟩
    · exact h.val _ _ (hl (t, u) (by simp))
    · exact h1.val t u hu
def allT (S : Sl) : List (Nat × Value) → Prop
  | [] => True
  | (d, v) :: l => S d = some v ∧ allT S l
theorem allT_mem {S : Sl} : ∀ {l : List (Nat × Value)}, allT S l → ∀ p ∈ l, S p.1 = some p.2
  | [], _, p, hp => by simp at hp
  | (d, v) :: l, h, p, hp => by
    rcases List.mem_cons.1 hp with rfl | hp
    · exact h.1
    · exact allT_mem h.2 p hp
def AW (P : Program) (c : Code) (Q : Exit → Act → World → Prop) (n : Nat) (m : Mem) (S : Sl) : Prop := ∀ w a, Holds m w → Sat n S a → c.wp P Q a w
def AL (P : Program) (ops : Array Oper) (l : List Oper) (Q : Exit → Act → World → Prop) (n : Nat) (m : Mem) (S : Sl) : Prop := ∀ w a, Holds m w → Sat n S a → wpList P ops Q l a w
def AQ (Q : Exit → Act → World → Prop) (e : Exit) (n : Nat) (m : Mem) (S : Sl) : Prop := ∀ w a, Holds m w → Sat n S a → Q e a w
section
variable {P : Program} {Q : Exit → Act → World → Prop} {n : Nat} {m m' : Mem} {S S' : Sl}
theorem aw_seq {x y : Code} (h : AW P x (Exit.then (y.wp P Q) Q) n m S) : AW P (.seq x y) Q n m S := fun w a hm hs => wp_seq (h w a hm hs)
theorem aq_then {y : Code} (h : AW P y Q n m S) : AQ (Exit.then (y.wp P Q) Q) .normal n m S := h
theorem aq_then_ret {K : Act → World → Prop} (h : AQ Q .ret n m S) : AQ (Exit.then K Q) .ret n m S := h
theorem aq_then_exit {K : Act → World → Prop} {i : Nat} (h : AQ Q (.exit i) n m S) : AQ (Exit.then K Q) (.exit i) n m S := h
theorem aw_block {id : Nat} {c : Code} (h : AW P c (Exit.inBlock id Q) n m S) : AW P (.block id c) Q n m S := fun w a hm hs => wp_block (h w a hm hs)
theorem aq_block {id : Nat} (h : AQ Q .normal n m S) : AQ (Exit.inBlock id Q) .normal n m S := h
theorem aq_block_exit {id : Nat} (h : AQ Q .normal n m S) : AQ (Exit.inBlock id Q) (.exit id) n m S := fun w a hm hs => by
  show if id = id then _ else _
  rw [if_pos rfl]; exact h w a hm hs
theorem aw_skip (h : AQ Q .normal n m S) : AW P .skip Q n m S := fun w a hm hs => wp_skip (h w a hm hs)
theorem aw_exit {i : Nat} (h : AQ Q (.exit i) n m S) : AW P (.exit i) Q n m S := fun w a hm hs => wp_exit (h w a hm hs)
theorem aw_ret (h : AQ Q .ret n m S) : AW P .ret Q n m S := fun w a hm hs => wp_ret (h w a hm hs)
theorem aw_cond {c : Operand} {x y : Code} {b : Bool} (hc : ev S c = some (.bool b)) (ht : b = true → AW P x Q n m S) (hf : b = false → AW P y Q n m S) : AW P (.cond c x y) Q n m S :=
  fun w a hm hs => wp_cond_split (hs.ev hc) (fun e => ht e w a hm hs) (fun e => hf e w a hm hs)
theorem aw_region {id : Nat} {l : List Oper} (h : AL P l.toArray l Q n m S) : AW P (.region id l.toArray false) Q n m S := fun w a hm hs => wp_region_lit (h w a hm hs)
theorem al_nil {ops : Array Oper} (h : AQ Q .normal n m S) : AL P ops [] Q n m S := fun w a hm hs => wpList_nil (h w a hm hs)
theorem least {p : Nat → Prop} (h : ∃ k, p k) : ∃ k, p k ∧ ∀ j, p j → k ≤ j := by
  obtain ⟨k, hk⟩ := h
  induction k using Nat.strongRecOn with
  | _ k ih =>
    by_cases hj : ∃ j, j < k ∧ p j
    · obtain ⟨j, hlt, hp⟩ := hj; exact ih j hlt hp
    · exact ⟨k, hk, fun j hp => Nat.le_of_not_lt fun hlt => hj ⟨j, hlt, hp⟩⟩
theorem wp_loop_fuel {c : Code} (J : Nat → Act → World → Prop) (round : ∀ k a w, J k a w → c.wp P (Exit.then (fun a' w' => ∃ j, j < k ∧ J j a' w') Q) a w) {k : Nat} {a : Act} {w : World} (h : J k a w) : (Code.loop c).wp P Q a w := by
  classical
  let μ : Act → World → Nat := fun a w => if h : ∃ k, J k a w then Classical.choose (least h) else 0
  refine wp_loop (fun a w => ∃ k, J k a w) μ ⟨k, h⟩ (fun a w hI => ?_)
  have hk := (Classical.choose_spec (least hI)).1
  refine Code.wp_mono (fun e a' w' q => ?_) (round _ a w hk)
  cases e with
  | normal =>
    obtain ⟨j, hj, hJ⟩ := q
    refine ⟨⟨j, hJ⟩, ?_⟩
    have hex : ∃ k, J k a' w' := ⟨j, hJ⟩
    have h1 : μ a' w' ≤ j := by
      show (if h : ∃ k, J k a' w' then Classical.choose (least h) else 0) ≤ j
      rw [dif_pos hex]; exact (Classical.choose_spec (least hex)).2 j hJ
    have h2 : μ a w = Classical.choose (least hI) := dif_pos hI
    omega
  | exit i => exact q
  | goto i => exact q
  | ret => exact q
  | panic ch => exact q
  | outgrown => exact q
theorem aw_loop {c : Code} {ι : Type _} (M : ι → Mem) (T : ι → Sl) (φ : Nat → ι → Prop)
    (round : ∀ k i, φ k i → AW P c (Exit.then (fun a' w' => ∃ j, j < k ∧ ∃ i', φ j i' ∧ Holds (M i') w' ∧ Sat n (T i') a') Q) n (M i) (T i)) (k : Nat) (i : ι) (h : φ k i) : AW P (.loop c) Q n (M i) (T i) :=
  fun w a hm hs => wp_loop_fuel (fun k a w => ∃ i, φ k i ∧ Holds (M i) w ∧ Sat n (T i) a)
    (fun k a w ⟨i, hp, hm, hs⟩ => round k i hp w a hm hs) ⟨i, h, hm, hs⟩
theorem aq_again {ι : Type _} {M : ι → Mem} {T : ι → Sl} {φ : Nat → ι → Prop} {k : Nat} (j : Nat) (i : ι) (hj : j < k) (hp : φ j i)
    (h : ∀ w a, Holds m w → Sat n S a → Holds (M i) w ∧ Sat n (T i) a) : AQ (Exit.then (fun a' w' => ∃ j, j < k ∧ ∃ i', φ j i' ∧ Holds (M i') w' ∧ Sat n (T i') a') Q) .normal n m S :=
  fun w a hm hs => ⟨j, hj, i, hp, h w a hm hs⟩
theorem aw_state {c : Code} (h : AW P c Q n m' S') (hh : ∀ w a, Holds m w → Sat n S a → Holds m' w ∧ Sat n S' a) : AW P c Q n m S := fun w a hm hs => h w a (hh w a hm hs).1 (hh w a hm hs).2
def picks {β : Type _} (l : List β) (is : List Nat) : List β := is.filterMap fun i => l[i]?
theorem picks_sub {β : Type _} {l : List β} {is : List Nat} {x : β} (h : x ∈ picks l is) : x ∈ l := by
  obtain ⟨i, _, hi⟩ := List.mem_filterMap.1 h
  exact List.mem_of_getElem? hi
theorem nodup_flat {l : List Own} (hl : (l.flatMap Own.blk).Nodup) {i j : Nat} {o o' : Own} (hi : l[i]? = some o) (hj : l[j]? = some o') (hne : i ≠ j) : ∀ b ∈ o.blk, b ∉ o'.blk := by
  induction l generalizing i j with
  | nil => simp at hi
  | cons x l ih =>
    rw [List.flatMap_cons, List.nodup_append] at hl
    cases i with
    | zero =>
      cases j with
      | zero => exact absurd rfl hne
      | succ j =>
        simp only [List.getElem?_cons_zero, Option.some.injEq] at hi
        subst hi
        rw [List.getElem?_cons_succ] at hj
        exact fun b hb hb' => hl.2.2 b hb b (List.mem_flatMap.2 ⟨o', List.mem_of_getElem? hj, hb'⟩) rfl
    | succ i =>
      rw [List.getElem?_cons_succ] at hi
      cases j with
      | zero =>
        simp only [List.getElem?_cons_zero, Option.some.injEq] at hj
        subst hj
        exact fun b hb hb' => hl.2.2 b hb' b (List.mem_flatMap.2 ⟨o, List.mem_of_getElem? hi, hb⟩) rfl
      | succ j =>
        rw [List.getElem?_cons_succ] at hj
        exact ih hl.2.1 hi hj (by omega)
theorem nodup_at {l : List Own} (hl : (l.flatMap Own.blk).Nodup) {o : Own} (ho : o ∈ l) : o.blk.Nodup := by
  induction l with
  | nil => simp at ho
  | cons x l ih =>
    rw [List.flatMap_cons, List.nodup_append] at hl
    rcases List.mem_cons.1 ho with rfl | ho
    · exact hl.1
    · exact ih hl.2.1 ho
theorem picks_nodup {l : List Own} (hl : (l.flatMap Own.blk).Nodup) : ∀ {is : List Nat}, is.Nodup → ((picks l is).flatMap Own.blk).Nodup
  | [], _ => by simp [picks]
  | i :: is, h => by
    have h2 := picks_nodup hl (List.nodup_cons.1 h).2
    unfold picks at h2 ⊢
    rw [List.filterMap_cons]
    cases hi : l[i]? with
    | none => exact h2
    | some o =>
      show ((o :: _).flatMap Own.blk).Nodup
      rw [List.flatMap_cons, List.nodup_append]
      refine ⟨nodup_at hl (List.mem_of_getElem? hi), h2, fun b hb c hc e => ?_⟩
      subst e
      obtain ⟨o', ho', hb'⟩ := List.mem_flatMap.1 hc
      obtain ⟨j, hj, ho'⟩ := List.mem_filterMap.1 ho'
      exact nodup_flat hl hi ho' (fun e => (List.nodup_cons.1 h).1 (e ▸ hj)) b hb hb'
theorem Holds.pick {w : World} (h : Holds m w) (io iz : List Nat) (hio : io.Nodup) : Holds { m with own := picks m.own io, fz := picks m.fz iz } w :=
  (h.reown (picks m.own io) (fun o ho => picks_sub ho) (picks_nodup h.nd hio)).refz _ (fun f hf => picks_sub hf)
theorem norm {w : World} {a : Act} (h : Holds m w) (hs : Sat n S a) (io iz : List Nat) (l : List (Nat × Value)) (hio : io.Nodup) (hl : allT S l) :
    Holds { m with own := picks m.own io, fz := picks m.fz iz } w ∧ Sat n (tab l) a := ⟨h.pick io iz hio, hs.tab l (allT_mem hl)⟩
end
def wantS (ops : Array Oper) (S : Sl) (o : Oper) (want : Bool) : Bool :=
  match o.guard with
  | none => want
  | some (j, y) => match (ops[j]?).bind (·.dst) with
    | some t => match S t with
      | some (.bool b) => (b == y) == want
      | some _ => !want
      | none => false
    | none => false
section
variable {P : Program} {Q : Exit → Act → World → Prop} {n : Nat} {m m' : Mem} {S S' : Sl} {ops : Array Oper} {rest : List Oper} {o : Oper}
theorem getD_tmps {a : Act} {t : Nat} {b : Bool} (h : a.tmps.getD t undef = .bool b) : a.tmps[t]? = some (.bool b) := by
  unfold Array.getD at h
  split at h
  · rename_i hlt
    rw [Array.getElem?_eq_getElem hlt]
    exact congrArg some h
  · cases h
theorem wantS_of {a : Act} (hs : Sat n S a) {want : Bool} (h : wantS ops S o want = true) : Region.wanted o (yielded ops a.tmps) = want := by
  unfold wantS at h
  unfold Region.wanted
  cases hg : o.guard with
  | none => rw [hg] at h; exact h.symm
  | some p =>
    obtain ⟨j, y⟩ := p
    rw [hg] at h
    simp only at h ⊢
    cases hd : (ops[j]?).bind (·.dst) with
    | none => rw [hd] at h; cases h
    | some t =>
      rw [hd] at h
      simp only at h
      cases hv : S t with
      | none => rw [hv] at h; cases h
      | some v =>
        rw [hv] at h
        cases v with
        | bool b =>
          simp only at h
          have := getD_tmps (hs.val t _ hv)
          unfold yielded
          rw [hd]
          simp only [Option.bind_some, this]
          have h2 : (b == y) = want := by simpa using h
          rw [← h2]
          cases b <;> cases y <;> rfl
        | _ =>
          have hw : want = false := by simpa using h
          subst hw
          have hsv := hs.val t _ hv
          unfold yielded
          rw [hd]
          simp only [Option.bind_some]
          unfold Array.getD at hsv
          split at hsv
          · rename_i hlt
            have h9 : a.tmps[t]? = some (a.tmps[t]) := Array.getElem?_eq_getElem hlt
            rw [h9]
            have h8 : a.tmps[t] = _ := hsv
            rw [h8]; rfl
          · rename_i hlt
            rw [Array.getElem?_eq_none (by omega)]; rfl
theorem al_skip {d : Nat} (h : AL P ops rest Q n m (put S d undef)) (hdd : o.dst = some d := by rfl) (hd : Nat.blt d n = true := by rfl) (hg : wantS ops S o false = true := by rfl) : AL P ops (o :: rest) Q n m S := fun w a hm hs => by
  refine wpList_step fun K hK => ?_
  rw [wantS_of hs hg]
  exact hK _ _ (h w _ hm (hs.put' hdd hd _))
theorem al_step (hg : wantS ops S o true = true) (hst : ∀ w a, Holds m w → Sat n S a → ∀ K : Act → World → Prop, (∀ a w, wpList P ops Q rest a w → K a w) → o.wp P a w K Q) : AL P ops (o :: rest) Q n m S := fun w a hm hs => by
  refine wpList_step fun K hK => ?_
  rw [wantS_of hs hg]
  exact hst w a hm hs K hK
def OpV (P : Program) (o : Oper) (n : Nat) (m : Mem) (S : Sl) (v : Value) : Prop := ∀ w a, Holds m w → Sat n S a → (execOp a.eval o).run P w = .ok (.value v) w
theorem al_val {d : Nat} {v : Value} (hv : OpV P o n m S v) (h : AL P ops rest Q n m (put S d v)) (hdd : o.dst = some d := by rfl) (hd : Nat.blt d n = true := by rfl) (hg : wantS ops S o true = true := by rfl) : AL P ops (o :: rest) Q n m S :=
  al_step hg fun w a hm hs K hK => by
    unfold Oper.wp
    rw [hv w a hm hs, Oper.upon_value]
    exact hK _ _ (h w _ hm (hs.put' hdd hd _))
def OpF (P : Program) (o : Oper) (n : Nat) (m : Mem) (S : Sl) (R : Value → Fact) : Prop := ∀ w a, Holds m w → Sat n S a → ∃ v, (execOp a.eval o).run P w = .ok (.value v) w ∧ (R v).p (m.frz w) w
theorem al_fact {d : Nat} {R : Value → Fact} (hv : ∀ w a, Holds m w → Sat n S a → ∃ v, (execOp a.eval o).run P w = .ok (.value v) w ∧ (R v).p (m.frz w) w)
    (h : ∀ v, AL P ops rest Q n (m.add (R v)) (put S d v)) (hdd : o.dst = some d := by rfl) (hd : Nat.blt d n = true := by rfl) (hg : wantS ops S o true = true := by rfl) : AL P ops (o :: rest) Q n m S :=
  al_step hg fun w a hm hs K hK => by
    unfold Oper.wp
    obtain ⟨v, hr, hf⟩ := hv w a hm hs
    rw [hr, Oper.upon_value]
    exact hK _ _ (h v w _ (hm.add hf) (hs.put' hdd hd _))
end
section
variable {P : Program} {n : Nat} {m : Mem} {S : Sl} {o : Oper}
theorem ov_move {x : Operand} {v : Value} (ho : o.op = .move x) (hx : ev S x = some v) : OpV P o n m S v := fun w a _ hs => by
  unfold execOp; simp [ho, hs.ev hx]
theorem ov_assign {x : Operand} {v : Value} (ho : o.op = .assign x) (hx : ev S x = some v) : OpV P o n m S v := fun w a _ hs => by
  unfold execOp; simp [ho, hs.ev hx]
theorem ov_pick {c x y : Operand} {b : Bool} {v u : Value} (ho : o.op = .pick c x y) (hc : ev S c = some (.bool b)) (hx : b = true → ev S x = some v) (hy : b = false → ev S y = some v) : OpV P o n m S v := fun w a _ hs => by
  unfold execOp
  simp only [ho, hs.ev hc, asBool, Sem.run_bind, Sem.run_pure, Result.andThen_ok]
  cases b with
  | true => rw [if_pos rfl, hs.ev (hx rfl)]
  | false => rw [if_neg (by simp), hs.ev (hy rfl)]
theorem ov_pick_t {c x y : Operand} {v : Value} (ho : o.op = .pick c x y) (hc : ev S c = some (.bool true)) (hx : ev S x = some v) : OpV P o n m S v := ov_pick (u := v) ho hc (fun _ => hx) (fun e => by cases e)
theorem ov_pick_f {c x y : Operand} {v : Value} (ho : o.op = .pick c x y) (hc : ev S c = some (.bool false)) (hy : ev S y = some v) : OpV P o n m S v := ov_pick (u := v) ho hc (fun e => by cases e) (fun _ => hy)
theorem ov_extract {x : Operand} {i : Nat} {vs : Array Value} {v : Value} (ho : o.op = .extract x i) (hx : ev S x = some (.tuple vs)) (hv : vs[i]? = some v) : OpV P o n m S v := fun w a _ hs => by
  unfold execOp
  simp [ho, hs.ev hx, Instr.extract, hv]
def intRes : BinOp → IntKind → Int → Int → Option Value
  | .add, k, a, b => some (.int k (k.wrap (a + b)))
  | .sub, k, a, b => some (.int k (k.wrap (a - b)))
  | .mul, k, a, b => some (.int k (k.wrap (a * b)))
  | .eql, _, a, b => some (.bool (a == b))
  | .neq, _, a, b => some (.bool (a != b))
  | .lss, _, a, b => some (.bool (decide (a < b)))
  | .leq, _, a, b => some (.bool (decide (a ≤ b)))
  | .gtr, _, a, b => some (.bool (decide (a > b)))
  | .geq, _, a, b => some (.bool (decide (a ≥ b)))
  | .and, k, a, b => some (.int k (bits .and k a b))
  | .or, k, a, b => some (.int k (bits .or k a b))
  | .xor, k, a, b => some (.int k (bits .xor k a b))
  | .andNot, k, a, b => some (.int k (bits .andNot k a b))
  | _, _, _, _ => none
theorem ov_int {op : BinOp} {xt yt : TypeId} {x y : Operand} {k : IntKind} {p q : Int} {v : Value} (ho : o.op = .binOp op xt x y yt) (hx : ev S x = some (.int k p)) (hy : ev S y = some (.int k q)) (hv : intRes op k p q = some v) : OpV P o n m S v := fun w a _ hs => by
  unfold execOp
  simp only [ho, hs.ev hx, hs.ev hy]
  cases op <;> simp only [intRes, Option.some.injEq, reduceCtorEq] at hv <;> subst hv <;>
    simp [eqGuard, binOp, Op.intArith, Op.intCmp, Op.intBits, bits]
theorem ov_quo {xt yt : TypeId} {x y : Operand} {k : IntKind} {p q : Int} (hq : q ≠ 0) (ho : o.op = .binOp .quo xt x y yt) (hx : ev S x = some (.int k p)) (hy : ev S y = some (.int k q)) : OpV P o n m S (.int k (k.wrap (p.tdiv q))) := fun w a _ hs => by
  unfold execOp
  simp only [ho, hs.ev hx, hs.ev hy]
  simp [eqGuard, binOp, Op.intDiv, hq]
theorem ov_rem {xt yt : TypeId} {x y : Operand} {k : IntKind} {p q : Int} (hq : q ≠ 0) (ho : o.op = .binOp .rem xt x y yt) (hx : ev S x = some (.int k p)) (hy : ev S y = some (.int k q)) : OpV P o n m S (.int k (p.tmod q)) := fun w a _ hs => by
  unfold execOp
  simp only [ho, hs.ev hx, hs.ev hy]
  simp [eqGuard, binOp, Op.intDiv, hq]
theorem ov_shl {xt yt : TypeId} {x y : Operand} {k yk : IntKind} {p q : Int} (hq : 0 ≤ q) (ho : o.op = .binOp .shl xt x y yt) (hx : ev S x = some (.int k p)) (hy : ev S y = some (.int yk q)) : OpV P o n m S (.int k (k.wrap (p * 2 ^ min q.toNat k.bits))) := fun w a _ hs => by
  unfold execOp
  simp only [ho, hs.ev hx, hs.ev hy]
  simp [eqGuard, binOp, Op.shift, Int.not_lt.2 hq]
theorem ov_shr {xt yt : TypeId} {x y : Operand} {k yk : IntKind} {p q : Int} (hq : 0 ≤ q) (ho : o.op = .binOp .shr xt x y yt) (hx : ev S x = some (.int k p)) (hy : ev S y = some (.int yk q)) : OpV P o n m S (.int k (p.fdiv (2 ^ min q.toNat k.bits))) := fun w a _ hs => by
  unfold execOp
  simp only [ho, hs.ev hx, hs.ev hy]
  simp [eqGuard, binOp, Op.shift, Int.not_lt.2 hq]
theorem ov_convInt {s d : TypeId} {x : Operand} {k k' : IntKind} {p : Int} (hss : (P.underlying s).isSome = true) (ht : P.underlying d = some (.int k')) (ho : o.op = .convert s d x) (hx : ev S x = some (.int k p)) : OpV P o n m S (.int k' (k'.wrap p)) := fun w a _ hs => by
  obtain ⟨ds, hds⟩ := Option.isSome_iff_exists.1 hss
  unfold execOp
  simp only [ho, hs.ev hx]
  simp [convert, Sem.run_bind, run_underlying hds, run_underlying ht, Conv.intToInt]
theorem size_str (l : List UInt8) : (⟨l.toArray⟩ : ByteArray).size = l.length := by show l.toArray.size = _; simp
theorem ov_strAdd {xt yt : TypeId} {x y : Operand} {p q : List UInt8} (hl : p.length + q.length ≤ 9223372036854775807) (ho : o.op = .binOp .add xt x y yt) (hx : ev S x = some (str p)) (hy : ev S y = some (str q)) : OpV P o n m S (str (p ++ q)) := fun w a _ hs => by
  unfold execOp
  simp only [ho, hs.ev hx, hs.ev hy]
  have h1 := run_string_add_sum (P := P) (w := w) ⟨p.toArray⟩ ⟨q.toArray⟩ (by simpa [ByteArray.size] using hl)
  have h2 : (⟨p.toArray⟩ ++ ⟨q.toArray⟩ : ByteArray) = ⟨(p ++ q).toArray⟩ := by
    apply ByteArray.ext; simp
  rw [h2] at h1
  simp [eqGuard, binOp, str, h1]
def strRes : BinOp → List UInt8 → List UInt8 → Option Value
  | .eql, p, q => some (.bool (p == q))
  | .neq, p, q => some (.bool (!(p == q)))
  | .lss, p, q => some (.bool (Op.bytesLess p q))
  | .leq, p, q => some (.bool (Op.bytesLess p q || p == q))
  | .gtr, p, q => some (.bool (!(Op.bytesLess p q || p == q)))
  | .geq, p, q => some (.bool (!Op.bytesLess p q))
  | _, _, _ => none
theorem ov_strCmp {op : BinOp} {xt yt : TypeId} {x y : Operand} {p q : List UInt8} {v : Value} (ho : o.op = .binOp op xt x y yt) (hx : ev S x = some (str p)) (hy : ev S y = some (str q)) (hv : strRes op p q = some v) : OpV P o n m S v := fun w a _ hs => by
  unfold execOp
  simp only [ho, hs.ev hx, hs.ev hy]
  cases op <;> simp only [strRes, Option.some.injEq, reduceCtorEq] at hv <;> subst hv <;>
    simp [eqGuard, binOp, str, Op.stringOp]
theorem ov_strLen {t : TypeId} {x : Operand} {p : List UInt8} (ht : P.underlying t = some .string) (ho : o.op = .call { callee := .builtin .len, args := #[x], argTypes := #[t] }) (hx : ev S x = some (str p)) : OpV P o n m S (.int .i64 p.length) := fun w a _ hs => by
  unfold execOp
  simp [ho, resolve, invoke, builtin, hs.ev hx, Builtin.len_, run_underlying ht, str, goInt, size_str]
def bAt (s : List UInt8) (i : Int) : Int := ((s.getD i.toNat 0).toNat : Int)
theorem ov_strIdx {t : TypeId} {x i : Operand} {p : List UInt8} {k : IntKind} {j : Int} (h0 : 0 ≤ j) (h1 : j < p.length) (ht : P.underlying t = some .string) (ho : o.op = .index t x i) (hx : ev S x = some (str p)) (hi : ev S i = some (.int k j)) : OpV P o n m S (.int .u8 (bAt p j)) := fun w a _ hs => by
  have hj : j.toNat < p.length := by omega
  have h2 : (⟨p.toArray⟩ : ByteArray)[j.toNat]? = some p[j.toNat] := by
    rw [getElem?_pos _ _ (by simpa [ByteArray.size] using hj)]; rfl
  unfold execOp
  simp only [ho, hs.ev hx, hs.ev hi]
  simp [Instr.index, asIntOf, run_underlying ht, str, h0, h2, bAt, List.getD_eq_getElem?_getD, List.getElem?_eq_getElem hj]
def cut (s : List UInt8) (l h : Int) : List UInt8 := (s.take h.toNat).drop l.toNat
theorem extract_str (p : List UInt8) (l h : Nat) : (⟨p.toArray⟩ : ByteArray).extract l h = ⟨((p.take h).drop l).toArray⟩ := by
  apply ByteArray.ext
  rw [ByteArray.data_extract]
  apply Array.toList_inj.1
  rw [Array.toList_extract]
  simp [List.extract_eq_take_drop, List.drop_take]
theorem ov_strFrom {t : TypeId} {x i : Operand} {p : List UInt8} {ki : IntKind} {l : Int} (h0 : 0 ≤ l) (h2 : l ≤ p.length) (ht : P.underlying t = some .string) (ho : o.op = .slice t x (some i) none none) (hx : ev S x = some (str p)) (hi : ev S i = some (.int ki l)) : OpV P o n m S (str (p.drop l.toNat)) := fun w a _ hs => by
  unfold execOp
  simp only [ho, hs.ev hx, Option.map_some, Option.map_none, hs.ev hi]
  have e : p.take p.length = p := List.take_length
  simp [Instr.sliceAt, Instr.slice, Instr.sliceBounds, Instr.sliceBound, asIntOf, run_underlying ht, str, size_str, h0, h2, extract_str, e]
end
end Go.Proofs.Ytnnfmgobbhlbiaa.En
namespace Go.Proofs.Ytnnfmgobbhlbiaa.En
open Go.RowKit
set_option linter.unusedVariables false
set_option linter.unusedSimpArgs false
def ag (cs : List Value) : Value := .agg cs.toArray
def ptr (g o : Nat) : Value := .pointer (some ⟨g, o, none⟩)
def szOf (P : Program) (t : TypeId) : Option Nat := (P.info? t).map (·.size)
def zeroOf (P : Program) (t : TypeId) : Option Value := (P.info? t).bind (·.zero)
def isAggD : TypeDesc → Bool
  | .struct _ | .array _ _ => true
  | _ => false
section
variable {P : Program}
theorem run_sizeOf' {t : TypeId} {k : Nat} (h : szOf P t = some k) (w : World) : (sizeOf t).run P w = .ok k w := by
  unfold szOf at h
  cases hq : P.info? t with
  | none => simp [hq] at h
  | some i => have hs : i.size = k := by simpa [hq] using h
              simp [sizeOf, typeInfo, hq, hs]
theorem run_zeroValue' {t : TypeId} {z : Value} (h : zeroOf P t = some z) (w : World) : (zeroValue t).run P w = .ok z w := by
  unfold zeroOf at h
  cases hq : P.info? t with
  | none => simp [hq] at h
  | some i => have hs : i.zero = some z := by simpa [hq] using h
              simp [zeroValue, typeInfo, hq, hs]
theorem run_isAgg' {t : TypeId} {d : TypeDesc} (h : P.underlying t = some d) (w : World) : (isAgg t).run P w = .ok (isAggD d) w := by
  unfold isAgg
  rw [Sem.run_bind, run_underlying h w]
  cases d <;> rfl
def mk (d : TypeDesc) (cs : List Value) : Value := if isAggD d then ag cs else cs.headD undef
theorem run_loadVar' {t : TypeId} {d : TypeDesc} {k : Nat} (hu : P.underlying t = some d) (hs : szOf P t = some k) (w : World) (ad : Addr) (cs : List Value) (hl : cs.length = k) (h1 : isAggD d = false → k = 1)
    (hc : ∀ j u, cs[j]? = some u → w.cell? (ad.add j) = some u) : (loadVar t ad).run P w = .ok (mk d cs) w := by
  unfold loadVar mk
  rw [Sem.run_bind, run_isAgg' hu w, Result.andThen_ok]
  cases hd : isAggD d with
  | true =>
    have h2 := run_loadCells_list (P := P) w ad cs hc
    rw [hl] at h2
    simp [Sem.run_bind, run_sizeOf' hs w, h2, ag]
  | false =>
    have hk := h1 hd
    subst hk
    obtain ⟨u, rfl⟩ : ∃ u, cs = [u] := by
      match cs, hl with
      | [u], _ => exact ⟨u, rfl⟩
    have h0 := hc 0 u rfl
    rw [show ad.add 0 = ad from rfl] at h0
    simp [load, Sem.run, h0]
theorem run_storeVar' {t : TypeId} {k : Nat} (hs : szOf P t = some k) (w : World) (g off : Nat) (v : Value) (et : TypeId) (old vs : List Value) (hv : v.cells.toList = vs) (hl : vs.length = k) (hg : w.heap[g]? = some (.cells old.toArray et (0, 0)))
    (hfit : off + k ≤ old.length) (h1 : ∀ u ∈ vs, u.oneCell' = true) :
    (storeVar t ⟨g, off, none⟩ v).run P w = .ok () (w.setRow g (old.take off ++ vs ++ old.drop (off + k)).toArray) := by
  have h2 := run_storeCells_at (P := P) g off et vs 0 old.toArray w hg (by simp; omega) h1
  simp only [Nat.add_zero, List.size_toArray, hl] at h2
  have h3 : v.cells.size = k := by rw [← Array.length_toList, hv, hl]
  unfold storeVar
  simp [Sem.run_bind, run_sizeOf' hs w, h3, hv, h2]
end
section
variable {P : Program} {Q : Exit → Act → World → Prop} {n : Nat} {m : Mem} {S : Sl} {ops : Array Oper} {rest : List Oper} {o : Oper}
theorem step_val {v : Value} {w w' : World} {a : Act} {K : Act → World → Prop} (hr : (execOp a.eval o).run P w = .ok (.value v) w') (h : K (a.put o.dst v) w') : o.wp P a w K Q := by
  unfold Oper.wp; rw [hr, Oper.upon_value]; exact h
theorem step_skip {w w' : World} {a : Act} {K : Act → World → Prop} (hr : (execOp a.eval o).run P w = .ok .skip w') (h : K (a.put o.dst undef) w') : o.wp P a w K Q := by
  unfold Oper.wp; rw [hr, Oper.upon_skip]; exact h
theorem box_push {w : World} (hm : Holds m w) (t : TypeId) (cs : List Value) : Holds (m.push (oBox w.heap.size t cs)) (w.alloc (.cells cs.toArray t)) :=
  hm.push ((Below.refl _ _).alloc (Nat.le_refl _) _) (by simp [oBox]) (by simp [oBox]) (fun Z _ => heap_alloc_new w _)
theorem al_alloc {d : Nat} {t : TypeId} {z : Value} {zs : List Value} (hz : zeroOf P t = some z) (hzs : z.cells = zs.toArray) (ho : o.op = .alloc t)
    (h : ∀ g, AL P ops rest Q n (m.push (oBox g t zs)) (put S d (ptr g 0))) (hdd : o.dst = some d := by rfl) (hd : Nat.blt d n = true := by rfl) (hg : wantS ops S o true = true := by rfl) : AL P ops (o :: rest) Q n m S :=
  al_step hg fun w a hm hs K hK => by
    refine step_val (v := ptr w.heap.size 0) (w' := w.alloc (.cells zs.toArray t)) ?_ (hK _ _ (h _ _ _ (box_push hm t zs) (hs.put' hdd hd _)))
    unfold execOp
    simp only [ho]
    simp [Instr.alloc, Sem.run_bind, run_zeroValue' hz w, newVar, newRow, newObj, hzs, ptr]
    rfl
def CV (m : Mem) (v : Value) (vs : List Value) : Prop := ∀ {w : World}, Holds m w → v.cells = vs.toArray
def CO (m : Mem) (vs : List Value) : Prop := ∀ {w : World}, Holds m w → ∀ u ∈ vs, u.oneCell' = true
theorem cv_rfl {v : Value} {vs : List Value} (h : v.cells = vs.toArray) : CV m v vs := fun _ => h
def BS (m : Mem) (sz : Nat) (vs cs : List Value) : Prop := ∀ {w : World}, Holds m w → (∀ v ∈ vs, v.cells.size = sz) ∧ vs.flatMap (fun v => v.cells.toList) = cs
theorem bs_nil {sz : Nat} : BS m sz [] [] := fun _ => ⟨fun _ h => absurd h (by simp), rfl⟩
theorem bs_cons {sz : Nat} {v : Value} {l vs cs : List Value} (h : CV m v l) (hl : l.length = sz) (hr : BS m sz vs cs) : BS m sz (v :: vs) (l ++ cs) := fun hm => by
  obtain ⟨h1, h2⟩ := hr hm
  refine ⟨fun u hu => ?_, ?_⟩
  · rcases List.mem_cons.1 hu with rfl | hu
    · rw [h hm]; simpa using hl
    · exact h1 u hu
  · rw [List.flatMap_cons, h2, h hm]
theorem al_box {d : Nat} {t : TypeId} {x : Operand} {v : Value} {vs : List Value} (hx : ev S x = some v) (hv : CV m v vs) (ho : o.op = .box t x)
    (h : ∀ g, AL P ops rest Q n (m.push (oBox g t vs)) (put S d (ptr g 0))) (hdd : o.dst = some d := by rfl) (hd : Nat.blt d n = true := by rfl) (hg : wantS ops S o true = true := by rfl) : AL P ops (o :: rest) Q n m S :=
  al_step hg fun w a hm hs K hK => by
    refine step_val (v := ptr w.heap.size 0) (w' := w.alloc (.cells vs.toArray t)) ?_ (hK _ _ (h _ _ _ (box_push hm t vs) (hs.put' hdd hd _)))
    unfold execOp
    simp only [ho, hs.ev hx]
    simp [Instr.box, Sem.run_bind, newVar, newRow, newObj, hv hm, ptr]
    rfl
theorem box_at {w : World} (hm : Holds m w) {i g : Nat} {t : TypeId} {cs : List Value} (hi : m.own[i]? = some (oBox g t cs)) : w.heap[g]? = some (.cells cs.toArray t (0, 0)) := hm.own _ (List.mem_of_getElem? hi)
theorem box_cell {w : World} (hm : Holds m w) {i g : Nat} {t : TypeId} {cs : List Value} (hi : m.own[i]? = some (oBox g t cs)) (off j : Nat) : w.cell? ((⟨g, off, none⟩ : Addr).add j) = cs[off + j]? := by
  rw [add_plain, cell_of_row _ _ _ _ _ _ (box_at hm hi)]; simp
theorem ov_load {t : TypeId} {d : TypeDesc} {x : Operand} {i g off k : Nat} {et : TypeId} {cs : List Value} {v : Value} (hi : m.own[i]? = some (oBox g et cs)) (hx : ev S x = some (ptr g off)) (hu : P.underlying t = some d) (hsz : szOf P t = some k)
    (h1 : (isAggD d || Nat.beq k 1) = true) (hl : ((cs.drop off).take k).length = k) (hv : mk d ((cs.drop off).take k) = v) (ho : o.op = .load t x) : OpV P o n m S v := fun w a hm hs => by
  have hr := run_loadVar' hu hsz w ⟨g, off, none⟩ ((cs.drop off).take k) hl (fun hd => by rw [hd] at h1; exact Nat.eq_of_beq_eq_true (by simpa using h1)) (fun j u hj => by
    rw [box_cell hm hi]
    rw [List.getElem?_take] at hj
    split at hj
    · rw [List.getElem?_drop] at hj; exact hj
    · cases hj)
  unfold execOp
  simp only [ho, hs.ev hx]
  simp [Instr.loadAt, Instr.sureAddr, ptr, hr, hv]
theorem al_store {t : TypeId} {x y : Operand} {i g off k : Nat} {et : TypeId} {cs cs' vs : List Value} {v : Value} (hi : m.own[i]? = some (oBox g et cs)) (hx : ev S x = some (ptr g off)) (hy : ev S y = some v) (hsz : szOf P t = some k) (hv : CV m v vs) (hl : vs.length = k)
    (hone : CO m vs) (hfit : off + k ≤ cs.length) (hcs : cs.take off ++ vs ++ cs.drop (off + k) = cs') (ho : o.op = .store t x y)
    (h : AL P ops rest Q n (m.upd i (oBox g et cs')) S) (hdst : o.dst = none := by rfl) (hg : wantS ops S o true = true := by rfl) : AL P ops (o :: rest) Q n m S :=
  al_step hg fun w a hm hs K hK => by
    have hr := run_storeVar' hsz w g off v et cs vs (by rw [hv hm]) hl (box_at hm hi) hfit (hone hm)
    rw [hcs] at hr
    refine step_skip (w' := w.setRow g cs'.toArray) ?_ (hK _ _ (h _ _ (hm.upd hi ⟨rfl, rfl, rfl, by rw [size_setRow]; exact Nat.le_refl _, fun b _ hb => setRow_other w g b _ (by simpa [oBox] using hb)⟩ (by simp [oBox]) (fun b hb => .inl hb) (fun Z _ => setRow_heap w g cs.toArray cs'.toArray et (0, 0) (box_at hm hi))) (by rw [hdst]; exact hs)))
    unfold execOp
    simp only [ho, hs.ev hx, hs.ev hy]
    simp [Instr.storeAt, Instr.sureAddr, ptr, hr]
end
def at? {α : Type} (xs : List α) (i : Int) : Option α := if 0 ≤ i then xs[i.toNat]? else none
theorem at_some {α : Type} {xs : List α} {i : Int} {x : α} (h : at? xs i = some x) : 0 ≤ i ∧ i < xs.length ∧ xs[i.toNat]? = some x := by
  unfold at? at h
  split at h
  · rename_i h0
    have := (List.getElem?_eq_some_iff.1 h).1
    exact ⟨h0, by omega, h⟩
  · cases h
section
variable {P : Program} {Q : Exit → Act → World → Prop} {n : Nat} {m : Mem} {S : Sl} {ops : Array Oper} {rest : List Oper} {o : Oper} {α β : Type}
theorem fz_at {w : World} (hm : Holds m w) {i : Nat} {f : Fact} (hi : m.fz[i]? = some f) : f.p (m.frz w) w := hm.fz f (List.mem_of_getElem? hi)
theorem own_at {w : World} (hm : Holds m w) {i : Nat} {f : Own} (hi : m.own[i]? = some f) : f.p (m.frz w) w := hm.own f (List.mem_of_getElem? hi)
theorem of_idxD {τ : Ty α} {v : Value} {xs : List α} (i : Nat) {t e : TypeId} {x y : Operand} {k : IntKind} {j : Int} {u : α} (hu : at? xs j = some u) (hi : m.fz[i]? = some (fDat (tyList τ) [v] xs)) (hx : ev S x = some v) (hy : ev S y = some (.int k j)) (ht : P.underlying t = some (.slice e)) (hsz : szOf P e = some τ.size) (ho : o.op = .indexAddr t x y) : OpF P o n m S (fun p => fPtr τ p u) := fun w a hm hs => by
    obtain ⟨A, l, c, he, hl, _, _, hr⟩ := fz_at hm hi
    have he' : v = .slice A l c := by simpa using he
    obtain ⟨h0, h1, h2⟩ := at_some hu
    rcases hr with hr | ⟨ad, cs, rfl, hca, hrep⟩
    · omega
    refine ⟨.pointer (some (ad.add (j.toNat * τ.size))), ?_, _, _, rfl, (hca.drop (j.toNat * τ.size)).take τ.size, hrep.at h2⟩
    unfold execOp
    simp only [ho, hs.ev hx, hs.ev hy]
    simp [Instr.indexAt, asIntOf, Sem.run_bind, run_underlying ht, he', h0, hl, h1, run_sizeOf' hsz]
theorem al_idxD {d : Nat} {τ : Ty α} {v : Value} {xs : List α} (i : Nat) {t e : TypeId} {x y : Operand} {k : IntKind} {j : Int} {u : α} (hu : at? xs j = some u) (hi : m.fz[i]? = some (fDat (tyList τ) [v] xs)) (hx : ev S x = some v) (hy : ev S y = some (.int k j)) (ht : P.underlying t = some (.slice e)) (hsz : szOf P e = some τ.size) (ho : o.op = .indexAddr t x y)
    (h : ∀ p, AL P ops rest Q n (m.add (fPtr τ p u)) (put S d p)) (hdd : o.dst = some d := by rfl) (hd : Nat.blt d n = true := by rfl) (hg : wantS ops S o true = true := by rfl) : AL P ops (o :: rest) Q n m S :=
  al_fact (R := fun p => fPtr τ p u) (of_idxD i hu hi hx hy ht hsz ho) h hdd hd hg
theorem ov_loadP {τ : Ty α} {v u : Value} {x : α} {ds : List Value} (i : Nat) {t : TypeId} {d : TypeDesc} {y : Operand} (hi : m.fz[i]? = some (fPtr τ v x)) (hds : ∀ {Z w cs}, τ.rep Z w cs x → cs = ds) (hx : ev S y = some v) (hu : P.underlying t = some d) (hsz : szOf P t = some τ.size) (h1 : (isAggD d || Nat.beq τ.size 1) = true) (hv : mk d ds = u) (ho : o.op = .load t y) : OpV P o n m S u := fun w a hm hs => by
  obtain ⟨ad, cs, rfl, hca, hrep⟩ := fz_at hm hi
  have hr := run_loadVar' hu hsz w ad cs (τ.len hrep) (fun hd => by rw [hd] at h1; exact Nat.eq_of_beq_eq_true (by simpa using h1)) hca.2
  rw [hds hrep, hv] at hr
  unfold execOp
  simp only [ho, hs.ev hx]
  simp [Instr.loadAt, Instr.sureAddr, hr]
theorem slice_dat {Z : Nat → Prop} {w : World} {τ : Ty α} {A : Option Addr} {len c l h : Nat} {xs : List α} (hrep : (tyList τ).rep Z w [.slice A len c] xs) (h1 : l ≤ h) (h2 : h ≤ len) :
    (tyList τ).rep Z w [.slice (if c = l then A else A.map (·.add (l * τ.size))) (h - l) (c - l)] ((xs.take h).drop l) := by
  obtain ⟨A', n', c', he, hn, hc, hm, hr⟩ := hrep
  simp only [List.cons.injEq, Value.slice.injEq, and_true] at he
  obtain ⟨rfl, rfl, rfl⟩ := he
  refine ⟨_, _, _, rfl, by rw [List.length_drop, List.length_take]; omega, by omega, by omega, ?_⟩
  by_cases hz : h - l = 0
  · exact .inl hz
  right
  rcases hr with hr | ⟨ad, cs, rfl, hca, hrl⟩
  · omega
  rw [if_neg (by omega)]
  refine ⟨ad.add (l * τ.size), (cs.take (h * τ.size)).drop (l * τ.size), rfl, (hca.take _).drop _, ?_⟩
  exact (hrl.take h).drop l
end
end Go.Proofs.Ytnnfmgobbhlbiaa.En
namespace Go.Proofs.Ytnnfmgobbhlbiaa.En
open Go.RowKit
set_option linter.unusedVariables false
set_option linter.unusedSimpArgs false
def tyOf (P : Program) (e : TypeId) : Option (Nat × Nat × Option Value) := (P.info? e).map fun i => (i.size, i.bytes, i.zero)
theorem tyOf_parts {P : Program} {e : TypeId} {sz by_ : Nat} {z : Value} (h : tyOf P e = some (sz, by_, some z)) : ∃ i, P.info? e = some i ∧ i.zero = some z ∧ i.size = sz ∧ i.bytes = by_ := by
  unfold tyOf at h
  cases hq : P.info? e with
  | none => rw [hq] at h; cases h
  | some i => rw [hq] at h; simp at h; exact ⟨i, rfl, h.2.2, h.1, h.2.1⟩
section
variable {P : Program} {Q : Exit → Act → World → Prop} {n : Nat} {m : Mem} {S : Sl} {ops : Array Oper} {rest : List Oper} {o : Oper} {α β : Type}
end
end Go.Proofs.Ytnnfmgobbhlbiaa.En
namespace Go.Proofs.Ytnnfmgobbhlbiaa.En
def req {β : Type} (c : Prop) [Decidable c] (k : Option β) : Option β := if c then k else none
def opt {α β : Type} (o : Option α) (k : α → Option β) : Option β := match o with | some x => k x | none => none
def lt {α : Type _} {β : Type} (a : α) (k : α → Option β) : Option β := k a
theorem req_some {β : Type} {c : Prop} [Decidable c] {k : Option β} {r : β} (h : req c k = some r) : c ∧ k = some r := by
  unfold req at h; split at h
  · rename_i hc; exact ⟨hc, h⟩
  · cases h
theorem opt_some {α β : Type} {o : Option α} {k : α → Option β} {r : β} (h : opt o k = some r) : ∃ x, o = some x ∧ k x = some r := by
  cases o with
  | none => cases h
  | some x => exact ⟨x, rfl, h⟩
theorem lt_some {α : Type _} {β : Type} {a : α} {k : α → Option β} {r : β} (h : lt a k = some r) : ∃ x, x = a ∧ k x = some r := ⟨a, rfl, h⟩
@[simp] theorem req_pos {β : Type} {c : Prop} [Decidable c] {k : Option β} (hc : c) : req c k = k := by unfold req; rw [if_pos hc]
@[simp] theorem opt_of {α β : Type} (x : α) (k : α → Option β) : opt (some x) k = k x := rfl
@[simp] theorem lt_of {α : Type _} {β : Type} (x : α) (k : α → Option β) : lt x k = k x := rfl
end Go.Proofs.Ytnnfmgobbhlbiaa.En
namespace Go.Proofs.Ytnnfmgobbhlbiaa.En
open Go.RowKit
set_option linter.unusedVariables false
set_option linter.unusedSimpArgs false
structure Res where
  val : Value
  own : List Own := []
  fz : List Fact := []
def FnOk (P : Program) (f : FuncId) (args : List Value) (pre : List Fact) (oin : List Own) {ι : Type} (res : ι → Res) : Prop :=
  ∀ (w : World) (Z : Nat → Prop), (∀ b, Z b → b < w.heap.size) → (oin.flatMap Own.blk).Nodup → (∀ b ∈ oin.flatMap Own.blk, b < w.heap.size ∧ ¬ Z b) → (∀ g ∈ pre, g.p Z w) → (∀ o ∈ oin, o.p Z w) →
    Calls P f args.toArray w fun e w' => ∃ i, e = .returned (res i).val ∧ Bel w.heap.size (oin.flatMap Own.blk) w w' ∧ ((res i).own.flatMap Own.blk).Nodup ∧ (∀ b ∈ (res i).own.flatMap Own.blk, b ∈ oin.flatMap Own.blk ∨ w.heap.size ≤ b) ∧
      ∀ Z' : Nat → Prop, (∀ b, b < w'.heap.size → b ∉ (res i).own.flatMap Own.blk → (b < w.heap.size → Z b) → Z' b) → (∀ o ∈ (res i).own, o.p Z' w') ∧ ∀ g ∈ (res i).fz, g.p Z' w'
section
variable {P : Program} {Q : Exit → Act → World → Prop} {n : Nat} {m : Mem} {S : Sl} {ops : Array Oper} {rest : List Oper} {o : Oper} {α β ι : Type}
def argTab : Nat → List Value → List (Nat × Value)
  | _, [] => []
  | k, v :: l => (k, v) :: argTab (k + 1) l
def memIn (w : World) (Z : Nat → Prop) (pre : List Fact) (oin : List Own) : Mem := { B := w.heap.size, w0 := w, Z0 := Z, X := oin.flatMap Own.blk, own := oin, fz := pre }
def FnPost (P : Program) (fn : Func) (w : World) (Z : Nat → Prop) (oin : List Own) (res : ι → Res) : Exit → Act → World → Prop :=
  bodyPost P fn fun e w' => ∃ i, e = .returned (res i).val ∧ Bel w.heap.size (oin.flatMap Own.blk) w w' ∧ ((res i).own.flatMap Own.blk).Nodup ∧ (∀ b ∈ (res i).own.flatMap Own.blk, b ∈ oin.flatMap Own.blk ∨ w.heap.size ≤ b) ∧
      ∀ Z' : Nat → Prop, (∀ b, b < w'.heap.size → b ∉ (res i).own.flatMap Own.blk → (b < w.heap.size → Z b) → Z' b) → (∀ o ∈ (res i).own, o.p Z' w') ∧ ∀ g ∈ (res i).fz, g.p Z' w'
theorem fn_enter {f : FuncId} {fn : Func} {c : Code} {args : List Value} {pre : List Fact} {oin : List Own} {res : ι → Res} (hf : P.funcs[f]? = some fn) (hb : fn.body = some c) (hn : fn.ntmps = n) (hargs : Nat.ble args.length n = true)
    (h : ∀ w Z, AW P c (FnPost P fn w Z oin res) n (memIn w Z pre oin) (tab (argTab 0 args))) : FnOk P f args pre oin res := fun w Z hZ hnd hX hpre hoin => by
  refine calls_of_wp hf hb (h w Z w _ ?_ ?_)
  · have hz : ∀ b, Z b → (memIn w Z pre oin).frz w b := fun b hb => ⟨hZ b hb, fun hx => (hX b hx).2 hb, fun _ => hb⟩
    exact ⟨Bel.refl _ _ _, rfl, hnd, fun b hb => .inr hb, hX, fun o ho => o.mono hz (hoin o ho), fun g hg => g.mono hz (hpre g hg)⟩
  · have hle : args.length ≤ n := by simpa [Nat.ble_eq] using hargs
    refine ⟨rfl, by simp [hn]; omega, ?_⟩
    have key : ∀ (l : List Value) (k : Nat) (t : Nat) (v : Value), tab (argTab k l) t = some v → k ≤ t ∧ l[t - k]? = some v := by
      intro l
      induction l with
      | nil => intro k t v hv; cases hv
      | cons u l ih =>
        intro k t v hv
        rcases put_some hv with ⟨rfl, rfl⟩ | ⟨hne, hv⟩
        · exact ⟨Nat.le_refl _, by simp⟩
        · obtain ⟨h1, h2⟩ := ih (k + 1) t v hv
          refine ⟨by omega, ?_⟩
          rw [show t - k = (t - (k + 1)) + 1 by omega, List.getElem?_cons_succ]
          exact h2
    intro t v hv
    obtain ⟨_, h2⟩ := key args 0 t v hv
    rw [Nat.sub_zero] at h2
    have hlt := (List.getElem?_eq_some_iff.1 h2).1
    simp only [Array.getD_eq_getD_getElem?]
    rw [Array.getElem?_append_left (by simpa using hlt)]
    simp [h2]
theorem fn_ret {fn : Func} {w0 : World} {Z0 : Nat → Prop} {oin : List Own} {res : ι → Res} {v : Value} (i : ι) (io iz : List Nat) (hB : m.B = w0.heap.size) (hw : m.w0 = w0) (hZ : m.Z0 = Z0) (hX : m.X = oin.flatMap Own.blk)
    (hres : ∀ w a, Holds m w → Sat n S a → (results fn a.tmps).run P w = .ok v w) (hv : (res i).val = v) (ho : (res i).own = picks m.own io) (hf : (res i).fz = picks m.fz iz) (hio : io.Nodup) :
    AQ (FnPost P fn w0 Z0 oin res) .ret n m S := fun w a hm hs => by
  have hp := hm.pick io iz hio
  refine ⟨hs.def_, v, hres w a hm hs, i, by rw [hv], ?_, ?_, ?_, ?_⟩
  · have := hm.bel; rw [hB, hX, hw] at this; exact this
  · rw [ho]; exact hp.nd
  · rw [ho]; intro b hb
    rcases hp.lo b hb with h | h
    · right; rw [← hB]; exact h
    · left; rw [← hX]; exact h
  · intro Z' hZ'
    have hz : ∀ b, Mem.frz { m with own := picks m.own io, fz := picks m.fz iz } w b → Z' b := fun b hb => hZ' b hb.1 (by rw [ho]; exact hb.2.1) (fun hlt => by rw [← hZ]; exact hb.2.2 (by show b < m.B; rw [hB]; exact hlt))
    rw [ho, hf]
    exact ⟨fun o ho => o.mono hz (hp.own o ho), fun g hg => g.mono hz (hp.fz g hg)⟩
theorem res1 {fn : Func} {t : Nat} {v : Value} (hr : fn.results = #[.tmp t]) (hv : S t = some v) : ∀ w a, Holds m w → Sat n S a → (results fn a.tmps).run P w = .ok v w := fun w a _ hs => by
  rw [results_tmp hr, hs.val t v hv]
theorem res2 {fn : Func} {t u : Nat} {v x : Value} (hr : fn.results = #[.tmp t, .tmp u]) (hv : S t = some v) (hx : S u = some x) : ∀ w a, Holds m w → Sat n S a → (results fn a.tmps).run P w = .ok (.tuple #[v, x]) w := fun w a _ hs => by
  rw [results_tmp2 hr, hs.val t v hv, hs.val u x hx]
theorem aw_seq_join {x y : Code} {ι : Type _} (M : ι → Mem) (T : ι → Sl) (φ : ι → Prop) (hy : ∀ i, φ i → AW P y Q n (M i) (T i))
    (hx : AW P x (Exit.then (fun a w => ∃ i, φ i ∧ Holds (M i) w ∧ Sat n (T i) a) Q) n m S) : AW P (.seq x y) Q n m S := fun w a hm hs =>
  wp_seq (Code.wp_mono (fun e a w q => by
    cases e with
    | normal => obtain ⟨i, hp, h1, h2⟩ := q; exact hy i hp w a h1 h2
    | exit i => exact q
    | goto i => exact q
    | ret => exact q
    | panic ch => exact q
    | outgrown => exact q) (hx w a hm hs))
theorem aq_join {ι : Type _} {M : ι → Mem} {T : ι → Sl} {φ : ι → Prop} (i : ι) (hp : φ i) (h : ∀ w a, Holds m w → Sat n S a → Holds (M i) w ∧ Sat n (T i) a) :
    AQ (Exit.then (fun a w => ∃ i, φ i ∧ Holds (M i) w ∧ Sat n (T i) a) Q) .normal n m S := fun w a hm hs => ⟨i, hp, h w a hm hs⟩
theorem run_enter {f : FuncId} {fn : Func} (hf : P.funcs[f]? = some fn) (hb : fn.body.isNone = false) (hn : (fn.name == "runtime.NumGoroutine") = false) (w : World) (args : Array Value) : (callFunc f args).run P w = .ok (.enter f args) w := by
  have hn' : fn.name ≠ "runtime.NumGoroutine" := by simpa using hn
  have hb' : fn.body ≠ none := by intro e; rw [e] at hb; cases hb
  unfold callFunc
  simp [Sem.run_bind, program, Sem.run, hf, hn', hb']
def PreOk (m : Mem) (iv : List Nat) (pre : List Fact) : Prop := ∀ (w : World) (Z : Nat → Prop), Holds m w → (∀ b, m.frz w b → Z b) → (∀ j ∈ iv, ∀ o, m.own[j]? = some o → ∀ b ∈ o.blk, Z b) → ∀ g ∈ pre, g.p Z w
theorem pre_nil {iv : List Nat} : PreOk m iv [] := fun _ _ _ _ _ g hg => by cases hg
theorem pre_fz {iv : List Nat} {g : Fact} {l : List Fact} (i : Nat) (hi : m.fz[i]? = some g) (h : PreOk m iv l) : PreOk m iv (g :: l) := fun w Z hm hz hv x hx => by
  rcases List.mem_cons.1 hx with rfl | hx
  · exact x.mono hz (fz_at hm hi)
  · exact h w Z hm hz hv x hx
theorem pre_boxP {iv : List Nat} {g : Nat} {t : TypeId} {cs : List Value} {τ : Ty α} {x : α} {l : List Fact} (i : Nat) (hi : m.own[i]? = some (oBox g t cs)) (hiv : iv.contains i = true) (hrep : ∀ Z w, τ.rep Z w cs x) (h : PreOk m iv l) : PreOk m iv (fPtr τ (ptr g 0) x :: l) := fun w Z hm hz hv y hy => by
  rcases List.mem_cons.1 hy with rfl | hy
  · refine ⟨⟨g, 0, none⟩, cs, rfl, ⟨hv i (by simpa using hiv) _ hi g (by simp [oBox]), fun j u hu => ?_⟩, hrep Z w⟩
    rw [box_cell hm hi, Nat.zero_add]; exact hu
  · exact h w Z hm hz hv y hy
def FlatRes (res : ι → Res) : Prop := ∀ i, (∀ o ∈ (res i).own, ∀ Z Z' w, o.p Z w → o.p Z' w) ∧ ∀ g ∈ (res i).fz, ∀ Z Z' w, g.p Z w → g.p Z' w
theorem run_callV {f : FuncId} {args : List Operand} {tys : Array TypeId} {vs : List Value} {fn : Func} {a : Act} (ho : o.op = .call { callee := .value (.func f), args := args.toArray, argTypes := tys }) (hvs : args.map a.eval = vs) (hf : P.funcs[f]? = some fn) (hb : fn.body.isNone = false) (hn : (fn.name == "runtime.NumGoroutine") = false) (w : World) :
    (execOp a.eval o).run P w = .ok (.enter f vs.toArray) w := by
  unfold execOp
  simp only [ho]
  have h1 : (args.toArray.map a.eval) = vs.toArray := by rw [← hvs]; simp
  simp [resolve, Act.eval, Deferred.ofValue, invoke, h1, run_enter hf hb hn]
theorem run_callF {f : FuncId} {x : Operand} {args : List Operand} {tys : Array TypeId} {vs caps : List Value} {fn : Func} {a : Act} (ho : o.op = .call { callee := .value x, args := args.toArray, argTypes := tys }) (hx : a.eval x = .func (.func f) #[] caps.toArray) (hvs : args.map a.eval = vs) (hf : P.funcs[f]? = some fn) (hb : fn.body.isNone = false) (hn : (fn.name == "runtime.NumGoroutine") = false) (w : World) :
    (execOp a.eval o).run P w = .ok (.enter f (vs ++ caps).toArray) w := by
  unfold execOp
  simp only [ho]
  have h1 : (args.toArray.map a.eval) = vs.toArray := by rw [← hvs]; simp
  simp [resolve, hx, Deferred.ofValue, invoke, h1, run_enter hf hb hn]
theorem evs {a : Act} (hs : Sat n S a) : ∀ {args : List Operand} {vs : List Value}, args.map (ev S) = vs.map some → args.map a.eval = vs
  | [], [], _ => rfl
  | [], _ :: _, h => by cases h
  | _ :: _, [], h => by cases h
  | x :: args, v :: vs, h => by
    simp only [List.map_cons, List.cons.injEq] at h
    rw [List.map_cons, hs.ev h.1, evs hs h.2]
theorem al_enter {d : Nat} {f : FuncId} {vs : List Value} {pre : List Fact} {oin : List Own} {res : ι → Res} (hfn : FnOk P f vs pre oin res) (iv io ik : List Nat) (hpre : PreOk m iv pre) (hoin : picks m.own io = oin)
    (hX : ∀ j ∈ io, j ∉ iv) (hnd : (io ++ ik).Nodup) (hflat : iv = [] ∨ FlatRes res) (hrun : ∀ w a, Sat n S a → (execOp a.eval o).run P w = .ok (.enter f vs.toArray) w)
    (h : ∀ i, AL P ops rest Q n { m with own := (res i).own ++ picks m.own ik, fz := (res i).fz ++ m.fz } (put S d (res i).val)) (hdd : o.dst = some d := by rfl) (hd : Nat.blt d n = true := by rfl) (hg : wantS ops S o true = true := by rfl) : AL P ops (o :: rest) Q n m S :=
  al_step hg fun w a hm hs K hK => by
    unfold Oper.wp
    rw [hrun w a hs, Oper.upon_enter]
    let Z : Nat → Prop := fun b => m.frz w b ∨ ∃ j ∈ iv, ∃ o, m.own[j]? = some o ∧ b ∈ o.blk
    have hin : ∀ o ∈ oin, ∃ j ∈ io, m.own[j]? = some o := fun o ho => by
      rw [← hoin] at ho
      obtain ⟨j, hj, hjo⟩ := List.mem_filterMap.1 ho
      exact ⟨j, hj, hjo⟩
    have hblk : ∀ b ∈ oin.flatMap Own.blk, b ∈ m.blks ∧ ∃ j ∈ io, ∃ o, m.own[j]? = some o ∧ b ∈ o.blk := fun b hb => by
      obtain ⟨o, ho, hb⟩ := List.mem_flatMap.1 hb
      obtain ⟨j, hj, hjo⟩ := hin o ho
      exact ⟨List.mem_flatMap.2 ⟨o, List.mem_of_getElem? hjo, hb⟩, j, hj, o, hjo, hb⟩
    have hsplit := List.nodup_append.1 hnd
    have hndo : (oin.flatMap Own.blk).Nodup := by rw [← hoin]; exact picks_nodup hm.nd hsplit.1
    have hfz : ∀ b, m.frz w b → b ∉ m.blks := fun b hb => hb.2.1
    have hc := hfn w Z (fun b hb => by
        rcases hb with hb | ⟨j, _, o, ho, hb⟩
        · exact hb.1
        · exact hm.lt (List.mem_flatMap.2 ⟨o, List.mem_of_getElem? ho, hb⟩)) hndo
      (fun b hb => by
        obtain ⟨h1, j, hj, o, hjo, hbo⟩ := hblk b hb
        refine ⟨hm.lt h1, fun hz => ?_⟩
        rcases hz with hz | ⟨j', hj', o', hjo', hbo'⟩
        · exact hz.2.1 h1
        · exact nodup_flat hm.nd hjo hjo' (fun e => hX j hj (e ▸ hj')) b hbo hbo')
      (hpre w Z hm (fun b hb => .inl hb) (fun j hj o ho b hb => .inr ⟨j, hj, o, ho, hb⟩))
      (fun o ho => by
        obtain ⟨j, _, hjo⟩ := hin o ho
        exact o.mono (fun b hb => .inl hb) (own_at hm hjo))
    refine hc.mono fun e w' ⟨i, he, hbel, hnd', hlo', hz'⟩ => ?_
    subst he
    refine hK _ _ (h i w' _ ?_ (hs.put' hdd hd _))
    have hstep : Step m w (oin.flatMap Own.blk) w' := ⟨hbel.os, hbel.tape, hbel.output, hbel.size, hbel.block⟩
    have hout : ∀ b ∈ (res i).own.flatMap Own.blk, b ∈ oin.flatMap Own.blk ∨ w.heap.size ≤ b := hlo'
    have hk : ∀ o ∈ picks m.own ik, o ∈ m.own ∧ ∀ b ∈ o.blk, b ∉ oin.flatMap Own.blk := fun o ho => by
      refine ⟨picks_sub ho, fun b hb hx => ?_⟩
      obtain ⟨j, hj, hjo⟩ := List.mem_filterMap.1 ho
      obtain ⟨_, j', hj', o', hjo', hbo'⟩ := hblk b hx
      exact nodup_flat hm.nd hjo hjo' (fun e => hsplit.2.2 j' hj' j hj e.symm) b hb hbo'
    have hnew : ∀ Z' : Nat → Prop, (∀ b, m.frz w b → Z' b) → (∀ b, w.heap.size ≤ b → b < w'.heap.size → b ∉ (res i).own.flatMap Own.blk → Z' b) → (∀ o ∈ (res i).own, o.p Z' w') ∧ ∀ g ∈ (res i).fz, g.p Z' w' := by
      intro Z' h1 h2
      rcases hflat with hiv | hflat
      · refine hz' Z' (fun b hb1 hb2 hb3 => ?_)
        by_cases hlt : b < w.heap.size
        · rcases hb3 hlt with hx | ⟨j, hj, _⟩
          · exact h1 b hx
          · rw [hiv] at hj; cases hj
        · exact h2 b (by omega) hb1 hb2
      · obtain ⟨h3, h4⟩ := hz' (fun _ => True) (fun _ _ _ _ => trivial)
        exact ⟨fun o ho => (hflat i).1 o ho _ _ _ (h3 o ho), fun g hg => (hflat i).2 g hg _ _ _ (h4 g hg)⟩
    have hs1 := hm.step hstep (fun b hb => (hblk b hb).1) (picks m.own ik) (res i).own (by
        rw [List.flatMap_append, List.nodup_append]
        refine ⟨hnd', picks_nodup hm.nd hsplit.2.1, fun b hb c hc e => ?_⟩
        subst e
        obtain ⟨o, ho, hbo⟩ := List.mem_flatMap.1 hc
        rcases hout b hb with hx | hx
        · exact (hk o ho).2 b hbo hx
        · have := hm.lt (List.mem_flatMap.2 ⟨o, (hk o ho).1, hbo⟩); omega)
      hk (fun o ho => ⟨fun b hb => hout b (List.mem_flatMap.2 ⟨o, ho, hb⟩), fun Z' h1 h2 => (hnew Z' h1 h2).1 o ho⟩)
    refine hs1.adds fun g hg => ?_
    refine (hnew _ (fun b hb => ⟨Nat.lt_of_lt_of_le hb.1 hbel.size, fun hx => ?_, hb.2.2⟩) (fun b h1 h2 h3 => ⟨h2, fun hx => ?_, fun hlt => ?_⟩)).2 g hg
    · obtain ⟨o, ho, hbo⟩ := List.mem_flatMap.1 hx
      rcases List.mem_append.1 ho with ho | ho
      · rcases hout b (List.mem_flatMap.2 ⟨o, ho, hbo⟩) with hx | hx
        · exact hb.2.1 (hblk b hx).1
        · have := hb.1; omega
      · exact hb.2.1 (List.mem_flatMap.2 ⟨o, (hk o ho).1, hbo⟩)
    · obtain ⟨o, ho, hbo⟩ := List.mem_flatMap.1 hx
      rcases List.mem_append.1 ho with ho | ho
      · exact h3 (List.mem_flatMap.2 ⟨o, ho, hbo⟩)
      · have := hm.lt (List.mem_flatMap.2 ⟨o, (hk o ho).1, hbo⟩); omega
    · have := hm.size; have hlt' : b < m.B := hlt; omega
theorem al_call {d : Nat} {f : FuncId} {fn : Func} {args : List Operand} {vs : List Value} {tys : Array TypeId} {pre : List Fact} {oin : List Own} {res : ι → Res} (hfn : FnOk P f vs pre oin res) (iv io ik : List Nat) (hpre : PreOk m iv pre) (hoin : picks m.own io = oin)
    (hX : ∀ j ∈ io, j ∉ iv) (hnd : (io ++ ik).Nodup) (hflat : iv = [] ∨ FlatRes res) (hargs : args.map (ev S) = vs.map some) (hf : P.funcs[f]? = some fn) (hb : fn.body.isNone = false) (hn : (fn.name == "runtime.NumGoroutine") = false)
    (ho : o.op = .call { callee := .value (.func f), args := args.toArray, argTypes := tys })
    (h : ∀ i, AL P ops rest Q n { m with own := (res i).own ++ picks m.own ik, fz := (res i).fz ++ m.fz } (put S d (res i).val)) (hdd : o.dst = some d := by rfl) (hd : Nat.blt d n = true := by rfl) (hg : wantS ops S o true = true := by rfl) : AL P ops (o :: rest) Q n m S :=
  al_enter hfn iv io ik hpre hoin hX hnd hflat (fun w a hs => run_callV ho (evs hs hargs) hf hb hn w) h hdd hd hg
theorem al_callF {d : Nat} {f : FuncId} {fn : Func} {x : Operand} {args : List Operand} {vs caps vc : List Value} {tys : Array TypeId} {pre : List Fact} {oin : List Own} {res : ι → Res} (hfn : FnOk P f vc pre oin res) (hvc : vs ++ caps = vc) (iv io ik : List Nat) (hpre : PreOk m iv pre) (hoin : picks m.own io = oin)
    (hX : ∀ j ∈ io, j ∉ iv) (hnd : (io ++ ik).Nodup) (hflat : iv = [] ∨ FlatRes res) (hx : ev S x = some (.func (.func f) #[] caps.toArray)) (hargs : args.map (ev S) = vs.map some) (hf : P.funcs[f]? = some fn) (hb : fn.body.isNone = false) (hn : (fn.name == "runtime.NumGoroutine") = false)
    (ho : o.op = .call { callee := .value x, args := args.toArray, argTypes := tys })
    (h : ∀ i, AL P ops rest Q n { m with own := (res i).own ++ picks m.own ik, fz := (res i).fz ++ m.fz } (put S d (res i).val)) (hdd : o.dst = some d := by rfl) (hd : Nat.blt d n = true := by rfl) (hg : wantS ops S o true = true := by rfl) : AL P ops (o :: rest) Q n m S :=
  al_enter hfn iv io ik hpre hoin hX hnd hflat (fun w a hs => by subst hvc; exact run_callF ho (hs.ev hx) (evs hs hargs) hf hb hn w) h hdd hd hg
theorem flat_res0 {v : ι → Value} : FlatRes (fun i => { val := v i } : ι → Res) := fun i => ⟨by simp, by simp⟩
theorem bif_t {b : Bool} {x y : Option β} {r : β} (hb : b = true) (h : (bif b then x else y) = some r) : x = some r := by rw [hb] at h; exact h
theorem bif_f {b : Bool} {x y : Option β} {r : β} (hb : b = false) (h : (bif b then x else y) = some r) : y = some r := by rw [hb] at h; exact h
end
end Go.Proofs.Ytnnfmgobbhlbiaa.En
namespace Go.Proofs.Ytnnfmgobbhlbiaa.En
open Go.RowKit
set_option linter.unusedVariables false
set_option linter.unusedSimpArgs false
def memOf (w : World) (Z : Nat → Prop) (oin own : List Own) (fz : List Fact) : Mem := { B := w.heap.size, w0 := w, Z0 := Z, X := oin.flatMap Own.blk, own := own, fz := fz }
section
variable {P : Program} {Q : Exit → Act → World → Prop} {n : Nat} {m : Mem} {S : Sl} {ops : Array Oper} {rest : List Oper} {o : Oper} {α β ι : Type}
theorem aw_show {c : Code} (h : AW P c Q n m S) : AW P c Q n m S := h
theorem al_caseB {l : List Oper} {b : Bool} (t : Nat) (ht : S t = some (.bool b)) (h1 : b = true → AL P ops l Q n m (put S t (.bool true))) (h2 : b = false → AL P ops l Q n m (put S t (.bool false))) : AL P ops l Q n m S := fun w a hm hs => by
  have key : ∀ v, S t = some v → Sat n (put S t v) a := fun v hv => ⟨hs.def_, hs.size, fun u x hx => by
    rcases put_some hx with ⟨rfl, rfl⟩ | ⟨_, hx⟩
    · exact hs.val _ _ hv
    · exact hs.val _ _ hx⟩
  cases b with
  | true => exact h1 rfl w a hm (key _ ht)
  | false => exact h2 rfl w a hm (key _ ht)
theorem u8_rep {Z : Nat → Prop} {w : World} {n : Int} (h : 0 ≤ n ∧ n ≤ 255) : tyU8.rep Z w [.int .u8 n] (UInt8.ofNat n.toNat) := by
  show _ = [Value.int .u8 ((UInt8.ofNat n.toNat).toNat : Int)]
  have : ((UInt8.ofNat n.toNat).toNat : Int) = n := by
    rw [UInt8.toNat_ofNat']; omega
  rw [this]
theorem zeroOf_to {e : TypeId} {sz by_ : Nat} {z : Value} (h : tyOf P e = some (sz, by_, some z)) : zeroOf P e = some z := by
  obtain ⟨i, h1, h2, _, _⟩ := tyOf_parts h
  unfold zeroOf; rw [h1]; exact h2
theorem aw_body_join {c : Code} {K : Act → World → Prop} {ι : Type _} (M : ι → Mem) (T : ι → Sl) (φ : ι → Prop) (hy : ∀ i, φ i → AQ (Exit.then K Q) .normal n (M i) (T i))
    (hx : AW P c (Exit.then (fun a w => ∃ i, φ i ∧ Holds (M i) w ∧ Sat n (T i) a) Q) n m S) : AW P c (Exit.then K Q) n m S := fun w a hm hs =>
  Code.wp_mono (fun e a w q => by
    cases e with
    | normal => obtain ⟨i, hp, h1, h2⟩ := q; exact hy i hp w a h1 h2
    | exit i => exact q
    | goto i => exact q
    | ret => exact q
    | panic ch => exact q
    | outgrown => exact q) (hx w a hm hs)
def enumF : Nat → List Value → List (Nat × Value)
  | _, [] => []
  | j, v :: vs => (j, v) :: enumF (j + 1) vs
theorem foldl_put (vs : List Value) : ∀ (pre mid post : List Value) (k : Nat), mid.length = vs.length → k = 0 →
    (vs.zipIdx k).foldl (fun (cs : Array Value) (p : Value × Nat) => cs.setIfInBounds (pre.length - k + p.2) p.1) (pre ++ mid ++ post).toArray = (pre ++ vs ++ post).toArray := by
  have gen : ∀ (vs pre mid post : List Value) (k b : Nat), mid.length = vs.length → pre.length = b + k →
      (vs.zipIdx k).foldl (fun (cs : Array Value) (p : Value × Nat) => cs.setIfInBounds (b + p.2) p.1) (pre ++ mid ++ post).toArray = (pre ++ vs ++ post).toArray := by
    intro vs
    induction vs with
    | nil =>
      intro pre mid post k b hm _
      have hm0 : mid = [] := List.eq_nil_of_length_eq_zero (by simpa using hm)
      subst hm0; rfl
    | cons v vs ih =>
      intro pre mid post k b hm hp
      cases mid with
      | nil => simp at hm
      | cons u mid =>
        simp only [List.zipIdx_cons, List.foldl_cons]
        have e : (pre ++ u :: mid ++ post).toArray.setIfInBounds (b + k) v = ((pre ++ [v]) ++ mid ++ post).toArray := by
          rw [List.setIfInBounds_toArray, ← hp]
          simp
        rw [e, ih (pre ++ [v]) mid post (k + 1) b (by simpa using hm) (by simp; omega)]
        simp
  intro pre mid post k hm hk
  subst hk
  exact gen vs pre mid post 0 pre.length hm (by simp)
theorem fill_seq {sz : Nat} : ∀ (vs : List Value) (j : Nat) (pre rest : List Value), pre.length = j * sz → rest.length = vs.length * sz → (∀ v ∈ vs, v.cells.size = sz) →
    Instr.fill (fun i => some (i * sz, sz)) (pre ++ rest).toArray (enumF j vs) = some (pre ++ vs.flatMap fun v => v.cells.toList).toArray
  | [], j, pre, rest, _, hr, _ => by
    have hr0 : rest = [] := List.eq_nil_of_length_eq_zero (by simpa using hr)
    subst hr0; simp [enumF, Instr.fill]
  | v :: vs, j, pre, rest, hp, hr, hv => by
    have h1 := hv v (by simp)
    have hl : v.cells.toList.length = sz := by rw [Array.length_toList, h1]
    rw [List.length_cons, Nat.succ_mul] at hr
    unfold enumF Instr.fill
    simp only
    rw [if_neg (by simp [h1]; omega)]
    have hsp : pre ++ rest = pre ++ rest.take sz ++ rest.drop sz := by rw [List.append_assoc, List.take_append_drop]
    have h2 : (v.cells.zipIdx.foldl (fun (cs : Array Value) (p : Value × Nat) => cs.setIfInBounds (j * sz + p.2) p.1) (pre ++ rest).toArray) = (pre ++ v.cells.toList ++ rest.drop sz).toArray := by
      rw [hsp, ← hp]
      have := foldl_put v.cells.toList pre (rest.take sz) (rest.drop sz) 0 (by rw [List.length_take, hl]; omega) rfl
      simp only [Nat.sub_zero] at this
      rw [← this]
      rw [← Array.foldl_toList]
      simp
    have h3 := fill_seq vs (j + 1) (pre ++ v.cells.toList) (rest.drop sz) (by rw [List.length_append, hl, hp, Nat.succ_mul]) (by rw [List.length_drop]; omega) (fun u hu => hv u (by simp [hu]))
    have e : (fun (x : Array Value) (x_1 : Value × Nat) => match x_1 with | (c, j_1) => x.setIfInBounds (j * sz + j_1) c) = (fun (cs : Array Value) (p : Value × Nat) => cs.setIfInBounds (j * sz + p.2) p.1) := rfl
    rw [List.flatMap_cons, ← List.append_assoc, ← h3, ← h2]
theorem run_bs {t e sz by_ : Nat} {z : Value} (vs : List Value) (cells : List Value) (ht : P.underlying t = some (.slice e)) (hi : tyOf P e = some (sz, by_, some z)) (hzs : z.cells.size = sz) (hk : Nat.ble (vs.length * sz) 16777216 = true) (hbs : BS m sz vs cells) {w : World} (hm : Holds m w) :
    (Instr.buildSlice t vs.length (enumF 0 vs).toArray).run P w = .ok (.slice (some ⟨w.heap.size, 0, none⟩) vs.length vs.length) (w.alloc (.cells cells.toArray e)) := by
  obtain ⟨i, hi1, hi2, hi3, hi4⟩ := tyOf_parts hi
  have hsz : szOf P e = some sz := by unfold szOf; rw [hi1]; simp [hi3]
  have hzv := run_zeroValue' (zeroOf_to hi) w
  have hk' : ¬ 16777216 < vs.length * sz := by have := Nat.le_of_ble_eq_true hk; omega
  obtain ⟨hv', hc⟩ := hbs hm
  have key : ∀ zs : Array Value, zs.size = vs.length * sz → Instr.fill (fun i => some (i * sz, sz)) zs (enumF 0 vs) = some cells.toArray := fun zs hz => by
    have hf := fill_seq vs 0 [] zs.toList (by simp) (by simpa using hz) hv'
    rw [← hc]; simpa using hf
  unfold Instr.buildSlice
  simp only [Sem.run_bind, run_underlying ht, Result.andThen_ok, run_sizeOf' hsz, Nat.reducePow, gt_iff_lt, if_neg hk']
  by_cases h0 : vs.length * sz = 0
  · simp only [h0, if_true, Sem.run_bind, Sem.run_pure, Result.andThen_ok]
    rw [key _ (by simp [h0])]
    rfl
  · simp only [if_neg h0, Sem.run_bind, hzv, Result.andThen_ok, Sem.run_pure]
    rw [key _ (by simp)]
    rfl
theorem u8_cells {Z : Nat → Prop} {w : World} : ∀ {l : List UInt8} {cs : List Value}, RepL tyU8 Z w cs l → cs = l.map fun b => .int .u8 (b.toNat : Int)
  | [], _, h => h
  | b :: l, _, h => by
    obtain ⟨c1, c2, rfl, h1, h2⟩ := h
    rw [show c1 = [_] from h1, u8_cells h2]; rfl
theorem ov_toStr {x : Operand} {v : Value} {l : List UInt8} {s d e : TypeId} (i : Nat) (hi : m.fz[i]? = some (fDat (tyList tyU8) [v] l)) (hx : ev S x = some v) (hs' : P.underlying s = some (.slice e)) (he : P.underlying e = some (.int .u8)) (hd' : P.underlying d = some .string) (ho : o.op = .convert s d x) : OpV P o n m S (str l) := fun w a hm hs => by
  obtain ⟨A, k, c, hv, hk, hc, _, hr⟩ := fz_at hm hi
  have hv' : v = .slice A k c := by simpa using hv
  subst hv'
  unfold execOp
  simp only [ho, hs.ev hx]
  rcases hr with h0 | ⟨ad, cs, rfl, hca, hrl⟩
  · have hl : l = [] := List.eq_nil_of_length_eq_zero (by omega)
    subst hl; subst h0
    cases A with
    | none => simp [convert, run_underlying hs', run_underlying hd', run_underlying he, Conv.bytesToString, str]; rfl
    | some ad =>
      have := run_convert_bytes_back (P := P) w s d e ad c [] hs' he hd' (by simp)
      simp only [List.length_nil] at this
      simp [this, str]
  · have hcs := u8_cells hrl
    have := run_convert_bytes_back (P := P) w s d e ad c l hs' he hd' (fun j hj => by
      refine hca.2 j _ ?_
      rw [hcs, List.getElem?_map, List.getElem?_eq_getElem hj]; rfl)
    rw [← hk] at this
    simp [this, str]
theorem al_bytes {d : Nat} {x : Operand} {l : List UInt8} {s t e : TypeId} (hl : l.length ≤ 9223372036854775807) (hx : ev S x = some (str l)) (hs' : P.underlying s = some .string) (hd' : P.underlying t = some (.slice e)) (he : P.underlying e = some (.int .u8)) (ho : o.op = .convert s t x)
    (h : ∀ v, AL P ops rest Q n (m.add (fDat (tyList tyU8) [v] l)) (put S d v)) (hdd : o.dst = some d := by rfl) (hd : Nat.blt d n = true := by rfl) (hg : wantS ops S o true = true := by rfl) : AL P ops (o :: rest) Q n m S :=
  al_step hg fun w a hm hs K hK => by
    have hrun := run_bytes_of_string (P := P) w s t e ⟨l.toArray⟩ hs' hd' he
    rw [size_str] at hrun
    have hr : (execOp a.eval o).run P w = .ok (.value (.slice (some ⟨w.heap.size, 0, none⟩) l.length (grownCap w l.length 0 e))) (w.drew.alloc (.cells (bytesRow ⟨l.toArray⟩ (grownCap w l.length 0 e)) e ((bytesRow ⟨l.toArray⟩ (grownCap w l.length 0 e)).size, (bytesRow ⟨l.toArray⟩ (grownCap w l.length 0 e)).size + 1))) := by
      unfold execOp; simp only [ho, hs.ev hx]; unfold str; simp only [Sem.run_bind, hrun, Result.andThen_ok, Sem.run_pure]
    refine step_val hr ?_
    have hbel : Below w.heap.size w (w.drew.alloc (.cells (bytesRow ⟨l.toArray⟩ (grownCap w l.length 0 e)) e ((bytesRow ⟨l.toArray⟩ (grownCap w l.length 0 e)).size, (bytesRow ⟨l.toArray⟩ (grownCap w l.length 0 e)).size + 1))) := ((Below.refl _ _).drew).alloc (Nat.le_refl _) _
    refine hK _ _ (h _ _ _ ((hm.ext hbel).add ?_) (hs.put' hdd hd _))
    refine ⟨_, _, _, rfl, rfl, grownCap_ge w l.length 0 e, by unfold maxLen; omega, ?_⟩
    by_cases h0 : l.length = 0
    · exact .inl h0
    right
    refine ⟨_, l.map fun b => .int .u8 (b.toNat : Int), rfl, ⟨⟨by simp, fun hx => ?_, fun hlt => ?_⟩, fun j u hu => ?_⟩, ?_⟩
    · have := hm.lt hx; simp at this
    · have := hm.size; have hlt' : w.heap.size < m.B := hlt; omega
    · rw [add_plain, Nat.zero_add]
      have hj : j < l.length := by have := (List.getElem?_eq_some_iff.1 hu).1; simpa using this
      have hc := World.cell?_alloc_mark w.drew (bytesRow ⟨l.toArray⟩ (grownCap w l.length 0 e)) e ((bytesRow ⟨l.toArray⟩ (grownCap w l.length 0 e)).size, (bytesRow ⟨l.toArray⟩ (grownCap w l.length 0 e)).size + 1) j
      refine Eq.trans hc ?_
      have hj' : j < (⟨l.toArray⟩ : ByteArray).data.size := by simpa using hj
      rw [bytesRow_at _ _ j hj']
      rw [List.getElem?_map, List.getElem?_eq_getElem hj] at hu
      rw [← hu]
      rfl
    · clear h hK hx hrun h0 hbel hr
      generalize hZ : Mem.frz m _ = Z
      generalize hw : (w.drew.alloc _) = w'
      clear hZ hw hl
      induction l with
      | nil => rfl
      | cons b l ih => exact ⟨[_], _, rfl, rfl, ih⟩
end
end Go.Proofs.Ytnnfmgobbhlbiaa.En
namespace Go.Proofs.Ytnnfmgobbhlbiaa.En
open Go.RowKit
set_option linter.unusedVariables false
set_option linter.unusedSimpArgs false
def fEq (v t : Value) : Fact := ⟨fun _ _ => v = t, fun _ h => h, fun _ h => h⟩
def Tame (P : Program) (o : Oper) (a : Act) (w : World) (Φ : Value → World → Prop) : Prop :=
  (∃ v w', (execOp a.eval o).run P w = .ok (.value v) w' ∧ Φ v w') ∨ (∃ f args, (execOp a.eval o).run P w = .ok (.enter f args) w ∧ Calls P f args w fun e w' => ∃ v, e = .returned v ∧ Φ v w')
theorem Tame.wp {P : Program} {o : Oper} {a : Act} {w : World} {Φ : Value → World → Prop} {K : Act → World → Prop} {Q : Exit → Act → World → Prop} (h : Tame P o a w Φ) (hK : ∀ v w', Φ v w' → K (a.put o.dst v) w') : o.wp P a w K Q := by
  unfold Oper.wp
  rcases h with ⟨v, w', hr, hv⟩ | ⟨f, args, hr, hc⟩
  · rw [hr, Oper.upon_value]; exact hK v w' hv
  · rw [hr, Oper.upon_enter]
    refine hc.mono fun e w' ⟨v, he, hv⟩ => ?_
    subst he; exact hK v w' hv
abbrev Spec := List (Nat × (Value → Fact))
def FactAt (m : Mem) (L : Spec) (j : Nat) (w : World) (a : Act) : Prop := match L[j]? with | some (d, R) => (R (a.tmps.getD d undef)).p (m.frz w) w | none => True
def LocD (P : Program) (ops : Array Oper) (m0 : Mem) (L : Spec) (o : Oper) (E : List Nat) (n : Nat) (m : Mem) (S : Sl) (R : Value → Fact) : Prop := ∀ w a, Holds m0 w → Holds m w → m.frz w = m0.frz w → Sat n S a → (∀ j ∈ E, FactAt m0 L j w a) →
  if Region.wanted o (yielded ops a.tmps) then Tame P o a w (fun v w' => Below w.heap.size w w' ∧ (R v).p (m0.frz w') w') else (R undef).p (m0.frz w) w
def edgesOf (o : Oper) : List Nat := (o.after.toList.filter fun e => Region.binds .any e).map (·.on)
def LocFrom (P : Program) (ops : Array Oper) (n : Nat) (m : Mem) (S : Sl) (L : Spec) : Spec → List Oper → Prop
  | [], _ => True
  | _ :: _, [] => False
  | s :: L', o :: l => (o.dst = some s.1 ∧ LocD P ops m L o (edgesOf o) n m S s.2) ∧ LocFrom P ops n m S L L' l
theorem LocFrom.at {P : Program} {ops : Array Oper} {n : Nat} {m : Mem} {S : Sl} {L : Spec} : ∀ {L' : Spec} {l : List Oper}, LocFrom P ops n m S L L' l → ∀ {i : Nat} {s : Nat × (Value → Fact)}, L'[i]? = some s → ∃ o, l[i]? = some o ∧ o.dst = some s.1 ∧ LocD P ops m L o (edgesOf o) n m S s.2
  | [], _, _, i, s, hi => by simp at hi
  | _ :: _, [], h, _, _, _ => h.elim
  | s' :: L', o :: l, h, 0, s, hi => by simp at hi; subst hi; exact ⟨o, rfl, h.1.1, h.1.2⟩
  | s' :: L', o :: l, h, i + 1, s, hi => by rw [List.getElem?_cons_succ] at hi ⊢; exact LocFrom.at h.2 hi
def prefixA (k n : Nat) : Array Bool := ((List.replicate k true) ++ List.replicate (n - k) false).toArray
theorem Sat.put_none {n : Nat} {S : Sl} {a : Act} (h : Sat n S a) {d : Nat} (hd : S d = none) (v : Value) : Sat n S (a.put (some d) v) := by
  refine ⟨h.def_, by simp [Act.put, h.size], fun t u hu => ?_⟩
  have hne : t ≠ d := fun e => by rw [e, hd] at hu; cases hu
  have h0 := h.val t u hu
  have he : (a.tmps.setIfInBounds d v).getD t undef = a.tmps.getD t undef := by
    simp only [Array.getD_eq_getD_getElem?]
    rw [Array.getElem?_setIfInBounds_ne (fun e => hne e.symm)]
  exact he.trans h0
theorem nodup_idx {l : List Nat} (h : l.Nodup) {i j : Nat} {x : Nat} (hi : l[i]? = some x) (hj : l[j]? = some x) : i = j := by
  have h1 := (List.getElem?_eq_some_iff.1 hi)
  have h2 := (List.getElem?_eq_some_iff.1 hj)
  obtain ⟨hi', e1⟩ := h1
  obtain ⟨hj', e2⟩ := h2
  exact (List.getElem_inj h).1 (e1.trans e2.symm)
def TailOk (P : Program) (ops : Array Oper) (l : List Oper) (Q : Exit → Act → World → Prop) (m0 : Mem) (L : Spec) (n : Nat) (m : Mem) (S : Sl) : Prop := ∀ w a, Holds m0 w → Holds m w → m.frz w = m0.frz w → Sat n S a → (∀ j, FactAt m0 L j w a) → wpList P ops Q l a w
theorem set_prefix {listed : Array Bool} {k n : Nat} (hk : k ≤ n) (hs : listed.size = n) (hp : ∀ i, i < k → listed.getD i false = true) (ht : ∀ t, k ≤ t → t < n → listed.getD t true = false) : listed = prefixA k n := by
  unfold prefixA
  apply Array.ext_getElem?
  intro i
  by_cases hi : i < n
  · have hi' : i < listed.size := by omega
    rw [Array.getElem?_eq_getElem hi']
    by_cases hik : i < k
    · have := hp i hik
      simp [hi'] at this
      simp [List.getElem?_append, hik, this]
    · have := ht i (by omega) hi
      simp [hi'] at this
      rw [List.getElem?_toArray, List.getElem?_append_right (by simp; omega), List.getElem?_replicate, if_pos (by simp; omega), this]
  · rw [Array.getElem?_eq_none (by omega)]
    simp
    omega
theorem fact_ext {m : Mem} {w w' : World} (hb : Below w.heap.size w w') {f : Fact} (h : f.p (m.frz w) w) : f.p (m.frz w') w' :=
  f.mono (fun b hb' => ⟨Nat.lt_of_lt_of_le hb'.1 hb.size, hb'.2⟩) (f.keep (fun b hb' => hb.block b hb'.1) h)
def backB (l : List Oper) : Bool := (l.zipIdx.all fun p => p.1.after.all fun e => !Region.binds .any e || Nat.blt e.on p.2)
theorem backB_spec {l : List Oper} (h : backB l = true) {i : Nat} {o : Oper} (hi : l[i]? = some o) : ∀ e ∈ o.after, Region.binds .any e = true → e.on < i := fun e he hb => by
  have h1 := List.all_eq_true.1 h (o, i) (List.mem_iff_getElem?.2 ⟨i, by rw [List.getElem?_zipIdx, hi]; simp⟩)
  have h2 := Array.all_eq_true'.1 h1 e he
  simpa [hb, Nat.blt_eq] using h2
def nodupB : List Nat → Bool
  | [] => true
  | x :: l => !(l.any fun y => Nat.beq x y) && nodupB l
theorem nodupB_spec : ∀ {l : List Nat}, nodupB l = true → l.Nodup
  | [], _ => List.nodup_nil
  | x :: l, h => by
    simp only [nodupB, Bool.and_eq_true, Bool.not_eq_true', List.any_eq_false] at h
    refine List.nodup_cons.2 ⟨fun hx => ?_, nodupB_spec h.2⟩
    have := h.1 x hx
    simp at this
theorem aw_region_draw {P : Program} {Q : Exit → Act → World → Prop} {n : Nat} {m : Mem} {S : Sl} {id : Nat} {l : List Oper} (k : Nat) (L : Spec) (S' : Sl) (hm : P.follows .mixedOrders = true)
    (hB : (decide (k < l.length) && L.length == k && backB l && Region.sinkB .any l.toArray k && Region.chainB .any l.toArray k && Region.seqB .any l.toArray (l.length - k) k (prefixA k l.length)) = true)
    (hD : nodupB (L.map (·.1)) = true) (hn : (L.all fun s => Nat.blt s.1 n) = true) (hS0 : (L.all fun s => (S' s.1).isNone) = true) (hS : ∀ a, Sat n S a → Sat n S' a)
    (hloc : LocFrom P l.toArray n m S' L L l) (htail : TailOk P l.toArray (l.drop k) Q m L n m S') : AW P (.region id l.toArray true) Q n m S := fun w a hm0 hs0 => by
  simp only [Bool.and_eq_true, decide_eq_true_eq, beq_iff_eq] at hB
  obtain ⟨⟨⟨⟨⟨hkl, hLk⟩, hback⟩, hsink⟩, hchain⟩, hseq⟩ := hB
  have hD := nodupB_spec hD
  refine wp_region_any hm ?_
  have hop : ∀ i, i < k → ∃ s, L[i]? = some s := fun i hi => ⟨_, List.getElem?_eq_getElem (by omega)⟩
  have main : ∀ (f : Nat) (listed : Array Bool) (a : Act) (w : World), HeadInv .any l.toArray k listed → ((List.range k).filter fun i => !listed.getD i true).length = f → Holds m w → Sat n S' a →
      (∀ j, j < k → listed.getD j false = true → FactAt m L j w a) → wpAny P .any l.toArray Q (f + (l.length - k)) listed a w := by
    intro f
    induction f with
    | zero =>
      intro listed a w inv hf hmw hsa hfacts
      rw [Nat.zero_add]
      have hall : ∀ i, i < k → listed.getD i false = true := fun i hi => by
        have h0 : (List.range k).filter (fun i => !listed.getD i true) = [] := List.eq_nil_of_length_eq_zero hf
        have h1 := List.filter_eq_nil_iff.1 h0 i (List.mem_range.2 hi)
        have hsz : i < listed.size := by rw [inv.size]; simp; omega
        simp [hsz] at h1 ⊢; exact h1
      have hpre := set_prefix (n := l.length) (by omega) (by rw [inv.size]; simp) hall (fun t ht1 ht2 => inv.tail t ht1 (by simpa using ht2))
      have hdl : (l.drop k).length = l.length - k := by simp
      have := wpAny_of_seq (P := P) (md := .any) (Q' := Q) (ops := l.toArray) (l.drop k) k listed a w (fun j => by simp [List.getElem?_drop]) (by rw [hdl, hpre]; exact hseq) (htail w a hmw hmw rfl hsa (fun j => by
        by_cases hj : j < k
        · exact hfacts j hj (hall j hj)
        · unfold FactAt; rw [List.getElem?_eq_none (by omega)]; trivial))
      rwa [hdl] at this
    | succ f ih =>
      intro listed a w inv hf hmw hsa hfacts
      rw [show f + 1 + (l.length - k) = (f + (l.length - k)) + 1 by omega]
      obtain ⟨i0, hi0⟩ : ∃ i, i ∈ (List.range k).filter fun i => !listed.getD i true := by
        cases hq : (List.range k).filter (fun i => !listed.getD i true) with
        | nil => rw [hq] at hf; cases hf
        | cons x _ => exact ⟨x, by simp⟩
      have hi0' := List.mem_filter.1 hi0
      have hi0k : i0 < k := List.mem_range.1 hi0'.1
      have hun0 : listed.getD i0 true = false := by simpa using hi0'.2
      have hlt : ∀ t, k ≤ t → t ∉ Region.ready .any l.toArray listed := tail_waits hsink hchain (by simpa using hkl) inv _ i0 rfl hi0k hun0
      refine ⟨fun hempty => ?_, fun i hi => ?_⟩
      · exfalso
        have key : ∀ q, q < k → listed.getD q true = false → False := by
          intro q
          induction q using Nat.strongRecOn with
          | _ q ihq =>
            intro hq hunq
            obtain ⟨s, hs⟩ := hop q hq
            obtain ⟨o, ho, _, _⟩ := hloc.at hs
            have hready : q ∈ Region.ready .any l.toArray listed := mem_ready.2 ⟨hunq, o, by simpa using ho, fun e he hb => by
              have hlt' := backB_spec hback ho e he hb
              have hsz : e.on < listed.size := by rw [inv.size]; simp; omega
              cases hl : listed.getD e.on false with
              | true => rfl
              | false => exact (ihq e.on hlt' (by omega) (getD_in hsz hl)).elim⟩
            rw [hempty] at hready; cases hready
        exact key i0 hi0k hun0
      · have hik : i < k := by
          rcases Nat.lt_or_ge i k with h | h
          · exact h
          · exact absurd hi (hlt i h)
        obtain ⟨hun, o', ho', hall⟩ := mem_ready.1 hi
        obtain ⟨s, hs⟩ := hop i hik
        obtain ⟨o, ho, hd, hl⟩ := hloc.at hs
        have hoo : o' = o := by have : l.toArray[i]? = some o := by simpa using ho
                                rw [this] at ho'; exact (Option.some.inj ho').symm
        subst hoo
        have hsn : Nat.blt s.1 n = true := List.all_eq_true.1 hn s (List.mem_of_getElem? hs)
        have hs0' : S' s.1 = none := by have := List.all_eq_true.1 hS0 s (List.mem_of_getElem? hs); simpa using this
        have hedge : ∀ j ∈ edgesOf o', FactAt m L j w a := fun j hj => by
          obtain ⟨e, he, rfl⟩ := List.mem_map.1 hj
          have he' := List.mem_filter.1 he
          exact hfacts e.on (by have := backB_spec hback ho e (by simpa using he'.1) he'.2; omega) (hall e (by simpa using he'.1) he'.2)
        have hloci := hl w a hmw hmw rfl hsa hedge
        have hszi : i < listed.size := by rw [inv.size]; simp; omega
        have next : ∀ v w', Below w.heap.size w w' → (s.2 v).p (m.frz w') w' → wpAny P .any l.toArray Q (f + (l.length - k)) (listed.setIfInBounds i true) (a.put o'.dst v) w' := fun v w' hb hv => by
          rw [hd]
          have hsz2 : s.1 < a.tmps.size := by rw [hsa.size]; simpa [Nat.blt_eq] using hsn
          refine ih _ _ _ (inv.set hi hik) ?_ (hmw.ext hb) (hsa.put_none hs0' v) (fun j hj hlj => ?_)
          · have e1 : (List.range k).filter (fun q => !(listed.setIfInBounds i true).getD q true) = ((List.range k).filter fun q => !listed.getD q true).filter (fun q => decide (q ≠ i)) := by
              rw [List.filter_filter]
              apply List.filter_congr
              intro q _
              by_cases hqi : q = i
              · subst hqi; simp [hszi]
              · rw [getD_set_ne true (fun e => hqi e.symm)]; simp [hqi]
            rw [e1]
            have hmem : i ∈ (List.range k).filter fun q => !listed.getD q true := List.mem_filter.2 ⟨List.mem_range.2 hik, by simp [hun]⟩
            have hndp : ((List.range k).filter fun q => !listed.getD q true).Nodup := List.Pairwise.filter _ List.nodup_range
            have h2 := List.Nodup.erase_eq_filter hndp i
            have h3 := List.length_erase_of_mem hmem
            rw [h2] at h3
            have h4 : List.filter (fun q => decide (q ≠ i)) ((List.range k).filter fun q => !listed.getD q true) = List.filter (fun q => q != i) ((List.range k).filter fun q => !listed.getD q true) := by
              apply List.filter_congr; intro q _; by_cases hqi : q = i <;> simp [hqi]
            rw [h4, h3, hf]; rfl
          · unfold FactAt
            by_cases hji : j = i
            · subst hji
              rw [hs]
              show (s.2 ((a.tmps.setIfInBounds s.1 v).getD s.1 undef)).p (m.frz w') w'
              have : (a.tmps.setIfInBounds s.1 v).getD s.1 undef = v := by simp [Array.getD_eq_getD_getElem?, hsz2]
              rw [this]; exact hv
            · rw [getD_set_ne false (fun e => hji e.symm)] at hlj
              have h1 := hfacts j hj hlj
              unfold FactAt at h1
              cases hLj : L[j]? with
              | none => trivial
              | some sj =>
                obtain ⟨dj, Rj⟩ := sj
                rw [hLj] at h1
                simp only at h1 ⊢
                have hne : dj ≠ s.1 := fun e => hji (nodup_idx hD (x := s.1) (by rw [List.getElem?_map, hLj]; simp [e]) (by rw [List.getElem?_map, hs]; rfl))
                have : (a.tmps.setIfInBounds s.1 v).getD dj undef = a.tmps.getD dj undef := by
                  simp only [Array.getD_eq_getD_getElem?]
                  rw [Array.getElem?_setIfInBounds_ne (fun e => hne e.symm)]
                show (Rj ((a.tmps.setIfInBounds s.1 v).getD dj undef)).p (m.frz w') w'
                rw [this]
                exact fact_ext hb h1
        unfold wpOp
        rw [show l.toArray[i]? = some o' by simpa using ho]
        simp only
        split
        · rename_i hw
          rw [if_pos hw] at hloci
          exact .inl (hloci.wp fun v w' h => next v w' h.1 h.2)
        · rename_i hw
          rw [if_neg hw] at hloci
          exact next undef w (Below.refl _ _) hloci
  have inv0 : HeadInv .any l.toArray k (Array.replicate l.toArray.size false) :=
    ⟨by simp, fun j oj _ hl => (by rw [getD_replicate_false] at hl; cases hl), fun t _ ht => getD_in (by simpa using ht) (getD_replicate_false _ _)⟩
  have hdrew : Below w.heap.size w { w with drawn := w.drawn + 1 } := (Below.refl _ _).drew
  have := main k (Array.replicate l.toArray.size false) a { w with drawn := w.drawn + 1 } inv0 (by
      have : (List.range k).filter (fun i => !(Array.replicate l.toArray.size false).getD i true) = List.range k := by
        apply List.filter_eq_self.2
        intro i hi
        have hik := List.mem_range.1 hi
        have : i < l.length := by omega
        simp [this]
      rw [this]; simp) (hm0.ext hdrew) (hS a hs0) (fun j _ hl => by rw [getD_replicate_false] at hl; cases hl)
  rw [show k + (l.length - k) = l.toArray.size by simp; omega] at this
  exact this
section
variable {P : Program} {Q : Exit → Act → World → Prop} {n : Nat} {m0 m : Mem} {S : Sl} {ops : Array Oper} {o : Oper} {E : List Nat} {L : Spec} {R : Value → Fact} {α ι : Type}
theorem Sat.put_at {a : Act} (h : Sat n S a) {d : Nat} {v : Value} (hv : a.tmps.getD d undef = v) : Sat n (En.put S d v) a :=
  ⟨h.def_, h.size, fun t u hu => by
    rcases put_some hu with ⟨rfl, rfl⟩ | ⟨_, hu⟩
    · exact hv
    · exact h.val t u hu⟩
theorem ld_eq {j d : Nat} {t : Value} (hL : L[j]? = some (d, fun v => fEq v t)) (hj : E.contains j = true) (h : LocD P ops m0 L o E n m (put S d t) R) : LocD P ops m0 L o E n m S R := fun w a h0 hm hf hs hE => by
  have h1 := hE j (by simpa using hj)
  unfold FactAt at h1; rw [hL] at h1
  exact h w a h0 hm hf (hs.put_at h1) hE
theorem ld_fact {j d : Nat} {R' : Value → Fact} (hL : L[j]? = some (d, R')) (hj : E.contains j = true) (h : ∀ v, LocD P ops m0 L o E n (m.add (R' v)) (put S d v) R) : LocD P ops m0 L o E n m S R := fun w a h0 hm hf hs hE => by
  have h1 := hE j (by simpa using hj)
  unfold FactAt at h1; rw [hL] at h1
  exact h _ w a h0 (hm.add (by rw [hf]; exact h1)) hf (hs.put_at rfl) hE
theorem ld_val {v : Value} (hv : OpV P o n m S v) (hg : wantS ops S o true = true := by rfl) : LocD P ops m0 L o E n m S (fun u => fEq u v) := fun w a h0 hm hf hs hE => by
  rw [if_pos (wantS_of hs hg)]
  exact .inl ⟨v, w, hv w a hm hs, Below.refl _ _, rfl⟩
theorem ld_of (hv : OpF P o n m S R) (hg : wantS ops S o true = true := by rfl) : LocD P ops m0 L o E n m S R := fun w a h0 hm hf hs hE => by
  rw [if_pos (wantS_of hs hg)]
  obtain ⟨v, hr, hp⟩ := hv w a hm hs
  exact .inl ⟨v, w, hr, Below.refl _ _, by rw [← hf]; exact hp⟩
theorem ld_callV {f : FuncId} {fn : Func} {args : List Operand} {vs : List Value} {tys : Array TypeId} {pre : List Fact} {val : Value} (hfn : FnOk P f vs pre [] (fun _ : Unit => { val := val })) (iv : List Nat) (hpre : PreOk m iv pre) (hargs : args.map (ev S) = vs.map some) (hf : P.funcs[f]? = some fn) (hb : fn.body.isNone = false) (hnm : (fn.name == "runtime.NumGoroutine") = false)
    (ho : o.op = .call { callee := .value (.func f), args := args.toArray, argTypes := tys }) (hg : wantS ops S o true = true := by rfl) : LocD P ops m0 L o E n m S (fun u => fEq u val) := fun w a h0 hm hf' hs hE => by
  rw [if_pos (wantS_of hs hg)]
  refine .inr ⟨f, _, run_callV ho (evs hs hargs) hf hb hnm w, ?_⟩
  refine (hfn w (fun b => b < w.heap.size) (fun b h => h) (by simp) (by simp) (hpre w _ hm (fun b hb => hb.1) (fun j _ o ho b hb => hm.lt (List.mem_flatMap.2 ⟨o, List.mem_of_getElem? ho, hb⟩))) (by simp)).mono ?_
  rintro e w' ⟨i, he, hbel, _⟩
  exact ⟨val, he, (by simpa using hbel : Bel w.heap.size [] w w').below, rfl⟩
theorem alloc_below (w : World) (o : Obj) : Below w.heap.size w (w.alloc o) := (Below.refl _ _).alloc (Nat.le_refl _) _
theorem ld_buildSlice {τ : Ty α} {t e : TypeId} {k : Nat} {parts : Array (Nat × Operand)} {cs : List Value} {xs : List α} (hxs : xs.length = k) (hk : k ≤ 4096) (hpos : Nat.blt 0 τ.size = true) (hb : ∀ w a, Holds m w → Sat n S a → ∃ cells : Array Value, cells.toList = cs ∧ (Instr.buildSlice t k (parts.map fun (i, x) => (i, a.eval x))).run P w = .ok (.slice (some ⟨w.heap.size, 0, none⟩) k k) (w.alloc (.cells cells e)))
    (hrep : ∀ {w : World}, Holds m w → RepL τ (m.frz w) w cs xs) (ho : o.op = .buildSlice t k parts) (hg : wantS ops S o true = true := by rfl) : LocD P ops m0 L o E n m S (fun u => fDat (tyList τ) [u] xs) := fun w a h0 hm hf' hs hE => by
  rw [if_pos (wantS_of hs hg)]
  obtain ⟨cells, hc, hr⟩ := hb w a hm hs
  have hrp := hrep hm
  have hbel := alloc_below w (.cells cells e)
  refine .inl ⟨.slice (some ⟨w.heap.size, 0, none⟩) k k, w.alloc (.cells cells e), by unfold execOp; simp only [ho]; simp [hr], hbel, ?_⟩
  refine ⟨_, k, k, rfl, hxs.symm, Nat.le_refl _, by unfold maxLen; omega, ?_⟩
  by_cases hk0 : k = 0
  · exact .inl hk0
  right
  have hz : ∀ b, m.frz w b → m0.frz (w.alloc (.cells cells e)) b := fun b hb' => by
    rw [hf'] at hb'; exact ⟨Nat.lt_of_lt_of_le hb'.1 hbel.size, hb'.2⟩
  refine ⟨_, cs, rfl, ⟨⟨by simp, fun hx => ?_, fun hlt => ?_⟩, fun j u hu => ?_⟩, (hrp.keep (fun b hb' => hbel.block b hb'.1)).mono hz⟩
  · have := h0.lt hx; exact absurd this (by simp)
  · have := h0.size; have hlt' : w.heap.size < m0.B := hlt; omega
  · rw [add_plain, Nat.zero_add, cell_of_row _ _ _ _ _ _ (heap_alloc_new w _)]
    rw [← hc] at hu; simpa using hu
theorem tl_eq {l : List Oper} {d : Nat} {t : Value} (j : Nat) (hL : L[j]? = some (d, fun v => fEq v t)) (h : TailOk P ops l Q m0 L n m (put S d t)) : TailOk P ops l Q m0 L n m S := fun w a h0 hm hf hs hE => by
  have h1 := hE j
  unfold FactAt at h1; rw [hL] at h1
  exact h w a h0 hm hf (hs.put_at h1) hE
theorem tl_done {l : List Oper} (h : AL P ops l Q n m S) : TailOk P ops l Q m0 L n m S := fun w a h0 hm hf hs hE => h w a hm hs
end
end Go.Proofs.Ytnnfmgobbhlbiaa.En
namespace Go.Proofs.Ytnnfmgobbhlbiaa.En
open Go.RowKit Go.ChangeShapes Go.WideShapes Go.Deep
set_option linter.unusedVariables false
set_option linter.unusedSimpArgs false
section
variable {H : Type} {P : Program} {α β : Type}
def Full (w : World) (b : Nat) : Prop := b < w.heap.size
def Opn (H : Type) (P : Program) (t : TypeId) (τ : Ty α) (ok : α → Prop) : Prop := ∀ (enc : TypeId × Value → H) (w : World) (base : Nat) (spare : Nat → Bool) (held : Bool) (n : Nat) (cs : List Value) y, DataW.trod enc P w base spare held n t cs = some y → ∃ x, ok x ∧ τ.rep (Full w) w cs x
theorem RepL.mk' {τ : Ty α} {Z : Nat → Prop} {w : World} : ∀ (xs : List α) (CS : List (List Value)), CS.length = xs.length → (∀ (i : Nat) (c : List Value) (x : α), CS[i]? = some c → xs[i]? = some x → τ.rep Z w c x) → RepL τ Z w CS.flatten xs
  | [], [], _, _ => rfl
  | [], _ :: _, h, _ => by simp at h
  | _ :: _, [], h, _ => by simp at h
  | x :: xs, c :: CS, h, hr => ⟨c, CS.flatten, rfl, hr 0 c x rfl rfl, RepL.mk' xs CS (by simpa using h) (fun i c' x' h1 h2 => hr (i + 1) c' x' (by simpa using h1) (by simpa using h2))⟩
theorem exists_list {γ : Type} {p : Nat → γ → Prop} : ∀ n : Nat, (∀ i, i < n → ∃ x, p i x) → ∃ l : List γ, l.length = n ∧ ∀ (i : Nat) (x : γ), l[i]? = some x → p i x
  | 0, _ => ⟨[], rfl, by simp⟩
  | n + 1, h => by
    obtain ⟨l, hl, hp⟩ := exists_list n (fun i hi => h i (by omega))
    obtain ⟨x, hx⟩ := h n (by omega)
    refine ⟨l ++ [x], by simp [hl], fun i y hy => ?_⟩
    by_cases hi : i < n
    · rw [List.getElem?_append_left (by omega)] at hy; exact hp i y hy
    · have hlt := (List.getElem?_eq_some_iff.1 hy).1
      rw [List.length_append, hl] at hlt
      have : i = n := by simp at hlt; omega
      subst this
      rw [List.getElem?_append_right (by omega), hl] at hy
      simp at hy; subst hy; exact hx
def okL (ok : α → Prop) (xs : List α) : Prop := xs.length ≤ 9223372036854775807 ∧ ∀ x ∈ xs, ok x
theorem opn_list {t e : TypeId} {τ : Ty α} {ok : α → Prop} (hu : P.underlying t = some (.slice e)) (hsz : szOf P e = some τ.size) (hpos : Nat.blt 0 τ.size = true) (he : Opn H P e τ ok) : Opn H P t (tyList τ) (okL ok) := fun enc w base spare held n cs y h => by
  have hce : P.cellsOf e = τ.size := by
    unfold szOf at hsz; unfold Program.cellsOf; rw [hsz]; rfl
  rcases open_slice hu h with ⟨hcs, _⟩ | ⟨a, len, cap, m, n', D, Pl, hcs, hb, hle, hm, hmm, _, hx⟩
  · exact ⟨[], ⟨by simp, by simp⟩, none, 0, 0, hcs, rfl, Nat.le_refl _, Nat.zero_le _, .inl rfl⟩
  · have hmn : len ≤ m := by rw [hmm]; split <;> omega
    obtain ⟨L, hL, hp⟩ := exists_list (γ := List Value × α) (p := fun i p => w.cells? base (a.add (i * P.cellsOf e)) (P.cellsOf e) = some p.1 ∧ ok p.2 ∧ τ.rep (Full w) w p.1 p.2) len (fun i hi => by
      obtain ⟨cs', h1, h2⟩ := hx i (by omega)
      obtain ⟨x, hok, hr⟩ := he enc w base spare held _ cs' _ h2
      exact ⟨(cs', x), h1, hok, hr⟩)
    have hlen : (L.map (·.2)).length = len := by simp [hL]
    refine ⟨L.map (·.2), ⟨by rw [hlen]; unfold maxLen at hm; omega, fun x hx => ?_⟩, some a, len, cap, hcs, hlen.symm, hle, Nat.le_trans hle hm, ?_⟩
    · obtain ⟨p, hpm, rfl⟩ := List.mem_map.1 hx
      obtain ⟨i, hi⟩ := List.getElem?_of_mem hpm
      exact (hp i p hi).2.1
    · by_cases h0 : len = 0
      · exact .inl h0
      right
      have hchunk : ∀ c ∈ L.map (·.1), c.length = τ.size := fun c hc => by
        obtain ⟨p, hpm, rfl⟩ := List.mem_map.1 hc
        obtain ⟨i, hi⟩ := List.getElem?_of_mem hpm
        exact τ.len (hp i p hi).2.2
      refine ⟨a, (L.map (·.1)).flatten, rfl, ⟨?_, fun j u hj => ?_⟩, RepL.mk' _ _ (by simp) (fun i c x h1 h2 => ?_)⟩
      · obtain ⟨p, hpi⟩ : ∃ p, L[0]? = some p := ⟨L[0], List.getElem?_eq_getElem (by omega)⟩
        obtain ⟨_, hl2, hat⟩ := World.cells?_some (hp 0 p hpi).1
        have hpos' : 0 < τ.size := by simpa [Nat.blt_eq] using hpos
        have hc := hat 0 (by rw [hce]; exact hpos')
        have hlt : 0 < p.1.length := by rw [hl2, hce]; exact hpos'
        rw [List.getElem?_eq_getElem hlt] at hc
        have := World.block_lt_of_cell? w _ hc
        rw [add_block, add_block] at this
        exact this
      · -- the cell j lies in the chunk j / size
        have key : ∀ (CS : List (List Value)) (i0 : Nat), (∀ c ∈ CS, c.length = τ.size) → (∀ i c, CS[i]? = some c → ∀ r, r < τ.size → w.cell? ((a.add ((i0 + i) * τ.size)).add r) = c[r]?) → ∀ j u, CS.flatten[j]? = some u → w.cell? (a.add (i0 * τ.size + j)) = some u := by
          intro CS
          induction CS with
          | nil => intro i0 _ _ j u hj; simp at hj
          | cons c CS ih =>
            intro i0 hc hcell j u hj
            rw [List.flatten_cons] at hj
            have hcl := hc c (by simp)
            by_cases hjc : j < τ.size
            · rw [List.getElem?_append_left (by omega)] at hj
              have := hcell 0 c rfl j hjc
              rw [add_add, Nat.add_zero, hj] at this
              exact this
            · rw [List.getElem?_append_right (by omega), hcl] at hj
              have := ih (i0 + 1) (fun c' hc' => hc c' (by simp [hc'])) (fun i c' hi r hr => by
                have := hcell (i + 1) c' (by simpa using hi) r hr
                rw [show i0 + 1 + i = i0 + (i + 1) by omega]; exact this) (j - τ.size) u hj
              rw [Nat.succ_mul] at this
              rw [show i0 * τ.size + j = i0 * τ.size + τ.size + (j - τ.size) by omega]
              exact this
        have := key (L.map (·.1)) 0 hchunk (fun i c hi r hr => by
          rw [List.getElem?_map] at hi
          obtain ⟨p, hpi, rfl⟩ := Option.map_eq_some_iff.1 hi
          obtain ⟨_, _, hat⟩ := World.cells?_some (hp i p hpi).1
          rw [hce] at hat
          rw [Nat.zero_add]
          exact hat r hr) j u hj
        rw [Nat.zero_mul, Nat.zero_add] at this
        exact this
      · rw [List.getElem?_map] at h1 h2
        obtain ⟨p, hpi, rfl⟩ := Option.map_eq_some_iff.1 h1
        obtain ⟨q, hqi, rfl⟩ := Option.map_eq_some_iff.1 h2
        rw [hpi] at hqi
        cases hqi
        exact (hp i p hpi).2.2
variable {w : World} {base : Nat} {spare : Nat → Bool} {held : Bool} {enc : TypeId × Value → H} {v : Value} {d : DataW H} {ps : List MemPlace} {r : Reach} {b0 : Nat} {t : TypeId}
theorem par_str (ht : P.underlying t = some .string) (hval : Value.okWide P w r b0 t v) (hd : DataW.Trod enc P w base spare held t v d ps) : ∃ l : List UInt8, v = str l ∧ d = .lit (.string l) ∧ ps = [] ∧ l.length ≤ 9223372036854775807 := by
  obtain ⟨s, rfl⟩ := okWide_string ht hval
  obtain ⟨fuel, hf⟩ := hd
  obtain ⟨s', h, hx, hs⟩ := DataW.trod_string ht hf
  simp [Value.cells] at h
  subst h
  simp at hx
  exact ⟨s.data.toList, by simp [str], hx.1, hx.2, by unfold maxLen at hs; simpa using hs⟩
theorem par_slice {e : TypeId} {τ : Ty α} {ok : List α → Prop} (ht : P.underlying t = some (.slice e)) (ho : Opn H P t (tyList τ) ok) (hval : Value.okWide P w r b0 t v) (hd : DataW.Trod enc P w base spare held t v d ps) : ∃ xs, ok xs ∧ (tyList τ).rep (Full w) w [v] xs := by
  obtain ⟨A, l, c, rfl⟩ := okWide_slice ht hval
  obtain ⟨fuel, hf⟩ := hd
  exact ho enc w base spare held fuel _ _ hf
theorem par_agg {τ : Ty α} {ok : α → Prop} {dd : TypeDesc} (ht : P.underlying t = some dd) (hdd : isAggD dd = true) (ho : Opn H P t τ ok) (hval : Value.okWide P w r b0 t v) (hd : DataW.Trod enc P w base spare held t v d ps) : ∃ cs x, v = ag cs ∧ ok x ∧ τ.rep (Full w) w cs x := by
  have : ∃ cs : Array Value, v = .agg cs := by
    unfold Value.okWide at hval
    rw [ht] at hval
    cases dd <;> simp [isAggD] at hdd <;> (obtain ⟨cs, h, _⟩ := hval; exact ⟨cs, h⟩)
  obtain ⟨cs, rfl⟩ := this
  obtain ⟨fuel, hf⟩ := hd
  obtain ⟨x, h1, h2⟩ := ho enc w base spare held fuel _ _ hf
  exact ⟨cs.toList, x, by simp [ag], h1, h2⟩
theorem law_call {f : FuncId} {args : List Value} {pre : List Fact} {W : World} (h : FnOk P f args pre [] (fun _ : Unit => { val := .bool true })) (hpre : ∀ g ∈ pre, g.p (Full W) W) :
    Calls P f args.toArray W fun e w' => e = .returned (.bool true) ∧ Below W.heap.size W w' :=
  (h W (Full W) (fun b h => h) (by simp) (by simp) hpre (by simp)).mono (by
    rintro e w' ⟨i, he, hbel, _⟩
    exact ⟨he, (by simpa using hbel : Bel W.heap.size [] W w').below⟩)
theorem all_nil : ∀ g ∈ ([] : List Fact), g.p (Full w) w := by simp
theorem all_cons {g : Fact} {l : List Fact} (h : g.p (Full w) w) (hl : ∀ g ∈ l, g.p (Full w) w) : ∀ g' ∈ g :: l, g'.p (Full w) w := by
  intro g' hg'
  rcases List.mem_cons.1 hg' with rfl | hg'
  · exact h
  · exact hl g' hg'
end
end Go.Proofs.Ytnnfmgobbhlbiaa.En
namespace Go.Proofs.Ytnnfmgobbhlbiaa.En
open Go.RowKit
set_option linter.unusedVariables false
set_option linter.unusedSimpArgs false
section
variable {P : Program} {Q : Exit → Act → World → Prop} {n : Nat} {m : Mem} {S : Sl} {ops : Array Oper} {rest : List Oper} {o : Oper} {α β ι : Type}
def oneRes (tmps : Array Value) : ResultVar → Sem Value
  | .tmp t => pure (tmps.getD t undef)
  | .cell a t => do loadVar t (← asAddr (tmps.getD a undef))
def RL (P : Program) (n : Nat) (m : Mem) (S : Sl) (rs : List ResultVar) (vs : List Value) : Prop :=
  ∀ w a, Holds m w → Sat n S a → (rs.mapM (oneRes a.tmps)).run P w = .ok vs w
theorem resN : RL P n m S [] [] := fun w a _ _ => by simp
theorem resB {c t g off k : Nat} {i : Nat} {et : TypeId} {cs : List Value} {v : Value} {d : TypeDesc} {rs : List ResultVar} {vs : List Value} (hi : m.own[i]? = some (oBox g et cs)) (hx : S c = some (ptr g off)) (hu : P.underlying t = some d) (hsz : szOf P t = some k)
    (h1 : (isAggD d || Nat.beq k 1) = true) (hl : ((cs.drop off).take k).length = k) (hv : mk d ((cs.drop off).take k) = v) (h : RL P n m S rs vs) : RL P n m S (.cell c t :: rs) (v :: vs) := fun w a hm hs => by
  have hr := run_loadVar' hu hsz w ⟨g, off, none⟩ ((cs.drop off).take k) hl (fun hd => by rw [hd] at h1; exact Nat.eq_of_beq_eq_true (by simpa using h1)) (fun j u hj => by
    rw [box_cell hm hi]
    rw [List.getElem?_take] at hj
    split at hj
    · rw [List.getElem?_drop] at hj; exact hj
    · cases hj)
  rw [List.mapM_cons]
  have hp : (asAddr (ptr g off)).run P w = .ok ⟨g, off, none⟩ w := by simp [asAddr, ptr]
  simp [oneRes, Sem.run_bind, hs.val c _ hx, hp, hr, hv, h w a hm hs]
def tupOf : List Value → Value
  | [v] => v
  | vs => .tuple vs.toArray
theorem resC {fn : Func} {rs : List ResultVar} {vs : List Value} {v : Value} (hr : fn.results = rs.toArray) (h : RL P n m S rs vs) (hv : tupOf vs = v) : ∀ w a, Holds m w → Sat n S a → (results fn a.tmps).run P w = .ok v w := fun w a hm hs => by
  have hq := h w a hm hs
  have he : results fn a.tmps = (do let vs ← fn.results.mapM (oneRes a.tmps); pure (if h : vs.size = 1 then vs[0] else .tuple vs)) := rfl
  rw [he, hr, List.mapM_toArray]
  simp only [Sem.run_bind, map_eq_pure_bind, hq, Result.andThen_ok, Sem.run_pure]
  rw [← hv]
  match vs with
  | [] => rfl
  | [x] => rfl
  | x :: y :: zs => simp [tupOf]
end
end Go.Proofs.Ytnnfmgobbhlbiaa.En
namespace Go.Proofs.Ytnnfmgobbhlbiaa.En
open Go.RowKit
set_option linter.unusedVariables false
set_option linter.unusedSimpArgs false
section
variable {P : Program} {Q : Exit → Act → World → Prop} {n : Nat} {m : Mem} {S : Sl} {ops : Array Oper} {rest : List Oper} {o : Oper} {α β ι : Type}
theorem Holds.freezeB {w : World} (hm : Holds m w) {i g : Nat} {t : TypeId} {cs : List Value} {τ : Ty α} {x : α} (hi : m.own[i]? = some (oBox g t cs)) (hX : m.X = []) (hrep : ∀ Z w, τ.rep Z w cs x) :
    Holds (Mem.add { m with own := m.own.take i ++ m.own.drop (i + 1) } (fPtr τ (ptr g 0) x)) w := by
  have hsub : ∀ x ∈ m.own.take i ++ m.own.drop (i + 1), x ∈ m.own := fun x hx => by
    rcases List.mem_append.1 hx with hx | hx
    · exact List.mem_of_mem_take hx
    · exact List.mem_of_mem_drop hx
  have hmo : oBox g t cs ∈ m.own := List.mem_of_getElem? hi
  have hnd0 : ((oBox g t cs :: (m.own.take i ++ m.own.drop (i + 1))).flatMap Own.blk).Nodup := (perm_get hi).nodup_iff.1 hm.nd
  rw [List.flatMap_cons, List.nodup_append] at hnd0
  have h1 := hm.reown (m.own.take i ++ m.own.drop (i + 1)) hsub hnd0.2.1
  have hg : g ∈ (oBox g t cs).blk := by simp [oBox]
  refine h1.add ⟨⟨g, 0, none⟩, cs, rfl, ⟨⟨?_, fun hx => ?_, fun hlt => ?_⟩, fun j u hu => ?_⟩, hrep _ _⟩
  · exact (oBox g t cs).lt (own_at hm hi) g hg
  · exact hnd0.2.2 g hg g hx rfl
  · rcases hm.lo g (List.mem_flatMap.2 ⟨_, hmo, hg⟩) with h | h
    · have hlt' : g < m.B := hlt; omega
    · rw [hX] at h; simp at h
  · rw [box_cell hm hi, Nat.zero_add]; exact hu
theorem aw_freezeB {c : Code} (i : Nat) {g : Nat} {t : TypeId} {cs : List Value} {τ : Ty α} (x : α) (hi : m.own[i]? = some (oBox g t cs)) (hX : m.X = []) (hrep : ∀ Z w, τ.rep Z w cs x)
    (h : AW P c Q n (Mem.add { m with own := m.own.take i ++ m.own.drop (i + 1) } (fPtr τ (ptr g 0) x)) S) : AW P c Q n m S := fun w a hm hs => h w a (hm.freezeB hi hX hrep) hs
theorem ptr_list {β : Type} {τA : Ty β} {τ : Ty α} {v : Value} {x : β} {xs : List α} {i : Nat} (hi : m.fz[i]? = some (fPtr τA v x)) (hL : ∀ {Z w cs}, τA.rep Z w cs x → RepL τ Z w cs xs) (hmx : Nat.ble xs.length 100000 = true) {w : World} (hm : Holds m w) :
    ∃ ad, v = .pointer (some ad) ∧ (tyList τ).rep (m.frz w) w [.slice (some ad) xs.length xs.length] xs := by
  obtain ⟨ad, cs, rfl, hca, hrep⟩ := fz_at hm hi
  have := Nat.le_of_ble_eq_true hmx
  exact ⟨ad, rfl, _, _, _, rfl, rfl, Nat.le_refl _, by unfold maxLen; omega, .inr ⟨ad, cs, rfl, hca, hL hrep⟩⟩
theorem of_sliceP {β : Type} {τA : Ty β} {τ : Ty α} {v : Value} {x : β} {xs : List α} (i : Nat) {t e : TypeId} {len : Nat} {y : Operand} (hL : ∀ {Z w cs}, τA.rep Z w cs x → RepL τ Z w cs xs) (hlen : xs.length = len) (hmx : Nat.ble xs.length 100000 = true) (hi : m.fz[i]? = some (fPtr τA v x)) (hx : ev S y = some v) (ht : P.underlying t = some (.array len e)) (hsz : szOf P e = some τ.size) (ho : o.op = .slice t y none none none) : OpF P o n m S (fun u => fDat (tyList τ) [u] xs) := fun w a hm hs => by
  obtain ⟨ad, rfl, hr⟩ := ptr_list hi hL hmx hm
  have hsd := slice_dat (l := 0) (h := xs.length) hr (by omega) (Nat.le_refl _)
  rw [List.take_length, List.drop_zero] at hsd
  refine ⟨_, ?_, hsd⟩
  subst hlen
  unfold execOp
  simp only [ho, hs.ev hx, Option.map_none]
  simp [Instr.sliceAt, Instr.sureAddr, Instr.sliceBounds, Instr.sliceBound, asIntOf, Sem.run_bind, run_underlying ht, run_sizeOf' hsz]
  split <;> rfl
theorem co_all {l : List Value} (h : ∀ u ∈ l, u.oneCell' = true) : CO m l := fun _ => h
theorem ones_map {enc : α → Value} {xs : List α} (h : ∀ x, (enc x).oneCell' = true) : ∀ u ∈ xs.map enc, u.oneCell' = true := fun u hu => by
  obtain ⟨x, _, rfl⟩ := List.mem_map.1 hu; exact h x
end
end Go.Proofs.Ytnnfmgobbhlbiaa.En
namespace Go.Proofs.Ytnnfmgobbhlbiaa
open Go.RowKit
set_option linter.unusedVariables false
set_option linter.unusedSimpArgs false
theorem add_block (a : Addr) (n : Nat) : (a.add n).block = a.block := by unfold Addr.add; split <;> rfl
theorem add_plain (g o n : Nat) : (⟨g, o, none⟩ : Addr).add n = ⟨g, o + n, none⟩ := by unfold Addr.add; split <;> simp_all
theorem add_add (a : Addr) (i j : Nat) : (a.add i).add j = a.add (i + j) := by
  unfold Addr.add
  by_cases hi : i = 0 <;> by_cases hj : j = 0 <;> simp [hi, hj, Nat.add_assoc]
def Rd (w : World) (B sz : Nat) (A : Option Addr) (n : Nat) (xs : List Value) : Prop :=
  xs.length = n * sz ∧ ∀ j u, xs[j]? = some u → ∃ ad, A = some ad ∧ ad.block < B ∧ w.cell? (ad.add j) = some u
section
variable {w w' : World} {B B' sz n : Nat} {A : Option Addr} {xs : List Value}
theorem Rd.at (h : Rd w B sz A n xs) {k : Nat} {u : Value} (hk : xs[k]? = some u) : ∃ ad, A = some ad ∧ ad.block < B ∧ w.cell? (ad.add k) = some u := h.2 k u hk
theorem Rd.keep (h : Rd w B sz A n xs) (hk : ∀ p : Addr, p.block < B → w'.cell? p = w.cell? p) : Rd w' B sz A n xs :=
  ⟨h.1, fun j u hu => by
    obtain ⟨ad, e, hb, hc⟩ := h.2 j u hu
    exact ⟨ad, e, hb, (hk _ (by rw [add_block]; exact hb)).trans hc⟩⟩
theorem Rd.below (h : Rd w B sz A n xs) (hb : Below B' w w') (hB : B ≤ B') : Rd w' B sz A n xs := h.keep fun _ hp => hb.cell (by omega)
theorem Rd.nil : Rd w B sz A 0 [] := ⟨by simp, fun j u hu => by simp at hu⟩
theorem Rd.lit (w : World) (cs : Array Value) (e : TypeId) (fr : Nat × Nat) (n : Nat) (xs : List Value) (hx : ∀ (j : Nat) (u : Value), xs[j]? = some u → cs.toList[j]? = some u) (hl : xs.length = n * sz) (hB : w.heap.size < B) :
    Rd (w.alloc (.cells cs e fr)) B sz (some ⟨w.heap.size, 0, none⟩) n xs :=
  ⟨hl, fun j u hu => ⟨_, rfl, hB, by
    rw [add_plain, Nat.zero_add, cell_of_row _ _ j cs e fr (heap_alloc_new w _)]
    simpa using hx j u hu⟩⟩
end
def Blk (w : World) (g : Nat) (t : TypeId) (cs : Array Value) : Prop := w.heap[g]? = some (.cells cs t (0, 0))
section
variable {w w' : World} {g : Nat} {t : TypeId} {cs : Array Value}
theorem Blk.lt (h : Blk w g t cs) : g < w.heap.size := by
  rcases Nat.lt_or_ge g w.heap.size with hlt | hge
  · exact hlt
  · unfold Blk at h; rw [Array.getElem?_eq_none hge] at h; cases h
theorem Blk.cell (h : Blk w g t cs) (i : Nat) : w.cell? ⟨g, i, none⟩ = cs[i]? := cell_of_row w g i cs t (0, 0) h
theorem Blk.new (w : World) (t : TypeId) (cs : Array Value) : Blk (w.alloc (.cells cs t)) w.heap.size t cs := heap_alloc_new w _
theorem Blk.drew (h : Blk w g t cs) : Blk w.drew g t cs := h
theorem Blk.alloc (h : Blk w g t cs) (o : Obj) : Blk (w.alloc o) g t cs := (Below.heap_alloc w o g h.lt).trans h
theorem Blk.set (h : Blk w g t cs) (i : Nat) (u : Value) : Blk (w.setCell ⟨g, i, none⟩ u) g t (cs.setIfInBounds i u) := by
  unfold Blk at h ⊢
  simp [World.setCell, Array.getElem?_modify, h]
theorem Blk.below {B : Nat} (h : Blk w g t cs) (hb : Below B w w') (hg : g < B) : Blk w' g t cs := (hb.block g hg).trans h
end
def byteCells (s : ByteArray) : List Value := s.data.toList.map fun b => .int .u8 b.toNat
theorem Rd.drew {w : World} {B sz n : Nat} {A : Option Addr} {xs : List Value} (h : Rd w B sz A n xs) : Rd w.drew B sz A n xs := h
theorem Blk.setRow {w : World} {g : Nat} {t : TypeId} {old : Array Value} (h : Blk w g t old) (cs : Array Value) : Blk (w.setRow g cs) g t cs := setRow_heap w g old cs t (0, 0) h
def bAt (s : ByteArray) (m : Nat) : Nat := (s.data.toList.getD m 0).toNat
theorem Rd.chunk {w : World} {B sz n : Nat} {A : Option Addr} {xs : List Value} (h : Rd w B sz A n xs) (hsz : 0 < sz) {k : Nat} (hk : k < n) :
    ∃ ad, A = some ad ∧ ad.block < B ∧ ∀ j u, ((xs.drop (k * sz)).take sz)[j]? = some u → w.cell? ((ad.add (k * sz)).add j) = some u := by
  have hlen := h.1
  have hlt : k * sz < xs.length := by
    rw [hlen]; exact Nat.mul_lt_mul_of_pos_right hk hsz
  obtain ⟨ad, e, hb, _⟩ := h.2 (k * sz) xs[k * sz] (List.getElem?_eq_getElem hlt)
  refine ⟨ad, e, hb, fun j u hu => ?_⟩
  rw [List.getElem?_take] at hu
  split at hu
  · rw [List.getElem?_drop] at hu
    obtain ⟨ad', e', _, hc⟩ := h.2 _ u hu
    rw [e] at e'
    injection e' with e'
    subst e'
    rw [add_add]
    exact hc
  · cases hu
section
variable {w w' : World} {base : Nat} {e : TypeId} {sz n : Nat} {v : Value} {xs : List Value}
end
end Go.Proofs.Ytnnfmgobbhlbiaa
namespace Go.Proofs.Ytnnfmgobbhlbiaa
open Go.RowKit
set_option linter.unusedVariables false
set_option linter.unusedSimpArgs false
def fieldLeaves (L : TypeId → Option (List TypeId)) : List Field → Nat → Option (List TypeId)
  | [], _ => some []
  | f :: fs, off => if f.name != "_" && f.offset == off then
      match L f.type with
      | some l => (fieldLeaves L fs (off + l.length)).map (l ++ ·)
      | none => none
    else none
def leaves (P : Program) : Nat → TypeId → Option (List TypeId)
  | 0, _ => none
  | d + 1, t => match P.underlying t with
    | some (.int _) => if P.cellsOf t = 1 then some [t] else none
    | some .bool => if P.cellsOf t = 1 then some [t] else none
    | some .string => if P.cellsOf t = 1 then some [t] else none
    | some (.struct fs) => match fieldLeaves (leaves P d) fs.toList 0 with
      | some l => if P.cellsOf t = l.length then some l else none
      | none => none
    | some (.array n e) => match leaves P d e with
      | some l => if P.cellsOf t = n * l.length then some (List.replicate n l).flatten else none
      | none => none
    | _ => if P.cellsOf t = 1 then some [t] else none
def litOf : Value → Lit
  | .bool b => .bool b
  | .int k n => .int k n
  | .string s => .string s.data.toList
  | _ => .bool false
def leafOk (P : Program) (t : TypeId) (v : Value) : Bool :=
  match P.underlying t, v with
  | some .bool, .bool _ => true
  | some (.int q), .int q' n => decide (q' = q) && (Lit.int q n).wf
  | some .string, .string s => decide (s.size ≤ maxLen)
  | _, _ => false
def fits (P : Program) : List TypeId → List Value → Bool
  | [], [] => true
  | t :: ts, v :: vs => leafOk P t v && fits P ts vs
  | _, _ => false
theorem fits_len {P : Program} : ∀ {ts : List TypeId} {vs : List Value}, fits P ts vs = true → vs.length = ts.length
  | [], [], _ => rfl
  | [], v :: vs, h => by simp [fits] at h
  | t :: ts, [], h => by simp [fits] at h
  | t :: ts, v :: vs, h => by
    simp only [fits, Bool.and_eq_true] at h
    simp [fits_len h.2]
theorem fits_append {P : Program} : ∀ {ts us : List TypeId} {vs : List Value}, fits P (ts ++ us) vs = true → fits P ts (vs.take ts.length) = true ∧ fits P us (vs.drop ts.length) = true
  | [], us, vs, h => by simpa [fits] using h
  | t :: ts, us, [], h => by simp [fits] at h
  | t :: ts, us, v :: vs, h => by
    simp only [List.cons_append, fits, Bool.and_eq_true] at h
    have := fits_append h.2
    simp [fits, h.1, this.1, this.2]
theorem keyLits_leaf {P : Program} {d : Nat} {t : TypeId} {v : Value} (h : leafOk P t v = true) : P.keyLits (d + 1) t [v] = some [litOf v] := by
  unfold leafOk at h
  unfold Program.keyLits
  split at h
  · rename_i hu; simp [hu, litOf]
  · rename_i q q' n hu
    simp only [Bool.and_eq_true, decide_eq_true_eq] at h
    simp [hu, litOf, h.1, h.2]
  · rename_i s hu
    simp only [decide_eq_true_eq] at h
    simp [hu, litOf, h]
  · cases h
theorem leaves_cells {P : Program} {d : Nat} {t : TypeId} {ls : List TypeId} (h : leaves P d t = some ls) : P.cellsOf t = ls.length := by
  cases d with
  | zero => simp [leaves] at h
  | succ d =>
    unfold leaves at h
    split at h
    · split at h <;> simp_all
      subst h; rfl
    · split at h <;> simp_all
      subst h; rfl
    · split at h <;> simp_all
      subst h; rfl
    · split at h
      · split at h
        · cases h; assumption
        · cases h
      · cases h
    · split at h
      · split at h
        · cases h
          rename_i hc
          rw [hc]; simp
        · cases h
      · cases h
    · split at h <;> simp_all
      subst h; rfl
theorem mapM_cons_opt {α β : Type} (f : α → Option β) (a : α) (l : List α) (b : β) (bs : List β) (h : f a = some b) (hl : l.mapM f = some bs) : (a :: l).mapM f = some (b :: bs) := by
  rw [List.mapM_cons, h, hl]; rfl
theorem mapM_range {β : Type} (f : Nat → Option β) (g : Nat → β) (n : Nat) (h : ∀ i, i < n → f i = some (g i)) : (List.range n).mapM f = some ((List.range n).map g) := by
  have aux : ∀ l : List Nat, (∀ i ∈ l, f i = some (g i)) → l.mapM f = some (l.map g) := by
    intro l
    induction l with
    | nil => intro _; rfl
    | cons a l ih => intro h; exact mapM_cons_opt f a l _ _ (h a (by simp)) (ih fun i hi => h i (by simp [hi]))
  exact aux _ fun i hi => h i (by simpa using hi)
theorem fits_flat {P : Program} (l : List TypeId) : ∀ (n : Nat) (cs : List Value), fits P (List.replicate n l).flatten cs = true → ∀ i, i < n → fits P l ((cs.drop (i * l.length)).take l.length) = true
  | 0, cs, _, i, hi => by omega
  | n + 1, cs, h, i, hi => by
    rw [List.replicate_succ, List.flatten_cons] at h
    obtain ⟨h1, h2⟩ := fits_append h
    cases i with
    | zero => simpa using h1
    | succ i =>
      have := fits_flat l n _ h2 i (by omega)
      rw [List.drop_drop] at this
      rw [Nat.succ_mul, Nat.add_comm]
      exact this
theorem flatten_chunks {α : Type} (c : Nat) : ∀ (n : Nat) (l : List α), l.length = n * c → ((List.range n).map fun i => (l.drop (i * c)).take c).flatten = l
  | 0, l, h => by simp at h; simp [h]
  | n + 1, l, h => by
    rw [List.range_succ_eq_map]
    simp only [List.map_cons, List.map_map, List.flatten_cons, Nat.zero_mul, List.drop_zero]
    have h2 := flatten_chunks c n (l.drop c) (by rw [List.length_drop, h, Nat.succ_mul]; omega)
    have h3 : ((fun i => List.take c (List.drop (i * c) l)) ∘ Nat.succ) = fun i => ((l.drop c).drop (i * c)).take c := by
      funext i
      simp only [Function.comp, List.drop_drop]
      rw [Nat.succ_mul, Nat.add_comm]
    rw [h3, h2, List.take_append_drop]
theorem keyLits_fields {P : Program} {d : Nat} (ih : ∀ (t : TypeId) (ls : List TypeId) (cs : List Value), leaves P d t = some ls → fits P ls cs = true → P.keyLits d t cs = some (cs.map litOf)) :
    ∀ (fs : List Field) (off : Nat) (l : List TypeId) (cs : List Value), fieldLeaves (leaves P d) fs off = some l → fits P l (cs.drop off) = true →
      (fs.all (·.name != "_") = true) ∧ ∃ lss, (fs.mapM fun f => P.keyLits d f.type ((cs.drop f.offset).take (P.cellsOf f.type))) = some lss ∧ lss.flatten = (cs.drop off).map litOf
  | [], off, l, cs, h, hf => by
    simp only [fieldLeaves, Option.some.injEq] at h
    subst h
    have : cs.drop off = [] := by
      cases hc : cs.drop off with
      | nil => rfl
      | cons v vs => rw [hc] at hf; simp [fits] at hf
    exact ⟨rfl, [], rfl, by rw [this]; rfl⟩
  | f :: fs, off, l, cs, h, hf => by
    unfold fieldLeaves at h
    split at h
    · rename_i hc
      simp only [Bool.and_eq_true, beq_iff_eq] at hc
      split at h
      · rename_i l0 hl0
        simp only [Option.map_eq_some_iff] at h
        obtain ⟨l1, hl1, rfl⟩ := h
        obtain ⟨h1, h2⟩ := fits_append hf
        rw [List.drop_drop] at h2
        obtain ⟨ha, lss, hm, hfl⟩ := keyLits_fields ih fs (off + l0.length) l1 cs hl1 h2
        have hcell := leaves_cells hl0
        refine ⟨by simp [hc.1, ha], _, mapM_cons_opt _ f fs _ lss (by rw [hc.2, hcell]; exact ih f.type l0 _ hl0 h1) hm, ?_⟩
        rw [List.flatten_cons, hfl, ← List.map_append]
        congr 1
        rw [← List.drop_drop, List.take_append_drop]
      · cases h
    · cases h
theorem keyLits_leaves {P : Program} : ∀ (d : Nat) (t : TypeId) (ls : List TypeId) (cs : List Value), leaves P d t = some ls → fits P ls cs = true → P.keyLits d t cs = some (cs.map litOf)
  | 0, t, ls, cs, h, _ => by simp [leaves] at h
  | d + 1, t, ls, cs, h, hf => by
    have ih := keyLits_leaves (P := P) d
    have hcell := leaves_cells h
    have hlen := fits_len hf
    have leafc : ls = [t] → P.keyLits (d + 1) t cs = some (cs.map litOf) := by
      rintro rfl
      match cs, hlen with
      | [v], _ =>
        simp only [fits, Bool.and_true] at hf
        exact keyLits_leaf hf
    unfold leaves at h
    split at h
    · split at h
      · cases h; exact leafc rfl
      · cases h
    · split at h
      · cases h; exact leafc rfl
      · cases h
    · split at h
      · cases h; exact leafc rfl
      · cases h
    · rename_i fs hu
      split at h
      · rename_i l hl
        split at h
        · cases h
          rename_i hc
          obtain ⟨ha, lss, hm, hfl⟩ := keyLits_fields ih fs.toList 0 _ cs hl (by simpa using hf)
          have hall : fs.all (·.name != "_") = true := by rw [← Array.all_toList]; exact ha
          have hlc : cs.length = P.cellsOf t := by rw [hlen, hc]
          unfold Program.keyLits
          simp only [hu, hlc, hall, and_self, if_true]
          rw [hm]
          simpa using hfl
        · cases h
      · cases h
    · rename_i n e hu
      split at h
      · rename_i l hl
        split at h
        · cases h
          rename_i hc
          have hce := leaves_cells hl
          have hlc : cs.length = P.cellsOf t := by rw [hlen, hcell]
          unfold Program.keyLits
          simp only [hu, hlc, if_true]
          rw [mapM_range _ (fun i => ((cs.drop (i * P.cellsOf e)).take (P.cellsOf e)).map litOf) n (fun i hi => by
            rw [hce]
            exact ih e l _ hl (fits_flat l n cs hf i hi))]
          simp only [Option.map_some, Option.some.injEq]
          have hcs : cs.length = n * P.cellsOf e := by rw [hlc, hc, hce]
          have := congrArg (List.map litOf) (flatten_chunks (P.cellsOf e) n cs hcs)
          rw [List.map_flatten, List.map_map] at this
          exact this
        · cases h
      · cases h
    · split at h
      · cases h; exact leafc rfl
      · cases h
theorem leaf_inj {P : Program} {t : TypeId} {v u : Value} (h1 : leafOk P t v = true) (h2 : leafOk P t u = true) : litOf v = litOf u ↔ v = u := by
  constructor
  · intro e
    unfold leafOk at h1 h2
    cases v <;> cases u <;> simp_all [litOf]
    all_goals first
      | (exact ByteArray.ext (Array.toList_inj.1 e))
      | (exact ByteArray.ext e)
      | (split at h1 <;> simp_all; try exact ByteArray.ext (by assumption))
  · intro e; rw [e]
theorem litOf_inj {P : Program} : ∀ {ls : List TypeId} {xs ys : List Value}, fits P ls xs = true → fits P ls ys = true → (xs.map litOf = ys.map litOf ↔ xs = ys)
  | [], [], [], _, _ => by simp
  | [], v :: vs, _, h, _ => by simp [fits] at h
  | [], _, v :: vs, _, h => by simp [fits] at h
  | t :: ts, [], _, h, _ => by simp [fits] at h
  | t :: ts, _, [], _, h => by simp [fits] at h
  | t :: ts, v :: vs, u :: us, h, h' => by
    simp only [fits, Bool.and_eq_true] at h h'
    have ih := litOf_inj h.2 h'.2
    have hvu : litOf v = litOf u ↔ v = u := leaf_inj h.1 h'.1
    simp [hvu, ih]
section
variable {P : Program} (w : World)
theorem run_equal_plain (d m : Nat) (hm : m ≤ 10000) (t : TypeId) (ls : List TypeId) (hk : P.keyTypeAt m t = true) (hl : leaves P d t = some ls) (x y : Value) (hx : x.formed P t = true) (hy : y.formed P t = true)
    (fx : fits P ls x.cells.toList = true) (fy : fits P ls y.cells.toList = true) (p : Bool) (hp : p = true ↔ x.cells.toList = y.cells.toList) :
    (Op.equal t x y).run P w = .ok p w := by
  obtain ⟨r, hr, hiff⟩ := run_equalIn_deep (10000 - m) m t hk w d d x y _ _ hx hy (keyLits_leaves d t ls _ hl fx) (keyLits_leaves d t ls _ hl fy)
  rw [show 10000 - m + m = 10000 from by omega] at hr
  have : r = p := by rw [Bool.eq_iff_iff, hiff, litOf_inj fx fy, hp]
  rw [← this]
  exact hr
theorem run_eql_plain (d m : Nat) (hm : m ≤ 10000) (t : TypeId) (ls : List TypeId) (hk : P.keyTypeAt m t = true) (hl : leaves P d t = some ls) (xs ys : Array Value) (hx : (Value.agg xs).formed P t = true) (hy : (Value.agg ys).formed P t = true)
    (fx : fits P ls xs.toList = true) (fy : fits P ls ys.toList = true) (p : Bool) (hp : p = true ↔ xs.toList = ys.toList) :
    (binOp .eql t (.agg xs) (.agg ys)).run P w = .ok (.bool p) w := by
  have h := run_equal_plain (P := P) w d m hm t ls hk hl (.agg xs) (.agg ys) hx hy fx fy p hp
  simp only [binOp]
  simp [h]
end
end Go.Proofs.Ytnnfmgobbhlbiaa
namespace Go.Proofs.Ytnnfmgobbhlbiaa.En
open Go.RowKit Ytnnfmgobbhlbiaa
set_option linter.unusedVariables false
set_option linter.unusedSimpArgs false
section
variable {P : Program} {Q : Exit → Act → World → Prop} {n : Nat} {m : Mem} {S : Sl} {ops : Array Oper} {rest : List Oper} {o : Oper} {α β ι : Type}
theorem fit_nil : fits P [] [] = true := rfl
theorem fit_cons {t : TypeId} {ts : List TypeId} {v : Value} {vs : List Value} (h : leafOk P t v = true) (hr : fits P ts vs = true) : fits P (t :: ts) (v :: vs) = true := by unfold fits; rw [h, hr]; rfl
theorem fit_int {t : TypeId} {k : IntKind} {x : Int} (hu : P.underlying t = some (.int k)) (h : (Lit.int k x).wf = true) : leafOk P t (.int k x) = true := by
  unfold leafOk; rw [hu]; simp [h]
theorem fit_u8 {t : TypeId} {b : UInt8} (hu : P.underlying t = some (.int .u8)) : leafOk P t (.int .u8 (b.toNat : Int)) = true := fit_int hu (by
  have := b.toNat_lt
  simp [Lit.wf, IntKind.min, IntKind.max, IntKind.signed, IntKind.bits]; omega)
theorem ov_eqlA {t yt : TypeId} {x y : Operand} {cs ds : List Value} {ls : List TypeId} {p : Bool} (hg : P.eqGuardType P.depth t = false) (hk : P.keyTypeAt 20 t = true) (hl : leaves P 20 t = some ls) (hx : ev S x = some (ag cs)) (hy : ev S y = some (ag ds)) (hfx : (ag cs).formed P t = true) (hfy : (ag ds).formed P t = true)
    (fx : fits P ls cs = true) (fy : fits P ls ds = true) (hp : p = true ↔ cs = ds) (ho : o.op = .binOp .eql t x y yt) : OpV P o n m S (.bool p) := fun w a hm hs => by
  unfold execOp
  simp only [ho, hs.ev hx, hs.ev hy]
  have := run_eql_plain (P := P) w 20 20 (by decide) t ls hk hl cs.toArray ds.toArray hfx hfy fx fy p hp
  simp [eqGuard, Sem.run_bind, this, ag, hg]
end
end Go.Proofs.Ytnnfmgobbhlbiaa.En
namespace Go.Proofs.Ytnnfmgobbhlbiaa.En
open Go.RowKit Ytnnfmgobbhlbiaa
set_option linter.unusedVariables false
set_option linter.unusedSimpArgs false
section
variable {P : Program} {Q : Exit → Act → World → Prop} {n : Nat} {m : Mem} {S : Sl} {ops : Array Oper} {rest : List Oper} {o : Oper} {α β ι : Type}
theorem ov_makeFunc2 {f : FuncId} {caps : List Operand} {vs : List Value} (ho : o.op = .makeFunc (.func f) #[] caps.toArray) (hc : caps.map (ev S) = vs.map some) : OpV P o n m S (.func (.func f) #[] vs.toArray) := fun w a hm hs => by
  unfold execOp
  simp only [ho]
  have e : caps.toArray.map a.eval = vs.toArray := by rw [List.map_toArray, evs hs hc]
  simp [Instr.makeFunc, e]
end
end Go.Proofs.Ytnnfmgobbhlbiaa.En
namespace Go.Proofs.Ytnnfmgobbhlbiaa.En
open Go.RowKit
set_option linter.unusedVariables false
set_option linter.unusedSimpArgs false
structure Sp where
  i : Nat
  d : Nat
  ι : Type
  res : ι → Res
def over (S F : Sl) : Sl := fun t => match S t with | some v => some v | none => F t
theorem Sat.over {n : Nat} {S F : Sl} {a : Act} (h : Sat n S a) (hF : ∀ t v, F t = some v → a.tmps.getD t undef = v) : Sat n (over S F) a :=
  ⟨h.def_, h.size, fun t v hv => by
    unfold En.over at hv
    cases hS : S t with
    | some u => rw [hS] at hv; exact (Option.some.inj hv) ▸ h.val t u hS
    | none => rw [hS] at hv; exact hF t v hv⟩
def preds (l : List Oper) (i : Nat) : List Nat := match l[i]? with | some o => edgesOf o | none => []
theorem edge_mem {o : Oper} {j : Nat} : j ∈ edgesOf o ↔ ∃ e ∈ o.after, Region.binds .any e = true ∧ e.on = j := by
  unfold edgesOf
  rw [List.mem_map]
  constructor
  · rintro ⟨e, he, rfl⟩
    have := List.mem_filter.1 he
    exact ⟨e, by simpa using this.1, this.2, rfl⟩
  · rintro ⟨e, he, hb, rfl⟩
    exact ⟨e, List.mem_filter.2 ⟨by simpa using he, hb⟩, rfl⟩
structure TInv (l : List Oper) (C : List Nat) (L : List Sp) (lst : Array Bool) : Prop where
  size : lst.size = l.length
  closed : ∀ j, lst.getD j false = true → ∀ e ∈ preds l j, lst.getD e false = true
  done : ∀ c ∈ C, lst.getD c false = true
  only : ∀ i, lst.getD i false = true → i ∈ C ∨ i ∈ L.map Sp.i
section
variable {a a' : Act} {lst lst' : Array Bool}
theorem getD_set {lst : Array Bool} {i : Nat} (h : i < lst.size) : (lst.setIfInBounds i true).getD i false = true := by simp [h]
end
section
variable {P : Program} {Q : Exit → Act → World → Prop} {n : Nat} {m : Mem} {S : Sl} {l : List Oper} {C : List Nat} {L : List Sp}
theorem TInv.set {lst : Array Bool} {C' : List Nat} {L' : List Sp} {i : Nat} (inv : TInv l C L lst) (hr : i ∈ Region.ready .any l.toArray lst) (hd : ∀ c ∈ C', c = i ∨ lst.getD c false = true) (ho : ∀ j, j = i ∨ j ∈ C ∨ j ∈ L.map Sp.i → j ∈ C' ∨ j ∈ L'.map Sp.i) : TInv l C' L' (lst.setIfInBounds i true) := by
  obtain ⟨hu, oi, hoi, hall⟩ := mem_ready.1 hr
  have hlt : i < l.length := by have := (Array.getElem?_eq_some_iff.1 hoi).1; simpa using this
  have hlt' : i < lst.size := by rw [inv.size]; exact hlt
  have hoi' : l[i]? = some oi := by simpa using hoi
  refine ⟨by simp [inv.size], fun j hj e he => ?_, fun c hc => ?_, fun j hj => ho j ?_⟩
  · by_cases hij : i = j
    · subst hij
      unfold preds at he
      rw [hoi'] at he
      obtain ⟨e', he', hb, rfl⟩ := edge_mem.1 he
      exact getD_set_true (hall e' he' hb)
    · rw [getD_set_ne false hij] at hj
      exact getD_set_true (inv.closed j hj e he)
  · rcases hd c hc with rfl | h
    · exact getD_set hlt'
    · exact getD_set_true h
  · by_cases hij : i = j
    · exact .inl hij.symm
    · rw [getD_set_ne false hij] at hj
      exact .inr (inv.only j hj)
end
end Go.Proofs.Ytnnfmgobbhlbiaa.En
namespace Go.Proofs.Ytnnfmgobbhlbiaa.En
open Go.RowKit
set_option linter.unusedVariables false
set_option linter.unusedSimpArgs false
theorem fnok_pure {P : Program} {f : FuncId} {args : List Value} {v : Value} (h : ∀ w, Calls P f args.toArray w fun e w' => e = .returned v ∧ Below w.heap.size w w') : FnOk P f args [] [] (fun _ : Unit => { val := v }) := fun w Z hZ hnd hX hpre hoin =>
  (h w).mono fun e w' ⟨he, hb⟩ => ⟨(), he, Bel.of hb, by simp, by simp, fun Z' _ => ⟨by simp, by simp⟩⟩
section
variable {P : Program} {Q : Exit → Act → World → Prop} {n : Nat} {m : Mem} {S : Sl} {ops : Array Oper} {rest : List Oper} {o : Oper}
end
end Go.Proofs.Ytnnfmgobbhlbiaa.En
namespace Go.Proofs.Ytnnfmgobbhlbiaa.En
open Go.RowKit
set_option linter.unusedVariables false
set_option linter.unusedSimpArgs false
section
variable {P : Program} {n : Nat} {m : Mem} {S : Sl} {o : Oper}
theorem ov_load0 {t : TypeId} {d : TypeDesc} {g : Nat} (hu : P.underlying t = some d) (hsz : szOf P t = some 0) (h1 : isAggD d = true) (hd : mk d [] = ag []) (ho : o.op = .load t (.global g)) : OpV P o n m S (ag []) := fun w a hm hs => by
  have hr := run_loadVar' hu hsz w ⟨g, 0, none⟩ [] rfl (fun h => by rw [h1] at h; cases h) (fun j u hj => by simp at hj)
  rw [hd] at hr
  unfold execOp
  simp only [ho]
  rw [show a.eval (.global g) = .pointer (some ⟨g, 0, none⟩) from hs.ev rfl]
  simp [Instr.loadAt, Instr.sureAddr, hr]
end
end Go.Proofs.Ytnnfmgobbhlbiaa.En
namespace Go.Proofs.Ytnnfmgobbhlbiaa.En
open Go.RowKit
set_option linter.unusedVariables false
set_option linter.unusedSimpArgs false
section
variable {P : Program} {Q : Exit → Act → World → Prop} {n : Nat} {m : Mem} {S : Sl} {ops : Array Oper} {rest : List Oper} {o : Oper} {v : Value} {l : List UInt8} {e et t : TypeId}
end
end Go.Proofs.Ytnnfmgobbhlbiaa.En
namespace Go.Proofs.Ytnnfmgobbhlbiaa.En
open Go.RowKit
set_option linter.unusedVariables false
set_option linter.unusedSimpArgs false
section
variable {P : Program} {Q : Exit → Act → World → Prop} {n : Nat} {m : Mem} {S : Sl} {ops : Array Oper} {rest : List Oper} {o : Oper} {α : Type}
theorem al_s2ap {d : Nat} {β : Type} {τ : Ty α} {τA : Ty β} {v : Value} {xs : List α} {x : β} {arr e : TypeId} {y : Operand} (i k : Nat) (hk : k ≤ xs.length) (hk0 : Nat.blt 0 k = true) (hL : ∀ {Z w cs}, RepL τ Z w cs (xs.take k) → τA.rep Z w cs x) (hi : m.fz[i]? = some (fDat (tyList τ) [v] xs)) (hx : ev S y = some v) (ht : P.underlying arr = some (.array k e)) (ho : o.op = .sliceToArrayPointer arr y)
    (h : ∀ p, AL P ops rest Q n (m.add (fPtr τA p x)) (put S d p)) (hdd : o.dst = some d := by rfl) (hd : Nat.blt d n = true := by rfl) (hg : wantS ops S o true = true := by rfl) : AL P ops (o :: rest) Q n m S :=
  al_fact (R := fun p => fPtr τA p x) (fun w a hm hs => by
    obtain ⟨A, l, c, he, hl, _, _, hr⟩ := fz_at hm hi
    have he' : v = .slice A l c := by simpa using he
    have h0 : 0 < k := by simpa [Nat.blt_eq] using hk0
    rcases hr with hr | ⟨ad, cs, rfl, hca, hrep⟩
    · omega
    refine ⟨.pointer (some ad), ?_, _, _, rfl, hca.take (k * τ.size), hL (hrep.take k)⟩
    unfold execOp
    simp only [ho, hs.ev hx]
    rw [he']
    have := run_arrayAt (P := P) (w := w) arr e k (some ad) l c ht (by omega)
    simp [this]) h hdd hd hg
end
end Go.Proofs.Ytnnfmgobbhlbiaa.En
namespace Go.Proofs.Ytnnfmgobbhlbiaa.En
open Go.RowKit
set_option linter.unusedVariables false
set_option linter.unusedSimpArgs false
section
variable {P : Program} {Q : Exit → Act → World → Prop} {n : Nat} {m : Mem} {S : Sl} {ops : Array Oper} {rest : List Oper} {o : Oper} {kk vk : IntKind} {l : List (Int × Int)} {t kt vt : TypeId} {g : Nat}
end
end Go.Proofs.Ytnnfmgobbhlbiaa.En
namespace Go.Proofs.Ytnnfmgobbhlbiaa.En
open Go.RowKit
set_option linter.unusedVariables false
set_option linter.unusedSimpArgs false
def sbx (g off n : Nat) : Value := .slice (some ⟨g, off, none⟩) n n
theorem setCells_row (g : Nat) (t : TypeId) : ∀ (vs : List Value) (o : Nat) (cur : Array Value) (w : World), w.heap[g]? = some (.cells cur t (0, 0)) → o + vs.length ≤ cur.size →
    w.setCells g o vs = w.setRow g (cur.toList.take o ++ vs ++ cur.toList.drop (o + vs.length)).toArray
  | [], o, cur, w, hg, _ => by
    simp only [World.setCells, List.append_nil, List.length_nil, Nat.add_zero, List.take_append_drop, Array.toArray_toList]
    rw [setRow_self w g cur t (0, 0) hg]
  | v :: rest, o, cur, w, hg, hl => by
    rw [World.setCells, setCell_eq_setRow w g o cur t (0, 0) v hg]
    rw [setCells_row g t rest (o + 1) (cur.setIfInBounds o v) _ (setRow_heap w g cur _ t _ hg) (by simp at hl ⊢; omega), setRow_setRow]
    congr 2
    have e := list_seg_step cur.toList o v rest (by simp at hl ⊢; omega)
    simpa [Array.toList_setIfInBounds, Nat.add_assoc] using e
theorem bytes_one (l : List UInt8) : ∀ v ∈ Lib.byteCells l, v.oneCell' = true := by
  intro v hv
  simp only [Lib.byteCells, List.mem_map] at hv
  obtain ⟨b, _, rfl⟩ := hv
  rfl
theorem run_copyS {P : Program} (w : World) (dT sT ty elem : TypeId) (g o dLen : Nat) (xs : List UInt8) (cur : List Value) (t : TypeId) (hu : P.underlying dT = some (.slice elem)) (hs : szOf P elem = some 1)
    (hg : w.heap[g]? = some (.cells cur.toArray t (0, 0))) (hfit : o + dLen ≤ cur.length) :
    (Builtin.copy_ #[dT, sT] ty #[sbx g o dLen, str xs]).run P w =
      .ok (goInt (Nat.min xs.length dLen)) (w.setRow g (cur.take o ++ Lib.byteCells (xs.take dLen) ++ cur.drop (o + (xs.take dLen).length)).toArray) := by
  have hlen : (Lib.byteCells (xs.take dLen)).length = (xs.take dLen).length := Lib.byteCells_length _
  have hle : (xs.take dLen).length ≤ dLen := by rw [List.length_take]; exact Nat.min_le_left _ _
  have hst := run_storeCells_at P g o t (Lib.byteCells (xs.take dLen)) 0 cur.toArray w hg (by rw [hlen]; simp only [Nat.add_zero]; simp only [List.size_toArray]; omega) (bytes_one _)
  have htk : List.take (Nat.min xs.length dLen) (List.map (fun b : UInt8 => Value.int IntKind.u8 (b.toNat : Int)) xs) = Lib.byteCells (xs.take dLen) := by
    unfold Lib.byteCells
    rw [← List.map_take]
    congr 1
    rcases Nat.le_total xs.length dLen with h | h
    · rw [show Nat.min xs.length dLen = xs.length from Nat.min_eq_left h, List.take_length, List.take_of_length_le h]
    · rw [show Nat.min xs.length dLen = dLen from Nat.min_eq_right h]
  rw [hlen] at hst
  simp only [Nat.add_zero] at hst
  cases hq : P.info? elem with
  | none => unfold szOf at hs; rw [hq] at hs; simp at hs
  | some i =>
    simp [Builtin.copy_, sbx, str, run_underlying hu, Builtin.lenOf, Builtin.firstCells, sizeOf, typeInfo, hq, ByteArray.size]
    rw [htk, hst]
    simp [Result.andThen]
section
variable {P : Program} {Q : Exit → Act → World → Prop} {n : Nat} {m : Mem} {S : Sl} {ops : Array Oper} {rest : List Oper} {o : Oper} {α β : Type}
theorem ov_sliceBox {i g off len : Nat} {t e et : TypeId} {cs : List Value} {y : Operand} (hi : m.own[i]? = some (oBox g et cs)) (hx : ev S y = some (ptr g off)) (ht : P.underlying t = some (.array len e)) (hsz : szOf P e = some 1) (ho : o.op = .slice t y none none none) :
    OpV P o n m S (sbx g off len) := fun w a hm hs => by
  unfold execOp
  simp only [ho, hs.ev hx, Option.map_none]
  simp [sbx, ptr, Instr.sliceAt, Instr.sureAddr, Instr.sliceBounds, Instr.sliceBound, asIntOf, Sem.run_bind, run_underlying ht, run_sizeOf' hsz, add_plain]
theorem box_step {w : World} (hm : Holds m w) {i g : Nat} {et : TypeId} {cs cs' : List Value} (hi : m.own[i]? = some (oBox g et cs)) : Holds (m.upd i (oBox g et cs')) (w.setRow g cs'.toArray) :=
  hm.upd hi ⟨rfl, rfl, rfl, by rw [size_setRow]; exact Nat.le_refl _, fun b _ hb => setRow_other w g b _ (by simpa [oBox] using hb)⟩ (by simp [oBox]) (fun b hb => .inl hb) (fun Z _ => setRow_heap w g cs.toArray cs'.toArray et (0, 0) (box_at hm hi))
theorem al_copyS {i g off len d : Nat} {et dT sT elem : TypeId} {cs cs' : List Value} {xs : List UInt8} {x y : Operand} (hi : m.own[i]? = some (oBox g et cs)) (hx : ev S x = some (sbx g off len)) (hy : ev S y = some (str xs))
    (hu : P.underlying dT = some (.slice elem)) (hsz : szOf P elem = some 1) (hfit : Nat.ble (off + len) cs.length = true) (hcs : cs.take off ++ Lib.byteCells (xs.take len) ++ cs.drop (off + (xs.take len).length) = cs')
    (ho : o.op = .call { callee := .builtin .copy, args := #[x, y], argTypes := #[dT, sT] })
    (h : AL P ops rest Q n (m.upd i (oBox g et cs')) (put S d (.int .i64 ((Nat.min xs.length len : Nat) : Int)))) (hdd : o.dst = some d := by rfl) (hd : Nat.blt d n = true := by rfl) (hg : wantS ops S o true = true := by rfl) : AL P ops (o :: rest) Q n m S :=
  al_step hg fun w a hm hs K hK => by
    have hr := run_copyS (P := P) w dT sT o.type elem g off len xs cs et hu hsz (box_at hm hi) (by simpa [Nat.ble_eq] using hfit)
    rw [hcs] at hr
    refine step_val (w' := w.setRow g cs'.toArray) (v := .int .i64 ((Nat.min xs.length len : Nat) : Int)) ?_ (hK _ _ (h _ _ (box_step hm hi) (hs.put' hdd hd _)))
    unfold execOp; simp only [ho, resolve, invoke, builtin, Sem.run_bind, Sem.run_pure, Result.andThen_ok, List.map_toArray, List.map_cons, List.map_nil, hs.ev hx, hs.ev hy, hr, goInt]
end
theorem fnok_put8 {P : Program} {f : FuncId} {g off len t v zt : Nat} {cs cs' : List Value} {l : List UInt8} (hl : l.length = 8) (hfit : off + 8 ≤ cs.length) (hcs : cs.take off ++ Lib.byteCells l ++ cs.drop (off + 8) = cs')
    (H : ∀ (x0 x1 x2 x3 x4 x5 x6 x7 : Value) (w : World), w.cell? ⟨g, off, none⟩ = some x0 → w.cell? ⟨g, off + 1, none⟩ = some x1 → w.cell? ⟨g, off + 2, none⟩ = some x2 → w.cell? ⟨g, off + 3, none⟩ = some x3 → w.cell? ⟨g, off + 4, none⟩ = some x4 → w.cell? ⟨g, off + 5, none⟩ = some x5 → w.cell? ⟨g, off + 6, none⟩ = some x6 → w.cell? ⟨g, off + 7, none⟩ = some x7 →
      w.frozen? ⟨g, off, none⟩ = false → w.frozen? ⟨g, off + 1, none⟩ = false → w.frozen? ⟨g, off + 2, none⟩ = false → w.frozen? ⟨g, off + 3, none⟩ = false → w.frozen? ⟨g, off + 4, none⟩ = false → w.frozen? ⟨g, off + 5, none⟩ = false → w.frozen? ⟨g, off + 6, none⟩ = false → w.frozen? ⟨g, off + 7, none⟩ = false →
      Calls P f #[.agg #[], sbx g off len, .int .u64 v] w fun e w' => e = .returned (.tuple #[]) ∧ w' = (w.alloc (.cells #[] zt)).setCells g off (Lib.byteCells l)) :
    FnOk P f [ag [], sbx g off len, .int .u64 v] [] [oBox g t cs] (fun _ : Unit => { val := .tuple #[], own := [oBox g t cs'] }) := fun w Z hZ hnd hX hpre hoin => by
  have hb : w.heap[g]? = some (.cells cs.toArray t (0, 0)) := hoin _ (.head _)
  have hglt : g < w.heap.size := (Array.getElem?_eq_some_iff.1 hb).1
  have hc : ∀ k, k < 8 → w.cell? ⟨g, off + k, none⟩ = some (cs.getD (off + k) undef) := fun k hk => by
    have : off + k < cs.length := by omega
    simp [World.cell?, hb, List.getD_eq_getElem?_getD, List.getElem?_eq_getElem this]
  have hf : ∀ k, w.frozen? ⟨g, off + k, none⟩ = false := fun k => by simp [World.frozen?, hb]
  refine (H _ _ _ _ _ _ _ _ w (hc 0 (by omega)) (hc 1 (by omega)) (hc 2 (by omega)) (hc 3 (by omega)) (hc 4 (by omega)) (hc 5 (by omega)) (hc 6 (by omega)) (hc 7 (by omega)) (hf 0) (hf 1) (hf 2) (hf 3) (hf 4) (hf 5) (hf 6) (hf 7)).mono fun e w' ⟨he, hw⟩ => ?_
  have hb2 : (w.alloc (.cells #[] zt)).heap[g]? = some (.cells cs.toArray t (0, 0)) := (((Below.refl w.heap.size w).alloc (Nat.le_refl _) (.cells #[] zt)).block g hglt).trans hb
  have hlen : (Lib.byteCells l).length = 8 := by rw [Lib.byteCells_length, hl]
  have hrow := setCells_row g t (Lib.byteCells l) off cs.toArray (w.alloc (.cells #[] zt)) hb2 (by rw [hlen]; simpa using hfit)
  rw [hlen, hcs] at hrow
  have hbel : Below w.heap.size w (w.alloc (.cells #[] zt)) := (Below.refl _ _).alloc (Nat.le_refl _) _
  refine ⟨(), he, ?_, ?_, ?_, ?_⟩
  · rw [hw, hrow]
    exact ⟨hbel.os, hbel.tape, hbel.output, by rw [size_setRow]; exact hbel.size, fun k hk hk2 => (setRow_other _ g k _ (by simpa [oBox] using hk2)).trans (hbel.block k hk)⟩
  · simp [oBox]
  · intro b hb'; left; simpa [oBox] using hb'
  · intro Z' hZ'
    refine ⟨?_, by simp⟩
    intro o ho
    rw [List.mem_singleton.1 ho, hw, hrow]
    exact setRow_heap _ g cs.toArray cs'.toArray t (0, 0) hb2
end Go.Proofs.Ytnnfmgobbhlbiaa.En
namespace Go.Proofs.Ytnnfmgobbhlbiaa.En
open Go.RowKit
set_option linter.unusedVariables false
set_option linter.unusedSimpArgs false
section
variable {P : Program} {Q : Exit → Act → World → Prop} {n : Nat} {m : Mem} {S : Sl} {ops : Array Oper} {rest : List Oper} {o : Oper} {α β : Type}
end
end Go.Proofs.Ytnnfmgobbhlbiaa.En
namespace Go.Proofs.Ytnnfmgobbhlbiaa.En
open Go.RowKit Go.Maps Ytnnfmgobbhlbiaa
set_option linter.unusedVariables false
set_option linter.unusedSimpArgs false
section
variable {κ ν : Type}
variable {P : Program} {Q : Exit → Act → World → Prop} {n : Nat} {m : Mem} {S : Sl} {ops : Array Oper} {rest : List Oper} {o : Oper} {l : List (κ × ν)} {t kt vt : TypeId} {g : Nat} {ek : κ → Value} {ew : ν → Value}
end
end Go.Proofs.Ytnnfmgobbhlbiaa.En
namespace Go.Proofs.Ytnnfmgobbhlbiaa.En
open Go.RowKit Go.Maps Ytnnfmgobbhlbiaa
set_option linter.unusedVariables false
set_option linter.unusedSimpArgs false
section
variable {P : Program} {Q : Exit → Act → World → Prop} {n : Nat} {m : Mem} {S : Sl} {ops : Array Oper} {rest : List Oper} {o : Oper}
theorem al_mv {d : Nat} {x : Operand} {v : Value} (ho : o.op = .move x) (hx : ev S x = some v) (h : AL P ops rest Q n m (put S d v)) (hdd : o.dst = some d := by rfl) (hd : Nat.blt d n = true := by rfl) (hg : wantS ops S o true = true := by rfl) : AL P ops (o :: rest) Q n m S := al_val (ov_move ho hx) h hdd hd hg
theorem al_as {d : Nat} {x : Operand} {v : Value} (ho : o.op = .assign x) (hx : ev S x = some v) (h : AL P ops rest Q n m (put S d v)) (hdd : o.dst = some d := by rfl) (hd : Nat.blt d n = true := by rfl) (hg : wantS ops S o true = true := by rfl) : AL P ops (o :: rest) Q n m S := al_val (ov_assign ho hx) h hdd hd hg
theorem al_in {d : Nat} {op : BinOp} {xt yt : TypeId} {x y : Operand} {k : IntKind} {p q : Int} {v : Value} (ho : o.op = .binOp op xt x y yt) (hx : ev S x = some (.int k p)) (hy : ev S y = some (.int k q)) (hv : intRes op k p q = some v) (h : AL P ops rest Q n m (put S d v)) (hdd : o.dst = some d := by rfl) (hd : Nat.blt d n = true := by rfl) (hg : wantS ops S o true = true := by rfl) : AL P ops (o :: rest) Q n m S := al_val (ov_int ho hx hy hv) h hdd hd hg
theorem al_ex {d : Nat} {x : Operand} {i : Nat} {vs : Array Value} {v : Value} (ho : o.op = .extract x i) (hx : ev S x = some (.tuple vs)) (hv : vs[i]? = some v) (h : AL P ops rest Q n m (put S d v)) (hdd : o.dst = some d := by rfl) (hd : Nat.blt d n = true := by rfl) (hg : wantS ops S o true = true := by rfl) : AL P ops (o :: rest) Q n m S := al_val (ov_extract ho hx hv) h hdd hd hg
theorem aw_sr {id : Nat} {l : List Oper} {y : Code} (h : AL P l.toArray l (Exit.then (y.wp P Q) Q) n m S) : AW P (.seq (.region id l.toArray false) y) Q n m S := aw_seq (aw_region h)
theorem al_nt {y : Code} (h : AW P y Q n m S) : AL P ops [] (Exit.then (y.wp P Q) Q) n m S := al_nil (aq_then h)
theorem aq_tr {id : Nat} {l : List Oper} {y : Code} (h : AL P l.toArray l (Exit.then (y.wp P Q) Q) n m S) : AQ (Exit.then ((Code.seq (.region id l.toArray false) y).wp P Q) Q) .normal n m S := aq_then (aw_sr h)
end
end Go.Proofs.Ytnnfmgobbhlbiaa.En
namespace Go.Proofs
open Go.Shelf
def Try.lays105_ren : Go.Shelf.Ren := ⟨fun | 105 => 22 | 212 => 30 | 99 => 31 | 165 => 32 | 166 => 33 | 170 => 34 | 169 => 35 | 263 => 39 | 264 => 40 | 206 => 41 | 240 => 42 | 241 => 43 | 276 => 46 | 277 => 47 | n => n, fun | 9 => 9 | 3 => 3 | 4 => 4 | 20 => 20 | 0 => 0 | 46 => 47 | 109 => 58 | 5 => 5 | 72 => 63 | 76 => 67 | 51 => 54 | 146 => 77 | 53 => 33 | 148 => 79 | 70 => 61 | 37 => 51 | 75 => 66 | 127 => 81 | 164 => 84 | 80 => 70 | n => n, fun | n => n⟩
theorem Try.lays105 : Go.Proofs.Lays.n105 Try.prog Try.lays105_ren := {
  mixed := by kernel_rfl
  f99 := Try.func31.trans (congrArg some (by kernel_rfl))
  f105 := Try.func22.trans (congrArg some (by kernel_rfl))
  f165 := Try.func32.trans (congrArg some (by kernel_rfl))
  f166 := Try.func33.trans (congrArg some (by kernel_rfl))
  f169 := Try.func35.trans (congrArg some (by kernel_rfl))
  f170 := Try.func34.trans (congrArg some (by kernel_rfl))
  f206 := Try.func41.trans (congrArg some (by kernel_rfl))
  f212 := Try.func30.trans (congrArg some (by kernel_rfl))
  f240 := Try.func42.trans (congrArg some (by kernel_rfl))
  f241 := Try.func43.trans (congrArg some (by kernel_rfl))
  f263 := Try.func39.trans (congrArg some (by kernel_rfl))
  f264 := Try.func40.trans (congrArg some (by kernel_rfl))
  f276 := Try.func46.trans (congrArg some (by kernel_rfl))
  f277 := Try.func47.trans (congrArg some (by kernel_rfl))
  t0 := Try.underlying0
  a0 := Try.isAgg0
  z0 := Try.sizeOf0
  v0 := Try.zeroValue0
  t3 := Try.underlying3
  a3 := Try.isAgg3
  z3 := Try.sizeOf3
  v3 := Try.zeroValue3
  t4 := Try.underlying4
  a4 := Try.isAgg4
  z4 := Try.sizeOf4
  v4 := Try.zeroValue4
  t5 := Try.underlying5
  a5 := Try.isAgg5
  z5 := Try.sizeOf5
  v5 := Try.zeroValue5
  t9 := Try.underlying9
  a9 := Try.isAgg9
  z9 := Try.sizeOf9
  v9 := Try.zeroValue9
  t20 := Try.underlying20
  a20 := Try.isAgg20
  z20 := Try.sizeOf20
  v20 := Try.zeroValue20
  t37 := Try.underlying51
  a37 := Try.isAgg51
  z37 := Try.sizeOf51
  v37 := Try.zeroValue51
  t46 := Try.underlying47
  a46 := Try.isAgg47
  z46 := Try.sizeOf47
  v46 := Try.zeroValue47
  t51 := Try.underlying54
  a51 := Try.isAgg54
  z51 := Try.sizeOf54
  v51 := Try.zeroValue54
  t53 := Try.underlying33
  a53 := Try.isAgg33
  z53 := Try.sizeOf33
  v53 := Try.zeroValue33
  t70 := Try.underlying61
  a70 := Try.isAgg61
  z70 := Try.sizeOf61
  v70 := Try.zeroValue61
  t72 := Try.underlying63
  a72 := Try.isAgg63
  z72 := Try.sizeOf63
  v72 := Try.zeroValue63
  t75 := Try.underlying66
  a75 := Try.isAgg66
  z75 := Try.sizeOf66
  v75 := Try.zeroValue66
  t76 := Try.underlying67
  a76 := Try.isAgg67
  z76 := Try.sizeOf67
  v76 := Try.zeroValue67
  t109 := Try.underlying58
  a109 := Try.isAgg58
  z109 := Try.sizeOf58
  v109 := Try.zeroValue58
  t127 := Try.underlying81
  a127 := Try.isAgg81
  z127 := Try.sizeOf81
  v127 := Try.zeroValue81
  t146 := Try.underlying77
  a146 := Try.isAgg77
  z146 := Try.sizeOf77
  v146 := Try.zeroValue77
  t148 := Try.underlying79
  a148 := Try.isAgg79
  z148 := Try.sizeOf79
  v148 := Try.zeroValue79
  t164 := Try.underlying84
  a164 := Try.isAgg84
  z164 := Try.sizeOf84
  v164 := Try.zeroValue84 }
theorem Try.Builder_Extra_105 : Builder.Extra Try.prog Try.lays105_ren := {
  sizeBuilder := by kernel_rfl
  liesBuilder := by kernel_rfl
  t5 := Try.underlying5
  a5 := Try.isAgg5
  z5 := Try.sizeOf5
  v5 := Try.zeroValue5
  infoByte := by kernel_rfl
  cellsByte := by kernel_rfl
  sizeByte := by kernel_rfl
  neB5 := by decide }
open Go.RowKit Go.Lib in
theorem Try.strings_Repeat (s : ByteArray) (c : Nat) (w : World) (hc : c ≤ 9223372036854775807) (hlen : s.size * c ≤ 140737488355328) :
    Calls Try.prog 22 #[.string s, .int .i64 c] w fun e w' => e = .returned (.string ⟨(Lib.repeatL s.data.toList c).toArray⟩) ∧ Below w.heap.size w w' := Any.strings_Repeat Try.lays105 Try.Builder_Extra_105 s c w hc hlen
end Go.Proofs
namespace Go.Proofs
open Go.Shelf
def Try.laysBin43_ren : Go.Shelf.Ren := ⟨fun | 43 => 25 | n => n, fun | 37 => 49 | 22 => 51 | 33 => 33 | 0 => 0 | 5 => 5 | 45 => 47 | n => n, fun | n => n⟩
theorem Try.laysBin43 : Go.Proofs.LaysBin.n43 Try.prog Try.laysBin43_ren := {
  mixed := by kernel_rfl
  f43 := Try.func25.trans (congrArg some (by kernel_rfl))
  t0 := Try.underlying0
  a0 := Try.isAgg0
  z0 := Try.sizeOf0
  v0 := Try.zeroValue0
  i0 := by kernel_rfl
  t5 := Try.underlying5
  a5 := Try.isAgg5
  z5 := Try.sizeOf5
  v5 := Try.zeroValue5
  i5 := by kernel_rfl
  t22 := Try.underlying51
  a22 := Try.isAgg51
  z22 := Try.sizeOf51
  v22 := Try.zeroValue51
  i22 := by kernel_rfl
  t33 := Try.underlying33
  a33 := Try.isAgg33
  z33 := Try.sizeOf33
  v33 := Try.zeroValue33
  i33 := by kernel_rfl
  t37 := Try.underlying49
  a37 := Try.isAgg49
  z37 := Try.sizeOf49
  v37 := Try.zeroValue49
  i37 := by kernel_rfl
  t45 := Try.underlying47
  a45 := Try.isAgg47
  z45 := Try.sizeOf47
  v45 := Try.zeroValue47
  i45 := by kernel_rfl }
open Go.RowKit in
theorem Try.binary_BE_PutUint64 (g o n c v : Nat) (hv : v < 18446744073709551616) (x0 x1 x2 x3 x4 x5 x6 x7 : Value) (w : World) (hn : 8 ≤ n) (c0 : w.cell? ⟨g, o, none⟩ = some x0) (c1 : w.cell? ⟨g, o + 1, none⟩ = some x1) (c2 : w.cell? ⟨g, o + 2, none⟩ = some x2) (c3 : w.cell? ⟨g, o + 3, none⟩ = some x3) (c4 : w.cell? ⟨g, o + 4, none⟩ = some x4) (c5 : w.cell? ⟨g, o + 5, none⟩ = some x5) (c6 : w.cell? ⟨g, o + 6, none⟩ = some x6) (c7 : w.cell? ⟨g, o + 7, none⟩ = some x7) (f0 : w.frozen? ⟨g, o, none⟩ = false) (f1 : w.frozen? ⟨g, o + 1, none⟩ = false) (f2 : w.frozen? ⟨g, o + 2, none⟩ = false) (f3 : w.frozen? ⟨g, o + 3, none⟩ = false) (f4 : w.frozen? ⟨g, o + 4, none⟩ = false) (f5 : w.frozen? ⟨g, o + 5, none⟩ = false) (f6 : w.frozen? ⟨g, o + 6, none⟩ = false) (f7 : w.frozen? ⟨g, o + 7, none⟩ = false) :
    Calls Try.prog 25 #[.agg #[], .slice (some ⟨g, o, none⟩) n c, .int .u64 v] w fun e w' => e = .returned (.tuple #[]) ∧ w' = (w.alloc (.cells #[] 49)).setCells g o (Lib.byteCells (Lib.beBytes 8 v)) := Any.binary_BE_PutUint64 Try.laysBin43 g o n c v hv x0 x1 x2 x3 x4 x5 x6 x7 w hn c0 c1 c2 c3 c4 c5 c6 c7 f0 f1 f2 f3 f4 f5 f6 f7
end Go.Proofs
namespace Go.Proofs.Ytnnfmgobbhlbiaa.En
open Go.RowKit Ytnnfmgobbhlbiaa
@[reducible] def iq (x : Int) : Value := Value.int .i64 x
@[reducible] def uq (x : Int) : Value := Value.int .u64 x
@[reducible] def i8 (x : Int) : Value := Value.int .u8 x
@[reducible] def wq (x : Int) : Int := IntKind.i64.wrap x
@[reducible] def wu (x : Int) : Int := IntKind.u64.wrap x
@[reducible] def w8 (x : Int) : Int := IntKind.u8.wrap x
@[reducible] def nS : Value := Value.slice none 0 0
@[reducible] def fq (k : Nat) : Value := Value.func (.func k) #[] #[]
@[reducible] def tq : Ty Int := tyInt .i64
@[reducible] def pq (g : Nat) : Value := ptr g 0
end Go.Proofs.Ytnnfmgobbhlbiaa.En
namespace Go.Proofs.Ytnnfmgobbhlbiaa
open Go.RowKit Ytnnfmgobbhlbiaa.En
set_option linter.unusedVariables false
set_option linter.unusedSimpArgs false
open Go.Value (int bool)
structure A8u8 where
  e0 : UInt8
  e1 : UInt8
  e2 : UInt8
  e3 : UInt8
  e4 : UInt8
  e5 : UInt8
  e6 : UInt8
  e7 : UInt8
  deriving DecidableEq
def tyA8u8 : Ty A8u8 := tyVia (fun x => (x.e0, (x.e1, (x.e2, (x.e3, (x.e4, (x.e5, (x.e6, x.e7)))))))) (tyPair tyU8 (tyPair tyU8 (tyPair tyU8 (tyPair tyU8 (tyPair tyU8 (tyPair tyU8 (tyPair tyU8 tyU8)))))))
def cA8u8 (x : A8u8) : List Value := [(int .u8 (x.e0.toNat : Int)), (int .u8 (x.e1.toNat : Int)), (int .u8 (x.e2.toNat : Int)), (int .u8 (x.e3.toNat : Int)), (int .u8 (x.e4.toNat : Int)), (int .u8 (x.e5.toNat : Int)), (int .u8 (x.e6.toNat : Int)), (int .u8 (x.e7.toNat : Int))]
def lA8u8 (x : A8u8) : List UInt8 := [x.e0, x.e1, x.e2, x.e3, x.e4, x.e5, x.e6, x.e7]
def vA8u8 (y : UInt8) : Value := (int .u8 (y.toNat : Int))
theorem oneA8u8 (x : A8u8) : ∀ u ∈ cA8u8 x, u.oneCell' = true := ones_map (enc := vA8u8) (xs := lA8u8 x) (fun _ => rfl)
theorem lenA8u8 (x : A8u8) : (lA8u8 x).length = 8 := rfl
theorem encA8u8 {Z w cs} {x : A8u8} (h : tyA8u8.rep Z w cs x) : cs = (cA8u8 x) := by
  obtain ⟨c0, d0, rfl, p0, q0⟩ := h
  obtain ⟨c1, d1, rfl, p1, q1⟩ := q0
  obtain ⟨c2, d2, rfl, p2, q2⟩ := q1
  obtain ⟨c3, d3, rfl, p3, q3⟩ := q2
  obtain ⟨c4, d4, rfl, p4, q4⟩ := q3
  obtain ⟨c5, d5, rfl, p5, q5⟩ := q4
  obtain ⟨c6, d6, rfl, p6, q6⟩ := q5
  rw [show _ = _ from p0]
  rw [show _ = _ from p1]
  rw [show _ = _ from p2]
  rw [show _ = _ from p3]
  rw [show _ = _ from p4]
  rw [show _ = _ from p5]
  rw [show _ = _ from p6]
  rw [show _ = _ from q6]
  rfl
theorem mkA8u8 {Z w cs} {x : A8u8} (h : cs = (cA8u8 x)) : tyA8u8.rep Z w cs x := by
  subst h
  exact ⟨_, _, (List.take_append_drop 1 _).symm, rfl, ⟨_, _, (List.take_append_drop 1 _).symm, rfl, ⟨_, _, (List.take_append_drop 1 _).symm, rfl, ⟨_, _, (List.take_append_drop 1 _).symm, rfl, ⟨_, _, (List.take_append_drop 1 _).symm, rfl, ⟨_, _, (List.take_append_drop 1 _).symm, rfl, ⟨_, _, (List.take_append_drop 1 _).symm, rfl, rfl⟩⟩⟩⟩⟩⟩⟩
theorem lrepA8u8 {Z w cs} {x : A8u8} (h : tyA8u8.rep Z w cs x) : RepL tyU8 Z w cs (lA8u8 x) := by
  rw [encA8u8 h]
  exact ⟨[_], _, rfl, rfl, ⟨[_], _, rfl, rfl, ⟨[_], _, rfl, rfl, ⟨[_], _, rfl, rfl, ⟨[_], _, rfl, rfl, ⟨[_], _, rfl, rfl, ⟨[_], _, rfl, rfl, ⟨[_], _, rfl, rfl, rfl⟩⟩⟩⟩⟩⟩⟩⟩
def ofA8u8 (l : List UInt8) : A8u8 := match l.take 8 with | [e0, e1, e2, e3, e4, e5, e6, e7] => ⟨e0, e1, e2, e3, e4, e5, e6, e7⟩ | _ => ⟨0, 0, 0, 0, 0, 0, 0, 0⟩
theorem oflA8u8 {l : List UInt8} (hl : 8 ≤ l.length) {Z w cs} (hr : RepL tyU8 Z w cs (l.take 8)) : tyA8u8.rep Z w cs (ofA8u8 l) := by
  unfold ofA8u8
  have h8 : (l.take 8).length = 8 := by rw [List.length_take]; omega
  generalize l.take 8 = m at hr h8
  match m, h8, hr with
  | [e0, e1, e2, e3, e4, e5, e6, e7], _, hr => exact mkA8u8 (by rw [u8_cells hr]; rfl)
theorem coftA8u8 (l : List UInt8) (hl : l.length = 8) : cA8u8 (ofA8u8 l) = Lib.byteCells l := by
  match l, hl with
  | [e0, e1, e2, e3, e4, e5, e6, e7], _ => rfl
def cpA8u8 (x : A8u8) (l : List UInt8) : A8u8 := ofA8u8 (l.take 8 ++ (lA8u8 x).drop (l.take 8).length)
theorem ccpA8u8 (x : A8u8) (l : List UInt8) : cA8u8 (cpA8u8 x l) = Lib.byteCells (l.take 8) ++ (cA8u8 x).drop (l.take 8).length := by
  have h1 : (l.take 8).length ≤ 8 := by rw [List.length_take]; omega
  unfold cpA8u8
  rw [coftA8u8 _ (by rw [List.length_append, List.length_drop, lenA8u8]; omega)]
  unfold Lib.byteCells
  rw [List.map_append, List.map_drop]
  rfl
theorem cpcA8u8 (x : A8u8) (l : List UInt8) (pre post : List Value) : (pre ++ (cA8u8 x ++ post)).take pre.length ++ Lib.byteCells (l.take 8) ++ (pre ++ (cA8u8 x ++ post)).drop (pre.length + (l.take 8).length) = pre ++ (cA8u8 (cpA8u8 x l) ++ post) := by
  have h1 : (l.take 8).length ≤ (cA8u8 x).length := by rw [List.length_take]; exact Nat.min_le_left _ _
  rw [ccpA8u8, List.take_left, List.drop_append, List.drop_of_length_le (by omega), Nat.add_sub_cancel_left, List.drop_append_of_le_length h1]
  simp
theorem sz3 : szOf Try.prog 3 = some 1 := by kernel_rfl
theorem sz5 : szOf Try.prog 5 = some 1 := by kernel_rfl
theorem to5 : tyOf Try.prog 5 = some (1, 1, some (int .u8 (0 : Int))) := by kernel_rfl
theorem to39 : tyOf Try.prog 39 = some (8, 8, some (ag [(int .u8 (0 : Int)), (int .u8 (0 : Int)), (int .u8 (0 : Int)), (int .u8 (0 : Int)), (int .u8 (0 : Int)), (int .u8 (0 : Int)), (int .u8 (0 : Int)), (int .u8 (0 : Int))])) := by kernel_rfl
theorem sz40 : szOf Try.prog 40 = some 8 := by kernel_rfl
theorem to40 : tyOf Try.prog 40 = some (8, 8, some (ag [(int .u8 (0 : Int)), (int .u8 (0 : Int)), (int .u8 (0 : Int)), (int .u8 (0 : Int)), (int .u8 (0 : Int)), (int .u8 (0 : Int)), (int .u8 (0 : Int)), (int .u8 (0 : Int))])) := by kernel_rfl
theorem sz49 : szOf Try.prog 49 = some 0 := by kernel_rfl
theorem sz56 : szOf Try.prog 56 = some 0 := by kernel_rfl
theorem mixed : Try.prog.follows .mixedOrders = true := by kernel_rfl
theorem eg40 : Try.prog.eqGuardType Try.prog.depth 40 = false := by kernel_rfl
theorem kt40 : Try.prog.keyTypeAt 20 40 = true := by kernel_rfl
theorem lv40 : leaves Try.prog 20 40 = some [5, 5, 5, 5, 5, 5, 5, 5] := by kernel_rfl
theorem injA8u8 {x y : A8u8} : (x == y) = true ↔ (cA8u8 x) = (cA8u8 y) := by
  rw [beq_iff_eq]
  constructor
  · rintro rfl; rfl
  · intro h
    obtain ⟨⟩ := x
    obtain ⟨⟩ := y
    simp only [A8u8.mk.injEq, cA8u8, str, List.cons_append, List.nil_append, List.cons.injEq, Value.int.injEq, Value.bool.injEq, Value.string.injEq, ByteArray.mk.injEq, Array.mk.injEq, Int.natCast_inj, UInt8.toNat_inj, true_and, and_true] at h ⊢
    first | exact h | simpa [and_assoc] using h
theorem f_put8_ok {g off t : Nat} {a2 : Int} {cs cs' : List Value} (hc : 0 ≤ a2 ∧ a2 < 18446744073709551616) (hfit : off + 8 ≤ cs.length) (hcs : cs.take off ++ Lib.byteCells ((Lib.beBytes 8 a2.toNat).take 8) ++ cs.drop (off + ((Lib.beBytes 8 a2.toNat).take 8).length) = cs') :
    FnOk Try.prog 25 [(ag []), (sbx g off 8), (uq a2)] [] [oBox g t cs] (fun _ : Unit => { val := .tuple #[], own := [oBox g t cs'] }) := by
  obtain ⟨n, rfl⟩ : ∃ n : Nat, a2 = n := ⟨a2.toNat, by omega⟩
  have hl : (Lib.beBytes 8 n).length = 8 := Lib.beBytes_length 8 n
  have hcs' : cs.take off ++ Lib.byteCells (Lib.beBytes 8 n) ++ cs.drop (off + 8) = cs' := by
    have e : (Lib.beBytes 8 ((n : Int).toNat)).take 8 = Lib.beBytes 8 n := by rw [Int.toNat_natCast, List.take_of_length_le (by omega)]
    rw [e, hl] at hcs; exact hcs
  exact fnok_put8 hl hfit hcs' (fun x0 x1 x2 x3 x4 x5 x6 x7 w c0 c1 c2 c3 c4 c5 c6 c7 f0 f1 f2 f3 f4 f5 f6 f7 => Try.binary_BE_PutUint64 g off 8 8 n (by omega) x0 x1 x2 x3 x4 x5 x6 x7 w (by omega) c0 c1 c2 c3 c4 c5 c6 c7 f0 f1 f2 f3 f4 f5 f6 f7)
def f__binary_littleEndian__Uint64 (fu : Nat) (a0 : Unit) (a1 : (List UInt8)) : Option Int := (opt (at? a1 (7 : Int)) fun (u2 : UInt8) => (opt (at? a1 (0 : Int)) fun (u5 : UInt8) => (opt (at? a1 (1 : Int)) fun (u8 : UInt8) => (opt (at? a1 (2 : Int)) fun (u11 : UInt8) => (opt (at? a1 (3 : Int)) fun (u14 : UInt8) => (opt (at? a1 (4 : Int)) fun (u17 : UInt8) => (opt (at? a1 (5 : Int)) fun (u20 : UInt8) => (opt (at? a1 (6 : Int)) fun (u23 : UInt8) => (opt (at? a1 (7 : Int)) fun (u26 : UInt8) => (some (bits .or .u64 (bits .or .u64 (bits .or .u64 (bits .or .u64 (bits .or .u64 (bits .or .u64 (bits .or .u64 (IntKind.u64.wrap (u5.toNat : Int)) (IntKind.u64.wrap ((IntKind.u64.wrap (u8.toNat : Int)) * 2 ^ min ((8 : Int)).toNat (IntKind.bits .u64)))) (IntKind.u64.wrap ((IntKind.u64.wrap (u11.toNat : Int)) * 2 ^ min ((16 : Int)).toNat (IntKind.bits .u64)))) (IntKind.u64.wrap ((IntKind.u64.wrap (u14.toNat : Int)) * 2 ^ min ((24 : Int)).toNat (IntKind.bits .u64)))) (IntKind.u64.wrap ((IntKind.u64.wrap (u17.toNat : Int)) * 2 ^ min ((32 : Int)).toNat (IntKind.bits .u64)))) (IntKind.u64.wrap ((IntKind.u64.wrap (u20.toNat : Int)) * 2 ^ min ((40 : Int)).toNat (IntKind.bits .u64)))) (IntKind.u64.wrap ((IntKind.u64.wrap (u23.toNat : Int)) * 2 ^ min ((48 : Int)).toNat (IntKind.bits .u64)))) (IntKind.u64.wrap ((IntKind.u64.wrap (u26.toNat : Int)) * 2 ^ min ((56 : Int)).toNat (IntKind.bits .u64))))))))))))))
set_option maxHeartbeats 2000000 in
set_option maxRecDepth 100000 in
theorem f__binary_littleEndian__Uint64_ok (fu : Nat) (a0 : Unit) (v1_0 : Value) (a1 : (List UInt8)) {r : Int} (h : f__binary_littleEndian__Uint64 fu a0 a1 = some r) : FnOk Try.prog 29 [(ag []), v1_0] [(fDat (tyList tyU8) [v1_0] a1)] [] (fun (i : Unit) => { val := (int .u64 r) }) := by
 unfold f__binary_littleEndian__Uint64 at h
 refine fn_enter Try.func29 rfl Try.ntmps29 rfl (fun w0 Z0 => ?_)
 refine aw_sr ?_
 refine al_box (vs := []) rfl (cv_rfl rfl) rfl (fun g1 => ?_)
 refine al_as rfl rfl ?_
 refine al_nt ?_
 refine aw_sr ?_
 refine al_mv rfl rfl ?_
 obtain ⟨u2, hu3, h⟩ := opt_some h
 refine al_idxD 0 hu3 rfl rfl rfl Try.underlying51 sz5 rfl (fun p4 => ?_)
 refine al_val (ov_loadP (ds := [(i8 (u2.toNat : Int))]) 0 rfl (fun h => h) rfl Try.underlying5 sz5 rfl rfl rfl) ?_
 refine al_nt ?_
 refine aw_seq ?_
 obtain ⟨u5, hu6, h⟩ := opt_some h
 obtain ⟨u8, hu9, h⟩ := opt_some h
 obtain ⟨u11, hu12, h⟩ := opt_some h
 obtain ⟨u14, hu15, h⟩ := opt_some h
 obtain ⟨u17, hu18, h⟩ := opt_some h
 obtain ⟨u20, hu21, h⟩ := opt_some h
 obtain ⟨u23, hu24, h⟩ := opt_some h
 obtain ⟨u26, hu27, h⟩ := opt_some h
 refine aw_region_draw 46 [(8, (fun u => fEq u v1_0)), (9, (fun p7 => (fPtr tyU8 p7 u5))), (10, (fun u => fEq u (i8 (u5.toNat : Int)))), (11, (fun u => fEq u (uq (wu (u5.toNat : Int))))), (12, (fun u => fEq u v1_0)), (13, (fun p10 => (fPtr tyU8 p10 u8))), (14, (fun u => fEq u (i8 (u8.toNat : Int)))), (15, (fun u => fEq u (uq (wu (u8.toNat : Int))))), (16, (fun u => fEq u (uq (wu ((wu (u8.toNat : Int)) * 2 ^ min ((8 : Int)).toNat (IntKind.bits .u64)))))), (17, (fun u => fEq u (uq (bits .or .u64 (wu (u5.toNat : Int)) (wu ((wu (u8.toNat : Int)) * 2 ^ min ((8 : Int)).toNat (IntKind.bits .u64))))))), (18, (fun u => fEq u v1_0)), (19, (fun p13 => (fPtr tyU8 p13 u11))), (20, (fun u => fEq u (i8 (u11.toNat : Int)))), (21, (fun u => fEq u (uq (wu (u11.toNat : Int))))), (22, (fun u => fEq u (uq (wu ((wu (u11.toNat : Int)) * 2 ^ min ((16 : Int)).toNat (IntKind.bits .u64)))))), (23, (fun u => fEq u (uq (bits .or .u64 (bits .or .u64 (wu (u5.toNat : Int)) (wu ((wu (u8.toNat : Int)) * 2 ^ min ((8 : Int)).toNat (IntKind.bits .u64)))) (wu ((wu (u11.toNat : Int)) * 2 ^ min ((16 : Int)).toNat (IntKind.bits .u64))))))), (24, (fun u => fEq u v1_0)), (25, (fun p16 => (fPtr tyU8 p16 u14))), (26, (fun u => fEq u (i8 (u14.toNat : Int)))), (27, (fun u => fEq u (uq (wu (u14.toNat : Int))))), (28, (fun u => fEq u (uq (wu ((wu (u14.toNat : Int)) * 2 ^ min ((24 : Int)).toNat (IntKind.bits .u64)))))), (29, (fun u => fEq u (uq (bits .or .u64 (bits .or .u64 (bits .or .u64 (wu (u5.toNat : Int)) (wu ((wu (u8.toNat : Int)) * 2 ^ min ((8 : Int)).toNat (IntKind.bits .u64)))) (wu ((wu (u11.toNat : Int)) * 2 ^ min ((16 : Int)).toNat (IntKind.bits .u64)))) (wu ((wu (u14.toNat : Int)) * 2 ^ min ((24 : Int)).toNat (IntKind.bits .u64))))))), (30, (fun u => fEq u v1_0)), (31, (fun p19 => (fPtr tyU8 p19 u17))), (32, (fun u => fEq u (i8 (u17.toNat : Int)))), (33, (fun u => fEq u (uq (wu (u17.toNat : Int))))), (34, (fun u => fEq u (uq (wu ((wu (u17.toNat : Int)) * 2 ^ min ((32 : Int)).toNat (IntKind.bits .u64)))))), (35, (fun u => fEq u (uq (bits .or .u64 (bits .or .u64 (bits .or .u64 (bits .or .u64 (wu (u5.toNat : Int)) (wu ((wu (u8.toNat : Int)) * 2 ^ min ((8 : Int)).toNat (IntKind.bits .u64)))) (wu ((wu (u11.toNat : Int)) * 2 ^ min ((16 : Int)).toNat (IntKind.bits .u64)))) (wu ((wu (u14.toNat : Int)) * 2 ^ min ((24 : Int)).toNat (IntKind.bits .u64)))) (wu ((wu (u17.toNat : Int)) * 2 ^ min ((32 : Int)).toNat (IntKind.bits .u64))))))), (36, (fun u => fEq u v1_0)), (37, (fun p22 => (fPtr tyU8 p22 u20))), (38, (fun u => fEq u (i8 (u20.toNat : Int)))), (39, (fun u => fEq u (uq (wu (u20.toNat : Int))))), (40, (fun u => fEq u (uq (wu ((wu (u20.toNat : Int)) * 2 ^ min ((40 : Int)).toNat (IntKind.bits .u64)))))), (41, (fun u => fEq u (uq (bits .or .u64 (bits .or .u64 (bits .or .u64 (bits .or .u64 (bits .or .u64 (wu (u5.toNat : Int)) (wu ((wu (u8.toNat : Int)) * 2 ^ min ((8 : Int)).toNat (IntKind.bits .u64)))) (wu ((wu (u11.toNat : Int)) * 2 ^ min ((16 : Int)).toNat (IntKind.bits .u64)))) (wu ((wu (u14.toNat : Int)) * 2 ^ min ((24 : Int)).toNat (IntKind.bits .u64)))) (wu ((wu (u17.toNat : Int)) * 2 ^ min ((32 : Int)).toNat (IntKind.bits .u64)))) (wu ((wu (u20.toNat : Int)) * 2 ^ min ((40 : Int)).toNat (IntKind.bits .u64))))))), (42, (fun u => fEq u v1_0)), (43, (fun p25 => (fPtr tyU8 p25 u23))), (44, (fun u => fEq u (i8 (u23.toNat : Int)))), (45, (fun u => fEq u (uq (wu (u23.toNat : Int))))), (46, (fun u => fEq u (uq (wu ((wu (u23.toNat : Int)) * 2 ^ min ((48 : Int)).toNat (IntKind.bits .u64)))))), (47, (fun u => fEq u (uq (bits .or .u64 (bits .or .u64 (bits .or .u64 (bits .or .u64 (bits .or .u64 (bits .or .u64 (wu (u5.toNat : Int)) (wu ((wu (u8.toNat : Int)) * 2 ^ min ((8 : Int)).toNat (IntKind.bits .u64)))) (wu ((wu (u11.toNat : Int)) * 2 ^ min ((16 : Int)).toNat (IntKind.bits .u64)))) (wu ((wu (u14.toNat : Int)) * 2 ^ min ((24 : Int)).toNat (IntKind.bits .u64)))) (wu ((wu (u17.toNat : Int)) * 2 ^ min ((32 : Int)).toNat (IntKind.bits .u64)))) (wu ((wu (u20.toNat : Int)) * 2 ^ min ((40 : Int)).toNat (IntKind.bits .u64)))) (wu ((wu (u23.toNat : Int)) * 2 ^ min ((48 : Int)).toNat (IntKind.bits .u64))))))), (48, (fun u => fEq u v1_0)), (49, (fun p28 => (fPtr tyU8 p28 u26))), (50, (fun u => fEq u (i8 (u26.toNat : Int)))), (51, (fun u => fEq u (uq (wu (u26.toNat : Int))))), (52, (fun u => fEq u (uq (wu ((wu (u26.toNat : Int)) * 2 ^ min ((56 : Int)).toNat (IntKind.bits .u64)))))), (53, (fun u => fEq u (uq (bits .or .u64 (bits .or .u64 (bits .or .u64 (bits .or .u64 (bits .or .u64 (bits .or .u64 (bits .or .u64 (wu (u5.toNat : Int)) (wu ((wu (u8.toNat : Int)) * 2 ^ min ((8 : Int)).toNat (IntKind.bits .u64)))) (wu ((wu (u11.toNat : Int)) * 2 ^ min ((16 : Int)).toNat (IntKind.bits .u64)))) (wu ((wu (u14.toNat : Int)) * 2 ^ min ((24 : Int)).toNat (IntKind.bits .u64)))) (wu ((wu (u17.toNat : Int)) * 2 ^ min ((32 : Int)).toNat (IntKind.bits .u64)))) (wu ((wu (u20.toNat : Int)) * 2 ^ min ((40 : Int)).toNat (IntKind.bits .u64)))) (wu ((wu (u23.toNat : Int)) * 2 ^ min ((48 : Int)).toNat (IntKind.bits .u64)))) (wu ((wu (u26.toNat : Int)) * 2 ^ min ((56 : Int)).toNat (IntKind.bits .u64)))))))] (tab [(1, v1_0), (4, (uq (0 : Int)))]) mixed (by kernel_rfl) rfl rfl rfl (fun a hs => hs.tab _ (allT_mem ⟨rfl, rfl, trivial⟩)) ⟨⟨rfl, ld_val (ov_move rfl rfl)⟩, ⟨rfl, ld_eq (j := 0) rfl rfl (ld_of (of_idxD 1 hu6 rfl rfl rfl Try.underlying51 sz5 rfl))⟩, ⟨rfl, ld_fact (j := 1) rfl rfl (fun p7 => ld_val (ov_loadP (ds := [(i8 (u5.toNat : Int))]) 0 rfl (fun h => h) rfl Try.underlying5 sz5 rfl rfl rfl))⟩, ⟨rfl, ld_eq (j := 2) rfl rfl (ld_val (ov_convInt (by rw [Try.underlying5]; rfl) Try.underlying33 rfl rfl))⟩, ⟨rfl, ld_val (ov_move rfl rfl)⟩, ⟨rfl, ld_eq (j := 4) rfl rfl (ld_of (of_idxD 1 hu9 rfl rfl rfl Try.underlying51 sz5 rfl))⟩, ⟨rfl, ld_fact (j := 5) rfl rfl (fun p10 => ld_val (ov_loadP (ds := [(i8 (u8.toNat : Int))]) 0 rfl (fun h => h) rfl Try.underlying5 sz5 rfl rfl rfl))⟩, ⟨rfl, ld_eq (j := 6) rfl rfl (ld_val (ov_convInt (by rw [Try.underlying5]; rfl) Try.underlying33 rfl rfl))⟩, ⟨rfl, ld_eq (j := 7) rfl rfl (ld_val (ov_shl (by decide) rfl rfl rfl))⟩, ⟨rfl, ld_eq (j := 3) rfl rfl (ld_eq (j := 8) rfl rfl (ld_val (ov_int rfl rfl rfl rfl)))⟩, ⟨rfl, ld_val (ov_move rfl rfl)⟩, ⟨rfl, ld_eq (j := 10) rfl rfl (ld_of (of_idxD 1 hu12 rfl rfl rfl Try.underlying51 sz5 rfl))⟩, ⟨rfl, ld_fact (j := 11) rfl rfl (fun p13 => ld_val (ov_loadP (ds := [(i8 (u11.toNat : Int))]) 0 rfl (fun h => h) rfl Try.underlying5 sz5 rfl rfl rfl))⟩, ⟨rfl, ld_eq (j := 12) rfl rfl (ld_val (ov_convInt (by rw [Try.underlying5]; rfl) Try.underlying33 rfl rfl))⟩, ⟨rfl, ld_eq (j := 13) rfl rfl (ld_val (ov_shl (by decide) rfl rfl rfl))⟩, ⟨rfl, ld_eq (j := 9) rfl rfl (ld_eq (j := 14) rfl rfl (ld_val (ov_int rfl rfl rfl rfl)))⟩, ⟨rfl, ld_val (ov_move rfl rfl)⟩, ⟨rfl, ld_eq (j := 16) rfl rfl (ld_of (of_idxD 1 hu15 rfl rfl rfl Try.underlying51 sz5 rfl))⟩, ⟨rfl, ld_fact (j := 17) rfl rfl (fun p16 => ld_val (ov_loadP (ds := [(i8 (u14.toNat : Int))]) 0 rfl (fun h => h) rfl Try.underlying5 sz5 rfl rfl rfl))⟩, ⟨rfl, ld_eq (j := 18) rfl rfl (ld_val (ov_convInt (by rw [Try.underlying5]; rfl) Try.underlying33 rfl rfl))⟩, ⟨rfl, ld_eq (j := 19) rfl rfl (ld_val (ov_shl (by decide) rfl rfl rfl))⟩, ⟨rfl, ld_eq (j := 15) rfl rfl (ld_eq (j := 20) rfl rfl (ld_val (ov_int rfl rfl rfl rfl)))⟩, ⟨rfl, ld_val (ov_move rfl rfl)⟩, ⟨rfl, ld_eq (j := 22) rfl rfl (ld_of (of_idxD 1 hu18 rfl rfl rfl Try.underlying51 sz5 rfl))⟩, ⟨rfl, ld_fact (j := 23) rfl rfl (fun p19 => ld_val (ov_loadP (ds := [(i8 (u17.toNat : Int))]) 0 rfl (fun h => h) rfl Try.underlying5 sz5 rfl rfl rfl))⟩, ⟨rfl, ld_eq (j := 24) rfl rfl (ld_val (ov_convInt (by rw [Try.underlying5]; rfl) Try.underlying33 rfl rfl))⟩, ⟨rfl, ld_eq (j := 25) rfl rfl (ld_val (ov_shl (by decide) rfl rfl rfl))⟩, ⟨rfl, ld_eq (j := 21) rfl rfl (ld_eq (j := 26) rfl rfl (ld_val (ov_int rfl rfl rfl rfl)))⟩, ⟨rfl, ld_val (ov_move rfl rfl)⟩, ⟨rfl, ld_eq (j := 28) rfl rfl (ld_of (of_idxD 1 hu21 rfl rfl rfl Try.underlying51 sz5 rfl))⟩, ⟨rfl, ld_fact (j := 29) rfl rfl (fun p22 => ld_val (ov_loadP (ds := [(i8 (u20.toNat : Int))]) 0 rfl (fun h => h) rfl Try.underlying5 sz5 rfl rfl rfl))⟩, ⟨rfl, ld_eq (j := 30) rfl rfl (ld_val (ov_convInt (by rw [Try.underlying5]; rfl) Try.underlying33 rfl rfl))⟩, ⟨rfl, ld_eq (j := 31) rfl rfl (ld_val (ov_shl (by decide) rfl rfl rfl))⟩, ⟨rfl, ld_eq (j := 27) rfl rfl (ld_eq (j := 32) rfl rfl (ld_val (ov_int rfl rfl rfl rfl)))⟩, ⟨rfl, ld_val (ov_move rfl rfl)⟩, ⟨rfl, ld_eq (j := 34) rfl rfl (ld_of (of_idxD 1 hu24 rfl rfl rfl Try.underlying51 sz5 rfl))⟩, ⟨rfl, ld_fact (j := 35) rfl rfl (fun p25 => ld_val (ov_loadP (ds := [(i8 (u23.toNat : Int))]) 0 rfl (fun h => h) rfl Try.underlying5 sz5 rfl rfl rfl))⟩, ⟨rfl, ld_eq (j := 36) rfl rfl (ld_val (ov_convInt (by rw [Try.underlying5]; rfl) Try.underlying33 rfl rfl))⟩, ⟨rfl, ld_eq (j := 37) rfl rfl (ld_val (ov_shl (by decide) rfl rfl rfl))⟩, ⟨rfl, ld_eq (j := 33) rfl rfl (ld_eq (j := 38) rfl rfl (ld_val (ov_int rfl rfl rfl rfl)))⟩, ⟨rfl, ld_val (ov_move rfl rfl)⟩, ⟨rfl, ld_eq (j := 40) rfl rfl (ld_of (of_idxD 1 hu27 rfl rfl rfl Try.underlying51 sz5 rfl))⟩, ⟨rfl, ld_fact (j := 41) rfl rfl (fun p28 => ld_val (ov_loadP (ds := [(i8 (u26.toNat : Int))]) 0 rfl (fun h => h) rfl Try.underlying5 sz5 rfl rfl rfl))⟩, ⟨rfl, ld_eq (j := 42) rfl rfl (ld_val (ov_convInt (by rw [Try.underlying5]; rfl) Try.underlying33 rfl rfl))⟩, ⟨rfl, ld_eq (j := 43) rfl rfl (ld_val (ov_shl (by decide) rfl rfl rfl))⟩, ⟨rfl, ld_eq (j := 39) rfl rfl (ld_eq (j := 44) rfl rfl (ld_val (ov_int rfl rfl rfl rfl)))⟩, trivial⟩ ?_
 refine tl_eq 45 rfl ?_
 refine tl_done ?_
 refine al_as rfl rfl ?_
 refine al_nt ?_
 refine aw_ret ?_
 obtain rfl := Option.some.inj h
 exact fn_ret () [] [] rfl rfl rfl rfl (res1 rfl rfl) rfl rfl rfl (by decide)
def f_mix_Step (fu : Nat) (a0 : Int) (a1 : Int) : Option Int := (some (bits .xor .u64 (IntKind.u64.wrap ((bits .xor .u64 (IntKind.u64.wrap ((bits .xor .u64 a0 a1) * (11400714819323198485 : Int))) (((IntKind.u64.wrap ((bits .xor .u64 a0 a1) * (11400714819323198485 : Int)))).fdiv (2 ^ min ((29 : Int)).toNat (IntKind.bits .u64)))) * (13787848793156543929 : Int))) (((IntKind.u64.wrap ((bits .xor .u64 (IntKind.u64.wrap ((bits .xor .u64 a0 a1) * (11400714819323198485 : Int))) (((IntKind.u64.wrap ((bits .xor .u64 a0 a1) * (11400714819323198485 : Int)))).fdiv (2 ^ min ((29 : Int)).toNat (IntKind.bits .u64)))) * (13787848793156543929 : Int)))).fdiv (2 ^ min ((32 : Int)).toNat (IntKind.bits .u64)))))
set_option maxHeartbeats 2000000 in
set_option maxRecDepth 100000 in
theorem f_mix_Step_ok (fu : Nat) (a0 : Int) (a1 : Int) {r : Int} (h : f_mix_Step fu a0 a1 = some r) : FnOk Try.prog 11 [(int .u64 a0), (int .u64 a1)] [] [] (fun (i : Unit) => { val := (int .u64 r) }) := by
 unfold f_mix_Step at h
 refine fn_enter Try.func11 rfl Try.ntmps11 rfl (fun w0 Z0 => ?_)
 refine aw_sr ?_
 refine al_as rfl rfl ?_
 refine al_nt ?_
 refine aw_sr ?_
 refine al_mv rfl rfl ?_
 refine al_mv rfl rfl ?_
 refine al_in rfl rfl rfl rfl ?_
 refine al_in rfl rfl rfl rfl ?_
 refine al_as rfl rfl ?_
 refine al_nt ?_
 refine aw_sr ?_
 refine al_mv rfl rfl ?_
 refine al_mv rfl rfl ?_
 refine al_val (ov_shr (by decide) rfl rfl rfl) ?_
 refine al_in rfl rfl rfl rfl ?_
 refine al_in rfl rfl rfl rfl ?_
 refine al_as rfl rfl ?_
 refine al_nt ?_
 refine aw_sr ?_
 refine al_mv rfl rfl ?_
 refine al_mv rfl rfl ?_
 refine al_val (ov_shr (by decide) rfl rfl rfl) ?_
 refine al_in rfl rfl rfl rfl ?_
 refine al_as rfl rfl ?_
 refine al_nt ?_
 refine aw_ret ?_
 obtain rfl := Option.some.inj h
 exact fn_ret () [] [] rfl rfl rfl rfl (res1 rfl rfl) rfl rfl rfl (by decide)
def f_mix_sum_L7 (a1 : Int) (kk2 : (Int → Option Int)) (fu : Nat) : Nat → (List UInt8) → Int → Option Int
  | 0, _, _ => none
  | k6 + 1, l5s0, l5i5 => (bif (!(l5s0 == ([] : List UInt8))) then (req (0 ≤ ((Nat.min l5s0.length 8 : Nat) : Int) ∧ ((Nat.min l5s0.length 8 : Nat) : Int) ≤ (l5s0.length : Int)) (opt (f__binary_littleEndian__Uint64 fu () (lA8u8 (cpA8u8 (A8u8.mk (0 : UInt8) (0 : UInt8) (0 : UInt8) (0 : UInt8) (0 : UInt8) (0 : UInt8) (0 : UInt8) (0 : UInt8)) l5s0))) fun (r13 : Int) => (opt (f_mix_Step fu l5i5 r13) fun (r15 : Int) => (f_mix_sum_L7 a1 kk2 fu k6 (l5s0.drop (((Nat.min l5s0.length 8 : Nat) : Int)).toNat) (bits .and .u64 r15 a1))))) else (kk2 l5i5))
def f_mix_sum (fu : Nat) (a0 : (List UInt8)) (a1 : Int) : Option Int := (lt (fun (j1i5 : Int) => (opt (f_mix_Step fu j1i5 (IntKind.u64.wrap (a0.length : Int))) fun (r4 : Int) => (some (bits .and .u64 r4 a1)))) fun (kk2 : Int → Option Int) => (f_mix_sum_L7 a1 kk2 fu fu a0 (0 : Int)))
set_option maxHeartbeats 2000000 in
set_option maxRecDepth 100000 in
theorem f_mix_sum_ok (fu : Nat) (a0 : (List UInt8)) (a1 : Int) {r : Int} (h : f_mix_sum fu a0 a1 = some r) : FnOk Try.prog 20 [(str a0), (int .u64 a1)] [] [] (fun (i : Unit) => { val := (int .u64 r) }) := by
 unfold f_mix_sum at h
 refine fn_enter Try.func20 rfl Try.ntmps20 rfl (fun w0 Z0 => ?_)
 refine aw_sr ?_
 refine al_as rfl rfl ?_
 refine al_nt ?_
 refine aw_sr ?_
 refine al_mv rfl rfl ?_
 refine al_val (ov_strLen Try.underlying9 rfl rfl) ?_
 refine al_val (ov_convInt (by rw [Try.underlying3]; rfl) Try.underlying33 rfl rfl) ?_
 refine al_as rfl rfl ?_
 refine al_as rfl rfl ?_
 refine al_nt ?_
 obtain ⟨kk2, hkk2, h⟩ := lt_some h
 refine aw_seq_join (ι := Int) (fun i => (memOf w0 Z0 [] [] [])) (fun i => (tab [(1, (uq a1)), (5, (uq i)), (6, (uq (wu (a0.length : Int))))])) (fun i => kk2 i = some r) ?_ ?_
 ·rintro j1i5 h
  have h : kk2 j1i5 = some r := h
  rw [hkk2] at h
  dsimp only at h
  clear hkk2
  refine aw_show (m := (memOf w0 Z0 [] [] [])) (S := (tab [(1, (uq a1)), (5, (uq j1i5)), (6, (uq (wu (a0.length : Int))))])) ?_
  refine aw_sr ?_
  refine al_mv rfl rfl ?_
  refine al_mv rfl rfl ?_
  obtain ⟨r4, hc3, h⟩ := opt_some h
  refine al_call (vs := [(uq j1i5), (uq (wu (a0.length : Int)))]) (f_mix_Step_ok fu j1i5 (wu (a0.length : Int)) hc3) [] [] [] pre_nil rfl (by simp) (by decide) (.inl rfl) rfl Try.func11 rfl rfl rfl (fun _ => ?_)
  refine al_mv rfl rfl ?_
  refine al_in rfl rfl rfl rfl ?_
  refine al_as rfl rfl ?_
  refine al_nt ?_
  refine aw_ret ?_
  obtain rfl := Option.some.inj h
  exact fn_ret () [] [] rfl rfl rfl rfl (res1 rfl rfl) rfl rfl rfl (by decide)
 ·clear hkk2
  refine aw_block ?_
  refine aw_state (aw_loop (ι := (List UInt8) × Int) (fun i => (memOf w0 Z0 [] [] [])) (fun i => (tab [(0, (str i.1)), (1, (uq a1)), (5, (uq i.2)), (6, (uq (wu (a0.length : Int))))])) (fun q i => f_mix_sum_L7 a1 kk2 fu q i.1 i.2 = some r) ?_ fu (a0, (0 : Int)) h) (fun w a hm hs => norm hm hs [] [] [(0, (str a0)), (1, (uq a1)), (5, (uq (0 : Int))), (6, (uq (wu (a0.length : Int))))] (by decide) ⟨rfl, rfl, rfl, rfl, trivial⟩)
  clear h
  rintro k6 ⟨l5s0, l5i5⟩ h
  have h : f_mix_sum_L7 a1 kk2 fu k6 l5s0 l5i5 = some r := h
  obtain _ | k6 := k6
  · rw [f_mix_sum_L7] at h; cases h
  rw [f_mix_sum_L7] at h
  refine aw_show (m := (memOf w0 Z0 [] [] [])) (S := (tab [(0, (str l5s0)), (1, (uq a1)), (5, (uq l5i5)), (6, (uq (wu (a0.length : Int))))])) ?_
  refine aw_seq ?_
  refine aw_sr ?_
  refine al_mv rfl rfl ?_
  refine al_val (ov_strCmp rfl rfl rfl rfl) ?_
  refine al_nt ?_
  refine aw_cond rfl (fun hb8 => ?_) (fun hb8 => ?_)
  ·replace h := bif_t hb8 h
   refine aw_skip ?_
   refine aq_then ?_
   refine aw_block ?_
   refine aw_sr ?_
   refine al_alloc (zs := (cA8u8 (A8u8.mk (0 : UInt8) (0 : UInt8) (0 : UInt8) (0 : UInt8) (0 : UInt8) (0 : UInt8) (0 : UInt8) (0 : UInt8)))) (zeroOf_to to39) rfl rfl (fun g9 => ?_)
   refine al_nt ?_
   refine aw_sr ?_
   refine al_mv rfl rfl ?_
   refine al_val (ov_sliceBox (i := 0) rfl rfl Try.underlying39 sz5 rfl) ?_
   refine al_mv rfl rfl ?_
   refine al_copyS (i := 0) (cs := (cA8u8 (A8u8.mk (0 : UInt8) (0 : UInt8) (0 : UInt8) (0 : UInt8) (0 : UInt8) (0 : UInt8) (0 : UInt8) (0 : UInt8)))) (cs' := (cA8u8 (cpA8u8 (A8u8.mk (0 : UInt8) (0 : UInt8) (0 : UInt8) (0 : UInt8) (0 : UInt8) (0 : UInt8) (0 : UInt8) (0 : UInt8)) l5s0))) rfl rfl rfl Try.underlying51 sz5 rfl (cpcA8u8 (A8u8.mk (0 : UInt8) (0 : UInt8) (0 : UInt8) (0 : UInt8) (0 : UInt8) (0 : UInt8) (0 : UInt8) (0 : UInt8)) l5s0 [] []) rfl ?_
   obtain ⟨hc10, h⟩ := req_some h
   refine al_val (ov_strFrom hc10.1 hc10.2 Try.underlying9 rfl rfl rfl) ?_
   refine al_as rfl rfl ?_
   refine al_nt ?_
   refine aw_freezeB 0 ((cpA8u8 (A8u8.mk (0 : UInt8) (0 : UInt8) (0 : UInt8) (0 : UInt8) (0 : UInt8) (0 : UInt8) (0 : UInt8) (0 : UInt8)) l5s0)) rfl rfl (fun _ _ => mkA8u8 rfl) ?_
   obtain ⟨r13, hc12, h⟩ := opt_some h
   obtain ⟨r15, hc14, h⟩ := opt_some h
   refine aw_region_draw 7 [(18, (fun u => fEq u (uq l5i5))), (19, (fun u => fEq u (ag []))), (20, (fun s11 => (fDat (tyList tyU8) [s11] (lA8u8 (cpA8u8 (A8u8.mk (0 : UInt8) (0 : UInt8) (0 : UInt8) (0 : UInt8) (0 : UInt8) (0 : UInt8) (0 : UInt8) (0 : UInt8)) l5s0))))), (21, (fun u => fEq u (uq r13))), (22, (fun u => fEq u (uq r15))), (23, (fun u => fEq u (uq a1))), (24, (fun u => fEq u (uq (bits .and .u64 r15 a1))))] (tab [(0, (str (l5s0.drop (((Nat.min l5s0.length 8 : Nat) : Int)).toNat))), (1, (uq a1)), (5, (uq l5i5)), (6, (uq (wu (a0.length : Int)))), (7, (pq g9))]) mixed (by kernel_rfl) rfl rfl rfl (fun a hs => hs.tab _ (allT_mem ⟨rfl, rfl, rfl, rfl, rfl, trivial⟩)) ⟨⟨rfl, ld_val (ov_move rfl rfl)⟩, ⟨rfl, ld_val (ov_load0 Try.underlying56 sz56 rfl rfl rfl)⟩, ⟨rfl, ld_of (of_sliceP 0 lrepA8u8 rfl rfl rfl rfl Try.underlying39 sz5 rfl)⟩, ⟨rfl, ld_eq (j := 1) rfl rfl (ld_fact (j := 2) rfl rfl (fun s11 => ld_callV (vs := [(ag []), s11]) (f__binary_littleEndian__Uint64_ok fu () s11 (lA8u8 (cpA8u8 (A8u8.mk (0 : UInt8) (0 : UInt8) (0 : UInt8) (0 : UInt8) (0 : UInt8) (0 : UInt8) (0 : UInt8) (0 : UInt8)) l5s0)) hc12) [] (pre_fz 0 rfl pre_nil) rfl Try.func29 rfl rfl rfl))⟩, ⟨rfl, ld_eq (j := 0) rfl rfl (ld_eq (j := 3) rfl rfl (ld_callV (vs := [(uq l5i5), (uq r13)]) (f_mix_Step_ok fu l5i5 r13 hc14) [] pre_nil rfl Try.func11 rfl rfl rfl))⟩, ⟨rfl, ld_val (ov_move rfl rfl)⟩, ⟨rfl, ld_eq (j := 4) rfl rfl (ld_eq (j := 5) rfl rfl (ld_val (ov_int rfl rfl rfl rfl)))⟩, trivial⟩ ?_
   refine tl_eq 6 rfl ?_
   refine tl_done ?_
   refine al_as rfl rfl ?_
   refine al_nil ?_
   refine aq_block ?_
   exact aq_again k6 ((l5s0.drop (((Nat.min l5s0.length 8 : Nat) : Int)).toNat), (bits .and .u64 r15 a1)) (Nat.lt_succ_self _) h (fun w a hm hs => norm hm hs [] [] [(0, (str (l5s0.drop (((Nat.min l5s0.length 8 : Nat) : Int)).toNat))), (1, (uq a1)), (5, (uq (bits .and .u64 r15 a1))), (6, (uq (wu (a0.length : Int))))] (by decide) ⟨rfl, rfl, rfl, rfl, trivial⟩)
  ·replace h := bif_f hb8 h
   refine aw_exit ?_
   refine aq_then_exit ?_
   refine aq_then_exit ?_
   refine aq_block_exit ?_
   exact aq_join l5i5 h (fun w a hm hs => norm hm hs [] [] [(1, (uq a1)), (5, (uq l5i5)), (6, (uq (wu (a0.length : Int))))] (by decide) ⟨rfl, rfl, rfl, trivial⟩)
def f_mix_Narrow (fu : Nat) (a0 : Int) (a1 : (List UInt8)) : Option (Int × Int) := (lt (fun (j1b11 : Bool) => (bif j1b11 then (some ((0 : Int), (1 : Int))) else (req (0 ≤ (IntKind.i64.wrap ((64 : Int) - a0))) (opt (f_mix_sum fu a1 (((18446744073709551615 : Int)).fdiv (2 ^ min ((IntKind.i64.wrap ((64 : Int) - a0))).toNat (IntKind.bits .u64)))) fun (r6 : Int) => (some (r6, (0 : Int))))))) fun (kk2 : Bool → Option (Int × Int)) => (bif (decide (a0 < (1 : Int))) then (kk2 true) else (kk2 (decide (a0 > (64 : Int))))))
set_option maxHeartbeats 2000000 in
set_option maxRecDepth 100000 in
theorem f_mix_Narrow_ok (fu : Nat) (a0 : Int) (a1 : (List UInt8)) {r : (Int × Int)} (h : f_mix_Narrow fu a0 a1 = some r) : FnOk Try.prog 9 [(int .i64 a0), (str a1)] [] [] (fun (i : Unit) => { val := (Value.tuple #[(int .u64 r.1), (int .i64 r.2)]) }) := by
 unfold f_mix_Narrow at h
 refine fn_enter Try.func9 rfl Try.ntmps9 rfl (fun w0 Z0 => ?_)
 refine aw_sr ?_
 refine al_as rfl rfl ?_
 refine al_as rfl rfl ?_
 refine al_nt ?_
 refine aw_seq ?_
 obtain ⟨kk2, hkk2, h⟩ := lt_some h
 refine aw_seq_join (ι := Bool) (fun i => (memOf w0 Z0 [] [] [])) (fun i => (tab [(0, (iq a0)), (1, (str a1)), (11, (bool i))])) (fun i => kk2 i = some r) ?_ ?_
 ·rintro j1b11 h
  have h : kk2 j1b11 = some r := h
  rw [hkk2] at h
  dsimp only at h
  clear hkk2
  refine aw_show (m := (memOf w0 Z0 [] [] [])) (S := (tab [(0, (iq a0)), (1, (str a1)), (11, (bool j1b11))])) ?_
  refine aw_cond rfl (fun hb3 => ?_) (fun hb3 => ?_)
  ·replace h := bif_t hb3 h
   refine aw_sr ?_
   refine al_as rfl rfl ?_
   refine al_as rfl rfl ?_
   refine al_nt ?_
   refine aw_ret ?_
   refine aq_then_ret ?_
   obtain rfl := Option.some.inj h
   exact fn_ret () [] [] rfl rfl rfl rfl (res2 rfl rfl rfl) rfl rfl rfl (by decide)
  ·replace h := bif_f hb3 h
   refine aw_skip ?_
   refine aq_tr ?_
   refine al_mv rfl rfl ?_
   refine al_mv rfl rfl ?_
   refine al_in rfl rfl rfl rfl ?_
   obtain ⟨hc4, h⟩ := req_some h
   refine al_val (ov_shr hc4 rfl rfl rfl) ?_
   obtain ⟨r6, hc5, h⟩ := opt_some h
   refine al_call (vs := [(str a1), (uq (((18446744073709551615 : Int)).fdiv (2 ^ min ((wq ((64 : Int) - a0))).toNat (IntKind.bits .u64))))]) (f_mix_sum_ok fu a1 (((18446744073709551615 : Int)).fdiv (2 ^ min ((wq ((64 : Int) - a0))).toNat (IntKind.bits .u64))) hc5) [] [] [] pre_nil rfl (by simp) (by decide) (.inl rfl) rfl Try.func20 rfl rfl rfl (fun _ => ?_)
   refine al_as rfl rfl ?_
   refine al_as rfl rfl ?_
   refine al_nt ?_
   refine aw_ret ?_
   obtain rfl := Option.some.inj h
   exact fn_ret () [] [] rfl rfl rfl rfl (res2 rfl rfl rfl) rfl rfl rfl (by decide)
 ·clear hkk2
  refine aw_region ?_
  refine al_mv rfl rfl ?_
  refine al_in rfl rfl rfl rfl ?_
  refine al_mv rfl rfl ?_
  refine al_caseB 8 rfl (fun hb7 => ?_) (fun hb7 => ?_)
  ·replace h := bif_t hb7 h
   refine al_skip ?_
   refine al_skip ?_
   refine al_val (ov_pick_t rfl rfl rfl) ?_
   refine al_nil ?_
   exact aq_join true h (fun w a hm hs => norm hm hs [] [] [(0, (iq a0)), (1, (str a1)), (11, (bool true))] (by decide) ⟨rfl, rfl, rfl, trivial⟩)
  ·replace h := bif_f hb7 h
   refine al_mv rfl rfl ?_
   refine al_in rfl rfl rfl rfl ?_
   refine al_val (ov_pick_f rfl rfl rfl) ?_
   refine al_nil ?_
   exact aq_join (decide (a0 > (64 : Int))) h (fun w a hm hs => norm hm hs [] [] [(0, (iq a0)), (1, (str a1)), (11, (bool (decide (a0 > (64 : Int)))))] (by decide) ⟨rfl, rfl, rfl, trivial⟩)
def f_lumref_Narrow_1 (fu : Nat) (a0 : Int) (a1 : Int) : Option Int := (bif (a1 == (64 : Int)) then (some a0) else (req (0 ≤ a1) (req ((IntKind.u64.wrap ((1 : Int) * 2 ^ min (a1).toNat (IntKind.bits .u64))) ≠ 0) (some ((a0).tmod (IntKind.u64.wrap ((1 : Int) * 2 ^ min (a1).toNat (IntKind.bits .u64))))))))
set_option maxHeartbeats 2000000 in
set_option maxRecDepth 100000 in
theorem f_lumref_Narrow_1_ok (fu : Nat) (a0 : Int) (c1 : Value) (a1 : Int) {r : Int} (h : f_lumref_Narrow_1 fu a0 a1 = some r) : FnOk Try.prog 21 [(int .u64 a0), c1] [(fPtr (tyInt .i64) c1 a1)] [] (fun (i : Unit) => { val := (int .u64 r) }) := by
 unfold f_lumref_Narrow_1 at h
 refine fn_enter Try.func21 rfl Try.ntmps21 rfl (fun w0 Z0 => ?_)
 refine aw_sr ?_
 refine al_as rfl rfl ?_
 refine al_nt ?_
 refine aw_seq ?_
 refine aw_sr ?_
 refine al_val (ov_loadP (ds := [(iq a1)]) 0 rfl (fun h => h) rfl Try.underlying3 sz3 rfl rfl rfl) ?_
 refine al_in rfl rfl rfl rfl ?_
 refine al_nt ?_
 refine aw_cond rfl (fun hb1 => ?_) (fun hb1 => ?_)
 ·replace h := bif_t hb1 h
  refine aw_sr ?_
  refine al_mv rfl rfl ?_
  refine al_as rfl rfl ?_
  refine al_nt ?_
  refine aw_ret ?_
  refine aq_then_ret ?_
  obtain rfl := Option.some.inj h
  exact fn_ret () [] [] rfl rfl rfl rfl (res1 rfl rfl) rfl rfl rfl (by decide)
 ·replace h := bif_f hb1 h
  refine aw_skip ?_
  refine aq_tr ?_
  refine al_mv rfl rfl ?_
  refine al_val (ov_loadP (ds := [(iq a1)]) 0 rfl (fun h => h) rfl Try.underlying3 sz3 rfl rfl rfl) ?_
  obtain ⟨hc2, h⟩ := req_some h
  refine al_val (ov_shl hc2 rfl rfl rfl) ?_
  obtain ⟨hc3, h⟩ := req_some h
  refine al_val (ov_rem hc3 rfl rfl rfl) ?_
  refine al_as rfl rfl ?_
  refine al_nt ?_
  refine aw_ret ?_
  obtain rfl := Option.some.inj h
  exact fn_ret () [] [] rfl rfl rfl rfl (res1 rfl rfl) rfl rfl rfl (by decide)
def f_strings_Repeat (fu : Nat) (a0 : List UInt8) (a1 : Int) : Option (List UInt8) := req (0 ≤ a1 ∧ a1 ≤ 9223372036854775807 ∧ a0.length * a1.toNat ≤ 140737488355328) (some (Lib.repeatL a0 a1.toNat))
theorem f_strings_Repeat_ok (fu : Nat) (a0 : List UInt8) (a1 : Int) {r : List UInt8} (h : f_strings_Repeat fu a0 a1 = some r) : FnOk Try.prog 22 [(str a0), (int .i64 a1)] [] [] (fun (i : Unit) => { val := (str r) }) := by
  unfold f_strings_Repeat at h
  obtain ⟨hc, h⟩ := req_some h
  obtain rfl := Option.some.inj h
  obtain ⟨n, rfl⟩ : ∃ n : Nat, a1 = n := ⟨a1.toNat, by omega⟩
  refine fnok_pure fun w => ?_
  exact (Try.strings_Repeat ⟨a0.toArray⟩ n w (by omega) (by simpa [ByteArray.size] using hc.2.2)).mono fun e w' h9 => by simpa [str] using h9
def f_lumref_product_L5 (a0 : Int) (a1 : Int) (kk2 : (Int → Option Int)) : Nat → Int → Int → Option Int
  | 0, _, _ => none
  | k4 + 1, l3i5, l3i7 => (bif (decide (l3i7 < (64 : Int))) then (lt (fun (j7i5 : Int) => (f_lumref_product_L5 a0 a1 kk2 k4 j7i5 (IntKind.i64.wrap (l3i7 + (1 : Int))))) fun (kk8 : Int → Option Int) => (req (0 ≤ l3i7) (bif ((bits .and .u64 ((a1).fdiv (2 ^ min (l3i7).toNat (IntKind.bits .u64))) (1 : Int)) == (1 : Int)) then (req (0 ≤ l3i7) (kk8 (IntKind.u64.wrap (l3i5 + (IntKind.u64.wrap (a0 * 2 ^ min (l3i7).toNat (IntKind.bits .u64))))))) else (kk8 l3i5)))) else (kk2 l3i5))
def f_lumref_product (fu : Nat) (a0 : Int) (a1 : Int) : Option Int := (lt (fun (j1i5 : Int) => (some j1i5)) fun (kk2 : Int → Option Int) => (f_lumref_product_L5 a0 a1 kk2 fu (0 : Int) (0 : Int)))
set_option maxHeartbeats 2000000 in
set_option maxRecDepth 100000 in
theorem f_lumref_product_ok (fu : Nat) (a0 : Int) (a1 : Int) {r : Int} (h : f_lumref_product fu a0 a1 = some r) : FnOk Try.prog 23 [(int .u64 a0), (int .u64 a1)] [] [] (fun (i : Unit) => { val := (int .u64 r) }) := by
 unfold f_lumref_product at h
 refine fn_enter Try.func23 rfl Try.ntmps23 rfl (fun w0 Z0 => ?_)
 refine aw_sr ?_
 refine al_as rfl rfl ?_
 refine al_nt ?_
 refine aw_sr ?_
 refine al_as rfl rfl ?_
 refine al_nt ?_
 obtain ⟨kk2, hkk2, h⟩ := lt_some h
 refine aw_seq_join (ι := Int) (fun i => (memOf w0 Z0 [] [] [])) (fun i => (tab [(5, (uq i))])) (fun i => kk2 i = some r) ?_ ?_
 ·rintro j1i5 h
  have h : kk2 j1i5 = some r := h
  rw [hkk2] at h
  dsimp only at h
  clear hkk2
  refine aw_show (m := (memOf w0 Z0 [] [] [])) (S := (tab [(5, (uq j1i5))])) ?_
  refine aw_sr ?_
  refine al_mv rfl rfl ?_
  refine al_as rfl rfl ?_
  refine al_nt ?_
  refine aw_ret ?_
  obtain rfl := Option.some.inj h
  exact fn_ret () [] [] rfl rfl rfl rfl (res1 rfl rfl) rfl rfl rfl (by decide)
 ·clear hkk2
  refine aw_sr ?_
  refine al_mv rfl rfl ?_
  refine al_nt ?_
  refine aw_block ?_
  refine aw_state (aw_loop (ι := Int × Int) (fun i => (memOf w0 Z0 [] [] [])) (fun i => (tab [(0, (uq a0)), (1, (uq a1)), (5, (uq i.1)), (7, (iq i.2))])) (fun q i => f_lumref_product_L5 a0 a1 kk2 q i.1 i.2 = some r) ?_ fu ((0 : Int), (0 : Int)) h) (fun w a hm hs => norm hm hs [] [] [(0, (uq a0)), (1, (uq a1)), (5, (uq (0 : Int))), (7, (iq (0 : Int)))] (by decide) ⟨rfl, rfl, rfl, rfl, trivial⟩)
  clear h
  rintro k4 ⟨l3i5, l3i7⟩ h
  have h : f_lumref_product_L5 a0 a1 kk2 k4 l3i5 l3i7 = some r := h
  obtain _ | k4 := k4
  · rw [f_lumref_product_L5] at h; cases h
  rw [f_lumref_product_L5] at h
  refine aw_show (m := (memOf w0 Z0 [] [] [])) (S := (tab [(0, (uq a0)), (1, (uq a1)), (5, (uq l3i5)), (7, (iq l3i7))])) ?_
  refine aw_sr ?_
  refine al_in rfl rfl rfl rfl ?_
  refine al_nt ?_
  refine aw_seq ?_
  refine aw_cond rfl (fun hb6 => ?_) (fun hb6 => ?_)
  ·replace h := bif_t hb6 h
   refine aw_skip ?_
   refine aq_then ?_
   obtain ⟨kk8, hkk8, h⟩ := lt_some h
   refine aw_seq_join (ι := Int) (fun i => (memOf w0 Z0 [] [] [])) (fun i => (tab [(0, (uq a0)), (1, (uq a1)), (5, (uq i)), (7, (iq l3i7))])) (fun i => kk8 i = some r) ?_ ?_
   ·rintro j7i5 h
    have h : kk8 j7i5 = some r := h
    rw [hkk8] at h
    dsimp only at h
    clear hkk8
    refine aw_show (m := (memOf w0 Z0 [] [] [])) (S := (tab [(0, (uq a0)), (1, (uq a1)), (5, (uq j7i5)), (7, (iq l3i7))])) ?_
    refine aw_region ?_
    refine al_in rfl rfl rfl rfl ?_
    refine al_mv rfl rfl ?_
    refine al_nil ?_
    exact aq_again k4 (j7i5, (wq (l3i7 + (1 : Int)))) (Nat.lt_succ_self _) h (fun w a hm hs => norm hm hs [] [] [(0, (uq a0)), (1, (uq a1)), (5, (uq j7i5)), (7, (iq (wq (l3i7 + (1 : Int)))))] (by decide) ⟨rfl, rfl, rfl, rfl, trivial⟩)
   ·clear hkk8
    refine aw_block ?_
    refine aw_sr ?_
    refine al_mv rfl rfl ?_
    refine al_as rfl rfl ?_
    refine al_nt ?_
    refine aw_sr ?_
    refine al_mv rfl rfl ?_
    refine al_mv rfl rfl ?_
    obtain ⟨hc9, h⟩ := req_some h
    refine al_val (ov_shr hc9 rfl rfl rfl) ?_
    refine al_in rfl rfl rfl rfl ?_
    refine al_in rfl rfl rfl rfl ?_
    refine al_nt ?_
    refine aw_cond rfl (fun hb10 => ?_) (fun hb10 => ?_)
    ·replace h := bif_t hb10 h
     refine aw_region ?_
     refine al_mv rfl rfl ?_
     refine al_mv rfl rfl ?_
     refine al_mv rfl rfl ?_
     obtain ⟨hc11, h⟩ := req_some h
     refine al_val (ov_shl hc11 rfl rfl rfl) ?_
     refine al_in rfl rfl rfl rfl ?_
     refine al_as rfl rfl ?_
     refine al_nil ?_
     refine aq_block ?_
     exact aq_join (wu (l3i5 + (wu (a0 * 2 ^ min (l3i7).toNat (IntKind.bits .u64))))) h (fun w a hm hs => norm hm hs [] [] [(0, (uq a0)), (1, (uq a1)), (5, (uq (wu (l3i5 + (wu (a0 * 2 ^ min (l3i7).toNat (IntKind.bits .u64))))))), (7, (iq l3i7))] (by decide) ⟨rfl, rfl, rfl, rfl, trivial⟩)
    ·replace h := bif_f hb10 h
     refine aw_skip ?_
     refine aq_block ?_
     exact aq_join l3i5 h (fun w a hm hs => norm hm hs [] [] [(0, (uq a0)), (1, (uq a1)), (5, (uq l3i5)), (7, (iq l3i7))] (by decide) ⟨rfl, rfl, rfl, rfl, trivial⟩)
  ·replace h := bif_f hb6 h
   refine aw_exit ?_
   refine aq_then_exit ?_
   refine aq_then_exit ?_
   refine aq_block_exit ?_
   exact aq_join l3i5 h (fun w a hm hs => norm hm hs [] [] [(5, (uq l3i5))] (by decide) ⟨rfl, trivial⟩)
def f_lumref_Step (fu : Nat) (a0 : Int) (a1 : Int) : Option Int := (opt (f_lumref_product fu (bits .xor .u64 a0 a1) (11400714819323198485 : Int)) fun (r2 : Int) => (opt (f_lumref_product fu (bits .xor .u64 r2 (IntKind.u64.wrap ((r2).tdiv (536870912 : Int)))) (13787848793156543929 : Int)) fun (r4 : Int) => (some (bits .xor .u64 r4 (IntKind.u64.wrap ((r4).tdiv (4294967296 : Int)))))))
set_option maxHeartbeats 2000000 in
set_option maxRecDepth 100000 in
theorem f_lumref_Step_ok (fu : Nat) (a0 : Int) (a1 : Int) {r : Int} (h : f_lumref_Step fu a0 a1 = some r) : FnOk Try.prog 12 [(int .u64 a0), (int .u64 a1)] [] [] (fun (i : Unit) => { val := (int .u64 r) }) := by
 unfold f_lumref_Step at h
 refine fn_enter Try.func12 rfl Try.ntmps12 rfl (fun w0 Z0 => ?_)
 refine aw_sr ?_
 refine al_as rfl rfl ?_
 refine al_nt ?_
 refine aw_sr ?_
 refine al_mv rfl rfl ?_
 refine al_mv rfl rfl ?_
 refine al_in rfl rfl rfl rfl ?_
 obtain ⟨r2, hc1, h⟩ := opt_some h
 refine al_call (vs := [(uq (bits .xor .u64 a0 a1)), (uq (11400714819323198485 : Int))]) (f_lumref_product_ok fu (bits .xor .u64 a0 a1) (11400714819323198485 : Int) hc1) [] [] [] pre_nil rfl (by simp) (by decide) (.inl rfl) rfl Try.func23 rfl rfl rfl (fun _ => ?_)
 refine al_as rfl rfl ?_
 refine al_nt ?_
 refine aw_sr ?_
 refine al_mv rfl rfl ?_
 refine al_mv rfl rfl ?_
 refine al_val (ov_quo (by decide) rfl rfl rfl) ?_
 refine al_in rfl rfl rfl rfl ?_
 refine al_as rfl rfl ?_
 refine al_nt ?_
 refine aw_sr ?_
 refine al_mv rfl rfl ?_
 obtain ⟨r4, hc3, h⟩ := opt_some h
 refine al_call (vs := [(uq (bits .xor .u64 r2 (wu ((r2).tdiv (536870912 : Int))))), (uq (13787848793156543929 : Int))]) (f_lumref_product_ok fu (bits .xor .u64 r2 (wu ((r2).tdiv (536870912 : Int)))) (13787848793156543929 : Int) hc3) [] [] [] pre_nil rfl (by simp) (by decide) (.inl rfl) rfl Try.func23 rfl rfl rfl (fun _ => ?_)
 refine al_as rfl rfl ?_
 refine al_nt ?_
 refine aw_sr ?_
 refine al_mv rfl rfl ?_
 refine al_mv rfl rfl ?_
 refine al_val (ov_quo (by decide) rfl rfl rfl) ?_
 refine al_in rfl rfl rfl rfl ?_
 refine al_as rfl rfl ?_
 refine al_nt ?_
 refine aw_ret ?_
 obtain rfl := Option.some.inj h
 exact fn_ret () [] [] rfl rfl rfl rfl (res1 rfl rfl) rfl rfl rfl (by decide)
def f_lumref_Narrow_L27 (l11s7 : (List UInt8)) (kk20 : (Int → Option Int)) : Nat → Int → Int → Option Int
  | 0, _, _ => none
  | k26 + 1, l25i8, l25i9 => (bif (decide (l25i9 ≥ (0 : Int))) then (req (0 ≤ l25i9 ∧ l25i9 < (l11s7.length : Int)) (f_lumref_Narrow_L27 l11s7 kk20 k26 (IntKind.u64.wrap ((IntKind.u64.wrap ((256 : Int) * l25i8)) + (IntKind.u64.wrap (En.bAt l11s7 l25i9)))) (IntKind.i64.wrap (l25i9 - (1 : Int))))) else (kk20 l25i8))
def f_lumref_Narrow_L13 (a0 : Int) (kk6 : (Int → Option Int)) (fu : Nat) : Nat → Int → (List UInt8) → Option Int
  | 0, _, _ => none
  | k12 + 1, l11i5, l11s7 => (lt (fun (l11i5 : Int) (l11s7 : (List UInt8)) => (f_lumref_Narrow_L13 a0 kk6 fu k12 l11i5 l11s7)) fun (kk14 : Int → (List UInt8) → Option Int) => (bif (!(l11s7 == ([] : List UInt8))) then (lt (fun (j16i5 : Int) => (req (0 ≤ (8 : Int) ∧ (8 : Int) ≤ (l11s7.length : Int)) (kk14 j16i5 (l11s7.drop ((8 : Int)).toNat)))) fun (kk17 : Int → Option Int) => (lt (fun (j19i8 : Int) => (opt (f_lumref_Step fu l11i5 j19i8) fun (r22 : Int) => (opt (f_lumref_Narrow_1 fu r22 a0) fun (r24 : Int) => (kk17 r24)))) fun (kk20 : Int → Option Int) => (f_lumref_Narrow_L27 l11s7 kk20 fu (0 : Int) (7 : Int)))) else (kk6 l11i5)))
def f_lumref_Narrow (fu : Nat) (a0 : Int) (a1 : (List UInt8)) : Option Int := (opt (f_strings_Repeat fu ([0] : List UInt8) (((IntKind.i64.wrap ((8 : Int) - (((a1.length : Int)).tmod (8 : Int))))).tmod (8 : Int))) fun (r3 : (List UInt8)) => (req (a1.length + r3.length ≤ 9223372036854775807) (lt (fun (j5i5 : Int) => (opt (f_lumref_Step fu j5i5 (IntKind.u64.wrap (a1.length : Int))) fun (r8 : Int) => (opt (f_lumref_Narrow_1 fu r8 a0) fun (r10 : Int) => (some r10)))) fun (kk6 : Int → Option Int) => (f_lumref_Narrow_L13 a0 kk6 fu fu (0 : Int) (a1 ++ r3)))))
set_option maxHeartbeats 2000000 in
set_option maxRecDepth 100000 in
theorem f_lumref_Narrow_ok (fu : Nat) (a0 : Int) (a1 : (List UInt8)) {r : Int} (h : f_lumref_Narrow fu a0 a1 = some r) : FnOk Try.prog 10 [(int .i64 a0), (str a1)] [] [] (fun (i : Unit) => { val := (int .u64 r) }) := by
 unfold f_lumref_Narrow at h
 refine fn_enter Try.func10 rfl Try.ntmps10 rfl (fun w0 Z0 => ?_)
 refine aw_sr ?_
 refine al_box (vs := [(iq a0)]) rfl (cv_rfl rfl) rfl (fun g1 => ?_)
 refine al_as rfl rfl ?_
 refine al_nt ?_
 refine aw_sr ?_
 refine al_as rfl rfl ?_
 refine al_nt ?_
 refine aw_sr ?_
 refine al_val (ov_makeFunc2 (vs := [(pq g1)]) rfl rfl) ?_
 refine al_as rfl rfl ?_
 refine al_nt ?_
 refine aw_sr ?_
 refine al_mv rfl rfl ?_
 refine al_mv rfl rfl ?_
 refine al_val (ov_strLen Try.underlying9 rfl rfl) ?_
 refine al_val (ov_rem (by decide) rfl rfl rfl) ?_
 refine al_in rfl rfl rfl rfl ?_
 refine al_val (ov_rem (by decide) rfl rfl rfl) ?_
 obtain ⟨r3, hc2, h⟩ := opt_some h
 refine al_call (vs := [(str ([0] : List UInt8)), (iq (((wq ((8 : Int) - (((a1.length : Int)).tmod (8 : Int))))).tmod (8 : Int)))]) (f_strings_Repeat_ok fu ([0] : List UInt8) (((wq ((8 : Int) - (((a1.length : Int)).tmod (8 : Int))))).tmod (8 : Int)) hc2) [] [] [0] pre_nil rfl (by simp) (by decide) (.inl rfl) rfl Try.func22 rfl rfl rfl (fun _ => ?_)
 obtain ⟨hc4, h⟩ := req_some h
 refine al_val (ov_strAdd hc4 rfl rfl rfl) ?_
 refine al_as rfl rfl ?_
 refine al_nt ?_
 obtain ⟨kk6, hkk6, h⟩ := lt_some h
 refine aw_seq_join (ι := Int) (fun i => (memOf w0 Z0 [] [(oBox g1 3 [(iq a0)])] [])) (fun i => (tab [(1, (str a1)), (5, (uq i)), (6, (Value.func (.func 21) #[] #[(pq g1)]))])) (fun i => kk6 i = some r) ?_ ?_
 ·rintro j5i5 h
  have h : kk6 j5i5 = some r := h
  rw [hkk6] at h
  dsimp only at h
  clear hkk6
  refine aw_show (m := (memOf w0 Z0 [] [(oBox g1 3 [(iq a0)])] [])) (S := (tab [(1, (str a1)), (5, (uq j5i5)), (6, (Value.func (.func 21) #[] #[(pq g1)]))])) ?_
  refine aw_sr ?_
  refine al_mv rfl rfl ?_
  refine al_mv rfl rfl ?_
  refine al_mv rfl rfl ?_
  refine al_val (ov_strLen Try.underlying9 rfl rfl) ?_
  refine al_val (ov_convInt (by rw [Try.underlying3]; rfl) Try.underlying33 rfl rfl) ?_
  obtain ⟨r8, hc7, h⟩ := opt_some h
  refine al_call (vs := [(uq j5i5), (uq (wu (a1.length : Int)))]) (f_lumref_Step_ok fu j5i5 (wu (a1.length : Int)) hc7) [] [] [0] pre_nil rfl (by simp) (by decide) (.inl rfl) rfl Try.func12 rfl rfl rfl (fun _ => ?_)
  obtain ⟨r10, hc9, h⟩ := opt_some h
  refine al_callF (vs := [(uq r8)]) (caps := [(pq g1)]) (f_lumref_Narrow_1_ok fu r8 (pq g1) a0 hc9) rfl [0] [] [0] (pre_boxP (x := a0) 0 rfl rfl (fun _ _ => rfl) pre_nil) rfl (by simp) (by decide) (.inr flat_res0) rfl rfl Try.func21 rfl rfl rfl (fun _ => ?_)
  refine al_as rfl rfl ?_
  refine al_nt ?_
  refine aw_ret ?_
  obtain rfl := Option.some.inj h
  exact fn_ret () [] [] rfl rfl rfl rfl (res1 rfl rfl) rfl rfl rfl (by decide)
 ·clear hkk6
  refine aw_block ?_
  refine aw_state (aw_loop (ι := Int × (List UInt8)) (fun i => (memOf w0 Z0 [] [(oBox g1 3 [(iq a0)])] [])) (fun i => (tab [(1, (str a1)), (5, (uq i.1)), (6, (Value.func (.func 21) #[] #[(pq g1)])), (7, (str i.2))])) (fun q i => f_lumref_Narrow_L13 a0 kk6 fu q i.1 i.2 = some r) ?_ fu ((0 : Int), (a1 ++ r3)) h) (fun w a hm hs => norm hm hs [0] [] [(1, (str a1)), (5, (uq (0 : Int))), (6, (Value.func (.func 21) #[] #[(pq g1)])), (7, (str (a1 ++ r3)))] (by decide) ⟨rfl, rfl, rfl, rfl, trivial⟩)
  clear h
  rintro k12 ⟨l11i5, l11s7⟩ h
  have h : f_lumref_Narrow_L13 a0 kk6 fu k12 l11i5 l11s7 = some r := h
  obtain _ | k12 := k12
  · rw [f_lumref_Narrow_L13] at h; cases h
  rw [f_lumref_Narrow_L13] at h
  refine aw_show (m := (memOf w0 Z0 [] [(oBox g1 3 [(iq a0)])] [])) (S := (tab [(1, (str a1)), (5, (uq l11i5)), (6, (Value.func (.func 21) #[] #[(pq g1)])), (7, (str l11s7))])) ?_
  obtain ⟨kk14, hkk14, h⟩ := lt_some h
  refine aw_body_join (ι := Int × (List UInt8)) (fun i => (memOf w0 Z0 [] [(oBox g1 3 [(iq a0)])] [])) (fun i => (tab [(1, (str a1)), (5, (uq i.1)), (6, (Value.func (.func 21) #[] #[(pq g1)])), (7, (str i.2))])) (fun i => kk14 i.1 i.2 = some r) (fun i h => aq_again k12 i (Nat.lt_succ_self _) (by rw [hkk14] at h; exact h) (fun w a hm hs => ⟨hm, hs⟩)) ?_
  clear hkk14
  refine aw_seq ?_
  refine aw_sr ?_
  refine al_mv rfl rfl ?_
  refine al_val (ov_strCmp rfl rfl rfl rfl) ?_
  refine al_nt ?_
  refine aw_cond rfl (fun hb15 => ?_) (fun hb15 => ?_)
  ·replace h := bif_t hb15 h
   refine aw_skip ?_
   refine aq_then ?_
   obtain ⟨kk17, hkk17, h⟩ := lt_some h
   refine aw_seq_join (ι := Int) (fun i => (memOf w0 Z0 [] [(oBox g1 3 [(iq a0)])] [])) (fun i => (tab [(1, (str a1)), (5, (uq i)), (6, (Value.func (.func 21) #[] #[(pq g1)])), (7, (str l11s7))])) (fun i => kk17 i = some r) ?_ ?_
   ·rintro j16i5 h
    have h : kk17 j16i5 = some r := h
    rw [hkk17] at h
    dsimp only at h
    clear hkk17
    refine aw_show (m := (memOf w0 Z0 [] [(oBox g1 3 [(iq a0)])] [])) (S := (tab [(1, (str a1)), (5, (uq j16i5)), (6, (Value.func (.func 21) #[] #[(pq g1)])), (7, (str l11s7))])) ?_
    refine aw_region ?_
    refine al_mv rfl rfl ?_
    obtain ⟨hc18, h⟩ := req_some h
    refine al_val (ov_strFrom hc18.1 hc18.2 Try.underlying9 rfl rfl rfl) ?_
    refine al_as rfl rfl ?_
    refine al_nil ?_
    exact aq_join (j16i5, (l11s7.drop ((8 : Int)).toNat)) h (fun w a hm hs => norm hm hs [0] [] [(1, (str a1)), (5, (uq j16i5)), (6, (Value.func (.func 21) #[] #[(pq g1)])), (7, (str (l11s7.drop ((8 : Int)).toNat)))] (by decide) ⟨rfl, rfl, rfl, rfl, trivial⟩)
   ·clear hkk17
    refine aw_block ?_
    refine aw_sr ?_
    refine al_as rfl rfl ?_
    refine al_nt ?_
    obtain ⟨kk20, hkk20, h⟩ := lt_some h
    refine aw_seq_join (ι := Int) (fun i => (memOf w0 Z0 [] [(oBox g1 3 [(iq a0)])] [])) (fun i => (tab [(1, (str a1)), (5, (uq l11i5)), (6, (Value.func (.func 21) #[] #[(pq g1)])), (7, (str l11s7)), (8, (uq i))])) (fun i => kk20 i = some r) ?_ ?_
    ·rintro j19i8 h
     have h : kk20 j19i8 = some r := h
     rw [hkk20] at h
     dsimp only at h
     clear hkk20
     refine aw_show (m := (memOf w0 Z0 [] [(oBox g1 3 [(iq a0)])] [])) (S := (tab [(1, (str a1)), (5, (uq l11i5)), (6, (Value.func (.func 21) #[] #[(pq g1)])), (7, (str l11s7)), (8, (uq j19i8))])) ?_
     refine aw_region ?_
     refine al_mv rfl rfl ?_
     refine al_mv rfl rfl ?_
     refine al_mv rfl rfl ?_
     obtain ⟨r22, hc21, h⟩ := opt_some h
     refine al_call (vs := [(uq l11i5), (uq j19i8)]) (f_lumref_Step_ok fu l11i5 j19i8 hc21) [] [] [0] pre_nil rfl (by simp) (by decide) (.inl rfl) rfl Try.func12 rfl rfl rfl (fun _ => ?_)
     obtain ⟨r24, hc23, h⟩ := opt_some h
     refine al_callF (vs := [(uq r22)]) (caps := [(pq g1)]) (f_lumref_Narrow_1_ok fu r22 (pq g1) a0 hc23) rfl [0] [] [0] (pre_boxP (x := a0) 0 rfl rfl (fun _ _ => rfl) pre_nil) rfl (by simp) (by decide) (.inr flat_res0) rfl rfl Try.func21 rfl rfl rfl (fun _ => ?_)
     refine al_as rfl rfl ?_
     refine al_nil ?_
     refine aq_block ?_
     exact aq_join r24 h (fun w a hm hs => norm hm hs [0] [] [(1, (str a1)), (5, (uq r24)), (6, (Value.func (.func 21) #[] #[(pq g1)])), (7, (str l11s7))] (by decide) ⟨rfl, rfl, rfl, rfl, trivial⟩)
    ·clear hkk20
     refine aw_sr ?_
     refine al_as rfl rfl ?_
     refine al_nt ?_
     refine aw_block ?_
     refine aw_state (aw_loop (ι := Int × Int) (fun i => (memOf w0 Z0 [] [(oBox g1 3 [(iq a0)])] [])) (fun i => (tab [(1, (str a1)), (5, (uq l11i5)), (6, (Value.func (.func 21) #[] #[(pq g1)])), (7, (str l11s7)), (8, (uq i.1)), (9, (iq i.2))])) (fun q i => f_lumref_Narrow_L27 l11s7 kk20 q i.1 i.2 = some r) ?_ fu ((0 : Int), (7 : Int)) h) (fun w a hm hs => norm hm hs [0] [] [(1, (str a1)), (5, (uq l11i5)), (6, (Value.func (.func 21) #[] #[(pq g1)])), (7, (str l11s7)), (8, (uq (0 : Int))), (9, (iq (7 : Int)))] (by decide) ⟨rfl, rfl, rfl, rfl, rfl, rfl, trivial⟩)
     clear h
     rintro k26 ⟨l25i8, l25i9⟩ h
     have h : f_lumref_Narrow_L27 l11s7 kk20 k26 l25i8 l25i9 = some r := h
     obtain _ | k26 := k26
     · rw [f_lumref_Narrow_L27] at h; cases h
     rw [f_lumref_Narrow_L27] at h
     refine aw_show (m := (memOf w0 Z0 [] [(oBox g1 3 [(iq a0)])] [])) (S := (tab [(1, (str a1)), (5, (uq l11i5)), (6, (Value.func (.func 21) #[] #[(pq g1)])), (7, (str l11s7)), (8, (uq l25i8)), (9, (iq l25i9))])) ?_
     refine aw_seq ?_
     refine aw_sr ?_
     refine al_mv rfl rfl ?_
     refine al_in rfl rfl rfl rfl ?_
     refine al_nt ?_
     refine aw_cond rfl (fun hb28 => ?_) (fun hb28 => ?_)
     ·replace h := bif_t hb28 h
      refine aw_skip ?_
      refine aq_then ?_
      refine aw_seq ?_
      refine aw_block ?_
      refine aw_region ?_
      refine al_mv rfl rfl ?_
      refine al_in rfl rfl rfl rfl ?_
      refine al_mv rfl rfl ?_
      refine al_mv rfl rfl ?_
      obtain ⟨hc29, h⟩ := req_some h
      refine al_val (ov_strIdx hc29.1 hc29.2 Try.underlying9 rfl rfl rfl) ?_
      refine al_val (ov_convInt (by rw [Try.underlying5]; rfl) Try.underlying33 rfl rfl) ?_
      refine al_in rfl rfl rfl rfl ?_
      refine al_as rfl rfl ?_
      refine al_nil ?_
      refine aq_block ?_
      refine aq_then ?_
      refine aw_region ?_
      refine al_mv rfl rfl ?_
      refine al_in rfl rfl rfl rfl ?_
      refine al_as rfl rfl ?_
      refine al_nil ?_
      exact aq_again k26 ((wu ((wu ((256 : Int) * l25i8)) + (wu (En.bAt l11s7 l25i9)))), (wq (l25i9 - (1 : Int)))) (Nat.lt_succ_self _) h (fun w a hm hs => norm hm hs [0] [] [(1, (str a1)), (5, (uq l11i5)), (6, (Value.func (.func 21) #[] #[(pq g1)])), (7, (str l11s7)), (8, (uq (wu ((wu ((256 : Int) * l25i8)) + (wu (En.bAt l11s7 l25i9)))))), (9, (iq (wq (l25i9 - (1 : Int)))))] (by decide) ⟨rfl, rfl, rfl, rfl, rfl, rfl, trivial⟩)
     ·replace h := bif_f hb28 h
      refine aw_exit ?_
      refine aq_then_exit ?_
      refine aq_then_exit ?_
      refine aq_block_exit ?_
      exact aq_join l25i8 h (fun w a hm hs => norm hm hs [0] [] [(1, (str a1)), (5, (uq l11i5)), (6, (Value.func (.func 21) #[] #[(pq g1)])), (7, (str l11s7)), (8, (uq l25i8))] (by decide) ⟨rfl, rfl, rfl, rfl, rfl, trivial⟩)
  ·replace h := bif_f hb15 h
   refine aw_exit ?_
   refine aq_then_exit ?_
   refine aq_then_exit ?_
   refine aq_block_exit ?_
   exact aq_join l11i5 h (fun w a hm hs => norm hm hs [0] [] [(1, (str a1)), (5, (uq l11i5)), (6, (Value.func (.func 21) #[] #[(pq g1)]))] (by decide) ⟨rfl, rfl, rfl, trivial⟩)
def f_mix_inverse_L5 (a0 : Int) (kk2 : (Int → Option Int)) : Nat → Int → Int → Option Int
  | 0, _, _ => none
  | k4 + 1, l3i3, l3i5 => (bif (decide (l3i5 < (6 : Int))) then (f_mix_inverse_L5 a0 kk2 k4 (IntKind.u64.wrap (l3i3 * (IntKind.u64.wrap ((2 : Int) - (IntKind.u64.wrap (a0 * l3i3)))))) (IntKind.i64.wrap (l3i5 + (1 : Int)))) else (kk2 l3i3))
def f_mix_inverse (fu : Nat) (a0 : Int) : Option Int := (lt (fun (j1i3 : Int) => (some j1i3)) fun (kk2 : Int → Option Int) => (f_mix_inverse_L5 a0 kk2 fu a0 (0 : Int)))
set_option maxHeartbeats 2000000 in
set_option maxRecDepth 100000 in
theorem f_mix_inverse_ok (fu : Nat) (a0 : Int) {r : Int} (h : f_mix_inverse fu a0 = some r) : FnOk Try.prog 24 [(int .u64 a0)] [] [] (fun (i : Unit) => { val := (int .u64 r) }) := by
 unfold f_mix_inverse at h
 refine fn_enter Try.func24 rfl Try.ntmps24 rfl (fun w0 Z0 => ?_)
 refine aw_sr ?_
 refine al_as rfl rfl ?_
 refine al_nt ?_
 refine aw_sr ?_
 refine al_mv rfl rfl ?_
 refine al_as rfl rfl ?_
 refine al_nt ?_
 obtain ⟨kk2, hkk2, h⟩ := lt_some h
 refine aw_seq_join (ι := Int) (fun i => (memOf w0 Z0 [] [] [])) (fun i => (tab [(3, (uq i))])) (fun i => kk2 i = some r) ?_ ?_
 ·rintro j1i3 h
  have h : kk2 j1i3 = some r := h
  rw [hkk2] at h
  dsimp only at h
  clear hkk2
  refine aw_show (m := (memOf w0 Z0 [] [] [])) (S := (tab [(3, (uq j1i3))])) ?_
  refine aw_sr ?_
  refine al_mv rfl rfl ?_
  refine al_as rfl rfl ?_
  refine al_nt ?_
  refine aw_ret ?_
  obtain rfl := Option.some.inj h
  exact fn_ret () [] [] rfl rfl rfl rfl (res1 rfl rfl) rfl rfl rfl (by decide)
 ·clear hkk2
  refine aw_sr ?_
  refine al_mv rfl rfl ?_
  refine al_nt ?_
  refine aw_block ?_
  refine aw_state (aw_loop (ι := Int × Int) (fun i => (memOf w0 Z0 [] [] [])) (fun i => (tab [(0, (uq a0)), (3, (uq i.1)), (5, (iq i.2))])) (fun q i => f_mix_inverse_L5 a0 kk2 q i.1 i.2 = some r) ?_ fu (a0, (0 : Int)) h) (fun w a hm hs => norm hm hs [] [] [(0, (uq a0)), (3, (uq a0)), (5, (iq (0 : Int)))] (by decide) ⟨rfl, rfl, rfl, trivial⟩)
  clear h
  rintro k4 ⟨l3i3, l3i5⟩ h
  have h : f_mix_inverse_L5 a0 kk2 k4 l3i3 l3i5 = some r := h
  obtain _ | k4 := k4
  · rw [f_mix_inverse_L5] at h; cases h
  rw [f_mix_inverse_L5] at h
  refine aw_show (m := (memOf w0 Z0 [] [] [])) (S := (tab [(0, (uq a0)), (3, (uq l3i3)), (5, (iq l3i5))])) ?_
  refine aw_sr ?_
  refine al_in rfl rfl rfl rfl ?_
  refine al_nt ?_
  refine aw_seq ?_
  refine aw_cond rfl (fun hb6 => ?_) (fun hb6 => ?_)
  ·replace h := bif_t hb6 h
   refine aw_skip ?_
   refine aq_then ?_
   refine aw_seq ?_
   refine aw_block ?_
   refine aw_region ?_
   refine al_mv rfl rfl ?_
   refine al_mv rfl rfl ?_
   refine al_mv rfl rfl ?_
   refine al_in rfl rfl rfl rfl ?_
   refine al_in rfl rfl rfl rfl ?_
   refine al_in rfl rfl rfl rfl ?_
   refine al_as rfl rfl ?_
   refine al_nil ?_
   refine aq_block ?_
   refine aq_then ?_
   refine aw_region ?_
   refine al_in rfl rfl rfl rfl ?_
   refine al_mv rfl rfl ?_
   refine al_nil ?_
   exact aq_again k4 ((wu (l3i3 * (wu ((2 : Int) - (wu (a0 * l3i3)))))), (wq (l3i5 + (1 : Int)))) (Nat.lt_succ_self _) h (fun w a hm hs => norm hm hs [] [] [(0, (uq a0)), (3, (uq (wu (l3i3 * (wu ((2 : Int) - (wu (a0 * l3i3)))))))), (5, (iq (wq (l3i5 + (1 : Int)))))] (by decide) ⟨rfl, rfl, rfl, trivial⟩)
  ·replace h := bif_f hb6 h
   refine aw_exit ?_
   refine aq_then_exit ?_
   refine aq_then_exit ?_
   refine aq_block_exit ?_
   exact aq_join l3i3 h (fun w a hm hs => norm hm hs [] [] [(3, (uq l3i3))] (by decide) ⟨rfl, trivial⟩)
def f_mix_Undo (fu : Nat) (a0 : Int) (a1 : Int) : Option Int := (opt (f_mix_inverse fu (13787848793156543929 : Int)) fun (r2 : Int) => (opt (f_mix_inverse fu (11400714819323198485 : Int)) fun (r4 : Int) => (some (bits .xor .u64 (IntKind.u64.wrap ((bits .xor .u64 (bits .xor .u64 (IntKind.u64.wrap ((bits .xor .u64 a0 ((a0).fdiv (2 ^ min ((32 : Int)).toNat (IntKind.bits .u64)))) * r2)) (((IntKind.u64.wrap ((bits .xor .u64 a0 ((a0).fdiv (2 ^ min ((32 : Int)).toNat (IntKind.bits .u64)))) * r2))).fdiv (2 ^ min ((29 : Int)).toNat (IntKind.bits .u64)))) (((IntKind.u64.wrap ((bits .xor .u64 a0 ((a0).fdiv (2 ^ min ((32 : Int)).toNat (IntKind.bits .u64)))) * r2))).fdiv (2 ^ min ((58 : Int)).toNat (IntKind.bits .u64)))) * r4)) a1))))
set_option maxHeartbeats 2000000 in
set_option maxRecDepth 100000 in
theorem f_mix_Undo_ok (fu : Nat) (a0 : Int) (a1 : Int) {r : Int} (h : f_mix_Undo fu a0 a1 = some r) : FnOk Try.prog 13 [(int .u64 a0), (int .u64 a1)] [] [] (fun (i : Unit) => { val := (int .u64 r) }) := by
 unfold f_mix_Undo at h
 refine fn_enter Try.func13 rfl Try.ntmps13 rfl (fun w0 Z0 => ?_)
 refine aw_sr ?_
 refine al_as rfl rfl ?_
 refine al_nt ?_
 refine aw_sr ?_
 refine al_mv rfl rfl ?_
 refine al_mv rfl rfl ?_
 refine al_val (ov_shr (by decide) rfl rfl rfl) ?_
 refine al_in rfl rfl rfl rfl ?_
 obtain ⟨r2, hc1, h⟩ := opt_some h
 refine al_call (vs := [(uq (13787848793156543929 : Int))]) (f_mix_inverse_ok fu (13787848793156543929 : Int) hc1) [] [] [] pre_nil rfl (by simp) (by decide) (.inl rfl) rfl Try.func24 rfl rfl rfl (fun _ => ?_)
 refine al_in rfl rfl rfl rfl ?_
 refine al_as rfl rfl ?_
 refine al_nt ?_
 refine aw_sr ?_
 refine al_mv rfl rfl ?_
 refine al_mv rfl rfl ?_
 refine al_val (ov_shr (by decide) rfl rfl rfl) ?_
 refine al_in rfl rfl rfl rfl ?_
 refine al_mv rfl rfl ?_
 refine al_val (ov_shr (by decide) rfl rfl rfl) ?_
 refine al_in rfl rfl rfl rfl ?_
 refine al_as rfl rfl ?_
 refine al_nt ?_
 refine aw_sr ?_
 refine al_mv rfl rfl ?_
 obtain ⟨r4, hc3, h⟩ := opt_some h
 refine al_call (vs := [(uq (11400714819323198485 : Int))]) (f_mix_inverse_ok fu (11400714819323198485 : Int) hc3) [] [] [] pre_nil rfl (by simp) (by decide) (.inl rfl) rfl Try.func24 rfl rfl rfl (fun _ => ?_)
 refine al_in rfl rfl rfl rfl ?_
 refine al_mv rfl rfl ?_
 refine al_in rfl rfl rfl rfl ?_
 refine al_as rfl rfl ?_
 refine al_nt ?_
 refine aw_ret ?_
 obtain rfl := Option.some.inj h
 exact fn_ret () [] [] rfl rfl rfl rfl (res1 rfl rfl) rfl rfl rfl (by decide)
def f_mix_Sum (fu : Nat) (a0 : (List UInt8)) : Option Int := (opt (f_mix_sum fu a0 (18446744073709551615 : Int)) fun (r2 : Int) => (some r2))
set_option maxRecDepth 100000 in
theorem f_mix_Sum_ok (fu : Nat) (a0 : (List UInt8)) {r : Int} (h : f_mix_Sum fu a0 = some r) : FnOk Try.prog 14 [(str a0)] [] [] (fun (i : Unit) => { val := (int .u64 r) }) := by
 unfold f_mix_Sum at h
 refine fn_enter Try.func14 rfl Try.ntmps14 rfl (fun w0 Z0 => ?_)
 refine aw_sr ?_
 refine al_as rfl rfl ?_
 refine al_nt ?_
 refine aw_sr ?_
 refine al_mv rfl rfl ?_
 obtain ⟨r2, hc1, h⟩ := opt_some h
 refine al_call (vs := [(str a0), (uq (18446744073709551615 : Int))]) (f_mix_sum_ok fu a0 (18446744073709551615 : Int) hc1) [] [] [] pre_nil rfl (by simp) (by decide) (.inl rfl) rfl Try.func20 rfl rfl rfl (fun _ => ?_)
 refine al_as rfl rfl ?_
 refine al_nt ?_
 refine aw_ret ?_
 obtain rfl := Option.some.inj h
 exact fn_ret () [] [] rfl rfl rfl rfl (res1 rfl rfl) rfl rfl rfl (by decide)
-- STUCK (encoding/binary.bigEndian).PutUint64: IndexError string index out of range at par:705
def f_mix_ID (fu : Nat) (a0 : (List UInt8)) : Option A8u8 := (opt (f_mix_Sum fu a0) fun (r4 : Int) => (req (0 ≤ r4 ∧ r4 < 18446744073709551616) (some (cpA8u8 (A8u8.mk (0 : UInt8) (0 : UInt8) (0 : UInt8) (0 : UInt8) (0 : UInt8) (0 : UInt8) (0 : UInt8) (0 : UInt8)) (Lib.beBytes 8 (r4).toNat)))))
set_option maxRecDepth 100000 in
theorem f_mix_ID_ok (fu : Nat) (a0 : (List UInt8)) {r : A8u8} (h : f_mix_ID fu a0 = some r) : FnOk Try.prog 15 [(str a0)] [] [] (fun (i : Unit) => { val := (ag (cA8u8 r)) }) := by
 unfold f_mix_ID at h
 refine fn_enter Try.func15 rfl Try.ntmps15 rfl (fun w0 Z0 => ?_)
 refine aw_sr ?_
 refine al_alloc (zs := (cA8u8 (A8u8.mk (0 : UInt8) (0 : UInt8) (0 : UInt8) (0 : UInt8) (0 : UInt8) (0 : UInt8) (0 : UInt8) (0 : UInt8)))) (zeroOf_to to40) rfl rfl (fun g1 => ?_)
 refine al_nt ?_
 refine aw_sr ?_
 refine al_alloc (zs := (cA8u8 (A8u8.mk (0 : UInt8) (0 : UInt8) (0 : UInt8) (0 : UInt8) (0 : UInt8) (0 : UInt8) (0 : UInt8) (0 : UInt8)))) (zeroOf_to to40) rfl rfl (fun g2 => ?_)
 refine al_nt ?_
 refine aw_seq ?_
 obtain ⟨r4, hc3, h⟩ := opt_some h
 refine aw_region_draw 4 [(4, (fun u => fEq u (ag []))), (5, (fun u => fEq u (sbx g2 0 8))), (6, (fun u => fEq u (str a0))), (7, (fun u => fEq u (uq r4)))] (tab [(0, (str a0)), (2, (pq g1)), (3, (pq g2))]) mixed (by kernel_rfl) rfl rfl rfl (fun a hs => hs.tab _ (allT_mem ⟨rfl, rfl, rfl, trivial⟩)) ⟨⟨rfl, ld_val (ov_load0 Try.underlying49 sz49 rfl rfl rfl)⟩, ⟨rfl, ld_val (ov_sliceBox (i := 0) rfl rfl Try.underlying40 sz5 rfl)⟩, ⟨rfl, ld_val (ov_move rfl rfl)⟩, ⟨rfl, ld_eq (j := 2) rfl rfl (ld_callV (vs := [(str a0)]) (f_mix_Sum_ok fu a0 hc3) [] pre_nil rfl Try.func14 rfl rfl rfl)⟩, trivial⟩ ?_
 refine tl_eq 0 rfl ?_
 refine tl_eq 1 rfl ?_
 refine tl_eq 3 rfl ?_
 refine tl_done ?_
 obtain ⟨hc5, h⟩ := req_some h
 refine al_call (vs := [(ag []), (sbx g2 0 8), (uq r4)]) (f_put8_ok (g := g2) (off := 0) (t := 40) (a2 := r4) (cs := (cA8u8 (A8u8.mk (0 : UInt8) (0 : UInt8) (0 : UInt8) (0 : UInt8) (0 : UInt8) (0 : UInt8) (0 : UInt8) (0 : UInt8)))) (cs' := (cA8u8 (cpA8u8 (A8u8.mk (0 : UInt8) (0 : UInt8) (0 : UInt8) (0 : UInt8) (0 : UInt8) (0 : UInt8) (0 : UInt8) (0 : UInt8)) (Lib.beBytes 8 (r4).toNat)))) hc5 (Nat.le_of_ble_eq_true rfl) (cpcA8u8 (A8u8.mk (0 : UInt8) (0 : UInt8) (0 : UInt8) (0 : UInt8) (0 : UInt8) (0 : UInt8) (0 : UInt8) (0 : UInt8)) (Lib.beBytes 8 (r4).toNat) [] [])) [] [0] [1] pre_nil rfl (by simp) (by decide) (.inl rfl) rfl Try.func25 rfl rfl rfl (fun _ => ?_)
 refine al_nt ?_
 refine aw_sr ?_
 refine al_val (ov_load (i := 0) (v := (ag (cA8u8 (cpA8u8 (A8u8.mk (0 : UInt8) (0 : UInt8) (0 : UInt8) (0 : UInt8) (0 : UInt8) (0 : UInt8) (0 : UInt8) (0 : UInt8)) (Lib.beBytes 8 (r4).toNat))))) rfl rfl Try.underlying40 sz40 rfl rfl rfl rfl) ?_
 refine al_store (i := 1) (vs := (cA8u8 (cpA8u8 (A8u8.mk (0 : UInt8) (0 : UInt8) (0 : UInt8) (0 : UInt8) (0 : UInt8) (0 : UInt8) (0 : UInt8) (0 : UInt8)) (Lib.beBytes 8 (r4).toNat)))) (cs' := (cA8u8 (cpA8u8 (A8u8.mk (0 : UInt8) (0 : UInt8) (0 : UInt8) (0 : UInt8) (0 : UInt8) (0 : UInt8) (0 : UInt8) (0 : UInt8)) (Lib.beBytes 8 (r4).toNat)))) rfl rfl rfl sz40 (cv_rfl rfl) rfl (co_all (oneA8u8 (cpA8u8 (A8u8.mk (0 : UInt8) (0 : UInt8) (0 : UInt8) (0 : UInt8) (0 : UInt8) (0 : UInt8) (0 : UInt8) (0 : UInt8)) (Lib.beBytes 8 (r4).toNat)))) (Nat.le_of_ble_eq_true rfl) rfl rfl ?_
 refine al_nt ?_
 refine aw_ret ?_
 obtain rfl := Option.some.inj h
 exact fn_ret () [] [] rfl rfl rfl rfl (resC rfl (resB (i := 1) rfl rfl Try.underlying40 sz40 rfl rfl rfl (resN)) rfl) rfl rfl rfl (by decide)
def f_lumref_digits : Nat → Int → Option (List UInt8)
  | 0, _ => none
  | fu + 1, a0 => (bif (a0 == (0 : Int)) then (some ([] : List UInt8)) else (opt (f_lumref_digits fu (IntKind.u64.wrap ((a0).tdiv (256 : Int)))) fun (r3 : (List UInt8)) => (req (0 ≤ (IntKind.u8.wrap ((a0).tmod (256 : Int))) ∧ (IntKind.u8.wrap ((a0).tmod (256 : Int))) ≤ 255) (req (r3.length + ([(UInt8.ofNat ((IntKind.u8.wrap ((a0).tmod (256 : Int)))).toNat)]).length ≤ 9223372036854775807) (some (r3 ++ ([(UInt8.ofNat ((IntKind.u8.wrap ((a0).tmod (256 : Int)))).toNat)])))))))
set_option maxHeartbeats 2000000 in
set_option maxRecDepth 100000 in
theorem f_lumref_digits_ok (fu : Nat) (a0 : Int) {r : (List UInt8)} (h : f_lumref_digits fu a0 = some r) : FnOk Try.prog 36 [(int .u64 a0)] [] [] (fun (i : Unit) => { val := (str r) }) := by
 cases fu with
 | zero => rw [f_lumref_digits] at h; cases h
 | succ fu =>
  rw [f_lumref_digits] at h
  refine fn_enter Try.func36 rfl Try.ntmps36 rfl (fun w0 Z0 => ?_)
  refine aw_sr ?_
  refine al_as rfl rfl ?_
  refine al_nt ?_
  refine aw_seq ?_
  refine aw_sr ?_
  refine al_mv rfl rfl ?_
  refine al_in rfl rfl rfl rfl ?_
  refine al_nt ?_
  refine aw_cond rfl (fun hb1 => ?_) (fun hb1 => ?_)
  ·replace h := bif_t hb1 h
   refine aw_sr ?_
   refine al_as rfl rfl ?_
   refine al_nt ?_
   refine aw_ret ?_
   refine aq_then_ret ?_
   obtain rfl := Option.some.inj h
   exact fn_ret () [] [] rfl rfl rfl rfl (res1 rfl rfl) rfl rfl rfl (by decide)
  ·replace h := bif_f hb1 h
   refine aw_skip ?_
   refine aq_then ?_
   refine aw_seq ?_
   obtain ⟨r3, hc2, h⟩ := opt_some h
   obtain ⟨hc5, h⟩ := req_some h
   obtain ⟨hc6, h⟩ := req_some h
   refine aw_region_draw 9 [(5, (fun u => fEq u (uq a0))), (6, (fun u => fEq u (uq (wu ((a0).tdiv (256 : Int)))))), (7, (fun u => fEq u (str r3))), (8, (fun u => fEq u (uq a0))), (9, (fun u => fEq u (uq ((a0).tmod (256 : Int))))), (10, (fun u => fEq u (i8 (w8 ((a0).tmod (256 : Int)))))), (11, (fun v4 => (fDat (tyList tyU8) [v4] [(UInt8.ofNat ((w8 ((a0).tmod (256 : Int)))).toNat)]))), (12, (fun u => fEq u (str [(UInt8.ofNat ((w8 ((a0).tmod (256 : Int)))).toNat)]))), (13, (fun u => fEq u (str (r3 ++ ([(UInt8.ofNat ((w8 ((a0).tmod (256 : Int)))).toNat)])))))] (tab [(0, (uq a0)), (2, (str ([] : List UInt8)))]) mixed (by kernel_rfl) rfl rfl rfl (fun a hs => hs.tab _ (allT_mem ⟨rfl, rfl, trivial⟩)) ⟨⟨rfl, ld_val (ov_move rfl rfl)⟩, ⟨rfl, ld_eq (j := 0) rfl rfl (ld_val (ov_quo (by decide) rfl rfl rfl))⟩, ⟨rfl, ld_eq (j := 1) rfl rfl (ld_callV (vs := [(uq (wu ((a0).tdiv (256 : Int))))]) (f_lumref_digits_ok fu (wu ((a0).tdiv (256 : Int))) hc2) [] pre_nil rfl Try.func36 rfl rfl rfl)⟩, ⟨rfl, ld_val (ov_move rfl rfl)⟩, ⟨rfl, ld_eq (j := 3) rfl rfl (ld_val (ov_rem (by decide) rfl rfl rfl))⟩, ⟨rfl, ld_eq (j := 4) rfl rfl (ld_val (ov_convInt (by rw [Try.underlying33]; rfl) Try.underlying5 rfl rfl))⟩, ⟨rfl, ld_eq (j := 5) rfl rfl (ld_buildSlice (τ := tyU8) (e := 5) (k := 1) (cs := [(i8 (w8 ((a0).tmod (256 : Int))))]) (xs := [(UInt8.ofNat ((w8 ((a0).tmod (256 : Int)))).toNat)]) rfl (by decide) rfl (fun w a hm hs => ⟨([(i8 (w8 ((a0).tmod (256 : Int))))]).toArray, rfl, by simp only [List.map_toArray, List.map_cons, List.map_nil, hs.ev (x := .tmp 10) rfl]; exact run_bs [(i8 (w8 ((a0).tmod (256 : Int))))] [(i8 (w8 ((a0).tmod (256 : Int))))] Try.underlying51 to5 rfl rfl (bs_cons (l := [(i8 (w8 ((a0).tmod (256 : Int))))]) (cs := []) (cv_rfl rfl) rfl bs_nil) hm⟩) (fun hm => ⟨_, _, rfl, (fun _ => u8_rep hc5) hm, rfl⟩) rfl)⟩, ⟨rfl, ld_fact (j := 6) rfl rfl (fun v4 => ld_val (ov_toStr 0 rfl rfl Try.underlying51 Try.underlying5 Try.underlying9 rfl))⟩, ⟨rfl, ld_eq (j := 2) rfl rfl (ld_eq (j := 7) rfl rfl (ld_val (ov_strAdd hc6 rfl rfl rfl)))⟩, trivial⟩ ?_
   refine tl_eq 8 rfl ?_
   refine tl_done ?_
   refine al_as rfl rfl ?_
   refine al_nt ?_
   refine aw_ret ?_
   obtain rfl := Option.some.inj h
   exact fn_ret () [] [] rfl rfl rfl rfl (res1 rfl rfl) rfl rfl rfl (by decide)
def f_lumref_wide (fu : Nat) (a0 : Int) : Option (List UInt8) := (opt (f_lumref_digits fu a0) fun (r2 : (List UInt8)) => (opt (f_strings_Repeat fu ([0] : List UInt8) (IntKind.i64.wrap ((8 : Int) - (r2.length : Int)))) fun (r4 : (List UInt8)) => (req (r4.length + r2.length ≤ 9223372036854775807) (some (r4 ++ r2)))))
set_option maxRecDepth 100000 in
theorem f_lumref_wide_ok (fu : Nat) (a0 : Int) {r : (List UInt8)} (h : f_lumref_wide fu a0 = some r) : FnOk Try.prog 26 [(int .u64 a0)] [] [] (fun (i : Unit) => { val := (str r) }) := by
 unfold f_lumref_wide at h
 refine fn_enter Try.func26 rfl Try.ntmps26 rfl (fun w0 Z0 => ?_)
 refine aw_sr ?_
 refine al_as rfl rfl ?_
 refine al_nt ?_
 refine aw_sr ?_
 refine al_mv rfl rfl ?_
 obtain ⟨r2, hc1, h⟩ := opt_some h
 refine al_call (vs := [(uq a0)]) (f_lumref_digits_ok fu a0 hc1) [] [] [] pre_nil rfl (by simp) (by decide) (.inl rfl) rfl Try.func36 rfl rfl rfl (fun _ => ?_)
 refine al_as rfl rfl ?_
 refine al_nt ?_
 refine aw_sr ?_
 refine al_mv rfl rfl ?_
 refine al_val (ov_strLen Try.underlying9 rfl rfl) ?_
 refine al_in rfl rfl rfl rfl ?_
 obtain ⟨r4, hc3, h⟩ := opt_some h
 refine al_call (vs := [(str ([0] : List UInt8)), (iq (wq ((8 : Int) - (r2.length : Int))))]) (f_strings_Repeat_ok fu ([0] : List UInt8) (wq ((8 : Int) - (r2.length : Int))) hc3) [] [] [] pre_nil rfl (by simp) (by decide) (.inl rfl) rfl Try.func22 rfl rfl rfl (fun _ => ?_)
 refine al_mv rfl rfl ?_
 obtain ⟨hc5, h⟩ := req_some h
 refine al_val (ov_strAdd hc5 rfl rfl rfl) ?_
 refine al_as rfl rfl ?_
 refine al_nt ?_
 refine aw_ret ?_
 obtain rfl := Option.some.inj h
 exact fn_ret () [] [] rfl rfl rfl rfl (res1 rfl rfl) rfl rfl rfl (by decide)
def f_lumref_ID (fu : Nat) (a0 : (List UInt8)) : Option A8u8 := (opt (f_lumref_Narrow fu (64 : Int) a0) fun (r3 : Int) => (opt (f_lumref_wide fu r3) fun (r5 : (List UInt8)) => (req (r5.length ≤ 9223372036854775807) (req (8 ≤ r5.length) (some (ofA8u8 r5))))))
set_option maxRecDepth 100000 in
theorem f_lumref_ID_ok (fu : Nat) (a0 : (List UInt8)) {r : A8u8} (h : f_lumref_ID fu a0 = some r) : FnOk Try.prog 16 [(str a0)] [] [] (fun (i : Unit) => { val := (ag (cA8u8 r)) }) := by
 unfold f_lumref_ID at h
 refine fn_enter Try.func16 rfl Try.ntmps16 rfl (fun w0 Z0 => ?_)
 refine aw_sr ?_
 refine al_alloc (zs := (cA8u8 (A8u8.mk (0 : UInt8) (0 : UInt8) (0 : UInt8) (0 : UInt8) (0 : UInt8) (0 : UInt8) (0 : UInt8) (0 : UInt8)))) (zeroOf_to to40) rfl rfl (fun g1 => ?_)
 refine al_nt ?_
 refine aw_sr ?_
 refine al_mv rfl rfl ?_
 obtain ⟨r3, hc2, h⟩ := opt_some h
 refine al_call (vs := [(iq (64 : Int)), (str a0)]) (f_lumref_Narrow_ok fu (64 : Int) a0 hc2) [] [] [0] pre_nil rfl (by simp) (by decide) (.inl rfl) rfl Try.func10 rfl rfl rfl (fun _ => ?_)
 obtain ⟨r5, hc4, h⟩ := opt_some h
 refine al_call (vs := [(uq r3)]) (f_lumref_wide_ok fu r3 hc4) [] [] [0] pre_nil rfl (by simp) (by decide) (.inl rfl) rfl Try.func26 rfl rfl rfl (fun _ => ?_)
 obtain ⟨hc6, h⟩ := req_some h
 refine al_bytes hc6 rfl Try.underlying9 Try.underlying51 Try.underlying5 rfl (fun s7 => ?_)
 obtain ⟨hc9, h⟩ := req_some h
 refine al_s2ap (τA := tyA8u8) (x := (ofA8u8 r5)) 0 8 hc9 rfl (fun h9 => oflA8u8 hc9 h9) rfl rfl Try.underlying40 rfl (fun p8 => ?_)
 refine al_val (ov_loadP (ds := (cA8u8 (ofA8u8 r5))) 0 rfl encA8u8 rfl Try.underlying40 sz40 rfl rfl rfl) ?_
 refine al_store (i := 0) (vs := (cA8u8 (ofA8u8 r5))) (cs' := (cA8u8 (ofA8u8 r5))) rfl rfl rfl sz40 (cv_rfl rfl) rfl (co_all (oneA8u8 (ofA8u8 r5))) (Nat.le_of_ble_eq_true rfl) rfl rfl ?_
 refine al_nt ?_
 refine aw_ret ?_
 obtain rfl := Option.some.inj h
 exact fn_ret () [] [] rfl rfl rfl rfl (resC rfl (resB (i := 0) rfl rfl Try.underlying40 sz40 rfl rfl rfl (resN)) rfl) rfl rfl rfl (by decide)
def f_lumlaw_MixSays (fu : Nat) (a0 : Int) (a1 : Int) (a2 : Int) (a3 : (List UInt8)) : Option Bool := (opt (f_mix_Narrow fu a2 a3) fun (r2 : (Int × Int)) => (lt (fun (_ : Unit) => (lt (fun (j5b8 : Bool) => (some j5b8)) fun (kk6 : Bool → Option Bool) => (opt (f_mix_Step fu a0 a1) fun (r8 : Int) => (opt (f_lumref_Step fu a0 a1) fun (r10 : Int) => (bif (r8 == r10) then (opt (f_mix_Undo fu a0 a1) fun (r13 : Int) => (opt (f_lumref_Step fu r13 a1) fun (r15 : Int) => (bif (r15 == a0) then (opt (f_mix_Sum fu a3) fun (r18 : Int) => (opt (f_lumref_Narrow fu (64 : Int) a3) fun (r20 : Int) => (bif (r18 == r20) then (opt (f_mix_ID fu a3) fun (r23 : A8u8) => (opt (f_lumref_ID fu a3) fun (r25 : A8u8) => (kk6 (r23 == r25)))) else (kk6 false)))) else (kk6 false)))) else (kk6 false)))))) fun (kk4 : Unit → Option Bool) => (lt (fun (j26b22 : Bool) => (bif j26b22 then (lt (fun (j29b28 : Bool) => (bif j29b28 then (some false) else (kk4 ()))) fun (kk30 : Bool → Option Bool) => (bif (r2.1 != (0 : Int)) then (kk30 true) else (kk30 (r2.2 != (1 : Int))))) else (lt (fun (j33b37 : Bool) => (bif j33b37 then (some false) else (kk4 ()))) fun (kk34 : Bool → Option Bool) => (bif (r2.2 != (0 : Int)) then (kk34 true) else (opt (f_lumref_Narrow fu a2 a3) fun (r38 : Int) => (kk34 (r2.1 != r38))))))) fun (kk27 : Bool → Option Bool) => (bif (decide (a2 < (1 : Int))) then (kk27 true) else (kk27 (decide (a2 > (64 : Int))))))))
set_option maxRecDepth 100000 in
set_option maxHeartbeats 2000000 in
set_option maxHeartbeats 2000000 in
theorem f_lumlaw_MixSays_ok (fu : Nat) (a0 : Int) (a1 : Int) (a2 : Int) (a3 : (List UInt8)) {r : Bool} (h : f_lumlaw_MixSays fu a0 a1 a2 a3 = some r) : FnOk Try.prog 4 [(int .u64 a0), (int .u64 a1), (int .i64 a2), (str a3)] [] [] (fun (i : Unit) => { val := (bool r) }) := by
 unfold f_lumlaw_MixSays at h
 refine fn_enter Try.func4 rfl Try.ntmps4 rfl (fun w0 Z0 => ?_)
 refine aw_sr ?_
 refine al_as rfl rfl ?_
 refine al_nt ?_
 refine aw_sr ?_
 refine al_mv rfl rfl ?_
 refine al_mv rfl rfl ?_
 obtain ⟨r2, hc1, h⟩ := opt_some h
 refine al_call (vs := [(iq a2), (str a3)]) (f_mix_Narrow_ok fu a2 a3 hc1) [] [] [] pre_nil rfl (by simp) (by decide) (.inl rfl) rfl Try.func9 rfl rfl rfl (fun _ => ?_)
 refine al_mv rfl rfl ?_
 refine al_ex rfl rfl rfl ?_
 refine al_ex rfl rfl rfl ?_
 refine al_as rfl rfl ?_
 refine al_as rfl rfl ?_
 refine al_nt ?_
 obtain ⟨kk4, hkk4, h⟩ := lt_some h
 refine aw_seq_join (ι := Unit) (fun i => (memOf w0 Z0 [] [] [])) (fun i => (tab [(0, (uq a0)), (1, (uq a1)), (3, (str a3))])) (fun i => kk4 () = some r) ?_ ?_
 ·rintro _ h
  have h : kk4 () = some r := h
  rw [hkk4] at h
  dsimp only at h
  clear hkk4
  refine aw_show (m := (memOf w0 Z0 [] [] [])) (S := (tab [(0, (uq a0)), (1, (uq a1)), (3, (str a3))])) ?_
  obtain ⟨kk6, hkk6, h⟩ := lt_some h
  refine aw_seq_join (ι := Bool) (fun i => (memOf w0 Z0 [] [] [])) (fun i => (tab [(8, (bool i))])) (fun i => kk6 i = some r) ?_ ?_
  ·rintro j5b8 h
   have h : kk6 j5b8 = some r := h
   rw [hkk6] at h
   dsimp only at h
   clear hkk6
   refine aw_show (m := (memOf w0 Z0 [] [] [])) (S := (tab [(8, (bool j5b8))])) ?_
   refine aw_ret ?_
   obtain rfl := Option.some.inj h
   exact fn_ret () [] [] rfl rfl rfl rfl (res1 rfl rfl) rfl rfl rfl (by decide)
  ·clear hkk6
   refine aw_region ?_
   refine al_mv rfl rfl ?_
   refine al_mv rfl rfl ?_
   obtain ⟨r8, hc7, h⟩ := opt_some h
   refine al_call (vs := [(uq a0), (uq a1)]) (f_mix_Step_ok fu a0 a1 hc7) [] [] [] pre_nil rfl (by simp) (by decide) (.inl rfl) rfl Try.func11 rfl rfl rfl (fun _ => ?_)
   refine al_mv rfl rfl ?_
   refine al_mv rfl rfl ?_
   obtain ⟨r10, hc9, h⟩ := opt_some h
   refine al_call (vs := [(uq a0), (uq a1)]) (f_lumref_Step_ok fu a0 a1 hc9) [] [] [] pre_nil rfl (by simp) (by decide) (.inl rfl) rfl Try.func12 rfl rfl rfl (fun _ => ?_)
   refine al_in rfl rfl rfl rfl ?_
   refine al_mv rfl rfl ?_
   refine al_caseB 45 rfl (fun hb11 => ?_) (fun hb11 => ?_)
   ·replace h := bif_t hb11 h
    refine al_mv rfl rfl ?_
    refine al_mv rfl rfl ?_
    obtain ⟨r13, hc12, h⟩ := opt_some h
    refine al_call (vs := [(uq a0), (uq a1)]) (f_mix_Undo_ok fu a0 a1 hc12) [] [] [] pre_nil rfl (by simp) (by decide) (.inl rfl) rfl Try.func13 rfl rfl rfl (fun _ => ?_)
    refine al_mv rfl rfl ?_
    obtain ⟨r15, hc14, h⟩ := opt_some h
    refine al_call (vs := [(uq r13), (uq a1)]) (f_lumref_Step_ok fu r13 a1 hc14) [] [] [] pre_nil rfl (by simp) (by decide) (.inl rfl) rfl Try.func12 rfl rfl rfl (fun _ => ?_)
    refine al_mv rfl rfl ?_
    refine al_in rfl rfl rfl rfl ?_
    refine al_val (ov_pick_t rfl rfl rfl) ?_
    refine al_mv rfl rfl ?_
    refine al_caseB 54 rfl (fun hb16 => ?_) (fun hb16 => ?_)
    ·replace h := bif_t hb16 h
     refine al_mv rfl rfl ?_
     obtain ⟨r18, hc17, h⟩ := opt_some h
     refine al_call (vs := [(str a3)]) (f_mix_Sum_ok fu a3 hc17) [] [] [] pre_nil rfl (by simp) (by decide) (.inl rfl) rfl Try.func14 rfl rfl rfl (fun _ => ?_)
     refine al_mv rfl rfl ?_
     obtain ⟨r20, hc19, h⟩ := opt_some h
     refine al_call (vs := [(iq (64 : Int)), (str a3)]) (f_lumref_Narrow_ok fu (64 : Int) a3 hc19) [] [] [] pre_nil rfl (by simp) (by decide) (.inl rfl) rfl Try.func10 rfl rfl rfl (fun _ => ?_)
     refine al_in rfl rfl rfl rfl ?_
     refine al_val (ov_pick_t rfl rfl rfl) ?_
     refine al_mv rfl rfl ?_
     refine al_caseB 61 rfl (fun hb21 => ?_) (fun hb21 => ?_)
     ·replace h := bif_t hb21 h
      refine al_mv rfl rfl ?_
      obtain ⟨r23, hc22, h⟩ := opt_some h
      refine al_call (vs := [(str a3)]) (f_mix_ID_ok fu a3 hc22) [] [] [] pre_nil rfl (by simp) (by decide) (.inl rfl) rfl Try.func15 rfl rfl rfl (fun _ => ?_)
      refine al_mv rfl rfl ?_
      obtain ⟨r25, hc24, h⟩ := opt_some h
      refine al_call (vs := [(str a3)]) (f_lumref_ID_ok fu a3 hc24) [] [] [] pre_nil rfl (by simp) (by decide) (.inl rfl) rfl Try.func16 rfl rfl rfl (fun _ => ?_)
      refine al_val (ov_eqlA (cs := (cA8u8 r23)) (ds := (cA8u8 r25)) (ls := [5, 5, 5, 5, 5, 5, 5, 5]) (p := (r23 == r25)) eg40 kt40 lv40 rfl rfl (by kernel_rfl) (by kernel_rfl) (fit_cons (fit_u8 Try.underlying5) (fit_cons (fit_u8 Try.underlying5) (fit_cons (fit_u8 Try.underlying5) (fit_cons (fit_u8 Try.underlying5) (fit_cons (fit_u8 Try.underlying5) (fit_cons (fit_u8 Try.underlying5) (fit_cons (fit_u8 Try.underlying5) (fit_cons (fit_u8 Try.underlying5) fit_nil)))))))) (fit_cons (fit_u8 Try.underlying5) (fit_cons (fit_u8 Try.underlying5) (fit_cons (fit_u8 Try.underlying5) (fit_cons (fit_u8 Try.underlying5) (fit_cons (fit_u8 Try.underlying5) (fit_cons (fit_u8 Try.underlying5) (fit_cons (fit_u8 Try.underlying5) (fit_cons (fit_u8 Try.underlying5) fit_nil)))))))) (injA8u8 (x := r23) (y := r25)) rfl) ?_
      refine al_val (ov_pick_t rfl rfl rfl) ?_
      refine al_as rfl rfl ?_
      refine al_nil ?_
      exact aq_join (r23 == r25) h (fun w a hm hs => norm hm hs [] [] [(8, (bool (r23 == r25)))] (by decide) ⟨rfl, trivial⟩)
     ·replace h := bif_f hb21 h
      refine al_skip ?_
      refine al_skip ?_
      refine al_skip ?_
      refine al_skip ?_
      refine al_skip ?_
      refine al_val (ov_pick_f rfl rfl rfl) ?_
      refine al_as rfl rfl ?_
      refine al_nil ?_
      exact aq_join false h (fun w a hm hs => norm hm hs [] [] [(8, (bool false))] (by decide) ⟨rfl, trivial⟩)
    ·replace h := bif_f hb16 h
     refine al_skip ?_
     refine al_skip ?_
     refine al_skip ?_
     refine al_skip ?_
     refine al_skip ?_
     refine al_val (ov_pick_f rfl rfl rfl) ?_
     refine al_mv rfl rfl ?_
     refine al_skip ?_
     refine al_skip ?_
     refine al_skip ?_
     refine al_skip ?_
     refine al_skip ?_
     refine al_val (ov_pick_f rfl rfl rfl) ?_
     refine al_as rfl rfl ?_
     refine al_nil ?_
     exact aq_join false h (fun w a hm hs => norm hm hs [] [] [(8, (bool false))] (by decide) ⟨rfl, trivial⟩)
   ·replace h := bif_f hb11 h
    refine al_skip ?_
    refine al_skip ?_
    refine al_skip ?_
    refine al_skip ?_
    refine al_skip ?_
    refine al_skip ?_
    refine al_skip ?_
    refine al_val (ov_pick_f rfl rfl rfl) ?_
    refine al_mv rfl rfl ?_
    refine al_skip ?_
    refine al_skip ?_
    refine al_skip ?_
    refine al_skip ?_
    refine al_skip ?_
    refine al_val (ov_pick_f rfl rfl rfl) ?_
    refine al_mv rfl rfl ?_
    refine al_skip ?_
    refine al_skip ?_
    refine al_skip ?_
    refine al_skip ?_
    refine al_skip ?_
    refine al_val (ov_pick_f rfl rfl rfl) ?_
    refine al_as rfl rfl ?_
    refine al_nil ?_
    exact aq_join false h (fun w a hm hs => norm hm hs [] [] [(8, (bool false))] (by decide) ⟨rfl, trivial⟩)
 ·clear hkk4
  obtain ⟨kk27, hkk27, h⟩ := lt_some h
  refine aw_seq_join (ι := Bool) (fun i => (memOf w0 Z0 [] [] [])) (fun i => (tab [(0, (uq a0)), (1, (uq a1)), (2, (iq a2)), (3, (str a3)), (9, (uq r2.1)), (10, (iq r2.2)), (22, (bool i))])) (fun i => kk27 i = some r) ?_ ?_
  ·rintro j26b22 h
   have h : kk27 j26b22 = some r := h
   rw [hkk27] at h
   dsimp only at h
   clear hkk27
   refine aw_show (m := (memOf w0 Z0 [] [] [])) (S := (tab [(0, (uq a0)), (1, (uq a1)), (2, (iq a2)), (3, (str a3)), (9, (uq r2.1)), (10, (iq r2.2)), (22, (bool j26b22))])) ?_
   refine aw_cond rfl (fun hb28 => ?_) (fun hb28 => ?_)
   ·replace h := bif_t hb28 h
    obtain ⟨kk30, hkk30, h⟩ := lt_some h
    refine aw_seq_join (ι := Bool) (fun i => (memOf w0 Z0 [] [] [])) (fun i => (tab [(0, (uq a0)), (1, (uq a1)), (3, (str a3)), (28, (bool i))])) (fun i => kk30 i = some r) ?_ ?_
    ·rintro j29b28 h
     have h : kk30 j29b28 = some r := h
     rw [hkk30] at h
     dsimp only at h
     clear hkk30
     refine aw_show (m := (memOf w0 Z0 [] [] [])) (S := (tab [(0, (uq a0)), (1, (uq a1)), (3, (str a3)), (28, (bool j29b28))])) ?_
     refine aw_cond rfl (fun hb31 => ?_) (fun hb31 => ?_)
     ·replace h := bif_t hb31 h
      refine aw_sr ?_
      refine al_as rfl rfl ?_
      refine al_nt ?_
      refine aw_ret ?_
      refine aq_then_ret ?_
      obtain rfl := Option.some.inj h
      exact fn_ret () [] [] rfl rfl rfl rfl (res1 rfl rfl) rfl rfl rfl (by decide)
     ·replace h := bif_f hb31 h
      refine aw_skip ?_
      exact aq_join () h (fun w a hm hs => norm hm hs [] [] [(0, (uq a0)), (1, (uq a1)), (3, (str a3))] (by decide) ⟨rfl, rfl, rfl, trivial⟩)
    ·clear hkk30
     refine aw_region ?_
     refine al_mv rfl rfl ?_
     refine al_in rfl rfl rfl rfl ?_
     refine al_mv rfl rfl ?_
     refine al_caseB 25 rfl (fun hb32 => ?_) (fun hb32 => ?_)
     ·replace h := bif_t hb32 h
      refine al_skip ?_
      refine al_skip ?_
      refine al_val (ov_pick_t rfl rfl rfl) ?_
      refine al_nil ?_
      exact aq_join true h (fun w a hm hs => norm hm hs [] [] [(0, (uq a0)), (1, (uq a1)), (3, (str a3)), (28, (bool true))] (by decide) ⟨rfl, rfl, rfl, rfl, trivial⟩)
     ·replace h := bif_f hb32 h
      refine al_mv rfl rfl ?_
      refine al_in rfl rfl rfl rfl ?_
      refine al_val (ov_pick_f rfl rfl rfl) ?_
      refine al_nil ?_
      exact aq_join (r2.2 != (1 : Int)) h (fun w a hm hs => norm hm hs [] [] [(0, (uq a0)), (1, (uq a1)), (3, (str a3)), (28, (bool (r2.2 != (1 : Int))))] (by decide) ⟨rfl, rfl, rfl, rfl, trivial⟩)
   ·replace h := bif_f hb28 h
    obtain ⟨kk34, hkk34, h⟩ := lt_some h
    refine aw_seq_join (ι := Bool) (fun i => (memOf w0 Z0 [] [] [])) (fun i => (tab [(0, (uq a0)), (1, (uq a1)), (3, (str a3)), (37, (bool i))])) (fun i => kk34 i = some r) ?_ ?_
    ·rintro j33b37 h
     have h : kk34 j33b37 = some r := h
     rw [hkk34] at h
     dsimp only at h
     clear hkk34
     refine aw_show (m := (memOf w0 Z0 [] [] [])) (S := (tab [(0, (uq a0)), (1, (uq a1)), (3, (str a3)), (37, (bool j33b37))])) ?_
     refine aw_cond rfl (fun hb35 => ?_) (fun hb35 => ?_)
     ·replace h := bif_t hb35 h
      refine aw_sr ?_
      refine al_as rfl rfl ?_
      refine al_nt ?_
      refine aw_ret ?_
      refine aq_then_ret ?_
      obtain rfl := Option.some.inj h
      exact fn_ret () [] [] rfl rfl rfl rfl (res1 rfl rfl) rfl rfl rfl (by decide)
     ·replace h := bif_f hb35 h
      refine aw_skip ?_
      exact aq_join () h (fun w a hm hs => norm hm hs [] [] [(0, (uq a0)), (1, (uq a1)), (3, (str a3))] (by decide) ⟨rfl, rfl, rfl, trivial⟩)
    ·clear hkk34
     refine aw_region ?_
     refine al_mv rfl rfl ?_
     refine al_in rfl rfl rfl rfl ?_
     refine al_mv rfl rfl ?_
     refine al_caseB 31 rfl (fun hb36 => ?_) (fun hb36 => ?_)
     ·replace h := bif_t hb36 h
      refine al_skip ?_
      refine al_skip ?_
      refine al_skip ?_
      refine al_skip ?_
      refine al_skip ?_
      refine al_val (ov_pick_t rfl rfl rfl) ?_
      refine al_nil ?_
      exact aq_join true h (fun w a hm hs => norm hm hs [] [] [(0, (uq a0)), (1, (uq a1)), (3, (str a3)), (37, (bool true))] (by decide) ⟨rfl, rfl, rfl, rfl, trivial⟩)
     ·replace h := bif_f hb36 h
      refine al_mv rfl rfl ?_
      refine al_mv rfl rfl ?_
      refine al_mv rfl rfl ?_
      obtain ⟨r38, hc37, h⟩ := opt_some h
      refine al_call (vs := [(iq a2), (str a3)]) (f_lumref_Narrow_ok fu a2 a3 hc37) [] [] [] pre_nil rfl (by simp) (by decide) (.inl rfl) rfl Try.func10 rfl rfl rfl (fun _ => ?_)
      refine al_in rfl rfl rfl rfl ?_
      refine al_val (ov_pick_f rfl rfl rfl) ?_
      refine al_nil ?_
      exact aq_join (r2.1 != r38) h (fun w a hm hs => norm hm hs [] [] [(0, (uq a0)), (1, (uq a1)), (3, (str a3)), (37, (bool (r2.1 != r38)))] (by decide) ⟨rfl, rfl, rfl, rfl, trivial⟩)
  ·clear hkk27
   refine aw_region ?_
   refine al_mv rfl rfl ?_
   refine al_in rfl rfl rfl rfl ?_
   refine al_mv rfl rfl ?_
   refine al_caseB 19 rfl (fun hb39 => ?_) (fun hb39 => ?_)
   ·replace h := bif_t hb39 h
    refine al_skip ?_
    refine al_skip ?_
    refine al_val (ov_pick_t rfl rfl rfl) ?_
    refine al_nil ?_
    exact aq_join true h (fun w a hm hs => norm hm hs [] [] [(0, (uq a0)), (1, (uq a1)), (2, (iq a2)), (3, (str a3)), (9, (uq r2.1)), (10, (iq r2.2)), (22, (bool true))] (by decide) ⟨rfl, rfl, rfl, rfl, rfl, rfl, rfl, trivial⟩)
   ·replace h := bif_f hb39 h
    refine al_mv rfl rfl ?_
    refine al_in rfl rfl rfl rfl ?_
    refine al_val (ov_pick_f rfl rfl rfl) ?_
    refine al_nil ?_
    exact aq_join (decide (a2 > (64 : Int))) h (fun w a hm hs => norm hm hs [] [] [(0, (uq a0)), (1, (uq a1)), (2, (iq a2)), (3, (str a3)), (9, (uq r2.1)), (10, (iq r2.2)), (22, (bool (decide (a2 > (64 : Int)))))] (by decide) ⟨rfl, rfl, rfl, rfl, rfl, rfl, rfl, trivial⟩)
end Go.Proofs.Ytnnfmgobbhlbiaa
namespace Go.Proofs.Ytnnfmgobbhlbiaa.Mix
def M : Nat := 18446744073709551616
def cF : Nat := 11400714819323198485
def cS : Nat := 13787848793156543929
def iF : Nat := 17428512612931826493
def iS : Nat := 10871156337175269513
theorem M_pow : M = 2 ^ 64 := by decide
theorem inv_F : iF * cF % M = 1 := by decide
theorem inv_S : iS * cS % M = 1 := by decide
def stp (x b : Nat) : Nat :=
  let z := (x ^^^ b) * cF % M
  let y := (z ^^^ z / 2 ^ 29) * cS % M
  y ^^^ y / 2 ^ 32
def undo (y b : Nat) : Nat :=
  let z := (y ^^^ y / 2 ^ 32) * iS % M
  ((z ^^^ z / 2 ^ 29) ^^^ z / 2 ^ 58) * iF % M ^^^ b
theorem xor_div (a b k : Nat) : (a ^^^ b) / 2 ^ k = a / 2 ^ k ^^^ b / 2 ^ k := by
  rw [← Nat.shiftRight_eq_div_pow, ← Nat.shiftRight_eq_div_pow, ← Nat.shiftRight_eq_div_pow, Nat.shiftRight_xor_distrib]
theorem div_lt' {z : Nat} (h : z < M) (k : Nat) : z / 2 ^ k < M := Nat.lt_of_le_of_lt (Nat.div_le_self _ _) h
theorem xltM {a b : Nat} (ha : a < M) (hb : b < M) : a ^^^ b < M := by rw [M_pow] at *; exact Nat.xor_lt_two_pow ha hb
theorem M_pos : 0 < M := by decide
theorem mul_inv (z a b : Nat) (hz : z < M) (h : a * b % M = 1) : z * a % M * b % M = z := by
  rw [Nat.mod_mul_mod, Nat.mul_assoc, Nat.mul_mod, h, Nat.mul_one, Nat.mod_mod, Nat.mod_eq_of_lt hz]
theorem xor_xor (a b : Nat) : (a ^^^ b) ^^^ b = a := by rw [Nat.xor_assoc, Nat.xor_self, Nat.xor_zero]
theorem undo32 {y : Nat} (h : y < M) : (y ^^^ y / 2 ^ 32) ^^^ (y ^^^ y / 2 ^ 32) / 2 ^ 32 = y := by
  have h0 : y / 2 ^ 32 / 2 ^ 32 = 0 := by
    rw [Nat.div_div_eq_div_mul]
    exact Nat.div_eq_of_lt (by rw [M_pow] at h; exact h)
  rw [xor_div, h0, Nat.xor_zero, xor_xor]
theorem undo29 {z : Nat} (h : z < M) : ((z ^^^ z / 2 ^ 29) ^^^ z / 2 ^ 58) ^^^ ((z ^^^ z / 2 ^ 29) ^^^ z / 2 ^ 58) / 2 ^ 29 = z := by
  have h1 : z / 2 ^ 29 / 2 ^ 29 = z / 2 ^ 58 := by rw [Nat.div_div_eq_div_mul]
  have h0 : z / 2 ^ 58 / 2 ^ 29 = 0 := by
    rw [Nat.div_div_eq_div_mul]
    exact Nat.div_eq_of_lt (Nat.lt_of_lt_of_le (by rw [M_pow] at h; exact h) (by decide))
  rw [xor_div, xor_div, h1, h0, Nat.xor_zero]
  rw [Nat.xor_assoc z, xor_xor]
theorem stp_undo {y b : Nat} (hy : y < M) : stp (undo y b) b = y := by
  unfold stp undo
  simp only
  rw [xor_xor]
  have hq : y ^^^ y / 2 ^ 32 < M := xltM hy (div_lt' hy 32)
  have hz : (y ^^^ y / 2 ^ 32) * iS % M < M := Nat.mod_lt _ M_pos
  generalize hzz : (y ^^^ y / 2 ^ 32) * iS % M = z at hz ⊢
  have hz1 : (z ^^^ z / 2 ^ 29) ^^^ z / 2 ^ 58 < M := xltM (xltM hz (div_lt' hz 29)) (div_lt' hz 58)
  rw [mul_inv _ _ _ hz1 inv_F, undo29 hz, ← hzz, mul_inv _ _ _ hq inv_S, undo32 hy]
theorem stp_lt (x b : Nat) : stp x b < M := by
  unfold stp; simp only
  exact xltM (Nat.mod_lt _ M_pos) (div_lt' (Nat.mod_lt _ M_pos) 32)
theorem undo_lt {y b : Nat} (hb : b < M) : undo y b < M := by
  unfold undo; simp only
  exact xltM (Nat.mod_lt _ M_pos) hb
theorem prod_one (a b i : Nat) (h : b / 2 ^ i % 2 = 1) : (a * (b % 2 ^ i) % M + a * 2 ^ i % M) % M = a * (b % 2 ^ (i + 1)) % M := by
  rw [Nat.mod_pow_succ, h, Nat.mul_one, Nat.mul_add, ← Nat.add_mod]
theorem prod_zero (a b i : Nat) (h : b / 2 ^ i % 2 = 0) : a * (b % 2 ^ i) % M = a * (b % 2 ^ (i + 1)) % M := by
  rw [Nat.mod_pow_succ, h, Nat.mul_zero, Nat.add_zero]
def leN : List UInt8 → Nat
  | [] => 0
  | b :: l => b.toNat + 256 * leN l
theorem leN_zeros (l : List UInt8) (k : Nat) : leN (l ++ List.replicate k 0) = leN l := by
  induction l with
  | nil =>
    induction k with
    | zero => rfl
    | succ k ih => rw [List.nil_append] at ih ⊢; rw [List.replicate_succ]; show (0 : UInt8).toNat + 256 * leN (List.replicate k 0) = 0; rw [ih]; rfl
  | cons b l ih => show b.toNat + 256 * leN (l ++ _) = b.toNat + 256 * leN l; rw [ih]
theorem leN_lt : ∀ l : List UInt8, leN l < 256 ^ l.length
  | [] => by decide
  | b :: l => by
    have := leN_lt l
    have h := b.toNat_lt
    show b.toNat + 256 * leN l < 256 ^ (l.length + 1)
    rw [Nat.pow_succ]; omega
theorem leN_lt8 (l : List UInt8) (h : l.length ≤ 8) : leN l < M := Nat.lt_of_lt_of_le (leN_lt l) (by rw [show M = 256 ^ 8 from by decide]; exact Nat.pow_le_pow_right (by omega) h)
def chain (cut : Nat → Nat) : Nat → List UInt8 → Nat → Nat
  | 0, _, x => x
  | k + 1, s, x => if s = [] then x else chain cut k (s.drop 8) (cut (stp x (leN (s.take 8))))
def hash (cut : Nat → Nat) (s : List UInt8) : Nat := cut (stp (chain cut s.length s 0) s.length)
theorem chain_nil (cut : Nat → Nat) (k x : Nat) : chain cut k [] x = x := by cases k <;> simp [chain]
theorem chain_more (cut : Nat → Nat) : ∀ (k j : Nat) (s : List UInt8) (x : Nat), s.length ≤ k → s.length ≤ j → chain cut k s x = chain cut j s x
  | 0, j, s, x, h, _ => by
    have : s = [] := List.eq_nil_of_length_eq_zero (by omega)
    subst this; rw [chain_nil, chain_nil]
  | k + 1, 0, s, x, _, h => by
    have : s = [] := List.eq_nil_of_length_eq_zero (by omega)
    subst this; rw [chain_nil, chain_nil]
  | k + 1, j + 1, s, x, h1, h2 => by
    unfold chain
    split
    · rfl
    · rename_i hs
      have hp : 0 < s.length := List.length_pos_iff.2 hs
      exact chain_more cut k j _ _ (by rw [List.length_drop]; omega) (by rw [List.length_drop]; omega)
theorem chain_step (cut : Nat → Nat) {s : List UInt8} (hs : s ≠ []) (x : Nat) : chain cut s.length s x = chain cut (s.drop 8).length (s.drop 8) (cut (stp x (leN (s.take 8)))) := by
  have hp : 0 < s.length := List.length_pos_iff.2 hs
  obtain ⟨k, hk⟩ : ∃ k, s.length = k + 1 := ⟨s.length - 1, by omega⟩
  rw [hk]
  show (if s = [] then x else _) = _
  rw [if_neg hs]
  exact chain_more cut _ _ _ _ (by rw [List.length_drop]; omega) (Nat.le_refl _)
def pad (s : List UInt8) : List UInt8 := s ++ List.replicate ((8 - s.length % 8) % 8) 0
theorem pad_nil (s : List UInt8) : pad s = [] ↔ s = [] := by
  constructor
  · intro h; exact (List.append_eq_nil_iff.1 h).1
  · rintro rfl; rfl
theorem pad_take (s : List UInt8) (hs : s ≠ []) : leN ((pad s).take 8) = leN (s.take 8) ∧ 8 ≤ (pad s).length ∧ (pad s).drop 8 = pad (s.drop 8) := by
  have hp : 0 < s.length := List.length_pos_iff.2 hs
  unfold pad
  by_cases h : 8 ≤ s.length
  · refine ⟨by rw [List.take_append_of_le_length h], by rw [List.length_append]; omega, ?_⟩
    rw [List.drop_append_of_le_length h, List.length_drop, show (s.length - 8) % 8 = s.length % 8 by omega]
  · have e : (8 - s.length % 8) % 8 = 8 - s.length := by omega
    rw [e]
    have hl : (s ++ List.replicate (8 - s.length) (0 : UInt8)).length = 8 := by simp; omega
    refine ⟨?_, by omega, ?_⟩
    · rw [List.take_of_length_le (by omega), leN_zeros, List.take_of_length_le (by omega)]
    · rw [List.drop_of_length_le (by omega), List.drop_of_length_le (show s.length ≤ 8 by omega)]; rfl
end Go.Proofs.Ytnnfmgobbhlbiaa.Mix
namespace Go.Proofs.Ytnnfmgobbhlbiaa.Num
open Go.Lib
def digF : Nat → Nat → List UInt8
  | 0, _ => []
  | k + 1, n => if n = 0 then [] else digF k (n / 256) ++ [(n % 256).toUInt8]
theorem digF_nil : ∀ {k n : Nat}, n < 256 ^ k → (digF k n = [] ↔ n = 0)
  | 0, n, h => by simp [digF]; simpa using h
  | k + 1, n, h => by unfold digF; split <;> simp_all
theorem digF_len : ∀ (k n : Nat), (digF k n).length ≤ k
  | 0, n => by simp [digF]
  | k + 1, n => by
    unfold digF
    split
    · simp
    · have := digF_len k (n / 256); simp; omega
theorem be_succ (k n : Nat) : beBytes (k + 1) n = beBytes k (n / 256) ++ [(n % 256).toUInt8] := by unfold beBytes; rw [Lib.leBytes, List.reverse_cons]
theorem div_lt {k n : Nat} (h : n < 256 ^ (k + 1)) : n / 256 < 256 ^ k := by rw [Nat.pow_succ] at h; omega
theorem trim_be : ∀ {k n : Nat}, n < 256 ^ k → trimLeftB (beBytes k n) 0 = digF k n
  | 0, n, h => rfl
  | k + 1, n, h => by
    have ih := trim_be (div_lt h)
    have hn := digF_nil (div_lt h)
    unfold trimLeftB at ih ⊢
    rw [be_succ, List.dropWhile_append, ih]
    show _ = if n = 0 then [] else digF k (n / 256) ++ [(n % 256).toUInt8]
    by_cases h0 : n / 256 = 0
    · rw [hn.2 h0]
      by_cases h1 : n = 0
      · subst h1; rfl
      · have h2 : ((n % 256).toUInt8 == 0) = false := by
          rw [beq_eq_false_iff_ne]
          intro e
          have := congrArg UInt8.toNat e
          rw [toUInt8_mod] at this
          simp at this; omega
        rw [if_neg h1]; simp [h2]
    · have h3 : (digF k (n / 256)).isEmpty = false := by rw [List.isEmpty_eq_false_iff]; exact fun e => h0 (hn.1 e)
      rw [h3, if_neg (by simp), if_neg (by omega)]
end Go.Proofs.Ytnnfmgobbhlbiaa.Num
namespace Go.Proofs.Ytnnfmgobbhlbiaa
open Go.RowKit Ytnnfmgobbhlbiaa.En
theorem w64 {x : Int} (h0 : -9223372036854775808 ≤ x) (h1 : x ≤ 9223372036854775807) : IntKind.i64.wrap x = x := IntWalk.i64_in x (by omega)
theorem wsucc {k : Nat} (h : k < 9223372036854775807) : IntKind.i64.wrap ((k : Int) + 1) = ((k + 1 : Nat) : Int) := by rw [w64 (by omega) (by omega)]; omega
theorem dlt {a b : Int} (h : a < b) : decide (a < b) = true := decide_eq_true h
theorem dge {a b : Int} (h : b ≤ a) : decide (a < b) = false := decide_eq_false (by omega)
theorem cond_tt {α : Type} {b : Bool} {x y : α} (h : b = true) : (bif b then x else y) = x := by rw [h]; rfl
theorem cond_ff {α : Type} {b : Bool} {x y : α} (h : b = false) : (bif b then x else y) = y := by rw [h]; rfl
end Go.Proofs.Ytnnfmgobbhlbiaa
namespace Go.Proofs.Ytnnfmgobbhlbiaa
open Go.RowKit Ytnnfmgobbhlbiaa.En
theorem shr_nat {x m : Nat} {j : Int} {k : IntKind} (hj : j = (m : Int)) (hm : m ≤ k.bits) : ((x : Int)).fdiv (2 ^ min j.toNat k.bits) = ((x / 2 ^ m : Nat) : Int) := by
  subst hj
  rw [Int.toNat_natCast, Nat.min_eq_left hm, Int.fdiv_eq_ediv_of_nonneg _ (by apply Int.le_of_lt; apply Int.pow_pos; decide)]
  simp
theorem shl_nat {x m : Nat} {j : Int} {k : IntKind} (hj : j = (m : Int)) (hm : m ≤ k.bits) : ((x : Int)) * 2 ^ min j.toNat k.bits = ((x * 2 ^ m : Nat) : Int) := by
  subst hj
  rw [Int.toNat_natCast, Nat.min_eq_left hm]
  simp
theorem u8w (x : Nat) : IntKind.u8.wrap (x : Int) = ((x % 256 : Nat) : Int) := by
  unfold IntKind.wrap
  simp [IntKind.signed, IntKind.bits]
theorem u8w_in {x : Nat} (h : x < 256) : IntKind.u8.wrap (x : Int) = (x : Int) := by rw [u8w, Nat.mod_eq_of_lt h]
end Go.Proofs.Ytnnfmgobbhlbiaa
namespace Go.Proofs.Ytnnfmgobbhlbiaa.PMixSays
open Go.RowKit Ytnnfmgobbhlbiaa.En Ytnnfmgobbhlbiaa Num Mix Go.Lib
set_option linter.unusedVariables false
set_option linter.unusedSimpArgs false
namespace MX
theorem wr (x : Nat) : IntKind.u64.wrap (x : Int) = ((x % M : Nat) : Int) := by
  unfold IntKind.wrap
  simp [IntKind.signed, IntKind.bits, M]
theorem wi {x : Nat} (h : x < M) : IntKind.u64.wrap (x : Int) = (x : Int) := by rw [wr, Nat.mod_eq_of_lt h]
theorem xo {a b : Nat} (ha : a < M) (hb : b < M) : bits .xor .u64 (a : Int) (b : Int) = ((a ^^^ b : Nat) : Int) := u64_xor_nat a b ha hb
theorem mF (n : Nat) : IntKind.u64.wrap ((n : Int) * (11400714819323198485 : Int)) = ((n * cF % M : Nat) : Int) := by
  rw [show (n : Int) * (11400714819323198485 : Int) = ((n * cF : Nat) : Int) from by rw [Int.natCast_mul]; rfl]
  exact wr _
theorem mS (n : Nat) : IntKind.u64.wrap ((n : Int) * (13787848793156543929 : Int)) = ((n * cS % M : Nat) : Int) := by
  rw [show (n : Int) * (13787848793156543929 : Int) = ((n * cS : Nat) : Int) from by rw [Int.natCast_mul]; rfl]
  exact wr _
theorem s29 (n : Nat) : ((n : Int)).fdiv (2 ^ min ((29 : Int)).toNat (IntKind.bits .u64)) = ((n / 2 ^ 29 : Nat) : Int) := shr_nat rfl (by decide)
theorem s32 (n : Nat) : ((n : Int)).fdiv (2 ^ min ((32 : Int)).toNat (IntKind.bits .u64)) = ((n / 2 ^ 32 : Nat) : Int) := shr_nat rfl (by decide)
theorem s58 (n : Nat) : ((n : Int)).fdiv (2 ^ min ((58 : Int)).toNat (IntKind.bits .u64)) = ((n / 2 ^ 58 : Nat) : Int) := shr_nat rfl (by decide)
theorem ml (n : Nat) : n % M < M := Nat.mod_lt _ M_pos
theorem mstep_ok (fu : Nat) {x b : Nat} (hx : x < M) (hb : b < M) : f_mix_Step fu (x : Int) (b : Int) = some ((stp x b : Nat) : Int) := by
  unfold f_mix_Step
  rw [xo hx hb, mF, s29, xo (ml _) (div_lt' (ml _) 29), mS, s32, xo (ml _) (div_lt' (ml _) 32)]
  rfl
theorem prod_go (a b : Nat) (ha : a < M) (hb : b < M) (kk : Int → Option Int) : ∀ (n i fu : Nat), i + n = 64 → n < fu →
    f_lumref_product_L5 (a : Int) (b : Int) kk fu ((a * (b % 2 ^ i) % M : Nat) : Int) (i : Int) = kk ((a * b % M : Nat) : Int)
  | 0, i, fu + 1, hi, _ => by
    obtain rfl : i = 64 := by omega
    rw [f_lumref_product_L5, cond_ff (dge (by omega)), Nat.mod_eq_of_lt (show b < 2 ^ 64 from hb)]
  | n + 1, i, fu + 1, hi, hf => by
    rw [f_lumref_product_L5, cond_tt (dlt (by omega)), lt_of, req_pos (by omega)]
    have hd : b / 2 ^ i < M := div_lt' hb i
    rw [shr_nat (m := i) (k := .u64) rfl (show i ≤ 64 by omega)]
    have hbit : bits .and .u64 ((b / 2 ^ i : Nat) : Int) 1 = ((b / 2 ^ i % 2 : Nat) : Int) := by
      have := u64_and_nat (b / 2 ^ i) 1 hd (by omega)
      rw [Nat.and_one_is_mod] at this
      exact this
    rw [hbit]
    have ih := prod_go a b ha hb kk n (i + 1) fu (by omega) (by omega)
    by_cases h1 : b / 2 ^ i % 2 = 1
    · rw [h1, cond_tt (by rfl), req_pos (by omega), shl_nat (m := i) (k := .u64) rfl (show i ≤ 64 by omega), wr, ← Int.natCast_add, wr, prod_one a b i h1, wsucc (by omega)]
      exact ih
    · have h0 : b / 2 ^ i % 2 = 0 := by omega
      rw [h0, cond_ff (by rfl), prod_zero a b i h0, wsucc (by omega)]
      exact ih
theorem prod_ok (fu : Nat) (hf : 65 ≤ fu) {a b : Nat} (ha : a < M) (hb : b < M) : f_lumref_product fu (a : Int) (b : Int) = some ((a * b % M : Nat) : Int) := by
  unfold f_lumref_product
  rw [lt_of]
  have h := prod_go a b ha hb (fun j => some j) 64 0 fu (by omega) (by omega)
  rw [show a * (b % 2 ^ 0) % M = 0 from by simp [Nat.mod_one]] at h
  exact h
theorem td29 (n : Nat) (h : n < M) : IntKind.u64.wrap (((n : Int)).tdiv (536870912 : Int)) = ((n / 2 ^ 29 : Nat) : Int) := by
  rw [show ((n : Int)).tdiv (536870912 : Int) = ((n / 2 ^ 29 : Nat) : Int) from rfl, wi (div_lt' h 29)]
theorem td32 (n : Nat) (h : n < M) : IntKind.u64.wrap (((n : Int)).tdiv (4294967296 : Int)) = ((n / 2 ^ 32 : Nat) : Int) := by
  rw [show ((n : Int)).tdiv (4294967296 : Int) = ((n / 2 ^ 32 : Nat) : Int) from rfl, wi (div_lt' h 32)]
theorem cF_lt : cF < M := by decide
theorem cS_lt : cS < M := by decide
theorem rstep_ok (fu : Nat) (hf : 65 ≤ fu) {x b : Nat} (hx : x < M) (hb : b < M) : f_lumref_Step fu (x : Int) (b : Int) = some ((stp x b : Nat) : Int) := by
  unfold f_lumref_Step
  rw [xo hx hb, show (11400714819323198485 : Int) = ((cF : Nat) : Int) from rfl, prod_ok fu hf (xltM hx hb) cF_lt, opt_of, td29 _ (ml _), xo (ml _) (div_lt' (ml _) 29)]
  rw [show (13787848793156543929 : Int) = ((cS : Nat) : Int) from rfl, prod_ok fu hf (xltM (ml _) (div_lt' (ml _) 29)) cS_lt, opt_of, td32 _ (ml _), xo (ml _) (div_lt' (ml _) 32)]
  rfl
theorem u64b (b : UInt8) : IntKind.u64.wrap (b.toNat : Int) = ((b.toNat : Nat) : Int) := wi (Nat.lt_trans b.toNat_lt (by decide))
theorem orb {a m : Nat} {b : UInt8} {j : Int} (hj : j = (m : Int)) (ha : a < 2 ^ m) (hm : m + 8 ≤ 64) : bits .or .u64 (a : Int) (IntKind.u64.wrap ((IntKind.u64.wrap (b.toNat : Int)) * 2 ^ min j.toNat (IntKind.bits .u64))) = ((a + b.toNat * 2 ^ m : Nat) : Int) := by
  have hb := b.toNat_lt
  have h1 : b.toNat * 2 ^ m < 2 ^ (8 + m) := by rw [Nat.pow_add]; exact Nat.mul_lt_mul_of_pos_right hb (Nat.pow_pos (by omega))
  have h2 : (2 : Nat) ^ (8 + m) ≤ 2 ^ 64 := Nat.pow_le_pow_right (by omega) (by omega)
  have h3 : (2 : Nat) ^ m ≤ 2 ^ 64 := Nat.pow_le_pow_right (by omega) (by omega)
  have hM : M = 2 ^ 64 := M_pow
  rw [u64b, shl_nat (m := m) (k := .u64) hj (show m ≤ 64 by omega), wi (by omega)]
  have := u64_or_nat a (b.toNat * 2 ^ m) (by show a < M; omega) (by show _ < M; omega)
  rw [this, Nat.mul_comm b.toNat, Nat.or_comm, ← Nat.two_pow_add_eq_or_of_lt ha, Nat.add_comm]
theorem le64_ok (fu : Nat) (l : List UInt8) (hl : l.length = 8) : f__binary_littleEndian__Uint64 fu () l = some ((leN l : Nat) : Int) := by
  match l, hl with
  | [b0, b1, b2, b3, b4, b5, b6, b7], _ =>
    have g0 := b0.toNat_lt
    have g1 := b1.toNat_lt
    have g2 := b2.toNat_lt
    have g3 := b3.toNat_lt
    have g4 := b4.toNat_lt
    have g5 := b5.toNat_lt
    have g6 := b6.toNat_lt
    have g7 := b7.toNat_lt
    unfold f__binary_littleEndian__Uint64
    rw [show at? [b0, b1, b2, b3, b4, b5, b6, b7] (7 : Int) = some b7 from rfl, opt_of, show at? [b0, b1, b2, b3, b4, b5, b6, b7] (0 : Int) = some b0 from rfl, opt_of, show at? [b0, b1, b2, b3, b4, b5, b6, b7] (1 : Int) = some b1 from rfl, opt_of,
      show at? [b0, b1, b2, b3, b4, b5, b6, b7] (2 : Int) = some b2 from rfl, opt_of, show at? [b0, b1, b2, b3, b4, b5, b6, b7] (3 : Int) = some b3 from rfl, opt_of, show at? [b0, b1, b2, b3, b4, b5, b6, b7] (4 : Int) = some b4 from rfl, opt_of,
      show at? [b0, b1, b2, b3, b4, b5, b6, b7] (5 : Int) = some b5 from rfl, opt_of, show at? [b0, b1, b2, b3, b4, b5, b6, b7] (6 : Int) = some b6 from rfl, opt_of, opt_of]
    rw [u64b b0, orb (j := 8) (m := 8) rfl (by omega) (by omega), orb (j := 16) (m := 16) rfl (by omega) (by omega), orb (j := 24) (m := 24) rfl (by omega) (by omega), orb (j := 32) (m := 32) rfl (by omega) (by omega), orb (j := 40) (m := 40) rfl (by omega) (by omega), orb (j := 48) (m := 48) rfl (by omega) (by omega), orb (j := 56) (m := 56) rfl (by omega) (by omega)]
    congr 2
    simp only [leN]
    omega
theorem lof {l : List UInt8} (h : l.length = 8) : lA8u8 (ofA8u8 l) = l := by
  match l, h with
  | [b0, b1, b2, b3, b4, b5, b6, b7], _ => rfl
def zer : A8u8 := (A8u8.mk (0 : UInt8) (0 : UInt8) (0 : UInt8) (0 : UInt8) (0 : UInt8) (0 : UInt8) (0 : UInt8) (0 : UInt8))
theorem lcp (s : List UInt8) : lA8u8 (cpA8u8 zer s) = s.take 8 ++ List.replicate (8 - (s.take 8).length) 0 := by
  unfold cpA8u8
  have h8 : (s.take 8).length ≤ 8 := by rw [List.length_take]; omega
  rw [show lA8u8 zer = List.replicate 8 0 from rfl, List.drop_replicate, lof (by rw [List.length_append, List.length_replicate]; omega)]
theorem lcp_len (s : List UInt8) : (lA8u8 (cpA8u8 zer s)).length = 8 := rfl
theorem dropmin (s : List UInt8) : s.drop (Nat.min s.length 8) = s.drop 8 := by
  rcases Nat.le_total s.length 8 with h | h
  · rw [show Nat.min s.length 8 = s.length from Nat.min_eq_left h, List.drop_length, List.drop_of_length_le h]
  · rw [show Nat.min s.length 8 = 8 from Nat.min_eq_right h]
theorem chain_lt {cut : Nat → Nat} (hc : ∀ y, y < M → cut y < M) : ∀ (k : Nat) (s : List UInt8) (x : Nat), x < M → chain cut k s x < M
  | 0, _, _, h => h
  | k + 1, s, x, h => by
    unfold chain
    split
    · exact h
    · exact chain_lt hc k _ _ (hc _ (stp_lt _ _))
theorem cut_lt (w : Nat) : ∀ y, y < M → y % 2 ^ w < M := fun y h => Nat.lt_of_le_of_lt (Nat.mod_le _ _) h
theorem hash_lt (w : Nat) (s : List UInt8) : hash (fun y => y % 2 ^ w) s < M := cut_lt w _ (stp_lt _ _)
theorem andm {r w : Nat} (hr : r < M) (hw : w ≤ 64) : bits .and .u64 (r : Int) ((2 ^ w - 1 : Nat) : Int) = ((r % 2 ^ w : Nat) : Int) := by
  have h3 : (2 : Nat) ^ w ≤ 2 ^ 64 := Nat.pow_le_pow_right (by omega) hw
  have h0 : (0 : Nat) < 2 ^ w := Nat.pow_pos (by omega)
  have hM : M = 2 ^ 64 := M_pow
  rw [u64_and_nat r (2 ^ w - 1) hr (by show _ < M; omega), Nat.and_two_pow_sub_one_eq_mod]
theorem msum_go (w : Nat) (hw : w ≤ 64) (kk : Int → Option Int) (fu : Nat) : ∀ (k : Nat) (s : List UInt8) (x : Nat), x < M → s.length < k →
    f_mix_sum_L7 ((2 ^ w - 1 : Nat) : Int) kk fu k s (x : Int) = kk ((chain (fun y => y % 2 ^ w) s.length s x : Nat) : Int)
  | k + 1, s, x, hx, hk => by
    rw [f_mix_sum_L7]
    by_cases hs : s = []
    · subst hs
      rw [cond_ff (by rfl), chain_nil]
    · have hmin : Nat.min s.length 8 ≤ s.length := Nat.min_le_left _ _
      have hp : 0 < s.length := List.length_pos_iff.2 hs
      have h8 : (s.take 8).length ≤ 8 := by rw [List.length_take]; omega
      rw [cond_tt (by simpa using hs), req_pos ⟨by omega, by omega⟩]
      have hb : f__binary_littleEndian__Uint64 fu () (lA8u8 (cpA8u8 zer s)) = some ((leN (s.take 8) : Nat) : Int) := by
        rw [le64_ok fu _ (lcp_len s), lcp, leN_zeros]
      unfold zer at hb
      rw [hb, opt_of, mstep_ok fu hx (leN_lt8 _ h8), opt_of, andm (stp_lt _ _) hw, Int.toNat_natCast, dropmin]
      rw [msum_go w hw kk fu k (s.drop 8) _ (cut_lt w _ (stp_lt _ _)) (by rw [List.length_drop]; omega), chain_step _ hs]
theorem msum_ok (w : Nat) (hw : w ≤ 64) (fu : Nat) (s : List UInt8) (hf : s.length < fu) (h63 : s.length ≤ 9223372036854775807) : f_mix_sum fu s ((2 ^ w - 1 : Nat) : Int) = some ((hash (fun y => y % 2 ^ w) s : Nat) : Int) := by
  unfold f_mix_sum
  rw [lt_of]
  rw [show (0 : Int) = ((0 : Nat) : Int) from rfl, msum_go w hw _ fu fu s 0 M_pos hf]
  rw [wi (by unfold M; omega), mstep_ok fu (chain_lt (cut_lt w) _ _ _ M_pos) (by unfold M; omega), opt_of, andm (stp_lt _ _) hw]
  rfl
theorem mSum_ok (fu : Nat) (s : List UInt8) (hf : s.length < fu) (h63 : s.length ≤ 9223372036854775807) : f_mix_Sum fu s = some ((hash (fun y => y % 2 ^ 64) s : Nat) : Int) := by
  unfold f_mix_Sum
  rw [show (18446744073709551615 : Int) = ((2 ^ 64 - 1 : Nat) : Int) from rfl, msum_ok 64 (by omega) fu s hf h63, opt_of]
def idOf (s : List UInt8) : A8u8 := ofA8u8 (beBytes 8 (hash (fun y => y % 2 ^ 64) s))
theorem be8_len (n : Nat) : (beBytes 8 n).length = 8 := beBytes_length 8 n
theorem cpbe (n : Nat) : cpA8u8 zer (beBytes 8 n) = ofA8u8 (beBytes 8 n) := by
  unfold cpA8u8
  rw [List.take_of_length_le (by rw [be8_len]; exact Nat.le_refl _), be8_len, show (lA8u8 zer).drop 8 = [] from rfl, List.append_nil]
theorem mID_ok (fu : Nat) (s : List UInt8) (hf : s.length < fu) (h63 : s.length ≤ 9223372036854775807) : f_mix_ID fu s = some (idOf s) := by
  unfold f_mix_ID
  rw [mSum_ok fu s hf h63, opt_of, req_pos ⟨by omega, by have := hash_lt 64 s; unfold M at this; omega⟩, Int.toNat_natCast]
  exact congrArg some (cpbe _)
theorem rcut_ok (fu : Nat) {y w : Nat} (hy : y < M) (hw : w ≤ 64) : f_lumref_Narrow_1 fu (y : Int) (w : Int) = some ((y % 2 ^ w : Nat) : Int) := by
  unfold f_lumref_Narrow_1
  by_cases h : w = 64
  · subst h
    rw [cond_tt (by rfl), Nat.mod_eq_of_lt (show y < 2 ^ 64 from hy)]
  · have h3 : (2 : Nat) ^ w ≤ 2 ^ 63 := Nat.pow_le_pow_right (by omega) (by omega)
    have h0 : (0 : Nat) < 2 ^ w := Nat.pow_pos (by omega)
    have e : IntKind.u64.wrap ((1 : Int) * 2 ^ min ((w : Int)).toNat (IntKind.bits .u64)) = ((2 ^ w : Nat) : Int) := by
      have := shl_nat (x := 1) (m := w) (j := (w : Int)) (k := .u64) rfl (show w ≤ 64 by omega)
      rw [show (1 : Int) * 2 ^ min ((w : Int)).toNat (IntKind.bits .u64) = ((1 * 2 ^ w : Nat) : Int) from this, wi (by unfold M; omega), Nat.one_mul]
    rw [cond_ff (by rw [beq_eq_false_iff_ne]; omega), req_pos (by omega), e, req_pos (by omega)]
    rfl
theorem bAtN {s : List UInt8} {j : Nat} (h : j < s.length) : En.bAt s (j : Int) = ((s[j].toNat : Nat) : Int) := by
  unfold En.bAt
  rw [Int.toNat_natCast, List.getD_eq_getElem?_getD, List.getElem?_eq_getElem h]; rfl
theorem blk_go (l : List UInt8) (hl : 8 ≤ l.length) (kk : Int → Option Int) : ∀ (n k : Nat), n ≤ 8 → n < k → f_lumref_Narrow_L27 l kk k ((leN ((l.take 8).drop n) : Nat) : Int) ((n : Int) - 1) = kk ((leN (l.take 8) : Nat) : Int)
  | 0, k + 1, _, _ => by
    rw [f_lumref_Narrow_L27, cond_ff (decide_eq_false (by omega))]; rfl
  | n + 1, k + 1, hn, hk => by
    have e : ((n + 1 : Nat) : Int) - 1 = (n : Int) := by omega
    have hlt : n < (l.take 8).length := by rw [List.length_take]; omega
    have hv : leN ((l.take 8).drop n) = 256 * leN ((l.take 8).drop (n + 1)) + l[n].toNat := by
      rw [List.drop_eq_getElem_cons hlt, List.getElem_take]
      show _ + _ = _
      omega
    have hlen : ((l.take 8).drop n).length ≤ 8 := by rw [List.length_drop, List.length_take]; omega
    have hM := leN_lt8 _ hlen
    rw [hv] at hM
    have hbl := l[n].toNat_lt
    rw [f_lumref_Narrow_L27, e, cond_tt (decide_eq_true (by omega)), req_pos ⟨by omega, by omega⟩, bAtN (by omega), wi (x := l[n].toNat) (by unfold M; omega)]
    rw [show (256 : Int) * ((leN ((l.take 8).drop (n + 1)) : Nat) : Int) = ((256 * leN ((l.take 8).drop (n + 1)) : Nat) : Int) from by omega, wi (by omega), ← Int.natCast_add, wi hM, ← hv]
    rw [w64 (by omega) (by omega)]
    exact blk_go l hl kk n k (by omega) (by omega)
theorem rsum_go (w : Nat) (hw : w ≤ 64) (kk : Int → Option Int) (fu : Nat) (hfu : 65 ≤ fu) : ∀ (k : Nat) (s : List UInt8) (x : Nat), x < M → s.length < k →
    f_lumref_Narrow_L13 (w : Int) kk fu k (x : Int) (pad s) = kk ((chain (fun y => y % 2 ^ w) s.length s x : Nat) : Int)
  | k + 1, s, x, hx, hk => by
    rw [f_lumref_Narrow_L13, lt_of]
    dsimp only
    by_cases hs : s = []
    · subst hs
      rw [cond_ff (by rfl), chain_nil]
    · obtain ⟨p1, p2, p3⟩ := pad_take s hs
      have hp : 0 < s.length := List.length_pos_iff.2 hs
      have h8 : (s.take 8).length ≤ 8 := by rw [List.length_take]; omega
      rw [cond_tt (by have := mt (pad_nil s).1 hs; simpa using this), lt_of, lt_of]
      dsimp only
      have hb := blk_go (pad s) p2 (fun j19i8 => (opt (f_lumref_Step fu (x : Int) j19i8) fun (r22 : Int) => (opt (f_lumref_Narrow_1 fu r22 (w : Int)) fun (r24 : Int) => (req (0 ≤ (8 : Int) ∧ (8 : Int) ≤ ((pad s).length : Int)) (f_lumref_Narrow_L13 (w : Int) kk fu k r24 ((pad s).drop ((8 : Int)).toNat)))))) 8 fu (by omega) (by omega)
      have h0 : leN (((pad s).take 8).drop 8) = 0 := by rw [List.drop_of_length_le (by rw [List.length_take]; omega)]; rfl
      rw [h0] at hb
      refine Eq.trans hb ?_
      rw [p1, rstep_ok fu hfu hx (leN_lt8 _ h8), opt_of, rcut_ok fu (stp_lt _ _) hw, opt_of, req_pos ⟨by omega, by omega⟩, show ((8 : Int)).toNat = 8 from rfl, p3]
      rw [rsum_go w hw kk fu hfu k (s.drop 8) _ (cut_lt w _ (stp_lt _ _)) (by rw [List.length_drop]; omega), chain_step _ hs]
theorem rep_zero : ∀ k : Nat, repeatL [0] k = List.replicate k 0
  | 0 => rfl
  | k + 1 => by show [0] ++ repeatL [0] k = _; rw [rep_zero k]; rfl
theorem repeat_ok (fu k : Nat) (hk : k ≤ 8) : f_strings_Repeat fu ([0] : List UInt8) (k : Int) = some (List.replicate k 0) := by
  unfold f_strings_Repeat
  rw [req_pos ⟨by omega, by omega, by rw [Int.toNat_natCast]; simp; omega⟩, Int.toNat_natCast, rep_zero]
theorem rnarrow_ok (w : Nat) (hw : w ≤ 64) (fu : Nat) (s : List UInt8) (hfu : 65 ≤ fu) (hf : s.length < fu) (hb : s.length ≤ 4611686018427387904) : f_lumref_Narrow fu (w : Int) s = some ((hash (fun y => y % 2 ^ w) s : Nat) : Int) := by
  unfold f_lumref_Narrow
  have e1 : (((s.length : Int)).tmod (8 : Int)) = ((s.length % 8 : Nat) : Int) := rfl
  have e2 : IntKind.i64.wrap ((8 : Int) - ((s.length % 8 : Nat) : Int)) = ((8 - s.length % 8 : Nat) : Int) := by rw [w64 (by omega) (by omega)]; omega
  have e3 : (((8 - s.length % 8 : Nat) : Int)).tmod (8 : Int) = (((8 - s.length % 8) % 8 : Nat) : Int) := rfl
  rw [e1, e2, e3, repeat_ok fu _ (by omega), opt_of, req_pos (by rw [List.length_replicate]; omega), lt_of]
  rw [show (s ++ List.replicate ((8 - s.length % 8) % 8) (0 : UInt8)) = pad s from rfl, show (0 : Int) = ((0 : Nat) : Int) from rfl, rsum_go w hw _ fu hfu fu s 0 M_pos hf]
  rw [wi (by unfold M; omega), rstep_ok fu hfu (chain_lt (cut_lt w) _ _ _ M_pos) (by unfold M; omega), opt_of, rcut_ok fu (stp_lt _ _) hw, opt_of]
  rfl
theorem p8 : 256 ^ 8 = 18446744073709551616 := by decide
theorem rdigits_ok : ∀ (k n fu : Nat), n < 256 ^ k → k ≤ 8 → k < fu → f_lumref_digits fu (n : Int) = some (digF k n)
  | 0, n, fu + 1, h, _, _ => by
    have : n = 0 := by simpa using h
    subst this; rfl
  | k + 1, n, fu + 1, h, h8, hf => by
    rw [f_lumref_digits]
    by_cases h0 : n = 0
    · subst h0; rfl
    have hn8 : n < 18446744073709551616 := by
      rw [← p8]; exact Nat.lt_of_lt_of_le h (Nat.pow_le_pow_right (by omega) h8)
    have e1 : ((n : Int)).tdiv 256 = ((n / 256 : Nat) : Int) := by rw [Int.tdiv_eq_ediv_of_nonneg (by omega)]; omega
    have e2 : ((n : Int)).tmod 256 = ((n % 256 : Nat) : Int) := by rw [Int.tmod_eq_emod_of_nonneg (by omega)]; omega
    have hl := digF_len k (n / 256)
    rw [cond_ff (by rw [beq_eq_false_iff_ne]; omega), e1, e2, wi (by unfold M; omega), rdigits_ok k (n / 256) fu (div_lt h) (by omega) (by omega), opt_of, u8w_in (by omega), req_pos ⟨by omega, by omega⟩, req_pos (by rw [List.length_singleton]; omega), Int.toNat_natCast]
    show _ = some (if n = 0 then [] else digF k (n / 256) ++ [(n % 256).toUInt8])
    rw [if_neg h0]
theorem drop_zeros : ∀ l : List UInt8, List.replicate (l.length - (trimLeftB l 0).length) 0 ++ trimLeftB l 0 = l
  | [] => rfl
  | b :: l => by
    unfold trimLeftB
    rw [List.dropWhile_cons]
    have ih := drop_zeros l
    unfold trimLeftB at ih
    have hle : (List.dropWhile (fun x => x == 0) l).length ≤ l.length := (List.dropWhile_sublist _).length_le
    by_cases h : b = 0
    · subst h
      rw [if_pos (by rfl), List.length_cons, show l.length + 1 - (List.dropWhile (fun x => x == 0) l).length = (l.length - (List.dropWhile (fun x => x == 0) l).length) + 1 by omega, List.replicate_succ, List.cons_append, ih]
    · rw [if_neg (by simpa using h)]
      simp
theorem wide_ok (fu n : Nat) (hn : n < M) (hf : 9 ≤ fu) : f_lumref_wide fu (n : Int) = some (beBytes 8 n) := by
  unfold f_lumref_wide
  have hn' : n < 256 ^ 8 := by rw [p8]; exact hn
  have hl := digF_len 8 n
  rw [rdigits_ok 8 n fu hn' (by omega) (by omega), opt_of]
  rw [show IntKind.i64.wrap ((8 : Int) - ((digF 8 n).length : Int)) = ((8 - (digF 8 n).length : Nat) : Int) from by rw [w64 (by omega) (by omega)]; omega, repeat_ok fu _ (by omega), opt_of, req_pos (by rw [List.length_replicate]; omega)]
  have h := drop_zeros (beBytes 8 n)
  rw [trim_be hn', be8_len] at h
  rw [h]
theorem rID_ok (fu : Nat) (s : List UInt8) (hfu : 65 ≤ fu) (hf : s.length < fu) (hb : s.length ≤ 4611686018427387904) : f_lumref_ID fu s = some (idOf s) := by
  unfold f_lumref_ID
  rw [show (64 : Int) = ((64 : Nat) : Int) from rfl, rnarrow_ok 64 (by omega) fu s hfu hf hb, opt_of, wide_ok fu _ (hash_lt 64 s) (by omega), opt_of, req_pos (by rw [be8_len]; omega), req_pos (by rw [be8_len]; omega)]
  rfl
end MX
end Go.Proofs.Ytnnfmgobbhlbiaa.PMixSays
