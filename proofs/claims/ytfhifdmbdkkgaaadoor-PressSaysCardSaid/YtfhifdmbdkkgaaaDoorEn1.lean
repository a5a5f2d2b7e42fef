/- An engine for walks: kinds of data, what is known of memory, and the rules that keep it. No condition. -/
import Derived.WalkKit
import Derived.Lib.Hide
import Derived.Maps.AppendAt
namespace Go.Proofs.YtfhifdmbdkkgaaaDoor.En
open Go.RowKit
set_option linter.unusedVariables false
set_option linter.unusedSimpArgs false
/-- two worlds agree on the blocks of Z -/
def Agr (Z : Nat → Prop) (w w' : World) : Prop := ∀ b, Z b → w'.heap[b]? = w.heap[b]?
/-- a kind of data: which cells read as x, where all that is pointed to lies in blocks of Z -/
structure Ty (α : Type) where
  size : Nat
  rep : (Nat → Prop) → World → List Value → α → Prop
  len : ∀ {Z w cs x}, rep Z w cs x → cs.length = size
  one : ∀ {Z w cs x}, rep Z w cs x → ∀ v ∈ cs, v.oneCell' = true
  keep : ∀ {Z w w' cs x}, Agr Z w w' → rep Z w cs x → rep Z w' cs x
  mono : ∀ {Z Z' : Nat → Prop} {w cs x}, (∀ b, Z b → Z' b) → rep Z w cs x → rep Z' w cs x
def str (l : List UInt8) : Value := .string ⟨l.toArray⟩
/-- kinds whose cells are known to the sign -/
def tyEnc {α : Type} (n : Nat) (enc : α → List Value) (hl : ∀ x, (enc x).length = n) (h1 : ∀ x, ∀ v ∈ enc x, v.oneCell' = true) : Ty α where
  size := n
  rep _ _ cs x := cs = enc x
  len h := by rw [h, hl]
  one h := by rw [h]; exact h1 _
  keep _ h := h
  mono _ h := h
def tyInt (k : IntKind) : Ty Int := tyEnc 1 (fun n => [.int k n]) (fun _ => rfl) (by simp [Value.oneCell'])
def tyBool : Ty Bool := tyEnc 1 (fun b => [.bool b]) (fun _ => rfl) (by simp [Value.oneCell'])
def tyStr : Ty (List UInt8) := tyEnc 1 (fun l => [str l]) (fun _ => rfl) (by simp [Value.oneCell', str])
def tyU8 : Ty UInt8 := tyEnc 1 (fun b => [.int .u8 b.toNat]) (fun _ => rfl) (by simp [Value.oneCell'])
def tyPair {α β : Type} (a : Ty α) (b : Ty β) : Ty (α × β) where
  size := a.size + b.size
  rep Z w cs x := ∃ c1 c2, cs = c1 ++ c2 ∧ a.rep Z w c1 x.1 ∧ b.rep Z w c2 x.2
  len h := by obtain ⟨c1, c2, rfl, h1, h2⟩ := h; rw [List.length_append, a.len h1, b.len h2]
  one h := by
    obtain ⟨c1, c2, rfl, h1, h2⟩ := h
    intro v hv
    rcases List.mem_append.1 hv with hv | hv
    · exact a.one h1 v hv
    · exact b.one h2 v hv
  keep hz h := by obtain ⟨c1, c2, he, h1, h2⟩ := h; exact ⟨c1, c2, he, a.keep hz h1, b.keep hz h2⟩
  mono hz h := by obtain ⟨c1, c2, he, h1, h2⟩ := h; exact ⟨c1, c2, he, a.mono hz h1, b.mono hz h2⟩
def tyVia {α β : Type} (f : α → β) (b : Ty β) : Ty α where
  size := b.size
  rep Z w cs x := b.rep Z w cs (f x)
  len h := b.len h
  one h := b.one h
  keep hz h := b.keep hz h
  mono hz h := b.mono hz h
/-- cells that read as a list -/
def RepL {α : Type} (t : Ty α) (Z : Nat → Prop) (w : World) : List Value → List α → Prop
  | cs, [] => cs = []
  | cs, x :: xs => ∃ c1 c2, cs = c1 ++ c2 ∧ t.rep Z w c1 x ∧ RepL t Z w c2 xs
section
variable {α : Type} {t : Ty α} {Z Z' : Nat → Prop} {w w' : World}
theorem RepL.len : ∀ {xs : List α} {cs : List Value}, RepL t Z w cs xs → cs.length = xs.length * t.size
  | [], _, h => by rw [show _ = [] from h]; simp
  | x :: xs, _, h => by
    obtain ⟨c1, c2, rfl, h1, h2⟩ := h
    rw [List.length_append, t.len h1, RepL.len h2, List.length_cons, Nat.succ_mul, Nat.add_comm]
theorem RepL.one : ∀ {xs : List α} {cs : List Value}, RepL t Z w cs xs → ∀ v ∈ cs, v.oneCell' = true
  | [], _, h => by rw [show _ = [] from h]; simp
  | x :: xs, _, h => by
    obtain ⟨c1, c2, rfl, h1, h2⟩ := h
    intro v hv
    rcases List.mem_append.1 hv with hv | hv
    · exact t.one h1 v hv
    · exact RepL.one h2 v hv
theorem RepL.keep (hz : Agr Z w w') : ∀ {xs : List α} {cs : List Value}, RepL t Z w cs xs → RepL t Z w' cs xs
  | [], _, h => h
  | x :: xs, _, h => by obtain ⟨c1, c2, he, h1, h2⟩ := h; exact ⟨c1, c2, he, t.keep hz h1, RepL.keep hz h2⟩
theorem RepL.mono (hz : ∀ b, Z b → Z' b) : ∀ {xs : List α} {cs : List Value}, RepL t Z w cs xs → RepL t Z' w cs xs
  | [], _, h => h
  | x :: xs, _, h => by obtain ⟨c1, c2, he, h1, h2⟩ := h; exact ⟨c1, c2, he, t.mono hz h1, RepL.mono hz h2⟩
theorem RepL.append : ∀ {xs ys : List α} {cs ds : List Value}, RepL t Z w cs xs → RepL t Z w ds ys → RepL t Z w (cs ++ ds) (xs ++ ys)
  | [], _, _, _, h, h' => by rw [show _ = [] from h]; exact h'
  | x :: xs, _, _, _, h, h' => by
    obtain ⟨c1, c2, rfl, h1, h2⟩ := h
    exact ⟨c1, c2 ++ _, by rw [List.append_assoc], h1, RepL.append h2 h'⟩
theorem RepL.single {x : α} {cs : List Value} (h : t.rep Z w cs x) : RepL t Z w cs [x] := ⟨cs, [], by simp, h, rfl⟩
theorem RepL.drop : ∀ (k : Nat) {xs : List α} {cs : List Value}, RepL t Z w cs xs → RepL t Z w (cs.drop (k * t.size)) (xs.drop k)
  | 0, _, _, h => by simpa using h
  | k + 1, [], _, h => by rw [show _ = [] from h]; simp [RepL]
  | k + 1, x :: xs, _, h => by
    obtain ⟨c1, c2, rfl, h1, h2⟩ := h
    have := RepL.drop k h2
    have e : (c1 ++ c2).drop t.size = c2 := by
      rw [List.drop_append_of_le_length (by rw [t.len h1]; exact Nat.le_refl _), List.drop_of_length_le (by rw [t.len h1]; exact Nat.le_refl _), List.nil_append]
    rw [List.drop_succ_cons, Nat.succ_mul, Nat.add_comm, ← List.drop_drop, e]
    exact this
theorem RepL.take : ∀ (k : Nat) {xs : List α} {cs : List Value}, RepL t Z w cs xs → RepL t Z w (cs.take (k * t.size)) (xs.take k)
  | 0, _, _, h => by simp [RepL]
  | k + 1, [], _, h => by rw [show _ = [] from h]; simp [RepL]
  | k + 1, x :: xs, _, h => by
    obtain ⟨c1, c2, rfl, h1, h2⟩ := h
    refine ⟨c1, c2.take (k * t.size), ?_, h1, RepL.take k h2⟩
    rw [List.take_append, List.take_of_length_le (by rw [t.len h1, Nat.succ_mul]; omega), t.len h1, Nat.succ_mul, Nat.add_sub_cancel]
/-- the cells of one element -/
theorem RepL.at {xs : List α} {cs : List Value} (h : RepL t Z w cs xs) {k : Nat} {x : α} (hk : xs[k]? = some x) : t.rep Z w ((cs.drop (k * t.size)).take t.size) x := by
  have h1 := RepL.drop k h
  have hlt : k < xs.length := (List.getElem?_eq_some_iff.1 hk).1
  rw [List.drop_eq_getElem_cons hlt] at h1
  obtain ⟨c1, c2, he, h2, h3⟩ := h1
  rw [List.getElem?_eq_getElem hlt] at hk
  rw [he, List.take_append_of_le_length (by rw [t.len h2]; exact Nat.le_refl _), List.take_of_length_le (by rw [t.len h2]; exact Nat.le_refl _)]
  exact Option.some.inj hk ▸ h2
theorem RepL.set : ∀ (k : Nat) {xs : List α} {cs : List Value} {x : α} {c : List Value}, RepL t Z w cs xs → t.rep Z w c x → k < xs.length → RepL t Z w (cs.take (k * t.size) ++ c ++ cs.drop ((k + 1) * t.size)) (xs.set k x)
  | 0, [], _, _, _, _, _, hk => by simp at hk
  | 0, y :: xs, _, x, c, h, hc, _ => by
    obtain ⟨c1, c2, rfl, h1, h2⟩ := h
    refine ⟨c, c2, ?_, hc, h2⟩
    rw [Nat.zero_mul, List.take_zero, List.nil_append, Nat.zero_add, Nat.one_mul, List.drop_append_of_le_length (by rw [t.len h1]; exact Nat.le_refl _), List.drop_of_length_le (by rw [t.len h1]; exact Nat.le_refl _), List.nil_append]
  | k + 1, [], _, _, _, _, _, hk => by simp at hk
  | k + 1, y :: xs, _, x, c, h, hc, hk => by
    obtain ⟨c1, c2, rfl, h1, h2⟩ := h
    refine ⟨c1, _, ?_, h1, RepL.set k h2 hc (by simpa using hk)⟩
    have e1 : ∀ j, (c1 ++ c2).take ((j + 1) * t.size) = c1 ++ c2.take (j * t.size) := fun j => by
      rw [List.take_append, List.take_of_length_le (by rw [t.len h1, Nat.succ_mul]; omega), t.len h1, Nat.succ_mul, Nat.add_sub_cancel]
    have e2 : ∀ j, (c1 ++ c2).drop ((j + 1) * t.size) = c2.drop (j * t.size) := fun j => by
      rw [List.drop_append, List.drop_of_length_le (by rw [t.len h1, Nat.succ_mul]; omega), t.len h1, Nat.succ_mul, Nat.add_sub_cancel, List.nil_append]
    rw [e1, e2]; simp
end
/-- cells at an address, in a block of Z -/
def CellsAt (Z : Nat → Prop) (w : World) (ad : Addr) (cs : List Value) : Prop := Z ad.block ∧ ∀ j u, cs[j]? = some u → w.cell? (ad.add j) = some u
theorem add_block (a : Addr) (n : Nat) : (a.add n).block = a.block := by unfold Addr.add; split <;> rfl
theorem add_plain (g o n : Nat) : (⟨g, o, none⟩ : Addr).add n = ⟨g, o + n, none⟩ := by unfold Addr.add; split <;> simp_all
theorem add_add (a : Addr) (i j : Nat) : (a.add i).add j = a.add (i + j) := by
  unfold Addr.add
  by_cases hi : i = 0 <;> by_cases hj : j = 0 <;> simp [hi, hj, Nat.add_assoc]
section
variable {Z Z' : Nat → Prop} {w w' : World} {ad : Addr} {cs : List Value}
theorem CellsAt.keep (hz : Agr Z w w') (h : CellsAt Z w ad cs) : CellsAt Z w' ad cs :=
  ⟨h.1, fun j u hu => (World.cell?_of_block (w := w) (hz (ad.add j).block (by rw [add_block]; exact h.1))).trans (h.2 j u hu)⟩
theorem CellsAt.mono (hz : ∀ b, Z b → Z' b) (h : CellsAt Z w ad cs) : CellsAt Z' w ad cs := ⟨hz _ h.1, h.2⟩
theorem CellsAt.drop (h : CellsAt Z w ad cs) (k : Nat) : CellsAt Z w (ad.add k) (cs.drop k) :=
  ⟨by rw [add_block]; exact h.1, fun j u hu => by rw [add_add]; exact h.2 _ u (by rw [List.getElem?_drop] at hu; exact hu)⟩
theorem CellsAt.take (h : CellsAt Z w ad cs) (k : Nat) : CellsAt Z w ad (cs.take k) :=
  ⟨h.1, fun j u hu => h.2 _ u (by rw [List.getElem?_take] at hu; split at hu; exact hu; cases hu)⟩
end
/-- a slice that reads as a list -/
def tyList {α : Type} (t : Ty α) : Ty (List α) where
  size := 1
  rep Z w c xs := ∃ A n cap, c = [.slice A n cap] ∧ n = xs.length ∧ n ≤ cap ∧ n ≤ maxLen ∧ (n = 0 ∨ ∃ ad cs, A = some ad ∧ CellsAt Z w ad cs ∧ RepL t Z w cs xs)
  len h := by obtain ⟨_, _, _, rfl, _⟩ := h; rfl
  one h := by obtain ⟨_, _, _, rfl, _⟩ := h; simp [Value.oneCell']
  keep hz h := by
    obtain ⟨A, n, c, he, hn, hc, hm, h⟩ := h
    refine ⟨A, n, c, he, hn, hc, hm, h.imp id ?_⟩
    rintro ⟨ad, cs, e, h1, h2⟩
    exact ⟨ad, cs, e, h1.keep hz, h2.keep hz⟩
  mono hz h := by
    obtain ⟨A, n, c, he, hn, hc, hm, h⟩ := h
    refine ⟨A, n, c, he, hn, hc, hm, h.imp id ?_⟩
    rintro ⟨ad, cs, e, h1, h2⟩
    exact ⟨ad, cs, e, h1.mono hz, h2.mono hz⟩
/-- an array of n elements -/
def tyArr {α : Type} (n : Nat) (t : Ty α) : Ty (List α) where
  size := n * t.size
  rep Z w c xs := xs.length = n ∧ RepL t Z w c xs
  len h := by rw [RepL.len h.2, h.1]
  one h := RepL.one h.2
  keep hz h := ⟨h.1, h.2.keep hz⟩
  mono hz h := ⟨h.1, h.2.mono hz⟩
/-- what is known of memory that is not written any more -/
structure Fact where
  p : (Nat → Prop) → World → Prop
  keep : ∀ {Z w w'}, Agr Z w w' → p Z w → p Z w'
  mono : ∀ {Z Z' : Nat → Prop} {w}, (∀ b, Z b → Z' b) → p Z w → p Z' w
/-- cells that read as x -/
def fDat {α : Type} (t : Ty α) (cs : List Value) (x : α) : Fact := ⟨fun Z w => t.rep Z w cs x, t.keep, t.mono⟩
/-- a pointer to cells that read as x -/
def fPtr {α : Type} (t : Ty α) (v : Value) (x : α) : Fact :=
  ⟨fun Z w => ∃ ad cs, v = .pointer (some ad) ∧ CellsAt Z w ad cs ∧ t.rep Z w cs x,
   fun hz h => by obtain ⟨ad, cs, e, h1, h2⟩ := h; exact ⟨ad, cs, e, h1.keep hz, t.keep hz h2⟩,
   fun hz h => by obtain ⟨ad, cs, e, h1, h2⟩ := h; exact ⟨ad, cs, e, h1.mono hz, t.mono hz h2⟩⟩
/-- what the call itself owns -/
structure Own where
  blk : List Nat
  p : (Nat → Prop) → World → Prop
  keep : ∀ {Z w w'}, Agr (fun b => Z b ∨ b ∈ blk) w w' → p Z w → p Z w'
  mono : ∀ {Z Z' : Nat → Prop} {w}, (∀ b, Z b → Z' b) → p Z w → p Z' w
  lt : ∀ {Z w}, p Z w → ∀ b ∈ blk, b < w.heap.size
/-- a block whose cells are known to the sign -/
def oBox (g : Nat) (t : TypeId) (cs : List Value) : Own where
  blk := [g]
  p _ w := w.heap[g]? = some (.cells cs.toArray t (0, 0))
  keep hz h := (hz g (.inr (by simp))).trans h
  mono _ h := h
  lt h := by intro b hb; rw [List.mem_singleton.1 hb]; exact (Array.getElem?_eq_some_iff.1 h).1
theorem grown_agr {v : Value} {w w' : World} {base n sz : Nat} {e : TypeId} {xs : List Value} (h : w.ownsRow base e sz v n xs) (hz : ∀ b, v.ownBlock = some b → w'.heap[b]? = w.heap[b]?) : w'.ownsRow base e sz v n xs := by
  refine ⟨h.1, h.2.imp id ?_⟩
  rintro ⟨g, cap, cur, rfl, hb, hg, r⟩
  exact ⟨g, cap, cur, rfl, hb, (hz g rfl).trans hg, r⟩
/-- a slice of the call's own that may grow and be written -/
def oRow {α : Type} (v : Value) (e : TypeId) (t : Ty α) (xs : List α) : Own where
  blk := v.ownBlock.toList
  p Z w := ∃ cs, w.ownsRow 0 e t.size v xs.length cs ∧ RepL t Z w cs xs
  keep hz h := by
    obtain ⟨cs, h1, h2⟩ := h
    exact ⟨cs, grown_agr h1 (fun b hb => hz b (.inr (by simp [hb]))), h2.keep (fun b hb => hz b (.inl hb))⟩
  mono hz h := by obtain ⟨cs, h1, h2⟩ := h; exact ⟨cs, h1, h2.mono hz⟩
  lt h := by
    obtain ⟨cs, h1, h2⟩ := h
    intro b hb
    exact (h1.lt b (by simpa using hb)).2
structure Mem where
  B : Nat
  w0 : World
  Z0 : Nat → Prop
  X : List Nat
  own : List Own
  fz : List Fact
def Mem.blks (m : Mem) : List Nat := m.own.flatMap Own.blk
/-- the blocks that are not written any more -/
def Mem.frz (m : Mem) (w : World) (b : Nat) : Prop := b < w.heap.size ∧ b ∉ m.blks ∧ (b < m.B → m.Z0 b)
/-- what was there is as it was, but for the blocks of X -/
structure Bel (B : Nat) (X : List Nat) (w w' : World) : Prop where
  os : w'.os = w.os
  tape : w'.tape = w.tape
  output : w'.output = w.output
  size : w.heap.size ≤ w'.heap.size
  block : ∀ k, k < B → k ∉ X → w'.heap[k]? = w.heap[k]?
theorem Bel.refl (B : Nat) (X : List Nat) (w : World) : Bel B X w w := ⟨rfl, rfl, rfl, Nat.le_refl _, fun _ _ _ => rfl⟩
theorem Bel.below {B : Nat} {w w' : World} (h : Bel B [] w w') : Below B w w' := ⟨h.os, h.tape, h.output, h.size, fun k hk => h.block k hk (by simp)⟩
theorem Bel.of {B : Nat} {X : List Nat} {w w' : World} (h : Below B w w') : Bel B X w w' := ⟨h.os, h.tape, h.output, h.size, fun k hk _ => h.block k hk⟩
structure Holds (m : Mem) (w : World) : Prop where
  bel : Bel m.B m.X m.w0 w
  B : m.w0.heap.size = m.B
  nd : m.blks.Nodup
  lo : ∀ b ∈ m.blks, m.B ≤ b ∨ b ∈ m.X
  zx : ∀ b ∈ m.X, b < m.B ∧ ¬ m.Z0 b
  own : ∀ o ∈ m.own, o.p (m.frz w) w
  fz : ∀ f ∈ m.fz, f.p (m.frz w) w
def Mem.add (m : Mem) (f : Fact) : Mem := { m with fz := f :: m.fz }
def Mem.adds (m : Mem) (l : List Fact) : Mem := { m with fz := l ++ m.fz }
def Mem.push (m : Mem) (o : Own) : Mem := { m with own := o :: m.own }
def Mem.pushs (m : Mem) (l : List Own) : Mem := { m with own := l ++ m.own }
def Mem.upd (m : Mem) (i : Nat) (o : Own) : Mem := { m with own := m.own.set i o }
/-- an operation that changes what is owned at one place, and adds to it -/
structure Step (m : Mem) (w : World) (bs : List Nat) (w' : World) : Prop where
  os : w'.os = w.os
  tape : w'.tape = w.tape
  output : w'.output = w.output
  size : w.heap.size ≤ w'.heap.size
  block : ∀ b, b < w.heap.size → b ∉ bs → w'.heap[b]? = w.heap[b]?
theorem Step.of {m : Mem} {w w' : World} {bs : List Nat} (h : Below w.heap.size w w') : Step m w bs w' := ⟨h.os, h.tape, h.output, h.size, fun b hb _ => h.block b hb⟩
section
variable {m : Mem} {w w' : World}
theorem Holds.lt (h : Holds m w) {b : Nat} (hb : b ∈ m.blks) : b < w.heap.size := by
  obtain ⟨o, ho, hb⟩ := List.mem_flatMap.1 hb
  exact o.lt (h.own o ho) b hb
theorem Holds.size (h : Holds m w) : m.B ≤ w.heap.size := by rw [← h.B]; exact h.bel.size
theorem Holds.add (h : Holds m w) {f : Fact} (hf : f.p (m.frz w) w) : Holds (m.add f) w :=
  ⟨h.bel, h.B, h.nd, h.lo, h.zx, h.own, fun g hg => by
    rcases List.mem_cons.1 hg with rfl | hg
    · exact hf
    · exact h.fz g hg⟩
theorem Holds.adds (h : Holds m w) {l : List Fact} (hf : ∀ f ∈ l, f.p (m.frz w) w) : Holds (m.adds l) w :=
  ⟨h.bel, h.B, h.nd, h.lo, h.zx, h.own, fun g hg => by
    rcases List.mem_append.1 hg with hg | hg
    · exact hf g hg
    · exact h.fz g hg⟩
/-- the master rule: bs are the blocks that may have been written; 'own' is split in what stays (a sublist by membership) and what is new -/
theorem Holds.step (h : Holds m w) {bs : List Nat} (hs : Step m w bs w') (hbs : ∀ b ∈ bs, b ∈ m.blks) (own' new : List Own)
    (hnd : ((new ++ own').flatMap Own.blk).Nodup) (hold : ∀ o ∈ own', o ∈ m.own ∧ ∀ b ∈ o.blk, b ∉ bs)
    (hnew : ∀ o ∈ new, (∀ b ∈ o.blk, b ∈ bs ∨ w.heap.size ≤ b) ∧ ∀ Z : Nat → Prop, (∀ b, m.frz w b → Z b) → (∀ b, w.heap.size ≤ b → b < w'.heap.size → b ∉ new.flatMap Own.blk → Z b) → o.p Z w') :
    Holds { m with own := new ++ own' } w' := by
  have hz : ∀ b, m.frz w b → Mem.frz { m with own := new ++ own' } w' b := fun b hb => by
    refine ⟨Nat.lt_of_lt_of_le hb.1 hs.size, fun hx => ?_, hb.2.2⟩
    obtain ⟨o, ho, hx⟩ := List.mem_flatMap.1 hx
    rcases List.mem_append.1 ho with ho | ho
    · rcases (hnew o ho).1 b hx with hx | hx
      · exact hb.2.1 (hbs b hx)
      · have := hb.1; omega
    · exact hb.2.1 (List.mem_flatMap.2 ⟨o, (hold o ho).1, hx⟩)
  have hag : Agr (m.frz w) w w' := fun b hb => hs.block b hb.1 (fun hx => hb.2.1 (hbs b hx))
  have hlo : ∀ b ∈ bs, m.B ≤ b ∨ b ∈ m.X := fun b hb => h.lo b (hbs b hb)
  refine ⟨⟨hs.os.trans h.bel.os, hs.tape.trans h.bel.tape, hs.output.trans h.bel.output, Nat.le_trans h.bel.size hs.size, fun k hk hx => ?_⟩, h.B, hnd, fun b hb => ?_, h.zx, fun o ho => ?_, fun f hf => f.mono hz (f.keep hag (h.fz f hf))⟩
  · refine (hs.block k (Nat.lt_of_lt_of_le hk h.size) (fun hb => ?_)).trans (h.bel.block k hk hx)
    rcases hlo k hb with h1 | h1
    · have hk' : k < m.B := hk; omega
    · exact hx h1
  · obtain ⟨o, ho, hb⟩ := List.mem_flatMap.1 hb
    rcases List.mem_append.1 ho with ho | ho
    · rcases (hnew o ho).1 b hb with hx | hx
      · exact hlo b hx
      · exact .inl (Nat.le_trans h.size hx)
    · exact h.lo b (List.mem_flatMap.2 ⟨o, (hold o ho).1, hb⟩)
  · rcases List.mem_append.1 ho with ho | ho
    · refine (hnew o ho).2 _ hz (fun b h1 h2 h3 => ⟨h2, fun hx => ?_, fun hx => ?_⟩)
      · obtain ⟨o', ho', hx⟩ := List.mem_flatMap.1 hx
        rcases List.mem_append.1 ho' with ho' | ho'
        · exact h3 (List.mem_flatMap.2 ⟨o', ho', hx⟩)
        · have := h.lt (List.mem_flatMap.2 ⟨o', (hold o' ho').1, hx⟩); omega
      · have := h.size; have hx' : b < m.B := hx; omega
    · refine o.mono hz (o.keep (fun b hb => ?_) (h.own o (hold o ho).1))
      rcases hb with hb | hb
      · exact hag b hb
      · exact hs.block b (o.lt (h.own o (hold o ho).1) b hb) ((hold o ho).2 b hb)
/-- memory only grows -/
theorem Holds.ext (h : Holds m w) (hb : Below w.heap.size w w') : Holds m w' := by
  have := h.step (bs := []) (.of hb) (by simp) m.own [] (by simpa using (show (m.own.flatMap Own.blk).Nodup from h.nd)) (fun o ho => ⟨ho, by simp⟩) (by simp)
  simpa using this
/-- more is owned, in new blocks -/
theorem Holds.pushs (h : Holds m w) (hb : Below w.heap.size w w') {l : List Own} (hnd : (l.flatMap Own.blk).Nodup)
    (hnew : ∀ o ∈ l, (∀ b ∈ o.blk, w.heap.size ≤ b) ∧ ∀ Z : Nat → Prop, (∀ b, m.frz w b → Z b) → (∀ b, w.heap.size ≤ b → b < w'.heap.size → b ∉ l.flatMap Own.blk → Z b) → o.p Z w') : Holds (m.pushs l) w' := by
  refine h.step (bs := []) (.of hb) (by simp) m.own l ?_ (fun o ho => ⟨ho, by simp⟩) (fun o ho => ⟨fun b hb => .inr ((hnew o ho).1 b hb), (hnew o ho).2⟩)
  rw [List.flatMap_append, List.nodup_append]
  refine ⟨hnd, h.nd, fun b hb1 c hc e => ?_⟩
  obtain ⟨o, ho, hb1⟩ := List.mem_flatMap.1 hb1
  have := (hnew o ho).1 b hb1
  have := h.lt hc
  omega
theorem Holds.push (h : Holds m w) (hb : Below w.heap.size w w') {o : Own} (hnd : o.blk.Nodup) (hlo : ∀ b ∈ o.blk, w.heap.size ≤ b)
    (ho : ∀ Z : Nat → Prop, (∀ b, m.frz w b → Z b) → o.p Z w') : Holds (m.push o) w' :=
  h.pushs (l := [o]) hb (by simpa using hnd) (fun o' ho' => by rw [List.mem_singleton.1 ho']; exact ⟨hlo, fun Z h1 _ => ho Z h1⟩)
/-- the same set of owned things in another order, or fewer of them -/
theorem Holds.reown (h : Holds m w) (own' : List Own) (hsub : ∀ o ∈ own', o ∈ m.own) (hnd : (own'.flatMap Own.blk).Nodup) : Holds { m with own := own' } w := by
  have := h.step (w' := w) (bs := []) (.of (Below.refl _ _)) (by simp) own' [] (by simpa using hnd) (fun o ho => ⟨hsub o ho, by simp⟩) (by simp)
  simpa using this
theorem Holds.refz (h : Holds m w) (fz' : List Fact) (hsub : ∀ f ∈ fz', f ∈ m.fz) : Holds { m with fz := fz' } w :=
  ⟨h.bel, h.B, h.nd, h.lo, h.zx, h.own, fun f hf => h.fz f (hsub f hf)⟩
theorem blks_split {l : List Own} {i : Nat} {o : Own} (hi : l[i]? = some o) : l.flatMap Own.blk = (l.take i).flatMap Own.blk ++ (o.blk ++ (l.drop (i + 1)).flatMap Own.blk) := by
  have hlt : i < l.length := (List.getElem?_eq_some_iff.1 hi).1
  conv => lhs; rw [← List.take_append_drop i l]
  rw [List.flatMap_append, List.drop_eq_getElem_cons hlt, List.flatMap_cons]
  rw [List.getElem?_eq_getElem hlt] at hi
  rw [Option.some.inj hi]
theorem set_split {l : List Own} {i : Nat} {o : Own} (o' : Own) (hi : l[i]? = some o) : l.set i o' = l.take i ++ o' :: l.drop (i + 1) := by
  have hlt : i < l.length := (List.getElem?_eq_some_iff.1 hi).1
  rw [List.set_eq_take_append_cons_drop, if_pos hlt]
theorem perm_set {l : List Own} {i : Nat} {o : Own} (o' : Own) (hi : l[i]? = some o) : ((l.set i o').flatMap Own.blk).Perm ((o' :: (l.take i ++ l.drop (i + 1))).flatMap Own.blk) := by
  rw [set_split o' hi]
  exact List.Perm.flatMap_right _ List.perm_middle
theorem perm_get {l : List Own} {i : Nat} {o : Own} (hi : l[i]? = some o) : (l.flatMap Own.blk).Perm ((o :: (l.take i ++ l.drop (i + 1))).flatMap Own.blk) := by
  have := perm_set o hi
  have e : l.set i o = l := by
    apply List.ext_getElem?
    intro j
    rw [List.getElem?_set]
    split
    · rename_i e; subst e; rw [hi, if_pos (List.getElem?_eq_some_iff.1 hi).1]
    · rfl
  rwa [e] at this
/-- one owned thing is changed: nothing else has been written -/
theorem Holds.upd (h : Holds m w) {i : Nat} {o o' : Own} (hi : m.own[i]? = some o) (hs : Step m w o.blk w') (hnd : o'.blk.Nodup) (hnew : ∀ b ∈ o'.blk, b ∈ o.blk ∨ w.heap.size ≤ b)
    (ho : ∀ Z : Nat → Prop, (∀ b, m.frz w b → Z b) → o'.p Z w') : Holds (m.upd i o') w' := by
  have hnd0 : ((o :: (m.own.take i ++ m.own.drop (i + 1))).flatMap Own.blk).Nodup := (perm_get hi).nodup_iff.1 h.nd
  have hmo : o ∈ m.own := List.mem_of_getElem? hi
  have hin : ∀ b ∈ o.blk, b ∈ m.blks := fun b hb => List.mem_flatMap.2 ⟨o, hmo, hb⟩
  rw [List.flatMap_cons, List.nodup_append] at hnd0
  have hsub : ∀ x ∈ m.own.take i ++ m.own.drop (i + 1), x ∈ m.own := fun x hx => by
    rcases List.mem_append.1 hx with hx | hx
    · exact List.mem_of_mem_take hx
    · exact List.mem_of_mem_drop hx
  have h1 := h.step hs hin (m.own.take i ++ m.own.drop (i + 1)) [o'] (by
      rw [List.singleton_append, List.flatMap_cons, List.nodup_append]
      refine ⟨hnd, hnd0.2.1, fun b hb c hc e => ?_⟩
      subst e
      rcases hnew b hb with hx | hx
      · exact hnd0.2.2 b hx b hc rfl
      · obtain ⟨x, hx1, hx2⟩ := List.mem_flatMap.1 hc
        have := h.lt (List.mem_flatMap.2 ⟨x, hsub x hx1, hx2⟩); omega)
    (fun x hx => ⟨hsub x hx, fun b hb hbo => hnd0.2.2 b hbo b (List.mem_flatMap.2 ⟨x, hx, hb⟩) rfl⟩)
    (fun x hx => by rw [List.mem_singleton.1 hx]; exact ⟨hnew, fun Z h1 _ => ho Z h1⟩)
  have h2 := h1.reown (m.own.set i o') (fun x hx => by
    rw [set_split o' hi] at hx
    show x ∈ [o'] ++ (m.own.take i ++ m.own.drop (i + 1))
    simp only [List.mem_append, List.mem_cons] at hx ⊢
    rcases hx with hx | rfl | hx
    · exact .inr (.inl hx)
    · exact .inl (.inl rfl)
    · exact .inr (.inr hx)) ((perm_set o' hi).nodup_iff.2 (by have h9 : (([o'] ++ (m.own.take i ++ m.own.drop (i + 1))).flatMap Own.blk).Nodup := h1.nd; simpa using h9))
  exact h2
end
end Go.Proofs.YtfhifdmbdkkgaaaDoor.En
