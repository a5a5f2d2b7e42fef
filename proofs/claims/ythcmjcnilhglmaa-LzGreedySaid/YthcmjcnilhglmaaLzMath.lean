/- The plain mathematics of the greedy search for copies. No condition. -/
import Derived.Test.YthcmjcnilhglmaaBase
namespace Go.Proofs.Ythcmjcnilhglmaa.Lz
def eqAt (s : ByteArray) (at_ d j : Nat) : Bool := bAt s (at_ + j) == bAt s (at_ + j - d)
def mlenF (p : Nat → Bool) : Nat → Nat → Nat
  | 0, n => n
  | f + 1, n => if p n then mlenF p f (n + 1) else n
def mostAt (s : ByteArray) (at_ : Nat) : Nat := min 255 (s.size - at_)
def lenAt (s : ByteArray) (at_ d : Nat) : Nat := mlenF (eqAt s at_ d) (mostAt s at_) 0
theorem mlenF_le (p : Nat → Bool) (f n : Nat) : mlenF p f n ≤ n + f := by
  induction f generalizing n with
  | zero => simp [mlenF]
  | succ f ih => unfold mlenF; split
                 · have := ih (n + 1); omega
                 · omega
theorem lenAt_le (s : ByteArray) (at_ d : Nat) : lenAt s at_ d ≤ mostAt s at_ := by have := mlenF_le (eqAt s at_ d) (mostAt s at_) 0; unfold lenAt; omega
def bestTo (s : ByteArray) (at_ : Nat) : Nat → Nat × Nat
  | 0 => (0, 0)
  | d + 1 => if (bestTo s at_ d).1 < lenAt s at_ (d + 1) then (lenAt s at_ (d + 1), d + 1) else bestTo s at_ d
theorem bestTo_le (s : ByteArray) (at_ d : Nat) : (bestTo s at_ d).1 ≤ mostAt s at_ := by
  induction d with
  | zero => simp [bestTo]
  | succ d ih => unfold bestTo; split
                 · exact lenAt_le s at_ (d + 1)
                 · exact ih
theorem bestTo_dist (s : ByteArray) (at_ d : Nat) : (bestTo s at_ d).2 ≤ d := by
  induction d with
  | zero => simp [bestTo]
  | succ d ih => unfold bestTo; split
                 · simp
                 · omega
theorem bestTo_zero (s : ByteArray) (at_ d : Nat) (h : (bestTo s at_ d).1 = 0) : (bestTo s at_ d).2 = 0 := by
  induction d with
  | zero => simp [bestTo]
  | succ d ih =>
    unfold bestTo at h ⊢
    split
    · rename_i hlt; rw [if_pos hlt] at h; simp only at h; omega
    · rename_i hlt; rw [if_neg hlt] at h; exact ih h
theorem bestTo_stop (s : ByteArray) (at_ d : Nat) (h : (bestTo s at_ d).1 = mostAt s at_) : ∀ e, d ≤ e → bestTo s at_ e = bestTo s at_ d := by
  intro e he
  induction e with
  | zero => have : d = 0 := by omega
            subst this; rfl
  | succ e ih =>
    by_cases hd : d = e + 1
    · subst hd; rfl
    · have := ih (by omega)
      show (if (bestTo s at_ e).1 < lenAt s at_ (e + 1) then _ else _) = _
      rw [this, if_neg (by have := lenAt_le s at_ (e + 1); omega)]
def best (s : ByteArray) (at_ : Nat) : Nat × Nat := bestTo s at_ (min 1024 at_)
structure Tok where
  lit : Nat
  len : Nat
  dist : Nat
def Tok.cells (t : Tok) : List Value := [.int .u8 (t.lit : Nat), .int .i64 (t.len : Nat), .int .i64 (t.dist : Nat)]
theorem Tok.cells_len (t : Tok) : t.cells.length = 3 := rfl
def tokAt (s : ByteArray) (at_ : Nat) : Tok := if (best s at_).1 = 0 then ⟨bAt s at_, 0, 0⟩ else ⟨0, (best s at_).1, (best s at_).2⟩
theorem tokAt_len (s : ByteArray) (at_ : Nat) : (tokAt s at_).len = (best s at_).1 := by
  unfold tokAt; split
  · rename_i h; rw [h]
  · rfl
theorem best_le (s : ByteArray) (at_ : Nat) : (best s at_).1 ≤ mostAt s at_ := bestTo_le _ _ _
theorem best_dist (s : ByteArray) (at_ : Nat) : (best s at_).2 ≤ 1024 := by have := bestTo_dist s at_ (min 1024 at_); unfold best; omega
def toks (s : ByteArray) : Nat → Nat → List Tok
  | 0, _ => []
  | f + 1, at_ => if at_ < s.size then tokAt s at_ :: toks s f (at_ + max (best s at_).1 1) else []
theorem toks_fuel (s : ByteArray) : ∀ (f at_ : Nat), s.size - at_ ≤ f → toks s f at_ = toks s (s.size - at_) at_
  | 0, at_, h => by have : s.size - at_ = 0 := by omega
                    rw [this]
  | f + 1, at_, h => by
    by_cases hlt : at_ < s.size
    · obtain ⟨g, hg⟩ : ∃ g, s.size - at_ = g + 1 := ⟨s.size - at_ - 1, by omega⟩
      rw [hg]
      unfold toks
      rw [if_pos hlt, if_pos hlt, toks_fuel s f _ (by omega), toks_fuel s g _ (by omega)]
    · have : s.size - at_ = 0 := by omega
      rw [this]
      unfold toks
      rw [if_neg hlt]
def toksFrom (s : ByteArray) (at_ : Nat) : List Tok := toks s (s.size - at_) at_
theorem toksFrom_step (s : ByteArray) (at_ : Nat) (h : at_ < s.size) : toksFrom s at_ = tokAt s at_ :: toksFrom s (at_ + max (best s at_).1 1) := by
  unfold toksFrom
  obtain ⟨g, hg⟩ : ∃ g, s.size - at_ = g + 1 := ⟨s.size - at_ - 1, by omega⟩
  rw [hg]
  show (if at_ < s.size then _ else _) = _
  rw [if_pos h, toks_fuel s g _ (by omega)]
theorem toksFrom_end (s : ByteArray) (at_ : Nat) (h : s.size ≤ at_) : toksFrom s at_ = [] := by
  unfold toksFrom
  rw [show s.size - at_ = 0 from by omega]; rfl
theorem toksFrom_len (s : ByteArray) : ∀ (n at_ : Nat), s.size - at_ ≤ n → (toksFrom s at_).length ≤ s.size - at_
  | 0, at_, h => by rw [toksFrom_end s at_ (by omega)]; simp
  | n + 1, at_, h => by
    by_cases hlt : at_ < s.size
    · rw [toksFrom_step s at_ hlt, List.length_cons]
      have := toksFrom_len s n (at_ + max (best s at_).1 1) (by omega)
      omega
    · rw [toksFrom_end s at_ (by omega)]; simp
end Go.Proofs.Ythcmjcnilhglmaa.Lz
