/- The order of strings, in the spelling of the printed functions. No condition. -/
import Derived.Test.YtjbgahmcobcojaaDoorPl0
import Derived.Lib.Bytealg
namespace Go.Proofs.YtjbgahmcobcojaaDoor.StrOrd
open Go.RowKit YtjbgahmcobcojaaDoor.En YtjbgahmcobcojaaDoor
theorem u8_tri (a b : UInt8) : a < b ∨ a = b ∨ b < a := by
  rcases Nat.lt_trichotomy a.toNat b.toNat with h | h | h
  · exact .inl (UInt8.lt_iff_toNat_lt.2 h)
  · exact .inr (.inl (UInt8.toNat_inj.1 h))
  · exact .inr (.inr (UInt8.lt_iff_toNat_lt.2 h))
theorem u8_irr (a : UInt8) : ¬ a < a := fun h => Nat.lt_irrefl _ (UInt8.lt_iff_toNat_lt.1 h)
theorem u8_asymm {a b : UInt8} (h : a < b) : ¬ b < a := fun h' => by
  have h1 := UInt8.lt_iff_toNat_lt.1 h
  have h2 := UInt8.lt_iff_toNat_lt.1 h'
  omega
theorem u8_trans {a b c : UInt8} (h : a < b) (h' : b < c) : a < c := UInt8.lt_iff_toNat_lt.2 (Nat.lt_trans (UInt8.lt_iff_toNat_lt.1 h) (UInt8.lt_iff_toNat_lt.1 h'))
abbrev L (a b : List UInt8) : Prop := Op.bytesLess a b = true
theorem less_nil (a : List UInt8) : ¬ L a [] := by cases a <;> simp [L, Op.bytesLess]
theorem less_cons {x y : UInt8} {a b : List UInt8} : L (x :: a) (y :: b) ↔ x < y ∨ (x = y ∧ L a b) := by simp [L, Op.bytesLess]
theorem irr : ∀ a : List UInt8, ¬ L a a
  | [] => less_nil []
  | x :: a => fun h => by
    rcases less_cons.1 h with h | h
    · exact u8_irr x h
    · exact irr a h.2
theorem trans : ∀ {a b c : List UInt8}, L a b → L b c → L a c
  | a, [], c, h, _ => absurd h (less_nil a)
  | a, _ :: _, [], _, h => absurd h (less_nil _)
  | [], _ :: _, _ :: _, _, _ => rfl
  | x :: a, y :: b, z :: c, h, h' => by
    rcases less_cons.1 h with k | ⟨e, k⟩
    · rcases less_cons.1 h' with k' | ⟨e', _⟩
      · exact less_cons.2 (.inl (u8_trans k k'))
      · subst e'; exact less_cons.2 (.inl k)
    · subst e
      rcases less_cons.1 h' with k' | ⟨e', k'⟩
      · exact less_cons.2 (.inl k')
      · exact less_cons.2 (.inr ⟨e', trans k k'⟩)
theorem tri : ∀ a b : List UInt8, L a b ∨ a = b ∨ L b a
  | [], [] => .inr (.inl rfl)
  | [], _ :: _ => .inl rfl
  | _ :: _, [] => .inr (.inr rfl)
  | x :: a, y :: b => by
    rcases u8_tri x y with h | rfl | h
    · exact .inl (less_cons.2 (.inl h))
    · rcases tri a b with h | rfl | h
      · exact .inl (less_cons.2 (.inr ⟨rfl, h⟩))
      · exact .inr (.inl rfl)
      · exact .inr (.inr (less_cons.2 (.inr ⟨rfl, h⟩)))
    · exact .inr (.inr (less_cons.2 (.inl h)))
theorem asymm {a b : List UInt8} (h : L a b) : ¬ L b a := fun h' => irr a (trans h h')
theorem cmp : ∀ a b : List UInt8, (L a b ∧ Lib.compareBytes a b = -1) ∨ (a = b ∧ Lib.compareBytes a b = 0) ∨ (L b a ∧ Lib.compareBytes a b = 1)
  | [], [] => .inr (.inl ⟨rfl, rfl⟩)
  | [], _ :: _ => .inl ⟨rfl, rfl⟩
  | _ :: _, [] => .inr (.inr ⟨rfl, rfl⟩)
  | x :: a, y :: b => by
    unfold Lib.compareBytes
    rcases u8_tri x y with h | rfl | h
    · rw [if_pos h]; exact .inl ⟨less_cons.2 (.inl h), rfl⟩
    · rw [if_neg (u8_irr x), if_neg (u8_irr x)]
      rcases cmp a b with ⟨h, e⟩ | ⟨rfl, e⟩ | ⟨h, e⟩
      · exact .inl ⟨less_cons.2 (.inr ⟨rfl, h⟩), e⟩
      · exact .inr (.inl ⟨rfl, e⟩)
      · exact .inr (.inr ⟨less_cons.2 (.inr ⟨rfl, h⟩), e⟩)
    · rw [if_neg (u8_asymm h), if_pos h]; exact .inr (.inr ⟨less_cons.2 (.inl h), rfl⟩)
theorem cmp_neg {a b : List UInt8} : Lib.compareBytes a b < 0 ↔ L a b := by
  rcases cmp a b with ⟨h, e⟩ | ⟨rfl, e⟩ | ⟨h, e⟩
  · rw [e]; exact ⟨fun _ => h, fun _ => by omega⟩
  · rw [e]; exact ⟨fun h => by omega, fun h => absurd h (irr _)⟩
  · rw [e]; exact ⟨fun h' => by omega, fun h' => absurd h (asymm h')⟩
theorem cmp_zero {a b : List UInt8} : Lib.compareBytes a b = 0 ↔ a = b := by
  rcases cmp a b with ⟨h, e⟩ | ⟨rfl, e⟩ | ⟨h, e⟩
  · rw [e]; exact ⟨fun h' => by omega, fun h' => by subst h'; exact absurd h (irr _)⟩
  · rw [e]; simp
  · rw [e]; exact ⟨fun h' => by omega, fun h' => by subst h'; exact absurd h (irr _)⟩
theorem cmp_le {a b : List UInt8} : Lib.compareBytes a b ≤ 0 ↔ ¬ L b a := by
  rcases cmp a b with ⟨h, e⟩ | ⟨rfl, e⟩ | ⟨h, e⟩
  · rw [e]; exact ⟨fun _ => asymm h, fun _ => by omega⟩
  · rw [e]; exact ⟨fun _ => irr _, fun _ => by omega⟩
  · rw [e]; exact ⟨fun h' => by omega, fun h' => absurd h h'⟩
end Go.Proofs.YtjbgahmcobcojaaDoor.StrOrd
