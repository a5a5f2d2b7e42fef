/- Numbers are written in one way; sums compared. No condition. -/
import Derived.Test.YtgmggcpceemnnaaPnMix
import Derived.Test.YtgmggcpceemnnaaPnPut
namespace Go.Proofs.Ytgmggcpceemnnaa.PPackLists
open Go.RowKit Ytgmggcpceemnnaa.En Ytgmggcpceemnnaa Num Mix PPut
open Go.Lib hiding cut
set_option linter.unusedVariables false
set_option linter.unusedSimpArgs false
namespace CN
def IdF (F : List UInt8 → A8u8) : Prop := ∀ (fu : Nat) (s : List UInt8), 65 ≤ fu → s.length < fu → s.length ≤ 9223372036854775800 → f_mix_ID fu s = some (F s) ∧ f_lumref_ID fu s = some (F s)
theorem id_ex : ∃ F, IdF F := ⟨MX.idOf, fun fu s h1 h2 h3 => ⟨MX.mID_ok fu s h2 (by omega), MX.rID_ok fu s h1 h2 h3⟩⟩
/-! a number is written in one way only -/
theorem beFrom_ge : ∀ (l : List UInt8) (acc : Nat), acc ≤ beFrom acc l
  | [], acc => Nat.le_refl _
  | b :: l, acc => by
    have := beFrom_ge l (acc * 256 + b.toNat)
    show acc ≤ beFrom (acc * 256 + b.toNat) l
    omega
theorem be_pos {b : UInt8} {t : List UInt8} (h : b ≠ 0) : 0 < beNat (b :: t) := by
  have h1 := beFrom_ge t (0 * 256 + b.toNat)
  have h2 : b.toNat ≠ 0 := fun e => h (UInt8.toNat_inj.1 (by rw [e]; rfl))
  show 0 < beFrom (0 * 256 + b.toNat) t
  omega
theorem digF_be : ∀ (k : Nat) (d : List UInt8), d.length ≤ k → d.take 1 ≠ [0] → digF k (beNat d) = d
  | 0, d, hl, _ => by
    have : d = [] := List.eq_nil_of_length_eq_zero (by omega)
    subst this; rfl
  | k + 1, d, hl, hz => by
    by_cases hd : d = []
    · subst hd; rfl
    have hpos : 0 < beNat d := by
      match d, hd, hz with
      | b :: t, _, hz => exact be_pos (fun e => hz (by rw [e]; rfl))
    obtain ⟨d', b, rfl⟩ : ∃ d' b, d = d' ++ [b] := ⟨d.dropLast, d.getLast hd, (List.dropLast_concat_getLast hd).symm⟩
    have hb := b.toNat_lt
    rw [beNat_snoc] at hpos ⊢
    unfold digF
    rw [if_neg (by omega), show (beNat d' * 256 + b.toNat) / 256 = beNat d' by omega, show (beNat d' * 256 + b.toNat) % 256 = b.toNat by omega]
    have hl' : d'.length ≤ k := by rw [List.length_append, List.length_singleton] at hl; omega
    have hz' : d'.take 1 ≠ [0] := by
      intro e
      apply hz
      cases d' with
      | nil => cases e
      | cons c t =>
        show [c] = [0]
        exact e
    rw [digF_be k d' hl' hz']
    congr 1
    exact congrArg (fun x => [x]) UInt8.ofNat_toNat
theorem putV_len (n : Nat) : (putV n).length ≤ 9 ∧ 1 ≤ (putV n).length := by
  have := digF_len 8 n
  unfold putV
  rw [List.length_cons]
  omega
theorem getV_canon (s : List UInt8) (h : (getV s).2.2 = 0) : ∃ n k : Nat, getV s = ((n : Int), (k : Int), 0) ∧ k ≤ s.length ∧ s.take k = putV n ∧ n < 18446744073709551616 ∧ 1 ≤ k ∧ k ≤ 9 := by
  cases s with
  | nil => cases h
  | cons b t =>
    rw [getV_cons] at h ⊢
    split at h
    · cases h
    · split at h
      · cases h
      · split at h
        · cases h
        · rename_i h1 h2 h3
          rw [if_neg h1, if_neg h2, if_neg h3]
          have hl : (t.take b.toNat).length = b.toNat := by rw [List.length_take]; omega
          refine ⟨_, _, rfl, by rw [List.length_cons]; omega, ?_, ?_, by omega, by omega⟩
          · rw [Nat.add_comm, List.take_succ_cons]
            unfold putV
            rw [digF_be 8 _ (by omega) h3, hl, UInt8.ofNat_toNat]
          · have := beNat_lt' (l := t.take b.toNat) (k := 8) (by omega)
            rw [p8] at this; exact this
theorem l8 (x : A8u8) : (lA8u8 x).length = 8 := rfl
/-! records at the front -/
theorem cut_nat (s : List UInt8) (a b : Nat) : cut s (a : Int) (b : Int) = (s.take b).drop a := by unfold cut; rw [Int.toNat_natCast, Int.toNat_natCast]
theorem lof {l : List UInt8} (h : l.length = 8) : lA8u8 (ofA8u8 l) = l := MX.lof h
theorem of_l (x : A8u8) : ofA8u8 (lA8u8 x) = x := rfl
theorem sum_eq (X : A8u8) (l : List UInt8) (h : l.length = 8) : (X == ofA8u8 l) = (l == lA8u8 X) := by
  rw [Bool.eq_iff_iff, beq_iff_eq, beq_iff_eq]
  constructor
  · rintro rfl; exact (lof h).symm
  · rintro rfl; exact (of_l X).symm
end CN
end Go.Proofs.Ytgmggcpceemnnaa.PPackLists
