/- Numbers with their order: the code and the reference agree: NumSays. No condition. -/
import Derived.Test.YtjbgahmcobcojaaDoorWTreeSays
import Derived.Test.YtjbgahmcobcojaaDoorPlBits
import Derived.Test.YtjbgahmcobcojaaDoorNumMath
import Derived.Laws.BitsAllLaws
namespace Go.Proofs.YtjbgahmcobcojaaDoor.PPut
open Go.RowKit YtjbgahmcobcojaaDoor.En YtjbgahmcobcojaaDoor Num
open Go.Lib hiding cut
set_option linter.unusedVariables false
set_option linter.unusedSimpArgs false
theorem iw {n : Nat} (h : n ≤ 9223372036854775807) : IntKind.i64.wrap (n : Int) = (n : Int) := w64 (by omega) (by omega)
theorem uw {n : Nat} (h : n < 18446744073709551616) : IntKind.u64.wrap (n : Int) = (n : Int) := by
  unfold IntKind.wrap
  simp [IntKind.signed, IntKind.bits]
  omega
theorem bAt_lt {s : List UInt8} {j : Nat} (h : j < s.length) : En.bAt s (j : Int) = ((s[j].toNat : Nat) : Int) := by
  unfold En.bAt
  rw [Int.toNat_natCast, List.getD_eq_getElem?_getD, List.getElem?_eq_getElem h]; rfl
theorem p8 : 256 ^ 8 = 18446744073709551616 := by decide
theorem p7 : 256 ^ 7 = 72057594037927936 := by decide
theorem digits_ok (n : Nat) (hn : n < 18446744073709551616) (fu : Nat) : f_num_digits fu (n : Int) = some (digF 8 n) := by
  unfold f_num_digits f_binary_BEAppendUint64_nil
  rw [req_pos ⟨by omega, by omega⟩, opt_of, Int.toNat_natCast]
  show (opt (req ((0 : UInt8).toNat < 128) (some (trimLeftB (beBytes 8 n) 0))) fun r5 => some r5) = _
  rw [req_pos (by decide), opt_of, trim_be (by rw [p8]; exact hn)]
theorem rdigits_ok : ∀ (k n fu : Nat), n < 256 ^ k → k ≤ 8 → k < fu → f_lumref_digits fu (n : Int) = some (digF k n)
  | 0, n, fu + 1, h, _, _ => by
    have : n = 0 := by simpa using h
    subst this; rfl
  | k + 1, n, fu + 1, h, h8, hf => by
    rw [f_lumref_digits]
    by_cases h0 : n = 0
    · subst h0; rfl
    have hn8 : n < 18446744073709551616 := by
      rw [← p8]; exact Nat.lt_of_lt_of_le h (Nat.pow_le_pow_right (by omega) h8)
    have e1 : ((n : Int)).tdiv 256 = ((n / 256 : Nat) : Int) := by rw [Int.tdiv_eq_ediv_of_nonneg (by omega)]; omega
    have e2 : ((n : Int)).tmod 256 = ((n % 256 : Nat) : Int) := by rw [Int.tmod_eq_emod_of_nonneg (by omega)]; omega
    have hl := digF_len k (n / 256)
    rw [cond_ff (by rw [beq_eq_false_iff_ne]; omega), e1, e2, uw (by omega), rdigits_ok k (n / 256) fu (div_lt h) (by omega) (by omega), opt_of, u8w_in (by omega), req_pos ⟨by omega, by omega⟩, req_pos (by rw [List.length_singleton]; omega), Int.toNat_natCast]
    show _ = some (if n = 0 then [] else digF k (n / 256) ++ [(n % 256).toUInt8])
    rw [if_neg h0]
def putV (n : Nat) : List UInt8 := UInt8.ofNat (digF 8 n).length :: digF 8 n
theorem put_tail (d : List UInt8) (hd : d.length ≤ 8) : (req (0 ≤ (IntKind.u8.wrap (d.length : Int)) ∧ (IntKind.u8.wrap (d.length : Int)) ≤ 255) (req (([(UInt8.ofNat ((IntKind.u8.wrap (d.length : Int))).toNat)]).length + d.length ≤ 9223372036854775807) (some (([(UInt8.ofNat ((IntKind.u8.wrap (d.length : Int))).toNat)]) ++ d)))) = some (UInt8.ofNat d.length :: d) := by
  rw [u8w_in (by omega), req_pos ⟨by omega, by omega⟩, req_pos (by rw [List.length_singleton]; omega), Int.toNat_natCast]; rfl
theorem put_ok (n : Nat) (hn : n < 18446744073709551616) (fu : Nat) : f_num_Put fu (n : Int) = some (putV n) := by
  unfold f_num_Put putV
  rw [digits_ok n hn, opt_of, put_tail _ (digF_len 8 n)]
theorem rput_ok (n : Nat) (hn : n < 18446744073709551616) (fu : Nat) (hf : 9 ≤ fu) : f_lumref_Put fu (n : Int) = some (putV n) := by
  unfold f_lumref_Put putV
  rw [rdigits_ok 8 n fu (by rw [p8]; exact hn) (by omega) (by omega), opt_of, put_tail _ (digF_len 8 n)]
end Go.Proofs.YtjbgahmcobcojaaDoor.PPut
