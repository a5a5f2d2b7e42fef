/- Numbers with their order: the code and the reference agree: NumSays. No condition. -/
import Derived.Test.YtgmggcpceemnnaaWPackOnes
import Derived.Test.YtgmggcpceemnnaaPlBits
import Derived.Test.YtgmggcpceemnnaaNumMath
import Derived.Laws.BitsAllLaws
namespace Go.Proofs.Ytgmggcpceemnnaa.PPut
open Go.RowKit Ytgmggcpceemnnaa.En Ytgmggcpceemnnaa Num
open Go.Lib hiding cut
set_option linter.unusedVariables false
set_option linter.unusedSimpArgs false
theorem iw {n : Nat} (h : n ≤ 9223372036854775807) : IntKind.i64.wrap (n : Int) = (n : Int) := w64 (by omega) (by omega)
theorem uw {n : Nat} (h : n < 18446744073709551616) : IntKind.u64.wrap (n : Int) = (n : Int) := by
  unfold IntKind.wrap
  simp [IntKind.signed, IntKind.bits]
  omega
theorem bAt_lt {s : List UInt8} {j : Nat} (h : j < s.length) : En.bAt s (j : Int) = ((s[j].toNat : Nat) : Int) := by
  unfold En.bAt
  rw [Int.toNat_natCast, List.getD_eq_getElem?_getD, List.getElem?_eq_getElem h]; rfl
theorem p8 : 256 ^ 8 = 18446744073709551616 := by decide
theorem p7 : 256 ^ 7 = 72057594037927936 := by decide
/-! the number of a row of digits -/
theorem value_go (s : List UInt8) (hs : s.length ≤ 8) (kk : Int → Option Int) : ∀ (d j fu : Nat), s.length - j = d → j ≤ s.length → d < fu →
    f_num_value_L5 s kk fu ((beNat (s.take j) : Nat) : Int) (j : Int) = kk ((beNat s : Nat) : Int)
  | 0, j, fu + 1, hd, hj, _ => by
    rw [f_num_value_L5, cond_ff (dge (by omega)), List.take_of_length_le (by omega)]
  | d + 1, j, fu + 1, hd, hj, hf => by
    have hlt : j < s.length := by omega
    have hl : (s.take j).length ≤ 7 := by rw [List.length_take]; omega
    have h7 := beNat_lt' hl
    rw [p7] at h7
    have hb := s[j].toNat_lt
    rw [f_num_value_L5, cond_tt (dlt (by omega)), req_pos ⟨by omega, by omega⟩, bAt_lt hlt, uw (n := s[j].toNat) (by omega), wsucc (by omega)]
    have e1 : ((beNat (s.take j) : Nat) : Int) * 2 ^ min ((8 : Int)).toNat (IntKind.bits .u64) = ((beNat (s.take j) * 2 ^ 8 : Nat) : Int) := shl_nat (m := 8) rfl (by decide)
    rw [e1, uw (by omega), u64_or_nat _ _ (by omega) (by omega)]
    have e2 : beNat (s.take j) * 2 ^ 8 ||| s[j].toNat = beNat (s.take (j + 1)) := by
      rw [beNat_take hlt, Nat.mul_comm _ (2 ^ 8), ← Nat.two_pow_add_eq_or_of_lt (i := 8) (by omega)]
    rw [e2]
    exact value_go s hs kk d (j + 1) fu (by omega) (by omega) (by omega)
theorem value_ok (s : List UInt8) (hs : s.length ≤ 8) (fu : Nat) (hf : 9 ≤ fu) : f_num_value fu s = some ((beNat s : Nat) : Int) := by
  unfold f_num_value
  rw [lt_of]
  exact value_go s hs _ s.length 0 fu (by omega) (by omega) (by omega)
theorem number_ok : ∀ (k : Nat) (s : List UInt8) (fu : Nat), s.length = k → k ≤ 8 → k < fu → f_lumref_number fu s = some ((beNat s : Nat) : Int)
  | 0, s, fu + 1, hk, _, _ => by
    have : s = [] := List.eq_nil_of_length_eq_zero hk
    subst this; rfl
  | k + 1, s, fu + 1, hk, h8, hf => by
    have hne : s ≠ [] := by rintro rfl; simp at hk
    have e : IntKind.i64.wrap ((s.length : Int) - (1 : Int)) = (k : Int) := by rw [w64 (by omega) (by omega)]; omega
    have hlk : k < s.length := by omega
    have ht : (s.take k).length = k := by rw [List.length_take]; omega
    have h7 := beNat_lt' (l := s.take k) (k := 7) (by omega)
    rw [p7] at h7
    have hb := s[k].toNat_lt
    rw [f_lumref_number, cond_ff (beq_eq_false_iff_ne.2 hne), e, req_pos ⟨by omega, by omega⟩, Int.toNat_natCast, number_ok k (s.take k) fu ht (by omega) (by omega), opt_of, req_pos ⟨by omega, by omega⟩, bAt_lt hlk]
    have e1 : (256 : Int) * ((beNat (s.take k) : Nat) : Int) = ((256 * beNat (s.take k) : Nat) : Int) := by omega
    rw [e1, uw (by omega), uw (n := s[k].toNat) (by omega)]
    have e2 : ((256 * beNat (s.take k) : Nat) : Int) + ((s[k].toNat : Nat) : Int) = ((beNat s : Nat) : Int) := by
      have := beNat_take hlk
      rw [List.take_of_length_le (by omega : s.length ≤ k + 1)] at this
      omega
    rw [e2, uw]
    have := beNat_lt' (l := s) (k := 8) (by omega)
    rw [p8] at this; exact this
def putV (n : Nat) : List UInt8 := UInt8.ofNat (digF 8 n).length :: digF 8 n
/-! a number read -/
def getV : List UInt8 → Int × Int × Int
  | [] => (0, 0, 3)
  | b :: t => if 8 < b.toNat then (0, 0, 4) else if t.length < b.toNat then (0, 0, 3) else if (t.take b.toNat).take 1 = [0] then (0, 0, 4) else ((beNat (t.take b.toNat) : Nat), (1 + b.toNat : Nat), 0)
theorem getV_cons (b : UInt8) (t : List UInt8) : getV (b :: t) = if 8 < b.toNat then (0, 0, 4) else if t.length < b.toNat then (0, 0, 3) else if (t.take b.toNat).take 1 = [0] then (0, 0, 4) else (((beNat (t.take b.toNat) : Nat) : Int), ((1 + b.toNat : Nat) : Int), (0 : Int)) := rfl
theorem cut_b (b : UInt8) (t : List UInt8) : cut (b :: t) 1 ((1 + b.toNat : Nat) : Int) = t.take b.toNat := by
  unfold cut
  rw [Int.toNat_natCast, Nat.add_comm]; rfl
theorem b0 (b : UInt8) (t : List UInt8) : En.bAt (b :: t) 0 = ((b.toNat : Nat) : Int) := rfl
theorem wb (b : UInt8) : IntKind.i64.wrap ((1 : Int) + ((b.toNat : Nat) : Int)) = ((1 + b.toNat : Nat) : Int) := by
  have := b.toNat_lt
  rw [w64 (by omega) (by omega)]; omega
theorem get_ok (s : List UInt8) (fu : Nat) (hf : 9 ≤ fu) : f_num_Get fu s = some (getV s) := by
  unfold f_num_Get
  cases s with
  | nil => rfl
  | cons b t =>
    have hb := b.toNat_lt
    have hlen : (((b :: t).length : Nat) : Int) = (t.length : Int) + 1 := by simp
    rw [cond_ff (by rfl), req_pos ⟨by omega, by omega⟩, b0, iw (n := b.toNat) (by omega), wb]
    rw [getV_cons]
    by_cases h1 : 8 < b.toNat
    · rw [cond_tt (decide_eq_true (by omega)), if_pos h1]
    rw [cond_ff (decide_eq_false (by omega)), if_neg h1]
    by_cases h2 : t.length < b.toNat
    · rw [cond_tt (dlt (by omega)), if_pos h2]
    rw [cond_ff (dge (by omega)), if_neg h2, lt_of]
    have tail : ∀ q : Bool, (bif q then (some ((0 : Int), (0 : Int), (4 : Int))) else (req (0 ≤ (1 : Int) ∧ (1 : Int) ≤ ((1 + b.toNat : Nat) : Int) ∧ ((1 + b.toNat : Nat) : Int) ≤ ((b :: t).length : Int)) (opt (f_num_value fu (cut (b :: t) (1 : Int) ((1 + b.toNat : Nat) : Int))) fun (r10 : Int) => (some (r10, ((1 + b.toNat : Nat) : Int), (0 : Int)))))) = some (bif q then ((0 : Int), (0 : Int), (4 : Int)) else (((beNat (t.take b.toNat) : Nat) : Int), ((1 + b.toNat : Nat) : Int), (0 : Int))) := by
      intro q
      cases q with
      | true => rfl
      | false =>
        rw [cond_ff rfl, req_pos ⟨by omega, by omega, by omega⟩, cut_b, value_ok _ (by rw [List.length_take]; omega) fu hf, opt_of]; rfl
    by_cases h3 : 0 < b.toNat
    · rw [cond_tt (decide_eq_true (by omega)), req_pos ⟨by omega, by omega⟩]
      refine (tail _).trans ?_
      congr 1
      cases t with
      | nil => exact absurd h3 (by simp at h2; omega)
      | cons c u =>
        have e : En.bAt (b :: c :: u) 1 = ((c.toNat : Nat) : Int) := rfl
        have e3 : ((c :: u).take b.toNat).take 1 = [c] := by
          obtain ⟨m, hm⟩ : ∃ m, b.toNat = m + 1 := ⟨b.toNat - 1, by omega⟩
          rw [hm]; rfl
        rw [e, e3]
        by_cases h4 : c = 0
        · subst h4; rfl
        · have h5 : c.toNat ≠ 0 := fun h => h4 (UInt8.toNat_inj.1 h)
          rw [cond_ff (by rw [beq_eq_false_iff_ne]; omega), if_neg (by simpa using h4)]
    · rw [cond_ff (decide_eq_false (by omega))]
      refine (tail _).trans ?_
      have h0 : b.toNat = 0 := by omega
      rw [h0, if_neg (by simp)]; rfl
theorem hp_ok (fu : Nat) (s : List UInt8) (c : UInt8) : f_strings_HasPrefix fu s [c] = some (decide (s.take 1 = [c])) := by
  unfold f_strings_HasPrefix f_stringslite_HasPrefix
  rw [lt_of]
  cases s with
  | nil => rfl
  | cons a t =>
    rw [cond_tt (decide_eq_true (by simp; omega)), req_pos ⟨by simp, by simp; omega⟩, opt_of]
    congr 1
    show (([a] : List UInt8) == [c]) = decide ([a] = [c])
    by_cases h : a = c
    · subst h; simp
    · simp [h]
theorem rget_ok (s : List UInt8) (fu : Nat) (hf : 9 ≤ fu) : f_lumref_Get fu s = some (getV s) := by
  unfold f_lumref_Get
  cases s with
  | nil => rfl
  | cons b t =>
    have hb := b.toNat_lt
    have hlen : (((b :: t).length : Nat) : Int) = (t.length : Int) + 1 := by simp
    rw [cond_ff (by rw [beq_eq_false_iff_ne]; omega), req_pos ⟨by omega, by omega⟩, b0]
    rw [getV_cons]
    by_cases h1 : 8 < b.toNat
    · rw [cond_tt (decide_eq_true (by omega)), if_pos h1]
    rw [cond_ff (decide_eq_false (by omega)), if_neg h1, req_pos ⟨by omega, by omega⟩, iw (n := b.toNat) (by omega), wb]
    by_cases h2 : t.length < b.toNat
    · rw [cond_tt (dlt (by omega)), if_pos h2]
    rw [cond_ff (dge (by omega)), if_neg h2, req_pos ⟨by omega, by omega, by omega⟩, cut_b, hp_ok, opt_of]
    by_cases h4 : (t.take b.toNat).take 1 = [0]
    · rw [if_pos h4, decide_eq_true h4]; rfl
    · rw [if_neg h4, decide_eq_false h4, cond_ff rfl, req_pos ⟨by omega, by omega, by omega⟩, number_ok _ _ fu rfl (by rw [List.length_take]; omega) (by rw [List.length_take]; omega), opt_of]
end Go.Proofs.Ytgmggcpceemnnaa.PPut
