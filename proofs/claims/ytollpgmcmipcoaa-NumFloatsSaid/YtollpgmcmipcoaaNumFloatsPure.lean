/- Numbers with a point: the code and the reference agree: NumFloats. No condition. -/
import Derived.Test.YtollpgmcmipcoaaWNumFloats
import Derived.Test.YtollpgmcmipcoaaPlBits
import Derived.Test.YtollpgmcmipcoaaNumMath
import Derived.Laws.BitsAllLaws
namespace Go.Proofs.Ytollpgmcmipcoaa.PNumFloats
open Go.RowKit Ytollpgmcmipcoaa.En Ytollpgmcmipcoaa Num Go.Lib
set_option linter.unusedVariables false
set_option linter.unusedSimpArgs false
theorem iw {n : Nat} (h : n ≤ 9223372036854775807) : IntKind.i64.wrap (n : Int) = (n : Int) := w64 (by omega) (by omega)
theorem uw {n : Nat} (h : n < 18446744073709551616) : IntKind.u64.wrap (n : Int) = (n : Int) := by
  unfold IntKind.wrap
  simp [IntKind.signed, IntKind.bits]
  omega
theorem bAt_lt {s : List UInt8} {j : Nat} (h : j < s.length) : En.bAt s (j : Int) = ((s[j].toNat : Nat) : Int) := by
  unfold En.bAt
  rw [Int.toNat_natCast, List.getD_eq_getElem?_getD, List.getElem?_eq_getElem h]; rfl
theorem p8 : 256 ^ 8 = 18446744073709551616 := by decide
theorem p7 : 256 ^ 7 = 72057594037927936 := by decide
/-! the number of a row of digits -/
theorem value_go (s : List UInt8) (hs : s.length ≤ 8) (kk : Int → Option Int) : ∀ (d j fu : Nat), s.length - j = d → j ≤ s.length → d < fu →
    f_num_value_L5 s kk fu ((beNat (s.take j) : Nat) : Int) (j : Int) = kk ((beNat s : Nat) : Int)
  | 0, j, fu + 1, hd, hj, _ => by
    rw [f_num_value_L5, cond_ff (dge (by omega)), List.take_of_length_le (by omega)]
  | d + 1, j, fu + 1, hd, hj, hf => by
    have hlt : j < s.length := by omega
    have hl : (s.take j).length ≤ 7 := by rw [List.length_take]; omega
    have h7 := beNat_lt' hl
    rw [p7] at h7
    have hb := s[j].toNat_lt
    rw [f_num_value_L5, cond_tt (dlt (by omega)), req_pos ⟨by omega, by omega⟩, bAt_lt hlt, uw (n := s[j].toNat) (by omega), wsucc (by omega)]
    have e1 : ((beNat (s.take j) : Nat) : Int) * 2 ^ min ((8 : Int)).toNat (IntKind.bits .u64) = ((beNat (s.take j) * 2 ^ 8 : Nat) : Int) := shl_nat (m := 8) rfl (by decide)
    rw [e1, uw (by omega), u64_or_nat _ _ (by omega) (by omega)]
    have e2 : beNat (s.take j) * 2 ^ 8 ||| s[j].toNat = beNat (s.take (j + 1)) := by
      rw [beNat_take hlt, Nat.mul_comm _ (2 ^ 8), ← Nat.two_pow_add_eq_or_of_lt (i := 8) (by omega)]
    rw [e2]
    exact value_go s hs kk d (j + 1) fu (by omega) (by omega) (by omega)
theorem value_ok (s : List UInt8) (hs : s.length ≤ 8) (fu : Nat) (hf : 9 ≤ fu) : f_num_value fu s = some ((beNat s : Nat) : Int) := by
  unfold f_num_value
  rw [lt_of]
  exact value_go s hs _ s.length 0 fu (by omega) (by omega) (by omega)
theorem number_ok : ∀ (k : Nat) (s : List UInt8) (fu : Nat), s.length = k → k ≤ 8 → k < fu → f_lumref_number fu s = some ((beNat s : Nat) : Int)
  | 0, s, fu + 1, hk, _, _ => by
    have : s = [] := List.eq_nil_of_length_eq_zero hk
    subst this; rfl
  | k + 1, s, fu + 1, hk, h8, hf => by
    have hne : s ≠ [] := by rintro rfl; simp at hk
    have e : IntKind.i64.wrap ((s.length : Int) - (1 : Int)) = (k : Int) := by rw [w64 (by omega) (by omega)]; omega
    have hlk : k < s.length := by omega
    have ht : (s.take k).length = k := by rw [List.length_take]; omega
    have h7 := beNat_lt' (l := s.take k) (k := 7) (by omega)
    rw [p7] at h7
    have hb := s[k].toNat_lt
    rw [f_lumref_number, cond_ff (beq_eq_false_iff_ne.2 hne), e, req_pos ⟨by omega, by omega⟩, Int.toNat_natCast, number_ok k (s.take k) fu ht (by omega) (by omega), opt_of, req_pos ⟨by omega, by omega⟩, bAt_lt hlk]
    have e1 : (256 : Int) * ((beNat (s.take k) : Nat) : Int) = ((256 * beNat (s.take k) : Nat) : Int) := by omega
    rw [e1, uw (by omega), uw (n := s[k].toNat) (by omega)]
    have e2 : ((256 * beNat (s.take k) : Nat) : Int) + ((s[k].toNat : Nat) : Int) = ((beNat s : Nat) : Int) := by
      have := beNat_take hlk
      rw [List.take_of_length_le (by omega : s.length ≤ k + 1)] at this
      omega
    rw [e2, uw]
    have := beNat_lt' (l := s) (k := 8) (by omega)
    rw [p8] at this; exact this
/-! the digits of a number -/
theorem rdigits_ok : ∀ (k n fu : Nat), n < 256 ^ k → k ≤ 8 → k < fu → f_lumref_digits fu (n : Int) = some (digF k n)
  | 0, n, fu + 1, h, _, _ => by
    have : n = 0 := by simpa using h
    subst this; rfl
  | k + 1, n, fu + 1, h, h8, hf => by
    rw [f_lumref_digits]
    by_cases h0 : n = 0
    · subst h0; rfl
    have hn8 : n < 18446744073709551616 := by
      rw [← p8]; exact Nat.lt_of_lt_of_le h (Nat.pow_le_pow_right (by omega) h8)
    have e1 : ((n : Int)).tdiv 256 = ((n / 256 : Nat) : Int) := by rw [Int.tdiv_eq_ediv_of_nonneg (by omega)]; omega
    have e2 : ((n : Int)).tmod 256 = ((n % 256 : Nat) : Int) := by rw [Int.tmod_eq_emod_of_nonneg (by omega)]; omega
    have hl := digF_len k (n / 256)
    rw [cond_ff (by rw [beq_eq_false_iff_ne]; omega), e1, e2, uw (by omega), rdigits_ok k (n / 256) fu (div_lt h) (by omega) (by omega), opt_of, u8w_in (by omega), req_pos ⟨by omega, by omega⟩, req_pos (by rw [List.length_singleton]; omega), Int.toNat_natCast]
    show _ = some (if n = 0 then [] else digF k (n / 256) ++ [(n % 256).toUInt8])
    rw [if_neg h0]
def inv (b : UInt8) : UInt8 := UInt8.ofNat (255 - b.toNat)
theorem inv_nat (b : UInt8) : (inv b).toNat = 255 - b.toNat := by
  have := b.toNat_lt
  unfold inv; rw [UInt8.toNat_ofNat']; omega
theorem mid_len (s : List UInt8) {j : Nat} (h : j < s.length) : ((s.take j).map inv).length = j := by rw [List.length_map, List.length_take]; omega
theorem mid_at (s : List UInt8) {j : Nat} (h : j < s.length) : ((s.take j).map inv ++ s.drop j)[j]? = some s[j] := by
  have hl := mid_len s h
  rw [List.getElem?_append_right (by omega), hl, Nat.sub_self, List.getElem?_drop, Nat.add_zero, List.getElem?_eq_getElem h]
theorem mid_set (s : List UInt8) {j : Nat} (h : j < s.length) : ((s.take j).map inv ++ s.drop j).set j (inv s[j]) = (s.take (j + 1)).map inv ++ s.drop (j + 1) := by
  have hl := mid_len s h
  rw [List.set_append_right _ _ (by omega), hl, Nat.sub_self, List.drop_eq_getElem_cons h, ← List.take_append_getElem h, List.set_cons_zero, List.map_append, List.append_assoc]
  rfl
theorem xor_inv (b : UInt8) : bits .xor .u8 (if IntKind.signed .u8 then -1 else IntKind.max .u8) (b.toNat : Int) = (((inv b).toNat : Nat) : Int) := by
  have h : ∀ k : Fin 256, bits .xor .u8 (if IntKind.signed .u8 then -1 else IntKind.max .u8) ((k.val : Nat) : Int) = ((255 - k.val : Nat) : Int) := by decide +kernel
  have := h ⟨b.toNat, b.toNat_lt⟩
  rw [inv_nat]; exact this
theorem sub_inv (b : UInt8) : IntKind.u8.wrap ((255 : Int) - (b.toNat : Int)) = (((inv b).toNat : Nat) : Int) := by
  have := b.toNat_lt
  rw [inv_nat, show (255 : Int) - (b.toNat : Int) = ((255 - b.toNat : Nat) : Int) by omega, u8w_in (by omega)]
theorem rturn_go (s : List UInt8) (hs : s.length ≤ 9223372036854775806) (kk : List UInt8 → Option (List UInt8)) : ∀ (d j fu : Nat), s.length - j = d → j ≤ s.length → d < fu →
    f_lumref_turned_L7 s kk fu ((s.take j).map inv ++ s.drop j) (j : Int) = kk (s.map inv)
  | 0, j, fu + 1, hd, hj, _ => by
    rw [f_lumref_turned_L7, cond_ff (dge (by omega)), List.take_of_length_le (by omega), List.drop_of_length_le (by omega), List.append_nil]
  | d + 1, j, fu + 1, hd, hj, hf => by
    have hlt : j < s.length := by omega
    have := (inv s[j]).toNat_lt
    rw [f_lumref_turned_L7, cond_tt (dlt (by omega)), at_of (mid_at s hlt), opt_of, opt_of, sub_inv, req_pos ⟨by omega, by omega⟩, wsucc (by omega), Int.toNat_natCast, Int.toNat_natCast, UInt8.ofNat_toNat, mid_set s hlt]
    exact rturn_go s hs kk d (j + 1) fu (by omega) (by omega) (by omega)
theorem rturn_ok (s : List UInt8) (hs : s.length ≤ 8) (fu : Nat) (hf : 9 ≤ fu) : f_lumref_turned fu s = some (s.map inv) := by
  unfold f_lumref_turned
  rw [req_pos (by omega), lt_of]
  exact rturn_go s (by omega) _ s.length 0 fu (by omega) (by omega) (by omega)
theorem rep_zero : ∀ k : Nat, repeatL [0] k = List.replicate k 0
  | 0 => rfl
  | k + 1 => by show [0] ++ repeatL [0] k = _; rw [rep_zero k]; rfl

theorem repeat_ok (fu k : Nat) (hk : k ≤ 8) : f_strings_Repeat fu ([0] : List UInt8) (k : Int) = some (List.replicate k 0) := by
  unfold f_strings_Repeat
  rw [req_pos ⟨by omega, by omega, by rw [Int.toNat_natCast]; simp; omega⟩, Int.toNat_natCast, rep_zero]
theorem be8_len (n : Nat) : (beBytes 8 n).length = 8 := beBytes_length 8 n
theorem drop_zeros : ∀ l : List UInt8, List.replicate (l.length - (trimLeftB l 0).length) 0 ++ trimLeftB l 0 = l
  | [] => rfl
  | b :: l => by
    unfold trimLeftB
    rw [List.dropWhile_cons]
    have ih := drop_zeros l
    unfold trimLeftB at ih
    have hle : (List.dropWhile (fun x => x == 0) l).length ≤ l.length := (List.dropWhile_sublist _).length_le
    by_cases h : b = 0
    · subst h
      rw [if_pos (by rfl), List.length_cons, show l.length + 1 - (List.dropWhile (fun x => x == 0) l).length = (l.length - (List.dropWhile (fun x => x == 0) l).length) + 1 by omega, List.replicate_succ, List.cons_append, ih]
    · rw [if_neg (by simpa using h)]
      simp
theorem wide_ok (fu n : Nat) (hn : n < 18446744073709551616) (hf : 9 ≤ fu) : f_lumref_wide fu (n : Int) = some (beBytes 8 n) := by
  unfold f_lumref_wide
  have hn' : n < 256 ^ 8 := by rw [p8]; exact hn
  have hl := digF_len 8 n
  rw [rdigits_ok 8 n fu hn' (by omega) (by omega), opt_of]
  rw [show IntKind.i64.wrap ((8 : Int) - ((digF 8 n).length : Int)) = ((8 - (digF 8 n).length : Nat) : Int) from by rw [w64 (by omega) (by omega)]; omega, repeat_ok fu _ (by omega), opt_of, req_pos (by rw [List.length_replicate]; omega)]
  have h := drop_zeros (beBytes 8 n)
  rw [trim_be hn', be8_len] at h
  rw [h]

/-! the bits of a word -/
theorem wb (p : Int) (q : Nat) (h : p = (q : Int)) : p = q := h
theorem and_sign (a : Nat) (h : a < 18446744073709551616) : bits .and .u64 (a : Int) (9223372036854775808 : Int) = if a < 9223372036854775808 then 0 else 9223372036854775808 := by
  have e : bits .and .u64 (a : Int) (9223372036854775808 : Int) = ((a &&& 9223372036854775808 : Nat) : Int) := u64_and_nat a 9223372036854775808 h (by omega)
  rw [e]
  by_cases h1 : a < 9223372036854775808
  · rw [if_pos h1, show a &&& 9223372036854775808 = 0 from ?_]
    · rfl
    apply Nat.eq_of_testBit_eq
    intro i
    rw [Nat.testBit_and, show (9223372036854775808 : Nat) = 2 ^ 63 from rfl, Nat.testBit_two_pow, Nat.zero_testBit]
    by_cases hi : 63 = i
    · subst hi
      rw [Nat.testBit_lt_two_pow h1]; rfl
    · rw [decide_eq_false hi, Bool.and_false]
  · rw [if_neg h1, show a &&& 9223372036854775808 = 9223372036854775808 from ?_]
    · rfl
    apply Nat.eq_of_testBit_eq
    intro i
    rw [Nat.testBit_and, show (9223372036854775808 : Nat) = 2 ^ 63 from rfl, Nat.testBit_two_pow]
    by_cases hi : 63 = i
    · subst hi
      rw [Nat.testBit_eq_decide_div_mod_eq, decide_eq_true (by omega)]; rfl
    · rw [decide_eq_false hi, Bool.and_false]
theorem or_sign (a : Nat) (h : a < 9223372036854775808) : bits .or .u64 (a : Int) (9223372036854775808 : Int) = ((a + 9223372036854775808 : Nat) : Int) := by
  have e : bits .or .u64 (a : Int) (9223372036854775808 : Int) = ((a ||| 9223372036854775808 : Nat) : Int) := u64_or_nat a 9223372036854775808 (by omega) (by omega)
  have e2 := Nat.two_pow_add_eq_or_of_lt (i := 63) (b := a) h 1
  rw [e, Nat.or_comm]
  have e3 : (9223372036854775808 : Nat) ||| a = 2 ^ 63 * 1 ||| a := rfl
  rw [e3, ← e2]
  congr 1
  omega
theorem xor_or (r : Nat) (h : r < 9223372036854775808) : r ^^^ 9223372036854775808 = r + 9223372036854775808 := by
  have e2 := Nat.two_pow_add_eq_or_of_lt (i := 63) (b := r) h 1
  have e3 : r + 9223372036854775808 = r ||| 9223372036854775808 := by
    rw [Nat.or_comm]
    have e4 : (9223372036854775808 : Nat) ||| r = 2 ^ 63 * 1 ||| r := rfl
    rw [e4, ← e2]; omega
  rw [e3]
  apply Nat.eq_of_testBit_eq
  intro i
  rw [Nat.testBit_xor, Nat.testBit_or, show (9223372036854775808 : Nat) = 2 ^ 63 from rfl, Nat.testBit_two_pow]
  by_cases hi : 63 = i
  · subst hi
    rw [Nat.testBit_lt_two_pow h]; rfl
  · rw [decide_eq_false hi]; simp
theorem xor_sign (a : Nat) (h : a < 18446744073709551616) (h1 : 9223372036854775808 ≤ a) : bits .xor .u64 (a : Int) (9223372036854775808 : Int) = ((a - 9223372036854775808 : Nat) : Int) := by
  have e : bits .xor .u64 (a : Int) (9223372036854775808 : Int) = ((a ^^^ 9223372036854775808 : Nat) : Int) := u64_xor_nat a 9223372036854775808 h (by omega)
  obtain ⟨r, hr, rfl⟩ : ∃ r, r < 9223372036854775808 ∧ a = r + 9223372036854775808 := ⟨a - 9223372036854775808, by omega, by omega⟩
  rw [e, ← xor_or r hr, Nat.xor_assoc, Nat.xor_self, Nat.xor_zero, xor_or r hr, Nat.add_sub_cancel]
theorem compl (a : Nat) (h : a < 18446744073709551616) : bits .xor .u64 (if IntKind.signed .u64 then -1 else IntKind.max .u64) (a : Int) = ((18446744073709551615 - a : Nat) : Int) := by
  have e : bits .xor .u64 (if IntKind.signed .u64 then -1 else IntKind.max .u64) (a : Int) = ((18446744073709551615 ^^^ a : Nat) : Int) := u64_xor_nat 18446744073709551615 a (by omega) h
  rw [e]
  congr 1
  have h1 : (BitVec.allOnes 64 ^^^ BitVec.ofNat 64 a).toNat = (~~~ (BitVec.ofNat 64 a)).toNat := by rw [BitVec.allOnes_xor]
  rw [BitVec.toNat_xor, BitVec.toNat_not, BitVec.toNat_ofNat, BitVec.toNat_allOnes, Nat.mod_eq_of_lt h] at h1
  rw [show (18446744073709551615 : Nat) = 2 ^ 64 - 1 from rfl, h1]
/-! bytes turned -/
theorem inv_be : ∀ (k n : Nat), n < 256 ^ k → (beBytes k n).map inv = beBytes k (256 ^ k - 1 - n)
  | 0, n, h => rfl
  | k + 1, n, h => by
    have hp : 256 ^ (k + 1) = 256 * 256 ^ k := by rw [Nat.pow_succ, Nat.mul_comm]
    have hd := div_lt h
    rw [be_succ, be_succ, List.map_append, inv_be k (n / 256) hd]
    obtain ⟨X, hX⟩ : ∃ X, X = 256 ^ k := ⟨_, rfl⟩
    rw [hp, ← hX]
    rw [hp, ← hX] at h
    rw [← hX] at hd
    have e1 : (256 * X - 1 - n) / 256 = X - 1 - n / 256 := by omega
    have e2 : (256 * X - 1 - n) % 256 = 255 - n % 256 := by omega
    rw [e1, e2]
    congr 1
    show [inv _] = [_]
    congr 1
    apply UInt8.toNat_inj.1
    rw [inv_nat, toUInt8_mod]
    have : (255 - n % 256).toUInt8.toNat = 255 - n % 256 := by
      rw [← e2, toUInt8_mod]
    rw [this]
theorem beNat_inv : ∀ (k : Nat) (s : List UInt8), s.length = k → beNat (s.map inv) + beNat s + 1 = 256 ^ k
  | 0, s, h => by
    have : s = [] := List.eq_nil_of_length_eq_zero h
    subst this; rfl
  | k + 1, s, h => by
    have hne : s ≠ [] := by rintro rfl; simp at h
    obtain ⟨t, b, rfl⟩ : ∃ t b, s = t ++ [b] := ⟨s.dropLast, s.getLast hne, (List.dropLast_concat_getLast hne).symm⟩
    have ht : t.length = k := by simpa using h
    have hb := b.toNat_lt
    have ih := beNat_inv k t ht
    rw [List.map_append, show ([b].map inv) = [inv b] from rfl, beNat_snoc, beNat_snoc, inv_nat, Nat.pow_succ]
    omega
/-! no number -/
def isN (b : Nat) : Bool := FloatKind.f64.format.order b b != some .eq
theorem order_self (d : Ieee.Datum) : (d.order d != some .eq) = d.isNaN := by
  cases d with
  | number s m i => simp [Ieee.Datum.order, Ieee.Datum.isNaN]
  | infinity s => simp [Ieee.Datum.order, Ieee.Datum.isNaN]
  | nan s t => rfl
theorem isN_ok (b : Nat) : isN b = decide (9218868437227405312 < b % 9223372036854775808) := by
  unfold isN
  show ((FloatKind.f64.format.read b).order (FloatKind.f64.format.read b) != some .eq) = _
  rw [order_self]
  have hs : FloatKind.f64.format.signWeight = 9223372036854775808 := by decide
  have hb : FloatKind.f64.format.binade = 4503599627370496 := by decide
  have hi : FloatKind.f64.format.infRung = 9218868437227405312 := by decide
  unfold Ieee.Format.read
  rw [hs, hb, hi]
  dsimp only
  by_cases h1 : b % 9223372036854775808 < 4503599627370496
  · rw [if_pos h1, decide_eq_false (by omega)]; rfl
  rw [if_neg h1]
  by_cases h2 : b % 9223372036854775808 < 9218868437227405312
  · rw [if_pos h2, decide_eq_false (by omega)]; rfl
  rw [if_neg h2]
  by_cases h3 : b % 9223372036854775808 = 9218868437227405312
  · rw [if_pos h3, decide_eq_false (by omega)]; rfl
  rw [if_neg h3, decide_eq_true (by omega)]; rfl
theorem nan_ok (b : Int) (fu : Nat) : f_math_IsNaN fu b = some (isN b.toNat) := rfl
/-! written -/
def ptail (c : Int) (fu : Nat) : Option (List UInt8) := (lt (fun (j3i3 : Int) => (opt (f_binary_BEAppendUint64_nil fu () j3i3) fun (r6 : (List UInt8)) => (some r6))) fun (kk4 : Int → Option (List UInt8)) => (bif ((bits .and .u64 c (9223372036854775808 : Int)) == (0 : Int)) then (kk4 (bits .or .u64 c (9223372036854775808 : Int))) else (kk4 (bits .xor .u64 (if IntKind.signed .u64 then -1 else IntKind.max .u64) c))))
def rptail (c : Int) (fu : Nat) : Option (List UInt8) := (bif (decide (c < (9223372036854775808 : Int))) then (opt (f_lumref_wide fu (IntKind.u64.wrap (c + (9223372036854775808 : Int)))) fun (r5 : (List UInt8)) => (some r5)) else (opt (f_lumref_wide fu c) fun (r7 : (List UInt8)) => (opt (f_lumref_turned fu r7) fun (r9 : (List UInt8)) => (some r9))))
theorem tails (c : Nat) (h : c < 18446744073709551616) (fu : Nat) (hf : 9 ≤ fu) : ∃ r, ptail (c : Int) fu = some r ∧ rptail (c : Int) fu = some r := by
  unfold ptail rptail
  rw [lt_of, and_sign c h]
  by_cases h1 : c < 9223372036854775808
  · rw [if_pos h1, cond_tt (show ((0 : Int) == 0) = true from rfl), or_sign c h1, cond_tt (decide_eq_true (by omega))]
    unfold f_binary_BEAppendUint64_nil
    dsimp only
    rw [req_pos (by omega), opt_of, Int.toNat_natCast, show ((c : Int) + 9223372036854775808) = ((c + 9223372036854775808 : Nat) : Int) by omega, uw (by omega), wide_ok fu _ (by omega) hf, opt_of]
    exact ⟨_, rfl, rfl⟩
  · rw [if_neg h1, cond_ff (show ((9223372036854775808 : Int) == 0) = false from rfl), compl c h, cond_ff (decide_eq_false (by omega))]
    unfold f_binary_BEAppendUint64_nil
    dsimp only
    rw [req_pos (by omega), opt_of, Int.toNat_natCast, wide_ok fu c h hf, opt_of, rturn_ok _ (by rw [be8_len]; exact Nat.le_refl _) fu hf, opt_of, inv_be 8 c (by rw [p8]; exact h), p8]
    exact ⟨_, rfl, rfl⟩
theorem put_ok (x : Nat) (h : x < 18446744073709551616) (fu : Nat) (hf : 9 ≤ fu) : ∃ r, f_num_PutFloat fu (x : Int) = some r ∧ f_lumref_PutFloat fu (x : Int) = some r := by
  unfold f_num_PutFloat f_lumref_PutFloat
  rw [lt_of, lt_of, nan_ok, opt_of, opt_of, Int.toNat_natCast]
  obtain ⟨r1, a1, a2⟩ := tails x h fu hf
  obtain ⟨r2, b1, b2⟩ := tails 9221120237041090561 (by omega) fu hf
  rw [show ((9221120237041090561 : Nat) : Int) = 9221120237041090561 by omega] at b1 b2
  cases isN x
  · rw [cond_ff rfl, cond_ff rfl]
    exact ⟨r1, a1, a2⟩
  · rw [cond_tt rfl, cond_tt rfl]
    exact ⟨r2, b1, b2⟩
/-! read -/
def gtail (b : Int) (fu : Nat) : Option (Int × Int × Int) := (lt (fun (j7b27 : Bool) => (bif j7b27 then (some ((0 : Int), (0 : Int), (4 : Int))) else (some (b, (8 : Int), (0 : Int))))) fun (kk8 : Bool → Option (Int × Int × Int)) => (opt (f_math_IsNaN fu b) fun (r11 : Bool) => (bif r11 then (kk8 (b != (9221120237041090561 : Int))) else (kk8 false))))
def rgtail (b : Int) : Option (Int × Int × Int) := (lt (fun (j7b26 : Bool) => (bif j7b26 then (some ((0 : Int), (0 : Int), (4 : Int))) else (some (b, (8 : Int), (0 : Int))))) fun (kk8 : Bool → Option (Int × Int × Int)) => (bif (decide ((b.tmod (9223372036854775808 : Int)) > (9218868437227405312 : Int))) then (kk8 (b != (9221120237041090561 : Int))) else (kk8 false)))
theorem gtails (b : Nat) (fu : Nat) : ∃ (c : Nat) (k e : Int), gtail (b : Int) fu = some ((c : Int), k, e) ∧ rgtail (b : Int) = some ((c : Int), k, e) := by
  unfold gtail rgtail
  have et : ((b : Int)).tmod 9223372036854775808 = ((b % 9223372036854775808 : Nat) : Int) := by rw [Int.tmod_eq_emod_of_nonneg (by omega)]; omega
  rw [lt_of, lt_of, nan_ok, opt_of, Int.toNat_natCast, isN_ok, et]
  by_cases h : 9218868437227405312 < b % 9223372036854775808
  · rw [decide_eq_true h, cond_tt rfl, cond_tt (decide_eq_true (by omega))]
    cases ((b : Int) != (9221120237041090561 : Int))
    · exact ⟨b, 8, 0, rfl, rfl⟩
    · exact ⟨0, 0, 4, rfl, rfl⟩
  · rw [decide_eq_false h, cond_ff rfl, cond_ff (decide_eq_false (by omega))]
    exact ⟨b, 8, 0, rfl, rfl⟩
theorem get_ok (s : List UInt8) (fu : Nat) (hf : 9 ≤ fu) : ∃ (c : Nat) (k e : Int), f_num_GetFloat fu s = some ((c : Int), k, e) ∧ f_lumref_GetFloat fu s = some ((c : Int), k, e) := by
  unfold f_num_GetFloat f_lumref_GetFloat
  by_cases h8 : s.length < 8
  · rw [cond_tt (decide_eq_true (by omega)), cond_tt (decide_eq_true (by omega))]
    exact ⟨0, 0, 3, rfl, rfl⟩
  · have hl : (s.take ((8 : Int)).toNat).length = 8 := by rw [List.length_take]; show min 8 _ = 8; omega
    have hv := beNat_lt' (l := s.take ((8 : Int)).toNat) (k := 8) (by omega)
    have hi := beNat_inv 8 _ hl
    rw [p8] at hv hi
    rw [cond_ff (decide_eq_false (by omega)), cond_ff (decide_eq_false (by omega)), req_pos (by omega), req_pos (by omega), value_ok _ (by omega) fu hf, number_ok 8 _ fu hl (by omega) (by omega), opt_of, opt_of, lt_of, lt_of]
    have hti : ((s.take ((8 : Int)).toNat).map inv).length = 8 := by rw [List.length_map, hl]
    have h4 := number_ok 8 _ fu hti (by omega) (by omega)
    have h5 := rturn_ok (s.take ((8 : Int)).toNat) (by omega) fu hf
    obtain ⟨v, hve⟩ : ∃ v, v = beNat (s.take ((8 : Int)).toNat) := ⟨_, rfl⟩
    rw [← hve] at hv hi ⊢
    rw [and_sign v hv]
    by_cases h1 : v < 9223372036854775808
    · rw [if_pos h1, cond_ff (show ((0 : Int) != 0) = false from rfl), compl v hv, cond_ff (decide_eq_false (by omega)), req_pos (by omega), h5, opt_of, h4, opt_of, show beNat ((s.take ((8 : Int)).toNat).map inv) = 18446744073709551615 - v by omega]
      exact gtails _ fu
    · rw [if_neg h1, cond_tt (show ((9223372036854775808 : Int) != 0) = true from rfl), xor_sign v hv (by omega), cond_tt (decide_eq_true (by omega)), show ((v : Int) - 9223372036854775808) = ((v - 9223372036854775808 : Nat) : Int) by omega, uw (by omega)]
      exact gtails _ fu
def fuel (_ : Nat) (_ : List UInt8) : Nat := 20
theorem says (x : Nat) (s : List UInt8) (h : (Lit.float .f64 x).wf = true) (hs : s.length ≤ 9223372036854775807) : f_lumlaw_NumFloats (fuel x s) (x : Int) s = some true := by
  have hx : x < 18446744073709551616 := of_decide_eq_true h
  obtain ⟨c, k, e, g1, g2⟩ := get_ok s 20 (by omega)
  obtain ⟨r, p1, p2⟩ := put_ok x hx 20 (by omega)
  show f_lumlaw_NumFloats 20 (x : Int) s = some true
  unfold f_lumlaw_NumFloats
  rw [g1, opt_of, g2, opt_of, lt_of]
  dsimp only
  rw [Int.toNat_natCast, cond_tt (beq_self_eq_true _), lt_of, p1, opt_of, p2, opt_of, cond_tt (beq_self_eq_true _), cond_tt rfl, cond_tt (beq_self_eq_true _), beq_self_eq_true]
end Go.Proofs.Ytollpgmcmipcoaa.PNumFloats
