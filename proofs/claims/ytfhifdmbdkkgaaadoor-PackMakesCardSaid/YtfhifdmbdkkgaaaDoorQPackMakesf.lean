/- What PackMakes leans on, part 6. No condition. -/
import Derived.Test.YtfhifdmbdkkgaaaDoorQPackMakese
import Derived.Lib.Repeat
namespace Go.Proofs.YtfhifdmbdkkgaaaDoor.Mix
def M : Nat := 18446744073709551616
def cF : Nat := 11400714819323198485
def cS : Nat := 13787848793156543929
theorem M_pow : M = 2 ^ 64 := by decide
def stp (x b : Nat) : Nat :=
  let z := (x ^^^ b) * cF % M
  let y := (z ^^^ z / 2 ^ 29) * cS % M
  y ^^^ y / 2 ^ 32
theorem div_lt' {z : Nat} (h : z < M) (k : Nat) : z / 2 ^ k < M := Nat.lt_of_le_of_lt (Nat.div_le_self _ _) h
theorem xltM {a b : Nat} (ha : a < M) (hb : b < M) : a ^^^ b < M := by rw [M_pow] at *; exact Nat.xor_lt_two_pow ha hb
theorem M_pos : 0 < M := by decide
theorem stp_lt (x b : Nat) : stp x b < M := by
  unfold stp; simp only
  exact xltM (Nat.mod_lt _ M_pos) (div_lt' (Nat.mod_lt _ M_pos) 32)
theorem prod_one (a b i : Nat) (h : b / 2 ^ i % 2 = 1) : (a * (b % 2 ^ i) % M + a * 2 ^ i % M) % M = a * (b % 2 ^ (i + 1)) % M := by
  rw [Nat.mod_pow_succ, h, Nat.mul_one, Nat.mul_add, ← Nat.add_mod]
theorem prod_zero (a b i : Nat) (h : b / 2 ^ i % 2 = 0) : a * (b % 2 ^ i) % M = a * (b % 2 ^ (i + 1)) % M := by
  rw [Nat.mod_pow_succ, h, Nat.mul_zero, Nat.add_zero]
def leN : List UInt8 → Nat
  | [] => 0
  | b :: l => b.toNat + 256 * leN l
theorem leN_zeros (l : List UInt8) (k : Nat) : leN (l ++ List.replicate k 0) = leN l := by
  induction l with
  | nil =>
    induction k with
    | zero => rfl
    | succ k ih => rw [List.nil_append] at ih ⊢; rw [List.replicate_succ]; show (0 : UInt8).toNat + 256 * leN (List.replicate k 0) = 0; rw [ih]; rfl
  | cons b l ih => show b.toNat + 256 * leN (l ++ _) = b.toNat + 256 * leN l; rw [ih]
theorem leN_lt : ∀ l : List UInt8, leN l < 256 ^ l.length
  | [] => by decide
  | b :: l => by
    have := leN_lt l
    have h := b.toNat_lt
    show b.toNat + 256 * leN l < 256 ^ (l.length + 1)
    rw [Nat.pow_succ]; omega
theorem leN_lt8 (l : List UInt8) (h : l.length ≤ 8) : leN l < M := Nat.lt_of_lt_of_le (leN_lt l) (by rw [show M = 256 ^ 8 from by decide]; exact Nat.pow_le_pow_right (by omega) h)
def chain (cut : Nat → Nat) : Nat → List UInt8 → Nat → Nat
  | 0, _, x => x
  | k + 1, s, x => if s = [] then x else chain cut k (s.drop 8) (cut (stp x (leN (s.take 8))))
def hash (cut : Nat → Nat) (s : List UInt8) : Nat := cut (stp (chain cut s.length s 0) s.length)
theorem chain_nil (cut : Nat → Nat) (k x : Nat) : chain cut k [] x = x := by cases k <;> simp [chain]
theorem chain_more (cut : Nat → Nat) : ∀ (k j : Nat) (s : List UInt8) (x : Nat), s.length ≤ k → s.length ≤ j → chain cut k s x = chain cut j s x
  | 0, j, s, x, h, _ => by
    have : s = [] := List.eq_nil_of_length_eq_zero (by omega)
    subst this; rw [chain_nil, chain_nil]
  | k + 1, 0, s, x, _, h => by
    have : s = [] := List.eq_nil_of_length_eq_zero (by omega)
    subst this; rw [chain_nil, chain_nil]
  | k + 1, j + 1, s, x, h1, h2 => by
    unfold chain
    split
    · rfl
    · rename_i hs
      have hp : 0 < s.length := List.length_pos_iff.2 hs
      exact chain_more cut k j _ _ (by rw [List.length_drop]; omega) (by rw [List.length_drop]; omega)
theorem chain_step (cut : Nat → Nat) {s : List UInt8} (hs : s ≠ []) (x : Nat) : chain cut s.length s x = chain cut (s.drop 8).length (s.drop 8) (cut (stp x (leN (s.take 8)))) := by
  have hp : 0 < s.length := List.length_pos_iff.2 hs
  obtain ⟨k, hk⟩ : ∃ k, s.length = k + 1 := ⟨s.length - 1, by omega⟩
  rw [hk]
  show (if s = [] then x else _) = _
  rw [if_neg hs]
  exact chain_more cut _ _ _ _ (by rw [List.length_drop]; omega) (Nat.le_refl _)
def pad (s : List UInt8) : List UInt8 := s ++ List.replicate ((8 - s.length % 8) % 8) 0
theorem pad_nil (s : List UInt8) : pad s = [] ↔ s = [] := by
  constructor
  · intro h; exact (List.append_eq_nil_iff.1 h).1
  · rintro rfl; rfl
theorem pad_take (s : List UInt8) (hs : s ≠ []) : leN ((pad s).take 8) = leN (s.take 8) ∧ 8 ≤ (pad s).length ∧ (pad s).drop 8 = pad (s.drop 8) := by
  have hp : 0 < s.length := List.length_pos_iff.2 hs
  unfold pad
  by_cases h : 8 ≤ s.length
  · refine ⟨by rw [List.take_append_of_le_length h], by rw [List.length_append]; omega, ?_⟩
    rw [List.drop_append_of_le_length h, List.length_drop, show (s.length - 8) % 8 = s.length % 8 by omega]
  · have e : (8 - s.length % 8) % 8 = 8 - s.length := by omega
    rw [e]
    have hl : (s ++ List.replicate (8 - s.length) (0 : UInt8)).length = 8 := by simp; omega
    refine ⟨?_, by omega, ?_⟩
    · rw [List.take_of_length_le (by omega), leN_zeros, List.take_of_length_le (by omega)]
    · rw [List.drop_of_length_le (by omega), List.drop_of_length_le (show s.length ≤ 8 by omega)]; rfl
end Go.Proofs.YtfhifdmbdkkgaaaDoor.Mix
namespace Go.Proofs.YtfhifdmbdkkgaaaDoor.PPackMakes
open Go.RowKit YtfhifdmbdkkgaaaDoor.En YtfhifdmbdkkgaaaDoor Num Mix Go.Lib
set_option linter.unusedVariables false
set_option linter.unusedSimpArgs false
namespace MX
theorem wr (x : Nat) : IntKind.u64.wrap (x : Int) = ((x % M : Nat) : Int) := by
  unfold IntKind.wrap
  simp [IntKind.signed, IntKind.bits, M]
theorem wi {x : Nat} (h : x < M) : IntKind.u64.wrap (x : Int) = (x : Int) := by rw [wr, Nat.mod_eq_of_lt h]
theorem xo {a b : Nat} (ha : a < M) (hb : b < M) : bits .xor .u64 (a : Int) (b : Int) = ((a ^^^ b : Nat) : Int) := u64_xor_nat a b ha hb
theorem mF (n : Nat) : IntKind.u64.wrap ((n : Int) * (11400714819323198485 : Int)) = ((n * cF % M : Nat) : Int) := by
  rw [show (n : Int) * (11400714819323198485 : Int) = ((n * cF : Nat) : Int) from by rw [Int.natCast_mul]; rfl]
  exact wr _
theorem mS (n : Nat) : IntKind.u64.wrap ((n : Int) * (13787848793156543929 : Int)) = ((n * cS % M : Nat) : Int) := by
  rw [show (n : Int) * (13787848793156543929 : Int) = ((n * cS : Nat) : Int) from by rw [Int.natCast_mul]; rfl]
  exact wr _
theorem s29 (n : Nat) : ((n : Int)).fdiv (2 ^ min ((29 : Int)).toNat (IntKind.bits .u64)) = ((n / 2 ^ 29 : Nat) : Int) := shr_nat rfl (by decide)
theorem s32 (n : Nat) : ((n : Int)).fdiv (2 ^ min ((32 : Int)).toNat (IntKind.bits .u64)) = ((n / 2 ^ 32 : Nat) : Int) := shr_nat rfl (by decide)
theorem ml (n : Nat) : n % M < M := Nat.mod_lt _ M_pos
theorem mstep_ok (fu : Nat) {x b : Nat} (hx : x < M) (hb : b < M) : f_mix_Step fu (x : Int) (b : Int) = some ((stp x b : Nat) : Int) := by
  unfold f_mix_Step
  rw [xo hx hb, mF, s29, xo (ml _) (div_lt' (ml _) 29), mS, s32, xo (ml _) (div_lt' (ml _) 32)]
  rfl
theorem prod_go (a b : Nat) (ha : a < M) (hb : b < M) (kk : Int → Option Int) : ∀ (n i fu : Nat), i + n = 64 → n < fu →
    f_lumref_product_L5 (a : Int) (b : Int) kk fu ((a * (b % 2 ^ i) % M : Nat) : Int) (i : Int) = kk ((a * b % M : Nat) : Int)
  | 0, i, fu + 1, hi, _ => by
    obtain rfl : i = 64 := by omega
    rw [f_lumref_product_L5, cond_ff (dge (by omega)), Nat.mod_eq_of_lt (show b < 2 ^ 64 from hb)]
  | n + 1, i, fu + 1, hi, hf => by
    rw [f_lumref_product_L5, cond_tt (dlt (by omega)), lt_of, req_pos (by omega)]
    have hd : b / 2 ^ i < M := div_lt' hb i
    rw [shr_nat (m := i) (k := .u64) rfl (show i ≤ 64 by omega)]
    have hbit : bits .and .u64 ((b / 2 ^ i : Nat) : Int) 1 = ((b / 2 ^ i % 2 : Nat) : Int) := by
      have := u64_and_nat (b / 2 ^ i) 1 hd (by omega)
      rw [Nat.and_one_is_mod] at this
      exact this
    rw [hbit]
    have ih := prod_go a b ha hb kk n (i + 1) fu (by omega) (by omega)
    by_cases h1 : b / 2 ^ i % 2 = 1
    · rw [h1, cond_tt (by rfl), req_pos (by omega), shl_nat (m := i) (k := .u64) rfl (show i ≤ 64 by omega), wr, ← Int.natCast_add, wr, prod_one a b i h1, wsucc (by omega)]
      exact ih
    · have h0 : b / 2 ^ i % 2 = 0 := by omega
      rw [h0, cond_ff (by rfl), prod_zero a b i h0, wsucc (by omega)]
      exact ih
theorem prod_ok (fu : Nat) (hf : 65 ≤ fu) {a b : Nat} (ha : a < M) (hb : b < M) : f_lumref_product fu (a : Int) (b : Int) = some ((a * b % M : Nat) : Int) := by
  unfold f_lumref_product
  rw [lt_of]
  have h := prod_go a b ha hb (fun j => some j) 64 0 fu (by omega) (by omega)
  rw [show a * (b % 2 ^ 0) % M = 0 from by simp [Nat.mod_one]] at h
  exact h
theorem td29 (n : Nat) (h : n < M) : IntKind.u64.wrap (((n : Int)).tdiv (536870912 : Int)) = ((n / 2 ^ 29 : Nat) : Int) := by
  rw [show ((n : Int)).tdiv (536870912 : Int) = ((n / 2 ^ 29 : Nat) : Int) from rfl, wi (div_lt' h 29)]
theorem td32 (n : Nat) (h : n < M) : IntKind.u64.wrap (((n : Int)).tdiv (4294967296 : Int)) = ((n / 2 ^ 32 : Nat) : Int) := by
  rw [show ((n : Int)).tdiv (4294967296 : Int) = ((n / 2 ^ 32 : Nat) : Int) from rfl, wi (div_lt' h 32)]
theorem cF_lt : cF < M := by decide
theorem cS_lt : cS < M := by decide
theorem rstep_ok (fu : Nat) (hf : 65 ≤ fu) {x b : Nat} (hx : x < M) (hb : b < M) : f_lumref_Step fu (x : Int) (b : Int) = some ((stp x b : Nat) : Int) := by
  unfold f_lumref_Step
  rw [xo hx hb, show (11400714819323198485 : Int) = ((cF : Nat) : Int) from rfl, prod_ok fu hf (xltM hx hb) cF_lt, opt_of, td29 _ (ml _), xo (ml _) (div_lt' (ml _) 29)]
  rw [show (13787848793156543929 : Int) = ((cS : Nat) : Int) from rfl, prod_ok fu hf (xltM (ml _) (div_lt' (ml _) 29)) cS_lt, opt_of, td32 _ (ml _), xo (ml _) (div_lt' (ml _) 32)]
  rfl
theorem u64b (b : UInt8) : IntKind.u64.wrap (b.toNat : Int) = ((b.toNat : Nat) : Int) := wi (Nat.lt_trans b.toNat_lt (by decide))
theorem orb {a m : Nat} {b : UInt8} {j : Int} (hj : j = (m : Int)) (ha : a < 2 ^ m) (hm : m + 8 ≤ 64) : bits .or .u64 (a : Int) (IntKind.u64.wrap ((IntKind.u64.wrap (b.toNat : Int)) * 2 ^ min j.toNat (IntKind.bits .u64))) = ((a + b.toNat * 2 ^ m : Nat) : Int) := by
  have hb := b.toNat_lt
  have h1 : b.toNat * 2 ^ m < 2 ^ (8 + m) := by rw [Nat.pow_add]; exact Nat.mul_lt_mul_of_pos_right hb (Nat.pow_pos (by omega))
  have h2 : (2 : Nat) ^ (8 + m) ≤ 2 ^ 64 := Nat.pow_le_pow_right (by omega) (by omega)
  have h3 : (2 : Nat) ^ m ≤ 2 ^ 64 := Nat.pow_le_pow_right (by omega) (by omega)
  have hM : M = 2 ^ 64 := M_pow
  rw [u64b, shl_nat (m := m) (k := .u64) hj (show m ≤ 64 by omega), wi (by omega)]
  have := u64_or_nat a (b.toNat * 2 ^ m) (by show a < M; omega) (by show _ < M; omega)
  rw [this, Nat.mul_comm b.toNat, Nat.or_comm, ← Nat.two_pow_add_eq_or_of_lt ha, Nat.add_comm]
theorem le64_ok (fu : Nat) (l : List UInt8) (hl : l.length = 8) : f__binary_littleEndian__Uint64 fu () l = some ((leN l : Nat) : Int) := by
  match l, hl with
  | [b0, b1, b2, b3, b4, b5, b6, b7], _ =>
    have g0 := b0.toNat_lt
    have g1 := b1.toNat_lt
    have g2 := b2.toNat_lt
    have g3 := b3.toNat_lt
    have g4 := b4.toNat_lt
    have g5 := b5.toNat_lt
    have g6 := b6.toNat_lt
    have g7 := b7.toNat_lt
    unfold f__binary_littleEndian__Uint64
    rw [show at? [b0, b1, b2, b3, b4, b5, b6, b7] (7 : Int) = some b7 from rfl, opt_of, show at? [b0, b1, b2, b3, b4, b5, b6, b7] (0 : Int) = some b0 from rfl, opt_of, show at? [b0, b1, b2, b3, b4, b5, b6, b7] (1 : Int) = some b1 from rfl, opt_of,
      show at? [b0, b1, b2, b3, b4, b5, b6, b7] (2 : Int) = some b2 from rfl, opt_of, show at? [b0, b1, b2, b3, b4, b5, b6, b7] (3 : Int) = some b3 from rfl, opt_of, show at? [b0, b1, b2, b3, b4, b5, b6, b7] (4 : Int) = some b4 from rfl, opt_of,
      show at? [b0, b1, b2, b3, b4, b5, b6, b7] (5 : Int) = some b5 from rfl, opt_of, show at? [b0, b1, b2, b3, b4, b5, b6, b7] (6 : Int) = some b6 from rfl, opt_of, opt_of]
    rw [u64b b0, orb (j := 8) (m := 8) rfl (by omega) (by omega), orb (j := 16) (m := 16) rfl (by omega) (by omega), orb (j := 24) (m := 24) rfl (by omega) (by omega), orb (j := 32) (m := 32) rfl (by omega) (by omega), orb (j := 40) (m := 40) rfl (by omega) (by omega), orb (j := 48) (m := 48) rfl (by omega) (by omega), orb (j := 56) (m := 56) rfl (by omega) (by omega)]
    congr 2
    simp only [leN]
    omega
theorem lof {l : List UInt8} (h : l.length = 8) : lA8u8 (ofA8u8 l) = l := by
  match l, h with
  | [b0, b1, b2, b3, b4, b5, b6, b7], _ => rfl
def zer : A8u8 := (A8u8.mk (0 : UInt8) (0 : UInt8) (0 : UInt8) (0 : UInt8) (0 : UInt8) (0 : UInt8) (0 : UInt8) (0 : UInt8))
theorem lcp (s : List UInt8) : lA8u8 (cpA8u8 zer s) = s.take 8 ++ List.replicate (8 - (s.take 8).length) 0 := by
  unfold cpA8u8
  have h8 : (s.take 8).length ≤ 8 := by rw [List.length_take]; omega
  rw [show lA8u8 zer = List.replicate 8 0 from rfl, List.drop_replicate, lof (by rw [List.length_append, List.length_replicate]; omega)]
theorem lcp_len (s : List UInt8) : (lA8u8 (cpA8u8 zer s)).length = 8 := rfl
theorem dropmin (s : List UInt8) : s.drop (Nat.min s.length 8) = s.drop 8 := by
  rcases Nat.le_total s.length 8 with h | h
  · rw [show Nat.min s.length 8 = s.length from Nat.min_eq_left h, List.drop_length, List.drop_of_length_le h]
  · rw [show Nat.min s.length 8 = 8 from Nat.min_eq_right h]
theorem chain_lt {cut : Nat → Nat} (hc : ∀ y, y < M → cut y < M) : ∀ (k : Nat) (s : List UInt8) (x : Nat), x < M → chain cut k s x < M
  | 0, _, _, h => h
  | k + 1, s, x, h => by
    unfold chain
    split
    · exact h
    · exact chain_lt hc k _ _ (hc _ (stp_lt _ _))
theorem cut_lt (w : Nat) : ∀ y, y < M → y % 2 ^ w < M := fun y h => Nat.lt_of_le_of_lt (Nat.mod_le _ _) h
theorem hash_lt (w : Nat) (s : List UInt8) : hash (fun y => y % 2 ^ w) s < M := cut_lt w _ (stp_lt _ _)
theorem andm {r w : Nat} (hr : r < M) (hw : w ≤ 64) : bits .and .u64 (r : Int) ((2 ^ w - 1 : Nat) : Int) = ((r % 2 ^ w : Nat) : Int) := by
  have h3 : (2 : Nat) ^ w ≤ 2 ^ 64 := Nat.pow_le_pow_right (by omega) hw
  have h0 : (0 : Nat) < 2 ^ w := Nat.pow_pos (by omega)
  have hM : M = 2 ^ 64 := M_pow
  rw [u64_and_nat r (2 ^ w - 1) hr (by show _ < M; omega), Nat.and_two_pow_sub_one_eq_mod]
theorem msum_go (w : Nat) (hw : w ≤ 64) (kk : Int → Option Int) (fu : Nat) : ∀ (k : Nat) (s : List UInt8) (x : Nat), x < M → s.length < k →
    f_mix_sum_L7 ((2 ^ w - 1 : Nat) : Int) kk fu k s (x : Int) = kk ((chain (fun y => y % 2 ^ w) s.length s x : Nat) : Int)
  | k + 1, s, x, hx, hk => by
    rw [f_mix_sum_L7]
    by_cases hs : s = []
    · subst hs
      rw [cond_ff (by rfl), chain_nil]
    · have hmin : Nat.min s.length 8 ≤ s.length := Nat.min_le_left _ _
      have hp : 0 < s.length := List.length_pos_iff.2 hs
      have h8 : (s.take 8).length ≤ 8 := by rw [List.length_take]; omega
      rw [cond_tt (by simpa using hs), req_pos ⟨by omega, by omega⟩]
      have hb : f__binary_littleEndian__Uint64 fu () (lA8u8 (cpA8u8 zer s)) = some ((leN (s.take 8) : Nat) : Int) := by
        rw [le64_ok fu _ (lcp_len s), lcp, leN_zeros]
      unfold zer at hb
      rw [hb, opt_of, mstep_ok fu hx (leN_lt8 _ h8), opt_of, andm (stp_lt _ _) hw, Int.toNat_natCast, dropmin]
      rw [msum_go w hw kk fu k (s.drop 8) _ (cut_lt w _ (stp_lt _ _)) (by rw [List.length_drop]; omega), chain_step _ hs]
theorem msum_ok (w : Nat) (hw : w ≤ 64) (fu : Nat) (s : List UInt8) (hf : s.length < fu) (h63 : s.length ≤ 9223372036854775807) : f_mix_sum fu s ((2 ^ w - 1 : Nat) : Int) = some ((hash (fun y => y % 2 ^ w) s : Nat) : Int) := by
  unfold f_mix_sum
  rw [lt_of]
  rw [show (0 : Int) = ((0 : Nat) : Int) from rfl, msum_go w hw _ fu fu s 0 M_pos hf]
  rw [wi (by unfold M; omega), mstep_ok fu (chain_lt (cut_lt w) _ _ _ M_pos) (by unfold M; omega), opt_of, andm (stp_lt _ _) hw]
  rfl
theorem mSum_ok (fu : Nat) (s : List UInt8) (hf : s.length < fu) (h63 : s.length ≤ 9223372036854775807) : f_mix_Sum fu s = some ((hash (fun y => y % 2 ^ 64) s : Nat) : Int) := by
  unfold f_mix_Sum
  rw [show (18446744073709551615 : Int) = ((2 ^ 64 - 1 : Nat) : Int) from rfl, msum_ok 64 (by omega) fu s hf h63, opt_of]
def idOf (s : List UInt8) : A8u8 := ofA8u8 (beBytes 8 (hash (fun y => y % 2 ^ 64) s))
theorem be8_len (n : Nat) : (beBytes 8 n).length = 8 := beBytes_length 8 n
theorem cpbe (n : Nat) : cpA8u8 zer (beBytes 8 n) = ofA8u8 (beBytes 8 n) := by
  unfold cpA8u8
  rw [List.take_of_length_le (by rw [be8_len]; exact Nat.le_refl _), be8_len, show (lA8u8 zer).drop 8 = [] from rfl, List.append_nil]
theorem mID_ok (fu : Nat) (s : List UInt8) (hf : s.length < fu) (h63 : s.length ≤ 9223372036854775807) : f_mix_ID fu s = some (idOf s) := by
  unfold f_mix_ID
  rw [mSum_ok fu s hf h63, opt_of, req_pos ⟨by omega, by have := hash_lt 64 s; unfold M at this; omega⟩, Int.toNat_natCast]
  exact congrArg some (cpbe _)
theorem rcut_ok (fu : Nat) {y w : Nat} (hy : y < M) (hw : w ≤ 64) : f_lumref_Narrow_1 fu (y : Int) (w : Int) = some ((y % 2 ^ w : Nat) : Int) := by
  unfold f_lumref_Narrow_1
  by_cases h : w = 64
  · subst h
    rw [cond_tt (by rfl), Nat.mod_eq_of_lt (show y < 2 ^ 64 from hy)]
  · have h3 : (2 : Nat) ^ w ≤ 2 ^ 63 := Nat.pow_le_pow_right (by omega) (by omega)
    have h0 : (0 : Nat) < 2 ^ w := Nat.pow_pos (by omega)
    have e : IntKind.u64.wrap ((1 : Int) * 2 ^ min ((w : Int)).toNat (IntKind.bits .u64)) = ((2 ^ w : Nat) : Int) := by
      have := shl_nat (x := 1) (m := w) (j := (w : Int)) (k := .u64) rfl (show w ≤ 64 by omega)
      rw [show (1 : Int) * 2 ^ min ((w : Int)).toNat (IntKind.bits .u64) = ((1 * 2 ^ w : Nat) : Int) from this, wi (by unfold M; omega), Nat.one_mul]
    rw [cond_ff (by rw [beq_eq_false_iff_ne]; omega), req_pos (by omega), e, req_pos (by omega)]
    rfl
theorem bAtN {s : List UInt8} {j : Nat} (h : j < s.length) : En.bAt s (j : Int) = ((s[j].toNat : Nat) : Int) := by
  unfold En.bAt
  rw [Int.toNat_natCast, List.getD_eq_getElem?_getD, List.getElem?_eq_getElem h]; rfl
theorem blk_go (l : List UInt8) (hl : 8 ≤ l.length) (kk : Int → Option Int) : ∀ (n k : Nat), n ≤ 8 → n < k → f_lumref_Narrow_L27 l kk k ((leN ((l.take 8).drop n) : Nat) : Int) ((n : Int) - 1) = kk ((leN (l.take 8) : Nat) : Int)
  | 0, k + 1, _, _ => by
    rw [f_lumref_Narrow_L27, cond_ff (decide_eq_false (by omega))]; rfl
  | n + 1, k + 1, hn, hk => by
    have e : ((n + 1 : Nat) : Int) - 1 = (n : Int) := by omega
    have hlt : n < (l.take 8).length := by rw [List.length_take]; omega
    have hv : leN ((l.take 8).drop n) = 256 * leN ((l.take 8).drop (n + 1)) + l[n].toNat := by
      rw [List.drop_eq_getElem_cons hlt, List.getElem_take]
      show _ + _ = _
      omega
    have hlen : ((l.take 8).drop n).length ≤ 8 := by rw [List.length_drop, List.length_take]; omega
    have hM := leN_lt8 _ hlen
    rw [hv] at hM
    have hbl := l[n].toNat_lt
    rw [f_lumref_Narrow_L27, e, cond_tt (decide_eq_true (by omega)), req_pos ⟨by omega, by omega⟩, bAtN (by omega), wi (x := l[n].toNat) (by unfold M; omega)]
    rw [show (256 : Int) * ((leN ((l.take 8).drop (n + 1)) : Nat) : Int) = ((256 * leN ((l.take 8).drop (n + 1)) : Nat) : Int) from by omega, wi (by omega), ← Int.natCast_add, wi hM, ← hv]
    rw [w64 (by omega) (by omega)]
    exact blk_go l hl kk n k (by omega) (by omega)
theorem rsum_go (w : Nat) (hw : w ≤ 64) (kk : Int → Option Int) (fu : Nat) (hfu : 65 ≤ fu) : ∀ (k : Nat) (s : List UInt8) (x : Nat), x < M → s.length < k →
    f_lumref_Narrow_L13 (w : Int) kk fu k (x : Int) (pad s) = kk ((chain (fun y => y % 2 ^ w) s.length s x : Nat) : Int)
  | k + 1, s, x, hx, hk => by
    rw [f_lumref_Narrow_L13, lt_of]
    dsimp only
    by_cases hs : s = []
    · subst hs
      rw [cond_ff (by rfl), chain_nil]
    · obtain ⟨p1, p2, p3⟩ := pad_take s hs
      have hp : 0 < s.length := List.length_pos_iff.2 hs
      have h8 : (s.take 8).length ≤ 8 := by rw [List.length_take]; omega
      rw [cond_tt (by have := mt (pad_nil s).1 hs; simpa using this), lt_of, lt_of]
      dsimp only
      have hb := blk_go (pad s) p2 (fun j19i8 => (opt (f_lumref_Step fu (x : Int) j19i8) fun (r22 : Int) => (opt (f_lumref_Narrow_1 fu r22 (w : Int)) fun (r24 : Int) => (req (0 ≤ (8 : Int) ∧ (8 : Int) ≤ ((pad s).length : Int)) (f_lumref_Narrow_L13 (w : Int) kk fu k r24 ((pad s).drop ((8 : Int)).toNat)))))) 8 fu (by omega) (by omega)
      have h0 : leN (((pad s).take 8).drop 8) = 0 := by rw [List.drop_of_length_le (by rw [List.length_take]; omega)]; rfl
      rw [h0] at hb
      refine Eq.trans hb ?_
      rw [p1, rstep_ok fu hfu hx (leN_lt8 _ h8), opt_of, rcut_ok fu (stp_lt _ _) hw, opt_of, req_pos ⟨by omega, by omega⟩, show ((8 : Int)).toNat = 8 from rfl, p3]
      rw [rsum_go w hw kk fu hfu k (s.drop 8) _ (cut_lt w _ (stp_lt _ _)) (by rw [List.length_drop]; omega), chain_step _ hs]
theorem rep_zero : ∀ k : Nat, repeatL [0] k = List.replicate k 0
  | 0 => rfl
  | k + 1 => by show [0] ++ repeatL [0] k = _; rw [rep_zero k]; rfl
theorem repeat_ok (fu k : Nat) (hk : k ≤ 8) : f_strings_Repeat fu ([0] : List UInt8) (k : Int) = some (List.replicate k 0) := by
  unfold f_strings_Repeat
  rw [req_pos ⟨by omega, by omega, by rw [Int.toNat_natCast]; simp; omega⟩, Int.toNat_natCast, rep_zero]
theorem rnarrow_ok (w : Nat) (hw : w ≤ 64) (fu : Nat) (s : List UInt8) (hfu : 65 ≤ fu) (hf : s.length < fu) (hb : s.length ≤ 9223372036854775800) : f_lumref_Narrow fu (w : Int) s = some ((hash (fun y => y % 2 ^ w) s : Nat) : Int) := by
  unfold f_lumref_Narrow
  have e1 : (((s.length : Int)).tmod (8 : Int)) = ((s.length % 8 : Nat) : Int) := rfl
  have e2 : IntKind.i64.wrap ((8 : Int) - ((s.length % 8 : Nat) : Int)) = ((8 - s.length % 8 : Nat) : Int) := by rw [w64 (by omega) (by omega)]; omega
  have e3 : (((8 - s.length % 8 : Nat) : Int)).tmod (8 : Int) = (((8 - s.length % 8) % 8 : Nat) : Int) := rfl
  rw [e1, e2, e3, repeat_ok fu _ (by omega), opt_of, req_pos (by rw [List.length_replicate]; omega), lt_of]
  rw [show (s ++ List.replicate ((8 - s.length % 8) % 8) (0 : UInt8)) = pad s from rfl, show (0 : Int) = ((0 : Nat) : Int) from rfl, rsum_go w hw _ fu hfu fu s 0 M_pos hf]
  rw [wi (by unfold M; omega), rstep_ok fu hfu (chain_lt (cut_lt w) _ _ _ M_pos) (by unfold M; omega), opt_of, rcut_ok fu (stp_lt _ _) hw, opt_of]
  rfl
theorem p8 : 256 ^ 8 = 18446744073709551616 := by decide
theorem rdigits_ok : ∀ (k n fu : Nat), n < 256 ^ k → k ≤ 8 → k < fu → f_lumref_digits fu (n : Int) = some (digF k n)
  | 0, n, fu + 1, h, _, _ => by
    have : n = 0 := by simpa using h
    subst this; rfl
  | k + 1, n, fu + 1, h, h8, hf => by
    rw [f_lumref_digits]
    by_cases h0 : n = 0
    · subst h0; rfl
    have hn8 : n < 18446744073709551616 := by
      rw [← p8]; exact Nat.lt_of_lt_of_le h (Nat.pow_le_pow_right (by omega) h8)
    have e1 : ((n : Int)).tdiv 256 = ((n / 256 : Nat) : Int) := by rw [Int.tdiv_eq_ediv_of_nonneg (by omega)]; omega
    have e2 : ((n : Int)).tmod 256 = ((n % 256 : Nat) : Int) := by rw [Int.tmod_eq_emod_of_nonneg (by omega)]; omega
    have hl := digF_len k (n / 256)
    rw [cond_ff (by rw [beq_eq_false_iff_ne]; omega), e1, e2, wi (by unfold M; omega), rdigits_ok k (n / 256) fu (div_lt h) (by omega) (by omega), opt_of, u8w_in (by omega), req_pos ⟨by omega, by omega⟩, req_pos (by rw [List.length_singleton]; omega), Int.toNat_natCast]
    show _ = some (if n = 0 then [] else digF k (n / 256) ++ [(n % 256).toUInt8])
    rw [if_neg h0]
theorem drop_zeros : ∀ l : List UInt8, List.replicate (l.length - (trimLeftB l 0).length) 0 ++ trimLeftB l 0 = l
  | [] => rfl
  | b :: l => by
    unfold trimLeftB
    rw [List.dropWhile_cons]
    have ih := drop_zeros l
    unfold trimLeftB at ih
    have hle : (List.dropWhile (fun x => x == 0) l).length ≤ l.length := (List.dropWhile_sublist _).length_le
    by_cases h : b = 0
    · subst h
      rw [if_pos (by rfl), List.length_cons, show l.length + 1 - (List.dropWhile (fun x => x == 0) l).length = (l.length - (List.dropWhile (fun x => x == 0) l).length) + 1 by omega, List.replicate_succ, List.cons_append, ih]
    · rw [if_neg (by simpa using h)]
      simp
theorem wide_ok (fu n : Nat) (hn : n < M) (hf : 9 ≤ fu) : f_lumref_wide fu (n : Int) = some (beBytes 8 n) := by
  unfold f_lumref_wide
  have hn' : n < 256 ^ 8 := by rw [p8]; exact hn
  have hl := digF_len 8 n
  rw [rdigits_ok 8 n fu hn' (by omega) (by omega), opt_of]
  rw [show IntKind.i64.wrap ((8 : Int) - ((digF 8 n).length : Int)) = ((8 - (digF 8 n).length : Nat) : Int) from by rw [w64 (by omega) (by omega)]; omega, repeat_ok fu _ (by omega), opt_of, req_pos (by rw [List.length_replicate]; omega)]
  have h := drop_zeros (beBytes 8 n)
  rw [trim_be hn', be8_len] at h
  rw [h]
theorem rID_ok (fu : Nat) (s : List UInt8) (hfu : 65 ≤ fu) (hf : s.length < fu) (hb : s.length ≤ 9223372036854775800) : f_lumref_ID fu s = some (idOf s) := by
  unfold f_lumref_ID
  rw [show (64 : Int) = ((64 : Nat) : Int) from rfl, rnarrow_ok 64 (by omega) fu s hfu hf hb, opt_of, wide_ok fu _ (hash_lt 64 s) (by omega), opt_of, req_pos (by rw [be8_len]; omega), req_pos (by rw [be8_len]; omega)]
  rfl
end MX
end Go.Proofs.YtfhifdmbdkkgaaaDoor.PPackMakes
namespace Go.Proofs.YtfhifdmbdkkgaaaDoor.PPackMakes
open Go.RowKit YtfhifdmbdkkgaaaDoor.En YtfhifdmbdkkgaaaDoor Num Mix Go.Lib MX
set_option linter.unusedVariables false
set_option linter.unusedSimpArgs false
abbrev Bl := S_api_Blob
abbrev Rm := Option (List UInt8 × Int)
def IdF (F : List UInt8 → A8u8) : Prop := ∀ (fu : Nat) (s : List UInt8), 65 ≤ fu → s.length < fu → s.length ≤ 4611686018427387904 → f_mix_ID fu s = some (F s) ∧ f_lumref_ID fu s = some (F s)
theorem id_ex : ∃ F, IdF F := ⟨idOf, fun fu s h1 h2 h3 => ⟨mID_ok fu s h2 (by omega), rID_ok fu s h1 h2 (by omega)⟩⟩
theorem known_ok (k : Int) (fu : Nat) : f_pack_Known fu k = some (decide (1 ≤ k ∧ k ≤ 3)) := by
  unfold f_pack_Known
  rw [lt_of]
  by_cases h : k ≥ 1
  · rw [cond_tt (decide_eq_true h)]
    by_cases h2 : k ≤ 3
    · rw [decide_eq_true h2, decide_eq_true ⟨h, h2⟩]
    · rw [decide_eq_false h2, decide_eq_false (fun e => h2 e.2)]
  · rw [cond_ff (decide_eq_false h), decide_eq_false (fun e => h e.1)]
theorem kind_ok (k : Int) (fu : Nat) : f_lumref_kindOK fu k = some (decide (1 ≤ k ∧ k ≤ 3)) := by
  unfold f_lumref_kindOK
  rw [lt_of]
  by_cases h1 : k = 1
  · subst h1; rfl
  rw [cond_ff (beq_eq_false_iff_ne.2 h1)]
  by_cases h2 : k = 2
  · subst h2; rfl
  rw [cond_ff (beq_eq_false_iff_ne.2 h2)]
  by_cases h3 : k = 3
  · subst h3; rfl
  rw [beq_eq_false_iff_ne.2 h3, decide_eq_false (by omega)]
def z8 : A8u8 := (A8u8.mk (0 : UInt8) (0 : UInt8) (0 : UInt8) (0 : UInt8) (0 : UInt8) (0 : UInt8) (0 : UInt8) (0 : UInt8))
theorem blob_ok {F : List UInt8 → A8u8} (hF : IdF F) (b : S_api_Blob) (fu : Nat) (hfu : 6000 ≤ fu) : ∃ x e, f_pack_ID fu b = some (x, e) ∧ f_lumref_BlobID fu b = some (x, e) := by
  unfold f_pack_ID f_lumref_BlobID
  rw [known_ok, kind_ok, opt_of, opt_of]
  by_cases hk : 1 ≤ b.Kind ∧ b.Kind ≤ 3
  · have e : (!decide (1 ≤ b.Kind ∧ b.Kind ≤ 3)) = false := by rw [decide_eq_true hk]; rfl
    rw [e, cond_ff rfl, cond_ff rfl]
    by_cases hl : (b.Bytes.length : Int) > 4096
    · rw [cond_tt (decide_eq_true hl), cond_tt (decide_eq_true hl)]
      exact ⟨_, _, rfl, rfl⟩
    · rw [cond_ff (decide_eq_false hl), cond_ff (decide_eq_false hl)]
      obtain ⟨k, hk2⟩ : ∃ k : Nat, b.Kind = k := ⟨b.Kind.toNat, by omega⟩
      rw [hk2, u8w_in (x := k) (by omega)]
      have hlen : (([(UInt8.ofNat ((k : Int)).toNat)]) ++ b.Bytes).length ≤ 4097 := by rw [List.length_append, List.length_singleton]; omega
      obtain ⟨f1, f2⟩ := hF fu (([(UInt8.ofNat ((k : Int)).toNat)]) ++ b.Bytes) (by omega) (by omega) (by omega)
      rw [req_pos ⟨by omega, by omega⟩, req_pos (by rw [List.length_singleton]; omega), f1, opt_of, req_pos ⟨by omega, by omega⟩, req_pos (by rw [List.length_singleton]; omega), f2, opt_of]
      exact ⟨_, _, rfl, rfl⟩
  · have e : (!decide (1 ≤ b.Kind ∧ b.Kind ≤ 3)) = true := by rw [decide_eq_false hk]; rfl
    rw [e, cond_tt rfl, cond_tt rfl]
    exact ⟨_, _, rfl, rfl⟩
def Wf (b : Bl) : Prop := (Lit.int .i64 b.Kind).wf = true ∧ b.Bytes.length ≤ 9223372036854775807
def idV (fu : Nat) (b : Bl) : A8u8 × Int := (f_pack_ID fu b).getD (z8, 5)
theorem id_both (fu : Nat) (hf : 6000 ≤ fu) (b : Bl) : f_pack_ID fu b = some (idV fu b) ∧ f_lumref_BlobID fu b = some (idV fu b) := by
  obtain ⟨F, hF⟩ := id_ex
  obtain ⟨x, e, h1, h2⟩ := blob_ok hF b fu hf
  have : idV fu b = (x, e) := by unfold idV; rw [h1]; rfl
  rw [this]; exact ⟨h1, h2⟩
def lk : List A8u8 → List Bl → A8u8 → Option Bl
  | i :: is, x :: xs, id => if i = id then some x else lk is xs id
  | _, _, _ => none
theorem lk_snoc : ∀ (is : List A8u8) (l : List Bl) (i id : A8u8) (b : Bl), l[is.length]? = some b → lk (is ++ [i]) l id = match lk is l id with | some x => some x | none => if i = id then some b else none
  | [], y :: l, i, id, b, h => by
    have : y = b := Option.some.inj h
    subst this
    show (if i = id then some y else lk [] l id) = if i = id then some y else none
    rfl
  | [], [], i, id, b, h => by cases h
  | a :: is, [], i, id, b, h => by cases h
  | a :: is, y :: l, i, id, b, h => by
    show (if a = id then some y else lk (is ++ [i]) l id) = match (if a = id then some y else lk is l id) with | some x => some x | none => if i = id then some b else none
    by_cases ha : a = id
    · rw [if_pos ha, if_pos ha]
    · rw [if_neg ha, if_neg ha]
      exact lk_snoc is l i id b (by simpa using h)
theorem lk_mem : ∀ (is : List A8u8) (l : List Bl) (id : A8u8) (b : Bl), lk is l id = some b → b ∈ l
  | [], _, _, _, h => by cases h
  | a :: is, [], _, _, h => by cases h
  | a :: is, y :: l, id, b, h => by
    have h' : (if a = id then some y else lk is l id) = some b := h
    by_cases ha : a = id
    · rw [if_pos ha] at h'; rw [← Option.some.inj h']; exact List.mem_cons_self
    · rw [if_neg ha] at h'; exact List.mem_cons_of_mem _ (lk_mem is l id b h')
theorem lk_cons (a : A8u8) (is : List A8u8) (y : Bl) (l : List Bl) (id : A8u8) : lk (a :: is) (y :: l) id = if a = id then some y else lk is l id := rfl
theorem scan_go (l : List Bl) (hw : ∀ b ∈ l, Wf b) (ids : List A8u8) (i : Nat) (hi : i < l.length) (hl : ids.length = i) (hi4 : i ≤ 40) (id : A8u8) (kk : Unit → Rm) : ∀ (d k j : Nat), ids.length - j = d → d < k → j ≤ ids.length →
    f_lumref_PackMake_L49 l ids (i : Int) (id, 0) kk k (j : Int) = match lk (ids.drop j) (l.drop j) id with | some x => (if x = l[i] then some ([], 10) else some ([], 11)) | none => kk ()
  | _, 0, _, _, hk, _ => absurd hk (Nat.not_lt_zero _)
  | d, k + 1, j, hd, hk, hj => by
    rw [f_lumref_PackMake_L49]
    by_cases h : j < ids.length
    · have hjl : j < l.length := by omega
      have w1 := hw _ (List.getElem_mem hjl)
      have w2 := hw _ (List.getElem_mem hi)
      rw [cond_tt (dlt (by omega)), lt_of, at_lt h, opt_of, opt_of, List.drop_eq_getElem_cons h, List.drop_eq_getElem_cons hjl, lk_cons]
      by_cases he : ids[j] = id
      · rw [if_pos he, cond_tt (by rw [he]; exact beq_self_eq_true _), at_lt hjl, opt_of, at_lt hi, opt_of, req_pos w1.1, req_pos w1.2, req_pos w2.1, req_pos w2.2]
        dsimp only
        by_cases hx : l[j] = l[i]
        · rw [if_pos hx, cond_tt (by rw [hx]; exact beq_self_eq_true _)]
        · rw [if_neg hx, cond_ff (by rw [beq_eq_false_iff_ne]; exact hx), cond_tt (by rw [he]; exact beq_self_eq_true _)]
      · rw [if_neg he, cond_ff (by rw [beq_eq_false_iff_ne]; exact he)]
        dsimp only
        rw [cond_ff rfl, cond_ff (by rw [beq_eq_false_iff_ne]; exact he), wsucc (by omega)]
        exact scan_go l hw ids i hi hl hi4 id kk d.pred k (j + 1) (by rw [Nat.pred_eq_sub_one]; omega) (by rw [Nat.pred_eq_sub_one]; omega) (by omega)
    · rw [cond_ff (dge (by omega)), List.drop_of_length_le (by omega)]
      rfl
theorem u8r (k : Int) : 0 ≤ IntKind.u8.wrap k ∧ IntKind.u8.wrap k ≤ 255 := by
  unfold IntKind.wrap
  simp [IntKind.signed, IntKind.bits]
  omega
theorem make_go (l : List Bl) (hl : l.length ≤ 40) (hw : ∀ b ∈ l, Wf b) (fu : Nat) (hfu : 700000 ≤ fu) (k1 k2 : List UInt8 → List UInt8 → Rm) : ∀ (d k q i : Nat) (m : List (A8u8 × Bl)) (ids : List A8u8) (s5 s6 : List UInt8), l.length - i = d → d < k → d < q → i ≤ l.length → ids.length = i → (∀ id, gget m id = lk ids l id) → s5.length ≤ 4097 * i → s6.length ≤ 9 + 18 * i →
    (∃ o5 o6, f_pack_Make_L19 l k1 fu k m s5 s6 (i : Int) = k1 o5 o6 ∧ f_lumref_PackMake_L18 l k2 fu q ids s5 s6 (i : Int) = k2 o5 o6 ∧ o5.length ≤ 163880 ∧ o6.length ≤ 729) ∨ ∃ e, f_pack_Make_L19 l k1 fu k m s5 s6 (i : Int) = some ([], e) ∧ f_lumref_PackMake_L18 l k2 fu q ids s5 s6 (i : Int) = some ([], e)
  | _, 0, _, _, _, _, _, _, _, hk, _, _, _, _, _, _ => absurd hk (Nat.not_lt_zero _)
  | _, _, 0, _, _, _, _, _, _, _, hk, _, _, _, _, _ => absurd hk (Nat.not_lt_zero _)
  | d, k + 1, q + 1, i, m, ids, s5, s6, hd, hk, hq, hi, hids, hm, h5, h6 => by
    rw [f_pack_Make_L19, f_lumref_PackMake_L18, lt_of]
    by_cases h : i < l.length
    · obtain ⟨p1, p2⟩ := id_both fu (by omega) l[i]
      rw [cond_tt (dlt (by omega)), cond_tt (dlt (by omega)), lt_of, at_lt h, opt_of, opt_of, p1, opt_of, p2, opt_of]
      by_cases he : (idV fu l[i]).2 = 0
      · have hne : ((idV fu l[i]).2 != (0 : Int)) = false := by rw [he]; rfl
        rw [hne]
        simp only [cond_false]
        rw [lt_of]
        have hsc := fun kk => scan_go l hw ids i h hids (by omega) (idV fu l[i]).1 kk ids.length fu 0 rfl (by omega) (Nat.zero_le _)
        have hpair : idV fu l[i] = ((idV fu l[i]).1, 0) := Prod.ext rfl he
        generalize (idV fu l[i]).1 = id at hsc hpair
        rw [hpair]
        have hg := hm id
        have hu := u8r l[i].Kind
        have h8 : (lA8u8 id).length = 8 := rfl
        cases hlk : lk ids l id with
        | some x =>
          rw [hlk] at hg
          have hx := hw x (lk_mem _ _ _ _ hlk)
          have hc := hw _ (List.getElem_mem h)
          right
          refine ⟨if x = l[i] then 10 else 11, ?_, ?_⟩
          · rw [hg, Option.isSome_some, cond_tt rfl, Option.getD_some, req_pos hx.1, req_pos hx.2, req_pos hc.1, req_pos hc.2]
            by_cases e : x = l[i]
            · rw [if_pos e, cond_tt (show (S_api_Blob.mk x.Kind x.Bytes == l[i]) = true by rw [← e]; exact beq_self_eq_true _)]
            · rw [if_neg e, cond_ff (show (S_api_Blob.mk x.Kind x.Bytes == l[i]) = false by rw [beq_eq_false_iff_ne]; exact e)]
          · refine Eq.trans (hsc _) ?_
            rw [List.drop_zero, List.drop_zero, hlk]
            dsimp only
            split <;> rfl
        | none =>
          rw [hlk] at hg
          obtain ⟨r, r1, r2, r3⟩ := PPs.press_ok l[i].Bytes fu hfu
          have hpl := PPs.put_len r.1.length
          have ih := make_go l hl hw fu hfu k1 k2 (d - 1) k q (i + 1) (gset m id l[i]) (ids ++ [id]) (s5 ++ r.1) (s6 ++ ((([(UInt8.ofNat ((IntKind.u8.wrap l[i].Kind)).toNat)]) ++ (lA8u8 id)) ++ PPut.putV r.1.length)) (by omega) (by omega) (by omega) (by omega) (by rw [List.length_append, List.length_singleton]; omega) (fun id' => by
            rw [gget_gset, lk_snoc ids l id id' l[i] (by rw [hids]; exact List.getElem?_eq_getElem h), hm id']
            by_cases e : id = id'
            · subst e; rw [hlk, if_pos rfl]
            · rw [if_neg e, if_neg e]
              cases lk ids l id' <;> rfl) (by rw [List.length_append]; omega) (by rw [List.length_append, List.length_append, List.length_append, List.length_singleton, h8]; omega)
          rw [hg, Option.isSome_none, cond_ff (b := false) rfl, r1, opt_of, req_pos (by omega), req_pos hu, req_pos (by rw [List.length_singleton, h8]; omega), PPut.uw (n := r.1.length) (by omega), PPut.put_ok _ (by omega), opt_of, req_pos (by rw [List.length_append, List.length_singleton, h8]; omega), req_pos (by rw [List.length_append, List.length_append, List.length_singleton, h8]; omega), wsucc (by omega)]
          rcases ih with ⟨o5, o6, a1, a2, a3⟩ | ⟨e, a1, a2⟩
          · refine .inl ⟨o5, o6, a1, Eq.trans (hsc _) ?_, a3⟩
            rw [List.drop_zero, List.drop_zero, hlk]
            dsimp only
            rw [req_pos (by rw [List.length_singleton]; omega), r2, opt_of, req_pos (by omega), req_pos hu, req_pos (by rw [List.length_singleton, h8]; omega), PPut.uw (n := r.1.length) (by omega), PPut.rput_ok _ (by omega) fu (by omega), opt_of, req_pos (by rw [List.length_append, List.length_singleton, h8]; omega), req_pos (by rw [List.length_append, List.length_append, List.length_singleton, h8]; omega)]
            exact a2
          · refine .inr ⟨e, a1, Eq.trans (hsc _) ?_⟩
            rw [List.drop_zero, List.drop_zero, hlk]
            dsimp only
            rw [req_pos (by rw [List.length_singleton]; omega), r2, opt_of, req_pos (by omega), req_pos hu, req_pos (by rw [List.length_singleton, h8]; omega), PPut.uw (n := r.1.length) (by omega), PPut.rput_ok _ (by omega) fu (by omega), opt_of, req_pos (by rw [List.length_append, List.length_singleton, h8]; omega), req_pos (by rw [List.length_append, List.length_append, List.length_singleton, h8]; omega)]
            exact a2
      · right
        refine ⟨(idV fu l[i]).2, ?_, ?_⟩
        · rw [cond_tt (by simpa using he)]
        · rw [cond_tt (by simpa using he)]
    · left
      refine ⟨s5, s6, ?_, ?_, by omega, by omega⟩
      · rw [cond_ff (dge (by omega))]
      · rw [cond_ff (dge (by omega))]
theorem make_ok (l : List Bl) (hw : ∀ b ∈ l, Wf b) (fu : Nat) (hfu : 700000 ≤ fu) : ∃ r, f_pack_Make fu l = some r ∧ f_lumref_PackMake fu l = some r := by
  unfold f_pack_Make f_lumref_PackMake
  by_cases h : 40 < l.length
  · rw [cond_tt (decide_eq_true (by omega)), cond_tt (decide_eq_true (by omega))]
    exact ⟨_, rfl, rfl⟩
  obtain ⟨F, hF⟩ := id_ex
  have hpl := PPs.put_len l.length
  rw [cond_ff (decide_eq_false (by omega)), cond_ff (decide_eq_false (by omega)), PPut.uw (by omega), PPut.put_ok _ (by omega), opt_of, PPut.rput_ok _ (by omega) fu (by omega), opt_of, lt_of, lt_of]
  rcases make_go l (by omega) hw fu hfu (fun (j5s5 : (List UInt8)) (j5s6 : (List UInt8)) => (req (j5s5.length + j5s6.length ≤ 9223372036854775807) (req (0 ≤ (IntKind.u8.wrap (j5s6.length : Int)) ∧ (IntKind.u8.wrap (j5s6.length : Int)) ≤ 255) (req (0 ≤ (IntKind.u8.wrap (((j5s6.length : Int)).fdiv (2 ^ min ((8 : Int)).toNat (IntKind.bits .i64)))) ∧ (IntKind.u8.wrap (((j5s6.length : Int)).fdiv (2 ^ min ((8 : Int)).toNat (IntKind.bits .i64)))) ≤ 255) (req ((j5s5 ++ j5s6).length + ([(UInt8.ofNat ((IntKind.u8.wrap (j5s6.length : Int))).toNat), (UInt8.ofNat ((IntKind.u8.wrap (((j5s6.length : Int)).fdiv (2 ^ min ((8 : Int)).toNat (IntKind.bits .i64))))).toNat)]).length ≤ 9223372036854775807) (opt (f_mix_ID fu ((j5s5 ++ j5s6) ++ ([(UInt8.ofNat ((IntKind.u8.wrap (j5s6.length : Int))).toNat), (UInt8.ofNat ((IntKind.u8.wrap (((j5s6.length : Int)).fdiv (2 ^ min ((8 : Int)).toNat (IntKind.bits .i64))))).toNat)]))) fun (r13 : A8u8) => (req (((j5s5 ++ j5s6) ++ ([(UInt8.ofNat ((IntKind.u8.wrap (j5s6.length : Int))).toNat), (UInt8.ofNat ((IntKind.u8.wrap (((j5s6.length : Int)).fdiv (2 ^ min ((8 : Int)).toNat (IntKind.bits .i64))))).toNat)])).length + (lA8u8 r13).length ≤ 9223372036854775807) (some ((((j5s5 ++ j5s6) ++ ([(UInt8.ofNat ((IntKind.u8.wrap (j5s6.length : Int))).toNat), (UInt8.ofNat ((IntKind.u8.wrap (((j5s6.length : Int)).fdiv (2 ^ min ((8 : Int)).toNat (IntKind.bits .i64))))).toNat)])) ++ (lA8u8 r13)), (0 : Int))))))))))
    (fun (j4s5 : (List UInt8)) (j4s6 : (List UInt8)) => (req (j4s5.length + j4s6.length ≤ 9223372036854775807) (req (0 ≤ (IntKind.u8.wrap (((j4s6.length : Int)).tmod (256 : Int))) ∧ (IntKind.u8.wrap (((j4s6.length : Int)).tmod (256 : Int))) ≤ 255) (req (0 ≤ (IntKind.u8.wrap (IntKind.i64.wrap (((j4s6.length : Int)).tdiv (256 : Int)))) ∧ (IntKind.u8.wrap (IntKind.i64.wrap (((j4s6.length : Int)).tdiv (256 : Int)))) ≤ 255) (req ((j4s5 ++ j4s6).length + ([(UInt8.ofNat ((IntKind.u8.wrap (((j4s6.length : Int)).tmod (256 : Int)))).toNat), (UInt8.ofNat ((IntKind.u8.wrap (IntKind.i64.wrap (((j4s6.length : Int)).tdiv (256 : Int))))).toNat)]).length ≤ 9223372036854775807) (opt (f_lumref_ID fu ((j4s5 ++ j4s6) ++ ([(UInt8.ofNat ((IntKind.u8.wrap (((j4s6.length : Int)).tmod (256 : Int)))).toNat), (UInt8.ofNat ((IntKind.u8.wrap (IntKind.i64.wrap (((j4s6.length : Int)).tdiv (256 : Int))))).toNat)]))) fun (r12 : A8u8) => (req (((j4s5 ++ j4s6) ++ ([(UInt8.ofNat ((IntKind.u8.wrap (((j4s6.length : Int)).tmod (256 : Int)))).toNat), (UInt8.ofNat ((IntKind.u8.wrap (IntKind.i64.wrap (((j4s6.length : Int)).tdiv (256 : Int))))).toNat)])).length + (lA8u8 r12).length ≤ 9223372036854775807) (some ((((j4s5 ++ j4s6) ++ ([(UInt8.ofNat ((IntKind.u8.wrap (((j4s6.length : Int)).tmod (256 : Int)))).toNat), (UInt8.ofNat ((IntKind.u8.wrap (IntKind.i64.wrap (((j4s6.length : Int)).tdiv (256 : Int))))).toNat)])) ++ (lA8u8 r12)), (0 : Int))))))))))
    l.length fu fu 0 [] [] [] (PPut.putV l.length) rfl (by omega) (by omega) (Nat.zero_le _) rfl (fun _ => rfl) (Nat.zero_le _) (by omega) with ⟨o5, o6, a1, a2, a3, a4⟩ | ⟨e, a1, a2⟩
  · have e1 : ((o6.length : Int)).fdiv (2 ^ min ((8 : Int)).toNat (IntKind.bits .i64)) = ((o6.length / 256 : Nat) : Int) := shr_nat (m := 8) rfl (by decide)
    have e2 : ((o6.length : Int)).tmod 256 = ((o6.length % 256 : Nat) : Int) := by rw [Int.tmod_eq_emod_of_nonneg (by omega)]; omega
    have e3 : ((o6.length : Int)).tdiv 256 = ((o6.length / 256 : Nat) : Int) := by rw [Int.tdiv_eq_ediv_of_nonneg (by omega)]; omega
    have e4 : IntKind.u8.wrap (o6.length : Int) = ((o6.length % 256 : Nat) : Int) := u8w _
    have e5 : IntKind.u8.wrap ((o6.length % 256 : Nat) : Int) = ((o6.length % 256 : Nat) : Int) := u8w_in (by omega)
    have e6 : IntKind.u8.wrap ((o6.length / 256 : Nat) : Int) = ((o6.length / 256 : Nat) : Int) := u8w_in (by omega)
    have h8 : ∀ id, (lA8u8 id).length = 8 := fun _ => rfl
    obtain ⟨f1, f2⟩ := hF fu ((o5 ++ o6) ++ [UInt8.ofNat (((o6.length % 256 : Nat) : Int)).toNat, UInt8.ofNat (((o6.length / 256 : Nat) : Int)).toNat]) (by omega) (by simp; omega) (by simp; omega)
    refine ⟨(((o5 ++ o6) ++ [UInt8.ofNat (((o6.length % 256 : Nat) : Int)).toNat, UInt8.ofNat (((o6.length / 256 : Nat) : Int)).toNat]) ++ lA8u8 (F ((o5 ++ o6) ++ [UInt8.ofNat (((o6.length % 256 : Nat) : Int)).toNat, UInt8.ofNat (((o6.length / 256 : Nat) : Int)).toNat])), 0), a1.trans ?_, a2.trans ?_⟩
    rotate_left
    · rw [e2, e3, w64 (by omega) (by omega), e5, e6, req_pos (by omega), req_pos (by omega), req_pos (by omega), req_pos (by simp; omega), f2, opt_of, req_pos (by rw [h8]; simp; omega)]
    · rw [e1, e4, e6, req_pos (by omega), req_pos (by omega), req_pos (by omega), req_pos (by simp; omega), f1, opt_of, req_pos (by rw [h8]; simp; omega)]
  · exact ⟨_, a1, a2⟩
theorem law_go (l : List Bl) (hl : l.length ≤ 9223372036854775807) (fu : Nat) (hfu : 6000 ≤ fu) (kk : Unit → Option Bool) : ∀ (d k i : Nat), l.length - i = d → d < k → i ≤ l.length → f_lumlaw_PackMakes_L12 l kk fu k (i : Int) = kk ()
  | _, 0, _, _, hk, _ => absurd hk (Nat.not_lt_zero _)
  | d, k + 1, i, hd, hk, hi => by
    rw [f_lumlaw_PackMakes_L12]
    by_cases h : i < l.length
    · obtain ⟨p1, p2⟩ := id_both fu hfu l[i]
      rw [cond_tt (dlt (by omega)), at_lt h, opt_of, p1, opt_of, p2, opt_of, lt_of, cond_ff (by simp), wsucc (by omega)]
      dsimp only
      rw [cond_ff (by simp)]
      exact law_go l hl fu hfu kk (d - 1) k (i + 1) (by omega) (by omega) (by omega)
    · rw [cond_ff (dge (by omega))]
def fuel (l : List Bl) : Nat := 700000 + l.length
theorem ok_wf {b : Bl} (h : okS_api_Blob b) : Wf b := h
theorem says (l : List Bl) (ok0 : okL (fun y => okS_api_Blob y) l) : f_lumlaw_PackMakes (fuel l) l = some true := by
  unfold f_lumlaw_PackMakes fuel
  have hlen := ok0.1
  generalize hfu : 700000 + l.length = fu
  obtain ⟨r, r1, r2⟩ := make_ok l (fun b hb => ok_wf (ok0.2 b hb)) fu (by omega)
  rw [lt_of]
  refine Eq.trans (law_go l hlen fu (by omega) _ l.length fu 0 rfl (by omega) (Nat.zero_le _)) ?_
  rw [r1, opt_of, r2, opt_of, lt_of, cond_tt (by simp)]
  simp
end Go.Proofs.YtfhifdmbdkkgaaaDoor.PPackMakes
