/- The hash function: the code and the reference agree. No condition. -/
import Derived.Test.YtgmggcpceemnnaaMixMath
import Derived.Test.YtgmggcpceemnnaaNumMath
import Derived.Test.YtgmggcpceemnnaaPlBits
import Derived.Test.YtgmggcpceemnnaaWPackOnes
import Derived.Lib.Repeat
namespace Go.Proofs.Ytgmggcpceemnnaa.PPackLists
open Go.RowKit Ytgmggcpceemnnaa.En Ytgmggcpceemnnaa Num Mix Go.Lib
set_option linter.unusedVariables false
set_option linter.unusedSimpArgs false
namespace MX
theorem wr (x : Nat) : IntKind.u64.wrap (x : Int) = ((x % M : Nat) : Int) := by
  unfold IntKind.wrap
  simp [IntKind.signed, IntKind.bits, M]
theorem wi {x : Nat} (h : x < M) : IntKind.u64.wrap (x : Int) = (x : Int) := by rw [wr, Nat.mod_eq_of_lt h]
theorem xo {a b : Nat} (ha : a < M) (hb : b < M) : bits .xor .u64 (a : Int) (b : Int) = ((a ^^^ b : Nat) : Int) := u64_xor_nat a b ha hb
theorem mF (n : Nat) : IntKind.u64.wrap ((n : Int) * (11400714819323198485 : Int)) = ((n * cF % M : Nat) : Int) := by
  rw [show (n : Int) * (11400714819323198485 : Int) = ((n * cF : Nat) : Int) from by rw [Int.natCast_mul]; rfl]
  exact wr _
theorem mS (n : Nat) : IntKind.u64.wrap ((n : Int) * (13787848793156543929 : Int)) = ((n * cS % M : Nat) : Int) := by
  rw [show (n : Int) * (13787848793156543929 : Int) = ((n * cS : Nat) : Int) from by rw [Int.natCast_mul]; rfl]
  exact wr _
theorem s29 (n : Nat) : ((n : Int)).fdiv (2 ^ min ((29 : Int)).toNat (IntKind.bits .u64)) = ((n / 2 ^ 29 : Nat) : Int) := shr_nat rfl (by decide)
theorem s32 (n : Nat) : ((n : Int)).fdiv (2 ^ min ((32 : Int)).toNat (IntKind.bits .u64)) = ((n / 2 ^ 32 : Nat) : Int) := shr_nat rfl (by decide)
theorem s58 (n : Nat) : ((n : Int)).fdiv (2 ^ min ((58 : Int)).toNat (IntKind.bits .u64)) = ((n / 2 ^ 58 : Nat) : Int) := shr_nat rfl (by decide)
theorem ml (n : Nat) : n % M < M := Nat.mod_lt _ M_pos
theorem mstep_ok (fu : Nat) {x b : Nat} (hx : x < M) (hb : b < M) : f_mix_Step fu (x : Int) (b : Int) = some ((stp x b : Nat) : Int) := by
  unfold f_mix_Step
  rw [xo hx hb, mF, s29, xo (ml _) (div_lt' (ml _) 29), mS, s32, xo (ml _) (div_lt' (ml _) 32)]
  rfl
/-! the reference's product -/
theorem prod_go (a b : Nat) (ha : a < M) (hb : b < M) (kk : Int → Option Int) : ∀ (n i fu : Nat), i + n = 64 → n < fu →
    f_lumref_product_L5 (a : Int) (b : Int) kk fu ((a * (b % 2 ^ i) % M : Nat) : Int) (i : Int) = kk ((a * b % M : Nat) : Int)
  | 0, i, fu + 1, hi, _ => by
    obtain rfl : i = 64 := by omega
    rw [f_lumref_product_L5, cond_ff (dge (by omega)), Nat.mod_eq_of_lt (show b < 2 ^ 64 from hb)]
  | n + 1, i, fu + 1, hi, hf => by
    rw [f_lumref_product_L5, cond_tt (dlt (by omega)), lt_of, req_pos (by omega)]
    have hd : b / 2 ^ i < M := div_lt' hb i
    rw [shr_nat (m := i) (k := .u64) rfl (show i ≤ 64 by omega)]
    have hbit : bits .and .u64 ((b / 2 ^ i : Nat) : Int) 1 = ((b / 2 ^ i % 2 : Nat) : Int) := by
      have := u64_and_nat (b / 2 ^ i) 1 hd (by omega)
      rw [Nat.and_one_is_mod] at this
      exact this
    rw [hbit]
    have ih := prod_go a b ha hb kk n (i + 1) fu (by omega) (by omega)
    by_cases h1 : b / 2 ^ i % 2 = 1
    · rw [h1, cond_tt (by rfl), req_pos (by omega), shl_nat (m := i) (k := .u64) rfl (show i ≤ 64 by omega), wr, ← Int.natCast_add, wr, prod_one a b i h1, wsucc (by omega)]
      exact ih
    · have h0 : b / 2 ^ i % 2 = 0 := by omega
      rw [h0, cond_ff (by rfl), prod_zero a b i h0, wsucc (by omega)]
      exact ih
theorem prod_ok (fu : Nat) (hf : 65 ≤ fu) {a b : Nat} (ha : a < M) (hb : b < M) : f_lumref_product fu (a : Int) (b : Int) = some ((a * b % M : Nat) : Int) := by
  unfold f_lumref_product
  rw [lt_of]
  have h := prod_go a b ha hb (fun j => some j) 64 0 fu (by omega) (by omega)
  rw [show a * (b % 2 ^ 0) % M = 0 from by simp [Nat.mod_one]] at h
  exact h
theorem td29 (n : Nat) (h : n < M) : IntKind.u64.wrap (((n : Int)).tdiv (536870912 : Int)) = ((n / 2 ^ 29 : Nat) : Int) := by
  rw [show ((n : Int)).tdiv (536870912 : Int) = ((n / 2 ^ 29 : Nat) : Int) from rfl, wi (div_lt' h 29)]
theorem td32 (n : Nat) (h : n < M) : IntKind.u64.wrap (((n : Int)).tdiv (4294967296 : Int)) = ((n / 2 ^ 32 : Nat) : Int) := by
  rw [show ((n : Int)).tdiv (4294967296 : Int) = ((n / 2 ^ 32 : Nat) : Int) from rfl, wi (div_lt' h 32)]
theorem cF_lt : cF < M := by decide
theorem cS_lt : cS < M := by decide
theorem rstep_ok (fu : Nat) (hf : 65 ≤ fu) {x b : Nat} (hx : x < M) (hb : b < M) : f_lumref_Step fu (x : Int) (b : Int) = some ((stp x b : Nat) : Int) := by
  unfold f_lumref_Step
  rw [xo hx hb, show (11400714819323198485 : Int) = ((cF : Nat) : Int) from rfl, prod_ok fu hf (xltM hx hb) cF_lt, opt_of, td29 _ (ml _), xo (ml _) (div_lt' (ml _) 29)]
  rw [show (13787848793156543929 : Int) = ((cS : Nat) : Int) from rfl, prod_ok fu hf (xltM (ml _) (div_lt' (ml _) 29)) cS_lt, opt_of, td32 _ (ml _), xo (ml _) (div_lt' (ml _) 32)]
  rfl
/-! blocks of the code -/
theorem u64b (b : UInt8) : IntKind.u64.wrap (b.toNat : Int) = ((b.toNat : Nat) : Int) := wi (Nat.lt_trans b.toNat_lt (by decide))
theorem orb {a m : Nat} {b : UInt8} {j : Int} (hj : j = (m : Int)) (ha : a < 2 ^ m) (hm : m + 8 ≤ 64) : bits .or .u64 (a : Int) (IntKind.u64.wrap ((IntKind.u64.wrap (b.toNat : Int)) * 2 ^ min j.toNat (IntKind.bits .u64))) = ((a + b.toNat * 2 ^ m : Nat) : Int) := by
  have hb := b.toNat_lt
  have h1 : b.toNat * 2 ^ m < 2 ^ (8 + m) := by rw [Nat.pow_add]; exact Nat.mul_lt_mul_of_pos_right hb (Nat.pow_pos (by omega))
  have h2 : (2 : Nat) ^ (8 + m) ≤ 2 ^ 64 := Nat.pow_le_pow_right (by omega) (by omega)
  have h3 : (2 : Nat) ^ m ≤ 2 ^ 64 := Nat.pow_le_pow_right (by omega) (by omega)
  have hM : M = 2 ^ 64 := M_pow
  rw [u64b, shl_nat (m := m) (k := .u64) hj (show m ≤ 64 by omega), wi (by omega)]
  have := u64_or_nat a (b.toNat * 2 ^ m) (by show a < M; omega) (by show _ < M; omega)
  rw [this, Nat.mul_comm b.toNat, Nat.or_comm, ← Nat.two_pow_add_eq_or_of_lt ha, Nat.add_comm]
theorem le64_ok (fu : Nat) (l : List UInt8) (hl : l.length = 8) : f__binary_littleEndian__Uint64 fu () l = some ((leN l : Nat) : Int) := by
  match l, hl with
  | [b0, b1, b2, b3, b4, b5, b6, b7], _ =>
    have g0 := b0.toNat_lt
    have g1 := b1.toNat_lt
    have g2 := b2.toNat_lt
    have g3 := b3.toNat_lt
    have g4 := b4.toNat_lt
    have g5 := b5.toNat_lt
    have g6 := b6.toNat_lt
    have g7 := b7.toNat_lt
    unfold f__binary_littleEndian__Uint64
    rw [show at? [b0, b1, b2, b3, b4, b5, b6, b7] (7 : Int) = some b7 from rfl, opt_of, show at? [b0, b1, b2, b3, b4, b5, b6, b7] (0 : Int) = some b0 from rfl, opt_of, show at? [b0, b1, b2, b3, b4, b5, b6, b7] (1 : Int) = some b1 from rfl, opt_of,
      show at? [b0, b1, b2, b3, b4, b5, b6, b7] (2 : Int) = some b2 from rfl, opt_of, show at? [b0, b1, b2, b3, b4, b5, b6, b7] (3 : Int) = some b3 from rfl, opt_of, show at? [b0, b1, b2, b3, b4, b5, b6, b7] (4 : Int) = some b4 from rfl, opt_of,
      show at? [b0, b1, b2, b3, b4, b5, b6, b7] (5 : Int) = some b5 from rfl, opt_of, show at? [b0, b1, b2, b3, b4, b5, b6, b7] (6 : Int) = some b6 from rfl, opt_of, opt_of]
    rw [u64b b0, orb (j := 8) (m := 8) rfl (by omega) (by omega), orb (j := 16) (m := 16) rfl (by omega) (by omega), orb (j := 24) (m := 24) rfl (by omega) (by omega), orb (j := 32) (m := 32) rfl (by omega) (by omega), orb (j := 40) (m := 40) rfl (by omega) (by omega), orb (j := 48) (m := 48) rfl (by omega) (by omega), orb (j := 56) (m := 56) rfl (by omega) (by omega)]
    congr 2
    simp only [leN]
    omega
theorem lof {l : List UInt8} (h : l.length = 8) : lA8u8 (ofA8u8 l) = l := by
  match l, h with
  | [b0, b1, b2, b3, b4, b5, b6, b7], _ => rfl
def zer : A8u8 := (A8u8.mk (0 : UInt8) (0 : UInt8) (0 : UInt8) (0 : UInt8) (0 : UInt8) (0 : UInt8) (0 : UInt8) (0 : UInt8))
theorem lcp (s : List UInt8) : lA8u8 (cpA8u8 zer s) = s.take 8 ++ List.replicate (8 - (s.take 8).length) 0 := by
  unfold cpA8u8
  have h8 : (s.take 8).length ≤ 8 := by rw [List.length_take]; omega
  rw [show lA8u8 zer = List.replicate 8 0 from rfl, List.drop_replicate, lof (by rw [List.length_append, List.length_replicate]; omega)]
theorem lcp_len (s : List UInt8) : (lA8u8 (cpA8u8 zer s)).length = 8 := rfl
theorem dropmin (s : List UInt8) : s.drop (Nat.min s.length 8) = s.drop 8 := by
  rcases Nat.le_total s.length 8 with h | h
  · rw [show Nat.min s.length 8 = s.length from Nat.min_eq_left h, List.drop_length, List.drop_of_length_le h]
  · rw [show Nat.min s.length 8 = 8 from Nat.min_eq_right h]
theorem chain_lt {cut : Nat → Nat} (hc : ∀ y, y < M → cut y < M) : ∀ (k : Nat) (s : List UInt8) (x : Nat), x < M → chain cut k s x < M
  | 0, _, _, h => h
  | k + 1, s, x, h => by
    unfold chain
    split
    · exact h
    · exact chain_lt hc k _ _ (hc _ (stp_lt _ _))
theorem cut_lt (w : Nat) : ∀ y, y < M → y % 2 ^ w < M := fun y h => Nat.lt_of_le_of_lt (Nat.mod_le _ _) h
theorem hash_lt (w : Nat) (s : List UInt8) : hash (fun y => y % 2 ^ w) s < M := cut_lt w _ (stp_lt _ _)
theorem andm {r w : Nat} (hr : r < M) (hw : w ≤ 64) : bits .and .u64 (r : Int) ((2 ^ w - 1 : Nat) : Int) = ((r % 2 ^ w : Nat) : Int) := by
  have h3 : (2 : Nat) ^ w ≤ 2 ^ 64 := Nat.pow_le_pow_right (by omega) hw
  have h0 : (0 : Nat) < 2 ^ w := Nat.pow_pos (by omega)
  have hM : M = 2 ^ 64 := M_pow
  rw [u64_and_nat r (2 ^ w - 1) hr (by show _ < M; omega), Nat.and_two_pow_sub_one_eq_mod]
theorem msum_go (w : Nat) (hw : w ≤ 64) (kk : Int → Option Int) (fu : Nat) : ∀ (k : Nat) (s : List UInt8) (x : Nat), x < M → s.length < k →
    f_mix_sum_L7 ((2 ^ w - 1 : Nat) : Int) kk fu k s (x : Int) = kk ((chain (fun y => y % 2 ^ w) s.length s x : Nat) : Int)
  | k + 1, s, x, hx, hk => by
    rw [f_mix_sum_L7]
    by_cases hs : s = []
    · subst hs
      rw [cond_ff (by rfl), chain_nil]
    · have hmin : Nat.min s.length 8 ≤ s.length := Nat.min_le_left _ _
      have hp : 0 < s.length := List.length_pos_iff.2 hs
      have h8 : (s.take 8).length ≤ 8 := by rw [List.length_take]; omega
      rw [cond_tt (by simpa using hs), req_pos ⟨by omega, by omega⟩]
      have hb : f__binary_littleEndian__Uint64 fu () (lA8u8 (cpA8u8 zer s)) = some ((leN (s.take 8) : Nat) : Int) := by
        rw [le64_ok fu _ (lcp_len s), lcp, leN_zeros]
      unfold zer at hb
      rw [hb, opt_of, mstep_ok fu hx (leN_lt8 _ h8), opt_of, andm (stp_lt _ _) hw, Int.toNat_natCast, dropmin]
      rw [msum_go w hw kk fu k (s.drop 8) _ (cut_lt w _ (stp_lt _ _)) (by rw [List.length_drop]; omega), chain_step _ hs]
theorem msum_ok (w : Nat) (hw : w ≤ 64) (fu : Nat) (s : List UInt8) (hf : s.length < fu) (h63 : s.length ≤ 9223372036854775807) : f_mix_sum fu s ((2 ^ w - 1 : Nat) : Int) = some ((hash (fun y => y % 2 ^ w) s : Nat) : Int) := by
  unfold f_mix_sum
  rw [lt_of]
  rw [show (0 : Int) = ((0 : Nat) : Int) from rfl, msum_go w hw _ fu fu s 0 M_pos hf]
  rw [wi (by unfold M; omega), mstep_ok fu (chain_lt (cut_lt w) _ _ _ M_pos) (by unfold M; omega), opt_of, andm (stp_lt _ _) hw]
  rfl
theorem mSum_ok (fu : Nat) (s : List UInt8) (hf : s.length < fu) (h63 : s.length ≤ 9223372036854775807) : f_mix_Sum fu s = some ((hash (fun y => y % 2 ^ 64) s : Nat) : Int) := by
  unfold f_mix_Sum
  rw [show (18446744073709551615 : Int) = ((2 ^ 64 - 1 : Nat) : Int) from rfl, msum_ok 64 (by omega) fu s hf h63, opt_of]
/-- the digest -/
def idOf (s : List UInt8) : A8u8 := ofA8u8 (beBytes 8 (hash (fun y => y % 2 ^ 64) s))
theorem be8_len (n : Nat) : (beBytes 8 n).length = 8 := beBytes_length 8 n
theorem cpbe (n : Nat) : cpA8u8 zer (beBytes 8 n) = ofA8u8 (beBytes 8 n) := by
  unfold cpA8u8
  rw [List.take_of_length_le (by rw [be8_len]; exact Nat.le_refl _), be8_len, show (lA8u8 zer).drop 8 = [] from rfl, List.append_nil]
theorem mID_ok (fu : Nat) (s : List UInt8) (hf : s.length < fu) (h63 : s.length ≤ 9223372036854775807) : f_mix_ID fu s = some (idOf s) := by
  unfold f_mix_ID
  rw [mSum_ok fu s hf h63, opt_of, req_pos ⟨by omega, by have := hash_lt 64 s; unfold M at this; omega⟩, Int.toNat_natCast]
  exact congrArg some (cpbe _)
/-! the reference -/
theorem rcut_ok (fu : Nat) {y w : Nat} (hy : y < M) (hw : w ≤ 64) : f_lumref_Narrow_1 fu (y : Int) (w : Int) = some ((y % 2 ^ w : Nat) : Int) := by
  unfold f_lumref_Narrow_1
  by_cases h : w = 64
  · subst h
    rw [cond_tt (by rfl), Nat.mod_eq_of_lt (show y < 2 ^ 64 from hy)]
  · have h3 : (2 : Nat) ^ w ≤ 2 ^ 63 := Nat.pow_le_pow_right (by omega) (by omega)
    have h0 : (0 : Nat) < 2 ^ w := Nat.pow_pos (by omega)
    have e : IntKind.u64.wrap ((1 : Int) * 2 ^ min ((w : Int)).toNat (IntKind.bits .u64)) = ((2 ^ w : Nat) : Int) := by
      have := shl_nat (x := 1) (m := w) (j := (w : Int)) (k := .u64) rfl (show w ≤ 64 by omega)
      rw [show (1 : Int) * 2 ^ min ((w : Int)).toNat (IntKind.bits .u64) = ((1 * 2 ^ w : Nat) : Int) from this, wi (by unfold M; omega), Nat.one_mul]
    rw [cond_ff (by rw [beq_eq_false_iff_ne]; omega), req_pos (by omega), e, req_pos (by omega)]
    rfl
theorem bAtN {s : List UInt8} {j : Nat} (h : j < s.length) : En.bAt s (j : Int) = ((s[j].toNat : Nat) : Int) := by
  unfold En.bAt
  rw [Int.toNat_natCast, List.getD_eq_getElem?_getD, List.getElem?_eq_getElem h]; rfl
theorem blk_go (l : List UInt8) (hl : 8 ≤ l.length) (kk : Int → Option Int) : ∀ (n k : Nat), n ≤ 8 → n < k → f_lumref_Narrow_L27 l kk k ((leN ((l.take 8).drop n) : Nat) : Int) ((n : Int) - 1) = kk ((leN (l.take 8) : Nat) : Int)
  | 0, k + 1, _, _ => by
    rw [f_lumref_Narrow_L27, cond_ff (decide_eq_false (by omega))]; rfl
  | n + 1, k + 1, hn, hk => by
    have e : ((n + 1 : Nat) : Int) - 1 = (n : Int) := by omega
    have hlt : n < (l.take 8).length := by rw [List.length_take]; omega
    have hv : leN ((l.take 8).drop n) = 256 * leN ((l.take 8).drop (n + 1)) + l[n].toNat := by
      rw [List.drop_eq_getElem_cons hlt, List.getElem_take]
      show _ + _ = _
      omega
    have hlen : ((l.take 8).drop n).length ≤ 8 := by rw [List.length_drop, List.length_take]; omega
    have hM := leN_lt8 _ hlen
    rw [hv] at hM
    have hbl := l[n].toNat_lt
    rw [f_lumref_Narrow_L27, e, cond_tt (decide_eq_true (by omega)), req_pos ⟨by omega, by omega⟩, bAtN (by omega), wi (x := l[n].toNat) (by unfold M; omega)]
    rw [show (256 : Int) * ((leN ((l.take 8).drop (n + 1)) : Nat) : Int) = ((256 * leN ((l.take 8).drop (n + 1)) : Nat) : Int) from by omega, wi (by omega), ← Int.natCast_add, wi hM, ← hv]
    rw [w64 (by omega) (by omega)]
    exact blk_go l hl kk n k (by omega) (by omega)
theorem rsum_go (w : Nat) (hw : w ≤ 64) (kk : Int → Option Int) (fu : Nat) (hfu : 65 ≤ fu) : ∀ (k : Nat) (s : List UInt8) (x : Nat), x < M → s.length < k →
    f_lumref_Narrow_L13 (w : Int) kk fu k (x : Int) (pad s) = kk ((chain (fun y => y % 2 ^ w) s.length s x : Nat) : Int)
  | k + 1, s, x, hx, hk => by
    rw [f_lumref_Narrow_L13, lt_of]
    dsimp only
    by_cases hs : s = []
    · subst hs
      rw [cond_ff (by rfl), chain_nil]
    · obtain ⟨p1, p2, p3⟩ := pad_take s hs
      have hp : 0 < s.length := List.length_pos_iff.2 hs
      have h8 : (s.take 8).length ≤ 8 := by rw [List.length_take]; omega
      rw [cond_tt (by have := mt (pad_nil s).1 hs; simpa using this), lt_of, lt_of]
      dsimp only
      have hb := blk_go (pad s) p2 (fun j19i8 => (opt (f_lumref_Step fu (x : Int) j19i8) fun (r22 : Int) => (opt (f_lumref_Narrow_1 fu r22 (w : Int)) fun (r24 : Int) => (req (0 ≤ (8 : Int) ∧ (8 : Int) ≤ ((pad s).length : Int)) (f_lumref_Narrow_L13 (w : Int) kk fu k r24 ((pad s).drop ((8 : Int)).toNat)))))) 8 fu (by omega) (by omega)
      have h0 : leN (((pad s).take 8).drop 8) = 0 := by rw [List.drop_of_length_le (by rw [List.length_take]; omega)]; rfl
      rw [h0] at hb
      refine Eq.trans hb ?_
      rw [p1, rstep_ok fu hfu hx (leN_lt8 _ h8), opt_of, rcut_ok fu (stp_lt _ _) hw, opt_of, req_pos ⟨by omega, by omega⟩, show ((8 : Int)).toNat = 8 from rfl, p3]
      rw [rsum_go w hw kk fu hfu k (s.drop 8) _ (cut_lt w _ (stp_lt _ _)) (by rw [List.length_drop]; omega), chain_step _ hs]
theorem rep_zero : ∀ k : Nat, repeatL [0] k = List.replicate k 0
  | 0 => rfl
  | k + 1 => by show [0] ++ repeatL [0] k = _; rw [rep_zero k]; rfl
theorem repeat_ok (fu k : Nat) (hk : k ≤ 8) : f_strings_Repeat fu ([0] : List UInt8) (k : Int) = some (List.replicate k 0) := by
  unfold f_strings_Repeat
  rw [req_pos ⟨by omega, by omega, by rw [Int.toNat_natCast]; simp; omega⟩, Int.toNat_natCast, rep_zero]
theorem rnarrow_ok (w : Nat) (hw : w ≤ 64) (fu : Nat) (s : List UInt8) (hfu : 65 ≤ fu) (hf : s.length < fu) (hb : s.length ≤ 9223372036854775800) : f_lumref_Narrow fu (w : Int) s = some ((hash (fun y => y % 2 ^ w) s : Nat) : Int) := by
  unfold f_lumref_Narrow
  have e1 : (((s.length : Int)).tmod (8 : Int)) = ((s.length % 8 : Nat) : Int) := rfl
  have e2 : IntKind.i64.wrap ((8 : Int) - ((s.length % 8 : Nat) : Int)) = ((8 - s.length % 8 : Nat) : Int) := by rw [w64 (by omega) (by omega)]; omega
  have e3 : (((8 - s.length % 8 : Nat) : Int)).tmod (8 : Int) = (((8 - s.length % 8) % 8 : Nat) : Int) := rfl
  rw [e1, e2, e3, repeat_ok fu _ (by omega), opt_of, req_pos (by rw [List.length_replicate]; omega), lt_of]
  rw [show (s ++ List.replicate ((8 - s.length % 8) % 8) (0 : UInt8)) = pad s from rfl, show (0 : Int) = ((0 : Nat) : Int) from rfl, rsum_go w hw _ fu hfu fu s 0 M_pos hf]
  rw [wi (by unfold M; omega), rstep_ok fu hfu (chain_lt (cut_lt w) _ _ _ M_pos) (by unfold M; omega), opt_of, rcut_ok fu (stp_lt _ _) hw, opt_of]
  rfl
theorem p8 : 256 ^ 8 = 18446744073709551616 := by decide
theorem tB {b : Nat} (h : b < 256) : IntKind.u8.wrap (b : Int) = (b : Int) := u8w_in h
theorem rdigits_ok : ∀ (k n fu : Nat), n < 256 ^ k → k ≤ 8 → k < fu → f_lumref_digits fu (n : Int) = some (digF k n)
  | 0, n, fu + 1, h, _, _ => by
    have : n = 0 := by simpa using h
    subst this; rfl
  | k + 1, n, fu + 1, h, h8, hf => by
    rw [f_lumref_digits]
    by_cases h0 : n = 0
    · subst h0; rfl
    have hn8 : n < 18446744073709551616 := by
      rw [← p8]; exact Nat.lt_of_lt_of_le h (Nat.pow_le_pow_right (by omega) h8)
    have e1 : ((n : Int)).tdiv 256 = ((n / 256 : Nat) : Int) := by rw [Int.tdiv_eq_ediv_of_nonneg (by omega)]; omega
    have e2 : ((n : Int)).tmod 256 = ((n % 256 : Nat) : Int) := by rw [Int.tmod_eq_emod_of_nonneg (by omega)]; omega
    have hl := digF_len k (n / 256)
    rw [cond_ff (by rw [beq_eq_false_iff_ne]; omega), e1, e2, wi (by unfold M; omega), rdigits_ok k (n / 256) fu (div_lt h) (by omega) (by omega), opt_of, u8w_in (by omega), req_pos ⟨by omega, by omega⟩, req_pos (by rw [List.length_singleton]; omega), Int.toNat_natCast]
    show _ = some (if n = 0 then [] else digF k (n / 256) ++ [(n % 256).toUInt8])
    rw [if_neg h0]
theorem drop_zeros : ∀ l : List UInt8, List.replicate (l.length - (trimLeftB l 0).length) 0 ++ trimLeftB l 0 = l
  | [] => rfl
  | b :: l => by
    unfold trimLeftB
    rw [List.dropWhile_cons]
    have ih := drop_zeros l
    unfold trimLeftB at ih
    have hle : (List.dropWhile (fun x => x == 0) l).length ≤ l.length := (List.dropWhile_sublist _).length_le
    by_cases h : b = 0
    · subst h
      rw [if_pos (by rfl), List.length_cons, show l.length + 1 - (List.dropWhile (fun x => x == 0) l).length = (l.length - (List.dropWhile (fun x => x == 0) l).length) + 1 by omega, List.replicate_succ, List.cons_append, ih]
    · rw [if_neg (by simpa using h)]
      simp
theorem wide_ok (fu n : Nat) (hn : n < M) (hf : 9 ≤ fu) : f_lumref_wide fu (n : Int) = some (beBytes 8 n) := by
  unfold f_lumref_wide
  have hn' : n < 256 ^ 8 := by rw [p8]; exact hn
  have hl := digF_len 8 n
  rw [rdigits_ok 8 n fu hn' (by omega) (by omega), opt_of]
  rw [show IntKind.i64.wrap ((8 : Int) - ((digF 8 n).length : Int)) = ((8 - (digF 8 n).length : Nat) : Int) from by rw [w64 (by omega) (by omega)]; omega, repeat_ok fu _ (by omega), opt_of, req_pos (by rw [List.length_replicate]; omega)]
  have h := drop_zeros (beBytes 8 n)
  rw [trim_be hn', be8_len] at h
  rw [h]
theorem rID_ok (fu : Nat) (s : List UInt8) (hfu : 65 ≤ fu) (hf : s.length < fu) (hb : s.length ≤ 9223372036854775800) : f_lumref_ID fu s = some (idOf s) := by
  unfold f_lumref_ID
  rw [show (64 : Int) = ((64 : Nat) : Int) from rfl, rnarrow_ok 64 (by omega) fu s hfu hf hb, opt_of, wide_ok fu _ (hash_lt 64 s) (by omega), opt_of, req_pos (by rw [be8_len]; omega), req_pos (by rw [be8_len]; omega)]
  rfl
end MX
end Go.Proofs.Ytgmggcpceemnnaa.PPackLists
