/- The Bloom filter: BloomSays. No condition. -/
import Derived.Test.YtjbgahmcobcojaaBloomFns
namespace Go.Proofs.Ytjbgahmcobcojaa.PBloomSays
open Go.RowKit Ytjbgahmcobcojaa.En Ytjbgahmcobcojaa Num Pop Blm Go.Lib
set_option linter.unusedVariables false
set_option linter.unusedSimpArgs false
theorem k1 : mask 1 32 = 6148914691236517205 := by simp [mask]
theorem k2 : mask 2 16 = 3689348814741910323 := by simp [mask]
theorem andc {a c : Nat} (ha : a < 18446744073709551616) (hc : c < 18446744073709551616) : bits .and .u64 (a : Int) (c : Int) = ((a &&& c : Nat) : Int) := u64_and_nat a c ha hc
theorem st1 (x : Nat) (hx : x < 18446744073709551616) : IntKind.u64.wrap ((bits .and .u64 ((x : Int).fdiv (2 ^ min ((1 : Int)).toNat (IntKind.bits .u64))) (6148914691236517205 : Int)) + (bits .and .u64 (x : Int) (6148914691236517205 : Int))) = (((x / 2 &&& mask 1 32) + (x &&& mask 1 32) : Nat) : Int) := by
  rw [shr_nat (j := 1) (m := 1) (k := .u64) rfl (by decide), show (6148914691236517205 : Int) = ((6148914691236517205 : Nat) : Int) from rfl, andc (by omega) (by omega), andc hx (by omega), k1, ← Int.natCast_add, uw]
  · have h1 : x / 2 ^ 1 &&& 6148914691236517205 ≤ 6148914691236517205 := Nat.and_le_right
    have h2 : x &&& 6148914691236517205 ≤ 6148914691236517205 := Nat.and_le_right
    omega
theorem st2 (x : Nat) (hx : x < 18446744073709551616) : IntKind.u64.wrap ((bits .and .u64 ((x : Int).fdiv (2 ^ min ((2 : Int)).toNat (IntKind.bits .u64))) (3689348814741910323 : Int)) + (bits .and .u64 (x : Int) (3689348814741910323 : Int))) = (((x / 4 &&& mask 2 16) + (x &&& mask 2 16) : Nat) : Int) := by
  rw [shr_nat (j := 2) (m := 2) (k := .u64) rfl (by decide), show (3689348814741910323 : Int) = ((3689348814741910323 : Nat) : Int) from rfl, andc (by omega) (by omega), andc hx (by omega), k2, ← Int.natCast_add, uw]
  · have h1 : x / 2 ^ 2 &&& 3689348814741910323 ≤ 3689348814741910323 := Nat.and_le_right
    have h2 : x &&& 3689348814741910323 ≤ 3689348814741910323 := Nat.and_le_right
    omega
theorem st3 (x : Nat) (hx : x ≤ 7378697629483820646) : bits .and .u64 (IntKind.u64.wrap (((x : Int).fdiv (2 ^ min ((4 : Int)).toNat (IntKind.bits .u64))) + (x : Int))) (1085102592571150095 : Int) = (((x / 16 + x) &&& mask 4 8 : Nat) : Int) := by
  rw [shr_nat (j := 4) (m := 4) (k := .u64) rfl (by decide), ← Int.natCast_add, show x / 2 ^ 4 = x / 16 from rfl, uw (by omega), show (1085102592571150095 : Int) = ((1085102592571150095 : Nat) : Int) from rfl, andc (by omega) (by omega), mask48]
theorem st8 (x : Nat) (hx : x ≤ 1085102592571150095) : IntKind.u64.wrap ((x : Int) + ((x : Int).fdiv (2 ^ min ((8 : Int)).toNat (IntKind.bits .u64)))) = ((x + x / 256 : Nat) : Int) := by
  rw [shr_nat (j := 8) (m := 8) (k := .u64) rfl (by decide), ← Int.natCast_add, show x / 2 ^ 8 = x / 256 from rfl, uw (by omega)]
theorem st16 (x : Nat) (hx : x ≤ 1200000000000000000) : IntKind.u64.wrap ((x : Int) + ((x : Int).fdiv (2 ^ min ((16 : Int)).toNat (IntKind.bits .u64)))) = ((x + x / 65536 : Nat) : Int) := by
  rw [shr_nat (j := 16) (m := 16) (k := .u64) rfl (by decide), ← Int.natCast_add, show x / 2 ^ 16 = x / 65536 from rfl, uw (by omega)]
theorem st32 (x : Nat) (hx : x ≤ 1300000000000000000) : IntKind.u64.wrap ((x : Int) + ((x : Int).fdiv (2 ^ min ((32 : Int)).toNat (IntKind.bits .u64)))) = ((x + x / 4294967296 : Nat) : Int) := by
  rw [shr_nat (j := 32) (m := 32) (k := .u64) rfl (by decide), ← Int.natCast_add, show x / 2 ^ 32 = x / 4294967296 from rfl, uw (by omega)]
theorem stf (x : Nat) (hx : x ≤ 1400000000000000000) : bits .and .i64 (IntKind.i64.wrap (x : Int)) (127 : Int) = ((x % 128 : Nat) : Int) := by
  rw [iw (by omega), show (127 : Int) = ((127 : Nat) : Int) from rfl, i64_and_nat x 127 (by omega) (by omega)]
  have := Nat.and_two_pow_sub_one_eq_mod x 7
  rw [show (127 : Nat) = 2 ^ 7 - 1 from rfl, this]
theorem ones_ok (v : Nat) (hv : v < 18446744073709551616) (fu : Nat) : f_bits_OnesCount64 fu (v : Int) = some ((dsum 1 64 v : Nat) : Int) := by
  obtain ⟨y0, h0⟩ : ∃ y0, y0 = (v / 2 &&& mask 1 32) + (v &&& mask 1 32) := ⟨_, rfl⟩
  obtain ⟨y1, h1⟩ : ∃ y1, y1 = (y0 / 4 &&& mask 2 16) + (y0 &&& mask 2 16) := ⟨_, rfl⟩
  obtain ⟨z, h2⟩ : ∃ z, z = (y1 / 16 + y1) &&& mask 4 8 := ⟨_, rfl⟩
  obtain ⟨t1, e1⟩ : ∃ t1, t1 = z + z / 256 := ⟨_, rfl⟩
  obtain ⟨t2, e2⟩ : ∃ t2, t2 = t1 + t1 / 65536 := ⟨_, rfl⟩
  obtain ⟨t3, e3⟩ : ∃ t3, t3 = t2 + t2 / 4294967296 := ⟨_, rfl⟩
  have hy0 : y0 < 18446744073709551616 := by
    have a : v / 2 &&& mask 1 32 ≤ mask 1 32 := Nat.and_le_right
    have b : v &&& mask 1 32 ≤ mask 1 32 := Nat.and_le_right
    rw [k1] at a b h0
    clear h1 h2 e1 e2 e3
    omega
  have hy1 : y1 ≤ 7378697629483820646 := by
    have a : y0 / 4 &&& mask 2 16 ≤ mask 2 16 := Nat.and_le_right
    have b : y0 &&& mask 2 16 ≤ mask 2 16 := Nat.and_le_right
    rw [k2] at a b h1
    clear h0 h2 e1 e2 e3
    omega
  have hz : z ≤ 1085102592571150095 := by
    have a : (y1 / 16 + y1) &&& mask 4 8 ≤ mask 4 8 := Nat.and_le_right
    rw [← h2, mask48] at a; exact a
  have ht1 : t1 ≤ 1200000000000000000 := by clear h0 h1 h2 e2 e3 hy0 hy1; omega
  have ht2 : t2 ≤ 1300000000000000000 := by clear h0 h1 h2 e1 e3 hy0 hy1 hz; omega
  have ht3 : t3 ≤ 1400000000000000000 := by clear h0 h1 h2 e1 e2 hy0 hy1 hz ht1; omega
  have key := (pop64 v y0 y1 z t1 t2 t3 h0 h1 h2 e1 e2 e3).1
  unfold f_bits_OnesCount64
  rw [st1 v hv, ← h0, st2 y0 hy0, ← h1, st3 y1 hy1, ← h2, st8 z hz, ← e1, st16 t1 ht1, ← e2, st32 t2 ht2, ← e3, stf t3 ht3, key]
theorem count_go {x : A16u64} {l : List Nat} (h : Rep x l) (kk : Int → Option Int) (fu : Nat) : ∀ (n i k : Nat), i + n = 16 → n < k → f_bloom_Count_L6 x kk fu k ((total l i : Nat) : Int) (i : Int) = kk ((total l 16 : Nat) : Int)
  | _, _, 0, _, hk => absurd hk (Nat.not_lt_zero _)
  | 0, i, k + 1, hi, _ => by
    obtain rfl : i = 16 := by omega
    rw [f_bloom_Count_L6, cond_ff (by rfl)]
  | n + 1, i, k + 1, hi, hk => by
    have ht : total l (i + 1) ≤ 64 * (i + 1) := total_le l (i + 1)
    rw [f_bloom_Count_L6, cond_tt (dlt (by omega)), h.at (by omega), opt_of, ones_ok _ (h.lt i), opt_of, ← Int.natCast_add, wsucc (by omega)]
    rw [show total l i + dsum 1 64 (l.getD i 0) = total l (i + 1) from rfl, iw (by omega)]
    exact count_go h kk fu n (i + 1) k (by omega) (by omega)
theorem count_ok {x : A16u64} {l : List Nat} (h : Rep x l) (fu : Nat) (hf : 20 ≤ fu) : f_bloom_Count fu x = some ((cnt l 1024 : Nat) : Int) := by
  unfold f_bloom_Count
  rw [lt_of, show (1024 : Nat) = 64 * 16 from rfl, cnt_total]
  exact count_go h _ fu 16 0 fu (by omega) (by omega)
/-! the marks as a map -/
def xm (id : A8u8) : List (Int × Int) := mset (mset (mset (mset [] (mk_ id 0 : Nat) 1) (mk_ id 1 : Nat) 1) (mk_ id 2 : Nat) 1) (mk_ id 3 : Nat) 1
theorem xm_get (id : A8u8) (k : Nat) : (mget (xm id) (k : Int) == (1 : Int)) = ms id k := by
  unfold xm ms
  rw [mget_mset, mget_mset, mget_mset, mget_mset, show mget [] (k : Int) = 0 from rfl]
  simp only [Int.natCast_inj]
  by_cases h0 : k = mk_ id 0 <;> by_cases h1 : k = mk_ id 1 <;> by_cases h2 : k = mk_ id 2 <;> by_cases h3 : k = mk_ id 3 <;> simp [h0, h1, h2, h3, eq_comm]
theorem marks_ok (id : A8u8) (kk : List (Int × Int) → Option Bool) (fu : Nat) (hf : 10 ≤ fu) : f_lumlaw_BloomSays_L99 id kk fu fu ([] : List (Int × Int)) (0 : Int) = kk (xm id) := by
  obtain ⟨k, hk⟩ : ∃ k, fu = k + 5 := ⟨fu - 5, by omega⟩
  have st : ∀ (n q : Nat) (m : List (Int × Int)), n < 4 → f_lumlaw_BloomSays_L99 id kk fu (q + 1) m (n : Int) = f_lumlaw_BloomSays_L99 id kk fu q (mset m (mk_ id n : Nat) 1) ((n + 1 : Nat) : Int) := by
    intro n q m hn
    rw [f_lumlaw_BloomSays_L99, cond_tt (dlt (by omega)), mark_ok id n hn fu hf, opt_of, wsucc (by omega)]
  have e : f_lumlaw_BloomSays_L99 id kk fu (k + 5) [] ((0 : Nat) : Int) = kk (xm id) := by
    rw [st 0 (k + 4) _ (by omega), st 1 (k + 3) _ (by omega), st 2 (k + 2) _ (by omega), st 3 (k + 1) _ (by omega), f_lumlaw_BloomSays_L99, cond_ff (by rfl)]
    rfl
  rw [← hk] at e
  exact e
theorem loop_go (id : A8u8) {x y a j : A16u64} {l m la lj : List Nat} (hx : Rep x l) (hy : Rep y m) (ha : Rep a la) (hj : Rep j lj) (ba : ∀ k, B la k = (B l k || ms id k)) (bj : ∀ k, k < 1024 → B lj k = (B l k || B m k)) (kk : Bool → Int → Option Bool) (fu : Nat) :
    ∀ (d k q : Nat), k + d = 1024 → d < q → f_lumlaw_BloomSays_L60 x y a j (xm id) kk fu q (al (ms id) l k) ((cnt l k : Nat) : Int) (k : Int) = kk (al (ms id) l 1024) ((cnt l 1024 : Nat) : Int)
  | _, _, 0, _, hk => absurd hk (Nat.not_lt_zero _)
  | 0, k, q + 1, hd, _ => by
    obtain rfl : k = 1024 := by omega
    rw [f_lumlaw_BloomSays_L60, cond_ff (by rfl)]
  | d + 1, k, q + 1, hd, hq => by
    have ih := loop_go id hx hy ha hj ba bj kk fu d (k + 1) q (by omega) (by omega)
    have hk : k < 1024 := by omega
    have hc := cnt_le l k
    have e1 := bit_ok hx hk fu
    have e2 := bit_ok hy hk fu
    have e3 := bit_ok ha hk fu
    have e4 := bit_ok hj hk fu
    rw [ba] at e3
    rw [bj k hk] at e4
    have e5 := xm_get id k
    rw [show al (ms id) l (k + 1) = (al (ms id) l k && (!ms id k || B l k)) from rfl, show cnt l (k + 1) = cnt l k + (if B l k then 1 else 0) from rfl] at ih
    rw [f_lumlaw_BloomSays_L60, cond_tt (dlt (by omega))]
    simp only [lt_of]
    rw [e5, e1, e2, e3, e4, wsucc (by omega), wsucc (by omega)]
    simp only [opt_of]
    generalize al (ms id) l k = A at *
    generalize B l k = b0 at *
    generalize B m k = b1 at *
    generalize ms id k = s at *
    cases A <;> cases b0 <;> cases b1 <;> cases s <;> exact ih
def fuel (_ _ : A16u64) (_ : A8u8) : Nat := 2000
theorem law_ok (id : A8u8) {x y : A16u64} {l m : List Nat} (hx : Rep x l) (hy : Rep y m) (fu : Nat) (hf : 2000 ≤ fu) : f_lumlaw_BloomSays fu x y id = some true := by
  obtain ⟨a, la, ha, ba, f1⟩ := add_ok id hx fu (by omega)
  obtain ⟨j, lj, hj, bj, f2⟩ := join_ok hx hy fu (by omega)
  have f3 := has_ok id hx fu (by omega)
  have f4 := count_ok hx fu (by omega)
  have f5 := join0 fu (by omega)
  rw [← all_eq] at f3
  unfold f_lumlaw_BloomSays
  rw [f1, opt_of, f2, opt_of, lt_of]
  refine (marks_ok id _ fu (by omega)).trans ?_
  rw [lt_of]
  refine (loop_go id hx hy ha hj ba bj _ fu 1024 0 fu (by omega) (by omega)).trans ?_
  rw [lt_of, f3, opt_of, cond_tt (beq_self_eq_true _), f4, opt_of, cond_tt (beq_self_eq_true _), f5, opt_of]
  unfold zero16
  simp only
  repeat rw [req_pos (by decide)]
  rw [beq_self_eq_true]
theorem says (x0 x1 : A16u64) (x2 : A8u8) (ok0 : okA16u64 x0) (ok1 : okA16u64 x1) (ok2 : okA8u8 x2) : f_lumlaw_BloomSays (fuel x0 x1 x2) x0 x1 x2 = some true := by
  obtain ⟨l, hl⟩ := rep_of x0 ok0
  obtain ⟨m, hm⟩ := rep_of x1 ok1
  exact law_ok x2 hl hm 2000 (Nat.le_refl _)
end Go.Proofs.Ytjbgahmcobcojaa.PBloomSays
