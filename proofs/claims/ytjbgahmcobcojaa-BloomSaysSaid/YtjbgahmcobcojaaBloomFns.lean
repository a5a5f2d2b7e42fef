/- The Bloom filter: the code and the reference agree. No condition. -/
import Derived.Test.YtjbgahmcobcojaaBloomMath
import Derived.Test.YtjbgahmcobcojaaNumMath
import Derived.Test.YtjbgahmcobcojaaPlBits
import Derived.Test.YtjbgahmcobcojaaWBloomSays
import Derived.Laws.BitsAllLaws
namespace Go.Proofs.Ytjbgahmcobcojaa.PBloomSays
open Go.RowKit Ytjbgahmcobcojaa.En Ytjbgahmcobcojaa Num Pop Blm Go.Lib
set_option linter.unusedVariables false
set_option linter.unusedSimpArgs false
theorem iw {n : Nat} (h : n ≤ 9223372036854775807) : IntKind.i64.wrap (n : Int) = (n : Int) := w64 (by omega) (by omega)
theorem uw {n : Nat} (h : n < 18446744073709551616) : IntKind.u64.wrap (n : Int) = (n : Int) := by
  unfold IntKind.wrap
  simp [IntKind.signed, IntKind.bits]
  omega
theorem bAt_lt {s : List UInt8} {j : Nat} (h : j < s.length) : En.bAt s (j : Int) = ((s[j].toNat : Nat) : Int) := by
  unfold En.bAt
  rw [Int.toNat_natCast, List.getD_eq_getElem?_getD, List.getElem?_eq_getElem h]; rfl
theorem p8 : 256 ^ 8 = 18446744073709551616 := by decide
theorem p7 : 256 ^ 7 = 72057594037927936 := by decide
theorem number_ok : ∀ (k : Nat) (s : List UInt8) (fu : Nat), s.length = k → k ≤ 8 → k < fu → f_lumref_number fu s = some ((beNat s : Nat) : Int)
  | 0, s, fu + 1, hk, _, _ => by
    have : s = [] := List.eq_nil_of_length_eq_zero hk
    subst this; rfl
  | k + 1, s, fu + 1, hk, h8, hf => by
    have hne : s ≠ [] := by rintro rfl; simp at hk
    have e : IntKind.i64.wrap ((s.length : Int) - (1 : Int)) = (k : Int) := by rw [w64 (by omega) (by omega)]; omega
    have hlk : k < s.length := by omega
    have ht : (s.take k).length = k := by rw [List.length_take]; omega
    have h7 := beNat_lt' (l := s.take k) (k := 7) (by omega)
    rw [p7] at h7
    have hb := s[k].toNat_lt
    rw [f_lumref_number, cond_ff (beq_eq_false_iff_ne.2 hne), e, req_pos ⟨by omega, by omega⟩, Int.toNat_natCast, number_ok k (s.take k) fu ht (by omega) (by omega), opt_of, req_pos ⟨by omega, by omega⟩, bAt_lt hlk]
    have e1 : (256 : Int) * ((beNat (s.take k) : Nat) : Int) = ((256 * beNat (s.take k) : Nat) : Int) := by omega
    rw [e1, uw (by omega), uw (n := s[k].toNat) (by omega)]
    have e2 : ((256 * beNat (s.take k) : Nat) : Int) + ((s[k].toNat : Nat) : Int) = ((beNat s : Nat) : Int) := by
      have := beNat_take hlk
      rw [List.take_of_length_le (by omega : s.length ≤ k + 1)] at this
      omega
    rw [e2, uw]
    have := beNat_lt' (l := s) (k := 8) (by omega)
    rw [p8] at this; exact this

/-! a filter as a row of words -/
def Rep (x : A16u64) (l : List Nat) : Prop := lA16u64 x = l.map (fun n : Nat => (n : Int)) ∧ l.length = 16 ∧ ∀ n ∈ l, n < 18446744073709551616
theorem Rep.at {x : A16u64} {l : List Nat} (h : Rep x l) {j : Nat} (hj : j < 16) : at? (lA16u64 x) (j : Int) = some ((l.getD j 0 : Nat) : Int) := by
  have hl : j < l.length := by rw [h.2.1]; exact hj
  rw [h.1, at_map, at_lt hl, List.getD_eq_getElem?_getD, List.getElem?_eq_getElem hl]
  rfl
theorem Rep.lt {x : A16u64} {l : List Nat} (h : Rep x l) (j : Nat) : l.getD j 0 < 18446744073709551616 := by
  rw [List.getD_eq_getElem?_getD]
  by_cases hj : j < l.length
  · rw [List.getElem?_eq_getElem hj]; exact h.2.2 _ (List.getElem_mem hj)
  · rw [List.getElem?_eq_none (by omega)]; decide
theorem Rep.set {x : A16u64} {l : List Nat} (h : Rep x l) {j v : Nat} (hj : j < 16) (hv : v < 18446744073709551616) : Rep (setA16u64 x (j : Int) (v : Int)) (l.set j v) := by
  refine ⟨?_, by rw [List.length_set]; exact h.2.1, fun n hn => ?_⟩
  · rw [lsetA16u64 (by omega) (by omega), Int.toNat_natCast, h.1, List.map_set]
  · rcases List.mem_or_eq_of_mem_set hn with h1 | h1
    · exact h.2.2 n h1
    · rw [h1]; exact hv
def zero16 : A16u64 := (A16u64.mk (0 : Int) (0 : Int) (0 : Int) (0 : Int) (0 : Int) (0 : Int) (0 : Int) (0 : Int) (0 : Int) (0 : Int) (0 : Int) (0 : Int) (0 : Int) (0 : Int) (0 : Int) (0 : Int))
theorem rep_zero : Rep zero16 (List.replicate 16 0) := ⟨rfl, rfl, by intro n hn; rw [(List.mem_replicate.1 hn).2]; decide⟩
theorem nat_of {x : Int} (h : (Lit.int .u64 x).wf = true) : x = ((x.toNat : Nat) : Int) ∧ x.toNat < 18446744073709551616 := by
  have h0 : 0 ≤ x ∧ x ≤ 18446744073709551615 := by simpa [Lit.wf, IntKind.min, IntKind.max, IntKind.signed, IntKind.bits] using h
  omega
theorem rep_of (x : A16u64) (h : okA16u64 x) : ∃ l, Rep x l := by
  obtain ⟨h0, h1, h2, h3, h4, h5, h6, h7, h8, h9, h10, h11, h12, h13, h14, h15⟩ := h
  refine ⟨[x.e0.toNat, x.e1.toNat, x.e2.toNat, x.e3.toNat, x.e4.toNat, x.e5.toNat, x.e6.toNat, x.e7.toNat, x.e8.toNat, x.e9.toNat, x.e10.toNat, x.e11.toNat, x.e12.toNat, x.e13.toNat, x.e14.toNat, x.e15.toNat], ?_, rfl, ?_⟩
  · simp only [List.map_cons, List.map_nil]
    rw [← (nat_of h0).1, ← (nat_of h1).1, ← (nat_of h2).1, ← (nat_of h3).1, ← (nat_of h4).1, ← (nat_of h5).1, ← (nat_of h6).1, ← (nat_of h7).1, ← (nat_of h8).1, ← (nat_of h9).1, ← (nat_of h10).1, ← (nat_of h11).1, ← (nat_of h12).1, ← (nat_of h13).1, ← (nat_of h14).1, ← (nat_of h15).1]
    rfl
  · intro n hn
    simp only [List.mem_cons, List.not_mem_nil, or_false] at hn
    rcases hn with h | h | h | h | h | h | h | h | h | h | h | h | h | h | h | h <;> subst h
    · exact (nat_of h0).2
    · exact (nat_of h1).2
    · exact (nat_of h2).2
    · exact (nat_of h3).2
    · exact (nat_of h4).2
    · exact (nat_of h5).2
    · exact (nat_of h6).2
    · exact (nat_of h7).2
    · exact (nat_of h8).2
    · exact (nat_of h9).2
    · exact (nat_of h10).2
    · exact (nat_of h11).2
    · exact (nat_of h12).2
    · exact (nat_of h13).2
    · exact (nat_of h14).2
    · exact (nat_of h15).2
theorem tst (v i : Nat) (hv : v < 18446744073709551616) (hi : i < 64) : ((bits .and .u64 (((v : Int)).fdiv (2 ^ min ((i : Int)).toNat (IntKind.bits .u64))) (1 : Int)) == (1 : Int)) = v.testBit i ∧ ((bits .and .u64 (((v : Int)).fdiv (2 ^ min ((i : Int)).toNat (IntKind.bits .u64))) (1 : Int)) == (0 : Int)) = !v.testBit i := by
  rw [shr_nat (m := i) (k := .u64) rfl (show i ≤ 64 by omega)]
  have hb : bits .and .u64 ((v / 2 ^ i : Nat) : Int) 1 = ((v / 2 ^ i % 2 : Nat) : Int) := by
    have := u64_and_nat (v / 2 ^ i) 1 (Nat.lt_of_le_of_lt (Nat.div_le_self _ _) hv) (by omega)
    rw [Nat.and_one_is_mod] at this
    exact this
  rw [hb, Nat.testBit_eq_decide_div_mod_eq]
  have h2 : v / 2 ^ i % 2 < 2 := Nat.mod_lt _ (by omega)
  rcases (show v / 2 ^ i % 2 = 0 ∨ v / 2 ^ i % 2 = 1 by omega) with h | h <;> rw [h] <;> exact ⟨rfl, rfl⟩
theorem bit_ok {x : A16u64} {l : List Nat} (h : Rep x l) {k : Nat} (hk : k < 1024) (fu : Nat) : f_lumref_Bit fu x (k : Int) = some (B l k) := by
  unfold f_lumref_Bit
  rw [show ((k : Int)).tdiv (64 : Int) = ((k / 64 : Nat) : Int) from rfl, w64 (by omega) (by omega), h.at (j := k / 64) (by omega), opt_of, show ((k : Int)).tmod (64 : Int) = ((k % 64 : Nat) : Int) from rfl, req_pos (by omega), (tst _ (k % 64) (h.lt _) (by omega)).1]
  rfl
/-! the marks -/
theorem u32w (x : Nat) : IntKind.u32.wrap (x : Int) = ((x % 4294967296 : Nat) : Int) := by
  unfold IntKind.wrap
  simp [IntKind.signed, IntKind.bits]
theorem u32i {x : Nat} (h : x < 4294967296) : IntKind.u32.wrap (x : Int) = (x : Int) := by rw [u32w, Nat.mod_eq_of_lt h]
theorem orb {a m : Nat} {b : UInt8} {j : Int} (hj : j = (m : Int)) (ha : a < 2 ^ m) (hm : m + 8 ≤ 32) : bits .or .u32 (a : Int) (IntKind.u32.wrap ((IntKind.u32.wrap (b.toNat : Int)) * 2 ^ min j.toNat (IntKind.bits .u32))) = ((a + b.toNat * 2 ^ m : Nat) : Int) := by
  have hb := b.toNat_lt
  have h1 : b.toNat * 2 ^ m < 2 ^ (8 + m) := by rw [Nat.pow_add]; exact Nat.mul_lt_mul_of_pos_right hb (Nat.pow_pos (by omega))
  have h2 : (2 : Nat) ^ (8 + m) ≤ 2 ^ 32 := Nat.pow_le_pow_right (by omega) (by omega)
  have h3 : (2 : Nat) ^ m ≤ 2 ^ 32 := Nat.pow_le_pow_right (by omega) (by omega)
  rw [u32i (x := b.toNat) (by omega), shl_nat (m := m) (k := .u32) hj (show m ≤ 32 by omega), u32i (by omega)]
  have := u32_or_nat a (b.toNat * 2 ^ m) (by omega) (by omega)
  rw [this, Nat.mul_comm b.toNat, Nat.or_comm, ← Nat.two_pow_add_eq_or_of_lt ha, Nat.add_comm]
theorem be32_ok (fu : Nat) (b0 b1 b2 b3 : UInt8) : f__binary_bigEndian__Uint32 fu () [b0, b1, b2, b3] = some ((beNat [b0, b1, b2, b3] : Nat) : Int) := by
  have g0 := b0.toNat_lt
  have g1 := b1.toNat_lt
  have g2 := b2.toNat_lt
  have g3 := b3.toNat_lt
  unfold f__binary_bigEndian__Uint32
  rw [show at? [b0, b1, b2, b3] (3 : Int) = some b3 from rfl, opt_of, opt_of, show at? [b0, b1, b2, b3] (2 : Int) = some b2 from rfl, opt_of, show at? [b0, b1, b2, b3] (1 : Int) = some b1 from rfl, opt_of, show at? [b0, b1, b2, b3] (0 : Int) = some b0 from rfl, opt_of]
  rw [u32i (x := b3.toNat) (by omega), orb (j := 8) (m := 8) rfl (by omega) (by omega), orb (j := 16) (m := 16) rfl (by omega) (by omega), orb (j := 24) (m := 24) rfl (by omega) (by omega)]
  congr 2
  simp only [beNat, beFrom]
  omega
def ma (id : A8u8) : Nat := beNat [id.e0, id.e1, id.e2, id.e3]
def mb (id : A8u8) : Nat := beNat [id.e4, id.e5, id.e6, id.e7]
def mk_ (id : A8u8) (i : Nat) : Nat := (ma id + i * mb id) % 1024
theorem p4 : 256 ^ 4 = 4294967296 := by decide
theorem ma_lt (id : A8u8) : ma id < 4294967296 := by
  have h : beNat [id.e0, id.e1, id.e2, id.e3] < 256 ^ 4 := beNat_lt [id.e0, id.e1, id.e2, id.e3]
  rw [p4] at h; exact h
theorem mb_lt (id : A8u8) : mb id < 4294967296 := by
  have h : beNat [id.e4, id.e5, id.e6, id.e7] < 256 ^ 4 := beNat_lt [id.e4, id.e5, id.e6, id.e7]
  rw [p4] at h; exact h
theorem mk_lt (id : A8u8) (i : Nat) : mk_ id i < 1024 := Nat.mod_lt _ (by omega)
theorem mark_ok (id : A8u8) (i : Nat) (hi : i < 4) (fu : Nat) (hf : 10 ≤ fu) : f_lumref_Mark fu id (i : Int) = some ((mk_ id i : Nat) : Int) := by
  unfold f_lumref_Mark
  have e1 : f_lumref_number fu ((lA8u8 id).take ((4 : Int)).toNat) = some ((ma id : Nat) : Int) := number_ok 4 [id.e0, id.e1, id.e2, id.e3] fu rfl (by omega) (by omega)
  have e2 : f_lumref_number fu ((lA8u8 id).drop ((4 : Int)).toNat) = some ((mb id : Nat) : Int) := number_ok 4 [id.e4, id.e5, id.e6, id.e7] fu rfl (by omega) (by omega)
  have ha := ma_lt id
  have hb := mb_lt id
  have hm : i * mb id < 17179869184 := by
    have := Nat.mul_le_mul (show i ≤ 3 by omega) (Nat.le_of_lt hb)
    omega
  rw [e1, opt_of, e2, opt_of, uw (n := i) (by omega), ← Int.natCast_mul, uw (n := i * mb id) (by omega), ← Int.natCast_add, uw (n := ma id + i * mb id) (by omega)]
  rw [show (((ma id + i * mb id : Nat) : Int)).tmod (1024 : Int) = ((mk_ id i : Nat) : Int) from rfl, iw]
  have := mk_lt id i
  omega
theorem pos_one (id : A8u8) (i : Nat) (hi : i < 4) : ((IntKind.u32.wrap (((ma id : Nat) : Int) + (IntKind.u32.wrap ((IntKind.u32.wrap (i : Int)) * ((mb id : Nat) : Int)))))).tmod (1024 : Int) = ((mk_ id i : Nat) : Int) := by
  rw [u32i (x := i) (by omega), ← Int.natCast_mul, u32w, ← Int.natCast_add, u32w]
  show (((ma id + i * mb id % 4294967296) % 4294967296 % 1024 : Nat) : Int) = _
  unfold mk_
  generalize i * mb id = z
  omega
theorem positions_ok (id : A8u8) (fu : Nat) (hf : 10 ≤ fu) : f_bloom_positions fu id = some (A4u32.mk (mk_ id 0 : Nat) (mk_ id 1 : Nat) (mk_ id 2 : Nat) (mk_ id 3 : Nat)) := by
  unfold f_bloom_positions
  have e1 : f__binary_bigEndian__Uint32 fu () ((lA8u8 id).take ((4 : Int)).toNat) = some ((ma id : Nat) : Int) := be32_ok fu id.e0 id.e1 id.e2 id.e3
  have e2 : f__binary_bigEndian__Uint32 fu () ((lA8u8 id).drop ((4 : Int)).toNat) = some ((mb id : Nat) : Int) := be32_ok fu id.e4 id.e5 id.e6 id.e7
  rw [e1, opt_of, e2, opt_of, lt_of]
  obtain ⟨k, rfl⟩ : ∃ k, fu = k + 5 := ⟨fu - 5, by omega⟩
  have p0 := pos_one id 0 (by omega)
  have p1 := pos_one id 1 (by omega)
  have p2 := pos_one id 2 (by omega)
  have p3 := pos_one id 3 (by omega)
  have s (n : Nat) (hn : n < 10) : IntKind.i64.wrap ((n : Int) + 1) = ((n + 1 : Nat) : Int) := wsucc (by omega)
  have st : ∀ (A : A4u32) (n : Nat) (kk : A4u32 → Option A4u32) (q : Nat), n < 4 → f_bloom_positions_L14 ((ma id : Nat) : Int) ((mb id : Nat) : Int) kk (q + 1) A (n : Int) = f_bloom_positions_L14 ((ma id : Nat) : Int) ((mb id : Nat) : Int) kk q (setA4u32 A (n : Int) ((mk_ id n : Nat) : Int)) ((n + 1 : Nat) : Int) := by
    intro A n kk q hn
    rw [f_bloom_positions_L14, cond_tt (dlt (by omega)), pos_one id n hn, wsucc (by omega)]
    have : ∃ u, at? (lA4u32 A) (n : Int) = some u := by
      rw [at_lt (show n < (lA4u32 A).length from hn)]; exact ⟨_, rfl⟩
    obtain ⟨u, hu⟩ := this
    rw [hu, opt_of]
  show f_bloom_positions_L14 _ _ _ (k + 4 + 1) _ ((0 : Nat) : Int) = _
  rw [st _ 0 _ (k + 4) (by omega), st _ 1 _ (k + 3) (by omega), st _ 2 _ (k + 2) (by omega), st _ 3 _ (k + 1) (by omega), f_bloom_positions_L14, cond_ff (by rfl)]
  rfl
def ms (id : A8u8) (k : Nat) : Bool := decide (k = mk_ id 0) || (decide (k = mk_ id 1) || (decide (k = mk_ id 2) || decide (k = mk_ id 3)))
theorem l4 (id : A8u8) {n : Nat} (hn : n < 4) : at? (lA4u32 (A4u32.mk (mk_ id 0 : Nat) (mk_ id 1 : Nat) (mk_ id 2 : Nat) (mk_ id 3 : Nat))) (n : Int) = some ((mk_ id n : Nat) : Int) := by
  match n, hn with
  | 0, _ => rfl
  | 1, _ => rfl
  | 2, _ => rfl
  | 3, _ => rfl
theorem add_step (id : A8u8) (kk : A16u64 → Option A16u64) {x : A16u64} {l : List Nat} (h : Rep x l) (n k : Nat) (hn : n < 4) : ∃ x' l', Rep x' l' ∧ (∀ j, B l' j = (B l j || decide (j = mk_ id n))) ∧
    f_bloom_Add_L10 kk (A4u32.mk (mk_ id 0 : Nat) (mk_ id 1 : Nat) (mk_ id 2 : Nat) (mk_ id 3 : Nat)) (k + 1) x (n : Int) = f_bloom_Add_L10 kk (A4u32.mk (mk_ id 0 : Nat) (mk_ id 1 : Nat) (mk_ id 2 : Nat) (mk_ id 3 : Nat)) k x' ((n + 1 : Nat) : Int) := by
  have hp := mk_lt id n
  have hlt := h.lt (mk_ id n / 64)
  have h64 : 2 ^ (mk_ id n % 64) < 18446744073709551616 := by
    have : (2 : Nat) ^ (mk_ id n % 64) ≤ 2 ^ 63 := Nat.pow_le_pow_right (by omega) (by omega)
    omega
  rw [f_bloom_Add_L10, cond_tt (dlt (by omega)), l4 id hn, opt_of]
  rw [show (((mk_ id n : Nat) : Int)).tdiv (64 : Int) = ((mk_ id n / 64 : Nat) : Int) from rfl, u32i (x := mk_ id n / 64) (by omega), h.at (by omega), opt_of, show (((mk_ id n : Nat) : Int)).tmod (64 : Int) = ((mk_ id n % 64 : Nat) : Int) from rfl, req_pos (by omega), opt_of, wsucc (by omega)]
  have e : IntKind.u64.wrap ((1 : Int) * 2 ^ min (((mk_ id n % 64 : Nat) : Int)).toNat (IntKind.bits .u64)) = ((2 ^ (mk_ id n % 64) : Nat) : Int) := by
    have := shl_nat (x := 1) (m := mk_ id n % 64) (j := ((mk_ id n % 64 : Nat) : Int)) (k := .u64) rfl (show mk_ id n % 64 ≤ 64 by omega)
    rw [Nat.one_mul] at this
    rw [show (1 : Int) * 2 ^ min (((mk_ id n % 64 : Nat) : Int)).toNat (IntKind.bits .u64) = ((2 ^ (mk_ id n % 64) : Nat) : Int) from this, uw h64]
  rw [e, u64_or_nat _ _ hlt h64]
  refine ⟨_, _, h.set (j := mk_ id n / 64) (by omega) ?_, fun j => B_set l (mk_ id n) j (by rw [h.2.1]; omega), rfl⟩
  exact Nat.or_lt_two_pow (n := 64) hlt h64
theorem add_ok (id : A8u8) {x : A16u64} {l : List Nat} (h : Rep x l) (fu : Nat) (hf : 10 ≤ fu) : ∃ x' l', Rep x' l' ∧ (∀ j, B l' j = (B l j || ms id j)) ∧ f_bloom_Add fu x id = some x' := by
  unfold f_bloom_Add
  rw [lt_of, positions_ok id fu hf, opt_of]
  obtain ⟨k, rfl⟩ : ∃ k, fu = k + 5 := ⟨fu - 5, by omega⟩
  obtain ⟨x1, l1, r1, b1, e1⟩ := add_step id (fun j => some j) h 0 (k + 4) (by omega)
  obtain ⟨x2, l2, r2, b2, e2⟩ := add_step id (fun j => some j) r1 1 (k + 3) (by omega)
  obtain ⟨x3, l3, r3, b3, e3⟩ := add_step id (fun j => some j) r2 2 (k + 2) (by omega)
  obtain ⟨x4, l4, r4, b4, e4⟩ := add_step id (fun j => some j) r3 3 (k + 1) (by omega)
  refine ⟨x4, l4, r4, fun j => ?_, ?_⟩
  · rw [b4, b3, b2, b1]; unfold ms; simp only [Bool.or_assoc]
  · refine Eq.trans e1 (e2.trans (e3.trans (e4.trans ?_)))
    rw [f_bloom_Add_L10, cond_ff (by rfl)]
/-! unions -/
theorem or_lt {a b : Nat} (h1 : a < 18446744073709551616) (h2 : b < 18446744073709551616) : a ||| b < 18446744073709551616 := Nat.or_lt_two_pow (n := 64) h1 h2
theorem join_go (kk : A16u64 → Option A16u64) {u : A16u64} {lu : List Nat} (hu : Rep u lu) : ∀ (n i k : Nat) (x : A16u64) (l : List Nat), Rep x l → i + n = 16 → n < k → ∃ x' l', Rep x' l' ∧ (∀ j, j < 16 → l'.getD j 0 = if i ≤ j then l.getD j 0 ||| lu.getD j 0 else l.getD j 0) ∧
    f_bloom_Join_L18 kk u k x (i : Int) = kk x'
  | _, _, 0, _, _, _, _, hk => absurd hk (Nat.not_lt_zero _)
  | 0, i, k + 1, x, l, h, hi, _ => ⟨x, l, h, fun j hj => by rw [if_neg (by omega)], by rw [f_bloom_Join_L18, cond_ff (dge (by omega))]⟩
  | n + 1, i, k + 1, x, l, h, hi, hk => by
    have h1 := h.lt i
    have h2 := hu.lt i
    rw [f_bloom_Join_L18, cond_tt (dlt (by omega)), hu.at (by omega), opt_of, h.at (by omega), opt_of, opt_of, u64_or_nat _ _ h1 h2, wsucc (by omega)]
    have hor := or_lt h1 h2
    obtain ⟨x', l', r, e, f⟩ := join_go kk hu n (i + 1) k _ _ (h.set (j := i) (by omega) hor) (by omega) (by omega)
    refine ⟨x', l', r, fun j hj => ?_, f⟩
    rw [e j hj]
    have hl : j < l.length := by rw [h.2.1]; exact hj
    by_cases hij : i = j
    · subst hij
      rw [if_neg (by omega), if_pos (Nat.le_refl _), List.getD_eq_getElem?_getD, List.getElem?_set_self hl]
      rfl
    · rw [List.getD_eq_getElem?_getD, List.getElem?_set_ne hij, ← List.getD_eq_getElem?_getD]
      by_cases h3 : i ≤ j
      · rw [if_pos h3, if_pos (by omega)]
      · rw [if_neg h3, if_neg (by omega)]
theorem join_B {l l' lu : List Nat} (e : ∀ j, j < 16 → l'.getD j 0 = if 0 ≤ j then l.getD j 0 ||| lu.getD j 0 else l.getD j 0) {k : Nat} (hk : k < 1024) : B l' k = (B l k || B lu k) := by
  unfold B
  rw [e (k / 64) (by omega), if_pos (Nat.zero_le _), Nat.testBit_or]
theorem zero_B (k : Nat) : B (List.replicate 16 0) k = false := by
  unfold B
  have : (List.replicate 16 0).getD (k / 64) 0 = 0 := by
    rw [List.getD_eq_getElem?_getD, List.getElem?_replicate]
    split <;> rfl
  rw [this, Nat.zero_testBit]
theorem join_ok {x y : A16u64} {l m : List Nat} (hx : Rep x l) (hy : Rep y m) (fu : Nat) (hf : 30 ≤ fu) : ∃ z n, Rep z n ∧ (∀ k, k < 1024 → B n k = (B l k || B m k)) ∧ f_bloom_Join fu [x, y] = some z := by
  unfold f_bloom_Join
  rw [lt_of]
  obtain ⟨k, rfl⟩ : ∃ k, fu = k + 3 := ⟨fu - 3, by omega⟩
  obtain ⟨x1, l1, r1, e1, f1⟩ := join_go (fun z => f_bloom_Join_L7 [x, y] (fun j => some j) (k + 3) (k + 2) z ((0 + 1 : Nat) : Int)) hx 16 0 (k + 3) zero16 _ rep_zero (by omega) (by omega)
  obtain ⟨x2, l2, r2, e2, f2⟩ := join_go (fun z => f_bloom_Join_L7 [x, y] (fun j => some j) (k + 3) (k + 1) z ((1 + 1 : Nat) : Int)) hy 16 0 (k + 3) x1 _ r1 (by omega) (by omega)
  refine ⟨x2, l2, r2, fun j hj => ?_, ?_⟩
  · rw [join_B e2 hj, join_B e1 hj, zero_B, Bool.false_or]
  · have g1 : f_bloom_Join_L7 [x, y] (fun j => some j) (k + 3) (k + 2 + 1) zero16 ((0 : Nat) : Int) = f_bloom_Join_L7 [x, y] (fun j => some j) (k + 3) (k + 2) x1 ((0 + 1 : Nat) : Int) := by
      rw [f_bloom_Join_L7, lt_of]
      dsimp only
      rw [cond_tt (by rfl), lt_of, show at? [x, y] ((0 : Nat) : Int) = some x from rfl, opt_of]
      exact f1
    have g2 : f_bloom_Join_L7 [x, y] (fun j => some j) (k + 3) (k + 1 + 1) x1 ((0 + 1 : Nat) : Int) = f_bloom_Join_L7 [x, y] (fun j => some j) (k + 3) (k + 1) x2 ((1 + 1 : Nat) : Int) := by
      rw [f_bloom_Join_L7, lt_of]
      dsimp only
      rw [cond_tt (by rfl), lt_of, show at? [x, y] ((0 + 1 : Nat) : Int) = some y from rfl, opt_of]
      exact f2
    refine Eq.trans g1 (g2.trans ?_)
    rw [f_bloom_Join_L7, lt_of]
    dsimp only
    rw [cond_ff (by rfl)]
theorem join0 (fu : Nat) (hf : 1 ≤ fu) : f_bloom_Join fu ([] : List A16u64) = some zero16 := by
  obtain ⟨k, rfl⟩ : ∃ k, fu = k + 1 := ⟨fu - 1, by omega⟩
  unfold f_bloom_Join
  rw [lt_of, f_bloom_Join_L7, lt_of]
  dsimp only
  rw [cond_ff (by rfl)]
  rfl
/-! is it there -/
theorem has_step (id : A8u8) {x : A16u64} {l : List Nat} (h : Rep x l) (kk : Unit → Option Bool) (n k : Nat) (hn : n < 4) : f_bloom_Has_L9 x kk (A4u32.mk (mk_ id 0 : Nat) (mk_ id 1 : Nat) (mk_ id 2 : Nat) (mk_ id 3 : Nat)) (k + 1) (n : Int) =
    bif B l (mk_ id n) then f_bloom_Has_L9 x kk (A4u32.mk (mk_ id 0 : Nat) (mk_ id 1 : Nat) (mk_ id 2 : Nat) (mk_ id 3 : Nat)) k ((n + 1 : Nat) : Int) else some false := by
  have hp := mk_lt id n
  rw [f_bloom_Has_L9, cond_tt (dlt (by omega)), l4 id hn, opt_of, show (((mk_ id n : Nat) : Int)).tdiv (64 : Int) = ((mk_ id n / 64 : Nat) : Int) from rfl, u32i (x := mk_ id n / 64) (by omega), h.at (by omega), opt_of, show (((mk_ id n : Nat) : Int)).tmod (64 : Int) = ((mk_ id n % 64 : Nat) : Int) from rfl, req_pos (by omega), (tst _ (mk_ id n % 64) (h.lt _) (by omega)).2, wsucc (by omega)]
  show (bif (!B l (mk_ id n)) then _ else _) = _
  cases B l (mk_ id n) <;> rfl
theorem has_ok (id : A8u8) {x : A16u64} {l : List Nat} (h : Rep x l) (fu : Nat) (hf : 10 ≤ fu) : f_bloom_Has fu x id = some (B l (mk_ id 0) && (B l (mk_ id 1) && (B l (mk_ id 2) && B l (mk_ id 3)))) := by
  unfold f_bloom_Has
  rw [lt_of, positions_ok id fu hf, opt_of]
  obtain ⟨k, rfl⟩ : ∃ k, fu = k + 5 := ⟨fu - 5, by omega⟩
  have e0 := has_step id h (fun _ => some true) 0 (k + 4) (by omega)
  have e1 := has_step id h (fun _ => some true) 1 (k + 3) (by omega)
  have e2 := has_step id h (fun _ => some true) 2 (k + 2) (by omega)
  have e3 := has_step id h (fun _ => some true) 3 (k + 1) (by omega)
  refine Eq.trans e0 ?_
  cases B l (mk_ id 0)
  · rfl
  refine Eq.trans e1 ?_
  cases B l (mk_ id 1)
  · rfl
  refine Eq.trans e2 ?_
  cases B l (mk_ id 2)
  · rfl
  refine Eq.trans e3 ?_
  cases B l (mk_ id 3)
  · rfl
  rw [cond_tt rfl, f_bloom_Has_L9, cond_ff (by rfl)]
  rfl
theorem all_eq (id : A8u8) (l : List Nat) : al (ms id) l 1024 = (B l (mk_ id 0) && (B l (mk_ id 1) && (B l (mk_ id 2) && B l (mk_ id 3)))) := by
  rw [Bool.eq_iff_iff, al_iff]
  simp only [Bool.and_eq_true]
  constructor
  · intro h
    refine ⟨h _ (mk_lt id 0) ?_, h _ (mk_lt id 1) ?_, h _ (mk_lt id 2) ?_, h _ (mk_lt id 3) ?_⟩ <;> simp [ms]
  · rintro ⟨h0, h1, h2, h3⟩ j _ hj
    simp only [ms, Bool.or_eq_true, decide_eq_true_eq] at hj
    rcases hj with rfl | rfl | rfl | rfl
    · exact h0
    · exact h1
    · exact h2
    · exact h3
end Go.Proofs.Ytjbgahmcobcojaa.PBloomSays
