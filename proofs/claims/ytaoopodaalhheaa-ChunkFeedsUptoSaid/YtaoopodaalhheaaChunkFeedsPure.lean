/- Pieces by contents: the code and the reference cut alike. No condition. -/
import Derived.Test.YtaoopodaalhheaaWChunkFeeds
import Derived.Test.YtaoopodaalhheaaPlBits
import Derived.Test.YtaoopodaalhheaaRollMath2
namespace Go.Proofs.Ytaoopodaalhheaa.PChunkFeeds
open Go.RowKit Ytaoopodaalhheaa.En Ytaoopodaalhheaa Roll
set_option linter.unusedVariables false
set_option linter.unusedSimpArgs false
theorem u64w {x : Nat} (h : x < 18446744073709551616) : IntKind.u64.wrap (x : Int) = (x : Int) := IntWalk.u64_in _ (by omega)
theorem u32w (x : Nat) : IntKind.u32.wrap (x : Int) = ((x % 4294967296 : Nat) : Int) := by
  unfold IntKind.wrap
  simp [IntKind.signed, IntKind.bits]
theorem u32wi {x : Nat} (h : x < 4294967296) : IntKind.u32.wrap (x : Int) = (x : Int) := by rw [u32w, Nat.mod_eq_of_lt h]
theorem u64x {a b : Nat} (ha : a < 18446744073709551616) (hb : b < 18446744073709551616) : bits .xor .u64 (a : Int) (b : Int) = ((a ^^^ b : Nat) : Int) := u64_xor_nat a b ha hb
theorem u32x {a b : Nat} (ha : a < 4294967296) (hb : b < 4294967296) : bits .xor .u32 (a : Int) (b : Int) = ((a ^^^ b : Nat) : Int) := u32_xor_nat a b ha hb
theorem roll_reduce_loop (n : Nat) (hn : n < 18446744073709551616) (kk : Int → Option Int) : ∀ (fuel k : Nat), k ≤ 33 → 33 - k < fuel → f_roll_reduce_L5 kk fuel (redTo n k : Nat) ((63 - k : Nat) : Int) = kk (redTo n 33 : Nat)
  | 0, k, _, hf => absurd hf (Nat.not_lt_zero _)
  | fuel + 1, k, hk, hf => by
    rw [f_roll_reduce_L5]
    have hb := redTo_lt n k hn
    by_cases hlt : k < 33
    · have hs : redTo n (k + 1) = redStep (redTo n k) (63 - k) := rfl
      have ih := roll_reduce_loop n hn kk fuel (k + 1) (by omega) (by omega)
      rw [hs] at ih
      obtain ⟨m, hm⟩ : ∃ m, m = redTo n k := ⟨_, rfl⟩
      rw [← hm] at hb ih ⊢
      have hx := poly_lt (63 - k) (by omega)
      have hj : IntKind.i64.wrap (((63 - k : Nat) : Int) - 1) = ((63 - (k + 1) : Nat) : Int) := by rw [w64 (by omega) (by omega)]; omega
      have hj2 : IntKind.i64.wrap (((63 - k : Nat) : Int) - 31) = ((63 - k - 31 : Nat) : Int) := by rw [w64 (by omega) (by omega)]; omega
      rw [cond_tt (decide_eq_true (by omega)), lt_of, req_pos (by omega), hj, hj2]
      rw [shr_nat (m := 63 - k) (k := .u64) rfl (show 63 - k ≤ 64 by omega)]
      rw [show bits .and .u64 ((m / 2 ^ (63 - k) : Nat) : Int) 1 = ((m / 2 ^ (63 - k) % 2 : Nat) : Int) by rw [← shr_cast, u64_bit m _ hb]]
      rw [show ((2147483657 : Int) * 2 ^ min (((63 - k - 31 : Nat) : Int)).toNat (IntKind.bits .u64)) = ((2147483657 * 2 ^ (63 - k - 31) : Nat) : Int) from shl_nat (x := 2147483657) (m := 63 - k - 31) (k := .u64) rfl (show 63 - k - 31 ≤ 64 by omega), u64w hx]
      by_cases hc : m / 2 ^ (63 - k) % 2 = 1
      · rw [hc, cond_tt (by rfl), req_pos (by omega), u64x hb hx]
        unfold redStep at ih
        rw [if_pos hc] at ih
        exact ih
      · rw [show m / 2 ^ (63 - k) % 2 = 0 by omega, cond_ff (by rfl)]
        unfold redStep at ih
        rw [if_neg hc] at ih
        exact ih
    · obtain rfl : k = 33 := by omega
      rw [cond_ff (decide_eq_false (by omega))]
theorem roll_reduce_ok (n : Nat) (hn : n < 18446744073709551616) (fu : Nat) (hf : 34 ≤ fu) : f_roll_reduce fu (n : Int) = some ((red n : Nat) : Int) := by
  unfold f_roll_reduce
  rw [lt_of]
  have := roll_reduce_loop n hn (fun j => some (IntKind.u32.wrap j)) fu 0 (by omega) (by omega)
  rw [show redTo n 0 = n from rfl] at this
  rw [show ((63 : Int)) = ((63 - 0 : Nat) : Int) from rfl, this, u32w]; rfl
theorem lumref_rest_loop (n : Nat) (hn : n < 18446744073709551616) (kk : Int → Option Int) : ∀ (fuel k : Nat), k ≤ 33 → 33 - k < fuel → f_lumref_rest_L5 kk fuel (redTo n k : Nat) ((63 - k : Nat) : Int) = kk (redTo n 33 : Nat)
  | 0, k, _, hf => absurd hf (Nat.not_lt_zero _)
  | fuel + 1, k, hk, hf => by
    rw [f_lumref_rest_L5]
    have hb := redTo_lt n k hn
    by_cases hlt : k < 33
    · have hs : redTo n (k + 1) = redStep (redTo n k) (63 - k) := rfl
      have ih := lumref_rest_loop n hn kk fuel (k + 1) (by omega) (by omega)
      rw [hs] at ih
      obtain ⟨m, hm⟩ : ∃ m, m = redTo n k := ⟨_, rfl⟩
      rw [← hm] at hb ih ⊢
      have hx := poly_lt (63 - k) (by omega)
      have hj : IntKind.i64.wrap (((63 - k : Nat) : Int) - 1) = ((63 - (k + 1) : Nat) : Int) := by rw [w64 (by omega) (by omega)]; omega
      have hj2 : IntKind.i64.wrap (((63 - k : Nat) : Int) - 31) = ((63 - k - 31 : Nat) : Int) := by rw [w64 (by omega) (by omega)]; omega
      rw [cond_tt (decide_eq_true (by omega)), lt_of, req_pos (by omega), hj, hj2]
      rw [shr_nat (m := 63 - k) (k := .u64) rfl (show 63 - k ≤ 64 by omega)]
      rw [show bits .and .u64 ((m / 2 ^ (63 - k) : Nat) : Int) 1 = ((m / 2 ^ (63 - k) % 2 : Nat) : Int) by rw [← shr_cast, u64_bit m _ hb]]
      rw [show ((2147483657 : Int) * 2 ^ min (((63 - k - 31 : Nat) : Int)).toNat (IntKind.bits .u64)) = ((2147483657 * 2 ^ (63 - k - 31) : Nat) : Int) from shl_nat (x := 2147483657) (m := 63 - k - 31) (k := .u64) rfl (show 63 - k - 31 ≤ 64 by omega), u64w hx]
      by_cases hc : m / 2 ^ (63 - k) % 2 = 1
      · rw [hc, cond_tt (by rfl), req_pos (by omega), u64x hb hx]
        unfold redStep at ih
        rw [if_pos hc] at ih
        exact ih
      · rw [show m / 2 ^ (63 - k) % 2 = 0 by omega, cond_ff (by rfl)]
        unfold redStep at ih
        rw [if_neg hc] at ih
        exact ih
    · obtain rfl : k = 33 := by omega
      rw [cond_ff (decide_eq_false (by omega))]
theorem lumref_rest_ok (n : Nat) (hn : n < 18446744073709551616) (fu : Nat) (hf : 34 ≤ fu) : f_lumref_rest fu (n : Int) = some ((red n : Nat) : Int) := by
  unfold f_lumref_rest
  rw [lt_of]
  have := lumref_rest_loop n hn (fun j => some (IntKind.u32.wrap j)) fu 0 (by omega) (by omega)
  rw [show redTo n 0 = n from rfl] at this
  rw [show ((63 : Int)) = ((63 - 0 : Nat) : Int) from rfl, this, u32w]; rfl
theorem shl8 {n : Nat} (h : n < 4294967296) : IntKind.u64.wrap ((IntKind.u64.wrap (n : Int)) * 2 ^ min ((8 : Int)).toNat (IntKind.bits .u64)) = ((n * 256 : Nat) : Int) := by
  rw [u64w (by omega), shl_nat (x := n) (m := 8) (j := 8) rfl (by decide), u64w (by omega)]
theorem shift_ok (n : Nat) (hn : n < 4294967296) (fu : Nat) (hf : 34 ≤ fu) : f_roll_shift fu (n : Int) = some ((shift n : Nat) : Int) := by
  unfold f_roll_shift
  rw [shl8 hn, roll_reduce_ok _ (by omega) fu hf, opt_of]; rfl
theorem last_loop (b : Nat) (hb : b < 256) (fu : Nat) (hfu : 34 ≤ fu) (kk : Int → Option Int) : ∀ (fuel k : Nat), k ≤ 15 → 15 - k < fuel → f_roll_last_L5 kk fu fuel (lastTo b k : Nat) (k : Int) = kk (lastTo b 15 : Nat)
  | 0, k, _, hf => absurd hf (Nat.not_lt_zero _)
  | fuel + 1, k, hk, hf => by
    rw [f_roll_last_L5]
    by_cases hlt : k < 15
    · rw [cond_tt (dlt (by omega)), shift_ok _ (lastTo_lt b k hb) fu hfu, opt_of, wsucc (by omega)]
      exact last_loop b hb fu hfu kk fuel (k + 1) (by omega) (by omega)
    · obtain rfl : k = 15 := by omega
      rw [cond_ff (dge (by omega))]
theorem last_ok (b : Nat) (hb : b < 256) (fu : Nat) (hf : 34 ≤ fu) : f_roll_last fu (b : Int) = some ((lastTo b 15 : Nat) : Int) := by
  unfold f_roll_last
  rw [lt_of, u32wi (by omega)]
  exact last_loop b hb fu hf _ fu 0 (by omega) (by omega)
theorem top_bit (sum : Nat) (h : sum < 2147483648) : bits BinOp.and IntKind.u32 (sum : Int) 2147483648 = 0 := by
  have := u32_and_nat sum 2147483648 (by omega) (by omega)
  have e : sum &&& 2147483648 = 0 := by
    apply Nat.eq_of_testBit_eq
    intro i
    rw [Nat.testBit_and, Nat.zero_testBit, show (2147483648 : Nat) = 2 ^ 31 from rfl, Nat.testBit_two_pow]
    by_cases hi : 31 = i
    · subst hi; simp [Nat.testBit_lt_two_pow (show sum < 2 ^ 31 from h)]
    · simp [hi]
  rw [e] at this; exact this
/-- the state of a sum behind k bytes of s -/
structure RS (s : List UInt8) (k : Nat) (w : A16u8) (a m : Int) : Prop where
  win : lA16u8 w = ring s k
  at_ : a = ((k % 16 : Nat) : Int)
  sum : m = ((sumOf (Roll.win s k) : Nat) : Int)
theorem bAt_eq (s : List UInt8) (k : Nat) (hk : k < s.length) : En.bAt s (k : Int) = (s[k].toNat : Int) := by
  unfold En.bAt; rw [Int.toNat_natCast, List.getD_eq_getElem?_getD, List.getElem?_eq_getElem hk]; rfl
theorem push_ok (s : List UInt8) (k : Nat) (hk : k < s.length) {w : A16u8} {a m : Int} (h : RS s k w a m) (fu : Nat) (hf : 34 ≤ fu) : ∃ r, f_roll_Push fu ⟨w, a, m⟩ (En.bAt s (k : Int)) = some (r, 0) ∧ RS s (k + 1) r.Win r.At r.Sum := by
  obtain ⟨hw, rfl, rfl⟩ := h
  obtain ⟨g, hg, hsum⟩ := sum_step s k hk
  have hl := sumOf_lt31 (Roll.win s k)
  have h16 : k % 16 < 16 := Nat.mod_lt _ (by omega)
  have hgl := g.toNat_lt
  have hxl := s[k].toNat_lt
  have hlast := lastTo_lt g.toNat 15 hgl
  have hat : at? (lA16u8 w) ((k % 16 : Nat) : Int) = some g := by rw [at_nat, hw, hg]
  rw [bAt_eq s k hk]
  unfold f_roll_Push
  rw [lt_of, lt_of]
  dsimp only
  rw [cond_ff (decide_eq_false (by omega)), cond_ff (decide_eq_false (by omega)), top_bit _ hl, cond_ff (by rfl), hat, opt_of]
  have hxs : (sumOf (Roll.win s k) ^^^ lastTo g.toNat 15) < 4294967296 := xor_lt32 (by omega) hlast
  have key : ∀ q : Nat, q = sumOf (Roll.win s k) ^^^ lastTo g.toNat 15 → ∃ r, (opt (f_roll_shift fu (q : Int)) fun (r9 : Int) => (opt (some g) fun (u10 : UInt8) => (req (0 ≤ (s[k].toNat : Int) ∧ (s[k].toNat : Int) ≤ 255) (some ((S_api_Roll.mk (setA16u8 w ((k % 16 : Nat) : Int) (UInt8.ofNat ((s[k].toNat : Int)).toNat)) (((IntKind.i64.wrap (((k % 16 : Nat) : Int) + (1 : Int)))).tmod (16 : Int)) (bits .xor .u32 r9 (IntKind.u32.wrap (s[k].toNat : Int)))), (0 : Int)))))) = some (r, 0) ∧ RS s (k + 1) r.Win r.At r.Sum := by
    intro q hq
    have hql : q < 4294967296 := by rw [hq]; exact hxs
    have hsl := shift_lt q
    rw [shift_ok q hql fu hf, opt_of, opt_of, req_pos (by omega), u32wi (x := s[k].toNat) (by omega), u32x hsl (by omega)]
    refine ⟨_, rfl, ?_, ?_, ?_⟩
    · show lA16u8 (setA16u8 w _ _) = _
      rw [lsetA16u8 (by omega) (by omega), hw, ring, Int.toNat_natCast, Int.toNat_natCast, UInt8.ofNat_toNat, List.getD_eq_getElem?_getD, List.getElem?_eq_getElem hk]; rfl
    · show (IntKind.i64.wrap (((k % 16 : Nat) : Int) + 1)).tmod 16 = _
      rw [w64 (by omega) (by omega), Int.tmod_eq_emod_of_nonneg (by omega)]; omega
    · show ((shift q ^^^ s[k].toNat : Nat) : Int) = _
      rw [hsum, hq]
  by_cases h0 : g.toNat = 0
  · rw [cond_ff (by simp [h0])]
    exact key _ (by rw [h0, lastTo_zero, Nat.xor_zero])
  · rw [cond_tt (by rw [bne_iff_ne]; omega), last_ok _ hgl fu hf, opt_of, u32x (by omega) hlast]
    exact key _ rfl
theorem RS.zero (s : List UInt8) : RS s 0 (A16u8.mk 0 0 0 0 0 0 0 0 0 0 0 0 0 0 0 0) 0 0 := ⟨rfl, rfl, by
  have : sumOf (Roll.win s 0) = 0 := by
    rw [win_sum s 0 (by omega), List.take_zero]; rfl
  rw [this]; rfl⟩
/-! where a piece ends -/
def ends (c : S_api_Cut) (p : List UInt8) : Bool := decide ((p.length : Int) = c.Max) || (decide (c.Min ≤ (p.length : Int)) && decide (sumOf (tl16 p) % 2 ^ c.Bits.toNat = 0))
def pr (c : S_api_Cut) : List UInt8 → List UInt8 → List (List UInt8) → List (List UInt8) × List UInt8
  | [], cur, out => (out, cur)
  | b :: r, cur, out => if ends c (cur ++ [b]) then pr c r [] (out ++ [cur ++ [b]]) else pr c r (cur ++ [b]) out
structure Good (c : S_api_Cut) : Prop where
  min : 16 ≤ c.Min
  max : c.Min ≤ c.Max ∧ c.Max ≤ 1024
  bits : 1 ≤ c.Bits ∧ c.Bits ≤ 12
theorem mask {b : Int} (h : 1 ≤ b ∧ b ≤ 12) : IntKind.u32.wrap ((1 : Int) * 2 ^ min b.toNat (IntKind.bits .u32)) = ((2 ^ b.toNat : Nat) : Int) ∧ 2 ^ b.toNat ≤ 4096 ∧ 0 < 2 ^ b.toNat := by
  have h1 : 2 ^ b.toNat ≤ 2 ^ 12 := Nat.pow_le_pow_right (by omega) (by omega)
  have h2 : (2 : Nat) ^ 12 = 4096 := rfl
  refine ⟨?_, by omega, Nat.two_pow_pos _⟩
  have e : ((1 : Int) * 2 ^ min b.toNat (IntKind.bits .u32)) = ((2 ^ b.toNat : Nat) : Int) := by
    have := shl_nat (x := 1) (m := b.toNat) (j := b) (k := .u32) (by omega) (show b.toNat ≤ 32 by omega)
    rw [Nat.one_mul] at this
    exact this
  rw [e, u32wi (by omega)]
theorem low_bits {x b : Nat} (hx : x < 4294967296) (hb : b ≤ 12) : bits .and .u32 (x : Int) ((2 ^ b - 1 : Nat) : Int) = ((x % 2 ^ b : Nat) : Int) := by
  have h1 : 2 ^ b ≤ 2 ^ 12 := Nat.pow_le_pow_right (by omega) hb
  have h2 : (2 : Nat) ^ 12 = 4096 := rfl
  have := u32_and_nat x (2 ^ b - 1) hx (by omega)
  rw [Nat.and_two_pow_sub_one_eq_mod] at this
  exact this
theorem take_snoc (s : List UInt8) (k : Nat) (hk : k < s.length) : s.take (k + 1) = s.take k ++ [s[k]] := by rw [List.take_add_one, List.getElem?_eq_getElem hk]; rfl
theorem end_loop (c : S_api_Cut) (hc : Good c) (s : List UInt8) (hs : s.length ≤ 4096) (fu : Nat) (hfu : 34 ≤ fu) : ∀ (fuel k : Nat) (w : A16u8) (a m : Int), k ≤ s.length → s.length - k < fuel → RS s k w a m →
    ∃ r : Nat, f_chunk_end_L7 c s (fun _ => some 0) fu fuel w a m (k : Int) = some (r : Int) ∧ r ≤ s.length ∧ ((r = 0 ∧ ∀ out, pr c (s.drop k) (s.take k) out = (out, s)) ∨ (0 < r ∧ ∀ out, pr c (s.drop k) (s.take k) out = pr c (s.drop r) [] (out ++ [s.take r])))
  | 0, k, _, _, _, _, hf, _ => absurd hf (Nat.not_lt_zero _)
  | fuel + 1, k, w, a, m, hk, hf, hrs => by
    rw [f_chunk_end_L7]
    by_cases hlt : k < s.length
    · obtain ⟨r, hr, hrs'⟩ := push_ok s k hlt hrs fu hfu
      rw [cond_tt (dlt (by omega)), req_pos (by omega), hr, opt_of, lt_of, wsucc (by omega)]
      dsimp only
      have hlen : (s.take (k + 1)).length = k + 1 := by rw [List.length_take]; omega
      have hpr : ∀ out, pr c (s.drop k) (s.take k) out = if ends c (s.take (k + 1)) then pr c (s.drop (k + 1)) [] (out ++ [s.take (k + 1)]) else pr c (s.drop (k + 1)) (s.take (k + 1)) out := fun out => by
        rw [List.drop_eq_getElem_cons hlt, pr, ← take_snoc s k hlt]
      have hsum : r.Sum = ((sumOf (tl16 (s.take (k + 1))) : Nat) : Int) := by rw [hrs'.sum, win_sum s (k + 1) (by omega)]
      have hgo : ∀ b : Bool, b = ends c (s.take (k + 1)) → ∃ r_1 : Nat, (bif b then some (((k + 1 : Nat) : Int)) else f_chunk_end_L7 c s (fun _ => some 0) fu fuel r.Win r.At r.Sum ((k + 1 : Nat) : Int)) = some (r_1 : Int) ∧ r_1 ≤ s.length ∧ ((r_1 = 0 ∧ ∀ out, pr c (s.drop k) (s.take k) out = (out, s)) ∨ (0 < r_1 ∧ ∀ out, pr c (s.drop k) (s.take k) out = pr c (s.drop r_1) [] (out ++ [s.take r_1]))) := by
        intro b hb
        cases hbb : b with
        | true =>
          rw [hbb] at hb
          exact ⟨k + 1, rfl, hlt, .inr ⟨by omega, fun out => by rw [hpr, if_pos hb.symm]⟩⟩
        | false =>
          rw [hbb] at hb
          obtain ⟨r', h1, h2, h3⟩ := end_loop c hc s hs fu hfu fuel (k + 1) _ _ _ hlt (by omega) hrs'
          refine ⟨r', h1, h2, ?_⟩
          rcases h3 with ⟨h3, h4⟩ | ⟨h3, h4⟩
          · exact .inl ⟨h3, fun out => by rw [hpr, if_neg (by rw [← hb]; simp)]; exact h4 out⟩
          · exact .inr ⟨h3, fun out => by rw [hpr, if_neg (by rw [← hb]; simp)]; exact h4 out⟩
      by_cases h1 : ((k + 1 : Nat) : Int) = c.Max
      · rw [cond_tt (by rw [h1]; simp)]
        exact hgo true (by unfold ends; rw [hlen, decide_eq_true h1]; rfl)
      · rw [cond_ff (by rw [beq_eq_false_iff_ne]; exact h1)]
        by_cases h2 : c.Min ≤ ((k + 1 : Nat) : Int)
        · have hm := mask hc.bits
          have hb12 : c.Bits.toNat ≤ 12 := by have := hc.bits; omega
          have hsl := sumOf_lt31 (tl16 (s.take (k + 1)))
          have hw1 : IntKind.u32.wrap ((2 ^ c.Bits.toNat : Nat) - 1 : Int) = ((2 ^ c.Bits.toNat - 1 : Nat) : Int) := by
            have : ((2 ^ c.Bits.toNat : Nat) - 1 : Int) = ((2 ^ c.Bits.toNat - 1 : Nat) : Int) := by
              have := hm.2.2
              omega
            rw [this, u32wi (by omega)]
          have hand : bits .and .u32 r.Sum ((2 ^ c.Bits.toNat - 1 : Nat) : Int) = ((sumOf (tl16 (s.take (k + 1))) % 2 ^ c.Bits.toNat : Nat) : Int) := by rw [hsum, low_bits (by omega) hb12]
          rw [cond_tt (decide_eq_true h2), req_pos (by have := hc.bits; omega), hm.1, hw1, hand]
          refine hgo _ ?_
          unfold ends
          rw [hlen, decide_eq_false h1, decide_eq_true h2, Bool.false_or, Bool.true_and]
          by_cases h3 : sumOf (tl16 (s.take (k + 1))) % 2 ^ c.Bits.toNat = 0
          · rw [h3]; rfl
          · rw [decide_eq_false h3, beq_eq_false_iff_ne]; omega
        · rw [cond_ff (decide_eq_false h2)]
          exact hgo false (by unfold ends; rw [hlen, decide_eq_false h1, decide_eq_false h2]; rfl)
    · rw [cond_ff (dge (by omega))]
      refine ⟨0, rfl, by omega, .inl ⟨rfl, fun out => ?_⟩⟩
      rw [List.drop_of_length_le (by omega), List.take_of_length_le (by omega)]; rfl
theorem end_ok (c : S_api_Cut) (hc : Good c) (s : List UInt8) (hs : s.length ≤ 4096) (fu : Nat) (hfu : 5000 ≤ fu) : ∃ r : Nat, f_chunk_end fu c s = some (r : Int) ∧ r ≤ s.length ∧ ((r = 0 ∧ ∀ out, pr c s [] out = (out, s)) ∨ (0 < r ∧ ∀ out, pr c s [] out = pr c (s.drop r) [] (out ++ [s.take r]))) := by
  unfold f_chunk_end
  rw [lt_of]
  have := end_loop c hc s hs fu (by omega) fu 0 _ _ _ (by omega) (by omega) (RS.zero s)
  rw [List.drop_zero, List.take_zero] at this
  exact this
theorem pieces_loop (c : S_api_Cut) (hc : Good c) (fu : Nat) (hfu : 5000 ≤ fu) : ∀ (fuel : Nat) (s : List UInt8) (out : List (List UInt8)), s.length < fuel → s.length + out.length ≤ 4096 →
    f_chunk_pieces_L4 c fu fuel s out = some (pr c s [] out)
  | 0, s, _, hf, _ => absurd hf (Nat.not_lt_zero _)
  | fuel + 1, s, out, hf, hl => by
    rw [f_chunk_pieces_L4]
    obtain ⟨r, h1, h2, h3⟩ := end_ok c hc s (by omega) fu hfu
    rw [h1, opt_of]
    rcases h3 with ⟨rfl, h3⟩ | ⟨h3, h4⟩
    · rw [cond_tt (by rfl), h3]
    · rw [cond_ff (by rw [beq_eq_false_iff_ne]; omega), req_pos (by omega), req_pos (by simp; omega), req_pos (by omega), Int.toNat_natCast, h4]
      exact pieces_loop c hc fu hfu fuel _ _ (by rw [List.length_drop]; omega) (by rw [List.length_drop, List.length_append]; simp; omega)
theorem pieces_ok (c : S_api_Cut) (hc : Good c) (s : List UInt8) (hs : s.length ≤ 4096) (fu : Nat) (hfu : 5000 ≤ fu) : f_chunk_pieces fu c s = some (pr c s [] []) := pieces_loop c hc fu hfu fu s [] (by omega) (by simpa using hs)
/-! the reference -/
theorem of_loop (l : List UInt8) (hl : l.length ≤ 16) (fu : Nat) (hfu : 34 ≤ fu) (kk : Int → Option Int) : ∀ (fuel k : Nat), k ≤ l.length → l.length - k < fuel → f_lumref_Of_L9 l kk fu fuel (sumOf (l.take k) : Nat) (k : Int) = kk (sumOf l : Nat)
  | 0, k, _, hf => absurd hf (Nat.not_lt_zero _)
  | fuel + 1, k, hk, hf => by
    rw [f_lumref_Of_L9]
    by_cases hlt : k < l.length
    · have hsl := sumOf_lt (l.take k)
      have hxl := l[k].toNat_lt
      rw [cond_tt (dlt (by omega)), at_lt hlt, opt_of, shl8 hsl, u64w (x := l[k].toNat) (by omega), u64x (by omega) (by omega), lumref_rest_ok _ (xor_lt64 (by omega) (by omega)) fu hfu, opt_of, wsucc (by omega), red_xor _ _ (by omega)]
      have := of_loop l hl fu hfu kk fuel (k + 1) hlt (by omega)
      rw [take_snoc l k hlt, sumOf_snoc] at this
      exact this
    · rw [cond_ff (dge (by omega)), List.take_of_length_le (by omega)]
theorem of_ok (s : List UInt8) (hs : s.length ≤ 5000) (fu : Nat) (hfu : 34 ≤ fu) : f_lumref_Of fu s = some ((sumOf (tl16 s) : Nat) : Int) := by
  unfold f_lumref_Of
  rw [lt_of]
  have key : ∀ l : List UInt8, l.length ≤ 16 → (lt (fun (j3i3 : Int) => (some j3i3)) fun (kk4 : Int → Option Int) => (req (l.length ≤ 9223372036854775807) (f_lumref_Of_L9 l kk4 fu fu (0 : Int) (0 : Int)))) = some ((sumOf l : Nat) : Int) := fun l hl => by
    rw [lt_of, req_pos (by omega)]
    exact of_loop l hl fu hfu _ fu 0 (by omega) (by omega)
  by_cases h : s.length > 16
  · rw [cond_tt (decide_eq_true (by omega)), w64 (by omega) (by omega), req_pos (by omega), show ((s.length : Int) - 16).toNat = s.length - 16 by omega]
    exact key (tl16 s) (by unfold tl16; rw [List.length_drop]; omega)
  · rw [cond_ff (decide_eq_false (by omega))]
    have : tl16 s = s := by unfold tl16; rw [show s.length - 16 = 0 by omega, List.drop_zero]
    rw [this]; exact key s (by omega)
theorem ends_ok (c : S_api_Cut) (hc : Good c) (p : List UInt8) (hp : p.length ≤ 5000) (fu : Nat) (hfu : 34 ≤ fu) : f_lumref_ends fu c p = some (ends c p) := by
  unfold f_lumref_ends ends
  rw [lt_of]
  by_cases h1 : (p.length : Int) = c.Max
  · rw [cond_tt (by rw [h1]; simp), decide_eq_true h1]; rfl
  · rw [cond_ff (by rw [beq_eq_false_iff_ne]; exact h1), decide_eq_false h1, Bool.false_or]
    by_cases h2 : c.Min ≤ (p.length : Int)
    · have hm := mask hc.bits
      rw [cond_tt (decide_eq_true h2), of_ok p hp fu hfu, opt_of, req_pos (by have := hc.bits; omega), hm.1, req_pos (by have := hm.2.2; omega), decide_eq_true h2, Bool.true_and, Int.tmod_eq_emod_of_nonneg (by omega)]
      congr 1
      by_cases h3 : sumOf (tl16 p) % 2 ^ c.Bits.toNat = 0
      · rw [decide_eq_true h3]; rw [beq_iff_eq]; exact_mod_cast h3
      · rw [decide_eq_false h3, beq_eq_false_iff_ne]; intro h; exact h3 (by exact_mod_cast h)
    · rw [cond_ff (decide_eq_false h2), decide_eq_false h2]; rfl
theorem cut_nat (s : List UInt8) (a b : Nat) : cut s (a : Int) (b : Int) = (s.take b).drop a := by unfold cut; rw [Int.toNat_natCast, Int.toNat_natCast]
theorem rpieces_loop (c : S_api_Cut) (hc : Good c) (s : List UInt8) (hs : s.length ≤ 4096) (fu : Nat) (hfu : 34 ≤ fu) : ∀ (fuel a f : Nat) (out : List (List UInt8)), f ≤ a → a ≤ s.length → s.length - a < fuel → out.length ≤ a →
    f_lumref_Pieces_L7 c s (fun j2x6 j2i7 => (req (0 ≤ j2i7 ∧ j2i7 ≤ (s.length : Int)) (some (j2x6, (s.drop (j2i7).toNat))))) fu fuel out (f : Int) (a : Int) = some (pr c (s.drop a) ((s.take a).drop f) out)
  | 0, a, _, _, _, _, hf, _ => absurd hf (Nat.not_lt_zero _)
  | fuel + 1, a, f, out, hfa, ha, hf, hout => by
    rw [f_lumref_Pieces_L7]
    by_cases hlt : a < s.length
    · have hcut : (s.take (a + 1)).drop f = (s.take a).drop f ++ [s[a]] := by
        rw [take_snoc s a hlt, List.drop_append_of_le_length (by rw [List.length_take]; omega)]
      rw [cond_tt (dlt (by omega)), lt_of, wsucc (by omega), req_pos (by omega), cut_nat, ends_ok c hc _ (by rw [List.length_drop, List.length_take]; omega) fu hfu, opt_of, List.drop_eq_getElem_cons hlt, pr, ← hcut]
      cases he : ends c ((s.take (a + 1)).drop f) with
      | true =>
        rw [cond_tt rfl, req_pos (by omega), req_pos (by simp; omega), if_pos rfl]
        dsimp only
        rw [rpieces_loop c hc s hs fu hfu fuel (a + 1) (a + 1) _ (by omega) hlt (by omega) (by simp; omega)]
        rw [List.drop_of_length_le (l := s.take (a + 1)) (by rw [List.length_take]; omega)]
      | false =>
        rw [cond_ff rfl, if_neg (by simp)]
        dsimp only
        rw [rpieces_loop c hc s hs fu hfu fuel (a + 1) f _ (by omega) hlt (by omega) (by omega)]
    · rw [cond_ff (dge (by omega)), req_pos (by omega), Int.toNat_natCast, show s.drop a = [] from List.drop_of_length_le (by omega), List.take_of_length_le (l := s) (by omega), pr]
theorem rpieces_ok (c : S_api_Cut) (hc : Good c) (s : List UInt8) (hs : s.length ≤ 4096) (fu : Nat) (hfu : 5000 ≤ fu) : f_lumref_Pieces fu c s = some (pr c s [] []) := by
  unfold f_lumref_Pieces
  rw [lt_of]
  have := rpieces_loop c hc s hs fu (by omega) fu 0 0 [] (by omega) (by omega) (by omega) (by simp)
  rw [List.drop_zero, List.take_zero] at this
  exact this
/-! the checks -/
def okB (c : S_api_Cut) : Bool := decide (16 ≤ c.Min) && (decide (c.Min ≤ c.Max) && (decide (c.Max ≤ 1024) && (decide (1 ≤ c.Bits) && decide (c.Bits ≤ 12))))
theorem okB_good {c : S_api_Cut} (h : okB c = true) : Good c := by
  unfold okB at h
  simp only [Bool.and_eq_true, decide_eq_true_eq] at h
  exact ⟨h.1, ⟨h.2.1, h.2.2.1⟩, h.2.2.2⟩
theorem check_ok (c : S_api_Cut) (fu : Nat) : f_chunk_Check fu c = some (bif okB c then 0 else 1) := by
  unfold f_chunk_Check okB
  rw [lt_of]
  by_cases h1 : c.Min < 16
  · rw [cond_tt (dlt h1), decide_eq_false (show ¬ 16 ≤ c.Min by omega)]; rfl
  · rw [cond_ff (dge (by omega)), decide_eq_true (show 16 ≤ c.Min by omega)]
    by_cases h2 : c.Max < c.Min
    · rw [cond_tt (dlt h2), decide_eq_false (show ¬ c.Min ≤ c.Max by omega)]; rfl
    · rw [cond_ff (dge (by omega)), decide_eq_true (show c.Min ≤ c.Max by omega)]
      by_cases h3 : c.Max > 1024
      · rw [cond_tt (decide_eq_true h3), decide_eq_false (show ¬ c.Max ≤ 1024 by omega)]; rfl
      · rw [cond_ff (decide_eq_false h3), decide_eq_true (show c.Max ≤ 1024 by omega)]
        by_cases h4 : c.Bits < 1
        · rw [cond_tt (dlt h4), decide_eq_false (show ¬ 1 ≤ c.Bits by omega)]; rfl
        · rw [cond_ff (dge (by omega)), decide_eq_true (show 1 ≤ c.Bits by omega)]
          by_cases h5 : c.Bits > 12
          · rw [decide_eq_true h5, decide_eq_false (show ¬ c.Bits ≤ 12 by omega)]; rfl
          · rw [decide_eq_false h5, decide_eq_true (show c.Bits ≤ 12 by omega)]; rfl
theorem cutok_ok (c : S_api_Cut) (fu : Nat) : f_lumref_CutOK fu c = some (bif okB c then 0 else 1) := by
  unfold f_lumref_CutOK okB
  rw [lt_of]
  cases decide (16 ≤ c.Min) <;> cases decide (c.Min ≤ c.Max) <;> cases decide (c.Max ≤ 1024) <;> cases decide (1 ≤ c.Bits) <;> cases decide (c.Bits ≤ 12) <;> rfl
theorem pr_len (c : S_api_Cut) : ∀ (s cur : List UInt8) (out : List (List UInt8)), (pr c s cur out).1.length ≤ out.length + s.length
  | [], cur, out => by simp [pr]
  | b :: r, cur, out => by
    rw [pr]
    split
    · have := pr_len c r [] (out ++ [cur ++ [b]])
      simp at this ⊢; omega
    · have := pr_len c r (cur ++ [b]) out
      simp at this ⊢; omega
theorem eq_loop (a b : List (List UInt8)) (kk : Unit → Option Bool) (hl : a.length = b.length) (hm : a.length ≤ 5000) : ∀ (fuel k : Nat), k ≤ a.length → a.length - k < fuel →
    f_slices_Equal___string_string__L6 a b kk fuel (k : Int) = if a.drop k = b.drop k then kk () else some false
  | 0, k, _, hf => absurd hf (Nat.not_lt_zero _)
  | fuel + 1, k, hk, hf => by
    rw [f_slices_Equal___string_string__L6]
    by_cases hlt : k < a.length
    · rw [cond_tt (dlt (by omega)), at_lt hlt, at_lt (show k < b.length by omega), opt_of, opt_of, List.drop_eq_getElem_cons hlt, List.drop_eq_getElem_cons (show k < b.length by omega)]
      by_cases he : a[k] = b[k]
      · rw [cond_ff (by simp [he]), wsucc (by omega), eq_loop a b kk hl hm fuel (k + 1) (by omega) (by omega)]
        by_cases hd : a.drop (k + 1) = b.drop (k + 1)
        · rw [if_pos hd, if_pos (by rw [he, hd])]
        · rw [if_neg hd, if_neg (fun h => hd (List.cons.inj h).2)]
      · rw [cond_tt (by simp [he]), if_neg (fun h => he (List.cons.inj h).1)]
    · rw [cond_ff (dge (by omega)), List.drop_of_length_le (by omega), List.drop_of_length_le (by omega), if_pos rfl]
theorem eqs (a : List (List UInt8)) (fu : Nat) (hm : a.length ≤ 5000) (hf : 5000 < fu) : f_slices_Equal___string_string_ fu a a = some true := by
  unfold f_slices_Equal___string_string_
  rw [cond_ff (by simp), lt_of]
  refine (eq_loop a a _ rfl hm fu 0 (by omega) (by omega)).trans ?_
  rw [if_pos rfl]
def fuel (_ : S_api_Cut) (_ : List UInt8) (_ : List UInt8) : Nat := 10000
theorem says (c : S_api_Cut) (s t : List UInt8) (_ : okS_api_Cut c) (hs : s.length ≤ 9223372036854775807) (ht : t.length ≤ 9223372036854775807) (hb : s.length + t.length ≤ 1048576) : f_lumlaw_ChunkFeeds (fuel c s t) c s t = some true := by
  unfold f_lumlaw_ChunkFeeds f_chunk_Feed fuel
  rw [check_ok, cutok_ok, opt_of]
  cases hok : okB c with
  | false => rfl
  | true =>
    rw [cond_tt (x := (0 : Int)) rfl, cond_ff (by rfl), w64 (by omega) (by omega)]
    by_cases h3 : s.length + t.length > 4096
    · rw [cond_tt (decide_eq_true (by omega)), opt_of, opt_of, cond_ff (by rfl), lt_of]
      by_cases h4 : s.length > 4096
      · rw [cond_tt (decide_eq_true (by omega))]; rfl
      · rw [cond_ff (decide_eq_false (by omega)), w64 (by omega) (by omega), decide_eq_true (by omega)]; rfl
    · have hl := pr_len c (s ++ t) [] []
      rw [List.length_append] at hl
      have hl' : (pr c (s ++ t) [] []).1.length ≤ 5000 := by simp at hl; omega
      rw [cond_ff (decide_eq_false (by omega)), req_pos (by omega), pieces_ok c (okB_good hok) _ (by rw [List.length_append]; omega) _ (by omega), opt_of, opt_of, opt_of, cond_ff (by rfl), lt_of, cond_ff (decide_eq_false (by omega)), w64 (by omega) (by omega), decide_eq_false (by omega)]
      dsimp only
      rw [cond_ff rfl, req_pos (by omega), rpieces_ok c (okB_good hok) _ (by rw [List.length_append]; omega) _ (by omega), opt_of, lt_of, cond_tt (by rfl), eqs _ _ hl' (by omega), opt_of, cond_tt rfl]
      simp
end Go.Proofs.Ytaoopodaalhheaa.PChunkFeeds
