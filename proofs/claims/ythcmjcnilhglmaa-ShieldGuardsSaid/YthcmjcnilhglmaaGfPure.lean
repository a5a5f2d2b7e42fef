/- The printed functions of package field and of the reference compute in the field of 256 elements. No condition. -/
import Derived.Test.YthcmjcnilhglmaaWShieldGuards
import Derived.Test.YthcmjcnilhglmaaPlBits
import Derived.Test.YthcmjcnilhglmaaFieldMath
namespace Go.Proofs.Ythcmjcnilhglmaa.Gf
open Go.RowKit Ythcmjcnilhglmaa.En Ythcmjcnilhglmaa Fld
set_option linter.unusedVariables false
set_option linter.unusedSimpArgs false
theorem u8_bit {y : Nat} (hy : y < 256) : bits BinOp.and IntKind.u8 (y : Int) 1 = ((y % 2 : Nat) : Int) := by
  have := u8_and_nat y 1 hy (by omega)
  rw [Nat.and_one_is_mod] at this
  exact this
theorem and128 : ∀ c, c < 256 → c &&& 128 = if c < 128 then 0 else 128 := by decide +kernel
theorem u8_high {c : Nat} (hc : c < 256) : bits BinOp.and IntKind.u8 (c : Int) 128 = ((if c < 128 then 0 else 128 : Nat) : Int) := by
  have := u8_and_nat c 128 hc (by omega)
  rw [and128 c hc] at this
  exact this
theorem dbl (c : Nat) : IntKind.u8.wrap ((c : Int) * 2 ^ min ((1 : Int)).toNat (IntKind.bits .u8)) = ((2 * c % 256 : Nat) : Int) := by
  rw [shl_nat (m := 1) (j := 1) rfl (by decide), u8w]; congr 2; omega
theorem mul_loop (a b : Nat) (ha : a < 256) (hb : b < 256) (kk : Int → Option Int) : ∀ (fuel k : Nat), k ≤ 8 → 8 - k < fuel →
    f_field_Mul_L5 kk fuel (xt k a : Nat) (b / 2 ^ k : Nat) (gmTo a b k : Nat) = kk (gm a b : Nat)
  | 0, k, _, hf => absurd hf (Nat.not_lt_zero _)
  | fuel + 1, k, hk, hf => by
    rw [f_field_Mul_L5]
    have hend : b / 2 ^ 8 = 0 := Nat.div_eq_of_lt (by omega)
    by_cases h0 : b / 2 ^ k = 0
    · rw [cond_ff (by rw [h0]; rfl)]
      have hg : gm a b = gmTo a b k := gmTo_end a b k h0 8 hk
      rw [hg]
    · have hk8 : k + 1 ≤ 8 := by
        by_cases e : k = 8
        · subst e; exact absurd hend h0
        · omega
      have ih := mul_loop a b ha hb kk fuel (k + 1) hk8 (by omega)
      have hgo : gmTo a b (k + 1) = gmTo a b k ^^^ (if b.testBit k then xt k a else 0) := rfl
      have hxo : xt (k + 1) a = xtime (xt k a) := rfl
      have hyo : b / 2 ^ (k + 1) = b / 2 ^ k / 2 := by rw [Nat.pow_succ, Nat.div_div_eq_div_mul]
      rw [Nat.testBit_eq_decide_div_mod_eq] at hgo
      have hcl := xt_lt k a ha
      have hol := gmTo_lt a b k ha
      have hyl : b / 2 ^ k < 256 := Nat.lt_of_le_of_lt (Nat.div_le_self _ _) hb
      rw [hxo, hyo, hgo] at ih
      obtain ⟨c, hc⟩ : ∃ q, q = xt k a := ⟨_, rfl⟩
      obtain ⟨y, hy⟩ : ∃ q, q = b / 2 ^ k := ⟨_, rfl⟩
      obtain ⟨o, ho⟩ : ∃ q, q = gmTo a b k := ⟨_, rfl⟩
      rw [← hc, ← hy, ← ho] at ih ⊢
      rw [← hc] at hcl
      rw [← hy] at hyl h0
      rw [← ho] at hol
      rw [cond_tt (by rw [bne_iff_ne]; omega), lt_of, lt_of, shr_nat (m := 1) (j := 1) rfl (by decide), dbl, u8_bit hyl, u8_high hcl, u8_xor_nat o c hol hcl]
      have hx2 : (bits .xor .u8 ((2 * c % 256 : Nat) : Int) 29) = (((2 * c % 256) ^^^ 29 : Nat) : Int) := u8_xor_nat (2 * c % 256) 29 (Nat.mod_lt _ (by omega)) (by omega)
      rw [hx2, show y / 2 ^ 1 = y / 2 by simp]
      rw [xtime_step c hcl] at ih
      by_cases hlow : y % 2 = 1
      all_goals by_cases hhi : c < 128
      · rw [if_pos hhi, if_pos (decide_eq_true hlow)] at ih
        rw [hlow, if_pos hhi, cond_tt (by rfl)]; dsimp only; rw [cond_ff (by rfl), show 2 * c % 256 = 2 * c by omega]; exact ih
      · rw [if_neg hhi, if_pos (decide_eq_true hlow)] at ih
        rw [hlow, if_neg hhi, cond_tt (by rfl)]; dsimp only; rw [cond_tt (by rfl)]; exact ih
      · rw [if_pos hhi, if_neg (by simpa using hlow), Nat.xor_zero] at ih
        rw [show y % 2 = 0 by omega, if_pos hhi, cond_ff (by rfl)]; dsimp only; rw [cond_ff (by rfl), show 2 * c % 256 = 2 * c by omega]; exact ih
      · rw [if_neg hhi, if_neg (by simpa using hlow), Nat.xor_zero] at ih
        rw [show y % 2 = 0 by omega, if_neg hhi, cond_ff (by rfl)]; dsimp only; rw [cond_tt (by rfl)]; exact ih
theorem mul {a b : Nat} (ha : a < 256) (hb : b < 256) (fu : Nat) (hf : 10 ≤ fu) : f_field_Mul fu a b = some ((gm a b : Nat) : Int) := by
  unfold f_field_Mul
  rw [lt_of]
  have := mul_loop a b ha hb (fun j1i5 => some j1i5) fu 0 (by omega) (by omega)
  simpa [xt, gmTo] using this
theorem power_loop (n a : Nat) (fu : Nat) (hf : 10 ≤ fu) (kk : Int → Option Int) : ∀ (fuel b m q : Nat), b < 256 → q < 256 → m < 9223372036854775808 → m < 2 ^ (fuel - 1) → 0 < fuel → gm q (gpow b m) = n →
    f_field_power_L5 kk fu fuel (b : Nat) (m : Nat) (q : Nat) = kk (n : Nat)
  | 0, _, _, _, _, _, _, _, h, _ => absurd h (Nat.lt_irrefl 0)
  | fuel + 1, b, m, q, hb, hq, hm, hmf, _, hv => by
    rw [f_field_power_L5]
    by_cases h0 : m = 0
    · subst h0
      rw [cond_ff (by rfl), ← hv, show gpow b 0 = 1 from rfl, gm_one hq]
    · have hfu : 0 < fuel := by
        rcases Nat.eq_zero_or_pos fuel with h | h
        · subst h; simp at hmf; omega
        · exact h
      have hmf' : m / 2 < 2 ^ (fuel - 1) := by
        have : 2 ^ (fuel + 1 - 1) = 2 * 2 ^ (fuel - 1) := by rw [show fuel + 1 - 1 = (fuel - 1) + 1 by omega, Nat.pow_succ]; omega
        omega
      have ht := i64_and_nat m 1 hm (by omega)
      rw [Nat.and_one_is_mod] at ht
      have hbb : gpow (gm b b) (m / 2) = gpow b (2 * (m / 2)) := by
        rw [gpow_mul hb]; congr 1
        rw [show 2 = 1 + 1 from rfl, gpow_add hb, gpow_one hb]
      have hgb := gm_lt b b hb
      have hgq := gm_lt q b hq
      rw [cond_tt (decide_eq_true (by omega)), lt_of, shr_nat (m := 1) (j := 1) rfl (by decide), show m / 2 ^ 1 = m / 2 by simp]
      rw [show (bits BinOp.and IntKind.i64 (m : Int) 1) = ((m % 2 : Nat) : Int) from ht]
      by_cases hc : m % 2 = 1
      · rw [hc, cond_tt (by rfl), mul hq hb fu hf, opt_of]
        dsimp only
        rw [mul hb hb fu hf, opt_of]
        refine power_loop n a fu hf kk fuel _ _ _ hgb hgq (by omega) hmf' hfu ?_
        rw [← hv, hbb, gm_assoc hq hb (gpow_lt _ _ hb)]
        congr 1
        have e : m = 1 + 2 * (m / 2) := by omega
        conv => rhs; rw [e]
        rw [gpow_add hb, gpow_one hb]
      · rw [show m % 2 = 0 by omega, cond_ff (by rfl)]
        dsimp only
        rw [mul hb hb fu hf, opt_of]
        refine power_loop n a fu hf kk fuel _ _ _ hgb hq (by omega) hmf' hfu ?_
        rw [← hv, hbb, show 2 * (m / 2) = m from by omega]
theorem power {a n : Nat} (ha : a < 256) (hn : n < 2 ^ 60) (fu : Nat) (hf : 100 ≤ fu) : f_field_power fu a n = some ((gpow a n : Nat) : Int) := by
  unfold f_field_power
  rw [lt_of]
  have hp : 2 ^ 60 ≤ 2 ^ (fu - 1) := Nat.pow_le_pow_right (by decide) (by omega)
  exact power_loop (gpow a n) a fu (by omega) (fun j => some j) fu a n 1 ha (by omega) (by omega) (by omega) (by omega) (one_gm (gpow_lt a n ha))
theorem inv {a : Nat} (ha : a < 256) (fu : Nat) (hf : 100 ≤ fu) : f_field_Inv fu a = some (if a = 0 then ((0 : Int), (1 : Int)) else (((ginv a : Nat) : Int), (0 : Int))) := by
  unfold f_field_Inv
  by_cases h : a = 0
  · subst h; rfl
  · rw [cond_ff (by simpa using h), show (254 : Int) = ((254 : Nat) : Int) from rfl, power ha (by omega) fu hf, opt_of, if_neg h]; rfl
/-! the reference -/
theorem rm_loop (a b : Nat) (ha : a < 256) (hb : b < 256) (kk : Int → Option Int) : ∀ (fuel k : Nat), k ≤ 8 → 8 - k < fuel →
    f_lumref_Mul_L16 (a : Int) (b : Int) kk fuel (rmTo a b k : Nat) (k : Int) = kk (rmTo a b 8 : Nat)
  | 0, k, _, hf => absurd hf (Nat.not_lt_zero _)
  | fuel + 1, k, hk, hf => by
    rw [f_lumref_Mul_L16]
    by_cases hlt : k < 8
    · have ih := rm_loop a b ha hb kk fuel (k + 1) (by omega) (by omega)
      have hol := rmTo_lt a b k ha hk
      have hs : rmTo a b (k + 1) = rmTo a b k ^^^ (if b.testBit k then a * 2 ^ k else 0) := rfl
      rw [Nat.testBit_eq_decide_div_mod_eq] at hs
      rw [hs] at ih
      have hp : 2 ^ k ≤ 2 ^ 7 := Nat.pow_le_pow_right (by omega) (by omega)
      have h7 : (2 : Nat) ^ 7 = 128 := rfl
      have hal : a * 2 ^ k ≤ 255 * 128 := Nat.mul_le_mul (by omega) (by omega)
      have hyl : b / 2 ^ k < 256 := Nat.lt_of_le_of_lt (Nat.div_le_self _ _) hb
      rw [cond_tt (dlt (by omega)), lt_of, req_pos (by omega), shr_nat (m := k) rfl (by show k ≤ 8; omega), u8_bit hyl, wsucc (by omega), w64 (x := (a : Int)) (by omega) (by omega), shl_nat (m := k) rfl (by show k ≤ 64; omega), w64 (by omega) (by omega), i64_xor_nat _ _ (by omega) (by omega)]
      by_cases hc : b / 2 ^ k % 2 = 1
      · rw [if_pos (decide_eq_true hc)] at ih
        rw [hc, cond_tt (by rfl), req_pos (by omega)]; exact ih
      · rw [if_neg (by simpa using hc), Nat.xor_zero] at ih
        rw [show b / 2 ^ k % 2 = 0 by omega, cond_ff (by rfl)]; exact ih
    · obtain rfl : k = 8 := by omega
      rw [cond_ff (dge (by omega))]
theorem rred_loop (n : Nat) (hn : n < 65536) (kk : Int → Option Int) : ∀ (fuel k : Nat), k ≤ 8 → 8 - k < fuel →
    f_lumref_Mul_L7 kk fuel (rred n k : Nat) ((15 - k : Nat) : Int) = kk (rred n 8 : Nat)
  | 0, k, _, hf => absurd hf (Nat.not_lt_zero _)
  | fuel + 1, k, hk, hf => by
    rw [f_lumref_Mul_L7]
    by_cases hlt : k < 8
    · have ih := rred_loop n hn kk fuel (k + 1) (by omega) (by omega)
      have hrl := rred_lt n k hn hk
      have hs : rred n (k + 1) = rred n k ^^^ (if (rred n k).testBit (15 - k) then 285 * 2 ^ (7 - k) else 0) := rfl
      rw [Nat.testBit_eq_decide_div_mod_eq] at hs
      rw [hs] at ih
      have hsl := shl_285 k hlt
      have hyl : rred n k / 2 ^ (15 - k) < 9223372036854775808 := Nat.lt_of_le_of_lt (Nat.div_le_self _ _) (by omega)
      have ht := i64_and_nat (rred n k / 2 ^ (15 - k)) 1 hyl (by omega)
      rw [Nat.and_one_is_mod] at ht
      have hw1 : IntKind.i64.wrap (((15 - k : Nat) : Int) - 1) = ((15 - (k + 1) : Nat) : Int) := by rw [w64 (by omega) (by omega)]; omega
      have hw2 : IntKind.i64.wrap (((15 - k : Nat) : Int) - 8) = ((7 - k : Nat) : Int) := by rw [w64 (by omega) (by omega)]; omega
      rw [cond_tt (decide_eq_true (by omega)), lt_of, req_pos (by omega), shr_nat (m := 15 - k) rfl (by show 15 - k ≤ 64; omega), show (bits BinOp.and IntKind.i64 ((rred n k / 2 ^ (15 - k) : Nat) : Int) 1) = _ from ht, hw1, hw2,
        show (285 : Int) = ((285 : Nat) : Int) from rfl, shl_nat (m := 7 - k) rfl (by show 7 - k ≤ 64; omega), w64 (by omega) (by omega), i64_xor_nat _ _ (by omega) (by omega)]
      by_cases hc : rred n k / 2 ^ (15 - k) % 2 = 1
      · rw [if_pos (decide_eq_true hc)] at ih
        rw [hc, cond_tt (by rfl), req_pos (by omega)]; exact ih
      · rw [if_neg (by simpa using hc), Nat.xor_zero] at ih
        rw [show rred n k / 2 ^ (15 - k) % 2 = 0 by omega, cond_ff (by rfl)]; exact ih
    · obtain rfl : k = 8 := by omega
      rw [cond_ff (decide_eq_false (by omega))]
theorem rmul {a b : Nat} (ha : a < 256) (hb : b < 256) (fu : Nat) (hf : 10 ≤ fu) : f_lumref_Mul fu a b = some ((gm a b : Nat) : Int) := by
  unfold f_lumref_Mul
  have h1 := rm_loop a b ha hb (fun (j1i5 : Int) => (lt (fun (j3i5 : Int) => (some (IntKind.u8.wrap j3i5))) fun (kk4 : Int → Option Int) => (f_lumref_Mul_L7 kk4 fu j1i5 (15 : Int)))) fu 0 (by omega) (by omega)
  rw [lt_of]
  rw [show ((rmTo a b 0 : Nat) : Int) = 0 from rfl, show ((0 : Nat) : Int) = 0 from rfl] at h1
  rw [h1, lt_of]
  have h2 := rred_loop (rmTo a b 8) (rmTo_lt a b 8 ha (by omega)) (fun (j3i5 : Int) => (some (IntKind.u8.wrap j3i5))) fu 0 (by omega) (by omega)
  rw [show rred (rmTo a b 8) 0 = rmTo a b 8 from rfl, show ((15 - 0 : Nat) : Int) = 15 from rfl] at h2
  rw [h2, u8w]
  have hg : Fld.rmul a b = gm a b := rmul_gm ha hb
  unfold Fld.rmul at hg
  rw [hg]
theorem rinv_loop {a : Nat} (ha : a < 256) (h0 : a ≠ 0) (fu : Nat) (hf : 10 ≤ fu) (kk : Unit → Option Int) : ∀ (fuel k : Nat), k ≤ ginv a → 256 - k < fuel →
    f_lumref_Inv_L5 (a : Int) kk fu fuel (k : Int) = some ((ginv a : Nat) : Int)
  | 0, k, _, hfu => absurd hfu (Nat.not_lt_zero _)
  | fuel + 1, k, hk, hfu => by
    have hgl := ginv_lt ha
    rw [f_lumref_Inv_L5, cond_tt (dlt (by omega)), u8w_in (by omega), rmul ha (by omega) fu hf, opt_of, wsucc (by omega)]
    by_cases he : gm a k = 1
    · rw [he, cond_tt (by rfl), ginv_only ha (by omega) he]
    · rw [cond_ff (by simp; omega)]
      have hne : k ≠ ginv a := fun e => he (by rw [e]; exact gm_ginv ha h0)
      exact rinv_loop ha h0 fu hf kk fuel (k + 1) (by omega) (by omega)
theorem rinv0_loop (fu : Nat) (hf : 10 ≤ fu) (kk : Unit → Option Int) : ∀ (fuel k : Nat), k ≤ 256 → 256 - k < fuel →
    f_lumref_Inv_L5 0 kk fu fuel (k : Int) = kk ()
  | 0, k, _, hfu => absurd hfu (Nat.not_lt_zero _)
  | fuel + 1, k, hk, hfu => by
    rw [f_lumref_Inv_L5]
    by_cases hlt : k < 256
    · rw [cond_tt (dlt (by omega)), u8w_in hlt, show (0 : Int) = ((0 : Nat) : Int) from rfl, rmul (by omega) hlt fu hf, opt_of, zero_gm, cond_ff (by rfl), wsucc (by omega)]
      exact rinv0_loop fu hf kk fuel (k + 1) (by omega) (by omega)
    · rw [cond_ff (dge (by omega))]
theorem rinv {a : Nat} (ha : a < 256) (fu : Nat) (hf : 300 ≤ fu) : f_lumref_Inv fu a = some (if a = 0 then (0 : Int) else ((ginv a : Nat) : Int)) := by
  unfold f_lumref_Inv
  rw [lt_of]
  by_cases h : a = 0
  · subst h; rw [if_pos rfl]; exact rinv0_loop fu (by omega) (fun _ => some 0) fu 0 (by omega) (by omega)
  · rw [if_neg h]; exact rinv_loop ha h fu (by omega) (fun _ => some 0) fu 0 (Nat.zero_le _) (by omega)
end Go.Proofs.Ythcmjcnilhglmaa.Gf
