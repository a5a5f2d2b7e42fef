/- The functions of package field and their references, walked. No condition. -/
import Derived.Test.YthcmjcnilhglmaaProg
import Derived.Test.YthcmjcnilhglmaaFieldMath
import Derived.Test.YthcmjcnilhglmaaBase
import Derived.ProofKit
import Derived.Outline
import Derived.LoopTactic
import Derived.StillTailTactics
namespace Go.Proofs.Ythcmjcnilhglmaa.Fld
open Go.RowKit
set_option linter.unusedSimpArgs false
set_option linter.unusedVariables false
theorem u8_bit {y : Nat} (hy : y < 256) : bits BinOp.and IntKind.u8 (y : Int) 1 = ((y % 2 : Nat) : Int) := by
  have := u8_and_nat y 1 hy (by omega)
  rw [Nat.and_one_is_mod] at this
  exact this
theorem and128 : ∀ c, c < 256 → c &&& 128 = if c < 128 then 0 else 128 := by decide +kernel
theorem u8_high {c : Nat} (hc : c < 256) : bits BinOp.and IntKind.u8 (c : Int) 128 = ((if c < 128 then 0 else 128 : Nat) : Int) := by
  have := u8_and_nat c 128 hc (by omega)
  rw [and128 c hc] at this
  exact this
theorem dbl {c : Nat} (hc : c < 256) (h : c < 128) : ((c : Int) * 2 % 256) = ((xtime c : Nat) : Int) := by
  rw [xtime_step c hc, if_pos h]; omega
theorem dbl_high {c : Nat} (hc : c < 256) (h : ¬ c < 128) : bits BinOp.xor IntKind.u8 ((c : Int) * 2 % 256) 29 = ((xtime c : Nat) : Int) := by
  rw [xtime_step c hc, if_neg h]
  have e : ((c : Int) * 2 % 256) = ((2 * c % 256 : Nat) : Int) := by omega
  rw [e]
  exact u8_xor_nat (2 * c % 256) 29 (Nat.mod_lt _ (by omega)) (by omega)
theorem mul_any (a b : Nat) (ha : a < 256) (hb : b < 256) (w : World) :
    Calls Try.prog 29 #[.int .u8 a, .int .u8 b] w fun e w' => e = .returned (.int .u8 (gm a b)) ∧ w = w' := by
  go_enter Try.func29, Try.ntmps29
  go_wp2
  go_loop [0, 1, 5] (fun x y o => ∃ k : Nat, k ≤ 8 ∧ x = .int .u8 (xt k a) ∧ y = .int .u8 (b / 2 ^ k : Nat) ∧ o = .int .u8 (gmTo a b k)) (fun _ y _ => (intOf y).toNat)
  case atStart => exact ⟨0, by omega, rfl, by simp, rfl⟩
  case round =>
    obtain ⟨k, hk, rfl, rfl, rfl⟩ := hrel
    have hend : b / 2 ^ 8 = 0 := Nat.div_eq_of_lt (by omega)
    have hk8 : b / 2 ^ k ≠ 0 → k + 1 ≤ 8 := by
      intro h
      by_cases e : k = 8
      · subst e; exact absurd hend h
      · omega
    have hgo : gmTo a b (k + 1) = gmTo a b k ^^^ (if b.testBit k then xt k a else 0) := rfl
    have hxo : xt (k + 1) a = xtime (xt k a) := rfl
    have hyo : b / 2 ^ (k + 1) = b / 2 ^ k / 2 := by rw [Nat.pow_succ, Nat.div_div_eq_div_mul]
    have hbit : b.testBit k = decide (b / 2 ^ k % 2 = 1) := Nat.testBit_eq_decide_div_mod_eq
    have hfin : b / 2 ^ k = 0 → gm a b = gmTo a b k := fun h => gmTo_end a b k h 8 hk
    rw [hbit] at hgo
    have hcl := xt_lt k a ha
    have hol := gmTo_lt a b k ha
    have hyl : b / 2 ^ k < 256 := Nat.lt_of_le_of_lt (Nat.div_le_self _ _) hb
    obtain ⟨c, hc⟩ : ∃ q, q = xt k a := ⟨_, rfl⟩
    obtain ⟨y, hy⟩ : ∃ q, q = b / 2 ^ k := ⟨_, rfl⟩
    obtain ⟨o, ho⟩ : ∃ q, q = gmTo a b k := ⟨_, rfl⟩
    rw [← hc] at hcl hgo hxo ⊢
    rw [← hy] at hyl hk8 hyo hgo hfin ⊢
    rw [← ho] at hol hgo hfin ⊢
    clear hc hy ho hbit hend
    have HGO := Lib.hid hgo
    have HXO := Lib.hid hxo
    have HYO := Lib.hid hyo
    have HFIN := Lib.hid hfin
    have HK8 := Lib.hid hk8
    clear hgo hxo hyo hfin hk8
    by_cases h0 : y = 0
    · have HF := Lib.hid (HFIN.out h0)
      subst h0
      clear HFIN
      go_wp2
      go_ret
      exact ⟨ret_int (by rw [HF.out]), rfl⟩
    · have t0 : ((y : Int) != 0) = true := by rw [bne_iff_ne]; omega
      have hstep := HK8.out h0
      have e1 := u8_bit hyl
      have e2 := u8_high hcl
      have hx := u8_xor_nat o c hol hcl
      by_cases hlow : y % 2 = 1
      all_goals by_cases hhi : c < 128
      all_goals
        have t1 : (bits BinOp.and IntKind.u8 (y : Int) 1 == 1) = decide (y % 2 = 1) := by
          rw [e1]; by_cases h : y % 2 = 1 <;> simp [h]; omega
        have t2 : (bits BinOp.and IntKind.u8 (c : Int) 128 != 0) = decide (¬ c < 128) := by rw [e2]; by_cases h : c < 128 <;> simp [h]
        simp only [hlow, hhi, decide_true, decide_false, not_true_eq_false, not_false_eq_true] at t1 t2
        have hdb : (c < 128 ∧ ((c : Int) * 2 % 256) = ((xtime c : Nat) : Int)) ∨ (¬ c < 128 ∧ bits BinOp.xor IntKind.u8 ((c : Int) * 2 % 256) 29 = ((xtime c : Nat) : Int)) := by
          by_cases h : c < 128
          · exact .inl ⟨h, dbl hcl h⟩
          · exact .inr ⟨h, dbl_high hcl h⟩
        have HDB := Lib.hid hdb
        have HX := Lib.hid hx
        have HLOW := Lib.hid hlow
        have HHI := Lib.hid hhi
        clear hdb e1 e2 hx hlow hhi
        go_wp2
        go_round
        case rel =>
          refine ⟨k + 1, hstep, ival ?_, ival ?_, ival ?_⟩
          · rw [HXO.out]
            rcases HDB.out with ⟨h, e⟩ | ⟨h, e⟩ <;> first | exact e | exact absurd h HHI.out | exact absurd HHI.out h
          · rw [HYO.out]; omega
          · rw [HGO.out]
            first
              | (rw [if_pos (by simpa using HLOW.out)]; exact HX.out)
              | (rw [if_neg (by simpa using HLOW.out), Nat.xor_zero])
        case measure => simp only [intOf]; omega
theorem rmul_any (a b : Nat) (ha : a < 256) (hb : b < 256) (w : World) :
    Calls Try.prog 28 #[.int .u8 a, .int .u8 b] w fun e w' => e = .returned (.int .u8 (gm a b)) ∧ w = w' := by
  have hg : rmul a b = gm a b := rmul_gm ha hb
  have HG := Lib.hid hg
  clear hg
  go_enter Try.func28, Try.ntmps28
  go_wp2
  go_loop [5, 8] (fun o i => ∃ k : Nat, k ≤ 8 ∧ i = .int .i64 k ∧ o = .int .i64 (rmTo a b k)) (fun _ y => 8 - (intOf y).toNat)
  case atStart => exact ⟨0, by omega, rfl, rfl⟩
  case round =>
    obtain ⟨k, hk, rfl, rfl⟩ := hrel
    have hol := rmTo_lt a b k ha hk
    by_cases hlt : k < 8
    · have hs : rmTo a b (k + 1) = rmTo a b k ^^^ (if b.testBit k then a * 2 ^ k else 0) := rfl
      rw [Nat.testBit_eq_decide_div_mod_eq] at hs
      obtain ⟨o, ho⟩ : ∃ q, q = rmTo a b k := ⟨_, rfl⟩
      rw [← ho] at hol hs ⊢
      clear ho
      have HS := Lib.hid hs
      clear hs
      have hp : 2 ^ k ≤ 2 ^ 7 := Nat.pow_le_pow_right (by omega) (by omega)
      have h7 : (2 : Nat) ^ 7 = 128 := rfl
      have hal : a * 2 ^ k ≤ 255 * 128 := Nat.mul_le_mul (by omega) (by omega)
      have ht := u8_bitAt b k hb
      have hx : bits BinOp.xor IntKind.i64 (o : Int) (wrap64 ((a : Int) * 2 ^ k)) = ((o ^^^ (a * 2 ^ k) : Nat) : Int) := by
        have e : ((a : Int) * 2 ^ k) = ((a * 2 ^ k : Nat) : Int) := by simp
        rw [e, wrap64_nat _ (by omega)]; exact i64_xor_nat _ _ (by omega) (by omega)
      by_cases hc : b / 2 ^ k % 2 = 1
      · have t1 : (bits BinOp.and IntKind.u8 ((b : Int) / 2 ^ k) 1 == 1) = true := by rw [ht, hc]; rfl
        have HC := Lib.hid hc
        clear hc ht hp h7 hal
        go_wp2
        go_round
        case rel => exact ⟨k + 1, by omega, by go_num, ival (by rw [HS.out, if_pos (by simpa using HC.out)])⟩
        case measure => simp [intOf]; omega
      · have t1 : (bits BinOp.and IntKind.u8 ((b : Int) / 2 ^ k) 1 == 1) = false := by rw [ht, show b / 2 ^ k % 2 = 0 from by omega]; rfl
        have HC := Lib.hid hc
        clear hc ht hp h7 hal hx
        go_wp2
        go_round
        case rel => exact ⟨k + 1, by omega, by go_num, ival (by rw [HS.out, if_neg (by simpa using HC.out), Nat.xor_zero])⟩
        case measure => simp [intOf]; omega
    · obtain rfl : k = 8 := by omega
      obtain ⟨n, hn⟩ : ∃ q, q = rmTo a b 8 := ⟨_, rfl⟩
      rw [← hn] at hol ⊢
      have HN := Lib.hid hn
      clear hn
      go_wp2
      go_loop [5, 7] (fun o i => ∃ k : Nat, k ≤ 8 ∧ i = .int .i64 (15 - k) ∧ o = .int .i64 (rred n k)) (fun _ y => (intOf y + 1).toNat)
      case atStart => exact ⟨0, by omega, by simp, rfl⟩
      case round =>
        obtain ⟨k, hk, rfl, rfl⟩ := hrel
        have hrl := rred_lt n k hol hk
        by_cases hlt : k < 8
        · have hs : rred n (k + 1) = rred n k ^^^ (if (rred n k).testBit (15 - k) then 285 * 2 ^ (7 - k) else 0) := rfl
          rw [Nat.testBit_eq_decide_div_mod_eq] at hs
          obtain ⟨o, ho⟩ : ∃ q, q = rred n k := ⟨_, rfl⟩
          rw [← ho] at hrl hs ⊢
          clear ho
          have HS := Lib.hid hs
          clear hs
          have hsl := shl_285 k hlt
          have ht := i64_bit o (15 - k) (by omega)
          have hx : bits BinOp.xor IntKind.i64 (o : Int) (wrap64 (285 * 2 ^ (15 - k - 8))) = ((o ^^^ (285 * 2 ^ (7 - k)) : Nat) : Int) := by
            have e : (285 * 2 ^ (15 - k - 8) : Int) = ((285 * 2 ^ (7 - k) : Nat) : Int) := by rw [show 15 - k - 8 = 7 - k from by omega]; simp
            rw [e, wrap64_nat _ (by omega)]; exact i64_xor_nat _ _ (by omega) (by omega)
          by_cases hc : o / 2 ^ (15 - k) % 2 = 1
          · have t1 : (bits BinOp.and IntKind.i64 ((o : Int) / 2 ^ (15 - k)) 1 == 1) = true := by rw [ht, hc]; rfl
            have HC := Lib.hid hc
            clear hc ht
            go_wp2
            go_round
            case rel => exact ⟨k + 1, by omega, by go_num, ival (by rw [HS.out, if_pos (by simpa using HC.out)])⟩
            case measure => simp [intOf]; omega
          · have t1 : (bits BinOp.and IntKind.i64 ((o : Int) / 2 ^ (15 - k)) 1 == 1) = false := by rw [ht, show o / 2 ^ (15 - k) % 2 = 0 from by omega]; rfl
            have HC := Lib.hid hc
            clear hc ht hx
            go_wp2
            go_round
            case rel => exact ⟨k + 1, by omega, by go_num, ival (by rw [HS.out, if_neg (by simpa using HC.out), Nat.xor_zero])⟩
            case measure => simp [intOf]; omega
        · obtain rfl : k = 8 := by omega
          go_wp2
          go_ret
          exact ⟨ret_int (by rw [← HG.out, HN.out]; simp [rmul]), rfl⟩
theorem power_any (a : Nat) (ha : a < 256) (n : Nat) (hn : n < 9223372036854775808) (w : World) :
    Calls Try.prog 80 #[.int .u8 a, .int .i64 n] w fun e w' => e = .returned (.int .u8 (gpow a n)) ∧ w = w' := by
  go_enter Try.func80, Try.ntmps80
  go_wp2
  go_loop [0, 1, 5] (fun x y o => ∃ b m q : Nat, b < 256 ∧ q < 256 ∧ m < 9223372036854775808 ∧ x = .int .u8 b ∧ y = .int .i64 m ∧ o = .int .u8 q ∧ gm q (gpow b m) = gpow a n) (fun _ y _ => (intOf y).toNat)
  case atStart => exact ⟨a, n, 1, ha, by omega, hn, rfl, rfl, rfl, one_gm (gpow_lt a n ha)⟩
  case round =>
    obtain ⟨b, m, q, hb, hq, hm, rfl, rfl, rfl, hv⟩ := hrel
    have HV := Lib.hid hv
    clear hv
    by_cases h0 : m = 0
    · have hf : q = gpow a n := by rw [← HV.out, h0]; exact (gm_one hq).symm
      have HF := Lib.hid hf
      subst h0
      clear hf HV
      go_wp2
      go_ret
      exact ⟨ret_int (by rw [← HF.out]), rfl⟩
    · have hpos : 0 < m := by omega
      have ht := i64_and_nat m 1 hm (by omega)
      rw [Nat.and_one_is_mod] at ht
      have hbb : gpow (gm b b) (m / 2) = gpow b (2 * (m / 2)) := by
        rw [gpow_mul hb]; congr 1
        rw [show 2 = 1 + 1 from rfl, gpow_add hb, gpow_one hb]
      have HBB := Lib.hid hbb
      have hgb := gm_lt b b hb
      have hgq := gm_lt q b hq
      have H0 := Lib.hid h0
      clear hbb h0
      by_cases hc : m % 2 = 1
      · have t1 : (bits BinOp.and IntKind.i64 (m : Int) 1 == 1) = true := by
          have e : bits BinOp.and IntKind.i64 (m : Int) 1 = ((m % 2 : Nat) : Int) := ht
          rw [e, hc]; rfl
        have hv : gm (gm q b) (gpow (gm b b) (m / 2)) = gpow a n := by
          rw [← HV.out, HBB.out, gm_assoc hq hb (gpow_lt _ _ hb)]
          congr 1
          have e : m = 1 + 2 * (m / 2) := by omega
          conv => rhs; rw [e]
          rw [gpow_add hb, gpow_one hb]
        have HW := Lib.hid hv
        clear hv ht HBB HV hc
        go_wp2_with (go_at_call 29; refine (mul_any _ _ (by assumption) (by assumption) _).mono ?_; rintro e w' ⟨rfl, rfl⟩)
        go_round
        case rel => exact ⟨gm b b, m / 2, gm q b, hgb, hgq, by omega, rfl, by go_num, rfl, HW.out⟩
        case measure => simp only [intOf]; omega
      · have t1 : (bits BinOp.and IntKind.i64 (m : Int) 1 == 1) = false := by
          have e : bits BinOp.and IntKind.i64 (m : Int) 1 = ((m % 2 : Nat) : Int) := ht
          rw [e, show m % 2 = 0 from by omega]; rfl
        have hv : gm q (gpow (gm b b) (m / 2)) = gpow a n := by
          rw [← HV.out, HBB.out, show 2 * (m / 2) = m from by omega]
        have HW := Lib.hid hv
        clear hv ht HBB HV hc
        go_wp2_with (go_at_call 29; refine (mul_any b b hb hb _).mono ?_; rintro e w' ⟨rfl, rfl⟩)
        go_round
        case rel => exact ⟨gm b b, m / 2, q, hgb, hq, by omega, rfl, by go_num, rfl, HW.out⟩
        case measure => simp only [intOf]; omega
end Go.Proofs.Ythcmjcnilhglmaa.Fld
