/- What MixSays leans on, part 2. No condition. -/
import Derived.Test.YtnnfmgobbhlbiaaQMixSaysa
namespace Go.Proofs.Ytnnfmgobbhlbiaa.PMixSays
open Go.RowKit Ytnnfmgobbhlbiaa.En Ytnnfmgobbhlbiaa Num Mix Go.Lib MX
set_option linter.unusedVariables false
set_option linter.unusedSimpArgs false
theorem inv_step {a x y : Int} (c : Nat) (kk : Int → Option Int) (k : Nat) (hc : c < 6) (h : IntKind.u64.wrap (x * (IntKind.u64.wrap ((2 : Int) - (IntKind.u64.wrap (a * x))))) = y) : f_mix_inverse_L5 a kk (k + 1) x (c : Int) = f_mix_inverse_L5 a kk k y ((c + 1 : Nat) : Int) := by
  rw [f_mix_inverse_L5, cond_tt (dlt (by omega)), h, wsucc (by omega)]
theorem invS_ok (k : Nat) : f_mix_inverse (k + 7) (13787848793156543929 : Int) = some ((iS : Nat) : Int) := by
  unfold f_mix_inverse
  rw [lt_of]
  show f_mix_inverse_L5 13787848793156543929 _ (k + 7) 13787848793156543929 ((0 : Nat) : Int) = _
  rw [inv_step (x := 13787848793156543929) (y := 16496376113027886985) 0 _ (k + 6) (by omega) (by decide)]
  rw [inv_step (x := 16496376113027886985) (y := 2203917495349842057) 1 _ (k + 5) (by omega) (by decide)]
  rw [inv_step (x := 2203917495349842057) (y := 2756543469426151561) 2 _ (k + 4) (by omega) (by decide)]
  rw [inv_step (x := 2756543469426151561) (y := 10871156337175269513) 3 _ (k + 3) (by omega) (by decide)]
  rw [inv_step (x := 10871156337175269513) (y := 10871156337175269513) 4 _ (k + 2) (by omega) (by decide)]
  rw [inv_step (x := 10871156337175269513) (y := 10871156337175269513) 5 _ (k + 1) (by omega) (by decide)]
  rw [f_mix_inverse_L5, cond_ff (by decide)]
  rfl
theorem invF_ok (k : Nat) : f_mix_inverse (k + 7) (11400714819323198485 : Int) = some ((iF : Nat) : Int) := by
  unfold f_mix_inverse
  rw [lt_of]
  show f_mix_inverse_L5 11400714819323198485 _ (k + 7) 11400714819323198485 ((0 : Nat) : Int) = _
  rw [inv_step (x := 11400714819323198485) (y := 15862969329784324093) 0 _ (k + 6) (by omega) (by decide)]
  rw [inv_step (x := 15862969329784324093) (y := 10449034103236961085) 1 _ (k + 5) (by omega) (by decide)]
  rw [inv_step (x := 10449034103236961085) (y := 14592201029865403197) 2 _ (k + 4) (by omega) (by decide)]
  rw [inv_step (x := 14592201029865403197) (y := 6782847518758105917) 3 _ (k + 3) (by omega) (by decide)]
  rw [inv_step (x := 6782847518758105917) (y := 17428512612931826493) 4 _ (k + 2) (by omega) (by decide)]
  rw [inv_step (x := 17428512612931826493) (y := 17428512612931826493) 5 _ (k + 1) (by omega) (by decide)]
  rw [f_mix_inverse_L5, cond_ff (by decide)]
  rfl
theorem mI (n c : Nat) : IntKind.u64.wrap ((n : Int) * (c : Int)) = ((n * c % M : Nat) : Int) := by
  rw [← Int.natCast_mul]; exact wr _
theorem mundo_ok (k : Nat) {y b : Nat} (hy : y < M) (hb : b < M) : f_mix_Undo (k + 7) (y : Int) (b : Int) = some ((undo y b : Nat) : Int) := by
  unfold f_mix_Undo
  rw [invS_ok, opt_of, invF_ok, opt_of, s32, xo hy (div_lt' hy 32), mI, s29, s58, xo (ml _) (div_lt' (ml _) 29), xo (xltM (ml _) (div_lt' (ml _) 29)) (div_lt' (ml _) 58), mI, xo (ml _) hb]
  rfl
theorem ones (w : Nat) (h : w ≤ 64) : 18446744073709551615 / 2 ^ (64 - w) = 2 ^ w - 1 := by
  have e : 2 ^ w * 2 ^ (64 - w) = 18446744073709551616 := by rw [← Nat.pow_add, show w + (64 - w) = 64 by omega]
  have hp : 0 < 2 ^ w := Nat.pow_pos (by omega)
  have hq : 0 < 2 ^ (64 - w) := Nat.pow_pos (by omega)
  refine Nat.div_eq_of_lt_le ?_ ?_
  · rw [Nat.sub_mul, e]; omega
  · rw [show (2 ^ w - 1 + 1) = 2 ^ w by omega, e]; omega
theorem mNarrow_bad (fu : Nat) (s : List UInt8) (w : Int) (h : w < 1 ∨ 64 < w) : f_mix_Narrow fu w s = some (0, 1) := by
  unfold f_mix_Narrow
  rw [lt_of]
  dsimp only
  by_cases h1 : w < 1
  · rw [cond_tt (dlt h1)]; rfl
  · rw [cond_ff (decide_eq_false h1), show decide (w > 64) = true from decide_eq_true (by omega)]; rfl
theorem mNarrow_good (fu : Nat) (s : List UInt8) (w : Nat) (h1 : 1 ≤ w) (h64 : w ≤ 64) (hf : s.length < fu) (h63 : s.length ≤ 9223372036854775807) : f_mix_Narrow fu (w : Int) s = some (((hash (fun y => y % 2 ^ w) s : Nat) : Int), 0) := by
  unfold f_mix_Narrow
  rw [lt_of]
  dsimp only
  have e : IntKind.i64.wrap ((64 : Int) - (w : Int)) = ((64 - w : Nat) : Int) := by rw [w64 (by omega) (by omega)]; omega
  rw [cond_ff (decide_eq_false (by omega)), show decide ((w : Int) > 64) = false from decide_eq_false (by omega), cond_ff rfl, e, req_pos (by omega)]
  have e2 : ((18446744073709551615 : Int)).fdiv (2 ^ min (((64 - w : Nat) : Int)).toNat (IntKind.bits .u64)) = ((2 ^ w - 1 : Nat) : Int) := by
    have := shr_nat (x := 18446744073709551615) (m := 64 - w) (j := ((64 - w : Nat) : Int)) (k := .u64) rfl (show 64 - w ≤ 64 by omega)
    rw [ones w h64] at this
    exact this
  rw [e2, msum_ok w h64 fu s hf h63, opt_of]
theorem tail_ok (fu : Nat) {x b : Nat} (hx : x < M) (hbb : b < M) (s : List UInt8) (hfu : s.length + 100 ≤ fu) (hs : s.length ≤ 140737488351232) : (opt (f_mix_Step fu (x : Int) (b : Int)) fun (r8 : Int) => (opt (f_lumref_Step fu (x : Int) (b : Int)) fun (r10 : Int) => (bif (r8 == r10) then (opt (f_mix_Undo fu (x : Int) (b : Int)) fun (r13 : Int) => (opt (f_lumref_Step fu r13 (b : Int)) fun (r15 : Int) => (bif (r15 == (x : Int)) then (opt (f_mix_Sum fu s) fun (r18 : Int) => (opt (f_lumref_Narrow fu (64 : Int) s) fun (r20 : Int) => (bif (r18 == r20) then (opt (f_mix_ID fu s) fun (r23 : A8u8) => (opt (f_lumref_ID fu s) fun (r25 : A8u8) => (some (r23 == r25)))) else (some false)))) else (some false)))) else (some false)))) = some true := by
  have e1 := mstep_ok fu hx hbb
  have e2 := rstep_ok fu (by omega) hx hbb
  have e3 : f_mix_Undo fu (x : Int) (b : Int) = some ((undo x b : Nat) : Int) := by
    obtain ⟨k, rfl⟩ : ∃ k, fu = k + 7 := ⟨fu - 7, by omega⟩
    exact mundo_ok k hx hbb
  have e4 := rstep_ok fu (by omega) (undo_lt (y := x) hbb) hbb
  rw [stp_undo hx] at e4
  have e5 := mSum_ok fu s (by omega) (by omega)
  have e6 : f_lumref_Narrow fu (64 : Int) s = _ := rnarrow_ok 64 (by omega) fu s (by omega) (by omega) (by omega)
  have e7 := mID_ok fu s (by omega) (by omega)
  have e8 := rID_ok fu s (by omega) (by omega) (by omega)
  rw [e1, opt_of, e2, opt_of, cond_tt (beq_self_eq_true _), e3, opt_of, e4, opt_of, cond_tt (beq_self_eq_true _), e5, opt_of, e6, opt_of, cond_tt (beq_self_eq_true _), e7, opt_of, e8, opt_of, beq_self_eq_true]
theorem law_ok (fu : Nat) {x b : Nat} (hx : x < M) (hbb : b < M) (x2 : Int) (s : List UInt8) (hfu : s.length + 100 ≤ fu) (hs : s.length ≤ 140737488351232) : f_lumlaw_MixSays fu (x : Int) (b : Int) x2 s = some true := by
  have tail := tail_ok fu hx hbb s hfu hs
  have q1 : (((0 : Int), (1 : Int)).1 != (0 : Int)) = false := by decide
  have q2 : (((0 : Int), (1 : Int)).2 != (1 : Int)) = false := by decide
  unfold f_lumlaw_MixSays
  by_cases hw : x2 < 1 ∨ 64 < x2
  · rw [mNarrow_bad _ _ _ hw, opt_of]
    simp only [lt_of]
    by_cases h : x2 < 1
    · rw [cond_tt (dlt h), cond_tt rfl, q1, cond_ff rfl, q2, cond_ff rfl]; exact tail
    · rw [cond_ff (decide_eq_false h), show decide (x2 > 64) = true from decide_eq_true (by omega), cond_tt rfl, q1, cond_ff rfl, q2, cond_ff rfl]; exact tail
  · obtain ⟨w, rfl⟩ : ∃ w : Nat, x2 = w := ⟨x2.toNat, by omega⟩
    obtain ⟨H, hm, hr⟩ : ∃ H : Int, f_mix_Narrow fu (w : Int) s = some (H, 0) ∧ f_lumref_Narrow fu (w : Int) s = some H := ⟨_, mNarrow_good fu s w (by omega) (by omega) (by omega) (by omega), rnarrow_ok w (by omega) fu s (by omega) (by omega) (by omega)⟩
    rw [hm, opt_of]
    simp only [lt_of]
    rw [cond_ff (decide_eq_false (show ¬ ((w : Int) < 1) by omega)), show decide ((w : Int) > 64) = false from decide_eq_false (by omega), cond_ff rfl, cond_ff (bne_self_eq_false (0 : Int)), hr, opt_of, cond_ff (bne_self_eq_false H)]
    exact tail
def fuel (x0 x1 x2 : Int) (x3 : List UInt8) : Nat := x3.length + 100
theorem says (x0 x1 x2 : Int) (x3 : List UInt8) (ok0 : (Lit.int .u64 x0).wf = true) (ok1 : (Lit.int .u64 x1).wf = true) (ok2 : (Lit.int .i64 x2).wf = true) (ok3 : x3.length ≤ 9223372036854775807) (hb : x3.length ≤ 140737488351232) :
    f_lumlaw_MixSays (fuel x0 x1 x2 x3) x0 x1 x2 x3 = some true := by
  have h0 : 0 ≤ x0 ∧ x0 ≤ 18446744073709551615 := by simpa [Lit.wf, IntKind.min, IntKind.max, IntKind.signed, IntKind.bits] using ok0
  have h1 : 0 ≤ x1 ∧ x1 ≤ 18446744073709551615 := by simpa [Lit.wf, IntKind.min, IntKind.max, IntKind.signed, IntKind.bits] using ok1
  obtain ⟨x, rfl⟩ : ∃ x : Nat, x0 = x := ⟨x0.toNat, by omega⟩
  obtain ⟨b, rfl⟩ : ∃ b : Nat, x1 = b := ⟨x1.toNat, by omega⟩
  exact law_ok _ (by unfold M; omega) (by unfold M; omega) x2 x3 (Nat.le_refl _) hb
end Go.Proofs.Ytnnfmgobbhlbiaa.PMixSays
