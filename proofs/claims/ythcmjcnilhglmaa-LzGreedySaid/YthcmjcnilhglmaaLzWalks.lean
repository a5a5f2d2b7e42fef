/- The search for the longest copy and the greedy parse, of package lz and of the reference, walked. No condition. -/
import Derived.Test.YthcmjcnilhglmaaProg
import Derived.Test.YthcmjcnilhglmaaLzMath
import Derived.ProofKit
import Derived.Outline
import Derived.LoopTactic
import Derived.Deep.DeepCutAuto
import Derived.BigQuiet
import Derived.Deep.QuietTactic
namespace Go.Proofs.Ythcmjcnilhglmaa.Lz
open Go.RowKit
attribute [local irreducible] wpStill
set_option linter.unusedSimpArgs false
set_option linter.unusedVariables false
def tok3 (a b c : Nat) : Array Value := #[.int .u8 (a : Nat), .int .i64 (b : Nat), .int .i64 (c : Nat)]
theorem info3 : (Try.prog.info? 32).map (·.size) = some 3 := by kernel_rfl
theorem two_new (w : World) (T : TypeId) (c1 c2 : Array Value) : Below w.heap.size w ((w.alloc (.cells c1 T)).alloc (.cells c2 T)) ∧ Blk ((w.alloc (.cells c1 T)).alloc (.cells c2 T)) w.heap.size T c1 ∧ Blk ((w.alloc (.cells c1 T)).alloc (.cells c2 T)) (w.heap.size + 1) T c2 :=
  ⟨((Below.refl _ _).alloc (Nat.le_refl _) _).alloc (by simp) _, (Blk.new w T c1).alloc _, by
    have := Blk.new (w.alloc (Obj.cells c1 T)) T c2
    simpa using this⟩
set_option maxRecDepth 100000 in
set_option maxHeartbeats 1000000 in
theorem longest_any (s : ByteArray) (hs : s.size ≤ 4096) (at_ : Nat) (hat : at_ < s.size) (w : World) :
    Calls Try.prog 75 #[.string s, .int .i64 at_] w fun e w' => e = .returned (.agg (tok3 0 (best s at_).1 (best s at_).2)) ∧ Below w.heap.size w w' := by
  have hmd : mostAt s at_ = min 255 (s.size - at_) := rfl
  have hbd : best s at_ = bestTo s at_ (min 1024 at_) := rfl
  obtain ⟨most, hmost⟩ : ∃ m, m = mostAt s at_ := ⟨_, rfl⟩
  rw [← hmost] at hmd
  have hm1 : (if (s.size : Int) - at_ < 255 then (s.size : Int) - at_ else 255) = most := by omega
  have hm2 : most ≤ 255 ∧ at_ + most ≤ s.size := by omega
  obtain ⟨lim, hlim⟩ : ∃ m, m = min 1024 at_ := ⟨_, rfl⟩
  have hlm : (if (at_ : Int) < 1024 then (at_ : Int) else 1024) = lim := by omega
  have hl2 : lim ≤ 1024 ∧ lim ≤ at_ := by omega
  rw [← hlim] at hbd
  have HMOST := Lib.hid hmost
  have HBD := Lib.hid hbd
  clear hmost hmd hlim hbd
  go_enter Try.func75, Try.ntmps75
  go_upto_region 3 with fail
  refine wp_abs (fun w1 => Below w.heap.size w w1 ∧ Blk w1 w.heap.size 32 (tok3 0 0 0) ∧ Blk w1 (w.heap.size + 1) 32 (tok3 0 0 0)) (two_new w _ _ _) fun w1 hw1 => ?_
  obtain ⟨hb1, hr1, hk1⟩ := hw1
  obtain ⟨B, hB⟩ : ∃ B, B = w.heap.size := ⟨_, rfl⟩
  rw [← hB] at hr1 hk1 ⊢
  have HB := Lib.hid hB
  clear hB
  go_wp2
  go_loopw [7] (fun d wr => ∃ k : Nat, 1 ≤ k ∧ k ≤ lim + 1 ∧ d = .int .i64 k ∧ ∃ l q : Nat, l ≤ most ∧ Hid (bestTo s at_ (k - 1) = (l, q)) ∧ Blk wr (B + 1) 32 (tok3 0 l q) ∧ Blk wr B 32 (tok3 0 0 0) ∧ Below w.heap.size w wr) (fun d _ => (at_ + 2 - (intOf d)).toNat)
  case atStart => exact ⟨1, by omega, by omega, rfl, 0, 0, by omega, (rfl : bestTo s at_ 0 = (0, 0)), hk1, hr1, hb1⟩
  case round =>
    obtain ⟨k, hk1, hk2, rfl, l, q, hl, hbest, hb, hr, hbw⟩ := hrel
    have c1 : wr.cell? ⟨B + 1, 1, none⟩ = some (.int .i64 (l : Nat)) := hb.cell_at rfl
    by_cases hc : k ≤ lim ∧ l < most
    · obtain ⟨hc1, hc2⟩ := hc
      clear hb1 hr1
      go_wp2
      obtain ⟨wo, rfl⟩ : ∃ wo : World, wo = wr := ⟨_, rfl⟩
      go_loopw [8] (fun n wq => ∃ j : Nat, j ≤ most ∧ n = .int .i64 j ∧ Hid (mlenF (eqAt s at_ k) (most - j) j = lenAt s at_ k) ∧ Blk wq (B + 1) 32 (tok3 0 l q) ∧ Blk wq B 32 (tok3 0 0 0) ∧ Below w.heap.size w wq) (fun n _ => most - (intOf n).toNat)
      case atStart => exact ⟨0, by omega, rfl, (by rw [Nat.sub_zero, HMOST.out]; rfl : mlenF (eqAt s at_ k) (most - 0) 0 = lenAt s at_ k), hb, hr, hbw⟩
      case round =>
        clear c1 hb hr hbw
        obtain ⟨j, hj, rfl, hml, hb2, hr2, hbw2⟩ := hrel
        by_cases hjm : j < most
        · have hi1 : at_ + j < s.size := by omega
          have hi2 : at_ + j - k < s.size := by omega
          have hw1 : IntKind.i64.wrap ((at_ : Int) + j) = (at_ : Int) + j := IntWalk.i64_in _ (by omega)
          have hw2 : IntKind.i64.wrap ((at_ : Int) + j - k) = (at_ : Int) + j - k := IntWalk.i64_in _ (by omega)
          have hstep : mlenF (eqAt s at_ k) (most - j) j = if eqAt s at_ k j then mlenF (eqAt s at_ k) (most - (j + 1)) (j + 1) else j := by
            rw [show most - j = (most - (j + 1)) + 1 from by omega]; rfl
          have hev : (((bAt s (at_ + j) : Nat) : Int) == ((bAt s (at_ + j - k) : Nat) : Int)) = eqAt s at_ k j := by
            unfold eqAt; rw [Bool.eq_iff_iff]; simp; omega
          have HML := Lib.hid (hml.out.symm.trans hstep)
          obtain ⟨y, hy⟩ : ∃ y, y = eqAt s at_ k j := ⟨_, rfl⟩
          rw [← hy] at hev HML
          clear hml hstep hy
          go_wp2_with fail
          refine wp_still (by kernel_rfl) (by kernel_rfl) fun wd hwd => ?_
          have hb3 : Blk wd (B + 1) 32 (tok3 0 l q) := by rw [hwd]; exact hb2
          have hr3 : Blk wd B 32 (tok3 0 0 0) := by rw [hwd]; exact hr2
          have hbw3 : Below w.heap.size w wd := by rw [hwd]; exact hbw2.drew
          clear hwd hb2 hr2 hbw2
          iterate 8 still_step
          refine wpStill_index_at rfl 9 (.tmp 30) (.tmp 33) rfl _ _ _ (at_ + j) rfl rfl (by first | omega | (simp only [hw1, hw2]; omega)) hi1 Try.underlying9 ?_
          iterate 6 still_step
          refine wpStill_index_at rfl 9 (.tmp 35) (.tmp 40) rfl _ _ _ (at_ + j - k) rfl rfl (by first | omega | (simp only [hw1, hw2]; omega) | (simp only [hw1]; omega)) hi2 Try.underlying9 ?_
          repeat still_step
          refine wpStill_nil ?_
          clear hw1 hw2
          have d1 : wd.cell? ⟨B + 1, 1, none⟩ = some (.int .i64 (l : Nat)) := hb3.cell_at rfl
          cases y with
          | true =>
            go_wp2
            go_roundw
            case rel => exact ⟨j + 1, by omega, by go_num, (by have := HML.out; rw [if_pos rfl] at this; exact this.symm), hb3, hr3, hbw3⟩
            case measure => simp [intOf]; omega
          | false =>
            have hj2 : lenAt s at_ k = j := by have := HML.out; rw [if_neg (by simp)] at this; exact this
            have HJ := Lib.hid hj2
            clear hj2 HML
            have hbs : bestTo s at_ k = if l < j then (j, k) else (l, q) := by
              have hk' : k = (k - 1) + 1 := by omega
              have h1 : bestTo s at_ ((k - 1) + 1) = if (bestTo s at_ (k - 1)).1 < lenAt s at_ ((k - 1) + 1) then (lenAt s at_ ((k - 1) + 1), (k - 1) + 1) else bestTo s at_ (k - 1) := rfl
              rw [← hk', hbest.out, HJ.out] at h1
              exact h1
            have HBS := Lib.hid hbs
            clear hbs
            by_cases hlj : l < j
            · go_wp2_with (refine wpList_store_lit rfl 32 (.tmp 5) (.tmp 52) rfl (B + 1) _ rfl rfl 32 (tok3 0 l q) hb3 info3 rfl rfl ?_)
              go_roundw
              case rel => exact ⟨k + 1, by omega, by omega, by go_num, j, k, by omega, (by rw [show k + 1 - 1 = k from by omega, HBS.out, if_pos hlj] : bestTo s at_ (k + 1 - 1) = (j, k)), hb3.setRow _, hr3.setRow_far (by omega) _, bel_setRow hbw3 (by have := HB.out; omega) _⟩
              case measure => simp only [intOf]; omega
            · go_wp2
              go_roundw
              case rel => exact ⟨k + 1, by omega, by omega, by go_num, l, q, by omega, (by rw [show k + 1 - 1 = k from by omega, HBS.out, if_neg (by omega)] : bestTo s at_ (k + 1 - 1) = (l, q)), hb3, hr3, hbw3⟩
              case measure => simp only [intOf]; omega
        · have hd : decide ((j : Int) < (most : Int)) = false := by simp; omega
          have hj2 : lenAt s at_ k = j := by have := hml.out; rw [show most - j = 0 from by omega] at this; exact this.symm
          have HJ := Lib.hid hj2
          have d1 : wr.cell? ⟨B + 1, 1, none⟩ = some (.int .i64 (l : Nat)) := hb2.cell_at rfl
          clear hj2 hml
          go_wp2_with fail
          go_quiet (fail)
          have hb3 := hb2.drewN nq
          have hr3 := hr2.drewN nq
          have hbw3 := bel_drewN hbw2 nq
          obtain ⟨wd, hwd⟩ : ∃ wd, wd = wr.drewN nq := ⟨_, rfl⟩
          rw [← hwd] at hb3 hr3 hbw3 ⊢
          clear hwd d1 hb2 hr2 hbw2
          have d1 : wd.cell? ⟨B + 1, 1, none⟩ = some (.int .i64 (l : Nat)) := hb3.cell_at rfl
          have hbs : bestTo s at_ k = if l < j then (j, k) else (l, q) := by
            have hk' : k = (k - 1) + 1 := by omega
            have h1 : bestTo s at_ ((k - 1) + 1) = if (bestTo s at_ (k - 1)).1 < lenAt s at_ ((k - 1) + 1) then (lenAt s at_ ((k - 1) + 1), (k - 1) + 1) else bestTo s at_ (k - 1) := rfl
            rw [← hk', hbest.out, HJ.out] at h1
            exact h1
          have HBS := Lib.hid hbs
          clear hbs
          by_cases hlj : l < j
          · go_wp2_with (refine wpList_store_lit rfl 32 (.tmp 5) (.tmp 52) rfl (B + 1) _ rfl rfl 32 (tok3 0 l q) hb3 info3 rfl rfl ?_)
            go_roundw
            case rel => exact ⟨k + 1, by omega, by omega, by go_num, j, k, by omega, (by rw [show k + 1 - 1 = k from by omega, HBS.out, if_pos hlj] : bestTo s at_ (k + 1 - 1) = (j, k)), hb3.setRow _, hr3.setRow_far (by omega) _, bel_setRow hbw3 (by have := HB.out; omega) _⟩
            case measure => simp only [intOf]; omega
          · exact absurd (show l < j by omega) hlj
    · have hfin : (best s at_).1 = l ∧ (best s at_).2 = q := by
        have h1 : bestTo s at_ lim = (l, q) := by
          by_cases hk' : k = lim + 1
          · have := hbest.out; rw [hk', show lim + 1 - 1 = lim from by omega] at this; exact this
          · have h2 := hbest.out
            rw [bestTo_stop s at_ (k - 1) (by rw [h2, ← HMOST.out]; show l = most; omega) lim (by omega), h2]
        rw [HBD.out, h1]; exact ⟨rfl, rfl⟩
      have HF := Lib.hid hfin
      clear hfin
      have hsplit : lim < k ∨ (k ≤ lim ∧ l = most) := by omega
      rcases hsplit with hk3 | ⟨hk3, rfl⟩
      all_goals
        clear hc
        go_wp2_with (first
          | (refine wpList_load_blk rfl 32 (.tmp 5) rfl (B + 1) rfl 32 (tok3 0 _ q) _ hb Try.underlying32 rfl info3 ?_)
          | (refine wpList_store_lit rfl 32 (.tmp 4) (.tmp 53) rfl B _ rfl rfl 32 (tok3 0 0 0) hr info3 rfl rfl ?_))
        refine bodyPost_ret (results_blk1 rfl _ _ B 32 (tok3 0 _ q) _ rfl (hr.setRow _) Try.underlying32 rfl info3) rfl ⟨?_, ?_⟩
        · rw [HF.out.1, HF.out.2]
        · exact bel_setRow hbw (by have := HB.out; omega) _
end Go.Proofs.Ythcmjcnilhglmaa.Lz
