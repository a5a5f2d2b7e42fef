/- slices.Equal at tokens: two slices that read alike are equal. No condition. -/
import Derived.Test.YthcmjcnilhglmaaProg
import Derived.Test.YthcmjcnilhglmaaEq
import Derived.ProofKit
import Derived.Outline
import Derived.LoopTactic
namespace Go.Proofs.Ythcmjcnilhglmaa
open Go.RowKit
set_option linter.unusedSimpArgs false
set_option linter.unusedVariables false
set_option maxRecDepth 100000 in
theorem eqTok (A B : Option Addr) (c d n : Nat) (xs : List Value) (ls : List TypeId) (hls : leaves Try.prog 3 32 = some ls) (hf : ∀ k, k < n → fits Try.prog ls ((xs.drop (k * 3)).take 3) = true) (hmax : n ≤ 9223372036854775807) (w : World) (ha : Rd w w.heap.size 3 A n xs) (hb : Rd w w.heap.size 3 B n xs) :
    Calls Try.prog 16 #[.slice A n c, .slice B n d] w fun e w' => e = .returned (.bool true) ∧ Below w.heap.size w w' := by
  have hc : Try.prog.cellsOf 32 = 3 := by kernel_rfl
  have hi : (Try.prog.info? 32).map (·.size) = some 3 := by kernel_rfl
  have HF := Lib.hid hf
  have HI := Lib.hid hi
  have HC := Lib.hid hc
  clear hf hi hc
  go_enter Try.func16, Try.ntmps16
  go_wp2
  go_loopw [13] (fun i wr => ∃ k : Nat, k ≤ n ∧ i = .int .i64 k ∧ Below w.heap.size w wr) (fun i _ => n - (intOf i).toNat)
  case atStart => exact ⟨0, by omega, rfl, Below.refl _ _⟩
  case round =>
    obtain ⟨k, hk, rfl, hbw⟩ := hrel
    by_cases hlt : k < n
    · obtain ⟨ad, rfl, _, hca⟩ := (ha.below hbw (Nat.le_refl _)).chunk (by omega) hlt
      obtain ⟨bd, rfl, _, hcb⟩ := (hb.below hbw (Nat.le_refl _)).chunk (by omega) hlt
      have hfk := HF.out k hlt
      obtain ⟨ch, hch⟩ : ∃ ch, ch = (xs.drop (k * 3)).take 3 := ⟨_, rfl⟩
      rw [← hch] at hca hcb hfk
      have hlen : ch.length = 3 := by
        have h1 := ha.1
        have h2 : (k + 1) * 3 ≤ n * 3 := Nat.mul_le_mul_right _ (by omega)
        rw [hch, List.length_take, List.length_drop]; omega
      clear hch
      have HCA := Lib.hid hca
      have HCB := Lib.hid hcb
      have hne : ∀ w, (binOp .neq 32 (.agg ch.toArray) (.agg ch.toArray)).run Try.prog w = .ok (.bool false) w := fun w =>
        run_neq_plain w 3 3 (by omega) 32 ls (by kernel_rfl) hls ch.toArray ch.toArray (by simp [Value.formed, hlen]; kernel_rfl) (by simp [Value.formed, hlen]; kernel_rfl) (by simpa using hfk) (by simpa using hfk) true (by simp)
      clear hca hcb hfk
      go_wp2_with fail
      refine wp_still (by kernel_rfl) (by kernel_rfl) fun wd hwd => ?_
      have hbd : Below w.heap.size w wd := by rw [hwd]; exact hbw.drew
      have hr1 : (loadVar 32 (ad.add (k * 3))).run Try.prog wd = .ok (.agg ch.toArray) wd := by
        rw [hwd]; exact run_loadVar_at _ _ _ ch _ (fun j u hu => HCA.out j u hu) Try.underlying32 rfl (by rw [hlen]; exact HI.out)
      have hr2 : (loadVar 32 (bd.add (k * 3))).run Try.prog wd = .ok (.agg ch.toArray) wd := by
        rw [hwd]; exact run_loadVar_at _ _ _ ch _ (fun j u hu => HCB.out j u hu) Try.underlying32 rfl (by rw [hlen]; exact HI.out)
      have HR1 := Lib.hid hr1
      have HR2 := Lib.hid hr2
      clear hwd hr1 hr2
      iterate 3 still_step
      refine wpStill_load_at rfl 32 (.tmp 18) rfl _ rfl _ HR1.out ?_
      iterate 3 still_step
      refine wpStill_load_at rfl 32 (.tmp 22) rfl _ rfl _ HR2.out ?_
      repeat still_step
      refine wpStill_nil ?_
      go_wp2
      go_roundw
      case rel => exact ⟨k + 1, by omega, by go_num, hbd⟩
      case measure => simp [intOf]; omega
    · obtain rfl : k = n := by omega
      go_wp2
      go_ret
      exact ⟨rfl, hbw⟩
end Go.Proofs.Ythcmjcnilhglmaa
