/- Greedy of package lz and of the reference, walked. No condition. -/
import Derived.Test.YthcmjcnilhglmaaLzWalks
namespace Go.Proofs.Ythcmjcnilhglmaa.Lz
open Go.RowKit
set_option linter.unusedSimpArgs false
set_option linter.unusedVariables false
theorem tinfo : (Try.prog.info? 32).map (fun i => (i.zero, i.size, i.bytes)) = some (some (.agg #[.int .u8 0, .int .i64 0, .int .i64 0]), 3, 24) := by kernel_rfl
theorem cells_one (t : Tok) : ∀ u ∈ t.cells, u.oneCell' = true := by
  intro u hu
  simp only [Tok.cells, List.mem_cons, List.not_mem_nil, or_false] at hu
  rcases hu with rfl | rfl | rfl <;> rfl
theorem tok3_toList (a b c : Nat) : (tok3 a b c).toList = (⟨a, b, c⟩ : Tok).cells := rfl
set_option maxRecDepth 100000 in
set_option maxHeartbeats 1000000 in
theorem greedy_any (s : ByteArray) (hs : s.size ≤ 4096) (w : World) :
    Calls Try.prog 15 #[.string s] w fun e w' => ∃ v, e = .returned (.tuple #[v, .int .i64 0]) ∧ w'.ownsRow w.heap.size 32 3 v (toksFrom s 0).length ((toksFrom s 0).flatMap Tok.cells) ∧ Below w.heap.size w w' := by
  obtain ⟨i0, hi, hz0, hz1, hz2⟩ := info_parts tinfo
  go_enter Try.func15, Try.ntmps15
  go_wp2
  go_loopw [4, 5] (fun v i wr => ∃ at_ : Nat, i = .int .i64 at_ ∧ ∃ done : List Tok, Hid (done ++ toksFrom s at_ = toksFrom s 0) ∧ done.length ≤ at_ ∧ at_ ≤ s.size ∧ wr.ownsRow w.heap.size 32 3 v done.length (done.flatMap Tok.cells) ∧ Below w.heap.size w wr) (fun _ i _ => s.size - (intOf i).toNat)
  case atStart => exact ⟨0, rfl, [], rfl, by simp, by omega, World.ownsRow_nil _ _ _ _, Below.refl _ _⟩
  case round =>
    obtain ⟨at_, rfl, done, hdone, hdl, hle, hown, hbw⟩ := hrel
    obtain ⟨v, rfl⟩ : ∃ v, v = u4 := ⟨_, rfl⟩
    by_cases hlt : at_ < s.size
    · have hstep := toksFrom_step s at_ hlt
      have htk := tokAt_len s at_
      have hbm := best_le s at_
      have hmd : mostAt s at_ ≤ s.size - at_ := by unfold mostAt; omega
      have hzero : (best s at_).1 = 0 → (best s at_).2 = 0 := bestTo_zero s at_ _
      have htok : tokAt s at_ = if (best s at_).1 = 0 then ⟨bAt s at_, 0, 0⟩ else ⟨0, (best s at_).1, (best s at_).2⟩ := rfl
      obtain ⟨l, hl⟩ : ∃ l, l = (best s at_).1 := ⟨_, rfl⟩
      obtain ⟨q, hq⟩ : ∃ q, q = (best s at_).2 := ⟨_, rfl⟩
      have hlong := longest_any s hs at_ hlt
      rw [← hl, ← hq] at hlong hzero htok
      rw [← hl] at hstep hbm
      have HSTEP := Lib.hid hstep
      have HTOK := Lib.hid htok
      have HZERO := Lib.hid hzero
      clear hstep htok hl hq htk hzero
      go_upto_region 7 with (first
        | (go_at_call 75; refine (hlong _).mono ?_; rintro e w1 ⟨rfl, hb1⟩)
        | (refine wpList_store_lit rfl 32 (.tmp 6) (.tmp 16) rfl _ (tok3 0 l q) rfl rfl 32 (tok3 0 0 0) (Blk.new w1 _ _) info3 rfl rfl ?_))
      have hgw := hb1.size
      have hown1 := own_below hown hb1 (Nat.le_refl _)
      have hbw1 := hbw.trans (hb1.mono hbw.size)
      have hne1 := own_ne hown1 (Nat.le_refl _)
      refine wp_abs (fun w2 => Below w.heap.size w w2 ∧ w2.ownsRow w.heap.size 32 3 v done.length (done.flatMap Tok.cells) ∧ Blk w2 w1.heap.size 32 (tok3 0 l q))
        ⟨bel_setRow (hbw1.alloc hbw1.size _) (by have := hbw1.size; omega) _, own_setRow (hown1.alloc _) hne1 _, (Blk.new w1 32 (tok3 0 0 0)).setRow _⟩ fun w2 hw2 => ?_
      obtain ⟨hb2, hown2, hk2⟩ := hw2
      have hge : w.heap.size ≤ w1.heap.size := hbw1.size
      obtain ⟨g, hg⟩ : ∃ g, g = w1.heap.size := ⟨_, rfl⟩
      rw [← hg] at hk2 hne1 hge ⊢
      clear hg hb1 hown1 hbw1 hgw hlong
      have d1 : w2.cell? ⟨g, 1, none⟩ = some (.int .i64 (l : Nat)) := hk2.cell_at rfl
      have d0 : w2.cell? ⟨g, 0, none⟩ = some (.int .u8 ((0 : Nat) : Int)) := hk2.cell_at rfl
      have f0 := hk2.frozen 0
      by_cases hl0 : l = 0
      · have hq0 := HZERO.out hl0
        have htk : tokAt s at_ = ⟨bAt s at_, 0, 0⟩ := by rw [HTOK.out, if_pos hl0]
        subst hl0 hq0
        clear HZERO HTOK
        go_upto_region 9 with (refine wpList_index_at rfl 9 (.tmp 20) (.tmp 21) rfl _ _ _ at_ rfl rfl rfl hlt Try.underlying9 ?_)
        refine wp_abs (fun w3 => Below w.heap.size w w3 ∧ w3.ownsRow w.heap.size 32 3 v done.length (done.flatMap Tok.cells) ∧ Blk w3 g 32 (tok3 (bAt s at_) 0 0))
          ⟨hb2.setCell (p := ⟨g, 0, none⟩) hge _, own_setCell (p := ⟨g, 0, none⟩) hown2 hne1 _, hk2.set 0 _⟩ fun w3 hw3 => ?_
        obtain ⟨hb3, hown3, hk3⟩ := hw3
        clear hb2 hown2 hk2 d1 d0 f0
        have HTK := Lib.hid htk
        clear htk
        have hg4 : v.ownBlock ≠ some g := hne1
        go_wp2_with (first
          | (refine wpList_load_blk rfl 32 (.tmp 6) rfl g rfl 32 #[.int .u8 ((bAt s at_ : Nat) : Int), .int .i64 ((0 : Nat) : Int), .int .i64 ((0 : Nat) : Int)] _ hk3 Try.underlying32 rfl info3 ?_)
          | (refine wpList_append_rd rfl (.tmp 24) (.tmp 26) 27 rfl w.heap.size 32 i0 _ 3 24 Try.underlying27 hi hz0 hz1 hz2 rfl (by decide) v done.length (done.flatMap Tok.cells) rfl (hown3.alloc _) _ (w3.heap.size + 1) 1 1 (tokAt s at_).cells rfl (by rw [HTK.out]; exact Rd.lit w3 _ _ _ _ _ (fun j u hu => hu) rfl (by omega)) (by omega) (cells_one _) (by simp only [maxLen]; omega) (by omega) (by have := hb3.size; simp; omega) ?_; intro v' w4 hown4 hb4 hgr4 _; have hk4 := (hk3.alloc _).grown hgr4 (fun e => hg4 e.symm); have d4 : w4.cell? ⟨g, 1, none⟩ = some (.int .i64 ((0 : Nat) : Int)) := hk4.cell_at rfl; have hbw4 : Below w.heap.size w w4 := (hb3.alloc hb3.size _).trans hb4))
        go_roundw
        case rel =>
          refine ⟨at_ + max 0 1, by go_num, done ++ [tokAt s at_], ?_, ?_, ?_, ?_, hbw4⟩
          · have := hdone.out
            rw [HSTEP.out] at this
            show (done ++ [tokAt s at_]) ++ toksFrom s (at_ + max 0 1) = _
            rw [← this, List.append_assoc]; rfl
          · rw [List.length_append]; simp; omega
          · omega
          · rw [List.length_append, List.flatMap_append]
            simpa using hown4
        case measure => simp only [intOf]; omega
      · have hne : ((l : Int) == 0) = false := by rw [beq_eq_false_iff_ne]; omega
        have hlm : ¬ ((l : Int) < 1) := by omega
        have htk : tokAt s at_ = ⟨0, l, q⟩ := by rw [HTOK.out, if_neg hl0]
        clear HZERO HTOK hl0
        go_upto_region 9 with fail
        refine wp_abs (fun w3 => Below w.heap.size w w3 ∧ w3.ownsRow w.heap.size 32 3 v done.length (done.flatMap Tok.cells) ∧ Blk w3 g 32 (tok3 0 l q))
          ⟨hb2, hown2, hk2⟩ fun w3 hw3 => ?_
        obtain ⟨hb3, hown3, hk3⟩ := hw3
        clear hb2 hown2 hk2 d1 d0 f0
        have HTK := Lib.hid htk
        clear htk
        have hg4 : v.ownBlock ≠ some g := hne1
        go_wp2_with (first
          | (refine wpList_load_blk rfl 32 (.tmp 6) rfl g rfl 32 #[.int .u8 ((0 : Nat) : Int), .int .i64 ((l : Nat) : Int), .int .i64 ((q : Nat) : Int)] _ hk3 Try.underlying32 rfl info3 ?_)
          | (refine wpList_append_rd rfl (.tmp 24) (.tmp 26) 27 rfl w.heap.size 32 i0 _ 3 24 Try.underlying27 hi hz0 hz1 hz2 rfl (by decide) v done.length (done.flatMap Tok.cells) rfl (hown3.alloc _) _ (w3.heap.size + 1) 1 1 (tokAt s at_).cells rfl (by rw [HTK.out]; exact Rd.lit w3 _ _ _ _ _ (fun j u hu => hu) rfl (by omega)) (by omega) (cells_one _) (by simp only [maxLen]; omega) (by omega) (by have := hb3.size; simp; omega) ?_; intro v' w4 hown4 hb4 hgr4 _; have hk4 := (hk3.alloc _).grown hgr4 (fun e => hg4 e.symm); have d4 : w4.cell? ⟨g, 1, none⟩ = some (.int .i64 ((l : Nat) : Int)) := hk4.cell_at rfl; have hbw4 : Below w.heap.size w w4 := (hb3.alloc hb3.size _).trans hb4))
        go_roundw
        case rel =>
          refine ⟨at_ + max l 1, by go_num, done ++ [tokAt s at_], ?_, ?_, ?_, ?_, hbw4⟩
          · have := hdone.out
            rw [HSTEP.out] at this
            show (done ++ [tokAt s at_]) ++ toksFrom s (at_ + max l 1) = _
            rw [← this, List.append_assoc]; rfl
          · rw [List.length_append]; simp; omega
          · omega
          · rw [List.length_append, List.flatMap_append]
            simpa using hown4
        case measure => simp only [intOf]; omega
    · have hend : done = toksFrom s 0 := by
        have := hdone.out
        rw [toksFrom_end s at_ (by omega), List.append_nil] at this
        exact this
      have HEND := Lib.hid hend
      clear hend
      go_wp2
      go_ret2
      exact ⟨v, rfl, by rw [← HEND.out]; exact hown, hbw⟩
end Go.Proofs.Ythcmjcnilhglmaa.Lz
