/- Greedy of the reference, walked. No condition. -/
import Derived.Test.YthcmjcnilhglmaaLzGreedy
namespace Go.Proofs.Ythcmjcnilhglmaa.Lz
open Go.RowKit
attribute [local irreducible] wpStill
set_option linter.unusedSimpArgs false
set_option linter.unusedVariables false
/-- the letter beside a copy of length l: the byte itself where there is no copy -/
def ltok (s : ByteArray) (at_ l : Nat) : Nat := if l = 0 then bAt s at_ else 0
set_option maxRecDepth 100000 in
set_option maxHeartbeats 2000000 in
theorem rgreedy_any (s : ByteArray) (hs : s.size ≤ 4096) (w : World) :
    Calls Try.prog 17 #[.string s] w fun e w' => ∃ v, e = .returned v ∧ w'.ownsRow w.heap.size 32 3 v (toksFrom s 0).length ((toksFrom s 0).flatMap Tok.cells) ∧ Below w.heap.size w w' := by
  obtain ⟨i0, hi, hz0, hz1, hz2⟩ := info_parts tinfo
  go_enter Try.func17, Try.ntmps17
  go_wp2
  go_loopw [3, 4] (fun v i wr => ∃ at_ : Nat, i = .int .i64 at_ ∧ ∃ done : List Tok, Hid (done ++ toksFrom s at_ = toksFrom s 0) ∧ done.length ≤ at_ ∧ at_ ≤ s.size ∧ wr.ownsRow w.heap.size 32 3 v done.length (done.flatMap Tok.cells) ∧ Below w.heap.size w wr) (fun _ i _ => s.size - (intOf i).toNat)
  case atStart => exact ⟨0, rfl, [], rfl, by simp, by omega, World.ownsRow_nil _ _ _ _, Below.refl _ _⟩
  case round =>
    obtain ⟨at_, rfl, done, hdone, hdl, hle, hown, hbw0⟩ := hrel
    obtain ⟨v, rfl⟩ : ∃ v, v = u3 := ⟨_, rfl⟩
    obtain ⟨wo, rfl⟩ : ∃ wo : World, wo = wr := ⟨_, rfl⟩
    by_cases hlt : at_ < s.size
    · have hstep := toksFrom_step s at_ hlt
      have hmd : mostAt s at_ = min 255 (s.size - at_) := rfl
      have hbd : best s at_ = bestTo s at_ (min 1024 at_) := rfl
      obtain ⟨most, hmost⟩ : ∃ m, m = mostAt s at_ := ⟨_, rfl⟩
      rw [← hmost] at hmd
      have hm2 : most ≤ 255 ∧ at_ + most ≤ s.size ∧ (most = 255 ∨ at_ + most = s.size) := by omega
      obtain ⟨lim, hlim⟩ : ∃ m, m = min 1024 at_ := ⟨_, rfl⟩
      have hl2 : lim ≤ 1024 ∧ lim ≤ at_ ∧ (lim = 1024 ∨ lim = at_) := by omega
      rw [← hlim] at hbd
      have HMOST := Lib.hid hmost
      have HBD := Lib.hid hbd
      clear hmost hmd hlim hbd
      go_upto_region 5 with (first
        | (refine wpList_index_at rfl 9 (.tmp 12) (.tmp 13) rfl _ _ _ at_ rfl rfl rfl hlt Try.underlying9 ?_)
        | (refine wpList_store_lit rfl 32 (.tmp 5) (.tmp 15) rfl _ _ rfl rfl 32 (tok3 0 0 0) (Blk.new wo _ _) info3 rfl rfl ?_))
      have hne0 := own_ne hown (Nat.le_refl _)
      refine wp_abs (fun w2 => Below w.heap.size w w2 ∧ w2.ownsRow w.heap.size 32 3 v done.length (done.flatMap Tok.cells) ∧ Blk w2 wo.heap.size 32 (tok3 (bAt s at_) 0 0)) ⟨?_, ?_, ?_⟩ fun w2 hw2 => ?_
      · first
          | exact bel_setRow (hbw0.alloc hbw0.size _) hbw0.size _
          | exact hbw0.alloc hbw0.size _
      · first
          | exact own_setRow (hown.alloc _) hne0 _
          | exact hown.alloc _
      · first
          | exact (Blk.new wo 32 (tok3 0 0 0)).setRow _
          | exact Blk.new wo 32 _
      obtain ⟨hb2, hown2, hk2⟩ := hw2
      have hgb : w.heap.size ≤ wo.heap.size := hbw0.size
      obtain ⟨g, hg⟩ : ∃ g, g = wo.heap.size := ⟨_, rfl⟩
      rw [← hg] at hk2 hne0 hgb ⊢
      have hgv := hne0
      clear hg hown hbw0
      go_wp2
      go_loopw [6] (fun d wr => ∃ k : Nat, 1 ≤ k ∧ k ≤ lim + 1 ∧ d = .int .i64 k ∧ ∃ l q : Nat, l ≤ most ∧ Hid (bestTo s at_ (k - 1) = (l, q)) ∧ Blk wr g 32 (tok3 (ltok s at_ l) l q) ∧ wr.ownsRow w.heap.size 32 3 v done.length (done.flatMap Tok.cells) ∧ Below w.heap.size w wr) (fun d _ => (at_ + 2 - (intOf d)).toNat)
      case atStart => exact ⟨1, by omega, by omega, rfl, 0, 0, by omega, (rfl : bestTo s at_ 0 = (0, 0)), hk2, hown2, hb2⟩
      case round =>
        clear hb2 hown2 hk2
        obtain ⟨k, hk1, hk2, rfl, l, q, hl, hbest, hb, ho, hbw⟩ := hrel
        by_cases hc : k ≤ lim
        · go_wp2
          obtain ⟨wi, rfl⟩ : ∃ wi : World, wi = wr := ⟨_, rfl⟩
          have hdk : decide (k ≤ at_) = true := by simp; omega
          rw [hdk]
          clear hdk
          go_loopw [7] (fun n wq => ∃ j : Nat, j ≤ most ∧ n = .int .i64 j ∧ Hid (mlenF (eqAt s at_ k) (most - j) j = lenAt s at_ k) ∧ Blk wq g 32 (tok3 (ltok s at_ l) l q) ∧ wq.ownsRow w.heap.size 32 3 v done.length (done.flatMap Tok.cells) ∧ Below w.heap.size w wq) (fun n _ => most - (intOf n).toNat)
          case atStart => exact ⟨0, by omega, rfl, (by rw [Nat.sub_zero, HMOST.out]; rfl : mlenF (eqAt s at_ k) (most - 0) 0 = lenAt s at_ k), hb, ho, hbw⟩
          case round =>
            clear hb ho hbw
            obtain ⟨j, hj, rfl, hml, hb2, ho2, hbw2⟩ := hrel
            by_cases hjm : j < most
            · have hi1 : at_ + j < s.size := by omega
              have hi2 : at_ + j - k < s.size := by omega
              have hj255 : j < 255 := by omega
              have hw1 : IntKind.i64.wrap ((at_ : Int) + j) = (at_ : Int) + j := IntWalk.i64_in _ (by omega)
              have hw2 : IntKind.i64.wrap ((at_ : Int) + j - k) = (at_ : Int) + j - k := IntWalk.i64_in _ (by omega)
              have hstep2 : mlenF (eqAt s at_ k) (most - j) j = if eqAt s at_ k j then mlenF (eqAt s at_ k) (most - (j + 1)) (j + 1) else j := by
                rw [show most - j = (most - (j + 1)) + 1 from by omega]; rfl
              have hev : (((bAt s (at_ + j) : Nat) : Int) == ((bAt s (at_ + j - k) : Nat) : Int)) = eqAt s at_ k j := by
                unfold eqAt; rw [Bool.eq_iff_iff]; simp; omega
              have HML := Lib.hid (hml.out.symm.trans hstep2)
              obtain ⟨y, hy⟩ : ∃ y, y = eqAt s at_ k j := ⟨_, rfl⟩
              rw [← hy] at hev HML
              have t1 : decide ((j : Int) < 255) = true := by simp; omega
              have t2 : decide ((at_ : Int) + j < (s.size : Int)) = true := by simp; omega
              clear hml hstep2 hy
              go_wp2_with fail
              refine wp_still (by kernel_rfl) (by kernel_rfl) fun wd hwd => ?_
              have hb3 : Blk wd g 32 (tok3 (ltok s at_ l) l q) := by rw [hwd]; exact hb2
              have ho3 : wd.ownsRow w.heap.size 32 3 v done.length (done.flatMap Tok.cells) := by rw [hwd]; exact ho2
              have hbw3 : Below w.heap.size w wd := by rw [hwd]; exact hbw2.drew
              clear hwd hb2 ho2 hbw2
              iterate 15 still_step
              refine wpStill_index_at rfl 9 (.tmp 36) (.tmp 39) rfl _ _ _ (at_ + j) rfl rfl (by first | omega | (simp only [hw1, hw2]; omega)) hi1 Try.underlying9 ?_
              iterate 6 still_step
              refine wpStill_index_at rfl 9 (.tmp 41) (.tmp 46) rfl _ _ _ (at_ + j - k) rfl rfl (by first | omega | (simp only [hw1, hw2]; omega) | (simp only [hw1]; omega)) hi2 Try.underlying9 ?_
              repeat still_step
              refine wpStill_nil ?_
              clear hw1 hw2 t1 t2
              have d1 : wd.cell? ⟨g, 1, none⟩ = some (.int .i64 (l : Nat)) := hb3.cell_at rfl
              cases y with
              | true =>
                have hnext : Hid (mlenF (eqAt s at_ k) (most - (j + 1)) (j + 1) = lenAt s at_ k) := by have := HML.out; rw [if_pos rfl] at this; exact this.symm
                clear HML
                go_wp2
                go_roundw
                case rel =>
                  exact ⟨j + 1, by omega, by go_num, hnext, hb3, ho3, hbw3⟩
                case measure => simp [intOf]; omega
              | false =>
                have hj2 : lenAt s at_ k = j := by have := HML.out; rw [if_neg (by simp)] at this; exact this
                have HJ := Lib.hid hj2
                clear hj2 HML
                have hbs : bestTo s at_ k = if l < j then (j, k) else (l, q) := by
                  have hk' : k = (k - 1) + 1 := by omega
                  have h1 : bestTo s at_ ((k - 1) + 1) = if (bestTo s at_ (k - 1)).1 < lenAt s at_ ((k - 1) + 1) then (lenAt s at_ ((k - 1) + 1), (k - 1) + 1) else bestTo s at_ (k - 1) := rfl
                  rw [← hk', hbest.out, HJ.out] at h1
                  exact h1
                have HBS := Lib.hid hbs
                clear hbs
                by_cases hlj : l < j
                · go_wp2_with (refine wpList_store_lit rfl 32 (.tmp 5) (.tmp 58) rfl g _ rfl rfl 32 (tok3 (ltok s at_ l) l q) hb3 info3 rfl rfl ?_)
                  go_roundw
                  case rel => exact ⟨k + 1, by omega, by omega, by go_num, j, k, by omega, (by rw [show k + 1 - 1 = k from by omega, HBS.out, if_pos hlj] : bestTo s at_ (k + 1 - 1) = (j, k)), (by rw [show ltok s at_ j = 0 from by unfold ltok; rw [if_neg (by omega)]]; exact hb3.setRow _), own_setRow ho3 hgv _, bel_setRow hbw3 hgb _⟩
                  case measure => simp only [intOf]; omega
                · go_wp2
                  go_roundw
                  case rel => exact ⟨k + 1, by omega, by omega, by go_num, l, q, by omega, (by rw [show k + 1 - 1 = k from by omega, HBS.out, if_neg (by omega)] : bestTo s at_ (k + 1 - 1) = (l, q)), hb3, ho3, hbw3⟩
                  case measure => simp only [intOf]; omega
            · have hj2 : lenAt s at_ k = j := by have := hml.out; rw [show most - j = 0 from by omega] at this; exact this.symm
              have HJ := Lib.hid hj2
              have d1 : wr.cell? ⟨g, 1, none⟩ = some (.int .i64 (l : Nat)) := hb2.cell_at rfl
              clear hj2 hml
              have hsp : j = 255 ∨ (j < 255 ∧ at_ + j = s.size) := by omega
              rcases hsp with h255 | ⟨h255, hend⟩
              · have t1 : decide ((j : Int) < 255) = false := by simp; omega
                have H255 := Lib.hid h255
                clear h255
                go_wp2_with fail
                go_quiet (fail)
                have hb3 := hb2.drewN nq
                have ho3 := own_drewN ho2 nq
                have hbw3 := bel_drewN hbw2 nq
                obtain ⟨wd, hwd⟩ : ∃ wd, wd = wr.drewN nq := ⟨_, rfl⟩
                rw [← hwd] at hb3 ho3 hbw3 ⊢
                clear hwd d1 hb2 ho2 hbw2
                have d1 : wd.cell? ⟨g, 1, none⟩ = some (.int .i64 (l : Nat)) := hb3.cell_at rfl
                have hbs : bestTo s at_ k = if l < j then (j, k) else (l, q) := by
                  have hk' : k = (k - 1) + 1 := by omega
                  have h1 : bestTo s at_ ((k - 1) + 1) = if (bestTo s at_ (k - 1)).1 < lenAt s at_ ((k - 1) + 1) then (lenAt s at_ ((k - 1) + 1), (k - 1) + 1) else bestTo s at_ (k - 1) := rfl
                  rw [← hk', hbest.out, HJ.out] at h1
                  exact h1
                have HBS := Lib.hid hbs
                clear hbs
                by_cases hlj : l < j
                · go_wp2_with (refine wpList_store_lit rfl 32 (.tmp 5) (.tmp 58) rfl g _ rfl rfl 32 (tok3 (ltok s at_ l) l q) hb3 info3 rfl rfl ?_)
                  go_roundw
                  case rel => exact ⟨k + 1, by omega, by omega, by go_num, j, k, by omega, (by rw [show k + 1 - 1 = k from by omega, HBS.out, if_pos hlj] : bestTo s at_ (k + 1 - 1) = (j, k)), (by rw [show ltok s at_ j = 0 from by unfold ltok; rw [if_neg (by omega)]]; exact hb3.setRow _), own_setRow ho3 hgv _, bel_setRow hbw3 hgb _⟩
                  case measure => simp only [intOf]; omega
                · go_wp2
                  go_roundw
                  case rel => exact ⟨k + 1, by omega, by omega, by go_num, l, q, by omega, (by rw [show k + 1 - 1 = k from by omega, HBS.out, if_neg (by omega)] : bestTo s at_ (k + 1 - 1) = (l, q)), hb3, ho3, hbw3⟩
                  case measure => simp only [intOf]; omega
              · have t1 : decide ((j : Int) < 255) = true := by simp; omega
                have t2 : decide ((at_ : Int) + j < (s.size : Int)) = false := by simp; omega
                have hw1 : IntKind.i64.wrap ((at_ : Int) + j) = (at_ : Int) + j := IntWalk.i64_in _ (by omega)
                have HEND := Lib.hid hend
                clear hend
                go_wp2_with fail
                go_quiet (fail)
                have hb3 := hb2.drewN nq
                have ho3 := own_drewN ho2 nq
                have hbw3 := bel_drewN hbw2 nq
                obtain ⟨wd, hwd⟩ : ∃ wd, wd = wr.drewN nq := ⟨_, rfl⟩
                rw [← hwd] at hb3 ho3 hbw3 ⊢
                clear hwd d1 hb2 ho2 hbw2
                have d1 : wd.cell? ⟨g, 1, none⟩ = some (.int .i64 (l : Nat)) := hb3.cell_at rfl
                clear hw1
                have hbs : bestTo s at_ k = if l < j then (j, k) else (l, q) := by
                  have hk' : k = (k - 1) + 1 := by omega
                  have h1 : bestTo s at_ ((k - 1) + 1) = if (bestTo s at_ (k - 1)).1 < lenAt s at_ ((k - 1) + 1) then (lenAt s at_ ((k - 1) + 1), (k - 1) + 1) else bestTo s at_ (k - 1) := rfl
                  rw [← hk', hbest.out, HJ.out] at h1
                  exact h1
                have HBS := Lib.hid hbs
                clear hbs
                by_cases hlj : l < j
                · go_wp2_with (refine wpList_store_lit rfl 32 (.tmp 5) (.tmp 58) rfl g _ rfl rfl 32 (tok3 (ltok s at_ l) l q) hb3 info3 rfl rfl ?_)
                  go_roundw
                  case rel => exact ⟨k + 1, by omega, by omega, by go_num, j, k, by omega, (by rw [show k + 1 - 1 = k from by omega, HBS.out, if_pos hlj] : bestTo s at_ (k + 1 - 1) = (j, k)), (by rw [show ltok s at_ j = 0 from by unfold ltok; rw [if_neg (by omega)]]; exact hb3.setRow _), own_setRow ho3 hgv _, bel_setRow hbw3 hgb _⟩
                  case measure => simp only [intOf]; omega
                · go_wp2
                  go_roundw
                  case rel => exact ⟨k + 1, by omega, by omega, by go_num, l, q, by omega, (by rw [show k + 1 - 1 = k from by omega, HBS.out, if_neg (by omega)] : bestTo s at_ (k + 1 - 1) = (l, q)), hb3, ho3, hbw3⟩
                  case measure => simp only [intOf]; omega
        · have d1 : wr.cell? ⟨g, 1, none⟩ = some (.int .i64 (l : Nat)) := hb.cell_at rfl
          have htk : tokAt s at_ = ⟨ltok s at_ l, l, q⟩ := by
            have h1 : best s at_ = (l, q) := by
              have := hbest.out; rw [show k - 1 = lim from by omega] at this; rw [HBD.out]; exact this
            unfold tokAt ltok
            rw [h1]
            by_cases hl0 : l = 0
            · have hq : q = 0 := by
                have := bestTo_zero s at_ lim (by rw [← HBD.out, h1]; exact hl0)
                rw [← HBD.out, h1] at this; exact this
              subst hl0 hq; rfl
            · rw [if_neg hl0, if_neg hl0]
          have hbl : l = (best s at_).1 := by rw [← tokAt_len, htk]
          have HSTEP := Lib.hid hstep
          have HTK := Lib.hid htk
          have HBL := Lib.hid hbl
          clear hstep htk hbl
          have hk3 : 1024 < k ∨ (k ≤ 1024 ∧ at_ < k) := by omega
          rcases hk3 with hk3 | ⟨hk3, hk4⟩
          · clear hc
            go_upto_region 14 with (first
              | (refine wpList_load_blk rfl 32 (.tmp 5) rfl g rfl 32 #[.int .u8 ((ltok s at_ l : Nat) : Int), .int .i64 ((l : Nat) : Int), .int .i64 ((q : Nat) : Int)] _ hb Try.underlying32 rfl info3 ?_)
              | (refine wpList_append_rd rfl (.tmp 59) (.tmp 61) 27 rfl w.heap.size 32 i0 _ 3 24 Try.underlying27 hi hz0 hz1 hz2 rfl (by decide) v done.length (done.flatMap Tok.cells) rfl (ho.alloc _) _ (wr.heap.size + 1) 1 1 (tokAt s at_).cells rfl (by rw [HTK.out]; exact Rd.lit wr _ _ _ _ _ (fun j u hu => hu) rfl (by omega)) (by omega) (cells_one _) (by simp only [maxLen]; omega) (by omega) (by have := hbw.size; simp; omega) ?_; intro v' w4 hown4 hb4 hgr4 _; have hk4 := (hb.alloc _).grown hgr4 (fun e => hgv e.symm); have d4 : w4.cell? ⟨g, 1, none⟩ = some (.int .i64 ((l : Nat) : Int)) := hk4.cell_at rfl; have hbw4 : Below w.heap.size w w4 := (hbw.alloc hbw.size _).trans hb4))
            have hnew : Hid ((done ++ [tokAt s at_]) ++ toksFrom s (at_ + max l 1) = toksFrom s 0) := by
              have := hdone.out
              rw [HSTEP.out, ← HBL.out] at this
              show (done ++ [tokAt s at_]) ++ toksFrom s (at_ + max l 1) = _
              rw [← this, List.append_assoc]; rfl
            have hown5 : w4.ownsRow w.heap.size 32 3 v' (done ++ [tokAt s at_]).length ((done ++ [tokAt s at_]).flatMap Tok.cells) := by
              rw [List.length_append, List.flatMap_append]
              simpa using hown4
            have hdl2 : (done ++ [tokAt s at_]).length ≤ at_ + max l 1 := by rw [List.length_append]; simp; omega
            by_cases hl0 : l = 0
            · subst hl0
              go_wp2
              go_roundw
              case rel => exact ⟨at_ + max 0 1, by go_num, done ++ [tokAt s at_], hnew, hdl2, by omega, hown5, hbw4⟩
              case measure => simp only [intOf]; omega
            · have hne : ((l : Int) == 0) = false := by rw [beq_eq_false_iff_ne]; omega
              go_wp2
              go_roundw
              case rel => exact ⟨at_ + max l 1, by go_num, done ++ [tokAt s at_], hnew, hdl2, by omega, hown5, hbw4⟩
              case measure => simp only [intOf]; omega
          · clear hc
            go_upto_region 14 with (first
              | (refine wpList_load_blk rfl 32 (.tmp 5) rfl g rfl 32 #[.int .u8 ((ltok s at_ l : Nat) : Int), .int .i64 ((l : Nat) : Int), .int .i64 ((q : Nat) : Int)] _ hb Try.underlying32 rfl info3 ?_)
              | (refine wpList_append_rd rfl (.tmp 59) (.tmp 61) 27 rfl w.heap.size 32 i0 _ 3 24 Try.underlying27 hi hz0 hz1 hz2 rfl (by decide) v done.length (done.flatMap Tok.cells) rfl (ho.alloc _) _ (wr.heap.size + 1) 1 1 (tokAt s at_).cells rfl (by rw [HTK.out]; exact Rd.lit wr _ _ _ _ _ (fun j u hu => hu) rfl (by omega)) (by omega) (cells_one _) (by simp only [maxLen]; omega) (by omega) (by have := hbw.size; simp; omega) ?_; intro v' w4 hown4 hb4 hgr4 _; have hk4 := (hb.alloc _).grown hgr4 (fun e => hgv e.symm); have d4 : w4.cell? ⟨g, 1, none⟩ = some (.int .i64 ((l : Nat) : Int)) := hk4.cell_at rfl; have hbw4 : Below w.heap.size w w4 := (hbw.alloc hbw.size _).trans hb4))
            have hnew : Hid ((done ++ [tokAt s at_]) ++ toksFrom s (at_ + max l 1) = toksFrom s 0) := by
              have := hdone.out
              rw [HSTEP.out, ← HBL.out] at this
              show (done ++ [tokAt s at_]) ++ toksFrom s (at_ + max l 1) = _
              rw [← this, List.append_assoc]; rfl
            have hown5 : w4.ownsRow w.heap.size 32 3 v' (done ++ [tokAt s at_]).length ((done ++ [tokAt s at_]).flatMap Tok.cells) := by
              rw [List.length_append, List.flatMap_append]
              simpa using hown4
            have hdl2 : (done ++ [tokAt s at_]).length ≤ at_ + max l 1 := by rw [List.length_append]; simp; omega
            by_cases hl0 : l = 0
            · subst hl0
              go_wp2
              go_roundw
              case rel => exact ⟨at_ + max 0 1, by go_num, done ++ [tokAt s at_], hnew, hdl2, by omega, hown5, hbw4⟩
              case measure => simp only [intOf]; omega
            · have hne : ((l : Int) == 0) = false := by rw [beq_eq_false_iff_ne]; omega
              go_wp2
              go_roundw
              case rel => exact ⟨at_ + max l 1, by go_num, done ++ [tokAt s at_], hnew, hdl2, by omega, hown5, hbw4⟩
              case measure => simp only [intOf]; omega
    · have hend : done = toksFrom s 0 := by
        have := hdone.out
        rw [toksFrom_end s at_ (by omega), List.append_nil] at this
        exact this
      have HEND := Lib.hid hend
      clear hend
      go_wp2
      go_ret
      exact ⟨v, rfl, by rw [← HEND.out]; exact hown, hbw0⟩
end Go.Proofs.Ythcmjcnilhglmaa.Lz
