/- Push of package roll and of the reference: the struct's block is followed through its stores. No condition. -/
import Derived.Test.YthcmjcnilhglmaaRollWalks
import Derived.Deep.DeepCutAuto
import Derived.StillTailTactics
import Derived.BigQuiet
import Derived.Deep.QuietTactic
namespace Go.Proofs.Ythcmjcnilhglmaa.Roll
open Go.RowKit
set_option linter.unusedSimpArgs false
set_option linter.unusedVariables false
def Z38 : Array Value := #[Value.int IntKind.u8 0, Value.int IntKind.u8 0, Value.int IntKind.u8 0, Value.int IntKind.u8 0,
      Value.int IntKind.u8 0, Value.int IntKind.u8 0, Value.int IntKind.u8 0, Value.int IntKind.u8 0,
      Value.int IntKind.u8 0, Value.int IntKind.u8 0, Value.int IntKind.u8 0, Value.int IntKind.u8 0,
      Value.int IntKind.u8 0, Value.int IntKind.u8 0, Value.int IntKind.u8 0, Value.int IntKind.u8 0,
      Value.int IntKind.i64 0, Value.int IntKind.u32 0]
def St (w w1 : World) (B : Nat) (T : TypeId) (cs : Array Value) : Prop := Below w.heap.size w w1 ∧ Blk w1 B T cs ∧ Blk w1 (B + 1) T Z38 ∧ B = w.heap.size
theorem St.new (w : World) (cs : Array Value) (T : TypeId) : St w ((w.alloc (Obj.cells cs T)).alloc (Obj.cells Z38 T)) w.heap.size T cs :=
  ⟨((Below.refl _ _).alloc (Nat.le_refl _) _).alloc (by simp) _, (Blk.new w T cs).alloc _, by
    have := Blk.new (w.alloc (Obj.cells cs T)) T Z38
    simpa using this, rfl⟩
theorem St.set {w w1 : World} {B : Nat} {T : TypeId} {cs : Array Value} (h : St w w1 B T cs) (i : Nat) (v : Value) : St w (w1.setCell ⟨B, i, none⟩ v) B T (cs.setIfInBounds i v) := by
  obtain ⟨h1, h2, h3, rfl⟩ := h
  exact ⟨h1.setCell (p := ⟨w.heap.size, i, none⟩) (Nat.le_refl _) v, h2.set i v, h3.far (p := ⟨w.heap.size, i, none⟩) (by simp) v, rfl⟩
theorem St.drewN {w w1 : World} {B : Nat} {T : TypeId} {cs : Array Value} (h : St w w1 B T cs) (n : Nat) : St w (w1.drewN n) B T cs := by
  obtain ⟨h1, h2, h3, rfl⟩ := h
  exact ⟨⟨h1.os, h1.tape, h1.output, h1.size, h1.block⟩, h2, h3, rfl⟩
theorem set_same {cs : Array Value} {i : Nat} {v : Value} (h : cs[i]? = some v) : cs.setIfInBounds i v = cs := by
  apply Array.ext_getElem?
  intro j
  rw [Array.getElem?_setIfInBounds]
  split
  · rename_i e; subst e
    split
    · exact h.symm
    · rename_i hlt; rw [Array.getElem?_eq_none (by omega)]
  · rfl
def pushed (cs : Array Value) (at_ s1 b : Nat) : Array Value :=
  (((cs.setIfInBounds 17 (.int .u32 (s1 : Int))).setIfInBounds 17 (.int .u32 ((shift s1 ^^^ b : Nat) : Int))).setIfInBounds at_ (.int .u8 b)).setIfInBounds 16 (.int .i64 (((at_ : Int) + 1) % 16))
theorem all_set {cs : Array Value} (h : cs.all (·.oneCell') = true) (i : Nat) {v : Value} (hv : v.oneCell' = true) : (cs.setIfInBounds i v).all (·.oneCell') = true := by
  simp only [Array.all_eq_true] at h ⊢
  intro j hj
  rw [Array.getElem_setIfInBounds]
  split
  · exact hv
  · exact h j (by simpa using hj)
theorem top_bit (sum : Nat) (h : sum < 2147483648) : bits BinOp.and IntKind.u32 (sum : Int) 2147483648 = 0 := by
  have := u32_and_nat sum 2147483648 (by omega) (by omega)
  have e : sum &&& 2147483648 = 0 := by
    apply Nat.eq_of_testBit_eq
    intro i
    rw [Nat.testBit_and, Nat.zero_testBit, show (2147483648 : Nat) = 2 ^ 31 from rfl, Nat.testBit_two_pow]
    by_cases hi : 31 = i
    · subst hi; simp [Nat.testBit_lt_two_pow (show sum < 2 ^ 31 from h)]
    · simp [hi]
  rw [e] at this; exact this
theorem top_bit_set (sum : Nat) (h : 2147483648 ≤ sum) (h2 : sum < 4294967296) : (bits BinOp.and IntKind.u32 (sum : Int) 2147483648 != 0) = true := by
  have := u32_and_nat sum 2147483648 (by omega) (by omega)
  have e : (sum &&& 2147483648).testBit 31 = true := by
    rw [Nat.testBit_and, show (2147483648 : Nat) = 2 ^ 31 from rfl, Nat.testBit_two_pow_self, Bool.and_true, Nat.testBit_eq_decide_div_mod_eq]
    simp; omega
  have e2 : sum &&& 2147483648 ≠ 0 := by intro h0; rw [h0] at e; simp at e
  have e3 : bits BinOp.and IntKind.u32 (sum : Int) 2147483648 = ((sum &&& 2147483648 : Nat) : Int) := this
  rw [e3, bne_iff_ne]; omega
set_option maxRecDepth 100000 in
set_option maxHeartbeats 1000000 in
theorem push_any (cs : Array Value) (hl : cs.size = 18) (hone : cs.all (·.oneCell') = true) (at_ : Nat) (sum b old : Nat) (hb : b < 256) (hs : sum < 2147483648) (h1 : at_ < 16) (hold : old < 256)
   (c16 : cs[16]? = some (.int .i64 at_)) (c17 : cs[17]? = some (.int .u32 sum)) (cat : cs[at_]? = some (.int .u8 old)) (w : World) :
    Calls Try.prog 18 #[.agg cs, .int .u8 b] w fun e w' => e = .returned (.tuple #[.agg (pushed cs at_ (sum ^^^ lastTo old 15) b), .int .i64 0]) ∧ Below w.heap.size w w' := by
  have htop : (bits BinOp.and IntKind.u32 (sum : Int) 2147483648 != 0) = false := by rw [top_bit sum hs]; rfl
  go_enter Try.func18, Try.ntmps18
  go_upto_region 1 with fail
  refine wp_abs (fun w1 => St w w1 w.heap.size 38 cs) (St.new w cs 38) fun w1 hw1 => ?_
  obtain ⟨B, hB⟩ : ∃ B, B = w.heap.size := ⟨_, rfl⟩
  rw [← hB] at hw1 ⊢
  have HB := Lib.hid hB
  clear hB
  have m16 := hw1.2.1.cell_at c16
  have m17 := hw1.2.1.cell_at c17
  have mat := hw1.2.1.cell_at cat
  have hne : ((old : Int) != 0) = true ∨ old = 0 := by
    by_cases h : old = 0
    · exact .inr h
    · left; rw [bne_iff_ne]; omega
  go_upto_if 28 with fail
  go_cut [] (fun wx => St w wx B 38 (cs.setIfInBounds 17 (.int .u32 (sum ^^^ lastTo old 15 : Nat))))
  case first =>
    rcases hne with hne | rfl
    · have hl := lastTo_lt old 15 hold
      have hx : bits .xor .u32 (sum : Int) (lastTo old 15 : Nat) = ((sum ^^^ lastTo old 15 : Nat) : Int) := u32_xor_nat _ _ (by omega) hl
      go_upto_region 5 with fail
      go_still_tail 6, (by kernel_rfl)
      still_call ((last_any old hold _).mono fun _ _ h => ⟨h.1, h.2.symm⟩)
      repeat still_step
      refine wpStill_nil ?_
      change wpList _ _ _ _ _ w1.drew
      refine wpList_abs (fun w2 => St w w2 B 38 cs) (hw1.drewN 1) fun w2 hw2 => ?_
      have m17 := hw2.2.1.cell_at c17
      have hf := hw2.2.1.frozen 17
      go_wp2
      go_meet
      case rel => exact hw2.set 17 _
    · go_wp2
      go_meet
      case rel =>
        rw [lastTo_zero, Nat.xor_zero, set_same c17]; exact hw1
  case rest =>
    obtain ⟨s1, hs1⟩ : ∃ q, q = sum ^^^ lastTo old 15 := ⟨_, rfl⟩
    have hl1 : s1 < 4294967296 := by rw [hs1]; exact xor_lt32 (by omega) (lastTo_lt old 15 hold)
    rw [← hs1] at hcut
    have HS1 := Lib.hid hs1
    clear hs1 hw1 m16 m17 mat
    obtain ⟨cs1, hcs1⟩ : ∃ q, q = cs.setIfInBounds 17 (.int .u32 (s1 : Int)) := ⟨_, rfl⟩
    rw [← hcs1] at hcut
    have d16 : cs1[16]? = some (.int .i64 at_) := by rw [hcs1]; simp [Array.getElem?_setIfInBounds, c16]
    have d17 : cs1[17]? = some (.int .u32 s1) := by rw [hcs1]; simp [Array.getElem?_setIfInBounds, hl]
    have dat : cs1[at_]? = some (.int .u8 old) := by rw [hcs1]; simp [Array.getElem?_setIfInBounds, cat, show ¬ (17 = at_) from by omega]
    have m16 := hcut.2.1.cell_at d16
    have m17 := hcut.2.1.cell_at d17
    have hf := hcut.2.1.frozen 17
    have hx := u32_xor_nat (shift s1) b (shift_lt s1) (by omega)
    have HC1 := Lib.hid hcs1
    clear hcs1
    go_upto_region 7 with (go_at_call 77; refine (shift_any _ hl1 _).mono ?_; rintro e w' ⟨rfl, rfl⟩)
    refine wp_abs (fun w1 => St w w1 B 38 (cs1.setIfInBounds 17 (.int .u32 ((shift s1 ^^^ b : Nat) : Int)))) (hcut.set 17 _) fun w3 hw3 => ?_
    clear hcut m16 m17 hf hx
    obtain ⟨cs2, hcs2⟩ : ∃ q, q = cs1.setIfInBounds 17 (.int .u32 ((shift s1 ^^^ b : Nat) : Int)) := ⟨_, rfl⟩
    rw [← hcs2] at hw3
    have e16 : cs2[16]? = some (.int .i64 at_) := by rw [hcs2]; simp [Array.getElem?_setIfInBounds, d16]
    have eat : cs2[at_]? = some (.int .u8 old) := by rw [hcs2]; simp [Array.getElem?_setIfInBounds, dat, show ¬ (17 = at_) from by omega]
    have HC2 := Lib.hid hcs2
    clear hcs2
    have m16 := hw3.2.1.cell_at e16
    have mat := hw3.2.1.cell_at eat
    have hf := hw3.2.1.frozen at_
    go_upto_region 8 with fail
    refine wp_abs (fun w1 => St w w1 B 38 (cs2.setIfInBounds at_ (.int .u8 b))) (hw3.set at_ _) fun w4 hw4 => ?_
    clear hw3 m16 mat hf
    obtain ⟨cs3, hcs3⟩ : ∃ q, q = cs2.setIfInBounds at_ (.int .u8 b) := ⟨_, rfl⟩
    rw [← hcs3] at hw4
    have f16 : cs3[16]? = some (.int .i64 at_) := by rw [hcs3]; simp [Array.getElem?_setIfInBounds, e16, show ¬ (at_ = 16) from by omega]
    have HC3 := Lib.hid hcs3
    clear hcs3
    have m16 := hw4.2.1.cell_at f16
    have hf := hw4.2.1.frozen 16
    go_upto_region 9 with fail
    refine wp_abs (fun w1 => St w w1 B 38 (cs3.setIfInBounds 16 (.int .i64 (((at_ : Int) + 1) % 16)))) (hw4.set 16 _) fun w5 hw5 => ?_
    clear hw4 m16 hf
    obtain ⟨cs4, hcs4⟩ : ∃ q, q = cs3.setIfInBounds 16 (.int .i64 (((at_ : Int) + 1) % 16)) := ⟨_, rfl⟩
    rw [← hcs4] at hw5
    have hz : (Try.prog.info? 38).map (·.size) = some cs4.size := by
      rw [show (Try.prog.info? 38).map (·.size) = some 18 from by kernel_rfl, hcs4, HC3.out, HC2.out, HC1.out]; simp [hl]
    have hz18 : Z38.size = cs4.size := by rw [hcs4, HC3.out, HC2.out, HC1.out]; simp [hl]; rfl
    have h1c : cs4.all (·.oneCell') = true := by rw [hcs4, HC3.out, HC2.out, HC1.out]; exact all_set (all_set (all_set (all_set hone _ rfl) _ rfl) _ rfl) _ rfl
    have hfin : cs4 = pushed cs at_ s1 b := by rw [hcs4, HC3.out, HC2.out, HC1.out]; rfl
    have HF := Lib.hid hfin
    have HZ := Lib.hid hz
    have HZ18 := Lib.hid hz18
    clear hcs4 hz hz18 hfin
    have hbb := hw5.2.1
    have hbr := hw5.2.2.1
    go_wp2_with (first
      | (with_reducible refine wpList_load_blk rfl 38 (.tmp 2) rfl B rfl 38 cs4 _ hbb Try.underlying38 rfl HZ.out ?_)
      | (with_reducible refine wpList_store_blk rfl 38 (.tmp 4) (.tmp 52) rfl (B + 1) cs4 rfl rfl 38 Z38 hbr HZ.out HZ18.out h1c ?_))
    refine bodyPost_ret (results_blk2 rfl _ _ (B + 1) 38 cs4 _ rfl (hbr.setRow cs4) Try.underlying38 rfl HZ.out _ rfl) rfl ⟨?_, ?_⟩
    · rw [HF.out, HS1.out]; rfl
    · exact bel_setRow hw5.1 (by have := hw5.2.2.2; omega) _
set_option maxRecDepth 100000 in
set_option maxHeartbeats 1000000 in
theorem rpush_any (cs : Array Value) (hl : cs.size = 18) (hone : cs.all (·.oneCell') = true) (at_ : Nat) (sum b old : Nat) (hb : b < 256) (hs : sum < 2147483648) (h1 : at_ < 16) (hold : old < 256)
   (c16 : cs[16]? = some (.int .i64 at_)) (c17 : cs[17]? = some (.int .u32 sum)) (cat : cs[at_]? = some (.int .u8 old)) (w : World) :
    Calls Try.prog 19 #[.agg cs, .int .u8 b] w fun e w' => e = .returned (.tuple #[.agg (pushed cs at_ (sum ^^^ lastTo old 15) b), .int .i64 0]) ∧ Below w.heap.size w w' := by
  go_enter Try.func19, Try.ntmps19
  go_upto_region 1 with fail
  refine wp_abs (fun w1 => St w w1 w.heap.size 38 cs) (St.new w cs 38) fun w1 hw1 => ?_
  obtain ⟨B, hB⟩ : ∃ B, B = w.heap.size := ⟨_, rfl⟩
  rw [← hB] at hw1 ⊢
  have HB := Lib.hid hB
  clear hB
  have m16 := hw1.2.1.cell_at c16
  have m17 := hw1.2.1.cell_at c17
  have mat := hw1.2.1.cell_at cat
  have h0 : ((old : Int) % 18446744073709551616) = old := by omega
  go_upto_region 4 with fail
  go_wp2
  go_loop [6, 27] (fun m i => ∃ k : Nat, k ≤ 15 ∧ i = .int .i64 k ∧ m = .int .u64 (lastTo old k)) (fun _ i => 15 - (intOf i).toNat)
  case atStart => exact ⟨0, by omega, by simp, rfl⟩
  case round =>
    obtain ⟨k, hk, rfl, rfl⟩ := hrel
    have hm := lastTo_lt old k hold
    by_cases hlt : k < 15
    · have hn : lastTo old (k + 1) = shift (lastTo old k) := rfl
      have HN := Lib.hid hn
      clear hn
      obtain ⟨m, hme⟩ : ∃ m, m = lastTo old k := ⟨_, rfl⟩
      rw [← hme] at hm HN ⊢
      clear hme
      have h256 : ((m : Int) * 256) = ((m * 256 : Nat) : Int) := by simp
      have hw : IntKind.u64.wrap ((m : Int) * 256) = ((m * 256 : Nat) : Int) := by rw [h256]; exact IntWalk.u64_in _ (by omega)
      clear h256
      have hlx : m * 256 < 18446744073709551616 := by omega
      have hr : red (m * 256) = shift m := rfl
      have HR := Lib.hid hr
      clear hr
      obtain ⟨q, hq⟩ : ∃ q, q = m * 256 := ⟨_, rfl⟩
      rw [← hq] at hw hlx HR
      clear hq
      have hrl := red_lt q
      have hu : ((red q : Nat) : Int) % 18446744073709551616 = (red q : Nat) := by omega
      go_wp2_with (go_at_call 78; refine (rest_any _ hlx _).mono ?_; rintro e w' ⟨rfl, rfl⟩)
      go_round
      case rel => exact ⟨k + 1, by omega, by go_num, ival (by rw [HN.out, HR.out])⟩
      case measure => simp [intOf]; omega
    · obtain rfl : k = 15 := by omega
      obtain ⟨g, hg⟩ : ∃ g, g = lastTo old 15 := ⟨_, rfl⟩
      rw [← hg] at hm ⊢
      have HG := Lib.hid hg
      clear hg hlt hk
      have hsx : sum ^^^ g < 4294967296 := xor_lt32 (by omega) hm
      have hx := u64_xor_nat sum g (by omega) (by omega)
      obtain ⟨s1, hs1⟩ : ∃ q, q = sum ^^^ g := ⟨_, rfl⟩
      rw [← hs1] at hsx hx
      have HS1 := Lib.hid hs1
      clear hs1
      have h256 : ((s1 : Int) * 256) = ((s1 * 256 : Nat) : Int) := by simp
      have hw : IntKind.u64.wrap ((s1 : Int) * 256) = ((s1 * 256 : Nat) : Int) := by rw [h256]; exact IntWalk.u64_in _ (by omega)
      clear h256
      have hlx : s1 * 256 < 18446744073709551616 := by omega
      have hx2 : bits .xor .u32 ((red (s1 * 256) : Nat) : Int) (b : Int) = ((shift s1 ^^^ b : Nat) : Int) := u32_xor_nat (shift s1) b (shift_lt s1) (by omega)
      have hf := hw1.2.1.frozen 17
      obtain ⟨q, hq⟩ : ∃ q, q = s1 * 256 := ⟨_, rfl⟩
      rw [← hq] at hw hlx hx2
      clear hq
      go_upto_region 9 with (go_at_call 78; refine (rest_any _ hlx _).mono ?_; rintro e w' ⟨rfl, rfl⟩)
      refine wp_abs (fun w1 => St w w1 B 38 (cs.setIfInBounds 17 (.int .u32 ((shift s1 ^^^ b : Nat) : Int)))) (hw1.set 17 _) fun w3 hw3 => ?_
      clear hw1 m16 m17 mat hf hx hx2 hw hlx
      obtain ⟨cs2, hcs2⟩ : ∃ q, q = cs.setIfInBounds 17 (.int .u32 ((shift s1 ^^^ b : Nat) : Int)) := ⟨_, rfl⟩
      rw [← hcs2] at hw3
      have e16 : cs2[16]? = some (.int .i64 at_) := by rw [hcs2]; simp [Array.getElem?_setIfInBounds, c16]
      have eat : cs2[at_]? = some (.int .u8 old) := by rw [hcs2]; simp [Array.getElem?_setIfInBounds, cat, show ¬ (17 = at_) from by omega]
      have HC2 := Lib.hid hcs2
      clear hcs2
      have m16 := hw3.2.1.cell_at e16
      have mat := hw3.2.1.cell_at eat
      have hf := hw3.2.1.frozen at_
      go_upto_region 10 with fail
      refine wp_abs (fun w1 => St w w1 B 38 (cs2.setIfInBounds at_ (.int .u8 b))) (hw3.set at_ _) fun w4 hw4 => ?_
      clear hw3 m16 mat hf
      obtain ⟨cs3, hcs3⟩ : ∃ q, q = cs2.setIfInBounds at_ (.int .u8 b) := ⟨_, rfl⟩
      rw [← hcs3] at hw4
      have f16 : cs3[16]? = some (.int .i64 at_) := by rw [hcs3]; simp [Array.getElem?_setIfInBounds, e16, show ¬ (at_ = 16) from by omega]
      have HC3 := Lib.hid hcs3
      clear hcs3
      have m16 := hw4.2.1.cell_at f16
      have hf := hw4.2.1.frozen 16
      go_upto_region 11 with fail
      refine wp_abs (fun w1 => St w w1 B 38 (cs3.setIfInBounds 16 (.int .i64 ((at_ : Int) + 1)))) (hw4.set 16 _) fun w5 hw5 => ?_
      clear hw4 m16 hf
      obtain ⟨cs4, hcs4⟩ : ∃ q, q = cs3.setIfInBounds 16 (.int .i64 ((at_ : Int) + 1)) := ⟨_, rfl⟩
      rw [← hcs4] at hw5
      have hs3 : cs3.size = 18 := by rw [HC3.out, HC2.out]; simp [hl]
      have g16 : cs4[16]? = some (.int .i64 ((at_ : Int) + 1)) := by rw [hcs4]; simp [Array.getElem?_setIfInBounds, hs3]
      have HC4 := Lib.hid hcs4
      clear hcs4
      have m16 := hw5.2.1.cell_at g16
      have hf := hw5.2.1.frozen 16
      have hd : at_ + 1 = 16 ∨ at_ + 1 < 16 := by omega
      go_upto_if 56 with fail
      go_cut [] (fun wx => St w wx B 38 (cs3.setIfInBounds 16 (.int .i64 (((at_ : Int) + 1) % 16))))
      case first =>
        rcases hd with hd | hd
        · obtain rfl : at_ = 15 := by omega
          go_wp2
          go_meet
          case rel =>
            have e : cs3.setIfInBounds 16 (.int .i64 ((((15 : Nat) : Int) + 1) % 16)) = cs4.setIfInBounds 16 (.int .i64 0) := by rw [HC4.out]; simp
            rw [e]; exact hw5.set 16 _
        · have hne : (((at_ : Int) + 1) == 16) = false := by rw [beq_eq_false_iff_ne]; omega
          go_wp2
          go_meet
          case rel =>
            have e : (((at_ : Int) + 1) % 16) = (at_ : Int) + 1 := by omega
            rw [e, ← HC4.out]; exact hw5
      case rest =>
        clear hw5 m16 hf hd
        obtain ⟨cs5, hcs5⟩ : ∃ q, q = cs3.setIfInBounds 16 (.int .i64 (((at_ : Int) + 1) % 16)) := ⟨_, rfl⟩
        rw [← hcs5] at hcut
        have hz : (Try.prog.info? 38).map (·.size) = some cs5.size := by
          rw [show (Try.prog.info? 38).map (·.size) = some 18 from by kernel_rfl, hcs5]; simp [hs3]
        have hz18 : Z38.size = cs5.size := by rw [hcs5]; simp [hs3]; rfl
        have h1c : cs5.all (·.oneCell') = true := by rw [hcs5, HC3.out, HC2.out]; exact all_set (all_set (all_set hone _ rfl) _ rfl) _ rfl
        have hfin : cs5 = pushed cs at_ s1 b := by rw [hcs5, HC3.out, HC2.out]; unfold pushed; simp
        have HF := Lib.hid hfin
        have HZ := Lib.hid hz
        have HZ18 := Lib.hid hz18
        clear hcs5 hz hz18 hfin
        have hbb := hcut.2.1
        have hbr := hcut.2.2.1
        go_wp2_with (first
          | (with_reducible refine wpList_load_blk rfl 38 (.tmp 2) rfl B rfl 38 cs5 _ hbb Try.underlying38 rfl HZ.out ?_)
          | (with_reducible refine wpList_store_blk rfl 38 (.tmp 4) (.tmp 58) rfl (B + 1) cs5 rfl rfl 38 Z38 hbr HZ.out HZ18.out h1c ?_))
        refine bodyPost_ret (results_blk2 rfl _ _ (B + 1) 38 cs5 _ rfl (hbr.setRow cs5) Try.underlying38 rfl HZ.out _ rfl) rfl ⟨?_, ?_⟩
        · rw [HF.out, HS1.out, HG.out]; rfl
        · exact bel_setRow hcut.1 (by have := hcut.2.2.2; omega) _
set_option maxRecDepth 100000 in
theorem push_bad (cs : Array Value) (at_ : Int) (sum : Nat) (b : Nat) (hs : sum < 4294967296) (hbad : at_ < 0 ∨ 16 ≤ at_ ∨ 2147483648 ≤ sum)
   (c16 : cs[16]? = some (.int .i64 at_)) (c17 : cs[17]? = some (.int .u32 sum)) (w : World) :
    Calls Try.prog 18 #[.agg cs, .int .u8 b] w fun e w' => e = .returned (.tuple #[.agg Z38, .int .i64 1]) ∧ Below w.heap.size w w' := by
  have hz : (Try.prog.info? 38).map (·.size) = some Z38.size := by kernel_rfl
  have HZ := Lib.hid hz
  clear hz
  by_cases h0 : at_ < 0
  · clear hbad
    go_enter Try.func18, Try.ntmps18
    go_upto_region 1 with fail
    refine wp_abs (fun w1 => St w w1 w.heap.size 38 cs) (St.new w cs 38) fun w1 hw1 => ?_
    obtain ⟨B, hB⟩ : ∃ B, B = w.heap.size := ⟨_, rfl⟩
    rw [← hB] at hw1 ⊢
    have HB := Lib.hid hB
    clear hB
    have m16 := hw1.2.1.cell_at c16
    have m17 := hw1.2.1.cell_at c17
    have hbr := hw1.2.2.1
    go_wp2_with (refine wpList_store_lit rfl 38 (.tmp 4) (.tmp 21) rfl (B + 1) _ rfl rfl 38 Z38 hbr HZ.out rfl rfl ?_)
    exact bodyPost_ret (results_blk2 rfl _ _ (B + 1) 38 Z38 _ rfl (hbr.setRow Z38) Try.underlying38 rfl HZ.out _ rfl) rfl ⟨rfl, bel_setRow hw1.1 (by have := hw1.2.2.2; omega) _⟩
  · by_cases h1 : 16 ≤ at_
    · clear hbad
      go_enter Try.func18, Try.ntmps18
      go_upto_region 1 with fail
      refine wp_abs (fun w1 => St w w1 w.heap.size 38 cs) (St.new w cs 38) fun w1 hw1 => ?_
      obtain ⟨B, hB⟩ : ∃ B, B = w.heap.size := ⟨_, rfl⟩
      rw [← hB] at hw1 ⊢
      have HB := Lib.hid hB
      clear hB
      have m16 := hw1.2.1.cell_at c16
      have m17 := hw1.2.1.cell_at c17
      have hbr := hw1.2.2.1
      go_wp2_with (refine wpList_store_lit rfl 38 (.tmp 4) (.tmp 21) rfl (B + 1) _ rfl rfl 38 Z38 hbr HZ.out rfl rfl ?_)
      exact bodyPost_ret (results_blk2 rfl _ _ (B + 1) 38 Z38 _ rfl (hbr.setRow Z38) Try.underlying38 rfl HZ.out _ rfl) rfl ⟨rfl, bel_setRow hw1.1 (by have := hw1.2.2.2; omega) _⟩
    · have h2 : 2147483648 ≤ sum := by omega
      have h0' : 0 ≤ at_ := by omega
      have h1' : at_ < 16 := by omega
      have htop := top_bit_set sum h2 hs
      clear hbad h0 h1
      go_enter Try.func18, Try.ntmps18
      go_upto_region 1 with fail
      refine wp_abs (fun w1 => St w w1 w.heap.size 38 cs) (St.new w cs 38) fun w1 hw1 => ?_
      obtain ⟨B, hB⟩ : ∃ B, B = w.heap.size := ⟨_, rfl⟩
      rw [← hB] at hw1 ⊢
      have HB := Lib.hid hB
      clear hB
      have m16 := hw1.2.1.cell_at c16
      have m17 := hw1.2.1.cell_at c17
      have hbr := hw1.2.2.1
      go_wp2_with (refine wpList_store_lit rfl 38 (.tmp 4) (.tmp 21) rfl (B + 1) _ rfl rfl 38 Z38 hbr HZ.out rfl rfl ?_)
      exact bodyPost_ret (results_blk2 rfl _ _ (B + 1) 38 Z38 _ rfl (hbr.setRow Z38) Try.underlying38 rfl HZ.out _ rfl) rfl ⟨rfl, bel_setRow hw1.1 (by have := hw1.2.2.2; omega) _⟩
set_option maxRecDepth 100000 in
theorem rpush_bad (cs : Array Value) (at_ : Int) (sum : Nat) (b : Nat) (hs : sum < 4294967296) (hbad : at_ < 0 ∨ 16 ≤ at_ ∨ 2147483648 ≤ sum)
   (c16 : cs[16]? = some (.int .i64 at_)) (c17 : cs[17]? = some (.int .u32 sum)) (w : World) :
    Calls Try.prog 19 #[.agg cs, .int .u8 b] w fun e w' => e = .returned (.tuple #[.agg Z38, .int .i64 1]) ∧ Below w.heap.size w w' := by
  have hz : (Try.prog.info? 38).map (·.size) = some Z38.size := by kernel_rfl
  have HZ := Lib.hid hz
  clear hz
  by_cases h0 : at_ < 0
  · clear hbad
    go_enter Try.func19, Try.ntmps19
    go_upto_region 1 with fail
    refine wp_abs (fun w1 => St w w1 w.heap.size 38 cs) (St.new w cs 38) fun w1 hw1 => ?_
    obtain ⟨B, hB⟩ : ∃ B, B = w.heap.size := ⟨_, rfl⟩
    rw [← hB] at hw1 ⊢
    have HB := Lib.hid hB
    clear hB
    have m16 := hw1.2.1.cell_at c16
    have m17 := hw1.2.1.cell_at c17
    have hbr := hw1.2.2.1
    go_wp2_with (refine wpList_store_lit rfl 38 (.tmp 4) (.tmp 20) rfl (B + 1) _ rfl rfl 38 Z38 hbr HZ.out rfl rfl ?_)
    exact bodyPost_ret (results_blk2 rfl _ _ (B + 1) 38 Z38 _ rfl (hbr.setRow Z38) Try.underlying38 rfl HZ.out _ rfl) rfl ⟨rfl, bel_setRow hw1.1 (by have := hw1.2.2.2; omega) _⟩
  · by_cases h1 : 16 ≤ at_
    · clear hbad
      go_enter Try.func19, Try.ntmps19
      go_upto_region 1 with fail
      refine wp_abs (fun w1 => St w w1 w.heap.size 38 cs) (St.new w cs 38) fun w1 hw1 => ?_
      obtain ⟨B, hB⟩ : ∃ B, B = w.heap.size := ⟨_, rfl⟩
      rw [← hB] at hw1 ⊢
      have HB := Lib.hid hB
      clear hB
      have m16 := hw1.2.1.cell_at c16
      have m17 := hw1.2.1.cell_at c17
      have hbr := hw1.2.2.1
      go_wp2_with (refine wpList_store_lit rfl 38 (.tmp 4) (.tmp 20) rfl (B + 1) _ rfl rfl 38 Z38 hbr HZ.out rfl rfl ?_)
      exact bodyPost_ret (results_blk2 rfl _ _ (B + 1) 38 Z38 _ rfl (hbr.setRow Z38) Try.underlying38 rfl HZ.out _ rfl) rfl ⟨rfl, bel_setRow hw1.1 (by have := hw1.2.2.2; omega) _⟩
    · have h2 : 2147483648 ≤ sum := by omega
      have h0' : 0 ≤ at_ := by omega
      have h1' : at_ < 16 := by omega
      clear hbad h0 h1
      go_enter Try.func19, Try.ntmps19
      go_upto_region 1 with fail
      refine wp_abs (fun w1 => St w w1 w.heap.size 38 cs) (St.new w cs 38) fun w1 hw1 => ?_
      obtain ⟨B, hB⟩ : ∃ B, B = w.heap.size := ⟨_, rfl⟩
      rw [← hB] at hw1 ⊢
      have HB := Lib.hid hB
      clear hB
      have m16 := hw1.2.1.cell_at c16
      have m17 := hw1.2.1.cell_at c17
      have hbr := hw1.2.2.1
      go_wp2_with (refine wpList_store_lit rfl 38 (.tmp 4) (.tmp 20) rfl (B + 1) _ rfl rfl 38 Z38 hbr HZ.out rfl rfl ?_)
      exact bodyPost_ret (results_blk2 rfl _ _ (B + 1) 38 Z38 _ rfl (hbr.setRow Z38) Try.underlying38 rfl HZ.out _ rfl) rfl ⟨rfl, bel_setRow hw1.1 (by have := hw1.2.2.2; omega) _⟩
end Go.Proofs.Ythcmjcnilhglmaa.Roll
