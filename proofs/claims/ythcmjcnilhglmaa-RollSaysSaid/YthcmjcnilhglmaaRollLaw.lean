/- The law RollSays, walked: it returns true. No condition. -/
import Derived.Test.YthcmjcnilhglmaaRollPush
import Derived.Test.YthcmjcnilhglmaaEq
namespace Go.Proofs.Ythcmjcnilhglmaa.Roll
open Go.RowKit
set_option linter.unusedSimpArgs false
set_option linter.unusedVariables false
def ls38 : List TypeId := [5, 5, 5, 5, 5, 5, 5, 5, 5, 5, 5, 5, 5, 5, 5, 5, 3, 35]
theorem leaves38 : leaves Try.prog 4 38 = some ls38 := by kernel_rfl
set_option maxRecDepth 100000 in
set_option maxHeartbeats 1000000 in
theorem law_of (a b x : Nat) (ha : a < 4294967296) (hb : b < 4294967296) (hx : x < 256) (cs R : Array Value) (n : Int) (s : ByteArray) (hs : s.size ≤ maxLen) (hcs : cs.size = 18) (hR : R.size = 18) (hfc : fits Try.prog ls38 cs.toList = true) (hfR : fits Try.prog ls38 R.toList = true)
    (hp : ∀ w, Calls Try.prog 18 #[.agg cs, .int .u8 x] w fun e w' => e = .returned (.tuple #[.agg R, .int .i64 n]) ∧ Below w.heap.size w w')
    (hq : ∀ w, Calls Try.prog 19 #[.agg cs, .int .u8 x] w fun e w' => e = .returned (.tuple #[.agg R, .int .i64 n]) ∧ Below w.heap.size w w') (w : World) :
    Calls Try.prog 5 #[.int .u32 a, .int .u32 b, .agg cs, .int .u8 x, .string s] w fun e w' => e = .returned (.bool true) ∧ Below w.heap.size w w' := by
  go_enter Try.func5, Try.ntmps5
  go_upto_region 1 with fail
  have hz : (Try.prog.info? 38).map (·.size) = some cs.size := by rw [hcs]; kernel_rfl
  have HZ := Lib.hid hz
  have hzr : (Try.prog.info? 38).map (·.size) = some R.size := by rw [hR]; kernel_rfl
  have HZR := Lib.hid hzr
  have hZR : Z38.size = R.size := hR.symm
  have HZZ := Lib.hid hZR
  have h1 := fits_one hfR
  have hall : R.all (·.oneCell') = true := by rw [← Array.all_toList]; exact h1
  have heq : ∀ w, (binOp .eql 38 (.agg R) (.agg R)).run Try.prog w = .ok (.bool true) w := fun w =>
    run_eql_plain w 4 4 (by omega) 38 ls38 (by kernel_rfl) leaves38 R R (by simp [Value.formed, hR]; kernel_rfl) (by simp [Value.formed, hR]; kernel_rfl) hfR hfR true (by simp)
  clear hz hzr hZR h1
  refine wp_abs (fun w1 => Below w.heap.size w w1 ∧ Blk w1 w.heap.size 38 cs) ⟨(Below.refl _ _).alloc (Nat.le_refl _) _, Blk.new _ _ _⟩ fun w1 ⟨hb1, hk1⟩ => ?_
  obtain ⟨B, hB⟩ : ∃ B, B = w.heap.size := ⟨_, rfl⟩
  rw [← hB] at hk1 ⊢
  have HB := Lib.hid hB
  clear hB
  have hBl : B < w1.heap.size := hk1.lt
  go_upto_region 2 with (first
    | (with_reducible refine wpList_load_blk rfl 38 (.tmp 7) rfl B rfl 38 cs _ hk1 Try.underlying38 rfl HZ.out ?_)
    | (go_at_call 18; refine (hp _).mono ?_; rintro e w2 ⟨rfl, hb2⟩)
    | (refine wpList_store_blk rfl 38 (.tmp 11) (.tmp 19) rfl _ R rfl rfl 38 Z38 (Blk.new w2 _ _) HZR.out HZZ.out hall ?_))
  have hk1' : Blk w2 B 38 cs := hk1.below hb2 hBl
  have hw2 := hb2.size
  have hsz1 := hb1.size
  refine wp_abs (fun w3 => Below w.heap.size w w3 ∧ Blk w3 B 38 cs ∧ Blk w3 w2.heap.size 38 R) ⟨?_, ?_, ?_⟩ fun w3 ⟨hb3, hk3, hr3⟩ => ?_
  · exact bel_setRow ((hb1.trans (hb2.mono (by omega))).alloc (by have := hb1.size; omega) _) (by have := hb1.size; omega) _
  · exact (hk1'.alloc _).setRow_far (by omega) _
  · exact (Blk.new w2 38 Z38).setRow R
  obtain ⟨G, hG⟩ : ∃ G, G = w2.heap.size := ⟨_, rfl⟩
  rw [← hG] at hr3 ⊢
  have hGl : B < G := by omega
  clear hG hb2 hk1 hk1' hw2
  have hGw := hr3.lt
  go_upto_region 3 with (first
    | (with_reducible refine wpList_load_blk rfl 38 (.tmp 7) rfl B rfl 38 cs _ hk3 Try.underlying38 rfl HZ.out ?_)
    | (go_at_call 19; refine (hq _).mono ?_; rintro e w4 ⟨rfl, hb4⟩)
    | (refine wpList_store_blk rfl 38 (.tmp 13) (.tmp 25) rfl _ R rfl rfl 38 Z38 (Blk.new w4 _ _) HZR.out HZZ.out hall ?_))
  have hr3' : Blk w4 G 38 R := hr3.below hb4 hGw
  have hw4 := hb4.size
  refine wp_abs (fun w5 => Below w.heap.size w w5 ∧ Blk w5 G 38 R ∧ Blk w5 w4.heap.size 38 R) ⟨?_, ?_, ?_⟩ fun w5 ⟨hb5, hk5, hr5⟩ => ?_
  · exact bel_setRow ((hb3.trans (hb4.mono (by have := hb3.size; omega))).alloc (by have := hb3.size; omega) _) (by have := hb3.size; omega) _
  · exact (hr3'.alloc _).setRow_far (by omega) _
  · exact (Blk.new w4 38 Z38).setRow R
  obtain ⟨G2, hG2⟩ : ∃ G, G = w4.heap.size := ⟨_, rfl⟩
  rw [← hG2] at hr5 ⊢
  clear hG2 hb4 hr3 hr3' hw4 hb3 hk3
  have g1 := hk5.lt
  have g2 := hr5.lt
  go_wp2_with (first
    | (go_at_call 20; refine (times_any a b ha hb _).mono ?_; rintro e w' ⟨rfl, rfl⟩)
    | (go_at_call 21; refine (rtimes_any a b ha hb _).mono ?_; rintro e w' ⟨rfl, rfl⟩)
    | (go_at_call 22; refine (of_any s hs _).mono ?_; rintro e w6 ⟨rfl, hb6⟩)
    | (go_at_call 23; refine (rof_any s hs _).mono ?_; rintro e w7 ⟨rfl, hb7⟩; have hb67 := hb6.trans (hb7.mono hb6.size); have hk7 := hk5.below hb67 g1; have hr7 := hr5.below hb67 g2)
    | (refine wpList_load_blk_g rfl 38 (.tmp 11) rfl G rfl 38 R _ hk7 Try.underlying38 rfl HZR.out ?_)
    | (refine wpList_load_blk_g rfl 38 (.tmp 13) rfl G2 rfl 38 R _ hr7 Try.underlying38 rfl HZR.out ?_))
  go_ret
  exact ⟨rfl, hb5.trans (hb67.mono hb5.size)⟩
theorem kind_at {cs : Array Value} (h : fits Try.prog ls38 cs.toList = true) :
    (∀ i, i < 16 → ∃ n : Nat, n < 256 ∧ cs[i]? = some (.int .u8 n)) ∧ (∃ n : Int, cs[16]? = some (.int .i64 n)) ∧ (∃ n : Nat, n < 4294967296 ∧ cs[17]? = some (.int .u32 n)) := by
  refine ⟨fun i hi => ?_, ?_, ?_⟩
  · obtain ⟨v, hv, hl⟩ := fits_at h i 5 (by
      rcases (by omega : i = 0 ∨ i = 1 ∨ i = 2 ∨ i = 3 ∨ i = 4 ∨ i = 5 ∨ i = 6 ∨ i = 7 ∨ i = 8 ∨ i = 9 ∨ i = 10 ∨ i = 11 ∨ i = 12 ∨ i = 13 ∨ i = 14 ∨ i = 15) with rfl | rfl | rfl | rfl | rfl | rfl | rfl | rfl | rfl | rfl | rfl | rfl | rfl | rfl | rfl | rfl <;> rfl)
    obtain ⟨n, rfl, hwf⟩ := leaf_int Try.underlying5 hl
    rw [wf_u8] at hwf
    obtain ⟨m, rfl⟩ := Int.eq_ofNat_of_zero_le hwf.1
    exact ⟨m, by omega, by simpa using hv⟩
  · obtain ⟨v, hv, hl⟩ := fits_at h 16 3 rfl
    obtain ⟨n, rfl, hwf⟩ := leaf_int Try.underlying3 hl
    exact ⟨n, by simpa using hv⟩
  · obtain ⟨v, hv, hl⟩ := fits_at h 17 35 rfl
    obtain ⟨n, rfl, hwf⟩ := leaf_int Try.underlying35 hl
    rw [wf_u32] at hwf
    obtain ⟨m, rfl⟩ := Int.eq_ofNat_of_zero_le hwf.1
    exact ⟨m, by omega, by simpa using hv⟩
theorem fits_pushed {cs : Array Value} (h : fits Try.prog ls38 cs.toList = true) (at_ s1 b : Nat) (ha : at_ < 16) (hs : s1 < 4294967296) (hb : b < 256) : fits Try.prog ls38 (pushed cs at_ s1 b).toList = true := by
  unfold pushed
  have h17 := xor_lt32 (shift_lt s1) (show b < 4294967296 by omega)
  refine fits_setA (fits_setA (fits_setA (fits_setA h 17 35 _ rfl ?_) 17 35 _ rfl ?_) at_ 5 _ ?_ ?_) 16 3 _ rfl ?_
  · exact leaf_mk_int Try.underlying35 (wf_u32.2 (by omega))
  · exact leaf_mk_int Try.underlying35 (wf_u32.2 (by omega))
  · rcases (by omega : at_ = 0 ∨ at_ = 1 ∨ at_ = 2 ∨ at_ = 3 ∨ at_ = 4 ∨ at_ = 5 ∨ at_ = 6 ∨ at_ = 7 ∨ at_ = 8 ∨ at_ = 9 ∨ at_ = 10 ∨ at_ = 11 ∨ at_ = 12 ∨ at_ = 13 ∨ at_ = 14 ∨ at_ = 15) with rfl | rfl | rfl | rfl | rfl | rfl | rfl | rfl | rfl | rfl | rfl | rfl | rfl | rfl | rfl | rfl <;> rfl
  · exact leaf_mk_int Try.underlying5 (wf_u8.2 (by omega))
  · exact leaf_mk_int Try.underlying3 (wf_i64.2 (by omega))
theorem law_any (a b x : Nat) (ha : a < 4294967296) (hb : b < 4294967296) (hx : x < 256) (cs : Array Value) (s : ByteArray) (hs : s.size ≤ maxLen) (hcs : cs.size = 18) (hfc : fits Try.prog ls38 cs.toList = true) (w : World) :
    Calls Try.prog 5 #[.int .u32 a, .int .u32 b, .agg cs, .int .u8 x, .string s] w fun e w' => e = .returned (.bool true) ∧ Below w.heap.size w w' := by
  obtain ⟨hw, ⟨at_, c16⟩, sum, hsum, c17⟩ := kind_at hfc
  by_cases hbad : at_ < 0 ∨ 16 ≤ at_ ∨ 2147483648 ≤ sum
  · exact law_of a b x ha hb hx cs Z38 1 s hs hcs rfl hfc (by kernel_rfl) (fun w => push_bad cs at_ sum x hsum hbad c16 c17 w) (fun w => rpush_bad cs at_ sum x hsum hbad c16 c17 w) w
  · obtain ⟨m, rfl⟩ := Int.eq_ofNat_of_zero_le (show 0 ≤ at_ by omega)
    have hm : m < 16 := by omega
    obtain ⟨old, hold, cat⟩ := hw m hm
    have hone : cs.all (·.oneCell') = true := by rw [← Array.all_toList]; exact fits_one hfc
    have hl := lastTo_lt old 15 hold
    exact law_of a b x ha hb hx cs (pushed cs m (sum ^^^ lastTo old 15) x) 0 s hs hcs (by simp [pushed, hcs]) hfc (fits_pushed hfc m _ x hm (xor_lt32 hsum hl) hx)
      (fun w => push_any cs hcs hone m sum x old hx (by omega) hm hold c16 c17 cat w) (fun w => rpush_any cs hcs hone m sum x old hx (by omega) hm hold c16 c17 cat w) w
end Go.Proofs.Ythcmjcnilhglmaa.Roll
