/- The functions of package roll and their references return what the plain mathematics says. No condition. -/
import Derived.Test.YthcmjcnilhglmaaProg
import Derived.Test.YthcmjcnilhglmaaRollMath
import Derived.Test.YthcmjcnilhglmaaBase
import Derived.ProofKit
import Derived.Outline
import Derived.LoopTactic
namespace Go.Proofs.Ythcmjcnilhglmaa.Roll
open Go.RowKit
set_option linter.unusedSimpArgs false
set_option linter.unusedVariables false
theorem reduce_any (n : Nat) (hn : n < 18446744073709551616) (w : World) :
    Calls Try.prog 79 #[.int .u64 n] w fun e w' => e = .returned (.int .u32 (red n)) ∧ w = w' := by
  go_enter Try.func79, Try.ntmps79
  go_wp2
  go_loop [0, 3] (fun m i => ∃ k : Nat, k ≤ 33 ∧ i = .int .i64 (63 - k) ∧ m = .int .u64 (redTo n k)) (fun _ i => ((intOf i) + 1).toNat)
  case atStart => exact ⟨0, by omega, by simp, rfl⟩
  case round =>
    obtain ⟨k, hk, rfl, rfl⟩ := hrel
    have hb := redTo_lt n k hn
    have hs : k < 33 → redTo n (k + 1) = redStep (redTo n k) (63 - k) := fun _ => rfl
    obtain ⟨m, hm⟩ : ∃ m, m = redTo n k := ⟨_, rfl⟩
    rw [← hm] at hb hs ⊢
    have HM := Lib.hid hm
    have HS := Lib.hid hs
    clear hm hs
    by_cases hlt : k < 33
    · have hx := poly_lt (63 - k) (by omega)
      by_cases hc : m / 2 ^ (63 - k) % 2 = 1
      · have ht : (bits BinOp.and IntKind.u64 ((m : Int) / 2 ^ (63 - k)) 1 == 1) = true := by rw [u64_bit m _ hb, hc]; rfl
        have hw : bits BinOp.xor IntKind.u64 m (IntKind.u64.wrap (2147483657 * 2 ^ (63 - k - 31))) = ((redStep m (63 - k) : Nat) : Int) := by
          rw [show IntKind.u64.wrap (2147483657 * 2 ^ (63 - k - 31)) = ((2147483657 * 2 ^ (63 - k - 31) : Nat) : Int) from u64_shl 2147483657 _ hx]
          unfold redStep; rw [if_pos hc]; exact u64_xor_nat _ _ hb hx
        clear hc
        go_wp2
        go_round
        case rel => exact ⟨k + 1, by omega, by go_num, ival (by rw [HS.out hlt])⟩
        case measure => simp [intOf]; omega
      · have ht : (bits BinOp.and IntKind.u64 ((m : Int) / 2 ^ (63 - k)) 1 == 1) = false := by
          rw [u64_bit m _ hb, show m / 2 ^ (63 - k) % 2 = 0 from by omega]; rfl
        have hw : redStep m (63 - k) = m := by unfold redStep; rw [if_neg hc]
        have HW := Lib.hid hw
        clear hc hw
        go_wp2
        go_round
        case rel => exact ⟨k + 1, by omega, by go_num, ival (by rw [HS.out hlt, HW.out])⟩
        case measure => simp [intOf]; omega
    · obtain rfl : k = 33 := by omega
      go_wp2
      go_ret
      exact ⟨ret_int (by rw [HM.out]; simp [red]), rfl⟩
theorem rest_any (n : Nat) (hn : n < 18446744073709551616) (w : World) :
    Calls Try.prog 78 #[.int .u64 n] w fun e w' => e = .returned (.int .u32 (red n)) ∧ w = w' := by
  go_enter Try.func78, Try.ntmps78
  go_wp2
  go_loop [0, 3] (fun m i => ∃ k : Nat, k ≤ 33 ∧ i = .int .i64 (63 - k) ∧ m = .int .u64 (redTo n k)) (fun _ i => ((intOf i) + 1).toNat)
  case atStart => exact ⟨0, by omega, by simp, rfl⟩
  case round =>
    obtain ⟨k, hk, rfl, rfl⟩ := hrel
    have hb := redTo_lt n k hn
    have hs : k < 33 → redTo n (k + 1) = redStep (redTo n k) (63 - k) := fun _ => rfl
    obtain ⟨m, hm⟩ : ∃ m, m = redTo n k := ⟨_, rfl⟩
    rw [← hm] at hb hs ⊢
    have HM := Lib.hid hm
    have HS := Lib.hid hs
    clear hm hs
    by_cases hlt : k < 33
    · have hx := poly_lt (63 - k) (by omega)
      by_cases hc : m / 2 ^ (63 - k) % 2 = 1
      · have ht : (bits BinOp.and IntKind.u64 ((m : Int) / 2 ^ (63 - k)) 1 == 1) = true := by rw [u64_bit m _ hb, hc]; rfl
        have hw : bits BinOp.xor IntKind.u64 m (IntKind.u64.wrap (2147483657 * 2 ^ (63 - k - 31))) = ((redStep m (63 - k) : Nat) : Int) := by
          rw [show IntKind.u64.wrap (2147483657 * 2 ^ (63 - k - 31)) = ((2147483657 * 2 ^ (63 - k - 31) : Nat) : Int) from u64_shl 2147483657 _ hx]
          unfold redStep; rw [if_pos hc]; exact u64_xor_nat _ _ hb hx
        clear hc
        go_wp2
        go_round
        case rel => exact ⟨k + 1, by omega, by go_num, ival (by rw [HS.out hlt])⟩
        case measure => simp [intOf]; omega
      · have ht : (bits BinOp.and IntKind.u64 ((m : Int) / 2 ^ (63 - k)) 1 == 1) = false := by
          rw [u64_bit m _ hb, show m / 2 ^ (63 - k) % 2 = 0 from by omega]; rfl
        have hw : redStep m (63 - k) = m := by unfold redStep; rw [if_neg hc]
        have HW := Lib.hid hw
        clear hc hw
        go_wp2
        go_round
        case rel => exact ⟨k + 1, by omega, by go_num, ival (by rw [HS.out hlt, HW.out])⟩
        case measure => simp [intOf]; omega
    · obtain rfl : k = 33 := by omega
      go_wp2
      go_ret
      exact ⟨ret_int (by rw [HM.out]; simp [red]), rfl⟩
theorem times_any (a b : Nat) (ha : a < 4294967296) (hb : b < 4294967296) (w : World) :
    Calls Try.prog 20 #[.int .u32 a, .int .u32 b] w fun e w' => e = .returned (.int .u32 (times a b)) ∧ w = w' := by
  go_enter Try.func20, Try.ntmps20
  go_wp2
  go_loop [5, 7] (fun m i => ∃ k : Nat, k ≤ 32 ∧ i = .int .i64 k ∧ m = .int .u64 (mulTo a b k)) (fun _ i => 32 - (intOf i).toNat)
  case atStart => exact ⟨0, by omega, by simp, rfl⟩
  case round =>
    obtain ⟨k, hk, rfl, rfl⟩ := hrel
    have hm := mulTo_lt a b k ha hk
    by_cases hlt : k < 32
    · have hs : mulTo a b (k + 1) = if b / 2 ^ k % 2 = 1 then mulTo a b k ^^^ (a * 2 ^ k) else mulTo a b k := rfl
      have HS := Lib.hid hs
      clear hs
      obtain ⟨m, hme⟩ : ∃ m, m = mulTo a b k := ⟨_, rfl⟩
      rw [← hme] at hm HS ⊢
      clear hme
      have hx := shl_lt a k ha hk
      by_cases hc : b / 2 ^ k % 2 = 1
      · have ht : (bits BinOp.and IntKind.u32 ((b : Int) / 2 ^ k) 1 == 1) = true := by rw [u32_bit b _ hb, hc]; rfl
        have hw : bits BinOp.xor IntKind.u64 m (IntKind.u64.wrap ((a : Int) * 2 ^ k)) = ((m ^^^ (a * 2 ^ k) : Nat) : Int) := by
          rw [u64_shl a k hx]; exact u64_xor_nat _ _ hm hx
        go_wp2
        go_round
        case rel => exact ⟨k + 1, by omega, by go_num, ival (by rw [HS.out, if_pos hc])⟩
        case measure => simp [intOf]; omega
      · have ht : (bits BinOp.and IntKind.u32 ((b : Int) / 2 ^ k) 1 == 1) = false := by
          rw [u32_bit b _ hb, show b / 2 ^ k % 2 = 0 from by omega]; rfl
        go_wp2
        go_round
        case rel => exact ⟨k + 1, by omega, by go_num, ival (by rw [HS.out, if_neg hc])⟩
        case measure => simp [intOf]; omega
    · obtain rfl : k = 32 := by omega
      go_wp2_with (go_at_call 79; refine (reduce_any _ hm _).mono ?_; rintro e w' ⟨rfl, rfl⟩)
      go_ret
      exact ⟨ret_int (by simp [times]), rfl⟩
theorem rtimes_any (a b : Nat) (ha : a < 4294967296) (hb : b < 4294967296) (w : World) :
    Calls Try.prog 21 #[.int .u32 a, .int .u32 b] w fun e w' => e = .returned (.int .u32 (times a b)) ∧ w = w' := by
  go_enter Try.func21, Try.ntmps21
  go_wp2
  go_loop [5, 7] (fun m i => ∃ k : Nat, k ≤ 32 ∧ i = .int .i64 k ∧ m = .int .u64 (mulTo a b k)) (fun _ i => 32 - (intOf i).toNat)
  case atStart => exact ⟨0, by omega, by simp, rfl⟩
  case round =>
    obtain ⟨k, hk, rfl, rfl⟩ := hrel
    have hm := mulTo_lt a b k ha hk
    by_cases hlt : k < 32
    · have hs : mulTo a b (k + 1) = if b / 2 ^ k % 2 = 1 then mulTo a b k ^^^ (a * 2 ^ k) else mulTo a b k := rfl
      have HS := Lib.hid hs
      clear hs
      obtain ⟨m, hme⟩ : ∃ m, m = mulTo a b k := ⟨_, rfl⟩
      rw [← hme] at hm HS ⊢
      clear hme
      have hx := shl_lt a k ha hk
      by_cases hc : b / 2 ^ k % 2 = 1
      · have ht : (bits BinOp.and IntKind.u32 ((b : Int) / 2 ^ k) 1 == 1) = true := by rw [u32_bit b _ hb, hc]; rfl
        have hw : bits BinOp.xor IntKind.u64 m (IntKind.u64.wrap ((a : Int) * 2 ^ k)) = ((m ^^^ (a * 2 ^ k) : Nat) : Int) := by
          rw [u64_shl a k hx]; exact u64_xor_nat _ _ hm hx
        go_wp2
        go_round
        case rel => exact ⟨k + 1, by omega, by go_num, ival (by rw [HS.out, if_pos hc])⟩
        case measure => simp [intOf]; omega
      · have ht : (bits BinOp.and IntKind.u32 ((b : Int) / 2 ^ k) 1 == 1) = false := by
          rw [u32_bit b _ hb, show b / 2 ^ k % 2 = 0 from by omega]; rfl
        go_wp2
        go_round
        case rel => exact ⟨k + 1, by omega, by go_num, ival (by rw [HS.out, if_neg hc])⟩
        case measure => simp [intOf]; omega
    · obtain rfl : k = 32 := by omega
      go_wp2_with (go_at_call 78; refine (rest_any _ hm _).mono ?_; rintro e w' ⟨rfl, rfl⟩)
      go_ret
      exact ⟨ret_int (by simp [times]), rfl⟩
theorem shift_any (n : Nat) (hn : n < 4294967296) (w : World) :
    Calls Try.prog 77 #[.int .u32 n] w fun e w' => e = .returned (.int .u32 (shift n)) ∧ w = w' := by
  have hw : IntKind.u64.wrap ((n : Int) * 256) = ((n * 256 : Nat) : Int) := by
    have e : ((n : Int) * 256) = ((n * 256 : Nat) : Int) := by simp
    rw [e]; exact IntWalk.u64_in _ (by omega)
  go_enter Try.func77, Try.ntmps77
  go_wp2_with (go_at_call 79; refine (reduce_any (n * 256) (by omega) _).mono ?_; rintro e w' ⟨rfl, rfl⟩)
  go_ret
  exact ⟨ret_int (by simp [shift]), rfl⟩
theorem last_any (b : Nat) (hb : b < 256) (w : World) :
    Calls Try.prog 76 #[.int .u8 b] w fun e w' => e = .returned (.int .u32 (lastTo b 15)) ∧ w = w' := by
  have h0 : ((b : Int) % 4294967296) = b := by omega
  go_enter Try.func76, Try.ntmps76
  go_wp2
  go_loop [3, 6] (fun m i => ∃ k : Nat, k ≤ 15 ∧ i = .int .i64 k ∧ m = .int .u32 (lastTo b k)) (fun _ i => 15 - (intOf i).toNat)
  case atStart => exact ⟨0, by omega, by simp, rfl⟩
  case round =>
    obtain ⟨k, hk, rfl, rfl⟩ := hrel
    have hm := lastTo_lt b k hb
    by_cases hlt : k < 15
    · go_wp2_with (go_at_call 77; refine (shift_any _ hm _).mono ?_; rintro e w' ⟨rfl, rfl⟩)
      go_round
      case rel => exact ⟨k + 1, by omega, by go_num, rfl⟩
      case measure => simp [intOf]; omega
    · obtain rfl : k = 15 := by omega
      go_wp2
      go_ret
      exact ⟨rfl, rfl⟩
/-! the sum of a string's last sixteen bytes -/
def tail16 (s : ByteArray) : ByteArray := if 16 < s.size then s.extract (s.size - 16) s.size else s
theorem tail16_le (s : ByteArray) : (tail16 s).size ≤ s.size := by
  unfold tail16; split
  · simp
  · exact Nat.le_refl _
theorem take_succ_at (s : ByteArray) (k : Nat) (h : k < s.size) : s.data.toList.take (k + 1) = s.data.toList.take k ++ [s[k]] := by
  rw [List.take_succ_eq_append_getElem (by simpa using h)]; rfl
theorem of_any (s : ByteArray) (hs : s.size ≤ maxLen) (w : World) :
    Calls Try.prog 22 #[.string s] w fun e w' => e = .returned (.int .u32 (sumOf (tail16 s).data.toList)) ∧ Below w.heap.size w w' := by
  have hs1 : s.size ≤ 9223372036854775807 := hs
  clear hs
  have htl := tail16_le s
  by_cases h16 : 16 < s.size
  · obtain ⟨t, ht⟩ : ∃ t, t = tail16 s := ⟨_, rfl⟩
    rw [← ht] at htl ⊢
    have he : s.extract (s.size - 16) s.size = t := by rw [ht]; simp [tail16, h16]
    clear ht
    go_enter Try.func22, Try.ntmps22
    go_wp2_with (with_reducible refine wpList_bytes_of rfl 9 44 (.tmp 11) rfl 5 _ rfl Try.underlying9 Try.underlying44 Try.underlying5 ?_; intro w1 g c hg hc hb1 hz1 hr1; (try rw [he] at hc hr1); have HG := Lib.hid hg; clear hg)
    go_loopw [3, 14] (fun n i wr => ∃ k : Nat, k ≤ t.size ∧ i = .int .i64 k ∧ n = .int .u32 (sumOf (t.data.toList.take k)) ∧ Rd wr wr.heap.size 1 (some ⟨g, 0, none⟩) t.size (byteCells t) ∧ Below w.heap.size w wr) (fun _ i _ => t.size - (intOf i).toNat)
    case atStart => exact ⟨0, by omega, rfl, rfl, hr1, hb1⟩
    case round =>
      obtain ⟨k, hk, rfl, rfl, hr, hb⟩ := hrel
      by_cases hlt : k < t.size
      · have hc1 : wr.cell? ⟨g, k, none⟩ = some (.int .u8 (t[k].toNat : Int)) := by
          obtain ⟨ad, e, _, h⟩ := hr.at (byteCells_at t k hlt)
          injection e with e; subst e
          rw [add_plain, Nat.zero_add] at h; exact h
        have hm := sumOf_lt (t.data.toList.take k)
        have hn : sumOf (t.data.toList.take (k + 1)) = shift (sumOf (t.data.toList.take k)) ^^^ t[k].toNat := by
          rw [take_succ_at t k hlt, sumOf_snoc]
        have HN := Lib.hid hn
        clear hn
        obtain ⟨m, hme⟩ : ∃ m, m = sumOf (t.data.toList.take k) := ⟨_, rfl⟩
        rw [← hme] at hm HN ⊢
        clear hme
        have hbyte : t[k].toNat < 256 := t[k].toNat_lt
        have hx := u32_xor_nat (shift m) t[k].toNat (shift_lt m) (by omega)
        go_wp2_with (go_at_call 77; refine (shift_any _ hm _).mono ?_; rintro e w' ⟨rfl, rfl⟩)
        go_roundw
        case rel => exact ⟨k + 1, by omega, by go_num, ival (by rw [HN.out]), hr, hb⟩
        case measure => simp [intOf]; omega
      · obtain rfl : k = t.size := by omega
        go_wp2
        go_ret
        refine ⟨?_, hb⟩
        first | rfl | (rw [List.take_of_length_le (by simp)]; done) | (rw [List.take_of_length_le (by simp)]; rfl)

  · have h17 : s.size ≤ 16 := by omega
    obtain ⟨t, ht⟩ : ∃ t, t = tail16 s := ⟨_, rfl⟩
    rw [← ht] at htl ⊢
    have he : s = t := by rw [ht]; simp [tail16, h16]
    clear ht
    subst he
    have he : s.extract 0 s.size = s := by simp
    go_enter Try.func22, Try.ntmps22
    go_wp2_with (with_reducible refine wpList_bytes_of rfl 9 44 (.tmp 11) rfl 5 _ rfl Try.underlying9 Try.underlying44 Try.underlying5 ?_; intro w1 g c hg hc hb1 hz1 hr1; (try rw [he] at hc hr1); have HG := Lib.hid hg; clear hg)
    go_loopw [3, 14] (fun n i wr => ∃ k : Nat, k ≤ s.size ∧ i = .int .i64 k ∧ n = .int .u32 (sumOf (s.data.toList.take k)) ∧ Rd wr wr.heap.size 1 (some ⟨g, 0, none⟩) s.size (byteCells s) ∧ Below w.heap.size w wr) (fun _ i _ => s.size - (intOf i).toNat)
    case atStart => exact ⟨0, by omega, rfl, rfl, hr1, hb1⟩
    case round =>
      obtain ⟨k, hk, rfl, rfl, hr, hb⟩ := hrel
      by_cases hlt : k < s.size
      · have hc1 : wr.cell? ⟨g, k, none⟩ = some (.int .u8 (s[k].toNat : Int)) := by
          obtain ⟨ad, e, _, h⟩ := hr.at (byteCells_at s k hlt)
          injection e with e; subst e
          rw [add_plain, Nat.zero_add] at h; exact h
        have hm := sumOf_lt (s.data.toList.take k)
        have hn : sumOf (s.data.toList.take (k + 1)) = shift (sumOf (s.data.toList.take k)) ^^^ s[k].toNat := by
          rw [take_succ_at s k hlt, sumOf_snoc]
        have HN := Lib.hid hn
        clear hn
        obtain ⟨m, hme⟩ : ∃ m, m = sumOf (s.data.toList.take k) := ⟨_, rfl⟩
        rw [← hme] at hm HN ⊢
        clear hme
        have hbyte : s[k].toNat < 256 := s[k].toNat_lt
        have hx := u32_xor_nat (shift m) s[k].toNat (shift_lt m) (by omega)
        go_wp2_with (go_at_call 77; refine (shift_any _ hm _).mono ?_; rintro e w' ⟨rfl, rfl⟩)
        go_roundw
        case rel => exact ⟨k + 1, by omega, by go_num, ival (by rw [HN.out]), hr, hb⟩
        case measure => simp [intOf]; omega
      · obtain rfl : k = s.size := by omega
        go_wp2
        go_ret
        refine ⟨?_, hb⟩
        first | rfl | (rw [List.take_of_length_le (by simp)]; done) | (rw [List.take_of_length_le (by simp)]; rfl)

theorem rof_any (s : ByteArray) (hs : s.size ≤ maxLen) (w : World) :
    Calls Try.prog 23 #[.string s] w fun e w' => e = .returned (.int .u32 (sumOf (tail16 s).data.toList)) ∧ Below w.heap.size w w' := by
  have hs1 : s.size ≤ 9223372036854775807 := hs
  clear hs
  have htl := tail16_le s
  by_cases h16 : 16 < s.size
  · obtain ⟨t, ht⟩ : ∃ t, t = tail16 s := ⟨_, rfl⟩
    rw [← ht] at htl ⊢
    have he : s.extract (s.size - 16) s.size = t := by rw [ht]; simp [tail16, h16]
    clear ht
    go_enter Try.func23, Try.ntmps23
    go_wp2_with (with_reducible refine wpList_bytes_of rfl 9 44 (.tmp 14) rfl 5 _ rfl Try.underlying9 Try.underlying44 Try.underlying5 ?_; intro w1 g c hg hc hb1 hz1 hr1; (try rw [he] at hc hr1); have HG := Lib.hid hg; clear hg)
    go_loopw [3, 17] (fun n i wr => ∃ k : Nat, k ≤ t.size ∧ i = .int .i64 k ∧ n = .int .u32 (sumOf (t.data.toList.take k)) ∧ Rd wr wr.heap.size 1 (some ⟨g, 0, none⟩) t.size (byteCells t) ∧ Below w.heap.size w wr) (fun _ i _ => t.size - (intOf i).toNat)
    case atStart => exact ⟨0, by omega, rfl, rfl, hr1, hb1⟩
    case round =>
      obtain ⟨k, hk, rfl, rfl, hr, hb⟩ := hrel
      by_cases hlt : k < t.size
      · have hc1 : wr.cell? ⟨g, k, none⟩ = some (.int .u8 (t[k].toNat : Int)) := by
          obtain ⟨ad, e, _, h⟩ := hr.at (byteCells_at t k hlt)
          injection e with e; subst e
          rw [add_plain, Nat.zero_add] at h; exact h
        have hm := sumOf_lt (t.data.toList.take k)
        have hn : sumOf (t.data.toList.take (k + 1)) = shift (sumOf (t.data.toList.take k)) ^^^ t[k].toNat := by
          rw [take_succ_at t k hlt, sumOf_snoc]
        have HN := Lib.hid hn
        clear hn
        obtain ⟨m, hme⟩ : ∃ m, m = sumOf (t.data.toList.take k) := ⟨_, rfl⟩
        rw [← hme] at hm HN ⊢
        clear hme
        have hbyte : t[k].toNat < 256 := t[k].toNat_lt
        have hx := u32_xor_nat (shift m) t[k].toNat (shift_lt m) (by omega)
        have h256 : ((m : Int) * 256) = ((m * 256 : Nat) : Int) := by simp
        have hw : IntKind.u64.wrap ((m : Int) * 256) = ((m * 256 : Nat) : Int) := by rw [h256]; exact IntWalk.u64_in _ (by omega)
        have hx : bits .xor .u64 ((m * 256 : Nat) : Int) (t[k].toNat : Int) = ((m * 256 ^^^ t[k].toNat : Nat) : Int) := u64_xor_nat _ _ (by omega) (by omega)
        have hlx : m * 256 ^^^ t[k].toNat < 18446744073709551616 := xor_lt64 (by omega) (by omega)
        have hrd : red (m * 256 ^^^ t[k].toNat) = shift m ^^^ t[k].toNat := red_xor _ _ (by omega)
        have HRD := Lib.hid hrd
        clear hrd h256
        obtain ⟨q, hq⟩ : ∃ q, q = m * 256 ^^^ t[k].toNat := ⟨_, rfl⟩
        obtain ⟨m256, h256⟩ : ∃ q, q = m * 256 := ⟨_, rfl⟩
        rw [← h256] at hw hx hlx HRD hq
        rw [← hq] at hx hlx HRD
        clear hq h256
        go_wp2_with (go_at_call 78; refine (rest_any _ hlx _).mono ?_; rintro e w' ⟨rfl, rfl⟩)
        go_roundw
        case rel => exact ⟨k + 1, by omega, by go_num, ival (by rw [HN.out]; exact congrArg Int.ofNat HRD.out), hr, hb⟩
        case measure => simp [intOf]; omega
      · obtain rfl : k = t.size := by omega
        go_wp2
        go_ret
        refine ⟨?_, hb⟩
        first | rfl | (rw [List.take_of_length_le (by simp)]; done) | (rw [List.take_of_length_le (by simp)]; rfl)

  · have h17 : s.size ≤ 16 := by omega
    obtain ⟨t, ht⟩ : ∃ t, t = tail16 s := ⟨_, rfl⟩
    rw [← ht] at htl ⊢
    have he : s = t := by rw [ht]; simp [tail16, h16]
    clear ht
    subst he
    have he : s.extract 0 s.size = s := by simp
    go_enter Try.func23, Try.ntmps23
    go_wp2_with (with_reducible refine wpList_bytes_of rfl 9 44 (.tmp 14) rfl 5 _ rfl Try.underlying9 Try.underlying44 Try.underlying5 ?_; intro w1 g c hg hc hb1 hz1 hr1; (try rw [he] at hc hr1); have HG := Lib.hid hg; clear hg)
    go_loopw [3, 17] (fun n i wr => ∃ k : Nat, k ≤ s.size ∧ i = .int .i64 k ∧ n = .int .u32 (sumOf (s.data.toList.take k)) ∧ Rd wr wr.heap.size 1 (some ⟨g, 0, none⟩) s.size (byteCells s) ∧ Below w.heap.size w wr) (fun _ i _ => s.size - (intOf i).toNat)
    case atStart => exact ⟨0, by omega, rfl, rfl, hr1, hb1⟩
    case round =>
      obtain ⟨k, hk, rfl, rfl, hr, hb⟩ := hrel
      by_cases hlt : k < s.size
      · have hc1 : wr.cell? ⟨g, k, none⟩ = some (.int .u8 (s[k].toNat : Int)) := by
          obtain ⟨ad, e, _, h⟩ := hr.at (byteCells_at s k hlt)
          injection e with e; subst e
          rw [add_plain, Nat.zero_add] at h; exact h
        have hm := sumOf_lt (s.data.toList.take k)
        have hn : sumOf (s.data.toList.take (k + 1)) = shift (sumOf (s.data.toList.take k)) ^^^ s[k].toNat := by
          rw [take_succ_at s k hlt, sumOf_snoc]
        have HN := Lib.hid hn
        clear hn
        obtain ⟨m, hme⟩ : ∃ m, m = sumOf (s.data.toList.take k) := ⟨_, rfl⟩
        rw [← hme] at hm HN ⊢
        clear hme
        have hbyte : s[k].toNat < 256 := s[k].toNat_lt
        have hx := u32_xor_nat (shift m) s[k].toNat (shift_lt m) (by omega)
        have h256 : ((m : Int) * 256) = ((m * 256 : Nat) : Int) := by simp
        have hw : IntKind.u64.wrap ((m : Int) * 256) = ((m * 256 : Nat) : Int) := by rw [h256]; exact IntWalk.u64_in _ (by omega)
        have hx : bits .xor .u64 ((m * 256 : Nat) : Int) (s[k].toNat : Int) = ((m * 256 ^^^ s[k].toNat : Nat) : Int) := u64_xor_nat _ _ (by omega) (by omega)
        have hlx : m * 256 ^^^ s[k].toNat < 18446744073709551616 := xor_lt64 (by omega) (by omega)
        have hrd : red (m * 256 ^^^ s[k].toNat) = shift m ^^^ s[k].toNat := red_xor _ _ (by omega)
        have HRD := Lib.hid hrd
        clear hrd h256
        obtain ⟨q, hq⟩ : ∃ q, q = m * 256 ^^^ s[k].toNat := ⟨_, rfl⟩
        obtain ⟨m256, h256⟩ : ∃ q, q = m * 256 := ⟨_, rfl⟩
        rw [← h256] at hw hx hlx HRD hq
        rw [← hq] at hx hlx HRD
        clear hq h256
        go_wp2_with (go_at_call 78; refine (rest_any _ hlx _).mono ?_; rintro e w' ⟨rfl, rfl⟩)
        go_roundw
        case rel => exact ⟨k + 1, by omega, by go_num, ival (by rw [HN.out]; exact congrArg Int.ofNat HRD.out), hr, hb⟩
        case measure => simp [intOf]; omega
      · obtain rfl : k = s.size := by omega
        go_wp2
        go_ret
        refine ⟨?_, hb⟩
        first | rfl | (rw [List.take_of_length_le (by simp)]; done) | (rw [List.take_of_length_le (by simp)]; rfl)

end Go.Proofs.Ythcmjcnilhglmaa.Roll
