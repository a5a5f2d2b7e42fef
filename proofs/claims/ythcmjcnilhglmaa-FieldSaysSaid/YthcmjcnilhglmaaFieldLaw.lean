/- Pow, Inv, Dot and At of package field, their references, and the law FieldSays, walked: the law returns true. No condition. -/
import Derived.Test.YthcmjcnilhglmaaFieldWalks
import Derived.Deep.DeepCutAuto
namespace Go.Proofs.Ythcmjcnilhglmaa.Fld
open Go.RowKit
set_option linter.unusedSimpArgs false
set_option linter.unusedVariables false
theorem pow_no (a : Nat) (ha : a < 256) (n : Int) (hn : n < 0) (w : World) :
    Calls Try.prog 24 #[.int .u8 a, .int .i64 n] w fun e w' => e = .returned (.tuple #[.int .u8 0, .int .i64 1]) ∧ w = w' := by
  go_enter Try.func24, Try.ntmps24
  go_wp2
  go_ret2
  exact ⟨rfl, rfl⟩
theorem pow_yes (a : Nat) (ha : a < 256) (n : Nat) (hn : n < 9223372036854775808) (w : World) :
    Calls Try.prog 24 #[.int .u8 a, .int .i64 n] w fun e w' => e = .returned (.tuple #[.int .u8 (gpow a n), .int .i64 0]) ∧ w = w' := by
  go_enter Try.func24, Try.ntmps24
  go_wp2_with (go_at_call 80; refine (power_any a ha n hn _).mono ?_; rintro e w' ⟨rfl, rfl⟩)
  go_ret2
  exact ⟨rfl, rfl⟩
theorem inv_no (w : World) :
    Calls Try.prog 26 #[.int .u8 0] w fun e w' => e = .returned (.tuple #[.int .u8 0, .int .i64 1]) ∧ w = w' := by
  go_enter Try.func26, Try.ntmps26
  go_wp2
  go_ret2
  exact ⟨rfl, rfl⟩
theorem inv_yes (a : Nat) (ha : a < 256) (h0 : 0 < a) (w : World) :
    Calls Try.prog 26 #[.int .u8 a] w fun e w' => e = .returned (.tuple #[.int .u8 (ginv a), .int .i64 0]) ∧ w = w' := by
  have t0 : ((a : Int) == 0) = false := by rw [beq_eq_false_iff_ne]; omega
  go_enter Try.func26, Try.ntmps26
  go_wp2_with (go_at_call 80; refine (power_any a ha 254 (by omega) _).mono ?_; rintro e w' ⟨rfl, rfl⟩)
  go_ret2
  exact ⟨rfl, rfl⟩
theorem rpow_any (a : Nat) (ha : a < 256) (n : Nat) (hn : n < 9223372036854775808) (w : World) :
    Calls Try.prog 25 #[.int .u8 a, .int .i64 n] w fun e w' => e = .returned (.int .u8 (gpow a n)) ∧ w = w' := by
  by_cases hn0 : n = 0
  · subst hn0
    go_enter Try.func25, Try.ntmps25
    go_wp2
    go_ret
    exact ⟨rfl, rfl⟩
  · have t0 : ((n : Int) == 0) = false := by rw [beq_eq_false_iff_ne]; omega
    by_cases ha0 : a = 0
    · subst ha0
      have hz : gpow 0 n = 0 := zero_gpow n (by omega)
      have HZ := Lib.hid hz
      clear hz hn0
      go_enter Try.func25, Try.ntmps25
      go_wp2
      go_ret
      exact ⟨ret_int (by rw [HZ.out]; rfl), rfl⟩
    · have t1 : ((a : Int) == 0) = false := by rw [beq_eq_false_iff_ne]; omega
      have hm : gpow a (n % 255) = gpow a n := gpow_mod ha ha0 n
      have HM := Lib.hid hm
      have hr : ((n : Int) % 255) = ((n % 255 : Nat) : Int) := by omega
      have hrl : n % 255 < 255 := Nat.mod_lt _ (by omega)
      obtain ⟨r, hre⟩ : ∃ r, r = n % 255 := ⟨_, rfl⟩
      rw [← hre] at hr hrl HM
      clear hm hre hn0 ha0
      go_enter Try.func25, Try.ntmps25
      go_wp2
      try rw [hr]
      clear hr
      go_loop [5, 12] (fun o i => ∃ k : Nat, k ≤ r ∧ i = .int .i64 k ∧ o = .int .u8 (gpow a k)) (fun _ i => r - (intOf i).toNat)
      case atStart => exact ⟨0, by omega, rfl, rfl⟩
      case round =>
        obtain ⟨k, hk, rfl, rfl⟩ := hrel
        have hgl := gpow_lt a k ha
        by_cases hlt : k < r
        · go_wp2_with (go_at_call 28; refine (rmul_any _ _ (by assumption) (by assumption) _).mono ?_; rintro e w' ⟨rfl, rfl⟩)
          go_round
          case rel => exact ⟨k + 1, by omega, by go_num, rfl⟩
          case measure => simp [intOf]; omega
        · obtain rfl : k = r := by omega
          go_wp2
          go_ret
          exact ⟨ret_int (by rw [HM.out]), rfl⟩
def rinv (a : Nat) : Nat := if a = 0 then 0 else ginv a
set_option maxRecDepth 100000 in
theorem rinv_any (a : Nat) (ha : a < 256) (w : World) :
    Calls Try.prog 30 #[.int .u8 a] w fun e w' => e = .returned (.int .u8 (rinv a)) ∧ w = w' := by
  go_enter Try.func30, Try.ntmps30
  go_wp2
  go_loop [4] (fun i => ∃ k : Nat, k ≤ 256 ∧ i = .int .i64 k ∧ Hid (∀ j, j < k → gm a j ≠ 1)) (fun i => 256 - (intOf i).toNat)
  case atStart => exact ⟨0, by omega, rfl, fun j hj => by omega⟩
  case round =>
    obtain ⟨k, hk, rfl, hno⟩ := hrel
    by_cases hlt : k < 256
    · have hc : ((k : Int) % 256) = k := by omega
      by_cases h1 : gm a k = 1
      · have hf : rinv a = k := by
          have h0 : a ≠ 0 := by rintro rfl; rw [zero_gm] at h1; cases h1
          rw [rinv, if_neg h0, ginv_only ha hlt h1]
        have HF := Lib.hid hf
        clear hf
        go_wp2_with (go_at_call 28; refine (rmul_any _ _ (by assumption) (by assumption) _).mono ?_; rintro e w' ⟨rfl, rfl⟩)
        go_ret
        exact ⟨ret_int (by rw [HF.out]), rfl⟩
      · have t1 : ((gm a k : Nat) == (1 : Int)) = false := by rw [beq_eq_false_iff_ne]; omega
        have hno' : Hid (∀ j, j < k + 1 → gm a j ≠ 1) := fun j hj => by
          by_cases e : j = k
          · rw [e]; exact h1
          · exact hno j (by omega)
        clear h1 hno
        go_wp2_with (go_at_call 28; refine (rmul_any _ _ (by assumption) (by assumption) _).mono ?_; rintro e w' ⟨rfl, rfl⟩)
        go_round
        case rel => exact ⟨k + 1, by omega, by go_num, hno'⟩
        case measure => simp [intOf]; omega
    · obtain rfl : k = 256 := by omega
      have hf : rinv a = 0 := by
        unfold rinv
        by_cases h0 : a = 0
        · rw [if_pos h0]
        · exact absurd (gm_ginv ha h0) (hno.out _ (ginv_lt ha))
      have HF := Lib.hid hf
      clear hf hno
      go_wp2
      go_ret
      exact ⟨ret_int (by rw [HF.out]; rfl), rfl⟩
/-! slices of bytes -/
def byteVals (l : List Nat) : List Value := l.map fun b => .int .u8 (b : Nat)
theorem byteVals_at {l : List Nat} {k : Nat} (hk : k < l.length) : (byteVals l)[k]? = some (.int .u8 (l.getD k 0 : Nat)) := by
  unfold byteVals
  rw [List.getElem?_map, List.getD_eq_getElem?_getD, List.getElem?_eq_getElem hk]; rfl
set_option maxRecDepth 100000 in
theorem dot_any (A B : Option Addr) (c d : Nat) (l m : List Nat) (hl : ∀ c ∈ l, c < 256) (hm : ∀ c ∈ m, c < 256) (hlen : l.length = m.length) (hmax : l.length ≤ 9223372036854775807) (w : World)
    (ha : Rd w w.heap.size 1 A l.length (byteVals l)) (hb : Rd w w.heap.size 1 B m.length (byteVals m)) :
    Calls Try.prog 27 #[.slice A l.length c, .slice B m.length d] w fun e w' => e = .returned (.tuple #[.int .u8 (dotTo l m l.length), .int .i64 0]) ∧ Below w.heap.size w w' := by
  have hne : ((l.length : Int) != (m.length : Int)) = false := by rw [hlen]; simp
  obtain ⟨n, hn⟩ : ∃ n, n = l.length := ⟨_, rfl⟩
  obtain ⟨n2, hn2⟩ : ∃ n2, n2 = m.length := ⟨_, rfl⟩
  rw [← hn, ← hn2] at hne
  rw [← hn] at ha hmax ⊢
  rw [← hn2] at hb ⊢
  have HN := Lib.hid hn
  have HN2 := Lib.hid hn2
  have HLEN := Lib.hid hlen
  clear hn hn2 hlen
  go_enter Try.func27, Try.ntmps27
  go_wp2
  go_loopw [6, 15] (fun o i wr => ∃ k : Nat, k ≤ n ∧ i = .int .i64 k ∧ o = .int .u8 (dotTo l m k) ∧ Below w.heap.size w wr) (fun _ i _ => n - (intOf i).toNat)
  case atStart => exact ⟨0, by omega, rfl, rfl, Below.refl _ _⟩
  case round =>
    obtain ⟨k, hk, rfl, rfl, hbw⟩ := hrel
    by_cases hlt : k < n
    · have hkl : k < l.length := by rw [← HN.out]; exact hlt
      have hkm : k < m.length := by rw [← HLEN.out]; exact hkl
      obtain ⟨ad, rfl, _, hca⟩ := (ha.below hbw (Nat.le_refl _)).at (byteVals_at hkl)
      obtain ⟨bd, rfl, _, hcb⟩ := (hb.below hbw (Nat.le_refl _)).at (byteVals_at hkm)
      have hlt2 : k < n2 := by rw [HN2.out]; exact hkm
      have hx1 := getD_lt hl k
      have hx2 := getD_lt hm k
      have hd := dotTo_lt l m hl k
      have hs : dotTo l m (k + 1) = dotTo l m k ^^^ gm (l.getD k 0) (m.getD k 0) := rfl
      have HS := Lib.hid hs
      clear hs hkl hkm
      obtain ⟨x, hx⟩ : ∃ x, x = l.getD k 0 := ⟨_, rfl⟩
      obtain ⟨y, hy⟩ : ∃ y, y = m.getD k 0 := ⟨_, rfl⟩
      obtain ⟨z, hz⟩ : ∃ z, z = dotTo l m k := ⟨_, rfl⟩
      rw [← hx] at hca hx1 HS
      rw [← hy] at hcb hx2 HS
      rw [← hz] at hd HS ⊢
      clear hx hy hz
      have hxo := u8_xor_nat z (gm x y) hd (gm_lt x y hx1)
      go_wp2_with fail
      refine wp_still (by kernel_rfl) (by kernel_rfl) fun wd hwd => ?_
      have hbd : Below w.heap.size w wd := by rw [hwd]; exact hbw.drew
      have hca' : wd.cell? (ad.add k) = some (.int .u8 (x : Nat)) := by rw [hwd]; exact hca
      have hcb' : wd.cell? (bd.add k) = some (.int .u8 (y : Nat)) := by rw [hwd]; exact hcb
      clear hwd hca hcb
      repeat still_step
      still_call ((mul_any x y hx1 hx2 _).mono fun _ _ h => ⟨h.1, h.2.symm⟩)
      repeat still_step
      refine wpStill_nil ?_
      go_wp2
      go_roundw
      case rel => exact ⟨k + 1, by omega, by go_num, ival (by rw [HS.out]), hbd⟩
      case measure => simp [intOf]; omega
    · obtain rfl : k = n := by omega
      go_wp2
      go_ret2
      exact ⟨rfl, hbw⟩
theorem dot_no (A B : Option Addr) (c d n n2 : Nat) (hne : n ≠ n2) (w : World) :
    Calls Try.prog 27 #[.slice A n c, .slice B n2 d] w fun e w' => e = .returned (.tuple #[.int .u8 0, .int .i64 1]) ∧ Below w.heap.size w w' := by
  have h : ((n : Int) != (n2 : Int)) = true := by rw [bne_iff_ne]; omega
  clear hne
  go_enter Try.func27, Try.ntmps27
  go_wp2
  go_ret2
  exact ⟨rfl, Below.refl _ _⟩
set_option maxRecDepth 100000 in
theorem at_any (A : Option Addr) (c : Nat) (l : List Nat) (hl : ∀ c ∈ l, c < 256) (hmax : l.length ≤ 9223372036854775807) (x : Nat) (hx : x < 256) (w : World)
    (ha : Rd w w.heap.size 1 A l.length (byteVals l)) :
    Calls Try.prog 31 #[.slice A l.length c, .int .u8 x] w fun e w' => e = .returned (.int .u8 (atL l x)) ∧ Below w.heap.size w w' := by
  obtain ⟨n, hn⟩ : ∃ n, n = l.length := ⟨_, rfl⟩
  rw [← hn] at ha hmax ⊢
  have HN := Lib.hid hn
  clear hn
  go_enter Try.func31, Try.ntmps31
  go_wp2
  go_loopw [5, 6] (fun o i wr => ∃ k : Nat, k ≤ n ∧ i = .int .i64 (k - 1) ∧ o = .int .u8 (atL (l.drop k) x) ∧ Below w.heap.size w wr) (fun _ i _ => (intOf i + 1).toNat)
  case atStart => exact ⟨n, by omega, rfl, by rw [HN.out, List.drop_length]; rfl, Below.refl _ _⟩
  case round =>
    obtain ⟨k, hk, rfl, rfl, hbw⟩ := hrel
    by_cases hlt : 0 < k
    · obtain ⟨j, rfl⟩ : ∃ j, k = j + 1 := ⟨k - 1, by omega⟩
      have hjl : j < l.length := by rw [← HN.out]; omega
      obtain ⟨ad, rfl, _, hca⟩ := (ha.below hbw (Nat.le_refl _)).at (byteVals_at hjl)
      have hx1 := getD_lt hl j
      have hal := atL_lt (l.drop (j + 1)) x (fun c hc => hl c (List.mem_of_mem_drop hc))
      have hs := atL_drop l x j hjl
      have HS := Lib.hid hs
      clear hs hjl
      obtain ⟨y, hy⟩ : ∃ y, y = l.getD j 0 := ⟨_, rfl⟩
      obtain ⟨z, hz⟩ : ∃ z, z = atL (l.drop (j + 1)) x := ⟨_, rfl⟩
      rw [← hy] at hca hx1 HS
      rw [← hz] at hal HS ⊢
      clear hy hz
      have hxo := u8_xor_nat (gm z x) y (gm_lt z x hal) hx1
      have e1 : (((j + 1 : Nat) : Int) - 1) = (j : Int) := by omega
      rw [e1]
      clear e1
      have hjn : j < n := by omega
      go_wp2_with fail
      refine wp_still (by kernel_rfl) (by kernel_rfl) fun wd hwd => ?_
      have hbd : Below w.heap.size w wd := by rw [hwd]; exact hbw.drew
      have hca' : wd.cell? (ad.add j) = some (.int .u8 (y : Nat)) := by rw [hwd]; exact hca
      clear hwd hca
      repeat still_step
      still_call ((mul_any z x hal hx _).mono fun _ _ h => ⟨h.1, h.2.symm⟩)
      repeat still_step
      refine wpStill_nil ?_
      go_wp2
      go_roundw
      case rel => exact ⟨j, by omega, rfl, ival (by rw [HS.out]), hbd⟩
      case measure => simp only [intOf]; omega
    · obtain rfl : k = 0 := by omega
      go_wp2
      go_ret
      exact ⟨rfl, hbw⟩
theorem rat_any (A : Option Addr) (c : Nat) (l : List Nat) (hl : ∀ c ∈ l, c < 256) (hmax : l.length ≤ 9223372036854775807) (x : Nat) (hx : x < 256) (w : World)
    (ha : Rd w w.heap.size 1 A l.length (byteVals l)) :
    Calls Try.prog 32 #[.slice A l.length c, .int .u8 x] w fun e w' => e = .returned (.int .u8 (atL l x)) ∧ Below w.heap.size w w' := by
  have hend := upTo_end x hx l hl
  obtain ⟨n, hn⟩ : ∃ n, n = l.length := ⟨_, rfl⟩
  rw [← hn] at ha hmax hend ⊢
  have HN := Lib.hid hn
  have HE := Lib.hid hend
  clear hn hend
  go_enter Try.func32, Try.ntmps32
  go_wp2
  go_loop [5, 6, 11] (fun o u i => ∃ k : Nat, k ≤ n ∧ i = .int .i64 k ∧ o = .int .u8 (upTo x l k).2 ∧ u = .int .u8 (upTo x l k).1) (fun _ _ i => n - (intOf i).toNat)
  case atStart => exact ⟨0, by omega, rfl, rfl, rfl⟩
  case round =>
    obtain ⟨k, hk, rfl, rfl, rfl⟩ := hrel
    by_cases hlt : k < n
    · have hkl : k < l.length := by rw [← HN.out]; exact hlt
      obtain ⟨ad, rfl, _, hca⟩ := ha.at (byteVals_at hkl)
      have hx1 := getD_lt hl k
      obtain ⟨hu1, hu2⟩ := upTo_lt x hx l hl k
      have hs : upTo x l (k + 1) = (gm (upTo x l k).1 x, (upTo x l k).2 ^^^ gm (l.getD k 0) (upTo x l k).1) := rfl
      have HS := Lib.hid hs
      clear hs hkl
      obtain ⟨y, hy⟩ : ∃ y, y = l.getD k 0 := ⟨_, rfl⟩
      obtain ⟨u, hu⟩ : ∃ y, y = (upTo x l k).1 := ⟨_, rfl⟩
      obtain ⟨z, hz⟩ : ∃ z, z = (upTo x l k).2 := ⟨_, rfl⟩
      rw [← hy] at hca hx1 HS
      rw [← hu] at hu1 HS
      rw [← hz] at hu2 HS
      rw [← hu, ← hz]
      clear hy hu hz
      have hxo := u8_xor_nat z (gm y u) hu2 (gm_lt y u hx1)
      go_wp2_with (go_at_call 28; refine (rmul_any _ _ (by assumption) (by assumption) _).mono ?_; rintro e w' ⟨rfl, rfl⟩)
      go_round
      case rel => exact ⟨k + 1, by omega, by go_num, ival (by rw [HS.out]), ival (by rw [HS.out])⟩
      case measure => simp [intOf]; omega
    · obtain rfl : k = n := by omega
      go_wp2
      go_ret
      exact ⟨ret_int (by rw [HE.out]), Below.refl _ _⟩
theorem pow_same (a : Nat) (ha : a < 256) (n : Int) (hn : n ≤ 9223372036854775807) : ∃ p : Nat, p < 256 ∧ ((0 ≤ n ∧ (∀ w, Calls Try.prog 24 #[.int .u8 a, .int .i64 n] w fun e w' => e = .returned (.tuple #[.int .u8 p, .int .i64 0]) ∧ w = w') ∧
      (∀ w, Calls Try.prog 25 #[.int .u8 a, .int .i64 n] w fun e w' => e = .returned (.int .u8 p) ∧ w = w')) ∨
    (n < 0 ∧ p = 0 ∧ ∀ w, Calls Try.prog 24 #[.int .u8 a, .int .i64 n] w fun e w' => e = .returned (.tuple #[.int .u8 0, .int .i64 1]) ∧ w = w')) := by
  by_cases h : n < 0
  · exact ⟨0, by omega, .inr ⟨h, rfl, fun w => pow_no a ha n h w⟩⟩
  · obtain ⟨m, rfl⟩ := Int.eq_ofNat_of_zero_le (show 0 ≤ n by omega)
    exact ⟨gpow a m, gpow_lt a m ha, .inl ⟨by omega, fun w => pow_yes a ha m (by omega) w, fun w => rpow_any a ha m (by omega) w⟩⟩
/-- what Inv answers: the inverse or 0, and the error -/
def invE (a : Nat) : Int := if a = 0 then 1 else 0
theorem inv_any (a : Nat) (ha : a < 256) (w : World) : Calls Try.prog 26 #[.int .u8 a] w fun e w' => e = .returned (.tuple #[.int .u8 (rinv a), .int .i64 (invE a)]) ∧ w = w' := by
  by_cases h0 : a = 0
  · subst h0; exact inv_no w
  · unfold rinv invE
    rw [if_neg h0, if_neg h0]
    exact inv_yes a ha (by omega) w
set_option maxRecDepth 100000 in
set_option maxHeartbeats 1000000 in
theorem tail_any (a b : Nat) (ha : a < 256) (hb : b < 256) (n : Int) (hn : n ≤ 9223372036854775807) (A B : Option Addr) (c d : Nat) (l m : List Nat) (hl : ∀ c ∈ l, c < 256) (hm : ∀ c ∈ m, c < 256) (hmax : l.length ≤ 9223372036854775807) (hmax2 : m.length ≤ 9223372036854775807) (w : World)
    (hA : Rd w w.heap.size 1 A l.length (byteVals l)) (hB : Rd w w.heap.size 1 B m.length (byteVals m)) :
    Calls Try.prog 6 #[.int .u8 a, .int .u8 b, .int .i64 n, .slice A l.length c, .slice B m.length d] w fun e w' => e = .returned (.bool true) ∧ Below w.heap.size w w' := by
  obtain ⟨p, hp, hpow⟩ := pow_same a ha n hn
  have hia : (invE a == (1 : Int)) = ((a : Int) == 0) := by
    unfold invE
    by_cases h : a = 0
    · subst h; rfl
    · rw [if_neg h]; have : ((a : Int) == 0) = false := by rw [beq_eq_false_iff_ne]; omega
      rw [this]; rfl
  have hio : (invE a == (0 : Int)) = ((a : Int) != 0) := by
    unfold invE
    by_cases h : a = 0
    · subst h; rfl
    · rw [if_neg h]; have : ((a : Int) != 0) = true := by rw [bne_iff_ne]; omega
      rw [this]; rfl
  have hat := at_any A c l hl hmax a ha
  have hrat := rat_any A c l hl hmax a ha
  have hdot := fun h => dot_any A B c d l m hl hm h hmax
  obtain ⟨n1, hn1⟩ : ∃ n, n = l.length := ⟨_, rfl⟩
  obtain ⟨n2, hn2⟩ : ∃ n, n = m.length := ⟨_, rfl⟩
  rw [← hn1] at hA hat hrat hmax ⊢
  rw [← hn2] at hB hmax2 ⊢
  have HAT := Lib.hid hat
  have HRAT := Lib.hid hrat
  have HDOT := Lib.hid hdot
  have HN1 := Lib.hid hn1
  have HN2 := Lib.hid hn2
  clear hat hrat hdot hn1 hn2
  rcases hpow with ⟨h0, hp1, hp2⟩ | ⟨h0, rfl, hp1⟩
  all_goals
    by_cases hne : n1 = n2
    · have hd : ∀ w', Below w.heap.size w w' → Calls Try.prog 27 #[.slice A n1 c, .slice B n2 d] w' fun e w'' => e = .returned (.tuple #[.int .u8 (dotTo l m n1), .int .i64 0]) ∧ Below w'.heap.size w' w'' := by
        intro w' hb
        have := HDOT.out (by rw [← HN1.out, ← HN2.out, hne]) w' (by rw [← HN1.out]; exact (hA.below hb (Nat.le_refl _)).more hb.size) (by rw [← HN2.out]; exact (hB.below hb (Nat.le_refl _)).more hb.size)
        rw [← HN1.out, ← HN2.out] at this
        exact this
      have HD := Lib.hid hd
      have ht : ((n1 : Int) != (n2 : Int)) = false := by rw [hne]; simp
      have HNE := Lib.hid hne
      clear hd hne
      go_enter Try.func6, Try.ntmps6
      go_wp2_with (first
        | (go_at_call 24; refine (hp1 _).mono ?_; rintro e w' ⟨rfl, rfl⟩)
        | (go_at_call 25; refine (hp2 _).mono ?_; rintro e w' ⟨rfl, rfl⟩)
        | (go_at_call 26; refine (inv_any a ha _).mono ?_; rintro e w' ⟨rfl, rfl⟩)
        | (go_at_call 27; refine (HD.out _ (Below.refl _ _)).mono ?_; rintro e w1 ⟨rfl, hb1⟩))
      have hb0 := hb1
      go_loopw [17, 66] (fun o i wr => ∃ k : Nat, k ≤ n1 ∧ i = .int .i64 k ∧ o = .int .u8 (dotTo l m k) ∧ Below w.heap.size w wr) (fun _ i _ => n1 - (intOf i).toNat)
      case atStart => exact ⟨0, by omega, rfl, rfl, hb0⟩
      case round =>
        obtain ⟨k, hk, rfl, rfl, hbw⟩ := hrel
        by_cases hlt : k < n1
        · have hkl : k < l.length := by rw [← HN1.out]; exact hlt
          have hkm : k < m.length := by rw [← HN2.out, ← HNE.out]; exact hlt
          obtain ⟨ad, rfl, _, hca⟩ := (hA.below hbw (Nat.le_refl _)).at (byteVals_at hkl)
          obtain ⟨bd, rfl, _, hcb⟩ := (hB.below hbw (Nat.le_refl _)).at (byteVals_at hkm)
          have hlt2 : k < n2 := by rw [← HNE.out]; exact hlt
          have hx1 := getD_lt hl k
          have hx2 := getD_lt hm k
          have hd := dotTo_lt l m hl k
          have hs : dotTo l m (k + 1) = dotTo l m k ^^^ gm (l.getD k 0) (m.getD k 0) := rfl
          have HS := Lib.hid hs
          clear hs hkl hkm
          obtain ⟨x, hx⟩ : ∃ x, x = l.getD k 0 := ⟨_, rfl⟩
          obtain ⟨y, hy⟩ : ∃ y, y = m.getD k 0 := ⟨_, rfl⟩
          obtain ⟨z, hz⟩ : ∃ z, z = dotTo l m k := ⟨_, rfl⟩
          rw [← hx] at hca hx1 HS
          rw [← hy] at hcb hx2 HS
          rw [← hz] at hd HS ⊢
          clear hx hy hz
          have hxo := u8_xor_nat z (gm x y) hd (gm_lt x y hx1)
          go_wp2_with fail
          refine wp_still (by kernel_rfl) (by kernel_rfl) fun wd hwd => ?_
          have hbd : Below w.heap.size w wd := by rw [hwd]; exact hbw.drew
          have hca' : wd.cell? (ad.add k) = some (.int .u8 (x : Nat)) := by rw [hwd]; exact hca
          have hcb' : wd.cell? (bd.add k) = some (.int .u8 (y : Nat)) := by rw [hwd]; exact hcb
          clear hwd hca hcb
          repeat still_step
          still_call ((rmul_any x y hx1 hx2 _).mono fun _ _ h => ⟨h.1, h.2.symm⟩)
          repeat still_step
          refine wpStill_nil ?_
          go_wp2
          go_roundw
          case rel => exact ⟨k + 1, by omega, by go_num, ival (by rw [HS.out]), hbd⟩
          case measure => simp [intOf]; omega
        · obtain rfl : k = n1 := by omega
          have hat2 := HAT.out wr ((hA.below hbw (Nat.le_refl _)).more hbw.size)
          have HAT2 := Lib.hid hat2
          clear hat2
          go_wp2_with (first
            | (go_at_call 29; refine (mul_any a b ha hb _).mono ?_; rintro e w' ⟨rfl, rfl⟩)
            | (go_at_call 28; refine (rmul_any a b ha hb _).mono ?_; rintro e w' ⟨rfl, rfl⟩)
            | (go_at_call 30; refine (rinv_any a ha _).mono ?_; rintro e w' ⟨rfl, rfl⟩)
            | (go_at_call 31; refine (HAT2.out).mono ?_; rintro e w8 ⟨rfl, hb8⟩; have hb9 := hbw.trans (hb8.mono hbw.size))
            | (go_at_call 32; have hr9 := HRAT.out w8 ((hA.below hb9 (Nat.le_refl _)).more hb9.size); refine hr9.mono ?_; rintro e w9 ⟨rfl, hb10⟩; have hb11 := hb9.trans (hb10.mono hb9.size)))
          go_ret
          exact ⟨rfl, hb11⟩
    · have ht : ((n1 : Int) != (n2 : Int)) = true := by rw [bne_iff_ne]; omega
      have hd := dot_no A B c d n1 n2 hne
      clear hne
      go_enter Try.func6, Try.ntmps6
      go_upto_region 20 with (first
        | (go_at_call 24; refine (hp1 _).mono ?_; rintro e w' ⟨rfl, rfl⟩)
        | (go_at_call 25; refine (hp2 _).mono ?_; rintro e w' ⟨rfl, rfl⟩)
        | (go_at_call 26; refine (inv_any a ha _).mono ?_; rintro e w' ⟨rfl, rfl⟩)
        | (go_at_call 27; refine (hd _).mono ?_; rintro e w1 ⟨rfl, hb1⟩))
      have hat2 := HAT.out w1 ((hA.below hb1 (Nat.le_refl _)).more hb1.size)
      have HAT2 := Lib.hid hat2
      clear hat2
      go_wp2_with (first
        | (go_at_call 29; refine (mul_any a b ha hb _).mono ?_; rintro e w' ⟨rfl, rfl⟩)
        | (go_at_call 28; refine (rmul_any a b ha hb _).mono ?_; rintro e w' ⟨rfl, rfl⟩)
        | (go_at_call 30; refine (rinv_any a ha _).mono ?_; rintro e w' ⟨rfl, rfl⟩)
        | (go_at_call 31; refine (HAT2.out).mono ?_; rintro e w8 ⟨rfl, hb8⟩; have hb9 := hb1.trans (hb8.mono hb1.size))
        | (go_at_call 32; have hr9 := HRAT.out w8 ((hA.below hb9 (Nat.le_refl _)).more hb9.size); refine hr9.mono ?_; rintro e w9 ⟨rfl, hb10⟩; have hb11 := hb9.trans (hb10.mono hb9.size)))
      go_ret
      exact ⟨rfl, hb11⟩
end Go.Proofs.Ythcmjcnilhglmaa.Fld
