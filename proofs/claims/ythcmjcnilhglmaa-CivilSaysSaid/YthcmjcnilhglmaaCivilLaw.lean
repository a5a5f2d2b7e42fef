/- The references of Days, Date, Weekday and Week, and the law CivilSays, walked: the law returns true. No condition. -/
import Derived.Test.YthcmjcnilhglmaaCivilWalks
namespace Go.Proofs.Ythcmjcnilhglmaa.Civ
open Go.RowKit
set_option linter.unusedSimpArgs false
set_option linter.unusedVariables false
theorem rcdays_yes (y m d : Int) (h : Valid y m d) (w : World) :
    Calls Try.prog 47 #[.int .i64 y, .int .i64 m, .int .i64 d] w fun e w' => e = .returned (.tuple #[.int .i64 (num y m d), .int .i64 0]) ∧ w = w' := by
  obtain ⟨h1, h2, h3, h4, h5, h6⟩ := id h
  have hl := len_bd y m
  have hn : rdays y m d = num y m d := rdays_num y m d h3 h4
  have HN := Lib.hid hn
  clear hn
  go_enter Try.func47, Try.ntmps47
  go_wp2_with (first
    | (go_at_call 93; refine (rdays_any _ _ _ (by omega) (by omega) (by omega) (by omega) (by omega) (by omega) _).mono ?_; rintro e w' ⟨rfl, rfl⟩)
    | (go_at_call 94; refine (rdate_any y m d h _ HN.out _).mono ?_; rintro e w' ⟨rfl, rfl⟩))
  go_ret2
  exact ⟨by rw [← HN.out]; rfl, rfl⟩
theorem rcdays_no (y m d : Int) (h : ¬ Valid y m d) (w : World) :
    Calls Try.prog 47 #[.int .i64 y, .int .i64 m, .int .i64 d] w fun e w' => e = .returned (.tuple #[.int .i64 0, .int .i64 1]) ∧ w = w' := by
  by_cases hs : 1 ≤ y ∧ y ≤ 9999 ∧ 1 ≤ m ∧ m ≤ 12 ∧ 1 ≤ d ∧ d ≤ 31
  · obtain ⟨h1, h2, h3, h4, h5, h6⟩ := hs
    have h7 : len y m < d := by unfold Valid at h; omega
    obtain ⟨m', d', hv, hn, hne⟩ := second_none h1 h2 h3 h4 h5 h6 h7
    have HN := Lib.hid hn.symm
    have hne' : (m' != m) = true := by rw [bne_iff_ne]; exact hne
    clear hn h hne
    go_enter Try.func47, Try.ntmps47
    go_wp2_with (first
      | (go_at_call 93; refine (rdays_any _ _ _ (by omega) (by omega) (by omega) (by omega) (by omega) (by omega) _).mono ?_; rintro e w' ⟨rfl, rfl⟩)
      | (go_at_call 94; refine (rdate_any y m' d' hv _ HN.out _).mono ?_; rintro e w' ⟨rfl, rfl⟩))
    go_ret2
    exact ⟨rfl, rfl⟩
  · clear h
    go_enter Try.func47, Try.ntmps47
    go_wp2_with fail
    all_goals (go_ret2; exact ⟨rfl, rfl⟩)
theorem rcdate_yes (y m d : Int) (h : Valid y m d) (n : Int) (hn : n = num y m d) (w : World) :
    Calls Try.prog 49 #[.int .i64 n] w fun e w' => e = .returned (.tuple #[.int .i64 y, .int .i64 m, .int .i64 d, .int .i64 0]) ∧ w = w' := by
  have hbd := num_bd h
  rw [← hn] at hbd
  have hok := okE_yes hbd.1 hbd.2
  have HN := Lib.hid hn
  clear hn
  go_enter Try.func49, Try.ntmps49
  go_wp2_with (first
    | (go_at_call 55; refine (rok_any _ _).mono ?_; rintro e w' ⟨rfl, rfl⟩)
    | (go_at_call 94; refine (rdate_any y m d h _ HN.out _).mono ?_; rintro e w' ⟨rfl, rfl⟩))
  refine bodyPost_ret (v := .tuple #[.int .i64 y, .int .i64 m, .int .i64 d, .int .i64 0]) (by simp [results, Try.results49, go_sem]) rfl ⟨rfl, rfl⟩
theorem rcdate_no (n : Int) (h : n < -719162 ∨ 2932896 < n) (w : World) :
    Calls Try.prog 49 #[.int .i64 n] w fun e w' => e = .returned (.tuple #[.int .i64 0, .int .i64 0, .int .i64 0, .int .i64 1]) ∧ w = w' := by
  have hok := okE_no h
  go_enter Try.func49, Try.ntmps49
  go_wp2_with (go_at_call 55; refine (rok_any _ _).mono ?_; rintro e w' ⟨rfl, rfl⟩)
  refine bodyPost_ret (v := .tuple #[.int .i64 0, .int .i64 0, .int .i64 0, .int .i64 1]) (by simp [results, Try.results49, go_sem]) rfl ⟨rfl, rfl⟩
theorem rcweekday_yes (n : Int) (h1 : -719162 ≤ n) (h2 : n ≤ 2932896) (w : World) :
    Calls Try.prog 51 #[.int .i64 n] w fun e w' => e = .returned (.tuple #[.int .i64 ((n + 719162) % 7 + 1), .int .i64 0]) ∧ w = w' := by
  have hok := okE_yes h1 h2
  have hwd : (n - n / 7 * 7 + 3) % 7 + 1 = (n + 719162) % 7 + 1 := by omega
  have hnn : 0 ≤ n - n / 7 * 7 + 3 := by omega
  have HW := Lib.hid hwd
  clear hwd
  go_enter Try.func51, Try.ntmps51
  go_wp2_with (first
    | (go_at_call 55; refine (rok_any _ _).mono ?_; rintro e w' ⟨rfl, rfl⟩)
    | (go_at_call 97; refine (floor_any _ _ (by omega) (by omega) (by omega) _).mono ?_; rintro e w' ⟨rfl, rfl⟩))
  go_ret2
  exact ⟨by rw [← HW.out]; rfl, rfl⟩
theorem rcweekday_no (n : Int) (h : n < -719162 ∨ 2932896 < n) (w : World) :
    Calls Try.prog 51 #[.int .i64 n] w fun e w' => e = .returned (.tuple #[.int .i64 0, .int .i64 1]) ∧ w = w' := by
  have hok := okE_no h
  go_enter Try.func51, Try.ntmps51
  go_wp2_with (go_at_call 55; refine (rok_any _ _).mono ?_; rintro e w' ⟨rfl, rfl⟩)
  go_ret2
  exact ⟨rfl, rfl⟩
theorem rcweek_yes (n : Int) (h1 : -719162 ≤ n) (h2 : n ≤ 2932896) (y m d : Int) (h : Valid y m d) (hn : thu n = num y m d) (w : World) :
    Calls Try.prog 53 #[.int .i64 n] w fun e w' => e = .returned (.tuple #[.int .i64 y, .int .i64 ((thu n - beg y) / 7 + 1), .int .i64 0]) ∧ w = w' := by
  have hin := num_in h
  have hbs := beg_succ y
  have hlp := lp_cases y
  have hspan : thu n ≤ beg y + 365 := by rw [← hn] at hin; omega
  have hb := beg_bd y h.1 (by have := h.2.1; omega)
  have htb := thu_bd h1 h2
  rw [← hn] at hin
  have hge := hin.1
  clear hbs hlp hin
  have ht : n + 4 - ((n + 719162) % 7 + 1) = thu n := rfl
  have HN := Lib.hid hn
  have hrd : rdays y 1 1 = beg y := by rw [rdays_num y 1 1 (by omega) (by omega)]; unfold num; simp [cum]
  clear hn
  have hy1 := h.1
  have hy2 := h.2.1
  go_enter Try.func53, Try.ntmps53
  go_wp2_with (first
    | (go_at_call 51; refine (rcweekday_yes n h1 h2 _).mono ?_; rintro e w' ⟨rfl, rfl⟩)
    | (go_at_call 94; refine (rdate_any y m d h _ HN.out _).mono ?_; rintro e w' ⟨rfl, rfl⟩))
  clear ht
  obtain ⟨t, htt⟩ : ∃ t, t = thu n := ⟨_, rfl⟩
  rw [← htt] at hspan htb hge
  rw [← htt]
  have HT := Lib.hid htt
  clear htt HN h1 h2
  go_loop [11, 12] (fun a b => ∃ j : Nat, beg y ≤ t - 7 * j ∧ a = .int .i64 (j + 1) ∧ b = .int .i64 (t - 7 * (j + 1))) (fun a _ => (60 - intOf a).toNat)
  case atStart => exact ⟨0, by omega, rfl, ival (by omega)⟩
  case round =>
    obtain ⟨j, hj, rfl, rfl⟩ := hrel
    by_cases hlt : beg y ≤ t - 7 * (j + 1)
    · go_wp2_with (go_at_call 93; refine (rdays_any _ _ _ (by omega) (by omega) (by omega) (by omega) (by omega) (by omega) _).mono ?_; rintro e w' ⟨rfl, rfl⟩)
      go_round
      case rel => exact ⟨j + 1, by push_cast; omega, by go_num, ival (by push_cast; omega)⟩
      case measure => simp [intOf]; omega
    · have hfin : (t - beg y) / 7 + 1 = j + 1 := by omega
      have HF := Lib.hid hfin
      clear hfin
      go_wp2_with (go_at_call 93; refine (rdays_any _ _ _ (by omega) (by omega) (by omega) (by omega) (by omega) (by omega) _).mono ?_; rintro e w' ⟨rfl, rfl⟩)
      go_ret3
      exact ⟨by rw [← HT.out, HF.out]; rfl, rfl⟩
theorem rcweek_no (n : Int) (h : n < -719162 ∨ 2932896 < n) (w : World) :
    Calls Try.prog 53 #[.int .i64 n] w fun e w' => e = .returned (.tuple #[.int .i64 0, .int .i64 0, .int .i64 1]) ∧ w = w' := by
  go_enter Try.func53, Try.ntmps53
  go_wp2_with (go_at_call 51; refine (rcweekday_no n h _).mono ?_; rintro e w' ⟨rfl, rfl⟩)
  go_ret3
  exact ⟨rfl, rfl⟩
/-! the law -/
def Same (f g : FuncId) (args : Array Value) (v : Value) : Prop := (∀ w, Calls Try.prog f args w fun e w' => e = .returned v ∧ w = w') ∧ (∀ w, Calls Try.prog g args w fun e w' => e = .returned v ∧ w = w')
theorem same_days (y m d : Int) : ∃ a b : Int, Same 46 47 #[.int .i64 y, .int .i64 m, .int .i64 d] (.tuple #[.int .i64 a, .int .i64 b]) := by
  by_cases h : Valid y m d
  · exact ⟨_, _, fun w => days_yes y m d h w, fun w => rcdays_yes y m d h w⟩
  · exact ⟨_, _, fun w => days_no y m d h w, fun w => rcdays_no y m d h w⟩
theorem same_date (n : Int) : ∃ a b c d : Int, Same 48 49 #[.int .i64 n] (.tuple #[.int .i64 a, .int .i64 b, .int .i64 c, .int .i64 d]) := by
  by_cases h : n < -719162 ∨ 2932896 < n
  · exact ⟨_, _, _, _, fun w => cdate_no n h w, fun w => rcdate_no n h w⟩
  · obtain ⟨y, m, d, hv, hn⟩ := exists_date n (by omega) (by omega)
    exact ⟨_, _, _, _, fun w => cdate_yes y m d hv n hn.symm w, fun w => rcdate_yes y m d hv n hn.symm w⟩
theorem same_weekday (n : Int) : ∃ a b : Int, Same 50 51 #[.int .i64 n] (.tuple #[.int .i64 a, .int .i64 b]) := by
  by_cases h : n < -719162 ∨ 2932896 < n
  · exact ⟨_, _, fun w => cweekday_no n h w, fun w => rcweekday_no n h w⟩
  · exact ⟨_, _, fun w => cweekday_yes n (by omega) (by omega) w, fun w => rcweekday_yes n (by omega) (by omega) w⟩
theorem same_week (n : Int) : ∃ a b c : Int, Same 52 53 #[.int .i64 n] (.tuple #[.int .i64 a, .int .i64 b, .int .i64 c]) := by
  by_cases h : n < -719162 ∨ 2932896 < n
  · exact ⟨_, _, _, fun w => cweek_no n h w, fun w => rcweek_no n h w⟩
  · have hb := thu_bd (n := n) (by omega) (by omega)
    obtain ⟨y, m, d, hv, hn⟩ := exists_date (thu n) hb.1 hb.2
    exact ⟨_, _, _, fun w => cweek_yes n (by omega) (by omega) y m d hv hn.symm w, fun w => rcweek_yes n (by omega) (by omega) y m d hv hn.symm w⟩
set_option maxRecDepth 100000 in
set_option maxHeartbeats 1000000 in
theorem law_any (y m d n : Int) (w : World) :
    Calls Try.prog 10 #[.int .i64 y, .int .i64 m, .int .i64 d, .int .i64 n] w fun e w' => e = .returned (.bool true) ∧ Below w.heap.size w w' := by
  obtain ⟨a1, a2, p1, q1⟩ := same_days y m d
  obtain ⟨b1, b2, b3, b4, p2, q2⟩ := same_date n
  obtain ⟨c1, c2, p3, q3⟩ := same_weekday n
  obtain ⟨d1, d2, d3, p4, q4⟩ := same_week n
  go_enter Try.func10, Try.ntmps10
  go_wp2_with (first
    | (go_at_call 46; refine (p1 _).mono ?_; rintro e w' ⟨rfl, rfl⟩)
    | (go_at_call 47; refine (q1 _).mono ?_; rintro e w' ⟨rfl, rfl⟩)
    | (go_at_call 48; refine (p2 _).mono ?_; rintro e w' ⟨rfl, rfl⟩)
    | (go_at_call 49; refine (q2 _).mono ?_; rintro e w' ⟨rfl, rfl⟩)
    | (go_at_call 50; refine (p3 _).mono ?_; rintro e w' ⟨rfl, rfl⟩)
    | (go_at_call 51; refine (q3 _).mono ?_; rintro e w' ⟨rfl, rfl⟩)
    | (go_at_call 52; refine (p4 _).mono ?_; rintro e w' ⟨rfl, rfl⟩)
    | (go_at_call 53; refine (q4 _).mono ?_; rintro e w' ⟨rfl, rfl⟩)
    | (go_at_call 54; refine (ok_any _ _).mono ?_; rintro e w' ⟨rfl, rfl⟩)
    | (go_at_call 55; refine (rok_any _ _).mono ?_; rintro e w' ⟨rfl, rfl⟩))
  go_ret
  exact ⟨rfl, Below.refl _ _⟩
end Go.Proofs.Ythcmjcnilhglmaa.Civ
