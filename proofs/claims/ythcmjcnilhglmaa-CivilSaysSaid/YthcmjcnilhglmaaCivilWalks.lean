/- The functions of package civil (without texts) and their references, walked. No condition. -/
import Derived.Test.YthcmjcnilhglmaaProg
import Derived.Test.YthcmjcnilhglmaaCivilMath
import Derived.Test.YthcmjcnilhglmaaBase
import Derived.ProofKit
import Derived.Outline
import Derived.LoopTactic
import Derived.Deep.DeepCutAuto
namespace Go.Proofs.Ythcmjcnilhglmaa.Civ
open Go.RowKit
set_option linter.unusedSimpArgs false
set_option linter.unusedVariables false
def okE (n : Int) : Int := if -719162 ≤ n ∧ n ≤ 2932896 then 0 else 1
theorem ret_bool {a b : Bool} (h : a = b) : Ending.returned (.bool a) = .returned (.bool b) := by rw [h]
theorem leap_any (y : Int) (h1 : 0 ≤ y) (h2 : y ≤ 10000) (w : World) :
    Calls Try.prog 116 #[.int .i64 y] w fun e w' => e = .returned (.bool (leapB y)) ∧ w = w' := by
  go_enter Try.func116, Try.ntmps116
  go_wp2
  all_goals (go_ret; refine ⟨ret_bool ?_, rfl⟩; simp_all [leapB])
theorem length_any (y m : Int) (h3 : 0 ≤ y) (h4 : y ≤ 10000) (w : World) :
    Calls Try.prog 91 #[.int .i64 y, .int .i64 m] w fun e w' => e = .returned (.int .i64 (len y m)) ∧ w = w' := by
  go_enter Try.func91, Try.ntmps91
  go_wp2_with (go_at_call 116; refine (leap_any _ h3 h4 _).mono ?_; rintro e w' ⟨rfl, rfl⟩)
  all_goals (go_ret; refine ⟨ret_int ?_, rfl⟩; simp_all [len, lp])
theorem begin_any (y : Int) (h3 : 1 ≤ y) (h4 : y ≤ 10000) (w : World) :
    Calls Try.prog 92 #[.int .i64 y] w fun e w' => e = .returned (.int .i64 (beg y)) ∧ w = w' := by
  go_enter Try.func92, Try.ntmps92
  go_wp2
  go_ret
  exact ⟨ret_int (by simp only [beg]), rfl⟩
theorem ok_any (n : Int) (w : World) :
    Calls Try.prog 54 #[.int .i64 n] w fun e w' => e = .returned (.int .i64 (okE n)) ∧ w = w' := by
  go_enter Try.func54, Try.ntmps54
  go_wp2
  all_goals go_ret
  all_goals (refine ⟨ret_int ?_, rfl⟩; unfold okE; first | (rw [if_pos (by omega)]; done) | (rw [if_neg (by omega)]; done))
theorem rok_any (n : Int) (w : World) :
    Calls Try.prog 55 #[.int .i64 n] w fun e w' => e = .returned (.int .i64 (okE n)) ∧ w = w' := by
  go_enter Try.func55, Try.ntmps55
  go_wp2
  all_goals go_ret
  all_goals (refine ⟨ret_int ?_, rfl⟩; unfold okE; first | (rw [if_pos (by omega)]; done) | (rw [if_neg (by omega)]; done))
theorem days_no (y m d : Int) (h : ¬ Valid y m d) (w : World) :
    Calls Try.prog 46 #[.int .i64 y, .int .i64 m, .int .i64 d] w fun e w' => e = .returned (.tuple #[.int .i64 0, .int .i64 1]) ∧ w = w' := by
  unfold Valid at h
  go_enter Try.func46, Try.ntmps46
  go_wp2_with (go_at_call 91; refine (length_any _ _ (by omega) (by omega) _).mono ?_; rintro e w' ⟨rfl, rfl⟩)
  all_goals (go_ret2; exact ⟨rfl, rfl⟩)
theorem days_yes (y m d : Int) (h : Valid y m d) (w : World) :
    Calls Try.prog 46 #[.int .i64 y, .int .i64 m, .int .i64 d] w fun e w' => e = .returned (.tuple #[.int .i64 (num y m d), .int .i64 0]) ∧ w = w' := by
  obtain ⟨h1, h2, h3, h4, h5, h6⟩ := h
  have hb := beg_bd y h1 (by omega)
  have hl := len_bd y m
  go_enter Try.func46, Try.ntmps46
  go_wp2_with (first
    | (go_at_call 91; refine (length_any _ _ (by omega) (by omega) _).mono ?_; rintro e w' ⟨rfl, rfl⟩)
    | (go_at_call 92; refine (begin_any _ (by omega) (by omega) _).mono ?_; rintro e w' ⟨rfl, rfl⟩))
  go_loop [8, 9] (fun n k => ∃ j : Nat, j + 1 ≤ m ∧ k = .int .i64 (j + 1) ∧ n = .int .i64 (beg y + d - 1 + cum y (j + 1))) (fun _ k => (m - intOf k).toNat)
  case atStart => exact ⟨0, by omega, rfl, by simp [cum]⟩
  case round =>
    obtain ⟨j, hj, rfl, rfl⟩ := hrel
    have hc := cum_bd y (j + 1) (by omega) (by omega)
    have hlj := len_bd y (j + 1)
    by_cases hlt : (j : Int) + 1 < m
    · have hs := cum_succ y (j + 1) (by omega) (by omega)
      have HS := Lib.hid hs
      clear hs
      go_wp2_with (go_at_call 91; refine (length_any _ _ (by omega) (by omega) _).mono ?_; rintro e w' ⟨rfl, rfl⟩)
      go_round
      case rel => exact ⟨j + 1, by omega, by go_num, ival (by push_cast; rw [HS.out]; omega)⟩
      case measure => simp [intOf]; omega
    · have hfin : num y m d = beg y + d - 1 + cum y (j + 1) := by
        rw [show (j : Int) + 1 = m from by omega]; unfold num; omega
      have HF := Lib.hid hfin
      clear hfin
      go_wp2
      go_ret2
      exact ⟨by first | (rw [HF.out]; done) | (rw [HF.out]; rfl), rfl⟩
theorem date_any (y m d : Int) (h : Valid y m d) (n : Int) (hn : n = num y m d) (w : World) :
    Calls Try.prog 95 #[.int .i64 n] w fun e w' => e = .returned (.tuple #[.int .i64 y, .int .i64 m, .int .i64 d]) ∧ w = w' := by
  have hin := num_in h
  have hbd := num_bd h
  obtain ⟨h1, h2, h3, h4, h5, h6⟩ := h
  rw [← hn] at hin hbd
  have hg : (n + 719162) / 366 + 1 ≤ y := by
    have := beg_succ y
    have := lp_cases y
    have : beg (y + 1) ≤ 366 * y - 719162 := by unfold beg; omega
    omega
  have HN := Lib.hid hn
  clear hn
  go_enter Try.func95, Try.ntmps95
  go_wp2_with fail
  go_loop [2] (fun a => ∃ z : Int, 1 ≤ z ∧ z ≤ y ∧ a = .int .i64 z) (fun a => (y - intOf a).toNat)
  case atStart => exact ⟨(n + 719162) / 366 + 1, by omega, hg, rfl⟩
  case round =>
    obtain ⟨z, hz1, hz2, rfl⟩ := hrel
    by_cases hlt : z < y
    · have hle : beg (z + 1) ≤ n := by have := beg_mono (show z + 1 ≤ y by omega); omega
      have hzl : z < 9999 := by omega
      go_wp2_with (go_at_call 92; refine (begin_any _ (by omega) (by omega) _).mono ?_; rintro e w' ⟨rfl, rfl⟩)
      go_round
      case rel => exact ⟨z + 1, by omega, by omega, by go_num⟩
      case measure => simp [intOf]; omega
    · obtain rfl : z = y := by omega
      have hgt : n < beg (z + 1) := hin.2
      have hb := beg_bd z h1 (by omega)
      have hb2 := beg_bd (z + 1) (by omega) (by omega)
      have hd0 : n - beg z + 1 = d + cum z m := by rw [HN.out]; unfold num; omega
      have HD := Lib.hid hd0
      clear hd0
      go_wp2_with (go_at_call 92; refine (begin_any _ (by omega) (by omega) _).mono ?_; rintro e w' ⟨rfl, rfl⟩)
      all_goals
        go_loop [3, 4] (fun a b => ∃ j : Nat, j + 1 ≤ m ∧ a = .int .i64 (j + 1) ∧ b = .int .i64 (d + cum z m - cum z (j + 1))) (fun a _ => (m - intOf a).toNat)
        case atStart => exact ⟨0, by omega, rfl, ival (by rw [HD.out]; simp [cum])⟩
        case round =>
          obtain ⟨j, hj, rfl, rfl⟩ := hrel
          have hc := cum_bd z (j + 1) (by omega) (by omega)
          have hcm := cum_bd z m (by omega) (by omega)
          have hlj := len_bd z (j + 1)
          have hlm := len_bd z m
          by_cases hjm : (j : Int) + 1 < m
          · have hs := cum_succ z (j + 1) (by omega) (by omega)
            have hge : len z (j + 1) < d + cum z m - cum z (j + 1) := by
              have : cum z (j + 1 + 1) ≤ cum z m := by
                have mono : ∀ t : Nat, (j : Int) + 1 + 1 + t ≤ 12 → cum z (j + 1 + 1) ≤ cum z (j + 1 + 1 + t) := by
                  intro t
                  induction t with
                  | zero => intro _; simp
                  | succ t ih =>
                    intro ht
                    have := ih (by omega)
                    have h2 := cum_succ z (j + 1 + 1 + t) (by omega) (by omega)
                    have h3 := len_bd z (j + 1 + 1 + t)
                    push_cast
                    rw [← Int.add_assoc, h2]; omega
                have := mono (m - (j + 1 + 1)).toNat (by omega)
                rw [show (j : Int) + 1 + 1 + ((m - (j + 1 + 1)).toNat : Int) = m from by omega] at this
                exact this
              omega
            have HS := Lib.hid hs
            clear hs
            go_wp2_with (go_at_call 91; refine (length_any _ _ (by omega) (by omega) _).mono ?_; rintro e w' ⟨rfl, rfl⟩)
            go_round
            case rel => exact ⟨j + 1, by omega, by go_num, ival (by push_cast; rw [HS.out]; omega)⟩
            case measure => simp [intOf]; omega
          · have hm : (j : Int) + 1 = m := by omega
            have hle : d + cum z m - cum z (j + 1) ≤ len z (j + 1) := by rw [hm]; omega
            have hfin : d + cum z m - cum z (j + 1) = d := by rw [hm]; omega
            have HF := Lib.hid hfin
            have HM := Lib.hid hm
            clear hfin hm
            go_wp2_with (go_at_call 91; refine (length_any _ _ (by omega) (by omega) _).mono ?_; rintro e w' ⟨rfl, rfl⟩)
            go_ret3
            exact ⟨by first | (rw [HF.out, HM.out]; done) | (rw [HF.out, HM.out]; rfl), rfl⟩
theorem okE_yes {n : Int} (h1 : -719162 ≤ n) (h2 : n ≤ 2932896) : okE n = 0 := by unfold okE; rw [if_pos ⟨h1, h2⟩]
theorem okE_no {n : Int} (h : n < -719162 ∨ 2932896 < n) : okE n = 1 := by unfold okE; rw [if_neg (by omega)]
theorem cdate_yes (y m d : Int) (h : Valid y m d) (n : Int) (hn : n = num y m d) (w : World) :
    Calls Try.prog 48 #[.int .i64 n] w fun e w' => e = .returned (.tuple #[.int .i64 y, .int .i64 m, .int .i64 d, .int .i64 0]) ∧ w = w' := by
  have hbd := num_bd h
  rw [← hn] at hbd
  have hok := okE_yes hbd.1 hbd.2
  have HN := Lib.hid hn
  clear hn
  go_enter Try.func48, Try.ntmps48
  go_wp2_with (first
    | (go_at_call 54; refine (ok_any _ _).mono ?_; rintro e w' ⟨rfl, rfl⟩)
    | (go_at_call 95; refine (date_any y m d h _ HN.out _).mono ?_; rintro e w' ⟨rfl, rfl⟩))
  refine bodyPost_ret (v := .tuple #[.int .i64 y, .int .i64 m, .int .i64 d, .int .i64 0]) (by simp [results, Try.results48, go_sem]) rfl ⟨rfl, rfl⟩
theorem cdate_no (n : Int) (h : n < -719162 ∨ 2932896 < n) (w : World) :
    Calls Try.prog 48 #[.int .i64 n] w fun e w' => e = .returned (.tuple #[.int .i64 0, .int .i64 0, .int .i64 0, .int .i64 1]) ∧ w = w' := by
  have hok := okE_no h
  go_enter Try.func48, Try.ntmps48
  go_wp2_with (go_at_call 54; refine (ok_any _ _).mono ?_; rintro e w' ⟨rfl, rfl⟩)
  refine bodyPost_ret (v := .tuple #[.int .i64 0, .int .i64 0, .int .i64 0, .int .i64 1]) (by simp [results, Try.results48, go_sem]) rfl ⟨rfl, rfl⟩
theorem weekday_any (n : Int) (h1 : -719162 ≤ n) (h2 : n ≤ 2932896) (w : World) :
    Calls Try.prog 96 #[.int .i64 n] w fun e w' => e = .returned (.int .i64 ((n + 719162) % 7 + 1)) ∧ w = w' := by
  go_enter Try.func96, Try.ntmps96
  go_wp2
  go_ret
  exact ⟨ret_int (by omega), rfl⟩
theorem cweekday_yes (n : Int) (h1 : -719162 ≤ n) (h2 : n ≤ 2932896) (w : World) :
    Calls Try.prog 50 #[.int .i64 n] w fun e w' => e = .returned (.tuple #[.int .i64 ((n + 719162) % 7 + 1), .int .i64 0]) ∧ w = w' := by
  have hok := okE_yes h1 h2
  go_enter Try.func50, Try.ntmps50
  go_wp2_with (first
    | (go_at_call 54; refine (ok_any _ _).mono ?_; rintro e w' ⟨rfl, rfl⟩)
    | (go_at_call 96; refine (weekday_any n h1 h2 _).mono ?_; rintro e w' ⟨rfl, rfl⟩))
  go_ret2
  exact ⟨rfl, rfl⟩
theorem cweekday_no (n : Int) (h : n < -719162 ∨ 2932896 < n) (w : World) :
    Calls Try.prog 50 #[.int .i64 n] w fun e w' => e = .returned (.tuple #[.int .i64 0, .int .i64 1]) ∧ w = w' := by
  have hok := okE_no h
  go_enter Try.func50, Try.ntmps50
  go_wp2_with (go_at_call 54; refine (ok_any _ _).mono ?_; rintro e w' ⟨rfl, rfl⟩)
  go_ret2
  exact ⟨rfl, rfl⟩
def thu (n : Int) : Int := n + 4 - ((n + 719162) % 7 + 1)
theorem thu_bd {n : Int} (h1 : -719162 ≤ n) (h2 : n ≤ 2932896) : -719162 ≤ thu n ∧ thu n ≤ 2932896 := by unfold thu; omega
theorem cweek_yes (n : Int) (h1 : -719162 ≤ n) (h2 : n ≤ 2932896) (y m d : Int) (h : Valid y m d) (hn : thu n = num y m d) (w : World) :
    Calls Try.prog 52 #[.int .i64 n] w fun e w' => e = .returned (.tuple #[.int .i64 y, .int .i64 ((thu n - beg y) / 7 + 1), .int .i64 0]) ∧ w = w' := by
  have hok := okE_yes h1 h2
  have hin := num_in h
  have hb := beg_bd y h.1 (by have := h.2.1; omega)
  have htb := thu_bd h1 h2
  rw [← hn] at hin
  have ht : n + (4 - ((n + 719162) % 7 + 1)) = thu n := by unfold thu; omega
  have HN := Lib.hid hn
  clear hn
  have hy1 := h.1
  have hy2 := h.2.1
  go_enter Try.func52, Try.ntmps52
  go_wp2_with (first
    | (go_at_call 54; refine (ok_any _ _).mono ?_; rintro e w' ⟨rfl, rfl⟩)
    | (go_at_call 96; refine (weekday_any n h1 h2 _).mono ?_; rintro e w' ⟨rfl, rfl⟩)
    | (go_at_call 95; refine (date_any y m d h _ HN.out _).mono ?_; rintro e w' ⟨rfl, rfl⟩)
    | (go_at_call 92; refine (begin_any _ hy1 (by omega) _).mono ?_; rintro e w' ⟨rfl, rfl⟩))
  go_ret3
  exact ⟨rfl, rfl⟩
theorem cweek_no (n : Int) (h : n < -719162 ∨ 2932896 < n) (w : World) :
    Calls Try.prog 52 #[.int .i64 n] w fun e w' => e = .returned (.tuple #[.int .i64 0, .int .i64 0, .int .i64 1]) ∧ w = w' := by
  have hok := okE_no h
  go_enter Try.func52, Try.ntmps52
  go_wp2_with (go_at_call 54; refine (ok_any _ _).mono ?_; rintro e w' ⟨rfl, rfl⟩)
  go_ret3
  exact ⟨rfl, rfl⟩
/-! the references -/
theorem floor_any (a b : Int) (hb : b = 4 ∨ b = 7 ∨ b = 100 ∨ b = 400 ∨ b = 146097) (h1 : -1000000000000 ≤ a) (h2 : a ≤ 1000000000000) (w : World) :
    Calls Try.prog 97 #[.int .i64 a, .int .i64 b] w fun e w' => e = .returned (.int .i64 (a / b)) ∧ w = w' := by
  rcases hb with rfl | rfl | rfl | rfl | rfl
  all_goals
    go_enter Try.func97, Try.ntmps97
    go_wp2
    all_goals (go_ret; exact ⟨ret_int (by omega), rfl⟩)
theorem rdays_any (y m d : Int) (h1 : 1 ≤ y) (h2 : y ≤ 9999) (h3 : 1 ≤ m) (h4 : m ≤ 12) (h5 : 1 ≤ d) (h6 : d ≤ 31) (w : World) :
    Calls Try.prog 93 #[.int .i64 y, .int .i64 m, .int .i64 d] w fun e w' => e = .returned (.int .i64 (rdays y m d)) ∧ w = w' := by
  by_cases hm : m ≤ 2
  all_goals
    go_enter Try.func93, Try.ntmps93
    go_wp2_with (go_at_call 97; refine (floor_any _ _ (by omega) (by omega) (by omega) _).mono ?_; rintro e w' ⟨rfl, rfl⟩)
    go_ret
    exact ⟨ret_int (by first | (simp only [rdays, hm, if_true]; done) | (simp only [rdays, if_neg (show ¬ m ≤ 2 by omega)]; done)), rfl⟩
theorem rdate_any (y m d : Int) (h : Valid y m d) (n : Int) (hn : n = num y m d) (w : World) :
    Calls Try.prog 94 #[.int .i64 n] w fun e w' => e = .returned (.tuple #[.int .i64 y, .int .i64 m, .int .i64 d]) ∧ w = w' := by
  obtain ⟨e1, e2, e3, e4, e5, e6, e7, e8, e9⟩ := second_date h
  have hbd := num_bd h
  rw [← hn] at e1 e2 e3 e4 e5 e6 e7 e8 e9 hbd
  clear hn
  have a1 : (n + 719468) / 146097 = rera n := rfl
  have a2 : n + 719468 - 146097 * rera n = rof n := rfl
  have b2 : 0 ≤ rof n ∧ rof n ≤ 146096 := by unfold rof rera; omega
  have a3 : (rof n - rof n / 1460 + rof n / 36524 - rof n / 146096) / 365 = ryear n := rfl
  have b3 : 0 ≤ ryear n ∧ ryear n ≤ 400 := by unfold ryear; omega
  have a4 : rof n - (365 * ryear n + ryear n / 4 - ryear n / 100) = rday n := rfl
  have b4 : 0 ≤ rday n ∧ rday n ≤ 365 := ⟨e8, e9⟩
  have a5 : (5 * rday n + 2) / 153 = rk n := rfl
  have a6 : rday n - (153 * rk n + 2) / 5 + 1 = rD n := rfl
  have b6 : rD n ≤ 31 := by rw [e3]; have := h.2.2.2.2.2; have := len_bd y m; omega
  have b5 : 0 ≤ rk n ∧ rk n ≤ 12 := by omega
  clear e6 e7 e8 e9
  obtain ⟨era, hera⟩ : ∃ q, q = rera n := ⟨_, rfl⟩
  obtain ⟨of, hof⟩ : ∃ q, q = rof n := ⟨_, rfl⟩
  obtain ⟨yr, hyr⟩ : ∃ q, q = ryear n := ⟨_, rfl⟩
  obtain ⟨dy, hdy⟩ : ∃ q, q = rday n := ⟨_, rfl⟩
  obtain ⟨k, hk⟩ : ∃ q, q = rk n := ⟨_, rfl⟩
  obtain ⟨dd, hdd⟩ : ∃ q, q = rD n := ⟨_, rfl⟩
  unfold rY at e1
  unfold rM at e2
  rw [← hera] at a1 a2 e4 e5 e1
  rw [← hof] at a2 b2 a3 a4
  rw [← hyr] at a3 b3 a4 e1
  rw [← hdy] at a4 b4 a5 a6
  rw [← hk] at a5 b5 a6 e1 e2
  rw [← hdd] at a6 b6 e3
  clear hera hof hyr hdy hk hdd
  subst e3
  by_cases hk10 : k < 10
  · simp only [hk10, if_true] at e1 e2
    subst e1 e2
    go_enter Try.func94, Try.ntmps94
    go_wp2_with (go_at_call 97; refine (floor_any _ _ (by omega) (by omega) (by omega) _).mono ?_; rintro e w' ⟨rfl, rfl⟩)
    go_ret3
    exact ⟨rfl, rfl⟩
  · simp only [hk10, if_false] at e1 e2
    subst e1 e2
    go_enter Try.func94, Try.ntmps94
    go_wp2_with (go_at_call 97; refine (floor_any _ _ (by omega) (by omega) (by omega) _).mono ?_; rintro e w' ⟨rfl, rfl⟩)
    go_ret3
    exact ⟨rfl, rfl⟩
end Go.Proofs.Ythcmjcnilhglmaa.Civ
