/- Dates and weeks: the code and the reference find the same ones. No condition. -/
import Derived.Test.YtollpgmcmipcoaaWKeepSays
import Derived.Test.YtollpgmcmipcoaaCivilMath
import Derived.Test.YtollpgmcmipcoaaPl0
namespace Go.Proofs.Ytollpgmcmipcoaa.Civ
open Go.RowKit Ytollpgmcmipcoaa.En Ytollpgmcmipcoaa
set_option linter.unusedVariables false
set_option linter.unusedSimpArgs false
theorem tdivn {a b : Int} (h : 0 ≤ a) : a.tdiv b = a / b := Int.tdiv_eq_ediv_of_nonneg h
theorem tmodn {a b : Int} (h : 0 ≤ a) : a.tmod b = a % b := Int.tmod_eq_emod_of_nonneg h
theorem begin_ok (fu : Nat) {y : Int} (h1 : 1 ≤ y) (h2 : y ≤ 10000) : f_civil_begin fu y = some (beg y) := by
  unfold f_civil_begin beg
  simp (disch := omega) only [w64, tdivn]
theorem leap_ok (fu : Nat) {y : Int} (h1 : 0 ≤ y) : f_civil_leap fu y = some (leapB y) := by
  unfold f_civil_leap leapB
  rw [lt_of, tmodn h1, tmodn h1, tmodn h1]
  cases y % 4 == 0 <;> cases y % 100 != 0 <;> rfl
theorem length_ok (fu : Nat) {y m : Int} (h1 : 0 ≤ y) : f_civil_length fu y m = some (len y m) := by
  unfold f_civil_length len lp
  rw [lt_of, leap_ok fu h1]
  by_cases a4 : m = 4
  · subst a4; rfl
  by_cases a6 : m = 6
  · subst a6; rfl
  by_cases a9 : m = 9
  · subst a9; rfl
  by_cases a11 : m = 11
  · subst a11; rfl
  rw [cond_ff (beq_false_of_ne a4), cond_ff (beq_false_of_ne a6), cond_ff (beq_false_of_ne a9)]
  dsimp only
  rw [cond_ff (beq_false_of_ne a11), if_neg (by omega)]
  by_cases a2 : m = 2
  · subst a2
    rw [cond_tt (by decide), opt_of, if_pos rfl]
    cases leapB y <;> rfl
  · rw [cond_ff (beq_false_of_ne a2), if_neg a2]
theorem cum_mono (y : Int) : ∀ (d : Nat) (a b : Int), (b - a).toNat = d → 1 ≤ a → a ≤ b → b ≤ 13 → cum y a ≤ cum y b
  | 0, a, b, hd, h1, h2, h3 => by rw [show a = b by omega]; exact Int.le_refl _
  | d + 1, a, b, hd, h1, h2, h3 => by
    have h4 := cum_mono y d (a + 1) b (by omega) (by omega) (by omega) h3
    have h5 := cum_succ y a h1 (by omega)
    have h6 := len_bd y a
    omega
theorem L17_go {y n : Int} (fu : Nat) (kk : Int → Option (Int × Int × Int)) (hy1 : 1 ≤ y) (hy2 : y ≤ 9999) (hb : beg y ≤ n) (hb2 : n < beg (y + 1)) :
    ∀ (d k : Nat) (yy : Int), (y - yy).toNat = d → 1 ≤ yy → yy ≤ y → d < k → f_civil_date_L17 n kk fu k yy = kk y
  | _, 0, _, _, _, _, hk => absurd hk (Nat.not_lt_zero _)
  | d, k + 1, yy, hd, h1, h2, hk => by
    rw [f_civil_date_L17, lt_of, w64 (x := yy + 1) (by omega) (by omega)]
    rcases Int.lt_or_eq_of_le h2 with h3 | h3
    · rw [cond_tt (dlt (by omega)), begin_ok fu (by omega) (by omega), opt_of]
      dsimp only
      have := beg_mono (a := yy + 1) (b := y) (by omega)
      rw [cond_tt (decide_eq_true (by omega))]
      obtain ⟨d, rfl⟩ : ∃ q, d = q + 1 := ⟨d - 1, by omega⟩
      exact L17_go fu kk hy1 hy2 hb hb2 d k (yy + 1) (by omega) (by omega) (by omega) (by omega)
    · subst h3
      by_cases h4 : yy < 9999
      · rw [cond_tt (dlt h4), begin_ok fu (by omega) (by omega), opt_of]
        dsimp only
        rw [cond_ff (decide_eq_false (by omega))]
      · rw [cond_ff (dge (by omega))]; rfl
theorem L9_go {y m d : Int} (fu : Nat) (kk : Int → Int → Option (Int × Int × Int)) (h : Valid y m d) :
    ∀ (c k : Nat) (mm r : Int), (m - mm).toNat = c → 1 ≤ mm → mm ≤ m → r = cum y m - cum y mm + d → c < k → f_civil_date_L9 y kk fu k mm r = kk m d
  | _, 0, _, _, _, _, _, _, hk => absurd hk (Nat.not_lt_zero _)
  | c, k + 1, mm, r, hc, h1, h2, hr, hk => by
    obtain ⟨v1, v2, v3, v4, v5, v6⟩ := h
    rw [f_civil_date_L9, length_ok fu (by omega), opt_of]
    rcases Int.lt_or_eq_of_le h2 with h3 | h3
    · have e1 := cum_succ y mm h1 (by omega)
      have e2 := cum_mono y _ (mm + 1) m rfl (by omega) (by omega) (by omega)
      have e3 := cum_bd y m (by omega) (by omega)
      have e4 := cum_bd y mm (by omega) (by omega)
      have e5 := len_bd y mm
      have e6 := len_bd y m
      rw [cond_tt (decide_eq_true (show r > len y mm by omega)), opt_of, w64 (x := mm + 1) (by omega) (by omega), w64 (x := r - len y mm) (by omega) (by omega)]
      obtain ⟨c, rfl⟩ : ∃ q, c = q + 1 := ⟨c - 1, by omega⟩
      exact L9_go fu kk ⟨v1, v2, v3, v4, v5, v6⟩ c k (mm + 1) (r - len y mm) (by omega) (by omega) (by omega) (by omega) (by omega)
    · subst h3
      rw [cond_ff (decide_eq_false (by omega)), show r = d by omega]
theorem date_ok {fu : Nat} (hf : 20000 ≤ fu) {y m d n : Int} (h : Valid y m d) (hn : n = num y m d) : f_civil_date fu n = some (y, m, d) := by
  have hbd := num_bd h
  have hin := num_in h
  rw [← hn] at hbd hin
  have hv := h
  obtain ⟨v1, v2, v3, v4, v5, v6⟩ := hv
  have hle : n + 719162 < 366 * y := by
    have := hin.2
    unfold beg at this
    omega
  unfold f_civil_date
  rw [lt_of, w64 (x := n - -719162) (by omega) (by omega), tdivn (by omega), w64 (x := (n - -719162) / 366) (by omega) (by omega), w64 (x := (n - -719162) / 366 + 1) (by omega) (by omega)]
  rw [L17_go fu _ v1 v2 hin.1 hin.2 _ fu _ rfl (by omega) (by omega) (by omega)]
  rw [begin_ok fu v1 (by omega), opt_of, lt_of]
  have hb := beg_bd y v1 (by omega)
  rw [w64 (x := n - beg y) (by omega) (by omega), w64 (x := n - beg y + 1) (by omega) (by omega)]
  exact L9_go fu _ h _ fu 1 _ rfl (by omega) (by omega) (by rw [cum_one]; unfold num at hn; omega) (by omega)
theorem ok_ok (fu : Nat) {n : Int} (h1 : -719162 ≤ n) (h2 : n ≤ 2932896) : f_civil_OK fu n = some 0 ∧ f_lumref_DayOK fu n = some 0 := by
  unfold f_civil_OK f_lumref_DayOK
  rw [lt_of, cond_ff (dge h1)]
  have : decide (n > 2932896) = false := decide_eq_false (by omega)
  rw [this]
  exact ⟨rfl, rfl⟩
theorem Date_ok {fu : Nat} (hf : 20000 ≤ fu) {y m d n : Int} (h : Valid y m d) (hn : n = num y m d) : f_civil_Date fu n = some (y, m, d, 0) := by
  have hbd := num_bd h
  rw [← hn] at hbd
  unfold f_civil_Date
  rw [(ok_ok fu hbd.1 hbd.2).1, opt_of, cond_ff (by decide), date_ok hf h hn]; rfl
def wd (n : Int) : Int := (n + 719162) % 7 + 1
def thu (n : Int) : Int := n + 4 - wd n
theorem thu_bd {n : Int} (h1 : -719162 ≤ n) (h2 : n ≤ 2932896) : -719162 ≤ thu n ∧ thu n ≤ 2932896 := by unfold thu wd; omega
theorem Week_ok {fu : Nat} (hf : 20000 ≤ fu) {y m d n : Int} (h1 : -719162 ≤ n) (h2 : n ≤ 2932896) (h : Valid y m d) (hn : thu n = num y m d) : f_civil_Week fu n = some (y, (thu n - beg y) / 7 + 1, 0) := by
  have hin := num_in h
  have hb := beg_bd y h.1 (by have := h.2.1; omega)
  have ht := thu_bd h1 h2
  rw [← hn] at hin
  unfold f_civil_Week
  rw [(ok_ok fu h1 h2).1, opt_of, cond_ff (by decide)]
  have ew : f_civil_weekday fu n = some (wd n) := by
    unfold f_civil_weekday wd
    rw [w64 (x := n - -719162) (by omega) (by omega), tmodn (by omega), w64 (by omega) (by omega), show n - -719162 = n + 719162 by omega]
  have hw : 1 ≤ wd n ∧ wd n ≤ 7 := by unfold wd; omega
  have et : IntKind.i64.wrap (n + IntKind.i64.wrap (4 - wd n)) = thu n := by
    rw [w64 (x := 4 - wd n) (by omega) (by omega), w64 (by omega) (by omega)]; unfold thu; omega
  rw [ew, opt_of, et, date_ok hf h hn, opt_of]
  dsimp only
  rw [begin_ok fu h.1 (by have := h.2.1; omega), opt_of, w64 (x := thu n - beg y) (by omega) (by omega), tdivn (by omega), w64 (x := (thu n - beg y) / 7) (by omega) (by omega), w64 (by omega) (by omega)]
/-! the reference -/
theorem floor_ok (fu : Nat) {a b : Int} (hb : b = 4 ∨ b = 7 ∨ b = 100 ∨ b = 400 ∨ b = 146097) (h1 : -1000000000000 ≤ a) (h2 : a ≤ 1000000000000) : f_lumref_floor fu a b = some (a / b) := by
  unfold f_lumref_floor
  by_cases ha : a < 0
  · rw [cond_tt (dlt ha), req_pos (by omega), w64 (x := b - 1) (by omega) (by omega), w64 (x := b - 1 - a) (by omega) (by omega), tdivn (by omega)]
    rcases hb with rfl | rfl | rfl | rfl | rfl <;> (simp (disch := omega) only [w64]; congr 1; omega)
  · rw [cond_ff (dge (by omega)), req_pos (by omega), tdivn (by omega)]
    rcases hb with rfl | rfl | rfl | rfl | rfl <;> rw [w64 (by omega) (by omega)]
theorem rdate_ok (fu : Nat) {y m d n : Int} (h : Valid y m d) (hn : n = num y m d) : f_lumref_date fu n = some (y, m, d) := by
  obtain ⟨e1, e2, e3, e4, e5, e6, e7, e8, e9⟩ := second_date h
  have hbd := num_bd h
  rw [← hn] at e1 e2 e3 e4 e5 e6 e7 e8 e9 hbd
  clear hn
  have a1 : (n + 719468) / 146097 = rera n := rfl
  have a2 : n + 719468 - 146097 * rera n = rof n := rfl
  have b2 : 0 ≤ rof n ∧ rof n ≤ 146096 := by unfold rof rera; omega
  have a3 : (rof n - rof n / 1460 + rof n / 36524 - rof n / 146096) / 365 = ryear n := rfl
  have b3 : 0 ≤ ryear n ∧ ryear n ≤ 400 := by unfold ryear; omega
  have a4 : rof n - (365 * ryear n + ryear n / 4 - ryear n / 100) = rday n := rfl
  have b4 : 0 ≤ rday n ∧ rday n ≤ 365 := ⟨e8, e9⟩
  have a5 : (5 * rday n + 2) / 153 = rk n := rfl
  have a6 : rday n - (153 * rk n + 2) / 5 + 1 = rD n := rfl
  have b5 : 0 ≤ rk n ∧ rk n ≤ 12 := by omega
  clear e6 e7 e8 e9
  obtain ⟨era, hera⟩ : ∃ q, q = rera n := ⟨_, rfl⟩
  obtain ⟨of, hof⟩ : ∃ q, q = rof n := ⟨_, rfl⟩
  obtain ⟨yr, hyr⟩ : ∃ q, q = ryear n := ⟨_, rfl⟩
  obtain ⟨dy, hdy⟩ : ∃ q, q = rday n := ⟨_, rfl⟩
  obtain ⟨k, hk⟩ : ∃ q, q = rk n := ⟨_, rfl⟩
  obtain ⟨dd, hdd⟩ : ∃ q, q = rD n := ⟨_, rfl⟩
  unfold rY at e1
  unfold rM at e2
  rw [← hera] at a1 a2 e4 e5 e1
  rw [← hof] at a2 b2 a3 a4
  rw [← hyr] at a3 b3 a4 e1
  rw [← hdy] at a4 b4 a5 a6
  rw [← hk] at a5 b5 a6 e1 e2
  rw [← hdd] at a6 e3
  clear hera hof hyr hdy hk hdd
  subst e3
  have v6 := h.2.2.2.2
  have v7 := len_bd y m
  unfold f_lumref_date
  rw [w64 (x := n + 719468) (by omega) (by omega), floor_ok fu (by omega) (by omega) (by omega), a1, opt_of]
  rw [w64 (x := 146097 * era) (by omega) (by omega), a2, w64 (x := of) (by omega) (by omega)]
  clear a1 a2
  simp only [tdivn b2.1]
  rw [w64 (x := of / 1460) (by omega) (by omega), w64 (x := of - of / 1460) (by omega) (by omega), w64 (x := of / 36524) (by omega) (by omega), w64 (x := of - of / 1460 + of / 36524) (by omega) (by omega), w64 (x := of / 146096) (by omega) (by omega), w64 (x := of - of / 1460 + of / 36524 - of / 146096) (by omega) (by omega), tdivn (a := of - of / 1460 + of / 36524 - of / 146096) (by omega), a3, w64 (x := yr) (by omega) (by omega)]
  clear a3
  simp only [tdivn b3.1]
  rw [w64 (x := 365 * yr) (by omega) (by omega), w64 (x := yr / 4) (by omega) (by omega), w64 (x := 365 * yr + yr / 4) (by omega) (by omega), w64 (x := yr / 100) (by omega) (by omega), w64 (x := 365 * yr + yr / 4 - yr / 100) (by omega) (by omega), a4, w64 (x := dy) (by omega) (by omega)]
  clear a4
  rw [w64 (x := 5 * dy) (by omega) (by omega), w64 (x := 5 * dy + 2) (by omega) (by omega), tdivn (a := 5 * dy + 2) (by omega), a5, w64 (x := k) (by omega) (by omega)]
  clear a5
  rw [w64 (x := 153 * k) (by omega) (by omega), w64 (x := 153 * k + 2) (by omega) (by omega), tdivn (a := 153 * k + 2) (by omega), w64 (x := (153 * k + 2) / 5) (by omega) (by omega), w64 (x := dy - (153 * k + 2) / 5) (by omega) (by omega), a6, w64 (x := dd) (by omega) (by omega), w64 (x := 400 * era) (by omega) (by omega), w64 (x := 400 * era + yr) (by omega) (by omega)]
  by_cases hk10 : k < 10
  · simp only [hk10, if_true] at e1 e2
    rw [cond_tt (dlt hk10), w64 (x := k + 3) (by omega) (by omega), e1, e2]
  · simp only [hk10, if_false] at e1 e2
    rw [cond_ff (dge (by omega)), w64 (x := 400 * era + yr + 1) (by omega) (by omega), w64 (x := k - 9) (by omega) (by omega), e1, e2]
theorem days_ok (fu : Nat) {y : Int} (h1 : 1 ≤ y) (h2 : y ≤ 9999) : f_lumref_days fu y 1 1 = some (beg y) := by
  unfold f_lumref_days
  rw [lt_of, cond_tt (by decide), w64 (x := y - 1) (by omega) (by omega), w64 (x := 1 + 12) (by omega) (by omega)]
  dsimp only
  rw [floor_ok fu (by omega) (by omega) (by omega), opt_of, floor_ok fu (by omega) (by omega) (by omega), opt_of, floor_ok fu (by omega) (by omega) (by omega), opt_of]
  unfold beg
  have e : IntKind.i64.wrap ((IntKind.i64.wrap ((IntKind.i64.wrap (153 * (IntKind.i64.wrap ((1 + 12 : Int) - 3)))) + 2)).tdiv 5) = 306 := by decide
  rw [e]
  simp (disch := omega) only [w64]
  congr 1
  omega
theorem L10_go {r5 : Int × Int × Int} (fu : Nat) (kk : Int → Option (Int × Int × Int)) (h1 : 1 ≤ r5.1) (h2 : r5.1 ≤ 9999) :
    ∀ (c k : Nat) (wk t : Int), ((t - beg r5.1 + 7) / 7).toNat = c → 0 ≤ t - beg r5.1 + 7 → 0 ≤ wk → wk + c ≤ 1000 → t ≤ 3000000 → c < k → f_lumref_Week_L10 r5 kk fu k wk t = kk (wk + (t - beg r5.1 + 7) / 7)
  | _, 0, _, _, _, _, _, _, _, hk => absurd hk (Nat.not_lt_zero _)
  | c, k + 1, wk, t, hc, h0, hw, hw2, ht, hk => by
    have hb := beg_bd r5.1 h1 (by omega)
    rw [f_lumref_Week_L10, days_ok fu h1 h2, opt_of]
    by_cases h3 : t < beg r5.1
    · rw [cond_ff (decide_eq_false (by omega)), show (t - beg r5.1 + 7) / 7 = 0 by omega, Int.add_zero]
    · rw [cond_tt (decide_eq_true (by omega)), w64 (x := wk + 1) (by omega) (by omega), w64 (x := t - 7) (by omega) (by omega)]
      obtain ⟨c, rfl⟩ : ∃ q, c = q + 1 := ⟨c - 1, by omega⟩
      rw [L10_go fu kk h1 h2 c k (wk + 1) (t - 7) (by omega) (by omega) (by omega) (by omega) (by omega) (by omega)]
      congr 1
      omega
theorem rWeek_ok {fu : Nat} (hf : 20000 ≤ fu) {y m d n : Int} (h1 : -719162 ≤ n) (h2 : n ≤ 2932896) (h : Valid y m d) (hn : thu n = num y m d) : f_lumref_Week fu n = some (y, (thu n - beg y) / 7 + 1, 0) := by
  have hin := num_in h
  have hb := beg_bd y h.1 (by have := h.2.1; omega)
  have hs := beg_succ y
  have hlp := lp_cases y
  have ht := thu_bd h1 h2
  rw [← hn] at hin
  unfold f_lumref_Week
  have ew : f_lumref_Weekday fu n = some (wd n, 0) := by
    unfold f_lumref_Weekday wd
    rw [(ok_ok fu h1 h2).2, opt_of, cond_ff (by decide), floor_ok fu (by omega) (by omega) (by omega), opt_of]
    rw [w64 (x := n / 7 * 7) (by omega) (by omega), w64 (x := n - n / 7 * 7) (by omega) (by omega), w64 (x := n - n / 7 * 7 + 3) (by omega) (by omega), tmodn (by omega), w64 (by omega) (by omega)]
    congr 2
    omega
  have hw : 1 ≤ wd n ∧ wd n ≤ 7 := by unfold wd; omega
  have et : IntKind.i64.wrap (IntKind.i64.wrap (n + 4) - wd n) = thu n := by
    rw [w64 (x := n + 4) (by omega) (by omega), w64 (by omega) (by omega)]; unfold thu; omega
  rw [ew, opt_of]
  dsimp only
  rw [cond_ff (by decide), et, rdate_ok fu h hn, opt_of, lt_of, w64 (x := thu n - 7) (by omega) (by omega)]
  rw [L10_go fu _ h.1 h.2.1 _ fu 1 (thu n - 7) rfl (by dsimp only; omega) (by omega) (by dsimp only; omega) (by omega) (by dsimp only; omega)]
  dsimp only
  rw [show thu n - 7 - beg y + 7 = thu n - beg y by omega, Int.add_comm]
/-- one day -/
theorem day_both {fu : Nat} (hf : 20000 ≤ fu) {n : Int} (h1 : -719162 ≤ n) (h2 : n ≤ 2932896) :
    ∃ y m d, f_civil_Date fu n = some (y, m, d, 0) ∧ f_lumref_date fu n = some (y, m, d) ∧ 1 ≤ y ∧ y ≤ 9999 ∧ 1 ≤ m ∧ m ≤ 12 := by
  obtain ⟨y, m, d, h, hn⟩ := exists_date n h1 h2
  exact ⟨y, m, d, Date_ok hf h hn.symm, rdate_ok fu h hn.symm, h.1, h.2.1, h.2.2.1, h.2.2.2.1⟩
theorem week_both {fu : Nat} (hf : 20000 ≤ fu) {n : Int} (h1 : -719162 ≤ n) (h2 : n ≤ 2932896) :
    ∃ y w, f_civil_Week fu n = some (y, w, 0) ∧ f_lumref_Week fu n = some (y, w, 0) ∧ 1 ≤ y ∧ y ≤ 9999 ∧ 1 ≤ w ∧ w ≤ 60 := by
  have ht := thu_bd h1 h2
  obtain ⟨y, m, d, h, hn⟩ := exists_date (thu n) ht.1 ht.2
  have hin := num_in h
  rw [hn] at hin
  have hs := beg_succ y
  have hlp := lp_cases y
  exact ⟨y, _, Week_ok hf h1 h2 h hn.symm, rWeek_ok hf h1 h2 h hn.symm, h.1, h.2.1, by omega, by omega⟩
end Go.Proofs.Ytollpgmcmipcoaa.Civ
