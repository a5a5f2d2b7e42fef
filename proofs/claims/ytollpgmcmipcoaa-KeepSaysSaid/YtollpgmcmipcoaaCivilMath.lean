/- The plain mathematics of dates: day numbers, the first of two ways to find a date from its number and the second one. No condition. -/
import Derived.Test.YtollpgmcmipcoaaArith
namespace Go.Proofs.Ytollpgmcmipcoaa.Civ
def leapB (y : Int) : Bool := y % 4 == 0 && (y % 100 != 0 || y % 400 == 0)
def lp (y : Int) : Int := if leapB y then 1 else 0
theorem lp_cases (y : Int) : (lp y = 1 ∧ y % 4 = 0 ∧ (y % 100 ≠ 0 ∨ y % 400 = 0)) ∨ (lp y = 0 ∧ (y % 4 ≠ 0 ∨ (y % 100 = 0 ∧ y % 400 ≠ 0))) := by
  unfold lp leapB
  by_cases h4 : y % 4 = 0 <;> by_cases h100 : y % 100 = 0 <;> by_cases h400 : y % 400 = 0 <;> simp [h4, h100, h400]
def len (y m : Int) : Int := if m = 4 ∨ m = 6 ∨ m = 9 ∨ m = 11 then 30 else if m = 2 then 28 + lp y else 31
def beg (y : Int) : Int := -719162 + (y - 1) * 365 + (y - 1) / 4 - (y - 1) / 100 + (y - 1) / 400
def cum (y m : Int) : Int :=
  if m ≤ 1 then 0 else if m = 2 then 31 else if m = 3 then 59 + lp y else if m = 4 then 90 + lp y else if m = 5 then 120 + lp y else if m = 6 then 151 + lp y else if m = 7 then 181 + lp y
  else if m = 8 then 212 + lp y else if m = 9 then 243 + lp y else if m = 10 then 273 + lp y else if m = 11 then 304 + lp y else if m = 12 then 334 + lp y else 365 + lp y
def Valid (y m d : Int) : Prop := 1 ≤ y ∧ y ≤ 9999 ∧ 1 ≤ m ∧ m ≤ 12 ∧ 1 ≤ d ∧ d ≤ len y m
def num (y m d : Int) : Int := beg y + cum y m + d - 1
theorem m12 {m : Int} (h1 : 1 ≤ m) (h2 : m ≤ 12) : m = 1 ∨ m = 2 ∨ m = 3 ∨ m = 4 ∨ m = 5 ∨ m = 6 ∨ m = 7 ∨ m = 8 ∨ m = 9 ∨ m = 10 ∨ m = 11 ∨ m = 12 := by omega
theorem len_bd (y m : Int) : 28 ≤ len y m ∧ len y m ≤ 31 := by
  have := lp_cases y
  unfold len; split
  · omega
  · split <;> omega
theorem cum_succ (y m : Int) (h1 : 1 ≤ m) (h2 : m ≤ 12) : cum y (m + 1) = cum y m + len y m := by
  rcases m12 h1 h2 with rfl | rfl | rfl | rfl | rfl | rfl | rfl | rfl | rfl | rfl | rfl | rfl <;> simp [cum, len] <;> omega
theorem cum_one (y : Int) : cum y 1 = 0 := rfl
theorem cum_end (y : Int) : cum y 13 = 365 + lp y := by simp [cum]
theorem cum_bd (y m : Int) (h1 : 1 ≤ m) (h2 : m ≤ 13) : 0 ≤ cum y m ∧ cum y m ≤ 366 := by
  have := lp_cases y
  rcases (by omega : m = 13 ∨ m = 1 ∨ m = 2 ∨ m = 3 ∨ m = 4 ∨ m = 5 ∨ m = 6 ∨ m = 7 ∨ m = 8 ∨ m = 9 ∨ m = 10 ∨ m = 11 ∨ m = 12) with rfl | rfl | rfl | rfl | rfl | rfl | rfl | rfl | rfl | rfl | rfl | rfl | rfl <;> simp [cum] <;> omega
theorem beg_succ (y : Int) : beg (y + 1) = beg y + 365 + lp y := by
  have := lp_cases y
  unfold beg
  rw [show y + 1 - 1 = y from by omega]
  omega
theorem beg_one : beg 1 = -719162 := by decide
theorem beg_end : beg 10000 = 2932897 := by decide
theorem beg_mono {a b : Int} (h : a ≤ b) : beg a ≤ beg b := by unfold beg; omega
theorem beg_lt {a b : Int} (h : a < b) : beg a + 365 ≤ beg b := by
  have h1 := beg_succ a
  have h2 := beg_mono (show a + 1 ≤ b by omega)
  have := lp_cases a
  omega
theorem beg_bd (y : Int) (h1 : 1 ≤ y) (h2 : y ≤ 10000) : -719162 ≤ beg y ∧ beg y ≤ 2932897 := by
  have a := beg_mono h1
  have b := beg_mono h2
  rw [beg_one] at a; rw [beg_end] at b
  exact ⟨a, b⟩
theorem cum_le_end (y m : Int) (h1 : 1 ≤ m) (h2 : m ≤ 12) : cum y m + len y m ≤ 365 + lp y := by
  have := lp_cases y
  rcases m12 h1 h2 with rfl | rfl | rfl | rfl | rfl | rfl | rfl | rfl | rfl | rfl | rfl | rfl <;> simp [cum, len] <;> omega
/-- a right date lies within its year -/
theorem num_in {y m d : Int} (h : Valid y m d) : beg y ≤ num y m d ∧ num y m d < beg (y + 1) := by
  obtain ⟨h1, h2, h3, h4, h5, h6⟩ := h
  have := cum_le_end y m h3 h4
  have := cum_bd y m h3 (by omega)
  rw [beg_succ]
  unfold num
  omega
theorem num_bd {y m d : Int} (h : Valid y m d) : -719162 ≤ num y m d ∧ num y m d ≤ 2932896 := by
  have a := num_in h
  have b := beg_bd y h.1 (by have := h.2.1; omega)
  have c := beg_bd (y + 1) (by have := h.1; omega) (by have := h.2.1; omega)
  omega
/-- each number in the bounds has a date -/
theorem exists_month (y n : Int) (h0 : 0 ≤ n) (h1 : n < 365 + lp y) : ∃ m, 1 ≤ m ∧ m ≤ 12 ∧ cum y m ≤ n ∧ n < cum y m + len y m := by
  have key : ∀ k : Nat, k ≤ 12 → n < cum y (k + 1 : Int) → ∃ m, 1 ≤ m ∧ m ≤ 12 ∧ cum y m ≤ n ∧ n < cum y m + len y m := by
    intro k
    induction k with
    | zero => intro _ h; simp [cum] at h; omega
    | succ k ih =>
      intro hk h
      by_cases hlt : n < cum y (k + 1 : Int)
      · exact ih (by omega) hlt
      · refine ⟨k + 1, by omega, by omega, by omega, ?_⟩
        rw [← cum_succ y _ (by omega) (by omega)]
        exact h
  exact key 12 (by omega) (by rw [show (((12 : Nat) : Int) + 1) = 13 from rfl, cum_end]; exact h1)
theorem exists_year (n : Int) (h1 : -719162 ≤ n) (h2 : n ≤ 2932896) : ∃ y, 1 ≤ y ∧ y ≤ 9999 ∧ beg y ≤ n ∧ n < beg (y + 1) := by
  have key : ∀ k : Nat, k ≤ 9999 → n < beg (k + 1 : Int) → ∃ y, 1 ≤ y ∧ y ≤ 9999 ∧ beg y ≤ n ∧ n < beg (y + 1) := by
    intro k
    induction k with
    | zero => intro _ h; have := beg_one; simp at h; omega
    | succ k ih =>
      intro hk h
      by_cases hlt : n < beg (k + 1 : Int)
      · exact ih (by omega) hlt
      · exact ⟨k + 1, by omega, by omega, by omega, by push_cast at h; exact h⟩
  exact key 9999 (by omega) (by rw [show (((9999 : Nat) : Int) + 1) = 10000 from rfl, beg_end]; omega)
theorem exists_date (n : Int) (h1 : -719162 ≤ n) (h2 : n ≤ 2932896) : ∃ y m d, Valid y m d ∧ num y m d = n := by
  obtain ⟨y, a, b, c, d⟩ := exists_year n h1 h2
  rw [beg_succ] at d
  obtain ⟨m, e, f, g, h⟩ := exists_month y (n - beg y) (by omega) (by omega)
  exact ⟨y, m, n - beg y - cum y m + 1, ⟨a, b, e, f, by omega, by omega⟩, by unfold num; omega⟩
/-! the second way -/
def rdays (y m d : Int) : Int :=
  let y1 := if m ≤ 2 then y - 1 else y
  let m1 := if m ≤ 2 then m + 12 else m
  365 * y1 + y1 / 4 - y1 / 100 + y1 / 400 + (153 * (m1 - 3) + 2) / 5 + d - 1 - 719468
theorem rdays_num (y m d : Int) (h1 : 1 ≤ m) (h2 : m ≤ 12) : rdays y m d = num y m d := by
  have := lp_cases y
  unfold rdays num beg
  rcases m12 h1 h2 with rfl | rfl | rfl | rfl | rfl | rfl | rfl | rfl | rfl | rfl | rfl | rfl <;> simp [cum] <;> omega
theorem yoe (Y doy of : Int) (h1 : 0 ≤ Y) (h2 : Y ≤ 399) (h3 : 0 ≤ doy) (h4 : doy ≤ 365) (h5 : doy = 365 → (Y + 1) % 4 = 0 ∧ ((Y + 1) % 100 ≠ 0 ∨ (Y + 1) % 400 = 0))
    (ho : of = 365 * Y + Y / 4 - Y / 100 + doy) : (of - of / 1460 + of / 36524 - of / 146096) / 365 = Y := by
  rcases (by omega : Y / 100 = 0 ∨ Y / 100 = 1 ∨ Y / 100 = 2 ∨ Y / 100 = 3) with h | h | h | h
  · rw [h] at ho
    have hlt : of < 36524 * 1 := by
      by_cases hy : Y = 99
      · subst hy; omega
      · omega
    rw [show of / 146096 = 0 from by omega, show of / 36524 = 0 from by omega]
    omega
  · rw [h] at ho
    have hlt : of < 36524 * 2 := by
      by_cases hy : Y = 199
      · subst hy; omega
      · omega
    rw [show of / 146096 = 0 from by omega, show of / 36524 = 1 from by omega]
    omega
  · rw [h] at ho
    have hlt : of < 36524 * 3 := by
      by_cases hy : Y = 299
      · subst hy; omega
      · omega
    rw [show of / 146096 = 0 from by omega, show of / 36524 = 2 from by omega]
    omega
  · rw [h] at ho
    by_cases he : of = 146096
    · rw [he]; omega
    · rw [show of / 146096 = 0 from by omega, show of / 36524 = 3 from by omega]
      omega
def rera (n : Int) : Int := (n + 719468) / 146097
def rof (n : Int) : Int := n + 719468 - 146097 * rera n
def ryear (n : Int) : Int := (rof n - rof n / 1460 + rof n / 36524 - rof n / 146096) / 365
def rday (n : Int) : Int := rof n - (365 * ryear n + ryear n / 4 - ryear n / 100)
def rk (n : Int) : Int := (5 * rday n + 2) / 153
def rY (n : Int) : Int := if rk n < 10 then 400 * rera n + ryear n else 400 * rera n + ryear n + 1
def rM (n : Int) : Int := if rk n < 10 then rk n + 3 else rk n - 9
def rD (n : Int) : Int := rday n - (153 * rk n + 2) / 5 + 1
/-- the second way finds the date, said by the year that begins in March -/
theorem second_way (Y K D n : Int) (hY : 0 ≤ Y) (hK : 0 ≤ K) (hK2 : K ≤ 11) (hD : 1 ≤ D) (hD2 : D ≤ 31) (hD3 : K ≠ 0 → K ≠ 2 → K ≠ 4 → K ≠ 5 → K ≠ 7 → K ≠ 9 → K ≠ 10 → D ≤ 30)
    (hF : K = 11 → D ≤ 29) (hL : K = 11 → D = 29 → (Y + 1) % 4 = 0 ∧ ((Y + 1) % 100 ≠ 0 ∨ (Y + 1) % 400 = 0))
    (hn : n = 365 * Y + Y / 4 - Y / 100 + Y / 400 + (153 * K + 2) / 5 + D - 1 - 719468) :
    rera n = Y / 400 ∧ ryear n = Y % 400 ∧ rk n = K ∧ rD n = D ∧ 0 ≤ rday n ∧ rday n ≤ 365 := by
  have hdoy : 0 ≤ (153 * K + 2) / 5 + D - 1 ∧ (153 * K + 2) / 5 + D - 1 ≤ 365 ∧ ((153 * K + 2) / 5 + D - 1 = 365 → K = 11 ∧ D = 29) ∧ (5 * ((153 * K + 2) / 5 + D - 1) + 2) / 153 = K := by
    rcases (by omega : K = 0 ∨ K = 1 ∨ K = 2 ∨ K = 3 ∨ K = 4 ∨ K = 5 ∨ K = 6 ∨ K = 7 ∨ K = 8 ∨ K = 9 ∨ K = 10 ∨ K = 11) with rfl | rfl | rfl | rfl | rfl | rfl | rfl | rfl | rfl | rfl | rfl | rfl <;> omega
  obtain ⟨d1, d2, d3, d4⟩ := hdoy
  obtain ⟨doy, hdoy⟩ : ∃ q, q = (153 * K + 2) / 5 + D - 1 := ⟨_, rfl⟩
  rw [← hdoy] at d1 d2 d3 d4
  have hn2 : n + 719468 = 365 * Y + Y / 4 - Y / 100 + Y / 400 + doy := by omega
  have h5 : doy = 365 → (Y % 400 + 1) % 4 = 0 ∧ ((Y % 400 + 1) % 100 ≠ 0 ∨ (Y % 400 + 1) % 400 = 0) := by
    intro h
    obtain ⟨a, b⟩ := d3 h
    obtain ⟨c, d⟩ := hL a b
    omega
  have hb : 365 * (Y % 400) + (Y % 400) / 4 - (Y % 400) / 100 + doy < 146097 ∧ 0 ≤ 365 * (Y % 400) + (Y % 400) / 4 - (Y % 400) / 100 + doy := by
    by_cases h : doy = 365
    · have := h5 h; omega
    · omega
  have q1 : (Y % 400) / 4 = Y / 4 - 100 * (Y / 400) := by omega
  have q2 : (Y % 400) / 100 = Y / 100 - 4 * (Y / 400) := by omega
  have hsplit : n + 719468 = 146097 * (Y / 400) + (365 * (Y % 400) + (Y % 400) / 4 - (Y % 400) / 100 + doy) := by omega
  obtain ⟨of, hof⟩ : ∃ q, q = 365 * (Y % 400) + (Y % 400) / 4 - (Y % 400) / 100 + doy := ⟨_, rfl⟩
  rw [← hof] at hb hsplit
  have e1 : rera n = Y / 400 := by unfold rera; rw [hsplit]; omega
  have e2 : rof n = of := by unfold rof; rw [e1]; omega
  have e3 : ryear n = Y % 400 := by
    unfold ryear; rw [e2]
    exact yoe (Y % 400) doy of (by omega) (by omega) d1 d2 h5 hof
  have e4 : rday n = doy := by unfold rday; rw [e2, e3]; omega
  have e5 : rk n = K := by unfold rk; rw [e4]; exact d4
  exact ⟨e1, e3, e5, by unfold rD; rw [e4, e5]; omega, by rw [e4]; exact d1, by rw [e4]; exact d2⟩
theorem second_date {y m d : Int} (h : Valid y m d) : rY (num y m d) = y ∧ rM (num y m d) = m ∧ rD (num y m d) = d ∧ rera (num y m d) * 400 ≤ 9999 ∧ 0 ≤ rera (num y m d) ∧ 0 ≤ rk (num y m d) ∧ rk (num y m d) ≤ 11 ∧ 0 ≤ rday (num y m d) ∧ rday (num y m d) ≤ 365 := by
  obtain ⟨h1, h2, h3, h4, h5, h6⟩ := h
  have hl := lp_cases y
  rw [← rdays_num y m d h3 h4]
  by_cases hm : m ≤ 2
  · have hd2 : d ≤ 31 := by have := len_bd y m; omega
    have hf : m + 9 = 11 → d ≤ 29 := by intro e; obtain rfl : m = 2 := by omega
                                        simp [len] at h6; omega
    have hle : m + 9 = 11 → d = 29 → (y - 1 + 1) % 4 = 0 ∧ ((y - 1 + 1) % 100 ≠ 0 ∨ (y - 1 + 1) % 400 = 0) := by
      intro e e2; obtain rfl : m = 2 := by omega
      simp [len] at h6; omega
    obtain ⟨a, b, c, e, f1, f2⟩ := second_way (y - 1) (m + 9) d (rdays y m d) (by omega) (by omega) (by omega) h5 hd2 (by intros; omega) hf hle (by unfold rdays; simp only [hm, if_true]; omega)
    unfold rY rM
    rw [a, b, c, e]
    rw [if_neg (by omega), if_neg (by omega)]
    omega
  · have hd2 : d ≤ 31 := by have := len_bd y m; omega
    have hd3 : m - 3 ≠ 0 → m - 3 ≠ 2 → m - 3 ≠ 4 → m - 3 ≠ 5 → m - 3 ≠ 7 → m - 3 ≠ 9 → m - 3 ≠ 10 → d ≤ 30 := by
      intros
      have : m = 4 ∨ m = 6 ∨ m = 9 ∨ m = 11 := by omega
      simp [len, this] at h6; omega
    obtain ⟨a, b, c, e, f1, f2⟩ := second_way y (m - 3) d (rdays y m d) (by omega) (by omega) (by omega) h5 hd2 hd3 (by omega) (by omega) (by unfold rdays; simp only [hm, if_false])
    unfold rY rM
    rw [a, b, c, e]
    rw [if_pos (by omega), if_pos (by omega)]
    omega
/-- the number of a date that is none is another date's -/
theorem second_none {y m d : Int} (h1 : 1 ≤ y) (h2 : y ≤ 9999) (h3 : 1 ≤ m) (h4 : m ≤ 12) (h5 : 1 ≤ d) (h6 : d ≤ 31) (h7 : len y m < d) :
    ∃ m' d', Valid y m' d' ∧ num y m' d' = rdays y m d ∧ m' ≠ m := by
  have hb := len_bd y m
  have hb' := len_bd y (m + 1)
  have hm : m ≠ 12 := by rintro rfl; simp [len] at h7; omega
  refine ⟨m + 1, d - len y m, ⟨h1, h2, by omega, by omega, by omega, by omega⟩, ?_, by omega⟩
  rw [rdays_num y m d h3 h4]
  unfold num
  rw [cum_succ y m h3 h4]
  omega
end Go.Proofs.Ytollpgmcmipcoaa.Civ
