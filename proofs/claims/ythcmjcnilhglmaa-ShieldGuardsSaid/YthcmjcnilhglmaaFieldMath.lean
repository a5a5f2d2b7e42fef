/- The plain mathematics of the field of 256 elements, over natural numbers. No condition. -/
import Derived.Test.YthcmjcnilhglmaaArith
namespace Go.Proofs.Ythcmjcnilhglmaa.Fld
def xtime (a : Nat) : Nat := 2 * a ^^^ (if a.testBit 7 then 285 else 0)
def xt : Nat → Nat → Nat
  | 0, a => a
  | i + 1, a => xtime (xt i a)
def gmTo (a b : Nat) : Nat → Nat
  | 0 => 0
  | k + 1 => gmTo a b k ^^^ (if b.testBit k then xt k a else 0)
def gm (a b : Nat) : Nat := gmTo a b 8
theorem two_mul_xor (a b : Nat) : 2 * (a ^^^ b) = 2 * a ^^^ 2 * b := by
  apply Nat.eq_of_testBit_eq
  intro i
  rw [Nat.testBit_xor]
  cases i with
  | zero => simp
  | succ i => simp [Nat.testBit_succ]
theorem ite_xor (a b : Bool) (x : Nat) : (if (a != b) then x else 0) = (if a then x else 0) ^^^ (if b then x else 0) := by
  cases a <;> cases b <;> simp
theorem ite_xor2 (a : Bool) (x y : Nat) : (if a then x ^^^ y else 0) = (if a then x else 0) ^^^ (if a then y else 0) := by
  cases a <;> simp
theorem xor4 (a b c d : Nat) : (a ^^^ b) ^^^ (c ^^^ d) = (a ^^^ c) ^^^ (b ^^^ d) := by
  rw [Nat.xor_assoc, Nat.xor_assoc, ← Nat.xor_assoc b c d, ← Nat.xor_assoc c b d, Nat.xor_comm b c]
theorem xtime_xor (a b : Nat) : xtime (a ^^^ b) = xtime a ^^^ xtime b := by
  unfold xtime
  rw [two_mul_xor, Nat.testBit_xor, ite_xor, xor4]
theorem xt_xor (i a b : Nat) : xt i (a ^^^ b) = xt i a ^^^ xt i b := by
  induction i with
  | zero => rfl
  | succ i ih => rw [xt, ih, xtime_xor]; rfl
theorem gmTo_right (a b c k : Nat) : gmTo a (b ^^^ c) k = gmTo a b k ^^^ gmTo a c k := by
  induction k with
  | zero => simp [gmTo]
  | succ k ih => rw [gmTo, ih, Nat.testBit_xor, ite_xor, xor4]; rfl
theorem gmTo_left (a b c k : Nat) : gmTo (a ^^^ b) c k = gmTo a c k ^^^ gmTo b c k := by
  induction k with
  | zero => simp [gmTo]
  | succ k ih => rw [gmTo, ih, xt_xor, ite_xor2, xor4]; rfl
theorem gm_right (a b c : Nat) : gm a (b ^^^ c) = gm a b ^^^ gm a c := gmTo_right a b c 8
theorem gm_left (a b c : Nat) : gm (a ^^^ b) c = gm a c ^^^ gm b c := gmTo_left a b c 8
def Lin (f : Nat → Nat) : Prop := ∀ a b, f (a ^^^ b) = f a ^^^ f b
theorem Lin.zero {f : Nat → Nat} (h : Lin f) : f 0 = 0 := by
  have := h 0 0
  rw [Nat.xor_self, Nat.xor_self] at this
  exact this
theorem low_bit (k a : Nat) (h : a < 2 ^ (k + 1)) (h2 : 2 ^ k ≤ a) : a = (a - 2 ^ k) ^^^ 2 ^ k := by
  have hlt : a - 2 ^ k < 2 ^ k := by rw [Nat.pow_succ] at h; omega
  apply Nat.eq_of_testBit_eq
  intro i
  rw [Nat.testBit_xor, Nat.testBit_two_pow]
  have ha : a = 2 ^ k + (a - 2 ^ k) := by omega
  by_cases hi : i = k
  · subst hi
    have h1 : (a - 2 ^ i).testBit i = false := Nat.testBit_lt_two_pow hlt
    have h3 : a.testBit i = true := by rw [ha, Nat.testBit_two_pow_add_eq, h1]; rfl
    rw [h1, h3]; simp
  · have hki : ¬ k = i := fun e => hi e.symm
    simp only [hki, decide_false, Bool.bne_false]
    rcases Nat.lt_or_gt_of_ne hi with h' | h'
    · conv => lhs; rw [ha]
      rw [Nat.testBit_two_pow_add_gt h']
    · have e1 : a.testBit i = false := Nat.testBit_lt_two_pow (Nat.lt_of_lt_of_le h (Nat.pow_le_pow_right (by omega) h'))
      have e2 : (a - 2 ^ k).testBit i = false := Nat.testBit_lt_two_pow (Nat.lt_of_lt_of_le hlt (Nat.pow_le_pow_right (by omega) (by omega)))
      rw [e1, e2]
theorem lin_ext {f g : Nat → Nat} (hf : Lin f) (hg : Lin g) (n : Nat) (h : ∀ i, i < n → f (2 ^ i) = g (2 ^ i)) : ∀ a, a < 2 ^ n → f a = g a := by
  induction n with
  | zero => intro a ha; have : a = 0 := by simpa using ha
            subst this; rw [hf.zero, hg.zero]
  | succ n ih =>
    intro a ha
    have ih' := ih (fun i hi => h i (by omega))
    by_cases hlt : a < 2 ^ n
    · exact ih' a hlt
    · have hb := low_bit n a ha (by omega)
      rw [hb, hf, hg, ih' _ (by rw [Nat.pow_succ] at ha; omega), h n (by omega)]
theorem lin_gm_left (c : Nat) : Lin (fun a => gm a c) := fun a b => gm_left a b c
theorem lin_gm_right (c : Nat) : Lin (fun a => gm c a) := fun a b => gm_right c a b
theorem lin_comp {f g : Nat → Nat} (hf : Lin f) (hg : Lin g) : Lin (fun a => f (g a)) := fun a b => by show f (g (a ^^^ b)) = _; rw [hg, hf]
theorem gm_comm {a b : Nat} (ha : a < 256) (hb : b < 256) : gm a b = gm b a := by
  have base : ∀ i, i < 8 → ∀ j, j < 8 → gm (2 ^ i) (2 ^ j) = gm (2 ^ j) (2 ^ i) := by decide +kernel
  exact lin_ext (lin_gm_left b) (lin_gm_right b) 8 (fun i hi =>
    lin_ext (lin_gm_right (2 ^ i)) (lin_gm_left (2 ^ i)) 8 (fun j hj => base i hi j hj) b hb) a ha
theorem gm_assoc {a b c : Nat} (ha : a < 256) (hb : b < 256) (hc : c < 256) : gm (gm a b) c = gm a (gm b c) := by
  have base : ∀ i, i < 8 → ∀ j, j < 8 → ∀ k, k < 8 → gm (gm (2 ^ i) (2 ^ j)) (2 ^ k) = gm (2 ^ i) (gm (2 ^ j) (2 ^ k)) := by decide +kernel
  exact lin_ext (lin_comp (lin_gm_left c) (lin_gm_left b)) (lin_gm_left (gm b c)) 8 (fun i hi =>
    lin_ext (lin_comp (lin_gm_left c) (lin_gm_right (2 ^ i))) (lin_comp (lin_gm_right (2 ^ i)) (lin_gm_left c)) 8 (fun j hj =>
      lin_ext (lin_gm_right (gm (2 ^ i) (2 ^ j))) (lin_comp (lin_gm_right (2 ^ i)) (lin_gm_right (2 ^ j))) 8 (fun k hk => base i hi j hj k hk) c hc) b hb) a ha
theorem xtime_lt : ∀ a, a < 256 → xtime a < 256 := by decide +kernel
theorem xt_lt (i a : Nat) (h : a < 256) : xt i a < 256 := by
  induction i with
  | zero => exact h
  | succ i ih => exact xtime_lt _ ih
theorem xor_lt8 {a b : Nat} (ha : a < 256) (hb : b < 256) : a ^^^ b < 256 := Nat.xor_lt_two_pow (n := 8) ha hb
theorem gmTo_lt (a b k : Nat) (h : a < 256) : gmTo a b k < 256 := by
  induction k with
  | zero => simp [gmTo]
  | succ k ih => unfold gmTo; exact xor_lt8 ih (by split; exact xt_lt _ _ h; omega)
theorem gm_lt (a b : Nat) (h : a < 256) : gm a b < 256 := gmTo_lt a b 8 h
theorem gm_one {a : Nat} (ha : a < 256) : gm a 1 = a := (by decide +kernel : ∀ a, a < 256 → gm a 1 = a) a ha
theorem one_gm {a : Nat} (ha : a < 256) : gm 1 a = a := by rw [gm_comm (by omega) ha, gm_one ha]
theorem gm_zero (a : Nat) : gm a 0 = 0 := (lin_gm_right a).zero
theorem zero_gm (a : Nat) : gm 0 a = 0 := (lin_gm_left a).zero
/-! the loop of the product -/
theorem gmTo_end (a b k : Nat) (h : b / 2 ^ k = 0) : ∀ j, k ≤ j → gmTo a b j = gmTo a b k := by
  intro j hj
  induction j with
  | zero => have : k = 0 := by omega
            subst this; rfl
  | succ j ih =>
    by_cases e : k = j + 1
    · subst e; rfl
    · rw [gmTo, ih (by omega)]
      have : b < 2 ^ k := by
        rcases Nat.lt_or_ge b (2 ^ k) with h' | h'
        · exact h'
        · have := Nat.div_pos h' (Nat.two_pow_pos k); omega
      rw [Nat.testBit_lt_two_pow (Nat.lt_of_lt_of_le this (Nat.pow_le_pow_right (by omega) (by omega)))]
      simp
theorem xtime_step : ∀ a, a < 256 → xtime a = if a < 128 then 2 * a else (2 * a % 256) ^^^ 29 := by decide +kernel
/-! the second way to a product: shifts first, the remainder behind -/
def rmTo (a b : Nat) : Nat → Nat
  | 0 => 0
  | k + 1 => rmTo a b k ^^^ (if b.testBit k then a * 2 ^ k else 0)
def rred (n : Nat) : Nat → Nat
  | 0 => n
  | k + 1 => rred n k ^^^ (if (rred n k).testBit (15 - k) then 285 * 2 ^ (7 - k) else 0)
def rmul (a b : Nat) : Nat := rred (rmTo a b 8) 8 % 256
theorem mul_pow_xor (a b k : Nat) : (a ^^^ b) * 2 ^ k = a * 2 ^ k ^^^ b * 2 ^ k := by
  induction k with
  | zero => simp
  | succ k ih =>
    have e : ∀ c : Nat, c * 2 ^ (k + 1) = 2 * (c * 2 ^ k) := by intro c; rw [Nat.pow_succ, ← Nat.mul_assoc, Nat.mul_comm]
    rw [e, e, e, ih, two_mul_xor]
theorem rmTo_right (a b c k : Nat) : rmTo a (b ^^^ c) k = rmTo a b k ^^^ rmTo a c k := by
  induction k with
  | zero => simp [rmTo]
  | succ k ih => rw [rmTo, ih, Nat.testBit_xor, ite_xor, xor4]; rfl
theorem rmTo_left (a b c k : Nat) : rmTo (a ^^^ b) c k = rmTo a c k ^^^ rmTo b c k := by
  induction k with
  | zero => simp [rmTo]
  | succ k ih => rw [rmTo, ih, mul_pow_xor, ite_xor2, xor4]; rfl
theorem rred_xor (a b k : Nat) : rred (a ^^^ b) k = rred a k ^^^ rred b k := by
  induction k with
  | zero => rfl
  | succ k ih => rw [rred, ih, Nat.testBit_xor, ite_xor, xor4]; rfl
theorem mod256_xor (a b : Nat) : (a ^^^ b) % 256 = (a % 256) ^^^ (b % 256) := by
  have h2 : (256 : Nat) = 2 ^ 8 := rfl
  rw [h2]
  apply Nat.eq_of_testBit_eq
  intro i
  simp only [Nat.testBit_mod_two_pow, Nat.testBit_xor]
  by_cases h : i < 8 <;> simp [h]
theorem rmul_gm {a b : Nat} (ha : a < 256) (hb : b < 256) : rmul a b = gm a b := by
  have base : ∀ i, i < 8 → ∀ j, j < 8 → rmul (2 ^ i) (2 ^ j) = gm (2 ^ i) (2 ^ j) := by decide +kernel
  have l1 : ∀ c, Lin (fun a => rmul a c) := fun c a b => by simp only [rmul]; rw [rmTo_left, rred_xor, mod256_xor]
  have l2 : ∀ c, Lin (fun b => rmul c b) := fun c a b => by simp only [rmul]; rw [rmTo_right, rred_xor, mod256_xor]
  exact lin_ext (l1 b) (lin_gm_left b) 8 (fun i hi => lin_ext (l2 (2 ^ i)) (lin_gm_right (2 ^ i)) 8 (fun j hj => base i hi j hj) b hb) a ha
theorem rmTo_lt (a b k : Nat) (ha : a < 256) (hk : k ≤ 8) : rmTo a b k < 65536 := by
  induction k with
  | zero => simp [rmTo]
  | succ k ih =>
    unfold rmTo
    have hp : 2 ^ k ≤ 2 ^ 7 := Nat.pow_le_pow_right (by omega) (by omega)
    have h7 : (2 : Nat) ^ 7 = 128 := rfl
    have : a * 2 ^ k ≤ 255 * 128 := Nat.mul_le_mul (by omega) (by omega)
    exact Nat.xor_lt_two_pow (n := 16) (ih (by omega)) (by split <;> omega)
theorem shl_285 (k : Nat) (hk : k < 8) : 285 * 2 ^ (7 - k) < 65536 := by
  have hp : 2 ^ (7 - k) ≤ 2 ^ 7 := Nat.pow_le_pow_right (by omega) (by omega)
  have h7 : (2 : Nat) ^ 7 = 128 := rfl
  omega
theorem rred_lt (n k : Nat) (hn : n < 65536) (hk : k ≤ 8) : rred n k < 65536 := by
  induction k with
  | zero => exact hn
  | succ k ih =>
    unfold rred
    exact Nat.xor_lt_two_pow (n := 16) (ih (by omega)) (by split; exact shl_285 k (by omega); omega)
/-! powers -/
def gpow (a : Nat) : Nat → Nat
  | 0 => 1
  | n + 1 => gm (gpow a n) a
theorem gpow_lt (a n : Nat) (ha : a < 256) : gpow a n < 256 := by
  cases n with
  | zero => simp [gpow]
  | succ n =>
    have : ∀ n, gpow a n < 256 := by
      intro n
      induction n with
      | zero => simp [gpow]
      | succ n ih => exact gm_lt _ _ ih
    exact this _
theorem gpow_add {a : Nat} (ha : a < 256) (m n : Nat) : gpow a (m + n) = gm (gpow a m) (gpow a n) := by
  induction n with
  | zero => rw [Nat.add_zero, gpow, gm_one (gpow_lt a m ha)]
  | succ n ih =>
    rw [← Nat.add_assoc, gpow, ih, gpow, gm_assoc (gpow_lt a m ha) (gpow_lt a n ha) ha]
theorem gpow_mul {a : Nat} (ha : a < 256) (m n : Nat) : gpow a (m * n) = gpow (gpow a m) n := by
  induction n with
  | zero => rfl
  | succ n ih => rw [Nat.mul_succ, gpow_add ha, ih]; rfl
theorem gpow_one {a : Nat} (ha : a < 256) : gpow a 1 = a := by show gm 1 a = a; exact one_gm ha
theorem one_gpow (n : Nat) : gpow 1 n = 1 := by
  induction n with
  | zero => rfl
  | succ n ih => rw [gpow, ih]; rfl
def sq (a : Nat) : Nat := gm a a
theorem gpow_two {a : Nat} (ha : a < 256) (n : Nat) : gpow a (2 * n) = sq (gpow a n) := by rw [Nat.two_mul, gpow_add ha]; rfl
def p255 (a : Nat) : Nat := gm (gm (gm (gm (gm (gm (gm a (sq a)) (sq (sq a))) (sq (sq (sq a)))) (sq (sq (sq (sq a))))) (sq (sq (sq (sq (sq a)))))) (sq (sq (sq (sq (sq (sq a))))))) (sq (sq (sq (sq (sq (sq (sq a)))))))
theorem p255_one : ∀ a, a < 256 → a ≠ 0 → p255 a = 1 := by decide +kernel
theorem gpow_255 {a : Nat} (ha : a < 256) (h0 : a ≠ 0) : gpow a 255 = 1 := by
  rw [← p255_one a ha h0]
  have g1 := gpow_one ha
  have g2 : gpow a 2 = sq a := by rw [show 2 = 2 * 1 from rfl, gpow_two ha, g1]
  have g4 : gpow a 4 = sq (sq a) := by rw [show 4 = 2 * 2 from rfl, gpow_two ha, g2]
  have g8 : gpow a 8 = sq (sq (sq a)) := by rw [show 8 = 2 * 4 from rfl, gpow_two ha, g4]
  have g16 : gpow a 16 = sq (sq (sq (sq a))) := by rw [show 16 = 2 * 8 from rfl, gpow_two ha, g8]
  have g32 : gpow a 32 = sq (sq (sq (sq (sq a)))) := by rw [show 32 = 2 * 16 from rfl, gpow_two ha, g16]
  have g64 : gpow a 64 = sq (sq (sq (sq (sq (sq a))))) := by rw [show 64 = 2 * 32 from rfl, gpow_two ha, g32]
  have g128 : gpow a 128 = sq (sq (sq (sq (sq (sq (sq a)))))) := by rw [show 128 = 2 * 64 from rfl, gpow_two ha, g64]
  unfold p255
  rw [show 255 = 127 + 128 from rfl, gpow_add ha, g128, show 127 = 63 + 64 from rfl, gpow_add ha, g64, show 63 = 31 + 32 from rfl, gpow_add ha, g32, show 31 = 15 + 16 from rfl, gpow_add ha, g16,
    show 15 = 7 + 8 from rfl, gpow_add ha, g8, show 7 = 3 + 4 from rfl, gpow_add ha, g4, show 3 = 1 + 2 from rfl, gpow_add ha, g2, g1]
theorem gpow_mod {a : Nat} (ha : a < 256) (h0 : a ≠ 0) (n : Nat) : gpow a (n % 255) = gpow a n := by
  have h : n = 255 * (n / 255) + n % 255 := (Nat.div_add_mod n 255).symm
  have h2 : gpow a n = gpow a (255 * (n / 255) + n % 255) := by rw [← h]
  rw [h2, gpow_add ha, gpow_mul ha, gpow_255 ha h0, one_gpow, one_gm (gpow_lt _ _ ha)]
theorem zero_gpow (n : Nat) (h : 0 < n) : gpow 0 n = 0 := by
  cases n with
  | zero => omega
  | succ n => rw [gpow, gm_zero]
def ginv (a : Nat) : Nat := gpow a 254
theorem ginv_lt {a : Nat} (ha : a < 256) : ginv a < 256 := gpow_lt a 254 ha
theorem gm_ginv {a : Nat} (ha : a < 256) (h0 : a ≠ 0) : gm a (ginv a) = 1 := by
  rw [gm_comm ha (ginv_lt ha)]
  exact gpow_255 ha h0
theorem ginv_only {a b : Nat} (ha : a < 256) (hb : b < 256) (h : gm a b = 1) : b = ginv a := by
  have h0 : a ≠ 0 := by rintro rfl; rw [zero_gm] at h; cases h
  have h1 : gm (ginv a) (gm a b) = ginv a := by rw [h, gm_one (ginv_lt ha)]
  rw [← gm_assoc (ginv_lt ha) ha hb, gm_comm (ginv_lt ha) ha, gm_ginv ha h0, one_gm hb] at h1
  exact h1
/-! a polynomial's value -/
def atL (l : List Nat) (x : Nat) : Nat := l.foldr (fun c acc => gm acc x ^^^ c) 0
def upL (x : Nat) : List Nat → Nat → Nat → Nat
  | [], _, out => out
  | c :: l, up, out => upL x l (gm up x) (out ^^^ gm c up)
theorem atL_lt (l : List Nat) (x : Nat) (hl : ∀ c ∈ l, c < 256) : atL l x < 256 := by
  induction l with
  | nil => simp [atL]
  | cons c l ih => exact xor_lt8 (gm_lt _ _ (ih fun c hc => hl c (by simp [hc]))) (hl c (by simp))
theorem upL_at (x : Nat) (hx : x < 256) : ∀ (l : List Nat) (up out : Nat), (∀ c ∈ l, c < 256) → up < 256 → upL x l up out = out ^^^ gm (atL l x) up
  | [], up, out, _, _ => by rw [upL, atL, List.foldr_nil, zero_gm, Nat.xor_zero]
  | c :: l, up, out, hl, hup => by
    have hl' : ∀ c ∈ l, c < 256 := fun c hc => hl c (by simp [hc])
    rw [upL, upL_at x hx l _ _ hl' (gm_lt _ _ hup)]
    show _ = out ^^^ gm (gm (atL l x) x ^^^ c) up
    rw [gm_left, gm_assoc (atL_lt l x hl') hx hup, gm_comm hx hup, Nat.xor_assoc, Nat.xor_comm (gm c up)]
theorem upL_end (x : Nat) (hx : x < 256) (l : List Nat) (hl : ∀ c ∈ l, c < 256) : upL x l 1 0 = atL l x := by
  rw [upL_at x hx l 1 0 hl (by omega), Nat.zero_xor, gm_one (atL_lt l x hl)]
/-! sums of products -/
def dotTo (l m : List Nat) : Nat → Nat
  | 0 => 0
  | k + 1 => dotTo l m k ^^^ gm (l.getD k 0) (m.getD k 0)
theorem getD_lt {l : List Nat} (h : ∀ c ∈ l, c < 256) (k : Nat) : l.getD k 0 < 256 := by
  rw [List.getD_eq_getElem?_getD]
  cases hk : l[k]? with
  | none => simp
  | some c => exact h c (List.mem_of_getElem? hk)
theorem dotTo_lt (l m : List Nat) (h : ∀ c ∈ l, c < 256) (k : Nat) : dotTo l m k < 256 := by
  induction k with
  | zero => simp [dotTo]
  | succ k ih => exact xor_lt8 ih (gm_lt _ _ (getD_lt h k))
theorem atL_drop (l : List Nat) (x k : Nat) (hk : k < l.length) : atL (l.drop k) x = gm (atL (l.drop (k + 1)) x) x ^^^ l.getD k 0 := by
  rw [List.drop_eq_getElem_cons hk]
  show gm (atL (l.drop (k + 1)) x) x ^^^ l[k] = _
  rw [List.getD_eq_getElem?_getD, List.getElem?_eq_getElem hk]; rfl
/-- what the second way has when k elements are done -/
def upTo (x : Nat) (l : List Nat) : Nat → Nat × Nat
  | 0 => (1, 0)
  | k + 1 => (gm (upTo x l k).1 x, (upTo x l k).2 ^^^ gm (l.getD k 0) (upTo x l k).1)
theorem upL_upTo (x : Nat) (l : List Nat) (k : Nat) (hk : k ≤ l.length) : upL x (l.drop k) (upTo x l k).1 (upTo x l k).2 = upL x l 1 0 := by
  induction k with
  | zero => rfl
  | succ k ih =>
    rw [← ih (by omega), List.drop_eq_getElem_cons (show k < l.length by omega)]
    show _ = upL x (l.drop (k + 1)) (gm (upTo x l k).1 x) ((upTo x l k).2 ^^^ gm l[k] (upTo x l k).1)
    rw [upTo, List.getD_eq_getElem?_getD, List.getElem?_eq_getElem (show k < l.length by omega)]; rfl
theorem upTo_end (x : Nat) (hx : x < 256) (l : List Nat) (hl : ∀ c ∈ l, c < 256) : (upTo x l l.length).2 = atL l x := by
  rw [← upL_end x hx l hl, ← upL_upTo x l l.length (Nat.le_refl _), List.drop_length]; rfl
theorem upTo_lt (x : Nat) (hx : x < 256) (l : List Nat) (hl : ∀ c ∈ l, c < 256) (k : Nat) : (upTo x l k).1 < 256 ∧ (upTo x l k).2 < 256 := by
  induction k with
  | zero => simp [upTo]
  | succ k ih => exact ⟨gm_lt _ _ ih.1, xor_lt8 ih.2 (gm_lt _ _ (getD_lt hl k))⟩
end Go.Proofs.Ythcmjcnilhglmaa.Fld
