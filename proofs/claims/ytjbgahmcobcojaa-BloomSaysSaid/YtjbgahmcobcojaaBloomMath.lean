/- Bits of rows of words, their number, and maps of numbers. No condition. -/
import Derived.Test.YtjbgahmcobcojaaEn18
import Derived.Test.YtjbgahmcobcojaaPop64
namespace Go.Proofs.Ytjbgahmcobcojaa.Blm
open Ytjbgahmcobcojaa.En Pop
/-! maps -/
def get : List (Int × Int) → Int → Int
  | [], _ => 0
  | x :: l, k => if x.1 = k then x.2 else get l k
def set' : List (Int × Int) → Int → Int → List (Int × Int)
  | [], k, v => [(k, v)]
  | x :: l, k, v => if x.1 = k then (k, v) :: l else x :: set' l k v
theorem get_at : ∀ (l : List (Int × Int)) (k : Int) (i : Nat), ((mfind k l i).map (·.2)).getD 0 = get l k
  | [], k, i => rfl
  | x :: l, k, i => by
    unfold mfind get
    split
    · rfl
    · exact get_at l k (i + 1)
theorem mget_eq (l : List (Int × Int)) (k : Int) : mget l k = get l k := get_at l k 0
theorem set_at : ∀ (l p : List (Int × Int)) (k v : Int), (match mfind k l p.length with | some y => (p ++ l).set y.1 (k, v) | none => p ++ l ++ [(k, v)]) = p ++ set' l k v
  | [], p, k, v => by simp [mfind, set']
  | x :: l, p, k, v => by
    unfold mfind set'
    by_cases h : x.1 = k
    · rw [if_pos h, if_pos h]
      simp
    · rw [if_neg h, if_neg h]
      have := set_at l (p ++ [x]) k v
      have e : p ++ [x] ++ l = p ++ x :: l := by simp
      have e2 : p ++ [x] ++ set' l k v = p ++ x :: set' l k v := by simp
      rw [List.length_append, List.length_singleton, e, e2] at this
      exact this
theorem mset_eq (l : List (Int × Int)) (k v : Int) : mset l k v = set' l k v := set_at l [] k v
theorem get_set : ∀ (l : List (Int × Int)) (k v j : Int), get (set' l k v) j = if k = j then v else get l j
  | [], k, v, j => rfl
  | x :: l, k, v, j => by
    unfold set'
    by_cases h : x.1 = k
    · rw [if_pos h]
      show (if k = j then v else get l j) = if k = j then v else (if x.1 = j then x.2 else get l j)
      by_cases h2 : k = j
      · rw [if_pos h2, if_pos h2]
      · rw [if_neg h2, if_neg h2, if_neg (by rw [h]; exact h2)]
    · rw [if_neg h]
      show (if x.1 = j then x.2 else get (set' l k v) j) = _
      rw [get_set l k v j]
      by_cases h3 : x.1 = j
      · rw [if_pos h3, if_neg (by intro e; exact h (h3.trans e.symm))]
        show _ = if x.1 = j then x.2 else get l j
        rw [if_pos h3]
      · rw [if_neg h3]
        by_cases h2 : k = j
        · rw [if_pos h2, if_pos h2]
        · rw [if_neg h2, if_neg h2]
          show _ = if x.1 = j then x.2 else get l j
          rw [if_neg h3]
theorem mget_mset (l : List (Int × Int)) (k v j : Int) : mget (mset l k v) j = if k = j then v else mget l j := by rw [mset_eq, mget_eq, get_set, mget_eq]
/-! bits -/
def B (l : List Nat) (k : Nat) : Bool := (l.getD (k / 64) 0).testBit (k % 64)
def cnt (l : List Nat) : Nat → Nat
  | 0 => 0
  | k + 1 => cnt l k + if B l k then 1 else 0
def total (l : List Nat) : Nat → Nat
  | 0 => 0
  | j + 1 => total l j + dsum 1 64 (l.getD j 0)
theorem dsum_snoc : ∀ (n x : Nat), dsum 1 (n + 1) x = dsum 1 n x + x / 2 ^ n % 2
  | 0, x => by simp [dsum]
  | n + 1, x => by
    show x % 2 ^ 1 + dsum 1 (n + 1) (x / 2 ^ 1) = (x % 2 ^ 1 + dsum 1 n (x / 2 ^ 1)) + x / 2 ^ (n + 1) % 2
    rw [dsum_snoc n (x / 2 ^ 1), Nat.div_div_eq_div_mul, ← Nat.pow_add, Nat.add_comm 1 n]
    omega
theorem bit01 (x i : Nat) : (if x.testBit i then 1 else 0) = x / 2 ^ i % 2 := by
  rw [Nat.testBit_eq_decide_div_mod_eq]
  have : x / 2 ^ i % 2 < 2 := Nat.mod_lt _ (by omega)
  by_cases h : x / 2 ^ i % 2 = 1
  · simp [h]
  · simp [h]; omega
theorem cnt_in (l : List Nat) (j : Nat) : ∀ m : Nat, m ≤ 64 → cnt l (64 * j + m) = cnt l (64 * j) + dsum 1 m (l.getD j 0)
  | 0, _ => by simp [dsum]
  | m + 1, h => by
    rw [show 64 * j + (m + 1) = (64 * j + m) + 1 by omega]
    show cnt l (64 * j + m) + (if B l (64 * j + m) then 1 else 0) = _
    rw [cnt_in l j m (by omega), dsum_snoc]
    unfold B
    rw [show (64 * j + m) / 64 = j by omega, show (64 * j + m) % 64 = m by omega, bit01]
    omega
theorem cnt_total (l : List Nat) : ∀ j : Nat, cnt l (64 * j) = total l j
  | 0 => rfl
  | j + 1 => by
    rw [show 64 * (j + 1) = 64 * j + 64 by omega, cnt_in l j 64 (by omega), cnt_total l j]
    rfl
theorem cnt_le (l : List Nat) : ∀ k : Nat, cnt l k ≤ k
  | 0 => Nat.le_refl _
  | k + 1 => by
    have := cnt_le l k
    show cnt l k + (if B l k then 1 else 0) ≤ k + 1
    split <;> omega
theorem total_le (l : List Nat) (j : Nat) : total l j ≤ 64 * j := by rw [← cnt_total]; exact cnt_le _ _
theorem B_set (l : List Nat) (p k : Nat) (hp : p / 64 < l.length) : B (l.set (p / 64) (l.getD (p / 64) 0 ||| 2 ^ (p % 64))) k = (B l k || decide (k = p)) := by
  unfold B
  by_cases h : k / 64 = p / 64
  · rw [h, List.getD_eq_getElem?_getD, List.getElem?_set_self hp]
    show (l.getD (p / 64) 0 ||| 2 ^ (p % 64)).testBit (k % 64) = _
    rw [Nat.testBit_or, Nat.testBit_two_pow]
    congr 1
    by_cases h2 : k = p
    · subst h2; simp
    · rw [decide_eq_false h2, decide_eq_false (by omega)]
  · rw [List.getD_eq_getElem?_getD, List.getElem?_set_ne (fun e => h e.symm), ← List.getD_eq_getElem?_getD, decide_eq_false (by rintro rfl; exact h rfl), Bool.or_false]
/-- all marks are bits, up to k -/
def al (is : Nat → Bool) (l : List Nat) : Nat → Bool
  | 0 => true
  | k + 1 => al is l k && (!is k || B l k)
theorem al_iff (is : Nat → Bool) (l : List Nat) : ∀ k : Nat, al is l k = true ↔ ∀ j, j < k → is j = true → B l j = true
  | 0 => by simp [al]
  | k + 1 => by
    show (al is l k && (!is k || B l k)) = true ↔ _
    rw [Bool.and_eq_true, al_iff is l k]
    constructor
    · rintro ⟨h1, h2⟩ j hj h3
      rcases Nat.lt_succ_iff_lt_or_eq.1 hj with h | h
      · exact h1 j h h3
      · subst h; rw [h3] at h2; simpa using h2
    · intro h
      refine ⟨fun j hj h3 => h j (by omega) h3, ?_⟩
      cases h4 : is k
      · rfl
      · rw [h k (by omega) h4]; rfl
end Go.Proofs.Ytjbgahmcobcojaa.Blm
