/- Indexes: the code and the reference agree: IndexSays. No condition. -/
import Derived.Test.YthcmjcnilhglmaaWIndexSays
import Derived.Test.YthcmjcnilhglmaaPlBits
import Derived.Test.YthcmjcnilhglmaaPlOrd
namespace Go.Proofs.Ythcmjcnilhglmaa.PIndexSays
open Go.RowKit Ythcmjcnilhglmaa.En Ythcmjcnilhglmaa StrOrd
set_option linter.unusedVariables false
set_option linter.unusedSimpArgs false
abbrev Pl := S_api_Place
def key (p : Pl) : List UInt8 := lA8u8 p.ID
theorem key_inj {a b : A8u8} (h : lA8u8 a = lA8u8 b) : a = b := by
  cases a; cases b
  simpa [lA8u8] using h
def lim : Int := 1099511627776
def perr (p : Pl) : Int := if p.Kind < 1 ∨ 3 < p.Kind then 5 else if p.Pack < 0 ∨ lim < p.Pack ∨ p.At < 0 ∨ lim < p.At ∨ p.Len < 0 ∨ lim < p.Len then 1 else 0
theorem min3 (a b c : Int) : (if c < (if b < a then b else a) then c else (if b < a then b else a)) < 0 ↔ a < 0 ∨ b < 0 ∨ c < 0 := by
  by_cases h : b < a
  · rw [if_pos h]; by_cases h' : c < b
    · rw [if_pos h']; omega
    · rw [if_neg h']; omega
  · rw [if_neg h]; by_cases h' : c < a
    · rw [if_pos h']; omega
    · rw [if_neg h']; omega
theorem max3 (a b c : Int) : (if c > (if b > a then b else a) then c else (if b > a then b else a)) > 1099511627776 ↔ 1099511627776 < a ∨ 1099511627776 < b ∨ 1099511627776 < c := by
  by_cases h : b > a
  · rw [if_pos h]; by_cases h' : c > b
    · rw [if_pos h']; omega
    · rw [if_neg h']; omega
  · rw [if_neg h]; by_cases h' : c > a
    · rw [if_pos h']; omega
    · rw [if_neg h']; omega
theorem ref_place (fu : Nat) (p : Pl) : f_lumref_placeErr fu p = some (perr p) := by
  unfold f_lumref_placeErr f_lumref_kindOK perr lim
  rw [lt_of]
  dsimp only
  have hk : ∀ b : Bool, b = decide (1 ≤ p.Kind ∧ p.Kind ≤ 3) → (opt (some b) fun r3 => bif !r3 then some (5 : Int) else lt (fun j5b24 => bif j5b24 then some 1 else some 0) fun kk6 => bif decide ((if p.Len < (if p.At < p.Pack then p.At else p.Pack) then p.Len else (if p.At < p.Pack then p.At else p.Pack)) < 0) then kk6 true else kk6 (decide ((if p.Len > (if p.At > p.Pack then p.At else p.Pack) then p.Len else (if p.At > p.Pack then p.At else p.Pack)) > 1099511627776)))
      = some (if p.Kind < 1 ∨ 3 < p.Kind then 5 else if p.Pack < 0 ∨ 1099511627776 < p.Pack ∨ p.At < 0 ∨ 1099511627776 < p.At ∨ p.Len < 0 ∨ 1099511627776 < p.Len then 1 else 0) := by
    intro b hb
    rw [opt_of, lt_of]
    by_cases h : 1 ≤ p.Kind ∧ p.Kind ≤ 3
    · rw [hb, decide_eq_true h, cond_ff (show (!true) = false from rfl), if_neg (c := p.Kind < 1 ∨ 3 < p.Kind) (by omega)]
      dsimp only
      by_cases h1 : p.Pack < 0 ∨ p.At < 0 ∨ p.Len < 0
      · rw [cond_tt (decide_eq_true ((min3 p.Pack p.At p.Len).2 h1)), cond_tt rfl, if_pos (by omega)]
      · rw [cond_ff (decide_eq_false (fun h' => h1 ((min3 p.Pack p.At p.Len).1 h')))]
        by_cases h2 : 1099511627776 < p.Pack ∨ 1099511627776 < p.At ∨ 1099511627776 < p.Len
        · rw [decide_eq_true ((max3 p.Pack p.At p.Len).2 h2), cond_tt rfl, if_pos (by omega)]
        · rw [decide_eq_false (fun h' => h2 ((max3 p.Pack p.At p.Len).1 h')), cond_ff rfl, if_neg (by omega)]
    · rw [hb, decide_eq_false h, cond_tt (show (!false) = true from rfl), if_pos (c := p.Kind < 1 ∨ 3 < p.Kind) (by omega)]
  by_cases h1 : p.Kind = 1
  · rw [cond_tt (by simpa using h1)]; exact hk true (by simp [h1])
  · rw [cond_ff (by simpa using h1)]
    by_cases h2 : p.Kind = 2
    · rw [cond_tt (by simpa using h2)]; exact hk true (by simp [h2])
    · rw [cond_ff (by simpa using h2)]
      refine hk _ ?_
      by_cases h3 : p.Kind = 3
      · simp [h3]
      · rw [show (p.Kind == 3) = false by simpa using h3]
        exact (decide_eq_false (by omega)).symm
def inr (x : Int) : Bool := decide (0 ≤ x) && decide (x ≤ lim)
theorem range (fu : Nat) (x : Int) : f_index_inRange fu x = some (inr x) := by
  unfold f_index_inRange inr lim
  rw [lt_of]
  by_cases h : x ≥ 0
  · rw [cond_tt (decide_eq_true h), decide_eq_true (show 0 ≤ x from h)]; rfl
  · rw [cond_ff (decide_eq_false h), decide_eq_false (show ¬ 0 ≤ x from h)]; rfl
theorem known (fu : Nat) (x : Int) : f_pack_Known fu x = some (decide (1 ≤ x) && decide (x ≤ 3)) := by
  unfold f_pack_Known
  rw [lt_of]
  by_cases h : x ≥ 1
  · rw [cond_tt (decide_eq_true h), decide_eq_true (show 1 ≤ x from h)]; rfl
  · rw [cond_ff (decide_eq_false h), decide_eq_false (show ¬ 1 ≤ x from h)]; rfl
theorem inr_tt {x : Int} (h : 0 ≤ x ∧ x ≤ lim) : inr x = true := by unfold inr; rw [decide_eq_true h.1, decide_eq_true h.2]; rfl
theorem inr_ff {x : Int} (h : ¬(0 ≤ x ∧ x ≤ lim)) : inr x = false := by
  unfold inr
  by_cases h0 : 0 ≤ x
  · rw [decide_eq_false (show ¬ x ≤ lim from fun h1 => h ⟨h0, h1⟩)]; simp
  · rw [decide_eq_false h0]; rfl
theorem code_place (fu : Nat) (p : Pl) : f_index_place fu p = some (perr p) := by
  unfold f_index_place perr
  rw [known, opt_of]
  by_cases hk : 1 ≤ p.Kind ∧ p.Kind ≤ 3
  · rw [decide_eq_true hk.1, decide_eq_true hk.2, cond_ff (show (!(true && true)) = false from rfl), lt_of, if_neg (c := p.Kind < 1 ∨ 3 < p.Kind) (by omega), range, range, range, opt_of]
    dsimp only
    by_cases h1 : 0 ≤ p.Pack ∧ p.Pack ≤ lim
    · rw [inr_tt h1, cond_ff (show (!true) = false from rfl), opt_of]
      by_cases h2 : 0 ≤ p.At ∧ p.At ≤ lim
      · rw [inr_tt h2, cond_ff (show (!true) = false from rfl), opt_of]
        by_cases h3 : 0 ≤ p.Len ∧ p.Len ≤ lim
        · rw [inr_tt h3, if_neg (by omega)]; rfl
        · rw [inr_ff h3, if_pos (by omega)]; rfl
      · rw [inr_ff h2, if_pos (by omega)]; rfl
    · rw [inr_ff h1, if_pos (by omega)]; rfl
  · rw [if_pos (c := p.Kind < 1 ∨ 3 < p.Kind) (by omega)]
    by_cases h1 : 1 ≤ p.Kind
    · rw [decide_eq_true h1, decide_eq_false (show ¬ p.Kind ≤ 3 from fun h => hk ⟨h1, h⟩)]; rfl
    · rw [decide_eq_false h1]; rfl
/-! Check -/
def prev (l : List Pl) : Nat → Option Pl
  | 0 => none
  | k + 1 => l[k]?
def late (q : Option Pl) (p : Pl) : Bool := match q with
  | some q => !Op.bytesLess (key q) (key p)
  | none => false
def errs : Option Pl → List Pl → Int
  | _, [] => 0
  | q, p :: ps => if perr p ≠ 0 then perr p else if late q p = true then 4 else errs (some p) ps
def chk (l : List Pl) : Int := if l.length > 400 then 2 else errs none l
theorem cmp_late (a b : List UInt8) : decide (Lib.compareBytes a b ≤ 0) = !Op.bytesLess b a := by
  by_cases h : Op.bytesLess b a = true
  · rw [h, decide_eq_false (fun h' => cmp_le.1 h' h)]; rfl
  · rw [decide_eq_true (cmp_le.2 h)]; simp [h]
theorem ref_loop (l : List Pl) (fu : Nat) (hm : l.length ≤ 400) : ∀ (fuel k : Nat), k ≤ l.length → l.length - k < fuel →
    f_lumref_Index_L6 l (fun _ => some 0) fu fuel (k : Int) = some (errs (prev l k) (l.drop k))
  | 0, k, _, hf => absurd hf (Nat.not_lt_zero _)
  | fuel + 1, k, hk, hf => by
    rw [f_lumref_Index_L6]
    by_cases hlt : k < l.length
    · rw [cond_tt (dlt (by omega)), at_lt hlt, opt_of, ref_place, opt_of, List.drop_eq_getElem_cons hlt, wsucc (by omega), lt_of]
      dsimp only
      rw [ref_loop l fu hm fuel (k + 1) (by omega) (by omega), errs]
      by_cases h0 : perr l[k] = 0
      · rw [cond_ff (by simp [h0]), if_neg (fun h => h h0), show prev l (k + 1) = some l[k] from List.getElem?_eq_getElem hlt]
        cases k with
        | zero => rw [cond_ff (by simp)]; rfl
        | succ k =>
          rw [cond_tt (decide_eq_true (by omega)), show IntKind.i64.wrap (((k + 1 : Nat) : Int) - 1) = (k : Int) by rw [w64 (by omega) (by omega)]; omega, at_lt (show k < l.length by omega), opt_of,
            show prev l (k + 1) = some l[k] from List.getElem?_eq_getElem (by omega)]
          show (bif !Op.bytesLess (key l[k]) (key l[k + 1]) then _ else _) = some (if (!Op.bytesLess (key l[k]) (key l[k + 1])) = true then _ else _)
          cases Op.bytesLess (key l[k]) (key l[k + 1]) <;> rfl
      · rw [cond_tt (by simpa using h0), if_pos h0]
    · rw [cond_ff (dge (by omega)), List.drop_of_length_le (by omega)]; rfl
theorem compare (fu : Nat) (a b : A8u8) : f_index_Compare fu a b = some (Lib.compareBytes (lA8u8 a) (lA8u8 b)) := rfl
theorem code_loop (l : List Pl) (fu : Nat) (hm : l.length ≤ 400) : ∀ (fuel k : Nat), k ≤ l.length → l.length - k < fuel →
    f_index_Check_L6 l (fun _ => some 0) fu fuel (k : Int) = some (errs (prev l k) (l.drop k))
  | 0, k, _, hf => absurd hf (Nat.not_lt_zero _)
  | fuel + 1, k, hk, hf => by
    rw [f_index_Check_L6]
    by_cases hlt : k < l.length
    · rw [cond_tt (dlt (by omega)), at_lt hlt, opt_of, code_place, opt_of, List.drop_eq_getElem_cons hlt, wsucc (by omega), lt_of]
      dsimp only
      rw [code_loop l fu hm fuel (k + 1) (by omega) (by omega), errs]
      by_cases h0 : perr l[k] = 0
      · rw [cond_ff (by simp [h0]), if_neg (fun h => h h0), show prev l (k + 1) = some l[k] from List.getElem?_eq_getElem hlt]
        cases k with
        | zero => rw [cond_ff (by simp)]; rfl
        | succ k =>
          rw [cond_tt (decide_eq_true (by omega)), show IntKind.i64.wrap (((k + 1 : Nat) : Int) - 1) = (k : Int) by rw [w64 (by omega) (by omega)]; omega, at_lt (show k < l.length by omega), opt_of, compare, opt_of, cmp_late,
            show prev l (k + 1) = some l[k] from List.getElem?_eq_getElem (by omega)]
          show (bif !Op.bytesLess (key l[k]) (key l[k + 1]) then _ else _) = some (if (!Op.bytesLess (key l[k]) (key l[k + 1])) = true then _ else _)
          cases Op.bytesLess (key l[k]) (key l[k + 1]) <;> rfl
      · rw [cond_tt (by simpa using h0), if_pos h0]
    · rw [cond_ff (dge (by omega)), List.drop_of_length_le (by omega)]; rfl
theorem ref_any (l : List Pl) (fu : Nat) (hf : 500 ≤ fu) : f_lumref_Index fu l = some (chk l) := by
  unfold f_lumref_Index chk
  by_cases h : l.length > 400
  · rw [cond_tt (decide_eq_true (by omega)), if_pos h]
  · rw [cond_ff (decide_eq_false (by omega)), if_neg h, lt_of]
    exact ref_loop l fu (by omega) fu 0 (by omega) (by omega)
theorem code_any (l : List Pl) (fu : Nat) (hf : 500 ≤ fu) : f_index_Check fu l = some (chk l) := by
  unfold f_index_Check chk
  by_cases h : l.length > 400
  · rw [cond_tt (decide_eq_true (by omega)), if_pos h]
  · rw [cond_ff (decide_eq_false (by omega)), if_neg h, lt_of]
    exact code_loop l fu (by omega) fu 0 (by omega) (by omega)
/-! sorted -/
abbrev Srt (l : List Pl) : Prop := l.Pairwise fun a b => L (key a) (key b)
theorem errs_step {q : Option Pl} {y : Pl} {ys : List Pl} (h : errs q (y :: ys) = 0) : late q y = false ∧ errs (some y) ys = 0 := by
  unfold errs at h
  by_cases h0 : perr y = 0
  · rw [if_neg (fun h => h h0)] at h
    by_cases h1 : late q y = true
    · rw [if_pos h1] at h; cases h
    · rw [if_neg h1] at h; exact ⟨by simpa using h1, h⟩
  · rw [if_pos h0] at h; exact absurd h h0
theorem errs_sorted : ∀ (ps : List Pl) (p : Pl), errs (some p) ps = 0 → (∀ x ∈ ps, L (key p) (key x)) ∧ Srt ps
  | [], p, _ => ⟨by simp, .nil⟩
  | y :: ys, p, h => by
    obtain ⟨h1, h2⟩ := errs_step h
    obtain ⟨h3, h4⟩ := errs_sorted ys y h2
    have hpy : L (key p) (key y) := by simpa [late] using h1
    refine ⟨fun x hx => ?_, .cons h3 h4⟩
    rcases List.mem_cons.1 hx with rfl | hx
    · exact hpy
    · exact trans hpy (h3 x hx)
theorem chk_sorted {l : List Pl} (h : chk l = 0) : l.length ≤ 400 ∧ Srt l := by
  unfold chk at h
  by_cases h1 : l.length > 400
  · rw [if_pos h1] at h; cases h
  · rw [if_neg h1] at h
    refine ⟨by omega, ?_⟩
    cases l with
    | nil => exact .nil
    | cons y ys => exact .cons (errs_sorted ys y (errs_step h).2).1 (errs_sorted ys y (errs_step h).2).2
theorem srt_lt {l : List Pl} (h : Srt l) {i j : Nat} (hij : i < j) (hj : j < l.length) : L (key (l[i]'(by omega))) (key l[j]) := List.pairwise_iff_getElem.1 h i j (by omega) hj hij
/-! the search -/
theorem find1 (fu : Nat) (p : Pl) (a : A8u8) : f_index_Find_1 fu p a = some (Lib.compareBytes (key p) (lA8u8 a)) := rfl
theorem mid {lo hi : Nat} (h : lo ≤ hi) (hm : hi ≤ 400) : IntKind.i64.wrap (((IntKind.u64.wrap (IntKind.i64.wrap ((lo : Int) + (hi : Int))))).fdiv (2 ^ min ((1 : Int)).toNat (IntKind.bits .u64))) = (((lo + hi) / 2 : Nat) : Int) := by
  rw [w64 (x := (lo : Int) + (hi : Int)) (by omega) (by omega), show (lo : Int) + (hi : Int) = ((lo + hi : Nat) : Int) by omega, IntKind.wrap_u64, Int.emod_eq_of_lt (by omega) (by omega), shr_nat (m := 1) (j := 1) rfl (by decide), w64 (by omega) (by omega)]
theorem bs_loop (l : List Pl) (a : A8u8) (kk : Int → Option (Int × Bool)) (fu : Nat) (hs : Srt l) (hm : l.length ≤ 400) : ∀ (fuel lo hi : Nat), lo ≤ hi → hi ≤ l.length → hi - lo < fuel →
    (∀ (i : Nat) (h : i < l.length), i < lo → L (key l[i]) (lA8u8 a)) → (∀ (i : Nat) (h : i < l.length), hi ≤ i → ¬ L (key l[i]) (lA8u8 a)) →
    ∃ r : Nat, r ≤ l.length ∧ f_slices_BinarySearchFunc___api_Place_api_Place_api_ID__F88_L14 l a kk fu fuel (lo : Int) (hi : Int) = kk (r : Int) ∧ (∀ (i : Nat) (h : i < l.length), i < r → L (key l[i]) (lA8u8 a)) ∧ (∀ (i : Nat) (h : i < l.length), r ≤ i → ¬ L (key l[i]) (lA8u8 a))
  | 0, _, _, _, _, hf, _, _ => absurd hf (Nat.not_lt_zero _)
  | fuel + 1, lo, hi, hlh, hh, hf, h1, h2 => by
    rw [f_slices_BinarySearchFunc___api_Place_api_Place_api_ID__F88_L14]
    by_cases hlt : lo < hi
    · have hmid : (lo + hi) / 2 < l.length := by omega
      rw [cond_tt (dlt (by omega)), mid hlh (by omega), at_lt hmid, opt_of, find1, opt_of]
      by_cases hc : L (key l[(lo + hi) / 2]) (lA8u8 a)
      · rw [cond_tt (decide_eq_true (cmp_neg.2 hc)), wsucc (by omega)]
        refine bs_loop l a kk fu hs hm fuel _ hi (by omega) hh (by omega) (fun i h hi' => ?_) h2
        by_cases e : i = (lo + hi) / 2
        · subst e; exact hc
        · exact trans (srt_lt hs (by omega) hmid) hc
      · rw [cond_ff (decide_eq_false (fun h => hc (cmp_neg.1 h)))]
        refine bs_loop l a kk fu hs hm fuel lo _ (by omega) (by omega) (by omega) h1 (fun i h hi' hL => ?_)
        by_cases e : i = (lo + hi) / 2
        · subst e; exact hc hL
        · exact hc (trans (srt_lt hs (by omega) h) hL)
    · obtain rfl : lo = hi := by omega
      rw [cond_ff (dge (by omega))]
      exact ⟨lo, hh, rfl, h1, h2⟩
theorem bs_any (l : List Pl) (a : A8u8) (fu : Nat) (hf : 500 ≤ fu) (hs : Srt l) (hm : l.length ≤ 400) :
    (∃ (r : Nat) (h : r < l.length), l[r].ID = a ∧ f_slices_BinarySearchFunc___api_Place_api_Place_api_ID__F88 fu l a = some ((r : Int), true)) ∨ ((∀ (i : Nat) (h : i < l.length), l[i].ID ≠ a) ∧ ∃ r : Int, f_slices_BinarySearchFunc___api_Place_api_Place_api_ID__F88 fu l a = some (r, false)) := by
  unfold f_slices_BinarySearchFunc___api_Place_api_Place_api_ID__F88
  rw [lt_of]
  obtain ⟨r, hr, he, h1, h2⟩ := bs_loop l a (fun (j2i9 : Int) => (lt (fun (j4b7 : Bool) => (some (j2i9, j4b7))) fun (kk5 : Bool → Option (Int × Bool)) => (bif (decide (j2i9 < (l.length : Int))) then (opt (at? l j2i9) fun (u7 : S_api_Place) => (opt (f_index_Find_1 fu u7 a) fun (r11 : Int) => (kk5 (r11 == (0 : Int))))) else (kk5 false)))) fu hs hm fu 0 l.length (by omega) (Nat.le_refl _) (by omega) (fun i h hi => absurd hi (Nat.not_lt_zero _)) (fun i h hi => by omega)
  rw [show ((0 : Nat) : Int) = 0 from rfl] at he
  rw [he, lt_of]
  by_cases hlt : r < l.length
  · rw [cond_tt (dlt (by omega)), at_lt hlt, opt_of, find1, opt_of]
    by_cases hz : key l[r] = lA8u8 a
    · left
      exact ⟨r, hlt, key_inj hz, by rw [cmp_zero.2 hz]; rfl⟩
    · right
      refine ⟨fun i h e => ?_, r, by rw [show (Lib.compareBytes (key l[r]) (lA8u8 a) == 0) = false by simpa using fun h => hz (cmp_zero.1 h)]⟩
      have hk : key l[i] = lA8u8 a := by unfold key; rw [e]
      rcases Nat.lt_trichotomy i r with hi | rfl | hi
      · have := h1 i h hi; rw [hk] at this; exact irr _ this
      · exact hz hk
      · have := srt_lt hs hi h
        rw [hk] at this
        exact h2 r hlt (Nat.le_refl _) this
  · right
    rw [cond_ff (dge (by omega))]
    refine ⟨fun i h e => ?_, r, rfl⟩
    have hk : key l[i] = lA8u8 a := by unfold key; rw [e]
    have := h1 i h (by omega)
    rw [hk] at this
    exact irr _ this
theorem idx_loop (l : List Pl) (a : A8u8) (fu : Nat) (hm : l.length ≤ 400) : ∀ (fuel k : Nat), k ≤ l.length → l.length - k < fuel → (∀ (i : Nat) (h : i < l.length), i < k → l[i].ID ≠ a) →
    (∃ (r : Nat) (h : r < l.length), l[r].ID = a ∧ f_slices_IndexFunc___api_Place_api_Place__F44_L5 l a (fun _ => some (-1)) fu fuel (k : Int) = some (r : Int)) ∨ ((∀ (i : Nat) (h : i < l.length), l[i].ID ≠ a) ∧ f_slices_IndexFunc___api_Place_api_Place__F44_L5 l a (fun _ => some (-1)) fu fuel (k : Int) = some (-1))
  | 0, k, _, hf, _ => absurd hf (Nat.not_lt_zero _)
  | fuel + 1, k, hk, hf, hall => by
    rw [f_slices_IndexFunc___api_Place_api_Place__F44_L5]
    by_cases hlt : k < l.length
    · rw [cond_tt (dlt (by omega)), at_lt hlt, opt_of]
      unfold f_lumlaw_IndexSays_1
      rw [opt_of]
      by_cases he : l[k].ID = a
      · rw [cond_tt (by simpa using he)]; exact .inl ⟨k, hlt, he, rfl⟩
      · rw [cond_ff (by simpa using he), wsucc (by omega)]
        refine idx_loop l a fu hm fuel (k + 1) (by omega) (by omega) (fun i h hi => ?_)
        by_cases e : i = k
        · subst e; exact he
        · exact hall i h (by omega)
    · rw [cond_ff (dge (by omega))]
      exact .inr ⟨fun i h => hall i h (by omega), rfl⟩
theorem uniq {l : List Pl} (hs : Srt l) {i j : Nat} (hi : i < l.length) (hj : j < l.length) (h : l[i].ID = l[j].ID) : i = j := by
  have hk : key l[i] = key l[j] := by unfold key; rw [h]
  rcases Nat.lt_trichotomy i j with h1 | h1 | h1
  · have := srt_lt hs h1 hj; rw [hk] at this; exact absurd this (irr _)
  · exact h1
  · have := srt_lt hs h1 hi; rw [hk] at this; exact absurd this (irr _)
def zero : Pl := S_api_Place.mk (A8u8.mk 0 0 0 0 0 0 0 0) 0 0 0 0
theorem find_any (l : List Pl) (a : A8u8) (fu : Nat) (hf : 500 ≤ fu) :
    (chk l ≠ 0 ∧ f_index_Find fu l a = some (zero, chk l)) ∨ (chk l = 0 ∧ ((∃ (r : Nat) (h : r < l.length), l[r].ID = a ∧ f_index_Find fu l a = some (l[r], 0)) ∨ ((∀ (i : Nat) (h : i < l.length), l[i].ID ≠ a) ∧ f_index_Find fu l a = some (zero, 9)))) := by
  unfold f_index_Find
  rw [code_any l fu hf, opt_of]
  by_cases hz : chk l = 0
  · right
    obtain ⟨hm, hs⟩ := chk_sorted hz
    rw [cond_ff (by simp [hz])]
    refine ⟨hz, ?_⟩
    rcases bs_any l a fu hf hs hm with ⟨r, h, he, hr⟩ | ⟨hn, r, hr⟩
    · left; refine ⟨r, h, he, ?_⟩
      rw [hr, opt_of, cond_ff (by rfl)]
      dsimp only
      rw [at_lt h]; rfl
    · right; refine ⟨hn, ?_⟩
      rw [hr, opt_of, cond_tt (by rfl)]; rfl
  · left
    rw [cond_tt (by simpa using hz)]
    exact ⟨hz, rfl⟩
def fuel (_ : List Pl) (_ : A8u8) : Nat := 1000
theorem says (l : List Pl) (a : A8u8) (ok0 : okL (fun y => okS_api_Place y) l) (_ : okA8u8 a) : f_lumlaw_IndexSays (fuel l a) l a = some true := by
  unfold f_lumlaw_IndexSays fuel
  have hz0 : (Lit.int .i64 (0 : Int)).wf = true := by decide
  have hw : ∀ (r : Nat) (h : r < l.length), (Lit.int .i64 l[r].Kind).wf = true ∧ (Lit.int .i64 l[r].Pack).wf = true ∧ (Lit.int .i64 l[r].At).wf = true ∧ (Lit.int .i64 l[r].Len).wf = true := fun r h => (ok0.2 _ (List.getElem_mem h)).2
  rw [ref_any l 1000 (by omega), opt_of]
  rcases find_any l a 1000 (by omega) with ⟨hz, hr⟩ | ⟨hz, ⟨r, h, he, hr⟩ | ⟨hn, hr⟩⟩
  · rw [hr, opt_of, code_any l 1000 (by omega), lt_of, cond_ff (by simpa using hz)]
    simp [zero, hz0]
  · have hm := (chk_sorted hz).1
    rw [hr, opt_of, code_any l 1000 (by omega), lt_of, cond_tt (by simpa using hz)]
    unfold f_slices_IndexFunc___api_Place_api_Place__F44
    rw [lt_of]
    rcases idx_loop l a 1000 hm 1000 0 (by omega) (by omega) (fun i h hi => absurd hi (Nat.not_lt_zero _)) with ⟨q, hq, hqe, hqr⟩ | ⟨hno, _⟩
    · obtain rfl := uniq (chk_sorted hz).2 h hq (he.trans hqe.symm)
      rw [show (0 : Int) = ((0 : Nat) : Int) from rfl] 
      obtain ⟨w1, w2, w3, w4⟩ := hw r h
      rw [hqr, opt_of, cond_ff (decide_eq_false (by omega)), at_lt h, opt_of, hz]
      simp [w1, w2, w3, w4]
    · exact absurd he (hno r h)
  · have hm := (chk_sorted hz).1
    rw [hr, opt_of, code_any l 1000 (by omega), lt_of, cond_tt (by simpa using hz)]
    unfold f_slices_IndexFunc___api_Place_api_Place__F44
    rw [lt_of]
    rcases idx_loop l a 1000 hm 1000 0 (by omega) (by omega) (fun i h hi => absurd hi (Nat.not_lt_zero _)) with ⟨q, hq, hqe, _⟩ | ⟨_, hqr⟩
    · exact absurd hqe (hn q hq)
    · rw [show ((0 : Nat) : Int) = 0 from rfl] at hqr
      rw [hqr, opt_of, cond_tt (by rfl), hz]
      simp [zero, hz0]
end Go.Proofs.Ythcmjcnilhglmaa.PIndexSays
