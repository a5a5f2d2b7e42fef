/- Indexes: the code and the reference agree: IndexSays. No condition. -/
import Derived.Test.YtjbgahmcobcojaaDoorWIndexReads
import Derived.Test.YtjbgahmcobcojaaDoorPlBits
import Derived.Test.YtjbgahmcobcojaaDoorPlOrd
namespace Go.Proofs.YtjbgahmcobcojaaDoor.PIx
open Go.RowKit YtjbgahmcobcojaaDoor.En YtjbgahmcobcojaaDoor StrOrd
set_option linter.unusedVariables false
set_option linter.unusedSimpArgs false
abbrev Pl := S_api_Place
def key (p : Pl) : List UInt8 := lA8u8 p.ID
theorem key_inj {a b : A8u8} (h : lA8u8 a = lA8u8 b) : a = b := by
  cases a; cases b
  simpa [lA8u8] using h
def lim : Int := 1099511627776
def perr (p : Pl) : Int := if p.Kind < 1 ∨ 3 < p.Kind then 5 else if p.Pack < 0 ∨ lim < p.Pack ∨ p.At < 0 ∨ lim < p.At ∨ p.Len < 0 ∨ lim < p.Len then 1 else 0
theorem min3 (a b c : Int) : (if c < (if b < a then b else a) then c else (if b < a then b else a)) < 0 ↔ a < 0 ∨ b < 0 ∨ c < 0 := by
  by_cases h : b < a
  · rw [if_pos h]; by_cases h' : c < b
    · rw [if_pos h']; omega
    · rw [if_neg h']; omega
  · rw [if_neg h]; by_cases h' : c < a
    · rw [if_pos h']; omega
    · rw [if_neg h']; omega
theorem max3 (a b c : Int) : (if c > (if b > a then b else a) then c else (if b > a then b else a)) > 1099511627776 ↔ 1099511627776 < a ∨ 1099511627776 < b ∨ 1099511627776 < c := by
  by_cases h : b > a
  · rw [if_pos h]; by_cases h' : c > b
    · rw [if_pos h']; omega
    · rw [if_neg h']; omega
  · rw [if_neg h]; by_cases h' : c > a
    · rw [if_pos h']; omega
    · rw [if_neg h']; omega
theorem ref_place (fu : Nat) (p : Pl) : f_lumref_placeErr fu p = some (perr p) := by
  unfold f_lumref_placeErr f_lumref_kindOK perr lim
  rw [lt_of]
  dsimp only
  have hk : ∀ b : Bool, b = decide (1 ≤ p.Kind ∧ p.Kind ≤ 3) → (opt (some b) fun r3 => bif !r3 then some (5 : Int) else lt (fun j5b24 => bif j5b24 then some 1 else some 0) fun kk6 => bif decide ((if p.Len < (if p.At < p.Pack then p.At else p.Pack) then p.Len else (if p.At < p.Pack then p.At else p.Pack)) < 0) then kk6 true else kk6 (decide ((if p.Len > (if p.At > p.Pack then p.At else p.Pack) then p.Len else (if p.At > p.Pack then p.At else p.Pack)) > 1099511627776)))
      = some (if p.Kind < 1 ∨ 3 < p.Kind then 5 else if p.Pack < 0 ∨ 1099511627776 < p.Pack ∨ p.At < 0 ∨ 1099511627776 < p.At ∨ p.Len < 0 ∨ 1099511627776 < p.Len then 1 else 0) := by
    intro b hb
    rw [opt_of, lt_of]
    by_cases h : 1 ≤ p.Kind ∧ p.Kind ≤ 3
    · rw [hb, decide_eq_true h, cond_ff (show (!true) = false from rfl), if_neg (c := p.Kind < 1 ∨ 3 < p.Kind) (by omega)]
      dsimp only
      by_cases h1 : p.Pack < 0 ∨ p.At < 0 ∨ p.Len < 0
      · rw [cond_tt (decide_eq_true ((min3 p.Pack p.At p.Len).2 h1)), cond_tt rfl, if_pos (by omega)]
      · rw [cond_ff (decide_eq_false (fun h' => h1 ((min3 p.Pack p.At p.Len).1 h')))]
        by_cases h2 : 1099511627776 < p.Pack ∨ 1099511627776 < p.At ∨ 1099511627776 < p.Len
        · rw [decide_eq_true ((max3 p.Pack p.At p.Len).2 h2), cond_tt rfl, if_pos (by omega)]
        · rw [decide_eq_false (fun h' => h2 ((max3 p.Pack p.At p.Len).1 h')), cond_ff rfl, if_neg (by omega)]
    · rw [hb, decide_eq_false h, cond_tt (show (!false) = true from rfl), if_pos (c := p.Kind < 1 ∨ 3 < p.Kind) (by omega)]
  by_cases h1 : p.Kind = 1
  · rw [cond_tt (by simpa using h1)]; exact hk true (by simp [h1])
  · rw [cond_ff (by simpa using h1)]
    by_cases h2 : p.Kind = 2
    · rw [cond_tt (by simpa using h2)]; exact hk true (by simp [h2])
    · rw [cond_ff (by simpa using h2)]
      refine hk _ ?_
      by_cases h3 : p.Kind = 3
      · simp [h3]
      · rw [show (p.Kind == 3) = false by simpa using h3]
        exact (decide_eq_false (by omega)).symm
def inr (x : Int) : Bool := decide (0 ≤ x) && decide (x ≤ lim)
theorem range (fu : Nat) (x : Int) : f_index_inRange fu x = some (inr x) := by
  unfold f_index_inRange inr lim
  rw [lt_of]
  by_cases h : x ≥ 0
  · rw [cond_tt (decide_eq_true h), decide_eq_true (show 0 ≤ x from h)]; rfl
  · rw [cond_ff (decide_eq_false h), decide_eq_false (show ¬ 0 ≤ x from h)]; rfl
theorem known (fu : Nat) (x : Int) : f_pack_Known fu x = some (decide (1 ≤ x) && decide (x ≤ 3)) := by
  unfold f_pack_Known
  rw [lt_of]
  by_cases h : x ≥ 1
  · rw [cond_tt (decide_eq_true h), decide_eq_true (show 1 ≤ x from h)]; rfl
  · rw [cond_ff (decide_eq_false h), decide_eq_false (show ¬ 1 ≤ x from h)]; rfl
theorem inr_tt {x : Int} (h : 0 ≤ x ∧ x ≤ lim) : inr x = true := by unfold inr; rw [decide_eq_true h.1, decide_eq_true h.2]; rfl
theorem inr_ff {x : Int} (h : ¬(0 ≤ x ∧ x ≤ lim)) : inr x = false := by
  unfold inr
  by_cases h0 : 0 ≤ x
  · rw [decide_eq_false (show ¬ x ≤ lim from fun h1 => h ⟨h0, h1⟩)]; simp
  · rw [decide_eq_false h0]; rfl
theorem code_place (fu : Nat) (p : Pl) : f_index_place fu p = some (perr p) := by
  unfold f_index_place perr
  rw [known, opt_of]
  by_cases hk : 1 ≤ p.Kind ∧ p.Kind ≤ 3
  · rw [decide_eq_true hk.1, decide_eq_true hk.2, cond_ff (show (!(true && true)) = false from rfl), lt_of, if_neg (c := p.Kind < 1 ∨ 3 < p.Kind) (by omega), range, range, range, opt_of]
    dsimp only
    by_cases h1 : 0 ≤ p.Pack ∧ p.Pack ≤ lim
    · rw [inr_tt h1, cond_ff (show (!true) = false from rfl), opt_of]
      by_cases h2 : 0 ≤ p.At ∧ p.At ≤ lim
      · rw [inr_tt h2, cond_ff (show (!true) = false from rfl), opt_of]
        by_cases h3 : 0 ≤ p.Len ∧ p.Len ≤ lim
        · rw [inr_tt h3, if_neg (by omega)]; rfl
        · rw [inr_ff h3, if_pos (by omega)]; rfl
      · rw [inr_ff h2, if_pos (by omega)]; rfl
    · rw [inr_ff h1, if_pos (by omega)]; rfl
  · rw [if_pos (c := p.Kind < 1 ∨ 3 < p.Kind) (by omega)]
    by_cases h1 : 1 ≤ p.Kind
    · rw [decide_eq_true h1, decide_eq_false (show ¬ p.Kind ≤ 3 from fun h => hk ⟨h1, h⟩)]; rfl
    · rw [decide_eq_false h1]; rfl
/-! Check -/
def prev (l : List Pl) : Nat → Option Pl
  | 0 => none
  | k + 1 => l[k]?
def late (q : Option Pl) (p : Pl) : Bool := match q with
  | some q => !Op.bytesLess (key q) (key p)
  | none => false
def errs : Option Pl → List Pl → Int
  | _, [] => 0
  | q, p :: ps => if perr p ≠ 0 then perr p else if late q p = true then 4 else errs (some p) ps
def chk (l : List Pl) : Int := if l.length > 400 then 2 else errs none l
theorem cmp_late (a b : List UInt8) : decide (Lib.compareBytes a b ≤ 0) = !Op.bytesLess b a := by
  by_cases h : Op.bytesLess b a = true
  · rw [h, decide_eq_false (fun h' => cmp_le.1 h' h)]; rfl
  · rw [decide_eq_true (cmp_le.2 h)]; simp [h]
theorem ref_loop (l : List Pl) (fu : Nat) (hm : l.length ≤ 400) : ∀ (fuel k : Nat), k ≤ l.length → l.length - k < fuel →
    f_lumref_Index_L6 l (fun _ => some 0) fu fuel (k : Int) = some (errs (prev l k) (l.drop k))
  | 0, k, _, hf => absurd hf (Nat.not_lt_zero _)
  | fuel + 1, k, hk, hf => by
    rw [f_lumref_Index_L6]
    by_cases hlt : k < l.length
    · rw [cond_tt (dlt (by omega)), at_lt hlt, opt_of, ref_place, opt_of, List.drop_eq_getElem_cons hlt, wsucc (by omega), lt_of]
      dsimp only
      rw [ref_loop l fu hm fuel (k + 1) (by omega) (by omega), errs]
      by_cases h0 : perr l[k] = 0
      · rw [cond_ff (by simp [h0]), if_neg (fun h => h h0), show prev l (k + 1) = some l[k] from List.getElem?_eq_getElem hlt]
        cases k with
        | zero => rw [cond_ff (by simp)]; rfl
        | succ k =>
          rw [cond_tt (decide_eq_true (by omega)), show IntKind.i64.wrap (((k + 1 : Nat) : Int) - 1) = (k : Int) by rw [w64 (by omega) (by omega)]; omega, at_lt (show k < l.length by omega), opt_of,
            show prev l (k + 1) = some l[k] from List.getElem?_eq_getElem (by omega)]
          show (bif !Op.bytesLess (key l[k]) (key l[k + 1]) then _ else _) = some (if (!Op.bytesLess (key l[k]) (key l[k + 1])) = true then _ else _)
          cases Op.bytesLess (key l[k]) (key l[k + 1]) <;> rfl
      · rw [cond_tt (by simpa using h0), if_pos h0]
    · rw [cond_ff (dge (by omega)), List.drop_of_length_le (by omega)]; rfl
theorem compare (fu : Nat) (a b : A8u8) : f_index_Compare fu a b = some (Lib.compareBytes (lA8u8 a) (lA8u8 b)) := rfl
theorem code_loop (l : List Pl) (fu : Nat) (hm : l.length ≤ 400) : ∀ (fuel k : Nat), k ≤ l.length → l.length - k < fuel →
    f_index_Check_L6 l (fun _ => some 0) fu fuel (k : Int) = some (errs (prev l k) (l.drop k))
  | 0, k, _, hf => absurd hf (Nat.not_lt_zero _)
  | fuel + 1, k, hk, hf => by
    rw [f_index_Check_L6]
    by_cases hlt : k < l.length
    · rw [cond_tt (dlt (by omega)), at_lt hlt, opt_of, code_place, opt_of, List.drop_eq_getElem_cons hlt, wsucc (by omega), lt_of]
      dsimp only
      rw [code_loop l fu hm fuel (k + 1) (by omega) (by omega), errs]
      by_cases h0 : perr l[k] = 0
      · rw [cond_ff (by simp [h0]), if_neg (fun h => h h0), show prev l (k + 1) = some l[k] from List.getElem?_eq_getElem hlt]
        cases k with
        | zero => rw [cond_ff (by simp)]; rfl
        | succ k =>
          rw [cond_tt (decide_eq_true (by omega)), show IntKind.i64.wrap (((k + 1 : Nat) : Int) - 1) = (k : Int) by rw [w64 (by omega) (by omega)]; omega, at_lt (show k < l.length by omega), opt_of, compare, opt_of, cmp_late,
            show prev l (k + 1) = some l[k] from List.getElem?_eq_getElem (by omega)]
          show (bif !Op.bytesLess (key l[k]) (key l[k + 1]) then _ else _) = some (if (!Op.bytesLess (key l[k]) (key l[k + 1])) = true then _ else _)
          cases Op.bytesLess (key l[k]) (key l[k + 1]) <;> rfl
      · rw [cond_tt (by simpa using h0), if_pos h0]
    · rw [cond_ff (dge (by omega)), List.drop_of_length_le (by omega)]; rfl
theorem ref_any (l : List Pl) (fu : Nat) (hf : 500 ≤ fu) : f_lumref_Index fu l = some (chk l) := by
  unfold f_lumref_Index chk
  by_cases h : l.length > 400
  · rw [cond_tt (decide_eq_true (by omega)), if_pos h]
  · rw [cond_ff (decide_eq_false (by omega)), if_neg h, lt_of]
    exact ref_loop l fu (by omega) fu 0 (by omega) (by omega)
theorem code_any (l : List Pl) (fu : Nat) (hf : 500 ≤ fu) : f_index_Check fu l = some (chk l) := by
  unfold f_index_Check chk
  by_cases h : l.length > 400
  · rw [cond_tt (decide_eq_true (by omega)), if_pos h]
  · rw [cond_ff (decide_eq_false (by omega)), if_neg h, lt_of]
    exact code_loop l fu (by omega) fu 0 (by omega) (by omega)
/-! sorted -/
abbrev Srt (l : List Pl) : Prop := l.Pairwise fun a b => L (key a) (key b)
end Go.Proofs.YtjbgahmcobcojaaDoor.PIx
