/- Tokens: check, expand, pack and read: the code and the reference agree: LzSays. No condition. -/
import Derived.Test.YtgmggcpceemnnaaWPackOnes
import Derived.Test.YtgmggcpceemnnaaPlBits
namespace Go.Proofs.Ytgmggcpceemnnaa.PLzSays
open Go.RowKit Ytgmggcpceemnnaa.En Ytgmggcpceemnnaa
set_option linter.unusedVariables false
set_option linter.unusedSimpArgs false
abbrev T := S_api_Token
def okS_api_Token (x : S_api_Token) : Prop := ((Lit.int .u8 x.Lit).wf = true) ∧ ((Lit.int .i64 x.Len).wf = true) ∧ ((Lit.int .i64 x.Dist).wf = true)
theorem iw {n : Nat} (h : n ≤ 1000000) : IntKind.i64.wrap (n : Int) = (n : Int) := w64 (by omega) (by omega)
def fB (t : T) : Bool := if t.Len = 0 then decide (t.Dist = 0) else (decide (t.Lit = 0) && (decide (1 ≤ t.Len) && (decide (t.Len ≤ 255) && (decide (1 ≤ t.Dist) && decide (t.Dist ≤ 1024)))))
theorem formed_ok (t : T) (fu : Nat) : f_lz_formed fu t = some (fB t) := by
  unfold f_lz_formed fB
  by_cases h : t.Len = 0
  · rw [cond_tt (by simp [h]), if_pos h]; rfl
  · rw [cond_ff (by simpa using h), if_neg h, lt_of]
    by_cases h1 : t.Lit = 0
    · rw [cond_tt (by simp [h1]), decide_eq_true h1]
      show (bif decide (1 ≤ t.Len) then _ else _) = _
      cases decide (1 ≤ t.Len) <;> cases h3 : decide (t.Len ≤ 255) <;> cases h4 : decide (1 ≤ t.Dist) <;> first | rfl | (simp only [ge_iff_le, h3, h4]; rfl)
    · rw [cond_ff (by simpa using h1), decide_eq_false h1]; rfl
theorem form_ok (t : T) (fu : Nat) : f_lumref_tokenForm fu t = some (fB t) := by
  unfold f_lumref_tokenForm fB
  rw [lt_of]
  by_cases h : t.Len = 0
  · rw [cond_tt (by simp [h]), if_pos h]
    dsimp only
    rw [lt_of]
    have e : decide (1 ≤ t.Len) = false := decide_eq_false (by omega)
    have e2 : (t.Dist == 0) = decide (t.Dist = 0) := by by_cases hd : t.Dist = 0 <;> simp [hd]
    rw [e, e2]
    by_cases h1 : t.Lit = 0
    · rw [cond_tt (by simp [h1]), cond_ff rfl]; cases decide (t.Dist = 0) <;> rfl
    · rw [cond_ff (by simpa using h1)]; cases decide (t.Dist = 0) <;> rfl
  · rw [cond_ff (by simpa using h), if_neg h]
    dsimp only
    rw [lt_of]
    by_cases h1 : t.Lit = 0
    · rw [cond_tt (by simp [h1]), decide_eq_true h1]
      cases decide (1 ≤ t.Len) <;> cases decide (t.Len ≤ 255) <;> cases decide (1 ≤ t.Dist) <;> cases decide (t.Dist ≤ 1024) <;> rfl
    · rw [cond_ff (by simpa using h1), decide_eq_false h1]; rfl
def chk (l : List T) : Int := if 4096 < l.length then 2 else if l.all fB then 0 else 4
theorem lz_Check_loop (l : List T) (hl : l.length ≤ 4096) (kk : Unit → Option Int) (fu : Nat) : ∀ (fuel k : Nat), k ≤ l.length → l.length - k < fuel → f_lz_Check_L6 l kk fu fuel (k : Int) = if (l.drop k).all fB then kk () else some 4
  | 0, k, _, hf => absurd hf (Nat.not_lt_zero _)
  | fuel + 1, k, hk, hf => by
    rw [f_lz_Check_L6]
    by_cases hlt : k < l.length
    · rw [cond_tt (dlt (by omega)), at_lt hlt, opt_of, formed_ok, opt_of, List.drop_eq_getElem_cons hlt, List.all_cons]
      cases hf : fB l[k] with
      | true => rw [cond_ff (show (!true) = false from rfl), wsucc (by omega), lz_Check_loop l hl kk fu fuel (k + 1) hlt (by omega), Bool.true_and]
      | false => rw [cond_tt (show (!false) = true from rfl), Bool.false_and, if_neg (by simp)]
    · rw [cond_ff (dge (by omega)), List.drop_of_length_le (by omega)]; rfl
theorem lz_Check_ok (l : List T) (fu : Nat) (hf : 5000 ≤ fu) : f_lz_Check fu l = some (chk l) := by
  unfold f_lz_Check chk
  by_cases h : 4096 < l.length
  · rw [cond_tt (decide_eq_true (by omega)), if_pos h]
  · rw [cond_ff (decide_eq_false (by omega)), if_neg h, lt_of]
    have := lz_Check_loop l (by omega) (fun _ => some 0) fu fu 0 (by omega) (by omega)
    rw [List.drop_zero] at this
    refine Eq.trans this ?_
    split <;> rfl
theorem lumref_Tokens_loop (l : List T) (hl : l.length ≤ 4096) (kk : Unit → Option Int) (fu : Nat) : ∀ (fuel k : Nat), k ≤ l.length → l.length - k < fuel → f_lumref_Tokens_L6 l kk fu fuel (k : Int) = if (l.drop k).all fB then kk () else some 4
  | 0, k, _, hf => absurd hf (Nat.not_lt_zero _)
  | fuel + 1, k, hk, hf => by
    rw [f_lumref_Tokens_L6]
    by_cases hlt : k < l.length
    · rw [cond_tt (dlt (by omega)), at_lt hlt, opt_of, form_ok, opt_of, List.drop_eq_getElem_cons hlt, List.all_cons]
      cases hf : fB l[k] with
      | true => rw [cond_ff (show (!true) = false from rfl), wsucc (by omega), lumref_Tokens_loop l hl kk fu fuel (k + 1) hlt (by omega), Bool.true_and]
      | false => rw [cond_tt (show (!false) = true from rfl), Bool.false_and, if_neg (by simp)]
    · rw [cond_ff (dge (by omega)), List.drop_of_length_le (by omega)]; rfl
theorem lumref_Tokens_ok (l : List T) (fu : Nat) (hf : 5000 ≤ fu) : f_lumref_Tokens fu l = some (chk l) := by
  unfold f_lumref_Tokens chk
  by_cases h : 4096 < l.length
  · rw [cond_tt (decide_eq_true (by omega)), if_pos h]
  · rw [cond_ff (decide_eq_false (by omega)), if_neg h, lt_of]
    have := lumref_Tokens_loop l (by omega) (fun _ => some 0) fu fu 0 (by omega) (by omega)
    rw [List.drop_zero] at this
    refine Eq.trans this ?_
    split <;> rfl
/-! expand -/
def lit (t : T) : UInt8 := UInt8.ofNat t.Lit.toNat
def cp (d : Nat) : Nat → List UInt8 → List UInt8
  | 0, out => out
  | n + 1, out => cp d n (out ++ [out.getD (out.length - d) 0])
def stp (t : T) (out : List UInt8) : List UInt8 := if t.Len = 0 then out ++ [lit t] else cp t.Dist.toNat t.Len.toNat out
def ex (most : Int) : List T → List UInt8 → List UInt8 × Int
  | [], out => (out, 0)
  | t :: l, out => if t.Dist > (out.length : Int) then ([], 4) else if (out.length : Int) + max t.Len 1 > most then ([], 2) else ex most l (stp t out)
theorem cp_len (d : Nat) : ∀ (n : Nat) (out : List UInt8), (cp d n out).length = out.length + n
  | 0, out => rfl
  | n + 1, out => by rw [cp, cp_len d n]; simp; omega
structure Fm (t : T) : Prop where
  lit : 0 ≤ t.Lit ∧ t.Lit ≤ 255
  len : 0 ≤ t.Len ∧ t.Len ≤ 255
  dist : 0 ≤ t.Dist ∧ t.Dist ≤ 1024
  one : t.Len ≠ 0 → 1 ≤ t.Dist
theorem fm_of {t : T} (h : fB t = true) (ok : okS_api_Token t) : Fm t := by
  have hl : 0 ≤ t.Lit ∧ t.Lit ≤ 255 := by
    have h1 := ok.1
    simpa [Lit.wf, IntKind.min, IntKind.max, IntKind.signed, IntKind.bits] using h1
  unfold fB at h
  split at h
  · rename_i h0
    have : t.Dist = 0 := by simpa using h
    exact ⟨hl, by omega, by omega, fun h1 => absurd h0 h1⟩
  · simp only [Bool.and_eq_true, decide_eq_true_eq] at h
    exact ⟨hl, by omega, by omega, fun _ => h.2.2.2.1⟩
theorem copy_loop (kk : List UInt8 → Option (List UInt8 × Int)) (t : T) (hd : 1 ≤ t.Dist) (h255 : t.Len ≤ 255) : ∀ (fuel k : Nat) (out : List UInt8), (k : Int) ≤ t.Len → t.Len.toNat - k < fuel → t.Dist ≤ (out.length : Int) → out.length + (t.Len.toNat - k) ≤ 5000 →
    f_lz_Expand_L26 kk t fuel out (k : Int) = kk (cp t.Dist.toNat (t.Len.toNat - k) out)
  | 0, k, _, _, hf, _, _ => absurd hf (Nat.not_lt_zero _)
  | fuel + 1, k, out, hk, hf, hdo, hl => by
    rw [f_lz_Expand_L26]
    by_cases hlt : (k : Int) < t.Len
    · have e : IntKind.i64.wrap ((out.length : Int) - t.Dist) = ((out.length - t.Dist.toNat : Nat) : Int) := by rw [w64 (by omega) (by omega)]; omega
      have hi : out.length - t.Dist.toNat < out.length := by omega
      rw [cond_tt (dlt hlt), e, at_lt hi, opt_of, req_pos (by simp; omega), wsucc (by omega), copy_loop kk t hd h255 fuel (k + 1) _ (by omega) (by omega) (by simp; omega) (by simp; omega)]
      rw [show t.Len.toNat - k = (t.Len.toNat - (k + 1)) + 1 by omega, cp, List.getD_eq_getElem?_getD, List.getElem?_eq_getElem hi]; rfl
    · rw [cond_ff (decide_eq_false hlt), show t.Len.toNat - k = 0 by omega]; rfl
theorem maxi (t : T) (h : 0 ≤ t.Len) : (if (1 : Int) > t.Len then (1 : Int) else t.Len) = max t.Len 1 := by split <;> omega
theorem expand_loop (l : List T) (hl : l.length ≤ 4096) (most : Int) (hm : 0 ≤ most ∧ most ≤ 4096) (hF : ∀ t ∈ l, Fm t) (fu : Nat) (hfu : 5000 ≤ fu) : ∀ (fuel k : Nat) (out : List UInt8), k ≤ l.length → l.length - k < fuel → out.length ≤ 4096 →
    f_lz_Expand_L11 l most (fun j7x7 => some (j7x7, (0 : Int))) fu fuel out (k : Int) = some (ex most (l.drop k) out)
  | 0, k, _, _, hf, _ => absurd hf (Nat.not_lt_zero _)
  | fuel + 1, k, out, hk, hf, ho => by
    rw [f_lz_Expand_L11, lt_of]
    by_cases hlt : k < l.length
    · have hF' := hF l[k] (List.getElem_mem hlt)
      rw [cond_tt (dlt (by omega)), lt_of, at_lt hlt, opt_of, List.drop_eq_getElem_cons hlt, ex]
      generalize l[k] = t at hF'
      have hlen := hF'.len
      have hdist := hF'.dist
      by_cases h1 : t.Dist > (out.length : Int)
      · rw [cond_tt (decide_eq_true h1), if_pos h1]
      · rw [cond_ff (decide_eq_false h1), if_neg h1, maxi t hlen.1, w64 (by omega) (by omega)]
        by_cases h2 : (out.length : Int) + max t.Len 1 > most
        · rw [cond_tt (decide_eq_true h2), if_pos h2]
        · rw [cond_ff (decide_eq_false h2), if_neg h2, lt_of, wsucc (by omega)]
          have ih : ∀ o2 : List UInt8, o2.length ≤ 4096 → f_lz_Expand_L11 l most (fun j7x7 => some (j7x7, (0 : Int))) fu fuel o2 ((k + 1 : Nat) : Int) = some (ex most (l.drop (k + 1)) o2) := fun o2 h => expand_loop l hl most hm hF fu hfu fuel (k + 1) o2 hlt (by omega) h
          by_cases h3 : t.Len = 0
          · rw [cond_tt (by simp [h3]), req_pos (by have := hF'.lit; omega), req_pos (by simp; omega)]
            obtain ⟨g, rfl⟩ : ∃ g, fu = g + 1 := ⟨fu - 1, by omega⟩
            try dsimp only
            rw [f_lz_Expand_L26, cond_ff (decide_eq_false (by omega))]
            try dsimp only
            rw [ih _ (by simp; omega)]
            unfold stp; rw [if_pos h3]; rfl
          · have hd := hF'.one h3
            rw [cond_ff (by simpa using h3)]
            try dsimp only
            have := copy_loop (fun j14x7 => f_lz_Expand_L11 l most (fun j7x7 => some (j7x7, (0 : Int))) fu fuel j14x7 ((k + 1 : Nat) : Int)) t hd hlen.2 fu 0 out (by omega) (by omega) (by omega) (by omega)
            rw [Nat.sub_zero] at this
            refine this.trans ?_
            try dsimp only
            rw [ih _ (by rw [cp_len]; omega)]
            unfold stp; rw [if_neg h3]
    · rw [cond_ff (dge (by omega)), List.drop_of_length_le (by omega)]; rfl
/-! the copies of a seed -/
theorem rep_at (l : List UInt8) (h : 0 < l.length) : ∀ (c j : Nat), j < c * l.length → (Lib.repeatL l c)[j]? = l[j % l.length]?
  | 0, j, hj => by omega
  | c + 1, j, hj => by
    rw [Lib.repeatL]
    by_cases h1 : j < l.length
    · rw [List.getElem?_append_left h1, Nat.mod_eq_of_lt h1]
    · have hj' : j < c * l.length + l.length := by rw [← Nat.succ_mul]; exact hj
      rw [List.getElem?_append_right (by omega), rep_at l h c (j - l.length) (by omega), ← Nat.mod_eq_sub_mod (show j ≥ l.length by omega)]
theorem cp_at (d : Nat) (hd : 1 ≤ d) : ∀ (n : Nat) (out : List UInt8), d ≤ out.length → ∀ i, i < out.length + n → (cp d n out)[i]? = if i < out.length then out[i]? else (out.drop (out.length - d))[(i - out.length) % d]?
  | 0, out, hdo, i, hi => by rw [cp, if_pos (by omega)]
  | n + 1, out, hdo, i, hi => by
    rw [cp, cp_at d hd n _ (by simp; omega) i (by simp; omega)]
    rw [List.length_append, List.length_singleton]
    by_cases h1 : i < out.length
    · rw [if_pos (by omega), if_pos h1, List.getElem?_append_left h1]
    · rw [if_neg h1]
      have hdrop : ∀ q, q < d → ((out ++ [out.getD (out.length - d) 0]).drop (out.length + 1 - d))[q]? = (out.drop (out.length - d))[(q + 1) % d]? := fun q hq => by
        rw [List.getElem?_drop, List.getElem?_drop]
        by_cases h2 : q + 1 = d
        · rw [h2, Nat.mod_self, List.getElem?_append_right (by omega), show out.length + 1 - d + q - out.length = 0 by omega]
          rw [List.getD_eq_getElem?_getD, Nat.add_zero, List.getElem?_eq_getElem (show out.length - d < out.length by omega)]; rfl
        · rw [Nat.mod_eq_of_lt (by omega), List.getElem?_append_left (by omega), show out.length + 1 - d + q = out.length - d + (q + 1) by omega]
      by_cases h2 : i = out.length
      · subst h2
        rw [if_pos (by omega), List.getElem?_append_right (by omega), Nat.sub_self, Nat.zero_mod, List.getElem?_drop, Nat.add_zero, List.getD_eq_getElem?_getD, List.getElem?_eq_getElem (show out.length - d < out.length by omega)]; rfl
      · rw [if_neg (by omega), hdrop _ (Nat.mod_lt _ (by omega))]
        congr 1
        rw [show i - out.length = (i - (out.length + 1)) + 1 by omega, Nat.mod_add_mod]
theorem cp_eq (d n : Nat) (out : List UInt8) (hd : 1 ≤ d) (hdo : d ≤ out.length) : cp d n out = out ++ (Lib.repeatL (out.drop (out.length - d)) (n / d + 1)).take n := by
  have hsl : (out.drop (out.length - d)).length = d := by rw [List.length_drop]; omega
  have hn : n < (n / d + 1) * d := by
    have := Nat.lt_mul_div_succ n (show 0 < d by omega)
    rw [Nat.mul_comm] at this; exact this
  have htl : ((Lib.repeatL (out.drop (out.length - d)) (n / d + 1)).take n).length = n := by rw [List.length_take, Lib.repeatL_length, hsl]; omega
  apply List.ext_getElem?
  intro i
  by_cases hi : i < out.length + n
  · rw [cp_at d hd n out hdo i hi]
    by_cases h1 : i < out.length
    · rw [if_pos h1, List.getElem?_append_left h1]
    · rw [if_neg h1, List.getElem?_append_right (by omega), List.getElem?_take, if_pos (by omega), rep_at _ (by omega) _ _ (by rw [hsl]; omega), hsl]
  · rw [List.getElem?_eq_none (by rw [cp_len]; omega), List.getElem?_eq_none (by rw [List.length_append, htl]; omega)]
theorem tdiv_nat {x : Int} {d : Nat} (h : 0 ≤ x) : x.tdiv (d : Int) = ((x.toNat / d : Nat) : Int) := by
  obtain ⟨n, rfl⟩ := Int.eq_ofNat_of_zero_le h
  rw [Int.toNat_natCast]; exact (Int.ofNat_tdiv n d).symm
theorem rexpand_loop (l : List T) (hl : l.length ≤ 4096) (most : Int) (hm : 0 ≤ most ∧ most ≤ 4096) (hF : ∀ t ∈ l, Fm t) (fu : Nat) (hfu : 5000 ≤ fu) : ∀ (fuel k : Nat) (out : List UInt8), k ≤ l.length → l.length - k < fuel → out.length ≤ 4096 →
    f_lumref_Expand_L11 l most (fun j7x7 => some (j7x7, (0 : Int))) fu fuel out (k : Int) = some (ex most (l.drop k) out)
  | 0, k, _, _, hf, _ => absurd hf (Nat.not_lt_zero _)
  | fuel + 1, k, out, hk, hf, ho => by
    rw [f_lumref_Expand_L11]
    by_cases hlt : k < l.length
    · have hF' := hF l[k] (List.getElem_mem hlt)
      rw [cond_tt (dlt (by omega)), lt_of, at_lt hlt, opt_of, List.drop_eq_getElem_cons hlt, ex]
      generalize l[k] = t at hF'
      have hlen := hF'.len
      have hdist := hF'.dist
      by_cases h1 : t.Dist > (out.length : Int)
      · rw [cond_tt (decide_eq_true h1), if_pos h1]
      · rw [cond_ff (decide_eq_false h1), if_neg h1, lt_of, wsucc (by omega)]
        have ih : ∀ o2 : List UInt8, o2.length ≤ 4096 → f_lumref_Expand_L11 l most (fun j7x7 => some (j7x7, (0 : Int))) fu fuel o2 ((k + 1 : Nat) : Int) = some (ex most (l.drop (k + 1)) o2) := fun o2 h => rexpand_loop l hl most hm hF fu hfu fuel (k + 1) o2 hlt (by omega) h
        by_cases h3 : t.Len = 0
        · rw [cond_tt (by simp [h3])]
          try dsimp only
          rw [w64 (x := (out.length : Int) + 1) (by omega) (by omega), show max t.Len 1 = 1 by omega]
          by_cases h2 : (out.length : Int) + 1 > most
          · rw [cond_tt (decide_eq_true h2), if_pos h2]
          · rw [cond_ff (decide_eq_false h2), if_neg h2, cond_tt (by simp [h3]), req_pos (by have := hF'.lit; omega), req_pos (by simp; omega), ih _ (by simp; omega)]
            unfold stp; rw [if_pos h3]; rfl
        · have hd := hF'.one h3
          rw [cond_ff (by simpa using h3)]
          try dsimp only
          rw [w64 (x := (out.length : Int) + t.Len) (by omega) (by omega), show max t.Len 1 = t.Len by omega]
          by_cases h2 : (out.length : Int) + t.Len > most
          · rw [cond_tt (decide_eq_true h2), if_pos h2]
          · have e : IntKind.i64.wrap ((out.length : Int) - t.Dist) = ((out.length - t.Dist.toNat : Nat) : Int) := by rw [w64 (by omega) (by omega)]; omega
            have hsl : (out.drop (out.length - t.Dist.toNat)).length = t.Dist.toNat := by rw [List.length_drop]; omega
            have hq : t.Len.toNat / t.Dist.toNat ≤ 255 := Nat.le_trans (Nat.div_le_self _ _) (by omega)
            have hn : t.Len.toNat < (t.Len.toNat / t.Dist.toNat + 1) * t.Dist.toNat := by
              have := Nat.lt_mul_div_succ t.Len.toNat (show 0 < t.Dist.toNat by omega)
              rw [Nat.mul_comm] at this; exact this
            have hdm := Nat.div_mul_le_self t.Len.toNat t.Dist.toNat
            have hcp := cp_eq t.Dist.toNat t.Len.toNat out (by omega) (by omega)
            have htd := tdiv_nat (d := t.Dist.toNat) hlen.1
            rw [cond_ff (decide_eq_false h2), if_neg h2, cond_ff (by simpa using h3), e, req_pos (by omega), Int.toNat_natCast, hsl, req_pos (by omega), htd]
            generalize t.Len.toNat / t.Dist.toNat = q at hq hn hdm hcp
            have e2 : IntKind.i64.wrap (IntKind.i64.wrap (q : Int) + 1) = ((q + 1 : Nat) : Int) := by rw [iw (n := q) (by omega), w64 (by omega) (by omega)]; omega
            have hrl : (Lib.repeatL (out.drop (out.length - t.Dist.toNat)) (q + 1)).length = (q + 1) * t.Dist.toNat := by rw [Lib.repeatL_length, hsl]
            rw [e2]
            unfold f_strings_Repeat
            rw [req_pos (And.intro (by omega) (And.intro (by omega) (by rw [hsl, Int.toNat_natCast, Nat.mul_comm, Nat.succ_mul]; omega))), opt_of, Int.toNat_natCast]
            rw [← hrl] at hn
            rw [req_pos (by omega), req_pos (by rw [List.length_take]; omega), ih _ (by rw [List.length_append, List.length_take]; omega)]
            unfold stp; rw [if_neg h3, hcp]
    · rw [cond_ff (dge (by omega)), List.drop_of_length_le (by omega)]; rfl
def exv (l : List T) (most : Int) : List UInt8 × Int := if most < 0 ∨ 4096 < most then ([], 1) else if chk l ≠ 0 then ([], chk l) else ex most l []
theorem chk_fm {l : List T} (ok : okL okS_api_Token l) (h : chk l = 0) : l.length ≤ 4096 ∧ ∀ t ∈ l, Fm t := by
  unfold chk at h
  split at h
  · omega
  · split at h
    · rename_i h1 h2
      exact ⟨by omega, fun t ht => fm_of (List.all_eq_true.1 h2 t ht) (ok.2 t ht)⟩
    · omega
theorem lz_Expand_ok (l : List T) (ok : okL okS_api_Token l) (most : Int) (fu : Nat) (hf : 5000 ≤ fu) : f_lz_Expand fu l most = some (exv l most) := by
  unfold f_lz_Expand exv
  rw [lt_of]
  by_cases h1 : most < 0
  · rw [cond_tt (dlt h1), if_pos (.inl h1)]; rfl
  · rw [cond_ff (dge (by omega))]
    by_cases h2 : most > 4096
    · rw [decide_eq_true h2, if_pos (.inr h2)]; rfl
    · rw [decide_eq_false h2, if_neg (by omega)]
      dsimp only
      rw [cond_ff rfl, lz_Check_ok _ _ hf, opt_of]
      by_cases h3 : chk l = 0
      · rw [h3, cond_ff (by rfl), if_neg (by simp), lt_of]
        obtain ⟨h4, h5⟩ := chk_fm ok h3
        have := expand_loop l h4 most (by omega) h5 fu hf fu 0 [] (by omega) (by omega) (by simp)
        rw [List.drop_zero] at this
        exact this
      · rw [cond_tt (by simpa using h3), if_pos h3]
theorem lumref_Expand_ok (l : List T) (ok : okL okS_api_Token l) (most : Int) (fu : Nat) (hf : 5000 ≤ fu) : f_lumref_Expand fu l most = some (exv l most) := by
  unfold f_lumref_Expand exv
  rw [lt_of]
  by_cases h1 : most < 0
  · rw [cond_tt (dlt h1), if_pos (.inl h1)]; rfl
  · rw [cond_ff (dge (by omega))]
    by_cases h2 : most > 4096
    · rw [decide_eq_true h2, if_pos (.inr h2)]; rfl
    · rw [decide_eq_false h2, if_neg (by omega)]
      dsimp only
      rw [cond_ff rfl, lumref_Tokens_ok _ _ hf, opt_of]
      by_cases h3 : chk l = 0
      · rw [h3, cond_ff (by rfl), if_neg (by simp), lt_of]
        obtain ⟨h4, h5⟩ := chk_fm ok h3
        have := rexpand_loop l h4 most (by omega) h5 fu hf fu 0 [] (by omega) (by omega) (by simp)
        rw [List.drop_zero] at this
        exact this
      · rw [cond_tt (by simpa using h3), if_pos h3]
theorem u8i {x : Int} (h : 0 ≤ x ∧ x ≤ 255) : IntKind.u8.wrap x = x := by
  obtain ⟨n, rfl⟩ : ∃ n : Nat, x = n := ⟨x.toNat, by omega⟩
  exact u8w_in (by omega)
theorem u8m {x : Int} (h : 0 ≤ x) : IntKind.u8.wrap x = ((x.toNat % 256 : Nat) : Int) := by
  obtain ⟨n, rfl⟩ : ∃ n : Nat, x = n := ⟨x.toNat, by omega⟩
  rw [u8w, Int.toNat_natCast]
/-! read -/
def b0 (s : List UInt8) (i : Nat) : Nat := (s.getD i 0).toNat
def rd : Nat → List UInt8 → List T → List T × Int
  | 0, _, _ => ([], 0)
  | f + 1, s, out => if s.length = 0 then (out, 0) else if b0 s 0 = 0 then (if s.length < 2 then ([], 3) else if out.length = 4096 then ([], 2) else rd f (s.drop 2) (out ++ [⟨(b0 s 1 : Nat), 0, 0⟩]))
    else if s.length < 3 then ([], 3) else if b0 s 1 + 256 * b0 s 2 = 0 ∨ 1024 < b0 s 1 + 256 * b0 s 2 then ([], 4) else if out.length = 4096 then ([], 2) else rd f (s.drop 3) (out ++ [⟨0, (b0 s 0 : Nat), (b0 s 1 + 256 * b0 s 2 : Nat)⟩])
theorem b0_lt (s : List UInt8) (i : Nat) : b0 s i < 256 := (s.getD i 0).toNat_lt
theorem bAt_b0 (s : List UInt8) (i : Int) : En.bAt s i = ((b0 s i.toNat : Nat) : Int) := rfl
theorem or8 {a b : Nat} (ha : a < 256) (hb : b < 256) : bits .or .i64 (a : Int) ((b * 256 : Nat) : Int) = ((a + 256 * b : Nat) : Int) := by
  rw [i64_or_nat a (b * 256) (by omega) (by omega)]
  have h1 : 2 ^ 8 * b + a = 2 ^ 8 * b ||| a := Nat.two_pow_add_eq_or_of_lt (i := 8) ha b
  rw [Nat.or_comm, show b * 256 = 2 ^ 8 * b by omega, ← h1]; congr 1; omega
theorem read_loop (kk : List T → Option (List T × Int)) (fu : Nat) (hkk : ∀ l, kk l = some (l, 0)) : ∀ (fuel : Nat) (s : List UInt8) (out : List T), out.length ≤ 4096 → 4096 - out.length < fuel →
    f_lz_Read_L5 kk fu fuel s out = some (rd fuel s out)
  | 0, _, _, _, hf => absurd hf (Nat.not_lt_zero _)
  | fuel + 1, s, out, ho, hf => by
    rw [f_lz_Read_L5, rd]
    by_cases h0 : s.length = 0
    · rw [if_pos h0, List.eq_nil_of_length_eq_zero h0, cond_ff (by rfl), hkk]
    · have hne : s ≠ [] := fun h => h0 (by rw [h]; rfl)
      rw [if_neg h0, cond_tt (by simpa using hne), lt_of, req_pos (by omega), bAt_b0, bAt_b0, bAt_b0]
      have ih := read_loop kk fu hkk fuel
      have key : ∀ (n : Nat) (t : T), 2 ≤ n → n ≤ s.length → fB t = true → (opt (f_lz_formed fu t) fun (r15 : Bool) => (bif (!r15) then (some (([] : List S_api_Token), (4 : Int))) else (bif ((out.length : Int) == (4096 : Int)) then (some (([] : List S_api_Token), (2 : Int))) else (req (((out.length + ([t]).length) * 24 : Nat) ≤ 140737488355328 ∧ out.length + ([t]).length ≤ 9223372036854775807) (req (0 ≤ (n : Int) ∧ (n : Int) ≤ (s.length : Int)) (f_lz_Read_L5 kk fu fuel (s.drop ((n : Int)).toNat) (out ++ ([t])))))))) = some (if out.length = 4096 then ([], 2) else rd fuel (s.drop n) (out ++ [t])) := by
        intro n t hn2 hn hf'
        rw [formed_ok, hf', opt_of, cond_ff (show (!true) = false from rfl)]
        by_cases h4 : out.length = 4096
        · rw [cond_tt (by rw [beq_iff_eq]; omega), if_pos h4]
        · rw [cond_ff (by rw [beq_eq_false_iff_ne]; omega), if_neg h4, req_pos (by simp; omega), req_pos (by omega), Int.toNat_natCast, ih _ _ (by simp; omega) (by simp; omega)]
      by_cases h1 : b0 s 0 = 0
      · rw [show ((0 : Int)).toNat = 0 from rfl, if_pos h1, cond_tt (by rw [h1]; rfl)]
        dsimp only
        by_cases h2 : s.length < 2
        · rw [cond_tt (dlt (by omega)), if_pos h2]
        · rw [cond_ff (dge (by omega)), if_neg h2, req_pos (by omega), lt_of, cond_ff (by rfl)]
          exact key 2 ⟨(b0 s 1 : Nat), 0, 0⟩ (by omega) (by omega) rfl
      · rw [show ((0 : Int)).toNat = 0 from rfl, if_neg h1, cond_ff (by rw [beq_eq_false_iff_ne]; omega)]
        dsimp only
        by_cases h2 : s.length < 3
        · rw [cond_tt (dlt (by omega)), if_pos h2]
        · have l0 := b0_lt s 0
          have l1 := b0_lt s 1
          have l2 := b0_lt s 2
          have e8 : IntKind.i64.wrap ((IntKind.i64.wrap ((b0 s 2 : Nat) : Int)) * 2 ^ min ((8 : Int)).toNat (IntKind.bits .i64)) = ((b0 s 2 * 256 : Nat) : Int) := by
            rw [iw (by omega), shl_nat (x := b0 s 2) (m := 8) (j := 8) rfl (by decide), iw (by omega)]
          rw [cond_ff (dge (by omega)), if_neg h2, req_pos (by omega), lt_of, cond_tt (by rfl), req_pos (by omega), req_pos (by omega), req_pos (by omega), show ((1 : Int)).toNat = 1 from rfl, show ((2 : Int)).toNat = 2 from rfl, e8, iw (n := b0 s 1) (by omega), iw (n := b0 s 0) (by omega), or8 l1 l2]
          dsimp only
          by_cases h3 : b0 s 1 + 256 * b0 s 2 = 0 ∨ 1024 < b0 s 1 + 256 * b0 s 2
          · have hb : fB ⟨0, (b0 s 0 : Nat), (b0 s 1 + 256 * b0 s 2 : Nat)⟩ = false := by
              unfold fB
              rw [if_neg (by show ((b0 s 0 : Nat) : Int) ≠ 0; omega)]
              show (decide ((0 : Int) = 0) && (decide ((1 : Int) ≤ (b0 s 0 : Nat)) && (decide (((b0 s 0 : Nat) : Int) ≤ 255) && (decide ((1 : Int) ≤ ((b0 s 1 + 256 * b0 s 2 : Nat) : Int)) && decide (((b0 s 1 + 256 * b0 s 2 : Nat) : Int) ≤ 1024))))) = false
              rcases h3 with h3 | h3
              · rw [decide_eq_false (show ¬ (1 : Int) ≤ ((b0 s 1 + 256 * b0 s 2 : Nat) : Int) by omega)]; simp
              · rw [decide_eq_false (show ¬ ((b0 s 1 + 256 * b0 s 2 : Nat) : Int) ≤ 1024 by omega)]; simp
            rw [formed_ok, hb, opt_of, cond_tt (show (!false) = true from rfl), if_pos h3]
          · have hb : fB ⟨0, (b0 s 0 : Nat), (b0 s 1 + 256 * b0 s 2 : Nat)⟩ = true := by
              unfold fB
              rw [if_neg (by show ((b0 s 0 : Nat) : Int) ≠ 0; omega)]
              simp only [Bool.and_eq_true, decide_eq_true_eq]
              refine ⟨trivial, ?_, ?_, ?_, ?_⟩
              · show (1 : Int) ≤ ((b0 s 0 : Nat) : Int); omega
              · show ((b0 s 0 : Nat) : Int) ≤ 255; omega
              · show (1 : Int) ≤ ((b0 s 1 + 256 * b0 s 2 : Nat) : Int); omega
              · show ((b0 s 1 + 256 * b0 s 2 : Nat) : Int) ≤ 1024; omega
            rw [if_neg h3]
            exact key 3 _ (by omega) (by omega) hb
theorem b0_drop (s : List UInt8) (a i : Nat) : b0 (s.drop a) i = b0 s (a + i) := by unfold b0; rw [List.getD_eq_getElem?_getD, List.getD_eq_getElem?_getD, List.getElem?_drop]
theorem rread_loop (s : List UInt8) (kk : List T → Option (List T × Int)) (hkk : ∀ l, kk l = some (l, 0)) : ∀ (fuel a : Nat) (out : List T), out.length ≤ 4096 → 4096 - out.length < fuel → a ≤ 3 * out.length → a ≤ s.length →
    f_lumref_ReadTokens_L5 s kk fuel out (a : Int) = some (rd fuel (s.drop a) out)
  | 0, _, _, _, hf, _, _ => absurd hf (Nat.not_lt_zero _)
  | fuel + 1, a, out, ho, hf, ha, has => by
    rw [f_lumref_ReadTokens_L5, rd, List.length_drop]
    by_cases h0 : a < s.length
    · have l0 := b0_lt s a
      have l1 := b0_lt s (a + 1)
      have l2 := b0_lt s (a + 2)
      have w1 : IntKind.i64.wrap ((a : Int) + 1) = ((a + 1 : Nat) : Int) := by rw [w64 (by omega) (by omega)]; omega
      have w2 : IntKind.i64.wrap ((a : Int) + 2) = ((a + 2 : Nat) : Int) := by rw [w64 (by omega) (by omega)]; omega
      have w3 : IntKind.i64.wrap ((a : Int) + 3) = ((a + 3 : Nat) : Int) := by rw [w64 (by omega) (by omega)]; omega
      rw [cond_tt (dlt (by omega)), if_neg (by omega), lt_of, req_pos (by omega), w1, w2, w3, bAt_b0, bAt_b0, bAt_b0, Int.toNat_natCast, Int.toNat_natCast, Int.toNat_natCast]
      simp only [b0_drop, Nat.add_zero]
      have ih := rread_loop s kk hkk fuel
      have fin : ∀ (n : Nat) (t : T), n ≤ 3 → a + n ≤ s.length → (bif ((out.length : Int) == (4096 : Int)) then (some (([] : List S_api_Token), (2 : Int))) else (req (((out.length + ([t]).length) * 24 : Nat) ≤ 140737488355328 ∧ out.length + ([t]).length ≤ 9223372036854775807) (f_lumref_ReadTokens_L5 s kk fuel (out ++ ([t])) ((a + n : Nat) : Int)))) = some (if out.length = 4096 then ([], 2) else rd fuel ((s.drop a).drop n) (out ++ [t])) := by
        intro n t hn3 hn
        by_cases h4 : out.length = 4096
        · rw [cond_tt (by rw [beq_iff_eq]; omega), if_pos h4]
        · rw [cond_ff (by rw [beq_eq_false_iff_ne]; omega), if_neg h4, req_pos (by simp; omega), ih _ _ (by simp; omega) (by simp; omega) (by simp; omega) hn, List.drop_drop]
      by_cases h1 : b0 s a = 0
      · rw [if_pos h1, cond_tt (by rw [h1]; rfl)]
        by_cases h2 : s.length - a < 2
        · rw [cond_tt (decide_eq_true (by omega)), if_pos h2]
        · rw [cond_ff (decide_eq_false (by omega)), if_neg h2, req_pos (by omega)]
          exact fin 2 _ (by omega) (by omega)
      · rw [if_neg h1, cond_ff (by rw [beq_eq_false_iff_ne]; omega)]
        by_cases h2 : s.length - a < 3
        · rw [cond_tt (decide_eq_true (by omega)), if_pos h2]
        · have ed : IntKind.i64.wrap ((IntKind.i64.wrap ((b0 s (a + 1) : Nat) : Int)) + (IntKind.i64.wrap ((256 : Int) * (IntKind.i64.wrap ((b0 s (a + 2) : Nat) : Int))))) = ((b0 s (a + 1) + 256 * b0 s (a + 2) : Nat) : Int) := by
            rw [iw (by omega), iw (by omega), w64 (x := 256 * _) (by omega) (by omega), w64 (by omega) (by omega)]; omega
          rw [cond_ff (decide_eq_false (by omega)), if_neg h2, req_pos (by omega), req_pos (by omega), req_pos (by omega), lt_of, ed, iw (n := b0 s a) (by omega)]
          by_cases h3 : b0 s (a + 1) + 256 * b0 s (a + 2) = 0
          · rw [if_pos (.inl h3), cond_tt (by rw [h3]; rfl)]; rfl
          · rw [cond_ff (by rw [beq_eq_false_iff_ne]; omega)]
            by_cases h4 : 1024 < b0 s (a + 1) + 256 * b0 s (a + 2)
            · rw [if_pos (.inr h4), decide_eq_true (by omega)]; rfl
            · rw [if_neg (by omega), decide_eq_false (by omega)]
              exact fin 3 _ (by omega) (by omega)
    · rw [cond_ff (dge (by omega)), if_pos (by omega), hkk]
theorem rd_ok : ∀ (f : Nat) (s : List UInt8) (out : List T), out.length ≤ 4096 → (∀ t ∈ out, okS_api_Token t) → (rd f s out).1.length ≤ 4096 ∧ ∀ t ∈ (rd f s out).1, okS_api_Token t
  | 0, s, out, _, _ => by simp [rd]
  | f + 1, s, out, ho, hw => by
    have wf8 : ∀ n : Nat, n < 256 → (Lit.int .u8 (n : Int)).wf = true := fun n hn => by simp [Lit.wf, IntKind.min, IntKind.max, IntKind.signed, IntKind.bits]; omega
    have wf64 : ∀ n : Nat, n < 1000000 → (Lit.int .i64 (n : Int)).wf = true := fun n hn => by simp [Lit.wf, IntKind.min, IntKind.max, IntKind.signed, IntKind.bits]; omega
    have l0 := b0_lt s 0
    have l1 := b0_lt s 1
    have l2 := b0_lt s 2
    have nxt : ∀ (n : Nat) (t : T), okS_api_Token t → out.length ≠ 4096 → (rd f (s.drop n) (out ++ [t])).1.length ≤ 4096 ∧ ∀ q ∈ (rd f (s.drop n) (out ++ [t])).1, okS_api_Token q := fun n t ht hne => rd_ok f _ _ (by simp; omega) (fun q hq => by
      rcases List.mem_append.1 hq with hq | hq
      · exact hw q hq
      · rw [List.mem_singleton.1 hq]; exact ht)
    rw [rd]
    split
    · exact ⟨ho, hw⟩
    · split
      · split
        · simp
        · split
          · simp
          · rename_i h; exact nxt 2 _ ⟨wf8 _ l1, wf64 0 (by omega), wf64 0 (by omega)⟩ h
      · split
        · simp
        · split
          · simp
          · split
            · simp
            · rename_i h; exact nxt 3 _ ⟨wf8 0 (by omega), wf64 _ (by omega), wf64 _ (by omega)⟩ h
end Go.Proofs.Ytgmggcpceemnnaa.PLzSays
