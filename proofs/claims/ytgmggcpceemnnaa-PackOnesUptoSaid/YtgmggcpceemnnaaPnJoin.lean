/- A pressed text is opened: the join: PressOpens. No condition. -/
import Derived.Test.YtgmggcpceemnnaaPnMain
namespace Go.Proofs.Ytgmggcpceemnnaa.PPo
open Go.RowKit Ytgmggcpceemnnaa.En Ytgmggcpceemnnaa Ytgmggcpceemnnaa.Huf
set_option linter.unusedVariables false
set_option linter.unusedSimpArgs false
/-! what is left -/
theorem contains_ix (l : List UInt8) (c : UInt8) : decide (0 ≤ Lib.indexByte l c) = l.contains c := by
  rw [Bool.eq_iff_iff, decide_eq_true_eq, List.contains_iff_mem]
  constructor
  · intro h
    obtain ⟨o, ho⟩ := Int.eq_ofNat_of_zero_le h
    exact List.mem_of_getElem? (Lib.indexByte_some ho).1
  · intro h
    rcases Int.lt_or_le (Lib.indexByte l c) 0 with hn | hn
    · have h1 := Lib.indexByte_ge l c
      have h2 : Lib.indexByte l c = -1 := by omega
      obtain ⟨i, hi, he⟩ := List.mem_iff_getElem.1 h
      exact absurd (by rw [List.getElem?_eq_getElem hi, he]) (Lib.indexByte_none h2 i)
    · exact hn
def bad (l : List UInt8) : Bool := if 7 < l.length then true else l.contains 49
theorem rest_tab : ∀ b : Fin 256, ∀ k : Fin 8, (bits .and .u8 ((b.val : Nat) : Int) (IntKind.u8.wrap ((IntKind.u8.wrap ((1 : Int) * 2 ^ min k.val (IntKind.bits .u8))) - (1 : Int))) == (0 : Int)) = !((bw b.val 8).drop (8 - k.val)).contains 49 := by decide +kernel
theorem rest_ok (fu : Nat) (s : List UInt8) (left : Nat) (h : Ok s left) : f___press_reader__rest fu ⟨s, left⟩ = some (!bad (bl s left), ⟨s, left⟩) := by
  unfold f___press_reader__rest
  rcases h with ⟨rfl, rfl⟩ | ⟨h1, h2, h3⟩
  · rfl
  · obtain ⟨b, t, rfl⟩ := List.exists_cons_of_ne_nil h1
    have hl : (bl (b :: t) left).length = left + 8 * t.length := by
      rw [bl_cons, List.length_append, List.length_drop, bits_len, flat_len]; omega
    rw [cond_ff (by simp), lt_of]
    dsimp only
    by_cases h8 : left = 8
    · subst h8
      rw [cond_tt (by decide), cond_tt rfl]
      have : bad (bl (b :: t) 8) = true := by unfold bad; rw [if_pos (by omega)]
      rw [this]; rfl
    · rw [cond_ff (by rw [beq_eq_false_iff_ne]; omega)]
      cases ht : t with
      | cons c t' =>
        rw [cond_tt (by simp; omega)]
        have : bad (bl (b :: c :: t') left) = true := by unfold bad; rw [← ht, if_pos (by rw [hl, ht]; simp; omega)]
        rw [this]; rfl
      | nil =>
        rw [cond_ff (by simp), req_pos (by simp), req_pos (Int.natCast_nonneg _), Int.toNat_natCast]
        have h9 := rest_tab ⟨b.toNat, b.toNat_lt⟩ ⟨left, by omega⟩
        dsimp only at h9
        have e : En.bAt [b] (0 : Int) = ((b.toNat : Nat) : Int) := rfl
        rw [e, h9]
        have hl2 : (bl [b] left).length = left := by rw [ht] at hl; simpa using hl
        unfold bad
        rw [if_neg (by omega), bl_cons]
        simp [byteBits]
/-! from the signs to the answer -/
theorem exv_bad (l : List S_api_Token) (m : Int) (h : (PLzSays.exv l m).2 ≠ 0) : (PLzSays.exv l m).1 = [] := by
  have hex : ∀ (m : Int) (l : List S_api_Token) (out : List UInt8), (PLzSays.ex m l out).2 ≠ 0 → (PLzSays.ex m l out).1 = [] := by
    intro m l
    induction l with
    | nil => intro out h; exact absurd rfl h
    | cons t l ih =>
      intro out h
      unfold PLzSays.ex at h ⊢
      split
      · rfl
      · rename_i h1
        rw [if_neg h1] at h
        split
        · rfl
        · rename_i h2
          rw [if_neg h2] at h
          exact ih _ h
  unfold PLzSays.exv at h ⊢
  split
  · rfl
  · rename_i h1
    rw [if_neg h1] at h
    split
    · rfl
    · rename_i h2
      rw [if_neg h2] at h
      exact hex _ _ _ h
theorem read_ok (s : List UInt8) {fu : Nat} (hf : 5000 ≤ fu) : f_lz_Read fu s = some (PLzSays.rd fu s []) := by
  unfold f_lz_Read
  rw [lt_of]
  exact PLzSays.read_loop _ fu (fun _ => rfl) fu s [] (by simp) (by simp; omega)
theorem rread_ok (s : List UInt8) {fu : Nat} (hf : 5000 ≤ fu) : f_lumref_ReadTokens fu s = some (PLzSays.rd fu s []) := by
  unfold f_lumref_ReadTokens
  rw [lt_of, show (0 : Int) = ((0 : Nat) : Int) from rfl]
  have := PLzSays.rread_loop s (fun (j1x4 : (List S_api_Token)) => (some (j1x4, ((0 : Nat) : Int)))) (fun _ => rfl) fu 0 [] (by simp) (by simp; omega) (by simp) (by simp)
  rwa [List.drop_zero] at this
def fin (fu : Nat) (B : Bool) (x : List UInt8) (m : Int) : List UInt8 × Int :=
  if B = true then ([], 4) else if (PLzSays.rd fu x []).2 ≠ 0 then ([], (PLzSays.rd fu x []).2)
  else if (PLzSays.exv (PLzSays.rd fu x []).1 m).2 ≠ 0 then ([], (PLzSays.exv (PLzSays.rd fu x []).1 m).2)
  else if ((PLzSays.exv (PLzSays.rd fu x []).1 m).1.length : Int) < m then ([], 4) else ((PLzSays.exv (PLzSays.rd fu x []).1 m).1, 0)
theorem rd_okL (fu : Nat) (x : List UInt8) : okL PLzSays.okS_api_Token (PLzSays.rd fu x []).1 := ⟨by have := (PLzSays.rd_ok fu x [] (by simp) (by simp)).1; omega, (PLzSays.rd_ok fu x [] (by simp) (by simp)).2⟩
theorem ex_len (m : Int) : ∀ (l : List S_api_Token) (out : List UInt8), (∀ t ∈ l, PLzSays.Fm t) → (out.length : Int) ≤ m → 0 ≤ m → ((PLzSays.ex m l out).1.length : Int) ≤ m
  | [], out, _, h, _ => h
  | t :: l, out, hF, h, h0 => by
    unfold PLzSays.ex
    split
    · exact h0
    · split
      · exact h0
      · rename_i h1 h2
        have ht := hF t (List.mem_cons_self)
        refine ex_len m l _ (fun u hu => hF u (List.mem_cons_of_mem _ hu)) ?_ h0
        unfold PLzSays.stp
        split
        · rw [List.length_append, List.length_singleton]; omega
        · rw [PLzSays.cp_len]
          have := ht.len
          omega
theorem exv_len (l : List S_api_Token) (ok : okL PLzSays.okS_api_Token l) (m : Int) : (PLzSays.exv l m).1.length ≤ 4096 := by
  unfold PLzSays.exv
  split
  · exact Nat.zero_le _
  · split
    · exact Nat.zero_le _
    · rename_i h1 h2
      have := ex_len m l [] (PLzSays.chk_fm ok (by simpa using h2)).2 (by show (0 : Int) ≤ m; omega) (by omega)
      omega
theorem fin_len (fu : Nat) (B : Bool) (x : List UInt8) (m : Int) : (fin fu B x m).1.length ≤ 4096 := by
  unfold fin
  split
  · exact Nat.zero_le _
  · split
    · exact Nat.zero_le _
    · split
      · exact Nat.zero_le _
      · split
        · exact Nat.zero_le _
        · exact exv_len _ (rd_okL fu x) m
theorem fin_c (r2 : A3i64 × List UInt8 × Int) (s : List UInt8) (left : Nat) (x : List UInt8) (h : Ok s left) {fu : Nat} (hf : 5000 ≤ fu) :
    (opt (f___press_reader__rest fu (S_press_reader.mk s left)) fun (r22 : (Bool × S_press_reader)) => (bif (!r22.1) then (some (([] : List UInt8), (4 : Int))) else (opt (f_lz_Read fu x) fun (r25 : ((List S_api_Token) × Int)) => (bif (r25.2 != (0 : Int)) then (some (([] : List UInt8), r25.2)) else (opt (f_lz_Expand fu r25.1 r2.1.e0) fun (r29 : ((List UInt8) × Int)) => (bif (r29.2 != (0 : Int)) then (some (([] : List UInt8), r29.2)) else (bif (decide ((r29.1.length : Int) < r2.1.e0)) then (some (([] : List UInt8), (4 : Int))) else (some (r29.1, (0 : Int)))))))))) = some (fin fu (bad (bl s left)) x r2.1.e0) := by
  rw [rest_ok fu s left h, opt_of]
  unfold fin
  by_cases hB : bad (bl s left) = true
  · rw [if_pos hB, hB]; rfl
  · rw [if_neg hB]
    have hB' : bad (bl s left) = false := by simpa using hB
    rw [hB', cond_ff (show (!(!false, (S_press_reader.mk s (left : Int))).1) = false from rfl), read_ok x hf, opt_of]
    by_cases h1 : (PLzSays.rd fu x []).2 = 0
    · rw [cond_ff (by rw [h1]; rfl), if_neg (by simpa using h1), PLzSays.lz_Expand_ok _ (rd_okL fu x) _ fu hf, opt_of]
      by_cases h2 : (PLzSays.exv (PLzSays.rd fu x []).1 r2.1.e0).2 = 0
      · rw [cond_ff (by rw [h2]; rfl), if_neg (by simpa using h2)]
        by_cases h3 : ((PLzSays.exv (PLzSays.rd fu x []).1 r2.1.e0).1.length : Int) < r2.1.e0
        · rw [cond_tt (decide_eq_true h3), if_pos h3]
        · rw [cond_ff (decide_eq_false h3), if_neg h3]
      · rw [cond_tt (by simpa using h2), if_pos h2]
    · rw [cond_tt (by simpa using h1), if_pos h1]
theorem fin_r (r12 : A3i64 × List UInt8 × Int) (bits : List UInt8) (at_ : Nat) (x : List UInt8) (h : at_ ≤ bits.length) {fu : Nat} (hf : 5000 ≤ fu) :
    (req (0 ≤ (at_ : Int) ∧ (at_ : Int) ≤ (bits.length : Int)) (lt (fun (j35b173 : Bool) => (bif j35b173 then (some (([] : List UInt8), (4 : Int))) else (opt (f_lumref_ReadTokens fu x) fun (r39 : ((List S_api_Token) × Int)) => (bif (r39.2 != (0 : Int)) then (some (([] : List UInt8), r39.2)) else (opt (f_lumref_Expand fu r39.1 r12.1.e0) fun (r43 : ((List UInt8) × Int)) => (lt (fun (j44b197 : Bool) => (bif j44b197 then (some (([] : List UInt8), (4 : Int))) else (some (r43.1, r43.2)))) fun (kk45 : Bool → Option ((List UInt8) × Int)) => (bif (r43.2 == (0 : Int)) then (kk45 (decide ((r43.1.length : Int) < r12.1.e0))) else (kk45 false)))))))) fun (kk36 : Bool → Option ((List UInt8) × Int)) => (bif (decide (((bits.drop ((at_ : Int)).toNat).length : Int) > (7 : Int))) then (kk36 true) else (opt (f_strings_Contains fu (bits.drop ((at_ : Int)).toNat) ([49] : List UInt8)) fun (r50 : Bool) => (kk36 r50))))) = some (fin fu (bad (bits.drop at_)) x r12.1.e0) := by
  rw [req_pos (by omega), lt_of, Int.toNat_natCast]
  have hfin : ∀ B : Bool, (bif B then (some (([] : List UInt8), (4 : Int))) else (opt (f_lumref_ReadTokens fu x) fun (r39 : ((List S_api_Token) × Int)) => (bif (r39.2 != (0 : Int)) then (some (([] : List UInt8), r39.2)) else (opt (f_lumref_Expand fu r39.1 r12.1.e0) fun (r43 : ((List UInt8) × Int)) => (lt (fun (j44b197 : Bool) => (bif j44b197 then (some (([] : List UInt8), (4 : Int))) else (some (r43.1, r43.2)))) fun (kk45 : Bool → Option ((List UInt8) × Int)) => (bif (r43.2 == (0 : Int)) then (kk45 (decide ((r43.1.length : Int) < r12.1.e0))) else (kk45 false))))))) = some (fin fu B x r12.1.e0) := by
    intro B
    unfold fin
    cases B with
    | true => rfl
    | false =>
      rw [cond_ff rfl, if_neg (by decide), rread_ok x hf, opt_of]
      by_cases h1 : (PLzSays.rd fu x []).2 = 0
      · rw [cond_ff (by rw [h1]; rfl), if_neg (by simpa using h1), PLzSays.lumref_Expand_ok _ (rd_okL fu x) _ fu hf, opt_of, lt_of]
        by_cases h2 : (PLzSays.exv (PLzSays.rd fu x []).1 r12.1.e0).2 = 0
        · rw [cond_tt (by rw [h2]; rfl), if_neg (by simpa using h2)]
          dsimp only
          by_cases h3 : ((PLzSays.exv (PLzSays.rd fu x []).1 r12.1.e0).1.length : Int) < r12.1.e0
          · rw [cond_tt (decide_eq_true h3), if_pos h3]
          · rw [cond_ff (decide_eq_false h3), if_neg h3, h2]
        · rw [cond_ff (by simpa using h2), if_pos h2]
          dsimp only
          rw [cond_ff rfl, exv_bad _ _ h2]
      · rw [cond_tt (by simpa using h1), if_pos h1]
  unfold bad
  by_cases h7 : 7 < (bits.drop at_).length
  · rw [cond_tt (decide_eq_true (by omega)), if_pos h7]
    exact hfin true
  · rw [cond_ff (decide_eq_false (by omega)), if_neg h7]
    unfold f_strings_Contains
    rw [opt_of, contains_ix]
    exact hfin _
end Go.Proofs.Ytgmggcpceemnnaa.PPo
