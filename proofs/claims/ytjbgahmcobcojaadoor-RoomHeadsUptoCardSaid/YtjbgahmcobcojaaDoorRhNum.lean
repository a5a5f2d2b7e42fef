/- Heads: numbers and texts that were written are read. No condition. -/
import Derived.Test.YtjbgahmcobcojaaDoorRhJf
import Derived.Test.YtjbgahmcobcojaaDoorRhTxt
import Derived.Test.YtjbgahmcobcojaaDoorRhTp
import Derived.Test.YtjbgahmcobcojaaDoorRhName
import Derived.Lib.SplitLaws
namespace Go.Proofs.YtjbgahmcobcojaaDoor.PRoomHeads
open Go.RowKit YtjbgahmcobcojaaDoor.En YtjbgahmcobcojaaDoor Num Mix PPut JF TX U8
open Go.Lib hiding cut
set_option linter.unusedVariables false
set_option linter.unusedSimpArgs false
theorem u8o {n : Nat} (h : n < 256) : (UInt8.ofNat n).toNat = n := by rw [UInt8.toNat_ofNat']; omega
theorem beNat_digF : ∀ (k n : Nat), n < 256 ^ k → beNat (digF k n) = n
  | 0, n, h => by
    rw [Nat.pow_zero] at h
    have : n = 0 := by omega
    subst this; rfl
  | k + 1, n, h => by
    unfold digF
    by_cases h0 : n = 0
    · rw [if_pos h0, h0]; rfl
    · rw [if_neg h0, beNat_snoc, beNat_digF k (n / 256) (div_lt h), u8o (by omega)]; omega
theorem digF_lead : ∀ (k n : Nat), n < 256 ^ k → (digF k n).take 1 ≠ [0]
  | 0, n, _ => by unfold digF; simp
  | k + 1, n, h => by
    unfold digF
    by_cases h0 : n = 0
    · rw [if_pos h0]; simp
    · rw [if_neg h0]
      by_cases h1 : digF k (n / 256) = []
      · rw [h1]
        have h2 := (digF_nil (div_lt h)).1 h1
        intro e
        have e2 : UInt8.ofNat (n % 256) = 0 := by simpa using e
        have e3 := congrArg UInt8.toNat e2
        rw [u8o (by omega)] at e3
        have e4 : (0 : UInt8).toNat = 0 := rfl
        omega
      · rw [List.take_append_of_le_length (by have := List.length_pos_iff.2 h1; omega)]
        exact digF_lead k (n / 256) (div_lt h)
theorem getV_put (n : Nat) (hn : n < 18446744073709551616) (rest : List UInt8) : getV (putV n ++ rest) = ((n : Int), ((putV n).length : Int), 0) := by
  have hl := digF_len 8 n
  have hp : n < 256 ^ 8 := by rw [p8]; exact hn
  have hb : (UInt8.ofNat (digF 8 n).length).toNat = (digF 8 n).length := u8o (by omega)
  unfold putV
  rw [List.cons_append, getV_cons, hb, if_neg (by omega), if_neg (by rw [List.length_append]; omega), List.take_left, if_neg (digF_lead 8 n hp), beNat_digF 8 n hp, List.length_cons, Nat.add_comm]
/-! characters -/
theorem refC_width (l : List UInt8) (h : 1 ≤ (refC l).2) : (refC l).2 ≤ 4 ∧ ∀ j, j < (refC l).2 → by_ l j = 0 → (refC l).1 = 0 := by
  unfold refC refN at h ⊢
  by_cases a0 : by_ l 0 < 128
  · rw [if_pos a0]
    refine ⟨by show 1 ≤ 4; omega, fun j hj hz => ?_⟩
    have hj' : j < 1 := hj
    have : j = 0 := by omega
    subst this; exact hz
  rw [if_neg a0] at h ⊢
  by_cases a1 : 194 ≤ by_ l 0 ∧ by_ l 0 < 224
  · rw [if_pos a1] at h ⊢
    by_cases c : l.length < 2
    · rw [if_pos c] at h; exact absurd h (by decide)
    rw [if_neg c] at h ⊢
    by_cases d1 : C (by_ l 1)
    · rw [if_pos d1] at h ⊢
      unfold fin at h ⊢
      split at h
      · exact absurd h (by decide)
      · rename_i g
        rw [if_neg g]
        refine ⟨by show 2 ≤ 4; omega, fun j hj hz => ?_⟩
        have hj' : j < 2 := hj
        unfold C at d1
        match j, hj', hz with
        | 0, _, hz => exact absurd hz (by omega)
        | 1, _, hz => exact absurd hz (by omega)
    · rw [if_neg d1] at h; exact absurd h (by decide)
  rw [if_neg a1] at h ⊢
  by_cases a2 : 224 ≤ by_ l 0 ∧ by_ l 0 < 240
  · rw [if_pos a2] at h ⊢
    by_cases c : l.length < 3
    · rw [if_pos c] at h; exact absurd h (by decide)
    rw [if_neg c] at h ⊢
    by_cases d1 : C (by_ l 1)
    · rw [if_pos d1] at h ⊢
      by_cases d2 : C (by_ l 2)
      · rw [if_pos d2] at h ⊢
        unfold fin at h ⊢
        split at h
        · exact absurd h (by decide)
        · rename_i g
          rw [if_neg g]
          refine ⟨by show 3 ≤ 4; omega, fun j hj hz => ?_⟩
          have hj' : j < 3 := hj
          unfold C at d1 d2
          match j, hj', hz with
          | 0, _, hz => exact absurd hz (by omega)
          | 1, _, hz => exact absurd hz (by omega)
          | 2, _, hz => exact absurd hz (by omega)
      · rw [if_neg d2] at h; exact absurd h (by decide)
    · rw [if_neg d1] at h; exact absurd h (by decide)
  rw [if_neg a2] at h ⊢
  by_cases a3 : 240 ≤ by_ l 0 ∧ by_ l 0 < 245
  · rw [if_pos a3] at h ⊢
    by_cases c : l.length < 4
    · rw [if_pos c] at h; exact absurd h (by decide)
    rw [if_neg c] at h ⊢
    by_cases d1 : C (by_ l 1)
    · rw [if_pos d1] at h ⊢
      by_cases d2 : C (by_ l 2)
      · rw [if_pos d2] at h ⊢
        by_cases d3 : C (by_ l 3)
        · rw [if_pos d3] at h ⊢
          unfold fin at h ⊢
          split at h
          · exact absurd h (by decide)
          · rename_i g
            rw [if_neg g]
            refine ⟨by show 4 ≤ 4; omega, fun j hj hz => ?_⟩
            have hj' : j < 4 := hj
            unfold C at d1 d2 d3
            match j, hj', hz with
            | 0, _, hz => exact absurd hz (by omega)
            | 1, _, hz => exact absurd hz (by omega)
            | 2, _, hz => exact absurd hz (by omega)
            | 3, _, hz => exact absurd hz (by omega)
        · rw [if_neg d3] at h; exact absurd h (by decide)
      · rw [if_neg d2] at h; exact absurd h (by decide)
    · rw [if_neg d1] at h; exact absurd h (by decide)
  rw [if_neg a3] at h; exact absurd h (by decide)
theorem by_get {l : List UInt8} {j : Nat} (h : j < l.length) : by_ l j = l[j].toNat := by
  unfold by_
  rw [List.getD_eq_getElem?_getD, List.getElem?_eq_getElem h]; rfl
theorem name_shape : ∀ (n : Nat) (s : List UInt8), s.length ≤ n → validD s = true → (rns s).any bad = false → s.length ≤ 4 * (rns s).length ∧ 0 ∉ s
  | 0, s, h, _, _ => by
    have : s = [] := List.eq_nil_of_length_eq_zero (by omega)
    subst this; exact ⟨by simp, by simp⟩
  | n + 1, s, h, hv, hb => by
    by_cases h0 : s = []
    · subst h0; exact ⟨by simp, by simp⟩
    have hd := drop_lt h0
    have hle := decodeL_le s h0
    have hw := decodeL_width s
    rw [V_step h0] at hv
    rw [rns_step h0, List.any_cons, Bool.or_eq_false_iff] at hb
    rw [rns_step h0, List.length_cons]
    by_cases hx : (decodeL s).1 = 65533 ∧ (decodeL s).2 = 1
    · rw [if_pos hx] at hv; exact absurd hv (by decide)
    rw [if_neg hx] at hv
    obtain ⟨i1, i2⟩ := name_shape n (s.drop (decodeL s).2) (by omega) hv hb.2
    have hc : decodeL s = refC s := by
      rcases refC_fits s with ⟨h1, h2⟩ | ⟨h1, h2, h3⟩
      · rw [h1] at hx; exact absurd ⟨rfl, rfl⟩ hx
      · exact h1
    rw [hc] at hb hle hw i1 i2 ⊢
    obtain ⟨w1, w2⟩ := refC_width s hw
    rw [List.length_drop] at i1
    refine ⟨by omega, fun hm => ?_⟩
    rw [← List.take_append_drop (refC s).2 s, List.mem_append] at hm
    rcases hm with hm | hm
    · obtain ⟨j, hj, hje⟩ := List.mem_iff_getElem.1 hm
      rw [List.length_take] at hj
      rw [List.getElem_take] at hje
      have hz : by_ s j = 0 := by rw [by_get (by omega), hje]; rfl
      have := w2 j (by omega) hz
      rw [this] at hb
      exact absurd hb.1 (by decide)
    · exact i2 hm
theorem name_good {s : List UInt8} (h : nameV s = 0) : s.length ≤ 96 ∧ 0 ∉ s := by
  unfold nameV at h
  split at h
  · exact absurd h (by decide)
  rename_i g1
  split at h
  · exact absurd h (by decide)
  rename_i g2
  split at h
  · exact absurd h (by decide)
  rename_i g3
  have hv : validD s = true := by
    cases hv : validD s with
    | true => rfl
    | false => exact absurd (.inr (.inr (.inr hv))) g1
  obtain ⟨h1, h2⟩ := name_shape s.length s (Nat.le_refl _) hv (by simpa using g2)
  exact ⟨by omega, h2⟩
/-! texts -/
theorem txtV_plain (s : List UInt8) (h : 0 ∉ s) : txtV s = s ++ [0, 0] := by
  have hc : Lib.count s [0] = 0 := by rw [Lib.count_one]; exact List.count_eq_zero.2 h
  unfold txtV Lib.replaceAll Lib.replace
  rw [if_neg (by decide), show Lib.replaceNum s [0] (-1) = 0 from by unfold Lib.replaceNum; rw [if_pos (.inl (by decide)), hc]]
  rfl
theorem bAt_get {l : List UInt8} {j : Nat} {b : UInt8} (h : l[j]? = some b) : En.bAt l (j : Int) = ((b.toNat : Nat) : Int) := by
  obtain ⟨h1, h2⟩ := List.getElem?_eq_some_iff.1 h
  rw [PPut.bAt_lt h1, h2]
theorem gtext_go (s rest t : List UInt8) (ht : t = s ++ [0, 0] ++ rest) (h : 0 ∉ s) (hs : s.length ≤ 1024) (hr : rest.length ≤ 100000000) (kk : Unit → Option ((List UInt8) × Int × Int)) : ∀ (d j fu : Nat), s.length - j = d → j ≤ s.length → d < fu →
    f_num_GetText_L5 t kk fu (s.take j) (j : Int) = some (s, ((s.length + 2 : Nat) : Int), 0)
  | _, _, 0, _, _, hf => absurd hf (Nat.not_lt_zero _)
  | 0, j, fu + 1, hd, hj, _ => by
    have hjl : j = s.length := by omega
    have hl : t.length = s.length + 2 + rest.length := by rw [ht]; simp only [List.length_append]; rfl
    have g0 : t[j]? = some 0 := by rw [ht, hjl, List.append_assoc, List.getElem?_append_right (Nat.le_refl _), Nat.sub_self]; rfl
    have g1 : t[j + 1]? = some 0 := by rw [ht, hjl, List.append_assoc, List.getElem?_append_right (by omega), show s.length + 1 - s.length = 1 by omega]; rfl
    have ew : IntKind.i64.wrap ((j : Int) + 1) = ((j + 1 : Nat) : Int) := wsucc (by omega)
    rw [f_num_GetText_L5, cond_tt (dlt (by omega)), lt_of, req_pos (by omega), bAt_get g0, ew, bAt_get g1]
    rw [cond_tt (show ((((0 : UInt8).toNat : Nat) : Int) == 0) = true from rfl), cond_ff (beq_eq_false_iff_ne.2 (by omega)), req_pos (by omega), cond_tt (show ((((0 : UInt8).toNat : Nat) : Int) == 0) = true from rfl), wsucc (by omega), List.take_of_length_le (by omega), hjl]
  | d + 1, j, fu + 1, hd, hj, hf => by
    have hlt : j < s.length := by omega
    have hl : t.length = s.length + 2 + rest.length := by rw [ht]; simp only [List.length_append]; rfl
    have g0 : t[j]? = some s[j] := by rw [ht, List.append_assoc, List.getElem?_append_left hlt, List.getElem?_eq_getElem hlt]
    have hne : s[j].toNat ≠ 0 := fun e => h (by
      have : s[j] = 0 := UInt8.toNat_inj.1 (by rw [e]; rfl)
      rw [← this]; exact List.getElem_mem hlt)
    have hb := s[j].toNat_lt
    have htk : s.take j ++ [s[j]] = s.take (j + 1) := List.take_append_getElem hlt
    rw [f_num_GetText_L5, cond_tt (dlt (by omega)), lt_of, req_pos (by omega), bAt_get g0, cond_ff (beq_eq_false_iff_ne.2 (by omega)), req_pos (by omega), req_pos (by omega), Int.toNat_natCast, UInt8.ofNat_toNat, htk, req_pos (by rw [List.length_take, List.length_singleton]; omega)]
    dsimp only
    rw [cond_ff (decide_eq_false (by rw [List.length_take]; omega)), wsucc (by omega)]
    exact gtext_go s rest t ht h hs hr kk d (j + 1) fu (by omega) (by omega) (by omega)
theorem gtext_ok (s rest : List UInt8) (h : 0 ∉ s) (hs : s.length ≤ 1024) (hr : rest.length ≤ 100000000) (fu : Nat) (hf : 1100 ≤ fu) : f_num_GetText fu (txtV s ++ rest) = some (s, ((s.length + 2 : Nat) : Int), 0) ∧ f_lumref_GetText fu (txtV s ++ rest) = some (s, ((s.length + 2 : Nat) : Int), 0) := by
  have hl : (txtV s ++ rest).length ≤ 9223372036854775807 := by
    have := txtV_len s
    rw [List.length_append]; omega
  obtain ⟨r, h1, h2, _⟩ := PTreeText.txt_ex (txtV s ++ rest) hl fu hf
  have key : f_num_GetText fu (txtV s ++ rest) = some (s, ((s.length + 2 : Nat) : Int), 0) := by
    unfold f_num_GetText
    rw [lt_of]
    exact gtext_go s rest _ (by rw [txtV_plain s h]) h hs hr _ _ 0 fu rfl (by omega) (by omega)
  refine ⟨key, ?_⟩
  rw [h2, ← h1, key]
end Go.Proofs.YtjbgahmcobcojaaDoor.PRoomHeads
