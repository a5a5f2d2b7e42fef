/- A pressed text is opened: the code and the reference agree: PressOpens. No condition. -/
import Derived.Test.YtgmggcpceemnnaaPnTop
import Derived.Lib.IndexLaws
import Derived.Lib.Bytealg
namespace Go.Proofs.Ytgmggcpceemnnaa.PPo
open Go.RowKit Ytgmggcpceemnnaa.En Ytgmggcpceemnnaa Ytgmggcpceemnnaa.Huf
set_option linter.unusedVariables false
set_option linter.unusedSimpArgs false
/-! codes -/
theorem out_good {out : List Int} (h : okOut out) : good out = true := by
  unfold good
  rw [List.all_eq_true]
  intro x hx
  have := h.2 x hx
  simp [ok1, this]
theorem codes_of {out : List Int} (h : okOut out) (h0 : (cd out).2 = 0) : LenOk (nat out) ∧ (nat out).length = 256 ∧ (cd out).1 = (List.range 256).map (fun i => ((code (nat out) i : Nat) : Int)) := by
  have hlen : (nat out).length = 256 := by rw [nat_len, h.1]
  have hle : ∀ k, mAt (nat out) k ≤ 48 := fun k => by
    by_cases hk : k < out.length
    · exact (good_get (out_good h) hk).2
    · rw [nat_at, List.getD_eq_getElem?_getD, List.getElem?_eq_none (by omega)]; decide
  unfold cd at h0 ⊢
  split at h0
  · rename_i hk; exact absurd h0 hk
  · rename_i hk
    have hk0 : (kr out).2 = 0 := by simpa using hk
    obtain ⟨k1, k2, k3, k4⟩ := kr_ok hk0
    split at h0
    · cases h0
    · rename_i hgt
      rw [if_neg hk, if_neg hgt]
      refine ⟨⟨by omega, hle, ?_⟩, hlen, ?_⟩
      · rw [hlen, ← h.1]
        rw [k4] at hgt
        have : (2 : Nat) ^ 48 = 281474976710656 := by decide
        omega
      · unfold ints implOut
        rw [hlen, List.map_map]
        apply List.map_congr_left
        intro i _
        have hi := hle i
        by_cases hz : mAt (nat out) i = 0
        · have : Huf.cond (nat out) 49 0 i = false := by rw [Bool.eq_false_iff]; intro h; simp [Huf.cond] at h; omega
          show (((if Huf.cond (nat out) 49 0 i = true then code (nat out) i else 0 : Nat)) : Int) = _
          rw [this]
          have : code (nat out) i = 0 := refTo_none _ _ _ hz
          rw [this]; rfl
        · have : Huf.cond (nat out) 49 0 i = true := by simp [Huf.cond]; omega
          show (((if Huf.cond (nat out) 49 0 i = true then code (nat out) i else 0 : Nat)) : Int) = _
          rw [if_pos this]
theorem out_at {out : List Int} (h : okOut out) {i : Nat} (hi : i < 256) : out[i]? = some ((mAt (nat out) i : Nat) : Int) := by
  have hl : i < out.length := by rw [h.1]; exact hi
  rw [List.getElem?_eq_getElem hl, (good_get (out_good h) hl).1]
theorem code_at {out : List Int} {cs : List Int} (hc : cs = (List.range 256).map (fun i => ((code (nat out) i : Nat) : Int))) {i : Nat} (hi : i < 256) : cs[i]? = some ((code (nat out) i : Nat) : Int) := by
  rw [hc]; simp [hi]
theorem code_lt48 {l : List Nat} (hl : LenOk l) {i : Nat} (hi : i < l.length) : code l i < 281474976710656 := by
  by_cases h0 : mAt l i = 0
  · have : code l i = 0 := refTo_none _ _ _ h0
    omega
  · have h1 := code_top l (mAt l i) i (by omega) (hl.le i) hi rfl hl.kr
    have h2 : 2 ^ mAt l i ≤ 2 ^ 48 := Nat.pow_le_pow_right (by decide) (hl.le i)
    have h3 : (2 : Nat) ^ 48 = 281474976710656 := by decide
    omega
/-! the map -/
theorem map_go {out : List Int} (ho : okOut out) {r10 : List Int × Int} (hc : r10.1 = (List.range 256).map (fun i => ((code (nat out) i : Nat) : Int))) (hl : LenOk (nat out)) (r6 : List Int × List UInt8 × Int) (h6 : r6.1 = out) (kk : CM → Option (List UInt8 × Int)) :
    ∀ (d k j : Nat) (M : CM), 256 - j = d → d < k → j ≤ 256 → MapOk (nat out) j M → ∃ M', MapOk (nat out) 256 M' ∧ f_press_open_L46 r6 r10 kk k M (j : Int) = kk M'
  | _, 0, _, _, _, hk, _, _ => absurd hk (Nat.not_lt_zero _)
  | d, k + 1, j, M, hd, hk, hj, hM => by
    have hlen : (nat out).length = 256 := by rw [nat_len, ho.1]
    rw [f_press_open_L46, h6, ho.1]
    by_cases h : j < 256
    · rw [cond_tt (dlt (show (j : Int) < ((256 : Nat) : Int) by omega)), lt_of, at_of (out_at ho h), opt_of]
      dsimp only
      rw [wsucc (by omega)]
      by_cases h0 : mAt (nat out) j = 0
      · rw [cond_ff (decide_eq_false (show ¬ ((mAt (nat out) j : Nat) : Int) > 0 by omega))]
        refine map_go ho hc hl r6 h6 kk (d - 1) k (j + 1) M (by omega) (by omega) (by omega) ⟨fun i hi hp => hM.get i (by rcases Nat.lt_or_eq_of_le (Nat.le_of_lt_succ hi) with h | h; exact h; subst h; omega) hp, fun x v hx => ?_⟩
        obtain ⟨i, i1, i2, i3⟩ := hM.inv x v hx
        exact ⟨i, by omega, i2, i3⟩
      · have hc48 := code_lt48 hl (i := j) (by omega)
        have hm48 := hl.le j
        rw [cond_tt (decide_eq_true (show ((mAt (nat out) j : Nat) : Int) > 0 by omega)), at_of (code_at hc h), opt_of]
        rw [req_pos (wf_i64 (by omega) (by omega)), req_pos (wf_i64 (by omega) (by omega)), u8w (x := (j : Int)) (by omega)]
        refine map_go ho hc hl r6 h6 kk (d - 1) k (j + 1) _ (by omega) (by omega) (by omega) ⟨fun i hi hp => ?_, fun x v hx => ?_⟩
        · rw [gget_gset]
          by_cases hi2 : i = j
          · subst hi2; rw [if_pos rfl]
          · rw [if_neg ?_]
            · exact hM.get i (by omega) hp
            · intro e
              have e1 : code (nat out) j = code (nat out) i := by have := congrArg S_press_code.bits e; dsimp only at this; omega
              have e2 : mAt (nat out) j = mAt (nat out) i := by have := congrArg S_press_code.n e; dsimp only at this; omega
              exact hi2 (code_one (nat out) (i := i) (j := j) (by omega) (by omega) e2 rfl hp (hl.le i) (Nat.le_refl _) (by rw [Nat.sub_self, Nat.pow_zero, Nat.div_one, e1]))
        · rw [gget_gset] at hx
          split at hx
          · rename_i e
            exact ⟨j, by omega, by omega, e.symm⟩
          · obtain ⟨i, i1, i2, i3⟩ := hM.inv x v hx
            exact ⟨i, by omega, i2, i3⟩
    · have : j = 256 := by omega
      subst this
      rw [cond_ff (dge (Int.le_refl _))]
      exact ⟨M, hM, rfl⟩
/-! words and bits -/
def wd (l : List Nat) (k : Nat) : List (List UInt8) := (List.range 256).map fun j => if j < k then bw (code l j) (mAt l j) else []
theorem wd_set (l : List Nat) {k : Nat} (hk : k < 256) : (wd l k).set k (bw (code l k) (mAt l k)) = wd l (k + 1) := by
  apply List.ext_getElem?
  intro i
  unfold wd
  rw [List.getElem?_set]
  by_cases hi : i < 256
  · by_cases he : k = i
    · subst he; simp [hi]
    · by_cases h2 : i < k
      · simp [he, hi, h2, show i < k + 1 by omega]
      · simp [he, hi, h2, show ¬ i < k + 1 by omega]
  · by_cases he : k = i
    · omega
    · simp [he, hi]
theorem wd_len (l : List Nat) (k : Nat) : (wd l k).length = 256 := by simp [wd]
theorem words_go {out : List Int} (ho : okOut out) {r21 : List Int × Int} (hc : r21.1 = (List.range 256).map (fun i => ((code (nat out) i : Nat) : Int))) (hl : LenOk (nat out)) (kk : List (List UInt8) → Option (List UInt8 × Int)) {fu : Nat} (hf : 100 ≤ fu) :
    ∀ (d k j : Nat), 256 - j = d → d < k → j ≤ 256 → f_lumref_Open_L67 out r21 kk fu k (wd (nat out) j) (j : Int) = kk (words (nat out))
  | _, 0, _, _, hk, _ => absurd hk (Nat.not_lt_zero _)
  | d, k + 1, j, hd, hk, hj => by
    have hlen : (nat out).length = 256 := by rw [nat_len, ho.1]
    rw [f_lumref_Open_L67, ho.1]
    by_cases h : j < 256
    · have hc48 := code_lt48 hl (i := j) (by omega)
      rw [cond_tt (dlt (show (j : Int) < ((256 : Nat) : Int) by omega)), at_of (out_at ho h), opt_of, at_of (code_at hc h), opt_of, bits_ok _ fu _ (by have := hl.le j; omega) (hl.le j) (by omega), opt_of, at_lt (by rw [wd_len]; exact h), opt_of, Int.toNat_natCast, wd_set _ h, wsucc (by omega)]
      exact words_go ho hc hl kk hf (d - 1) k (j + 1) (by omega) (by omega) (by omega)
    · have : j = 256 := by omega
      subst this
      rw [cond_ff (dge (Int.le_refl _))]
      congr 1
      unfold wd words
      rw [hlen]
      apply List.map_congr_left
      intro i hi
      rw [if_pos (List.mem_range.1 hi)]
theorem all_go (r12 : A3i64 × List UInt8 × Int) (s : List UInt8) (hs : r12.2.1.drop (IntKind.i64.wrap (2 * r12.1.e2)).toNat = s) (hl : s.length ≤ 4000000) (kk : List UInt8 → Option (List UInt8 × Int)) {fu : Nat} (hf : 100 ≤ fu) :
    ∀ (d k j : Nat), s.length - j = d → d < k → j ≤ s.length → f_lumref_Open_L55 r12 kk fu k ((s.take j).flatMap byteBits) (j : Int) = kk (s.flatMap byteBits)
  | _, 0, _, _, hk, _ => absurd hk (Nat.not_lt_zero _)
  | d, k + 1, j, hd, hk, hj => by
    rw [f_lumref_Open_L55, hs]
    by_cases h : j < s.length
    · have hb := (s[j]).toNat_lt
      rw [cond_tt (dlt (by omega)), at_lt h, opt_of, w64 (x := ((s[j]).toNat : Int)) (by omega) (by omega), show (8 : Int) = ((8 : Nat) : Int) from rfl, bits_ok 8 fu (s[j]).toNat (by omega) (by omega) (by omega), opt_of]
      have hw : f___strings_Builder__WriteString_sb fu ((s.take j).flatMap byteBits) (bw (s[j]).toNat 8) = some (((bw (s[j]).toNat 8).length : Int), (), (s.take j).flatMap byteBits ++ bw (s[j]).toNat 8) := by
        unfold f___strings_Builder__WriteString_sb
        rw [req_pos (by rw [flat_len, List.length_take, bw_len]; omega)]
      rw [hw, opt_of, wsucc (by omega)]
      have e : (s.take j).flatMap byteBits ++ bw (s[j]).toNat 8 = (s.take (j + 1)).flatMap byteBits := by
        rw [List.take_add_one, List.getElem?_eq_getElem h, List.flatMap_append]
        simp [byteBits]
      dsimp only
      rw [e]
      exact all_go r12 s hs hl kk hf (d - 1) k (j + 1) (by omega) (by omega) (by omega)
    · rw [cond_ff (dge (by omega)), List.take_of_length_le (by omega)]
/-! sign after sign -/
theorem main_go {l : List Nat} (hl : LenOk l) (h256 : l.length = 256) {M0 : CM} (hM : MapOk l 256 M0) (bits : List UInt8) (hb : ∀ x ∈ bits, isBit x) (hbl : bits.length ≤ 40000000) (n : Nat) (hn : n ≤ 12288) (r2 : A3i64 × List UInt8 × Int) (h2 : r2.1.e1 = (n : Int)) {fu : Nat} (hf : 1000 ≤ fu)
    (kc : List UInt8 → Int → List UInt8 → Option (List UInt8 × Int)) (kr : List UInt8 → Int → Option (List UInt8 × Int × Int)) :
    ∀ (d k : Nat) (s : List UInt8) (left at_ : Nat) (out : List UInt8), n - out.length = d → d < k → out.length ≤ n → Ok s left → at_ ≤ bits.length → bl s left = bits.drop at_ →
    (∃ e : Int, e ≠ 0 ∧ f_press_open_L34 r2 kc fu k M0 s (left : Int) out (out.length : Int) = some ([], e) ∧ f_lumref_signsOf_L5 bits (words l) (n : Int) kr fu k out (at_ : Int) = some ([], 0, e)) ∨
    ∃ (s' : List UInt8) (l' at' : Nat) (out' : List UInt8), Ok s' l' ∧ at' ≤ bits.length ∧ bl s' l' = bits.drop at' ∧ f_press_open_L34 r2 kc fu k M0 s (left : Int) out (out.length : Int) = kc s' (l' : Int) out' ∧ f_lumref_signsOf_L5 bits (words l) (n : Int) kr fu k out (at_ : Int) = kr out' (at' : Int)
  | _, 0, _, _, _, _, _, hk, _, _, _, _ => absurd hk (Nat.not_lt_zero _)
  | d, k + 1, s, left, at_, out, hd, hk, ho, hok, hat, hs => by
    rw [f_press_open_L34, f_lumref_signsOf_L5, h2, lt_of]
    by_cases h : out.length < n
    · rw [cond_tt (dlt (show (out.length : Int) < n by omega)), cond_tt (dlt (show (out.length : Int) < n by omega)), lt_of]
      have hM' : MapOk l l.length M0 := by rw [h256]; exact hM
      have hfind := find_go hl bits hb at_ hat (fun (j8i11 : Int) => (bif (decide (j8i11 < (0 : Int))) then (bif (decide ((IntKind.i64.wrap ((bits.length : Int) - (at_ : Int))) ≥ (48 : Int))) then (some (([] : List UInt8), (0 : Int), (4 : Int))) else (some (([] : List UInt8), (0 : Int), (3 : Int)))) else (req (0 ≤ (IntKind.u8.wrap j8i11) ∧ (IntKind.u8.wrap j8i11) ≤ 255) (req (((out.length + ([(UInt8.ofNat ((IntKind.u8.wrap j8i11)).toNat)]).length) * 1 : Nat) ≤ 140737488355328 ∧ out.length + ([(UInt8.ofNat ((IntKind.u8.wrap j8i11)).toNat)]).length ≤ 9223372036854775807) (opt (at? (words l) j8i11) fun (u16 : (List UInt8)) => (f_lumref_signsOf_L5 bits (words l) (n : Int) kr fu k (out ++ ([(UInt8.ofNat ((IntKind.u8.wrap j8i11)).toNat)])) (IntKind.i64.wrap ((at_ : Int) + (u16.length : Int))))))))) fu _ fu 0 (-1) rfl (by omega)
      rw [show ((0 : Nat) : Int) = (0 : Int) from rfl] at hfind
      rcases sym_ok hl hM' (show 100 ≤ fu by omega) s left hok with ⟨i, s', l', f1, f2, f3, f4⟩ | ⟨p, f1, f2⟩
      · rw [hs] at f1 f3
        have hi := f1.1
        rcases hfind with ⟨j, j1, j2, j3⟩ | ⟨j1, j2⟩
        · have e : i = j := Huf.fits_one hl.le f1 j2
          subst e
          refine Or.imp ?_ ?_ (main_go hl h256 hM bits hb hbl n hn r2 h2 hf kc kr (d - 1) k s' l' (at_ + mAt l i) (out ++ [UInt8.ofNat i]) (by rw [List.length_append, List.length_singleton]; omega) (by omega) (by rw [List.length_append, List.length_singleton]; omega) f2 (by have := f1.2.2.1; rw [List.length_drop] at this; omega) (by rw [f3, List.drop_drop]))
          all_goals
            rw [f4, opt_of]
            dsimp only
            rw [cond_ff (show ((0 : Int) != 0) = false by decide), req_pos (show 0 ≤ (i : Int) ∧ (i : Int) ≤ 255 by omega), req_pos (by rw [List.length_singleton]; omega), Int.toNat_natCast, wsucc (by omega), j3]
            rw [cond_ff (decide_eq_false (show ¬ (i : Int) < 0 by omega)), u8w (x := (i : Int)) (by omega), req_pos (show 0 ≤ (i : Int) ∧ (i : Int) ≤ 255 by omega), req_pos (by rw [List.length_singleton]; omega), at_of (words_at hi), opt_of, Int.toNat_natCast, bw_len, w64 (x := (at_ : Int) + (mAt l i : Nat)) (by have := hl.le i; omega) (by have := hl.le i; omega), show (at_ : Int) + (mAt l i : Nat) = ((at_ + mAt l i : Nat) : Int) by omega, List.length_append, List.length_singleton]
            exact id
        · exact absurd f1 (j1 i (Nat.zero_le _))
      · rw [hs] at f1 f2
        rcases hfind with ⟨j, j1, j2, j3⟩ | ⟨j1, j2⟩
        · exact absurd j2 (f1 j)
        · rw [f2, opt_of, j2]
          dsimp only
          rw [cond_tt (decide_eq_true (show (-1 : Int) < 0 by decide)), w64 (x := (bits.length : Int) - at_) (by omega) (by omega), List.length_drop]
          by_cases h48 : 48 ≤ bits.length - at_
          · rw [if_pos h48, cond_tt (decide_eq_true (show (bits.length : Int) - at_ ≥ 48 by omega))]
            exact .inl ⟨4, by decide, rfl, rfl⟩
          · rw [if_neg h48, cond_ff (decide_eq_false (show ¬ (bits.length : Int) - at_ ≥ 48 by omega))]
            exact .inl ⟨3, by decide, rfl, rfl⟩
    · have e : out.length = n := by omega
      rw [cond_ff (dge (show (n : Int) ≤ out.length by omega)), cond_ff (dge (show (n : Int) ≤ out.length by omega))]
      exact .inr ⟨s, left, at_, out, hok, hat, hs, rfl, rfl⟩
end Go.Proofs.Ytgmggcpceemnnaa.PPo
