/- A sign out of bits: by the map and by the list of words. No condition. -/
import Derived.Test.YtgmggcpceemnnaaPnBits
namespace Go.Proofs.Ytgmggcpceemnnaa.PPo
open Go.RowKit Ytgmggcpceemnnaa.En Ytgmggcpceemnnaa Ytgmggcpceemnnaa.Huf
set_option linter.unusedVariables false
set_option linter.unusedSimpArgs false
abbrev CM := List (S_press_code × Int)
structure MapOk (l : List Nat) (k : Nat) (M : CM) : Prop where
  get : ∀ i, i < k → 0 < mAt l i → gget M ⟨(code l i : Nat), (mAt l i : Nat)⟩ = some (i : Int)
  inv : ∀ x v, gget M x = some v → ∃ i, i < k ∧ 0 < mAt l i ∧ x = ⟨(code l i : Nat), (mAt l i : Nat)⟩
structure LenOk (l : List Nat) : Prop where
  len : l.length ≤ 256
  le : ∀ k, mAt l k ≤ 48
  kr : kraftTo l l.length ≤ 2 ^ 48
theorem wf_i64 {x : Int} (h0 : -9223372036854775808 ≤ x) (h1 : x ≤ 9223372036854775807) : (Lit.int .i64 x).wf = true := by
  simpa [Lit.wf, IntKind.min, IntKind.max, IntKind.signed, IntKind.bits] using ⟨h0, h1⟩
theorem or_bit {c b : Nat} (hc : c < 281474976710656) (hb : b < 2) : bits .or .i64 (IntKind.i64.wrap ((c : Int) * 2 ^ min ((1 : Int)).toNat (IntKind.bits .i64))) (b : Int) = ((2 * c + b : Nat) : Int) := by
  have e : (c : Int) * 2 ^ min ((1 : Int)).toNat (IntKind.bits .i64) = ((2 * c : Nat) : Int) := by
    have : min ((1 : Int)).toNat (IntKind.bits .i64) = 1 := by decide
    rw [this]; omega
  rw [e, w64 (by omega) (by omega), i64_or_nat (2 * c) b (by omega) (by omega)]
  have := Nat.two_pow_add_eq_or_of_lt (i := 1) (b := b) (by simpa using hb) c
  rw [show 2 ^ 1 = 2 from rfl] at this
  rw [this]
theorem take_next {B : List UInt8} {n : Nat} {x : UInt8} {r : List UInt8} (h : B.drop n = x :: r) : B.take (n + 1) = B.take n ++ [x] ∧ B.drop (n + 1) = r ∧ n < B.length := by
  have hn : n < B.length := by
    rcases Nat.lt_or_ge n B.length with h1 | h1
    · exact h1
    · rw [List.drop_of_length_le h1] at h; cases h
  rw [List.drop_eq_getElem_cons hn] at h
  obtain ⟨h1, h2⟩ := List.cons.inj h
  exact ⟨by rw [List.take_add_one, List.getElem?_eq_getElem hn, h1]; rfl, h2, hn⟩
theorem sym_go {l : List Nat} (hl : LenOk l) {M : CM} (hM : MapOk l l.length M) (fu : Nat) (B : List UInt8) : ∀ (d k n : Nat) (s : List UInt8) (left : Nat), 48 - n = d → d < k → n ≤ 48 → n ≤ B.length → Ok s left → bl s left = B.drop n → (∀ i, Fits l B i → n < mAt l i) →
    (∃ (i : Nat) (s' : List UInt8) (l' : Nat), Fits l B i ∧ Ok s' l' ∧ bl s' l' = B.drop (mAt l i) ∧ f___press_reader__symbol_L4 M fu k s (left : Int) ((valb (B.take n) : Nat) : Int) (n : Int) = some ((i : Int), 0, ⟨s', l'⟩, M)) ∨
    ∃ p, (∀ i, ¬ Fits l B i) ∧ f___press_reader__symbol_L4 M fu k s (left : Int) ((valb (B.take n) : Nat) : Int) (n : Int) = some (0, (if 48 ≤ B.length then 4 else 3), p, M)
  | _, 0, _, _, _, _, hk, _, _, _, _, _ => absurd hk (Nat.not_lt_zero _)
  | d, k + 1, n, s, left, hd, hk, hn, hnB, hok, hb, hno => by
    rw [f___press_reader__symbol_L4]
    by_cases h48 : n = 48
    · rw [cond_tt (show ((n : Int) == 48) = true by rw [h48]; rfl)]
      refine .inr ⟨_, fun i hi => ?_, by rw [if_pos (by omega)]⟩
      have := hno i hi
      have := hl.le i
      omega
    · rw [cond_ff (show ((n : Int) == 48) = false from beq_false_of_ne (by omega))]
      cases hB : B.drop n with
      | nil =>
        have hlen : B.length = n := by
          have := congrArg List.length hB
          rw [List.length_drop, List.length_nil] at this; omega
        rw [bit_none fu s left hok (hb.trans hB), opt_of, cond_tt (show (!false) = true from rfl)]
        refine .inr ⟨_, fun i hi => ?_, by rw [if_neg (by omega)]⟩
        have := hno i hi
        have := hi.2.2.1
        omega
      | cons x r =>
        obtain ⟨t1, t2, t3⟩ := take_next hB
        obtain ⟨s', l', o1, o2, o3⟩ := bit_some fu s left hok x r (hb.trans hB)
        obtain ⟨b, hbv⟩ : ∃ b : Nat, b = (if x = 49 then 1 else 0) := ⟨_, rfl⟩
        have hb2 : b < 2 := by rw [hbv]; split <;> omega
        have hv : valb (B.take (n + 1)) = 2 * valb (B.take n) + b := by
          rw [t1, valb_app, hbv]
          have h1 : valb [x] = if x = 49 then 1 else 0 := rfl
          rw [h1, show [x].length = 1 from rfl]
          split <;> omega
        have hc : valb (B.take n) < 281474976710656 := by
          have h1 := valb_lt (B.take n)
          have h2 : 2 ^ (B.take n).length ≤ 2 ^ 48 := Nat.pow_le_pow_right (by decide) (by rw [List.length_take]; omega)
          have h3 : (2 : Nat) ^ 48 = 281474976710656 := by decide
          omega
        rw [o3, opt_of]
        dsimp only
        rw [cond_ff (show (!true) = false from rfl), ← hbv, or_bit hc hb2, ← hv, wsucc (by omega), req_pos (wf_i64 (by omega) (by omega)), req_pos (wf_i64 (by omega) (by omega))]
        cases hg : gget M ⟨((valb (B.take (n + 1)) : Nat) : Int), ((n + 1 : Nat) : Int)⟩ with
        | some v =>
          obtain ⟨i, i1, i2, i3⟩ := hM.inv _ _ hg
          have e1 : valb (B.take (n + 1)) = code l i := by have := congrArg S_press_code.bits i3; dsimp only at this; omega
          have e2 : n + 1 = mAt l i := by have := congrArg S_press_code.n i3; dsimp only at this; omega
          have hv2 : v = (i : Int) := by
            have := hM.get i i1 i2
            rw [← e1, ← e2, hg] at this
            exact Option.some.inj this
          rw [cond_tt (show (some v : Option Int).isSome = true from rfl)]
          exact .inl ⟨i, s', l', ⟨i1, i2, by omega, by rw [← e2]; exact e1⟩, o1, by rw [← e2, t2]; exact o2, by rw [hv2]; rfl⟩
        | none =>
          rw [cond_ff (show (none : Option Int).isSome = false from rfl)]
          refine sym_go hl hM fu B (d - 1) k (n + 1) s' l' (by omega) (by omega) (by omega) (by omega) o1 (by rw [t2]; exact o2) (fun i hi => ?_)
          have h1 := hno i hi
          rcases Nat.lt_or_eq_of_le h1 with h2 | h2
          · exact h2
          · exfalso
            have h3 := hM.get i hi.1 hi.2.1
            have h4 := hi.2.2.2
            have h5 : mAt l i = n + 1 := by omega
            rw [h5] at h3 h4
            rw [← h4, hg] at h3
            cases h3
theorem sym_ok {l : List Nat} (hl : LenOk l) {M : CM} (hM : MapOk l l.length M) {fu : Nat} (hf : 100 ≤ fu) (s : List UInt8) (left : Nat) (hok : Ok s left) :
    (∃ (i : Nat) (s' : List UInt8) (l' : Nat), Fits l (bl s left) i ∧ Ok s' l' ∧ bl s' l' = (bl s left).drop (mAt l i) ∧ f___press_reader__symbol fu ⟨s, left⟩ M = some ((i : Int), 0, ⟨s', l'⟩, M)) ∨
    ∃ p, (∀ i, ¬ Fits l (bl s left) i) ∧ f___press_reader__symbol fu ⟨s, left⟩ M = some (0, (if 48 ≤ (bl s left).length then 4 else 3), p, M) := by
  unfold f___press_reader__symbol
  exact sym_go hl hM fu (bl s left) 48 fu 0 s left rfl (by omega) (by omega) (Nat.zero_le _) hok rfl (fun i hi => hi.2.1)
/-! the words -/
theorem hpx (fu : Nat) (a p : List UInt8) : f_strings_HasPrefix fu a p = some (decide (a.take p.length = p)) := by
  unfold f_strings_HasPrefix f_stringslite_HasPrefix
  rw [lt_of]
  by_cases h : p.length ≤ a.length
  · rw [cond_tt (decide_eq_true (by omega)), req_pos (by omega), Int.toNat_natCast, opt_of]
    congr 1
    by_cases he : a.take p.length = p
    · rw [decide_eq_true he, he]; simp
    · rw [decide_eq_false he]; exact beq_false_of_ne he
  · rw [cond_ff (decide_eq_false (by omega)), opt_of, decide_eq_false (fun he => by
      have := congrArg List.length he
      rw [List.length_take] at this
      omega)]
def words (l : List Nat) : List (List UInt8) := (List.range l.length).map fun i => bw (code l i) (mAt l i)
theorem words_len (l : List Nat) : (words l).length = l.length := by simp [words]
theorem words_at {l : List Nat} {i : Nat} (h : i < l.length) : (words l)[i]? = some (bw (code l i) (mAt l i)) := by simp [words, h]
theorem fits_iff {l : List Nat} (hl : LenOk l) {B : List UInt8} (hB : ∀ x ∈ B, isBit x) {i : Nat} (hi : i < l.length) (h0 : 0 < mAt l i) : Fits l B i ↔ B.take (mAt l i) = bw (code l i) (mAt l i) := by
  have hc := code_top l (mAt l i) i h0 (hl.le i) hi rfl hl.kr
  rw [← prefix_iff (by omega) hB]
  exact ⟨fun h => h.2.2, fun h => ⟨hi, h0, h⟩⟩
theorem find_go {l : List Nat} (hl : LenOk l) (bits : List UInt8) (hb : ∀ x ∈ bits, isBit x) (at_ : Nat) (hat : at_ ≤ bits.length) (kk : Int → Option (List UInt8 × Int × Int)) (fu : Nat) : ∀ (d k i : Nat) (found : Int), l.length - i = d → d < k →
    (∃ j : Nat, i ≤ j ∧ Fits l (bits.drop at_) j ∧ f_lumref_signsOf_L21 bits (words l) (at_ : Int) kk fu k found (i : Int) = kk (j : Int)) ∨
    ((∀ j, i ≤ j → ¬ Fits l (bits.drop at_) j) ∧ f_lumref_signsOf_L21 bits (words l) (at_ : Int) kk fu k found (i : Int) = kk found)
  | _, 0, _, _, _, hk => absurd hk (Nat.not_lt_zero _)
  | d, k + 1, i, found, hd, hk => by
    have hlen := hl.len
    rw [f_lumref_signsOf_L21, words_len]
    have hB : ∀ x ∈ bits.drop at_, isBit x := fun x hx => hb x (List.mem_of_mem_drop hx)
    by_cases h : i < l.length
    · rw [cond_tt (dlt (by omega)), lt_of, at_of (words_at h), opt_of, lt_of, wsucc (by omega)]
      have ih := fun f => find_go hl bits hb at_ hat kk fu (d - 1) k (i + 1) f (by omega) (by omega)
      by_cases h0 : mAt l i = 0
      · have e : bw (code l i) (mAt l i) = [] := by rw [h0]; rfl
        rw [e, cond_ff (show (!(([] : List UInt8) == [])) = false from rfl)]
        dsimp only
        rw [cond_ff rfl]
        have hn : ¬ Fits l (bits.drop at_) i := fun hf => by have := hf.2.1; omega
        rcases ih found with ⟨j, j1, j2, j3⟩ | ⟨j1, j2⟩
        · exact .inl ⟨j, by omega, j2, j3⟩
        · refine .inr ⟨fun j hj => ?_, j2⟩
          rcases Nat.eq_or_lt_of_le hj with he | hlt
          · subst he; exact hn
          · exact j1 j hlt
      · have hne : (!(bw (code l i) (mAt l i) == ([] : List UInt8))) = true := by
          have : bw (code l i) (mAt l i) ≠ [] := fun e => by
            have := congrArg List.length e
            rw [bw_len, List.length_nil] at this
            exact h0 this
          simpa using this
        rw [cond_tt hne, req_pos (by omega), Int.toNat_natCast, hpx, opt_of, bw_len]
        dsimp only
        have hfi := fits_iff hl hB h (by omega)
        by_cases hf : Fits l (bits.drop at_) i
        · rw [decide_eq_true (hfi.1 hf), cond_tt rfl]
          rcases ih (i : Int) with ⟨j, j1, j2, j3⟩ | ⟨j1, j2⟩
          · exact .inl ⟨j, by omega, j2, j3⟩
          · exact .inl ⟨i, Nat.le_refl _, hf, j2⟩
        · rw [decide_eq_false (fun e => hf (hfi.2 e)), cond_ff rfl]
          rcases ih found with ⟨j, j1, j2, j3⟩ | ⟨j1, j2⟩
          · exact .inl ⟨j, by omega, j2, j3⟩
          · refine .inr ⟨fun j hj => ?_, j2⟩
            rcases Nat.eq_or_lt_of_le hj with he | hlt
            · subst he; exact hf
            · exact j1 j hlt
    · rw [cond_ff (dge (by omega))]
      exact .inr ⟨fun j hj hf => by have := hf.1; omega, rfl⟩
end Go.Proofs.Ytgmggcpceemnnaa.PPo
