/- The plain functions of package huff and of the reference agree: HuffCodes. No condition. -/
import Derived.Test.YtgmggcpceemnnaaWPackOnes
import Derived.Test.YtgmggcpceemnnaaHuffMath
import Derived.Test.YtgmggcpceemnnaaPl0
namespace Go.Proofs.Ytgmggcpceemnnaa.Huf
open Go.RowKit Ytgmggcpceemnnaa.En Ytgmggcpceemnnaa
set_option linter.unusedVariables false
set_option linter.unusedSimpArgs false
def ok1 (x : Int) : Bool := decide (0 ≤ x) && decide (x ≤ 48)
def good (l : List Int) : Bool := l.all ok1
def nat (l : List Int) : List Nat := l.map Int.toNat
theorem nat_at (l : List Int) (k : Nat) : mAt (nat l) k = (l.getD k 0).toNat := by
  unfold mAt nat
  simp only [List.getD_eq_getElem?_getD, List.getElem?_map]
  cases l[k]? <;> rfl
theorem nat_len (l : List Int) : (nat l).length = l.length := by simp [nat]
theorem good_get {l : List Int} (h : good l = true) {k : Nat} (hk : k < l.length) : l[k] = ((mAt (nat l) k : Nat) : Int) ∧ mAt (nat l) k ≤ 48 := by
  have h1 := List.all_eq_true.1 h l[k] (List.getElem_mem hk)
  unfold ok1 at h1
  simp only [Bool.and_eq_true, decide_eq_true_eq] at h1
  rw [nat_at, List.getD_eq_getElem?_getD, List.getElem?_eq_getElem hk, Option.getD_some]
  omega
theorem lit_any (x : Int) (fu : Nat) : f_huff_Kraft_1 fu x = some (!ok1 x) := by
  unfold f_huff_Kraft_1 ok1
  rw [lt_of]
  by_cases h0 : x < 0
  · rw [cond_tt (dlt h0), show decide (0 ≤ x) = false from decide_eq_false (by omega)]; rfl
  · rw [cond_ff (dge (by omega)), show decide (0 ≤ x) = true from decide_eq_true (by omega)]
    by_cases h1 : x ≤ 48
    · rw [show decide (x > 48) = false from decide_eq_false (by omega), show decide (x ≤ 48) = true from decide_eq_true h1]; rfl
    · rw [show decide (x > 48) = true from decide_eq_true (by omega), show decide (x ≤ 48) = false from decide_eq_false h1]; rfl
theorem idx_loop (l : List Int) (kk : Unit → Option Int) (fu : Nat) (hm : l.length ≤ 256) : ∀ (fuel k : Nat), k ≤ l.length → l.length - k < fuel → (∀ j, j < k → ∀ x, l[j]? = some x → ok1 x = true) →
    (good l = true ∧ f_slices_IndexFunc___int_int__F194_L5 l kk fu fuel (k : Int) = kk ()) ∨ (good l = false ∧ ∃ j : Nat, f_slices_IndexFunc___int_int__F194_L5 l kk fu fuel (k : Int) = some (j : Int))
  | 0, k, _, hf, _ => absurd hf (Nat.not_lt_zero _)
  | fuel + 1, k, hk, hf, hall => by
    rw [f_slices_IndexFunc___int_int__F194_L5]
    by_cases hlt : k < l.length
    · rw [cond_tt (dlt (by omega)), at_lt hlt, opt_of, lit_any, opt_of]
      by_cases ho : ok1 l[k] = true
      · rw [cond_ff (by rw [ho]; rfl), wsucc (by omega)]
        refine idx_loop l kk fu hm fuel (k + 1) (by omega) (by omega) (fun j hj x hx => ?_)
        by_cases hjk : j = k
        · subst hjk; rw [List.getElem?_eq_getElem hlt] at hx; cases hx; exact ho
        · exact hall j (by omega) x hx
      · rw [cond_tt (by simpa using ho)]
        right
        refine ⟨?_, k, rfl⟩
        rw [Bool.eq_false_iff]; intro hg
        exact ho (List.all_eq_true.1 hg _ (List.getElem_mem hlt))
    · rw [cond_ff (dge (by omega))]
      left
      refine ⟨List.all_eq_true.2 fun x hx => ?_, rfl⟩
      obtain ⟨j, hj⟩ := List.getElem?_of_mem hx
      exact hall j (by have := (List.getElem?_eq_some_iff.1 hj).1; omega) x hj
theorem contains_any (l : List Int) (fu : Nat) (hm : l.length ≤ 256) (hf : 257 ≤ fu) : f_slices_ContainsFunc___int_int__F194 fu l = some (!good l) := by
  unfold f_slices_ContainsFunc___int_int__F194 f_slices_IndexFunc___int_int__F194
  rw [lt_of]
  rcases idx_loop l (fun _ => some (-1 : Int)) fu hm fu 0 (by omega) (by omega) (fun j hj => by omega) with ⟨hg, h⟩ | ⟨hg, j, h⟩
  · rw [show ((0 : Int)) = ((0 : Nat) : Int) from rfl, h, opt_of, hg]; rfl
  · rw [show ((0 : Int)) = ((0 : Nat) : Int) from rfl, h, opt_of, hg]
    simp
theorem shl_pow {m : Nat} (h : m ≤ 48) : IntKind.i64.wrap ((1 : Int) * 2 ^ min m (IntKind.bits .i64)) = ((2 ^ m : Nat) : Int) := by
  have hb : min m (IntKind.bits .i64) = m := Nat.min_eq_left (by show m ≤ 64; omega)
  have h2 : (2 : Nat) ^ m ≤ 2 ^ 48 := Nat.pow_le_pow_right (by decide) h
  rw [hb, show ((1 : Int) * 2 ^ m) = ((2 ^ m : Nat) : Int) from by simp]
  clear hb
  obtain ⟨p, hp⟩ : ∃ p, p = 2 ^ m := ⟨_, rfl⟩
  rw [← hp] at h2 ⊢
  exact w64 (by omega) (by omega)
theorem kraft_loop (l : List Int) (kk : Int → Option (Int × Int)) (hm : l.length ≤ 256) (hg : good l = true) : ∀ (fuel k : Nat), k ≤ l.length → l.length - k < fuel →
    f_huff_Kraft_L8 l kk fuel (kraftTo (nat l) k : Nat) (k : Int) = kk (kraftTo (nat l) l.length : Nat)
  | 0, k, _, hf => absurd hf (Nat.not_lt_zero _)
  | fuel + 1, k, hk, hf => by
    rw [f_huff_Kraft_L8]
    by_cases hlt : k < l.length
    · obtain ⟨hx, hx48⟩ := good_get hg hlt
      have hkr := kraftTo_le (nat l) (k + 1)
      have hs : kraftTo (nat l) (k + 1) = kraftTo (nat l) k + kpart (mAt (nat l) k) := rfl
      have ih := kraft_loop l kk hm hg fuel (k + 1) (by omega) (by omega)
      rw [cond_tt (dlt (by omega)), lt_of, at_lt hlt, opt_of, hx, wsucc (by omega)]
      by_cases hm0 : 0 < mAt (nat l) k
      · have hk0 : kpart (mAt (nat l) k) = 2 ^ (48 - mAt (nat l) k) := if_pos hm0
        have hw : IntKind.i64.wrap ((48 : Int) - (mAt (nat l) k : Nat)) = ((48 - mAt (nat l) k : Nat) : Int) := by rw [w64 (by omega) (by omega)]; omega
        rw [cond_tt (decide_eq_true (by omega)), hw, req_pos (by omega), Int.toNat_natCast, shl_pow (by omega), ← hk0, w64 (by omega) (by omega)]
        rw [hs] at ih
        rw [← ih]; simp
      · have hk0 : kpart (mAt (nat l) k) = 0 := if_neg hm0
        rw [cond_ff (decide_eq_false (by omega)), ← ih, hs, hk0]; rfl
    · obtain rfl : k = l.length := by omega
      rw [cond_ff (dge (by omega))]
def kr (l : List Int) : Int × Int := if l.length < 1 ∨ 256 < l.length ∨ good l = false then (0, 1) else ((kraftTo (nat l) l.length : Nat), 0)
theorem kraft_any (l : List Int) (fu : Nat) (hf : 257 ≤ fu) : f_huff_Kraft fu l = some (kr l) := by
  unfold f_huff_Kraft kr
  rw [lt_of]
  by_cases h0 : l.length < 1
  · rw [cond_tt (dlt (by omega)), if_pos (.inl h0)]; rfl
  · rw [cond_ff (dge (by omega))]
    by_cases h1 : 256 < l.length
    · rw [cond_tt (decide_eq_true (by omega)), if_pos (.inr (.inl h1))]; rfl
    · rw [cond_ff (decide_eq_false (by omega)), contains_any l fu (by omega) hf, opt_of]
      cases hg : good l with
      | false => rw [if_pos (.inr (.inr rfl))]; rfl
      | true =>
        rw [if_neg (fun h => by rcases h with h | h | h; omega; omega; cases h)]
        show lt _ _ = _
        rw [lt_of]
        have := kraft_loop l (fun j => some (j, (0 : Int))) (by omega) hg fu 0 (by omega) (by omega)
        exact this
/-! the reference -/
theorem double_loop (u : Nat) (hu : u ≤ 48) (kk : Int → Option (Int × Int)) : ∀ (fuel k : Nat), k ≤ 48 - u → 48 - u - k < fuel →
    f_lumref_Kraft_L24 (u : Int) kk fuel ((2 ^ k : Nat) : Int) (k : Int) = kk ((2 ^ (48 - u) : Nat) : Int)
  | 0, k, _, hf => absurd hf (Nat.not_lt_zero _)
  | fuel + 1, k, hk, hf => by
    rw [f_lumref_Kraft_L24]
    have hw : IntKind.i64.wrap ((48 : Int) - (u : Int)) = ((48 - u : Nat) : Int) := by rw [w64 (by omega) (by omega)]; omega
    rw [hw]
    by_cases hlt : k < 48 - u
    · have h2 : (2 : Nat) ^ (k + 1) ≤ 2 ^ 48 := Nat.pow_le_pow_right (by decide) (by omega)
      have h3 : (2 : Nat) ^ (k + 1) = 2 ^ k * 2 := Nat.pow_succ 2 k
      rw [cond_tt (dlt (by omega)), wsucc (by omega), w64 (by omega) (by omega)]
      have ih := double_loop u hu kk fuel (k + 1) (by omega) (by omega)
      rw [h3] at ih
      rw [← ih]; simp
    · obtain rfl : k = 48 - u := by omega
      rw [cond_ff (dge (by omega))]
theorem rkraft_loop (l : List Int) (kk : Int → Option (Int × Int)) (fu : Nat) (hfu : 49 ≤ fu) (hm : l.length ≤ 256) : ∀ (fuel k : Nat), k ≤ l.length → l.length - k < fuel → (∀ j, j < k → ∀ x, l[j]? = some x → ok1 x = true) →
    f_lumref_Kraft_L8 l kk fu fuel (kraftTo (nat l) k : Nat) (k : Int) = if good l = true then kk (kraftTo (nat l) l.length : Nat) else some ((0 : Int), (1 : Int))
  | 0, k, _, hf, _ => absurd hf (Nat.not_lt_zero _)
  | fuel + 1, k, hk, hf, hall => by
    rw [f_lumref_Kraft_L8, lt_of]
    by_cases hlt : k < l.length
    · rw [cond_tt (dlt (by omega)), lt_of, at_lt hlt, opt_of, lt_of]
      dsimp only
      by_cases ho : ok1 l[k] = true
      · have hx : l[k] = ((mAt (nat l) k : Nat) : Int) ∧ mAt (nat l) k ≤ 48 := by
          unfold ok1 at ho
          simp only [Bool.and_eq_true, decide_eq_true_eq] at ho
          rw [nat_at, List.getD_eq_getElem?_getD, List.getElem?_eq_getElem hlt, Option.getD_some]
          omega
        obtain ⟨hx, hx48⟩ := hx
        have hkr := kraftTo_le (nat l) (k + 1)
        have hs : kraftTo (nat l) (k + 1) = kraftTo (nat l) k + kpart (mAt (nat l) k) := rfl
        have ih := rkraft_loop l kk fu hfu hm fuel (k + 1) (by omega) (by omega) (fun j hj x hxx => by
          by_cases hjk : j = k
          · subst hjk; rw [List.getElem?_eq_getElem hlt] at hxx; cases hxx; exact ho
          · exact hall j (by omega) x hxx)
        have hd := double_loop (mAt (nat l) k) hx48
        rw [hx, cond_ff (decide_eq_false (by omega)), show decide (((mAt (nat l) k : Nat) : Int) > 48) = false from decide_eq_false (by omega), cond_false, lt_of]
        have hd0 : ∀ kk, f_lumref_Kraft_L24 ((mAt (nat l) k : Nat) : Int) kk fu 1 0 = kk ((2 ^ (48 - mAt (nat l) k) : Nat) : Int) := fun kk => hd kk fu 0 (by omega) (by omega)
        rw [hd0, wsucc (by omega)]
        by_cases hm0 : 0 < mAt (nat l) k
        · have hk0 : kpart (mAt (nat l) k) = 2 ^ (48 - mAt (nat l) k) := if_pos hm0
          rw [cond_tt (decide_eq_true (by omega)), ← hk0, w64 (by omega) (by omega)]
          rw [hs] at ih
          rw [← ih]; simp
        · have hk0 : kpart (mAt (nat l) k) = 0 := if_neg hm0
          rw [cond_ff (decide_eq_false (by omega)), ← ih, hs, hk0]; rfl
      · have hg : good l ≠ true := fun hg => ho (List.all_eq_true.1 hg _ (List.getElem_mem hlt))
        rw [if_neg hg]
        unfold ok1 at ho
        simp only [Bool.and_eq_true, decide_eq_true_eq] at ho
        by_cases hn : l[k] < 0
        · rw [cond_tt (decide_eq_true hn)]; rfl
        · rw [cond_ff (decide_eq_false hn), show decide (l[k] > 48) = true from decide_eq_true (by omega)]; rfl
    · obtain rfl : k = l.length := by omega
      have hg : good l = true := List.all_eq_true.2 fun x hx => by
        obtain ⟨j, hj⟩ := List.getElem?_of_mem hx
        exact hall j (by have := (List.getElem?_eq_some_iff.1 hj).1; omega) x hj
      rw [cond_ff (dge (by omega)), if_pos hg]
theorem rkraft_any (l : List Int) (fu : Nat) (hf : 257 ≤ fu) : f_lumref_Kraft fu l = some (kr l) := by
  unfold f_lumref_Kraft kr
  rw [lt_of]
  by_cases h0 : l.length < 1
  · rw [cond_tt (by rw [beq_iff_eq]; omega), if_pos (.inl h0)]; rfl
  · rw [cond_ff (beq_eq_false_iff_ne.2 (by omega))]
    by_cases h1 : 256 < l.length
    · rw [show decide ((l.length : Int) > 256) = true from decide_eq_true (by omega), if_pos (.inr (.inl h1))]; rfl
    · rw [show decide ((l.length : Int) > 256) = false from decide_eq_false (by omega)]
      dsimp only
      rw [cond_false, lt_of]
      have := rkraft_loop l (fun j => some (j, (0 : Int))) fu (by omega) (by omega) fu 0 (by omega) (by omega) (fun j hj => by omega)
      rw [show f_lumref_Kraft_L8 l (fun j => some (j, (0 : Int))) fu fu 0 0 = f_lumref_Kraft_L8 l (fun j => some (j, (0 : Int))) fu fu (kraftTo (nat l) 0 : Nat) ((0 : Nat) : Int) from rfl, this]
      cases hg : good l with
      | false => rw [if_neg (by simp), if_pos (.inr (.inr rfl))]
      | true => rw [if_pos rfl, if_neg (fun h => by rcases h with h | h | h; omega; omega; cases h)]
/-! Codes -/
def ints (l : List Nat) : List Int := l.map fun c : Nat => (c : Int)
theorem ints_set (l : List Nat) (i v : Nat) : (ints l).set i (v : Int) = ints (l.set i v) := by unfold ints; rw [List.map_set]
theorem ints_at {l : List Nat} {i v : Nat} (h : l[i]? = some v) : at? (ints l) (i : Int) = some (v : Int) := by rw [at_nat]; unfold ints; simp [h]
theorem shl_nat {q m : Nat} (h : m ≤ 48) (hq : q * 2 ^ m ≤ 281474976710656) : IntKind.i64.wrap ((q : Int) * 2 ^ min m (IntKind.bits .i64)) = ((q * 2 ^ m : Nat) : Int) := by
  have hb : min m (IntKind.bits .i64) = m := Nat.min_eq_left (by show m ≤ 64; omega)
  rw [hb, show ((q : Int) * 2 ^ m) = ((q * 2 ^ m : Nat) : Int) from by simp]
  clear hb
  obtain ⟨p, hp⟩ : ∃ p, p = q * 2 ^ m := ⟨_, rfl⟩
  rw [← hp] at hq ⊢
  exact w64 (by omega) (by omega)
theorem impl_get (L : List Nat) (N s : Nat) (h : s < L.length) : ∃ y, (implOut L N s)[s]? = some y := ⟨_, List.getElem?_eq_getElem (by rw [implOut_len]; exact h)⟩
abbrev CK := List Int → Int → Int → Option (List Int × Int)
theorem codes_in (l : List Int) (N : Nat) (kk : CK) (hm : l.length ≤ 256) (hg : good l = true) (hk : kraftTo (nat l) l.length ≤ 281474976710656) (hN1 : 1 ≤ N) (hN : N ≤ 48) (R : Option (List Int × Int))
    (hkk : ∀ last next : Nat, last ≤ N → next ≤ 281474976710656 → next * 2 ^ (48 - last) = bef (nat l) (N + 1) 0 l.length → kk (ints (implOut (nat l) (N + 1) 0)) next last = R) :
    ∀ (fuel s last next : Nat), s ≤ l.length → l.length - s < fuel → last ≤ N → next ≤ 281474976710656 → next * 2 ^ (48 - last) = bef (nat l) N s l.length →
    f_huff_Codes_L18 l (N : Int) kk fuel (ints (implOut (nat l) N s)) next last (s : Int) = R
  | 0, s, _, _, _, hf, _, _, _ => absurd hf (Nat.not_lt_zero _)
  | fuel + 1, s, last, next, hs, hf, hl, hnx, hb => by
    have hL : (nat l).length = l.length := nat_len l
    rw [f_huff_Codes_L18]
    by_cases hlt : s < l.length
    · obtain ⟨hx, hx48⟩ := good_get hg hlt
      rw [cond_tt (dlt (by omega)), lt_of, at_lt hlt, opt_of, hx, wsucc (by omega)]
      by_cases he : mAt (nat l) s = N
      · have hcode := next_code (nat l) N s last next hl hN he (by rw [hL]; exact hb)
        have hafter := next_after (nat l) N s hN1 hN (by omega) he
        have hclt := code_lt (nat l) N s hN1 hN (by omega) he (by rw [hL]; exact hk)
        have hset := implOut_set (nat l) N s hN1 he
        obtain ⟨y, hy⟩ := impl_get (nat l) N s (by omega)
        have hw : IntKind.i64.wrap ((N : Int) - (last : Int)) = ((N - last : Nat) : Int) := by rw [w64 (by omega) (by omega)]; omega
        rw [cond_tt (by simp [he]), hw, req_pos (by omega), ints_at hy, opt_of, Int.toNat_natCast, Int.toNat_natCast, shl_nat (by omega) (by rw [hcode]; omega), hcode, ints_set, hset, wsucc (by omega)]
        rw [hL] at hafter
        exact codes_in l N kk hm hg hk hN1 hN R hkk fuel (s + 1) N (code (nat l) s + 1) (by omega) (by omega) (by omega) (by omega) hafter
      · have hskip := implOut_skip (nat l) N s he
        have hbs := bef_step (nat l) N s (by omega) l.length hlt
        rw [if_neg he, Nat.add_zero] at hbs
        rw [cond_ff (by simp; omega)]
        have := codes_in l N kk hm hg hk hN1 hN R hkk fuel (s + 1) last next (by omega) (by omega) hl hnx (by rw [hbs]; exact hb)
        rw [hskip] at this
        exact this
    · obtain rfl : s = l.length := by omega
      rw [cond_ff (dge (by omega))]
      have h1 := bef_next (nat l) N l.length l.length (Nat.le_refl _)
      have h2 := implOut_next (nat l) N l.length (by omega)
      have := hkk last next hl hnx (by rw [h1]; exact hb)
      rw [h2] at this
      exact this
theorem codes_out (l : List Int) (kk : List Int → Option (List Int × Int)) (fu : Nat) (hfu : 257 ≤ fu) (hm : l.length ≤ 256) (hg : good l = true) (hk : kraftTo (nat l) l.length ≤ 281474976710656) :
    ∀ (fuel N last next : Nat), 1 ≤ N → N ≤ 49 → 49 - N < fuel → last ≤ N → last ≤ 48 → next ≤ 281474976710656 → next * 2 ^ (48 - last) = bef (nat l) N 0 l.length →
    f_huff_Codes_L11 l kk fu fuel (ints (implOut (nat l) N 0)) next last (N : Int) = kk (ints (implOut (nat l) 49 0))
  | 0, _, _, _, _, _, hf, _, _, _, _ => absurd hf (Nat.not_lt_zero _)
  | fuel + 1, N, last, next, hN1, hN, hf, hl, hl48, hnx, hb => by
    rw [f_huff_Codes_L11, lt_of]
    by_cases hlt : N ≤ 48
    · rw [cond_tt (decide_eq_true (by omega)), lt_of]
      refine codes_in l N _ hm hg hk hN1 hlt _ (fun last' next' h1 h2 h3 => ?_) fu 0 last next (by omega) (by omega) hl hnx hb
      dsimp only
      rw [wsucc (by omega)]
      exact codes_out l kk fu hfu hm hg hk fuel (N + 1) last' next' (by omega) (by omega) (by omega) (by omega) (by omega) h2 h3
    · obtain rfl : N = 49 := by omega
      rw [cond_ff (decide_eq_false (by omega))]
def cd (l : List Int) : List Int × Int :=
  if (kr l).2 ≠ 0 then ([], (kr l).2) else if (kr l).1 > 281474976710656 then ([], 4) else (ints (implOut (nat l) 49 0), 0)
theorem kr_ok {l : List Int} (h : (kr l).2 = 0) : 1 ≤ l.length ∧ l.length ≤ 256 ∧ good l = true ∧ (kr l).1 = (kraftTo (nat l) l.length : Nat) := by
  unfold kr at h ⊢
  split at h
  · cases h
  · rename_i hn
    rw [if_neg hn]
    have h1 : ¬ l.length < 1 := fun h => hn (.inl h)
    have h2 : ¬ 256 < l.length := fun h => hn (.inr (.inl h))
    have h3 : good l = true := by
      cases hg : good l with
      | true => rfl
      | false => exact absurd (.inr (.inr hg)) hn
    exact ⟨by omega, by omega, h3, rfl⟩
theorem zeros (n : Nat) : List.replicate n (0 : Int) = ints (List.replicate n 0) := by unfold ints; simp
theorem codes_any (l : List Int) (fu : Nat) (hf : 257 ≤ fu) : f_huff_Codes fu l = some (cd l) := by
  unfold f_huff_Codes cd
  rw [kraft_any l fu hf, opt_of]
  by_cases h0 : (kr l).2 = 0
  · obtain ⟨h1, h2, hg, hk⟩ := kr_ok h0
    rw [cond_ff (by simp [h0]), if_neg (by simp [h0])]
    by_cases h3 : (kr l).1 > 281474976710656
    · rw [cond_tt (decide_eq_true h3), if_pos h3]
    · rw [cond_ff (decide_eq_false h3), if_neg h3, req_pos (by omega), lt_of, Int.toNat_natCast, zeros, ← nat_len l, ← implOut_first]
      have h9 : (ints (implOut (nat l) 1 0)) = ints (implOut (nat l) 1 0) := rfl
      refine (codes_out l _ fu hf h2 hg (by omega) fu 1 0 0 (by omega) (by omega) (by omega) (by omega) (by omega) (by omega) ?_).trans rfl
      rw [bef_first]
  · rw [cond_tt (by simp [h0]), if_pos h0]
/-! the reference -/
theorem rcodes_in (l : List Int) (i : Nat) (kk : List Int → Option (List Int × Int)) (hm : l.length ≤ 256) (hg : good l = true) (hk : kraftTo (nat l) l.length ≤ 281474976710656) (hi : i < l.length) :
    ∀ (fuel j : Nat), j ≤ l.length → l.length - j < fuel →
    f_lumref_Codes_L21 l (i : Int) kk (mAt (nat l) i : Nat) fuel (ints (refOut (nat l) i j)) (j : Int) = kk (ints (refOut (nat l) (i + 1) 0))
  | 0, _, _, hf => absurd hf (Nat.not_lt_zero _)
  | fuel + 1, j, hj, hf => by
    have hL : (nat l).length = l.length := nat_len l
    rw [f_lumref_Codes_L21]
    by_cases hlt : j < l.length
    · obtain ⟨hx, hx48⟩ := good_get hg hlt
      obtain ⟨_, hi48⟩ := good_get hg hi
      have hstep := refTo_step (nat l) i j hi48
      have hset := refOut_set (nat l) i j
      have hat := refOut_at (nat l) i j (by omega)
      have hle := Nat.le_trans (refTo_le (nat l) i (j + 1)) (Nat.le_trans (kraftTo_mono (nat l) (show j + 1 ≤ l.length by omega)) hk)
      have ih := rcodes_in l i kk hm hg hk hi fuel (j + 1) (by omega) (by omega)
      have hno : refTo (nat l) i (j + 1) = refTo (nat l) i j → refOut (nat l) i (j + 1) = refOut (nat l) i j := fun h => by
        rw [← hset, h]
        apply List.ext_getElem?
        intro q
        rw [List.getElem?_set]
        split
        · rename_i e; subst e; rw [hat]; simp [refOut_len, hL, hi]
        · rfl
      have hcd : cond (nat l) (mAt (nat l) i) i j = (decide (0 < mAt (nat l) j) && (decide (mAt (nat l) j < mAt (nat l) i) || (decide (mAt (nat l) j = mAt (nat l) i) && decide (j < i)))) := rfl
      rw [hcd] at hstep
      rw [cond_tt (dlt (by omega)), lt_of, at_lt hlt, opt_of, hx, wsucc (by omega), lt_of]
      dsimp only
      have yes : (0 < mAt (nat l) j ∧ (mAt (nat l) j < mAt (nat l) i ∨ (mAt (nat l) j = mAt (nat l) i ∧ j < i))) →
          (opt (at? (ints (refOut (nat l) i j)) (i : Int)) fun (u31 : Int) => (req (0 ≤ (IntKind.i64.wrap (((mAt (nat l) i : Nat) : Int) - ((mAt (nat l) j : Nat) : Int)))) (opt (at? (ints (refOut (nat l) i j)) (i : Int)) fun (u36 : Int) => f_lumref_Codes_L21 l (i : Int) kk (mAt (nat l) i : Nat) fuel ((ints (refOut (nat l) i j)).set (i : Int).toNat (IntKind.i64.wrap (u31 + (IntKind.i64.wrap ((1 : Int) * 2 ^ min ((IntKind.i64.wrap (((mAt (nat l) i : Nat) : Int) - ((mAt (nat l) j : Nat) : Int)))).toNat (IntKind.bits .i64)))))) ((j + 1 : Nat) : Int)))) = kk (ints (refOut (nat l) (i + 1) 0)) := fun hc => by
        rw [if_pos (by simpa using hc)] at hstep
        have hw : IntKind.i64.wrap (((mAt (nat l) i : Nat) : Int) - ((mAt (nat l) j : Nat) : Int)) = ((mAt (nat l) i - mAt (nat l) j : Nat) : Int) := by rw [w64 (by omega) (by omega)]; omega
        rw [ints_at hat, opt_of, hw, req_pos (by omega), opt_of, Int.toNat_natCast, Int.toNat_natCast, shl_pow (by omega)]
        have hsum : IntKind.i64.wrap (((refTo (nat l) i j : Nat) : Int) + ((2 ^ (mAt (nat l) i - mAt (nat l) j) : Nat) : Int)) = ((refTo (nat l) i (j + 1) : Nat) : Int) := by
          rw [hstep]
          rw [hstep] at hle
          obtain ⟨p, hp⟩ : ∃ p, p = 2 ^ (mAt (nat l) i - mAt (nat l) j) := ⟨_, rfl⟩
          rw [← hp] at hle ⊢
          rw [w64 (by omega) (by omega)]; simp
        rw [hsum, ints_set, hset]
        exact ih
      have no : ¬ (0 < mAt (nat l) j ∧ (mAt (nat l) j < mAt (nat l) i ∨ (mAt (nat l) j = mAt (nat l) i ∧ j < i))) ∨ mAt (nat l) i = 0 → f_lumref_Codes_L21 l (i : Int) kk (mAt (nat l) i : Nat) fuel (ints (refOut (nat l) i j)) ((j + 1 : Nat) : Int) = kk (ints (refOut (nat l) (i + 1) 0)) := fun hc => by
        have h1 : refTo (nat l) i (j + 1) = refTo (nat l) i j := by
          rcases hc with hc | hc
          · rw [hstep, if_neg (by simpa using hc)]; rfl
          · rw [refTo_none _ _ _ hc, refTo_none _ _ _ hc]
        rw [hno h1] at ih
        exact ih
      by_cases hi0 : 0 < mAt (nat l) i
      · rw [cond_tt (decide_eq_true (by omega))]
        by_cases hj0 : 0 < mAt (nat l) j
        · rw [cond_tt (decide_eq_true (by omega))]
          by_cases h1 : mAt (nat l) j < mAt (nat l) i
          · rw [cond_tt (decide_eq_true (by omega))]
            exact yes ⟨hj0, .inl h1⟩
          · rw [cond_ff (decide_eq_false (by omega))]
            by_cases h2 : mAt (nat l) j = mAt (nat l) i
            · rw [cond_tt (by simp [h2])]
              by_cases h3 : j < i
              · rw [show decide ((j : Int) < (i : Int)) = true from decide_eq_true (by omega)]
                exact yes ⟨hj0, .inr ⟨h2, h3⟩⟩
              · rw [show decide ((j : Int) < (i : Int)) = false from decide_eq_false (by omega)]
                exact no (.inl (by omega))
            · rw [cond_ff (by simp; omega)]
              exact no (.inl (by omega))
        · rw [cond_ff (decide_eq_false (by omega))]
          exact no (.inl (by omega))
      · rw [cond_ff (decide_eq_false (by omega))]
        exact no (.inr (by omega))
    · obtain rfl : j = l.length := by omega
      rw [cond_ff (dge (by omega)), refOut_next, hL]
theorem rcodes_out (l : List Int) (kk : List Int → Option (List Int × Int)) (fu : Nat) (hfu : 257 ≤ fu) (hm : l.length ≤ 256) (hg : good l = true) (hk : kraftTo (nat l) l.length ≤ 281474976710656) :
    ∀ (fuel i : Nat), i ≤ l.length → l.length - i < fuel →
    f_lumref_Codes_L11 l kk fu fuel (ints (refOut (nat l) i 0)) (i : Int) = kk (ints (refOut (nat l) l.length 0))
  | 0, _, _, hf => absurd hf (Nat.not_lt_zero _)
  | fuel + 1, i, hi, hf => by
    rw [f_lumref_Codes_L11, lt_of]
    by_cases hlt : i < l.length
    · obtain ⟨hx, _⟩ := good_get hg hlt
      rw [cond_tt (dlt (by omega)), lt_of, at_lt hlt, opt_of, hx]
      refine (rcodes_in l i _ hm hg hk hlt fu 0 (by omega) (by omega)).trans ?_
      dsimp only
      rw [wsucc (by omega)]
      exact rcodes_out l kk fu hfu hm hg hk fuel (i + 1) (by omega) (by omega)
    · obtain rfl : i = l.length := by omega
      rw [cond_ff (dge (by omega))]
theorem rcodes_any (l : List Int) (fu : Nat) (hf : 257 ≤ fu) : f_lumref_Codes fu l = some (cd l) := by
  unfold f_lumref_Codes cd
  rw [rkraft_any l fu hf, opt_of]
  by_cases h0 : (kr l).2 = 0
  · obtain ⟨h1, h2, hg, hk⟩ := kr_ok h0
    rw [cond_ff (by simp [h0]), if_neg (by simp [h0])]
    by_cases h3 : (kr l).1 > 281474976710656
    · rw [cond_tt (decide_eq_true h3), if_pos h3]
    · rw [cond_ff (decide_eq_false h3), if_neg h3, req_pos (by omega), lt_of, Int.toNat_natCast, zeros, ← nat_len l, ← refOut_first]
      refine (rcodes_out l _ fu hf h2 hg (by omega) fu 0 (by omega) (by omega)).trans ?_
      rw [← nat_len l, ← out_same (nat l) (fun j => by
        by_cases hj : j < l.length
        · exact (good_get hg hj).2
        · rw [nat_at, List.getD_eq_getElem?_getD, List.getElem?_eq_none (by omega)]; simp)]
  · rw [cond_tt (by simp [h0]), if_pos h0]
theorem cd_len (l : List Int) : (cd l).1.length ≤ 256 := by
  unfold cd
  by_cases h0 : (kr l).2 = 0
  · obtain ⟨h1, h2, hg, hk⟩ := kr_ok h0
    rw [if_neg (by simp [h0])]
    split
    · simp
    · simp [ints, implOut_len, nat_len, h2]
  · rw [if_pos h0]; simp
end Go.Proofs.Ytgmggcpceemnnaa.Huf
