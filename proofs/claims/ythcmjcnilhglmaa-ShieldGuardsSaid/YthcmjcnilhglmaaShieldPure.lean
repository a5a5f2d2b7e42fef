/- Guard shards: the code and the reference agree: ShieldGuards. No condition. -/
import Derived.Test.YthcmjcnilhglmaaGfPure
namespace Go.Proofs.Ythcmjcnilhglmaa.PShieldGuards
open Go.RowKit Ythcmjcnilhglmaa.En Ythcmjcnilhglmaa Fld
set_option linter.unusedVariables false
set_option linter.unusedSimpArgs false
def coef (j i : Nat) : Nat := ginv ((128 + j) ^^^ i)
theorem xor_ne {j i : Nat} (hj : j < 8) (hi : i < 16) : (128 + j) ^^^ i ≠ 0 ∧ (128 + j) ^^^ i < 256 := by
  have : ∀ j, j < 8 → ∀ i, i < 16 → (128 + j) ^^^ i ≠ 0 ∧ (128 + j) ^^^ i < 256 := by decide +kernel
  exact this j hj i hi
theorem coef_lt {j i : Nat} (hj : j < 8) (hi : i < 16) : coef j i < 256 := ginv_lt (xor_ne hj hi).2
theorem coef_ne {j i : Nat} (hj : j < 8) (hi : i < 16) : coef j i ≠ 0 := fun h => by
  have := gm_ginv (xor_ne hj hi).2 (xor_ne hj hi).1
  unfold coef at h
  rw [h, gm_zero] at this
  omega
def mixTo (c : Nat) (u out : List UInt8) : Nat → List UInt8
  | 0 => out
  | k + 1 => (mixTo c u out k).set k (UInt8.ofNat (((mixTo c u out k).getD k 0).toNat ^^^ gm c (u.getD k 0).toNat))
theorem mix_len (c : Nat) (u out : List UInt8) : ∀ k, (mixTo c u out k).length = out.length
  | 0 => rfl
  | k + 1 => by unfold mixTo; rw [List.length_set, mix_len c u out k]
def accTo (ss : List (List UInt8)) (j sz : Nat) : Nat → List UInt8
  | 0 => List.replicate sz 0
  | i + 1 => mixTo (coef j i) (ss.getD i []) (accTo ss j sz i) sz
theorem acc_len (ss : List (List UInt8)) (j sz : Nat) : ∀ i, (accTo ss j sz i).length = sz
  | 0 => by simp [accTo]
  | i + 1 => by unfold accTo; rw [mix_len, acc_len ss j sz i]
theorem bat {u : List UInt8} {k : Nat} (h : k < u.length) : bAt u (k : Int) = ((u.getD k 0).toNat : Int) := by
  unfold bAt; simp [List.getD_eq_getElem?_getD]
theorem gat {u : List UInt8} {k : Nat} (h : k < u.length) : u[k] = u.getD k 0 := by simp [List.getD_eq_getElem?_getD, h]
theorem comb_in (ss : List (List UInt8)) (i : Nat) (u : List UInt8) (hi : ss[i]? = some u) (sz : Nat) (hsz : sz ≤ 4096) (hu : u.length = sz) (c : UInt8) (kk : List UInt8 → Option (List UInt8)) (fu : Nat) (hf : 10 ≤ fu) (out : List UInt8) (ho : out.length = sz) : ∀ (fuel k : Nat), k ≤ sz → sz - k < fuel →
    f_shield_combine_L18 ss (sz : Int) (i : Int) kk c fu fuel (mixTo c.toNat u out k) (k : Int) = kk (mixTo c.toNat u out sz)
  | 0, k, _, hfu => absurd hfu (Nat.not_lt_zero _)
  | fuel + 1, k, hk, hfu => by
    rw [f_shield_combine_L18]
    by_cases hlt : k < sz
    · have hml : k < (mixTo c.toNat u out k).length := by rw [mix_len]; omega
      have hgl := gm_lt c.toNat (u.getD k 0).toNat (byte_lt c)
      rw [cond_tt (dlt (by omega)), at_lt hml, opt_of, at_of hi, opt_of, req_pos (by omega), bat (by omega), Gf.mul (byte_lt c) (byte_lt _) fu hf, opt_of, opt_of, gat hml,
        u8_xor_nat _ _ (byte_lt _) hgl, req_pos (by have := xor_lt8 (byte_lt ((mixTo c.toNat u out k).getD k 0)) hgl; omega), wsucc (by omega), Int.toNat_natCast, Int.toNat_natCast]
      exact comb_in ss i u hi sz hsz hu c kk fu hf out ho fuel (k + 1) (by omega) (by omega)
    · obtain rfl : k = sz := by omega
      rw [cond_ff (dge (by omega))]
theorem ref_in (u : List UInt8) (sz : Nat) (hsz : sz ≤ 4096) (hu : u.length = sz) (c : Nat) (hc : c < 256) (kk : List UInt8 → Option (List UInt8)) (fu : Nat) (hf : 10 ≤ fu) (out : List UInt8) (ho : out.length = sz) : ∀ (fuel k : Nat), k ≤ sz → sz - k < fuel →
    f_lumref_ShardOf_L26 out kk u (c : Int) fu fuel (mixTo c u out k) (k : Int) = kk (mixTo c u out sz)
  | 0, k, _, hfu => absurd hfu (Nat.not_lt_zero _)
  | fuel + 1, k, hk, hfu => by
    rw [f_lumref_ShardOf_L26]
    by_cases hlt : k < sz
    · have hml : k < (mixTo c u out k).length := by rw [mix_len]; omega
      have hgl := gm_lt c (u.getD k 0).toNat hc
      rw [cond_tt (dlt (by omega)), at_lt hml, opt_of, req_pos (by omega), bat (by omega), Gf.rmul hc (byte_lt _) fu hf, opt_of, opt_of, gat hml,
        u8_xor_nat _ _ (byte_lt _) hgl, req_pos (by have := xor_lt8 (byte_lt ((mixTo c u out k).getD k 0)) hgl; omega), wsucc (by omega), Int.toNat_natCast, Int.toNat_natCast]
      exact ref_in u sz hsz hu c hc kk fu hf out ho fuel (k + 1) (by omega) (by omega)
    · obtain rfl : k = sz := by omega
      rw [cond_ff (dge (by omega))]
/-- what holds of the shards once they have passed -/
structure Good (ss : List (List UInt8)) (sz : Nat) : Prop where
  n1 : 1 ≤ ss.length
  n16 : ss.length ≤ 16
  szle : sz ≤ 4096
  all : ∀ u ∈ ss, u.length = sz
theorem good_at {ss : List (List UInt8)} {sz : Nat} (h : Good ss sz) {i : Nat} (hi : i < ss.length) : ss[i]? = some (ss.getD i []) ∧ (ss.getD i []).length = sz := by
  have h1 : ss[i]? = some ss[i] := List.getElem?_eq_getElem hi
  have h2 : ss.getD i [] = ss[i] := by rw [List.getD_eq_getElem?_getD, h1]; rfl
  rw [h2]; exact ⟨h1, h.all _ (List.getElem_mem hi)⟩
/-! the row -/
def rowTo (n j : Nat) : Nat → List UInt8
  | 0 => List.replicate n 0
  | k + 1 => (rowTo n j k).set k (UInt8.ofNat (coef j k))
theorem row_len (n j : Nat) : ∀ k, (rowTo n j k).length = n
  | 0 => by simp [rowTo]
  | k + 1 => by unfold rowTo; rw [List.length_set, row_len n j k]
theorem row_get (n j : Nat) : ∀ k i, i < k → k ≤ n → (rowTo n j k)[i]? = some (UInt8.ofNat (coef j i))
  | 0, i, h, _ => absurd h (Nat.not_lt_zero _)
  | k + 1, i, h, hk => by
    unfold rowTo
    rw [List.getElem?_set]
    by_cases e : k = i
    · subst e; rw [if_pos rfl, row_len, if_pos (by omega)]
    · rw [if_neg e]; exact row_get n j k i (by omega) (by omega)
theorem point {n j i : Nat} (hn : n ≤ 16) (hj : j < 8) (hi : i < 16) : bits .xor .u8 (IntKind.u8.wrap (IntKind.i64.wrap ((IntKind.i64.wrap ((128 : Int) + ((n + j : Nat) : Int))) - (n : Int)))) (IntKind.u8.wrap (i : Int)) = (((128 + j) ^^^ i : Nat) : Int) := by
  rw [w64 (x := (128 : Int) + ((n + j : Nat) : Int)) (by omega) (by omega), w64 (by omega) (by omega), show (128 : Int) + ((n + j : Nat) : Int) - (n : Int) = ((128 + j : Nat) : Int) by omega, u8w_in (by omega), u8w_in (by omega)]
  exact u8_xor_nat _ _ (by omega) (by omega)
theorem row_loop (n j : Nat) (hn : n ≤ 16) (hj : j < 8) (kk : List UInt8 → Option (List UInt8)) (fu : Nat) (hf : 100 ≤ fu) : ∀ (fuel k : Nat), k ≤ n → n - k < fuel →
    f_shield_row_L13 ((n + j : Nat) : Int) (n : Int) kk fu fuel (rowTo n j k) (k : Int) = kk (rowTo n j n)
  | 0, k, _, hfu => absurd hfu (Nat.not_lt_zero _)
  | fuel + 1, k, hk, hfu => by
    rw [f_shield_row_L13]
    by_cases hlt : k < n
    · have hcl := coef_lt hj (show k < 16 by omega)
      have hml : k < (rowTo n j k).length := by rw [row_len]; omega
      rw [cond_tt (dlt (by simp; omega)), point hn hj (by omega), Gf.inv (xor_ne hj (by omega)).2 fu hf, opt_of, if_neg (xor_ne hj (by omega)).1, at_lt hml, opt_of]
      dsimp only
      rw [req_pos (by unfold coef at hcl; omega), wsucc (by omega), Int.toNat_natCast, Int.toNat_natCast]
      exact row_loop n j hn hj kk fu hf fuel (k + 1) (by omega) (by omega)
    · obtain rfl : k = n := by omega
      rw [cond_ff (dge (by simp))]
theorem row (n j : Nat) (hn : n ≤ 16) (hj : j < 8) (fu : Nat) (hf : 100 ≤ fu) : f_shield_row fu ((n + j : Nat) : Int) (n : Int) = some (rowTo n j n) := by
  unfold f_shield_row
  rw [req_pos (by omega), cond_ff (dge (by omega)), lt_of, Int.toNat_natCast]
  exact row_loop n j hn hj (fun j => some j) fu hf fu 0 (by omega) (by omega)
theorem comb_loop (ss : List (List UInt8)) (sz : Nat) (hg : Good ss sz) (j : Nat) (hj : j < 8) (kk : List UInt8 → Option (List UInt8)) (fu : Nat) (hf : 5000 ≤ fu) : ∀ (fuel i : Nat), i ≤ ss.length → ss.length - i < fuel →
    f_shield_combine_L7 (rowTo ss.length j ss.length) ss (sz : Int) kk fu fuel (accTo ss j sz i) (i : Int) = kk (accTo ss j sz ss.length)
  | 0, k, _, hfu => absurd hfu (Nat.not_lt_zero _)
  | fuel + 1, i, hi, hfu => by
    have hn := hg.n16
    have hs := hg.szle
    rw [f_shield_combine_L7]
    rw [lt_of]
    rw [row_len]
    by_cases hlt : i < ss.length
    · have hcl := coef_lt hj (show i < 16 by omega)
      obtain ⟨hu, hul⟩ := good_at hg hlt
      have hb : (UInt8.ofNat (coef j i)).toNat = coef j i := by have := byte_of hcl; omega
      rw [cond_tt (dlt (by omega)), lt_of, at_of (row_get _ _ _ _ hlt (Nat.le_refl _)), opt_of, hb, cond_ff (by have := coef_ne hj (show i < 16 by omega); simpa using this), wsucc (by omega)]
      have h1 := comb_in ss i _ hu sz hs hul (UInt8.ofNat (coef j i)) (fun j10x7 => f_shield_combine_L7 (rowTo ss.length j ss.length) ss (sz : Int) kk fu fuel j10x7 ((i + 1 : Nat) : Int)) fu (by omega) (accTo ss j sz i) (acc_len _ _ _ _) fu 0 (by omega) (by omega)
      rw [hb] at h1
      refine Eq.trans h1 ?_
      exact comb_loop ss sz hg j hj kk fu hf fuel (i + 1) (by omega) (by omega)
    · obtain rfl : i = ss.length := by omega
      rw [cond_ff (dge (by omega))]
theorem comb (ss : List (List UInt8)) (sz : Nat) (hg : Good ss sz) (j : Nat) (hj : j < 8) (fu : Nat) (hf : 5000 ≤ fu) : f_shield_combine fu (rowTo ss.length j ss.length) ss (sz : Int) = some (accTo ss j sz ss.length) := by
  have hs := hg.szle
  have hn := hg.n16
  unfold f_shield_combine
  rw [req_pos (by omega), lt_of, Int.toNat_natCast]
  exact comb_loop ss sz hg j hj (fun j => some j) fu hf fu 0 (by omega) (by omega)
theorem ref_loop (ss : List (List UInt8)) (sz : Nat) (hg : Good ss sz) (j : Nat) (hj : j < 8) (kk : List UInt8 → Option (List UInt8)) (fu : Nat) (hf : 5000 ≤ fu) : ∀ (fuel i : Nat), i ≤ ss.length → ss.length - i < fuel →
    f_lumref_ShardOf_L14 ss ((ss.length + j : Nat) : Int) kk fu fuel (accTo ss j sz i) (i : Int) = kk (accTo ss j sz ss.length)
  | 0, k, _, hfu => absurd hfu (Nat.not_lt_zero _)
  | fuel + 1, i, hi, hfu => by
    have hn := hg.n16
    have hs := hg.szle
    rw [f_lumref_ShardOf_L14]
    rw [lt_of]
    by_cases hlt : i < ss.length
    · have hcl := coef_lt hj (show i < 16 by omega)
      obtain ⟨hu, hul⟩ := good_at hg hlt
      rw [cond_tt (dlt (by omega)), lt_of, at_of hu, opt_of, point hn hj (by omega), Gf.rinv (xor_ne hj (by omega)).2 fu (by omega), opt_of, if_neg (xor_ne hj (by omega)).1, wsucc (by omega)]
      refine Eq.trans (ref_in _ sz hs hul (coef j i) hcl (fun j17x6 => f_lumref_ShardOf_L14 ss ((ss.length + j : Nat) : Int) kk fu fuel j17x6 ((i + 1 : Nat) : Int)) fu (by omega) (accTo ss j sz i) (acc_len _ _ _ _) fu 0 (by omega) (by omega)) ?_
      exact ref_loop ss sz hg j hj kk fu hf fuel (i + 1) (by omega) (by omega)
    · obtain rfl : i = ss.length := by omega
      rw [cond_ff (dge (by omega))]
theorem good0 {ss : List (List UInt8)} {sz : Nat} (h : Good ss sz) : ∃ u, at? ss 0 = some u ∧ u.length = sz := by
  obtain ⟨h1, h2⟩ := good_at h (show 0 < ss.length by have := h.n1; omega)
  exact ⟨_, at_of (k := 0) h1, h2⟩
theorem shard (ss : List (List UInt8)) (sz : Nat) (hg : Good ss sz) (j : Nat) (hj : j < 8) (fu : Nat) (hf : 5000 ≤ fu) : f_lumref_ShardOf fu ss ((ss.length + j : Nat) : Int) = some (accTo ss j sz ss.length) := by
  have hs := hg.szle
  have hn := hg.n16
  obtain ⟨u, h0, hu⟩ := good0 hg
  unfold f_lumref_ShardOf
  rw [cond_ff (dge (by omega)), h0, opt_of, hu, req_pos (by omega), lt_of, Int.toNat_natCast]
  exact ref_loop ss sz hg j hj (fun j => some j) fu hf fu 0 (by omega) (by omega)
def gs (ss : List (List UInt8)) (sz k : Nat) : List (List UInt8) := (List.range k).map fun j => accTo ss j sz ss.length
theorem gs_succ (ss : List (List UInt8)) (sz k : Nat) : gs ss sz (k + 1) = gs ss sz k ++ [accTo ss k sz ss.length] := by unfold gs; rw [List.range_succ]; simp
theorem guard_loop (ss : List (List UInt8)) (sz : Nat) (hg : Good ss sz) (m : Nat) (hm : m ≤ 8) (kk : List (List UInt8) → Option (List (List UInt8) × Int)) (fu : Nat) (hf : 5000 ≤ fu) : ∀ (fuel k : Nat), k ≤ m → m - k < fuel →
    f_shield_Guard_L10 ss (m : Int) kk fu fuel (gs ss sz k) (k : Int) = kk (gs ss sz m)
  | 0, k, _, hfu => absurd hfu (Nat.not_lt_zero _)
  | fuel + 1, k, hk, hfu => by
    have hn := hg.n16
    rw [f_shield_Guard_L10]
    by_cases hlt : k < m
    · obtain ⟨u, h0, hu⟩ := good0 hg
      have hgl : (gs ss sz k).length = k := by simp [gs]
      rw [cond_tt (dlt (by omega)), w64 (x := (ss.length : Int) + (k : Int)) (by omega) (by omega), show (ss.length : Int) + (k : Int) = ((ss.length + k : Nat) : Int) by omega, row _ _ hn (by omega) fu (by omega), opt_of, h0, opt_of, hu, comb ss sz hg k (by omega) fu hf, opt_of, req_pos (by simp [hgl]; omega), wsucc (by omega), ← gs_succ]
      exact guard_loop ss sz hg m hm kk fu hf fuel (k + 1) (by omega) (by omega)
    · obtain rfl : k = m := by omega
      rw [cond_ff (dge (by omega))]
/-! sizes -/
def sizes (s0 : Nat) : List (List UInt8) → Int
  | [] => 0
  | u :: us => if u.length > 4096 then 2 else if u.length ≠ s0 then 4 else sizes s0 us
theorem sizes_cons (s0 : Nat) (u : List UInt8) (us : List (List UInt8)) : sizes s0 (u :: us) = if u.length > 4096 then 2 else if u.length ≠ s0 then 4 else sizes s0 us := rfl
theorem sizes_zero {s0 : Nat} : ∀ {l : List (List UInt8)}, sizes s0 l = 0 → ∀ u ∈ l, u.length = s0 ∧ u.length ≤ 4096
  | [], _, u, hu => absurd hu (by simp)
  | v :: l, h, u, hu => by
    unfold sizes at h
    by_cases h1 : v.length > 4096
    · rw [if_pos h1] at h; cases h
    · rw [if_neg h1] at h
      by_cases h2 : v.length ≠ s0
      · rw [if_pos h2] at h; cases h
      · rw [if_neg h2] at h
        rcases List.mem_cons.1 hu with rfl | hu
        · exact ⟨by omega, by omega⟩
        · exact sizes_zero h u hu
theorem code_sizes (ss : List (List UInt8)) (u0 : List UInt8) (h0 : at? ss 0 = some u0) (hn : ss.length ≤ 16) (kk : Unit → Option (List (List UInt8) × Int)) : ∀ (fuel k : Nat), k ≤ ss.length → ss.length - k < fuel →
    f_shield_Guard_L25 ss kk fuel (k : Int) = if sizes u0.length (ss.drop k) = 0 then kk () else some ([], sizes u0.length (ss.drop k))
  | 0, k, _, hfu => absurd hfu (Nat.not_lt_zero _)
  | fuel + 1, k, hk, hfu => by
    rw [f_shield_Guard_L25]
    by_cases hlt : k < ss.length
    · rw [cond_tt (dlt (by omega)), at_lt hlt, opt_of, h0, opt_of, List.drop_eq_getElem_cons hlt, wsucc (by omega), code_sizes ss u0 h0 hn kk fuel (k + 1) (by omega) (by omega)]
      rw [sizes_cons]
      by_cases h1 : ss[k].length > 4096
      · rw [cond_tt (decide_eq_true (by omega)), if_pos h1]; rfl
      · rw [cond_ff (decide_eq_false (by omega)), if_neg h1]
        by_cases h2 : ss[k].length ≠ u0.length
        · rw [cond_tt (by rw [bne_iff_ne]; omega), if_pos h2]; rfl
        · rw [cond_ff (by simp; omega), if_neg h2]
    · rw [cond_ff (dge (by omega)), List.drop_of_length_le (by omega)]; rfl
theorem ref_sizes (ss : List (List UInt8)) (u0 : List UInt8) (h0 : at? ss 0 = some u0) (hn : ss.length ≤ 16) : ∀ (fuel k : Nat), k ≤ ss.length → ss.length - k < fuel →
    f_lumref_GuardErr_L8 ss (fun _ => some 0) fuel (k : Int) = some (sizes u0.length (ss.drop k))
  | 0, k, _, hfu => absurd hfu (Nat.not_lt_zero _)
  | fuel + 1, k, hk, hfu => by
    rw [f_lumref_GuardErr_L8]
    by_cases hlt : k < ss.length
    · rw [cond_tt (dlt (by omega)), at_lt hlt, opt_of, h0, opt_of, List.drop_eq_getElem_cons hlt, wsucc (by omega), ref_sizes ss u0 h0 hn fuel (k + 1) (by omega) (by omega)]
      rw [sizes_cons]
      by_cases h1 : ss[k].length > 4096
      · rw [cond_tt (decide_eq_true (by omega)), if_pos h1]
      · rw [cond_ff (decide_eq_false (by omega)), if_neg h1]
        by_cases h2 : ss[k].length ≠ u0.length
        · rw [cond_tt (by rw [bne_iff_ne]; omega), if_pos h2]
        · rw [cond_ff (by simp; omega), if_neg h2]
    · rw [cond_ff (dge (by omega)), List.drop_of_length_le (by omega)]; rfl
def bad (ss : List (List UInt8)) (m : Int) : Prop := ss.length < 1 ∨ 16 < ss.length ∨ m < 1 ∨ 8 < m
def fuel (_ : List (List UInt8)) (_ : Int) : Nat := 5000
theorem says (ss : List (List UInt8)) (m : Int) : ∀ ok0 : okL (fun y => y.length ≤ 9223372036854775807) ss, (Lit.int .i64 m).wf = true → f_lumlaw_ShieldGuards 5000 ss m = some true := by
  intro _ _
  unfold f_lumlaw_ShieldGuards
  by_cases hb : bad ss m
  · -- refused at once
    have hc : f_shield_Guard 5000 ss m = some ([], 1) := by
      unfold f_shield_Guard
      rw [lt_of]
      dsimp only
      by_cases h1 : (ss.length : Int) < 1
      · rw [cond_tt (decide_eq_true h1)]; rfl
      · rw [cond_ff (decide_eq_false h1)]
        by_cases h2 : (ss.length : Int) > 16
        · rw [cond_tt (decide_eq_true h2)]; rfl
        · rw [cond_ff (decide_eq_false h2)]
          by_cases h3 : m < 1
          · rw [cond_tt (decide_eq_true h3)]; rfl
          · rw [cond_ff (decide_eq_false h3), cond_tt (decide_eq_true (by unfold bad at hb; omega))]
    have hr : f_lumref_GuardErr 5000 ss m = some 1 := by
      unfold f_lumref_GuardErr
      rw [lt_of]
      dsimp only
      by_cases h1 : (ss.length : Int) = 0
      · rw [cond_tt (by simpa using h1)]; rfl
      · rw [cond_ff (by simpa using h1)]
        by_cases h2 : (ss.length : Int) > 16
        · rw [cond_tt (decide_eq_true h2)]; rfl
        · rw [cond_ff (decide_eq_false h2)]
          by_cases h3 : m < 1
          · rw [cond_tt (decide_eq_true h3)]; rfl
          · rw [cond_ff (decide_eq_false h3), cond_tt (decide_eq_true (by unfold bad at hb; omega))]
    rw [hc, hr]; rfl
  · unfold bad at hb
    obtain ⟨q, rfl⟩ : ∃ q : Nat, m = q := ⟨m.toNat, by omega⟩
    have hlen : 0 < ss.length := by omega
    have h0 : at? ss 0 = some ss[0] := at_lt (k := 0) hlen
    have hc0 : f_shield_Guard 5000 ss (q : Int) = (if sizes ss[0].length ss = 0 then f_shield_Guard_L10 ss (q : Int) (fun j6x9 => some (j6x9, 0)) 5000 5000 [] 0 else some ([], sizes ss[0].length ss)) := by
      unfold f_shield_Guard
      rw [lt_of]
      dsimp only
      rw [cond_ff (decide_eq_false (by omega)), cond_ff (decide_eq_false (by omega)), cond_ff (decide_eq_false (by omega)), cond_ff (decide_eq_false (by omega)), lt_of]
      exact code_sizes ss ss[0] h0 (by omega) _ 5000 0 (by omega) (by omega)
    have hr : f_lumref_GuardErr 5000 ss (q : Int) = some (sizes ss[0].length ss) := by
      unfold f_lumref_GuardErr
      rw [lt_of]
      dsimp only
      rw [cond_ff (by rw [beq_eq_false_iff_ne]; omega), cond_ff (decide_eq_false (by omega)), cond_ff (decide_eq_false (by omega)), cond_ff (decide_eq_false (by omega)), lt_of]
      exact ref_sizes ss ss[0] h0 (by omega) 5000 0 (by omega) (by omega)
    rw [hc0, hr]
    by_cases hz : sizes ss[0].length ss = 0
    · have hall := sizes_zero hz
      have hg : Good ss ss[0].length := ⟨hlen, by omega, (hall _ (List.getElem_mem hlen)).2, fun u hu => (hall u hu).1⟩
      have hgu := guard_loop ss _ hg q (by omega) (fun j6x9 => some (j6x9, (0 : Int))) 5000 (by omega) 5000 0 (by omega) (by omega)
      rw [show gs ss ss[0].length 0 = [] from rfl, show ((0 : Nat) : Int) = 0 from rfl] at hgu
      rw [if_pos hz, hz, hgu, opt_of, opt_of, cond_ff (by rfl), lt_of]
      dsimp only
      have hgl : (gs ss ss[0].length q).length = q := by simp [gs]
      rw [cond_ff (by rfl), hgl, cond_ff (by simp), lt_of]
      have key : ∀ (fuel k : Nat), k ≤ q → q - k < fuel → f_lumlaw_ShieldGuards_L17 ss (gs ss ss[0].length q, 0) (fun _ => some true) 5000 fuel (k : Int) = some true := by
        intro fuel
        induction fuel with
        | zero => intro k _ h; exact absurd h (Nat.not_lt_zero _)
        | succ fuel ih =>
          intro k hk hfu
          rw [f_lumlaw_ShieldGuards_L17]
          dsimp only
          rw [hgl]
          by_cases hlt : k < q
          · have hgk : (gs ss ss[0].length q)[k]? = some (accTo ss k ss[0].length ss.length) := by simp [gs, hlt]
            rw [cond_tt (dlt (by omega)), at_of hgk, opt_of, w64 (x := (ss.length : Int) + (k : Int)) (by omega) (by omega), show (ss.length : Int) + (k : Int) = ((ss.length + k : Nat) : Int) by omega, shard ss _ hg k (by omega) 5000 (by omega), opt_of, cond_ff (by simp), wsucc (by omega)]
            exact ih (k + 1) (by omega) (by omega)
          · rw [cond_ff (dge (by omega))]
      exact key 5000 0 (by omega) (by omega)
    · rw [if_neg hz, opt_of, opt_of, cond_tt (by simpa using hz), lt_of]
      dsimp only
      rw [cond_tt (by rfl)]; simp
end Go.Proofs.Ythcmjcnilhglmaa.PShieldGuards
