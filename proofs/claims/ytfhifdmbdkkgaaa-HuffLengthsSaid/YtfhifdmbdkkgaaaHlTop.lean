/- huff.Lengths and its reference answer alike. No condition. -/
import Derived.Test.YtfhifdmbdkkgaaaHlInc
namespace Go.Proofs.Ytfhifdmbdkkgaaa.PHl
open Go.RowKit Ytfhifdmbdkkgaaa.En Ytfhifdmbdkkgaaa Ytfhifdmbdkkgaaa.HeapM
set_option linter.unusedVariables false
set_option linter.unusedSimpArgs false
def badB (x : Int) : Bool := decide (x < 0) || decide (x > 1048576)
theorem bad_ok (fu : Nat) (x : Int) : f_huff_Lengths_1 fu x = some (badB x) := by
  unfold f_huff_Lengths_1 badB
  rw [lt_of]
  by_cases h : x < 0
  · rw [cond_tt (decide_eq_true h), decide_eq_true h]; rfl
  · rw [cond_ff (decide_eq_false h), decide_eq_false h]; rfl
theorem idx_go (l : List Int) (hl : l.length ≤ 1000000) (fu : Nat) (kk : Unit → Option Int) : ∀ (d k j : Nat), l.length - j = d → d < k → j ≤ l.length →
    ((l.drop j).any badB = true → ∃ r, 0 ≤ r ∧ f_slices_IndexFunc___int_int__F60_L5 l kk fu k (j : Int) = some r) ∧ ((l.drop j).any badB = false → f_slices_IndexFunc___int_int__F60_L5 l kk fu k (j : Int) = kk ())
  | _, 0, _, _, hk, _ => absurd hk (Nat.not_lt_zero _)
  | d, k + 1, j, hd, hk, hj => by
    rw [f_slices_IndexFunc___int_int__F60_L5]
    by_cases h : j < l.length
    · have ih := idx_go l hl fu kk (d - 1) k (j + 1) (by omega) (by omega) (by omega)
      rw [cond_tt (dlt (by omega)), at_lt h, opt_of, bad_ok, opt_of, List.drop_eq_getElem_cons h, List.any_cons, wsucc (by omega)]
      cases hb : badB l[j] with
      | true => exact ⟨fun _ => ⟨_, Int.natCast_nonneg j, rfl⟩, fun h => by simp at h⟩
      | false => exact ih
    · rw [cond_ff (dge (by omega)), List.drop_eq_nil_of_le (by omega)]
      exact ⟨fun h => by simp at h, fun _ => rfl⟩
theorem contains_ok (l : List Int) (hl : l.length ≤ 1000000) (fu : Nat) (hf : l.length < fu) : f_slices_ContainsFunc___int_int__F60 fu l = some (l.any badB) := by
  unfold f_slices_ContainsFunc___int_int__F60 f_slices_IndexFunc___int_int__F60
  rw [lt_of]
  obtain ⟨h1, h2⟩ := idx_go l hl fu (fun _ => some (-1 : Int)) l.length fu 0 rfl hf (Nat.zero_le _)
  rw [List.drop_zero] at h1 h2
  show opt (f_slices_IndexFunc___int_int__F60_L5 l (fun _ => some (-1 : Int)) fu fu ((0 : Nat) : Int)) _ = _
  cases hb : l.any badB with
  | true => obtain ⟨r, r0, e⟩ := h1 hb; rw [e, opt_of, decide_eq_true (show r ≥ 0 from r0)]
  | false => rw [h2 hb, opt_of]; rfl
theorem grow_nil (fu n : Nat) (h : n ≤ 1000000) : f_slices_Grow___int_int__nil fu (n : Int) = some [] := by
  unfold f_slices_Grow___int_int__nil
  have hz : IntKind.i64.wrap (((0 : Nat) : Int) - ((0 : Nat) : Int)) = 0 := by decide
  have hn : IntKind.i64.wrap ((n : Int) - 0) = (n : Int) := by rw [w64 (by omega) (by omega)]; omega
  rw [cond_ff (dge (Int.natCast_nonneg n)), lt_of, hz, hn]
  by_cases h0 : 0 < n
  · rw [cond_tt (decide_eq_true (show (n : Int) > 0 by omega)), req_pos (by omega), req_pos (by simp)]
    simp
  · rw [cond_ff (decide_eq_false (by omega))]
theorem cat_sum (a b : List Int) (h : a.length + b.length ≤ 1000000) (kk : Int → Option (List Int)) (fu : Nat) (hf : 3 ≤ fu) : f_slices_Concat___int_int__L20 [a, b] kk fu 0 0 = kk ((a.length + b.length : Nat) : Int) := by
  obtain ⟨k, rfl⟩ : ∃ k, fu = k + 3 := ⟨fu - 3, by omega⟩
  have e1 : IntKind.i64.wrap ((0 : Int) + (a.length : Int)) = (a.length : Int) := by rw [w64 (by omega) (by omega)]; omega
  have e2 : IntKind.i64.wrap ((a.length : Int) + (b.length : Int)) = ((a.length + b.length : Nat) : Int) := by rw [w64 (by omega) (by omega)]; omega
  rw [f_slices_Concat___int_int__L20, cond_tt (by simp), show at? [a, b] (0 : Int) = some a from rfl, opt_of, e1, cond_ff (decide_eq_false (by omega)), show IntKind.i64.wrap ((0 : Int) + 1) = 1 by decide, f_slices_Concat___int_int__L20, cond_tt (by simp), show at? [a, b] (1 : Int) = some b from rfl, opt_of, e2, cond_ff (decide_eq_false (by omega)), show IntKind.i64.wrap ((1 : Int) + 1) = 2 by decide, f_slices_Concat___int_int__L20, cond_ff (by simp)]
theorem cat_app (a b : List Int) (h : a.length + b.length ≤ 1000000) (kk : List Int → Option (List Int)) (fu : Nat) (hf : 3 ≤ fu) : f_slices_Concat___int_int__L10 [a, b] kk fu [] 0 = kk (a ++ b) := by
  obtain ⟨k, rfl⟩ : ∃ k, fu = k + 3 := ⟨fu - 3, by omega⟩
  rw [f_slices_Concat___int_int__L10, cond_tt (by simp), show at? [a, b] (0 : Int) = some a from rfl, opt_of, req_pos (by simp; omega), List.nil_append, show IntKind.i64.wrap ((0 : Int) + 1) = 1 by decide, f_slices_Concat___int_int__L10, cond_tt (by simp), show at? [a, b] (1 : Int) = some b from rfl, opt_of, req_pos (by omega), show IntKind.i64.wrap ((1 : Int) + 1) = 2 by decide, f_slices_Concat___int_int__L10, cond_ff (by simp)]
theorem concat_ok (a b : List Int) (h : a.length + b.length ≤ 1000000) (fu : Nat) (hf : 3 ≤ fu) : f_slices_Concat___int_int_ fu [a, b] = some (a ++ b) := by
  unfold f_slices_Concat___int_int_
  rw [lt_of, cat_sum a b h _ fu hf, grow_nil fu _ h, opt_of, lt_of, cat_app a b h _ fu hf]
/-! the signs of the new bunch -/
def picks (A C : List Int) : Nat → Nat → List Int
  | 0, _ => []
  | d + 1, i => if (i : Int) ∈ A ∨ (i : Int) ∈ C then (i : Int) :: picks A C d (i + 1) else picks A C d (i + 1)
theorem picks_mem (A C : List Int) : ∀ (d i : Nat) (x : Int), x ∈ picks A C d i ↔ (i : Int) ≤ x ∧ x < ((i + d : Nat) : Int) ∧ (x ∈ A ∨ x ∈ C)
  | 0, i, x => by simp only [picks, List.not_mem_nil, false_iff]; omega
  | d + 1, i, x => by
    have ih := picks_mem A C d (i + 1) x
    rw [picks]
    by_cases hx : x = (i : Int)
    · subst hx
      split
      · rename_i h; exact ⟨fun _ => ⟨Int.le_refl _, by omega, h⟩, fun _ => List.mem_cons_self⟩
      · rename_i h; rw [ih]; exact ⟨fun e => absurd e.1 (by omega), fun e => absurd e.2.2 h⟩
    · split
      · rw [List.mem_cons, ih]
        exact ⟨fun e => e.elim (fun e => absurd e hx) (fun e => ⟨by omega, by omega, e.2.2⟩), fun e => .inr ⟨by omega, by omega, e.2.2⟩⟩
      · rw [ih]; exact ⟨fun e => ⟨by omega, by omega, e.2.2⟩, fun e => ⟨by omega, by omega, e.2.2⟩⟩
theorem picks_lt (A C : List Int) : ∀ (d i : Nat), (picks A C d i).Pairwise (· < ·)
  | 0, i => List.Pairwise.nil
  | d + 1, i => by
    rw [picks]
    split
    · exact List.Pairwise.cons (fun x hx => by have := ((picks_mem A C d (i + 1) x).1 hx).1; omega) (picks_lt A C d (i + 1))
    · exact picks_lt A C d (i + 1)
theorem picks_len (A C : List Int) : ∀ (d i : Nat), (picks A C d i).length ≤ d
  | 0, i => Nat.le_refl _
  | d + 1, i => by
    have := picks_len A C d (i + 1)
    rw [picks]
    split
    · rw [List.length_cons]; omega
    · omega
theorem nodup_of_lt {l : List Int} (h : l.Pairwise (· < ·)) : l.Nodup := h.imp fun h => by omega
theorem head_min {l : List Int} (h : l.Pairwise (· < ·)) : ∀ x ∈ l, l.headD 0 ≤ x := by
  cases h with
  | nil => intro x hx; cases hx
  | cons h1 h2 =>
    intro x hx
    rcases List.mem_cons.1 hx with rfl | hx
    · exact Int.le_refl _
    · exact Int.le_of_lt (h1 x hx)
theorem ref_incs (F : List Int) (hF : F.length ≤ 1000) (r20 r24 : B × List B) (h1 : r20.1.signs.length ≤ 1000) (h2 : r24.1.signs.length ≤ 1000) (kk : List Int → List Int → Option (List Int × Int)) (fu : Nat) (hf : 1001 ≤ fu) : ∀ (d k i : Nat) (out sg : List Int) (c : Int), F.length - i = d → d < k → i ≤ F.length → out.length = F.length → sg.length ≤ i → (∀ v ∈ out, 0 ≤ v ∧ v ≤ c) → c ≤ 100000 + i →
    f_lumref_Lengths_L35 F r20 r24 kk fu k out sg (i : Int) = kk (incs out (picks r20.1.signs r24.1.signs d i)) (sg ++ picks r20.1.signs r24.1.signs d i)
  | _, 0, _, _, _, _, _, hk, _, _, _, _, _ => absurd hk (Nat.not_lt_zero _)
  | 0, k + 1, i, out, sg, c, hd, hk, hi, ho, hs, hv, hc => by
    rw [f_lumref_Lengths_L35, cond_ff (dge (by omega)), picks, incs, List.append_nil]
  | d + 1, k + 1, i, out, sg, c, hd, hk, hi, ho, hs, hv, hc => by
    have h : i < F.length := by omega
    rw [f_lumref_Lengths_L35, cond_tt (dlt (by omega)), lt_of, lt_of, wsucc (by omega), has_ok _ _ (by omega) fu (by omega), opt_of, has_ok _ _ (by omega) fu (by omega), opt_of]
    have yes : (i : Int) ∈ r20.1.signs ∨ (i : Int) ∈ r24.1.signs → (req (((sg.length + ([(i : Int)]).length) * 8 : Nat) ≤ 140737488355328 ∧ sg.length + ([(i : Int)]).length ≤ 9223372036854775807) (opt (at? out (i : Int)) fun (u45 : Int) => (opt (at? out (i : Int)) fun (u49 : Int) => (f_lumref_Lengths_L35 F r20 r24 kk fu k (out.set ((i : Int)).toNat (IntKind.i64.wrap (u45 + (1 : Int)))) (sg ++ ([(i : Int)])) ((i + 1 : Nat) : Int))))) = kk (incs out (picks r20.1.signs r24.1.signs (d + 1) i)) (sg ++ picks r20.1.signs r24.1.signs (d + 1) i) := fun hm => by
      obtain ⟨v, v1, v2, v3⟩ := inc_step (out := out) (s := (i : Int)) (by omega) (by omega) hv (by omega)
      rw [req_pos (by rw [List.length_singleton]; omega), v1, opt_of, opt_of, v2, ref_incs F hF r20 r24 h1 h2 kk fu hf d k (i + 1) (inc out (i : Int)) (sg ++ [(i : Int)]) (c + 1) (by omega) (by omega) (by omega) (by rw [inc_len]; exact ho) (by rw [List.length_append, List.length_singleton]; omega) v3 (by omega), picks, if_pos hm, incs, List.append_assoc]
      rfl
    by_cases hA : (i : Int) ∈ r20.1.signs
    · rw [decide_eq_true hA, cond_tt rfl]
      exact yes (.inl hA)
    · rw [decide_eq_false hA, cond_ff rfl]
      by_cases hC : (i : Int) ∈ r24.1.signs
      · rw [decide_eq_true hC]
        exact yes (.inr hC)
      · rw [decide_eq_false hC]
        have ih := ref_incs F hF r20 r24 h1 h2 kk fu hf d k (i + 1) out sg c (by omega) (by omega) (by omega) ho (by omega) hv (by omega)
        rw [picks, if_neg (fun e => e.elim hA hC)]
        exact ih
/-! two trees, two bunches: one of both -/
theorem Mt.join {n : Nat} {t u : T} {b c : B} (h1 : Mt n t b) (h2 : Mt n u c) (hw : b.weight + c.weight ≤ 1099511627776) (hd : ∀ x ∈ b.signs, x ∉ c.signs) :
    Mt n ⟨IntKind.i64.wrap (t.weight + u.weight), if u.least < t.least then u.least else t.least, t.symbols ++ u.symbols⟩ ⟨IntKind.i64.wrap (b.weight + c.weight), picks b.signs c.signs n 0⟩ := by
  have p1 := h1.pos; have p2 := h2.pos
  have hm : ∀ x, x ∈ picks b.signs c.signs n 0 ↔ (x ∈ b.signs ∨ x ∈ c.signs) := fun x => by
    rw [picks_mem]
    exact ⟨fun e => e.2.2, fun e => by
      have hr := e.elim (h1.rng x) (h2.rng x)
      exact ⟨by omega, by omega, e⟩⟩
  have k1 := (hm _).2 (.inl (key_mem h1.ne))
  have hne : picks b.signs c.signs n 0 ≠ [] := fun e => by rw [e] at k1; cases k1
  have hmin := head_min (picks_lt b.signs c.signs n 0)
  have k2 := (hm _).2 (.inr (key_mem h2.ne))
  refine ⟨?_, ?_, ?_, hne, fun x => ?_, ?_, hmin, fun x hx => ?_⟩
  · show IntKind.i64.wrap _ = IntKind.i64.wrap _
    rw [h1.w, h2.w]
  · show 0 ≤ IntKind.i64.wrap _
    rw [w64 (by omega) (by omega)]; omega
  · have l1 := h1.least; have l2 := h2.least
    have a1 := hmin _ k1
    have a2 := hmin _ k2
    have a3 := key_mem (b := (⟨IntKind.i64.wrap (b.weight + c.weight), picks b.signs c.signs n 0⟩ : B)) hne
    have a4 := (hm _).1 a3
    show (if u.least < t.least then u.least else t.least) = (picks b.signs c.signs n 0).headD 0
    have a5 : key b ≤ (picks b.signs c.signs n 0).headD 0 ∨ key c ≤ (picks b.signs c.signs n 0).headD 0 := a4.imp (h1.min _) (h2.min _)
    rw [l1, l2]
    split <;> omega
  · show x ∈ t.symbols ++ u.symbols ↔ x ∈ picks b.signs c.signs n 0
    rw [hm, List.mem_append, h1.mem, h2.mem]
  · show (t.symbols ++ u.symbols).Nodup
    rw [List.nodup_append]
    exact ⟨h1.nd, h2.nd, fun x hx y hy e => hd x ((h1.mem x).1 hx) (by rw [e]; exact (h2.mem y).1 hy)⟩
  · exact ((hm x).1 hx).elim (h1.rng x) (h2.rng x)
end Go.Proofs.Ytfhifdmbdkkgaaa.PHl
