/- Indexes written and read: IndexReads. No condition. -/
import Derived.Test.YtjbgahmcobcojaaDoorIrPut
import Derived.Test.YtjbgahmcobcojaaDoorIrIx
namespace Go.Proofs.YtjbgahmcobcojaaDoor.PIndexReads
open Go.RowKit YtjbgahmcobcojaaDoor.En YtjbgahmcobcojaaDoor Num Go.Lib PPut PIx
set_option linter.unusedVariables false
set_option linter.unusedSimpArgs false
abbrev Pl := S_api_Place
theorem u64_any (x : Int) : ∃ m : Nat, IntKind.u64.wrap x = (m : Int) ∧ m < 18446744073709551616 := by
  refine ⟨(x % 18446744073709551616).toNat, ?_, by omega⟩
  unfold IntKind.wrap
  simp [IntKind.signed, IntKind.bits]
  omega
theorem u8_any (x : Int) : 0 ≤ IntKind.u8.wrap x ∧ IntKind.u8.wrap x ≤ 255 := by
  unfold IntKind.wrap
  simp [IntKind.signed, IntKind.bits]
  omega
theorem put1_ok (x : Int) (fu : Nat) (hf : 9 ≤ fu) : ∃ r, f_num_Put fu (IntKind.u64.wrap x) = some r ∧ f_lumref_Put fu (IntKind.u64.wrap x) = some r ∧ r.length ≤ 9 := by
  obtain ⟨m, hm, hlt⟩ := u64_any x
  refine ⟨putV m, ?_, ?_, ?_⟩
  · rw [hm, put_ok m hlt fu]
  · rw [hm, rput_ok m hlt fu hf]
  · have := digF_len 8 m
    unfold putV
    rw [List.length_cons]; omega
theorem text_go (l : List Pl) (hl : l.length ≤ 400) (fu0 : Nat) (h0 : 9 ≤ fu0) (k1 : List UInt8 → Option (List UInt8 × Int)) (k2 : List UInt8 → Option (List UInt8)) : ∀ (d j fu : Nat) (out : List UInt8), l.length - j = d → j ≤ l.length → d < fu → out.length + d * 100 ≤ 1000000 →
    ∃ out', f_index_Text_L10 l k1 fu0 fu out (j : Int) = k1 out' ∧ f_lumref_IndexText_L7 l k2 fu0 fu out (j : Int) = k2 out'
  | _, _, 0, _, _, _, hf, _ => absurd hf (Nat.not_lt_zero _)
  | 0, j, fu + 1, out, hd, hj, _, _ => ⟨out, by rw [f_index_Text_L10, cond_ff (dge (by omega))], by rw [f_lumref_IndexText_L7, cond_ff (dge (by omega))]⟩
  | d + 1, j, fu + 1, out, hd, hj, hf, hx => by
    have hlt : j < l.length := by omega
    obtain ⟨u, hu⟩ : ∃ u, u = l[j] := ⟨_, rfl⟩
    obtain ⟨m, c1, c2, c3⟩ := put1_ok u.Pack fu0 h0
    obtain ⟨i, d1, d2, d3⟩ := put1_ok u.At fu0 h0
    obtain ⟨z, g1, g2, g3⟩ := put1_ok u.Len fu0 h0
    have hk := u8_any u.Kind
    obtain ⟨kb, hkb⟩ : ∃ kb : List UInt8, kb = [UInt8.ofNat (IntKind.u8.wrap u.Kind).toNat] := ⟨_, rfl⟩
    have hkl : kb.length = 1 := by rw [hkb]; rfl
    obtain ⟨ib, hib⟩ : ∃ ib : List UInt8, ib = lA8u8 u.ID := ⟨_, rfl⟩
    have hil : ib.length = 8 := by rw [hib]; rfl
    rw [f_index_Text_L10, f_lumref_IndexText_L7, cond_tt (dlt (by omega)), cond_tt (dlt (by omega)), at_lt hlt, ← hu]
    simp only [opt_of, c1, c2, d1, d2, g1, g2, ← hkb, ← hib, req_pos hk]
    have r1 : ib.length + kb.length ≤ 9223372036854775807 := by omega
    have r2 : (ib ++ kb).length + m.length ≤ 9223372036854775807 := by rw [List.length_append]; omega
    have r3 : ((ib ++ kb) ++ m).length + i.length ≤ 9223372036854775807 := by simp only [List.length_append]; omega
    have r4 : (((ib ++ kb) ++ m) ++ i).length + z.length ≤ 9223372036854775807 := by simp only [List.length_append]; omega
    obtain ⟨w, hw⟩ : ∃ w, w = (((ib ++ kb) ++ m) ++ i) ++ z := ⟨_, rfl⟩
    have hwl : w.length ≤ 50 := by rw [hw]; simp only [List.length_append]; omega
    have r5 : out.length + w.length ≤ 9223372036854775807 := by omega
    simp only [req_pos r1, req_pos r2, req_pos r3, req_pos r4, ← hw, req_pos r5]
    rw [wsucc (by omega)]
    exact text_go l hl fu0 h0 k1 k2 d (j + 1) fu (out ++ w) (by omega) (by omega) (by omega) (by rw [List.length_append]; omega)
/-! reading -/
abbrev Rr := Option (List Pl × Int)
def three (s : List UInt8) (K : Rr) : Rr := if (getV s).2.2 ≠ 0 then some ([], (getV s).2.2) else if (getV s).1 > 1099511627776 then some ([], 2) else K
theorem getV_b (s : List UInt8) (h : (getV s).2.2 = 0) : ∃ v k : Nat, getV s = ((v : Int), (k : Int), 0) ∧ k ≤ s.length := by
  cases s with
  | nil => cases h
  | cons b t =>
    rw [getV_cons] at h ⊢
    split at h
    · cases h
    · split at h
      · cases h
      · split at h
        · cases h
        · rename_i h1 h2 h3
          rw [if_neg h1, if_neg h2, if_neg h3]
          exact ⟨_, _, rfl, by rw [List.length_cons]; omega⟩
theorem stepC (fu : Nat) (hf : 9 ≤ fu) (s : List UInt8) (K : Int × Int × Int → Rr) : (opt (f_num_Get fu s) fun (r : (Int × Int × Int)) => (bif (r.2.2 != (0 : Int)) then (some (([] : List S_api_Place), r.2.2)) else (bif (decide (r.1 > (1099511627776 : Int))) then (some (([] : List S_api_Place), (2 : Int))) else (req (0 ≤ r.2.1 ∧ r.2.1 ≤ (s.length : Int)) (K r))))) = three s (K (getV s)) := by
  rw [get_ok s fu hf, opt_of]
  unfold three
  by_cases he : (getV s).2.2 = 0
  · obtain ⟨v, k, hg, hk⟩ := getV_b s he
    rw [if_neg (fun h => h he), cond_ff (show ((getV s).2.2 != 0) = false from by rw [he]; rfl)]
    by_cases hv : (getV s).1 > 1099511627776
    · rw [if_pos hv, cond_tt (decide_eq_true hv)]
    · rw [if_neg hv, cond_ff (decide_eq_false hv), req_pos (by rw [hg]; exact ⟨Int.natCast_nonneg _, by show (k : Int) ≤ _; omega⟩)]
  · rw [if_pos he, cond_tt (show ((getV s).2.2 != 0) = true from by simpa using he)]
theorem stepR (kk : List UInt8 → A3u64 → Rr) (fu : Nat) (hf : 9 ≤ fu) (k : Nat) (s : List UInt8) (A : A3u64) (i : Nat) (hi : i < 3) : f_lumref_IndexRead_L31 kk fu (k + 1) s A (i : Int) = three s (f_lumref_IndexRead_L31 kk fu k (s.drop (getV s).2.1.toNat) (setA3u64 A (i : Int) (getV s).1) ((i + 1 : Nat) : Int)) := by
  rw [f_lumref_IndexRead_L31, cond_tt (dlt (by omega)), rget_ok s fu hf, opt_of]
  unfold three
  by_cases he : (getV s).2.2 = 0
  · obtain ⟨v, kq, hg, hk⟩ := getV_b s he
    rw [if_neg (fun h => h he), cond_ff (show ((getV s).2.2 != 0) = false from by rw [he]; rfl)]
    by_cases hv : (getV s).1 > 1099511627776
    · rw [if_pos hv, cond_tt (decide_eq_true hv)]
    · rw [if_neg hv, cond_ff (decide_eq_false hv), at_lt (show i < (lA3u64 A).length from hi), opt_of, req_pos (by rw [hg]; exact ⟨Int.natCast_nonneg _, by show (kq : Int) ≤ _; omega⟩), wsucc (by omega)]
  · rw [if_pos he, cond_tt (show ((getV s).2.2 != 0) = true from by simpa using he)]
theorem three_cases (s : List UInt8) : (∃ e, ∀ K, three s K = some ([], e)) ∨ (∃ v k : Nat, getV s = ((v : Int), (k : Int), 0) ∧ k ≤ s.length ∧ v ≤ 1099511627776 ∧ ∀ K, three s K = K) := by
  by_cases he : (getV s).2.2 = 0
  · obtain ⟨v, k, hg, hk⟩ := getV_b s he
    by_cases hv : (getV s).1 > 1099511627776
    · exact .inl ⟨2, fun K => by unfold three; rw [if_neg (fun h => h he), if_pos hv]⟩
    · refine .inr ⟨v, k, hg, hk, ?_, fun K => by unfold three; rw [if_neg (fun h => h he), if_neg hv]⟩
      rw [hg] at hv
      have : ¬ ((v : Int) > 1099511627776) := hv
      omega
  · exact .inl ⟨_, fun K => by unfold three; rw [if_pos he]⟩
def Wf (u : Pl) : Prop := (0 ≤ u.Kind ∧ u.Kind ≤ 255) ∧ (0 ≤ u.Pack ∧ u.Pack ≤ 1099511627776) ∧ (0 ≤ u.At ∧ u.At ≤ 1099511627776) ∧ (0 ≤ u.Len ∧ u.Len ≤ 1099511627776)
theorem id_eq (s : List UInt8) : cpA8u8 (A8u8.mk (0 : UInt8) (0 : UInt8) (0 : UInt8) (0 : UInt8) (0 : UInt8) (0 : UInt8) (0 : UInt8) (0 : UInt8)) s = ofA8u8 (s.take 8 ++ List.drop (s.take 8).length [0, 0, 0, 0, 0, 0, 0, 0]) := rfl
theorem bAt8 (s : List UInt8) (h : 9 ≤ s.length) : ∃ b : UInt8, En.bAt s (8 : Int) = ((b.toNat : Nat) : Int) := ⟨_, PPut.bAt_lt (s := s) (j := 8) (by omega)⟩
theorem read_go (v : Nat) (hv : v ≤ 400) (r1 r2 : Int × Int × Int) (h1 : r1.1 = (v : Int)) (h2 : r2.1 = (v : Int)) (k1 k2 : List UInt8 → List Pl → Rr) (fu : Nat) (hfu : 1000 ≤ fu) : ∀ (d j k q : Nat) (s : List UInt8) (xs : List Pl), j + d = v → d < k → d < q → xs.length = j → (∀ u ∈ xs, Wf u) → s.length ≤ 9223372036854775807 →
    (∃ s' ys, (∀ u ∈ ys, Wf u) ∧ ys.length ≤ 400 ∧ f_index_Read_L14 r1 k1 fu k s xs (j : Int) = k1 s' ys ∧ f_lumref_IndexRead_L14 r2 k2 fu q s xs (j : Int) = k2 s' ys) ∨
    (∃ e, f_index_Read_L14 r1 k1 fu k s xs (j : Int) = some ([], e) ∧ f_lumref_IndexRead_L14 r2 k2 fu q s xs (j : Int) = some ([], e)) := by
  intro d
  induction d with
  | zero =>
    intro j k q s xs hj hk hq hx hw hs
    obtain ⟨k, rfl⟩ : ∃ k', k = k' + 1 := ⟨k - 1, by omega⟩
    obtain ⟨q, rfl⟩ : ∃ q', q = q' + 1 := ⟨q - 1, by omega⟩
    rw [f_index_Read_L14, f_lumref_IndexRead_L14]
    simp only [lt_of]
    rw [cond_ff (show decide ((j : Int) < r1.1) = false from decide_eq_false (by rw [h1]; omega)), cond_ff (show decide ((j : Int) < r2.1) = false from decide_eq_false (by rw [h2]; omega))]
    exact .inl ⟨s, xs, hw, by omega, rfl, rfl⟩
  | succ d ih =>
    intro j k q s xs hj hk hq hx hw hs
    obtain ⟨k, rfl⟩ : ∃ k', k = k' + 1 := ⟨k - 1, by omega⟩
    obtain ⟨q, rfl⟩ : ∃ q', q = q' + 1 := ⟨q - 1, by omega⟩
    have wj : IntKind.u64.wrap ((j : Int) + 1) = ((j + 1 : Nat) : Int) := by rw [show ((j : Int) + 1) = ((j + 1 : Nat) : Int) by omega, uw (by omega)]
    rw [f_index_Read_L14, f_lumref_IndexRead_L14]
    simp only [lt_of]
    rw [cond_tt (show decide ((j : Int) < r1.1) = true from decide_eq_true (by rw [h1]; omega)), cond_tt (show decide ((j : Int) < r2.1) = true from decide_eq_true (by rw [h2]; omega)), wj]
    by_cases h9 : s.length < 9
    · rw [decide_eq_true (show (s.length : Int) < 9 by omega), cond_tt rfl, cond_tt rfl]
      exact .inr ⟨3, rfl, rfl⟩
    · obtain ⟨b, hb⟩ := bAt8 s (by omega)
      have hbl := b.toNat_lt
      have ht8 : (s.take 8).length = 8 := by rw [List.length_take]; omega
      have e8 : ((8 : Int)).toNat = 8 := rfl
      have e9 : ((9 : Int)).toNat = 9 := rfl
      have q1 : 0 ≤ (8 : Int) ∧ (8 : Int) ≤ (s.length : Int) := ⟨by omega, by omega⟩
      have q2 : 0 ≤ (8 : Int) ∧ (8 : Int) < (s.length : Int) := ⟨by omega, by omega⟩
      have q3 : 0 ≤ (9 : Int) ∧ (9 : Int) ≤ (s.length : Int) := ⟨by omega, by omega⟩
      have q4 : (s.take 8).length ≤ 9223372036854775807 := by omega
      have q5 : 8 ≤ (s.take 8).length := by omega
      rw [decide_eq_false (show ¬ (s.length : Int) < 9 by omega), cond_ff rfl, cond_ff rfl]
      simp only [e8, e9, req_pos q1, req_pos q2, req_pos q3, req_pos q4, req_pos q5, hb, iw (n := b.toNat) (by omega), id_eq]
      rw [ht8, show List.drop 8 ([0, 0, 0, 0, 0, 0, 0, 0] : List UInt8) = [] from rfl, List.append_nil]
      obtain ⟨f, rfl⟩ : ∃ f, fu = f + 4 := ⟨fu - 4, by omega⟩
      rw [stepC _ (by omega)]
      have r31 := stepR (fun (j24s0 : (List UInt8)) (j24A9_0 : A3u64) => req (((xs.length + [S_api_Place.mk (ofA8u8 (s.take 8)) ((b.toNat : Nat) : Int) (IntKind.i64.wrap j24A9_0.e0) (IntKind.i64.wrap j24A9_0.e1) (IntKind.i64.wrap j24A9_0.e2)].length) * 40 : Nat) ≤ 140737488355328 ∧ xs.length + [S_api_Place.mk (ofA8u8 (s.take 8)) ((b.toNat : Nat) : Int) (IntKind.i64.wrap j24A9_0.e0) (IntKind.i64.wrap j24A9_0.e1) (IntKind.i64.wrap j24A9_0.e2)].length ≤ 9223372036854775807) (f_lumref_IndexRead_L14 r2 k2 (f + 4) q j24s0 (xs ++ [S_api_Place.mk (ofA8u8 (s.take 8)) ((b.toNat : Nat) : Int) (IntKind.i64.wrap j24A9_0.e0) (IntKind.i64.wrap j24A9_0.e1) (IntKind.i64.wrap j24A9_0.e2)]) ((j + 1 : Nat) : Int))) (f + 4) (by omega)
      have r0 := r31 (f + 3) (s.drop 9) (A3u64.mk 0 0 0) 0 (by omega)
      rw [show f + 3 + 1 = f + 4 from rfl] at r0
      rw [show ((0 : Nat) : Int) = (0 : Int) from rfl] at r0
      rw [r0]
      rcases three_cases (s.drop 9) with ⟨e, he⟩ | ⟨v1, m1, g1, hm1, hv1, ha⟩
      · exact .inr ⟨e, he _, he _⟩
      rw [ha, ha, g1]
      dsimp only
      rw [Int.toNat_natCast, stepC _ (by omega), r31 (f + 2) ((s.drop 9).drop m1) _ (0 + 1) (by omega)]
      rcases three_cases ((s.drop 9).drop m1) with ⟨e, he⟩ | ⟨v2, m2, g2, hm2, hv2, hb2⟩
      · exact .inr ⟨e, he _, he _⟩
      rw [hb2, hb2, g2]
      dsimp only
      rw [Int.toNat_natCast, stepC _ (by omega), r31 (f + 1) (((s.drop 9).drop m1).drop m2) _ (0 + 1 + 1) (by omega)]
      rcases three_cases (((s.drop 9).drop m1).drop m2) with ⟨e, he⟩ | ⟨v3, m3, g3, hm3, hv3, hc3⟩
      · exact .inr ⟨e, he _, he _⟩
      rw [hc3, hc3, g3]
      dsimp only
      rw [Int.toNat_natCast, f_lumref_IndexRead_L31, cond_ff (by rfl)]
      rw [show setA3u64 (setA3u64 (setA3u64 (A3u64.mk 0 0 0) (0 : Int) (v1 : Int)) ((0 + 1 : Nat) : Int) (v2 : Int)) ((0 + 1 + 1 : Nat) : Int) (v3 : Int) = A3u64.mk (v1 : Int) (v2 : Int) (v3 : Int) from rfl]
      dsimp only
      rw [iw (n := v1) (by omega), iw (n := v2) (by omega), iw (n := v3) (by omega)]
      obtain ⟨u, hu⟩ : ∃ u, u = S_api_Place.mk (ofA8u8 (s.take 8)) ((b.toNat : Nat) : Int) (v1 : Int) (v2 : Int) (v3 : Int) := ⟨_, rfl⟩
      have huw : Wf u := by
        rw [hu]
        refine ⟨⟨?_, ?_⟩, ⟨?_, ?_⟩, ⟨?_, ?_⟩, ⟨?_, ?_⟩⟩ <;> dsimp only <;> omega
      have hrq : ((xs.length + [u].length) * 40 : Nat) ≤ 140737488355328 ∧ xs.length + [u].length ≤ 9223372036854775807 := ⟨by rw [List.length_singleton]; omega, by rw [List.length_singleton]; omega⟩
      rw [← hu]
      simp only [req_pos hrq]
      exact ih (j + 1) k q ((((s.drop 9).drop m1).drop m2).drop m3) (xs ++ [u]) (by omega) (by omega) (by omega) (by rw [List.length_append, List.length_singleton]; omega) (fun w hw' => by
        rcases List.mem_append.1 hw' with h | h
        · exact hw w h
        · rw [List.mem_singleton.1 h]; exact huw) (by simp only [List.length_drop]; omega)
theorem read_ok (s : List UInt8) (hs : s.length ≤ 9223372036854775807) (fu : Nat) (hfu : 1000 ≤ fu) : ∃ l e, (∀ u ∈ l, Wf u) ∧ l.length ≤ 400 ∧ f_index_Read fu s = some (l, e) ∧ f_lumref_IndexRead fu s = some (l, e) := by
  unfold f_index_Read f_lumref_IndexRead
  rw [get_ok s fu (by omega), rget_ok s fu (by omega), opt_of, opt_of]
  by_cases he : (getV s).2.2 = 0
  · obtain ⟨v, k, hg, hk⟩ := getV_b s he
    rw [hg]
    dsimp only
    have z0 : ((0 : Int) != 0) = false := rfl
    rw [cond_ff z0, cond_ff z0]
    by_cases hv : v ≤ 400
    · rw [decide_eq_false (show ¬ (v : Int) > 400 by omega), cond_ff rfl, cond_ff rfl, req_pos ⟨by omega, by omega⟩, req_pos ⟨by omega, by omega⟩]
      simp only [lt_of]
      rw [Int.toNat_natCast]
      rcases read_go v hv ((v : Int), (k : Int), 0) ((v : Int), (k : Int), 0) rfl rfl (fun (j6s0 : (List UInt8)) (j6x7 : (List S_api_Place)) => (bif (!(j6s0 == ([] : List UInt8))) then (some (([] : List S_api_Place), (4 : Int))) else (opt (f_index_Check fu j6x7) fun (r10 : Int) => (bif (r10 != (0 : Int)) then (some (([] : List S_api_Place), r10)) else (some (j6x7, (0 : Int))))))) (fun (j6s0 : (List UInt8)) (j6x7 : (List S_api_Place)) => (bif (decide ((j6s0.length : Int) > (0 : Int))) then (some (([] : List S_api_Place), (4 : Int))) else (opt (f_lumref_Index fu j6x7) fun (r10 : Int) => (bif (r10 != (0 : Int)) then (some (([] : List S_api_Place), r10)) else (some (j6x7, (0 : Int))))))) fu hfu v 0 fu fu (s.drop k) [] (by omega) (by omega) (by omega) rfl (by simp) (by rw [List.length_drop]; omega) with ⟨s', ys, h1, h2, h3, h4⟩ | ⟨e, h3, h4⟩
      · by_cases hs' : s' = []
        · subst hs'
          have c1 := code_any ys fu (by omega)
          have c2 := ref_any ys fu (by omega)
          by_cases hc : chk ys = 0
          · refine ⟨ys, 0, h1, h2, h3.trans ?_, h4.trans ?_⟩
            · rw [cond_ff (by rfl), c1, opt_of, hc]; rfl
            · rw [cond_ff (by rfl), c2, opt_of, hc]; rfl
          · have zc : (chk ys != 0) = true := by simpa using hc
            refine ⟨[], chk ys, by simp, by simp, h3.trans ?_, h4.trans ?_⟩
            · rw [cond_ff (by rfl), c1, opt_of, cond_tt zc]
            · rw [cond_ff (by rfl), c2, opt_of, cond_tt zc]
        · have hp : 0 < s'.length := List.length_pos_iff.2 hs'
          refine ⟨[], 4, by simp, by simp, h3.trans ?_, h4.trans ?_⟩
          · rw [cond_tt (by simpa using hs')]
          · rw [cond_tt (decide_eq_true (by omega))]
      · exact ⟨[], e, by simp, by simp, h3, h4⟩
    · rw [decide_eq_true (show (v : Int) > 400 by omega), cond_tt rfl, cond_tt rfl]
      exact ⟨[], 2, by simp, by simp, rfl, rfl⟩
  · have z1 : ((getV s).2.2 != 0) = true := by simpa using he
    rw [cond_tt z1, cond_tt z1]
    exact ⟨[], _, by simp, by simp, rfl, rfl⟩
theorem wf_i64 {x : Int} (h0 : 0 ≤ x) (h1 : x ≤ 1099511627776) : (Lit.int .i64 x).wf = true := by
  simp [Lit.wf, IntKind.min, IntKind.max, IntKind.signed, IntKind.bits]; omega
theorem eq_go (a : List Pl) (ha : a.length ≤ 400) (hw : ∀ u ∈ a, Wf u) (kk : Unit → Option Bool) : ∀ (d j fu : Nat), a.length - j = d → j ≤ a.length → d < fu → f_slices_Equal___api_Place_api_Place__L6 a a kk fu (j : Int) = kk ()
  | _, _, 0, _, _, hf => absurd hf (Nat.not_lt_zero _)
  | 0, j, fu + 1, hd, hj, _ => by rw [f_slices_Equal___api_Place_api_Place__L6, cond_ff (dge (by omega))]
  | d + 1, j, fu + 1, hd, hj, hf => by
    have hlt : j < a.length := by omega
    obtain ⟨⟨a1, a2⟩, ⟨b1, b2⟩, ⟨c1, c2⟩, ⟨d1, d2⟩⟩ := hw a[j] (List.getElem_mem hlt)
    have w1 := wf_i64 a1 (by omega)
    have w2 := wf_i64 b1 b2
    have w3 := wf_i64 c1 c2
    have w4 := wf_i64 d1 d2
    rw [f_slices_Equal___api_Place_api_Place__L6, cond_tt (dlt (by omega)), at_lt hlt, opt_of, opt_of, req_pos w1, req_pos w2, req_pos w3, req_pos w4, req_pos w1, req_pos w2, req_pos w3, req_pos w4, beq_self_eq_true, show (!true) = false from rfl, cond_ff rfl, wsucc (by omega)]
    exact eq_go a ha hw kk d (j + 1) fu (by omega) (by omega) (by omega)
theorem eq_ok (a : List Pl) (ha : a.length ≤ 400) (hw : ∀ u ∈ a, Wf u) (fu : Nat) (hf : a.length < fu) : f_slices_Equal___api_Place_api_Place_ fu a a = some true := by
  unfold f_slices_Equal___api_Place_api_Place_
  rw [bne_self_eq_false, cond_ff rfl, lt_of]
  exact eq_go a ha hw _ a.length 0 fu (by omega) (by omega) (by omega)
theorem law_ok (l : List Pl) (s : List UInt8) (hs : s.length ≤ 9223372036854775807) (fu : Nat) (hfu : 1000 ≤ fu) : f_lumlaw_IndexReads fu l s = some true := by
  have c1 := code_any l fu (by omega)
  have c2 := ref_any l fu (by omega)
  obtain ⟨m, e, hw, hm, g1, g2⟩ := read_ok s hs fu hfu
  have q := eq_ok m hm hw fu (by omega)
  have tail : ∀ (t : List UInt8), f_index_Text fu l = some (t, chk l) → (if chk l = 0 then f_lumref_IndexText fu l = some t else t = []) → f_lumlaw_IndexReads fu l s = some true := by
    intro t h1 h2
    unfold f_lumlaw_IndexReads
    rw [h1, opt_of, c2, opt_of]
    simp only [lt_of]
    rw [g1, g2]
    simp only [opt_of]
    rw [q, opt_of]
    by_cases hc : chk l = 0
    · rw [if_pos hc] at h2
      rw [hc, cond_tt (show ((0 : Int) == 0) = true from rfl), h2, opt_of]
      simp
    · rw [if_neg hc] at h2
      subst h2
      rw [cond_ff (show (chk l == 0) = false from by simpa using hc)]
      simp
  by_cases hc : chk l = 0
  · have hl : l.length ≤ 400 := by
      unfold chk at hc
      by_cases h : l.length > 400
      · rw [if_pos h] at hc; exact absurd hc (by decide)
      · omega
    obtain ⟨p, p1, p2, p3⟩ := put1_ok (l.length : Int) fu (by omega)
    obtain ⟨o, o1, o2⟩ := text_go l hl fu (by omega) (fun j => some (j, 0)) (fun j => some j) l.length 0 fu p (by omega) (by omega) (by omega) (by omega)
    refine tail o ?_ ?_
    · unfold f_index_Text
      rw [c1, opt_of, hc, cond_ff (show ((0 : Int) != 0) = false from rfl), p1, opt_of, lt_of]
      exact o1
    · rw [if_pos hc]
      unfold f_lumref_IndexText
      rw [p2, opt_of, lt_of]
      exact o2
  · refine tail [] ?_ ?_
    · unfold f_index_Text
      rw [c1, opt_of, cond_tt (show (chk l != 0) = true from by simpa using hc)]
    · rw [if_neg hc]
def fuel (_ : List Pl) (_ : List UInt8) : Nat := 1000
theorem says (l : List Pl) (s : List UInt8) (ok0 : okL (fun y => okS_api_Place y) l) (ok1 : s.length ≤ 9223372036854775807) : f_lumlaw_IndexReads (fuel l s) l s = some true := law_ok l s ok1 1000 (Nat.le_refl _)
end Go.Proofs.YtjbgahmcobcojaaDoor.PIndexReads
