/- The heap of trees: what push and pop do. No condition. -/
import Derived.Test.YtfhifdmbdkkgaaaWHuffLengths
import Derived.Test.YtfhifdmbdkkgaaaHeapMath
import Derived.Test.YtfhifdmbdkkgaaaPlBits
namespace Go.Proofs.Ytfhifdmbdkkgaaa.PHl
open Go.RowKit Ytfhifdmbdkkgaaa.En Ytfhifdmbdkkgaaa Ytfhifdmbdkkgaaa.HeapM
set_option linter.unusedVariables false
set_option linter.unusedSimpArgs false
abbrev T := S_huff_tree
def Tb (t : T) : Prop := (0 ≤ t.weight ∧ t.weight ≤ 1099511627776) ∧ (0 ≤ t.least ∧ t.least ≤ 1099511627776)
def le (a b : T) : Prop := a.weight < b.weight ∨ (a.weight = b.weight ∧ a.least ≤ b.least)
theorem ord : Ord le := ⟨fun a => .inr ⟨rfl, Int.le_refl _⟩, fun {a b c} h1 h2 => by unfold le at *; omega, fun a b => by unfold le; omega⟩
theorem or_ok (a b : Int) {fu : Nat} (hf : 3 ≤ fu) : f_cmp_Or_int_ fu [a, b] = some (if a ≠ 0 then a else b) := by
  obtain ⟨k, rfl⟩ : ∃ k, fu = k + 3 := ⟨fu - 3, by omega⟩
  unfold f_cmp_Or_int_
  rw [lt_of]
  rw [f_cmp_Or_int__L5, cond_tt (show decide ((0 : Int) < (([a, b] : List Int).length : Int)) = true by simp)]
  show (bif a != 0 then some a else f_cmp_Or_int__L5 [a, b] _ (k + 2) (IntKind.i64.wrap (0 + 1))) = _
  by_cases ha : a = 0
  · rw [cond_ff (by rw [ha]; rfl), if_neg (by simpa using ha), show IntKind.i64.wrap ((0 : Int) + 1) = 1 by decide, f_cmp_Or_int__L5, cond_tt (show decide ((1 : Int) < (([a, b] : List Int).length : Int)) = true by simp)]
    show (bif b != 0 then some b else f_cmp_Or_int__L5 [a, b] _ (k + 1) (IntKind.i64.wrap (1 + 1))) = _
    by_cases hb : b = 0
    · rw [cond_ff (by rw [hb]; rfl), show IntKind.i64.wrap ((1 : Int) + 1) = 2 by decide, f_cmp_Or_int__L5, cond_ff (by simp), hb]
    · rw [cond_tt (by simpa using hb)]
  · rw [cond_tt (by simpa using ha), if_pos ha]
theorem cmp_ok {a b : T} (ha : Tb a) (hb : Tb b) {fu : Nat} (hf : 3 ≤ fu) : ∃ r, f_huff_Lengths_2 fu a b = some r ∧ (r ≤ 0 ↔ le a b) ∧ (r < 0 ↔ ¬ le b a) := by
  obtain ⟨⟨a1, a2⟩, ⟨a3, a4⟩⟩ := ha
  obtain ⟨⟨b1, b2⟩, ⟨b3, b4⟩⟩ := hb
  unfold f_huff_Lengths_2
  rw [w64 (x := a.weight - b.weight) (by omega) (by omega), w64 (x := a.least - b.least) (by omega) (by omega), or_ok _ _ hf, opt_of]
  refine ⟨_, rfl, ?_, ?_⟩ <;> unfold le <;> split <;> omega
theorem push_go (fu : Nat) (hf : 3 ≤ fu) : ∀ (k i : Nat) (l : List T), HU le l i → i < l.length → i < k → l.length ≤ 1000000 → (∀ t ∈ l, Tb t) → ∃ l', f___huff_heap_huff_tree___push_L7 fu k l (i : Int) = some ⟨l'⟩ ∧ l'.Perm l ∧ H le l'
  | 0, _, _, _, _, hk, _, _ => absurd hk (Nat.not_lt_zero _)
  | k + 1, i, l, hu, hi, hk, hl, hb => by
    rw [f___huff_heap_huff_tree___push_L7]
    by_cases h0 : i = 0
    · subst h0
      rw [cond_ff (by decide)]
      exact ⟨l, rfl, List.Perm.refl _, hu.zero⟩
    · have hp : IntKind.i64.wrap ((IntKind.i64.wrap ((i : Int) - 1)).tdiv 2) = (((i - 1) / 2 : Nat) : Int) := by
        rw [w64 (x := (i : Int) - 1) (by omega) (by omega), show (i : Int) - 1 = ((i - 1 : Nat) : Int) by omega, show ((i - 1 : Nat) : Int).tdiv 2 = (((i - 1) / 2 : Nat) : Int) from (Int.ofNat_tdiv (i - 1) 2).symm, w64 (by omega) (by omega)]
      have hpl : (i - 1) / 2 < l.length := by omega
      have hx := List.getElem?_eq_getElem hpl
      have hy := List.getElem?_eq_getElem hi
      obtain ⟨r, r1, r2, r3⟩ := cmp_ok (hb _ (List.getElem_mem hpl)) (hb _ (List.getElem_mem hi)) hf
      rw [cond_tt (decide_eq_true (show (i : Int) > 0 by omega)), hp, at_lt hpl, opt_of, at_lt hi, opt_of, r1, opt_of]
      by_cases hr : r ≤ 0
      · rw [cond_tt (decide_eq_true hr)]
        exact ⟨l, rfl, List.Perm.refl _, hu.stop (by omega) hx hy (r2.1 hr)⟩
      · have hle : le l[i] l[(i - 1) / 2] := (ord.total _ _).resolve_left fun h => hr (r2.2 h)
        have hs : (l.set ((i - 1) / 2) l[i])[i]? = some l[i] := by rw [List.getElem?_set, if_neg (by omega)]; exact hy
        rw [cond_ff (decide_eq_false hr), opt_of, opt_of, Int.toNat_natCast, at_of hs, opt_of, Int.toNat_natCast]
        have hpm := swap_perm hx hy
        obtain ⟨l', e1, e2, e3⟩ := push_go fu hf k ((i - 1) / 2) _ (hu.up ord (by omega) hx hy hle) (by rw [List.length_set, List.length_set]; omega) (by omega) (by rw [List.length_set, List.length_set]; omega) (fun t ht => hb t (hpm.mem_iff.1 ht))
        exact ⟨l', e1, e2.trans hpm, e3⟩
theorem push_ok (fu : Nat) (l : List T) (t : T) (h : H le l) (hl : l.length ≤ 999999) (hf : l.length + 3 ≤ fu) (hb : ∀ t ∈ l, Tb t) (ht : Tb t) : ∃ l', f___huff_heap_huff_tree___push fu ⟨l⟩ t = some ⟨l'⟩ ∧ l'.Perm (t :: l) ∧ H le l' := by
  unfold f___huff_heap_huff_tree___push
  dsimp only
  have e : IntKind.i64.wrap (((l ++ [t]).length : Int) - 1) = (l.length : Int) := by
    rw [List.length_append, List.length_singleton, w64 (by omega) (by omega)]; omega
  rw [req_pos (by rw [List.length_singleton]; omega), e]
  obtain ⟨l', e1, e2, e3⟩ := push_go fu (by omega) fu l.length (l ++ [t]) (H.snoc h) (by rw [List.length_append, List.length_singleton]; omega) (by omega) (by rw [List.length_append, List.length_singleton]; omega) (fun u hu => by
    rcases List.mem_append.1 hu with h | h
    · exact hb u h
    · rw [List.mem_singleton.1 h]; exact ht)
  exact ⟨l', e1, e2.trans (List.perm_append_comm (l₂ := [t])), e3⟩
/-! pop -/
theorem pick_step (a0 : D_huff_heap_huff_tree_) (m : List T) (i : Nat) (hn : a0.items.length = m.length + 1) (hm : m.length ≤ 1000000) (hi : i ≤ 1000000) (hb : ∀ t ∈ m, Tb t) (kk : Int → Option (T × D_huff_heap_huff_tree_)) (fu : Nat) (hf : 3 ≤ fu) (k q s : Nat) (hq : q < 2) (hs : 2 * i + 1 + q < m.length → s < m.length) :
    ∃ s' : Nat, f___huff_heap_huff_tree___pop_L50 a0 m (i : Int) kk fu (k + 1) (s : Int) (q : Int) = f___huff_heap_huff_tree___pop_L50 a0 m (i : Int) kk fu k (s' : Int) ((q + 1 : Nat) : Int) ∧
      ((s' = s ∧ ∀ x z, m[s]? = some x → m[2 * i + 1 + q]? = some z → le x z) ∨ (s' = 2 * i + 1 + q ∧ ∃ x z, m[s]? = some x ∧ m[s']? = some z ∧ le z x)) := by
  rw [f___huff_heap_huff_tree___pop_L50, cond_tt (decide_eq_true (show (q : Int) < 2 by omega)), lt_of, w64 (x := (2 : Int) * (i : Int)) (by omega) (by omega), w64 (x := (2 : Int) * (i : Int) + 1) (by omega) (by omega), w64 (x := (2 : Int) * (i : Int) + 2) (by omega) (by omega), wsucc (by omega)]
  have hat : at? (lA2i64 (A2i64.mk ((2 : Int) * (i : Int) + 1) ((2 : Int) * (i : Int) + 2))) (q : Int) = some ((2 * i + 1 + q : Nat) : Int) := by
    match q, hq with
    | 0, _ => show some ((2 : Int) * (i : Int) + 1) = _; congr 1
    | 1, _ => show some ((2 : Int) * (i : Int) + 2) = _; congr 1
  rw [hat, opt_of, lt_of, hn, w64 (x := ((m.length + 1 : Nat) : Int) - 1) (by omega) (by omega)]
  by_cases hc : 2 * i + 1 + q < m.length
  · have hsl := hs hc
    obtain ⟨r, r1, r2, r3⟩ := cmp_ok (hb _ (List.getElem_mem hc)) (hb _ (List.getElem_mem hsl)) hf
    rw [cond_tt (decide_eq_true (show ((2 * i + 1 + q : Nat) : Int) < ((m.length + 1 : Nat) : Int) - 1 by omega)), at_lt hc, opt_of, at_lt hsl, opt_of, r1, opt_of]
    dsimp only
    by_cases hr : r < 0
    · rw [cond_tt (decide_eq_true hr)]
      exact ⟨_, rfl, .inr ⟨rfl, _, _, List.getElem?_eq_getElem hsl, List.getElem?_eq_getElem hc, (ord.total _ _).resolve_right (r3.1 hr)⟩⟩
    · rw [cond_ff (decide_eq_false hr)]
      refine ⟨s, rfl, .inl ⟨rfl, fun x z hx hz => ?_⟩⟩
      rw [List.getElem?_eq_getElem hsl] at hx
      rw [List.getElem?_eq_getElem hc] at hz
      cases hx; cases hz
      exact Classical.byContradiction fun h => hr (r3.2 h)
  · rw [cond_ff (decide_eq_false (show ¬ ((2 * i + 1 + q : Nat) : Int) < ((m.length + 1 : Nat) : Int) - 1 by omega))]
    dsimp only
    rw [cond_ff rfl]
    refine ⟨s, rfl, .inl ⟨rfl, fun x z _ hz => ?_⟩⟩
    exact absurd (List.getElem?_eq_some_iff.1 hz).1 hc
theorem kids {c i : Nat} (h0 : 0 < c) (h : (c - 1) / 2 = i) : c = 2 * i + 1 ∨ c = 2 * i + 2 := by omega
theorem pick_ok (a0 : D_huff_heap_huff_tree_) (m : List T) (i : Nat) (hn : a0.items.length = m.length + 1) (hm : m.length ≤ 1000000) (hi : i ≤ m.length) (hb : ∀ t ∈ m, Tb t) (kk : Int → Option (T × D_huff_heap_huff_tree_)) (fu : Nat) (hf : 3 ≤ fu) :
    ∃ j : Nat, f___huff_heap_huff_tree___pop_L50 a0 m (i : Int) kk fu fu (i : Int) 0 = kk (j : Int) ∧
      ((j = i ∧ ∀ (c : Nat) (x z : T), 0 < c → (c - 1) / 2 = i → m[i]? = some x → m[c]? = some z → le x z) ∨
       (0 < j ∧ (j - 1) / 2 = i ∧ ∃ x y, m[i]? = some x ∧ m[j]? = some y ∧ le y x ∧ ∀ (c : Nat) (z : T), 0 < c → (c - 1) / 2 = i → m[c]? = some z → le y z)) := by
  obtain ⟨k, rfl⟩ : ∃ k, fu = k + 3 := ⟨fu - 3, by omega⟩
  obtain ⟨s1, e1, c1⟩ := pick_step a0 m i hn hm (by omega) hb kk (k + 3) hf (k + 2) 0 i (by omega) (by omega)
  obtain ⟨s2, e2, c2⟩ := pick_step a0 m i hn hm (by omega) hb kk (k + 3) hf (k + 1) 1 s1 (by omega) (by rcases c1 with ⟨rfl, -⟩ | ⟨rfl, -⟩ <;> omega)
  refine ⟨s2, ?_, ?_⟩
  · rw [show (0 : Int) = ((0 : Nat) : Int) from rfl, e1, e2, f___huff_heap_huff_tree___pop_L50, cond_ff (by decide)]
  · rw [show 2 * i + 1 + 0 = 2 * i + 1 from rfl] at c1
    rw [show 2 * i + 1 + 1 = 2 * i + 2 from rfl] at c2
    rcases c1 with ⟨rfl, h1⟩ | ⟨rfl, x, z, hx, hz, h1⟩
    · rcases c2 with ⟨rfl, h2⟩ | ⟨rfl, x, z, hx, hz, h2⟩
      · refine .inl ⟨rfl, fun c x z h0 hc hx hz => ?_⟩
        rcases kids h0 hc with rfl | rfl
        · exact h1 x z hx hz
        · exact h2 x z hx hz
      · refine .inr ⟨by omega, by omega, x, z, hx, hz, h2, fun c w h0 hc hw => ?_⟩
        rcases kids h0 hc with rfl | rfl
        · exact ord.trans h2 (h1 x w hx hw)
        · rw [hz] at hw; cases hw; exact ord.refl _
    · rcases c2 with ⟨rfl, h2⟩ | ⟨rfl, x', z', hx', hz', h2⟩
      · refine .inr ⟨by omega, by omega, x, z, hx, hz, h1, fun c w h0 hc hw => ?_⟩
        rcases kids h0 hc with rfl | rfl
        · rw [hz] at hw; cases hw; exact ord.refl _
        · exact h2 z w hz hw
      · rw [hz] at hx'
        cases hx'
        refine .inr ⟨by omega, by omega, x, z', hx, hz', ord.trans h2 h1, fun c w h0 hc hw => ?_⟩
        rcases kids h0 hc with rfl | rfl
        · rw [hz] at hw; cases hw; exact h2
        · rw [hz'] at hw; cases hw; exact ord.refl _
theorem pop_go (a0 : D_huff_heap_huff_tree_) (u : T) (fu : Nat) (hf : 3 ≤ fu) : ∀ (d k i : Nat) (m : List T), m.length - i = d → d < k → a0.items.length = m.length + 1 → m.length ≤ 1000000 → i ≤ m.length → (∀ t ∈ m, Tb t) → HD le m i →
    ∃ m', f___huff_heap_huff_tree___pop_L23 a0 u fu k m (i : Int) = some (u, ⟨m'⟩) ∧ m'.Perm m ∧ H le m'
  | _, 0, _, _, _, hk, _, _, _, _, _ => absurd hk (Nat.not_lt_zero _)
  | d, k + 1, i, m, hd, hk, hn, hm, hi, hb, hh => by
    rw [f___huff_heap_huff_tree___pop_L23, lt_of, lt_of]
    obtain ⟨j, e, hj⟩ := pick_ok a0 m i hn hm hi hb (fun (j25i6 : Int) => (bif (j25i6 == (i : Int)) then (some (u, (D_huff_heap_huff_tree_.mk m))) else (opt (at? m (i : Int)) fun (u28 : S_huff_tree) => (opt (at? m j25i6) fun (u34 : S_huff_tree) => (opt (at? m j25i6) fun (u40 : S_huff_tree) => (opt (at? (m.set (j25i6).toNat u28) (i : Int)) fun (u44 : S_huff_tree) => (f___huff_heap_huff_tree___pop_L23 a0 u fu k ((m.set (j25i6).toNat u28).set ((i : Int)).toNat u34) j25i6))))))) fu hf
    rw [e]
    rcases hj with ⟨rfl, hs⟩ | ⟨h0, hp, x, y, hx, hy, hle, hmin⟩
    · rw [cond_tt (by simp)]
      refine ⟨m, rfl, List.Perm.refl _, ?_⟩
      by_cases hjl : j < m.length
      · exact hh.stop (List.getElem?_eq_getElem hjl) fun c z h0 hc hz => hs c _ z h0 hc (List.getElem?_eq_getElem hjl) hz
      · intro c v w h0 hv hw
        by_cases hc : (c - 1) / 2 = j
        · exact hs c v w h0 hc (by rw [← hc]; exact hv) hw
        · exact hh.1 c v w h0 hc hv hw
    · have hjl := (List.getElem?_eq_some_iff.1 hy).1
      have hil := (List.getElem?_eq_some_iff.1 hx).1
      have hs : (m.set j x)[i]? = some x := by rw [List.getElem?_set, if_neg (by omega)]; exact hx
      rw [cond_ff (by rw [beq_eq_false_iff_ne]; omega), at_of hx, opt_of, at_of hy, opt_of, opt_of, Int.toNat_natCast, at_of hs, opt_of, Int.toNat_natCast]
      have hpm := swap_perm hy hx
      obtain ⟨m', f1, f2, f3⟩ := pop_go a0 u fu hf (m.length - j) k j ((m.set j x).set i y) (by rw [List.length_set, List.length_set]) (by omega) (by rw [List.length_set, List.length_set]; exact hn) (by rw [List.length_set, List.length_set]; exact hm) (by rw [List.length_set, List.length_set]; omega) (fun t ht => hb t (hpm.mem_iff.1 ht)) (hh.down ord h0 hp hx hy hle hmin)
      exact ⟨m', f1, f2.trans hpm, f3⟩
theorem pop_ok (l : List T) (h : H le l) (h0 : 0 < l.length) (hl : l.length ≤ 1000000) (fu : Nat) (hf : l.length + 3 ≤ fu) (hb : ∀ t ∈ l, Tb t) : ∃ r l', f___huff_heap_huff_tree___pop fu ⟨l⟩ = some (r, ⟨l'⟩) ∧ (r :: l').Perm l ∧ H le l' ∧ ∀ t ∈ l, le r t := by
  have hz := List.getElem?_eq_getElem h0
  have hn1 : l.length - 1 < l.length := by omega
  have hz1 := List.getElem?_eq_getElem hn1
  have hw : IntKind.i64.wrap ((l.length : Int) - 1) = ((l.length - 1 : Nat) : Int) := by rw [w64 (by omega) (by omega)]; omega
  unfold f___huff_heap_huff_tree___pop
  dsimp only
  rw [hw, show (0 : Int) = ((0 : Nat) : Int) from rfl, at_of hz, opt_of, at_of hz1, opt_of, opt_of, Int.toNat_natCast, Int.toNat_natCast, req_pos (by rw [List.length_set]; omega)]
  have hp := cut_perm (n := l.length - 1) (by omega) hz hz1
  have hlen : ((l.set 0 l[l.length - 1]).take (l.length - 1)).length = l.length - 1 := by rw [List.length_take, List.length_set]; omega
  obtain ⟨m', e1, e2, e3⟩ := pop_go ⟨l⟩ l[0] fu (by omega) ((l.set 0 l[l.length - 1]).take (l.length - 1)).length fu 0 _ (by omega) (by omega) (by rw [hlen]; show l.length = _; omega) (by omega) (Nat.zero_le _) (fun t ht => hb t (hp.mem_iff.1 (List.mem_cons_of_mem _ ht))) (H.cut h (by omega))
  refine ⟨_, m', e1, (List.Perm.cons _ e2).trans hp, e3, fun t ht => ?_⟩
  obtain ⟨i, hi, rfl⟩ := List.mem_iff_getElem.1 ht
  exact h.root ord hz i _ (List.getElem?_eq_getElem hi)
end Go.Proofs.Ytfhifdmbdkkgaaa.PHl
