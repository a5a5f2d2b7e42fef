/- What is reached from the roots: the stack and the rounds agree; the law. No condition. -/
import Derived.Test.YthcmjcnilhglmaaGraphPure
namespace Go.Proofs.Ythcmjcnilhglmaa.Gra
open Go.RowKit Ythcmjcnilhglmaa.En Ythcmjcnilhglmaa
set_option linter.unusedVariables false
set_option linter.unusedSimpArgs false
inductive R (g : List (List Int)) (s : List Int) : Nat → Prop
  | base {j : Nat} : (j : Int) ∈ s → R g s j
  | step {i j : Nat} {l : List Int} : R g s i → g[i]? = some l → (j : Int) ∈ l → R g s j
def On (c : List Bool) (j : Nat) : Prop := c[j]? = some true
theorem on_set {c : List Bool} {i j : Nat} (hi : i < c.length) : On (c.set i true) j ↔ On c j ∨ j = i := by
  unfold On
  rw [List.getElem?_set]
  by_cases h : i = j
  · subst h; simp [hi]
  · rw [if_neg h]
    constructor
    · intro h'; exact .inl h'
    · rintro (h' | h')
      · exact h'
      · exact absurd h'.symm h
theorem on_lt {c : List Bool} {j : Nat} (h : On c j) : j < c.length := (List.getElem?_eq_some_iff.1 h).1
theorem off {c : List Bool} {j : Nat} (hj : j < c.length) (h : ¬On c j) : c[j]? = some false := by
  unfold On at h
  rw [List.getElem?_eq_getElem hj] at h ⊢
  cases hc : c[j] with
  | true => rw [hc] at h; exact absurd rfl h
  | false => rfl
theorem off_none (n : Nat) (j : Nat) : ¬On (List.replicate n false) j := by
  unfold On
  rw [List.getElem?_replicate]
  split <;> simp
def Final (g : List (List Int)) (s : List Int) (c : List Bool) : Prop := c.length = g.length ∧ ∀ j, On c j ↔ R g s j
theorem final_eq {g : List (List Int)} {s : List Int} {c d : List Bool} (hc : Final g s c) (hd : Final g s d) : c = d := by
  apply List.ext_getElem?
  intro j
  by_cases hj : j < g.length
  · by_cases h : R g s j
    · rw [(hc.2 j).2 h, (hd.2 j).2 h]
    · rw [off (by rw [hc.1]; exact hj) (fun h' => h ((hc.2 j).1 h')), off (by rw [hd.1]; exact hj) (fun h' => h ((hd.2 j).1 h'))]
  · rw [List.getElem?_eq_none (by rw [hc.1]; omega), List.getElem?_eq_none (by rw [hd.1]; omega)]
/-! the stack -/
theorem count_set : ∀ {c : List Bool} {i : Nat}, c[i]? = some false → (c.set i true).count false + 1 = c.count false
  | [], i, h => by simp at h
  | b :: c, 0, h => by simp at h; subst h; simp
  | b :: c, i + 1, h => by
    have := count_set (c := c) (i := i) (by simpa using h)
    simp only [List.set_cons_succ, List.count_cons]; omega
structure DInv (g : List (List Int)) (s : List Int) (seen : List Bool) (stack : List Int) : Prop where
  len : seen.length = g.length
  stk : ∀ x ∈ stack, ∃ j : Nat, x = j ∧ j < g.length ∧ R g s j
  sub : ∀ i, On seen i → R g s i
  cl : ∀ i l j, On seen i → g[i]? = some l → ((j : Nat) : Int) ∈ l → On seen j ∨ ((j : Nat) : Int) ∈ stack
  st : ∀ j, ((j : Nat) : Int) ∈ s → On seen j ∨ ((j : Nat) : Int) ∈ stack
theorem dinv_end {g : List (List Int)} {s : List Int} {seen : List Bool} (h : DInv g s seen []) : Final g s seen := by
  refine ⟨h.len, fun j => ⟨h.sub j, fun hr => ?_⟩⟩
  induction hr with
  | base hs => rcases h.st _ hs with h' | h'; exact h'; cases h'
  | step _ hl hj ih => rcases h.cl _ _ _ ih hl hj with h' | h'; exact h'; cases h'
theorem closure_loop (g : List (List Int)) (hg : Good g) (s : List Int) : ∀ (fuel : Nat) (seen : List Bool) (stack : List Int), fuel ≤ 100000 → DInv g s seen stack → seen.count false * 65 + stack.length < fuel →
    ∃ c, f_graph_Closure_L9 g (fun j => some j) fuel seen stack = some c ∧ Final g s c
  | 0, _, _, _, _, hf => absurd hf (Nat.not_lt_zero _)
  | fuel + 1, seen, stack, hb, hd, hf => by
    rw [f_graph_Closure_L9]
    rcases List.eq_nil_or_concat stack with rfl | ⟨ys, x, rfl⟩
    · rw [cond_ff (by simp)]
      exact ⟨seen, rfl, dinv_end hd⟩
    · simp only [List.concat_eq_append] at hd hf ⊢
      obtain ⟨i, rfl, hi, hri⟩ := hd.stk x (by simp)
      have hlen : (ys ++ [(i : Int)]).length = ys.length + 1 := by simp
      have hys : ys.length < 100000 := by omega
      have hw : IntKind.i64.wrap (((ys ++ [(i : Int)]).length : Int) - 1) = (ys.length : Int) := by rw [hlen, w64 (by omega) (by omega)]; omega
      have hat : at? (ys ++ [(i : Int)]) (ys.length : Int) = some (i : Int) := by rw [at_nat]; simp
      have hil : i < seen.length := by rw [hd.len]; exact hi
      have htk : (ys ++ [(i : Int)]).take ys.length = ys := by simp
      rw [cond_tt (decide_eq_true (by rw [hlen]; omega)), hw, hat, opt_of, req_pos (by rw [hlen]; omega), Int.toNat_natCast, htk]
      by_cases ho : On seen i
      · rw [at_of ho, opt_of, cond_ff (show (!true) = false from rfl)]
        refine closure_loop g hg s fuel seen ys (by omega) ⟨hd.len, fun x hx => hd.stk x (by simp [hx]), hd.sub, fun a l j ha hl hj => ?_, fun j hj => ?_⟩ (by rw [hlen] at hf; omega)
        · rcases hd.cl a l j ha hl hj with h | h
          · exact .inl h
          · rcases List.mem_append.1 h with h | h
            · exact .inr h
            · have : j = i := Int.ofNat.inj (by simpa using h)
              subst this; exact .inl ho
        · rcases hd.st j hj with h | h
          · exact .inl h
          · rcases List.mem_append.1 h with h | h
            · exact .inr h
            · have : j = i := Int.ofNat.inj (by simpa using h)
              subst this; exact .inl ho
      · have hof := off hil ho
        obtain ⟨hu, hr⟩ := hg.fine g[i] (List.getElem_mem hi)
        have hgi : g[i]? = some g[i] := List.getElem?_eq_getElem hi
        rw [at_of hof, opt_of, cond_tt (show (!false) = true from rfl), opt_of, at_lt hi, opt_of, req_pos (by omega), Int.toNat_natCast]
        have hc := count_set hof
        refine closure_loop g hg s fuel _ _ (by omega) ⟨by simp [hd.len], fun x hx => ?_, fun j hj => ?_, fun a l j ha hl hj => ?_, fun j hj => ?_⟩ (by rw [hlen] at hf; simp only [List.length_append]; omega)
        · rcases List.mem_append.1 hx with hx | hx
          · exact hd.stk x (by simp [hx])
          · obtain ⟨h0, h1⟩ := hr x hx
            have hxx : x = ((x.toNat : Nat) : Int) := by omega
            exact ⟨x.toNat, hxx, by omega, .step hri hgi (hxx ▸ hx)⟩
        · rcases (on_set hil).1 hj with h | rfl
          · exact hd.sub j h
          · exact hri
        · rw [on_set hil]
          rcases (on_set hil).1 ha with h | rfl
          · rcases hd.cl a l j h hl hj with h | h
            · exact .inl (.inl h)
            · rcases List.mem_append.1 h with h | h
              · exact .inr (by simp [h])
              · exact .inl (.inr (Int.ofNat.inj (by simpa using h)))
          · rw [hgi] at hl; cases hl
            exact .inr (by simp [hj])
        · rw [on_set hil]
          rcases hd.st j hj with h | h
          · exact .inl (.inl h)
          · rcases List.mem_append.1 h with h | h
            · exact .inr (by simp [h])
            · exact .inl (.inr (Int.ofNat.inj (by simpa using h)))
theorem closure_any (g : List (List Int)) (hg : Good g) (s : List Int) (hs : Fine g.length s) : ∃ c, f_graph_Closure 20000 g s = some c ∧ Final g s c := by
  unfold f_graph_Closure
  have hl := hg.len
  have hsl := hs.1
  rw [req_pos (by omega), lt_of, req_pos (by simp; omega), Int.toNat_natCast, List.nil_append]
  refine closure_loop g hg s 20000 _ _ (by omega) ⟨by simp, fun x hx => ?_, fun i hi => absurd hi (off_none _ _), fun i l j hi => absurd hi (off_none _ _), fun j hj => .inr hj⟩ (by simp; omega)
  obtain ⟨h0, h1⟩ := hs.2 x hx
  have hxx : x = ((x.toNat : Nat) : Int) := by omega
  exact ⟨x.toNat, hxx, by omega, .base (hxx ▸ hx)⟩
/-! the rounds -/
theorem marks_loop (n : Nat) (hn : n ≤ 200) (s : List Int) (hs : Fine n s) (kk : List Bool → Option (List Bool)) : ∀ (fuel k : Nat) (c : List Bool), c.length = n → k ≤ s.length → s.length - k < fuel →
    ∃ d, f_lumref_reached_L45 s kk fuel c (k : Int) = kk d ∧ d.length = n ∧ ∀ j, On d j ↔ On c j ∨ ((j : Nat) : Int) ∈ s.drop k
  | 0, k, c, _, _, hf => absurd hf (Nat.not_lt_zero _)
  | fuel + 1, k, c, hc, hk, hf => by
    rw [f_lumref_reached_L45]
    have hsl := hs.1
    by_cases hlt : k < s.length
    · obtain ⟨h0, h1⟩ := hs.2 s[k] (List.getElem_mem hlt)
      obtain ⟨i, hi⟩ : ∃ i : Nat, s[k] = i := ⟨s[k].toNat, by omega⟩
      rw [hi] at h1
      have hil : i < c.length := by omega
      rw [cond_tt (dlt (by omega)), at_lt hlt, opt_of, hi, at_lt hil, opt_of, wsucc (by omega), Int.toNat_natCast]
      obtain ⟨d, hd, hdl, ho⟩ := marks_loop n hn s hs kk fuel (k + 1) (c.set i true) (by simp [hc]) (by omega) (by omega)
      refine ⟨d, hd, hdl, fun j => ?_⟩
      rw [ho j, on_set hil, List.drop_eq_getElem_cons hlt, List.mem_cons, hi]
      constructor
      · rintro ((h | h) | h)
        · exact .inl h
        · exact .inr (.inl (by rw [h]))
        · exact .inr (.inr h)
      · rintro (h | h | h)
        · exact .inl (.inl h)
        · exact .inl (.inr (by omega))
        · exact .inr h
    · rw [cond_ff (dge (by omega)), List.drop_of_length_le (by omega)]
      exact ⟨c, rfl, hc, fun j => by simp⟩
theorem row_loop (n : Nat) (hn : n ≤ 200) (i : Nat) (hin : i < n) (u : List Int) (hu : Fine n u) (kk : List Bool → Option (List Bool)) : ∀ (fuel k : Nat) (c : List Bool), c.length = n → k ≤ u.length → u.length - k < fuel →
    ∃ d, f_lumref_reached_L27 (i : Int) kk u fuel c (k : Int) = kk d ∧ d.length = n ∧ ∀ j, On d j ↔ On c j ∨ (On c i ∧ ((j : Nat) : Int) ∈ u.drop k)
  | 0, k, c, _, _, hf => absurd hf (Nat.not_lt_zero _)
  | fuel + 1, k, c, hc, hk, hf => by
    rw [f_lumref_reached_L27]
    have hsl := hu.1
    by_cases hlt : k < u.length
    · obtain ⟨h0, h1⟩ := hu.2 u[k] (List.getElem_mem hlt)
      obtain ⟨m, hm⟩ : ∃ i : Nat, u[k] = i := ⟨u[k].toNat, by omega⟩
      rw [hm] at h1
      have hml : m < c.length := by omega
      rw [cond_tt (dlt (by omega)), lt_of, at_lt hlt, opt_of, hm, wsucc (by omega), Int.toNat_natCast]
      dsimp only
      by_cases ho : On c i
      · rw [at_of ho, opt_of, cond_tt rfl, at_lt hml, opt_of]
        obtain ⟨d, hd, hdl, hod⟩ := row_loop n hn i hin u hu kk fuel (k + 1) (c.set m true) (by simp [hc]) (by omega) (by omega)
        refine ⟨d, hd, hdl, fun j => ?_⟩
        rw [hod j, on_set hml, on_set hml, List.drop_eq_getElem_cons hlt, List.mem_cons, hm]
        constructor
        · rintro ((h | h) | h)
          · exact .inl h
          · exact .inr ⟨ho, .inl (by rw [h])⟩
          · exact .inr ⟨ho, .inr h.2⟩
        · rintro (h | ⟨_, h | h⟩)
          · exact .inl (.inl h)
          · exact .inl (.inr (by omega))
          · exact .inr ⟨.inl ho, h⟩
      · rw [at_of (off (by omega) ho), opt_of, cond_ff rfl]
        obtain ⟨d, hd, hdl, hod⟩ := row_loop n hn i hin u hu kk fuel (k + 1) c hc (by omega) (by omega)
        refine ⟨d, hd, hdl, fun j => ?_⟩
        rw [hod j]
        constructor
        · rintro (h | ⟨h, _⟩)
          · exact .inl h
          · exact absurd h ho
        · rintro (h | ⟨h, _⟩)
          · exact .inl h
          · exact absurd h ho
    · rw [cond_ff (dge (by omega)), List.drop_of_length_le (by omega)]
      exact ⟨c, rfl, hc, fun j => by simp⟩
def Shut (g : List (List Int)) (p : Nat → Prop) : Prop := ∀ i l j, p i → g[i]? = some l → ((j : Nat) : Int) ∈ l → p j
theorem round_loop (g : List (List Int)) (hg : Good g) (fu : Nat) (hf : 300 ≤ fu) (kk : List Bool → Option (List Bool)) : ∀ (fuel k : Nat) (c : List Bool), c.length = g.length → k ≤ g.length → g.length - k < fuel →
    ∃ d, f_lumref_reached_L16 g kk fu fuel c (k : Int) = kk d ∧ d.length = g.length ∧ (∀ j, On c j → On d j) ∧ (∀ p : Nat → Prop, Shut g p → (∀ j, On c j → p j) → ∀ j, On d j → p j) ∧ (∀ i l j, k ≤ i → On c i → g[i]? = some l → ((j : Nat) : Int) ∈ l → On d j)
  | 0, k, c, _, _, hfu => absurd hfu (Nat.not_lt_zero _)
  | fuel + 1, k, c, hc, hk, hfu => by
    rw [f_lumref_reached_L16]
    rw [lt_of]
    have hl := hg.len
    by_cases hlt : k < g.length
    · have hu := hg.fine g[k] (List.getElem_mem hlt)
      have hul := hu.1
      have hgk : g[k]? = some g[k] := List.getElem?_eq_getElem hlt
      rw [cond_tt (dlt (by omega)), lt_of, at_lt hlt, opt_of, wsucc (by omega)]
      dsimp only
      obtain ⟨e, he, hel, hoe⟩ := row_loop g.length hl k hlt g[k] hu (fun j => f_lumref_reached_L16 g kk fu fuel j ((k + 1 : Nat) : Int)) fu 0 c hc (by omega) (by omega)
      rw [List.drop_zero] at hoe
      rw [show ((0 : Nat) : Int) = (0 : Int) from rfl] at he
      rw [he]
      obtain ⟨d, hd, hdl, h1, h2, h3⟩ := round_loop g hg fu hf kk fuel (k + 1) e hel (by omega) (by omega)
      refine ⟨d, hd, hdl, fun j h => h1 j ((hoe j).2 (.inl h)), fun p hp hcp j hj => h2 p hp (fun j hj => ?_) j hj, fun i l j hi ho hgl hj => ?_⟩
      · rcases (hoe j).1 hj with h | ⟨h, h'⟩
        · exact hcp j h
        · exact hp k g[k] j (hcp k h) hgk h'
      · by_cases hik : i = k
        · subst hik
          rw [hgk] at hgl; cases hgl
          exact h1 j ((hoe j).2 (.inr ⟨ho, hj⟩))
        · exact h3 i l j (by omega) ((hoe i).2 (.inl ho)) hgl hj
    · rw [cond_ff (dge (by omega))]
      refine ⟨c, rfl, hc, fun j h => h, fun p _ h => h, fun i l j hi ho hgl hj => ?_⟩
      have := (List.getElem?_eq_some_iff.1 hgl).1
      omega
theorem cnt_mono : ∀ (a b : List Bool), a.length = b.length → (∀ j, On a j → On b j) → a.count true ≤ b.count true ∧ ((∃ j, On b j ∧ ¬On a j) → a.count true < b.count true)
  | [], [], _, _ => ⟨Nat.le_refl _, fun ⟨j, h, _⟩ => by simp [On] at h⟩
  | [], _ :: _, h, _ => by simp at h
  | _ :: _, [], h, _ => by simp at h
  | x :: a, y :: b, hl, h => by
    obtain ⟨h1, h2⟩ := cnt_mono a b (by simpa using hl) (fun j hj => by have := h (j + 1) (by simpa [On] using hj); simpa [On] using this)
    have h0 := h 0
    simp only [On, List.getElem?_cons_zero, Option.some.injEq] at h0
    simp only [List.count_cons]
    refine ⟨?_, ?_⟩
    · cases x <;> cases y <;> simp at h0 ⊢ <;> omega
    · rintro ⟨j, hj, hn⟩
      cases j with
      | zero =>
        simp only [On, List.getElem?_cons_zero, Option.some.injEq] at hj hn
        cases x <;> cases y <;> simp at h0 hj hn ⊢ <;> omega
      | succ j =>
        have h3 := h2 ⟨j, by simpa [On] using hj, by simpa [On] using hn⟩
        cases x <;> cases y <;> simp at h0 ⊢ <;> omega
theorem cnt_all {c : List Bool} (h : c.length ≤ c.count true) {j : Nat} (hj : j < c.length) : On c j := by
  have h1 : c.count true = c.length := Nat.le_antisymm List.count_le_length h
  have h2 := List.count_eq_length.1 h1 c[j] (List.getElem_mem hj)
  unfold On
  rw [List.getElem?_eq_getElem hj, ← h2]
theorem rounds_loop (g : List (List Int)) (hg : Good g) (s : List Int) (hs : Fine g.length s) (fu : Nat) (hf : 300 ≤ fu) : ∀ (fuel k : Nat) (c : List Bool), c.length = g.length → k ≤ g.length → g.length - k < fuel → (∀ j, On c j → R g s j) → (∀ j, ((j : Nat) : Int) ∈ s → On c j) → (Shut g (On c) ∨ k ≤ c.count true) →
    ∃ d, f_lumref_reached_L9 g (fun j => some j) fu fuel c (k : Int) = some d ∧ Final g s d
  | 0, k, c, _, _, hfu, _, _, _ => absurd hfu (Nat.not_lt_zero _)
  | fuel + 1, k, c, hc, hk, hfu, hr, hst, hsh => by
    rw [f_lumref_reached_L9]
    rw [lt_of]
    have hl := hg.len
    by_cases hlt : k < g.length
    · rw [cond_tt (dlt (by omega)), lt_of, wsucc (by omega)]
      dsimp only
      obtain ⟨e, he, hel, h1, h2, h3⟩ := round_loop g hg fu hf (fun j => f_lumref_reached_L9 g (fun j => some j) fu fuel j ((k + 1 : Nat) : Int)) fu 0 c hc (by omega) (by omega)
      rw [show ((0 : Nat) : Int) = (0 : Int) from rfl] at he
      rw [he]
      refine rounds_loop g hg s hs fu hf fuel (k + 1) e hel (by omega) (by omega) (h2 _ (fun i l j hi hl hj => .step hi hl hj) hr) (fun j hj => h1 j (hst j hj)) ?_
      by_cases hsc : Shut g (On c)
      · left
        have h4 := h2 _ hsc (fun j h => h)
        exact fun i l j hi hl hj => h1 j (hsc i l j (h4 i hi) hl hj)
      · right
        obtain ⟨h5, h6⟩ := cnt_mono c e (by omega) h1
        have h7 : ∃ j, On e j ∧ ¬On c j := by
          apply Classical.byContradiction
          intro hno
          apply hsc
          intro i l j hi hl hj
          apply Classical.byContradiction
          intro hnj
          exact hno ⟨j, h3 i l j (Nat.zero_le _) hi hl hj, hnj⟩
        have h8 := h6 h7
        rcases hsh with h | h
        · exact absurd h hsc
        · omega
    · rw [cond_ff (dge (by omega))]
      have hsc : Shut g (On c) := by
        rcases hsh with h | h
        · exact h
        · intro i l j hi hl hj
          obtain ⟨hil, rfl⟩ := List.getElem?_eq_some_iff.1 hl
          obtain ⟨_, hx⟩ := (hg.fine _ (List.getElem_mem hil)).2 _ hj
          exact cnt_all (by omega) (by omega)
      refine ⟨c, rfl, hc, fun j => ⟨hr j, fun hj => ?_⟩⟩
      induction hj with
      | base h => exact hst _ h
      | step _ hl hj ih => exact hsc _ _ _ ih hl hj
theorem reached_any (g : List (List Int)) (hg : Good g) (s : List Int) (hs : Fine g.length s) : ∃ c, f_lumref_reached 20000 g s = some c ∧ Final g s c := by
  unfold f_lumref_reached
  have hl := hg.len
  have hsl := hs.1
  rw [req_pos (by omega), lt_of, Int.toNat_natCast]
  obtain ⟨d, hd, hdl, ho⟩ := marks_loop g.length hl s hs (fun j => lt (fun (j5x5 : (List Bool)) => (some j5x5)) fun (kk6 : (List Bool) → Option (List Bool)) => (f_lumref_reached_L9 g kk6 20000 20000 j (0 : Int))) 20000 0 (List.replicate g.length false) (by simp) (by omega) (by omega)
  rw [show ((0 : Nat) : Int) = (0 : Int) from rfl] at hd
  rw [hd, lt_of]
  rw [List.drop_zero] at ho
  refine rounds_loop g hg s hs 20000 (by omega) 20000 0 d hdl (by omega) (by omega) (fun j hj => ?_) (fun j hj => (ho j).2 (.inr hj)) (.inr (Nat.zero_le _))
  rcases (ho j).1 hj with h | h
  · exact absurd h (off_none _ _)
  · exact .base h
/-! Reach -/
theorem starts_loop (g : List (List Int)) (s : List Int) (kk : Unit → Option (List Bool × Int)) (hm : s.length ≤ 64) : ∀ (fuel k : Nat), k ≤ s.length → s.length - k < fuel →
    f_graph_Reach_L12 g s kk fuel (k : Int) = if (s.drop k).any (out1 g.length) then some ([], 1) else kk ()
  | 0, k, _, hf => absurd hf (Nat.not_lt_zero _)
  | fuel + 1, k, hk, hf => by
    rw [f_graph_Reach_L12]
    by_cases hlt : k < s.length
    · rw [cond_tt (dlt (by omega)), at_lt hlt, opt_of, lt_of, any_cons _ hlt, wsucc (by omega), starts_loop g s kk hm fuel (k + 1) (by omega) (by omega)]
      unfold out1
      by_cases h0 : s[k] < 0
      · rw [cond_tt (dlt h0), dlt h0]; rfl
      · rw [cond_ff (dge (by omega)), dge (show (0 : Int) ≤ s[k] by omega)]
        by_cases h1 : s[k] ≥ (g.length : Int)
        · rw [decide_eq_true h1]; rfl
        · rw [decide_eq_false h1]; rfl
    · rw [cond_ff (dge (by omega)), List.drop_of_length_le (by omega)]; rfl
def Res (g : List (List Int)) (s : List Int) (r : List Bool × Int) : Prop :=
  if chk g ≠ 0 then r = ([], chk g) else if pe s g.length ≠ 0 then r = ([], pe s g.length) else Final g s r.1 ∧ r.2 = 0
theorem res_chk {g : List (List Int)} {s : List Int} (h : chk g ≠ 0) : Res g s ([], chk g) := by unfold Res; rw [if_pos h]
theorem res_pe {g : List (List Int)} {s : List Int} {x : Int} (h : chk g = 0) (hx : pe s g.length = x) (h1 : x ≠ 0) : Res g s ([], x) := by unfold Res; rw [if_neg (fun h' => h' h), hx, if_pos h1]
theorem res_ok {g : List (List Int)} {s : List Int} {c : List Bool} (h : chk g = 0) (h1 : pe s g.length = 0) (hf : Final g s c) : Res g s (c, 0) := by unfold Res; rw [if_neg (fun h' => h' h), if_neg (fun h' => h' h1)]; exact ⟨hf, rfl⟩
theorem code_reach (g : List (List Int)) (s : List Int) : ∃ r, f_graph_Reach 20000 g s = some r ∧ Res g s r := by
  unfold f_graph_Reach
  rw [check_any g 20000 (by omega), opt_of]
  by_cases h : chk g = 0
  · rw [cond_ff (by simp [h])]
    by_cases h1 : s.length > 64
    · rw [cond_tt (decide_eq_true (by omega))]
      exact ⟨_, rfl, res_pe h (by unfold pe; rw [if_pos h1]) (by decide)⟩
    · rw [cond_ff (decide_eq_false (by omega)), lt_of, show (0 : Int) = ((0 : Nat) : Int) from rfl, starts_loop g s _ (by omega) 20000 0 (by omega) (by omega), List.drop_zero]
      by_cases h2 : s.any (out1 g.length) = true
      · rw [if_pos h2]
        exact ⟨_, rfl, res_pe h (by unfold pe; rw [if_neg h1, if_pos h2]) (by decide)⟩
      · have h3 : pe s g.length = 0 := by unfold pe; rw [if_neg h1, if_neg h2]
        rw [if_neg h2]
        obtain ⟨c, hc, hf⟩ := closure_any g (chk_zero h) s (pe_zero h3)
        rw [hc]
        exact ⟨_, rfl, res_ok h h3 hf⟩
  · rw [cond_tt (by simpa using h)]
    exact ⟨_, rfl, res_chk h⟩
theorem ref_reach (g : List (List Int)) (s : List Int) : ∃ r, f_lumref_Reach 20000 g s = some r ∧ Res g s r := by
  unfold f_lumref_Reach
  rw [graph_any g 20000 (by omega), opt_of]
  by_cases h : chk g = 0
  · rw [cond_ff (by simp [h]), point_any 20000 s _ (by omega), opt_of]
    by_cases h3 : pe s g.length = 0
    · rw [cond_ff (by simp [h3])]
      obtain ⟨c, hc, hf⟩ := reached_any g (chk_zero h) s (pe_zero h3)
      rw [hc]
      exact ⟨_, rfl, res_ok h h3 hf⟩
    · rw [cond_tt (by simpa using h3)]
      exact ⟨_, rfl, res_pe h rfl h3⟩
  · rw [cond_tt (by simpa using h)]
    exact ⟨_, rfl, res_chk h⟩
theorem res_eq {g : List (List Int)} {s : List Int} {r q : List Bool × Int} (hr : Res g s r) (hq : Res g s q) : r = q ∧ r.1.length ≤ 200 := by
  unfold Res at hr hq
  by_cases h : chk g = 0
  · rw [if_neg (fun h' => h' h)] at hr hq
    by_cases h3 : pe s g.length = 0
    · rw [if_neg (fun h' => h' h3)] at hr hq
      refine ⟨?_, by have := hr.1.1; have := (chk_zero h).len; omega⟩
      obtain ⟨c, x⟩ := r
      obtain ⟨d, y⟩ := q
      obtain ⟨h4, h5⟩ := hr
      obtain ⟨h6, h7⟩ := hq
      simp only at h4 h5 h6 h7
      rw [final_eq h4 h6, h5, h7]
    · rw [if_pos h3] at hr hq
      subst hr; subst hq; exact ⟨rfl, by simp⟩
  · rw [if_pos h] at hr hq
    subst hr; subst hq; exact ⟨rfl, by simp⟩
theorem says (g : List (List Int)) (s : List Int) : f_lumlaw_GraphSays 20000 g s = some true := by
  unfold f_lumlaw_GraphSays
  obtain ⟨r, hr, hr'⟩ := code_reach g s
  obtain ⟨q, hq, hq'⟩ := ref_reach g s
  obtain ⟨rfl, hlen⟩ := res_eq hr' hq'
  rw [hr, hq, code_order g 20000 (by omega), ref_order g 20000 (by omega), check_any g 20000 (by omega), graph_any g 20000 (by omega)]
  simp only [opt_of, lt_of]
  obtain ⟨o, ho⟩ : ∃ o, o = (if chk g ≠ 0 then ([], chk g) else ord g g.length []) := ⟨_, rfl⟩
  rw [← ho]
  have h1 : o.2 ≠ 0 → o.1 = [] := by
    intro h
    rw [ho] at h ⊢
    by_cases hc : chk g = 0
    · rw [if_neg (fun h' => h' hc)] at h ⊢; exact ord_code g _ _ h
    · rw [if_pos hc]
  have h2 : o.1.length ≤ 200 := by
    rw [ho]
    by_cases hc : chk g = 0
    · rw [if_neg (fun h' => h' hc)]
      have := ord_len g g.length []
      have := (chk_zero hc).len
      simp only [List.length_nil] at *
      omega
    · rw [if_pos hc]; exact Nat.zero_le _
  rw [eqb r.1 20000 hlen (by omega), opt_of]
  by_cases hz : o.2 = 0
  · rw [cond_ff (show (o.2 != 0) = false by simp [hz]), eqi o.1 20000 h2 (by omega)]
    simp
  · rw [cond_tt (show (o.2 != 0) = true by simpa using hz), h1 hz, eqi [] 20000 (by simp) (by omega)]
    simp
end Go.Proofs.Ythcmjcnilhglmaa.Gra
