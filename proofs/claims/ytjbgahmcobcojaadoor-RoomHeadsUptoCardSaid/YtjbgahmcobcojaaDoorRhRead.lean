/- Heads: what is read. No condition. -/
import Derived.Test.YtjbgahmcobcojaaDoorRhText
namespace Go.Proofs.YtjbgahmcobcojaaDoor.PRoomHeads
open Go.RowKit YtjbgahmcobcojaaDoor.En YtjbgahmcobcojaaDoor Num Mix PPut JF TX U8
open Go.Lib hiding cut
set_option linter.unusedVariables false
set_option linter.unusedSimpArgs false
abbrev Rd := S_room_reader
def z8 : A8u8 := (A8u8.mk (0 : UInt8) (0 : UInt8) (0 : UInt8) (0 : UInt8) (0 : UInt8) (0 : UInt8) (0 : UInt8) (0 : UInt8))
theorem cp8 {l : List UInt8} (h : 8 ≤ l.length) : cpA8u8 z8 l = ofA8u8 (l.take 8) := by
  unfold cpA8u8
  have h2 : (l.take 8).length = 8 := by rw [List.length_take]; omega
  rw [h2, show (lA8u8 z8).drop 8 = [] from rfl, List.append_nil]
theorem get_any (s : List UInt8) (fu : Nat) (hf : 9 ≤ fu) : ∃ n k e, f_num_Get fu s = some (n, k, e) ∧ f_lumref_Get fu s = some (n, k, e) ∧ (e = 0 → ∃ n' k' : Nat, n = n' ∧ k = k' ∧ k' ≤ s.length ∧ 1 ≤ k') := by
  refine ⟨(getV s).1, (getV s).2.1, (getV s).2.2, get_ok s fu hf, rget_ok s fu hf, fun h => ?_⟩
  obtain ⟨n, k, h1, h2, _, _, h5, _⟩ := getV_canon s h
  exact ⟨n, k, by rw [h1], by rw [h1], h2, h5⟩
/-! the code's reader -/
theorem num_any (s : List UInt8) (b : Bool) (most : Nat) (hm : most ≤ 9223372036854775807) (fu : Nat) (hf : 9 ≤ fu) : ∃ (v : Nat) (s' : List UInt8) (b' : Bool), f___room_reader__number fu ⟨s, b⟩ (most : Int) = some ((v : Int), ⟨s', b'⟩) ∧ v ≤ most ∧ s'.length ≤ s.length := by
  obtain ⟨n, k, e, h1, _, h2⟩ := get_any s fu hf
  unfold f___room_reader__number
  rw [h1, opt_of, lt_of]
  dsimp only
  cases b with
  | true => rw [cond_tt rfl]; exact ⟨0, s, true, rfl, Nat.zero_le _, Nat.le_refl _⟩
  | false =>
    rw [cond_ff rfl]
    by_cases he : e = 0
    · obtain ⟨n', k', rfl, rfl, hk, _⟩ := h2 he
      rw [cond_ff (show (e != 0) = false from by simpa using he)]
      by_cases hn : (n' : Int) > (most : Int)
      · rw [decide_eq_true hn, cond_tt rfl]; exact ⟨0, s, true, rfl, Nat.zero_le _, Nat.le_refl _⟩
      · rw [decide_eq_false hn, cond_ff rfl, req_pos (by omega), iw (by omega), Int.toNat_natCast]
        exact ⟨n', s.drop k', false, rfl, by omega, by rw [List.length_drop]; omega⟩
    · rw [cond_tt (show (e != 0) = true from by simpa using he)]; exact ⟨0, s, true, rfl, Nat.zero_le _, Nat.le_refl _⟩
theorem num_put (n most : Nat) (rest : List UInt8) (hn : n ≤ most) (hm : most ≤ 9223372036854775807) (fu : Nat) (hf : 9 ≤ fu) : f___room_reader__number fu ⟨putV n ++ rest, false⟩ (most : Int) = some ((n : Int), ⟨rest, false⟩) := by
  unfold f___room_reader__number
  rw [get_ok _ fu hf, opt_of, getV_put n (by omega) rest, lt_of]
  dsimp only
  rw [cond_ff rfl, cond_ff (show ((0 : Int) != 0) = false from rfl), decide_eq_false (by omega), cond_ff rfl, req_pos (by rw [List.length_append]; omega), iw (by omega), Int.toNat_natCast, List.drop_left]
theorem snap_any (s : List UInt8) (b : Bool) (hs : s.length ≤ 100000000) (fu : Nat) (hf : 2000 ≤ fu) : ∃ x s' b', f___room_reader__snap fu ⟨s, b⟩ = some (x, ⟨s', b'⟩) ∧ x.Name.length ≤ 1024 ∧ s'.length ≤ s.length := by
  obtain ⟨r, t1, _, t3, t4, t5⟩ := PTreeText.txt_ex s (by omega) fu (by omega)
  unfold f___room_reader__snap
  rw [t1, opt_of, lt_of]
  dsimp only
  cases b with
  | true => rw [cond_tt rfl]; exact ⟨_, s, true, rfl, Nat.zero_le _, Nat.le_refl _⟩
  | false =>
    rw [cond_ff rfl]
    by_cases he : r.2.2 = 0
    · obtain ⟨k, hk1, hk2⟩ := t4 he
      obtain ⟨v, s2, b2, n1, n2, n3⟩ := num_any (s.drop k) false 4223371679 (by omega) fu (by omega)
      rw [List.length_drop] at n3
      have n1' : f___room_reader__number fu ⟨s.drop k, false⟩ (4223371679 : Int) = some ((v : Int), ⟨s2, b2⟩) := n1
      rw [show (r.2.2 != 0) = false from by simpa using he, cond_ff rfl, hk1, req_pos (by omega), Int.toNat_natCast, n1', opt_of, lt_of]
      dsimp only
      cases b2 with
      | true => rw [cond_tt rfl]; exact ⟨_, s2, true, rfl, Nat.zero_le _, by omega⟩
      | false =>
        rw [cond_ff rfl]
        by_cases h8 : s2.length < 8
        · rw [decide_eq_true (by omega), cond_tt rfl]; exact ⟨_, s2, true, rfl, Nat.zero_le _, by omega⟩
        · have e8 : (s2.take ((8 : Int)).toNat).length = 8 := by rw [List.length_take]; show min 8 _ = 8; omega
          rw [decide_eq_false (by omega), cond_ff rfl, req_pos (by omega), req_pos (by omega), req_pos (by omega), req_pos (by omega)]
          exact ⟨_, _, false, rfl, t3, by rw [List.length_drop]; omega⟩
    · rw [show (r.2.2 != 0) = true from by simpa using he, cond_tt rfl]; exact ⟨_, s, true, rfl, Nat.zero_le _, Nat.le_refl _⟩
theorem lof8 (x : A8u8) (rest : List UInt8) : ofA8u8 ((lA8u8 x ++ rest).take 8) = x ∧ (lA8u8 x ++ rest).drop 8 = rest := by
  have h8 : (lA8u8 x).length = 8 := rfl
  rw [List.take_left' h8, List.drop_left' h8]
  exact ⟨of_l x, rfl⟩
theorem snap_put (x : Sn) (hx : GS x) (rest : List UInt8) (hr : rest.length ≤ 1000000) (fu : Nat) (hf : 2000 ≤ fu) : f___room_reader__snap fu ⟨snapV x ++ rest, false⟩ = some (x, ⟨rest, false⟩) := by
  obtain ⟨n1, n2⟩ := name_good hx.1
  obtain ⟨k, hk⟩ : ∃ k : Nat, x.Time = k := ⟨x.Time.toNat, by have := hx.2.1; omega⟩
  have hkb := hx.2.2
  have hpv : pV x.Time = putV k := by unfold pV; rw [hk, Int.toNat_natCast]
  have hpl := putV_len k
  have hsp : snapV x ++ rest = txtV x.Name ++ (putV k ++ (lA8u8 x.Root ++ rest)) := by unfold snapV; rw [hpv]; simp only [List.append_assoc]
  have htl : (txtV x.Name).length = x.Name.length + 2 := by rw [txtV_plain _ n2, List.length_append]; rfl
  have h8 : (lA8u8 x.Root ++ rest).length = 8 + rest.length := by rw [List.length_append]; rfl
  obtain ⟨g1, _⟩ := gtext_ok x.Name (putV k ++ (lA8u8 x.Root ++ rest)) n2 (by omega) (by rw [List.length_append]; omega) fu (by omega)
  have e8 : ((lA8u8 x.Root ++ rest).take ((8 : Int)).toNat).length = 8 := by rw [List.length_take]; show min 8 _ = 8; omega
  obtain ⟨q1, q2⟩ := lof8 x.Root rest
  have np := num_put k 4223371679 (lA8u8 x.Root ++ rest) (by omega) (by omega) fu (by omega)
  have np' : f___room_reader__number fu ⟨putV k ++ (lA8u8 x.Root ++ rest), false⟩ (4223371679 : Int) = some ((k : Int), ⟨lA8u8 x.Root ++ rest, false⟩) := np
  unfold f___room_reader__snap
  rw [hsp]
  dsimp only
  rw [g1, opt_of, lt_of]
  dsimp only
  rw [cond_ff rfl, show ((0 : Int) != 0) = false from rfl, cond_ff rfl, req_pos (by rw [List.length_append]; omega), Int.toNat_natCast, List.drop_left' htl, np', opt_of, lt_of]
  dsimp only
  rw [cond_ff rfl, decide_eq_false (by omega), cond_ff rfl, req_pos (by omega), req_pos (by omega), req_pos (by omega), req_pos (by omega)]
  rw [show ((8 : Int)).toNat = 8 from rfl, q1, q2, ← hk]
abbrev K1 := List UInt8 → Bool → List Int → Option (Hd × Int)
abbrev K2 := List UInt8 → Bool → List Sn → Option (Hd × Int)
theorem packs_any (kk : K1) (r : Int × Rd) (n : Nat) (hr : r.1 = n) (hn : n ≤ 100) (g : Nat) (hg : 9 ≤ g) : ∀ (d i fu : Nat) (s : List UInt8) (b : Bool) (xs : List Int), n - i = d → i ≤ n → d < fu → xs.length ≤ i →
    ∃ s' b' xs', f_room_Read_L42 kk r g fu s b xs (i : Int) = kk s' b' xs' ∧ s'.length ≤ s.length ∧ xs'.length ≤ n
  | _, _, 0, _, _, _, _, _, hf, _ => absurd hf (Nat.not_lt_zero _)
  | 0, i, fu + 1, s, b, xs, hd, hi, _, hx => by
    rw [f_room_Read_L42, hr, cond_ff (dge (by omega))]
    exact ⟨s, b, xs, rfl, Nat.le_refl _, by omega⟩
  | d + 1, i, fu + 1, s, b, xs, hd, hi, hf, hx => by
    obtain ⟨v, s1, b1, h1, h2, h3⟩ := num_any s b 65536 (by omega) g hg
    have h1' : f___room_reader__number g ⟨s, b⟩ (65536 : Int) = some ((v : Int), ⟨s1, b1⟩) := h1
    rw [f_room_Read_L42, hr, cond_tt (dlt (by omega)), h1', opt_of, req_pos (by rw [List.length_singleton]; omega), wsucc (by omega)]
    obtain ⟨s', b', xs', q1, q2, q3⟩ := packs_any kk r n hr hn g hg d (i + 1) fu s1 b1 (xs ++ [(v : Int)]) (by omega) (by omega) (by omega) (by rw [List.length_append, List.length_singleton]; omega)
    exact ⟨s', b', xs', q1, by omega, q3⟩
theorem packs_put (kk : K1) (r : Int × Rd) (n : Nat) (hr : r.1 = n) (hn : n ≤ 100) (g : Nat) (hg : 9 ≤ g) (rest : List UInt8) : ∀ (ps : List Int) (i fu : Nat) (xs : List Int), (∀ p ∈ ps, 0 ≤ p ∧ p ≤ 65536) → i + ps.length = n → ps.length < fu → xs.length = i →
    f_room_Read_L42 kk r g fu (ps.flatMap pV ++ rest) false xs (i : Int) = kk rest false (xs ++ ps)
  | _, _, 0, _, _, _, hf, _ => absurd hf (Nat.not_lt_zero _)
  | [], i, fu + 1, xs, _, hi, _, _ => by
    have hin : i = n := by simpa using hi
    rw [f_room_Read_L42, hr, cond_ff (dge (by omega)), List.append_nil]; rfl
  | p :: ps, i, fu + 1, xs, hp, hi, hf, hx => by
    rw [List.length_cons] at hi hf
    obtain ⟨p0, p1⟩ := hp p (by simp)
    obtain ⟨k, hk⟩ : ∃ k : Nat, p = k := ⟨p.toNat, by omega⟩
    have hpv : pV p = putV k := by unfold pV; rw [hk, Int.toNat_natCast]
    have h1 := num_put k 65536 (ps.flatMap pV ++ rest) (by omega) (by omega) g hg
    have h1' : f___room_reader__number g ⟨putV k ++ (ps.flatMap pV ++ rest), false⟩ (65536 : Int) = some ((k : Int), ⟨ps.flatMap pV ++ rest, false⟩) := h1
    rw [f_room_Read_L42, hr, cond_tt (dlt (by omega)), List.flatMap_cons, hpv, List.append_assoc, h1', opt_of, req_pos (by rw [List.length_singleton]; omega), wsucc (by omega)]
    dsimp only
    rw [packs_put kk r n hr hn g hg rest ps (i + 1) fu (xs ++ [(k : Int)]) (fun q hq => hp q (by simp [hq])) (by omega) (by omega) (by rw [List.length_append, List.length_singleton]; omega), List.append_assoc, ← hk]; rfl
theorem snaps_any (kk : K2) (r : Int × Rd) (n : Nat) (hr : r.1 = n) (hn : n ≤ 20) (g : Nat) (hg : 2000 ≤ g) : ∀ (d i fu : Nat) (s : List UInt8) (b : Bool) (xs : List Sn), n - i = d → i ≤ n → d < fu → xs.length ≤ i → s.length ≤ 1000000 → (∀ x ∈ xs, x.Name.length ≤ 1024) →
    ∃ s' b' xs', f_room_Read_L31 kk r g fu s b xs (i : Int) = kk s' b' xs' ∧ xs'.length ≤ n ∧ ∀ x ∈ xs', x.Name.length ≤ 1024
  | _, _, 0, _, _, _, _, _, hf, _, _, _ => absurd hf (Nat.not_lt_zero _)
  | 0, i, fu + 1, s, b, xs, hd, hi, _, hx, _, ha => by
    rw [f_room_Read_L31, hr, cond_ff (dge (by omega))]
    exact ⟨s, b, xs, rfl, by omega, ha⟩
  | d + 1, i, fu + 1, s, b, xs, hd, hi, hf, hx, hs, ha => by
    obtain ⟨x, s1, b1, h1, h2, h3⟩ := snap_any s b (by omega) g hg
    rw [f_room_Read_L31, hr, cond_tt (dlt (by omega)), h1, opt_of, req_pos (by rw [List.length_singleton]; omega), wsucc (by omega)]
    exact snaps_any kk r n hr hn g hg d (i + 1) fu s1 b1 _ (by omega) (by omega) (by omega) (by rw [List.length_append, List.length_singleton]; omega) (by omega) (fun y hy => by
      rcases List.mem_append.1 hy with hy | hy
      · exact ha y hy
      · rw [List.mem_singleton.1 hy]; exact h2)
theorem snaps_put (kk : K2) (r : Int × Rd) (n : Nat) (hr : r.1 = n) (hn : n ≤ 20) (g : Nat) (hg : 2000 ≤ g) : ∀ (ps : List Sn) (i fu : Nat) (xs : List Sn), (∀ p ∈ ps, GS p) → i + ps.length = n → ps.length < fu → xs.length = i →
    f_room_Read_L31 kk r g fu (ps.flatMap snapV) false xs (i : Int) = kk [] false (xs ++ ps)
  | _, _, 0, _, _, _, hf, _ => absurd hf (Nat.not_lt_zero _)
  | [], i, fu + 1, xs, _, hi, _, _ => by
    have hin : i = n := by simpa using hi
    rw [f_room_Read_L31, hr, cond_ff (dge (by omega)), List.append_nil]; rfl
  | p :: ps, i, fu + 1, xs, hp, hi, hf, hx => by
    rw [List.length_cons] at hi hf
    have hl := flat_len snapV 115 ps (fun s hs => snapV_len (hp s (by simp [hs])))
    rw [f_room_Read_L31, hr, cond_tt (dlt (by omega)), List.flatMap_cons, snap_put p (hp p (by simp)) _ (by omega) g hg, opt_of, req_pos (by rw [List.length_singleton]; omega), wsucc (by omega)]
    show f_room_Read_L31 kk r g fu (ps.flatMap snapV) false (xs ++ [p]) ((i + 1 : Nat) : Int) = _
    rw [snaps_put kk r n hr hn g hg ps (i + 1) fu (xs ++ [p]) (fun q hq => hp q (by simp [hq])) (by omega) (by omega) (by rw [List.length_append, List.length_singleton]; omega), List.append_assoc]; rfl
/-! the end of the code's Read -/
def h0 : Hd := S_api_Head.mk (0 : Int) ([] : (List Int)) ([] : (List S_api_Snap))
def fin1 (fu : Nat) (a0 : List UInt8) (h : Hd) (b : Bool) : Option (Hd × Int) := (opt (f_room_Write fu h) fun (r21 : ((List UInt8) × Int)) => (lt (fun (j22b74 : Bool) => (bif j22b74 then (some ((S_api_Head.mk (0 : Int) ([] : (List Int)) ([] : (List S_api_Snap))), (4 : Int))) else (some (h, (0 : Int))))) fun (kk23 : Bool → Option (S_api_Head × Int)) => (bif b then (kk23 true) else (bif (r21.2 != (0 : Int)) then (kk23 true) else (kk23 (!(r21.1 == a0)))))))
/-- what both readers may answer -/
def Ans (F : List UInt8 → A8u8) (s : List UInt8) (r : Hd × Int) : Prop := (r.2 = 0 ∧ Bd r.1 ∧ errV r.1 = 0 ∧ frameV F (bodyV r.1) = s) ∨ r = (h0, 4)
theorem fin1_any {F : List UInt8 → A8u8} (hF : IdF F) (s : List UInt8) (h : Hd) (hb : Bd h) (b : Bool) (fu : Nat) (hf : 2000000 ≤ fu) : ∃ r, fin1 fu s h b = some r ∧ Ans F s r := by
  unfold fin1
  by_cases he : errV h = 0
  · rw [(write_ok hF hb fu hf he).1, opt_of, lt_of]
    dsimp only
    cases b with
    | true => rw [cond_tt rfl]; exact ⟨_, rfl, .inr rfl⟩
    | false =>
      rw [cond_ff rfl, cond_ff (show ((0 : Int) != 0) = false from rfl)]
      by_cases hq : frameV F (bodyV h) = s
      · rw [beq_iff_eq.2 hq]; exact ⟨_, rfl, .inl ⟨rfl, hb, he, hq⟩⟩
      · rw [beq_eq_false_iff_ne.2 hq]; exact ⟨_, rfl, .inr rfl⟩
  · rw [write_bad hb fu hf he, opt_of, lt_of]
    dsimp only
    cases b with
    | true => rw [cond_tt rfl]; exact ⟨_, rfl, .inr rfl⟩
    | false => rw [cond_ff rfl, cond_tt (show (errV h != 0) = true from by simpa using he)]; exact ⟨_, rfl, .inr rfl⟩
theorem fin1_put {F : List UInt8 → A8u8} (hF : IdF F) (s : List UInt8) (h : Hd) (hb : Bd h) (fu : Nat) (hf : 2000000 ≤ fu) (he : errV h = 0) (hs : frameV F (bodyV h) = s) : fin1 fu s h false = some (h, 0) := by
  unfold fin1
  rw [(write_ok hF hb fu hf he).1, opt_of, lt_of]
  dsimp only
  rw [cond_ff rfl, cond_ff (show ((0 : Int) != 0) = false from rfl), hs, beq_self_eq_true]
  rfl
/-! the reference's reader -/
theorem cnt_any (s : List UInt8) (b : Bool) (fu : Nat) (hf : 9 ≤ fu) : ∃ (v : Nat) (s' : List UInt8) (b' : Bool), f_lumref_HeadRead_1 fu s b = some ((v : Int), s', b') ∧ v ≤ 1099511627776 ∧ ((b' = false ∧ s' = s) ∨ s'.length < s.length) := by
  obtain ⟨n, k, e, _, h1, h2⟩ := get_any s fu hf
  unfold f_lumref_HeadRead_1
  rw [h1, opt_of, lt_of]
  dsimp only
  by_cases he : e = 0
  · obtain ⟨n', k', rfl, rfl, hk, hk1⟩ := h2 he
    rw [cond_ff (show (e != 0) = false from by simpa using he)]
    by_cases hn : (n' : Int) > 1099511627776
    · rw [decide_eq_true hn]; exact ⟨0, s, false, rfl, Nat.zero_le _, .inl ⟨rfl, rfl⟩⟩
    · rw [decide_eq_false hn, cond_ff rfl, req_pos (by omega), iw (by omega), Int.toNat_natCast]
      exact ⟨n', s.drop k', b, rfl, by omega, .inr (by rw [List.length_drop]; omega)⟩
  · rw [cond_tt (show (e != 0) = true from by simpa using he)]; exact ⟨0, s, false, rfl, Nat.zero_le _, .inl ⟨rfl, rfl⟩⟩
theorem cnt_put (n : Nat) (rest : List UInt8) (b : Bool) (hn : n ≤ 1099511627776) (fu : Nat) (hf : 9 ≤ fu) : f_lumref_HeadRead_1 fu (putV n ++ rest) b = some ((n : Int), rest, b) := by
  unfold f_lumref_HeadRead_1
  rw [rget_ok _ fu hf, opt_of, getV_put n (by omega) rest, lt_of]
  dsimp only
  rw [cond_ff (show ((0 : Int) != 0) = false from rfl), decide_eq_false (by omega), cond_ff rfl, req_pos (by rw [List.length_append]; omega), iw (by omega), Int.toNat_natCast, List.drop_left]
abbrev J1 := List Int → List UInt8 → Bool → Option (Hd × Int)
abbrev J2 := List Sn → Bool → Option (Hd × Int)
theorem rpacks_stop (kk : J1) (g : Nat) (fu : Nat) (s : List UInt8) (b : Bool) (xs : List Int) (i : Int) (h : b = false ∨ i ≤ 0) : f_lumref_HeadRead_L53 kk g (fu + 1) xs s b i = kk xs s b := by
  rw [f_lumref_HeadRead_L53, lt_of]
  by_cases hi : i > 0
  · rw [cond_tt (decide_eq_true hi), h.resolve_right (by omega)]; rfl
  · rw [cond_ff (decide_eq_false hi)]; rfl
theorem rpacks_any (kk : J1) (g : Nat) (hg : 9 ≤ g) : ∀ (d fu : Nat) (s : List UInt8) (b : Bool) (xs : List Int) (i : Nat), s.length ≤ d → d + 1 < fu → xs.length + d + 1 ≤ 1000000 → i ≤ 1099511627776 →
    ∃ s' b' xs', f_lumref_HeadRead_L53 kk g fu xs s b (i : Int) = kk xs' s' b' ∧ s'.length ≤ s.length ∧ xs'.length ≤ 1000000 := by
  intro d
  induction d with
  | zero =>
    intro fu s b xs i hs hf hx hi
    obtain ⟨f, rfl⟩ : ∃ f, fu = f + 2 := ⟨fu - 2, by omega⟩
    by_cases hst : b = false ∨ (i : Int) ≤ 0
    · exact ⟨s, b, xs, rpacks_stop kk g (f + 1) s b xs i hst, Nat.le_refl _, by omega⟩
    · have hb : b = true := by cases b <;> simp_all
      obtain ⟨v, s1, b1, h1, h2, h3⟩ := cnt_any s b g hg
      have h3' : b1 = false ∧ s1 = s := h3.resolve_right (by omega)
      rw [f_lumref_HeadRead_L53, lt_of, cond_tt (decide_eq_true (by omega)), hb]
      rw [hb] at h1
      dsimp only
      rw [cond_tt rfl, h1, opt_of, req_pos (by rw [List.length_singleton]; omega)]
      dsimp only
      rw [rpacks_stop kk g f s1 b1 _ _ (.inl h3'.1)]
      exact ⟨s1, b1, _, rfl, by rw [h3'.2]; exact Nat.le_refl _, by rw [List.length_append, List.length_singleton]; omega⟩
  | succ d ih =>
    intro fu s b xs i hs hf hx hi
    obtain ⟨f, rfl⟩ : ∃ f, fu = f + 2 := ⟨fu - 2, by omega⟩
    by_cases hst : b = false ∨ (i : Int) ≤ 0
    · exact ⟨s, b, xs, rpacks_stop kk g (f + 1) s b xs i hst, Nat.le_refl _, by omega⟩
    · have hb : b = true := by cases b <;> simp_all
      have hi0 : 0 < i := by
        rcases Nat.eq_zero_or_pos i with h | h
        · exact absurd (.inr (by omega)) hst
        · exact h
      obtain ⟨v, s1, b1, h1, h2, h3⟩ := cnt_any s b g hg
      rw [f_lumref_HeadRead_L53, lt_of, cond_tt (decide_eq_true (by omega)), hb]
      rw [hb] at h1
      dsimp only
      rw [cond_tt rfl, h1, opt_of, req_pos (by rw [List.length_singleton]; omega)]
      dsimp only
      rcases h3 with h3 | h3
      · rw [rpacks_stop kk g f s1 b1 _ _ (.inl h3.1)]
        exact ⟨s1, b1, _, rfl, by rw [h3.2]; exact Nat.le_refl _, by rw [List.length_append, List.length_singleton]; omega⟩
      · have e1 : IntKind.i64.wrap ((i : Int) - 1) = ((i - 1 : Nat) : Int) := by rw [w64 (by omega) (by omega)]; omega
        rw [e1]
        obtain ⟨s', b', xs', q1, q2, q3⟩ := ih (f + 1) s1 b1 (xs ++ [(v : Int)]) (i - 1) (by omega) (by omega) (by rw [List.length_append, List.length_singleton]; omega) (by omega)
        exact ⟨s', b', xs', q1, by omega, q3⟩
theorem rpacks_put (kk : J1) (g : Nat) (hg : 9 ≤ g) (rest : List UInt8) : ∀ (ps : List Int) (fu : Nat) (xs : List Int), (∀ p ∈ ps, 0 ≤ p ∧ p ≤ 65536) → ps.length < fu → xs.length + ps.length ≤ 1000 →
    f_lumref_HeadRead_L53 kk g fu xs (ps.flatMap pV ++ rest) true (ps.length : Int) = kk (xs ++ ps) rest true
  | _, 0, _, _, hf, _ => absurd hf (Nat.not_lt_zero _)
  | [], fu + 1, xs, _, _, _ => by
    rw [rpacks_stop kk g fu _ _ _ _ (.inr (by simp)), List.append_nil]; rfl
  | p :: ps, fu + 1, xs, hp, hf, hx => by
    rw [List.length_cons] at hf hx ⊢
    obtain ⟨p0, p1⟩ := hp p (by simp)
    obtain ⟨k, hk⟩ : ∃ k : Nat, p = k := ⟨p.toNat, by omega⟩
    have hpv : pV p = putV k := by unfold pV; rw [hk, Int.toNat_natCast]
    have e1 : IntKind.i64.wrap (((ps.length + 1 : Nat) : Int) - 1) = (ps.length : Int) := by rw [w64 (by omega) (by omega)]; omega
    rw [f_lumref_HeadRead_L53, lt_of, cond_tt (decide_eq_true (by omega)), List.flatMap_cons, hpv, List.append_assoc]
    dsimp only
    rw [cond_tt rfl, cnt_put k _ true (by omega) g hg, opt_of, req_pos (by rw [List.length_singleton]; omega)]
    dsimp only
    rw [e1, rpacks_put kk g hg rest ps fu (xs ++ [(k : Int)]) (fun q hq => hp q (by simp [hq])) (by omega) (by rw [List.length_append, List.length_singleton]; omega), List.append_assoc, ← hk]; rfl
theorem rsnaps_stop (kk : J2) (g : Nat) (fu : Nat) (s : List UInt8) (b : Bool) (xs : List Sn) (i : Int) (h : b = false ∨ i ≤ 0) : f_lumref_HeadRead_L32 kk g (fu + 1) xs s b i = kk xs b := by
  rw [f_lumref_HeadRead_L32, lt_of]
  by_cases hi : i > 0
  · rw [cond_tt (decide_eq_true hi), h.resolve_right (by omega)]; rfl
  · rw [cond_ff (decide_eq_false hi)]; rfl
theorem rsnaps_any (kk : J2) (g : Nat) (hg : 2000 ≤ g) : ∀ (d fu : Nat) (s : List UInt8) (b : Bool) (xs : List Sn) (i : Nat), s.length ≤ d → d + 1 < fu → xs.length + d ≤ 1000000 → i ≤ 1099511627776 → (∀ x ∈ xs, x.Name.length ≤ 1024) →
    ∃ b' xs', f_lumref_HeadRead_L32 kk g fu xs s b (i : Int) = kk xs' b' ∧ xs'.length ≤ 1000000 ∧ ∀ x ∈ xs', x.Name.length ≤ 1024 := by
  intro d
  induction d using Nat.strongRecOn with
  | _ d ih =>
    intro fu s b xs i hs hf hx hi ha
    obtain ⟨f, rfl⟩ : ∃ f, fu = f + 2 := ⟨fu - 2, by omega⟩
    by_cases hst : b = false ∨ (i : Int) ≤ 0
    · exact ⟨b, xs, rsnaps_stop kk g (f + 1) s b xs i hst, by omega, ha⟩
    · have hb : b = true := by cases b <;> simp_all
      have hi0 : 0 < i := by
        rcases Nat.eq_zero_or_pos i with h | h
        · exact absurd (.inr (by omega)) hst
        · exact h
      obtain ⟨r, _, t2, t3, t4, t5⟩ := PTreeText.txt_ex s (by omega) g (by omega)
      rw [f_lumref_HeadRead_L32, lt_of, cond_tt (decide_eq_true (by omega)), hb]
      dsimp only
      rw [cond_tt rfl, t2, opt_of]
      by_cases he : r.2.2 = 0
      · obtain ⟨k, hk1, hk2⟩ := t4 he
        obtain ⟨v, s1, b1, h1, h2, h3⟩ := cnt_any (s.drop k) true g (by omega)
        have hs1 : s1.length ≤ s.length := by
          rcases h3 with h3 | h3
          · rw [h3.2, List.length_drop]; omega
          · rw [List.length_drop] at h3; omega
        rw [cond_ff (show (r.2.2 != 0) = false from by simpa using he), hk1, req_pos (by omega), Int.toNat_natCast, h1, opt_of]
        dsimp only
        by_cases h8 : s1.length < 8
        · rw [cond_tt (decide_eq_true (by omega))]
          exact ⟨false, xs, rfl, by omega, ha⟩
        · have e1 : IntKind.i64.wrap ((i : Int) - 1) = ((i - 1 : Nat) : Int) := by rw [w64 (by omega) (by omega)]; omega
          rw [cond_ff (decide_eq_false (by omega)), req_pos (by omega), req_pos (by rw [List.length_singleton]; omega), e1]
          exact ih (s1.length - 8) (by omega) (f + 1) _ b1 _ (i - 1) (by rw [List.length_drop]; exact Nat.le_refl _) (by omega) (by rw [List.length_append, List.length_singleton]; omega) (by omega) (fun y hy => by
            rcases List.mem_append.1 hy with hy | hy
            · exact ha y hy
            · rw [List.mem_singleton.1 hy]; exact t3)
      · rw [cond_tt (show (r.2.2 != 0) = true from by simpa using he)]
        exact ⟨false, xs, rfl, by omega, ha⟩
theorem rsnaps_put (kk : J2) (g : Nat) (hg : 2000 ≤ g) : ∀ (ps : List Sn) (fu : Nat) (xs : List Sn), (∀ p ∈ ps, GS p) → ps.length < fu → xs.length + ps.length ≤ 1000 →
    f_lumref_HeadRead_L32 kk g fu xs (ps.flatMap snapV) true (ps.length : Int) = kk (xs ++ ps) true
  | _, 0, _, _, hf, _ => absurd hf (Nat.not_lt_zero _)
  | [], fu + 1, xs, _, _, _ => by
    rw [rsnaps_stop kk g fu _ _ _ _ (.inr (by simp)), List.append_nil]
  | p :: ps, fu + 1, xs, hp, hf, hx => by
    rw [List.length_cons] at hf hx ⊢
    have hl := flat_len snapV 115 ps (fun s hs => snapV_len (hp s (by simp [hs])))
    have hx1 := hp p (by simp)
    obtain ⟨n1, n2⟩ := name_good hx1.1
    obtain ⟨k, hk⟩ : ∃ k : Nat, p.Time = k := ⟨p.Time.toNat, by have := hx1.2.1; omega⟩
    have hkb := hx1.2.2
    have hpv : pV p.Time = putV k := by unfold pV; rw [hk, Int.toNat_natCast]
    have hpl := putV_len k
    obtain ⟨R, hR⟩ : ∃ R, R = ps.flatMap snapV := ⟨_, rfl⟩
    have hsp : snapV p ++ R = txtV p.Name ++ (putV k ++ (lA8u8 p.Root ++ R)) := by unfold snapV; rw [hpv]; simp only [List.append_assoc]
    have htl : (txtV p.Name).length = p.Name.length + 2 := by rw [txtV_plain _ n2, List.length_append]; rfl
    have h8 : (lA8u8 p.Root ++ R).length = 8 + R.length := by rw [List.length_append]; rfl
    rw [← hR] at hl
    obtain ⟨_, g1⟩ := gtext_ok p.Name (putV k ++ (lA8u8 p.Root ++ R)) n2 (by omega) (by rw [List.length_append]; omega) g (by omega)
    obtain ⟨q1, q2⟩ := lof8 p.Root R
    have e1 : IntKind.i64.wrap (((ps.length + 1 : Nat) : Int) - 1) = (ps.length : Int) := by rw [w64 (by omega) (by omega)]; omega
    rw [f_lumref_HeadRead_L32, lt_of, cond_tt (decide_eq_true (by omega)), List.flatMap_cons, ← hR, hsp]
    dsimp only
    rw [cond_tt rfl, g1, opt_of]
    dsimp only
    rw [cond_ff (show ((0 : Int) != 0) = false from rfl), req_pos (by rw [List.length_append]; omega), Int.toNat_natCast, List.drop_left' htl, cnt_put k _ true (by omega) g (by omega), opt_of]
    dsimp only
    rw [cond_ff (decide_eq_false (by omega)), req_pos (by omega), req_pos (by rw [List.length_singleton]; omega), e1, show ((8 : Int)).toNat = 8 from rfl, q2]
    have hc : cpA8u8 (A8u8.mk (0 : UInt8) (0 : UInt8) (0 : UInt8) (0 : UInt8) (0 : UInt8) (0 : UInt8) (0 : UInt8) (0 : UInt8)) (lA8u8 p.Root ++ R) = p.Root := (cp8 (by omega)).trans q1
    rw [hc, ← hk]
    have := rsnaps_put kk g hg ps fu (xs ++ [p]) (fun q hq => hp q (by simp [hq])) (by omega) (by rw [List.length_append, List.length_singleton]; omega)
    rw [← hR, List.append_assoc] at this
    exact this
def fin2 (fu : Nat) (a0 : List UInt8) (h : Hd) (b : Bool) : Option (Hd × Int) := (lt (fun (j19b99 : Bool) => (bif j19b99 then (some ((S_api_Head.mk (0 : Int) ([] : (List Int)) ([] : (List S_api_Snap))), (4 : Int))) else (some (h, (0 : Int))))) fun (kk20 : Bool → Option (S_api_Head × Int)) => (bif (!b) then (kk20 true) else (opt (f_lumref_HeadErr fu h) fun (r24 : Int) => (bif (r24 != (0 : Int)) then (kk20 true) else (opt (f_lumref_HeadText fu h) fun (r27 : (List UInt8)) => (kk20 (!(r27 == a0))))))))
theorem fin2_any {F : List UInt8 → A8u8} (hF : IdF F) (s : List UInt8) (h : Hd) (hb : Bd h) (b : Bool) (fu : Nat) (hf : 2000000 ≤ fu) : ∃ r, fin2 fu s h b = some r ∧ Ans F s r := by
  unfold fin2
  rw [lt_of]
  cases b with
  | false => rw [cond_tt (show (!false) = true from rfl)]; exact ⟨_, rfl, .inr rfl⟩
  | true =>
    rw [cond_ff (show (!true) = false from rfl), herr_ok h hb fu hf, opt_of]
    by_cases he : errV h = 0
    · rw [he, cond_ff (show ((0 : Int) != 0) = false from rfl), (write_ok hF hb fu hf he).2, opt_of]
      by_cases hq : frameV F (bodyV h) = s
      · rw [beq_iff_eq.2 hq]; exact ⟨_, rfl, .inl ⟨rfl, hb, he, hq⟩⟩
      · rw [beq_eq_false_iff_ne.2 hq]; exact ⟨_, rfl, .inr rfl⟩
    · rw [cond_tt (show (errV h != 0) = true from by simpa using he)]; exact ⟨_, rfl, .inr rfl⟩
theorem fin2_put {F : List UInt8 → A8u8} (hF : IdF F) (s : List UInt8) (h : Hd) (hb : Bd h) (fu : Nat) (hf : 2000000 ≤ fu) (he : errV h = 0) (hs : frameV F (bodyV h) = s) : fin2 fu s h true = some (h, 0) := by
  unfold fin2
  rw [lt_of, cond_ff (show (!true) = false from rfl), herr_ok h hb fu hf, opt_of, he, cond_ff (show ((0 : Int) != 0) = false from rfl), (write_ok hF hb fu hf he).2, opt_of, hs, beq_self_eq_true]
  rfl
end Go.Proofs.YtjbgahmcobcojaaDoor.PRoomHeads
