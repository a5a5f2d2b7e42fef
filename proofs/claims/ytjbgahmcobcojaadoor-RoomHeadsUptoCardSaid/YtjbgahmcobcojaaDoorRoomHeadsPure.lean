/- Heads: RoomHeads. Condition: of bulk at most 1048576. -/
import Derived.Test.YtjbgahmcobcojaaDoorRhRead
namespace Go.Proofs.YtjbgahmcobcojaaDoor.PRoomHeads
open Go.RowKit YtjbgahmcobcojaaDoor.En YtjbgahmcobcojaaDoor Num Mix PPut JF TX U8
open Go.Lib hiding cut
set_option linter.unusedVariables false
set_option linter.unusedSimpArgs false
def k2 (fu : Nat) (a0 : List UInt8) (next : Int) (packs : List Int) : K2 := fun _ b snaps => fin1 fu a0 ⟨next, packs, snaps⟩ b
def k1 (fu : Nat) (a0 : List UInt8) (next : Int) : K1 := fun s b packs => opt (f___room_reader__number fu ⟨s, b⟩ 20) fun r28 => f_room_Read_L31 (k2 fu a0 next packs) r28 fu fu r28.2.s r28.2.bad [] 0
theorem k1_any {F : List UInt8 → A8u8} (hF : IdF F) (s : List UInt8) (v : Int) (fu : Nat) (hf : 2000000 ≤ fu) (s1 : List UInt8) (hs : s1.length ≤ 1000000) (b1 : Bool) (packs : List Int) (hp : packs.length ≤ 100) : ∃ r, k1 fu s v s1 b1 packs = some r ∧ Ans F s r := by
  obtain ⟨n, s2, b2, n1, n2, n3⟩ := num_any s1 b1 20 (by omega) fu (by omega)
  have n1' : f___room_reader__number fu ⟨s1, b1⟩ (20 : Int) = some ((n : Int), ⟨s2, b2⟩) := n1
  unfold k1
  rw [n1', opt_of]
  obtain ⟨s', b', xs', q1, q2, q3⟩ := snaps_any (k2 fu s v packs) ((n : Int), ⟨s2, b2⟩) n rfl n2 fu (by omega) n 0 fu s2 b2 [] (Nat.sub_zero n) (Nat.zero_le _) (by omega) (Nat.zero_le _) (by omega) (by simp)
  dsimp only
  rw [show (0 : Int) = ((0 : Nat) : Int) from rfl, q1]
  exact fin1_any hF s ⟨v, packs, xs'⟩ ⟨by show packs.length ≤ _; omega, by show xs'.length ≤ _; omega, fun x hx => by have := q3 x hx; omega⟩ b' fu hf
theorem read1_any {F : List UInt8 → A8u8} (hF : IdF F) (s : List UInt8) (hs : s.length ≤ 1048576) (fu : Nat) (hf : 2000000 ≤ fu) : ∃ r, f_room_Read fu s = some r ∧ Ans F s r := by
  obtain ⟨l, m, h1, h2, h3, h4, h5⟩ := scans_ok hF s hs fu hf
  unfold f_room_Read
  rw [h2, opt_of, lt_of]
  dsimp only
  by_cases hl : l.length = 1
  · obtain ⟨u, rfl⟩ : ∃ u, l = [u] := List.length_eq_one_iff.1 hl
    have hu := h5 u (by simp)
    rw [cond_ff (show ((([u] : List (List UInt8)).length : Int) != 1) = false from rfl)]
    by_cases hm : m = s.length
    · rw [show ((m : Int) != (s.length : Int)) = false from by rw [hm]; simp, cond_ff rfl, show at? [u] (0 : Int) = some u from rfl, opt_of]
      obtain ⟨v, s1, b1, n1, n2, n3⟩ := num_any u false 65536 (by omega) fu (by omega)
      have n1' : f___room_reader__number fu ⟨u, false⟩ (65536 : Int) = some ((v : Int), ⟨s1, b1⟩) := n1
      rw [n1', opt_of, lt_of]
      obtain ⟨w, s2, b2, w1, w2, w3⟩ := num_any s1 b1 100 (by omega) fu (by omega)
      have w1' : f___room_reader__number fu ⟨s1, b1⟩ (100 : Int) = some ((w : Int), ⟨s2, b2⟩) := w1
      show ∃ r, (opt (f___room_reader__number fu ⟨s1, b1⟩ (100 : Int)) fun r39 => f_room_Read_L42 (k1 fu s (v : Int)) r39 fu fu r39.2.s r39.2.bad [] ((0 : Nat) : Int)) = some r ∧ Ans F s r
      rw [w1', opt_of]
      obtain ⟨s', b', xs', q1, q2, q3⟩ := packs_any (k1 fu s (v : Int)) ((w : Int), ⟨s2, b2⟩) w rfl w2 fu (by omega) w 0 fu s2 b2 [] (Nat.sub_zero w) (Nat.zero_le _) (by omega) (Nat.zero_le _)
      dsimp only
      rw [q1]
      exact k1_any hF s _ fu hf s' (by omega) b' xs' (by omega)
    · rw [show ((m : Int) != (s.length : Int)) = true from bne_iff_ne.2 (by omega)]
      exact ⟨_, rfl, .inr rfl⟩
  · rw [cond_tt (show ((l.length : Int) != 1) = true from by simp; omega)]
    exact ⟨_, rfl, .inr rfl⟩
theorem scan_both {F : List UInt8 → A8u8} (hF : IdF F) (s x : List UInt8) (hs : s.length ≤ 1048576) (hx : x.length ≤ 4096) (h : frameV F x = s) (fu : Nat) (hf : 2000000 ≤ fu) : f_lumref_Scan fu s = some ([x], (s.length : Int)) ∧ f_journal_Scan fu s = some ([x], (s.length : Int)) := by
  obtain ⟨l, m, h1, h2, _⟩ := scans_ok hF s hs fu hf
  have h3 := scan_frame hF x hx fu (by omega)
  rw [h] at h3
  refine ⟨h3, ?_⟩
  rw [h2, ← h1, h3]
theorem body_split (h : Hd) : bodyV h = pV h.Next ++ (putV h.Packs.length ++ (h.Packs.flatMap pV ++ (putV h.Snaps.length ++ h.Snaps.flatMap snapV))) := by
  unfold bodyV
  simp only [List.append_assoc]
theorem read1_put {F : List UInt8 → A8u8} (hF : IdF F) (s : List UInt8) (hs : s.length ≤ 1048576) (fu : Nat) (hf : 2000000 ≤ fu) (h : Hd) (hb : Bd h) (he : errV h = 0) (hq : frameV F (bodyV h) = s) : f_room_Read fu s = some (h, 0) := by
  obtain ⟨e1, e2, e3, e4, e5⟩ := errV_zero he
  obtain ⟨_, h2⟩ := scan_both hF s (bodyV h) hs (body_len he) hq fu hf
  obtain ⟨k, hk⟩ : ∃ k : Nat, h.Next = k := ⟨h.Next.toNat, by omega⟩
  have hpv : pV h.Next = putV k := by unfold pV; rw [hk, Int.toNat_natCast]
  unfold f_room_Read
  rw [h2, opt_of, lt_of]
  dsimp only
  rw [cond_ff (show ((([bodyV h] : List (List UInt8)).length : Int) != 1) = false from rfl), show ((s.length : Int) != (s.length : Int)) = false from by simp, cond_ff rfl, show at? [bodyV h] (0 : Int) = some (bodyV h) from rfl, opt_of, body_split, hpv]
  have n1 := num_put k 65536 (putV h.Packs.length ++ (h.Packs.flatMap pV ++ (putV h.Snaps.length ++ h.Snaps.flatMap snapV))) (by omega) (by omega) fu (by omega)
  have n1' : f___room_reader__number fu ⟨putV k ++ (putV h.Packs.length ++ (h.Packs.flatMap pV ++ (putV h.Snaps.length ++ h.Snaps.flatMap snapV))), false⟩ (65536 : Int) = some ((k : Int), ⟨putV h.Packs.length ++ (h.Packs.flatMap pV ++ (putV h.Snaps.length ++ h.Snaps.flatMap snapV)), false⟩) := n1
  rw [n1', opt_of, lt_of]
  have w1 := num_put h.Packs.length 100 (h.Packs.flatMap pV ++ (putV h.Snaps.length ++ h.Snaps.flatMap snapV)) (by omega) (by omega) fu (by omega)
  have w1' : f___room_reader__number fu ⟨putV h.Packs.length ++ (h.Packs.flatMap pV ++ (putV h.Snaps.length ++ h.Snaps.flatMap snapV)), false⟩ (100 : Int) = some ((h.Packs.length : Int), ⟨h.Packs.flatMap pV ++ (putV h.Snaps.length ++ h.Snaps.flatMap snapV), false⟩) := w1
  show (opt (f___room_reader__number fu ⟨putV h.Packs.length ++ (h.Packs.flatMap pV ++ (putV h.Snaps.length ++ h.Snaps.flatMap snapV)), false⟩ (100 : Int)) fun r39 => f_room_Read_L42 (k1 fu s (k : Int)) r39 fu fu r39.2.s r39.2.bad [] ((0 : Nat) : Int)) = some (h, 0)
  rw [w1', opt_of]
  dsimp only
  rw [packs_put (k1 fu s (k : Int)) _ h.Packs.length rfl e1 fu (by omega) _ h.Packs 0 fu [] e4 (by omega) (by omega) rfl, List.nil_append]
  unfold k1
  have m1 := num_put h.Snaps.length 20 (h.Snaps.flatMap snapV) (by omega) (by omega) fu (by omega)
  have m1' : f___room_reader__number fu ⟨putV h.Snaps.length ++ h.Snaps.flatMap snapV, false⟩ (20 : Int) = some ((h.Snaps.length : Int), ⟨h.Snaps.flatMap snapV, false⟩) := m1
  rw [m1', opt_of]
  dsimp only
  rw [show (0 : Int) = ((0 : Nat) : Int) from rfl, snaps_put (k2 fu s (k : Int) h.Packs) _ h.Snaps.length rfl e2 fu (by omega) h.Snaps 0 fu [] e5 (by omega) (by omega) rfl, List.nil_append]
  unfold k2
  rw [← hk]
  exact fin1_put hF s h hb fu hf he hq
/-! the reference -/
def j2 (fu : Nat) (a0 : List UInt8) (next : Int) (packs : List Int) : J2 := fun snaps b => fin2 fu a0 ⟨next, packs, snaps⟩ b
def j1 (fu : Nat) (a0 : List UInt8) (next : Int) : J1 := fun packs s b => opt (f_lumref_HeadRead_1 fu s b) fun r29 => f_lumref_HeadRead_L32 (j2 fu a0 next packs) fu fu [] r29.2.1 r29.2.2 r29.1
theorem j1_any {F : List UInt8 → A8u8} (hF : IdF F) (s : List UInt8) (v : Int) (fu : Nat) (hf : 2000000 ≤ fu) (s1 : List UInt8) (hs : s1.length ≤ 10000) (b1 : Bool) (packs : List Int) (hp : packs.length ≤ 1000000) : ∃ r, j1 fu s v packs s1 b1 = some r ∧ Ans F s r := by
  obtain ⟨n, s2, b2, n1, n2, n3⟩ := cnt_any s1 b1 fu (by omega)
  have hs2 : s2.length ≤ s1.length := by
    rcases n3 with n3 | n3
    · rw [n3.2]; exact Nat.le_refl _
    · omega
  unfold j1
  rw [n1, opt_of]
  obtain ⟨b', xs', q1, q2, q3⟩ := rsnaps_any (j2 fu s v packs) fu (by omega) 10000 fu s2 b2 [] n (by omega) (by omega) (by simp) n2 (by simp)
  dsimp only
  rw [q1]
  exact fin2_any hF s ⟨v, packs, xs'⟩ ⟨by show packs.length ≤ _; omega, by show xs'.length ≤ _; omega, fun x hx => by have := q3 x hx; omega⟩ b' fu hf
theorem read2_any {F : List UInt8 → A8u8} (hF : IdF F) (s : List UInt8) (hs : s.length ≤ 1048576) (fu : Nat) (hf : 2000000 ≤ fu) : ∃ r, f_lumref_HeadRead fu s = some r ∧ Ans F s r := by
  obtain ⟨l, m, h1, h2, h3, h4, h5⟩ := scans_ok hF s hs fu hf
  unfold f_lumref_HeadRead
  rw [h1, opt_of]
  dsimp only
  cases l with
  | nil => exact ⟨_, rfl, .inr rfl⟩
  | cons u t =>
    have hu := h5 u (by simp)
    rw [cond_ff (show (((u :: t).length : Int) == 0) = false from by rw [beq_eq_false_iff_ne, List.length_cons]; omega), show at? (u :: t) (0 : Int) = some u from rfl, opt_of]
    obtain ⟨v, s1, b1, n1, n2, n3⟩ := cnt_any u true fu (by omega)
    have hs1 : s1.length ≤ u.length := by
      rcases n3 with n3 | n3
      · rw [n3.2]; exact Nat.le_refl _
      · omega
    rw [n1, opt_of, lt_of]
    obtain ⟨w, s2, b2, w1, w2, w3⟩ := cnt_any s1 b1 fu (by omega)
    have hs2 : s2.length ≤ s1.length := by
      rcases w3 with w3 | w3
      · rw [w3.2]; exact Nat.le_refl _
      · omega
    show ∃ r, (opt (f_lumref_HeadRead_1 fu s1 b1) fun r50 => f_lumref_HeadRead_L53 (j1 fu s (v : Int)) fu fu [] r50.2.1 r50.2.2 r50.1) = some r ∧ Ans F s r
    rw [w1, opt_of]
    obtain ⟨s', b', xs', q1, q2, q3⟩ := rpacks_any (j1 fu s (v : Int)) fu (by omega) 5000 fu s2 b2 [] w (by omega) (by omega) (by simp) w2
    dsimp only
    rw [q1]
    exact j1_any hF s _ fu hf s' (by omega) b' xs' q3
theorem read2_put {F : List UInt8 → A8u8} (hF : IdF F) (s : List UInt8) (hs : s.length ≤ 1048576) (fu : Nat) (hf : 2000000 ≤ fu) (h : Hd) (hb : Bd h) (he : errV h = 0) (hq : frameV F (bodyV h) = s) : f_lumref_HeadRead fu s = some (h, 0) := by
  obtain ⟨e1, e2, e3, e4, e5⟩ := errV_zero he
  obtain ⟨h2, _⟩ := scan_both hF s (bodyV h) hs (body_len he) hq fu hf
  obtain ⟨k, hk⟩ : ∃ k : Nat, h.Next = k := ⟨h.Next.toNat, by omega⟩
  have hpv : pV h.Next = putV k := by unfold pV; rw [hk, Int.toNat_natCast]
  unfold f_lumref_HeadRead
  rw [h2, opt_of]
  dsimp only
  rw [cond_ff (show ((([bodyV h] : List (List UInt8)).length : Int) == 0) = false from rfl), show at? [bodyV h] (0 : Int) = some (bodyV h) from rfl, opt_of, body_split, hpv, cnt_put k _ true (by omega) fu (by omega), opt_of, lt_of]
  show (opt (f_lumref_HeadRead_1 fu (putV h.Packs.length ++ (h.Packs.flatMap pV ++ (putV h.Snaps.length ++ h.Snaps.flatMap snapV))) true) fun r50 => f_lumref_HeadRead_L53 (j1 fu s (k : Int)) fu fu [] r50.2.1 r50.2.2 r50.1) = some (h, 0)
  rw [cnt_put _ _ true (by omega) fu (by omega), opt_of]
  dsimp only
  rw [rpacks_put (j1 fu s (k : Int)) fu (by omega) _ h.Packs fu [] e4 (by omega) (by simp; omega), List.nil_append]
  unfold j1
  rw [cnt_put _ _ true (by omega) fu (by omega), opt_of]
  dsimp only
  rw [rsnaps_put (j2 fu s (k : Int) h.Packs) fu (by omega) h.Snaps fu [] e5 (by omega) (by simp; omega), List.nil_append]
  unfold j2
  rw [← hk]
  exact fin2_put hF s h hb fu hf he hq
/-! the law -/
theorem reads_ok {F : List UInt8 → A8u8} (hF : IdF F) (s : List UInt8) (hs : s.length ≤ 1048576) (fu : Nat) (hf : 2000000 ≤ fu) : ∃ h e, f_room_Read fu s = some (h, e) ∧ f_lumref_HeadRead fu s = some (h, e) ∧ Bd h ∧ ∀ x ∈ h.Snaps, 0 ≤ x.Time ∧ x.Time ≤ 4223371679 := by
  obtain ⟨r1, a1, a2⟩ := read1_any hF s hs fu hf
  obtain ⟨r2, b1, b2⟩ := read2_any hF s hs fu hf
  have fine : ∀ h : Hd, errV h = 0 → ∀ x ∈ h.Snaps, 0 ≤ x.Time ∧ x.Time ≤ 4223371679 := fun h he x hx => ((errV_zero he).2.2.2.2 x hx).2
  rcases a2 with ⟨c1, c2, c3, c4⟩ | c
  · have := read2_put hF s hs fu hf r1.1 c2 c3 c4
    refine ⟨r1.1, 0, ?_, this, c2, fine _ c3⟩
    rw [a1]
    congr 1
    exact Prod.ext rfl c1
  · rcases b2 with ⟨c1, c2, c3, c4⟩ | c'
    · have := read1_put hF s hs fu hf r2.1 c2 c3 c4
      refine ⟨r2.1, 0, this, ?_, c2, fine _ c3⟩
      rw [b1]
      congr 1
      exact Prod.ext rfl c1
    · subst c c'
      exact ⟨h0, 4, a1, b1, ⟨Nat.zero_le _, Nat.zero_le _, fun x hx => by cases hx⟩, fun x hx => by cases hx⟩
theorem eqI (l : List Int) (hl : l.length ≤ 1048576) (kk : Unit → Option Bool) : ∀ (d i fu : Nat), l.length - i = d → i ≤ l.length → d < fu → f_slices_Equal___int_int__L6 l l kk fu (i : Int) = kk ()
  | _, _, 0, _, _, hf => absurd hf (Nat.not_lt_zero _)
  | 0, i, fu + 1, hd, hi, _ => by rw [f_slices_Equal___int_int__L6, cond_ff (dge (by omega))]
  | d + 1, i, fu + 1, hd, hi, hf => by
    have hlt : i < l.length := by omega
    rw [f_slices_Equal___int_int__L6, cond_tt (dlt (by omega)), at_lt hlt, opt_of, opt_of, show (l[i] != l[i]) = false from by simp, cond_ff rfl, wsucc (by omega)]
    exact eqI l hl kk d (i + 1) fu (by omega) (by omega) (by omega)
theorem wf_t {x : Int} (h0 : 0 ≤ x) (h1 : x ≤ 4223371679) : (Lit.int .i64 x).wf = true := by
  simp [Lit.wf, IntKind.min, IntKind.max, IntKind.signed, IntKind.bits]; omega
theorem eqS (l : List Sn) (hl : l.length ≤ 1048576) (hn : ∀ x ∈ l, x.Name.length ≤ 1048576) (ht : ∀ x ∈ l, 0 ≤ x.Time ∧ x.Time ≤ 4223371679) (kk : Unit → Option Bool) : ∀ (d i fu : Nat), l.length - i = d → i ≤ l.length → d < fu → f_slices_Equal___api_Snap_api_Snap__L6 l l kk fu (i : Int) = kk ()
  | _, _, 0, _, _, hf => absurd hf (Nat.not_lt_zero _)
  | 0, i, fu + 1, hd, hi, _ => by rw [f_slices_Equal___api_Snap_api_Snap__L6, cond_ff (dge (by omega))]
  | d + 1, i, fu + 1, hd, hi, hf => by
    have hlt : i < l.length := by omega
    have n1 := hn _ (List.getElem_mem hlt)
    have t1 := ht _ (List.getElem_mem hlt)
    have w1 := wf_t t1.1 t1.2
    rw [f_slices_Equal___api_Snap_api_Snap__L6, cond_tt (dlt (by omega)), at_lt hlt, opt_of, opt_of, req_pos (by omega), req_pos w1, req_pos (by omega), req_pos w1, show (!(l[i] == l[i])) = false from by simp, cond_ff rfl, wsucc (by omega)]
    exact eqS l hl hn ht kk d (i + 1) fu (by omega) (by omega) (by omega)
theorem same_ok (h : Hd) (hb : Bd h) (ht : ∀ x ∈ h.Snaps, 0 ≤ x.Time ∧ x.Time ≤ 4223371679) (fu : Nat) (hf : 2000000 ≤ fu) : f_lumlaw_SameHead fu h h = some true := by
  unfold f_lumlaw_SameHead f_slices_Equal___int_int_ f_slices_Equal___api_Snap_api_Snap_
  rw [lt_of, cond_tt (beq_self_eq_true _), show ((h.Packs.length : Int) != (h.Packs.length : Int)) = false from by simp, cond_ff rfl, lt_of]
  have e1 := eqI h.Packs hb.1 (fun _ => some true) _ 0 fu rfl (Nat.zero_le _) (by have := hb.1; omega)
  have e2 := eqS h.Snaps hb.2.1 hb.2.2 ht (fun _ => some true) _ 0 fu rfl (Nat.zero_le _) (by have := hb.2.1; omega)
  rw [show (0 : Int) = ((0 : Nat) : Int) from rfl, e1, opt_of, cond_tt rfl, show ((h.Snaps.length : Int) != (h.Snaps.length : Int)) = false from by simp, cond_ff rfl, lt_of, e2, opt_of]
theorem law_ok (h : Hd) (hb : Bd h) (s : List UInt8) (hs : s.length ≤ 1048576) (fu : Nat) (hf : 2000000 ≤ fu) : f_lumlaw_RoomHeads fu h s = some true := by
  obtain ⟨F, hF⟩ := id_ex
  obtain ⟨q, e, g1, g2, g3, g4⟩ := reads_ok hF s hs fu hf
  have gs := same_ok q g3 g4 fu hf
  unfold f_lumlaw_RoomHeads
  rw [herr_ok h hb fu hf, opt_of]
  by_cases he : errV h = 0
  · obtain ⟨w1, w2⟩ := write_ok hF hb fu hf he
    obtain ⟨Y, hY⟩ : ∃ Y, Y = frameV F (bodyV h) := ⟨_, rfl⟩
    rw [← hY] at w1 w2
    rw [w1, opt_of, he, lt_of, cond_tt (beq_self_eq_true _), w2, opt_of]
    dsimp only
    rw [g1, opt_of, g2, opt_of, lt_of, cond_tt (beq_self_eq_true _), cond_tt (beq_self_eq_true _)]
    show (opt (f_lumlaw_SameHead fu q q) _) = _
    rw [gs, opt_of, cond_tt rfl, beq_self_eq_true]
  · rw [write_bad hb fu hf he, opt_of, lt_of, cond_ff (show (errV h == 0) = false from by simpa using he)]
    dsimp only
    rw [g1, opt_of, g2, opt_of, lt_of, cond_tt (beq_self_eq_true _), cond_tt (beq_self_eq_true _)]
    show (opt (f_lumlaw_SameHead fu q q) _) = _
    rw [gs, opt_of, cond_tt rfl, beq_self_eq_true]
def fuel (_ : Hd) (_ : List UInt8) : Nat := 4000000
theorem says (h : Hd) (s : List UInt8) (ok0 : okbS_api_Head 1048576 h) (hs : s.length ≤ 1048576) : f_lumlaw_RoomHeads (fuel h s) h s = some true := by
  obtain ⟨b1, b2, b3⟩ := ok0
  exact law_ok h ⟨b2.1, b3.1, fun x hx => (b3.2 x hx).1.2⟩ s hs 4000000 (by omega)
end Go.Proofs.YtjbgahmcobcojaaDoor.PRoomHeads
