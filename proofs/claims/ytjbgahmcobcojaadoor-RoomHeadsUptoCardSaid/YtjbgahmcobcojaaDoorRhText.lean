/- Heads: what is written. No condition. -/
import Derived.Test.YtjbgahmcobcojaaDoorRhErr
namespace Go.Proofs.YtjbgahmcobcojaaDoor.PRoomHeads
open Go.RowKit YtjbgahmcobcojaaDoor.En YtjbgahmcobcojaaDoor Num Mix PPut JF TX U8
open Go.Lib hiding cut
set_option linter.unusedVariables false
set_option linter.unusedSimpArgs false
def pV (p : Int) : List UInt8 := putV p.toNat
def snapV (s : Sn) : List UInt8 := (txtV s.Name ++ pV s.Time) ++ lA8u8 s.Root
def bodyV (h : Hd) : List UInt8 := (((pV h.Next ++ putV h.Packs.length) ++ h.Packs.flatMap pV) ++ putV h.Snaps.length) ++ h.Snaps.flatMap snapV
theorem flat_len {α : Type} (f : α → List UInt8) (k : Nat) : ∀ (l : List α), (∀ x ∈ l, (f x).length ≤ k) → (l.flatMap f).length ≤ k * l.length
  | [], _ => by simp
  | x :: t, h => by
    have h1 := flat_len f k t (fun y hy => h y (by simp [hy]))
    have h2 := h x (by simp)
    rw [List.flatMap_cons, List.length_append, List.length_cons, Nat.mul_succ]; omega
theorem pV_len (p : Int) : (pV p).length ≤ 9 ∧ 1 ≤ (pV p).length := putV_len _
def GS (s : Sn) : Prop := nameV s.Name = 0 ∧ 0 ≤ s.Time ∧ s.Time ≤ 4223371679
theorem snapV_len {s : Sn} (h : GS s) : (snapV s).length ≤ 115 := by
  obtain ⟨h1, h2⟩ := name_good h.1
  have h3 := pV_len s.Time
  unfold snapV
  rw [txtV_plain _ h2, List.length_append, List.length_append, List.length_append, show (lA8u8 s.Root).length = 8 from rfl]
  show s.Name.length + 2 + _ + 8 ≤ _
  omega
theorem w1_ok (n : Int) (h0 : 0 ≤ n) (h1 : n ≤ 9223372036854775807) (fu : Nat) : f_room_Write_1 fu n = some (pV n) := by
  obtain ⟨k, rfl⟩ : ∃ k : Nat, n = k := ⟨n.toNat, by omega⟩
  unfold f_room_Write_1 pV
  rw [uw (by omega), put_ok k (by omega), opt_of, Int.toNat_natCast]
theorem rp_ok (n : Int) (h0 : 0 ≤ n) (h1 : n ≤ 9223372036854775807) (fu : Nat) (hf : 9 ≤ fu) : f_lumref_Put fu (IntKind.u64.wrap n) = some (pV n) := by
  obtain ⟨k, rfl⟩ : ∃ k : Nat, n = k := ⟨n.toNat, by omega⟩
  unfold pV
  rw [uw (by omega), rput_ok k (by omega) fu hf, Int.toNat_natCast]
theorem wp_loop (h : Hd) (hp : ∀ p ∈ h.Packs, 0 ≤ p ∧ p ≤ 65536) (hl : h.Packs.length ≤ 100) (kk : List UInt8 → Option (List UInt8 × Int)) (g : Nat) : ∀ (d i fu : Nat) (acc : List UInt8), h.Packs.length - i = d → i ≤ h.Packs.length → d < fu → acc.length + 9 * d ≤ 1000000 →
    f_room_Write_L39 h kk g fu acc (i : Int) = kk (acc ++ (h.Packs.drop i).flatMap pV)
  | _, _, 0, _, _, _, hf, _ => absurd hf (Nat.not_lt_zero _)
  | 0, i, fu + 1, acc, hd, hi, _, _ => by
    rw [f_room_Write_L39, cond_ff (dge (by omega)), List.drop_of_length_le (by omega), List.flatMap_nil, List.append_nil]
  | d + 1, i, fu + 1, acc, hd, hi, hf, ha => by
    have hlt : i < h.Packs.length := by omega
    obtain ⟨p0, p1⟩ := hp _ (List.getElem_mem hlt)
    have hpl := pV_len h.Packs[i]
    rw [f_room_Write_L39, cond_tt (dlt (by omega)), at_lt hlt, opt_of, w1_ok _ p0 (by omega), opt_of, req_pos (by omega), wsucc (by omega), wp_loop h hp hl kk g d (i + 1) fu _ (by omega) (by omega) (by omega) (by rw [List.length_append]; omega), List.drop_eq_getElem_cons hlt, List.flatMap_cons, List.append_assoc]
theorem tp_loop (h : Hd) (hp : ∀ p ∈ h.Packs, 0 ≤ p ∧ p ≤ 65536) (hl : h.Packs.length ≤ 100) (kk : List UInt8 → Option (List UInt8)) (g : Nat) (hg : 9 ≤ g) : ∀ (d i fu : Nat) (acc : List UInt8), h.Packs.length - i = d → i ≤ h.Packs.length → d < fu → acc.length + 9 * d ≤ 1000000 →
    f_lumref_HeadText_L36 h kk g fu acc (i : Int) = kk (acc ++ (h.Packs.drop i).flatMap pV)
  | _, _, 0, _, _, _, hf, _ => absurd hf (Nat.not_lt_zero _)
  | 0, i, fu + 1, acc, hd, hi, _, _ => by
    rw [f_lumref_HeadText_L36, cond_ff (dge (by omega)), List.drop_of_length_le (by omega), List.flatMap_nil, List.append_nil]
  | d + 1, i, fu + 1, acc, hd, hi, hf, ha => by
    have hlt : i < h.Packs.length := by omega
    obtain ⟨p0, p1⟩ := hp _ (List.getElem_mem hlt)
    have hpl := pV_len h.Packs[i]
    rw [f_lumref_HeadText_L36, cond_tt (dlt (by omega)), at_lt hlt, opt_of, rp_ok _ p0 (by omega) g hg, opt_of, req_pos (by omega), wsucc (by omega), tp_loop h hp hl kk g hg d (i + 1) fu _ (by omega) (by omega) (by omega) (by rw [List.length_append]; omega), List.drop_eq_getElem_cons hlt, List.flatMap_cons, List.append_assoc]
theorem ws_loop (h : Hd) (hp : ∀ s ∈ h.Snaps, GS s) (hl : h.Snaps.length ≤ 20) (kk : List UInt8 → Option (List UInt8 × Int)) (g : Nat) : ∀ (d i fu : Nat) (acc : List UInt8), h.Snaps.length - i = d → i ≤ h.Snaps.length → d < fu → acc.length + 115 * d ≤ 1000000 →
    f_room_Write_L21 h kk g fu acc (i : Int) = kk (acc ++ (h.Snaps.drop i).flatMap snapV)
  | _, _, 0, _, _, _, hf, _ => absurd hf (Nat.not_lt_zero _)
  | 0, i, fu + 1, acc, hd, hi, _, _ => by
    rw [f_room_Write_L21, cond_ff (dge (by omega)), List.drop_of_length_le (by omega), List.flatMap_nil, List.append_nil]
  | d + 1, i, fu + 1, acc, hd, hi, hf, ha => by
    have hlt : i < h.Snaps.length := by omega
    have hgs := hp _ (List.getElem_mem hlt)
    obtain ⟨n1, n2⟩ := name_good hgs.1
    have hsl := snapV_len hgs
    have htl := txtV_len h.Snaps[i].Name
    have hpl := pV_len h.Snaps[i].Time
    obtain ⟨t1, _⟩ := putT_ok h.Snaps[i].Name (by omega) g
    have hsv : (txtV h.Snaps[i].Name ++ pV h.Snaps[i].Time) ++ lA8u8 h.Snaps[i].Root = snapV h.Snaps[i] := rfl
    rw [f_room_Write_L21, cond_tt (dlt (by omega)), at_lt hlt, opt_of, t1, opt_of, w1_ok _ hgs.2.1 (by have := hgs.2.2; omega), opt_of]
    dsimp only
    rw [req_pos (by omega), req_pos (by rw [List.length_append, show (lA8u8 h.Snaps[i].Root).length = 8 from rfl]; omega), hsv, req_pos (by omega), wsucc (by omega), ws_loop h hp hl kk g d (i + 1) fu _ (by omega) (by omega) (by omega) (by rw [List.length_append]; omega), List.drop_eq_getElem_cons hlt, List.flatMap_cons, List.append_assoc]
theorem ts_loop (h : Hd) (hp : ∀ s ∈ h.Snaps, GS s) (hl : h.Snaps.length ≤ 20) (kk : List UInt8 → Option (List UInt8)) (g : Nat) (hg : 9 ≤ g) : ∀ (d i fu : Nat) (acc : List UInt8), h.Snaps.length - i = d → i ≤ h.Snaps.length → d < fu → acc.length + 115 * d ≤ 1000000 →
    f_lumref_HeadText_L18 h kk g fu acc (i : Int) = kk (acc ++ (h.Snaps.drop i).flatMap snapV)
  | _, _, 0, _, _, _, hf, _ => absurd hf (Nat.not_lt_zero _)
  | 0, i, fu + 1, acc, hd, hi, _, _ => by
    rw [f_lumref_HeadText_L18, cond_ff (dge (by omega)), List.drop_of_length_le (by omega), List.flatMap_nil, List.append_nil]
  | d + 1, i, fu + 1, acc, hd, hi, hf, ha => by
    have hlt : i < h.Snaps.length := by omega
    have hgs := hp _ (List.getElem_mem hlt)
    obtain ⟨n1, n2⟩ := name_good hgs.1
    have hsl := snapV_len hgs
    have htl := txtV_len h.Snaps[i].Name
    have hpl := pV_len h.Snaps[i].Time
    obtain ⟨_, t1⟩ := putT_ok h.Snaps[i].Name (by omega) g
    have hsv : (txtV h.Snaps[i].Name ++ pV h.Snaps[i].Time) ++ lA8u8 h.Snaps[i].Root = snapV h.Snaps[i] := rfl
    rw [f_lumref_HeadText_L18, cond_tt (dlt (by omega)), at_lt hlt, opt_of, t1, opt_of, rp_ok _ hgs.2.1 (by have := hgs.2.2; omega) g hg, opt_of]
    dsimp only
    rw [req_pos (by omega), req_pos (by rw [List.length_append, show (lA8u8 h.Snaps[i].Root).length = 8 from rfl]; omega), hsv, req_pos (by omega), wsucc (by omega), ts_loop h hp hl kk g hg d (i + 1) fu _ (by omega) (by omega) (by omega) (by rw [List.length_append]; omega), List.drop_eq_getElem_cons hlt, List.flatMap_cons, List.append_assoc]
theorem body_len {h : Hd} (he : errV h = 0) : (bodyV h).length ≤ 4096 := by
  obtain ⟨e1, e2, e3, e4, e5⟩ := errV_zero he
  have h1 := flat_len pV 9 h.Packs (fun p _ => (pV_len p).1)
  have h2 := flat_len snapV 115 h.Snaps (fun s hs => snapV_len (e5 s hs))
  have h3 := pV_len h.Next
  have h4 := putV_len h.Packs.length
  have h5 := putV_len h.Snaps.length
  unfold bodyV
  simp only [List.length_append]
  omega
theorem write_ok {F : List UInt8 → A8u8} (hF : IdF F) {h : Hd} (hb : Bd h) (fu : Nat) (hf : 2000000 ≤ fu) (he : errV h = 0) : f_room_Write fu h = some (frameV F (bodyV h), 0) ∧ f_lumref_HeadText fu h = some (frameV F (bodyV h)) := by
  obtain ⟨e1, e2, e3, e4, e5⟩ := errV_zero he
  have hbl := body_len he
  have h1 := flat_len pV 9 h.Packs (fun p _ => (pV_len p).1)
  have h3 := pV_len h.Next
  have h4 := putV_len h.Packs.length
  have h5 := putV_len h.Snaps.length
  have hw1 : ∀ n : Nat, pV (n : Int) = putV n := fun n => by unfold pV; rw [Int.toNat_natCast]
  constructor
  · unfold f_room_Write
    rw [check_ok h hb fu hf, opt_of, he, cond_ff (show ((0 : Int) != 0) = false from rfl), w1_ok _ e3.1 (by omega), opt_of, w1_ok _ (by omega) (by omega), opt_of, hw1, req_pos (by omega), lt_of]
    refine (wp_loop h e4 e1 _ fu _ 0 fu _ rfl (Nat.zero_le _) (by omega) (by rw [List.length_append]; omega)).trans ?_
    rw [List.drop_zero, w1_ok _ (by omega) (by omega), opt_of, hw1, req_pos (by simp only [List.length_append]; omega), lt_of]
    refine (ws_loop h e5 e2 _ fu _ 0 fu _ rfl (Nat.zero_le _) (by omega) (by simp only [List.length_append]; omega)).trans ?_
    rw [List.drop_zero]
    show opt (f_journal_Frame fu (bodyV h)) _ = _
    rw [frame_ok hF fu (by omega) _ hbl, opt_of]
  · unfold f_lumref_HeadText
    rw [rp_ok _ e3.1 (by omega) fu (by omega), opt_of, rp_ok _ (by omega) (by omega) fu (by omega), opt_of, hw1, req_pos (by omega), lt_of]
    refine (tp_loop h e4 e1 _ fu (by omega) _ 0 fu _ rfl (Nat.zero_le _) (by omega) (by rw [List.length_append]; omega)).trans ?_
    rw [List.drop_zero, rp_ok _ (by omega) (by omega) fu (by omega), opt_of, hw1, req_pos (by simp only [List.length_append]; omega), lt_of]
    refine (ts_loop h e5 e2 _ fu (by omega) _ 0 fu _ rfl (Nat.zero_le _) (by omega) (by simp only [List.length_append]; omega)).trans ?_
    rw [List.drop_zero]
    show opt (f_lumref_Frame fu (bodyV h)) _ = _
    rw [rframe_ok hF fu (by omega) _ hbl, opt_of]
theorem write_bad {h : Hd} (hb : Bd h) (fu : Nat) (hf : 2000000 ≤ fu) (he : errV h ≠ 0) : f_room_Write fu h = some ([], errV h) := by
  unfold f_room_Write
  rw [check_ok h hb fu hf, opt_of, cond_tt (show (errV h != 0) = true from by simpa using he)]
/-! a frame is scanned -/
theorem scan_frame {F : List UInt8 → A8u8} (hF : IdF F) (x : List UInt8) (hx : x.length ≤ 4096) (fu : Nat) (hf : 7000 ≤ fu) : f_lumref_Scan fu (frameV F x) = some ([x], ((frameV F x).length : Int)) := by
  have hl := frameV_len F x
  have hp := putV_len x.length
  obtain ⟨f, rfl⟩ : ∃ f, fu = f + 2 := ⟨fu - 2, by omega⟩
  have hg : getV (frameV F x) = ((x.length : Int), ((putV x.length).length : Int), 0) := by
    unfold frameV
    rw [List.append_assoc]
    exact getV_put x.length (by omega) _
  have hcut : cut (frameV F x) ((putV x.length).length : Int) (((putV x.length).length + x.length : Nat) : Int) = x := by
    rw [cut_nat]
    unfold frameV
    rw [List.take_left' (by rw [List.length_append]), List.drop_left]
  have ew : IntKind.i64.wrap (((putV x.length).length : Int) + IntKind.i64.wrap (x.length : Int)) = (((putV x.length).length + x.length : Nat) : Int) := by
    rw [iw (n := x.length) (by omega), show (((putV x.length).length : Int) + (x.length : Int)) = (((putV x.length).length + x.length : Nat) : Int) by omega, iw (by omega)]
  have eu : IntKind.u64.wrap (IntKind.i64.wrap (((frameV F x).length : Int) - ((putV x.length).length : Int))) = ((x.length + 8 : Nat) : Int) := by
    rw [show ((frameV F x).length : Int) - ((putV x.length).length : Int) = ((x.length + 8 : Nat) : Int) by omega, iw (by omega), uw (by omega)]
  have hend : f_lumref_Scan (f + 1) [] = some ([], 0) := by
    rw [f_lumref_Scan, rget_ok [] f (by omega), opt_of, lt_of]; rfl
  obtain ⟨Y, hY⟩ : ∃ Y, Y = frameV F x := ⟨_, rfl⟩
  rw [← hY] at hl hg hcut eu ⊢
  have hfr : f_lumref_Frame (f + 1) x = some Y := by rw [hY]; exact rframe_ok hF (f + 1) (by omega) x hx
  rw [f_lumref_Scan, rget_ok Y (f + 1) (by omega), opt_of, hg, lt_of]
  dsimp only
  rw [cond_ff (show ((0 : Int) != 0) = false from rfl), cond_ff (decide_eq_false (by omega)), ew, eu, hcut, decide_eq_false (by omega)]
  rw [cond_ff rfl, req_pos (by omega), hfr, opt_of, lt_of, cond_ff (decide_eq_false (by omega)), req_pos (by omega), Int.toNat_natCast, List.take_length, List.drop_length, beq_self_eq_true]
  rw [show (!true) = false from rfl]
  dsimp only
  rw [cond_ff rfl, req_pos (by omega), hend, opt_of]
  rw [req_pos (by simp)]
  have e2 : IntKind.i64.wrap ((Y.length : Int) + ((([], 0) : List (List UInt8) × Int)).2) = (Y.length : Int) := by
    show IntKind.i64.wrap ((Y.length : Int) + 0) = _
    rw [Int.add_zero, iw (by omega)]
  rw [e2]; rfl
end Go.Proofs.YtjbgahmcobcojaaDoor.PRoomHeads
