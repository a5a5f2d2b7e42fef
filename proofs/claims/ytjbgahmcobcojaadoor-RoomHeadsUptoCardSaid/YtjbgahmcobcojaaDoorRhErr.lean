/- Heads: what is wrong with a head. No condition. -/
import Derived.Test.YtjbgahmcobcojaaDoorRhNum
namespace Go.Proofs.YtjbgahmcobcojaaDoor.PRoomHeads
open Go.RowKit YtjbgahmcobcojaaDoor.En YtjbgahmcobcojaaDoor Num Mix PPut JF TX U8
open Go.Lib hiding cut
set_option linter.unusedVariables false
set_option linter.unusedSimpArgs false
abbrev Sn := S_api_Snap
abbrev Hd := S_api_Head
def rng (n : Int) : Bool := decide (0 ≤ n ∧ n ≤ 65536)
def firstE : List Sn → Option Int
  | [] => none
  | s :: t => if nameV s.Name ≠ 0 then some (nameV s.Name) else if s.Time < 0 ∨ 4223371679 < s.Time then some 1 else firstE t
theorem firstE_cons (s : Sn) (t : List Sn) : firstE (s :: t) = if nameV s.Name ≠ 0 then some (nameV s.Name) else if s.Time < 0 ∨ 4223371679 < s.Time then some 1 else firstE t := rfl
def form (next : Int) : Int → List Int → Bool
  | _, [] => true
  | last, p :: t => decide (last < p ∧ p < next) && form next p t
def dupF : List Sn → List Sn → Bool
  | _, [] => false
  | seen, s :: t => seen.any (fun y => s.Name == y.Name) || dupF (seen ++ [s]) t
theorem dupF_cons (seen : List Sn) (s : Sn) (t : List Sn) : dupF seen (s :: t) = (seen.any (fun y => s.Name == y.Name) || dupF (seen ++ [s]) t) := rfl
def errV (h : Hd) : Int :=
  if 100 < h.Packs.length ∨ 20 < h.Snaps.length then 2
  else if rng h.Next = true ∧ h.Packs.all rng = true then
    (match firstE h.Snaps with
    | some e => e
    | none => if form h.Next (-1) h.Packs = true then (if dupF [] h.Snaps = true then 4 else 0) else 4)
  else 1
def Bd (h : Hd) : Prop := h.Packs.length ≤ 1048576 ∧ h.Snaps.length ≤ 1048576 ∧ ∀ s ∈ h.Snaps, s.Name.length ≤ 1048576
/-! ranges -/
theorem rng_loop (h : Hd) (hb : h.Packs.length ≤ 1048576) (kk : Unit → Option Int) : ∀ (d i fu : Nat), ([h.Next] ++ h.Packs).length - i = d → i ≤ ([h.Next] ++ h.Packs).length → d < fu →
    f_lumref_HeadErr_L70 h kk fu (i : Int) = if (([h.Next] ++ h.Packs).drop i).all rng = true then kk () else some 1
  | _, _, 0, _, _, hf => absurd hf (Nat.not_lt_zero _)
  | 0, i, fu + 1, hd, hi, _ => by
    rw [f_lumref_HeadErr_L70, cond_ff (dge (by omega)), List.drop_of_length_le (by omega)]; rfl
  | d + 1, i, fu + 1, hd, hi, hf => by
    have hl : ([h.Next] ++ h.Packs).length = h.Packs.length + 1 := by simp [Nat.add_comm]
    have hlt : i < ([h.Next] ++ h.Packs).length := by omega
    rw [f_lumref_HeadErr_L70, cond_tt (dlt (by omega)), at_lt hlt, opt_of, lt_of, List.drop_eq_getElem_cons hlt, List.all_cons, wsucc (by omega), rng_loop h hb kk d (i + 1) fu (by omega) (by omega) (by omega)]
    generalize ([h.Next] ++ h.Packs)[i] = c
    by_cases h1 : c < 0
    · rw [cond_tt (decide_eq_true h1), show rng c = false from decide_eq_false (by omega), Bool.false_and, if_neg Bool.false_ne_true]; rfl
    · rw [cond_ff (decide_eq_false h1)]
      by_cases h2 : c > 65536
      · rw [decide_eq_true h2, show rng c = false from decide_eq_false (by omega), Bool.false_and, if_neg Bool.false_ne_true]; rfl
      · rw [decide_eq_false h2, show rng c = true from decide_eq_true (by omega), Bool.true_and]; rfl
theorem check1_ok (n : Int) (fu : Nat) : f_room_check_1 fu n = some (rng n) := by
  unfold f_room_check_1 rng
  rw [lt_of]
  by_cases h1 : n ≥ 0
  · rw [cond_tt (decide_eq_true h1)]
    by_cases h2 : n ≤ 65536
    · rw [decide_eq_true h2, decide_eq_true ⟨h1, h2⟩]
    · rw [decide_eq_false h2, decide_eq_false (by omega)]
  · rw [cond_ff (decide_eq_false h1), decide_eq_false (by omega)]
theorem crng_loop (h : Hd) (hb : h.Packs.length ≤ 1048576) (kk : Unit → Option Int) (g : Nat) : ∀ (d i fu : Nat), h.Packs.length - i = d → i ≤ h.Packs.length → d < fu →
    f_room_check_L56 h kk g fu (i : Int) = if (h.Packs.drop i).all rng = true then kk () else some 1
  | _, _, 0, _, _, hf => absurd hf (Nat.not_lt_zero _)
  | 0, i, fu + 1, hd, hi, _ => by
    rw [f_room_check_L56, cond_ff (dge (by omega)), List.drop_of_length_le (by omega)]; rfl
  | d + 1, i, fu + 1, hd, hi, hf => by
    have hlt : i < h.Packs.length := by omega
    rw [f_room_check_L56, cond_tt (dlt (by omega)), at_lt hlt, opt_of, check1_ok, opt_of, List.drop_eq_getElem_cons hlt, List.all_cons, wsucc (by omega), crng_loop h hb kk g d (i + 1) fu (by omega) (by omega) (by omega)]
    cases rng h.Packs[i]
    · rw [Bool.false_and, if_neg Bool.false_ne_true]; rfl
    · rw [Bool.true_and]; rfl
/-! snapshots -/
theorem snaps_key (e : Int) (c : Int) (x y : Option Int) (nx : Option Int) (hxy : x = y) : (bif (e != (0 : Int)) then (some e) else (lt (fun (b : Bool) => (bif b then (some (1 : Int)) else x)) fun (kk : Bool → Option Int) => (bif (decide (c < (0 : Int))) then (kk true) else (kk (decide (c > (4223371679 : Int))))))) = if e ≠ 0 then some e else if c < 0 ∨ 4223371679 < c then some 1 else y := by
  subst hxy
  by_cases h0 : e = 0
  · rw [if_neg (by simpa using h0), cond_ff (show (e != 0) = false from by simpa using h0), lt_of]
    by_cases h1 : c < 0
    · rw [cond_tt (decide_eq_true h1), if_pos (.inl h1)]; rfl
    · rw [cond_ff (decide_eq_false h1)]
      by_cases h2 : c > 4223371679
      · rw [decide_eq_true h2, if_pos (.inr h2)]; rfl
      · rw [decide_eq_false h2, if_neg (by omega)]; rfl
  · rw [if_pos h0, cond_tt (show (e != 0) = true from by simpa using h0)]
def aft (kk : Unit → Option Int) (r : Option Int) : Option Int := match r with | some e => some e | none => kk ()
theorem aft_if (kk : Unit → Option Int) {p q : Prop} [Decidable p] [Decidable q] (e : Int) (r : Option Int) : aft kk (if p then some e else if q then some 1 else r) = if p then some e else if q then some 1 else aft kk r := by
  by_cases h : p
  · rw [if_pos h, if_pos h]; rfl
  · rw [if_neg h, if_neg h]
    by_cases h2 : q
    · rw [if_pos h2, if_pos h2]; rfl
    · rw [if_neg h2, if_neg h2]
theorem snap_loop (h : Hd) (hb : Bd h) (kk : Unit → Option Int) (g : Nat) (hg : 1048600 ≤ g) : ∀ (d i fu : Nat), h.Snaps.length - i = d → i ≤ h.Snaps.length → d < fu →
    f_lumref_HeadErr_L52 h kk g fu (i : Int) = aft kk (firstE (h.Snaps.drop i))
  | _, _, 0, _, _, hf => absurd hf (Nat.not_lt_zero _)
  | 0, i, fu + 1, hd, hi, _ => by
    rw [f_lumref_HeadErr_L52, cond_ff (dge (by omega)), List.drop_of_length_le (by omega)]; rfl
  | d + 1, i, fu + 1, hd, hi, hf => by
    have hlt : i < h.Snaps.length := by omega
    have hbl := hb.2.1
    rw [f_lumref_HeadErr_L52, cond_tt (dlt (by omega)), at_lt hlt, opt_of, PTreeName.name_ok _ (hb.2.2 _ (List.getElem_mem hlt)) g hg, opt_of, List.drop_eq_getElem_cons hlt, wsucc (by omega), snap_loop h hb kk g hg d (i + 1) fu (by omega) (by omega) (by omega)]
    rw [firstE_cons, aft_if]
    exact snaps_key _ _ _ _ none rfl
theorem csnap_loop (h : Hd) (hb : Bd h) (kk : Unit → Option Int) (g : Nat) (hg : 1048600 ≤ g) : ∀ (d i fu : Nat), h.Snaps.length - i = d → i ≤ h.Snaps.length → d < fu →
    f_room_check_L41 h kk g fu (i : Int) = aft kk (firstE (h.Snaps.drop i))
  | _, _, 0, _, _, hf => absurd hf (Nat.not_lt_zero _)
  | 0, i, fu + 1, hd, hi, _ => by
    rw [f_room_check_L41, cond_ff (dge (by omega)), List.drop_of_length_le (by omega)]; rfl
  | d + 1, i, fu + 1, hd, hi, hf => by
    have hlt : i < h.Snaps.length := by omega
    have hbl := hb.2.1
    rw [f_room_check_L41, cond_tt (dlt (by omega)), at_lt hlt, opt_of, PTreeName.check_ok _ (hb.2.2 _ (List.getElem_mem hlt)) g hg, opt_of, List.drop_eq_getElem_cons hlt, wsucc (by omega), csnap_loop h hb kk g hg d (i + 1) fu (by omega) (by omega) (by omega)]
    rw [firstE_cons, aft_if]
    exact snaps_key _ _ _ _ none rfl
/-! the order of the packs -/
def prev (l : List Int) (i : Nat) : Int := if i = 0 then -1 else l.getD (i - 1) 0
theorem prev_succ (l : List Int) {i : Nat} (h : i < l.length) : prev l (i + 1) = l[i] := by
  unfold prev
  rw [if_neg (by omega), Nat.add_sub_cancel, List.getD_eq_getElem?_getD, List.getElem?_eq_getElem h]; rfl
theorem form_loop (h : Hd) (hb : h.Packs.length ≤ 1048576) (hp : ∀ p ∈ h.Packs, 0 ≤ p) (kk : Unit → Option Int) : ∀ (d i fu : Nat), h.Packs.length - i = d → i ≤ h.Packs.length → d < fu →
    f_lumref_HeadErr_L37 h kk fu (i : Int) = if form h.Next (prev h.Packs i) (h.Packs.drop i) = true then kk () else some 4
  | _, _, 0, _, _, hf => absurd hf (Nat.not_lt_zero _)
  | 0, i, fu + 1, hd, hi, _ => by
    rw [f_lumref_HeadErr_L37, cond_ff (dge (by omega)), List.drop_of_length_le (by omega)]; rfl
  | d + 1, i, fu + 1, hd, hi, hf => by
    have hlt : i < h.Packs.length := by omega
    have h0 := hp _ (List.getElem_mem hlt)
    rw [f_lumref_HeadErr_L37, cond_tt (dlt (by omega)), at_lt hlt, opt_of, lt_of, List.drop_eq_getElem_cons hlt, wsucc (by omega), form_loop h hb hp kk d (i + 1) fu (by omega) (by omega) (by omega), prev_succ _ hlt]
    show _ = if (decide (prev h.Packs i < h.Packs[i] ∧ h.Packs[i] < h.Next) && form h.Next h.Packs[i] (h.Packs.drop (i + 1))) = true then kk () else some 4
    have key : ∀ b : Bool, b = !(decide (prev h.Packs i < h.Packs[i] ∧ h.Packs[i] < h.Next)) → (bif b then (some (4 : Int)) else (if form h.Next h.Packs[i] (h.Packs.drop (i + 1)) = true then kk () else some 4)) = if (decide (prev h.Packs i < h.Packs[i] ∧ h.Packs[i] < h.Next) && form h.Next h.Packs[i] (h.Packs.drop (i + 1))) = true then kk () else some 4 := by
      intro b hb2
      subst hb2
      cases decide (prev h.Packs i < h.Packs[i] ∧ h.Packs[i] < h.Next)
      · rw [Bool.false_and, if_neg Bool.false_ne_true]; rfl
      · rw [Bool.true_and]; rfl
    by_cases h1 : h.Packs[i] ≥ h.Next
    · rw [cond_tt (decide_eq_true h1)]
      exact key true (by rw [decide_eq_false (by omega)]; rfl)
    · rw [cond_ff (decide_eq_false h1)]
      by_cases h2 : i = 0
      · rw [cond_ff (decide_eq_false (by omega))]
        refine key false ?_
        have : prev h.Packs i = -1 := by unfold prev; rw [if_pos h2]
        rw [decide_eq_true (show prev h.Packs i < h.Packs[i] ∧ h.Packs[i] < h.Next from ⟨by omega, by omega⟩)]; rfl
      · have e1 : IntKind.i64.wrap ((i : Int) - 1) = ((i - 1 : Nat) : Int) := by rw [w64 (by omega) (by omega)]; omega
        have hlt2 : i - 1 < h.Packs.length := by omega
        have e2 : prev h.Packs i = h.Packs[i - 1] := by unfold prev; rw [if_neg h2, List.getD_eq_getElem?_getD, List.getElem?_eq_getElem hlt2]; rfl
        rw [cond_tt (decide_eq_true (by omega)), e1, at_lt hlt2, opt_of]
        refine key _ ?_
        rw [e2]
        by_cases h3 : h.Packs[i] ≤ h.Packs[i - 1]
        · rw [decide_eq_true h3, decide_eq_false (by omega)]; rfl
        · rw [decide_eq_false h3, decide_eq_true (by omega)]; rfl
theorem cform_loop (h : Hd) (hb : h.Packs.length ≤ 1048576) (kk : Unit → Option Int) : ∀ (d i fu : Nat) (last : Int), h.Packs.length - i = d → i ≤ h.Packs.length → d < fu →
    f_room_check_L30 h kk fu last (i : Int) = if form h.Next last (h.Packs.drop i) = true then kk () else some 4
  | _, _, 0, _, _, _, hf => absurd hf (Nat.not_lt_zero _)
  | 0, i, fu + 1, last, hd, hi, _ => by
    rw [f_room_check_L30, cond_ff (dge (by omega)), List.drop_of_length_le (by omega)]; rfl
  | d + 1, i, fu + 1, last, hd, hi, hf => by
    have hlt : i < h.Packs.length := by omega
    rw [f_room_check_L30, cond_tt (dlt (by omega)), at_lt hlt, opt_of, lt_of, List.drop_eq_getElem_cons hlt, wsucc (by omega), cform_loop h hb kk d (i + 1) fu _ (by omega) (by omega) (by omega)]
    show _ = if (decide (last < h.Packs[i] ∧ h.Packs[i] < h.Next) && form h.Next h.Packs[i] (h.Packs.drop (i + 1))) = true then kk () else some 4
    by_cases h1 : h.Packs[i] ≤ last
    · rw [cond_tt (decide_eq_true h1), decide_eq_false (by omega), Bool.false_and, if_neg Bool.false_ne_true]; rfl
    · rw [cond_ff (decide_eq_false h1)]
      by_cases h2 : h.Packs[i] ≥ h.Next
      · rw [decide_eq_true h2, decide_eq_false (by omega), Bool.false_and, if_neg Bool.false_ne_true]; rfl
      · rw [decide_eq_false h2, decide_eq_true (by omega), Bool.true_and]; rfl
/-! names that occur twice -/
theorem dup_in (h : Hd) (hb : h.Snaps.length ≤ 1048576) (n : Nat) (u : Sn) (kk : Unit → Option Int) : ∀ (d i fu : Nat), (h.Snaps.take n).length - i = d → i ≤ (h.Snaps.take n).length → d < fu →
    f_lumref_HeadErr_L28 h (n : Int) kk u fu (i : Int) = if ((h.Snaps.take n).drop i).any (fun y => u.Name == y.Name) = true then some 4 else kk ()
  | _, _, 0, _, _, hf => absurd hf (Nat.not_lt_zero _)
  | 0, i, fu + 1, hd, hi, _ => by
    rw [f_lumref_HeadErr_L28, Int.toNat_natCast, cond_ff (dge (by omega)), List.drop_of_length_le (by omega)]; rfl
  | d + 1, i, fu + 1, hd, hi, hf => by
    have hl := List.length_take_le n h.Snaps
    have hlt : i < (h.Snaps.take n).length := by omega
    have hle : (h.Snaps.take n).length ≤ h.Snaps.length := by rw [List.length_take]; omega
    rw [f_lumref_HeadErr_L28, Int.toNat_natCast, cond_tt (dlt (by omega)), at_lt hlt, opt_of, wsucc (by omega), dup_in h hb n u kk d (i + 1) fu (by omega) (by omega) (by omega), List.drop_eq_getElem_cons hlt, List.any_cons]
    cases (u.Name == (h.Snaps.take n)[i].Name)
    · rw [Bool.false_or]; rfl
    · rw [Bool.true_or, if_pos rfl]; rfl
theorem dup_loop (h : Hd) (hb : h.Snaps.length ≤ 1048576) (kk : Unit → Option Int) (g : Nat) (hg : 1048600 ≤ g) : ∀ (d i fu : Nat), h.Snaps.length - i = d → i ≤ h.Snaps.length → d < fu →
    f_lumref_HeadErr_L15 h kk g fu (i : Int) = if dupF (h.Snaps.take i) (h.Snaps.drop i) = true then some 4 else kk ()
  | _, _, 0, _, _, hf => absurd hf (Nat.not_lt_zero _)
  | 0, i, fu + 1, hd, hi, _ => by
    rw [f_lumref_HeadErr_L15, lt_of, cond_ff (dge (by omega)), List.drop_of_length_le (by omega)]; rfl
  | d + 1, i, fu + 1, hd, hi, hf => by
    have hlt : i < h.Snaps.length := by omega
    have hle : (h.Snaps.take i).length ≤ h.Snaps.length := by rw [List.length_take]; omega
    rw [f_lumref_HeadErr_L15, lt_of, cond_tt (dlt (by omega)), lt_of, at_lt hlt, opt_of, req_pos (by omega)]
    have e := dup_in h hb i h.Snaps[i] (fun _ => f_lumref_HeadErr_L15 h kk g fu (IntKind.i64.wrap ((i : Int) + 1))) _ 0 g rfl (Nat.zero_le _) (by omega)
    refine Eq.trans e ?_
    rw [List.drop_zero, List.drop_eq_getElem_cons hlt, wsucc (by omega), dup_loop h hb kk g hg d (i + 1) fu (by omega) (by omega) (by omega)]
    rw [dupF_cons, List.take_append_getElem hlt]
    cases (h.Snaps.take i).any (fun y => h.Snaps[i].Name == y.Name)
    · rw [Bool.false_or, if_neg Bool.false_ne_true]
    · rw [Bool.true_or, if_pos rfl, if_pos rfl]
def Inv (m : List (List UInt8 × Bool)) (seen : List Sn) : Prop := ∀ n : List UInt8, (gget m n).getD false = seen.any (fun y => n == y.Name)
theorem Inv.push {m : List (List UInt8 × Bool)} {seen : List Sn} (h : Inv m seen) (x : Sn) : Inv (gset m x.Name true) (seen ++ [x]) := by
  intro n
  rw [gget_gset, List.any_append]
  by_cases hx : x.Name = n
  · rw [if_pos hx]
    simp [hx]
  · rw [if_neg hx, h n]
    have : (n == x.Name) = false := beq_eq_false_iff_ne.2 (fun e => hx e.symm)
    simp [this]
theorem cdup_loop (h : Hd) (hb : Bd h) (kk : Unit → Option Int) : ∀ (d i fu : Nat) (m : List (List UInt8 × Bool)), h.Snaps.length - i = d → i ≤ h.Snaps.length → d < fu → Inv m (h.Snaps.take i) →
    f_room_check_L19 h kk fu m (i : Int) = if dupF (h.Snaps.take i) (h.Snaps.drop i) = true then some 4 else kk ()
  | _, _, 0, _, _, _, hf, _ => absurd hf (Nat.not_lt_zero _)
  | 0, i, fu + 1, m, hd, hi, _, _ => by
    rw [f_room_check_L19, cond_ff (dge (by omega)), List.drop_of_length_le (by omega)]; rfl
  | d + 1, i, fu + 1, m, hd, hi, hf, hm => by
    have hlt : i < h.Snaps.length := by omega
    have hnl := hb.2.2 _ (List.getElem_mem hlt)
    have hbl := hb.2.1
    have e2 := hm.push h.Snaps[i]
    rw [List.take_append_getElem hlt] at e2
    rw [f_room_check_L19, cond_tt (dlt (by omega)), at_lt hlt, opt_of, req_pos (by omega), hm, req_pos (by omega), wsucc (by omega), cdup_loop h hb kk d (i + 1) fu _ (by omega) (by omega) (by omega) e2, List.drop_eq_getElem_cons hlt]
    rw [dupF_cons, List.take_append_getElem hlt]
    cases (h.Snaps.take i).any (fun y => h.Snaps[i].Name == y.Name)
    · rw [Bool.false_or]; rfl
    · rw [Bool.true_or, if_pos rfl]; rfl
/-! both checks -/
theorem herr_ok (h : Hd) (hb : Bd h) (fu : Nat) (hf : 2000000 ≤ fu) : f_lumref_HeadErr fu h = some (errV h) := by
  obtain ⟨b1, b2, b3⟩ := hb
  have hl : ([h.Next] ++ h.Packs).length = h.Packs.length + 1 := by simp [Nat.add_comm]
  unfold f_lumref_HeadErr errV
  rw [lt_of]
  have rest : (lt (fun (_ : Unit) => (lt (fun (_ : Unit) => (lt (fun (_ : Unit) => (lt (fun (_ : Unit) => (some (0 : Int))) fun (kk12 : Unit → Option Int) => (f_lumref_HeadErr_L15 h kk12 fu fu (0 : Int)))) fun (kk10 : Unit → Option Int) => (f_lumref_HeadErr_L37 h kk10 fu (0 : Int)))) fun (kk8 : Unit → Option Int) => (f_lumref_HeadErr_L52 h kk8 fu fu (0 : Int)))) fun (kk6 : Unit → Option Int) => (req (((([h.Next]).length + h.Packs.length) * 8 : Nat) ≤ 140737488355328 ∧ ([h.Next]).length + h.Packs.length ≤ 9223372036854775807) (f_lumref_HeadErr_L70 h kk6 fu (0 : Int)))) = some (if rng h.Next = true ∧ h.Packs.all rng = true then
    (match firstE h.Snaps with
    | some e => e
    | none => if form h.Next (-1) h.Packs = true then (if dupF [] h.Snaps = true then 4 else 0) else 4)
  else 1) := by
    simp only [lt_of]
    rw [req_pos (by rw [List.length_singleton]; omega)]
    refine (rng_loop h b1 _ _ 0 fu rfl (Nat.zero_le _) (by omega)).trans ?_
    rw [List.drop_zero]
    by_cases hr : rng h.Next = true ∧ h.Packs.all rng = true
    · have hr2 : ([h.Next] ++ h.Packs).all rng = true := by
        rw [List.cons_append, List.nil_append, List.all_cons, hr.1, hr.2]; rfl
      rw [if_pos hr, if_pos hr2]
      have hpos : ∀ p ∈ h.Packs, 0 ≤ p := fun p hp => by
        have := List.all_eq_true.1 hr.2 p hp
        unfold rng at this
        exact (of_decide_eq_true this).1
      refine (snap_loop h ⟨b1, b2, b3⟩ _ fu (by omega) _ 0 fu rfl (Nat.zero_le _) (by omega)).trans ?_
      rw [List.drop_zero]
      cases firstE h.Snaps with
      | some e => rfl
      | none =>
        show f_lumref_HeadErr_L37 h _ fu 0 = some (if form h.Next (-1) h.Packs = true then (if dupF [] h.Snaps = true then 4 else 0) else 4)
        refine (form_loop h b1 hpos _ _ 0 fu rfl (Nat.zero_le _) (by omega)).trans ?_
        rw [show prev h.Packs 0 = -1 from rfl, List.drop_zero]
        by_cases hfm : form h.Next (-1) h.Packs = true
        · rw [if_pos hfm, if_pos hfm]
          refine (dup_loop h b2 _ fu (by omega) _ 0 fu rfl (Nat.zero_le _) (by omega)).trans ?_
          rw [List.drop_zero, List.take_zero]
          by_cases hdu : dupF [] h.Snaps = true
          · rw [if_pos hdu, if_pos hdu]
          · rw [if_neg hdu, if_neg hdu]
        · rw [if_neg hfm, if_neg hfm]
    · have hr2 : ¬ ([h.Next] ++ h.Packs).all rng = true := by
        rw [List.cons_append, List.nil_append, List.all_cons, Bool.and_eq_true]; exact hr
      rw [if_neg hr, if_neg hr2]
  by_cases h1 : 100 < h.Packs.length
  · rw [cond_tt (decide_eq_true (by omega)), if_pos (.inl h1)]; rfl
  · rw [cond_ff (decide_eq_false (by omega))]
    by_cases h2 : 20 < h.Snaps.length
    · rw [decide_eq_true (by omega), if_pos (.inr h2)]; rfl
    · rw [decide_eq_false (by omega), if_neg (by omega)]
      exact rest
theorem check_ok (h : Hd) (hb : Bd h) (fu : Nat) (hf : 2000000 ≤ fu) : f_room_check fu h = some (errV h) := by
  obtain ⟨b1, b2, b3⟩ := hb
  unfold f_room_check errV
  rw [lt_of]
  have rest : (opt (f_room_check_1 fu h.Next) fun (r6 : Bool) => (bif (!r6) then (some (1 : Int)) else (lt (fun (_ : Unit) => (lt (fun (_ : Unit) => (lt (fun (_ : Unit) => (lt (fun (_ : Unit) => (some (0 : Int))) fun (kk16 : Unit → Option Int) => (f_room_check_L19 h kk16 fu ([] : List ((List UInt8) × Bool)) (0 : Int)))) fun (kk13 : Unit → Option Int) => (f_room_check_L30 h kk13 fu (-1 : Int) (0 : Int)))) fun (kk11 : Unit → Option Int) => (f_room_check_L41 h kk11 fu fu (0 : Int)))) fun (kk9 : Unit → Option Int) => (f_room_check_L56 h kk9 fu fu (0 : Int))))) = some (if rng h.Next = true ∧ h.Packs.all rng = true then
    (match firstE h.Snaps with
    | some e => e
    | none => if form h.Next (-1) h.Packs = true then (if dupF [] h.Snaps = true then 4 else 0) else 4)
  else 1) := by
    simp only [lt_of]
    rw [check1_ok, opt_of]
    by_cases hn : rng h.Next = true
    · rw [hn, cond_ff (show (!true) = false from rfl)]
      refine (crng_loop h b1 _ fu _ 0 fu rfl (Nat.zero_le _) (by omega)).trans ?_
      rw [List.drop_zero]
      by_cases hr : h.Packs.all rng = true
      · rw [if_pos hr, if_pos ⟨rfl, hr⟩]
        refine (csnap_loop h ⟨b1, b2, b3⟩ _ fu (by omega) _ 0 fu rfl (Nat.zero_le _) (by omega)).trans ?_
        rw [List.drop_zero]
        cases firstE h.Snaps with
        | some e => rfl
        | none =>
          show f_room_check_L30 h _ fu (-1) 0 = some (if form h.Next (-1) h.Packs = true then (if dupF [] h.Snaps = true then 4 else 0) else 4)
          refine (cform_loop h b1 _ _ 0 fu (-1) rfl (Nat.zero_le _) (by omega)).trans ?_
          rw [List.drop_zero]
          by_cases hfm : form h.Next (-1) h.Packs = true
          · rw [if_pos hfm, if_pos hfm]
            refine (cdup_loop h ⟨b1, b2, b3⟩ _ _ 0 fu [] rfl (Nat.zero_le _) (by omega) (fun _ => rfl)).trans ?_
            rw [List.drop_zero, List.take_zero]
            by_cases hdu : dupF [] h.Snaps = true
            · rw [if_pos hdu, if_pos hdu]
            · rw [if_neg hdu, if_neg hdu]
          · rw [if_neg hfm, if_neg hfm]
      · rw [if_neg hr, if_neg (fun e => hr e.2)]
    · rw [Bool.not_eq_true] at hn
      rw [hn, if_neg (by simp)]; rfl
  by_cases h1 : 100 < h.Packs.length
  · rw [cond_tt (decide_eq_true (by omega)), if_pos (.inl h1)]; rfl
  · rw [cond_ff (decide_eq_false (by omega))]
    by_cases h2 : 20 < h.Snaps.length
    · rw [decide_eq_true (by omega), if_pos (.inr h2)]; rfl
    · rw [decide_eq_false (by omega), if_neg (by omega)]
      exact rest
/-! a right head -/
theorem firstE_none : ∀ {l : List Sn}, firstE l = none → ∀ s ∈ l, nameV s.Name = 0 ∧ 0 ≤ s.Time ∧ s.Time ≤ 4223371679
  | [], _, _, h => by cases h
  | x :: t, h, s, hs => by
    unfold firstE at h
    split at h
    · cases h
    rename_i g1
    split at h
    · cases h
    rename_i g2
    rcases List.mem_cons.1 hs with rfl | hs
    · exact ⟨by simpa using g1, by omega, by omega⟩
    · exact firstE_none h s hs
theorem errV_zero {h : Hd} (he : errV h = 0) : h.Packs.length ≤ 100 ∧ h.Snaps.length ≤ 20 ∧ (0 ≤ h.Next ∧ h.Next ≤ 65536) ∧ (∀ p ∈ h.Packs, 0 ≤ p ∧ p ≤ 65536) ∧ ∀ s ∈ h.Snaps, nameV s.Name = 0 ∧ 0 ≤ s.Time ∧ s.Time ≤ 4223371679 := by
  unfold errV at he
  split at he
  · exact absurd he (by decide)
  rename_i g1
  split at he
  · rename_i g2
    refine ⟨by omega, by omega, ?_, fun p hp => ?_, ?_⟩
    · have := g2.1; unfold rng at this; exact of_decide_eq_true this
    · have := List.all_eq_true.1 g2.2 p hp; unfold rng at this; exact of_decide_eq_true this
    · cases hq : firstE h.Snaps with
      | none => exact firstE_none hq
      | some e =>
        rw [hq] at he
        have he' : e = 0 := he
        exfalso
        have : ∀ {l : List Sn} {e : Int}, firstE l = some e → e ≠ 0 := by
          intro l
          induction l with
          | nil => intro e h; cases h
          | cons x t ih =>
            intro e h
            unfold firstE at h
            split at h
            · rename_i g; cases h; exact g
            · split at h
              · cases h; decide
              · exact ih h
        exact this hq he'
  · exact absurd he (by decide)
end Go.Proofs.YtjbgahmcobcojaaDoor.PRoomHeads
