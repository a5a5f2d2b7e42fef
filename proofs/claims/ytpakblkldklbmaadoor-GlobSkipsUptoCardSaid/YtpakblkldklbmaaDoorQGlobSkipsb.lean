/- What GlobSkips leans on, part 2. No condition. -/
import Derived.Test.YtpakblkldklbmaaDoorQGlobSkipsa
import Derived.Test.YtpakblkldklbmaaDoorChecked
namespace Go.Proofs.YtpakblkldklbmaaDoor
open Go.RowKit YtpakblkldklbmaaDoor.En
set_option linter.unusedVariables false
set_option linter.unusedSimpArgs false
open Go.Value (int bool)
inductive C74 where
  | nil
  | c53 (a0 : Int)
  | c54
  | c56 (a0 : Int)
  | c83 (a0 : (List Int)) (a1 : (List Int)) (a2 : Bool)
  deriving DecidableEq
def repC74 (Z : Nat → Prop) (w : World) (cs : List Value) : C74 → Prop
  | .nil => cs = [Value.nilFunc]
  | .c53 a0 => ∃ p0, cs = [.func (.func 53) #[] #[p0]] ∧ (fPtr (tyInt .i64) p0 a0).p Z w
  | .c54 => cs = [.func (.func 54) #[] #[]]
  | .c56 a0 => ∃ p0, cs = [.func (.func 56) #[] #[p0]] ∧ (fPtr (tyInt .i64) p0 a0).p Z w
  | .c83 a0 a1 a2 => ∃ p0 p1 p2, cs = [.func (.func 83) #[] #[p0, p1, p2]] ∧ (fPtr (tyList (tyInt .i64)) p0 a0).p Z w ∧ (fPtr (tyList (tyInt .i64)) p1 a1).p Z w ∧ (fPtr tyBool p2 a2).p Z w
def tyC74 : Ty C74 where
  size := 1
  rep Z w cs x := repC74 Z w cs x
  len {Z w cs x} h := by
    cases x with
    | nil => rw [show cs = _ from h]; rfl
    | c53 a0 => obtain ⟨p0, e, h0⟩ := h; rw [e]; rfl
    | c54 => rw [show cs = _ from h]; rfl
    | c56 a0 => obtain ⟨p0, e, h0⟩ := h; rw [e]; rfl
    | c83 a0 a1 a2 => obtain ⟨p0, p1, p2, e, h0, h1, h2⟩ := h; rw [e]; rfl
  one {Z w cs x} h := by
    intro v hv
    cases x with
    | nil => rw [show cs = _ from h] at hv; rw [List.mem_singleton.1 hv]; rfl
    | c53 a0 => obtain ⟨p0, e, h0⟩ := h; rw [e] at hv; rw [List.mem_singleton.1 hv]; rfl
    | c54 => rw [show cs = _ from h] at hv; rw [List.mem_singleton.1 hv]; rfl
    | c56 a0 => obtain ⟨p0, e, h0⟩ := h; rw [e] at hv; rw [List.mem_singleton.1 hv]; rfl
    | c83 a0 a1 a2 => obtain ⟨p0, p1, p2, e, h0, h1, h2⟩ := h; rw [e] at hv; rw [List.mem_singleton.1 hv]; rfl
  keep {Z w w' cs x} hz h := by
    cases x with
    | nil => exact h
    | c53 a0 => obtain ⟨p0, e, h0⟩ := h; exact ⟨p0, e, (fPtr (tyInt .i64) p0 a0).keep hz h0⟩
    | c54 => exact h
    | c56 a0 => obtain ⟨p0, e, h0⟩ := h; exact ⟨p0, e, (fPtr (tyInt .i64) p0 a0).keep hz h0⟩
    | c83 a0 a1 a2 => obtain ⟨p0, p1, p2, e, h0, h1, h2⟩ := h; exact ⟨p0, p1, p2, e, (fPtr (tyList (tyInt .i64)) p0 a0).keep hz h0, (fPtr (tyList (tyInt .i64)) p1 a1).keep hz h1, (fPtr tyBool p2 a2).keep hz h2⟩
  mono {Z Z' w cs x} hz h := by
    cases x with
    | nil => exact h
    | c53 a0 => obtain ⟨p0, e, h0⟩ := h; exact ⟨p0, e, (fPtr (tyInt .i64) p0 a0).mono hz h0⟩
    | c54 => exact h
    | c56 a0 => obtain ⟨p0, e, h0⟩ := h; exact ⟨p0, e, (fPtr (tyInt .i64) p0 a0).mono hz h0⟩
    | c83 a0 a1 a2 => obtain ⟨p0, p1, p2, e, h0, h1, h2⟩ := h; exact ⟨p0, p1, p2, e, (fPtr (tyList (tyInt .i64)) p0 a0).mono hz h0, (fPtr (tyList (tyInt .i64)) p1 a1).mono hz h1, (fPtr tyBool p2 a2).mono hz h2⟩
theorem mkC74_nil {m : Mem} : ∀ {w}, Holds m w → (fDat tyC74 [Value.nilFunc] C74.nil).p (m.frz w) w := fun _ => rfl
theorem mkC74_53 {m : Mem} {p0 : Value} {a0 : Int} (i0 : Nat) (h0 : m.fz[i0]? = some (fPtr (tyInt .i64) p0 a0)) : ∀ {w}, Holds m w → (fDat tyC74 [(Value.func (.func 53) #[] #[p0])] (C74.c53 a0)).p (m.frz w) w := fun hm => ⟨_, rfl, hm.fz _ (List.mem_of_getElem? h0)⟩
theorem useC74_53 {v : Value} {a0 : Int} : ∀ Z w, (fDat tyC74 [v] (C74.c53 a0)).p Z w → ∃ j : Value, v = (Value.func (.func 53) #[] #[j]) ∧ ∀ g ∈ ([fPtr (tyInt .i64) j a0] : List Fact), g.p Z w := by
  intro Z w h
  obtain ⟨p0, e, h0⟩ := h
  exact ⟨p0, by simpa using e, (by simp only [List.mem_cons, List.not_mem_nil, or_false, forall_eq_or_imp, forall_eq]; exact h0)⟩
theorem mkC74_54 {m : Mem} : ∀ {w}, Holds m w → (fDat tyC74 [(Value.func (.func 54) #[] #[])] (C74.c54)).p (m.frz w) w := fun hm => rfl
theorem useC74_54 {v : Value} : ∀ Z w, (fDat tyC74 [v] (C74.c54)).p Z w → ∃ j : Unit, v = (Value.func (.func 54) #[] #[]) ∧ ∀ g ∈ ([] : List Fact), g.p Z w := by
  intro Z w h
  exact ⟨(), by simpa using (show [v] = _ from h), by simp⟩
theorem mkC74_56 {m : Mem} {p0 : Value} {a0 : Int} (i0 : Nat) (h0 : m.fz[i0]? = some (fPtr (tyInt .i64) p0 a0)) : ∀ {w}, Holds m w → (fDat tyC74 [(Value.func (.func 56) #[] #[p0])] (C74.c56 a0)).p (m.frz w) w := fun hm => ⟨_, rfl, hm.fz _ (List.mem_of_getElem? h0)⟩
theorem useC74_56 {v : Value} {a0 : Int} : ∀ Z w, (fDat tyC74 [v] (C74.c56 a0)).p Z w → ∃ j : Value, v = (Value.func (.func 56) #[] #[j]) ∧ ∀ g ∈ ([fPtr (tyInt .i64) j a0] : List Fact), g.p Z w := by
  intro Z w h
  obtain ⟨p0, e, h0⟩ := h
  exact ⟨p0, by simpa using e, (by simp only [List.mem_cons, List.not_mem_nil, or_false, forall_eq_or_imp, forall_eq]; exact h0)⟩
theorem mkC74_83 {m : Mem} {p0 : Value} {a0 : (List Int)} (i0 : Nat) (h0 : m.fz[i0]? = some (fPtr (tyList (tyInt .i64)) p0 a0)) {p1 : Value} {a1 : (List Int)} (i1 : Nat) (h1 : m.fz[i1]? = some (fPtr (tyList (tyInt .i64)) p1 a1)) {p2 : Value} {a2 : Bool} (i2 : Nat) (h2 : m.fz[i2]? = some (fPtr tyBool p2 a2)) : ∀ {w}, Holds m w → (fDat tyC74 [(Value.func (.func 83) #[] #[p0, p1, p2])] (C74.c83 a0 a1 a2)).p (m.frz w) w := fun hm => ⟨_, _, _, rfl, hm.fz _ (List.mem_of_getElem? h0), hm.fz _ (List.mem_of_getElem? h1), hm.fz _ (List.mem_of_getElem? h2)⟩
theorem useC74_83 {v : Value} {a0 : (List Int)} {a1 : (List Int)} {a2 : Bool} : ∀ Z w, (fDat tyC74 [v] (C74.c83 a0 a1 a2)).p Z w → ∃ j : Value × Value × Value, v = (Value.func (.func 83) #[] #[j.1, j.2.1, j.2.2]) ∧ ∀ g ∈ ([fPtr (tyList (tyInt .i64)) j.1 a0, fPtr (tyList (tyInt .i64)) j.2.1 a1, fPtr tyBool j.2.2 a2] : List Fact), g.p Z w := by
  intro Z w h
  obtain ⟨p0, p1, p2, e, h0, h1, h2⟩ := h
  exact ⟨(p0, p1, p2), by simpa using e, (by simp only [List.mem_cons, List.not_mem_nil, or_false, forall_eq_or_imp, forall_eq]; exact ⟨h0, h1, h2⟩)⟩
structure S_glob_span where
  from_ : Int
  to_ : Int
  deriving DecidableEq
def tyS_glob_span : Ty S_glob_span := tyVia (fun x => (x.from_, x.to_)) (tyPair (tyInt .i32) (tyInt .i32))
theorem encS_glob_span {Z w cs} {x : S_glob_span} (h : tyS_glob_span.rep Z w cs x) : cs = [(int .i32 x.from_), (int .i32 x.to_)] := by
  obtain ⟨c0, d0, rfl, p0, q0⟩ := h
  rw [show _ = _ from p0]
  rw [show _ = _ from q0]
  rfl
theorem mkS_glob_span {Z w cs} {x : S_glob_span} (h : cs = [(int .i32 x.from_), (int .i32 x.to_)]) : tyS_glob_span.rep Z w cs x := by
  subst h
  exact ⟨_, _, (List.take_append_drop 1 _).symm, rfl, rfl⟩
structure S_glob_element where
  kind : Int
  spans : (List S_glob_span)
  not : Bool
  deriving DecidableEq
def tyS_glob_element : Ty S_glob_element := tyVia (fun x => (x.kind, (x.spans, x.not))) (tyPair (tyInt .i64) (tyPair (tyList tyS_glob_span) tyBool))
theorem subS_glob_element_0 : Sub tyS_glob_element 0 (tyInt .i64) (fun x => x.kind) := Sub.via (Sub.fst (Sub.whole _))
theorem encnS_glob_element {cs} {x : S_glob_element} : ∀ Z w, (fDat tyS_glob_element cs x).p Z w → ∃ j : Value, cs = [(int .i64 x.kind), j, (bool x.not)] ∧ ∀ g ∈ [(fDat (tyList tyS_glob_span) [j] x.spans)], g.p Z w := by
  intro Z w h
  obtain ⟨c0, d0, rfl, p0, q0⟩ := h
  obtain ⟨c1, d1, rfl, p1, q1⟩ := q0
  obtain rfl : c0 = [(int .i64 x.kind)] := p0
  obtain ⟨v1, rfl⟩ := one_of p1
  obtain rfl : d1 = [(bool x.not)] := q1
  exact ⟨v1, rfl, (fall_cons p1 fall_nil)⟩
theorem mknS_glob_element {Z w cs} {x : S_glob_element} {v0 : Value} (hc : cs = [(int .i64 x.kind), v0, (bool x.not)]) (h0 : (tyList tyS_glob_span).rep Z w [v0] x.spans) : tyS_glob_element.rep Z w cs x := by
  subst hc
  exact ⟨_, _, (List.take_append_drop 1 _).symm, rfl, ⟨_, _, (List.take_append_drop 1 _).symm, h0, rfl⟩⟩
structure S_glob_reader where
  left : (List Int)
  deriving DecidableEq
structure S_glob_part where
  any : Bool
  elements : (List S_glob_element)
  deriving DecidableEq
def tyS_glob_part : Ty S_glob_part := tyVia (fun x => (x.any, x.elements)) (tyPair tyBool (tyList tyS_glob_element))
theorem subS_glob_part_0 : Sub tyS_glob_part 0 tyBool (fun x => x.any) := Sub.via (Sub.fst (Sub.whole _))
theorem subS_glob_part_1 : Sub tyS_glob_part 1 (tyList tyS_glob_element) (fun x => x.elements) := Sub.via (Sub.snd (Sub.whole _))
theorem mknS_glob_part {Z w cs} {x : S_glob_part} {v0 : Value} (hc : cs = [(bool x.any), v0]) (h0 : (tyList tyS_glob_element).rep Z w [v0] x.elements) : tyS_glob_part.rep Z w cs x := by
  subst hc
  exact ⟨_, _, (List.take_append_drop 1 _).symm, rfl, h0⟩
structure S_lumref_mark where
  star : Bool
  ok : C74
  deriving DecidableEq
def tyS_lumref_mark : Ty S_lumref_mark := tyVia (fun x => (x.star, x.ok)) (tyPair tyBool tyC74)
theorem subS_lumref_mark_0 : Sub tyS_lumref_mark 0 tyBool (fun x => x.star) := Sub.via (Sub.fst (Sub.whole _))
theorem subS_lumref_mark_1 : Sub tyS_lumref_mark 1 tyC74 (fun x => x.ok) := Sub.via (Sub.snd (Sub.whole _))
theorem mknS_lumref_mark {Z w cs} {x : S_lumref_mark} {v0 : Value} (hc : cs = [(bool x.star), v0]) (h0 : tyC74.rep Z w [v0] x.ok) : tyS_lumref_mark.rep Z w cs x := by
  subst hc
  exact ⟨_, _, (List.take_append_drop 1 _).symm, rfl, h0⟩
theorem sz3 : szOf Tryd.prog 3 = some 1 := by kernel_rfl
theorem to3 : tyOf Tryd.prog 3 = some (1, 8, some (int .i64 (0 : Int))) := by kernel_rfl
theorem sz4 : szOf Tryd.prog 4 = some 1 := by kernel_rfl
theorem to4 : tyOf Tryd.prog 4 = some (1, 1, some (bool false)) := by kernel_rfl
theorem sz5 : szOf Tryd.prog 5 = some 1 := by kernel_rfl
theorem sz9 : szOf Tryd.prog 9 = some 1 := by kernel_rfl
theorem to9 : tyOf Tryd.prog 9 = some (1, 16, some (str ([] : List UInt8))) := by kernel_rfl
theorem sz21 : szOf Tryd.prog 21 = some 1 := by kernel_rfl
theorem sz22 : szOf Tryd.prog 22 = some 1 := by kernel_rfl
theorem sz27 : szOf Tryd.prog 27 = some 1 := by kernel_rfl
theorem to27 : tyOf Tryd.prog 27 = some (1, 24, some (Value.slice none 0 0)) := by kernel_rfl
theorem sz44 : szOf Tryd.prog 44 = some 1 := by kernel_rfl
theorem to44 : tyOf Tryd.prog 44 = some (1, 24, some (Value.slice none 0 0)) := by kernel_rfl
theorem sz52 : szOf Tryd.prog 52 = some 1 := by kernel_rfl
theorem to52 : tyOf Tryd.prog 52 = some (1, 24, some (Value.slice none 0 0)) := by kernel_rfl
theorem sz56 : szOf Tryd.prog 56 = some 1 := by kernel_rfl
theorem to56 : tyOf Tryd.prog 56 = some (1, 24, some (Value.slice none 0 0)) := by kernel_rfl
theorem sz74 : szOf Tryd.prog 74 = some 1 := by kernel_rfl
theorem sz79 : szOf Tryd.prog 79 = some 1 := by kernel_rfl
theorem sz81 : szOf Tryd.prog 81 = some 2 := by kernel_rfl
theorem to81 : tyOf Tryd.prog 81 = some (2, 32, some (ag [(bool false), (Value.slice none 0 0)])) := by kernel_rfl
theorem sz92 : szOf Tryd.prog 92 = some 2 := by kernel_rfl
theorem to92 : tyOf Tryd.prog 92 = some (2, 16, some (ag [(bool false), Value.nilFunc])) := by kernel_rfl
theorem sz119 : szOf Tryd.prog 119 = some 1 := by kernel_rfl
theorem to119 : tyOf Tryd.prog 119 = some (1, 24, some (Value.slice none 0 0)) := by kernel_rfl
theorem sz125 : szOf Tryd.prog 125 = some 2 := by kernel_rfl
theorem to125 : tyOf Tryd.prog 125 = some (2, 8, some (ag [(int .i32 (0 : Int)), (int .i32 (0 : Int))])) := by kernel_rfl
theorem sz126 : szOf Tryd.prog 126 = some 1 := by kernel_rfl
theorem sz128 : szOf Tryd.prog 128 = some 3 := by kernel_rfl
theorem to128 : tyOf Tryd.prog 128 = some (3, 40, some (ag [(int .i64 (0 : Int)), (Value.slice none 0 0), (bool false)])) := by kernel_rfl
theorem mixed : Tryd.prog.follows .mixedOrders = true := by kernel_rfl
def f_stringslite_HasPrefix (fu : Nat) (a0 : (List UInt8)) (a1 : (List UInt8)) : Option Bool := (lt (fun (j1b4 : Bool) => (some j1b4)) fun (kk2 : Bool → Option Bool) => (bif (decide ((a0.length : Int) ≥ (a1.length : Int))) then (req (0 ≤ (a1.length : Int) ∧ (a1.length : Int) ≤ (a0.length : Int)) (kk2 ((a0.take ((a1.length : Int)).toNat) == a1))) else (kk2 false)))
set_option maxHeartbeats 2000000 in
set_option maxRecDepth 100000 in
theorem f_stringslite_HasPrefix_ok (fu : Nat) (a0 : (List UInt8)) (a1 : (List UInt8)) {r : Bool} (h : f_stringslite_HasPrefix fu a0 a1 = some r) : FnOk Tryd.prog 49 [(str a0), (str a1)] [] [] (fun (i : Unit) => { val := (bool r) }) := by
 unfold f_stringslite_HasPrefix at h
 refine fn_enter Tryd.func49 rfl Tryd.ntmps49 rfl (fun w0 Z0 => ?_)
 refine aw_sr ?_
 refine al_as rfl rfl ?_
 refine al_nt ?_
 obtain ⟨kk2, hkk2, h⟩ := lt_some h
 refine aw_seq_join (ι := Bool) (fun i => (memOf w0 Z0 [] [] [])) (fun i => (tab [(4, (bool i))])) (fun i => kk2 i = some r) ?_ ?_
 ·rintro j1b4 h
  have h : kk2 j1b4 = some r := h
  rw [hkk2] at h
  dsimp only at h
  clear hkk2
  refine aw_show (m := (memOf w0 Z0 [] [] [])) (S := (tab [(4, (bool j1b4))])) ?_
  refine aw_ret ?_
  obtain rfl := Option.some.inj h
  exact fn_ret () [] [] rfl rfl rfl rfl (res1 rfl rfl) rfl rfl rfl (by decide)
 ·clear hkk2
  refine aw_region ?_
  refine al_mv rfl rfl ?_
  refine al_val (ov_strLen Tryd.underlying9 rfl rfl) ?_
  refine al_mv rfl rfl ?_
  refine al_val (ov_strLen Tryd.underlying9 rfl rfl) ?_
  refine al_in rfl rfl rfl rfl ?_
  refine al_mv rfl rfl ?_
  refine al_caseB 10 rfl (fun hb3 => ?_) (fun hb3 => ?_)
  ·replace h := bif_t hb3 h
   refine al_mv rfl rfl ?_
   refine al_mv rfl rfl ?_
   refine al_val (ov_strLen Tryd.underlying9 rfl rfl) ?_
   obtain ⟨hc4, h⟩ := req_some h
   refine al_val (ov_strTo hc4.1 hc4.2 Tryd.underlying9 rfl rfl rfl) ?_
   refine al_mv rfl rfl ?_
   refine al_val (ov_strCmp rfl rfl rfl rfl) ?_
   refine al_val (ov_pick_t rfl rfl rfl) ?_
   refine al_as rfl rfl ?_
   refine al_nil ?_
   exact aq_join ((a0.take ((a1.length : Int)).toNat) == a1) h (fun w a hm hs => norm hm hs [] [] [(4, (bool ((a0.take ((a1.length : Int)).toNat) == a1)))] (by decide) ⟨rfl, trivial⟩)
  ·replace h := bif_f hb3 h
   refine al_skip ?_
   refine al_skip ?_
   refine al_skip ?_
   refine al_skip ?_
   refine al_skip ?_
   refine al_skip ?_
   refine al_val (ov_pick_f rfl rfl rfl) ?_
   refine al_as rfl rfl ?_
   refine al_nil ?_
   exact aq_join false h (fun w a hm hs => norm hm hs [] [] [(4, (bool false))] (by decide) ⟨rfl, trivial⟩)
def f_stringslite_TrimPrefix (fu : Nat) (a0 : (List UInt8)) (a1 : (List UInt8)) : Option (List UInt8) := (opt (f_stringslite_HasPrefix fu a0 a1) fun (r2 : Bool) => (bif r2 then (req (0 ≤ (a1.length : Int) ∧ (a1.length : Int) ≤ (a0.length : Int)) (some (a0.drop ((a1.length : Int)).toNat))) else (some a0)))
set_option maxHeartbeats 2000000 in
set_option maxRecDepth 100000 in
theorem f_stringslite_TrimPrefix_ok (fu : Nat) (a0 : (List UInt8)) (a1 : (List UInt8)) {r : (List UInt8)} (h : f_stringslite_TrimPrefix fu a0 a1 = some r) : FnOk Tryd.prog 43 [(str a0), (str a1)] [] [] (fun (i : Unit) => { val := (str r) }) := by
 unfold f_stringslite_TrimPrefix at h
 refine fn_enter Tryd.func43 rfl Tryd.ntmps43 rfl (fun w0 Z0 => ?_)
 refine aw_sr ?_
 refine al_as rfl rfl ?_
 refine al_nt ?_
 refine aw_seq ?_
 refine aw_sr ?_
 refine al_mv rfl rfl ?_
 refine al_mv rfl rfl ?_
 obtain ⟨r2, hc1, h⟩ := opt_some h
 refine al_call (vs := [(str a0), (str a1)]) (f_stringslite_HasPrefix_ok fu a0 a1 hc1) [] [] [] pre_nil rfl (by simp) (by decide) (.inl rfl) rfl Tryd.func49 rfl rfl rfl (fun _ => ?_)
 refine al_nt ?_
 refine aw_cond rfl (fun hb3 => ?_) (fun hb3 => ?_)
 ·replace h := bif_t hb3 h
  refine aw_sr ?_
  refine al_mv rfl rfl ?_
  refine al_mv rfl rfl ?_
  refine al_val (ov_strLen Tryd.underlying9 rfl rfl) ?_
  obtain ⟨hc4, h⟩ := req_some h
  refine al_val (ov_strFrom hc4.1 hc4.2 Tryd.underlying9 rfl rfl rfl) ?_
  refine al_as rfl rfl ?_
  refine al_nt ?_
  refine aw_ret ?_
  refine aq_then_ret ?_
  obtain rfl := Option.some.inj h
  exact fn_ret () [] [] rfl rfl rfl rfl (res1 rfl rfl) rfl rfl rfl (by decide)
 ·replace h := bif_f hb3 h
  refine aw_skip ?_
  refine aq_tr ?_
  refine al_mv rfl rfl ?_
  refine al_as rfl rfl ?_
  refine al_nt ?_
  refine aw_ret ?_
  obtain rfl := Option.some.inj h
  exact fn_ret () [] [] rfl rfl rfl rfl (res1 rfl rfl) rfl rfl rfl (by decide)
def f_strings_TrimPrefix (fu : Nat) (a0 : (List UInt8)) (a1 : (List UInt8)) : Option (List UInt8) := (opt (f_stringslite_TrimPrefix fu a0 a1) fun (r2 : (List UInt8)) => (some r2))
set_option maxRecDepth 100000 in
theorem f_strings_TrimPrefix_ok (fu : Nat) (a0 : (List UInt8)) (a1 : (List UInt8)) {r : (List UInt8)} (h : f_strings_TrimPrefix fu a0 a1 = some r) : FnOk Tryd.prog 19 [(str a0), (str a1)] [] [] (fun (i : Unit) => { val := (str r) }) := by
 unfold f_strings_TrimPrefix at h
 refine fn_enter Tryd.func19 rfl Tryd.ntmps19 rfl (fun w0 Z0 => ?_)
 refine aw_sr ?_
 refine al_as rfl rfl ?_
 refine al_nt ?_
 refine aw_sr ?_
 refine al_mv rfl rfl ?_
 refine al_mv rfl rfl ?_
 obtain ⟨r2, hc1, h⟩ := opt_some h
 refine al_call (vs := [(str a0), (str a1)]) (f_stringslite_TrimPrefix_ok fu a0 a1 hc1) [] [] [] pre_nil rfl (by simp) (by decide) (.inl rfl) rfl Tryd.func43 rfl rfl rfl (fun _ => ?_)
 refine al_as rfl rfl ?_
 refine al_nt ?_
 refine aw_ret ?_
 obtain rfl := Option.some.inj h
 exact fn_ret () [] [] rfl rfl rfl rfl (res1 rfl rfl) rfl rfl rfl (by decide)
def f_stringslite_CutPrefix (fu : Nat) (a0 : (List UInt8)) (a1 : (List UInt8)) : Option ((List UInt8) × Bool) := (opt (f_stringslite_HasPrefix fu a0 a1) fun (r2 : Bool) => (bif (!r2) then (some (a0, false)) else (req (0 ≤ (a1.length : Int) ∧ (a1.length : Int) ≤ (a0.length : Int)) (some ((a0.drop ((a1.length : Int)).toNat), true)))))
set_option maxHeartbeats 2000000 in
set_option maxRecDepth 100000 in
theorem f_stringslite_CutPrefix_ok (fu : Nat) (a0 : (List UInt8)) (a1 : (List UInt8)) {r : ((List UInt8) × Bool)} (h : f_stringslite_CutPrefix fu a0 a1 = some r) : FnOk Tryd.prog 71 [(str a0), (str a1)] [] [] (fun (i : Unit) => { val := (Value.tuple #[(str r.1), (bool r.2)]) }) := by
 unfold f_stringslite_CutPrefix at h
 refine fn_enter Tryd.func71 rfl Tryd.ntmps71 rfl (fun w0 Z0 => ?_)
 refine aw_sr ?_
 refine al_as rfl rfl ?_
 refine al_as rfl rfl ?_
 refine al_nt ?_
 refine aw_seq ?_
 refine aw_sr ?_
 refine al_mv rfl rfl ?_
 refine al_mv rfl rfl ?_
 obtain ⟨r2, hc1, h⟩ := opt_some h
 refine al_call (vs := [(str a0), (str a1)]) (f_stringslite_HasPrefix_ok fu a0 a1 hc1) [] [] [] pre_nil rfl (by simp) (by decide) (.inl rfl) rfl Tryd.func49 rfl rfl rfl (fun _ => ?_)
 refine al_val (ov_not rfl rfl) ?_
 refine al_nt ?_
 refine aw_cond rfl (fun hb3 => ?_) (fun hb3 => ?_)
 ·replace h := bif_t hb3 h
  refine aw_sr ?_
  refine al_mv rfl rfl ?_
  refine al_as rfl rfl ?_
  refine al_as rfl rfl ?_
  refine al_nt ?_
  refine aw_ret ?_
  refine aq_then_ret ?_
  obtain rfl := Option.some.inj h
  exact fn_ret () [] [] rfl rfl rfl rfl (res2 rfl rfl rfl) rfl rfl rfl (by decide)
 ·replace h := bif_f hb3 h
  refine aw_skip ?_
  refine aq_tr ?_
  refine al_mv rfl rfl ?_
  refine al_mv rfl rfl ?_
  refine al_val (ov_strLen Tryd.underlying9 rfl rfl) ?_
  obtain ⟨hc4, h⟩ := req_some h
  refine al_val (ov_strFrom hc4.1 hc4.2 Tryd.underlying9 rfl rfl rfl) ?_
  refine al_as rfl rfl ?_
  refine al_as rfl rfl ?_
  refine al_nt ?_
  refine aw_ret ?_
  obtain rfl := Option.some.inj h
  exact fn_ret () [] [] rfl rfl rfl rfl (res2 rfl rfl rfl) rfl rfl rfl (by decide)
def f_strings_CutPrefix (fu : Nat) (a0 : (List UInt8)) (a1 : (List UInt8)) : Option ((List UInt8) × Bool) := (opt (f_stringslite_CutPrefix fu a0 a1) fun (r2 : ((List UInt8) × Bool)) => (some (r2.1, r2.2)))
set_option maxRecDepth 100000 in
theorem f_strings_CutPrefix_ok (fu : Nat) (a0 : (List UInt8)) (a1 : (List UInt8)) {r : ((List UInt8) × Bool)} (h : f_strings_CutPrefix fu a0 a1 = some r) : FnOk Tryd.prog 39 [(str a0), (str a1)] [] [] (fun (i : Unit) => { val := (Value.tuple #[(str r.1), (bool r.2)]) }) := by
 unfold f_strings_CutPrefix at h
 refine fn_enter Tryd.func39 rfl Tryd.ntmps39 rfl (fun w0 Z0 => ?_)
 refine aw_sr ?_
 refine al_as rfl rfl ?_
 refine al_as rfl rfl ?_
 refine al_nt ?_
 refine aw_sr ?_
 refine al_mv rfl rfl ?_
 refine al_mv rfl rfl ?_
 obtain ⟨r2, hc1, h⟩ := opt_some h
 refine al_call (vs := [(str a0), (str a1)]) (f_stringslite_CutPrefix_ok fu a0 a1 hc1) [] [] [] pre_nil rfl (by simp) (by decide) (.inl rfl) rfl Tryd.func71 rfl rfl rfl (fun _ => ?_)
 refine al_ex rfl rfl rfl ?_
 refine al_ex rfl rfl rfl ?_
 refine al_as rfl rfl ?_
 refine al_as rfl rfl ?_
 refine al_nt ?_
 refine aw_ret ?_
 obtain rfl := Option.some.inj h
 exact fn_ret () [] [] rfl rfl rfl rfl (res2 rfl rfl rfl) rfl rfl rfl (by decide)
-- STUCK (*lumberroom/glob.reader).next: lty ['pointer', 121]
-- STUCK (*lumberroom/glob.reader).take: lty ['pointer', 121]
-- STUCK (*lumberroom/glob.reader).item: lty ['pointer', 121]
-- STUCK (*lumberroom/glob.reader).class: lty ['pointer', 121]
def f___glob_reader__next (fu : Nat) (a0 : S_glob_reader) : Option (Int × Bool × S_glob_reader) := (bif ((a0.left.length : Int) == (0 : Int)) then (some ((0 : Int), false, a0)) else (opt (at? a0.left (0 : Int)) fun (u2 : Int) => (req (0 ≤ (1 : Int) ∧ (1 : Int) ≤ (a0.left.length : Int)) (some (u2, true, (S_glob_reader.mk (a0.left.drop ((1 : Int)).toNat)))))))
set_option maxHeartbeats 2000000 in
set_option maxRecDepth 100000 in
theorem f___glob_reader__next_ok (fu : Nat) (bx0 : Nat) (v0_0 : Value) (a0 : S_glob_reader) {r : (Int × Bool × S_glob_reader)} (h : f___glob_reader__next fu a0 = some r) : FnOk Tryd.prog 74 [(ptr bx0 0)] [(fDat (tyList (tyInt .i32)) [v0_0] a0.left)] [(oBox bx0 121 [v0_0])] (fun (i : Value) => { val := (Value.tuple #[(int .i32 r.1), (bool r.2.1)]), own := [(oBox bx0 121 [i])], fz := [(fDat (tyList (tyInt .i32)) [i] r.2.2.left)] }) := by
 unfold f___glob_reader__next at h
 refine fn_enter Tryd.func74 rfl Tryd.ntmps74 rfl (fun w0 Z0 => ?_)
 refine aw_sr ?_
 refine al_as rfl rfl ?_
 refine al_as rfl rfl ?_
 refine al_nt ?_
 refine aw_seq ?_
 refine aw_sr ?_
 refine al_mv rfl rfl ?_
 refine al_val (ov_nilCheck rfl rfl) ?_
 refine al_val (ov_fieldA (p := 0) rfl Tryd.underlying121 rfl sz119 rfl rfl rfl) ?_
 refine al_val (ov_load (i := 0) (v := v0_0) rfl rfl Tryd.underlying119 sz119 rfl rfl rfl rfl) ?_
 refine al_val (ov_lenD 0 rfl rfl Tryd.underlying119 rfl) ?_
 refine al_in rfl rfl rfl rfl ?_
 refine al_nt ?_
 refine aw_cond rfl (fun hb1 => ?_) (fun hb1 => ?_)
 ·replace h := bif_t hb1 h
  refine aw_sr ?_
  refine al_as rfl rfl ?_
  refine al_as rfl rfl ?_
  refine al_nt ?_
  refine aw_ret ?_
  refine aq_then_ret ?_
  obtain rfl := Option.some.inj h
  exact fn_ret v0_0 [0] [0] rfl rfl rfl rfl (res2 rfl rfl rfl) rfl rfl rfl (by decide)
 ·replace h := bif_f hb1 h
  refine aw_skip ?_
  refine aq_tr ?_
  refine al_mv rfl rfl ?_
  refine al_val (ov_nilCheck rfl rfl) ?_
  refine al_val (ov_fieldA (p := 0) rfl Tryd.underlying121 rfl sz119 rfl rfl rfl) ?_
  refine al_val (ov_load (i := 0) (v := v0_0) rfl rfl Tryd.underlying119 sz119 rfl rfl rfl rfl) ?_
  obtain ⟨u2, hu3, h⟩ := opt_some h
  refine al_idxD 0 hu3 rfl rfl rfl Tryd.underlying119 sz21 rfl (fun p4 => ?_)
  refine al_val (ov_loadP (ds := [(int .i32 u2)]) 0 rfl (fun h => h) rfl Tryd.underlying21 sz21 rfl rfl rfl) ?_
  refine al_as rfl rfl ?_
  refine al_nt ?_
  refine aw_sr ?_
  refine al_mv rfl rfl ?_
  refine al_mv rfl rfl ?_
  refine al_val (ov_nilCheck rfl rfl) ?_
  refine al_val (ov_fieldA (p := 0) rfl Tryd.underlying121 rfl sz119 rfl rfl rfl) ?_
  refine al_val (ov_load (i := 0) (v := v0_0) rfl rfl Tryd.underlying119 sz119 rfl rfl rfl rfl) ?_
  obtain ⟨hc5, h⟩ := req_some h
  refine al_sliceDF 1 hc5.1 hc5.2 rfl rfl rfl Tryd.underlying119 sz21 rfl (fun s6 => ?_)
  refine al_val (ov_nilCheck rfl rfl) ?_
  refine al_val (ov_fieldA (p := 0) rfl Tryd.underlying121 rfl sz119 rfl rfl rfl) ?_
  refine al_store (i := 0) (vs := [s6]) (cs' := [s6]) rfl rfl rfl sz119 (cv_fz 0 rfl) rfl (co_fz 0 rfl co_nil) (Nat.le_of_ble_eq_true rfl) rfl rfl ?_
  refine al_nt ?_
  refine aw_sr ?_
  refine al_mv rfl rfl ?_
  refine al_as rfl rfl ?_
  refine al_as rfl rfl ?_
  refine al_nt ?_
  refine aw_ret ?_
  obtain rfl := Option.some.inj h
  exact fn_ret s6 [0] [0] rfl rfl rfl rfl (res2 rfl rfl rfl) rfl rfl rfl (by decide)
def f___glob_reader__take (fu : Nat) (a0 : S_glob_reader) (a1 : Int) : Option (Bool × S_glob_reader) := (lt (fun (j1b20 : Bool) => (bif j1b20 then (some (false, a0)) else (req (0 ≤ (1 : Int) ∧ (1 : Int) ≤ (a0.left.length : Int)) (some (true, (S_glob_reader.mk (a0.left.drop ((1 : Int)).toNat))))))) fun (kk2 : Bool → Option (Bool × S_glob_reader)) => (bif ((a0.left.length : Int) == (0 : Int)) then (kk2 true) else (opt (at? a0.left (0 : Int)) fun (u7 : Int) => (kk2 (u7 != a1)))))
set_option maxHeartbeats 2000000 in
set_option maxRecDepth 100000 in
theorem f___glob_reader__take_ok (fu : Nat) (bx0 : Nat) (v0_0 : Value) (a0 : S_glob_reader) (a1 : Int) {r : (Bool × S_glob_reader)} (h : f___glob_reader__take fu a0 a1 = some r) : FnOk Tryd.prog 99 [(ptr bx0 0), (int .i32 a1)] [(fDat (tyList (tyInt .i32)) [v0_0] a0.left)] [(oBox bx0 121 [v0_0])] (fun (i : Value) => { val := (bool r.1), own := [(oBox bx0 121 [i])], fz := [(fDat (tyList (tyInt .i32)) [i] r.2.left)] }) := by
 unfold f___glob_reader__take at h
 refine fn_enter Tryd.func99 rfl Tryd.ntmps99 rfl (fun w0 Z0 => ?_)
 refine aw_sr ?_
 refine al_as rfl rfl ?_
 refine al_nt ?_
 refine aw_seq ?_
 obtain ⟨kk2, hkk2, h⟩ := lt_some h
 refine aw_seq_join (ι := Bool) (fun i => (memOf w0 Z0 [(oBox bx0 121 [v0_0])] [(oBox bx0 121 [v0_0])] [(fDat (tyList (tyInt .i32)) [v0_0] a0.left)])) (fun i => (tab [(0, (pq bx0)), (20, (bool i))])) (fun i => kk2 i = some r) ?_ ?_
 ·rintro j1b20 h
  have h : kk2 j1b20 = some r := h
  rw [hkk2] at h
  dsimp only at h
  clear hkk2
  refine aw_show (m := (memOf w0 Z0 [(oBox bx0 121 [v0_0])] [(oBox bx0 121 [v0_0])] [(fDat (tyList (tyInt .i32)) [v0_0] a0.left)])) (S := (tab [(0, (pq bx0)), (20, (bool j1b20))])) ?_
  refine aw_cond rfl (fun hb3 => ?_) (fun hb3 => ?_)
  ·replace h := bif_t hb3 h
   refine aw_sr ?_
   refine al_as rfl rfl ?_
   refine al_nt ?_
   refine aw_ret ?_
   refine aq_then_ret ?_
   obtain rfl := Option.some.inj h
   exact fn_ret v0_0 [0] [0] rfl rfl rfl rfl (res1 rfl rfl) rfl rfl rfl (by decide)
  ·replace h := bif_f hb3 h
   refine aw_skip ?_
   refine aq_tr ?_
   refine al_mv rfl rfl ?_
   refine al_mv rfl rfl ?_
   refine al_val (ov_nilCheck rfl rfl) ?_
   refine al_val (ov_fieldA (p := 0) rfl Tryd.underlying121 rfl sz119 rfl rfl rfl) ?_
   refine al_val (ov_load (i := 0) (v := v0_0) rfl rfl Tryd.underlying119 sz119 rfl rfl rfl rfl) ?_
   obtain ⟨hc4, h⟩ := req_some h
   refine al_sliceDF 0 hc4.1 hc4.2 rfl rfl rfl Tryd.underlying119 sz21 rfl (fun s5 => ?_)
   refine al_val (ov_nilCheck rfl rfl) ?_
   refine al_val (ov_fieldA (p := 0) rfl Tryd.underlying121 rfl sz119 rfl rfl rfl) ?_
   refine al_store (i := 0) (vs := [s5]) (cs' := [s5]) rfl rfl rfl sz119 (cv_fz 0 rfl) rfl (co_fz 0 rfl co_nil) (Nat.le_of_ble_eq_true rfl) rfl rfl ?_
   refine al_nt ?_
   refine aw_sr ?_
   refine al_as rfl rfl ?_
   refine al_nt ?_
   refine aw_ret ?_
   obtain rfl := Option.some.inj h
   exact fn_ret s5 [0] [0] rfl rfl rfl rfl (res1 rfl rfl) rfl rfl rfl (by decide)
 ·clear hkk2
  refine aw_region ?_
  refine al_mv rfl rfl ?_
  refine al_val (ov_nilCheck rfl rfl) ?_
  refine al_val (ov_fieldA (p := 0) rfl Tryd.underlying121 rfl sz119 rfl rfl rfl) ?_
  refine al_val (ov_load (i := 0) (v := v0_0) rfl rfl Tryd.underlying119 sz119 rfl rfl rfl rfl) ?_
  refine al_val (ov_lenD 0 rfl rfl Tryd.underlying119 rfl) ?_
  refine al_in rfl rfl rfl rfl ?_
  refine al_mv rfl rfl ?_
  refine al_caseB 11 rfl (fun hb6 => ?_) (fun hb6 => ?_)
  ·replace h := bif_t hb6 h
   refine al_skip ?_
   refine al_skip ?_
   refine al_skip ?_
   refine al_skip ?_
   refine al_skip ?_
   refine al_skip ?_
   refine al_skip ?_
   refine al_skip ?_
   refine al_val (ov_pick_t rfl rfl rfl) ?_
   refine al_nil ?_
   exact aq_join true h (fun w a hm hs => norm hm hs [0] [0] [(0, (pq bx0)), (20, (bool true))] (by decide) ⟨rfl, rfl, trivial⟩)
  ·replace h := bif_f hb6 h
   refine al_mv rfl rfl ?_
   refine al_val (ov_nilCheck rfl rfl) ?_
   refine al_val (ov_fieldA (p := 0) rfl Tryd.underlying121 rfl sz119 rfl rfl rfl) ?_
   refine al_val (ov_load (i := 0) (v := v0_0) rfl rfl Tryd.underlying119 sz119 rfl rfl rfl rfl) ?_
   obtain ⟨u7, hu8, h⟩ := opt_some h
   refine al_idxD 0 hu8 rfl rfl rfl Tryd.underlying119 sz21 rfl (fun p9 => ?_)
   refine al_val (ov_loadP (ds := [(int .i32 u7)]) 0 rfl (fun h => h) rfl Tryd.underlying21 sz21 rfl rfl rfl) ?_
   refine al_mv rfl rfl ?_
   refine al_in rfl rfl rfl rfl ?_
   refine al_val (ov_pick_f rfl rfl rfl) ?_
   refine al_nil ?_
   exact aq_join (u7 != a1) h (fun w a hm hs => norm hm hs [0] [1] [(0, (pq bx0)), (20, (bool (u7 != a1)))] (by decide) ⟨rfl, rfl, trivial⟩)
def f___glob_reader__item (fu : Nat) (a0 : S_glob_reader) : Option (Int × Bool × S_glob_reader) := (opt (f___glob_reader__next fu a0) fun (r2 : (Int × Bool × S_glob_reader)) => (lt (fun (j4b11 : Bool) => (bif j4b11 then (some ((0 : Int), false, (S_glob_reader.mk r2.2.2.left))) else (bif (r2.1 == (92 : Int)) then (opt (f___glob_reader__next fu (S_glob_reader.mk r2.2.2.left)) fun (r9 : (Int × Bool × S_glob_reader)) => (some (r9.1, r9.2.1, (S_glob_reader.mk r9.2.2.left)))) else (some (r2.1, true, (S_glob_reader.mk r2.2.2.left)))))) fun (kk5 : Bool → Option (Int × Bool × S_glob_reader)) => (bif (!r2.2.1) then (kk5 true) else (kk5 (r2.1 == (93 : Int))))))
set_option maxHeartbeats 2000000 in
set_option maxRecDepth 100000 in
theorem f___glob_reader__item_ok (fu : Nat) (bx0 : Nat) (v0_0 : Value) (a0 : S_glob_reader) {r : (Int × Bool × S_glob_reader)} (h : f___glob_reader__item fu a0 = some r) : FnOk Tryd.prog 100 [(ptr bx0 0)] [(fDat (tyList (tyInt .i32)) [v0_0] a0.left)] [(oBox bx0 121 [v0_0])] (fun (i : Value) => { val := (Value.tuple #[(int .i32 r.1), (bool r.2.1)]), own := [(oBox bx0 121 [i])], fz := [(fDat (tyList (tyInt .i32)) [i] r.2.2.left)] }) := by
 unfold f___glob_reader__item at h
 refine fn_enter Tryd.func100 rfl Tryd.ntmps100 rfl (fun w0 Z0 => ?_)
 refine aw_sr ?_
 refine al_as rfl rfl ?_
 refine al_as rfl rfl ?_
 refine al_nt ?_
 refine aw_sr ?_
 refine al_mv rfl rfl ?_
 obtain ⟨r2, hc1, h⟩ := opt_some h
 refine al_call (vs := [(pq bx0)]) (f___glob_reader__next_ok fu bx0 v0_0 a0 hc1) [] [0] [] (pre_fz 0 rfl pre_nil) rfl (by simp) (by decide) (.inl rfl) rfl Tryd.func74 rfl rfl rfl (fun v3 => ?_)
 refine al_mv rfl rfl ?_
 refine al_ex rfl rfl rfl ?_
 refine al_ex rfl rfl rfl ?_
 refine al_as rfl rfl ?_
 refine al_as rfl rfl ?_
 refine al_nt ?_
 refine aw_seq ?_
 refine aw_block ?_
 obtain ⟨kk5, hkk5, h⟩ := lt_some h
 refine aw_seq_join (ι := Bool) (fun i => (memOf w0 Z0 [(oBox bx0 121 [v0_0])] [(oBox bx0 121 [v3])] [(fDat (tyList (tyInt .i32)) [v3] r2.2.2.left), (fDat (tyList (tyInt .i32)) [v0_0] a0.left)])) (fun i => (tab [(0, (pq bx0)), (4, (int .i32 r2.1)), (11, (bool i))])) (fun i => kk5 i = some r) ?_ ?_
 ·rintro j4b11 h
  have h : kk5 j4b11 = some r := h
  rw [hkk5] at h
  dsimp only at h
  clear hkk5
  refine aw_show (m := (memOf w0 Z0 [(oBox bx0 121 [v0_0])] [(oBox bx0 121 [v3])] [(fDat (tyList (tyInt .i32)) [v3] r2.2.2.left), (fDat (tyList (tyInt .i32)) [v0_0] a0.left)])) (S := (tab [(0, (pq bx0)), (4, (int .i32 r2.1)), (11, (bool j4b11))])) ?_
  refine aw_cond rfl (fun hb6 => ?_) (fun hb6 => ?_)
  ·replace h := bif_t hb6 h
   refine aw_sr ?_
   refine al_as rfl rfl ?_
   refine al_as rfl rfl ?_
   refine al_nt ?_
   refine aw_ret ?_
   refine aq_block_ret ?_
   refine aq_then_ret ?_
   obtain rfl := Option.some.inj h
   exact fn_ret v3 [0] [0] rfl rfl rfl rfl (res2 rfl rfl rfl) rfl rfl rfl (by decide)
  ·replace h := bif_f hb6 h
   refine aw_sr ?_
   refine al_mv rfl rfl ?_
   refine al_in rfl rfl rfl rfl ?_
   refine al_as rfl rfl ?_
   refine al_nt ?_
   refine aw_cond rfl (fun hb7 => ?_) (fun hb7 => ?_)
   ·replace h := bif_t hb7 h
    refine aw_sr ?_
    refine al_mv rfl rfl ?_
    obtain ⟨r9, hc8, h⟩ := opt_some h
    refine al_call (vs := [(pq bx0)]) (f___glob_reader__next_ok fu bx0 v3 (S_glob_reader.mk r2.2.2.left) hc8) [] [0] [] (pre_fz 0 rfl pre_nil) rfl (by simp) (by decide) (.inl rfl) rfl Tryd.func74 rfl rfl rfl (fun v10 => ?_)
    refine al_ex rfl rfl rfl ?_
    refine al_ex rfl rfl rfl ?_
    refine al_as rfl rfl ?_
    refine al_as rfl rfl ?_
    refine al_nt ?_
    refine aw_ret ?_
    refine aq_block_ret ?_
    refine aq_then_ret ?_
    obtain rfl := Option.some.inj h
    exact fn_ret v10 [0] [0] rfl rfl rfl rfl (res2 rfl rfl rfl) rfl rfl rfl (by decide)
   ·replace h := bif_f hb7 h
    refine aw_skip ?_
    refine aq_block ?_
    refine aq_tr ?_
    refine al_mv rfl rfl ?_
    refine al_as rfl rfl ?_
    refine al_as rfl rfl ?_
    refine al_nt ?_
    refine aw_ret ?_
    obtain rfl := Option.some.inj h
    exact fn_ret v3 [0] [0] rfl rfl rfl rfl (res2 rfl rfl rfl) rfl rfl rfl (by decide)
 ·clear hkk5
  refine aw_region ?_
  refine al_mv rfl rfl ?_
  refine al_val (ov_not rfl rfl) ?_
  refine al_mv rfl rfl ?_
  refine al_caseB 14 rfl (fun hb11 => ?_) (fun hb11 => ?_)
  ·replace h := bif_t hb11 h
   refine al_skip ?_
   refine al_skip ?_
   refine al_val (ov_pick_t rfl rfl rfl) ?_
   refine al_as rfl rfl ?_
   refine al_nil ?_
   exact aq_join true h (fun w a hm hs => norm hm hs [0] [0, 1] [(0, (pq bx0)), (4, (int .i32 r2.1)), (11, (bool true))] (by decide) ⟨rfl, rfl, rfl, trivial⟩)
  ·replace h := bif_f hb11 h
   refine al_mv rfl rfl ?_
   refine al_in rfl rfl rfl rfl ?_
   refine al_val (ov_pick_f rfl rfl rfl) ?_
   refine al_as rfl rfl ?_
   refine al_nil ?_
   exact aq_join (r2.1 == (93 : Int)) h (fun w a hm hs => norm hm hs [0] [0, 1] [(0, (pq bx0)), (4, (int .i32 r2.1)), (11, (bool (r2.1 == (93 : Int))))] (by decide) ⟨rfl, rfl, rfl, trivial⟩)
def f___glob_reader__class_L10 (r3 : (Bool × S_glob_reader)) (kk7 : ((List Int) → (List S_glob_span) → Option (S_glob_element × Bool × S_glob_reader))) (fu : Nat) : Nat → (List Int) → (List S_glob_span) → Option (S_glob_element × Bool × S_glob_reader)
  | 0, _, _ => none
  | k9 + 1, l8x0_0, l8x4_1 => (lt (fun (j11x0_0 : (List Int)) (j11b19 : Bool) => (bif j11b19 then (opt (f___glob_reader__item fu (S_glob_reader.mk j11x0_0)) fun (r15 : (Int × Bool × S_glob_reader)) => (bif (!r15.2.1) then (some ((S_glob_element.mk (0 : Int) l8x4_1 r3.1), false, (S_glob_reader.mk r15.2.2.left))) else (lt (fun (j18x0_0 : (List Int)) (j18i7 : Int) => (req (((l8x4_1.length + ([(S_glob_span.mk r15.1 j18i7)]).length) * 8 : Nat) ≤ 140737488355328 ∧ l8x4_1.length + ([(S_glob_span.mk r15.1 j18i7)]).length ≤ 9223372036854775807) (f___glob_reader__class_L10 r3 kk7 fu k9 j18x0_0 (l8x4_1 ++ ([(S_glob_span.mk r15.1 j18i7)]))))) fun (kk19 : (List Int) → Int → Option (S_glob_element × Bool × S_glob_reader)) => (opt (f___glob_reader__take fu (S_glob_reader.mk r15.2.2.left) (45 : Int)) fun (r24 : (Bool × S_glob_reader)) => (bif r24.1 then (opt (f___glob_reader__item fu (S_glob_reader.mk r24.2.left)) fun (r28 : (Int × Bool × S_glob_reader)) => (lt (fun (j30b42 : Bool) => (bif j30b42 then (some ((S_glob_element.mk (0 : Int) l8x4_1 r3.1), false, (S_glob_reader.mk r28.2.2.left))) else (kk19 r28.2.2.left r28.1))) fun (kk31 : Bool → Option (S_glob_element × Bool × S_glob_reader)) => (bif (!r28.2.1) then (kk31 true) else (kk31 (decide (r15.1 > r28.1)))))) else (kk19 r24.2.left r15.1)))))) else (kk7 j11x0_0 l8x4_1))) fun (kk12 : (List Int) → Bool → Option (S_glob_element × Bool × S_glob_reader)) => (bif ((l8x4_1.length : Int) == (0 : Int)) then (kk12 l8x0_0 true) else (opt (f___glob_reader__take fu (S_glob_reader.mk l8x0_0) (93 : Int)) fun (r36 : (Bool × S_glob_reader)) => (kk12 r36.2.left (!r36.1)))))
def f___glob_reader__class (fu : Nat) (a0 : S_glob_reader) : Option (S_glob_element × Bool × S_glob_reader) := (opt (f___glob_reader__take fu a0 (94 : Int)) fun (r3 : (Bool × S_glob_reader)) => (lt (fun (j6x0_0 : (List Int)) (j6x4_1 : (List S_glob_span)) => (some ((S_glob_element.mk (0 : Int) j6x4_1 r3.1), true, (S_glob_reader.mk j6x0_0)))) fun (kk7 : (List Int) → (List S_glob_span) → Option (S_glob_element × Bool × S_glob_reader)) => (f___glob_reader__class_L10 r3 kk7 fu fu r3.2.left ([] : List S_glob_span))))
set_option maxHeartbeats 2000000 in
set_option maxRecDepth 100000 in
theorem f___glob_reader__class_ok (fu : Nat) (bx0 : Nat) (v0_0 : Value) (a0 : S_glob_reader) {r : (S_glob_element × Bool × S_glob_reader)} (h : f___glob_reader__class fu a0 = some r) : FnOk Tryd.prog 75 [(ptr bx0 0)] [(fDat (tyList (tyInt .i32)) [v0_0] a0.left)] [(oBox bx0 121 [v0_0])] (fun (i : Value × Value) => { val := (Value.tuple #[(ag [(int .i64 r.1.kind), i.1, (bool r.1.not)]), (bool r.2.1)]), own := [(oBox bx0 121 [i.2])], fz := [(fDat (tyList tyS_glob_span) [i.1] r.1.spans), (fDat (tyList (tyInt .i32)) [i.2] r.2.2.left)] }) := by
 unfold f___glob_reader__class at h
 refine fn_enter Tryd.func75 rfl Tryd.ntmps75 rfl (fun w0 Z0 => ?_)
 refine aw_sr ?_
 refine al_alloc (zs := [(iq (0 : Int)), nS, (bool false)]) (zeroOf_to to128) rfl rfl (fun g1 => ?_)
 refine al_as rfl rfl ?_
 refine al_nt ?_
 refine aw_sr ?_
 refine al_mv rfl rfl ?_
 obtain ⟨r3, hc2, h⟩ := opt_some h
 refine al_call (vs := [(pq bx0), (int .i32 (94 : Int))]) (f___glob_reader__take_ok fu bx0 v0_0 a0 (94 : Int) hc2) [] [1] [0] (pre_fz 0 rfl pre_nil) rfl (by simp) (by decide) (.inl rfl) rfl Tryd.func99 rfl rfl rfl (fun v4 => ?_)
 refine al_val (ov_build (cells := ([(iq (0 : Int)), nS, (bool r3.1)] : List Value).toArray) (cs := [(iq (0 : Int)), nS, (bool r3.1)]) rfl (fun w a hm hs => by simp only [List.map_toArray, List.map_cons, List.map_nil, List.toList_toArray, hs.ev (x := .tmp 9) rfl]; kernel_rfl)) ?_
 refine al_alloc (zs := [(iq (0 : Int)), nS, (bool false)]) (zeroOf_to to128) rfl rfl (fun g5 => ?_)
 refine al_store (i := 0) (vs := [(iq (0 : Int)), nS, (bool r3.1)]) (cs' := [(iq (0 : Int)), nS, (bool r3.1)]) rfl rfl rfl sz128 (cv_rfl rfl) rfl (co_val rfl (co_val rfl (co_val rfl co_nil))) (Nat.le_of_ble_eq_true rfl) rfl rfl ?_
 refine al_nt ?_
 obtain ⟨kk7, hkk7, h⟩ := lt_some h
 refine aw_seq_join (ι := Value × (List Int) × Value × (List S_glob_span)) (fun i => (memOf w0 Z0 [(oBox bx0 121 [v0_0])] [(oBox bx0 121 [i.1]), (oBox g1 128 [(iq (0 : Int)), nS, (bool false)]), (oRow i.2.2.1 125 tyS_glob_span i.2.2.2), (oBox g5 128 [(iq (0 : Int)), i.2.2.1, (bool r3.1)])] [(fDat (tyList (tyInt .i32)) [i.1] i.2.1), (fDat (tyList (tyInt .i32)) [v4] r3.2.left), (fDat (tyList (tyInt .i32)) [v0_0] a0.left)])) (fun i => (tab [(0, (pq bx0)), (2, (pq g1)), (4, (pq g5))])) (fun i => kk7 i.2.1 i.2.2.2 = some r) ?_ ?_
 ·rintro ⟨j6v0_0, j6x0_0, j6v4_1, j6x4_1⟩ h
  have h : kk7 j6x0_0 j6x4_1 = some r := h
  rw [hkk7] at h
  dsimp only at h
  clear hkk7
  refine aw_show (m := (memOf w0 Z0 [(oBox bx0 121 [v0_0])] [(oBox bx0 121 [j6v0_0]), (oBox g1 128 [(iq (0 : Int)), nS, (bool false)]), (oRow j6v4_1 125 tyS_glob_span j6x4_1), (oBox g5 128 [(iq (0 : Int)), j6v4_1, (bool r3.1)])] [(fDat (tyList (tyInt .i32)) [j6v0_0] j6x0_0), (fDat (tyList (tyInt .i32)) [v4] r3.2.left), (fDat (tyList (tyInt .i32)) [v0_0] a0.left)])) (S := (tab [(0, (pq bx0)), (2, (pq g1)), (4, (pq g5))])) ?_
  refine aw_sr ?_
  refine al_val (ov_load (i := 3) (v := (ag [(iq (0 : Int)), j6v4_1, (bool r3.1)])) rfl rfl Tryd.underlying128 sz128 rfl rfl rfl rfl) ?_
  refine al_store (i := 1) (vs := [(iq (0 : Int)), j6v4_1, (bool r3.1)]) (cs' := [(iq (0 : Int)), j6v4_1, (bool r3.1)]) rfl rfl rfl sz128 (cv_rfl rfl) rfl (co_val rfl (co_own 2 rfl (co_val rfl co_nil))) (Nat.le_of_ble_eq_true rfl) rfl rfl ?_
  refine al_as rfl rfl ?_
  refine al_nt ?_
  refine aw_ret ?_
  refine aq_freezeX 2 [0] rfl rfl rfl ?_
  obtain rfl := Option.some.inj h
  exact fn_ret (j6v4_1, j6v0_0) [0] [0, 1] rfl rfl rfl rfl (resC rfl (resB (i := 1) rfl rfl Tryd.underlying128 sz128 rfl rfl rfl (resT rfl (resN))) rfl) rfl rfl rfl (by decide)
 ·clear hkk7
  refine aw_block ?_
  refine aw_nilR 125 tyS_glob_span ?_
  refine aw_state (aw_loop (ι := Value × (List Int) × Value × (List S_glob_span)) (fun i => (memOf w0 Z0 [(oBox bx0 121 [v0_0])] [(oBox bx0 121 [i.1]), (oBox g1 128 [(iq (0 : Int)), nS, (bool false)]), (oRow i.2.2.1 125 tyS_glob_span i.2.2.2), (oBox g5 128 [(iq (0 : Int)), i.2.2.1, (bool r3.1)])] [(fDat (tyList (tyInt .i32)) [i.1] i.2.1), (fDat (tyList (tyInt .i32)) [v4] r3.2.left), (fDat (tyList (tyInt .i32)) [v0_0] a0.left)])) (fun i => (tab [(0, (pq bx0)), (2, (pq g1)), (4, (pq g5))])) (fun q i => f___glob_reader__class_L10 r3 kk7 fu q i.2.1 i.2.2.2 = some r) ?_ fu (v4, r3.2.left, nS, ([] : List S_glob_span)) h) (fun w a hm hs => norm hm hs [2, 3, 0, 1] [0, 0, 1] [(0, (pq bx0)), (2, (pq g1)), (4, (pq g5))] (by decide) ⟨rfl, rfl, rfl, trivial⟩)
  clear h
  rintro k9 ⟨l8v0_0, l8x0_0, l8v4_1, l8x4_1⟩ h
  have h : f___glob_reader__class_L10 r3 kk7 fu k9 l8x0_0 l8x4_1 = some r := h
  obtain _ | k9 := k9
  · rw [f___glob_reader__class_L10] at h; cases h
  rw [f___glob_reader__class_L10] at h
  refine aw_show (m := (memOf w0 Z0 [(oBox bx0 121 [v0_0])] [(oBox bx0 121 [l8v0_0]), (oBox g1 128 [(iq (0 : Int)), nS, (bool false)]), (oRow l8v4_1 125 tyS_glob_span l8x4_1), (oBox g5 128 [(iq (0 : Int)), l8v4_1, (bool r3.1)])] [(fDat (tyList (tyInt .i32)) [l8v0_0] l8x0_0), (fDat (tyList (tyInt .i32)) [v4] r3.2.left), (fDat (tyList (tyInt .i32)) [v0_0] a0.left)])) (S := (tab [(0, (pq bx0)), (2, (pq g1)), (4, (pq g5))])) ?_
  refine aw_seq ?_
  obtain ⟨kk12, hkk12, h⟩ := lt_some h
  refine aw_seq_join (ι := Value × (List Int) × Bool) (fun i => (memOf w0 Z0 [(oBox bx0 121 [v0_0])] [(oBox bx0 121 [i.1]), (oBox g1 128 [(iq (0 : Int)), nS, (bool false)]), (oRow l8v4_1 125 tyS_glob_span l8x4_1), (oBox g5 128 [(iq (0 : Int)), l8v4_1, (bool r3.1)])] [(fDat (tyList (tyInt .i32)) [i.1] i.2.1), (fDat (tyList (tyInt .i32)) [l8v0_0] l8x0_0), (fDat (tyList (tyInt .i32)) [v4] r3.2.left), (fDat (tyList (tyInt .i32)) [v0_0] a0.left)])) (fun i => (tab [(0, (pq bx0)), (2, (pq g1)), (4, (pq g5)), (19, (bool i.2.2))])) (fun i => kk12 i.2.1 i.2.2 = some r) ?_ ?_
  ·rintro ⟨j11v0_0, j11x0_0, j11b19⟩ h
   have h : kk12 j11x0_0 j11b19 = some r := h
   rw [hkk12] at h
   dsimp only at h
   clear hkk12
   refine aw_show (m := (memOf w0 Z0 [(oBox bx0 121 [v0_0])] [(oBox bx0 121 [j11v0_0]), (oBox g1 128 [(iq (0 : Int)), nS, (bool false)]), (oRow l8v4_1 125 tyS_glob_span l8x4_1), (oBox g5 128 [(iq (0 : Int)), l8v4_1, (bool r3.1)])] [(fDat (tyList (tyInt .i32)) [j11v0_0] j11x0_0), (fDat (tyList (tyInt .i32)) [l8v0_0] l8x0_0), (fDat (tyList (tyInt .i32)) [v4] r3.2.left), (fDat (tyList (tyInt .i32)) [v0_0] a0.left)])) (S := (tab [(0, (pq bx0)), (2, (pq g1)), (4, (pq g5)), (19, (bool j11b19))])) ?_
   refine aw_cond rfl (fun hb13 => ?_) (fun hb13 => ?_)
   ·replace h := bif_t hb13 h
    refine aw_skip ?_
    refine aq_then ?_
    refine aw_block ?_
    refine aw_sr ?_
    refine al_mv rfl rfl ?_
    obtain ⟨r15, hc14, h⟩ := opt_some h
    refine al_call (vs := [(pq bx0)]) (f___glob_reader__item_ok fu bx0 j11v0_0 (S_glob_reader.mk j11x0_0) hc14) [] [0] [1, 2, 3] (pre_fz 0 rfl pre_nil) rfl (by simp) (by decide) (.inl rfl) rfl Tryd.func100 rfl rfl rfl (fun v16 => ?_)
    refine al_mv rfl rfl ?_
    refine al_ex rfl rfl rfl ?_
    refine al_ex rfl rfl rfl ?_
    refine al_as rfl rfl ?_
    refine al_as rfl rfl ?_
    refine al_nt ?_
    refine aw_seq ?_
    refine aw_sr ?_
    refine al_mv rfl rfl ?_
    refine al_val (ov_not rfl rfl) ?_
    refine al_nt ?_
    refine aw_cond rfl (fun hb17 => ?_) (fun hb17 => ?_)
    ·replace h := bif_t hb17 h
     refine aw_sr ?_
     refine al_val (ov_load (i := 3) (v := (ag [(iq (0 : Int)), l8v4_1, (bool r3.1)])) rfl rfl Tryd.underlying128 sz128 rfl rfl rfl rfl) ?_
     refine al_store (i := 1) (vs := [(iq (0 : Int)), l8v4_1, (bool r3.1)]) (cs' := [(iq (0 : Int)), l8v4_1, (bool r3.1)]) rfl rfl rfl sz128 (cv_rfl rfl) rfl (co_val rfl (co_own 2 rfl (co_val rfl co_nil))) (Nat.le_of_ble_eq_true rfl) rfl rfl ?_
     refine al_as rfl rfl ?_
     refine al_nt ?_
     refine aw_ret ?_
     refine aq_then_ret ?_
     refine aq_block_ret ?_
     refine aq_then_ret ?_
     refine aq_block_ret ?_
     refine aq_then_ret ?_
     refine aq_freezeX 2 [0] rfl rfl rfl ?_
     obtain rfl := Option.some.inj h
     exact fn_ret (l8v4_1, v16) [0] [0, 1] rfl rfl rfl rfl (resC rfl (resB (i := 1) rfl rfl Tryd.underlying128 sz128 rfl rfl rfl (resT rfl (resN))) rfl) rfl rfl rfl (by decide)
    ·replace h := bif_f hb17 h
     refine aw_skip ?_
     refine aq_tr ?_
     refine al_mv rfl rfl ?_
     refine al_as rfl rfl ?_
     refine al_nt ?_
     obtain ⟨kk19, hkk19, h⟩ := lt_some h
     refine aw_seq_join (ι := Value × (List Int) × Int) (fun i => (memOf w0 Z0 [(oBox bx0 121 [v0_0])] [(oBox bx0 121 [i.1]), (oBox g1 128 [(iq (0 : Int)), nS, (bool false)]), (oRow l8v4_1 125 tyS_glob_span l8x4_1), (oBox g5 128 [(iq (0 : Int)), l8v4_1, (bool r3.1)])] [(fDat (tyList (tyInt .i32)) [i.1] i.2.1), (fDat (tyList (tyInt .i32)) [v16] r15.2.2.left), (fDat (tyList (tyInt .i32)) [j11v0_0] j11x0_0), (fDat (tyList (tyInt .i32)) [l8v0_0] l8x0_0), (fDat (tyList (tyInt .i32)) [v4] r3.2.left), (fDat (tyList (tyInt .i32)) [v0_0] a0.left)])) (fun i => (tab [(0, (pq bx0)), (2, (pq g1)), (4, (pq g5)), (5, (int .i32 r15.1)), (7, (int .i32 i.2.2))])) (fun i => kk19 i.2.1 i.2.2 = some r) ?_ ?_
     ·rintro ⟨j18v0_0, j18x0_0, j18i7⟩ h
      have h : kk19 j18x0_0 j18i7 = some r := h
      rw [hkk19] at h
      dsimp only at h
      clear hkk19
      refine aw_show (m := (memOf w0 Z0 [(oBox bx0 121 [v0_0])] [(oBox bx0 121 [j18v0_0]), (oBox g1 128 [(iq (0 : Int)), nS, (bool false)]), (oRow l8v4_1 125 tyS_glob_span l8x4_1), (oBox g5 128 [(iq (0 : Int)), l8v4_1, (bool r3.1)])] [(fDat (tyList (tyInt .i32)) [j18v0_0] j18x0_0), (fDat (tyList (tyInt .i32)) [v16] r15.2.2.left), (fDat (tyList (tyInt .i32)) [j11v0_0] j11x0_0), (fDat (tyList (tyInt .i32)) [l8v0_0] l8x0_0), (fDat (tyList (tyInt .i32)) [v4] r3.2.left), (fDat (tyList (tyInt .i32)) [v0_0] a0.left)])) (S := (tab [(0, (pq bx0)), (2, (pq g1)), (4, (pq g5)), (5, (int .i32 r15.1)), (7, (int .i32 j18i7))])) ?_
      refine aw_region ?_
      refine al_val (ov_fieldA (p := 1) rfl Tryd.underlying128 rfl sz126 rfl rfl rfl) ?_
      refine al_val (ov_load (i := 3) (v := l8v4_1) rfl rfl Tryd.underlying126 sz126 rfl rfl rfl rfl) ?_
      refine al_mv rfl rfl ?_
      refine al_mv rfl rfl ?_
      refine al_val (ov_build (cells := ([(int .i32 r15.1), (int .i32 j18i7)] : List Value).toArray) (cs := [(int .i32 r15.1), (int .i32 j18i7)]) rfl (fun w a hm hs => by simp only [List.map_toArray, List.map_cons, List.map_nil, List.toList_toArray, hs.ev (x := .tmp 46) rfl, hs.ev (x := .tmp 47) rfl]; kernel_rfl)) ?_
      refine al_buildSlice (τ := tyS_glob_span) (e := 125) (k := 1) (sz := 0) (by_ := 0) (z := undef) (cs := [(int .i32 r15.1), (int .i32 j18i7)]) (xs := [(S_glob_span.mk r15.1 j18i7)]) rfl (by decide) (fun w a hm hs => ⟨([(int .i32 r15.1), (int .i32 j18i7)]).toArray, rfl, by simp only [List.map_toArray, List.map_cons, List.map_nil, hs.ev (x := .tmp 48) rfl]; exact run_bs [(ag [(int .i32 r15.1), (int .i32 j18i7)])] [(int .i32 r15.1), (int .i32 j18i7)] Tryd.underlying126 to125 rfl rfl (bs_cons (l := [(int .i32 r15.1), (int .i32 j18i7)]) (cs := []) (cv_rfl rfl) rfl bs_nil) hm⟩) (fun hm => ⟨_, _, rfl, (fun _ => mkS_glob_span rfl) hm, rfl⟩) rfl (fun v20 => ?_)
      obtain ⟨hc21, h⟩ := req_some h
      refine al_append 3 hc21.1 hc21.2 rfl (src_own (i := 3) 0 rfl) rfl rfl Tryd.underlying126 to125 rfl rfl rfl (fun v22 => ?_)
      refine al_val (ov_fieldA (p := 1) rfl Tryd.underlying128 rfl sz126 rfl rfl rfl) ?_
      refine al_store (i := 4) (vs := [v22]) (cs' := [(iq (0 : Int)), v22, (bool r3.1)]) rfl rfl rfl sz126 (cv_own 3 rfl) rfl (co_own 3 rfl co_nil) (Nat.le_of_ble_eq_true rfl) rfl rfl ?_
      refine al_nil ?_
      refine aq_block ?_
      exact aq_again k9 (j18v0_0, j18x0_0, v22, (l8x4_1 ++ ([(S_glob_span.mk r15.1 j18i7)]))) (Nat.lt_succ_self _) h (fun w a hm hs => norm hm hs [1, 2, 3, 4] [0, 4, 5] [(0, (pq bx0)), (2, (pq g1)), (4, (pq g5))] (by decide) ⟨rfl, rfl, rfl, trivial⟩)
     ·clear hkk19
      refine aw_sr ?_
      refine al_mv rfl rfl ?_
      obtain ⟨r24, hc23, h⟩ := opt_some h
      refine al_call (vs := [(pq bx0), (int .i32 (45 : Int))]) (f___glob_reader__take_ok fu bx0 v16 (S_glob_reader.mk r15.2.2.left) (45 : Int) hc23) [] [0] [1, 2, 3] (pre_fz 0 rfl pre_nil) rfl (by simp) (by decide) (.inl rfl) rfl Tryd.func99 rfl rfl rfl (fun v25 => ?_)
      refine al_nt ?_
      refine aw_cond rfl (fun hb26 => ?_) (fun hb26 => ?_)
      ·replace h := bif_t hb26 h
       refine aw_sr ?_
       refine al_mv rfl rfl ?_
       obtain ⟨r28, hc27, h⟩ := opt_some h
       refine al_call (vs := [(pq bx0)]) (f___glob_reader__item_ok fu bx0 v25 (S_glob_reader.mk r24.2.left) hc27) [] [0] [1, 2, 3] (pre_fz 0 rfl pre_nil) rfl (by simp) (by decide) (.inl rfl) rfl Tryd.func100 rfl rfl rfl (fun v29 => ?_)
       refine al_mv rfl rfl ?_
       refine al_ex rfl rfl rfl ?_
       refine al_ex rfl rfl rfl ?_
       refine al_as rfl rfl ?_
       refine al_as rfl rfl ?_
       refine al_nt ?_
       obtain ⟨kk31, hkk31, h⟩ := lt_some h
       refine aw_seq_join (ι := Bool) (fun i => (memOf w0 Z0 [(oBox bx0 121 [v0_0])] [(oBox bx0 121 [v29]), (oBox g1 128 [(iq (0 : Int)), nS, (bool false)]), (oRow l8v4_1 125 tyS_glob_span l8x4_1), (oBox g5 128 [(iq (0 : Int)), l8v4_1, (bool r3.1)])] [(fDat (tyList (tyInt .i32)) [v29] r28.2.2.left), (fDat (tyList (tyInt .i32)) [v25] r24.2.left), (fDat (tyList (tyInt .i32)) [v16] r15.2.2.left), (fDat (tyList (tyInt .i32)) [j11v0_0] j11x0_0), (fDat (tyList (tyInt .i32)) [l8v0_0] l8x0_0), (fDat (tyList (tyInt .i32)) [v4] r3.2.left), (fDat (tyList (tyInt .i32)) [v0_0] a0.left)])) (fun i => (tab [(0, (pq bx0)), (2, (pq g1)), (4, (pq g5)), (5, (int .i32 r15.1)), (7, (int .i32 r28.1)), (42, (bool i))])) (fun i => kk31 i = some r) ?_ ?_
       ·rintro j30b42 h
        have h : kk31 j30b42 = some r := h
        rw [hkk31] at h
        dsimp only at h
        clear hkk31
        refine aw_show (m := (memOf w0 Z0 [(oBox bx0 121 [v0_0])] [(oBox bx0 121 [v29]), (oBox g1 128 [(iq (0 : Int)), nS, (bool false)]), (oRow l8v4_1 125 tyS_glob_span l8x4_1), (oBox g5 128 [(iq (0 : Int)), l8v4_1, (bool r3.1)])] [(fDat (tyList (tyInt .i32)) [v29] r28.2.2.left), (fDat (tyList (tyInt .i32)) [v25] r24.2.left), (fDat (tyList (tyInt .i32)) [v16] r15.2.2.left), (fDat (tyList (tyInt .i32)) [j11v0_0] j11x0_0), (fDat (tyList (tyInt .i32)) [l8v0_0] l8x0_0), (fDat (tyList (tyInt .i32)) [v4] r3.2.left), (fDat (tyList (tyInt .i32)) [v0_0] a0.left)])) (S := (tab [(0, (pq bx0)), (2, (pq g1)), (4, (pq g5)), (5, (int .i32 r15.1)), (7, (int .i32 r28.1)), (42, (bool j30b42))])) ?_
        refine aw_cond rfl (fun hb32 => ?_) (fun hb32 => ?_)
        ·replace h := bif_t hb32 h
         refine aw_sr ?_
         refine al_val (ov_load (i := 3) (v := (ag [(iq (0 : Int)), l8v4_1, (bool r3.1)])) rfl rfl Tryd.underlying128 sz128 rfl rfl rfl rfl) ?_
         refine al_store (i := 1) (vs := [(iq (0 : Int)), l8v4_1, (bool r3.1)]) (cs' := [(iq (0 : Int)), l8v4_1, (bool r3.1)]) rfl rfl rfl sz128 (cv_rfl rfl) rfl (co_val rfl (co_own 2 rfl (co_val rfl co_nil))) (Nat.le_of_ble_eq_true rfl) rfl rfl ?_
         refine al_as rfl rfl ?_
         refine al_nt ?_
         refine aw_ret ?_
         refine aq_then_ret ?_
         refine aq_block_ret ?_
         refine aq_then_ret ?_
         refine aq_block_ret ?_
         refine aq_then_ret ?_
         refine aq_freezeX 2 [0] rfl rfl rfl ?_
         obtain rfl := Option.some.inj h
         exact fn_ret (l8v4_1, v29) [0] [0, 1] rfl rfl rfl rfl (resC rfl (resB (i := 1) rfl rfl Tryd.underlying128 sz128 rfl rfl rfl (resT rfl (resN))) rfl) rfl rfl rfl (by decide)
        ·replace h := bif_f hb32 h
         refine aw_skip ?_
         exact aq_join (v29, r28.2.2.left, r28.1) h (fun w a hm hs => norm hm hs [0, 1, 2, 3] [0, 2, 3, 4, 5, 6] [(0, (pq bx0)), (2, (pq g1)), (4, (pq g5)), (5, (int .i32 r15.1)), (7, (int .i32 r28.1))] (by decide) ⟨rfl, rfl, rfl, rfl, rfl, trivial⟩)
       ·clear hkk31
        refine aw_region ?_
        refine al_mv rfl rfl ?_
        refine al_val (ov_not rfl rfl) ?_
        refine al_mv rfl rfl ?_
        refine al_caseB 38 rfl (fun hb33 => ?_) (fun hb33 => ?_)
        ·replace h := bif_t hb33 h
         refine al_skip ?_
         refine al_skip ?_
         refine al_skip ?_
         refine al_val (ov_pick_t rfl rfl rfl) ?_
         refine al_nil ?_
         exact aq_join true h (fun w a hm hs => norm hm hs [0, 1, 2, 3] [0, 1, 2, 3, 4, 5, 6] [(0, (pq bx0)), (2, (pq g1)), (4, (pq g5)), (5, (int .i32 r15.1)), (7, (int .i32 r28.1)), (42, (bool true))] (by decide) ⟨rfl, rfl, rfl, rfl, rfl, rfl, trivial⟩)
        ·replace h := bif_f hb33 h
         refine al_mv rfl rfl ?_
         refine al_mv rfl rfl ?_
         refine al_in rfl rfl rfl rfl ?_
         refine al_val (ov_pick_f rfl rfl rfl) ?_
         refine al_nil ?_
         exact aq_join (decide (r15.1 > r28.1)) h (fun w a hm hs => norm hm hs [0, 1, 2, 3] [0, 1, 2, 3, 4, 5, 6] [(0, (pq bx0)), (2, (pq g1)), (4, (pq g5)), (5, (int .i32 r15.1)), (7, (int .i32 r28.1)), (42, (bool (decide (r15.1 > r28.1))))] (by decide) ⟨rfl, rfl, rfl, rfl, rfl, rfl, trivial⟩)
      ·replace h := bif_f hb26 h
       refine aw_skip ?_
       exact aq_join (v25, r24.2.left, r15.1) h (fun w a hm hs => norm hm hs [0, 1, 2, 3] [0, 1, 2, 3, 4, 5] [(0, (pq bx0)), (2, (pq g1)), (4, (pq g5)), (5, (int .i32 r15.1)), (7, (int .i32 r15.1))] (by decide) ⟨rfl, rfl, rfl, rfl, rfl, trivial⟩)
   ·replace h := bif_f hb13 h
    refine aw_exit ?_
    refine aq_then_exit ?_
    refine aq_then_exit ?_
    refine aq_block_exit ?_
    exact aq_join (j11v0_0, j11x0_0, l8v4_1, l8x4_1) h (fun w a hm hs => norm hm hs [0, 1, 2, 3] [0, 2, 3] [(0, (pq bx0)), (2, (pq g1)), (4, (pq g5))] (by decide) ⟨rfl, rfl, rfl, trivial⟩)
  ·clear hkk12
   refine aw_region ?_
   refine al_val (ov_fieldA (p := 1) rfl Tryd.underlying128 rfl sz126 rfl rfl rfl) ?_
   refine al_val (ov_load (i := 3) (v := l8v4_1) rfl rfl Tryd.underlying126 sz126 rfl rfl rfl rfl) ?_
   refine al_val (ov_lenR 2 rfl rfl Tryd.underlying126 rfl) ?_
   refine al_in rfl rfl rfl rfl ?_
   refine al_mv rfl rfl ?_
   refine al_caseB 15 rfl (fun hb34 => ?_) (fun hb34 => ?_)
   ·replace h := bif_t hb34 h
    refine al_skip ?_
    refine al_skip ?_
    refine al_skip ?_
    refine al_val (ov_pick_t rfl rfl rfl) ?_
    refine al_nil ?_
    exact aq_join (l8v0_0, l8x0_0, true) h (fun w a hm hs => norm hm hs [0, 1, 2, 3] [0, 0, 1, 2] [(0, (pq bx0)), (2, (pq g1)), (4, (pq g5)), (19, (bool true))] (by decide) ⟨rfl, rfl, rfl, rfl, trivial⟩)
   ·replace h := bif_f hb34 h
    refine al_mv rfl rfl ?_
    obtain ⟨r36, hc35, h⟩ := opt_some h
    refine al_call (vs := [(pq bx0), (int .i32 (93 : Int))]) (f___glob_reader__take_ok fu bx0 l8v0_0 (S_glob_reader.mk l8x0_0) (93 : Int) hc35) [] [0] [1, 2, 3] (pre_fz 0 rfl pre_nil) rfl (by simp) (by decide) (.inl rfl) rfl Tryd.func99 rfl rfl rfl (fun v37 => ?_)
    refine al_val (ov_not rfl rfl) ?_
    refine al_val (ov_pick_f rfl rfl rfl) ?_
    refine al_nil ?_
    exact aq_join (v37, r36.2.left, (!r36.1)) h (fun w a hm hs => norm hm hs [0, 1, 2, 3] [0, 1, 2, 3] [(0, (pq bx0)), (2, (pq g1)), (4, (pq g5)), (19, (bool (!r36.1)))] (by decide) ⟨rfl, rfl, rfl, rfl, trivial⟩)
def f_glob_elements_L6 (fu : Nat) : Nat → (List Int) → (List S_glob_element) → Option ((List S_glob_element) × Bool)
  | 0, _, _ => none
  | k5 + 1, l4x4_0, l4x5 => (opt (f___glob_reader__next fu (S_glob_reader.mk l4x4_0)) fun (r8 : (Int × Bool × S_glob_reader)) => (bif (!r8.2.1) then (some (l4x5, true)) else (bif (r8.1 == (42 : Int)) then (bif (!r8.2.1) then (some (([] : List S_glob_element), false)) else (req (((l4x5.length + ([(S_glob_element.mk (2 : Int) ([] : (List S_glob_span)) false)]).length) * 40 : Nat) ≤ 140737488355328 ∧ l4x5.length + ([(S_glob_element.mk (2 : Int) ([] : (List S_glob_span)) false)]).length ≤ 9223372036854775807) (f_glob_elements_L6 fu k5 r8.2.2.left (l4x5 ++ ([(S_glob_element.mk (2 : Int) ([] : (List S_glob_span)) false)]))))) else (bif (r8.1 == (63 : Int)) then (bif (!r8.2.1) then (some (([] : List S_glob_element), false)) else (req (((l4x5.length + ([(S_glob_element.mk (1 : Int) ([] : (List S_glob_span)) false)]).length) * 40 : Nat) ≤ 140737488355328 ∧ l4x5.length + ([(S_glob_element.mk (1 : Int) ([] : (List S_glob_span)) false)]).length ≤ 9223372036854775807) (f_glob_elements_L6 fu k5 r8.2.2.left (l4x5 ++ ([(S_glob_element.mk (1 : Int) ([] : (List S_glob_span)) false)]))))) else (bif (r8.1 == (92 : Int)) then (opt (f___glob_reader__next fu (S_glob_reader.mk r8.2.2.left)) fun (r26 : (Int × Bool × S_glob_reader)) => (bif (!r26.2.1) then (some (([] : List S_glob_element), false)) else (req (((l4x5.length + ([(S_glob_element.mk (0 : Int) ([(S_glob_span.mk r26.1 r26.1)]) false)]).length) * 40 : Nat) ≤ 140737488355328 ∧ l4x5.length + ([(S_glob_element.mk (0 : Int) ([(S_glob_span.mk r26.1 r26.1)]) false)]).length ≤ 9223372036854775807) (f_glob_elements_L6 fu k5 r26.2.2.left (l4x5 ++ ([(S_glob_element.mk (0 : Int) ([(S_glob_span.mk r26.1 r26.1)]) false)])))))) else (bif (r8.1 == (91 : Int)) then (opt (f___glob_reader__class fu (S_glob_reader.mk r8.2.2.left)) fun (r35 : (S_glob_element × Bool × S_glob_reader)) => (bif (!r35.2.1) then (some (([] : List S_glob_element), false)) else (req (((l4x5.length + ([(S_glob_element.mk r35.1.kind r35.1.spans r35.1.not)]).length) * 40 : Nat) ≤ 140737488355328 ∧ l4x5.length + ([(S_glob_element.mk r35.1.kind r35.1.spans r35.1.not)]).length ≤ 9223372036854775807) (f_glob_elements_L6 fu k5 r35.2.2.left (l4x5 ++ ([(S_glob_element.mk r35.1.kind r35.1.spans r35.1.not)])))))) else (bif (!r8.2.1) then (some (([] : List S_glob_element), false)) else (req (((l4x5.length + ([(S_glob_element.mk (0 : Int) ([(S_glob_span.mk r8.1 r8.1)]) false)]).length) * 40 : Nat) ≤ 140737488355328 ∧ l4x5.length + ([(S_glob_element.mk (0 : Int) ([(S_glob_span.mk r8.1 r8.1)]) false)]).length ≤ 9223372036854775807) (f_glob_elements_L6 fu k5 r8.2.2.left (l4x5 ++ ([(S_glob_element.mk (0 : Int) ([(S_glob_span.mk r8.1 r8.1)]) false)])))))))))))
def f_glob_elements (fu : Nat) (a0 : (List UInt8)) : Option ((List S_glob_element) × Bool) := (req (a0.length ≤ 70368744177664) (f_glob_elements_L6 fu fu (runes a0) ([] : List S_glob_element)))
set_option maxRecDepth 100000 in
set_option maxHeartbeats 2000000 in
set_option maxHeartbeats 2000000 in
theorem f_glob_elements_ok (fu : Nat) (a0 : (List UInt8)) {r : ((List S_glob_element) × Bool)} (h : f_glob_elements fu a0 = some r) : FnOk Tryd.prog 42 [(str a0)] [] [] (fun (i : Value) => { val := (Value.tuple #[i, (bool r.2)]), own := [(oRow i 128 tyS_glob_element r.1)] }) := by
 unfold f_glob_elements at h
 refine fn_enter Tryd.func42 rfl Tryd.ntmps42 rfl (fun w0 Z0 => ?_)
 refine aw_sr ?_
 refine al_as rfl rfl ?_
 refine al_as rfl rfl ?_
 refine al_nt ?_
 refine aw_sr ?_
 refine al_mv rfl rfl ?_
 obtain ⟨hc1, h⟩ := req_some h
 refine al_runes hc1 rfl Tryd.underlying9 Tryd.underlying119 Tryd.underlying21 rfl (fun s2 => ?_)
 refine al_val (ov_build (cells := ([s2] : List Value).toArray) (cs := [s2]) rfl (fun w a hm hs => by simp only [List.map_toArray, List.map_cons, List.map_nil, List.toList_toArray, hs.ev (x := .tmp 10) rfl]; obtain ⟨A0, l0, c0, e0⟩ := sl_fz 0 rfl hm; rw [e0]; kernel_rfl)) ?_
 refine al_box (vs := [s2]) rfl (cv_rfl rfl) rfl (fun g3 => ?_)
 refine al_as rfl rfl ?_
 refine al_nt ?_
 refine aw_sr ?_
 refine al_as rfl rfl ?_
 refine al_nt ?_
 refine aw_block ?_
 refine aw_nilR 128 tyS_glob_element ?_
 refine aw_state (aw_loop (ι := Value × (List Int) × Value × (List S_glob_element)) (fun i => (memOf w0 Z0 [] [(oBox g3 121 [i.1]), (oRow i.2.2.1 128 tyS_glob_element i.2.2.2)] [(fDat (tyList (tyInt .i32)) [i.1] i.2.1), (fDat (tyList (tyInt .i32)) [s2] (runes a0))])) (fun i => (tab [(4, (pq g3)), (5, i.2.2.1)])) (fun q i => f_glob_elements_L6 fu q i.2.1 i.2.2.2 = some r) ?_ fu (s2, (runes a0), nS, ([] : List S_glob_element)) h) (fun w a hm hs => norm hm hs [1, 0] [0, 0] [(4, (pq g3)), (5, nS)] (by decide) ⟨rfl, rfl, trivial⟩)
 clear h
 rintro k5 ⟨l4v4_0, l4x4_0, l4v5, l4x5⟩ h
 have h : f_glob_elements_L6 fu k5 l4x4_0 l4x5 = some r := h
 obtain _ | k5 := k5
 · rw [f_glob_elements_L6] at h; cases h
 rw [f_glob_elements_L6] at h
 refine aw_show (m := (memOf w0 Z0 [] [(oBox g3 121 [l4v4_0]), (oRow l4v5 128 tyS_glob_element l4x5)] [(fDat (tyList (tyInt .i32)) [l4v4_0] l4x4_0), (fDat (tyList (tyInt .i32)) [s2] (runes a0))])) (S := (tab [(4, (pq g3)), (5, l4v5)])) ?_
 refine aw_block ?_
 refine aw_sr ?_
 refine al_mv rfl rfl ?_
 obtain ⟨r8, hc7, h⟩ := opt_some h
 refine al_call (vs := [(pq g3)]) (f___glob_reader__next_ok fu g3 l4v4_0 (S_glob_reader.mk l4x4_0) hc7) [] [0] [1] (pre_fz 0 rfl pre_nil) rfl (by simp) (by decide) (.inl rfl) rfl Tryd.func74 rfl rfl rfl (fun v9 => ?_)
 refine al_mv rfl rfl ?_
 refine al_ex rfl rfl rfl ?_
 refine al_ex rfl rfl rfl ?_
 refine al_as rfl rfl ?_
 refine al_as rfl rfl ?_
 refine al_nt ?_
 refine aw_seq ?_
 refine aw_sr ?_
 refine al_mv rfl rfl ?_
 refine al_val (ov_not rfl rfl) ?_
 refine al_nt ?_
 refine aw_cond rfl (fun hb10 => ?_) (fun hb10 => ?_)
 ·replace h := bif_t hb10 h
  refine aw_sr ?_
  refine al_mv rfl rfl ?_
  refine al_as rfl rfl ?_
  refine al_as rfl rfl ?_
  refine al_nt ?_
  refine aw_ret ?_
  refine aq_then_ret ?_
  refine aq_block_ret ?_
  refine aq_then_ret ?_
  refine aq_block_ret ?_
  obtain rfl := Option.some.inj h
  exact fn_ret l4v5 [1] [] rfl rfl rfl rfl (res2 rfl rfl rfl) rfl rfl rfl (by decide)
 ·replace h := bif_f hb10 h
  refine aw_skip ?_
  refine aq_tr ?_
  refine al_mv rfl rfl ?_
  refine al_mv rfl rfl ?_
  refine al_val (ov_build (cells := ([(int .i32 r8.1), (int .i32 r8.1)] : List Value).toArray) (cs := [(int .i32 r8.1), (int .i32 r8.1)]) rfl (fun w a hm hs => by simp only [List.map_toArray, List.map_cons, List.map_nil, List.toList_toArray, hs.ev (x := .tmp 21) rfl, hs.ev (x := .tmp 22) rfl]; kernel_rfl)) ?_
  refine al_buildSlice (τ := tyS_glob_span) (e := 125) (k := 1) (sz := 0) (by_ := 0) (z := undef) (cs := [(int .i32 r8.1), (int .i32 r8.1)]) (xs := [(S_glob_span.mk r8.1 r8.1)]) rfl (by decide) (fun w a hm hs => ⟨([(int .i32 r8.1), (int .i32 r8.1)]).toArray, rfl, by simp only [List.map_toArray, List.map_cons, List.map_nil, hs.ev (x := .tmp 23) rfl]; exact run_bs [(ag [(int .i32 r8.1), (int .i32 r8.1)])] [(int .i32 r8.1), (int .i32 r8.1)] Tryd.underlying126 to125 rfl rfl (bs_cons (l := [(int .i32 r8.1), (int .i32 r8.1)]) (cs := []) (cv_rfl rfl) rfl bs_nil) hm⟩) (fun hm => ⟨_, _, rfl, (fun _ => mkS_glob_span rfl) hm, rfl⟩) rfl (fun v11 => ?_)
  refine al_val (ov_build (cells := ([(iq (0 : Int)), v11, (bool false)] : List Value).toArray) (cs := [(iq (0 : Int)), v11, (bool false)]) rfl (fun w a hm hs => by simp only [List.map_toArray, List.map_cons, List.map_nil, List.toList_toArray, hs.ev (x := .tmp 24) rfl]; obtain ⟨A0, l0, c0, e0⟩ := sl_own 0 rfl hm; rw [e0]; kernel_rfl)) ?_
  refine al_alloc (zs := [(iq (0 : Int)), nS, (bool false)]) (zeroOf_to to128) rfl rfl (fun g12 => ?_)
  refine al_store (i := 0) (vs := [(iq (0 : Int)), v11, (bool false)]) (cs' := [(iq (0 : Int)), v11, (bool false)]) rfl rfl rfl sz128 (cv_rfl rfl) rfl (co_val rfl (co_own 1 rfl (co_val rfl co_nil))) (Nat.le_of_ble_eq_true rfl) rfl rfl ?_
  refine al_nt ?_
  refine aw_seq ?_
  refine aw_sr ?_
  refine al_mv rfl rfl ?_
  refine al_nt ?_
  refine aw_block ?_
  refine aw_sr ?_
  refine al_in rfl rfl rfl rfl ?_
  refine al_as rfl rfl ?_
  refine al_nt ?_
  refine aw_cond rfl (fun hb14 => ?_) (fun hb14 => ?_)
  ·replace h := bif_t hb14 h
   refine aw_region ?_
   refine al_val (ov_build (cells := ([(iq (2 : Int)), nS, (bool false)] : List Value).toArray) (cs := [(iq (2 : Int)), nS, (bool false)]) rfl (fun w a hm hs => by simp only [List.map_toArray, List.map_cons, List.map_nil, List.toList_toArray, hs.ev (x := .const (iq (2 : Int))) rfl]; kernel_rfl)) ?_
   refine al_store (i := 0) (vs := [(iq (2 : Int)), nS, (bool false)]) (cs' := [(iq (2 : Int)), nS, (bool false)]) rfl rfl rfl sz128 (cv_rfl rfl) rfl (co_val rfl (co_val rfl (co_val rfl co_nil))) (Nat.le_of_ble_eq_true rfl) rfl rfl ?_
   refine al_nil ?_
   refine aq_block ?_
   refine aq_then ?_
   refine aw_seq ?_
   refine aw_sr ?_
   refine al_mv rfl rfl ?_
   refine al_val (ov_not rfl rfl) ?_
   refine al_nt ?_
   refine aw_cond rfl (fun hb15 => ?_) (fun hb15 => ?_)
   ·replace h := bif_t hb15 h
    refine aw_sr ?_
    refine al_as rfl rfl ?_
    refine al_as rfl rfl ?_
    refine al_nt ?_
    refine aw_ret ?_
    refine aq_then_ret ?_
    refine aq_block_ret ?_
    refine aq_then_ret ?_
    refine aq_block_ret ?_
    refine aq_nilR 128 tyS_glob_element ?_
    obtain rfl := Option.some.inj h
    exact fn_ret nS [0] [] rfl rfl rfl rfl (res2 rfl rfl rfl) rfl rfl rfl (by decide)
   ·replace h := bif_f hb15 h
    refine aw_skip ?_
    refine aq_then ?_
    refine aw_region ?_
    refine al_mv rfl rfl ?_
    refine al_val (ov_load (i := 0) (v := (ag [(iq (2 : Int)), nS, (bool false)])) rfl rfl Tryd.underlying128 sz128 rfl rfl rfl rfl) ?_
    refine al_buildSlice (τ := tyS_glob_element) (e := 128) (k := 1) (sz := 0) (by_ := 0) (z := undef) (cs := [(iq (2 : Int)), nS, (bool false)]) (xs := [(S_glob_element.mk (2 : Int) ([] : (List S_glob_span)) false)]) rfl (by decide) (fun w a hm hs => ⟨([(iq (2 : Int)), nS, (bool false)]).toArray, rfl, by simp only [List.map_toArray, List.map_cons, List.map_nil, hs.ev (x := .tmp 55) rfl]; exact run_bs [(ag [(iq (2 : Int)), nS, (bool false)])] [(iq (2 : Int)), nS, (bool false)] Tryd.underlying79 to128 rfl rfl (bs_cons (l := [(iq (2 : Int)), nS, (bool false)]) (cs := []) (cv_rfl rfl) rfl bs_nil) hm⟩) (fun hm => ⟨_, _, rfl, (fun hm => mknS_glob_element (x := (S_glob_element.mk (2 : Int) ([] : (List S_glob_span)) false)) rfl (nil_dat _ _ _)) hm, rfl⟩) rfl (fun v16 => ?_)
    obtain ⟨hc17, h⟩ := req_some h
    refine al_append 4 hc17.1 hc17.2 rfl (src_own (i := 4) 0 rfl) rfl rfl Tryd.underlying79 to128 rfl rfl rfl (fun v18 => ?_)
    refine al_as rfl rfl ?_
    refine al_nil ?_
    refine aq_block ?_
    exact aq_again k5 (v9, r8.2.2.left, v18, (l4x5 ++ ([(S_glob_element.mk (2 : Int) ([] : (List S_glob_span)) false)]))) (Nat.lt_succ_self _) h (fun w a hm hs => norm hm hs [3, 4] [0, 2] [(4, (pq g3)), (5, v18)] (by decide) ⟨rfl, rfl, trivial⟩)
  ·replace h := bif_f hb14 h
   refine aw_sr ?_
   refine al_in rfl rfl rfl rfl ?_
   refine al_as rfl rfl ?_
   refine al_nt ?_
   refine aw_cond rfl (fun hb19 => ?_) (fun hb19 => ?_)
   ·replace h := bif_t hb19 h
    refine aw_region ?_
    refine al_val (ov_build (cells := ([(iq (1 : Int)), nS, (bool false)] : List Value).toArray) (cs := [(iq (1 : Int)), nS, (bool false)]) rfl (fun w a hm hs => by simp only [List.map_toArray, List.map_cons, List.map_nil, List.toList_toArray, hs.ev (x := .const (iq (1 : Int))) rfl]; kernel_rfl)) ?_
    refine al_store (i := 0) (vs := [(iq (1 : Int)), nS, (bool false)]) (cs' := [(iq (1 : Int)), nS, (bool false)]) rfl rfl rfl sz128 (cv_rfl rfl) rfl (co_val rfl (co_val rfl (co_val rfl co_nil))) (Nat.le_of_ble_eq_true rfl) rfl rfl ?_
    refine al_nil ?_
    refine aq_block ?_
    refine aq_then ?_
    refine aw_seq ?_
    refine aw_sr ?_
    refine al_mv rfl rfl ?_
    refine al_val (ov_not rfl rfl) ?_
    refine al_nt ?_
    refine aw_cond rfl (fun hb20 => ?_) (fun hb20 => ?_)
    ·replace h := bif_t hb20 h
     refine aw_sr ?_
     refine al_as rfl rfl ?_
     refine al_as rfl rfl ?_
     refine al_nt ?_
     refine aw_ret ?_
     refine aq_then_ret ?_
     refine aq_block_ret ?_
     refine aq_then_ret ?_
     refine aq_block_ret ?_
     refine aq_nilR 128 tyS_glob_element ?_
     obtain rfl := Option.some.inj h
     exact fn_ret nS [0] [] rfl rfl rfl rfl (res2 rfl rfl rfl) rfl rfl rfl (by decide)
    ·replace h := bif_f hb20 h
     refine aw_skip ?_
     refine aq_then ?_
     refine aw_region ?_
     refine al_mv rfl rfl ?_
     refine al_val (ov_load (i := 0) (v := (ag [(iq (1 : Int)), nS, (bool false)])) rfl rfl Tryd.underlying128 sz128 rfl rfl rfl rfl) ?_
     refine al_buildSlice (τ := tyS_glob_element) (e := 128) (k := 1) (sz := 0) (by_ := 0) (z := undef) (cs := [(iq (1 : Int)), nS, (bool false)]) (xs := [(S_glob_element.mk (1 : Int) ([] : (List S_glob_span)) false)]) rfl (by decide) (fun w a hm hs => ⟨([(iq (1 : Int)), nS, (bool false)]).toArray, rfl, by simp only [List.map_toArray, List.map_cons, List.map_nil, hs.ev (x := .tmp 55) rfl]; exact run_bs [(ag [(iq (1 : Int)), nS, (bool false)])] [(iq (1 : Int)), nS, (bool false)] Tryd.underlying79 to128 rfl rfl (bs_cons (l := [(iq (1 : Int)), nS, (bool false)]) (cs := []) (cv_rfl rfl) rfl bs_nil) hm⟩) (fun hm => ⟨_, _, rfl, (fun hm => mknS_glob_element (x := (S_glob_element.mk (1 : Int) ([] : (List S_glob_span)) false)) rfl (nil_dat _ _ _)) hm, rfl⟩) rfl (fun v21 => ?_)
     obtain ⟨hc22, h⟩ := req_some h
     refine al_append 4 hc22.1 hc22.2 rfl (src_own (i := 4) 0 rfl) rfl rfl Tryd.underlying79 to128 rfl rfl rfl (fun v23 => ?_)
     refine al_as rfl rfl ?_
     refine al_nil ?_
     refine aq_block ?_
     exact aq_again k5 (v9, r8.2.2.left, v23, (l4x5 ++ ([(S_glob_element.mk (1 : Int) ([] : (List S_glob_span)) false)]))) (Nat.lt_succ_self _) h (fun w a hm hs => norm hm hs [3, 4] [0, 2] [(4, (pq g3)), (5, v23)] (by decide) ⟨rfl, rfl, trivial⟩)
   ·replace h := bif_f hb19 h
    refine aw_sr ?_
    refine al_in rfl rfl rfl rfl ?_
    refine al_as rfl rfl ?_
    refine al_nt ?_
    refine aw_cond rfl (fun hb24 => ?_) (fun hb24 => ?_)
    ·replace h := bif_t hb24 h
     refine aw_sr ?_
     refine al_mv rfl rfl ?_
     obtain ⟨r26, hc25, h⟩ := opt_some h
     refine al_call (vs := [(pq g3)]) (f___glob_reader__next_ok fu g3 v9 (S_glob_reader.mk r8.2.2.left) hc25) [] [2] [0, 1, 3] (pre_fz 0 rfl pre_nil) rfl (by simp) (by decide) (.inl rfl) rfl Tryd.func74 rfl rfl rfl (fun v27 => ?_)
     refine al_mv rfl rfl ?_
     refine al_ex rfl rfl rfl ?_
     refine al_ex rfl rfl rfl ?_
     refine al_as rfl rfl ?_
     refine al_as rfl rfl ?_
     refine al_nt ?_
     refine aw_region ?_
     refine al_mv rfl rfl ?_
     refine al_mv rfl rfl ?_
     refine al_val (ov_build (cells := ([(int .i32 r26.1), (int .i32 r26.1)] : List Value).toArray) (cs := [(int .i32 r26.1), (int .i32 r26.1)]) rfl (fun w a hm hs => by simp only [List.map_toArray, List.map_cons, List.map_nil, List.toList_toArray, hs.ev (x := .tmp 40) rfl, hs.ev (x := .tmp 41) rfl]; kernel_rfl)) ?_
     refine al_buildSlice (τ := tyS_glob_span) (e := 125) (k := 1) (sz := 0) (by_ := 0) (z := undef) (cs := [(int .i32 r26.1), (int .i32 r26.1)]) (xs := [(S_glob_span.mk r26.1 r26.1)]) rfl (by decide) (fun w a hm hs => ⟨([(int .i32 r26.1), (int .i32 r26.1)]).toArray, rfl, by simp only [List.map_toArray, List.map_cons, List.map_nil, hs.ev (x := .tmp 42) rfl]; exact run_bs [(ag [(int .i32 r26.1), (int .i32 r26.1)])] [(int .i32 r26.1), (int .i32 r26.1)] Tryd.underlying126 to125 rfl rfl (bs_cons (l := [(int .i32 r26.1), (int .i32 r26.1)]) (cs := []) (cv_rfl rfl) rfl bs_nil) hm⟩) (fun hm => ⟨_, _, rfl, (fun _ => mkS_glob_span rfl) hm, rfl⟩) rfl (fun v28 => ?_)
     refine al_val (ov_build (cells := ([(iq (0 : Int)), v28, (bool false)] : List Value).toArray) (cs := [(iq (0 : Int)), v28, (bool false)]) rfl (fun w a hm hs => by simp only [List.map_toArray, List.map_cons, List.map_nil, List.toList_toArray, hs.ev (x := .tmp 43) rfl]; obtain ⟨A0, l0, c0, e0⟩ := sl_own 0 rfl hm; rw [e0]; kernel_rfl)) ?_
     refine al_store (i := 2) (vs := [(iq (0 : Int)), v28, (bool false)]) (cs' := [(iq (0 : Int)), v28, (bool false)]) rfl rfl rfl sz128 (cv_rfl rfl) rfl (co_val rfl (co_own 0 rfl (co_val rfl co_nil))) (Nat.le_of_ble_eq_true rfl) rfl rfl ?_
     refine al_nil ?_
     refine aq_block ?_
     refine aq_then ?_
     refine aw_seq ?_
     refine aw_sr ?_
     refine al_mv rfl rfl ?_
     refine al_val (ov_not rfl rfl) ?_
     refine al_nt ?_
     refine aw_cond rfl (fun hb29 => ?_) (fun hb29 => ?_)
     ·replace h := bif_t hb29 h
      refine aw_sr ?_
      refine al_as rfl rfl ?_
      refine al_as rfl rfl ?_
      refine al_nt ?_
      refine aw_ret ?_
      refine aq_then_ret ?_
      refine aq_block_ret ?_
      refine aq_then_ret ?_
      refine aq_block_ret ?_
      refine aq_nilR 128 tyS_glob_element ?_
      obtain rfl := Option.some.inj h
      exact fn_ret nS [0] [] rfl rfl rfl rfl (res2 rfl rfl rfl) rfl rfl rfl (by decide)
     ·replace h := bif_f hb29 h
      refine aw_skip ?_
      refine aq_then ?_
      refine aw_region ?_
      refine al_mv rfl rfl ?_
      refine al_val (ov_load (i := 2) (v := (ag [(iq (0 : Int)), v28, (bool false)])) rfl rfl Tryd.underlying128 sz128 rfl rfl rfl rfl) ?_
      refine al_freeze 0 rfl rfl ?_
      refine al_buildSlice (τ := tyS_glob_element) (e := 128) (k := 1) (sz := 0) (by_ := 0) (z := undef) (cs := [(iq (0 : Int)), v28, (bool false)]) (xs := [(S_glob_element.mk (0 : Int) ([(S_glob_span.mk r26.1 r26.1)]) false)]) rfl (by decide) (fun w a hm hs => ⟨([(iq (0 : Int)), v28, (bool false)]).toArray, rfl, by simp only [List.map_toArray, List.map_cons, List.map_nil, hs.ev (x := .tmp 55) rfl]; exact run_bs [(ag [(iq (0 : Int)), v28, (bool false)])] [(iq (0 : Int)), v28, (bool false)] Tryd.underlying79 to128 rfl rfl (bs_cons (l := [(iq (0 : Int)), v28, (bool false)]) (cs := []) (cv_rfl rfl) rfl bs_nil) hm⟩) (fun hm => ⟨_, _, rfl, (fun hm => mknS_glob_element (x := (S_glob_element.mk (0 : Int) ([(S_glob_span.mk r26.1 r26.1)]) false)) rfl (fz_at (i := 0) hm rfl)) hm, rfl⟩) rfl (fun v30 => ?_)
      obtain ⟨hc31, h⟩ := req_some h
      refine al_append 4 hc31.1 hc31.2 rfl (src_own (i := 4) 0 rfl) rfl rfl Tryd.underlying79 to128 rfl rfl rfl (fun v32 => ?_)
      refine al_as rfl rfl ?_
      refine al_nil ?_
      refine aq_block ?_
      exact aq_again k5 (v27, r26.2.2.left, v32, (l4x5 ++ ([(S_glob_element.mk (0 : Int) ([(S_glob_span.mk r26.1 r26.1)]) false)]))) (Nat.lt_succ_self _) h (fun w a hm hs => norm hm hs [1, 4] [1, 4] [(4, (pq g3)), (5, v32)] (by decide) ⟨rfl, rfl, trivial⟩)
    ·replace h := bif_f hb24 h
     refine aw_sr ?_
     refine al_in rfl rfl rfl rfl ?_
     refine al_as rfl rfl ?_
     refine al_nt ?_
     refine aw_cond rfl (fun hb33 => ?_) (fun hb33 => ?_)
     ·replace h := bif_t hb33 h
      refine aw_region ?_
      refine al_mv rfl rfl ?_
      obtain ⟨r35, hc34, h⟩ := opt_some h
      refine al_call (vs := [(pq g3)]) (f___glob_reader__class_ok fu g3 v9 (S_glob_reader.mk r8.2.2.left) hc34) [] [2] [0, 1, 3] (pre_fz 0 rfl pre_nil) rfl (by simp) (by decide) (.inl rfl) rfl Tryd.func75 rfl rfl rfl (fun ⟨v36, v37⟩ => ?_)
      refine al_mv rfl rfl ?_
      refine al_ex rfl rfl rfl ?_
      refine al_ex rfl rfl rfl ?_
      refine al_store (i := 1) (vs := [(iq r35.1.kind), v36, (bool r35.1.not)]) (cs' := [(iq r35.1.kind), v36, (bool r35.1.not)]) rfl rfl rfl sz128 (cv_rfl rfl) rfl (co_val rfl (co_fz 0 rfl (co_val rfl co_nil))) (Nat.le_of_ble_eq_true rfl) rfl rfl ?_
      refine al_as rfl rfl ?_
      refine al_nil ?_
      refine aq_block ?_
      refine aq_then ?_
      refine aw_seq ?_
      refine aw_sr ?_
      refine al_mv rfl rfl ?_
      refine al_val (ov_not rfl rfl) ?_
      refine al_nt ?_
      refine aw_cond rfl (fun hb38 => ?_) (fun hb38 => ?_)
      ·replace h := bif_t hb38 h
       refine aw_sr ?_
       refine al_as rfl rfl ?_
       refine al_as rfl rfl ?_
       refine al_nt ?_
       refine aw_ret ?_
       refine aq_then_ret ?_
       refine aq_block_ret ?_
       refine aq_then_ret ?_
       refine aq_block_ret ?_
       refine aq_nilR 128 tyS_glob_element ?_
       obtain rfl := Option.some.inj h
       exact fn_ret nS [0] [] rfl rfl rfl rfl (res2 rfl rfl rfl) rfl rfl rfl (by decide)
      ·replace h := bif_f hb38 h
       refine aw_skip ?_
       refine aq_then ?_
       refine aw_region ?_
       refine al_mv rfl rfl ?_
       refine al_val (ov_load (i := 1) (v := (ag [(iq r35.1.kind), v36, (bool r35.1.not)])) rfl rfl Tryd.underlying128 sz128 rfl rfl rfl rfl) ?_
       refine al_buildSlice (τ := tyS_glob_element) (e := 128) (k := 1) (sz := 0) (by_ := 0) (z := undef) (cs := [(iq r35.1.kind), v36, (bool r35.1.not)]) (xs := [(S_glob_element.mk r35.1.kind r35.1.spans r35.1.not)]) rfl (by decide) (fun w a hm hs => ⟨([(iq r35.1.kind), v36, (bool r35.1.not)]).toArray, rfl, by simp only [List.map_toArray, List.map_cons, List.map_nil, hs.ev (x := .tmp 55) rfl]; exact run_bs [(ag [(iq r35.1.kind), v36, (bool r35.1.not)])] [(iq r35.1.kind), v36, (bool r35.1.not)] Tryd.underlying79 to128 rfl rfl (bs_cons (l := [(iq r35.1.kind), v36, (bool r35.1.not)]) (cs := []) (cv_rfl rfl) rfl bs_nil) hm⟩) (fun hm => ⟨_, _, rfl, (fun hm => mknS_glob_element (x := (S_glob_element.mk r35.1.kind r35.1.spans r35.1.not)) rfl (fz_at (i := 0) hm rfl)) hm, rfl⟩) rfl (fun v39 => ?_)
       obtain ⟨hc40, h⟩ := req_some h
       refine al_append 4 hc40.1 hc40.2 rfl (src_own (i := 4) 0 rfl) rfl rfl Tryd.underlying79 to128 rfl rfl rfl (fun v41 => ?_)
       refine al_as rfl rfl ?_
       refine al_nil ?_
       refine aq_block ?_
       exact aq_again k5 (v37, r35.2.2.left, v41, (l4x5 ++ ([(S_glob_element.mk r35.1.kind r35.1.spans r35.1.not)]))) (Nat.lt_succ_self _) h (fun w a hm hs => norm hm hs [1, 4] [1, 4] [(4, (pq g3)), (5, v41)] (by decide) ⟨rfl, rfl, trivial⟩)
     ·replace h := bif_f hb33 h
      refine aw_skip ?_
      refine aq_block ?_
      refine aq_then ?_
      refine aw_seq ?_
      refine aw_sr ?_
      refine al_mv rfl rfl ?_
      refine al_val (ov_not rfl rfl) ?_
      refine al_nt ?_
      refine aw_cond rfl (fun hb42 => ?_) (fun hb42 => ?_)
      ·replace h := bif_t hb42 h
       refine aw_sr ?_
       refine al_as rfl rfl ?_
       refine al_as rfl rfl ?_
       refine al_nt ?_
       refine aw_ret ?_
       refine aq_then_ret ?_
       refine aq_block_ret ?_
       refine aq_then_ret ?_
       refine aq_block_ret ?_
       refine aq_nilR 128 tyS_glob_element ?_
       obtain rfl := Option.some.inj h
       exact fn_ret nS [0] [] rfl rfl rfl rfl (res2 rfl rfl rfl) rfl rfl rfl (by decide)
      ·replace h := bif_f hb42 h
       refine aw_skip ?_
       refine aq_then ?_
       refine aw_region ?_
       refine al_mv rfl rfl ?_
       refine al_val (ov_load (i := 0) (v := (ag [(iq (0 : Int)), v11, (bool false)])) rfl rfl Tryd.underlying128 sz128 rfl rfl rfl rfl) ?_
       refine al_freeze 1 rfl rfl ?_
       refine al_buildSlice (τ := tyS_glob_element) (e := 128) (k := 1) (sz := 0) (by_ := 0) (z := undef) (cs := [(iq (0 : Int)), v11, (bool false)]) (xs := [(S_glob_element.mk (0 : Int) ([(S_glob_span.mk r8.1 r8.1)]) false)]) rfl (by decide) (fun w a hm hs => ⟨([(iq (0 : Int)), v11, (bool false)]).toArray, rfl, by simp only [List.map_toArray, List.map_cons, List.map_nil, hs.ev (x := .tmp 55) rfl]; exact run_bs [(ag [(iq (0 : Int)), v11, (bool false)])] [(iq (0 : Int)), v11, (bool false)] Tryd.underlying79 to128 rfl rfl (bs_cons (l := [(iq (0 : Int)), v11, (bool false)]) (cs := []) (cv_rfl rfl) rfl bs_nil) hm⟩) (fun hm => ⟨_, _, rfl, (fun hm => mknS_glob_element (x := (S_glob_element.mk (0 : Int) ([(S_glob_span.mk r8.1 r8.1)]) false)) rfl (fz_at (i := 0) hm rfl)) hm, rfl⟩) rfl (fun v43 => ?_)
       obtain ⟨hc44, h⟩ := req_some h
       refine al_append 3 hc44.1 hc44.2 rfl (src_own (i := 3) 0 rfl) rfl rfl Tryd.underlying79 to128 rfl rfl rfl (fun v45 => ?_)
       refine al_as rfl rfl ?_
       refine al_nil ?_
       refine aq_block ?_
       exact aq_again k5 (v9, r8.2.2.left, v45, (l4x5 ++ ([(S_glob_element.mk (0 : Int) ([(S_glob_span.mk r8.1 r8.1)]) false)]))) (Nat.lt_succ_self _) h (fun w a hm hs => norm hm hs [2, 3] [1, 3] [(4, (pq g3)), (5, v45)] (by decide) ⟨rfl, rfl, trivial⟩)
def f_glob_parse_L14 (kk8 : ((List S_glob_part) → Option ((List S_glob_part) × Int))) (r10 : (List (List UInt8))) (fu : Nat) : Nat → (List S_glob_part) → Int → Option ((List S_glob_part) × Int)
  | 0, _, _ => none
  | k13 + 1, l12x6, l12i28 => (bif (decide (l12i28 < (r10.length : Int))) then (opt (at? r10 l12i28) fun (u16 : (List UInt8)) => (opt (f_glob_elements fu u16) fun (r22 : ((List S_glob_element) × Bool)) => (lt (fun (j24b46 : Bool) => (bif j24b46 then (some (([] : List S_glob_part), (13 : Int))) else (req (((l12x6.length + ([(S_glob_part.mk (u16 == ([42, 42] : List UInt8)) r22.1)]).length) * 32 : Nat) ≤ 140737488355328 ∧ l12x6.length + ([(S_glob_part.mk (u16 == ([42, 42] : List UInt8)) r22.1)]).length ≤ 9223372036854775807) (f_glob_parse_L14 kk8 r10 fu k13 (l12x6 ++ ([(S_glob_part.mk (u16 == ([42, 42] : List UInt8)) r22.1)])) (IntKind.i64.wrap (l12i28 + (1 : Int))))))) fun (kk25 : Bool → Option ((List S_glob_part) × Int)) => (bif (!r22.2) then (kk25 true) else (kk25 (u16 == ([] : List UInt8))))))) else (kk8 l12x6))
def f_glob_parse (fu : Nat) (a0 : (List UInt8)) : Option ((List S_glob_part) × Int) := (bif (decide ((a0.length : Int) > (60 : Int))) then (some (([] : List S_glob_part), (2 : Int))) else (opt (f_strings_CutPrefix fu a0 ([47] : List UInt8)) fun (r3 : ((List UInt8) × Bool)) => (lt (fun (j4b24 : Bool) => (bif j4b24 then (some (([] : List S_glob_part), (13 : Int))) else (lt (fun (j7x6 : (List S_glob_part)) => (some (j7x6, (0 : Int)))) fun (kk8 : (List S_glob_part) → Option ((List S_glob_part) × Int)) => (opt (f_strings_Split fu r3.1 ([47] : List UInt8)) fun (r10 : (List (List UInt8))) => (f_glob_parse_L14 kk8 r10 fu fu ([] : List S_glob_part) (0 : Int)))))) fun (kk5 : Bool → Option ((List S_glob_part) × Int)) => (bif (!r3.2) then (kk5 true) else (opt (f_utf8_ValidString fu a0) fun (r33 : Bool) => (kk5 (!r33)))))))
set_option maxHeartbeats 2000000 in
set_option maxRecDepth 100000 in
theorem f_glob_parse_ok (fu : Nat) (a0 : (List UInt8)) {r : ((List S_glob_part) × Int)} (h : f_glob_parse fu a0 = some r) : FnOk Tryd.prog 18 [(str a0)] [uMax, uTabs] [] (fun (i : Value) => { val := (Value.tuple #[i, (int .i64 r.2)]), own := [(oRow i 81 tyS_glob_part r.1)] }) := by
 unfold f_glob_parse at h
 refine fn_enter Tryd.func18 rfl Tryd.ntmps18 rfl (fun w0 Z0 => ?_)
 refine aw_sr ?_
 refine al_as rfl rfl ?_
 refine al_as rfl rfl ?_
 refine al_nt ?_
 refine aw_seq ?_
 refine aw_sr ?_
 refine al_mv rfl rfl ?_
 refine al_val (ov_strLen Tryd.underlying9 rfl rfl) ?_
 refine al_in rfl rfl rfl rfl ?_
 refine al_nt ?_
 refine aw_cond rfl (fun hb1 => ?_) (fun hb1 => ?_)
 ·replace h := bif_t hb1 h
  refine aw_sr ?_
  refine al_as rfl rfl ?_
  refine al_as rfl rfl ?_
  refine al_nt ?_
  refine aw_ret ?_
  refine aq_then_ret ?_
  refine aq_nilR 81 tyS_glob_part ?_
  obtain rfl := Option.some.inj h
  exact fn_ret nS [0] [] rfl rfl rfl rfl (res2 rfl rfl rfl) rfl rfl rfl (by decide)
 ·replace h := bif_f hb1 h
  refine aw_skip ?_
  refine aq_tr ?_
  refine al_mv rfl rfl ?_
  obtain ⟨r3, hc2, h⟩ := opt_some h
  refine al_call (vs := [(str a0), (str ([47] : List UInt8))]) (f_strings_CutPrefix_ok fu a0 ([47] : List UInt8) hc2) [] [] [] pre_nil rfl (by simp) (by decide) (.inl rfl) rfl Tryd.func39 rfl rfl rfl (fun _ => ?_)
  refine al_mv rfl rfl ?_
  refine al_ex rfl rfl rfl ?_
  refine al_ex rfl rfl rfl ?_
  refine al_as rfl rfl ?_
  refine al_as rfl rfl ?_
  refine al_nt ?_
  refine aw_seq ?_
  obtain ⟨kk5, hkk5, h⟩ := lt_some h
  refine aw_seq_join (ι := Bool) (fun i => (memOf w0 Z0 [] [] [uMax, uTabs])) (fun i => (tab [(4, (str r3.1)), (24, (bool i))])) (fun i => kk5 i = some r) ?_ ?_
  ·rintro j4b24 h
   have h : kk5 j4b24 = some r := h
   rw [hkk5] at h
   dsimp only at h
   clear hkk5
   refine aw_show (m := (memOf w0 Z0 [] [] [uMax, uTabs])) (S := (tab [(4, (str r3.1)), (24, (bool j4b24))])) ?_
   refine aw_cond rfl (fun hb6 => ?_) (fun hb6 => ?_)
   ·replace h := bif_t hb6 h
    refine aw_sr ?_
    refine al_as rfl rfl ?_
    refine al_as rfl rfl ?_
    refine al_nt ?_
    refine aw_ret ?_
    refine aq_then_ret ?_
    refine aq_nilR 81 tyS_glob_part ?_
    obtain rfl := Option.some.inj h
    exact fn_ret nS [0] [] rfl rfl rfl rfl (res2 rfl rfl rfl) rfl rfl rfl (by decide)
   ·replace h := bif_f hb6 h
    refine aw_skip ?_
    refine aq_tr ?_
    refine al_as rfl rfl ?_
    refine al_nt ?_
    obtain ⟨kk8, hkk8, h⟩ := lt_some h
    refine aw_seq_join (ι := Value × (List S_glob_part)) (fun i => (memOf w0 Z0 [] [(oRow i.1 81 tyS_glob_part i.2)] [uMax, uTabs])) (fun i => (tab [(6, i.1)])) (fun i => kk8 i.2 = some r) ?_ ?_
    ·rintro ⟨j7v6, j7x6⟩ h
     have h : kk8 j7x6 = some r := h
     rw [hkk8] at h
     dsimp only at h
     clear hkk8
     refine aw_show (m := (memOf w0 Z0 [] [(oRow j7v6 81 tyS_glob_part j7x6)] [uMax, uTabs])) (S := (tab [(6, j7v6)])) ?_
     refine aw_sr ?_
     refine al_mv rfl rfl ?_
     refine al_as rfl rfl ?_
     refine al_as rfl rfl ?_
     refine al_nt ?_
     refine aw_ret ?_
     obtain rfl := Option.some.inj h
     exact fn_ret j7v6 [0] [] rfl rfl rfl rfl (res2 rfl rfl rfl) rfl rfl rfl (by decide)
    ·clear hkk8
     refine aw_sr ?_
     refine al_mv rfl rfl ?_
     obtain ⟨r10, hc9, h⟩ := opt_some h
     refine al_call (vs := [(str r3.1), (str ([47] : List UInt8))]) (f_strings_Split_ok fu r3.1 ([47] : List UInt8) hc9) [] [] [] (pre_fz 0 rfl pre_nil) rfl (by simp) (by decide) (.inl rfl) rfl Tryd.func41 rfl rfl rfl (fun v11 => ?_)
     refine al_val (ov_lenR 0 rfl rfl Tryd.underlying22 rfl) ?_
     refine al_mv rfl rfl ?_
     refine al_nt ?_
     refine aw_block ?_
     refine aw_nilR 81 tyS_glob_part ?_
     refine aw_state (aw_loop (ι := Value × (List S_glob_part) × Int) (fun i => (memOf w0 Z0 [] [(oRow i.1 81 tyS_glob_part i.2.1), (oRow v11 9 tyStr r10)] [uMax, uTabs])) (fun i => (tab [(6, i.1), (26, v11), (27, (iq (r10.length : Int))), (28, (iq i.2.2))])) (fun q i => f_glob_parse_L14 kk8 r10 fu q i.2.1 i.2.2 = some r) ?_ fu (nS, ([] : List S_glob_part), (0 : Int)) h) (fun w a hm hs => norm hm hs [0, 1] [0, 1] [(6, nS), (26, v11), (27, (iq (r10.length : Int))), (28, (iq (0 : Int)))] (by decide) ⟨rfl, rfl, rfl, rfl, trivial⟩)
     clear h
     rintro k13 ⟨l12v6, l12x6, l12i28⟩ h
     have h : f_glob_parse_L14 kk8 r10 fu k13 l12x6 l12i28 = some r := h
     obtain _ | k13 := k13
     · rw [f_glob_parse_L14] at h; cases h
     rw [f_glob_parse_L14] at h
     refine aw_show (m := (memOf w0 Z0 [] [(oRow l12v6 81 tyS_glob_part l12x6), (oRow v11 9 tyStr r10)] [uMax, uTabs])) (S := (tab [(6, l12v6), (26, v11), (27, (iq (r10.length : Int))), (28, (iq l12i28))])) ?_
     refine aw_sr ?_
     refine al_in rfl rfl rfl rfl ?_
     refine al_nt ?_
     refine aw_seq ?_
     refine aw_cond rfl (fun hb15 => ?_) (fun hb15 => ?_)
     ·replace h := bif_t hb15 h
      refine aw_skip ?_
      refine aq_then ?_
      refine aw_seq ?_
      refine aw_block ?_
      refine aw_sr ?_
      obtain ⟨u16, hu17, h⟩ := opt_some h
      refine al_idxR 1 (at_some hu17).1 (at_some hu17).2.1 rfl rfl rfl Tryd.underlying22 sz9 rfl (fun p18 hp19 => ?_)
      refine al_val (ov_loadR (ds := [(str u16)]) 1 rfl hp19 (at_some hu17).2.2 (fun h => h) rfl Tryd.underlying9 sz9 rfl rfl rfl) ?_
      refine al_as rfl rfl ?_
      refine al_nt ?_
      refine aw_sr ?_
      refine al_mv rfl rfl ?_
      refine al_val (ov_strCmp rfl rfl rfl rfl) ?_
      refine al_val (ov_build (cells := ([(bool (u16 == ([42, 42] : List UInt8))), nS] : List Value).toArray) (cs := [(bool (u16 == ([42, 42] : List UInt8))), nS]) rfl (fun w a hm hs => by simp only [List.map_toArray, List.map_cons, List.map_nil, List.toList_toArray, hs.ev (x := .tmp 33) rfl]; kernel_rfl)) ?_
      refine al_alloc (zs := [(bool false), nS]) (zeroOf_to to81) rfl rfl (fun g20 => ?_)
      refine al_store (i := 0) (vs := [(bool (u16 == ([42, 42] : List UInt8))), nS]) (cs' := [(bool (u16 == ([42, 42] : List UInt8))), nS]) rfl rfl rfl sz81 (cv_rfl rfl) rfl (co_val rfl (co_val rfl co_nil)) (Nat.le_of_ble_eq_true rfl) rfl rfl ?_
      refine al_nt ?_
      refine aw_seq ?_
      refine aw_sr ?_
      refine al_mv rfl rfl ?_
      obtain ⟨r22, hc21, h⟩ := opt_some h
      refine al_call (vs := [(str u16)]) (f_glob_elements_ok fu u16 hc21) [] [] [0, 1, 2] pre_nil rfl (by simp) (by decide) (.inl rfl) rfl Tryd.func42 rfl rfl rfl (fun v23 => ?_)
      refine al_mv rfl rfl ?_
      refine al_ex rfl rfl rfl ?_
      refine al_ex rfl rfl rfl ?_
      refine al_val (ov_fieldA (p := 1) rfl Tryd.underlying81 rfl sz79 rfl rfl rfl) ?_
      refine al_store (i := 1) (vs := [v23]) (cs' := [(bool (u16 == ([42, 42] : List UInt8))), v23]) rfl rfl rfl sz79 (cv_own 0 rfl) rfl (co_own 0 rfl co_nil) (Nat.le_of_ble_eq_true rfl) rfl rfl ?_
      refine al_as rfl rfl ?_
      refine al_nt ?_
      obtain ⟨kk25, hkk25, h⟩ := lt_some h
      refine aw_seq_join (ι := Bool) (fun i => (memOf w0 Z0 [] [(oRow l12v6 81 tyS_glob_part l12x6), (oRow v23 128 tyS_glob_element r22.1), (oBox g20 81 [(bool (u16 == ([42, 42] : List UInt8))), v23]), (oRow v11 9 tyStr r10)] [uMax, uTabs])) (fun i => (tab [(6, l12v6), (9, (pq g20)), (26, v11), (27, (iq (r10.length : Int))), (28, (iq l12i28)), (46, (bool i))])) (fun i => kk25 i = some r) ?_ ?_
      ·rintro j24b46 h
       have h : kk25 j24b46 = some r := h
       rw [hkk25] at h
       dsimp only at h
       clear hkk25
       refine aw_show (m := (memOf w0 Z0 [] [(oRow l12v6 81 tyS_glob_part l12x6), (oRow v23 128 tyS_glob_element r22.1), (oBox g20 81 [(bool (u16 == ([42, 42] : List UInt8))), v23]), (oRow v11 9 tyStr r10)] [uMax, uTabs])) (S := (tab [(6, l12v6), (9, (pq g20)), (26, v11), (27, (iq (r10.length : Int))), (28, (iq l12i28)), (46, (bool j24b46))])) ?_
       refine aw_cond rfl (fun hb26 => ?_) (fun hb26 => ?_)
       ·replace h := bif_t hb26 h
        refine aw_sr ?_
        refine al_as rfl rfl ?_
        refine al_as rfl rfl ?_
        refine al_nt ?_
        refine aw_ret ?_
        refine aq_then_ret ?_
        refine aq_block_ret ?_
        refine aq_then_ret ?_
        refine aq_then_ret ?_
        refine aq_block_ret ?_
        refine aq_then_ret ?_
        refine aq_nilR 81 tyS_glob_part ?_
        obtain rfl := Option.some.inj h
        exact fn_ret nS [0] [] rfl rfl rfl rfl (res2 rfl rfl rfl) rfl rfl rfl (by decide)
       ·replace h := bif_f hb26 h
        refine aw_skip ?_
        refine aq_then ?_
        refine aw_region ?_
        refine al_mv rfl rfl ?_
        refine al_val (ov_load (i := 2) (v := (ag [(bool (u16 == ([42, 42] : List UInt8))), v23])) rfl rfl Tryd.underlying81 sz81 rfl rfl rfl rfl) ?_
        refine al_freeze 1 rfl rfl ?_
        refine al_buildSlice (τ := tyS_glob_part) (e := 81) (k := 1) (sz := 0) (by_ := 0) (z := undef) (cs := [(bool (u16 == ([42, 42] : List UInt8))), v23]) (xs := [(S_glob_part.mk (u16 == ([42, 42] : List UInt8)) r22.1)]) rfl (by decide) (fun w a hm hs => ⟨([(bool (u16 == ([42, 42] : List UInt8))), v23]).toArray, rfl, by simp only [List.map_toArray, List.map_cons, List.map_nil, hs.ev (x := .tmp 48) rfl]; exact run_bs [(ag [(bool (u16 == ([42, 42] : List UInt8))), v23])] [(bool (u16 == ([42, 42] : List UInt8))), v23] Tryd.underlying44 to81 rfl rfl (bs_cons (l := [(bool (u16 == ([42, 42] : List UInt8))), v23]) (cs := []) (cv_rfl rfl) rfl bs_nil) hm⟩) (fun hm => ⟨_, _, rfl, (fun hm => mknS_glob_part (x := (S_glob_part.mk (u16 == ([42, 42] : List UInt8)) r22.1)) rfl (fz_at (i := 0) hm rfl)) hm, rfl⟩) rfl (fun v27 => ?_)
        obtain ⟨hc28, h⟩ := req_some h
        refine al_append 1 hc28.1 hc28.2 rfl (src_own (i := 1) 0 rfl) rfl rfl Tryd.underlying44 to81 rfl rfl rfl (fun v29 => ?_)
        refine al_as rfl rfl ?_
        refine al_nil ?_
        refine aq_block ?_
        refine aq_then ?_
        refine aw_region ?_
        refine al_in rfl rfl rfl rfl ?_
        refine al_mv rfl rfl ?_
        refine al_nil ?_
        exact aq_again k13 (v29, (l12x6 ++ ([(S_glob_part.mk (u16 == ([42, 42] : List UInt8)) r22.1)])), (wq (l12i28 + (1 : Int)))) (Nat.lt_succ_self _) h (fun w a hm hs => norm hm hs [1, 3] [1, 2] [(6, v29), (26, v11), (27, (iq (r10.length : Int))), (28, (iq (wq (l12i28 + (1 : Int)))))] (by decide) ⟨rfl, rfl, rfl, rfl, trivial⟩)
      ·clear hkk25
       refine aw_region ?_
       refine al_mv rfl rfl ?_
       refine al_val (ov_not rfl rfl) ?_
       refine al_mv rfl rfl ?_
       refine al_caseB 43 rfl (fun hb30 => ?_) (fun hb30 => ?_)
       ·replace h := bif_t hb30 h
        refine al_skip ?_
        refine al_skip ?_
        refine al_val (ov_pick_t rfl rfl rfl) ?_
        refine al_nil ?_
        exact aq_join true h (fun w a hm hs => norm hm hs [2, 0, 1, 3] [0, 1] [(6, l12v6), (9, (pq g20)), (26, v11), (27, (iq (r10.length : Int))), (28, (iq l12i28)), (46, (bool true))] (by decide) ⟨rfl, rfl, rfl, rfl, rfl, rfl, trivial⟩)
       ·replace h := bif_f hb30 h
        refine al_mv rfl rfl ?_
        refine al_val (ov_strCmp rfl rfl rfl rfl) ?_
        refine al_val (ov_pick_f rfl rfl rfl) ?_
        refine al_nil ?_
        exact aq_join (u16 == ([] : List UInt8)) h (fun w a hm hs => norm hm hs [2, 0, 1, 3] [0, 1] [(6, l12v6), (9, (pq g20)), (26, v11), (27, (iq (r10.length : Int))), (28, (iq l12i28)), (46, (bool (u16 == ([] : List UInt8))))] (by decide) ⟨rfl, rfl, rfl, rfl, rfl, rfl, trivial⟩)
     ·replace h := bif_f hb15 h
      refine aw_exit ?_
      refine aq_then_exit ?_
      refine aq_then_exit ?_
      refine aq_block_exit ?_
      exact aq_join (l12v6, l12x6) h (fun w a hm hs => norm hm hs [0] [0, 1] [(6, l12v6)] (by decide) ⟨rfl, trivial⟩)
  ·clear hkk5
   refine aw_region ?_
   refine al_mv rfl rfl ?_
   refine al_val (ov_not rfl rfl) ?_
   refine al_mv rfl rfl ?_
   refine al_caseB 20 rfl (fun hb31 => ?_) (fun hb31 => ?_)
   ·replace h := bif_t hb31 h
    refine al_skip ?_
    refine al_skip ?_
    refine al_skip ?_
    refine al_val (ov_pick_t rfl rfl rfl) ?_
    refine al_nil ?_
    exact aq_join true h (fun w a hm hs => norm hm hs [] [0, 1] [(4, (str r3.1)), (24, (bool true))] (by decide) ⟨rfl, rfl, trivial⟩)
   ·replace h := bif_f hb31 h
    refine al_mv rfl rfl ?_
    obtain ⟨r33, hc32, h⟩ := opt_some h
    refine al_call (vs := [(str a0)]) (f_utf8_ValidString_ok fu a0 hc32) [] [] [] (pre_fz 1 rfl pre_nil) rfl (by simp) (by decide) (.inl rfl) rfl Tryd.func40 rfl rfl rfl (fun _ => ?_)
    refine al_val (ov_not rfl rfl) ?_
    refine al_val (ov_pick_f rfl rfl rfl) ?_
    refine al_nil ?_
    exact aq_join (!r33) h (fun w a hm hs => norm hm hs [] [0, 1] [(4, (str r3.1)), (24, (bool (!r33)))] (by decide) ⟨rfl, rfl, trivial⟩)
def f_names_Check_L10 (a0 : (List UInt8)) (kk5 : (Int → Option Int)) : Nat → Int → Int → Option Int
  | 0, _, _ => none
  | k9 + 1, l8i3, l8xp22 => (bif (decide (l8xp22.toNat < a0.length)) then (lt (fun (j12b35 : Bool) => (bif j12b35 then (some (8 : Int)) else (f_names_Check_L10 a0 kk5 k9 (IntKind.i64.wrap (l8i3 + (1 : Int))) ((l8xp22.toNat + (dec a0 l8xp22.toNat).2 : Nat) : Int)))) fun (kk13 : Bool → Option Int) => (bif ((((dec a0 l8xp22.toNat).1 : Nat) : Int) == (47 : Int)) then (kk13 true) else (bif (decide ((((dec a0 l8xp22.toNat).1 : Nat) : Int) < (32 : Int))) then (kk13 true) else (kk13 ((((dec a0 l8xp22.toNat).1 : Nat) : Int) == (127 : Int)))))) else (kk5 l8i3))
def f_names_Check (fu : Nat) (a0 : (List UInt8)) : Option Int := (lt (fun (j1b20 : Bool) => (bif j1b20 then (some (8 : Int)) else (lt (fun (j4i3 : Int) => (bif (decide (j4i3 > (24 : Int))) then (some (2 : Int)) else (some (0 : Int)))) fun (kk5 : Int → Option Int) => (f_names_Check_L10 a0 kk5 fu (0 : Int) (0 : Int))))) fun (kk2 : Bool → Option Int) => (bif (a0 == ([] : List UInt8)) then (kk2 true) else (bif (a0 == ([46] : List UInt8)) then (kk2 true) else (bif (a0 == ([46, 46] : List UInt8)) then (kk2 true) else (opt (f_utf8_ValidString fu a0) fun (r21 : Bool) => (kk2 (!r21)))))))
set_option maxHeartbeats 2000000 in
set_option maxRecDepth 100000 in
theorem f_names_Check_ok (fu : Nat) (a0 : (List UInt8)) {r : Int} (h : f_names_Check fu a0 = some r) : FnOk Tryd.prog 76 [(str a0)] [uTabs] [] (fun (i : Unit) => { val := (int .i64 r) }) := by
 unfold f_names_Check at h
 refine fn_enter Tryd.func76 rfl Tryd.ntmps76 rfl (fun w0 Z0 => ?_)
 refine aw_sr ?_
 refine al_as rfl rfl ?_
 refine al_nt ?_
 refine aw_seq ?_
 obtain ⟨kk2, hkk2, h⟩ := lt_some h
 refine aw_seq_join (ι := Bool) (fun i => (memOf w0 Z0 [] [] [uTabs])) (fun i => (tab [(0, (str a0)), (20, (bool i))])) (fun i => kk2 i = some r) ?_ ?_
 ·rintro j1b20 h
  have h : kk2 j1b20 = some r := h
  rw [hkk2] at h
  dsimp only at h
  clear hkk2
  refine aw_show (m := (memOf w0 Z0 [] [] [uTabs])) (S := (tab [(0, (str a0)), (20, (bool j1b20))])) ?_
  refine aw_cond rfl (fun hb3 => ?_) (fun hb3 => ?_)
  ·replace h := bif_t hb3 h
   refine aw_sr ?_
   refine al_as rfl rfl ?_
   refine al_nt ?_
   refine aw_ret ?_
   refine aq_then_ret ?_
   obtain rfl := Option.some.inj h
   exact fn_ret () [] [] rfl rfl rfl rfl (res1 rfl rfl) rfl rfl rfl (by decide)
  ·replace h := bif_f hb3 h
   refine aw_skip ?_
   refine aq_tr ?_
   refine al_as rfl rfl ?_
   refine al_nt ?_
   obtain ⟨kk5, hkk5, h⟩ := lt_some h
   refine aw_seq_join (ι := Int) (fun i => (memOf w0 Z0 [] [] [uTabs])) (fun i => (tab [(3, (iq i))])) (fun i => kk5 i = some r) ?_ ?_
   ·rintro j4i3 h
    have h : kk5 j4i3 = some r := h
    rw [hkk5] at h
    dsimp only at h
    clear hkk5
    refine aw_show (m := (memOf w0 Z0 [] [] [uTabs])) (S := (tab [(3, (iq j4i3))])) ?_
    refine aw_seq ?_
    refine aw_sr ?_
    refine al_mv rfl rfl ?_
    refine al_in rfl rfl rfl rfl ?_
    refine al_nt ?_
    refine aw_cond rfl (fun hb6 => ?_) (fun hb6 => ?_)
    ·replace h := bif_t hb6 h
     refine aw_sr ?_
     refine al_as rfl rfl ?_
     refine al_nt ?_
     refine aw_ret ?_
     refine aq_then_ret ?_
     obtain rfl := Option.some.inj h
     exact fn_ret () [] [] rfl rfl rfl rfl (res1 rfl rfl) rfl rfl rfl (by decide)
    ·replace h := bif_f hb6 h
     refine aw_skip ?_
     refine aq_tr ?_
     refine al_as rfl rfl ?_
     refine al_nt ?_
     refine aw_ret ?_
     obtain rfl := Option.some.inj h
     exact fn_ret () [] [] rfl rfl rfl rfl (res1 rfl rfl) rfl rfl rfl (by decide)
   ·clear hkk5
    refine aw_sr ?_
    refine al_mv rfl rfl ?_
    refine al_range rfl Tryd.underlying9 rfl (fun g7 => ?_)
    refine al_nt ?_
    refine aw_block ?_
    refine aw_state (aw_loop (ι := Int × Int) (fun i => (memOf w0 Z0 [] [(oIter g7 a0 i.2)] [uTabs])) (fun i => (tab [(3, (iq i.1)), (22, (pq g7))])) (fun q i => f_names_Check_L10 a0 kk5 q i.1 i.2 = some r) ?_ fu ((0 : Int), (0 : Int)) h) (fun w a hm hs => norm hm hs [0] [0] [(3, (iq (0 : Int))), (22, (pq g7))] (by decide) ⟨rfl, rfl, trivial⟩)
    clear h
    rintro k9 ⟨l8i3, l8xp22⟩ h
    have h : f_names_Check_L10 a0 kk5 k9 l8i3 l8xp22 = some r := h
    obtain _ | k9 := k9
    · rw [f_names_Check_L10] at h; cases h
    rw [f_names_Check_L10] at h
    refine aw_show (m := (memOf w0 Z0 [] [(oIter g7 a0 l8xp22)] [uTabs])) (S := (tab [(3, (iq l8i3)), (22, (pq g7))])) ?_
    refine aw_sr ?_
    refine al_next 0 rfl rfl rfl (fun hn11 => ?_) (fun hn11 => ?_)
    ·replace h := bif_t (decide_eq_true hn11) h
     refine al_ex rfl rfl rfl ?_
     refine al_nt ?_
     refine aw_seq ?_
     refine aw_cond_t rfl ?_
     refine aw_skip ?_
     refine aq_then ?_
     refine aw_block ?_
     refine aw_sr ?_
     refine al_ex rfl rfl rfl ?_
     refine al_as rfl rfl ?_
     refine al_nt ?_
     refine aw_seq ?_
     obtain ⟨kk13, hkk13, h⟩ := lt_some h
     refine aw_seq_join (ι := Bool) (fun i => (memOf w0 Z0 [] [(oIter g7 a0 ((l8xp22.toNat + (dec a0 l8xp22.toNat).2 : Nat) : Int))] [uTabs])) (fun i => (tab [(3, (iq l8i3)), (22, (pq g7)), (35, (bool i))])) (fun i => kk13 i = some r) ?_ ?_
     ·rintro j12b35 h
      have h : kk13 j12b35 = some r := h
      rw [hkk13] at h
      dsimp only at h
      clear hkk13
      refine aw_show (m := (memOf w0 Z0 [] [(oIter g7 a0 ((l8xp22.toNat + (dec a0 l8xp22.toNat).2 : Nat) : Int))] [uTabs])) (S := (tab [(3, (iq l8i3)), (22, (pq g7)), (35, (bool j12b35))])) ?_
      refine aw_cond rfl (fun hb14 => ?_) (fun hb14 => ?_)
      ·replace h := bif_t hb14 h
       refine aw_sr ?_
       refine al_as rfl rfl ?_
       refine al_nt ?_
       refine aw_ret ?_
       refine aq_then_ret ?_
       refine aq_block_ret ?_
       refine aq_then_ret ?_
       refine aq_block_ret ?_
       refine aq_then_ret ?_
       obtain rfl := Option.some.inj h
       exact fn_ret () [] [] rfl rfl rfl rfl (res1 rfl rfl) rfl rfl rfl (by decide)
      ·replace h := bif_f hb14 h
       refine aw_skip ?_
       refine aq_then ?_
       refine aw_region ?_
       refine al_mv rfl rfl ?_
       refine al_in rfl rfl rfl rfl ?_
       refine al_as rfl rfl ?_
       refine al_nil ?_
       refine aq_block ?_
       exact aq_again k9 ((wq (l8i3 + (1 : Int))), ((l8xp22.toNat + (dec a0 l8xp22.toNat).2 : Nat) : Int)) (Nat.lt_succ_self _) h (fun w a hm hs => norm hm hs [0] [0] [(3, (iq (wq (l8i3 + (1 : Int))))), (22, (pq g7))] (by decide) ⟨rfl, rfl, trivial⟩)
     ·clear hkk13
      refine aw_region ?_
      refine al_mv rfl rfl ?_
      refine al_in rfl rfl rfl rfl ?_
      refine al_mv rfl rfl ?_
      refine al_caseB 28 rfl (fun hb15 => ?_) (fun hb15 => ?_)
      ·replace h := bif_t hb15 h
       refine al_skip ?_
       refine al_skip ?_
       refine al_val (ov_pick_t rfl rfl rfl) ?_
       refine al_mv rfl rfl ?_
       refine al_skip ?_
       refine al_skip ?_
       refine al_val (ov_pick_t rfl rfl rfl) ?_
       refine al_nil ?_
       exact aq_join true h (fun w a hm hs => norm hm hs [0] [0] [(3, (iq l8i3)), (22, (pq g7)), (35, (bool true))] (by decide) ⟨rfl, rfl, rfl, trivial⟩)
      ·replace h := bif_f hb15 h
       refine al_mv rfl rfl ?_
       refine al_in rfl rfl rfl rfl ?_
       refine al_val (ov_pick_f rfl rfl rfl) ?_
       refine al_mv rfl rfl ?_
       refine al_caseB 32 rfl (fun hb16 => ?_) (fun hb16 => ?_)
       ·replace h := bif_t hb16 h
        refine al_skip ?_
        refine al_skip ?_
        refine al_val (ov_pick_t rfl rfl rfl) ?_
        refine al_nil ?_
        exact aq_join true h (fun w a hm hs => norm hm hs [0] [0] [(3, (iq l8i3)), (22, (pq g7)), (35, (bool true))] (by decide) ⟨rfl, rfl, rfl, trivial⟩)
       ·replace h := bif_f hb16 h
        refine al_mv rfl rfl ?_
        refine al_in rfl rfl rfl rfl ?_
        refine al_val (ov_pick_f rfl rfl rfl) ?_
        refine al_nil ?_
        exact aq_join ((((dec a0 l8xp22.toNat).1 : Nat) : Int) == (127 : Int)) h (fun w a hm hs => norm hm hs [0] [0] [(3, (iq l8i3)), (22, (pq g7)), (35, (bool ((((dec a0 l8xp22.toNat).1 : Nat) : Int) == (127 : Int))))] (by decide) ⟨rfl, rfl, rfl, trivial⟩)
    ·replace h := bif_f (decide_eq_false hn11) h
     refine al_ex rfl rfl rfl ?_
     refine al_nt ?_
     refine aw_seq ?_
     refine aw_cond_f rfl ?_
     refine aw_exit ?_
     refine aq_then_exit ?_
     refine aq_then_exit ?_
     refine aq_block_exit ?_
     exact aq_join l8i3 h (fun w a hm hs => norm hm hs [] [0] [(3, (iq l8i3))] (by decide) ⟨rfl, trivial⟩)
 ·clear hkk2
  refine aw_region ?_
  refine al_mv rfl rfl ?_
  refine al_val (ov_strCmp rfl rfl rfl rfl) ?_
  refine al_mv rfl rfl ?_
  refine al_caseB 8 rfl (fun hb17 => ?_) (fun hb17 => ?_)
  ·replace h := bif_t hb17 h
   refine al_skip ?_
   refine al_skip ?_
   refine al_val (ov_pick_t rfl rfl rfl) ?_
   refine al_mv rfl rfl ?_
   refine al_skip ?_
   refine al_skip ?_
   refine al_val (ov_pick_t rfl rfl rfl) ?_
   refine al_mv rfl rfl ?_
   refine al_skip ?_
   refine al_skip ?_
   refine al_skip ?_
   refine al_val (ov_pick_t rfl rfl rfl) ?_
   refine al_nil ?_
   exact aq_join true h (fun w a hm hs => norm hm hs [] [0] [(0, (str a0)), (20, (bool true))] (by decide) ⟨rfl, rfl, trivial⟩)
  ·replace h := bif_f hb17 h
   refine al_mv rfl rfl ?_
   refine al_val (ov_strCmp rfl rfl rfl rfl) ?_
   refine al_val (ov_pick_f rfl rfl rfl) ?_
   refine al_mv rfl rfl ?_
   refine al_caseB 12 rfl (fun hb18 => ?_) (fun hb18 => ?_)
   ·replace h := bif_t hb18 h
    refine al_skip ?_
    refine al_skip ?_
    refine al_val (ov_pick_t rfl rfl rfl) ?_
    refine al_mv rfl rfl ?_
    refine al_skip ?_
    refine al_skip ?_
    refine al_skip ?_
    refine al_val (ov_pick_t rfl rfl rfl) ?_
    refine al_nil ?_
    exact aq_join true h (fun w a hm hs => norm hm hs [] [0] [(0, (str a0)), (20, (bool true))] (by decide) ⟨rfl, rfl, trivial⟩)
   ·replace h := bif_f hb18 h
    refine al_mv rfl rfl ?_
    refine al_val (ov_strCmp rfl rfl rfl rfl) ?_
    refine al_val (ov_pick_f rfl rfl rfl) ?_
    refine al_mv rfl rfl ?_
    refine al_caseB 16 rfl (fun hb19 => ?_) (fun hb19 => ?_)
    ·replace h := bif_t hb19 h
     refine al_skip ?_
     refine al_skip ?_
     refine al_skip ?_
     refine al_val (ov_pick_t rfl rfl rfl) ?_
     refine al_nil ?_
     exact aq_join true h (fun w a hm hs => norm hm hs [] [0] [(0, (str a0)), (20, (bool true))] (by decide) ⟨rfl, rfl, trivial⟩)
    ·replace h := bif_f hb19 h
     refine al_mv rfl rfl ?_
     obtain ⟨r21, hc20, h⟩ := opt_some h
     refine al_call (vs := [(str a0)]) (f_utf8_ValidString_ok fu a0 hc20) [] [] [] (pre_fz 0 rfl pre_nil) rfl (by simp) (by decide) (.inl rfl) rfl Tryd.func40 rfl rfl rfl (fun _ => ?_)
     refine al_val (ov_not rfl rfl) ?_
     refine al_val (ov_pick_f rfl rfl rfl) ?_
     refine al_nil ?_
     exact aq_join (!r21) h (fun w a hm hs => norm hm hs [] [0] [(0, (str a0)), (20, (bool (!r21)))] (by decide) ⟨rfl, rfl, trivial⟩)
def f_names_checkAll_L5 (a0 : (List (List UInt8))) (kk2 : (Unit → Option Int)) (fu : Nat) : Nat → Int → Option Int
  | 0, _ => none
  | k4 + 1, l3i8 => (bif (decide (l3i8 < (a0.length : Int))) then (opt (at? a0 l3i8) fun (u7 : (List UInt8)) => (bif (decide (l3i8 ≥ (8 : Int))) then (some (14 : Int)) else (opt (f_names_Check fu u7) fun (r12 : Int) => (bif (r12 != (0 : Int)) then (some r12) else (f_names_checkAll_L5 a0 kk2 fu k4 (IntKind.i64.wrap (l3i8 + (1 : Int)))))))) else (kk2 ()))
def f_names_checkAll (fu : Nat) (a0 : (List (List UInt8))) : Option Int := (lt (fun (_ : Unit) => (some (0 : Int))) fun (kk2 : Unit → Option Int) => (f_names_checkAll_L5 a0 kk2 fu fu (0 : Int)))
set_option maxHeartbeats 2000000 in
set_option maxRecDepth 100000 in
theorem f_names_checkAll_ok (fu : Nat) (v0_0 : Value) (a0 : (List (List UInt8))) {r : Int} (h : f_names_checkAll fu a0 = some r) : FnOk Tryd.prog 44 [v0_0] [(fDat (tyList tyStr) [v0_0] a0), uTabs] [] (fun (i : Unit) => { val := (int .i64 r) }) := by
 unfold f_names_checkAll at h
 refine fn_enter Tryd.func44 rfl Tryd.ntmps44 rfl (fun w0 Z0 => ?_)
 refine aw_sr ?_
 refine al_as rfl rfl ?_
 refine al_nt ?_
 obtain ⟨kk2, hkk2, h⟩ := lt_some h
 refine aw_seq_join (ι := Unit) (fun i => (memOf w0 Z0 [] [] [(fDat (tyList tyStr) [v0_0] a0), uTabs])) (fun i => (tab [])) (fun i => kk2 () = some r) ?_ ?_
 ·rintro _ h
  have h : kk2 () = some r := h
  rw [hkk2] at h
  dsimp only at h
  clear hkk2
  refine aw_show (m := (memOf w0 Z0 [] [] [(fDat (tyList tyStr) [v0_0] a0), uTabs])) (S := (tab [])) ?_
  refine aw_sr ?_
  refine al_as rfl rfl ?_
  refine al_nt ?_
  refine aw_ret ?_
  obtain rfl := Option.some.inj h
  exact fn_ret () [] [] rfl rfl rfl rfl (res1 rfl rfl) rfl rfl rfl (by decide)
 ·clear hkk2
  refine aw_sr ?_
  refine al_mv rfl rfl ?_
  refine al_val (ov_lenD 0 rfl rfl Tryd.underlying22 rfl) ?_
  refine al_mv rfl rfl ?_
  refine al_nt ?_
  refine aw_block ?_
  refine aw_state (aw_loop (ι := Int) (fun i => (memOf w0 Z0 [] [] [(fDat (tyList tyStr) [v0_0] a0), uTabs])) (fun i => (tab [(6, v0_0), (7, (iq (a0.length : Int))), (8, (iq i))])) (fun q i => f_names_checkAll_L5 a0 kk2 fu q i = some r) ?_ fu (0 : Int) h) (fun w a hm hs => norm hm hs [] [0, 1] [(6, v0_0), (7, (iq (a0.length : Int))), (8, (iq (0 : Int)))] (by decide) ⟨rfl, rfl, rfl, trivial⟩)
  clear h
  rintro k4 l3i8 h
  have h : f_names_checkAll_L5 a0 kk2 fu k4 l3i8 = some r := h
  obtain _ | k4 := k4
  · rw [f_names_checkAll_L5] at h; cases h
  rw [f_names_checkAll_L5] at h
  refine aw_show (m := (memOf w0 Z0 [] [] [(fDat (tyList tyStr) [v0_0] a0), uTabs])) (S := (tab [(6, v0_0), (7, (iq (a0.length : Int))), (8, (iq l3i8))])) ?_
  refine aw_sr ?_
  refine al_in rfl rfl rfl rfl ?_
  refine al_nt ?_
  refine aw_seq ?_
  refine aw_cond rfl (fun hb6 => ?_) (fun hb6 => ?_)
  ·replace h := bif_t hb6 h
   refine aw_skip ?_
   refine aq_then ?_
   refine aw_seq ?_
   refine aw_block ?_
   refine aw_sr ?_
   refine al_mv rfl rfl ?_
   obtain ⟨u7, hu8, h⟩ := opt_some h
   refine al_idxD 0 hu8 rfl rfl rfl Tryd.underlying22 sz9 rfl (fun p9 => ?_)
   refine al_val (ov_loadP (ds := [(str u7)]) 0 rfl (fun h => h) rfl Tryd.underlying9 sz9 rfl rfl rfl) ?_
   refine al_as rfl rfl ?_
   refine al_as rfl rfl ?_
   refine al_nt ?_
   refine aw_seq ?_
   refine aw_sr ?_
   refine al_mv rfl rfl ?_
   refine al_in rfl rfl rfl rfl ?_
   refine al_nt ?_
   refine aw_cond rfl (fun hb10 => ?_) (fun hb10 => ?_)
   ·replace h := bif_t hb10 h
    refine aw_sr ?_
    refine al_as rfl rfl ?_
    refine al_nt ?_
    refine aw_ret ?_
    refine aq_then_ret ?_
    refine aq_block_ret ?_
    refine aq_then_ret ?_
    refine aq_then_ret ?_
    refine aq_block_ret ?_
    refine aq_then_ret ?_
    obtain rfl := Option.some.inj h
    exact fn_ret () [] [] rfl rfl rfl rfl (res1 rfl rfl) rfl rfl rfl (by decide)
   ·replace h := bif_f hb10 h
    refine aw_skip ?_
    refine aq_tr ?_
    refine al_mv rfl rfl ?_
    obtain ⟨r12, hc11, h⟩ := opt_some h
    refine al_call (vs := [(str u7)]) (f_names_Check_ok fu u7 hc11) [] [] [] (pre_fz 2 rfl pre_nil) rfl (by simp) (by decide) (.inl rfl) rfl Tryd.func76 rfl rfl rfl (fun _ => ?_)
    refine al_as rfl rfl ?_
    refine al_nt ?_
    refine aw_sr ?_
    refine al_mv rfl rfl ?_
    refine al_in rfl rfl rfl rfl ?_
    refine al_nt ?_
    refine aw_cond rfl (fun hb13 => ?_) (fun hb13 => ?_)
    ·replace h := bif_t hb13 h
     refine aw_sr ?_
     refine al_mv rfl rfl ?_
     refine al_as rfl rfl ?_
     refine al_nt ?_
     refine aw_ret ?_
     refine aq_block_ret ?_
     refine aq_then_ret ?_
     refine aq_then_ret ?_
     refine aq_block_ret ?_
     refine aq_then_ret ?_
     obtain rfl := Option.some.inj h
     exact fn_ret () [] [] rfl rfl rfl rfl (res1 rfl rfl) rfl rfl rfl (by decide)
    ·replace h := bif_f hb13 h
     refine aw_skip ?_
     refine aq_block ?_
     refine aq_then ?_
     refine aw_region ?_
     refine al_in rfl rfl rfl rfl ?_
     refine al_mv rfl rfl ?_
     refine al_nil ?_
     exact aq_again k4 (wq (l3i8 + (1 : Int))) (Nat.lt_succ_self _) h (fun w a hm hs => norm hm hs [] [1, 2] [(6, v0_0), (7, (iq (a0.length : Int))), (8, (iq (wq (l3i8 + (1 : Int)))))] (by decide) ⟨rfl, rfl, rfl, trivial⟩)
  ·replace h := bif_f hb6 h
   refine aw_exit ?_
   refine aq_then_exit ?_
   refine aq_then_exit ?_
   refine aq_block_exit ?_
   exact aq_join () h (fun w a hm hs => norm hm hs [] [0, 1] [] (by decide) trivial)
def f_names_Split (fu : Nat) (a0 : (List UInt8)) : Option ((List (List UInt8)) × Int) := (opt (f_strings_CutPrefix fu a0 ([47] : List UInt8)) fun (r2 : ((List UInt8) × Bool)) => (bif (!r2.2) then (some (([] : List (List UInt8)), (8 : Int))) else (bif (r2.1 == ([] : List UInt8)) then (some (([] : List (List UInt8)), (0 : Int))) else (opt (f_strings_Split fu r2.1 ([47] : List UInt8)) fun (r6 : (List (List UInt8))) => (opt (f_names_checkAll fu r6) fun (r9 : Int) => (bif (r9 != (0 : Int)) then (some (([] : List (List UInt8)), r9)) else (some (r6, (0 : Int)))))))))
set_option maxHeartbeats 2000000 in
set_option maxRecDepth 100000 in
theorem f_names_Split_ok (fu : Nat) (a0 : (List UInt8)) {r : ((List (List UInt8)) × Int)} (h : f_names_Split fu a0 = some r) : FnOk Tryd.prog 20 [(str a0)] [uMax, uTabs] [] (fun (i : Value) => { val := (Value.tuple #[i, (int .i64 r.2)]), own := [(oRow i 9 tyStr r.1)] }) := by
 unfold f_names_Split at h
 refine fn_enter Tryd.func20 rfl Tryd.ntmps20 rfl (fun w0 Z0 => ?_)
 refine aw_sr ?_
 refine al_as rfl rfl ?_
 refine al_as rfl rfl ?_
 refine al_nt ?_
 refine aw_sr ?_
 refine al_mv rfl rfl ?_
 obtain ⟨r2, hc1, h⟩ := opt_some h
 refine al_call (vs := [(str a0), (str ([47] : List UInt8))]) (f_strings_CutPrefix_ok fu a0 ([47] : List UInt8) hc1) [] [] [] pre_nil rfl (by simp) (by decide) (.inl rfl) rfl Tryd.func39 rfl rfl rfl (fun _ => ?_)
 refine al_mv rfl rfl ?_
 refine al_ex rfl rfl rfl ?_
 refine al_ex rfl rfl rfl ?_
 refine al_as rfl rfl ?_
 refine al_as rfl rfl ?_
 refine al_nt ?_
 refine aw_seq ?_
 refine aw_sr ?_
 refine al_mv rfl rfl ?_
 refine al_val (ov_not rfl rfl) ?_
 refine al_nt ?_
 refine aw_cond rfl (fun hb3 => ?_) (fun hb3 => ?_)
 ·replace h := bif_t hb3 h
  refine aw_sr ?_
  refine al_as rfl rfl ?_
  refine al_as rfl rfl ?_
  refine al_nt ?_
  refine aw_ret ?_
  refine aq_then_ret ?_
  refine aq_nilR 9 tyStr ?_
  obtain rfl := Option.some.inj h
  exact fn_ret nS [0] [] rfl rfl rfl rfl (res2 rfl rfl rfl) rfl rfl rfl (by decide)
 ·replace h := bif_f hb3 h
  refine aw_skip ?_
  refine aq_then ?_
  refine aw_seq ?_
  refine aw_sr ?_
  refine al_mv rfl rfl ?_
  refine al_val (ov_strCmp rfl rfl rfl rfl) ?_
  refine al_nt ?_
  refine aw_cond rfl (fun hb4 => ?_) (fun hb4 => ?_)
  ·replace h := bif_t hb4 h
   refine aw_sr ?_
   refine al_as rfl rfl ?_
   refine al_as rfl rfl ?_
   refine al_nt ?_
   refine aw_ret ?_
   refine aq_then_ret ?_
   refine aq_nilR 9 tyStr ?_
   obtain rfl := Option.some.inj h
   exact fn_ret nS [0] [] rfl rfl rfl rfl (res2 rfl rfl rfl) rfl rfl rfl (by decide)
  ·replace h := bif_f hb4 h
   refine aw_skip ?_
   refine aq_tr ?_
   refine al_mv rfl rfl ?_
   obtain ⟨r6, hc5, h⟩ := opt_some h
   refine al_call (vs := [(str r2.1), (str ([47] : List UInt8))]) (f_strings_Split_ok fu r2.1 ([47] : List UInt8) hc5) [] [] [] (pre_fz 0 rfl pre_nil) rfl (by simp) (by decide) (.inl rfl) rfl Tryd.func41 rfl rfl rfl (fun v7 => ?_)
   refine al_as rfl rfl ?_
   refine al_nt ?_
   refine aw_seq ?_
   refine aw_sr ?_
   refine al_mv rfl rfl ?_
   obtain ⟨r9, hc8, h⟩ := opt_some h
   refine al_call (vs := [v7]) (f_names_checkAll_ok fu v7 r6 hc8) [0] [] [0] (pre_own 0 rfl rfl (pre_fz 1 rfl pre_nil)) rfl (by simp) (by decide) (.inr flat_res0) rfl Tryd.func44 rfl rfl rfl (fun _ => ?_)
   refine al_as rfl rfl ?_
   refine al_nt ?_
   refine aw_sr ?_
   refine al_mv rfl rfl ?_
   refine al_in rfl rfl rfl rfl ?_
   refine al_nt ?_
   refine aw_cond rfl (fun hb10 => ?_) (fun hb10 => ?_)
   ·replace h := bif_t hb10 h
    refine aw_sr ?_
    refine al_mv rfl rfl ?_
    refine al_as rfl rfl ?_
    refine al_as rfl rfl ?_
    refine al_nt ?_
    refine aw_ret ?_
    refine aq_then_ret ?_
    refine aq_nilR 9 tyStr ?_
    obtain rfl := Option.some.inj h
    exact fn_ret nS [0] [] rfl rfl rfl rfl (res2 rfl rfl rfl) rfl rfl rfl (by decide)
   ·replace h := bif_f hb10 h
    refine aw_skip ?_
    refine aq_tr ?_
    refine al_mv rfl rfl ?_
    refine al_as rfl rfl ?_
    refine al_as rfl rfl ?_
    refine al_nt ?_
    refine aw_ret ?_
    obtain rfl := Option.some.inj h
    exact fn_ret v7 [0] [] rfl rfl rfl rfl (res2 rfl rfl rfl) rfl rfl rfl (by decide)
def f_glob_path_1 (fu : Nat) (a0 : Int) (a1 : (List S_glob_part)) : Option Bool := (opt (at? a1 a0) fun (u2 : S_glob_part) => (some u2.any))
set_option maxRecDepth 100000 in
theorem f_glob_path_1_ok (fu : Nat) (a0 : Int) (c1 : Value) (a1 : (List S_glob_part)) {r : Bool} (h : f_glob_path_1 fu a0 a1 = some r) : FnOk Tryd.prog 46 [(int .i64 a0), c1] [(fPtr (tyList tyS_glob_part) c1 a1)] [] (fun (i : Unit) => { val := (bool r) }) := by
 unfold f_glob_path_1 at h
 refine fn_enter Tryd.func46 rfl Tryd.ntmps46 rfl (fun w0 Z0 => ?_)
 refine aw_sr ?_
 refine al_as rfl rfl ?_
 refine al_nt ?_
 refine aw_sr ?_
 refine al_loadP1 0 rfl rfl Tryd.underlying44 sz44 rfl rfl rfl (fun s1 => ?_)
 refine al_mv rfl rfl ?_
 obtain ⟨u2, hu3, h⟩ := opt_some h
 refine al_idxD 0 hu3 rfl rfl rfl Tryd.underlying44 sz81 rfl (fun p4 => ?_)
 refine al_fieldD (pr := fun (y : S_glob_part) => y.any) 0 rfl subS_glob_part_0 rfl Tryd.underlying81 rfl sz4 rfl rfl (fun p5 => ?_)
 refine al_val (ov_loadP (ds := [(bool u2.any)]) 0 rfl (fun h => h) rfl Tryd.underlying4 sz4 rfl rfl rfl) ?_
 refine al_as rfl rfl ?_
 refine al_nt ?_
 refine aw_ret ?_
 obtain rfl := Option.some.inj h
 exact fn_ret () [] [] rfl rfl rfl rfl (res1 rfl rfl) rfl rfl rfl (by decide)
def f_glob_name_1 (fu : Nat) (a0 : Int) (a1 : (List S_glob_element)) : Option Bool := (opt (at? a1 a0) fun (u2 : S_glob_element) => (some (u2.kind == (2 : Int))))
set_option maxRecDepth 100000 in
theorem f_glob_name_1_ok (fu : Nat) (a0 : Int) (c1 : Value) (a1 : (List S_glob_element)) {r : Bool} (h : f_glob_name_1 fu a0 a1 = some r) : FnOk Tryd.prog 77 [(int .i64 a0), c1] [(fPtr (tyList tyS_glob_element) c1 a1)] [] (fun (i : Unit) => { val := (bool r) }) := by
 unfold f_glob_name_1 at h
 refine fn_enter Tryd.func77 rfl Tryd.ntmps77 rfl (fun w0 Z0 => ?_)
 refine aw_sr ?_
 refine al_as rfl rfl ?_
 refine al_nt ?_
 refine aw_sr ?_
 refine al_loadP1 0 rfl rfl Tryd.underlying79 sz79 rfl rfl rfl (fun s1 => ?_)
 refine al_mv rfl rfl ?_
 obtain ⟨u2, hu3, h⟩ := opt_some h
 refine al_idxD 0 hu3 rfl rfl rfl Tryd.underlying79 sz128 rfl (fun p4 => ?_)
 refine al_fieldD (pr := fun (y : S_glob_element) => y.kind) 0 rfl subS_glob_element_0 rfl Tryd.underlying128 rfl sz3 rfl rfl (fun p5 => ?_)
 refine al_val (ov_loadP (ds := [(iq u2.kind)]) 0 rfl (fun h => h) rfl Tryd.underlying3 sz3 rfl rfl rfl) ?_
 refine al_in rfl rfl rfl rfl ?_
 refine al_as rfl rfl ?_
 refine al_nt ?_
 refine aw_ret ?_
 obtain rfl := Option.some.inj h
 exact fn_ret () [] [] rfl rfl rfl rfl (res1 rfl rfl) rfl rfl rfl (by decide)
def f__glob_element__matches_L7 (a0 : S_glob_element) (a1 : Int) (kk4 : (Bool → Option Bool)) : Nat → Bool → Int → Option Bool
  | 0, _, _ => none
  | k6 + 1, l5b5, l5i14 => (bif (decide (l5i14 < (a0.spans.length : Int))) then (lt (fun (j9b5 : Bool) => (f__glob_element__matches_L7 a0 a1 kk4 k6 j9b5 (IntKind.i64.wrap (l5i14 + (1 : Int))))) fun (kk10 : Bool → Option Bool) => (opt (at? a0.spans l5i14) fun (u11 : S_glob_span) => (bif l5b5 then (kk10 true) else (bif (decide (u11.from_ ≤ a1)) then (kk10 (decide (a1 ≤ u11.to_))) else (kk10 false))))) else (kk4 l5b5))
def f__glob_element__matches (fu : Nat) (a0 : S_glob_element) (a1 : Int) : Option Bool := (bif (a0.kind == (1 : Int)) then (some true) else (lt (fun (j3b5 : Bool) => (some (j3b5 != a0.not))) fun (kk4 : Bool → Option Bool) => (f__glob_element__matches_L7 a0 a1 kk4 fu false (0 : Int))))
set_option maxHeartbeats 2000000 in
set_option maxRecDepth 100000 in
theorem f__glob_element__matches_ok (fu : Nat) (v0_1 : Value) (a0 : S_glob_element) (a1 : Int) {r : Bool} (h : f__glob_element__matches fu a0 a1 = some r) : FnOk Tryd.prog 79 [(ag [(int .i64 a0.kind), v0_1, (bool a0.not)]), (int .i32 a1)] [(fDat (tyList tyS_glob_span) [v0_1] a0.spans)] [] (fun (i : Unit) => { val := (bool r) }) := by
 unfold f__glob_element__matches at h
 refine fn_enter Tryd.func79 rfl Tryd.ntmps79 rfl (fun w0 Z0 => ?_)
 refine aw_sr ?_
 refine al_box (vs := [(iq a0.kind), v0_1, (bool a0.not)]) rfl (cv_rfl rfl) rfl (fun g1 => ?_)
 refine al_as rfl rfl ?_
 refine al_nt ?_
 refine aw_seq ?_
 refine aw_sr ?_
 refine al_val (ov_fieldA (p := 0) rfl Tryd.underlying128 rfl sz3 rfl rfl rfl) ?_
 refine al_val (ov_load (i := 0) (v := (iq a0.kind)) rfl rfl Tryd.underlying3 sz3 rfl rfl rfl rfl) ?_
 refine al_in rfl rfl rfl rfl ?_
 refine al_nt ?_
 refine aw_cond rfl (fun hb2 => ?_) (fun hb2 => ?_)
 ·replace h := bif_t hb2 h
  refine aw_sr ?_
  refine al_as rfl rfl ?_
  refine al_nt ?_
  refine aw_ret ?_
  refine aq_then_ret ?_
  obtain rfl := Option.some.inj h
  exact fn_ret () [] [] rfl rfl rfl rfl (res1 rfl rfl) rfl rfl rfl (by decide)
 ·replace h := bif_f hb2 h
  refine aw_skip ?_
  refine aq_tr ?_
  refine al_as rfl rfl ?_
  refine al_nt ?_
  obtain ⟨kk4, hkk4, h⟩ := lt_some h
  refine aw_seq_join (ι := Bool) (fun i => (memOf w0 Z0 [] [(oBox g1 128 [(iq a0.kind), v0_1, (bool a0.not)])] [(fDat (tyList tyS_glob_span) [v0_1] a0.spans)])) (fun i => (tab [(2, (pq g1)), (5, (bool i))])) (fun i => kk4 i = some r) ?_ ?_
  ·rintro j3b5 h
   have h : kk4 j3b5 = some r := h
   rw [hkk4] at h
   dsimp only at h
   clear hkk4
   refine aw_show (m := (memOf w0 Z0 [] [(oBox g1 128 [(iq a0.kind), v0_1, (bool a0.not)])] [(fDat (tyList tyS_glob_span) [v0_1] a0.spans)])) (S := (tab [(2, (pq g1)), (5, (bool j3b5))])) ?_
   refine aw_sr ?_
   refine al_mv rfl rfl ?_
   refine al_val (ov_fieldA (p := 2) rfl Tryd.underlying128 rfl sz4 rfl rfl rfl) ?_
   refine al_val (ov_load (i := 0) (v := (bool a0.not)) rfl rfl Tryd.underlying4 sz4 rfl rfl rfl rfl) ?_
   refine al_val (ov_boolNe Tryd.underlying4 rfl rfl rfl) ?_
   refine al_as rfl rfl ?_
   refine al_nt ?_
   refine aw_ret ?_
   obtain rfl := Option.some.inj h
   exact fn_ret () [] [] rfl rfl rfl rfl (res1 rfl rfl) rfl rfl rfl (by decide)
  ·clear hkk4
   refine aw_sr ?_
   refine al_val (ov_fieldA (p := 1) rfl Tryd.underlying128 rfl sz126 rfl rfl rfl) ?_
   refine al_val (ov_load (i := 0) (v := v0_1) rfl rfl Tryd.underlying126 sz126 rfl rfl rfl rfl) ?_
   refine al_val (ov_lenD 0 rfl rfl Tryd.underlying126 rfl) ?_
   refine al_mv rfl rfl ?_
   refine al_nt ?_
   refine aw_block ?_
   refine aw_state (aw_loop (ι := Bool × Int) (fun i => (memOf w0 Z0 [] [(oBox g1 128 [(iq a0.kind), v0_1, (bool a0.not)])] [(fDat (tyList tyS_glob_span) [v0_1] a0.spans)])) (fun i => (tab [(1, (int .i32 a1)), (2, (pq g1)), (5, (bool i.1)), (12, v0_1), (13, (iq (a0.spans.length : Int))), (14, (iq i.2))])) (fun q i => f__glob_element__matches_L7 a0 a1 kk4 q i.1 i.2 = some r) ?_ fu (false, (0 : Int)) h) (fun w a hm hs => norm hm hs [0] [0] [(1, (int .i32 a1)), (2, (pq g1)), (5, (bool false)), (12, v0_1), (13, (iq (a0.spans.length : Int))), (14, (iq (0 : Int)))] (by decide) ⟨rfl, rfl, rfl, rfl, rfl, rfl, trivial⟩)
   clear h
   rintro k6 ⟨l5b5, l5i14⟩ h
   have h : f__glob_element__matches_L7 a0 a1 kk4 k6 l5b5 l5i14 = some r := h
   obtain _ | k6 := k6
   · rw [f__glob_element__matches_L7] at h; cases h
   rw [f__glob_element__matches_L7] at h
   refine aw_show (m := (memOf w0 Z0 [] [(oBox g1 128 [(iq a0.kind), v0_1, (bool a0.not)])] [(fDat (tyList tyS_glob_span) [v0_1] a0.spans)])) (S := (tab [(1, (int .i32 a1)), (2, (pq g1)), (5, (bool l5b5)), (12, v0_1), (13, (iq (a0.spans.length : Int))), (14, (iq l5i14))])) ?_
   refine aw_sr ?_
   refine al_in rfl rfl rfl rfl ?_
   refine al_nt ?_
   refine aw_seq ?_
   refine aw_cond rfl (fun hb8 => ?_) (fun hb8 => ?_)
   ·replace h := bif_t hb8 h
    refine aw_skip ?_
    refine aq_then ?_
    obtain ⟨kk10, hkk10, h⟩ := lt_some h
    refine aw_seq_join (ι := Bool) (fun i => (memOf w0 Z0 [] [(oBox g1 128 [(iq a0.kind), v0_1, (bool a0.not)])] [(fDat (tyList tyS_glob_span) [v0_1] a0.spans)])) (fun i => (tab [(1, (int .i32 a1)), (2, (pq g1)), (5, (bool i)), (12, v0_1), (13, (iq (a0.spans.length : Int))), (14, (iq l5i14))])) (fun i => kk10 i = some r) ?_ ?_
    ·rintro j9b5 h
     have h : kk10 j9b5 = some r := h
     rw [hkk10] at h
     dsimp only at h
     clear hkk10
     refine aw_show (m := (memOf w0 Z0 [] [(oBox g1 128 [(iq a0.kind), v0_1, (bool a0.not)])] [(fDat (tyList tyS_glob_span) [v0_1] a0.spans)])) (S := (tab [(1, (int .i32 a1)), (2, (pq g1)), (5, (bool j9b5)), (12, v0_1), (13, (iq (a0.spans.length : Int))), (14, (iq l5i14))])) ?_
     refine aw_region ?_
     refine al_in rfl rfl rfl rfl ?_
     refine al_mv rfl rfl ?_
     refine al_nil ?_
     exact aq_again k6 (j9b5, (wq (l5i14 + (1 : Int)))) (Nat.lt_succ_self _) h (fun w a hm hs => norm hm hs [0] [0] [(1, (int .i32 a1)), (2, (pq g1)), (5, (bool j9b5)), (12, v0_1), (13, (iq (a0.spans.length : Int))), (14, (iq (wq (l5i14 + (1 : Int)))))] (by decide) ⟨rfl, rfl, rfl, rfl, rfl, rfl, trivial⟩)
    ·clear hkk10
     refine aw_block ?_
     refine aw_sr ?_
     obtain ⟨u11, hu12, h⟩ := opt_some h
     refine al_idxD 0 hu12 rfl rfl rfl Tryd.underlying126 sz125 rfl (fun p13 => ?_)
     refine al_val (ov_loadP (ds := [(int .i32 u11.from_), (int .i32 u11.to_)]) 0 rfl encS_glob_span rfl Tryd.underlying125 sz125 rfl rfl rfl) ?_
     refine al_alloc (zs := [(int .i32 (0 : Int)), (int .i32 (0 : Int))]) (zeroOf_to to125) rfl rfl (fun g14 => ?_)
     refine al_store (i := 0) (vs := [(int .i32 u11.from_), (int .i32 u11.to_)]) (cs' := [(int .i32 u11.from_), (int .i32 u11.to_)]) rfl rfl rfl sz125 (cv_rfl rfl) rfl (co_val rfl (co_val rfl co_nil)) (Nat.le_of_ble_eq_true rfl) rfl rfl ?_
     refine al_nt ?_
     refine aw_region ?_
     refine al_mv rfl rfl ?_
     refine al_mv rfl rfl ?_
     refine al_caseB 19 rfl (fun hb15 => ?_) (fun hb15 => ?_)
     ·replace h := bif_t hb15 h
      refine al_skip ?_
      refine al_skip ?_
      refine al_skip ?_
      refine al_skip ?_
      refine al_skip ?_
      refine al_skip ?_
      refine al_skip ?_
      refine al_skip ?_
      refine al_skip ?_
      refine al_skip ?_
      refine al_val (ov_pick_t rfl rfl rfl) ?_
      refine al_as rfl rfl ?_
      refine al_nil ?_
      refine aq_block ?_
      exact aq_join true h (fun w a hm hs => norm hm hs [1] [1] [(1, (int .i32 a1)), (2, (pq g1)), (5, (bool true)), (12, v0_1), (13, (iq (a0.spans.length : Int))), (14, (iq l5i14))] (by decide) ⟨rfl, rfl, rfl, rfl, rfl, rfl, trivial⟩)
     ·replace h := bif_f hb15 h
      refine al_val (ov_fieldA (p := 0) rfl Tryd.underlying125 rfl sz21 rfl rfl rfl) ?_
      refine al_val (ov_load (i := 0) (v := (int .i32 u11.from_)) rfl rfl Tryd.underlying21 sz21 rfl rfl rfl rfl) ?_
      refine al_mv rfl rfl ?_
      refine al_in rfl rfl rfl rfl ?_
      refine al_mv rfl rfl ?_
      refine al_caseB 24 rfl (fun hb16 => ?_) (fun hb16 => ?_)
      ·replace h := bif_t hb16 h
       refine al_mv rfl rfl ?_
       refine al_val (ov_fieldA (p := 1) rfl Tryd.underlying125 rfl sz21 rfl rfl rfl) ?_
       refine al_val (ov_load (i := 0) (v := (int .i32 u11.to_)) rfl rfl Tryd.underlying21 sz21 rfl rfl rfl rfl) ?_
       refine al_in rfl rfl rfl rfl ?_
       refine al_val (ov_pick_t rfl rfl rfl) ?_
       refine al_val (ov_pick_f rfl rfl rfl) ?_
       refine al_as rfl rfl ?_
       refine al_nil ?_
       refine aq_block ?_
       exact aq_join (decide (a1 ≤ u11.to_)) h (fun w a hm hs => norm hm hs [1] [1] [(1, (int .i32 a1)), (2, (pq g1)), (5, (bool (decide (a1 ≤ u11.to_)))), (12, v0_1), (13, (iq (a0.spans.length : Int))), (14, (iq l5i14))] (by decide) ⟨rfl, rfl, rfl, rfl, rfl, rfl, trivial⟩)
      ·replace h := bif_f hb16 h
       refine al_skip ?_
       refine al_skip ?_
       refine al_skip ?_
       refine al_skip ?_
       refine al_val (ov_pick_f rfl rfl rfl) ?_
       refine al_val (ov_pick_f rfl rfl rfl) ?_
       refine al_as rfl rfl ?_
       refine al_nil ?_
       refine aq_block ?_
       exact aq_join false h (fun w a hm hs => norm hm hs [1] [1] [(1, (int .i32 a1)), (2, (pq g1)), (5, (bool false)), (12, v0_1), (13, (iq (a0.spans.length : Int))), (14, (iq l5i14))] (by decide) ⟨rfl, rfl, rfl, rfl, rfl, rfl, trivial⟩)
   ·replace h := bif_f hb8 h
    refine aw_exit ?_
    refine aq_then_exit ?_
    refine aq_then_exit ?_
    refine aq_block_exit ?_
    exact aq_join l5b5 h (fun w a hm hs => norm hm hs [0] [0] [(2, (pq g1)), (5, (bool l5b5))] (by decide) ⟨rfl, rfl, trivial⟩)
def f_glob_name_2 (fu : Nat) (a0 : Int) (a1 : Int) (a2 : (List S_glob_element)) (a3 : (List Int)) : Option Bool := (opt (at? a2 a0) fun (u2 : S_glob_element) => (opt (at? a3 a1) fun (u8 : Int) => (opt (f__glob_element__matches fu u2 u8) fun (r12 : Bool) => (some r12))))
set_option maxHeartbeats 2000000 in
set_option maxRecDepth 100000 in
theorem f_glob_name_2_ok (fu : Nat) (a0 : Int) (a1 : Int) (c2 : Value) (a2 : (List S_glob_element)) (c3 : Value) (a3 : (List Int)) {r : Bool} (h : f_glob_name_2 fu a0 a1 a2 a3 = some r) : FnOk Tryd.prog 78 [(int .i64 a0), (int .i64 a1), c2, c3] [(fPtr (tyList tyS_glob_element) c2 a2), (fPtr (tyList (tyInt .i32)) c3 a3)] [] (fun (i : Unit) => { val := (bool r) }) := by
 unfold f_glob_name_2 at h
 refine fn_enter Tryd.func78 rfl Tryd.ntmps78 rfl (fun w0 Z0 => ?_)
 refine aw_sr ?_
 refine al_as rfl rfl ?_
 refine al_nt ?_
 refine aw_seq ?_
 obtain ⟨u2, hu3, h⟩ := opt_some h
 obtain ⟨u8, hu9, h⟩ := opt_some h
 refine aw_region_open [⟨0, 7, Value, fun (i : Value) => { val := i, fz := [(fDat (tyList tyS_glob_element) [i] a2)] }⟩, ⟨1, 8, Unit, fun _ => { val := (iq a0) }⟩, ⟨2, 9, Value, fun (i : Value) => { val := i, fz := [(fPtr tyS_glob_element i u2)] }⟩, ⟨3, 10, Value, fun (i : Value) => { val := (ag [(iq u2.kind), i, (bool u2.not)]), fz := [(fDat (tyList tyS_glob_span) [i] u2.spans), (fDat tyS_glob_element [(iq u2.kind), i, (bool u2.not)] u2)] }⟩, ⟨4, 11, Value, fun (i : Value) => { val := i, fz := [(fDat (tyList (tyInt .i32)) [i] a3)] }⟩, ⟨5, 12, Unit, fun _ => { val := (iq a1) }⟩, ⟨6, 13, Value, fun (i : Value) => { val := i, fz := [(fPtr (tyInt .i32) i u8)] }⟩, ⟨7, 14, Unit, fun _ => { val := (int .i32 u8) }⟩] (tab [(0, (iq a0)), (1, (iq a1)), (2, c2), (3, c3), (6, (bool false))]) mixed (fun a hs => hs.tab _ (allT_mem ⟨rfl, rfl, rfl, rfl, rfl, trivial⟩)) ?_
 refine ta_show (m := (memOf w0 Z0 [] [] [(fPtr (tyList tyS_glob_element) c2 a2), (fPtr (tyList (tyInt .i32)) c3 a3)])) (S := (tab [(0, (iq a0)), (1, (iq a1)), (2, c2), (3, c3), (6, (bool false))])) ?_
 refine ta_step 8 _ [0, 1, 2, 3, 4, 5, 6, 7] [7, 8, 9, 10, 11, 12, 13, 14] [0, 1, 2, 3, 4, 5, 6, 7] [] [⟨0, 7, Value, fun (i : Value) => { val := i, fz := [(fDat (tyList tyS_glob_element) [i] a2)] }⟩, ⟨1, 8, Unit, fun _ => { val := (iq a0) }⟩, ⟨2, 9, Value, fun (i : Value) => { val := i, fz := [(fPtr tyS_glob_element i u2)] }⟩, ⟨3, 10, Value, fun (i : Value) => { val := (ag [(iq u2.kind), i, (bool u2.not)]), fz := [(fDat (tyList tyS_glob_span) [i] u2.spans), (fDat tyS_glob_element [(iq u2.kind), i, (bool u2.not)] u2)] }⟩, ⟨4, 11, Value, fun (i : Value) => { val := i, fz := [(fDat (tyList (tyInt .i32)) [i] a3)] }⟩, ⟨5, 12, Unit, fun _ => { val := (iq a1) }⟩, ⟨6, 13, Value, fun (i : Value) => { val := i, fz := [(fPtr (tyInt .i32) i u8)] }⟩, ⟨7, 14, Unit, fun _ => { val := (int .i32 u8) }⟩] [] rfl rfl rfl (by kernel_rfl) rfl rfl rfl ⟨⟨_, rfl, [], rfl, by
 intro X_ Y_ F_ K_ hK_
 refine al_show (m := Mem.plus (memOf w0 Z0 [] [] [(fPtr (tyList tyS_glob_element) c2 a2), (fPtr (tyList (tyInt .i32)) c3 a3)]) X_ Y_) (S := over (tab [(0, (iq a0)), (1, (iq a1)), (2, c2), (3, c3), (6, (bool false))]) F_) ?_
 refine al_loadP1 0 rfl rfl Tryd.underlying79 sz79 rfl rfl rfl (fun s1 => ?_)
 refine al_nil ?_
 exact fr_fin hK_ s1⟩, ⟨_, rfl, [], rfl, by
 intro X_ Y_ F_ K_ hK_
 refine al_show (m := Mem.plus (memOf w0 Z0 [] [] [(fPtr (tyList tyS_glob_element) c2 a2), (fPtr (tyList (tyInt .i32)) c3 a3)]) X_ Y_) (S := over (tab [(0, (iq a0)), (1, (iq a1)), (2, c2), (3, c3), (6, (bool false))]) F_) ?_
 refine al_mv rfl rfl ?_
 refine al_nil ?_
 exact fr_fin hK_ ()⟩, ⟨_, rfl, [0, 1], rfl, by
 intro s1
 intro _
 intro X_ Y_ F_ K_ hK_
 refine al_show (m := Mem.plus (memOf w0 Z0 [] [] [(fDat (tyList tyS_glob_element) [s1] a2), (fPtr (tyList tyS_glob_element) c2 a2), (fPtr (tyList (tyInt .i32)) c3 a3)]) X_ Y_) (S := over (put (put (tab [(0, (iq a0)), (1, (iq a1)), (2, c2), (3, c3), (6, (bool false))]) 7 s1) 8 (iq a0)) F_) ?_
 refine al_idxD 0 hu3 rfl rfl rfl Tryd.underlying79 sz128 rfl (fun p4 => ?_)
 refine al_nil ?_
 exact fr_fin hK_ p4⟩, ⟨_, rfl, [2], rfl, by
 intro p4
 intro X_ Y_ F_ K_ hK_
 refine al_show (m := Mem.plus (memOf w0 Z0 [] [] [(fPtr tyS_glob_element p4 u2), (fPtr (tyList tyS_glob_element) c2 a2), (fPtr (tyList (tyInt .i32)) c3 a3)]) X_ Y_) (S := over (put (tab [(0, (iq a0)), (1, (iq a1)), (2, c2), (3, c3), (6, (bool false))]) 9 p4) F_) ?_
 refine al_loadPA 0 rfl rfl Tryd.underlying128 sz128 rfl rfl (fun cs6 => ?_)
 refine al_use (ι := Value) 0 rfl (fun j => cs6 = [(iq u2.kind), j, (bool u2.not)]) (fun j => [(fDat (tyList tyS_glob_span) [j] u2.spans)]) encnS_glob_element (fun s5 hq => ?_)
 subst hq
 refine al_nil ?_
 exact fr_fin hK_ s5⟩, ⟨_, rfl, [], rfl, by
 intro X_ Y_ F_ K_ hK_
 refine al_show (m := Mem.plus (memOf w0 Z0 [] [] [(fPtr (tyList tyS_glob_element) c2 a2), (fPtr (tyList (tyInt .i32)) c3 a3)]) X_ Y_) (S := over (tab [(0, (iq a0)), (1, (iq a1)), (2, c2), (3, c3), (6, (bool false))]) F_) ?_
 refine al_loadP1 1 rfl rfl Tryd.underlying119 sz119 rfl rfl rfl (fun s7 => ?_)
 refine al_nil ?_
 exact fr_fin hK_ s7⟩, ⟨_, rfl, [], rfl, by
 intro X_ Y_ F_ K_ hK_
 refine al_show (m := Mem.plus (memOf w0 Z0 [] [] [(fPtr (tyList tyS_glob_element) c2 a2), (fPtr (tyList (tyInt .i32)) c3 a3)]) X_ Y_) (S := over (tab [(0, (iq a0)), (1, (iq a1)), (2, c2), (3, c3), (6, (bool false))]) F_) ?_
 refine al_mv rfl rfl ?_
 refine al_nil ?_
 exact fr_fin hK_ ()⟩, ⟨_, rfl, [4, 5], rfl, by
 intro s7
 intro _
 intro X_ Y_ F_ K_ hK_
 refine al_show (m := Mem.plus (memOf w0 Z0 [] [] [(fDat (tyList (tyInt .i32)) [s7] a3), (fPtr (tyList tyS_glob_element) c2 a2), (fPtr (tyList (tyInt .i32)) c3 a3)]) X_ Y_) (S := over (put (put (tab [(0, (iq a0)), (1, (iq a1)), (2, c2), (3, c3), (6, (bool false))]) 11 s7) 12 (iq a1)) F_) ?_
 refine al_idxD 0 hu9 rfl rfl rfl Tryd.underlying119 sz21 rfl (fun p10 => ?_)
 refine al_nil ?_
 exact fr_fin hK_ p10⟩, ⟨_, rfl, [6], rfl, by
 intro p10
 intro X_ Y_ F_ K_ hK_
 refine al_show (m := Mem.plus (memOf w0 Z0 [] [] [(fPtr (tyInt .i32) p10 u8), (fPtr (tyList tyS_glob_element) c2 a2), (fPtr (tyList (tyInt .i32)) c3 a3)]) X_ Y_) (S := over (put (tab [(0, (iq a0)), (1, (iq a1)), (2, c2), (3, c3), (6, (bool false))]) 13 p10) F_) ?_
 refine al_val (ov_loadP (ds := [(int .i32 u8)]) 0 rfl (fun h => h) rfl Tryd.underlying21 sz21 rfl rfl rfl) ?_
 refine al_nil ?_
 exact fr_fin hK_ ()⟩, trivial⟩ ?_
 intro s1
 intro _
 intro p4
 intro s5
 intro s7
 intro _
 intro p10
 intro _
 intro X_ Y_ F_ K_ hK_
 refine al_show (m := Mem.plus (memOf w0 Z0 [] [] [(fPtr (tyInt .i32) p10 u8), (fDat (tyList (tyInt .i32)) [s7] a3), (fDat (tyList tyS_glob_span) [s5] u2.spans), (fDat tyS_glob_element [(iq u2.kind), s5, (bool u2.not)] u2), (fPtr tyS_glob_element p4 u2), (fDat (tyList tyS_glob_element) [s1] a2), (fPtr (tyList tyS_glob_element) c2 a2), (fPtr (tyList (tyInt .i32)) c3 a3)]) X_ Y_) (S := over (put (put (put (put (put (put (put (put (tab [(0, (iq a0)), (1, (iq a1)), (2, c2), (3, c3), (6, (bool false))]) 7 s1) 8 (iq a0)) 9 p4) 10 (ag [(iq u2.kind), s5, (bool u2.not)])) 11 s7) 12 (iq a1)) 13 p10) 14 (int .i32 u8)) F_) ?_
 obtain ⟨r12, hc11, h⟩ := opt_some h
 refine al_callX (vs := [(ag [(iq u2.kind), s5, (bool u2.not)]), (int .i32 u8)]) (f__glob_element__matches_ok fu s5 u2 u8 hc11) [] [] [] (pre_fz 2 rfl pre_nil) rfl (by simp) (by decide) rfl (.inl rfl) rfl Tryd.func79 rfl rfl rfl (fun _ => ?_)
 refine al_nil ?_
 refine aq_show (m := Mem.plus (memOf w0 Z0 [] [] [(fPtr (tyInt .i32) p10 u8), (fDat (tyList (tyInt .i32)) [s7] a3), (fDat (tyList tyS_glob_span) [s5] u2.spans), (fDat tyS_glob_element [(iq u2.kind), s5, (bool u2.not)] u2), (fPtr tyS_glob_element p4 u2), (fDat (tyList tyS_glob_element) [s1] a2), (fPtr (tyList tyS_glob_element) c2 a2), (fPtr (tyList (tyInt .i32)) c3 a3)]) X_ Y_) ?_
 refine aq_next hK_ [] [3, 6, 7] [(6, (bool false)), (15, (bool r12))] [] [] rfl rfl (by decide) rfl ⟨rfl, rfl, trivial⟩ trivial ?_
 clear hK_ K_ F_ X_ Y_
 refine ta_show (m := (memOf w0 Z0 [] [] [(fDat tyS_glob_element [(iq u2.kind), s5, (bool u2.not)] u2), (fPtr (tyList tyS_glob_element) c2 a2), (fPtr (tyList (tyInt .i32)) c3 a3)])) (S := (tab [(6, (bool false)), (15, (bool r12))])) ?_
 refine ta_step 9 _ [] [] [] [] [] [] rfl rfl rfl (by kernel_rfl) rfl rfl rfl trivial ?_
 intro X_ Y_ F_ K_ hK_
 refine al_show (m := Mem.plus (memOf w0 Z0 [] [] [(fDat tyS_glob_element [(iq u2.kind), s5, (bool u2.not)] u2), (fPtr (tyList tyS_glob_element) c2 a2), (fPtr (tyList (tyInt .i32)) c3 a3)]) X_ Y_) (S := over (tab [(6, (bool false)), (15, (bool r12))]) F_) ?_
 refine al_as rfl rfl ?_
 refine al_nil ?_
 refine aq_show (m := Mem.plus (memOf w0 Z0 [] [] [(fDat tyS_glob_element [(iq u2.kind), s5, (bool u2.not)] u2), (fPtr (tyList tyS_glob_element) c2 a2), (fPtr (tyList (tyInt .i32)) c3 a3)]) X_ Y_) ?_
 refine aq_next hK_ [] [0, 1, 2] [(6, (bool r12))] [] [] rfl rfl (by decide) rfl ⟨rfl, trivial⟩ trivial ?_
 clear hK_ K_ F_ X_ Y_
 refine ta_show (m := (memOf w0 Z0 [] [] [(fDat tyS_glob_element [(iq u2.kind), s5, (bool u2.not)] u2), (fPtr (tyList tyS_glob_element) c2 a2), (fPtr (tyList (tyInt .i32)) c3 a3)])) (S := (tab [(6, (bool r12))])) ?_
 refine ta_end [] [] rfl rfl (by kernel_rfl) rfl trivial ?_
 refine aq_show (m := (memOf w0 Z0 [] [] [(fDat tyS_glob_element [(iq u2.kind), s5, (bool u2.not)] u2), (fPtr (tyList tyS_glob_element) c2 a2), (fPtr (tyList (tyInt .i32)) c3 a3)])) (S := (tab [(6, (bool r12))])) ?_
 refine aq_then ?_
 refine aw_ret ?_
 obtain rfl := Option.some.inj h
 exact fn_ret () [] [] rfl rfl rfl rfl (res1 rfl rfl) rfl rfl rfl (by decide)
-- STUCK lumberroom/glob.sequence: lty ['func', [3, 3], [4], False]
def f_glob_sequence_F77_F78_L26 (a1 : Int) (a2_0 : (List S_glob_element)) (a3_0 : (List S_glob_element)) (a3_1 : (List Int)) (l13x9 : (List Bool)) (l13i19 : Int) (kk23 : ((List Bool) → Option Bool)) (fu : Nat) : Nat → (List Bool) → Int → Option Bool
  | 0, _, _ => none
  | k25 + 1, l24x11, l24i27 => (bif (decide (l24i27 < (IntKind.i64.wrap (a1 + (1 : Int))))) then (lt (fun (j28x11 : (List Bool)) => (f_glob_sequence_F77_F78_L26 a1 a2_0 a3_0 a3_1 l13x9 l13i19 kk23 fu k25 j28x11 (IntKind.i64.wrap (l24i27 + (1 : Int))))) fun (kk29 : (List Bool) → Option Bool) => (opt (f_glob_name_1 fu l13i19 a2_0) fun (r31 : Bool) => (bif r31 then (opt (at? l13x9 l24i27) fun (u33 : Bool) => (bif u33 then (opt (at? l24x11 l24i27) fun (u38 : Bool) => (kk29 (l24x11.set (l24i27).toNat true))) else (bif (decide (l24i27 > (0 : Int))) then (opt (at? l24x11 (IntKind.i64.wrap (l24i27 - (1 : Int)))) fun (u43 : Bool) => (opt (at? l24x11 l24i27) fun (u47 : Bool) => (kk29 (l24x11.set (l24i27).toNat u43)))) else (opt (at? l24x11 l24i27) fun (u51 : Bool) => (kk29 (l24x11.set (l24i27).toNat false)))))) else (bif (decide (l24i27 > (0 : Int))) then (opt (at? l13x9 (IntKind.i64.wrap (l24i27 - (1 : Int)))) fun (u56 : Bool) => (bif u56 then (opt (f_glob_name_2 fu l13i19 (IntKind.i64.wrap (l24i27 - (1 : Int))) a3_0 a3_1) fun (r62 : Bool) => (opt (at? l24x11 l24i27) fun (u63 : Bool) => (kk29 (l24x11.set (l24i27).toNat r62)))) else (opt (at? l24x11 l24i27) fun (u67 : Bool) => (kk29 (l24x11.set (l24i27).toNat false))))) else (opt (at? l24x11 l24i27) fun (u71 : Bool) => (kk29 (l24x11.set (l24i27).toNat false))))))) else (kk23 l24x11))
def f_glob_sequence_F77_F78_L15 (a0 : Int) (a1 : Int) (a2_0 : (List S_glob_element)) (a3_0 : (List S_glob_element)) (a3_1 : (List Int)) (kk8 : ((List Bool) → Option Bool)) (fu : Nat) : Nat → (List Bool) → Int → Option Bool
  | 0, _, _ => none
  | k14 + 1, l13x9, l13i19 => (lt (fun (l13x9 : (List Bool)) (l13i19 : Int) => (f_glob_sequence_F77_F78_L15 a0 a1 a2_0 a3_0 a3_1 kk8 fu k14 l13x9 l13i19)) fun (kk16 : (List Bool) → Int → Option Bool) => (bif (decide (l13i19 < a0)) then (lt (fun (j18x9 : (List Bool)) => (kk16 j18x9 (IntKind.i64.wrap (l13i19 + (1 : Int))))) fun (kk19 : (List Bool) → Option Bool) => (req (0 ≤ (IntKind.i64.wrap (a1 + (1 : Int))) ∧ 1 * (IntKind.i64.wrap (a1 + (1 : Int))) ≤ 281474976710656 ∧ (IntKind.i64.wrap (a1 + (1 : Int))) ≤ 9223372036854775807) (lt (fun (j22x11 : (List Bool)) => (kk19 j22x11)) fun (kk23 : (List Bool) → Option Bool) => (f_glob_sequence_F77_F78_L26 a1 a2_0 a3_0 a3_1 l13x9 l13i19 kk23 fu fu (List.replicate ((IntKind.i64.wrap (a1 + (1 : Int)))).toNat false) (0 : Int))))) else (kk8 l13x9)))
def f_glob_sequence_F77_F78 (fu : Nat) (a0 : Int) (a1 : Int) (a2_0 : (List S_glob_element)) (a3_0 : (List S_glob_element)) (a3_1 : (List Int)) : Option Bool := (req (0 ≤ (IntKind.i64.wrap (a1 + (1 : Int))) ∧ 1 * (IntKind.i64.wrap (a1 + (1 : Int))) ≤ 281474976710656 ∧ (IntKind.i64.wrap (a1 + (1 : Int))) ≤ 9223372036854775807) (opt (at? (List.replicate ((IntKind.i64.wrap (a1 + (1 : Int)))).toNat false) (0 : Int)) fun (u3 : Bool) => (lt (fun (j7x9 : (List Bool)) => (opt (at? j7x9 a1) fun (u9 : Bool) => (some u9))) fun (kk8 : (List Bool) → Option Bool) => (f_glob_sequence_F77_F78_L15 a0 a1 a2_0 a3_0 a3_1 kk8 fu fu ((List.replicate ((IntKind.i64.wrap (a1 + (1 : Int)))).toNat false).set ((0 : Int)).toNat true) (0 : Int)))))
set_option maxRecDepth 100000 in
set_option maxHeartbeats 2000000 in
set_option maxHeartbeats 2000000 in
theorem f_glob_sequence_F77_F78_ok (fu : Nat) (a0 : Int) (a1 : Int) (c2_0 : Value) (a2_0 : (List S_glob_element)) (c3_0 : Value) (a3_0 : (List S_glob_element)) (c3_1 : Value) (a3_1 : (List Int)) {r : Bool} (h : f_glob_sequence_F77_F78 fu a0 a1 a2_0 a3_0 a3_1 = some r) : FnOk Tryd.prog 45 [(int .i64 a0), (int .i64 a1), (Value.func (.func 77) #[] #[c2_0]), (Value.func (.func 78) #[] #[c3_0, c3_1])] [(fPtr (tyList tyS_glob_element) c2_0 a2_0), (fPtr (tyList tyS_glob_element) c3_0 a3_0), (fPtr (tyList (tyInt .i32)) c3_1 a3_1)] [] (fun (i : Unit) => { val := (bool r) }) := by
 unfold f_glob_sequence_F77_F78 at h
 refine fn_enter Tryd.func45 rfl Tryd.ntmps45 rfl (fun w0 Z0 => ?_)
 refine aw_sr ?_
 refine al_as rfl rfl ?_
 refine al_nt ?_
 refine aw_sr ?_
 refine al_mv rfl rfl ?_
 refine al_in rfl rfl rfl rfl ?_
 obtain ⟨hc1, h⟩ := req_some h
 refine al_make (τ := tyBool) (x0 := false) hc1.1 hc1.2.1 hc1.2.2 rfl rfl Tryd.underlying131 to4 (fun _ _ => rfl) rfl rfl (fun v2 => ?_)
 refine al_as rfl rfl ?_
 refine al_nt ?_
 refine aw_sr ?_
 refine al_mv rfl rfl ?_
 obtain ⟨u3, hu4, h⟩ := opt_some h
 refine al_idxR 0 (at_some hu4).1 (at_some hu4).2.1 rfl rfl rfl Tryd.underlying131 sz4 rfl (fun p5 hp6 => ?_)
 refine al_storeR (k := ((0 : Int)).toNat) (x := true) (vs := [(bool true)]) 0 rfl hp6 (idx_lt hu4) rfl rfl (cv_rfl rfl) (fun _ => rfl) sz4 rfl ?_
 refine al_nt ?_
 obtain ⟨kk8, hkk8, h⟩ := lt_some h
 refine aw_seq_join (ι := Value × (List Bool)) (fun i => (memOf w0 Z0 [] [(oRow i.1 4 tyBool i.2)] [(fPtr (tyList tyS_glob_element) c2_0 a2_0), (fPtr (tyList tyS_glob_element) c3_0 a3_0), (fPtr (tyList (tyInt .i32)) c3_1 a3_1)])) (fun i => (tab [(1, (iq a1)), (9, i.1)])) (fun i => kk8 i.2 = some r) ?_ ?_
 ·rintro ⟨j7v9, j7x9⟩ h
  have h : kk8 j7x9 = some r := h
  rw [hkk8] at h
  dsimp only at h
  clear hkk8
  refine aw_show (m := (memOf w0 Z0 [] [(oRow j7v9 4 tyBool j7x9)] [(fPtr (tyList tyS_glob_element) c2_0 a2_0), (fPtr (tyList tyS_glob_element) c3_0 a3_0), (fPtr (tyList (tyInt .i32)) c3_1 a3_1)])) (S := (tab [(1, (iq a1)), (9, j7v9)])) ?_
  refine aw_sr ?_
  refine al_mv rfl rfl ?_
  refine al_mv rfl rfl ?_
  obtain ⟨u9, hu10, h⟩ := opt_some h
  refine al_idxR 0 (at_some hu10).1 (at_some hu10).2.1 rfl rfl rfl Tryd.underlying131 sz4 rfl (fun p11 hp12 => ?_)
  refine al_val (ov_loadR (ds := [(bool u9)]) 0 rfl hp12 (at_some hu10).2.2 (fun h => h) rfl Tryd.underlying4 sz4 rfl rfl rfl) ?_
  refine al_as rfl rfl ?_
  refine al_nt ?_
  refine aw_ret ?_
  obtain rfl := Option.some.inj h
  exact fn_ret () [] [] rfl rfl rfl rfl (res1 rfl rfl) rfl rfl rfl (by decide)
 ·clear hkk8
  refine aw_sr ?_
  refine al_mv rfl rfl ?_
  refine al_mv rfl rfl ?_
  refine al_nt ?_
  refine aw_block ?_
  refine aw_state (aw_loop (ι := Value × (List Bool) × Int) (fun i => (memOf w0 Z0 [] [(oRow i.1 4 tyBool i.2.1)] [(fPtr (tyList tyS_glob_element) c2_0 a2_0), (fPtr (tyList tyS_glob_element) c3_0 a3_0), (fPtr (tyList (tyInt .i32)) c3_1 a3_1)])) (fun i => (tab [(1, (iq a1)), (2, (Value.func (.func 77) #[] #[c2_0])), (3, (Value.func (.func 78) #[] #[c3_0, c3_1])), (9, i.1), (18, (iq a0)), (19, (iq i.2.2))])) (fun q i => f_glob_sequence_F77_F78_L15 a0 a1 a2_0 a3_0 a3_1 kk8 fu q i.2.1 i.2.2 = some r) ?_ fu (v2, ((List.replicate ((wq (a1 + (1 : Int)))).toNat false).set ((0 : Int)).toNat true), (0 : Int)) h) (fun w a hm hs => norm hm hs [0] [0, 1, 2] [(1, (iq a1)), (2, (Value.func (.func 77) #[] #[c2_0])), (3, (Value.func (.func 78) #[] #[c3_0, c3_1])), (9, v2), (18, (iq a0)), (19, (iq (0 : Int)))] (by decide) ⟨rfl, rfl, rfl, rfl, rfl, rfl, trivial⟩)
  clear h
  rintro k14 ⟨l13v9, l13x9, l13i19⟩ h
  have h : f_glob_sequence_F77_F78_L15 a0 a1 a2_0 a3_0 a3_1 kk8 fu k14 l13x9 l13i19 = some r := h
  obtain _ | k14 := k14
  · rw [f_glob_sequence_F77_F78_L15] at h; cases h
  rw [f_glob_sequence_F77_F78_L15] at h
  refine aw_show (m := (memOf w0 Z0 [] [(oRow l13v9 4 tyBool l13x9)] [(fPtr (tyList tyS_glob_element) c2_0 a2_0), (fPtr (tyList tyS_glob_element) c3_0 a3_0), (fPtr (tyList (tyInt .i32)) c3_1 a3_1)])) (S := (tab [(1, (iq a1)), (2, (Value.func (.func 77) #[] #[c2_0])), (3, (Value.func (.func 78) #[] #[c3_0, c3_1])), (9, l13v9), (18, (iq a0)), (19, (iq l13i19))])) ?_
  obtain ⟨kk16, hkk16, h⟩ := lt_some h
  refine aw_body_join (ι := Value × (List Bool) × Int) (fun i => (memOf w0 Z0 [] [(oRow i.1 4 tyBool i.2.1)] [(fPtr (tyList tyS_glob_element) c2_0 a2_0), (fPtr (tyList tyS_glob_element) c3_0 a3_0), (fPtr (tyList (tyInt .i32)) c3_1 a3_1)])) (fun i => (tab [(1, (iq a1)), (2, (Value.func (.func 77) #[] #[c2_0])), (3, (Value.func (.func 78) #[] #[c3_0, c3_1])), (9, i.1), (18, (iq a0)), (19, (iq i.2.2))])) (fun i => kk16 i.2.1 i.2.2 = some r) (fun i h => aq_again k14 i (Nat.lt_succ_self _) (by rw [hkk16] at h; exact h) (fun w a hm hs => ⟨hm, hs⟩)) ?_
  clear hkk16
  refine aw_sr ?_
  refine al_in rfl rfl rfl rfl ?_
  refine al_nt ?_
  refine aw_seq ?_
  refine aw_cond rfl (fun hb17 => ?_) (fun hb17 => ?_)
  ·replace h := bif_t hb17 h
   refine aw_skip ?_
   refine aq_then ?_
   obtain ⟨kk19, hkk19, h⟩ := lt_some h
   refine aw_seq_join (ι := Value × (List Bool)) (fun i => (memOf w0 Z0 [] [(oRow i.1 4 tyBool i.2)] [(fPtr (tyList tyS_glob_element) c2_0 a2_0), (fPtr (tyList tyS_glob_element) c3_0 a3_0), (fPtr (tyList (tyInt .i32)) c3_1 a3_1)])) (fun i => (tab [(1, (iq a1)), (2, (Value.func (.func 77) #[] #[c2_0])), (3, (Value.func (.func 78) #[] #[c3_0, c3_1])), (9, i.1), (18, (iq a0)), (19, (iq l13i19))])) (fun i => kk19 i.2 = some r) ?_ ?_
   ·rintro ⟨j18v9, j18x9⟩ h
    have h : kk19 j18x9 = some r := h
    rw [hkk19] at h
    dsimp only at h
    clear hkk19
    refine aw_show (m := (memOf w0 Z0 [] [(oRow j18v9 4 tyBool j18x9)] [(fPtr (tyList tyS_glob_element) c2_0 a2_0), (fPtr (tyList tyS_glob_element) c3_0 a3_0), (fPtr (tyList (tyInt .i32)) c3_1 a3_1)])) (S := (tab [(1, (iq a1)), (2, (Value.func (.func 77) #[] #[c2_0])), (3, (Value.func (.func 78) #[] #[c3_0, c3_1])), (9, j18v9), (18, (iq a0)), (19, (iq l13i19))])) ?_
    refine aw_region ?_
    refine al_in rfl rfl rfl rfl ?_
    refine al_mv rfl rfl ?_
    refine al_nil ?_
    exact aq_join (j18v9, j18x9, (wq (l13i19 + (1 : Int)))) h (fun w a hm hs => norm hm hs [0] [0, 1, 2] [(1, (iq a1)), (2, (Value.func (.func 77) #[] #[c2_0])), (3, (Value.func (.func 78) #[] #[c3_0, c3_1])), (9, j18v9), (18, (iq a0)), (19, (iq (wq (l13i19 + (1 : Int)))))] (by decide) ⟨rfl, rfl, rfl, rfl, rfl, rfl, trivial⟩)
   ·clear hkk19
    refine aw_block ?_
    refine aw_sr ?_
    refine al_mv rfl rfl ?_
    refine al_as rfl rfl ?_
    refine al_nt ?_
    refine aw_sr ?_
    refine al_mv rfl rfl ?_
    refine al_in rfl rfl rfl rfl ?_
    obtain ⟨hc20, h⟩ := req_some h
    refine al_make (τ := tyBool) (x0 := false) hc20.1 hc20.2.1 hc20.2.2 rfl rfl Tryd.underlying131 to4 (fun _ _ => rfl) rfl rfl (fun v21 => ?_)
    refine al_as rfl rfl ?_
    refine al_nt ?_
    obtain ⟨kk23, hkk23, h⟩ := lt_some h
    refine aw_seq_join (ι := (List Bool)) (fun i => (memOf w0 Z0 [] [(oRow v21 4 tyBool i)] [(fPtr (tyList tyS_glob_element) c2_0 a2_0), (fPtr (tyList tyS_glob_element) c3_0 a3_0), (fPtr (tyList (tyInt .i32)) c3_1 a3_1)])) (fun i => (tab [(1, (iq a1)), (2, (Value.func (.func 77) #[] #[c2_0])), (3, (Value.func (.func 78) #[] #[c3_0, c3_1])), (11, v21), (18, (iq a0)), (19, (iq l13i19))])) (fun i => kk23 i = some r) ?_ ?_
    ·rintro j22x11 h
     have h : kk23 j22x11 = some r := h
     rw [hkk23] at h
     dsimp only at h
     clear hkk23
     refine aw_show (m := (memOf w0 Z0 [] [(oRow v21 4 tyBool j22x11)] [(fPtr (tyList tyS_glob_element) c2_0 a2_0), (fPtr (tyList tyS_glob_element) c3_0 a3_0), (fPtr (tyList (tyInt .i32)) c3_1 a3_1)])) (S := (tab [(1, (iq a1)), (2, (Value.func (.func 77) #[] #[c2_0])), (3, (Value.func (.func 78) #[] #[c3_0, c3_1])), (11, v21), (18, (iq a0)), (19, (iq l13i19))])) ?_
     refine aw_region ?_
     refine al_mv rfl rfl ?_
     refine al_as rfl rfl ?_
     refine al_nil ?_
     refine aq_block ?_
     exact aq_join (v21, j22x11) h (fun w a hm hs => norm hm hs [0] [0, 1, 2] [(1, (iq a1)), (2, (Value.func (.func 77) #[] #[c2_0])), (3, (Value.func (.func 78) #[] #[c3_0, c3_1])), (9, v21), (18, (iq a0)), (19, (iq l13i19))] (by decide) ⟨rfl, rfl, rfl, rfl, rfl, rfl, trivial⟩)
    ·clear hkk23
     refine aw_sr ?_
     refine al_mv rfl rfl ?_
     refine al_in rfl rfl rfl rfl ?_
     refine al_mv rfl rfl ?_
     refine al_nt ?_
     refine aw_block ?_
     refine aw_state (aw_loop (ι := (List Bool) × Int) (fun i => (memOf w0 Z0 [] [(oRow l13v9 4 tyBool l13x9), (oRow v21 4 tyBool i.1)] [(fPtr (tyList tyS_glob_element) c2_0 a2_0), (fPtr (tyList tyS_glob_element) c3_0 a3_0), (fPtr (tyList (tyInt .i32)) c3_1 a3_1)])) (fun i => (tab [(1, (iq a1)), (2, (Value.func (.func 77) #[] #[c2_0])), (3, (Value.func (.func 78) #[] #[c3_0, c3_1])), (9, l13v9), (10, (iq l13i19)), (11, v21), (18, (iq a0)), (19, (iq l13i19)), (26, (iq (wq (a1 + (1 : Int))))), (27, (iq i.2))])) (fun q i => f_glob_sequence_F77_F78_L26 a1 a2_0 a3_0 a3_1 l13x9 l13i19 kk23 fu q i.1 i.2 = some r) ?_ fu ((List.replicate ((wq (a1 + (1 : Int)))).toNat false), (0 : Int)) h) (fun w a hm hs => norm hm hs [1, 0] [0, 1, 2] [(1, (iq a1)), (2, (Value.func (.func 77) #[] #[c2_0])), (3, (Value.func (.func 78) #[] #[c3_0, c3_1])), (9, l13v9), (10, (iq l13i19)), (11, v21), (18, (iq a0)), (19, (iq l13i19)), (26, (iq (wq (a1 + (1 : Int))))), (27, (iq (0 : Int)))] (by decide) ⟨rfl, rfl, rfl, rfl, rfl, rfl, rfl, rfl, rfl, rfl, trivial⟩)
     clear h
     rintro k25 ⟨l24x11, l24i27⟩ h
     have h : f_glob_sequence_F77_F78_L26 a1 a2_0 a3_0 a3_1 l13x9 l13i19 kk23 fu k25 l24x11 l24i27 = some r := h
     obtain _ | k25 := k25
     · rw [f_glob_sequence_F77_F78_L26] at h; cases h
     rw [f_glob_sequence_F77_F78_L26] at h
     refine aw_show (m := (memOf w0 Z0 [] [(oRow l13v9 4 tyBool l13x9), (oRow v21 4 tyBool l24x11)] [(fPtr (tyList tyS_glob_element) c2_0 a2_0), (fPtr (tyList tyS_glob_element) c3_0 a3_0), (fPtr (tyList (tyInt .i32)) c3_1 a3_1)])) (S := (tab [(1, (iq a1)), (2, (Value.func (.func 77) #[] #[c2_0])), (3, (Value.func (.func 78) #[] #[c3_0, c3_1])), (9, l13v9), (10, (iq l13i19)), (11, v21), (18, (iq a0)), (19, (iq l13i19)), (26, (iq (wq (a1 + (1 : Int))))), (27, (iq l24i27))])) ?_
     refine aw_sr ?_
     refine al_in rfl rfl rfl rfl ?_
     refine al_nt ?_
     refine aw_seq ?_
     refine aw_cond rfl (fun hb27 => ?_) (fun hb27 => ?_)
     ·replace h := bif_t hb27 h
      refine aw_skip ?_
      refine aq_then ?_
      obtain ⟨kk29, hkk29, h⟩ := lt_some h
      refine aw_seq_join (ι := (List Bool)) (fun i => (memOf w0 Z0 [] [(oRow l13v9 4 tyBool l13x9), (oRow v21 4 tyBool i)] [(fPtr (tyList tyS_glob_element) c2_0 a2_0), (fPtr (tyList tyS_glob_element) c3_0 a3_0), (fPtr (tyList (tyInt .i32)) c3_1 a3_1)])) (fun i => (tab [(1, (iq a1)), (2, (Value.func (.func 77) #[] #[c2_0])), (3, (Value.func (.func 78) #[] #[c3_0, c3_1])), (9, l13v9), (10, (iq l13i19)), (11, v21), (18, (iq a0)), (19, (iq l13i19)), (26, (iq (wq (a1 + (1 : Int))))), (27, (iq l24i27))])) (fun i => kk29 i = some r) ?_ ?_
      ·rintro j28x11 h
       have h : kk29 j28x11 = some r := h
       rw [hkk29] at h
       dsimp only at h
       clear hkk29
       refine aw_show (m := (memOf w0 Z0 [] [(oRow l13v9 4 tyBool l13x9), (oRow v21 4 tyBool j28x11)] [(fPtr (tyList tyS_glob_element) c2_0 a2_0), (fPtr (tyList tyS_glob_element) c3_0 a3_0), (fPtr (tyList (tyInt .i32)) c3_1 a3_1)])) (S := (tab [(1, (iq a1)), (2, (Value.func (.func 77) #[] #[c2_0])), (3, (Value.func (.func 78) #[] #[c3_0, c3_1])), (9, l13v9), (10, (iq l13i19)), (11, v21), (18, (iq a0)), (19, (iq l13i19)), (26, (iq (wq (a1 + (1 : Int))))), (27, (iq l24i27))])) ?_
       refine aw_region ?_
       refine al_in rfl rfl rfl rfl ?_
       refine al_mv rfl rfl ?_
       refine al_nil ?_
       exact aq_again k25 (j28x11, (wq (l24i27 + (1 : Int)))) (Nat.lt_succ_self _) h (fun w a hm hs => norm hm hs [0, 1] [0, 1, 2] [(1, (iq a1)), (2, (Value.func (.func 77) #[] #[c2_0])), (3, (Value.func (.func 78) #[] #[c3_0, c3_1])), (9, l13v9), (10, (iq l13i19)), (11, v21), (18, (iq a0)), (19, (iq l13i19)), (26, (iq (wq (a1 + (1 : Int))))), (27, (iq (wq (l24i27 + (1 : Int)))))] (by decide) ⟨rfl, rfl, rfl, rfl, rfl, rfl, rfl, rfl, rfl, rfl, trivial⟩)
      ·clear hkk29
       refine aw_block ?_
       refine aw_sr ?_
       refine al_mv rfl rfl ?_
       refine al_as rfl rfl ?_
       refine al_nt ?_
       refine aw_sr ?_
       refine al_mv rfl rfl ?_
       refine al_mv rfl rfl ?_
       obtain ⟨r31, hc30, h⟩ := opt_some h
       refine al_callF (vs := [(iq l13i19)]) (caps := [c2_0]) (f_glob_name_1_ok fu l13i19 c2_0 a2_0 hc30) rfl [] [] [0, 1] (pre_fz 0 rfl pre_nil) rfl (by simp) (by decide) (.inl rfl) rfl rfl Tryd.func77 rfl rfl rfl (fun _ => ?_)
       refine al_nt ?_
       refine aw_cond rfl (fun hb32 => ?_) (fun hb32 => ?_)
       ·replace h := bif_t hb32 h
        refine aw_region ?_
        refine al_mv rfl rfl ?_
        refine al_mv rfl rfl ?_
        refine al_mv rfl rfl ?_
        refine al_mv rfl rfl ?_
        obtain ⟨u33, hu34, h⟩ := opt_some h
        refine al_idxR 0 (at_some hu34).1 (at_some hu34).2.1 rfl rfl rfl Tryd.underlying131 sz4 rfl (fun p35 hp36 => ?_)
        refine al_val (ov_loadR (ds := [(bool u33)]) 0 rfl hp36 (at_some hu34).2.2 (fun h => h) rfl Tryd.underlying4 sz4 rfl rfl rfl) ?_
        refine al_mv rfl rfl ?_
        refine al_caseB 39 rfl (fun hb37 => ?_) (fun hb37 => ?_)
        ·replace h := bif_t hb37 h
         refine al_skip ?_
         refine al_skip ?_
         refine al_skip ?_
         refine al_skip ?_
         refine al_skip ?_
         refine al_skip ?_
         refine al_skip ?_
         refine al_skip ?_
         refine al_skip ?_
         refine al_val (ov_pick_t rfl rfl rfl) ?_
         obtain ⟨u38, hu39, h⟩ := opt_some h
         refine al_idxR 1 (at_some hu39).1 (at_some hu39).2.1 rfl rfl rfl Tryd.underlying131 sz4 rfl (fun p40 hp41 => ?_)
         refine al_storeR (k := (l24i27).toNat) (x := true) (vs := [(bool true)]) 1 rfl hp41 (idx_lt hu39) rfl rfl (cv_rfl rfl) (fun _ => rfl) sz4 rfl ?_
         refine al_nil ?_
         refine aq_block ?_
         exact aq_join (l24x11.set (l24i27).toNat true) h (fun w a hm hs => norm hm hs [0, 1] [0, 1, 2] [(1, (iq a1)), (2, (Value.func (.func 77) #[] #[c2_0])), (3, (Value.func (.func 78) #[] #[c3_0, c3_1])), (9, l13v9), (10, (iq l13i19)), (11, v21), (18, (iq a0)), (19, (iq l13i19)), (26, (iq (wq (a1 + (1 : Int))))), (27, (iq l24i27))] (by decide) ⟨rfl, rfl, rfl, rfl, rfl, rfl, rfl, rfl, rfl, rfl, trivial⟩)
        ·replace h := bif_f hb37 h
         refine al_mv rfl rfl ?_
         refine al_in rfl rfl rfl rfl ?_
         refine al_mv rfl rfl ?_
         refine al_caseB 42 rfl (fun hb42 => ?_) (fun hb42 => ?_)
         ·replace h := bif_t hb42 h
          refine al_mv rfl rfl ?_
          refine al_mv rfl rfl ?_
          refine al_in rfl rfl rfl rfl ?_
          obtain ⟨u43, hu44, h⟩ := opt_some h
          refine al_idxR 1 (at_some hu44).1 (at_some hu44).2.1 rfl rfl rfl Tryd.underlying131 sz4 rfl (fun p45 hp46 => ?_)
          refine al_val (ov_loadR (ds := [(bool u43)]) 1 rfl hp46 (at_some hu44).2.2 (fun h => h) rfl Tryd.underlying4 sz4 rfl rfl rfl) ?_
          refine al_val (ov_pick_t rfl rfl rfl) ?_
          refine al_val (ov_pick_f rfl rfl rfl) ?_
          obtain ⟨u47, hu48, h⟩ := opt_some h
          refine al_idxR 1 (at_some hu48).1 (at_some hu48).2.1 rfl rfl rfl Tryd.underlying131 sz4 rfl (fun p49 hp50 => ?_)
          refine al_storeR (k := (l24i27).toNat) (x := u43) (vs := [(bool u43)]) 1 rfl hp50 (idx_lt hu48) rfl rfl (cv_rfl rfl) (fun _ => rfl) sz4 rfl ?_
          refine al_nil ?_
          refine aq_block ?_
          exact aq_join (l24x11.set (l24i27).toNat u43) h (fun w a hm hs => norm hm hs [0, 1] [0, 1, 2] [(1, (iq a1)), (2, (Value.func (.func 77) #[] #[c2_0])), (3, (Value.func (.func 78) #[] #[c3_0, c3_1])), (9, l13v9), (10, (iq l13i19)), (11, v21), (18, (iq a0)), (19, (iq l13i19)), (26, (iq (wq (a1 + (1 : Int))))), (27, (iq l24i27))] (by decide) ⟨rfl, rfl, rfl, rfl, rfl, rfl, rfl, rfl, rfl, rfl, trivial⟩)
         ·replace h := bif_f hb42 h
          refine al_skip ?_
          refine al_skip ?_
          refine al_skip ?_
          refine al_skip ?_
          refine al_skip ?_
          refine al_val (ov_pick_f rfl rfl rfl) ?_
          refine al_val (ov_pick_f rfl rfl rfl) ?_
          obtain ⟨u51, hu52, h⟩ := opt_some h
          refine al_idxR 1 (at_some hu52).1 (at_some hu52).2.1 rfl rfl rfl Tryd.underlying131 sz4 rfl (fun p53 hp54 => ?_)
          refine al_storeR (k := (l24i27).toNat) (x := false) (vs := [(bool false)]) 1 rfl hp54 (idx_lt hu52) rfl rfl (cv_rfl rfl) (fun _ => rfl) sz4 rfl ?_
          refine al_nil ?_
          refine aq_block ?_
          exact aq_join (l24x11.set (l24i27).toNat false) h (fun w a hm hs => norm hm hs [0, 1] [0, 1, 2] [(1, (iq a1)), (2, (Value.func (.func 77) #[] #[c2_0])), (3, (Value.func (.func 78) #[] #[c3_0, c3_1])), (9, l13v9), (10, (iq l13i19)), (11, v21), (18, (iq a0)), (19, (iq l13i19)), (26, (iq (wq (a1 + (1 : Int))))), (27, (iq l24i27))] (by decide) ⟨rfl, rfl, rfl, rfl, rfl, rfl, rfl, rfl, rfl, rfl, trivial⟩)
       ·replace h := bif_f hb32 h
        refine aw_region ?_
        refine al_mv rfl rfl ?_
        refine al_mv rfl rfl ?_
        refine al_mv rfl rfl ?_
        refine al_in rfl rfl rfl rfl ?_
        refine al_mv rfl rfl ?_
        refine al_caseB 55 rfl (fun hb55 => ?_) (fun hb55 => ?_)
        ·replace h := bif_t hb55 h
         refine al_mv rfl rfl ?_
         refine al_mv rfl rfl ?_
         refine al_in rfl rfl rfl rfl ?_
         obtain ⟨u56, hu57, h⟩ := opt_some h
         refine al_idxR 0 (at_some hu57).1 (at_some hu57).2.1 rfl rfl rfl Tryd.underlying131 sz4 rfl (fun p58 hp59 => ?_)
         refine al_val (ov_loadR (ds := [(bool u56)]) 0 rfl hp59 (at_some hu57).2.2 (fun h => h) rfl Tryd.underlying4 sz4 rfl rfl rfl) ?_
         refine al_val (ov_pick_t rfl rfl rfl) ?_
         refine al_mv rfl rfl ?_
         refine al_caseB 62 rfl (fun hb60 => ?_) (fun hb60 => ?_)
         ·replace h := bif_t hb60 h
          refine al_mv rfl rfl ?_
          refine al_mv rfl rfl ?_
          refine al_mv rfl rfl ?_
          refine al_in rfl rfl rfl rfl ?_
          obtain ⟨r62, hc61, h⟩ := opt_some h
          refine al_callF (vs := [(iq l13i19), (iq (wq (l24i27 - (1 : Int))))]) (caps := [c3_0, c3_1]) (f_glob_name_2_ok fu l13i19 (wq (l24i27 - (1 : Int))) c3_0 a3_0 c3_1 a3_1 hc61) rfl [] [] [0, 1] (pre_fz 1 rfl (pre_fz 2 rfl pre_nil)) rfl (by simp) (by decide) (.inl rfl) rfl rfl Tryd.func78 rfl rfl rfl (fun _ => ?_)
          refine al_val (ov_pick_t rfl rfl rfl) ?_
          obtain ⟨u63, hu64, h⟩ := opt_some h
          refine al_idxR 1 (at_some hu64).1 (at_some hu64).2.1 rfl rfl rfl Tryd.underlying131 sz4 rfl (fun p65 hp66 => ?_)
          refine al_storeR (k := (l24i27).toNat) (x := r62) (vs := [(bool r62)]) 1 rfl hp66 (idx_lt hu64) rfl rfl (cv_rfl rfl) (fun _ => rfl) sz4 rfl ?_
          refine al_nil ?_
          refine aq_block ?_
          exact aq_join (l24x11.set (l24i27).toNat r62) h (fun w a hm hs => norm hm hs [0, 1] [0, 1, 2] [(1, (iq a1)), (2, (Value.func (.func 77) #[] #[c2_0])), (3, (Value.func (.func 78) #[] #[c3_0, c3_1])), (9, l13v9), (10, (iq l13i19)), (11, v21), (18, (iq a0)), (19, (iq l13i19)), (26, (iq (wq (a1 + (1 : Int))))), (27, (iq l24i27))] (by decide) ⟨rfl, rfl, rfl, rfl, rfl, rfl, rfl, rfl, rfl, rfl, trivial⟩)
         ·replace h := bif_f hb60 h
          refine al_skip ?_
          refine al_skip ?_
          refine al_skip ?_
          refine al_skip ?_
          refine al_skip ?_
          refine al_val (ov_pick_f rfl rfl rfl) ?_
          obtain ⟨u67, hu68, h⟩ := opt_some h
          refine al_idxR 1 (at_some hu68).1 (at_some hu68).2.1 rfl rfl rfl Tryd.underlying131 sz4 rfl (fun p69 hp70 => ?_)
          refine al_storeR (k := (l24i27).toNat) (x := false) (vs := [(bool false)]) 1 rfl hp70 (idx_lt hu68) rfl rfl (cv_rfl rfl) (fun _ => rfl) sz4 rfl ?_
          refine al_nil ?_
          refine aq_block ?_
          exact aq_join (l24x11.set (l24i27).toNat false) h (fun w a hm hs => norm hm hs [0, 1] [0, 1, 2] [(1, (iq a1)), (2, (Value.func (.func 77) #[] #[c2_0])), (3, (Value.func (.func 78) #[] #[c3_0, c3_1])), (9, l13v9), (10, (iq l13i19)), (11, v21), (18, (iq a0)), (19, (iq l13i19)), (26, (iq (wq (a1 + (1 : Int))))), (27, (iq l24i27))] (by decide) ⟨rfl, rfl, rfl, rfl, rfl, rfl, rfl, rfl, rfl, rfl, trivial⟩)
        ·replace h := bif_f hb55 h
         refine al_skip ?_
         refine al_skip ?_
         refine al_skip ?_
         refine al_skip ?_
         refine al_skip ?_
         refine al_val (ov_pick_f rfl rfl rfl) ?_
         refine al_mv rfl rfl ?_
         refine al_skip ?_
         refine al_skip ?_
         refine al_skip ?_
         refine al_skip ?_
         refine al_skip ?_
         refine al_val (ov_pick_f rfl rfl rfl) ?_
         obtain ⟨u71, hu72, h⟩ := opt_some h
         refine al_idxR 1 (at_some hu72).1 (at_some hu72).2.1 rfl rfl rfl Tryd.underlying131 sz4 rfl (fun p73 hp74 => ?_)
         refine al_storeR (k := (l24i27).toNat) (x := false) (vs := [(bool false)]) 1 rfl hp74 (idx_lt hu72) rfl rfl (cv_rfl rfl) (fun _ => rfl) sz4 rfl ?_
         refine al_nil ?_
         refine aq_block ?_
         exact aq_join (l24x11.set (l24i27).toNat false) h (fun w a hm hs => norm hm hs [0, 1] [0, 1, 2] [(1, (iq a1)), (2, (Value.func (.func 77) #[] #[c2_0])), (3, (Value.func (.func 78) #[] #[c3_0, c3_1])), (9, l13v9), (10, (iq l13i19)), (11, v21), (18, (iq a0)), (19, (iq l13i19)), (26, (iq (wq (a1 + (1 : Int))))), (27, (iq l24i27))] (by decide) ⟨rfl, rfl, rfl, rfl, rfl, rfl, rfl, rfl, rfl, rfl, trivial⟩)
     ·replace h := bif_f hb27 h
      refine aw_exit ?_
      refine aq_then_exit ?_
      refine aq_then_exit ?_
      refine aq_block_exit ?_
      exact aq_join l24x11 h (fun w a hm hs => norm hm hs [1] [0, 1, 2] [(1, (iq a1)), (2, (Value.func (.func 77) #[] #[c2_0])), (3, (Value.func (.func 78) #[] #[c3_0, c3_1])), (11, v21), (18, (iq a0)), (19, (iq l13i19))] (by decide) ⟨rfl, rfl, rfl, rfl, rfl, rfl, trivial⟩)
  ·replace h := bif_f hb17 h
   refine aw_exit ?_
   refine aq_then_exit ?_
   refine aq_then_exit ?_
   refine aq_block_exit ?_
   exact aq_join (l13v9, l13x9) h (fun w a hm hs => norm hm hs [0] [0, 1, 2] [(1, (iq a1)), (9, l13v9)] (by decide) ⟨rfl, rfl, trivial⟩)
def f_glob_name (fu : Nat) (a0 : (List S_glob_element)) (a1 : (List UInt8)) : Option Bool := (req (a1.length ≤ 70368744177664) (opt (f_glob_sequence_F77_F78 fu (a0.length : Int) ((runes a1).length : Int) a0 a0 (runes a1)) fun (r8 : Bool) => (some r8)))
set_option maxHeartbeats 2000000 in
set_option maxRecDepth 100000 in
theorem f_glob_name_ok (fu : Nat) (v0_0 : Value) (a0 : (List S_glob_element)) (a1 : (List UInt8)) {r : Bool} (h : f_glob_name fu a0 a1 = some r) : FnOk Tryd.prog 48 [v0_0, (str a1)] [(fDat (tyList tyS_glob_element) [v0_0] a0)] [] (fun (i : Unit) => { val := (bool r) }) := by
 unfold f_glob_name at h
 refine fn_enter Tryd.func48 rfl Tryd.ntmps48 rfl (fun w0 Z0 => ?_)
 refine aw_sr ?_
 refine al_box (vs := [v0_0]) rfl (cv_fz 0 rfl) rfl (fun g1 => ?_)
 refine al_as rfl rfl ?_
 refine al_nt ?_
 refine aw_sr ?_
 refine al_mv rfl rfl ?_
 obtain ⟨hc2, h⟩ := req_some h
 refine al_runes hc2 rfl Tryd.underlying9 Tryd.underlying119 Tryd.underlying21 rfl (fun s3 => ?_)
 refine al_alloc (zs := [nS]) (zeroOf_to to119) rfl rfl (fun g4 => ?_)
 refine al_store (i := 0) (vs := [s3]) (cs' := [s3]) rfl rfl rfl sz119 (cv_fz 0 rfl) rfl (co_fz 0 rfl co_nil) (Nat.le_of_ble_eq_true rfl) rfl rfl ?_
 refine al_nt ?_
 refine aw_seq ?_
 refine aw_freezeBN (τ := (tyList tyS_glob_element)) 1 (a0) rfl rfl (fun hm => fz_at (i := 1) hm rfl) ?_
 refine aw_freezeBN (τ := (tyList (tyInt .i32))) 0 ((runes a1)) rfl rfl (fun hm => fz_at (i := 1) hm rfl) ?_
 refine aw_region ?_
 refine al_loadP1 1 rfl rfl Tryd.underlying79 sz79 rfl rfl rfl (fun s5 => ?_)
 refine al_val (ov_lenD 0 rfl rfl Tryd.underlying79 rfl) ?_
 refine al_loadP1 1 rfl rfl Tryd.underlying119 sz119 rfl rfl rfl (fun s6 => ?_)
 refine al_val (ov_lenD 0 rfl rfl Tryd.underlying119 rfl) ?_
 refine al_val (ov_makeFunc2 (vs := [(pq g1)]) rfl rfl) ?_
 refine al_val (ov_makeFunc2 (vs := [(pq g1), (pq g4)]) rfl rfl) ?_
 obtain ⟨r8, hc7, h⟩ := opt_some h
 refine al_call (vs := [(iq (a0.length : Int)), (iq ((runes a1).length : Int)), (Value.func (.func 77) #[] #[(pq g1)]), (Value.func (.func 78) #[] #[(pq g1), (pq g4)])]) (f_glob_sequence_F77_F78_ok fu (a0.length : Int) ((runes a1).length : Int) (pq g1) a0 (pq g1) a0 (pq g4) (runes a1) hc7) [] [] [] (pre_fz 3 rfl (pre_fz 3 rfl (pre_fz 2 rfl pre_nil))) rfl (by simp) (by decide) (.inl rfl) rfl Tryd.func45 rfl rfl rfl (fun _ => ?_)
 refine al_as rfl rfl ?_
 refine al_nt ?_
 refine aw_ret ?_
 obtain rfl := Option.some.inj h
 exact fn_ret () [] [] rfl rfl rfl rfl (res1 rfl rfl) rfl rfl rfl (by decide)
def f_glob_path_2 (fu : Nat) (a0 : Int) (a1 : Int) (a2 : (List S_glob_part)) (a3 : (List (List UInt8))) : Option Bool := (opt (at? a2 a0) fun (u2 : S_glob_part) => (opt (at? a3 a1) fun (u8 : (List UInt8)) => (opt (f_glob_name fu u2.elements u8) fun (r12 : Bool) => (some r12))))
set_option maxRecDepth 100000 in
theorem f_glob_path_2_ok (fu : Nat) (a0 : Int) (a1 : Int) (c2 : Value) (a2 : (List S_glob_part)) (c3 : Value) (a3 : (List (List UInt8))) {r : Bool} (h : f_glob_path_2 fu a0 a1 a2 a3 = some r) : FnOk Tryd.prog 47 [(int .i64 a0), (int .i64 a1), c2, c3] [(fPtr (tyList tyS_glob_part) c2 a2), (fPtr (tyList tyStr) c3 a3)] [] (fun (i : Unit) => { val := (bool r) }) := by
 unfold f_glob_path_2 at h
 refine fn_enter Tryd.func47 rfl Tryd.ntmps47 rfl (fun w0 Z0 => ?_)
 refine aw_sr ?_
 refine al_as rfl rfl ?_
 refine al_nt ?_
 refine aw_seq ?_
 obtain ⟨u2, hu3, h⟩ := opt_some h
 obtain ⟨u8, hu9, h⟩ := opt_some h
 obtain ⟨r12, hc11, h⟩ := opt_some h
 refine aw_region_draw 10 [(7, (fun s1 => (fDat (tyList tyS_glob_part) [s1] a2))), (8, (fun u => fEq u (iq a0))), (9, (fun p4 => (fPtr tyS_glob_part p4 u2))), (10, (fun p5 => (fPtr (tyList tyS_glob_element) p5 u2.elements))), (11, (fun s6 => (fDat (tyList tyS_glob_element) [s6] u2.elements))), (12, (fun s7 => (fDat (tyList tyStr) [s7] a3))), (13, (fun u => fEq u (iq a1))), (14, (fun p10 => (fPtr tyStr p10 u8))), (15, (fun u => fEq u (str u8))), (16, (fun u => fEq u (bool r12)))] (tab [(0, (iq a0)), (1, (iq a1)), (2, c2), (3, c3), (6, (bool false))]) mixed (by kernel_rfl) rfl rfl rfl (fun a hs => hs.tab _ (allT_mem ⟨rfl, rfl, rfl, rfl, rfl, trivial⟩)) ⟨⟨rfl, ld_of (of_loadP1 0 rfl rfl Tryd.underlying44 sz44 rfl rfl rfl)⟩, ⟨rfl, ld_val (ov_move rfl rfl)⟩, ⟨rfl, ld_fact (j := 0) rfl rfl (fun s1 => ld_eq (j := 1) rfl rfl (ld_of (of_idxD 0 hu3 rfl rfl rfl Tryd.underlying44 sz81 rfl)))⟩, ⟨rfl, ld_fact (j := 2) rfl rfl (fun p4 => ld_of (of_fieldD (pr := fun (y : S_glob_part) => y.elements) 0 rfl subS_glob_part_1 rfl Tryd.underlying81 rfl sz79 rfl rfl))⟩, ⟨rfl, ld_fact (j := 3) rfl rfl (fun p5 => ld_of (of_loadP1 0 rfl rfl Tryd.underlying79 sz79 rfl rfl rfl))⟩, ⟨rfl, ld_of (of_loadP1 1 rfl rfl Tryd.underlying22 sz22 rfl rfl rfl)⟩, ⟨rfl, ld_val (ov_move rfl rfl)⟩, ⟨rfl, ld_fact (j := 5) rfl rfl (fun s7 => ld_eq (j := 6) rfl rfl (ld_of (of_idxD 0 hu9 rfl rfl rfl Tryd.underlying22 sz9 rfl)))⟩, ⟨rfl, ld_fact (j := 7) rfl rfl (fun p10 => ld_val (ov_loadP (ds := [(str u8)]) 0 rfl (fun h => h) rfl Tryd.underlying9 sz9 rfl rfl rfl))⟩, ⟨rfl, ld_fact (j := 4) rfl rfl (fun s6 => ld_eq (j := 8) rfl rfl (ld_callV (vs := [s6, (str u8)]) (f_glob_name_ok fu s6 u2.elements u8 hc11) [] (pre_fz 0 rfl pre_nil) rfl Tryd.func48 rfl rfl rfl))⟩, trivial⟩ ?_
 refine tl_eq 9 rfl ?_
 refine tl_done ?_
 refine al_as rfl rfl ?_
 refine al_nt ?_
 refine aw_ret ?_
 obtain rfl := Option.some.inj h
 exact fn_ret () [] [] rfl rfl rfl rfl (res1 rfl rfl) rfl rfl rfl (by decide)
def f_glob_sequence_F46_F47_L26 (a1 : Int) (a2_0 : (List S_glob_part)) (a3_0 : (List S_glob_part)) (a3_1 : (List (List UInt8))) (l13x9 : (List Bool)) (l13i19 : Int) (kk23 : ((List Bool) → Option Bool)) (fu : Nat) : Nat → (List Bool) → Int → Option Bool
  | 0, _, _ => none
  | k25 + 1, l24x11, l24i27 => (bif (decide (l24i27 < (IntKind.i64.wrap (a1 + (1 : Int))))) then (lt (fun (j28x11 : (List Bool)) => (f_glob_sequence_F46_F47_L26 a1 a2_0 a3_0 a3_1 l13x9 l13i19 kk23 fu k25 j28x11 (IntKind.i64.wrap (l24i27 + (1 : Int))))) fun (kk29 : (List Bool) → Option Bool) => (opt (f_glob_path_1 fu l13i19 a2_0) fun (r31 : Bool) => (bif r31 then (opt (at? l13x9 l24i27) fun (u33 : Bool) => (bif u33 then (opt (at? l24x11 l24i27) fun (u38 : Bool) => (kk29 (l24x11.set (l24i27).toNat true))) else (bif (decide (l24i27 > (0 : Int))) then (opt (at? l24x11 (IntKind.i64.wrap (l24i27 - (1 : Int)))) fun (u43 : Bool) => (opt (at? l24x11 l24i27) fun (u47 : Bool) => (kk29 (l24x11.set (l24i27).toNat u43)))) else (opt (at? l24x11 l24i27) fun (u51 : Bool) => (kk29 (l24x11.set (l24i27).toNat false)))))) else (bif (decide (l24i27 > (0 : Int))) then (opt (at? l13x9 (IntKind.i64.wrap (l24i27 - (1 : Int)))) fun (u56 : Bool) => (bif u56 then (opt (f_glob_path_2 fu l13i19 (IntKind.i64.wrap (l24i27 - (1 : Int))) a3_0 a3_1) fun (r62 : Bool) => (opt (at? l24x11 l24i27) fun (u63 : Bool) => (kk29 (l24x11.set (l24i27).toNat r62)))) else (opt (at? l24x11 l24i27) fun (u67 : Bool) => (kk29 (l24x11.set (l24i27).toNat false))))) else (opt (at? l24x11 l24i27) fun (u71 : Bool) => (kk29 (l24x11.set (l24i27).toNat false))))))) else (kk23 l24x11))
def f_glob_sequence_F46_F47_L15 (a0 : Int) (a1 : Int) (a2_0 : (List S_glob_part)) (a3_0 : (List S_glob_part)) (a3_1 : (List (List UInt8))) (kk8 : ((List Bool) → Option Bool)) (fu : Nat) : Nat → (List Bool) → Int → Option Bool
  | 0, _, _ => none
  | k14 + 1, l13x9, l13i19 => (lt (fun (l13x9 : (List Bool)) (l13i19 : Int) => (f_glob_sequence_F46_F47_L15 a0 a1 a2_0 a3_0 a3_1 kk8 fu k14 l13x9 l13i19)) fun (kk16 : (List Bool) → Int → Option Bool) => (bif (decide (l13i19 < a0)) then (lt (fun (j18x9 : (List Bool)) => (kk16 j18x9 (IntKind.i64.wrap (l13i19 + (1 : Int))))) fun (kk19 : (List Bool) → Option Bool) => (req (0 ≤ (IntKind.i64.wrap (a1 + (1 : Int))) ∧ 1 * (IntKind.i64.wrap (a1 + (1 : Int))) ≤ 281474976710656 ∧ (IntKind.i64.wrap (a1 + (1 : Int))) ≤ 9223372036854775807) (lt (fun (j22x11 : (List Bool)) => (kk19 j22x11)) fun (kk23 : (List Bool) → Option Bool) => (f_glob_sequence_F46_F47_L26 a1 a2_0 a3_0 a3_1 l13x9 l13i19 kk23 fu fu (List.replicate ((IntKind.i64.wrap (a1 + (1 : Int)))).toNat false) (0 : Int))))) else (kk8 l13x9)))
def f_glob_sequence_F46_F47 (fu : Nat) (a0 : Int) (a1 : Int) (a2_0 : (List S_glob_part)) (a3_0 : (List S_glob_part)) (a3_1 : (List (List UInt8))) : Option Bool := (req (0 ≤ (IntKind.i64.wrap (a1 + (1 : Int))) ∧ 1 * (IntKind.i64.wrap (a1 + (1 : Int))) ≤ 281474976710656 ∧ (IntKind.i64.wrap (a1 + (1 : Int))) ≤ 9223372036854775807) (opt (at? (List.replicate ((IntKind.i64.wrap (a1 + (1 : Int)))).toNat false) (0 : Int)) fun (u3 : Bool) => (lt (fun (j7x9 : (List Bool)) => (opt (at? j7x9 a1) fun (u9 : Bool) => (some u9))) fun (kk8 : (List Bool) → Option Bool) => (f_glob_sequence_F46_F47_L15 a0 a1 a2_0 a3_0 a3_1 kk8 fu fu ((List.replicate ((IntKind.i64.wrap (a1 + (1 : Int)))).toNat false).set ((0 : Int)).toNat true) (0 : Int)))))
set_option maxRecDepth 100000 in
set_option maxHeartbeats 2000000 in
set_option maxHeartbeats 2000000 in
theorem f_glob_sequence_F46_F47_ok (fu : Nat) (a0 : Int) (a1 : Int) (c2_0 : Value) (a2_0 : (List S_glob_part)) (c3_0 : Value) (a3_0 : (List S_glob_part)) (c3_1 : Value) (a3_1 : (List (List UInt8))) {r : Bool} (h : f_glob_sequence_F46_F47 fu a0 a1 a2_0 a3_0 a3_1 = some r) : FnOk Tryd.prog 45 [(int .i64 a0), (int .i64 a1), (Value.func (.func 46) #[] #[c2_0]), (Value.func (.func 47) #[] #[c3_0, c3_1])] [(fPtr (tyList tyS_glob_part) c2_0 a2_0), (fPtr (tyList tyS_glob_part) c3_0 a3_0), (fPtr (tyList tyStr) c3_1 a3_1)] [] (fun (i : Unit) => { val := (bool r) }) := by
 unfold f_glob_sequence_F46_F47 at h
 refine fn_enter Tryd.func45 rfl Tryd.ntmps45 rfl (fun w0 Z0 => ?_)
 refine aw_sr ?_
 refine al_as rfl rfl ?_
 refine al_nt ?_
 refine aw_sr ?_
 refine al_mv rfl rfl ?_
 refine al_in rfl rfl rfl rfl ?_
 obtain ⟨hc1, h⟩ := req_some h
 refine al_make (τ := tyBool) (x0 := false) hc1.1 hc1.2.1 hc1.2.2 rfl rfl Tryd.underlying131 to4 (fun _ _ => rfl) rfl rfl (fun v2 => ?_)
 refine al_as rfl rfl ?_
 refine al_nt ?_
 refine aw_sr ?_
 refine al_mv rfl rfl ?_
 obtain ⟨u3, hu4, h⟩ := opt_some h
 refine al_idxR 0 (at_some hu4).1 (at_some hu4).2.1 rfl rfl rfl Tryd.underlying131 sz4 rfl (fun p5 hp6 => ?_)
 refine al_storeR (k := ((0 : Int)).toNat) (x := true) (vs := [(bool true)]) 0 rfl hp6 (idx_lt hu4) rfl rfl (cv_rfl rfl) (fun _ => rfl) sz4 rfl ?_
 refine al_nt ?_
 obtain ⟨kk8, hkk8, h⟩ := lt_some h
 refine aw_seq_join (ι := Value × (List Bool)) (fun i => (memOf w0 Z0 [] [(oRow i.1 4 tyBool i.2)] [(fPtr (tyList tyS_glob_part) c2_0 a2_0), (fPtr (tyList tyS_glob_part) c3_0 a3_0), (fPtr (tyList tyStr) c3_1 a3_1)])) (fun i => (tab [(1, (iq a1)), (9, i.1)])) (fun i => kk8 i.2 = some r) ?_ ?_
 ·rintro ⟨j7v9, j7x9⟩ h
  have h : kk8 j7x9 = some r := h
  rw [hkk8] at h
  dsimp only at h
  clear hkk8
  refine aw_show (m := (memOf w0 Z0 [] [(oRow j7v9 4 tyBool j7x9)] [(fPtr (tyList tyS_glob_part) c2_0 a2_0), (fPtr (tyList tyS_glob_part) c3_0 a3_0), (fPtr (tyList tyStr) c3_1 a3_1)])) (S := (tab [(1, (iq a1)), (9, j7v9)])) ?_
  refine aw_sr ?_
  refine al_mv rfl rfl ?_
  refine al_mv rfl rfl ?_
  obtain ⟨u9, hu10, h⟩ := opt_some h
  refine al_idxR 0 (at_some hu10).1 (at_some hu10).2.1 rfl rfl rfl Tryd.underlying131 sz4 rfl (fun p11 hp12 => ?_)
  refine al_val (ov_loadR (ds := [(bool u9)]) 0 rfl hp12 (at_some hu10).2.2 (fun h => h) rfl Tryd.underlying4 sz4 rfl rfl rfl) ?_
  refine al_as rfl rfl ?_
  refine al_nt ?_
  refine aw_ret ?_
  obtain rfl := Option.some.inj h
  exact fn_ret () [] [] rfl rfl rfl rfl (res1 rfl rfl) rfl rfl rfl (by decide)
 ·clear hkk8
  refine aw_sr ?_
  refine al_mv rfl rfl ?_
  refine al_mv rfl rfl ?_
  refine al_nt ?_
  refine aw_block ?_
  refine aw_state (aw_loop (ι := Value × (List Bool) × Int) (fun i => (memOf w0 Z0 [] [(oRow i.1 4 tyBool i.2.1)] [(fPtr (tyList tyS_glob_part) c2_0 a2_0), (fPtr (tyList tyS_glob_part) c3_0 a3_0), (fPtr (tyList tyStr) c3_1 a3_1)])) (fun i => (tab [(1, (iq a1)), (2, (Value.func (.func 46) #[] #[c2_0])), (3, (Value.func (.func 47) #[] #[c3_0, c3_1])), (9, i.1), (18, (iq a0)), (19, (iq i.2.2))])) (fun q i => f_glob_sequence_F46_F47_L15 a0 a1 a2_0 a3_0 a3_1 kk8 fu q i.2.1 i.2.2 = some r) ?_ fu (v2, ((List.replicate ((wq (a1 + (1 : Int)))).toNat false).set ((0 : Int)).toNat true), (0 : Int)) h) (fun w a hm hs => norm hm hs [0] [0, 1, 2] [(1, (iq a1)), (2, (Value.func (.func 46) #[] #[c2_0])), (3, (Value.func (.func 47) #[] #[c3_0, c3_1])), (9, v2), (18, (iq a0)), (19, (iq (0 : Int)))] (by decide) ⟨rfl, rfl, rfl, rfl, rfl, rfl, trivial⟩)
  clear h
  rintro k14 ⟨l13v9, l13x9, l13i19⟩ h
  have h : f_glob_sequence_F46_F47_L15 a0 a1 a2_0 a3_0 a3_1 kk8 fu k14 l13x9 l13i19 = some r := h
  obtain _ | k14 := k14
  · rw [f_glob_sequence_F46_F47_L15] at h; cases h
  rw [f_glob_sequence_F46_F47_L15] at h
  refine aw_show (m := (memOf w0 Z0 [] [(oRow l13v9 4 tyBool l13x9)] [(fPtr (tyList tyS_glob_part) c2_0 a2_0), (fPtr (tyList tyS_glob_part) c3_0 a3_0), (fPtr (tyList tyStr) c3_1 a3_1)])) (S := (tab [(1, (iq a1)), (2, (Value.func (.func 46) #[] #[c2_0])), (3, (Value.func (.func 47) #[] #[c3_0, c3_1])), (9, l13v9), (18, (iq a0)), (19, (iq l13i19))])) ?_
  obtain ⟨kk16, hkk16, h⟩ := lt_some h
  refine aw_body_join (ι := Value × (List Bool) × Int) (fun i => (memOf w0 Z0 [] [(oRow i.1 4 tyBool i.2.1)] [(fPtr (tyList tyS_glob_part) c2_0 a2_0), (fPtr (tyList tyS_glob_part) c3_0 a3_0), (fPtr (tyList tyStr) c3_1 a3_1)])) (fun i => (tab [(1, (iq a1)), (2, (Value.func (.func 46) #[] #[c2_0])), (3, (Value.func (.func 47) #[] #[c3_0, c3_1])), (9, i.1), (18, (iq a0)), (19, (iq i.2.2))])) (fun i => kk16 i.2.1 i.2.2 = some r) (fun i h => aq_again k14 i (Nat.lt_succ_self _) (by rw [hkk16] at h; exact h) (fun w a hm hs => ⟨hm, hs⟩)) ?_
  clear hkk16
  refine aw_sr ?_
  refine al_in rfl rfl rfl rfl ?_
  refine al_nt ?_
  refine aw_seq ?_
  refine aw_cond rfl (fun hb17 => ?_) (fun hb17 => ?_)
  ·replace h := bif_t hb17 h
   refine aw_skip ?_
   refine aq_then ?_
   obtain ⟨kk19, hkk19, h⟩ := lt_some h
   refine aw_seq_join (ι := Value × (List Bool)) (fun i => (memOf w0 Z0 [] [(oRow i.1 4 tyBool i.2)] [(fPtr (tyList tyS_glob_part) c2_0 a2_0), (fPtr (tyList tyS_glob_part) c3_0 a3_0), (fPtr (tyList tyStr) c3_1 a3_1)])) (fun i => (tab [(1, (iq a1)), (2, (Value.func (.func 46) #[] #[c2_0])), (3, (Value.func (.func 47) #[] #[c3_0, c3_1])), (9, i.1), (18, (iq a0)), (19, (iq l13i19))])) (fun i => kk19 i.2 = some r) ?_ ?_
   ·rintro ⟨j18v9, j18x9⟩ h
    have h : kk19 j18x9 = some r := h
    rw [hkk19] at h
    dsimp only at h
    clear hkk19
    refine aw_show (m := (memOf w0 Z0 [] [(oRow j18v9 4 tyBool j18x9)] [(fPtr (tyList tyS_glob_part) c2_0 a2_0), (fPtr (tyList tyS_glob_part) c3_0 a3_0), (fPtr (tyList tyStr) c3_1 a3_1)])) (S := (tab [(1, (iq a1)), (2, (Value.func (.func 46) #[] #[c2_0])), (3, (Value.func (.func 47) #[] #[c3_0, c3_1])), (9, j18v9), (18, (iq a0)), (19, (iq l13i19))])) ?_
    refine aw_region ?_
    refine al_in rfl rfl rfl rfl ?_
    refine al_mv rfl rfl ?_
    refine al_nil ?_
    exact aq_join (j18v9, j18x9, (wq (l13i19 + (1 : Int)))) h (fun w a hm hs => norm hm hs [0] [0, 1, 2] [(1, (iq a1)), (2, (Value.func (.func 46) #[] #[c2_0])), (3, (Value.func (.func 47) #[] #[c3_0, c3_1])), (9, j18v9), (18, (iq a0)), (19, (iq (wq (l13i19 + (1 : Int)))))] (by decide) ⟨rfl, rfl, rfl, rfl, rfl, rfl, trivial⟩)
   ·clear hkk19
    refine aw_block ?_
    refine aw_sr ?_
    refine al_mv rfl rfl ?_
    refine al_as rfl rfl ?_
    refine al_nt ?_
    refine aw_sr ?_
    refine al_mv rfl rfl ?_
    refine al_in rfl rfl rfl rfl ?_
    obtain ⟨hc20, h⟩ := req_some h
    refine al_make (τ := tyBool) (x0 := false) hc20.1 hc20.2.1 hc20.2.2 rfl rfl Tryd.underlying131 to4 (fun _ _ => rfl) rfl rfl (fun v21 => ?_)
    refine al_as rfl rfl ?_
    refine al_nt ?_
    obtain ⟨kk23, hkk23, h⟩ := lt_some h
    refine aw_seq_join (ι := (List Bool)) (fun i => (memOf w0 Z0 [] [(oRow v21 4 tyBool i)] [(fPtr (tyList tyS_glob_part) c2_0 a2_0), (fPtr (tyList tyS_glob_part) c3_0 a3_0), (fPtr (tyList tyStr) c3_1 a3_1)])) (fun i => (tab [(1, (iq a1)), (2, (Value.func (.func 46) #[] #[c2_0])), (3, (Value.func (.func 47) #[] #[c3_0, c3_1])), (11, v21), (18, (iq a0)), (19, (iq l13i19))])) (fun i => kk23 i = some r) ?_ ?_
    ·rintro j22x11 h
     have h : kk23 j22x11 = some r := h
     rw [hkk23] at h
     dsimp only at h
     clear hkk23
     refine aw_show (m := (memOf w0 Z0 [] [(oRow v21 4 tyBool j22x11)] [(fPtr (tyList tyS_glob_part) c2_0 a2_0), (fPtr (tyList tyS_glob_part) c3_0 a3_0), (fPtr (tyList tyStr) c3_1 a3_1)])) (S := (tab [(1, (iq a1)), (2, (Value.func (.func 46) #[] #[c2_0])), (3, (Value.func (.func 47) #[] #[c3_0, c3_1])), (11, v21), (18, (iq a0)), (19, (iq l13i19))])) ?_
     refine aw_region ?_
     refine al_mv rfl rfl ?_
     refine al_as rfl rfl ?_
     refine al_nil ?_
     refine aq_block ?_
     exact aq_join (v21, j22x11) h (fun w a hm hs => norm hm hs [0] [0, 1, 2] [(1, (iq a1)), (2, (Value.func (.func 46) #[] #[c2_0])), (3, (Value.func (.func 47) #[] #[c3_0, c3_1])), (9, v21), (18, (iq a0)), (19, (iq l13i19))] (by decide) ⟨rfl, rfl, rfl, rfl, rfl, rfl, trivial⟩)
    ·clear hkk23
     refine aw_sr ?_
     refine al_mv rfl rfl ?_
     refine al_in rfl rfl rfl rfl ?_
     refine al_mv rfl rfl ?_
     refine al_nt ?_
     refine aw_block ?_
     refine aw_state (aw_loop (ι := (List Bool) × Int) (fun i => (memOf w0 Z0 [] [(oRow l13v9 4 tyBool l13x9), (oRow v21 4 tyBool i.1)] [(fPtr (tyList tyS_glob_part) c2_0 a2_0), (fPtr (tyList tyS_glob_part) c3_0 a3_0), (fPtr (tyList tyStr) c3_1 a3_1)])) (fun i => (tab [(1, (iq a1)), (2, (Value.func (.func 46) #[] #[c2_0])), (3, (Value.func (.func 47) #[] #[c3_0, c3_1])), (9, l13v9), (10, (iq l13i19)), (11, v21), (18, (iq a0)), (19, (iq l13i19)), (26, (iq (wq (a1 + (1 : Int))))), (27, (iq i.2))])) (fun q i => f_glob_sequence_F46_F47_L26 a1 a2_0 a3_0 a3_1 l13x9 l13i19 kk23 fu q i.1 i.2 = some r) ?_ fu ((List.replicate ((wq (a1 + (1 : Int)))).toNat false), (0 : Int)) h) (fun w a hm hs => norm hm hs [1, 0] [0, 1, 2] [(1, (iq a1)), (2, (Value.func (.func 46) #[] #[c2_0])), (3, (Value.func (.func 47) #[] #[c3_0, c3_1])), (9, l13v9), (10, (iq l13i19)), (11, v21), (18, (iq a0)), (19, (iq l13i19)), (26, (iq (wq (a1 + (1 : Int))))), (27, (iq (0 : Int)))] (by decide) ⟨rfl, rfl, rfl, rfl, rfl, rfl, rfl, rfl, rfl, rfl, trivial⟩)
     clear h
     rintro k25 ⟨l24x11, l24i27⟩ h
     have h : f_glob_sequence_F46_F47_L26 a1 a2_0 a3_0 a3_1 l13x9 l13i19 kk23 fu k25 l24x11 l24i27 = some r := h
     obtain _ | k25 := k25
     · rw [f_glob_sequence_F46_F47_L26] at h; cases h
     rw [f_glob_sequence_F46_F47_L26] at h
     refine aw_show (m := (memOf w0 Z0 [] [(oRow l13v9 4 tyBool l13x9), (oRow v21 4 tyBool l24x11)] [(fPtr (tyList tyS_glob_part) c2_0 a2_0), (fPtr (tyList tyS_glob_part) c3_0 a3_0), (fPtr (tyList tyStr) c3_1 a3_1)])) (S := (tab [(1, (iq a1)), (2, (Value.func (.func 46) #[] #[c2_0])), (3, (Value.func (.func 47) #[] #[c3_0, c3_1])), (9, l13v9), (10, (iq l13i19)), (11, v21), (18, (iq a0)), (19, (iq l13i19)), (26, (iq (wq (a1 + (1 : Int))))), (27, (iq l24i27))])) ?_
     refine aw_sr ?_
     refine al_in rfl rfl rfl rfl ?_
     refine al_nt ?_
     refine aw_seq ?_
     refine aw_cond rfl (fun hb27 => ?_) (fun hb27 => ?_)
     ·replace h := bif_t hb27 h
      refine aw_skip ?_
      refine aq_then ?_
      obtain ⟨kk29, hkk29, h⟩ := lt_some h
      refine aw_seq_join (ι := (List Bool)) (fun i => (memOf w0 Z0 [] [(oRow l13v9 4 tyBool l13x9), (oRow v21 4 tyBool i)] [(fPtr (tyList tyS_glob_part) c2_0 a2_0), (fPtr (tyList tyS_glob_part) c3_0 a3_0), (fPtr (tyList tyStr) c3_1 a3_1)])) (fun i => (tab [(1, (iq a1)), (2, (Value.func (.func 46) #[] #[c2_0])), (3, (Value.func (.func 47) #[] #[c3_0, c3_1])), (9, l13v9), (10, (iq l13i19)), (11, v21), (18, (iq a0)), (19, (iq l13i19)), (26, (iq (wq (a1 + (1 : Int))))), (27, (iq l24i27))])) (fun i => kk29 i = some r) ?_ ?_
      ·rintro j28x11 h
       have h : kk29 j28x11 = some r := h
       rw [hkk29] at h
       dsimp only at h
       clear hkk29
       refine aw_show (m := (memOf w0 Z0 [] [(oRow l13v9 4 tyBool l13x9), (oRow v21 4 tyBool j28x11)] [(fPtr (tyList tyS_glob_part) c2_0 a2_0), (fPtr (tyList tyS_glob_part) c3_0 a3_0), (fPtr (tyList tyStr) c3_1 a3_1)])) (S := (tab [(1, (iq a1)), (2, (Value.func (.func 46) #[] #[c2_0])), (3, (Value.func (.func 47) #[] #[c3_0, c3_1])), (9, l13v9), (10, (iq l13i19)), (11, v21), (18, (iq a0)), (19, (iq l13i19)), (26, (iq (wq (a1 + (1 : Int))))), (27, (iq l24i27))])) ?_
       refine aw_region ?_
       refine al_in rfl rfl rfl rfl ?_
       refine al_mv rfl rfl ?_
       refine al_nil ?_
       exact aq_again k25 (j28x11, (wq (l24i27 + (1 : Int)))) (Nat.lt_succ_self _) h (fun w a hm hs => norm hm hs [0, 1] [0, 1, 2] [(1, (iq a1)), (2, (Value.func (.func 46) #[] #[c2_0])), (3, (Value.func (.func 47) #[] #[c3_0, c3_1])), (9, l13v9), (10, (iq l13i19)), (11, v21), (18, (iq a0)), (19, (iq l13i19)), (26, (iq (wq (a1 + (1 : Int))))), (27, (iq (wq (l24i27 + (1 : Int)))))] (by decide) ⟨rfl, rfl, rfl, rfl, rfl, rfl, rfl, rfl, rfl, rfl, trivial⟩)
      ·clear hkk29
       refine aw_block ?_
       refine aw_sr ?_
       refine al_mv rfl rfl ?_
       refine al_as rfl rfl ?_
       refine al_nt ?_
       refine aw_sr ?_
       refine al_mv rfl rfl ?_
       refine al_mv rfl rfl ?_
       obtain ⟨r31, hc30, h⟩ := opt_some h
       refine al_callF (vs := [(iq l13i19)]) (caps := [c2_0]) (f_glob_path_1_ok fu l13i19 c2_0 a2_0 hc30) rfl [] [] [0, 1] (pre_fz 0 rfl pre_nil) rfl (by simp) (by decide) (.inl rfl) rfl rfl Tryd.func46 rfl rfl rfl (fun _ => ?_)
       refine al_nt ?_
       refine aw_cond rfl (fun hb32 => ?_) (fun hb32 => ?_)
       ·replace h := bif_t hb32 h
        refine aw_region ?_
        refine al_mv rfl rfl ?_
        refine al_mv rfl rfl ?_
        refine al_mv rfl rfl ?_
        refine al_mv rfl rfl ?_
        obtain ⟨u33, hu34, h⟩ := opt_some h
        refine al_idxR 0 (at_some hu34).1 (at_some hu34).2.1 rfl rfl rfl Tryd.underlying131 sz4 rfl (fun p35 hp36 => ?_)
        refine al_val (ov_loadR (ds := [(bool u33)]) 0 rfl hp36 (at_some hu34).2.2 (fun h => h) rfl Tryd.underlying4 sz4 rfl rfl rfl) ?_
        refine al_mv rfl rfl ?_
        refine al_caseB 39 rfl (fun hb37 => ?_) (fun hb37 => ?_)
        ·replace h := bif_t hb37 h
         refine al_skip ?_
         refine al_skip ?_
         refine al_skip ?_
         refine al_skip ?_
         refine al_skip ?_
         refine al_skip ?_
         refine al_skip ?_
         refine al_skip ?_
         refine al_skip ?_
         refine al_val (ov_pick_t rfl rfl rfl) ?_
         obtain ⟨u38, hu39, h⟩ := opt_some h
         refine al_idxR 1 (at_some hu39).1 (at_some hu39).2.1 rfl rfl rfl Tryd.underlying131 sz4 rfl (fun p40 hp41 => ?_)
         refine al_storeR (k := (l24i27).toNat) (x := true) (vs := [(bool true)]) 1 rfl hp41 (idx_lt hu39) rfl rfl (cv_rfl rfl) (fun _ => rfl) sz4 rfl ?_
         refine al_nil ?_
         refine aq_block ?_
         exact aq_join (l24x11.set (l24i27).toNat true) h (fun w a hm hs => norm hm hs [0, 1] [0, 1, 2] [(1, (iq a1)), (2, (Value.func (.func 46) #[] #[c2_0])), (3, (Value.func (.func 47) #[] #[c3_0, c3_1])), (9, l13v9), (10, (iq l13i19)), (11, v21), (18, (iq a0)), (19, (iq l13i19)), (26, (iq (wq (a1 + (1 : Int))))), (27, (iq l24i27))] (by decide) ⟨rfl, rfl, rfl, rfl, rfl, rfl, rfl, rfl, rfl, rfl, trivial⟩)
        ·replace h := bif_f hb37 h
         refine al_mv rfl rfl ?_
         refine al_in rfl rfl rfl rfl ?_
         refine al_mv rfl rfl ?_
         refine al_caseB 42 rfl (fun hb42 => ?_) (fun hb42 => ?_)
         ·replace h := bif_t hb42 h
          refine al_mv rfl rfl ?_
          refine al_mv rfl rfl ?_
          refine al_in rfl rfl rfl rfl ?_
          obtain ⟨u43, hu44, h⟩ := opt_some h
          refine al_idxR 1 (at_some hu44).1 (at_some hu44).2.1 rfl rfl rfl Tryd.underlying131 sz4 rfl (fun p45 hp46 => ?_)
          refine al_val (ov_loadR (ds := [(bool u43)]) 1 rfl hp46 (at_some hu44).2.2 (fun h => h) rfl Tryd.underlying4 sz4 rfl rfl rfl) ?_
          refine al_val (ov_pick_t rfl rfl rfl) ?_
          refine al_val (ov_pick_f rfl rfl rfl) ?_
          obtain ⟨u47, hu48, h⟩ := opt_some h
          refine al_idxR 1 (at_some hu48).1 (at_some hu48).2.1 rfl rfl rfl Tryd.underlying131 sz4 rfl (fun p49 hp50 => ?_)
          refine al_storeR (k := (l24i27).toNat) (x := u43) (vs := [(bool u43)]) 1 rfl hp50 (idx_lt hu48) rfl rfl (cv_rfl rfl) (fun _ => rfl) sz4 rfl ?_
          refine al_nil ?_
          refine aq_block ?_
          exact aq_join (l24x11.set (l24i27).toNat u43) h (fun w a hm hs => norm hm hs [0, 1] [0, 1, 2] [(1, (iq a1)), (2, (Value.func (.func 46) #[] #[c2_0])), (3, (Value.func (.func 47) #[] #[c3_0, c3_1])), (9, l13v9), (10, (iq l13i19)), (11, v21), (18, (iq a0)), (19, (iq l13i19)), (26, (iq (wq (a1 + (1 : Int))))), (27, (iq l24i27))] (by decide) ⟨rfl, rfl, rfl, rfl, rfl, rfl, rfl, rfl, rfl, rfl, trivial⟩)
         ·replace h := bif_f hb42 h
          refine al_skip ?_
          refine al_skip ?_
          refine al_skip ?_
          refine al_skip ?_
          refine al_skip ?_
          refine al_val (ov_pick_f rfl rfl rfl) ?_
          refine al_val (ov_pick_f rfl rfl rfl) ?_
          obtain ⟨u51, hu52, h⟩ := opt_some h
          refine al_idxR 1 (at_some hu52).1 (at_some hu52).2.1 rfl rfl rfl Tryd.underlying131 sz4 rfl (fun p53 hp54 => ?_)
          refine al_storeR (k := (l24i27).toNat) (x := false) (vs := [(bool false)]) 1 rfl hp54 (idx_lt hu52) rfl rfl (cv_rfl rfl) (fun _ => rfl) sz4 rfl ?_
          refine al_nil ?_
          refine aq_block ?_
          exact aq_join (l24x11.set (l24i27).toNat false) h (fun w a hm hs => norm hm hs [0, 1] [0, 1, 2] [(1, (iq a1)), (2, (Value.func (.func 46) #[] #[c2_0])), (3, (Value.func (.func 47) #[] #[c3_0, c3_1])), (9, l13v9), (10, (iq l13i19)), (11, v21), (18, (iq a0)), (19, (iq l13i19)), (26, (iq (wq (a1 + (1 : Int))))), (27, (iq l24i27))] (by decide) ⟨rfl, rfl, rfl, rfl, rfl, rfl, rfl, rfl, rfl, rfl, trivial⟩)
       ·replace h := bif_f hb32 h
        refine aw_region ?_
        refine al_mv rfl rfl ?_
        refine al_mv rfl rfl ?_
        refine al_mv rfl rfl ?_
        refine al_in rfl rfl rfl rfl ?_
        refine al_mv rfl rfl ?_
        refine al_caseB 55 rfl (fun hb55 => ?_) (fun hb55 => ?_)
        ·replace h := bif_t hb55 h
         refine al_mv rfl rfl ?_
         refine al_mv rfl rfl ?_
         refine al_in rfl rfl rfl rfl ?_
         obtain ⟨u56, hu57, h⟩ := opt_some h
         refine al_idxR 0 (at_some hu57).1 (at_some hu57).2.1 rfl rfl rfl Tryd.underlying131 sz4 rfl (fun p58 hp59 => ?_)
         refine al_val (ov_loadR (ds := [(bool u56)]) 0 rfl hp59 (at_some hu57).2.2 (fun h => h) rfl Tryd.underlying4 sz4 rfl rfl rfl) ?_
         refine al_val (ov_pick_t rfl rfl rfl) ?_
         refine al_mv rfl rfl ?_
         refine al_caseB 62 rfl (fun hb60 => ?_) (fun hb60 => ?_)
         ·replace h := bif_t hb60 h
          refine al_mv rfl rfl ?_
          refine al_mv rfl rfl ?_
          refine al_mv rfl rfl ?_
          refine al_in rfl rfl rfl rfl ?_
          obtain ⟨r62, hc61, h⟩ := opt_some h
          refine al_callF (vs := [(iq l13i19), (iq (wq (l24i27 - (1 : Int))))]) (caps := [c3_0, c3_1]) (f_glob_path_2_ok fu l13i19 (wq (l24i27 - (1 : Int))) c3_0 a3_0 c3_1 a3_1 hc61) rfl [] [] [0, 1] (pre_fz 1 rfl (pre_fz 2 rfl pre_nil)) rfl (by simp) (by decide) (.inl rfl) rfl rfl Tryd.func47 rfl rfl rfl (fun _ => ?_)
          refine al_val (ov_pick_t rfl rfl rfl) ?_
          obtain ⟨u63, hu64, h⟩ := opt_some h
          refine al_idxR 1 (at_some hu64).1 (at_some hu64).2.1 rfl rfl rfl Tryd.underlying131 sz4 rfl (fun p65 hp66 => ?_)
          refine al_storeR (k := (l24i27).toNat) (x := r62) (vs := [(bool r62)]) 1 rfl hp66 (idx_lt hu64) rfl rfl (cv_rfl rfl) (fun _ => rfl) sz4 rfl ?_
          refine al_nil ?_
          refine aq_block ?_
          exact aq_join (l24x11.set (l24i27).toNat r62) h (fun w a hm hs => norm hm hs [0, 1] [0, 1, 2] [(1, (iq a1)), (2, (Value.func (.func 46) #[] #[c2_0])), (3, (Value.func (.func 47) #[] #[c3_0, c3_1])), (9, l13v9), (10, (iq l13i19)), (11, v21), (18, (iq a0)), (19, (iq l13i19)), (26, (iq (wq (a1 + (1 : Int))))), (27, (iq l24i27))] (by decide) ⟨rfl, rfl, rfl, rfl, rfl, rfl, rfl, rfl, rfl, rfl, trivial⟩)
         ·replace h := bif_f hb60 h
          refine al_skip ?_
          refine al_skip ?_
          refine al_skip ?_
          refine al_skip ?_
          refine al_skip ?_
          refine al_val (ov_pick_f rfl rfl rfl) ?_
          obtain ⟨u67, hu68, h⟩ := opt_some h
          refine al_idxR 1 (at_some hu68).1 (at_some hu68).2.1 rfl rfl rfl Tryd.underlying131 sz4 rfl (fun p69 hp70 => ?_)
          refine al_storeR (k := (l24i27).toNat) (x := false) (vs := [(bool false)]) 1 rfl hp70 (idx_lt hu68) rfl rfl (cv_rfl rfl) (fun _ => rfl) sz4 rfl ?_
          refine al_nil ?_
          refine aq_block ?_
          exact aq_join (l24x11.set (l24i27).toNat false) h (fun w a hm hs => norm hm hs [0, 1] [0, 1, 2] [(1, (iq a1)), (2, (Value.func (.func 46) #[] #[c2_0])), (3, (Value.func (.func 47) #[] #[c3_0, c3_1])), (9, l13v9), (10, (iq l13i19)), (11, v21), (18, (iq a0)), (19, (iq l13i19)), (26, (iq (wq (a1 + (1 : Int))))), (27, (iq l24i27))] (by decide) ⟨rfl, rfl, rfl, rfl, rfl, rfl, rfl, rfl, rfl, rfl, trivial⟩)
        ·replace h := bif_f hb55 h
         refine al_skip ?_
         refine al_skip ?_
         refine al_skip ?_
         refine al_skip ?_
         refine al_skip ?_
         refine al_val (ov_pick_f rfl rfl rfl) ?_
         refine al_mv rfl rfl ?_
         refine al_skip ?_
         refine al_skip ?_
         refine al_skip ?_
         refine al_skip ?_
         refine al_skip ?_
         refine al_val (ov_pick_f rfl rfl rfl) ?_
         obtain ⟨u71, hu72, h⟩ := opt_some h
         refine al_idxR 1 (at_some hu72).1 (at_some hu72).2.1 rfl rfl rfl Tryd.underlying131 sz4 rfl (fun p73 hp74 => ?_)
         refine al_storeR (k := (l24i27).toNat) (x := false) (vs := [(bool false)]) 1 rfl hp74 (idx_lt hu72) rfl rfl (cv_rfl rfl) (fun _ => rfl) sz4 rfl ?_
         refine al_nil ?_
         refine aq_block ?_
         exact aq_join (l24x11.set (l24i27).toNat false) h (fun w a hm hs => norm hm hs [0, 1] [0, 1, 2] [(1, (iq a1)), (2, (Value.func (.func 46) #[] #[c2_0])), (3, (Value.func (.func 47) #[] #[c3_0, c3_1])), (9, l13v9), (10, (iq l13i19)), (11, v21), (18, (iq a0)), (19, (iq l13i19)), (26, (iq (wq (a1 + (1 : Int))))), (27, (iq l24i27))] (by decide) ⟨rfl, rfl, rfl, rfl, rfl, rfl, rfl, rfl, rfl, rfl, trivial⟩)
     ·replace h := bif_f hb27 h
      refine aw_exit ?_
      refine aq_then_exit ?_
      refine aq_then_exit ?_
      refine aq_block_exit ?_
      exact aq_join l24x11 h (fun w a hm hs => norm hm hs [1] [0, 1, 2] [(1, (iq a1)), (2, (Value.func (.func 46) #[] #[c2_0])), (3, (Value.func (.func 47) #[] #[c3_0, c3_1])), (11, v21), (18, (iq a0)), (19, (iq l13i19))] (by decide) ⟨rfl, rfl, rfl, rfl, rfl, rfl, trivial⟩)
  ·replace h := bif_f hb17 h
   refine aw_exit ?_
   refine aq_then_exit ?_
   refine aq_then_exit ?_
   refine aq_block_exit ?_
   exact aq_join (l13v9, l13x9) h (fun w a hm hs => norm hm hs [0] [0, 1, 2] [(1, (iq a1)), (9, l13v9)] (by decide) ⟨rfl, rfl, trivial⟩)
def f_glob_path (fu : Nat) (a0 : (List S_glob_part)) (a1 : (List (List UInt8))) : Option Bool := (opt (f_glob_sequence_F46_F47 fu (a0.length : Int) (a1.length : Int) a0 a0 a1) fun (r6 : Bool) => (some r6))
set_option maxRecDepth 100000 in
theorem f_glob_path_ok (fu : Nat) (v0_0 : Value) (a0 : (List S_glob_part)) (v1_0 : Value) (a1 : (List (List UInt8))) {r : Bool} (h : f_glob_path fu a0 a1 = some r) : FnOk Tryd.prog 21 [v0_0, v1_0] [(fDat (tyList tyS_glob_part) [v0_0] a0), (fDat (tyList tyStr) [v1_0] a1)] [] (fun (i : Unit) => { val := (bool r) }) := by
 unfold f_glob_path at h
 refine fn_enter Tryd.func21 rfl Tryd.ntmps21 rfl (fun w0 Z0 => ?_)
 refine aw_sr ?_
 refine al_box (vs := [v0_0]) rfl (cv_fz 0 rfl) rfl (fun g1 => ?_)
 refine al_box (vs := [v1_0]) rfl (cv_fz 1 rfl) rfl (fun g2 => ?_)
 refine al_as rfl rfl ?_
 refine al_nt ?_
 refine aw_seq ?_
 refine aw_freezeBN (τ := (tyList tyS_glob_part)) 1 (a0) rfl rfl (fun hm => fz_at (i := 0) hm rfl) ?_
 refine aw_freezeBN (τ := (tyList tyStr)) 0 (a1) rfl rfl (fun hm => fz_at (i := 2) hm rfl) ?_
 refine aw_region ?_
 refine al_loadP1 1 rfl rfl Tryd.underlying44 sz44 rfl rfl rfl (fun s3 => ?_)
 refine al_val (ov_lenD 0 rfl rfl Tryd.underlying44 rfl) ?_
 refine al_loadP1 1 rfl rfl Tryd.underlying22 sz22 rfl rfl rfl (fun s4 => ?_)
 refine al_val (ov_lenD 0 rfl rfl Tryd.underlying22 rfl) ?_
 refine al_val (ov_makeFunc2 (vs := [(pq g1)]) rfl rfl) ?_
 refine al_val (ov_makeFunc2 (vs := [(pq g1), (pq g2)]) rfl rfl) ?_
 obtain ⟨r6, hc5, h⟩ := opt_some h
 refine al_call (vs := [(iq (a0.length : Int)), (iq (a1.length : Int)), (Value.func (.func 46) #[] #[(pq g1)]), (Value.func (.func 47) #[] #[(pq g1), (pq g2)])]) (f_glob_sequence_F46_F47_ok fu (a0.length : Int) (a1.length : Int) (pq g1) a0 (pq g1) a0 (pq g2) a1 hc5) [] [] [] (pre_fz 3 rfl (pre_fz 3 rfl (pre_fz 2 rfl pre_nil))) rfl (by simp) (by decide) (.inl rfl) rfl Tryd.func45 rfl rfl rfl (fun _ => ?_)
 refine al_as rfl rfl ?_
 refine al_nt ?_
 refine aw_ret ?_
 obtain rfl := Option.some.inj h
 exact fn_ret () [] [] rfl rfl rfl rfl (res1 rfl rfl) rfl rfl rfl (by decide)
def f_strings_HasPrefix (fu : Nat) (a0 : (List UInt8)) (a1 : (List UInt8)) : Option Bool := (opt (f_stringslite_HasPrefix fu a0 a1) fun (r2 : Bool) => (some r2))
set_option maxRecDepth 100000 in
theorem f_strings_HasPrefix_ok (fu : Nat) (a0 : (List UInt8)) (a1 : (List UInt8)) {r : Bool} (h : f_strings_HasPrefix fu a0 a1 = some r) : FnOk Tryd.prog 22 [(str a0), (str a1)] [] [] (fun (i : Unit) => { val := (bool r) }) := by
 unfold f_strings_HasPrefix at h
 refine fn_enter Tryd.func22 rfl Tryd.ntmps22 rfl (fun w0 Z0 => ?_)
 refine aw_sr ?_
 refine al_as rfl rfl ?_
 refine al_nt ?_
 refine aw_sr ?_
 refine al_mv rfl rfl ?_
 refine al_mv rfl rfl ?_
 obtain ⟨r2, hc1, h⟩ := opt_some h
 refine al_call (vs := [(str a0), (str a1)]) (f_stringslite_HasPrefix_ok fu a0 a1 hc1) [] [] [] pre_nil rfl (by simp) (by decide) (.inl rfl) rfl Tryd.func49 rfl rfl rfl (fun _ => ?_)
 refine al_as rfl rfl ?_
 refine al_nt ?_
 refine aw_ret ?_
 obtain rfl := Option.some.inj h
 exact fn_ret () [] [] rfl rfl rfl rfl (res1 rfl rfl) rfl rfl rfl (by decide)
def f_glob_Skips_L24 (a0 : (List (List UInt8))) (j4x6 : (List (List S_glob_part))) (r7 : ((List (List UInt8)) × Int)) (l12i54 : Int) (kk20 : (Bool → Option (Bool × Int))) (fu : Nat) : Nat → Bool → Int → Option (Bool × Int)
  | 0, _, _ => none
  | k23 + 1, l22b14, l22i59 => (bif (decide (l22i59 < (j4x6.length : Int))) then (lt (fun (j26b14 : Bool) => (f_glob_Skips_L24 a0 j4x6 r7 l12i54 kk20 fu k23 j26b14 (IntKind.i64.wrap (l22i59 + (1 : Int))))) fun (kk27 : Bool → Option (Bool × Int)) => (opt (at? j4x6 l22i59) fun (u28 : (List S_glob_part)) => (req (0 ≤ (IntKind.i64.wrap (l12i54 + (1 : Int))) ∧ (IntKind.i64.wrap (l12i54 + (1 : Int))) ≤ (r7.1.length : Int)) (opt (f_glob_path fu u28 (r7.1.take ((IntKind.i64.wrap (l12i54 + (1 : Int)))).toNat)) fun (r35 : Bool) => (bif r35 then (opt (at? a0 l22i59) fun (u37 : (List UInt8)) => (opt (f_strings_HasPrefix fu u37 ([33] : List UInt8)) fun (r41 : Bool) => (kk27 (!r41)))) else (kk27 l22b14)))))) else (kk20 l22b14))
def f_glob_Skips_L14 (a0 : (List (List UInt8))) (j4x6 : (List (List S_glob_part))) (r7 : ((List (List UInt8)) × Int)) (kk11 : (Unit → Option (Bool × Int))) (fu : Nat) : Nat → Int → Option (Bool × Int)
  | 0, _ => none
  | k13 + 1, l12i54 => (lt (fun (l12i54 : Int) => (f_glob_Skips_L14 a0 j4x6 r7 kk11 fu k13 l12i54)) fun (kk15 : Int → Option (Bool × Int)) => (bif (decide (l12i54 < (r7.1.length : Int))) then (lt (fun (_ : Unit) => (kk15 (IntKind.i64.wrap (l12i54 + (1 : Int))))) fun (kk18 : Unit → Option (Bool × Int)) => (lt (fun (j19b14 : Bool) => (bif j19b14 then (some (true, (0 : Int))) else (kk18 ()))) fun (kk20 : Bool → Option (Bool × Int)) => (f_glob_Skips_L24 a0 j4x6 r7 l12i54 kk20 fu fu false (0 : Int)))) else (kk11 ())))
def f_glob_Skips_L44 (a0 : (List (List UInt8))) (kk5 : ((List (List S_glob_part)) → Option (Bool × Int))) (fu : Nat) : Nat → (List (List S_glob_part)) → Int → Option (Bool × Int)
  | 0, _, _ => none
  | k43 + 1, l42x6, l42i25 => (bif (decide (l42i25 < (a0.length : Int))) then (opt (at? a0 l42i25) fun (u46 : (List UInt8)) => (opt (f_strings_TrimPrefix fu u46 ([33] : List UInt8)) fun (r50 : (List UInt8)) => (opt (f_glob_parse fu r50) fun (r52 : ((List S_glob_part) × Int)) => (bif (r52.2 != (0 : Int)) then (some (false, r52.2)) else (opt (at? l42x6 l42i25) fun (u55 : (List S_glob_part)) => (f_glob_Skips_L44 a0 kk5 fu k43 (l42x6.set (l42i25).toNat r52.1) (IntKind.i64.wrap (l42i25 + (1 : Int))))))))) else (kk5 l42x6))
def f_glob_Skips (fu : Nat) (a0 : (List (List UInt8))) (a1 : (List UInt8)) : Option (Bool × Int) := (bif (decide ((a0.length : Int) > (20 : Int))) then (some (false, (2 : Int))) else (req (0 ≤ (a0.length : Int) ∧ 24 * (a0.length : Int) ≤ 281474976710656 ∧ (a0.length : Int) ≤ 9223372036854775807) (lt (fun (j4x6 : (List (List S_glob_part))) => (opt (f_names_Split fu a1) fun (r7 : ((List (List UInt8)) × Int)) => (bif (r7.2 != (0 : Int)) then (some (false, r7.2)) else (lt (fun (_ : Unit) => (some (false, (0 : Int)))) fun (kk11 : Unit → Option (Bool × Int)) => (f_glob_Skips_L14 a0 j4x6 r7 kk11 fu fu (0 : Int)))))) fun (kk5 : (List (List S_glob_part)) → Option (Bool × Int)) => (f_glob_Skips_L44 a0 kk5 fu fu (List.replicate ((a0.length : Int)).toNat ([] : (List S_glob_part))) (0 : Int)))))
set_option maxRecDepth 100000 in
set_option maxHeartbeats 2000000 in
set_option maxHeartbeats 2000000 in
theorem f_glob_Skips_ok (fu : Nat) (v0_0 : Value) (a0 : (List (List UInt8))) (a1 : (List UInt8)) {r : (Bool × Int)} (h : f_glob_Skips fu a0 a1 = some r) : FnOk Tryd.prog 6 [v0_0, (str a1)] [(fDat (tyList tyStr) [v0_0] a0), uMax, uTabs] [] (fun (i : Unit) => { val := (Value.tuple #[(bool r.1), (int .i64 r.2)]) }) := by
 unfold f_glob_Skips at h
 refine fn_enter Tryd.func6 rfl Tryd.ntmps6 rfl (fun w0 Z0 => ?_)
 refine aw_sr ?_
 refine al_as rfl rfl ?_
 refine al_as rfl rfl ?_
 refine al_nt ?_
 refine aw_seq ?_
 refine aw_sr ?_
 refine al_mv rfl rfl ?_
 refine al_val (ov_lenD 0 rfl rfl Tryd.underlying22 rfl) ?_
 refine al_in rfl rfl rfl rfl ?_
 refine al_nt ?_
 refine aw_cond rfl (fun hb1 => ?_) (fun hb1 => ?_)
 ·replace h := bif_t hb1 h
  refine aw_sr ?_
  refine al_as rfl rfl ?_
  refine al_as rfl rfl ?_
  refine al_nt ?_
  refine aw_ret ?_
  refine aq_then_ret ?_
  obtain rfl := Option.some.inj h
  exact fn_ret () [] [] rfl rfl rfl rfl (res2 rfl rfl rfl) rfl rfl rfl (by decide)
 ·replace h := bif_f hb1 h
  refine aw_skip ?_
  refine aq_tr ?_
  refine al_mv rfl rfl ?_
  refine al_val (ov_lenD 0 rfl rfl Tryd.underlying22 rfl) ?_
  obtain ⟨hc2, h⟩ := req_some h
  refine al_make (τ := (tyList tyS_glob_part)) (x0 := []) hc2.1 hc2.2.1 hc2.2.2 rfl rfl Tryd.underlying43 to44 (fun _ _ => (nil_dat _ _ _)) rfl rfl (fun v3 => ?_)
  refine al_as rfl rfl ?_
  refine al_nt ?_
  obtain ⟨kk5, hkk5, h⟩ := lt_some h
  refine aw_seq_join (ι := (List (List S_glob_part))) (fun i => (memOf w0 Z0 [] [(oRow v3 44 (tyList tyS_glob_part) i)] [(fDat (tyList tyStr) [v0_0] a0), uMax, uTabs])) (fun i => (tab [(0, v0_0), (1, (str a1)), (6, v3)])) (fun i => kk5 i = some r) ?_ ?_
  ·rintro j4x6 h
   have h : kk5 j4x6 = some r := h
   rw [hkk5] at h
   dsimp only at h
   clear hkk5
   refine aw_show (m := (memOf w0 Z0 [] [(oRow v3 44 (tyList tyS_glob_part) j4x6)] [(fDat (tyList tyStr) [v0_0] a0), uMax, uTabs])) (S := (tab [(0, v0_0), (1, (str a1)), (6, v3)])) ?_
   refine aw_sr ?_
   refine al_mv rfl rfl ?_
   obtain ⟨r7, hc6, h⟩ := opt_some h
   refine al_call (vs := [(str a1)]) (f_names_Split_ok fu a1 hc6) [] [] [0] (pre_fz 1 rfl (pre_fz 2 rfl pre_nil)) rfl (by simp) (by decide) (.inl rfl) rfl Tryd.func20 rfl rfl rfl (fun v8 => ?_)
   refine al_mv rfl rfl ?_
   refine al_ex rfl rfl rfl ?_
   refine al_ex rfl rfl rfl ?_
   refine al_as rfl rfl ?_
   refine al_as rfl rfl ?_
   refine al_nt ?_
   refine aw_seq ?_
   refine aw_sr ?_
   refine al_mv rfl rfl ?_
   refine al_in rfl rfl rfl rfl ?_
   refine al_nt ?_
   refine aw_cond rfl (fun hb9 => ?_) (fun hb9 => ?_)
   ·replace h := bif_t hb9 h
    refine aw_sr ?_
    refine al_mv rfl rfl ?_
    refine al_as rfl rfl ?_
    refine al_as rfl rfl ?_
    refine al_nt ?_
    refine aw_ret ?_
    refine aq_then_ret ?_
    obtain rfl := Option.some.inj h
    exact fn_ret () [] [] rfl rfl rfl rfl (res2 rfl rfl rfl) rfl rfl rfl (by decide)
   ·replace h := bif_f hb9 h
    refine aw_skip ?_
    refine aq_then ?_
    obtain ⟨kk11, hkk11, h⟩ := lt_some h
    refine aw_seq_join (ι := Unit) (fun i => (memOf w0 Z0 [] [] [(fDat (tyList tyStr) [v0_0] a0), uMax, uTabs])) (fun i => (tab [])) (fun i => kk11 () = some r) ?_ ?_
    ·rintro _ h
     have h : kk11 () = some r := h
     rw [hkk11] at h
     dsimp only at h
     clear hkk11
     refine aw_show (m := (memOf w0 Z0 [] [] [(fDat (tyList tyStr) [v0_0] a0), uMax, uTabs])) (S := (tab [])) ?_
     refine aw_sr ?_
     refine al_as rfl rfl ?_
     refine al_as rfl rfl ?_
     refine al_nt ?_
     refine aw_ret ?_
     obtain rfl := Option.some.inj h
     exact fn_ret () [] [] rfl rfl rfl rfl (res2 rfl rfl rfl) rfl rfl rfl (by decide)
    ·clear hkk11
     refine aw_sr ?_
     refine al_mv rfl rfl ?_
     refine al_val (ov_lenR 0 rfl rfl Tryd.underlying22 rfl) ?_
     refine al_mv rfl rfl ?_
     refine al_nt ?_
     refine aw_block ?_
     refine aw_freeze 0 rfl rfl ?_
     refine aw_freeze 0 rfl rfl ?_
     refine aw_state (aw_loop (ι := Int) (fun i => (memOf w0 Z0 [] [] [(fDat (tyList tyStr) [v0_0] a0), (fDat (tyList (tyList tyS_glob_part)) [v3] j4x6), (fDat (tyList tyStr) [v8] r7.1), uMax, uTabs])) (fun i => (tab [(0, v0_0), (6, v3), (11, v8), (53, (iq (r7.1.length : Int))), (54, (iq i))])) (fun q i => f_glob_Skips_L14 a0 j4x6 r7 kk11 fu q i = some r) ?_ fu (0 : Int) h) (fun w a hm hs => norm hm hs [] [2, 0, 1, 3, 4] [(0, v0_0), (6, v3), (11, v8), (53, (iq (r7.1.length : Int))), (54, (iq (0 : Int)))] (by decide) ⟨rfl, rfl, rfl, rfl, rfl, trivial⟩)
     clear h
     rintro k13 l12i54 h
     have h : f_glob_Skips_L14 a0 j4x6 r7 kk11 fu k13 l12i54 = some r := h
     obtain _ | k13 := k13
     · rw [f_glob_Skips_L14] at h; cases h
     rw [f_glob_Skips_L14] at h
     refine aw_show (m := (memOf w0 Z0 [] [] [(fDat (tyList tyStr) [v0_0] a0), (fDat (tyList (tyList tyS_glob_part)) [v3] j4x6), (fDat (tyList tyStr) [v8] r7.1), uMax, uTabs])) (S := (tab [(0, v0_0), (6, v3), (11, v8), (53, (iq (r7.1.length : Int))), (54, (iq l12i54))])) ?_
     obtain ⟨kk15, hkk15, h⟩ := lt_some h
     refine aw_body_join (ι := Int) (fun i => (memOf w0 Z0 [] [] [(fDat (tyList tyStr) [v0_0] a0), (fDat (tyList (tyList tyS_glob_part)) [v3] j4x6), (fDat (tyList tyStr) [v8] r7.1), uMax, uTabs])) (fun i => (tab [(0, v0_0), (6, v3), (11, v8), (53, (iq (r7.1.length : Int))), (54, (iq i))])) (fun i => kk15 i = some r) (fun i h => aq_again k13 i (Nat.lt_succ_self _) (by rw [hkk15] at h; exact h) (fun w a hm hs => ⟨hm, hs⟩)) ?_
     clear hkk15
     refine aw_sr ?_
     refine al_in rfl rfl rfl rfl ?_
     refine al_nt ?_
     refine aw_seq ?_
     refine aw_cond rfl (fun hb16 => ?_) (fun hb16 => ?_)
     ·replace h := bif_t hb16 h
      refine aw_skip ?_
      refine aq_then ?_
      obtain ⟨kk18, hkk18, h⟩ := lt_some h
      refine aw_seq_join (ι := Unit) (fun i => (memOf w0 Z0 [] [] [(fDat (tyList tyStr) [v0_0] a0), (fDat (tyList (tyList tyS_glob_part)) [v3] j4x6), (fDat (tyList tyStr) [v8] r7.1), uMax, uTabs])) (fun i => (tab [(0, v0_0), (6, v3), (11, v8), (53, (iq (r7.1.length : Int))), (54, (iq l12i54))])) (fun i => kk18 () = some r) ?_ ?_
      ·rintro _ h
       have h : kk18 () = some r := h
       rw [hkk18] at h
       dsimp only at h
       clear hkk18
       refine aw_show (m := (memOf w0 Z0 [] [] [(fDat (tyList tyStr) [v0_0] a0), (fDat (tyList (tyList tyS_glob_part)) [v3] j4x6), (fDat (tyList tyStr) [v8] r7.1), uMax, uTabs])) (S := (tab [(0, v0_0), (6, v3), (11, v8), (53, (iq (r7.1.length : Int))), (54, (iq l12i54))])) ?_
       refine aw_region ?_
       refine al_in rfl rfl rfl rfl ?_
       refine al_mv rfl rfl ?_
       refine al_nil ?_
       exact aq_join (wq (l12i54 + (1 : Int))) h (fun w a hm hs => norm hm hs [] [0, 1, 2, 3, 4] [(0, v0_0), (6, v3), (11, v8), (53, (iq (r7.1.length : Int))), (54, (iq (wq (l12i54 + (1 : Int)))))] (by decide) ⟨rfl, rfl, rfl, rfl, rfl, trivial⟩)
      ·clear hkk18
       refine aw_block ?_
       refine aw_sr ?_
       refine al_mv rfl rfl ?_
       refine al_as rfl rfl ?_
       refine al_nt ?_
       refine aw_sr ?_
       refine al_as rfl rfl ?_
       refine al_nt ?_
       obtain ⟨kk20, hkk20, h⟩ := lt_some h
       refine aw_seq_join (ι := Bool) (fun i => (memOf w0 Z0 [] [] [(fDat (tyList tyStr) [v0_0] a0), (fDat (tyList (tyList tyS_glob_part)) [v3] j4x6), (fDat (tyList tyStr) [v8] r7.1), uMax, uTabs])) (fun i => (tab [(0, v0_0), (6, v3), (11, v8), (14, (bool i)), (53, (iq (r7.1.length : Int))), (54, (iq l12i54))])) (fun i => kk20 i = some r) ?_ ?_
       ·rintro j19b14 h
        have h : kk20 j19b14 = some r := h
        rw [hkk20] at h
        dsimp only at h
        clear hkk20
        refine aw_show (m := (memOf w0 Z0 [] [] [(fDat (tyList tyStr) [v0_0] a0), (fDat (tyList (tyList tyS_glob_part)) [v3] j4x6), (fDat (tyList tyStr) [v8] r7.1), uMax, uTabs])) (S := (tab [(0, v0_0), (6, v3), (11, v8), (14, (bool j19b14)), (53, (iq (r7.1.length : Int))), (54, (iq l12i54))])) ?_
        refine aw_sr ?_
        refine al_mv rfl rfl ?_
        refine al_nt ?_
        refine aw_cond rfl (fun hb21 => ?_) (fun hb21 => ?_)
        ·replace h := bif_t hb21 h
         refine aw_sr ?_
         refine al_as rfl rfl ?_
         refine al_as rfl rfl ?_
         refine al_nt ?_
         refine aw_ret ?_
         refine aq_block_ret ?_
         refine aq_then_ret ?_
         refine aq_then_ret ?_
         refine aq_block_ret ?_
         refine aq_then_ret ?_
         obtain rfl := Option.some.inj h
         exact fn_ret () [] [] rfl rfl rfl rfl (res2 rfl rfl rfl) rfl rfl rfl (by decide)
        ·replace h := bif_f hb21 h
         refine aw_skip ?_
         refine aq_block ?_
         exact aq_join () h (fun w a hm hs => norm hm hs [] [0, 1, 2, 3, 4] [(0, v0_0), (6, v3), (11, v8), (53, (iq (r7.1.length : Int))), (54, (iq l12i54))] (by decide) ⟨rfl, rfl, rfl, rfl, rfl, trivial⟩)
       ·clear hkk20
        refine aw_sr ?_
        refine al_mv rfl rfl ?_
        refine al_val (ov_lenD 1 rfl rfl Tryd.underlying43 rfl) ?_
        refine al_mv rfl rfl ?_
        refine al_nt ?_
        refine aw_block ?_
        refine aw_state (aw_loop (ι := Bool × Int) (fun i => (memOf w0 Z0 [] [] [(fDat (tyList tyStr) [v0_0] a0), (fDat (tyList (tyList tyS_glob_part)) [v3] j4x6), (fDat (tyList tyStr) [v8] r7.1), uMax, uTabs])) (fun i => (tab [(0, v0_0), (6, v3), (11, v8), (13, (iq l12i54)), (14, (bool i.1)), (53, (iq (r7.1.length : Int))), (54, (iq l12i54)), (57, v3), (58, (iq (j4x6.length : Int))), (59, (iq i.2))])) (fun q i => f_glob_Skips_L24 a0 j4x6 r7 l12i54 kk20 fu q i.1 i.2 = some r) ?_ fu (false, (0 : Int)) h) (fun w a hm hs => norm hm hs [] [0, 1, 2, 3, 4] [(0, v0_0), (6, v3), (11, v8), (13, (iq l12i54)), (14, (bool false)), (53, (iq (r7.1.length : Int))), (54, (iq l12i54)), (57, v3), (58, (iq (j4x6.length : Int))), (59, (iq (0 : Int)))] (by decide) ⟨rfl, rfl, rfl, rfl, rfl, rfl, rfl, rfl, rfl, rfl, trivial⟩)
        clear h
        rintro k23 ⟨l22b14, l22i59⟩ h
        have h : f_glob_Skips_L24 a0 j4x6 r7 l12i54 kk20 fu k23 l22b14 l22i59 = some r := h
        obtain _ | k23 := k23
        · rw [f_glob_Skips_L24] at h; cases h
        rw [f_glob_Skips_L24] at h
        refine aw_show (m := (memOf w0 Z0 [] [] [(fDat (tyList tyStr) [v0_0] a0), (fDat (tyList (tyList tyS_glob_part)) [v3] j4x6), (fDat (tyList tyStr) [v8] r7.1), uMax, uTabs])) (S := (tab [(0, v0_0), (6, v3), (11, v8), (13, (iq l12i54)), (14, (bool l22b14)), (53, (iq (r7.1.length : Int))), (54, (iq l12i54)), (57, v3), (58, (iq (j4x6.length : Int))), (59, (iq l22i59))])) ?_
        refine aw_sr ?_
        refine al_in rfl rfl rfl rfl ?_
        refine al_nt ?_
        refine aw_seq ?_
        refine aw_cond rfl (fun hb25 => ?_) (fun hb25 => ?_)
        ·replace h := bif_t hb25 h
         refine aw_skip ?_
         refine aq_then ?_
         obtain ⟨kk27, hkk27, h⟩ := lt_some h
         refine aw_seq_join (ι := Bool) (fun i => (memOf w0 Z0 [] [] [(fDat (tyList tyStr) [v0_0] a0), (fDat (tyList (tyList tyS_glob_part)) [v3] j4x6), (fDat (tyList tyStr) [v8] r7.1), uMax, uTabs])) (fun i => (tab [(0, v0_0), (6, v3), (11, v8), (13, (iq l12i54)), (14, (bool i)), (53, (iq (r7.1.length : Int))), (54, (iq l12i54)), (57, v3), (58, (iq (j4x6.length : Int))), (59, (iq l22i59))])) (fun i => kk27 i = some r) ?_ ?_
         ·rintro j26b14 h
          have h : kk27 j26b14 = some r := h
          rw [hkk27] at h
          dsimp only at h
          clear hkk27
          refine aw_show (m := (memOf w0 Z0 [] [] [(fDat (tyList tyStr) [v0_0] a0), (fDat (tyList (tyList tyS_glob_part)) [v3] j4x6), (fDat (tyList tyStr) [v8] r7.1), uMax, uTabs])) (S := (tab [(0, v0_0), (6, v3), (11, v8), (13, (iq l12i54)), (14, (bool j26b14)), (53, (iq (r7.1.length : Int))), (54, (iq l12i54)), (57, v3), (58, (iq (j4x6.length : Int))), (59, (iq l22i59))])) ?_
          refine aw_region ?_
          refine al_in rfl rfl rfl rfl ?_
          refine al_mv rfl rfl ?_
          refine al_nil ?_
          exact aq_again k23 (j26b14, (wq (l22i59 + (1 : Int)))) (Nat.lt_succ_self _) h (fun w a hm hs => norm hm hs [] [0, 1, 2, 3, 4] [(0, v0_0), (6, v3), (11, v8), (13, (iq l12i54)), (14, (bool j26b14)), (53, (iq (r7.1.length : Int))), (54, (iq l12i54)), (57, v3), (58, (iq (j4x6.length : Int))), (59, (iq (wq (l22i59 + (1 : Int)))))] (by decide) ⟨rfl, rfl, rfl, rfl, rfl, rfl, rfl, rfl, rfl, rfl, trivial⟩)
         ·clear hkk27
          refine aw_block ?_
          refine aw_sr ?_
          refine al_mv rfl rfl ?_
          obtain ⟨u28, hu29, h⟩ := opt_some h
          refine al_idxD 1 hu29 rfl rfl rfl Tryd.underlying43 sz44 rfl (fun p30 => ?_)
          refine al_loadP1 0 rfl rfl Tryd.underlying44 sz44 rfl rfl rfl (fun s31 => ?_)
          refine al_as rfl rfl ?_
          refine al_as rfl rfl ?_
          refine al_nt ?_
          refine aw_sr ?_
          refine al_mv rfl rfl ?_
          refine al_mv rfl rfl ?_
          refine al_mv rfl rfl ?_
          refine al_in rfl rfl rfl rfl ?_
          obtain ⟨hc32, h⟩ := req_some h
          refine al_sliceDT 4 hc32.1 hc32.2 rfl rfl rfl Tryd.underlying22 sz9 rfl (fun s33 => ?_)
          obtain ⟨r35, hc34, h⟩ := opt_some h
          refine al_call (vs := [s31, s33]) (f_glob_path_ok fu s31 u28 s33 (r7.1.take ((wq (l12i54 + (1 : Int)))).toNat) hc34) [] [] [] (pre_fz 1 rfl (pre_fz 0 rfl pre_nil)) rfl (by simp) (by decide) (.inl rfl) rfl Tryd.func21 rfl rfl rfl (fun _ => ?_)
          refine al_nt ?_
          refine aw_cond rfl (fun hb36 => ?_) (fun hb36 => ?_)
          ·replace h := bif_t hb36 h
           refine aw_region ?_
           refine al_mv rfl rfl ?_
           refine al_mv rfl rfl ?_
           obtain ⟨u37, hu38, h⟩ := opt_some h
           refine al_idxD 3 hu38 rfl rfl rfl Tryd.underlying22 sz9 rfl (fun p39 => ?_)
           refine al_val (ov_loadP (ds := [(str u37)]) 0 rfl (fun h => h) rfl Tryd.underlying9 sz9 rfl rfl rfl) ?_
           obtain ⟨r41, hc40, h⟩ := opt_some h
           refine al_call (vs := [(str u37), (str ([33] : List UInt8))]) (f_strings_HasPrefix_ok fu u37 ([33] : List UInt8) hc40) [] [] [] pre_nil rfl (by simp) (by decide) (.inl rfl) rfl Tryd.func22 rfl rfl rfl (fun _ => ?_)
           refine al_val (ov_not rfl rfl) ?_
           refine al_as rfl rfl ?_
           refine al_nil ?_
           refine aq_block ?_
           exact aq_join (!r41) h (fun w a hm hs => norm hm hs [] [4, 5, 6, 7, 8] [(0, v0_0), (6, v3), (11, v8), (13, (iq l12i54)), (14, (bool (!r41))), (53, (iq (r7.1.length : Int))), (54, (iq l12i54)), (57, v3), (58, (iq (j4x6.length : Int))), (59, (iq l22i59))] (by decide) ⟨rfl, rfl, rfl, rfl, rfl, rfl, rfl, rfl, rfl, rfl, trivial⟩)
          ·replace h := bif_f hb36 h
           refine aw_skip ?_
           refine aq_block ?_
           exact aq_join l22b14 h (fun w a hm hs => norm hm hs [] [3, 4, 5, 6, 7] [(0, v0_0), (6, v3), (11, v8), (13, (iq l12i54)), (14, (bool l22b14)), (53, (iq (r7.1.length : Int))), (54, (iq l12i54)), (57, v3), (58, (iq (j4x6.length : Int))), (59, (iq l22i59))] (by decide) ⟨rfl, rfl, rfl, rfl, rfl, rfl, rfl, rfl, rfl, rfl, trivial⟩)
        ·replace h := bif_f hb25 h
         refine aw_exit ?_
         refine aq_then_exit ?_
         refine aq_then_exit ?_
         refine aq_block_exit ?_
         exact aq_join l22b14 h (fun w a hm hs => norm hm hs [] [0, 1, 2, 3, 4] [(0, v0_0), (6, v3), (11, v8), (14, (bool l22b14)), (53, (iq (r7.1.length : Int))), (54, (iq l12i54))] (by decide) ⟨rfl, rfl, rfl, rfl, rfl, rfl, trivial⟩)
     ·replace h := bif_f hb16 h
      refine aw_exit ?_
      refine aq_then_exit ?_
      refine aq_then_exit ?_
      refine aq_block_exit ?_
      exact aq_join () h (fun w a hm hs => norm hm hs [] [0, 3, 4] [] (by decide) trivial)
  ·clear hkk5
   refine aw_sr ?_
   refine al_mv rfl rfl ?_
   refine al_val (ov_lenD 0 rfl rfl Tryd.underlying22 rfl) ?_
   refine al_mv rfl rfl ?_
   refine al_nt ?_
   refine aw_block ?_
   refine aw_state (aw_loop (ι := (List (List S_glob_part)) × Int) (fun i => (memOf w0 Z0 [] [(oRow v3 44 (tyList tyS_glob_part) i.1)] [(fDat (tyList tyStr) [v0_0] a0), uMax, uTabs])) (fun i => (tab [(0, v0_0), (1, (str a1)), (6, v3), (23, v0_0), (24, (iq (a0.length : Int))), (25, (iq i.2))])) (fun q i => f_glob_Skips_L44 a0 kk5 fu q i.1 i.2 = some r) ?_ fu ((List.replicate ((a0.length : Int)).toNat ([] : (List S_glob_part))), (0 : Int)) h) (fun w a hm hs => norm hm hs [0] [0, 1, 2] [(0, v0_0), (1, (str a1)), (6, v3), (23, v0_0), (24, (iq (a0.length : Int))), (25, (iq (0 : Int)))] (by decide) ⟨rfl, rfl, rfl, rfl, rfl, rfl, trivial⟩)
   clear h
   rintro k43 ⟨l42x6, l42i25⟩ h
   have h : f_glob_Skips_L44 a0 kk5 fu k43 l42x6 l42i25 = some r := h
   obtain _ | k43 := k43
   · rw [f_glob_Skips_L44] at h; cases h
   rw [f_glob_Skips_L44] at h
   refine aw_show (m := (memOf w0 Z0 [] [(oRow v3 44 (tyList tyS_glob_part) l42x6)] [(fDat (tyList tyStr) [v0_0] a0), uMax, uTabs])) (S := (tab [(0, v0_0), (1, (str a1)), (6, v3), (23, v0_0), (24, (iq (a0.length : Int))), (25, (iq l42i25))])) ?_
   refine aw_sr ?_
   refine al_in rfl rfl rfl rfl ?_
   refine al_nt ?_
   refine aw_seq ?_
   refine aw_cond rfl (fun hb45 => ?_) (fun hb45 => ?_)
   ·replace h := bif_t hb45 h
    refine aw_skip ?_
    refine aq_then ?_
    refine aw_seq ?_
    refine aw_block ?_
    refine aw_sr ?_
    refine al_mv rfl rfl ?_
    obtain ⟨u46, hu47, h⟩ := opt_some h
    refine al_idxD 0 hu47 rfl rfl rfl Tryd.underlying22 sz9 rfl (fun p48 => ?_)
    refine al_val (ov_loadP (ds := [(str u46)]) 0 rfl (fun h => h) rfl Tryd.underlying9 sz9 rfl rfl rfl) ?_
    refine al_as rfl rfl ?_
    refine al_as rfl rfl ?_
    refine al_nt ?_
    refine aw_sr ?_
    refine al_mv rfl rfl ?_
    obtain ⟨r50, hc49, h⟩ := opt_some h
    refine al_call (vs := [(str u46), (str ([33] : List UInt8))]) (f_strings_TrimPrefix_ok fu u46 ([33] : List UInt8) hc49) [] [] [0] pre_nil rfl (by simp) (by decide) (.inl rfl) rfl Tryd.func19 rfl rfl rfl (fun _ => ?_)
    obtain ⟨r52, hc51, h⟩ := opt_some h
    refine al_call (vs := [(str r50)]) (f_glob_parse_ok fu r50 hc51) [] [] [0] (pre_fz 2 rfl (pre_fz 3 rfl pre_nil)) rfl (by simp) (by decide) (.inl rfl) rfl Tryd.func18 rfl rfl rfl (fun v53 => ?_)
    refine al_mv rfl rfl ?_
    refine al_ex rfl rfl rfl ?_
    refine al_ex rfl rfl rfl ?_
    refine al_as rfl rfl ?_
    refine al_as rfl rfl ?_
    refine al_nt ?_
    refine aw_seq ?_
    refine aw_sr ?_
    refine al_mv rfl rfl ?_
    refine al_in rfl rfl rfl rfl ?_
    refine al_nt ?_
    refine aw_cond rfl (fun hb54 => ?_) (fun hb54 => ?_)
    ·replace h := bif_t hb54 h
     refine aw_sr ?_
     refine al_mv rfl rfl ?_
     refine al_as rfl rfl ?_
     refine al_as rfl rfl ?_
     refine al_nt ?_
     refine aw_ret ?_
     refine aq_then_ret ?_
     refine aq_block_ret ?_
     refine aq_then_ret ?_
     refine aq_then_ret ?_
     refine aq_block_ret ?_
     refine aq_then_ret ?_
     obtain rfl := Option.some.inj h
     exact fn_ret () [] [] rfl rfl rfl rfl (res2 rfl rfl rfl) rfl rfl rfl (by decide)
    ·replace h := bif_f hb54 h
     refine aw_skip ?_
     refine aq_then ?_
     refine aw_region ?_
     refine al_mv rfl rfl ?_
     refine al_mv rfl rfl ?_
     refine al_mv rfl rfl ?_
     obtain ⟨u55, hu56, h⟩ := opt_some h
     refine al_idxR 1 (at_some hu56).1 (at_some hu56).2.1 rfl rfl rfl Tryd.underlying43 sz44 rfl (fun p57 hp58 => ?_)
     refine al_freeze 0 rfl rfl ?_
     refine al_storeR (k := (l42i25).toNat) (x := r52.1) (vs := [v53]) 0 rfl hp58 (idx_lt hu56) rfl rfl (cv_fz 0 rfl) (fun hm => fz_at (i := 0) hm rfl) sz44 rfl ?_
     refine al_nil ?_
     refine aq_block ?_
     refine aq_then ?_
     refine aw_region ?_
     refine al_in rfl rfl rfl rfl ?_
     refine al_mv rfl rfl ?_
     refine al_nil ?_
     exact aq_again k43 ((l42x6.set (l42i25).toNat r52.1), (wq (l42i25 + (1 : Int)))) (Nat.lt_succ_self _) h (fun w a hm hs => norm hm hs [0] [2, 3, 4] [(0, v0_0), (1, (str a1)), (6, v3), (23, v0_0), (24, (iq (a0.length : Int))), (25, (iq (wq (l42i25 + (1 : Int)))))] (by decide) ⟨rfl, rfl, rfl, rfl, rfl, rfl, trivial⟩)
   ·replace h := bif_f hb45 h
    refine aw_exit ?_
    refine aq_then_exit ?_
    refine aq_then_exit ?_
    refine aq_block_exit ?_
    exact aq_join l42x6 h (fun w a hm hs => norm hm hs [0] [0, 1, 2] [(0, v0_0), (1, (str a1)), (6, v3)] (by decide) ⟨rfl, rfl, rfl, trivial⟩)
def f_lumref_char_L20 (a0 : (List UInt8)) (j4i5 : Int) (kk8 : (Int → Option (Int × Int))) : Nat → Int → Int → Option (Int × Int)
  | 0, _, _ => none
  | k19 + 1, l18i4, l18i53 => (bif (decide (l18i53 < ((cut a0 (1 : Int) j4i5).length : Int))) then (opt (at? (cut a0 (1 : Int) j4i5) l18i53) fun (u22 : UInt8) => (lt (fun (j25b62 : Bool) => (bif j25b62 then (some ((0 : Int), (0 : Int))) else (f_lumref_char_L20 a0 j4i5 kk8 k19 (IntKind.i64.wrap ((IntKind.i64.wrap ((IntKind.i64.wrap ((64 : Int) * l18i4)) + (IntKind.i64.wrap (u22.toNat : Int)))) - (128 : Int))) (IntKind.i64.wrap (l18i53 + (1 : Int)))))) fun (kk26 : Bool → Option (Int × Int)) => (bif (decide ((u22.toNat : Int) < (128 : Int))) then (kk26 true) else (kk26 (decide ((u22.toNat : Int) > (191 : Int))))))) else (kk8 l18i4))
def f_lumref_char (fu : Nat) (a0 : (List UInt8)) : Option (Int × Int) := (bif (a0 == ([] : List UInt8)) then (some ((0 : Int), (0 : Int))) else (req (0 ≤ (0 : Int) ∧ (0 : Int) < (a0.length : Int)) (bif (decide ((IntKind.i64.wrap (En.bAt a0 (0 : Int))) < (128 : Int))) then (some ((IntKind.i64.wrap (En.bAt a0 (0 : Int))), (1 : Int))) else (lt (fun (j4i4 : Int) (j4i5 : Int) (j4i6 : Int) => (bif (decide ((a0.length : Int) < j4i5)) then (some ((0 : Int), (0 : Int))) else (lt (fun (j7i4 : Int) => (lt (fun (j9b84 : Bool) => (bif j9b84 then (some ((0 : Int), (0 : Int))) else (some (j7i4, j4i5)))) fun (kk10 : Bool → Option (Int × Int)) => (bif (decide (j7i4 < j4i6)) then (kk10 true) else (bif (decide (j7i4 > (1114111 : Int))) then (kk10 true) else (bif (decide (j7i4 ≥ (55296 : Int))) then (kk10 (decide (j7i4 < (57344 : Int)))) else (kk10 false)))))) fun (kk8 : Int → Option (Int × Int)) => (req (0 ≤ (1 : Int) ∧ (1 : Int) ≤ j4i5 ∧ j4i5 ≤ (a0.length : Int)) (req ((cut a0 (1 : Int) j4i5).length ≤ 9223372036854775807) (f_lumref_char_L20 a0 j4i5 kk8 fu j4i4 (0 : Int))))))) fun (kk5 : Int → Int → Int → Option (Int × Int)) => (lt (fun (j29b17 : Bool) => (bif j29b17 then (kk5 (IntKind.i64.wrap ((IntKind.i64.wrap (En.bAt a0 (0 : Int))) - (192 : Int))) (2 : Int) (128 : Int)) else (lt (fun (j32b26 : Bool) => (bif j32b26 then (kk5 (IntKind.i64.wrap ((IntKind.i64.wrap (En.bAt a0 (0 : Int))) - (224 : Int))) (3 : Int) (2048 : Int)) else (lt (fun (j35b35 : Bool) => (bif j35b35 then (kk5 (IntKind.i64.wrap ((IntKind.i64.wrap (En.bAt a0 (0 : Int))) - (240 : Int))) (4 : Int) (65536 : Int)) else (some ((0 : Int), (0 : Int))))) fun (kk36 : Bool → Option (Int × Int)) => (bif (decide ((IntKind.i64.wrap (En.bAt a0 (0 : Int))) ≥ (240 : Int))) then (kk36 (decide ((IntKind.i64.wrap (En.bAt a0 (0 : Int))) < (245 : Int)))) else (kk36 false))))) fun (kk33 : Bool → Option (Int × Int)) => (bif (decide ((IntKind.i64.wrap (En.bAt a0 (0 : Int))) ≥ (224 : Int))) then (kk33 (decide ((IntKind.i64.wrap (En.bAt a0 (0 : Int))) < (240 : Int)))) else (kk33 false))))) fun (kk30 : Bool → Option (Int × Int)) => (bif (decide ((IntKind.i64.wrap (En.bAt a0 (0 : Int))) ≥ (194 : Int))) then (kk30 (decide ((IntKind.i64.wrap (En.bAt a0 (0 : Int))) < (224 : Int)))) else (kk30 false)))))))
set_option maxRecDepth 100000 in
set_option maxHeartbeats 2000000 in
set_option maxHeartbeats 2000000 in
theorem f_lumref_char_ok (fu : Nat) (a0 : (List UInt8)) {r : (Int × Int)} (h : f_lumref_char fu a0 = some r) : FnOk Tryd.prog 51 [(str a0)] [] [] (fun (i : Unit) => { val := (Value.tuple #[(int .i64 r.1), (int .i64 r.2)]) }) := by
 unfold f_lumref_char at h
 refine fn_enter Tryd.func51 rfl Tryd.ntmps51 rfl (fun w0 Z0 => ?_)
 refine aw_sr ?_
 refine al_as rfl rfl ?_
 refine al_as rfl rfl ?_
 refine al_nt ?_
 refine aw_seq ?_
 refine aw_sr ?_
 refine al_mv rfl rfl ?_
 refine al_val (ov_strCmp rfl rfl rfl rfl) ?_
 refine al_nt ?_
 refine aw_cond rfl (fun hb1 => ?_) (fun hb1 => ?_)
 ·replace h := bif_t hb1 h
  refine aw_sr ?_
  refine al_as rfl rfl ?_
  refine al_as rfl rfl ?_
  refine al_nt ?_
  refine aw_ret ?_
  refine aq_then_ret ?_
  obtain rfl := Option.some.inj h
  exact fn_ret () [] [] rfl rfl rfl rfl (res2 rfl rfl rfl) rfl rfl rfl (by decide)
 ·replace h := bif_f hb1 h
  refine aw_skip ?_
  refine aq_tr ?_
  refine al_mv rfl rfl ?_
  obtain ⟨hc2, h⟩ := req_some h
  refine al_val (ov_strIdx hc2.1 hc2.2 Tryd.underlying9 rfl rfl rfl) ?_
  refine al_val (ov_convInt (by rw [Tryd.underlying5]; rfl) Tryd.underlying3 rfl rfl) ?_
  refine al_as rfl rfl ?_
  refine al_nt ?_
  refine aw_seq ?_
  refine aw_sr ?_
  refine al_mv rfl rfl ?_
  refine al_in rfl rfl rfl rfl ?_
  refine al_nt ?_
  refine aw_cond rfl (fun hb3 => ?_) (fun hb3 => ?_)
  ·replace h := bif_t hb3 h
   refine aw_sr ?_
   refine al_mv rfl rfl ?_
   refine al_as rfl rfl ?_
   refine al_as rfl rfl ?_
   refine al_nt ?_
   refine aw_ret ?_
   refine aq_then_ret ?_
   obtain rfl := Option.some.inj h
   exact fn_ret () [] [] rfl rfl rfl rfl (res2 rfl rfl rfl) rfl rfl rfl (by decide)
  ·replace h := bif_f hb3 h
   refine aw_skip ?_
   refine aq_tr ?_
   refine al_as rfl rfl ?_
   refine al_as rfl rfl ?_
   refine al_nt ?_
   obtain ⟨kk5, hkk5, h⟩ := lt_some h
   refine aw_seq_join (ι := Int × Int × Int) (fun i => (memOf w0 Z0 [] [] [])) (fun i => (tab [(0, (str a0)), (4, (iq i.1)), (5, (iq i.2.1)), (6, (iq i.2.2))])) (fun i => kk5 i.1 i.2.1 i.2.2 = some r) ?_ ?_
   ·rintro ⟨j4i4, j4i5, j4i6⟩ h
    have h : kk5 j4i4 j4i5 j4i6 = some r := h
    rw [hkk5] at h
    dsimp only at h
    clear hkk5
    refine aw_show (m := (memOf w0 Z0 [] [] [])) (S := (tab [(0, (str a0)), (4, (iq j4i4)), (5, (iq j4i5)), (6, (iq j4i6))])) ?_
    refine aw_seq ?_
    refine aw_sr ?_
    refine al_mv rfl rfl ?_
    refine al_val (ov_strLen Tryd.underlying9 rfl rfl) ?_
    refine al_mv rfl rfl ?_
    refine al_in rfl rfl rfl rfl ?_
    refine al_nt ?_
    refine aw_cond rfl (fun hb6 => ?_) (fun hb6 => ?_)
    ·replace h := bif_t hb6 h
     refine aw_sr ?_
     refine al_as rfl rfl ?_
     refine al_as rfl rfl ?_
     refine al_nt ?_
     refine aw_ret ?_
     refine aq_then_ret ?_
     obtain rfl := Option.some.inj h
     exact fn_ret () [] [] rfl rfl rfl rfl (res2 rfl rfl rfl) rfl rfl rfl (by decide)
    ·replace h := bif_f hb6 h
     refine aw_skip ?_
     refine aq_then ?_
     obtain ⟨kk8, hkk8, h⟩ := lt_some h
     refine aw_seq_join (ι := Int) (fun i => (memOf w0 Z0 [] [] [])) (fun i => (tab [(4, (iq i)), (5, (iq j4i5)), (6, (iq j4i6))])) (fun i => kk8 i = some r) ?_ ?_
     ·rintro j7i4 h
      have h : kk8 j7i4 = some r := h
      rw [hkk8] at h
      dsimp only at h
      clear hkk8
      refine aw_show (m := (memOf w0 Z0 [] [] [])) (S := (tab [(4, (iq j7i4)), (5, (iq j4i5)), (6, (iq j4i6))])) ?_
      refine aw_seq ?_
      obtain ⟨kk10, hkk10, h⟩ := lt_some h
      refine aw_seq_join (ι := Bool) (fun i => (memOf w0 Z0 [] [] [])) (fun i => (tab [(4, (iq j7i4)), (5, (iq j4i5)), (84, (bool i))])) (fun i => kk10 i = some r) ?_ ?_
      ·rintro j9b84 h
       have h : kk10 j9b84 = some r := h
       rw [hkk10] at h
       dsimp only at h
       clear hkk10
       refine aw_show (m := (memOf w0 Z0 [] [] [])) (S := (tab [(4, (iq j7i4)), (5, (iq j4i5)), (84, (bool j9b84))])) ?_
       refine aw_cond rfl (fun hb11 => ?_) (fun hb11 => ?_)
       ·replace h := bif_t hb11 h
        refine aw_sr ?_
        refine al_as rfl rfl ?_
        refine al_as rfl rfl ?_
        refine al_nt ?_
        refine aw_ret ?_
        refine aq_then_ret ?_
        obtain rfl := Option.some.inj h
        exact fn_ret () [] [] rfl rfl rfl rfl (res2 rfl rfl rfl) rfl rfl rfl (by decide)
       ·replace h := bif_f hb11 h
        refine aw_skip ?_
        refine aq_tr ?_
        refine al_mv rfl rfl ?_
        refine al_mv rfl rfl ?_
        refine al_as rfl rfl ?_
        refine al_as rfl rfl ?_
        refine al_nt ?_
        refine aw_ret ?_
        obtain rfl := Option.some.inj h
        exact fn_ret () [] [] rfl rfl rfl rfl (res2 rfl rfl rfl) rfl rfl rfl (by decide)
      ·clear hkk10
       refine aw_region ?_
       refine al_mv rfl rfl ?_
       refine al_mv rfl rfl ?_
       refine al_in rfl rfl rfl rfl ?_
       refine al_mv rfl rfl ?_
       refine al_caseB 73 rfl (fun hb12 => ?_) (fun hb12 => ?_)
       ·replace h := bif_t hb12 h
        refine al_skip ?_
        refine al_skip ?_
        refine al_val (ov_pick_t rfl rfl rfl) ?_
        refine al_mv rfl rfl ?_
        refine al_skip ?_
        refine al_skip ?_
        refine al_skip ?_
        refine al_skip ?_
        refine al_skip ?_
        refine al_skip ?_
        refine al_val (ov_pick_t rfl rfl rfl) ?_
        refine al_nil ?_
        exact aq_join true h (fun w a hm hs => norm hm hs [] [] [(4, (iq j7i4)), (5, (iq j4i5)), (84, (bool true))] (by decide) ⟨rfl, rfl, rfl, trivial⟩)
       ·replace h := bif_f hb12 h
        refine al_mv rfl rfl ?_
        refine al_in rfl rfl rfl rfl ?_
        refine al_val (ov_pick_f rfl rfl rfl) ?_
        refine al_mv rfl rfl ?_
        refine al_caseB 77 rfl (fun hb13 => ?_) (fun hb13 => ?_)
        ·replace h := bif_t hb13 h
         refine al_skip ?_
         refine al_skip ?_
         refine al_skip ?_
         refine al_skip ?_
         refine al_skip ?_
         refine al_skip ?_
         refine al_val (ov_pick_t rfl rfl rfl) ?_
         refine al_nil ?_
         exact aq_join true h (fun w a hm hs => norm hm hs [] [] [(4, (iq j7i4)), (5, (iq j4i5)), (84, (bool true))] (by decide) ⟨rfl, rfl, rfl, trivial⟩)
        ·replace h := bif_f hb13 h
         refine al_mv rfl rfl ?_
         refine al_in rfl rfl rfl rfl ?_
         refine al_mv rfl rfl ?_
         refine al_caseB 80 rfl (fun hb14 => ?_) (fun hb14 => ?_)
         ·replace h := bif_t hb14 h
          refine al_mv rfl rfl ?_
          refine al_in rfl rfl rfl rfl ?_
          refine al_val (ov_pick_t rfl rfl rfl) ?_
          refine al_val (ov_pick_f rfl rfl rfl) ?_
          refine al_nil ?_
          exact aq_join (decide (j7i4 < (57344 : Int))) h (fun w a hm hs => norm hm hs [] [] [(4, (iq j7i4)), (5, (iq j4i5)), (84, (bool (decide (j7i4 < (57344 : Int)))))] (by decide) ⟨rfl, rfl, rfl, trivial⟩)
         ·replace h := bif_f hb14 h
          refine al_skip ?_
          refine al_skip ?_
          refine al_val (ov_pick_f rfl rfl rfl) ?_
          refine al_val (ov_pick_f rfl rfl rfl) ?_
          refine al_nil ?_
          exact aq_join false h (fun w a hm hs => norm hm hs [] [] [(4, (iq j7i4)), (5, (iq j4i5)), (84, (bool false))] (by decide) ⟨rfl, rfl, rfl, trivial⟩)
     ·clear hkk8
      refine aw_sr ?_
      refine al_mv rfl rfl ?_
      refine al_mv rfl rfl ?_
      obtain ⟨hc15, h⟩ := req_some h
      refine al_val (ov_strCut hc15.1 hc15.2.1 hc15.2.2 Tryd.underlying9 rfl rfl rfl rfl) ?_
      obtain ⟨hc16, h⟩ := req_some h
      refine al_bytes hc16 rfl Tryd.underlying9 Tryd.underlying60 Tryd.underlying5 rfl (fun s17 => ?_)
      refine al_val (ov_lenD 0 rfl rfl Tryd.underlying60 rfl) ?_
      refine al_mv rfl rfl ?_
      refine al_nt ?_
      refine aw_block ?_
      refine aw_state (aw_loop (ι := Int × Int) (fun i => (memOf w0 Z0 [] [] [(fDat (tyList tyU8) [s17] (cut a0 (1 : Int) j4i5))])) (fun i => (tab [(4, (iq i.1)), (5, (iq j4i5)), (6, (iq j4i6)), (51, s17), (52, (iq ((cut a0 (1 : Int) j4i5).length : Int))), (53, (iq i.2))])) (fun q i => f_lumref_char_L20 a0 j4i5 kk8 q i.1 i.2 = some r) ?_ fu (j4i4, (0 : Int)) h) (fun w a hm hs => norm hm hs [] [0] [(4, (iq j4i4)), (5, (iq j4i5)), (6, (iq j4i6)), (51, s17), (52, (iq ((cut a0 (1 : Int) j4i5).length : Int))), (53, (iq (0 : Int)))] (by decide) ⟨rfl, rfl, rfl, rfl, rfl, rfl, trivial⟩)
      clear h
      rintro k19 ⟨l18i4, l18i53⟩ h
      have h : f_lumref_char_L20 a0 j4i5 kk8 k19 l18i4 l18i53 = some r := h
      obtain _ | k19 := k19
      · rw [f_lumref_char_L20] at h; cases h
      rw [f_lumref_char_L20] at h
      refine aw_show (m := (memOf w0 Z0 [] [] [(fDat (tyList tyU8) [s17] (cut a0 (1 : Int) j4i5))])) (S := (tab [(4, (iq l18i4)), (5, (iq j4i5)), (6, (iq j4i6)), (51, s17), (52, (iq ((cut a0 (1 : Int) j4i5).length : Int))), (53, (iq l18i53))])) ?_
      refine aw_sr ?_
      refine al_in rfl rfl rfl rfl ?_
      refine al_nt ?_
      refine aw_seq ?_
      refine aw_cond rfl (fun hb21 => ?_) (fun hb21 => ?_)
      ·replace h := bif_t hb21 h
       refine aw_skip ?_
       refine aq_then ?_
       refine aw_seq ?_
       refine aw_block ?_
       refine aw_sr ?_
       obtain ⟨u22, hu23, h⟩ := opt_some h
       refine al_idxD 0 hu23 rfl rfl rfl Tryd.underlying60 sz5 rfl (fun p24 => ?_)
       refine al_val (ov_loadP (ds := [(i8 (u22.toNat : Int))]) 0 rfl (fun h => h) rfl Tryd.underlying5 sz5 rfl rfl rfl) ?_
       refine al_as rfl rfl ?_
       refine al_nt ?_
       refine aw_seq ?_
       obtain ⟨kk26, hkk26, h⟩ := lt_some h
       refine aw_seq_join (ι := Bool) (fun i => (memOf w0 Z0 [] [] [(fDat (tyList tyU8) [s17] (cut a0 (1 : Int) j4i5)), (fPtr tyU8 p24 u22)])) (fun i => (tab [(4, (iq l18i4)), (5, (iq j4i5)), (6, (iq j4i6)), (8, (i8 (u22.toNat : Int))), (51, s17), (52, (iq ((cut a0 (1 : Int) j4i5).length : Int))), (53, (iq l18i53)), (62, (bool i))])) (fun i => kk26 i = some r) ?_ ?_
       ·rintro j25b62 h
        have h : kk26 j25b62 = some r := h
        rw [hkk26] at h
        dsimp only at h
        clear hkk26
        refine aw_show (m := (memOf w0 Z0 [] [] [(fDat (tyList tyU8) [s17] (cut a0 (1 : Int) j4i5)), (fPtr tyU8 p24 u22)])) (S := (tab [(4, (iq l18i4)), (5, (iq j4i5)), (6, (iq j4i6)), (8, (i8 (u22.toNat : Int))), (51, s17), (52, (iq ((cut a0 (1 : Int) j4i5).length : Int))), (53, (iq l18i53)), (62, (bool j25b62))])) ?_
        refine aw_cond rfl (fun hb27 => ?_) (fun hb27 => ?_)
        ·replace h := bif_t hb27 h
         refine aw_sr ?_
         refine al_as rfl rfl ?_
         refine al_as rfl rfl ?_
         refine al_nt ?_
         refine aw_ret ?_
         refine aq_then_ret ?_
         refine aq_block_ret ?_
         refine aq_then_ret ?_
         refine aq_then_ret ?_
         refine aq_block_ret ?_
         refine aq_then_ret ?_
         obtain rfl := Option.some.inj h
         exact fn_ret () [] [] rfl rfl rfl rfl (res2 rfl rfl rfl) rfl rfl rfl (by decide)
        ·replace h := bif_f hb27 h
         refine aw_skip ?_
         refine aq_then ?_
         refine aw_region ?_
         refine al_mv rfl rfl ?_
         refine al_in rfl rfl rfl rfl ?_
         refine al_mv rfl rfl ?_
         refine al_val (ov_convInt (by rw [Tryd.underlying5]; rfl) Tryd.underlying3 rfl rfl) ?_
         refine al_in rfl rfl rfl rfl ?_
         refine al_in rfl rfl rfl rfl ?_
         refine al_as rfl rfl ?_
         refine al_nil ?_
         refine aq_block ?_
         refine aq_then ?_
         refine aw_region ?_
         refine al_in rfl rfl rfl rfl ?_
         refine al_mv rfl rfl ?_
         refine al_nil ?_
         exact aq_again k19 ((wq ((wq ((wq ((64 : Int) * l18i4)) + (wq (u22.toNat : Int)))) - (128 : Int))), (wq (l18i53 + (1 : Int)))) (Nat.lt_succ_self _) h (fun w a hm hs => norm hm hs [] [0] [(4, (iq (wq ((wq ((wq ((64 : Int) * l18i4)) + (wq (u22.toNat : Int)))) - (128 : Int))))), (5, (iq j4i5)), (6, (iq j4i6)), (51, s17), (52, (iq ((cut a0 (1 : Int) j4i5).length : Int))), (53, (iq (wq (l18i53 + (1 : Int)))))] (by decide) ⟨rfl, rfl, rfl, rfl, rfl, rfl, trivial⟩)
       ·clear hkk26
        refine aw_region ?_
        refine al_mv rfl rfl ?_
        refine al_in rfl rfl rfl rfl ?_
        refine al_mv rfl rfl ?_
        refine al_caseB 59 rfl (fun hb28 => ?_) (fun hb28 => ?_)
        ·replace h := bif_t hb28 h
         refine al_skip ?_
         refine al_skip ?_
         refine al_val (ov_pick_t rfl rfl rfl) ?_
         refine al_nil ?_
         exact aq_join true h (fun w a hm hs => norm hm hs [] [1, 0] [(4, (iq l18i4)), (5, (iq j4i5)), (6, (iq j4i6)), (8, (i8 (u22.toNat : Int))), (51, s17), (52, (iq ((cut a0 (1 : Int) j4i5).length : Int))), (53, (iq l18i53)), (62, (bool true))] (by decide) ⟨rfl, rfl, rfl, rfl, rfl, rfl, rfl, rfl, trivial⟩)
        ·replace h := bif_f hb28 h
         refine al_mv rfl rfl ?_
         refine al_in rfl rfl rfl rfl ?_
         refine al_val (ov_pick_f rfl rfl rfl) ?_
         refine al_nil ?_
         exact aq_join (decide ((u22.toNat : Int) > (191 : Int))) h (fun w a hm hs => norm hm hs [] [1, 0] [(4, (iq l18i4)), (5, (iq j4i5)), (6, (iq j4i6)), (8, (i8 (u22.toNat : Int))), (51, s17), (52, (iq ((cut a0 (1 : Int) j4i5).length : Int))), (53, (iq l18i53)), (62, (bool (decide ((u22.toNat : Int) > (191 : Int)))))] (by decide) ⟨rfl, rfl, rfl, rfl, rfl, rfl, rfl, rfl, trivial⟩)
      ·replace h := bif_f hb21 h
       refine aw_exit ?_
       refine aq_then_exit ?_
       refine aq_then_exit ?_
       refine aq_block_exit ?_
       exact aq_join l18i4 h (fun w a hm hs => norm hm hs [] [] [(4, (iq l18i4)), (5, (iq j4i5)), (6, (iq j4i6))] (by decide) ⟨rfl, rfl, rfl, trivial⟩)
   ·clear hkk5
    refine aw_block ?_
    obtain ⟨kk30, hkk30, h⟩ := lt_some h
    refine aw_seq_join (ι := Bool) (fun i => (memOf w0 Z0 [] [] [])) (fun i => (tab [(0, (str a0)), (4, (iq (wq (En.bAt a0 (0 : Int))))), (17, (bool i))])) (fun i => kk30 i = some r) ?_ ?_
    ·rintro j29b17 h
     have h : kk30 j29b17 = some r := h
     rw [hkk30] at h
     dsimp only at h
     clear hkk30
     refine aw_show (m := (memOf w0 Z0 [] [] [])) (S := (tab [(0, (str a0)), (4, (iq (wq (En.bAt a0 (0 : Int))))), (17, (bool j29b17))])) ?_
     refine aw_cond rfl (fun hb31 => ?_) (fun hb31 => ?_)
     ·replace h := bif_t hb31 h
      refine aw_region ?_
      refine al_mv rfl rfl ?_
      refine al_in rfl rfl rfl rfl ?_
      refine al_as rfl rfl ?_
      refine al_as rfl rfl ?_
      refine al_as rfl rfl ?_
      refine al_nil ?_
      refine aq_block ?_
      exact aq_join ((wq ((wq (En.bAt a0 (0 : Int))) - (192 : Int))), (2 : Int), (128 : Int)) h (fun w a hm hs => norm hm hs [] [] [(0, (str a0)), (4, (iq (wq ((wq (En.bAt a0 (0 : Int))) - (192 : Int))))), (5, (iq (2 : Int))), (6, (iq (128 : Int)))] (by decide) ⟨rfl, rfl, rfl, rfl, trivial⟩)
     ·replace h := bif_f hb31 h
      obtain ⟨kk33, hkk33, h⟩ := lt_some h
      refine aw_seq_join (ι := Bool) (fun i => (memOf w0 Z0 [] [] [])) (fun i => (tab [(0, (str a0)), (4, (iq (wq (En.bAt a0 (0 : Int))))), (26, (bool i))])) (fun i => kk33 i = some r) ?_ ?_
      ·rintro j32b26 h
       have h : kk33 j32b26 = some r := h
       rw [hkk33] at h
       dsimp only at h
       clear hkk33
       refine aw_show (m := (memOf w0 Z0 [] [] [])) (S := (tab [(0, (str a0)), (4, (iq (wq (En.bAt a0 (0 : Int))))), (26, (bool j32b26))])) ?_
       refine aw_cond rfl (fun hb34 => ?_) (fun hb34 => ?_)
       ·replace h := bif_t hb34 h
        refine aw_region ?_
        refine al_mv rfl rfl ?_
        refine al_in rfl rfl rfl rfl ?_
        refine al_as rfl rfl ?_
        refine al_as rfl rfl ?_
        refine al_as rfl rfl ?_
        refine al_nil ?_
        refine aq_block ?_
        exact aq_join ((wq ((wq (En.bAt a0 (0 : Int))) - (224 : Int))), (3 : Int), (2048 : Int)) h (fun w a hm hs => norm hm hs [] [] [(0, (str a0)), (4, (iq (wq ((wq (En.bAt a0 (0 : Int))) - (224 : Int))))), (5, (iq (3 : Int))), (6, (iq (2048 : Int)))] (by decide) ⟨rfl, rfl, rfl, rfl, trivial⟩)
       ·replace h := bif_f hb34 h
        obtain ⟨kk36, hkk36, h⟩ := lt_some h
        refine aw_seq_join (ι := Bool) (fun i => (memOf w0 Z0 [] [] [])) (fun i => (tab [(0, (str a0)), (4, (iq (wq (En.bAt a0 (0 : Int))))), (35, (bool i))])) (fun i => kk36 i = some r) ?_ ?_
        ·rintro j35b35 h
         have h : kk36 j35b35 = some r := h
         rw [hkk36] at h
         dsimp only at h
         clear hkk36
         refine aw_show (m := (memOf w0 Z0 [] [] [])) (S := (tab [(0, (str a0)), (4, (iq (wq (En.bAt a0 (0 : Int))))), (35, (bool j35b35))])) ?_
         refine aw_cond rfl (fun hb37 => ?_) (fun hb37 => ?_)
         ·replace h := bif_t hb37 h
          refine aw_region ?_
          refine al_mv rfl rfl ?_
          refine al_in rfl rfl rfl rfl ?_
          refine al_as rfl rfl ?_
          refine al_as rfl rfl ?_
          refine al_as rfl rfl ?_
          refine al_nil ?_
          refine aq_block ?_
          exact aq_join ((wq ((wq (En.bAt a0 (0 : Int))) - (240 : Int))), (4 : Int), (65536 : Int)) h (fun w a hm hs => norm hm hs [] [] [(0, (str a0)), (4, (iq (wq ((wq (En.bAt a0 (0 : Int))) - (240 : Int))))), (5, (iq (4 : Int))), (6, (iq (65536 : Int)))] (by decide) ⟨rfl, rfl, rfl, rfl, trivial⟩)
         ·replace h := bif_f hb37 h
          refine aw_sr ?_
          refine al_as rfl rfl ?_
          refine al_as rfl rfl ?_
          refine al_nt ?_
          refine aw_ret ?_
          refine aq_block_ret ?_
          refine aq_then_ret ?_
          obtain rfl := Option.some.inj h
          exact fn_ret () [] [] rfl rfl rfl rfl (res2 rfl rfl rfl) rfl rfl rfl (by decide)
        ·clear hkk36
         refine aw_region ?_
         refine al_mv rfl rfl ?_
         refine al_in rfl rfl rfl rfl ?_
         refine al_mv rfl rfl ?_
         refine al_caseB 38 rfl (fun hb38 => ?_) (fun hb38 => ?_)
         ·replace h := bif_t hb38 h
          refine al_mv rfl rfl ?_
          refine al_in rfl rfl rfl rfl ?_
          refine al_val (ov_pick_t rfl rfl rfl) ?_
          refine al_as rfl rfl ?_
          refine al_nil ?_
          exact aq_join (decide ((wq (En.bAt a0 (0 : Int))) < (245 : Int))) h (fun w a hm hs => norm hm hs [] [] [(0, (str a0)), (4, (iq (wq (En.bAt a0 (0 : Int))))), (35, (bool (decide ((wq (En.bAt a0 (0 : Int))) < (245 : Int)))))] (by decide) ⟨rfl, rfl, rfl, trivial⟩)
         ·replace h := bif_f hb38 h
          refine al_skip ?_
          refine al_skip ?_
          refine al_val (ov_pick_f rfl rfl rfl) ?_
          refine al_as rfl rfl ?_
          refine al_nil ?_
          exact aq_join false h (fun w a hm hs => norm hm hs [] [] [(0, (str a0)), (4, (iq (wq (En.bAt a0 (0 : Int))))), (35, (bool false))] (by decide) ⟨rfl, rfl, rfl, trivial⟩)
      ·clear hkk33
       refine aw_region ?_
       refine al_mv rfl rfl ?_
       refine al_in rfl rfl rfl rfl ?_
       refine al_mv rfl rfl ?_
       refine al_caseB 29 rfl (fun hb39 => ?_) (fun hb39 => ?_)
       ·replace h := bif_t hb39 h
        refine al_mv rfl rfl ?_
        refine al_in rfl rfl rfl rfl ?_
        refine al_val (ov_pick_t rfl rfl rfl) ?_
        refine al_as rfl rfl ?_
        refine al_nil ?_
        exact aq_join (decide ((wq (En.bAt a0 (0 : Int))) < (240 : Int))) h (fun w a hm hs => norm hm hs [] [] [(0, (str a0)), (4, (iq (wq (En.bAt a0 (0 : Int))))), (26, (bool (decide ((wq (En.bAt a0 (0 : Int))) < (240 : Int)))))] (by decide) ⟨rfl, rfl, rfl, trivial⟩)
       ·replace h := bif_f hb39 h
        refine al_skip ?_
        refine al_skip ?_
        refine al_val (ov_pick_f rfl rfl rfl) ?_
        refine al_as rfl rfl ?_
        refine al_nil ?_
        exact aq_join false h (fun w a hm hs => norm hm hs [] [] [(0, (str a0)), (4, (iq (wq (En.bAt a0 (0 : Int))))), (26, (bool false))] (by decide) ⟨rfl, rfl, rfl, trivial⟩)
    ·clear hkk30
     refine aw_region ?_
     refine al_mv rfl rfl ?_
     refine al_in rfl rfl rfl rfl ?_
     refine al_mv rfl rfl ?_
     refine al_caseB 20 rfl (fun hb40 => ?_) (fun hb40 => ?_)
     ·replace h := bif_t hb40 h
      refine al_mv rfl rfl ?_
      refine al_in rfl rfl rfl rfl ?_
      refine al_val (ov_pick_t rfl rfl rfl) ?_
      refine al_as rfl rfl ?_
      refine al_nil ?_
      exact aq_join (decide ((wq (En.bAt a0 (0 : Int))) < (224 : Int))) h (fun w a hm hs => norm hm hs [] [] [(0, (str a0)), (4, (iq (wq (En.bAt a0 (0 : Int))))), (17, (bool (decide ((wq (En.bAt a0 (0 : Int))) < (224 : Int)))))] (by decide) ⟨rfl, rfl, rfl, trivial⟩)
     ·replace h := bif_f hb40 h
      refine al_skip ?_
      refine al_skip ?_
      refine al_val (ov_pick_f rfl rfl rfl) ?_
      refine al_as rfl rfl ?_
      refine al_nil ?_
      exact aq_join false h (fun w a hm hs => norm hm hs [] [] [(0, (str a0)), (4, (iq (wq (En.bAt a0 (0 : Int))))), (17, (bool false))] (by decide) ⟨rfl, rfl, rfl, trivial⟩)
def f_lumref_Chars_L5 (kk2 : ((List Int) → Option ((List Int) × Bool))) (fu : Nat) : Nat → (List UInt8) → (List Int) → Option ((List Int) × Bool)
  | 0, _, _ => none
  | k4 + 1, l3s0, l3x4 => (bif (!(l3s0 == ([] : List UInt8))) then (opt (f_lumref_char fu l3s0) fun (r8 : (Int × Int)) => (bif (r8.2 == (0 : Int)) then (some (([] : List Int), false)) else (req (((l3x4.length + ([r8.1]).length) * 8 : Nat) ≤ 140737488355328 ∧ l3x4.length + ([r8.1]).length ≤ 9223372036854775807) (req (0 ≤ r8.2 ∧ r8.2 ≤ (l3s0.length : Int)) (f_lumref_Chars_L5 kk2 fu k4 (l3s0.drop (r8.2).toNat) (l3x4 ++ ([r8.1]))))))) else (kk2 l3x4))
def f_lumref_Chars (fu : Nat) (a0 : (List UInt8)) : Option ((List Int) × Bool) := (lt (fun (j1x4 : (List Int)) => (some (j1x4, true))) fun (kk2 : (List Int) → Option ((List Int) × Bool)) => (f_lumref_Chars_L5 kk2 fu fu a0 ([] : List Int)))
set_option maxHeartbeats 2000000 in
set_option maxRecDepth 100000 in
theorem f_lumref_Chars_ok (fu : Nat) (a0 : (List UInt8)) {r : ((List Int) × Bool)} (h : f_lumref_Chars fu a0 = some r) : FnOk Tryd.prog 25 [(str a0)] [] [] (fun (i : Value) => { val := (Value.tuple #[i, (bool r.2)]), own := [(oRow i 3 (tyInt .i64) r.1)] }) := by
 unfold f_lumref_Chars at h
 refine fn_enter Tryd.func25 rfl Tryd.ntmps25 rfl (fun w0 Z0 => ?_)
 refine aw_sr ?_
 refine al_as rfl rfl ?_
 refine al_as rfl rfl ?_
 refine al_nt ?_
 refine aw_sr ?_
 refine al_as rfl rfl ?_
 refine al_nt ?_
 obtain ⟨kk2, hkk2, h⟩ := lt_some h
 refine aw_seq_join (ι := Value × (List Int)) (fun i => (memOf w0 Z0 [] [(oRow i.1 3 tq i.2)] [])) (fun i => (tab [(4, i.1)])) (fun i => kk2 i.2 = some r) ?_ ?_
 ·rintro ⟨j1v4, j1x4⟩ h
  have h : kk2 j1x4 = some r := h
  rw [hkk2] at h
  dsimp only at h
  clear hkk2
  refine aw_show (m := (memOf w0 Z0 [] [(oRow j1v4 3 tq j1x4)] [])) (S := (tab [(4, j1v4)])) ?_
  refine aw_sr ?_
  refine al_mv rfl rfl ?_
  refine al_as rfl rfl ?_
  refine al_as rfl rfl ?_
  refine al_nt ?_
  refine aw_ret ?_
  obtain rfl := Option.some.inj h
  exact fn_ret j1v4 [0] [] rfl rfl rfl rfl (res2 rfl rfl rfl) rfl rfl rfl (by decide)
 ·clear hkk2
  refine aw_block ?_
  refine aw_nilR 3 tq ?_
  refine aw_state (aw_loop (ι := (List UInt8) × Value × (List Int)) (fun i => (memOf w0 Z0 [] [(oRow i.2.1 3 tq i.2.2)] [])) (fun i => (tab [(0, (str i.1)), (4, i.2.1)])) (fun q i => f_lumref_Chars_L5 kk2 fu q i.1 i.2.2 = some r) ?_ fu (a0, nS, ([] : List Int)) h) (fun w a hm hs => norm hm hs [0] [] [(0, (str a0)), (4, nS)] (by decide) ⟨rfl, rfl, trivial⟩)
  clear h
  rintro k4 ⟨l3s0, l3v4, l3x4⟩ h
  have h : f_lumref_Chars_L5 kk2 fu k4 l3s0 l3x4 = some r := h
  obtain _ | k4 := k4
  · rw [f_lumref_Chars_L5] at h; cases h
  rw [f_lumref_Chars_L5] at h
  refine aw_show (m := (memOf w0 Z0 [] [(oRow l3v4 3 tq l3x4)] [])) (S := (tab [(0, (str l3s0)), (4, l3v4)])) ?_
  refine aw_seq ?_
  refine aw_sr ?_
  refine al_mv rfl rfl ?_
  refine al_val (ov_strCmp rfl rfl rfl rfl) ?_
  refine al_nt ?_
  refine aw_cond rfl (fun hb6 => ?_) (fun hb6 => ?_)
  ·replace h := bif_t hb6 h
   refine aw_skip ?_
   refine aq_then ?_
   refine aw_block ?_
   refine aw_sr ?_
   refine al_mv rfl rfl ?_
   obtain ⟨r8, hc7, h⟩ := opt_some h
   refine al_call (vs := [(str l3s0)]) (f_lumref_char_ok fu l3s0 hc7) [] [] [0] pre_nil rfl (by simp) (by decide) (.inl rfl) rfl Tryd.func51 rfl rfl rfl (fun _ => ?_)
   refine al_mv rfl rfl ?_
   refine al_ex rfl rfl rfl ?_
   refine al_ex rfl rfl rfl ?_
   refine al_as rfl rfl ?_
   refine al_as rfl rfl ?_
   refine al_nt ?_
   refine aw_seq ?_
   refine aw_sr ?_
   refine al_mv rfl rfl ?_
   refine al_in rfl rfl rfl rfl ?_
   refine al_nt ?_
   refine aw_cond rfl (fun hb9 => ?_) (fun hb9 => ?_)
   ·replace h := bif_t hb9 h
    refine aw_sr ?_
    refine al_as rfl rfl ?_
    refine al_as rfl rfl ?_
    refine al_nt ?_
    refine aw_ret ?_
    refine aq_then_ret ?_
    refine aq_block_ret ?_
    refine aq_then_ret ?_
    refine aq_block_ret ?_
    refine aq_then_ret ?_
    refine aq_nilR 3 tq ?_
    obtain rfl := Option.some.inj h
    exact fn_ret nS [0] [] rfl rfl rfl rfl (res2 rfl rfl rfl) rfl rfl rfl (by decide)
   ·replace h := bif_f hb9 h
    refine aw_skip ?_
    refine aq_tr ?_
    refine al_mv rfl rfl ?_
    refine al_mv rfl rfl ?_
    refine al_buildSlice (τ := tq) (e := 3) (k := 1) (sz := 0) (by_ := 0) (z := undef) (cs := [(iq r8.1)]) (xs := [r8.1]) rfl (by decide) (fun w a hm hs => ⟨([(iq r8.1)]).toArray, rfl, by simp only [List.map_toArray, List.map_cons, List.map_nil, hs.ev (x := .tmp 17) rfl]; exact run_bs [(iq r8.1)] [(iq r8.1)] Tryd.underlying52 to3 rfl rfl (bs_cons (l := [(iq r8.1)]) (cs := []) (cv_rfl rfl) rfl bs_nil) hm⟩) (fun hm => ⟨_, _, rfl, (fun _ => rfl) hm, rfl⟩) rfl (fun v10 => ?_)
    obtain ⟨hc11, h⟩ := req_some h
    refine al_append 1 hc11.1 hc11.2 rfl (src_own (i := 1) 0 rfl) rfl rfl Tryd.underlying52 to3 rfl rfl rfl (fun v12 => ?_)
    refine al_as rfl rfl ?_
    refine al_nt ?_
    refine aw_region ?_
    refine al_mv rfl rfl ?_
    refine al_mv rfl rfl ?_
    obtain ⟨hc13, h⟩ := req_some h
    refine al_val (ov_strFrom hc13.1 hc13.2 Tryd.underlying9 rfl rfl rfl) ?_
    refine al_as rfl rfl ?_
    refine al_nil ?_
    refine aq_block ?_
    exact aq_again k4 ((l3s0.drop (r8.2).toNat), v12, (l3x4 ++ ([r8.1]))) (Nat.lt_succ_self _) h (fun w a hm hs => norm hm hs [1] [] [(0, (str (l3s0.drop (r8.2).toNat))), (4, v12)] (by decide) ⟨rfl, rfl, trivial⟩)
  ·replace h := bif_f hb6 h
   refine aw_exit ?_
   refine aq_then_exit ?_
   refine aq_then_exit ?_
   refine aq_block_exit ?_
   exact aq_join (l3v4, l3x4) h (fun w a hm hs => norm hm hs [0] [] [(4, l3v4)] (by decide) ⟨rfl, trivial⟩)
def f_lumref_cutAt : Nat → (List UInt8) → Option (List (List UInt8))
  | 0, _ => none
  | fu + 1, a0 => (opt (f_strings_IndexByte fu a0 (47 : Int)) fun (r2 : Int) => (bif (decide (r2 < (0 : Int))) then (some [a0]) else (req (0 ≤ r2 ∧ r2 ≤ (a0.length : Int)) (req (0 ≤ (IntKind.i64.wrap (r2 + (1 : Int))) ∧ (IntKind.i64.wrap (r2 + (1 : Int))) ≤ (a0.length : Int)) (opt (f_lumref_cutAt fu (a0.drop ((IntKind.i64.wrap (r2 + (1 : Int)))).toNat)) fun (r9 : (List (List UInt8))) => (req (((([(a0.take (r2).toNat)]).length + r9.length) * 16 : Nat) ≤ 140737488355328 ∧ ([(a0.take (r2).toNat)]).length + r9.length ≤ 9223372036854775807) (some (([(a0.take (r2).toNat)]) ++ r9))))))))
set_option maxHeartbeats 2000000 in
set_option maxRecDepth 100000 in
theorem f_lumref_cutAt_ok (fu : Nat) (a0 : (List UInt8)) {r : (List (List UInt8))} (h : f_lumref_cutAt fu a0 = some r) : FnOk Tryd.prog 26 [(str a0)] [] [] (fun (i : Value) => { val := i, own := [(oRow i 9 tyStr r)] }) := by
 cases fu with
 | zero => rw [f_lumref_cutAt] at h; cases h
 | succ fu =>
  rw [f_lumref_cutAt] at h
  refine fn_enter Tryd.func26 rfl Tryd.ntmps26 rfl (fun w0 Z0 => ?_)
  refine aw_sr ?_
  refine al_as rfl rfl ?_
  refine al_nt ?_
  refine aw_sr ?_
  refine al_mv rfl rfl ?_
  obtain ⟨r2, hc1, h⟩ := opt_some h
  refine al_call (vs := [(str a0), (i8 (47 : Int))]) (f_strings_IndexByte_ok fu a0 (47 : Int) hc1) [] [] [] pre_nil rfl (by simp) (by decide) (.inl rfl) rfl Tryd.func52 rfl rfl rfl (fun _ => ?_)
  refine al_as rfl rfl ?_
  refine al_nt ?_
  refine aw_seq ?_
  refine aw_sr ?_
  refine al_mv rfl rfl ?_
  refine al_in rfl rfl rfl rfl ?_
  refine al_nt ?_
  refine aw_cond rfl (fun hb3 => ?_) (fun hb3 => ?_)
  ·replace h := bif_t hb3 h
   refine aw_sr ?_
   refine al_mv rfl rfl ?_
   refine al_buildSlice (τ := tyStr) (e := 9) (k := 1) (sz := 0) (by_ := 0) (z := undef) (cs := [(str a0)]) (xs := [a0]) rfl (by decide) (fun w a hm hs => ⟨([(str a0)]).toArray, rfl, by simp only [List.map_toArray, List.map_cons, List.map_nil, hs.ev (x := .tmp 8) rfl]; exact run_bs [(str a0)] [(str a0)] Tryd.underlying22 to9 rfl rfl (bs_cons (l := [(str a0)]) (cs := []) (cv_rfl rfl) rfl bs_nil) hm⟩) (fun hm => ⟨_, _, rfl, (fun _ => rfl) hm, rfl⟩) rfl (fun v4 => ?_)
   refine al_as rfl rfl ?_
   refine al_nt ?_
   refine aw_ret ?_
   refine aq_then_ret ?_
   obtain rfl := Option.some.inj h
   exact fn_ret v4 [0] [] rfl rfl rfl rfl (res1 rfl rfl) rfl rfl rfl (by decide)
  ·replace h := bif_f hb3 h
   refine aw_skip ?_
   refine aq_then ?_
   refine aw_seq ?_
   obtain ⟨hc5, h⟩ := req_some h
   obtain ⟨hc7, h⟩ := req_some h
   refine aw_region_open [⟨0, 10, Unit, fun _ => { val := (str a0) }⟩, ⟨1, 11, Unit, fun _ => { val := (iq r2) }⟩, ⟨2, 12, Unit, fun _ => { val := (str (a0.take (r2).toNat)) }⟩, ⟨3, 13, Value, fun (i : Value) => { val := i, own := [(oRow i 9 tyStr [(a0.take (r2).toNat)])] }⟩, ⟨4, 14, Unit, fun _ => { val := (str a0) }⟩, ⟨5, 15, Unit, fun _ => { val := (iq r2) }⟩, ⟨6, 16, Unit, fun _ => { val := (iq (wq (r2 + (1 : Int)))) }⟩, ⟨7, 17, Unit, fun _ => { val := (str (a0.drop ((wq (r2 + (1 : Int)))).toNat)) }⟩] (tab [(0, (str a0)), (2, nS), (3, (iq r2))]) mixed (fun a hs => hs.tab _ (allT_mem ⟨rfl, rfl, rfl, trivial⟩)) ?_
   refine ta_show (m := (memOf w0 Z0 [] [] [])) (S := (tab [(0, (str a0)), (2, nS), (3, (iq r2))])) ?_
   refine ta_step 8 _ [0, 1, 2, 3, 4, 5, 6, 7] [10, 11, 12, 13, 14, 15, 16, 17] [4, 5, 6, 7] [] [⟨4, 14, Unit, fun _ => { val := (str a0) }⟩, ⟨5, 15, Unit, fun _ => { val := (iq r2) }⟩, ⟨6, 16, Unit, fun _ => { val := (iq (wq (r2 + (1 : Int)))) }⟩, ⟨7, 17, Unit, fun _ => { val := (str (a0.drop ((wq (r2 + (1 : Int)))).toNat)) }⟩] [⟨0, 10, Unit, fun _ => { val := (str a0) }⟩, ⟨1, 11, Unit, fun _ => { val := (iq r2) }⟩, ⟨2, 12, Unit, fun _ => { val := (str (a0.take (r2).toNat)) }⟩, ⟨3, 13, Value, fun (i : Value) => { val := i, own := [(oRow i 9 tyStr [(a0.take (r2).toNat)])] }⟩] rfl rfl rfl (by kernel_rfl) rfl rfl rfl ⟨⟨_, rfl, [], rfl, by
 intro X_ Y_ F_ K_ hK_
 refine al_show (m := Mem.plus (memOf w0 Z0 [] [] []) X_ Y_) (S := over (tab [(0, (str a0)), (2, nS), (3, (iq r2))]) F_) ?_
 refine al_mv rfl rfl ?_
 refine al_nil ?_
 exact fr_fin hK_ ()⟩, ⟨_, rfl, [], rfl, by
 intro X_ Y_ F_ K_ hK_
 refine al_show (m := Mem.plus (memOf w0 Z0 [] [] []) X_ Y_) (S := over (tab [(0, (str a0)), (2, nS), (3, (iq r2))]) F_) ?_
 refine al_mv rfl rfl ?_
 refine al_nil ?_
 exact fr_fin hK_ ()⟩, ⟨_, rfl, [0, 1], rfl, by
 intro _
 intro _
 intro X_ Y_ F_ K_ hK_
 refine al_show (m := Mem.plus (memOf w0 Z0 [] [] []) X_ Y_) (S := over (put (put (tab [(0, (str a0)), (2, nS), (3, (iq r2))]) 10 (str a0)) 11 (iq r2)) F_) ?_
 refine al_val (ov_strTo hc5.1 hc5.2 Tryd.underlying9 rfl rfl rfl) ?_
 refine al_nil ?_
 exact fr_fin hK_ ()⟩, ⟨_, rfl, [2], rfl, by
 intro _
 intro X_ Y_ F_ K_ hK_
 refine al_show (m := Mem.plus (memOf w0 Z0 [] [] []) X_ Y_) (S := over (put (tab [(0, (str a0)), (2, nS), (3, (iq r2))]) 12 (str (a0.take (r2).toNat))) F_) ?_
 refine al_buildSlice (τ := tyStr) (e := 9) (k := 1) (sz := 0) (by_ := 0) (z := undef) (cs := [(str (a0.take (r2).toNat))]) (xs := [(a0.take (r2).toNat)]) rfl (by decide) (fun w a hm hs => ⟨([(str (a0.take (r2).toNat))]).toArray, rfl, by simp only [List.map_toArray, List.map_cons, List.map_nil, hs.ev (x := .tmp 12) rfl]; exact run_bs [(str (a0.take (r2).toNat))] [(str (a0.take (r2).toNat))] Tryd.underlying22 to9 rfl rfl (bs_cons (l := [(str (a0.take (r2).toNat))]) (cs := []) (cv_rfl rfl) rfl bs_nil) hm⟩) (fun hm => ⟨_, _, rfl, (fun _ => rfl) hm, rfl⟩) rfl (fun v6 => ?_)
 refine al_nil ?_
 exact fr_fin hK_ v6⟩, ⟨_, rfl, [], rfl, by
 intro X_ Y_ F_ K_ hK_
 refine al_show (m := Mem.plus (memOf w0 Z0 [] [] []) X_ Y_) (S := over (tab [(0, (str a0)), (2, nS), (3, (iq r2))]) F_) ?_
 refine al_mv rfl rfl ?_
 refine al_nil ?_
 exact fr_fin hK_ ()⟩, ⟨_, rfl, [], rfl, by
 intro X_ Y_ F_ K_ hK_
 refine al_show (m := Mem.plus (memOf w0 Z0 [] [] []) X_ Y_) (S := over (tab [(0, (str a0)), (2, nS), (3, (iq r2))]) F_) ?_
 refine al_mv rfl rfl ?_
 refine al_nil ?_
 exact fr_fin hK_ ()⟩, ⟨_, rfl, [5], rfl, by
 intro _
 intro X_ Y_ F_ K_ hK_
 refine al_show (m := Mem.plus (memOf w0 Z0 [] [] []) X_ Y_) (S := over (put (tab [(0, (str a0)), (2, nS), (3, (iq r2))]) 15 (iq r2)) F_) ?_
 refine al_in rfl rfl rfl rfl ?_
 refine al_nil ?_
 exact fr_fin hK_ ()⟩, ⟨_, rfl, [4, 6], rfl, by
 intro _
 intro _
 intro X_ Y_ F_ K_ hK_
 refine al_show (m := Mem.plus (memOf w0 Z0 [] [] []) X_ Y_) (S := over (put (put (tab [(0, (str a0)), (2, nS), (3, (iq r2))]) 14 (str a0)) 16 (iq (wq (r2 + (1 : Int))))) F_) ?_
 refine al_val (ov_strFrom hc7.1 hc7.2 Tryd.underlying9 rfl rfl rfl) ?_
 refine al_nil ?_
 exact fr_fin hK_ ()⟩, trivial⟩ ?_
   intro _
   intro _
   intro _
   intro _
   intro X_ Y_ F_ K_ hK_
   refine al_show (m := Mem.plus (memOf w0 Z0 [] [] []) X_ Y_) (S := over (put (put (put (put (tab [(0, (str a0)), (2, nS), (3, (iq r2))]) 14 (str a0)) 15 (iq r2)) 16 (iq (wq (r2 + (1 : Int))))) 17 (str (a0.drop ((wq (r2 + (1 : Int)))).toNat))) F_) ?_
   obtain ⟨r9, hc8, h⟩ := opt_some h
   refine al_callX (vs := [(str (a0.drop ((wq (r2 + (1 : Int)))).toNat))]) (f_lumref_cutAt_ok fu (a0.drop ((wq (r2 + (1 : Int)))).toNat) hc8) [] [] [] pre_nil rfl (by simp) (by decide) rfl (.inl rfl) rfl Tryd.func26 rfl rfl rfl (fun v10 => ?_)
   refine al_nil ?_
   refine aq_show (m := Mem.plus (memOf w0 Z0 [] [(oRow v10 9 tyStr r9)] []) X_ Y_) ?_
   refine aq_next hK_ [0] [] [(0, (str a0)), (2, nS), (3, (iq r2)), (18, v10)] [10, 11, 12, 13] [] rfl rfl (by decide) rfl ⟨rfl, rfl, rfl, rfl, trivial⟩ ⟨rfl, rfl, rfl, rfl, trivial⟩ ?_
   clear hK_ K_ F_ X_ Y_
   refine ta_show (m := (memOf w0 Z0 [] [(oRow v10 9 tyStr r9)] [])) (S := (tab [(0, (str a0)), (2, nS), (3, (iq r2)), (18, v10)])) ?_
   refine ta_step 9 _ [0, 1, 2, 3] [10, 11, 12, 13] [0, 1, 2, 3] [] [⟨0, 10, Unit, fun _ => { val := (str a0) }⟩, ⟨1, 11, Unit, fun _ => { val := (iq r2) }⟩, ⟨2, 12, Unit, fun _ => { val := (str (a0.take (r2).toNat)) }⟩, ⟨3, 13, Value, fun (i : Value) => { val := i, own := [(oRow i 9 tyStr [(a0.take (r2).toNat)])] }⟩] [] rfl rfl rfl (by kernel_rfl) rfl rfl rfl ⟨⟨_, rfl, [], rfl, by
 intro X_ Y_ F_ K_ hK_
 refine al_show (m := Mem.plus (memOf w0 Z0 [] [(oRow v10 9 tyStr r9)] []) X_ Y_) (S := over (tab [(0, (str a0)), (2, nS), (3, (iq r2)), (18, v10)]) F_) ?_
 refine al_mv rfl rfl ?_
 refine al_nil ?_
 exact fr_fin hK_ ()⟩, ⟨_, rfl, [], rfl, by
 intro X_ Y_ F_ K_ hK_
 refine al_show (m := Mem.plus (memOf w0 Z0 [] [(oRow v10 9 tyStr r9)] []) X_ Y_) (S := over (tab [(0, (str a0)), (2, nS), (3, (iq r2)), (18, v10)]) F_) ?_
 refine al_mv rfl rfl ?_
 refine al_nil ?_
 exact fr_fin hK_ ()⟩, ⟨_, rfl, [0, 1], rfl, by
 intro _
 intro _
 intro X_ Y_ F_ K_ hK_
 refine al_show (m := Mem.plus (memOf w0 Z0 [] [(oRow v10 9 tyStr r9)] []) X_ Y_) (S := over (put (put (tab [(0, (str a0)), (2, nS), (3, (iq r2)), (18, v10)]) 10 (str a0)) 11 (iq r2)) F_) ?_
 refine al_val (ov_strTo hc5.1 hc5.2 Tryd.underlying9 rfl rfl rfl) ?_
 refine al_nil ?_
 exact fr_fin hK_ ()⟩, ⟨_, rfl, [2], rfl, by
 intro _
 intro X_ Y_ F_ K_ hK_
 refine al_show (m := Mem.plus (memOf w0 Z0 [] [(oRow v10 9 tyStr r9)] []) X_ Y_) (S := over (put (tab [(0, (str a0)), (2, nS), (3, (iq r2)), (18, v10)]) 12 (str (a0.take (r2).toNat))) F_) ?_
 refine al_buildSlice (τ := tyStr) (e := 9) (k := 1) (sz := 0) (by_ := 0) (z := undef) (cs := [(str (a0.take (r2).toNat))]) (xs := [(a0.take (r2).toNat)]) rfl (by decide) (fun w a hm hs => ⟨([(str (a0.take (r2).toNat))]).toArray, rfl, by simp only [List.map_toArray, List.map_cons, List.map_nil, hs.ev (x := .tmp 12) rfl]; exact run_bs [(str (a0.take (r2).toNat))] [(str (a0.take (r2).toNat))] Tryd.underlying22 to9 rfl rfl (bs_cons (l := [(str (a0.take (r2).toNat))]) (cs := []) (cv_rfl rfl) rfl bs_nil) hm⟩) (fun hm => ⟨_, _, rfl, (fun _ => rfl) hm, rfl⟩) rfl (fun v6 => ?_)
 refine al_nil ?_
 exact fr_fin hK_ v6⟩, trivial⟩ ?_
   intro _
   intro _
   intro _
   intro v6
   intro X_ Y_ F_ K_ hK_
   refine al_show (m := Mem.plus (memOf w0 Z0 [] [(oRow v6 9 tyStr [(a0.take (r2).toNat)]), (oRow v10 9 tyStr r9)] []) X_ Y_) (S := over (put (put (put (put (tab [(0, (str a0)), (2, nS), (3, (iq r2)), (18, v10)]) 10 (str a0)) 11 (iq r2)) 12 (str (a0.take (r2).toNat))) 13 v6) F_) ?_
   obtain ⟨hc11, h⟩ := req_some h
   refine al_append 0 hc11.1 hc11.2 rfl (src_own (i := 0) 1 rfl) rfl rfl Tryd.underlying22 to9 rfl rfl rfl (fun v12 => ?_)
   refine al_nil ?_
   refine aq_show (m := Mem.plus (memOf w0 Z0 [] [(oRow v12 9 tyStr (([(a0.take (r2).toNat)]) ++ r9)), (oRow v10 9 tyStr r9)] []) X_ Y_) ?_
   refine aq_next hK_ [0, 1] [] [(2, nS), (19, v12)] [] [] rfl rfl (by decide) rfl ⟨rfl, rfl, trivial⟩ trivial ?_
   clear hK_ K_ F_ X_ Y_
   refine ta_show (m := (memOf w0 Z0 [] [(oRow v12 9 tyStr (([(a0.take (r2).toNat)]) ++ r9)), (oRow v10 9 tyStr r9)] [])) (S := (tab [(2, nS), (19, v12)])) ?_
   refine ta_step 10 _ [] [] [] [] [] [] rfl rfl rfl (by kernel_rfl) rfl rfl rfl trivial ?_
   intro X_ Y_ F_ K_ hK_
   refine al_show (m := Mem.plus (memOf w0 Z0 [] [(oRow v12 9 tyStr (([(a0.take (r2).toNat)]) ++ r9)), (oRow v10 9 tyStr r9)] []) X_ Y_) (S := over (tab [(2, nS), (19, v12)]) F_) ?_
   refine al_as rfl rfl ?_
   refine al_nil ?_
   refine aq_show (m := Mem.plus (memOf w0 Z0 [] [(oRow v12 9 tyStr (([(a0.take (r2).toNat)]) ++ r9)), (oRow v10 9 tyStr r9)] []) X_ Y_) ?_
   refine aq_next hK_ [0, 1] [] [(2, v12)] [] [] rfl rfl (by decide) rfl ⟨rfl, trivial⟩ trivial ?_
   clear hK_ K_ F_ X_ Y_
   refine ta_show (m := (memOf w0 Z0 [] [(oRow v12 9 tyStr (([(a0.take (r2).toNat)]) ++ r9)), (oRow v10 9 tyStr r9)] [])) (S := (tab [(2, v12)])) ?_
   refine ta_end [] [] rfl rfl (by kernel_rfl) rfl trivial ?_
   refine aq_show (m := (memOf w0 Z0 [] [(oRow v12 9 tyStr (([(a0.take (r2).toNat)]) ++ r9)), (oRow v10 9 tyStr r9)] [])) (S := (tab [(2, v12)])) ?_
   refine aq_then ?_
   refine aw_ret ?_
   obtain rfl := Option.some.inj h
   exact fn_ret v12 [0] [] rfl rfl rfl rfl (res1 rfl rfl) rfl rfl rfl (by decide)
def f_lumref_marks_1 (fu : Nat) (a0 : Int) (a1 : Int) : Option Bool := (some (a1 == a0))
set_option maxRecDepth 100000 in
theorem f_lumref_marks_1_ok (fu : Nat) (a0 : Int) (c1 : Value) (a1 : Int) {r : Bool} (h : f_lumref_marks_1 fu a0 a1 = some r) : FnOk Tryd.prog 53 [(int .i64 a0), c1] [(fPtr (tyInt .i64) c1 a1)] [] (fun (i : Unit) => { val := (bool r) }) := by
 unfold f_lumref_marks_1 at h
 refine fn_enter Tryd.func53 rfl Tryd.ntmps53 rfl (fun w0 Z0 => ?_)
 refine aw_sr ?_
 refine al_as rfl rfl ?_
 refine al_nt ?_
 refine aw_sr ?_
 refine al_val (ov_loadP (ds := [(iq a1)]) 0 rfl (fun h => h) rfl Tryd.underlying3 sz3 rfl rfl rfl) ?_
 refine al_mv rfl rfl ?_
 refine al_in rfl rfl rfl rfl ?_
 refine al_as rfl rfl ?_
 refine al_nt ?_
 refine aw_ret ?_
 obtain rfl := Option.some.inj h
 exact fn_ret () [] [] rfl rfl rfl rfl (res1 rfl rfl) rfl rfl rfl (by decide)
def f_lumref_marks_2 (fu : Nat) (a0 : Int) : Option Bool := (some true)
set_option maxRecDepth 100000 in
theorem f_lumref_marks_2_ok (fu : Nat) (a0 : Int) {r : Bool} (h : f_lumref_marks_2 fu a0 = some r) : FnOk Tryd.prog 54 [(int .i64 a0)] [] [] (fun (i : Unit) => { val := (bool r) }) := by
 unfold f_lumref_marks_2 at h
 refine fn_enter Tryd.func54 rfl Tryd.ntmps54 rfl (fun w0 Z0 => ?_)
 refine aw_sr ?_
 refine al_as rfl rfl ?_
 refine al_nt ?_
 refine aw_sr ?_
 refine al_as rfl rfl ?_
 refine al_nt ?_
 refine aw_ret ?_
 obtain rfl := Option.some.inj h
 exact fn_ret () [] [] rfl rfl rfl rfl (res1 rfl rfl) rfl rfl rfl (by decide)
def f_lumref_plain (fu : Nat) (a0 : (List Int)) : Option (Int × (List Int) × Bool) := (lt (fun (j1b5 : Bool) => (bif j1b5 then (some ((0 : Int), ([] : (List Int)), false)) else (opt (at? a0 (0 : Int)) fun (u4 : Int) => (bif (u4 != (92 : Int)) then (opt (at? a0 (0 : Int)) fun (u8 : Int) => (req (0 ≤ (1 : Int) ∧ (1 : Int) ≤ (a0.length : Int)) (some (u8, (a0.drop ((1 : Int)).toNat), true)))) else (bif ((a0.length : Int) == (1 : Int)) then (some ((0 : Int), ([] : (List Int)), false)) else (opt (at? a0 (1 : Int)) fun (u14 : Int) => (req (0 ≤ (2 : Int) ∧ (2 : Int) ≤ (a0.length : Int)) (some (u14, (a0.drop ((2 : Int)).toNat), true))))))))) fun (kk2 : Bool → Option (Int × (List Int) × Bool)) => (bif ((a0.length : Int) == (0 : Int)) then (kk2 true) else (opt (at? a0 (0 : Int)) fun (u20 : Int) => (kk2 (u20 == (93 : Int))))))
end Go.Proofs.YtpakblkldklbmaaDoor
