/- What GlobMatches leans on, part 2. No condition. -/
import Derived.Test.YtpakblkldklbmaaDoorQGlobMatchesa
import Derived.Test.YtpakblkldklbmaaDoorChecked
namespace Go.Proofs.YtpakblkldklbmaaDoor
open Go.RowKit YtpakblkldklbmaaDoor.En
set_option linter.unusedVariables false
set_option linter.unusedSimpArgs false
open Go.Value (int bool)
inductive C74 where
  | nil
  | c53 (a0 : Int)
  | c54
  | c56 (a0 : Int)
  | c83 (a0 : (List Int)) (a1 : (List Int)) (a2 : Bool)
  deriving DecidableEq
def repC74 (Z : Nat → Prop) (w : World) (cs : List Value) : C74 → Prop
  | .nil => cs = [Value.nilFunc]
  | .c53 a0 => ∃ p0, cs = [.func (.func 53) #[] #[p0]] ∧ (fPtr (tyInt .i64) p0 a0).p Z w
  | .c54 => cs = [.func (.func 54) #[] #[]]
  | .c56 a0 => ∃ p0, cs = [.func (.func 56) #[] #[p0]] ∧ (fPtr (tyInt .i64) p0 a0).p Z w
  | .c83 a0 a1 a2 => ∃ p0 p1 p2, cs = [.func (.func 83) #[] #[p0, p1, p2]] ∧ (fPtr (tyList (tyInt .i64)) p0 a0).p Z w ∧ (fPtr (tyList (tyInt .i64)) p1 a1).p Z w ∧ (fPtr tyBool p2 a2).p Z w
def tyC74 : Ty C74 where
  size := 1
  rep Z w cs x := repC74 Z w cs x
  len {Z w cs x} h := by
    cases x with
    | nil => rw [show cs = _ from h]; rfl
    | c53 a0 => obtain ⟨p0, e, h0⟩ := h; rw [e]; rfl
    | c54 => rw [show cs = _ from h]; rfl
    | c56 a0 => obtain ⟨p0, e, h0⟩ := h; rw [e]; rfl
    | c83 a0 a1 a2 => obtain ⟨p0, p1, p2, e, h0, h1, h2⟩ := h; rw [e]; rfl
  one {Z w cs x} h := by
    intro v hv
    cases x with
    | nil => rw [show cs = _ from h] at hv; rw [List.mem_singleton.1 hv]; rfl
    | c53 a0 => obtain ⟨p0, e, h0⟩ := h; rw [e] at hv; rw [List.mem_singleton.1 hv]; rfl
    | c54 => rw [show cs = _ from h] at hv; rw [List.mem_singleton.1 hv]; rfl
    | c56 a0 => obtain ⟨p0, e, h0⟩ := h; rw [e] at hv; rw [List.mem_singleton.1 hv]; rfl
    | c83 a0 a1 a2 => obtain ⟨p0, p1, p2, e, h0, h1, h2⟩ := h; rw [e] at hv; rw [List.mem_singleton.1 hv]; rfl
  keep {Z w w' cs x} hz h := by
    cases x with
    | nil => exact h
    | c53 a0 => obtain ⟨p0, e, h0⟩ := h; exact ⟨p0, e, (fPtr (tyInt .i64) p0 a0).keep hz h0⟩
    | c54 => exact h
    | c56 a0 => obtain ⟨p0, e, h0⟩ := h; exact ⟨p0, e, (fPtr (tyInt .i64) p0 a0).keep hz h0⟩
    | c83 a0 a1 a2 => obtain ⟨p0, p1, p2, e, h0, h1, h2⟩ := h; exact ⟨p0, p1, p2, e, (fPtr (tyList (tyInt .i64)) p0 a0).keep hz h0, (fPtr (tyList (tyInt .i64)) p1 a1).keep hz h1, (fPtr tyBool p2 a2).keep hz h2⟩
  mono {Z Z' w cs x} hz h := by
    cases x with
    | nil => exact h
    | c53 a0 => obtain ⟨p0, e, h0⟩ := h; exact ⟨p0, e, (fPtr (tyInt .i64) p0 a0).mono hz h0⟩
    | c54 => exact h
    | c56 a0 => obtain ⟨p0, e, h0⟩ := h; exact ⟨p0, e, (fPtr (tyInt .i64) p0 a0).mono hz h0⟩
    | c83 a0 a1 a2 => obtain ⟨p0, p1, p2, e, h0, h1, h2⟩ := h; exact ⟨p0, p1, p2, e, (fPtr (tyList (tyInt .i64)) p0 a0).mono hz h0, (fPtr (tyList (tyInt .i64)) p1 a1).mono hz h1, (fPtr tyBool p2 a2).mono hz h2⟩
theorem mkC74_nil {m : Mem} : ∀ {w}, Holds m w → (fDat tyC74 [Value.nilFunc] C74.nil).p (m.frz w) w := fun _ => rfl
theorem mkC74_53 {m : Mem} {p0 : Value} {a0 : Int} (i0 : Nat) (h0 : m.fz[i0]? = some (fPtr (tyInt .i64) p0 a0)) : ∀ {w}, Holds m w → (fDat tyC74 [(Value.func (.func 53) #[] #[p0])] (C74.c53 a0)).p (m.frz w) w := fun hm => ⟨_, rfl, hm.fz _ (List.mem_of_getElem? h0)⟩
theorem useC74_53 {v : Value} {a0 : Int} : ∀ Z w, (fDat tyC74 [v] (C74.c53 a0)).p Z w → ∃ j : Value, v = (Value.func (.func 53) #[] #[j]) ∧ ∀ g ∈ ([fPtr (tyInt .i64) j a0] : List Fact), g.p Z w := by
  intro Z w h
  obtain ⟨p0, e, h0⟩ := h
  exact ⟨p0, by simpa using e, (by simp only [List.mem_cons, List.not_mem_nil, or_false, forall_eq_or_imp, forall_eq]; exact h0)⟩
theorem mkC74_54 {m : Mem} : ∀ {w}, Holds m w → (fDat tyC74 [(Value.func (.func 54) #[] #[])] (C74.c54)).p (m.frz w) w := fun hm => rfl
theorem useC74_54 {v : Value} : ∀ Z w, (fDat tyC74 [v] (C74.c54)).p Z w → ∃ j : Unit, v = (Value.func (.func 54) #[] #[]) ∧ ∀ g ∈ ([] : List Fact), g.p Z w := by
  intro Z w h
  exact ⟨(), by simpa using (show [v] = _ from h), by simp⟩
theorem mkC74_56 {m : Mem} {p0 : Value} {a0 : Int} (i0 : Nat) (h0 : m.fz[i0]? = some (fPtr (tyInt .i64) p0 a0)) : ∀ {w}, Holds m w → (fDat tyC74 [(Value.func (.func 56) #[] #[p0])] (C74.c56 a0)).p (m.frz w) w := fun hm => ⟨_, rfl, hm.fz _ (List.mem_of_getElem? h0)⟩
theorem useC74_56 {v : Value} {a0 : Int} : ∀ Z w, (fDat tyC74 [v] (C74.c56 a0)).p Z w → ∃ j : Value, v = (Value.func (.func 56) #[] #[j]) ∧ ∀ g ∈ ([fPtr (tyInt .i64) j a0] : List Fact), g.p Z w := by
  intro Z w h
  obtain ⟨p0, e, h0⟩ := h
  exact ⟨p0, by simpa using e, (by simp only [List.mem_cons, List.not_mem_nil, or_false, forall_eq_or_imp, forall_eq]; exact h0)⟩
theorem mkC74_83 {m : Mem} {p0 : Value} {a0 : (List Int)} (i0 : Nat) (h0 : m.fz[i0]? = some (fPtr (tyList (tyInt .i64)) p0 a0)) {p1 : Value} {a1 : (List Int)} (i1 : Nat) (h1 : m.fz[i1]? = some (fPtr (tyList (tyInt .i64)) p1 a1)) {p2 : Value} {a2 : Bool} (i2 : Nat) (h2 : m.fz[i2]? = some (fPtr tyBool p2 a2)) : ∀ {w}, Holds m w → (fDat tyC74 [(Value.func (.func 83) #[] #[p0, p1, p2])] (C74.c83 a0 a1 a2)).p (m.frz w) w := fun hm => ⟨_, _, _, rfl, hm.fz _ (List.mem_of_getElem? h0), hm.fz _ (List.mem_of_getElem? h1), hm.fz _ (List.mem_of_getElem? h2)⟩
theorem useC74_83 {v : Value} {a0 : (List Int)} {a1 : (List Int)} {a2 : Bool} : ∀ Z w, (fDat tyC74 [v] (C74.c83 a0 a1 a2)).p Z w → ∃ j : Value × Value × Value, v = (Value.func (.func 83) #[] #[j.1, j.2.1, j.2.2]) ∧ ∀ g ∈ ([fPtr (tyList (tyInt .i64)) j.1 a0, fPtr (tyList (tyInt .i64)) j.2.1 a1, fPtr tyBool j.2.2 a2] : List Fact), g.p Z w := by
  intro Z w h
  obtain ⟨p0, p1, p2, e, h0, h1, h2⟩ := h
  exact ⟨(p0, p1, p2), by simpa using e, (by simp only [List.mem_cons, List.not_mem_nil, or_false, forall_eq_or_imp, forall_eq]; exact ⟨h0, h1, h2⟩)⟩
structure S_lumref_mark where
  star : Bool
  ok : C74
  deriving DecidableEq
def tyS_lumref_mark : Ty S_lumref_mark := tyVia (fun x => (x.star, x.ok)) (tyPair tyBool tyC74)
theorem subS_lumref_mark_0 : Sub tyS_lumref_mark 0 tyBool (fun x => x.star) := Sub.via (Sub.fst (Sub.whole _))
theorem subS_lumref_mark_1 : Sub tyS_lumref_mark 1 tyC74 (fun x => x.ok) := Sub.via (Sub.snd (Sub.whole _))
theorem mknS_lumref_mark {Z w cs} {x : S_lumref_mark} {v0 : Value} (hc : cs = [(bool x.star), v0]) (h0 : tyC74.rep Z w [v0] x.ok) : tyS_lumref_mark.rep Z w cs x := by
  subst hc
  exact ⟨_, _, (List.take_append_drop 1 _).symm, rfl, h0⟩
structure S_glob_span where
  from_ : Int
  to_ : Int
  deriving DecidableEq
def tyS_glob_span : Ty S_glob_span := tyVia (fun x => (x.from_, x.to_)) (tyPair (tyInt .i32) (tyInt .i32))
theorem encS_glob_span {Z w cs} {x : S_glob_span} (h : tyS_glob_span.rep Z w cs x) : cs = [(int .i32 x.from_), (int .i32 x.to_)] := by
  obtain ⟨c0, d0, rfl, p0, q0⟩ := h
  rw [show _ = _ from p0]
  rw [show _ = _ from q0]
  rfl
theorem mkS_glob_span {Z w cs} {x : S_glob_span} (h : cs = [(int .i32 x.from_), (int .i32 x.to_)]) : tyS_glob_span.rep Z w cs x := by
  subst h
  exact ⟨_, _, (List.take_append_drop 1 _).symm, rfl, rfl⟩
structure S_glob_element where
  kind : Int
  spans : (List S_glob_span)
  not : Bool
  deriving DecidableEq
def tyS_glob_element : Ty S_glob_element := tyVia (fun x => (x.kind, (x.spans, x.not))) (tyPair (tyInt .i64) (tyPair (tyList tyS_glob_span) tyBool))
theorem subS_glob_element_0 : Sub tyS_glob_element 0 (tyInt .i64) (fun x => x.kind) := Sub.via (Sub.fst (Sub.whole _))
theorem encnS_glob_element {cs} {x : S_glob_element} : ∀ Z w, (fDat tyS_glob_element cs x).p Z w → ∃ j : Value, cs = [(int .i64 x.kind), j, (bool x.not)] ∧ ∀ g ∈ [(fDat (tyList tyS_glob_span) [j] x.spans)], g.p Z w := by
  intro Z w h
  obtain ⟨c0, d0, rfl, p0, q0⟩ := h
  obtain ⟨c1, d1, rfl, p1, q1⟩ := q0
  obtain rfl : c0 = [(int .i64 x.kind)] := p0
  obtain ⟨v1, rfl⟩ := one_of p1
  obtain rfl : d1 = [(bool x.not)] := q1
  exact ⟨v1, rfl, (fall_cons p1 fall_nil)⟩
theorem mknS_glob_element {Z w cs} {x : S_glob_element} {v0 : Value} (hc : cs = [(int .i64 x.kind), v0, (bool x.not)]) (h0 : (tyList tyS_glob_span).rep Z w [v0] x.spans) : tyS_glob_element.rep Z w cs x := by
  subst hc
  exact ⟨_, _, (List.take_append_drop 1 _).symm, rfl, ⟨_, _, (List.take_append_drop 1 _).symm, h0, rfl⟩⟩
structure S_glob_reader where
  left : (List Int)
  deriving DecidableEq
structure S_glob_part where
  any : Bool
  elements : (List S_glob_element)
  deriving DecidableEq
def tyS_glob_part : Ty S_glob_part := tyVia (fun x => (x.any, x.elements)) (tyPair tyBool (tyList tyS_glob_element))
theorem subS_glob_part_0 : Sub tyS_glob_part 0 tyBool (fun x => x.any) := Sub.via (Sub.fst (Sub.whole _))
theorem subS_glob_part_1 : Sub tyS_glob_part 1 (tyList tyS_glob_element) (fun x => x.elements) := Sub.via (Sub.snd (Sub.whole _))
theorem mknS_glob_part {Z w cs} {x : S_glob_part} {v0 : Value} (hc : cs = [(bool x.any), v0]) (h0 : (tyList tyS_glob_element).rep Z w [v0] x.elements) : tyS_glob_part.rep Z w cs x := by
  subst hc
  exact ⟨_, _, (List.take_append_drop 1 _).symm, rfl, h0⟩
theorem sz3 : szOf Tryd.prog 3 = some 1 := by kernel_rfl
theorem to3 : tyOf Tryd.prog 3 = some (1, 8, some (int .i64 (0 : Int))) := by kernel_rfl
theorem sz4 : szOf Tryd.prog 4 = some 1 := by kernel_rfl
theorem to4 : tyOf Tryd.prog 4 = some (1, 1, some (bool false)) := by kernel_rfl
theorem sz5 : szOf Tryd.prog 5 = some 1 := by kernel_rfl
theorem sz9 : szOf Tryd.prog 9 = some 1 := by kernel_rfl
theorem to9 : tyOf Tryd.prog 9 = some (1, 16, some (str ([] : List UInt8))) := by kernel_rfl
theorem sz21 : szOf Tryd.prog 21 = some 1 := by kernel_rfl
theorem sz22 : szOf Tryd.prog 22 = some 1 := by kernel_rfl
theorem sz27 : szOf Tryd.prog 27 = some 1 := by kernel_rfl
theorem sz44 : szOf Tryd.prog 44 = some 1 := by kernel_rfl
theorem sz52 : szOf Tryd.prog 52 = some 1 := by kernel_rfl
theorem to52 : tyOf Tryd.prog 52 = some (1, 24, some (Value.slice none 0 0)) := by kernel_rfl
theorem sz56 : szOf Tryd.prog 56 = some 1 := by kernel_rfl
theorem to56 : tyOf Tryd.prog 56 = some (1, 24, some (Value.slice none 0 0)) := by kernel_rfl
theorem sz74 : szOf Tryd.prog 74 = some 1 := by kernel_rfl
theorem sz79 : szOf Tryd.prog 79 = some 1 := by kernel_rfl
theorem sz81 : szOf Tryd.prog 81 = some 2 := by kernel_rfl
theorem to81 : tyOf Tryd.prog 81 = some (2, 32, some (ag [(bool false), (Value.slice none 0 0)])) := by kernel_rfl
theorem sz92 : szOf Tryd.prog 92 = some 2 := by kernel_rfl
theorem to92 : tyOf Tryd.prog 92 = some (2, 16, some (ag [(bool false), Value.nilFunc])) := by kernel_rfl
theorem sz119 : szOf Tryd.prog 119 = some 1 := by kernel_rfl
theorem to119 : tyOf Tryd.prog 119 = some (1, 24, some (Value.slice none 0 0)) := by kernel_rfl
theorem sz125 : szOf Tryd.prog 125 = some 2 := by kernel_rfl
theorem to125 : tyOf Tryd.prog 125 = some (2, 8, some (ag [(int .i32 (0 : Int)), (int .i32 (0 : Int))])) := by kernel_rfl
theorem sz126 : szOf Tryd.prog 126 = some 1 := by kernel_rfl
theorem sz128 : szOf Tryd.prog 128 = some 3 := by kernel_rfl
theorem to128 : tyOf Tryd.prog 128 = some (3, 40, some (ag [(int .i64 (0 : Int)), (Value.slice none 0 0), (bool false)])) := by kernel_rfl
theorem mixed : Tryd.prog.follows .mixedOrders = true := by kernel_rfl
def f_lumref_char_L20 (a0 : (List UInt8)) (j4i5 : Int) (kk8 : (Int → Option (Int × Int))) : Nat → Int → Int → Option (Int × Int)
  | 0, _, _ => none
  | k19 + 1, l18i4, l18i53 => (bif (decide (l18i53 < ((cut a0 (1 : Int) j4i5).length : Int))) then (opt (at? (cut a0 (1 : Int) j4i5) l18i53) fun (u22 : UInt8) => (lt (fun (j25b62 : Bool) => (bif j25b62 then (some ((0 : Int), (0 : Int))) else (f_lumref_char_L20 a0 j4i5 kk8 k19 (IntKind.i64.wrap ((IntKind.i64.wrap ((IntKind.i64.wrap ((64 : Int) * l18i4)) + (IntKind.i64.wrap (u22.toNat : Int)))) - (128 : Int))) (IntKind.i64.wrap (l18i53 + (1 : Int)))))) fun (kk26 : Bool → Option (Int × Int)) => (bif (decide ((u22.toNat : Int) < (128 : Int))) then (kk26 true) else (kk26 (decide ((u22.toNat : Int) > (191 : Int))))))) else (kk8 l18i4))
def f_lumref_char (fu : Nat) (a0 : (List UInt8)) : Option (Int × Int) := (bif (a0 == ([] : List UInt8)) then (some ((0 : Int), (0 : Int))) else (req (0 ≤ (0 : Int) ∧ (0 : Int) < (a0.length : Int)) (bif (decide ((IntKind.i64.wrap (En.bAt a0 (0 : Int))) < (128 : Int))) then (some ((IntKind.i64.wrap (En.bAt a0 (0 : Int))), (1 : Int))) else (lt (fun (j4i4 : Int) (j4i5 : Int) (j4i6 : Int) => (bif (decide ((a0.length : Int) < j4i5)) then (some ((0 : Int), (0 : Int))) else (lt (fun (j7i4 : Int) => (lt (fun (j9b84 : Bool) => (bif j9b84 then (some ((0 : Int), (0 : Int))) else (some (j7i4, j4i5)))) fun (kk10 : Bool → Option (Int × Int)) => (bif (decide (j7i4 < j4i6)) then (kk10 true) else (bif (decide (j7i4 > (1114111 : Int))) then (kk10 true) else (bif (decide (j7i4 ≥ (55296 : Int))) then (kk10 (decide (j7i4 < (57344 : Int)))) else (kk10 false)))))) fun (kk8 : Int → Option (Int × Int)) => (req (0 ≤ (1 : Int) ∧ (1 : Int) ≤ j4i5 ∧ j4i5 ≤ (a0.length : Int)) (req ((cut a0 (1 : Int) j4i5).length ≤ 9223372036854775807) (f_lumref_char_L20 a0 j4i5 kk8 fu j4i4 (0 : Int))))))) fun (kk5 : Int → Int → Int → Option (Int × Int)) => (lt (fun (j29b17 : Bool) => (bif j29b17 then (kk5 (IntKind.i64.wrap ((IntKind.i64.wrap (En.bAt a0 (0 : Int))) - (192 : Int))) (2 : Int) (128 : Int)) else (lt (fun (j32b26 : Bool) => (bif j32b26 then (kk5 (IntKind.i64.wrap ((IntKind.i64.wrap (En.bAt a0 (0 : Int))) - (224 : Int))) (3 : Int) (2048 : Int)) else (lt (fun (j35b35 : Bool) => (bif j35b35 then (kk5 (IntKind.i64.wrap ((IntKind.i64.wrap (En.bAt a0 (0 : Int))) - (240 : Int))) (4 : Int) (65536 : Int)) else (some ((0 : Int), (0 : Int))))) fun (kk36 : Bool → Option (Int × Int)) => (bif (decide ((IntKind.i64.wrap (En.bAt a0 (0 : Int))) ≥ (240 : Int))) then (kk36 (decide ((IntKind.i64.wrap (En.bAt a0 (0 : Int))) < (245 : Int)))) else (kk36 false))))) fun (kk33 : Bool → Option (Int × Int)) => (bif (decide ((IntKind.i64.wrap (En.bAt a0 (0 : Int))) ≥ (224 : Int))) then (kk33 (decide ((IntKind.i64.wrap (En.bAt a0 (0 : Int))) < (240 : Int)))) else (kk33 false))))) fun (kk30 : Bool → Option (Int × Int)) => (bif (decide ((IntKind.i64.wrap (En.bAt a0 (0 : Int))) ≥ (194 : Int))) then (kk30 (decide ((IntKind.i64.wrap (En.bAt a0 (0 : Int))) < (224 : Int)))) else (kk30 false)))))))
set_option maxRecDepth 100000 in
set_option maxHeartbeats 2000000 in
set_option maxHeartbeats 2000000 in
theorem f_lumref_char_ok (fu : Nat) (a0 : (List UInt8)) {r : (Int × Int)} (h : f_lumref_char fu a0 = some r) : FnOk Tryd.prog 51 [(str a0)] [] [] (fun (i : Unit) => { val := (Value.tuple #[(int .i64 r.1), (int .i64 r.2)]) }) := by
 unfold f_lumref_char at h
 refine fn_enter Tryd.func51 rfl Tryd.ntmps51 rfl (fun w0 Z0 => ?_)
 refine aw_sr ?_
 refine al_as rfl rfl ?_
 refine al_as rfl rfl ?_
 refine al_nt ?_
 refine aw_seq ?_
 refine aw_sr ?_
 refine al_mv rfl rfl ?_
 refine al_val (ov_strCmp rfl rfl rfl rfl) ?_
 refine al_nt ?_
 refine aw_cond rfl (fun hb1 => ?_) (fun hb1 => ?_)
 ·replace h := bif_t hb1 h
  refine aw_sr ?_
  refine al_as rfl rfl ?_
  refine al_as rfl rfl ?_
  refine al_nt ?_
  refine aw_ret ?_
  refine aq_then_ret ?_
  obtain rfl := Option.some.inj h
  exact fn_ret () [] [] rfl rfl rfl rfl (res2 rfl rfl rfl) rfl rfl rfl (by decide)
 ·replace h := bif_f hb1 h
  refine aw_skip ?_
  refine aq_tr ?_
  refine al_mv rfl rfl ?_
  obtain ⟨hc2, h⟩ := req_some h
  refine al_val (ov_strIdx hc2.1 hc2.2 Tryd.underlying9 rfl rfl rfl) ?_
  refine al_val (ov_convInt (by rw [Tryd.underlying5]; rfl) Tryd.underlying3 rfl rfl) ?_
  refine al_as rfl rfl ?_
  refine al_nt ?_
  refine aw_seq ?_
  refine aw_sr ?_
  refine al_mv rfl rfl ?_
  refine al_in rfl rfl rfl rfl ?_
  refine al_nt ?_
  refine aw_cond rfl (fun hb3 => ?_) (fun hb3 => ?_)
  ·replace h := bif_t hb3 h
   refine aw_sr ?_
   refine al_mv rfl rfl ?_
   refine al_as rfl rfl ?_
   refine al_as rfl rfl ?_
   refine al_nt ?_
   refine aw_ret ?_
   refine aq_then_ret ?_
   obtain rfl := Option.some.inj h
   exact fn_ret () [] [] rfl rfl rfl rfl (res2 rfl rfl rfl) rfl rfl rfl (by decide)
  ·replace h := bif_f hb3 h
   refine aw_skip ?_
   refine aq_tr ?_
   refine al_as rfl rfl ?_
   refine al_as rfl rfl ?_
   refine al_nt ?_
   obtain ⟨kk5, hkk5, h⟩ := lt_some h
   refine aw_seq_join (ι := Int × Int × Int) (fun i => (memOf w0 Z0 [] [] [])) (fun i => (tab [(0, (str a0)), (4, (iq i.1)), (5, (iq i.2.1)), (6, (iq i.2.2))])) (fun i => kk5 i.1 i.2.1 i.2.2 = some r) ?_ ?_
   ·rintro ⟨j4i4, j4i5, j4i6⟩ h
    have h : kk5 j4i4 j4i5 j4i6 = some r := h
    rw [hkk5] at h
    dsimp only at h
    clear hkk5
    refine aw_show (m := (memOf w0 Z0 [] [] [])) (S := (tab [(0, (str a0)), (4, (iq j4i4)), (5, (iq j4i5)), (6, (iq j4i6))])) ?_
    refine aw_seq ?_
    refine aw_sr ?_
    refine al_mv rfl rfl ?_
    refine al_val (ov_strLen Tryd.underlying9 rfl rfl) ?_
    refine al_mv rfl rfl ?_
    refine al_in rfl rfl rfl rfl ?_
    refine al_nt ?_
    refine aw_cond rfl (fun hb6 => ?_) (fun hb6 => ?_)
    ·replace h := bif_t hb6 h
     refine aw_sr ?_
     refine al_as rfl rfl ?_
     refine al_as rfl rfl ?_
     refine al_nt ?_
     refine aw_ret ?_
     refine aq_then_ret ?_
     obtain rfl := Option.some.inj h
     exact fn_ret () [] [] rfl rfl rfl rfl (res2 rfl rfl rfl) rfl rfl rfl (by decide)
    ·replace h := bif_f hb6 h
     refine aw_skip ?_
     refine aq_then ?_
     obtain ⟨kk8, hkk8, h⟩ := lt_some h
     refine aw_seq_join (ι := Int) (fun i => (memOf w0 Z0 [] [] [])) (fun i => (tab [(4, (iq i)), (5, (iq j4i5)), (6, (iq j4i6))])) (fun i => kk8 i = some r) ?_ ?_
     ·rintro j7i4 h
      have h : kk8 j7i4 = some r := h
      rw [hkk8] at h
      dsimp only at h
      clear hkk8
      refine aw_show (m := (memOf w0 Z0 [] [] [])) (S := (tab [(4, (iq j7i4)), (5, (iq j4i5)), (6, (iq j4i6))])) ?_
      refine aw_seq ?_
      obtain ⟨kk10, hkk10, h⟩ := lt_some h
      refine aw_seq_join (ι := Bool) (fun i => (memOf w0 Z0 [] [] [])) (fun i => (tab [(4, (iq j7i4)), (5, (iq j4i5)), (84, (bool i))])) (fun i => kk10 i = some r) ?_ ?_
      ·rintro j9b84 h
       have h : kk10 j9b84 = some r := h
       rw [hkk10] at h
       dsimp only at h
       clear hkk10
       refine aw_show (m := (memOf w0 Z0 [] [] [])) (S := (tab [(4, (iq j7i4)), (5, (iq j4i5)), (84, (bool j9b84))])) ?_
       refine aw_cond rfl (fun hb11 => ?_) (fun hb11 => ?_)
       ·replace h := bif_t hb11 h
        refine aw_sr ?_
        refine al_as rfl rfl ?_
        refine al_as rfl rfl ?_
        refine al_nt ?_
        refine aw_ret ?_
        refine aq_then_ret ?_
        obtain rfl := Option.some.inj h
        exact fn_ret () [] [] rfl rfl rfl rfl (res2 rfl rfl rfl) rfl rfl rfl (by decide)
       ·replace h := bif_f hb11 h
        refine aw_skip ?_
        refine aq_tr ?_
        refine al_mv rfl rfl ?_
        refine al_mv rfl rfl ?_
        refine al_as rfl rfl ?_
        refine al_as rfl rfl ?_
        refine al_nt ?_
        refine aw_ret ?_
        obtain rfl := Option.some.inj h
        exact fn_ret () [] [] rfl rfl rfl rfl (res2 rfl rfl rfl) rfl rfl rfl (by decide)
      ·clear hkk10
       refine aw_region ?_
       refine al_mv rfl rfl ?_
       refine al_mv rfl rfl ?_
       refine al_in rfl rfl rfl rfl ?_
       refine al_mv rfl rfl ?_
       refine al_caseB 73 rfl (fun hb12 => ?_) (fun hb12 => ?_)
       ·replace h := bif_t hb12 h
        refine al_skip ?_
        refine al_skip ?_
        refine al_val (ov_pick_t rfl rfl rfl) ?_
        refine al_mv rfl rfl ?_
        refine al_skip ?_
        refine al_skip ?_
        refine al_skip ?_
        refine al_skip ?_
        refine al_skip ?_
        refine al_skip ?_
        refine al_val (ov_pick_t rfl rfl rfl) ?_
        refine al_nil ?_
        exact aq_join true h (fun w a hm hs => norm hm hs [] [] [(4, (iq j7i4)), (5, (iq j4i5)), (84, (bool true))] (by decide) ⟨rfl, rfl, rfl, trivial⟩)
       ·replace h := bif_f hb12 h
        refine al_mv rfl rfl ?_
        refine al_in rfl rfl rfl rfl ?_
        refine al_val (ov_pick_f rfl rfl rfl) ?_
        refine al_mv rfl rfl ?_
        refine al_caseB 77 rfl (fun hb13 => ?_) (fun hb13 => ?_)
        ·replace h := bif_t hb13 h
         refine al_skip ?_
         refine al_skip ?_
         refine al_skip ?_
         refine al_skip ?_
         refine al_skip ?_
         refine al_skip ?_
         refine al_val (ov_pick_t rfl rfl rfl) ?_
         refine al_nil ?_
         exact aq_join true h (fun w a hm hs => norm hm hs [] [] [(4, (iq j7i4)), (5, (iq j4i5)), (84, (bool true))] (by decide) ⟨rfl, rfl, rfl, trivial⟩)
        ·replace h := bif_f hb13 h
         refine al_mv rfl rfl ?_
         refine al_in rfl rfl rfl rfl ?_
         refine al_mv rfl rfl ?_
         refine al_caseB 80 rfl (fun hb14 => ?_) (fun hb14 => ?_)
         ·replace h := bif_t hb14 h
          refine al_mv rfl rfl ?_
          refine al_in rfl rfl rfl rfl ?_
          refine al_val (ov_pick_t rfl rfl rfl) ?_
          refine al_val (ov_pick_f rfl rfl rfl) ?_
          refine al_nil ?_
          exact aq_join (decide (j7i4 < (57344 : Int))) h (fun w a hm hs => norm hm hs [] [] [(4, (iq j7i4)), (5, (iq j4i5)), (84, (bool (decide (j7i4 < (57344 : Int)))))] (by decide) ⟨rfl, rfl, rfl, trivial⟩)
         ·replace h := bif_f hb14 h
          refine al_skip ?_
          refine al_skip ?_
          refine al_val (ov_pick_f rfl rfl rfl) ?_
          refine al_val (ov_pick_f rfl rfl rfl) ?_
          refine al_nil ?_
          exact aq_join false h (fun w a hm hs => norm hm hs [] [] [(4, (iq j7i4)), (5, (iq j4i5)), (84, (bool false))] (by decide) ⟨rfl, rfl, rfl, trivial⟩)
     ·clear hkk8
      refine aw_sr ?_
      refine al_mv rfl rfl ?_
      refine al_mv rfl rfl ?_
      obtain ⟨hc15, h⟩ := req_some h
      refine al_val (ov_strCut hc15.1 hc15.2.1 hc15.2.2 Tryd.underlying9 rfl rfl rfl rfl) ?_
      obtain ⟨hc16, h⟩ := req_some h
      refine al_bytes hc16 rfl Tryd.underlying9 Tryd.underlying60 Tryd.underlying5 rfl (fun s17 => ?_)
      refine al_val (ov_lenD 0 rfl rfl Tryd.underlying60 rfl) ?_
      refine al_mv rfl rfl ?_
      refine al_nt ?_
      refine aw_block ?_
      refine aw_state (aw_loop (ι := Int × Int) (fun i => (memOf w0 Z0 [] [] [(fDat (tyList tyU8) [s17] (cut a0 (1 : Int) j4i5))])) (fun i => (tab [(4, (iq i.1)), (5, (iq j4i5)), (6, (iq j4i6)), (51, s17), (52, (iq ((cut a0 (1 : Int) j4i5).length : Int))), (53, (iq i.2))])) (fun q i => f_lumref_char_L20 a0 j4i5 kk8 q i.1 i.2 = some r) ?_ fu (j4i4, (0 : Int)) h) (fun w a hm hs => norm hm hs [] [0] [(4, (iq j4i4)), (5, (iq j4i5)), (6, (iq j4i6)), (51, s17), (52, (iq ((cut a0 (1 : Int) j4i5).length : Int))), (53, (iq (0 : Int)))] (by decide) ⟨rfl, rfl, rfl, rfl, rfl, rfl, trivial⟩)
      clear h
      rintro k19 ⟨l18i4, l18i53⟩ h
      have h : f_lumref_char_L20 a0 j4i5 kk8 k19 l18i4 l18i53 = some r := h
      obtain _ | k19 := k19
      · rw [f_lumref_char_L20] at h; cases h
      rw [f_lumref_char_L20] at h
      refine aw_show (m := (memOf w0 Z0 [] [] [(fDat (tyList tyU8) [s17] (cut a0 (1 : Int) j4i5))])) (S := (tab [(4, (iq l18i4)), (5, (iq j4i5)), (6, (iq j4i6)), (51, s17), (52, (iq ((cut a0 (1 : Int) j4i5).length : Int))), (53, (iq l18i53))])) ?_
      refine aw_sr ?_
      refine al_in rfl rfl rfl rfl ?_
      refine al_nt ?_
      refine aw_seq ?_
      refine aw_cond rfl (fun hb21 => ?_) (fun hb21 => ?_)
      ·replace h := bif_t hb21 h
       refine aw_skip ?_
       refine aq_then ?_
       refine aw_seq ?_
       refine aw_block ?_
       refine aw_sr ?_
       obtain ⟨u22, hu23, h⟩ := opt_some h
       refine al_idxD 0 hu23 rfl rfl rfl Tryd.underlying60 sz5 rfl (fun p24 => ?_)
       refine al_val (ov_loadP (ds := [(i8 (u22.toNat : Int))]) 0 rfl (fun h => h) rfl Tryd.underlying5 sz5 rfl rfl rfl) ?_
       refine al_as rfl rfl ?_
       refine al_nt ?_
       refine aw_seq ?_
       obtain ⟨kk26, hkk26, h⟩ := lt_some h
       refine aw_seq_join (ι := Bool) (fun i => (memOf w0 Z0 [] [] [(fDat (tyList tyU8) [s17] (cut a0 (1 : Int) j4i5)), (fPtr tyU8 p24 u22)])) (fun i => (tab [(4, (iq l18i4)), (5, (iq j4i5)), (6, (iq j4i6)), (8, (i8 (u22.toNat : Int))), (51, s17), (52, (iq ((cut a0 (1 : Int) j4i5).length : Int))), (53, (iq l18i53)), (62, (bool i))])) (fun i => kk26 i = some r) ?_ ?_
       ·rintro j25b62 h
        have h : kk26 j25b62 = some r := h
        rw [hkk26] at h
        dsimp only at h
        clear hkk26
        refine aw_show (m := (memOf w0 Z0 [] [] [(fDat (tyList tyU8) [s17] (cut a0 (1 : Int) j4i5)), (fPtr tyU8 p24 u22)])) (S := (tab [(4, (iq l18i4)), (5, (iq j4i5)), (6, (iq j4i6)), (8, (i8 (u22.toNat : Int))), (51, s17), (52, (iq ((cut a0 (1 : Int) j4i5).length : Int))), (53, (iq l18i53)), (62, (bool j25b62))])) ?_
        refine aw_cond rfl (fun hb27 => ?_) (fun hb27 => ?_)
        ·replace h := bif_t hb27 h
         refine aw_sr ?_
         refine al_as rfl rfl ?_
         refine al_as rfl rfl ?_
         refine al_nt ?_
         refine aw_ret ?_
         refine aq_then_ret ?_
         refine aq_block_ret ?_
         refine aq_then_ret ?_
         refine aq_then_ret ?_
         refine aq_block_ret ?_
         refine aq_then_ret ?_
         obtain rfl := Option.some.inj h
         exact fn_ret () [] [] rfl rfl rfl rfl (res2 rfl rfl rfl) rfl rfl rfl (by decide)
        ·replace h := bif_f hb27 h
         refine aw_skip ?_
         refine aq_then ?_
         refine aw_region ?_
         refine al_mv rfl rfl ?_
         refine al_in rfl rfl rfl rfl ?_
         refine al_mv rfl rfl ?_
         refine al_val (ov_convInt (by rw [Tryd.underlying5]; rfl) Tryd.underlying3 rfl rfl) ?_
         refine al_in rfl rfl rfl rfl ?_
         refine al_in rfl rfl rfl rfl ?_
         refine al_as rfl rfl ?_
         refine al_nil ?_
         refine aq_block ?_
         refine aq_then ?_
         refine aw_region ?_
         refine al_in rfl rfl rfl rfl ?_
         refine al_mv rfl rfl ?_
         refine al_nil ?_
         exact aq_again k19 ((wq ((wq ((wq ((64 : Int) * l18i4)) + (wq (u22.toNat : Int)))) - (128 : Int))), (wq (l18i53 + (1 : Int)))) (Nat.lt_succ_self _) h (fun w a hm hs => norm hm hs [] [0] [(4, (iq (wq ((wq ((wq ((64 : Int) * l18i4)) + (wq (u22.toNat : Int)))) - (128 : Int))))), (5, (iq j4i5)), (6, (iq j4i6)), (51, s17), (52, (iq ((cut a0 (1 : Int) j4i5).length : Int))), (53, (iq (wq (l18i53 + (1 : Int)))))] (by decide) ⟨rfl, rfl, rfl, rfl, rfl, rfl, trivial⟩)
       ·clear hkk26
        refine aw_region ?_
        refine al_mv rfl rfl ?_
        refine al_in rfl rfl rfl rfl ?_
        refine al_mv rfl rfl ?_
        refine al_caseB 59 rfl (fun hb28 => ?_) (fun hb28 => ?_)
        ·replace h := bif_t hb28 h
         refine al_skip ?_
         refine al_skip ?_
         refine al_val (ov_pick_t rfl rfl rfl) ?_
         refine al_nil ?_
         exact aq_join true h (fun w a hm hs => norm hm hs [] [1, 0] [(4, (iq l18i4)), (5, (iq j4i5)), (6, (iq j4i6)), (8, (i8 (u22.toNat : Int))), (51, s17), (52, (iq ((cut a0 (1 : Int) j4i5).length : Int))), (53, (iq l18i53)), (62, (bool true))] (by decide) ⟨rfl, rfl, rfl, rfl, rfl, rfl, rfl, rfl, trivial⟩)
        ·replace h := bif_f hb28 h
         refine al_mv rfl rfl ?_
         refine al_in rfl rfl rfl rfl ?_
         refine al_val (ov_pick_f rfl rfl rfl) ?_
         refine al_nil ?_
         exact aq_join (decide ((u22.toNat : Int) > (191 : Int))) h (fun w a hm hs => norm hm hs [] [1, 0] [(4, (iq l18i4)), (5, (iq j4i5)), (6, (iq j4i6)), (8, (i8 (u22.toNat : Int))), (51, s17), (52, (iq ((cut a0 (1 : Int) j4i5).length : Int))), (53, (iq l18i53)), (62, (bool (decide ((u22.toNat : Int) > (191 : Int)))))] (by decide) ⟨rfl, rfl, rfl, rfl, rfl, rfl, rfl, rfl, trivial⟩)
      ·replace h := bif_f hb21 h
       refine aw_exit ?_
       refine aq_then_exit ?_
       refine aq_then_exit ?_
       refine aq_block_exit ?_
       exact aq_join l18i4 h (fun w a hm hs => norm hm hs [] [] [(4, (iq l18i4)), (5, (iq j4i5)), (6, (iq j4i6))] (by decide) ⟨rfl, rfl, rfl, trivial⟩)
   ·clear hkk5
    refine aw_block ?_
    obtain ⟨kk30, hkk30, h⟩ := lt_some h
    refine aw_seq_join (ι := Bool) (fun i => (memOf w0 Z0 [] [] [])) (fun i => (tab [(0, (str a0)), (4, (iq (wq (En.bAt a0 (0 : Int))))), (17, (bool i))])) (fun i => kk30 i = some r) ?_ ?_
    ·rintro j29b17 h
     have h : kk30 j29b17 = some r := h
     rw [hkk30] at h
     dsimp only at h
     clear hkk30
     refine aw_show (m := (memOf w0 Z0 [] [] [])) (S := (tab [(0, (str a0)), (4, (iq (wq (En.bAt a0 (0 : Int))))), (17, (bool j29b17))])) ?_
     refine aw_cond rfl (fun hb31 => ?_) (fun hb31 => ?_)
     ·replace h := bif_t hb31 h
      refine aw_region ?_
      refine al_mv rfl rfl ?_
      refine al_in rfl rfl rfl rfl ?_
      refine al_as rfl rfl ?_
      refine al_as rfl rfl ?_
      refine al_as rfl rfl ?_
      refine al_nil ?_
      refine aq_block ?_
      exact aq_join ((wq ((wq (En.bAt a0 (0 : Int))) - (192 : Int))), (2 : Int), (128 : Int)) h (fun w a hm hs => norm hm hs [] [] [(0, (str a0)), (4, (iq (wq ((wq (En.bAt a0 (0 : Int))) - (192 : Int))))), (5, (iq (2 : Int))), (6, (iq (128 : Int)))] (by decide) ⟨rfl, rfl, rfl, rfl, trivial⟩)
     ·replace h := bif_f hb31 h
      obtain ⟨kk33, hkk33, h⟩ := lt_some h
      refine aw_seq_join (ι := Bool) (fun i => (memOf w0 Z0 [] [] [])) (fun i => (tab [(0, (str a0)), (4, (iq (wq (En.bAt a0 (0 : Int))))), (26, (bool i))])) (fun i => kk33 i = some r) ?_ ?_
      ·rintro j32b26 h
       have h : kk33 j32b26 = some r := h
       rw [hkk33] at h
       dsimp only at h
       clear hkk33
       refine aw_show (m := (memOf w0 Z0 [] [] [])) (S := (tab [(0, (str a0)), (4, (iq (wq (En.bAt a0 (0 : Int))))), (26, (bool j32b26))])) ?_
       refine aw_cond rfl (fun hb34 => ?_) (fun hb34 => ?_)
       ·replace h := bif_t hb34 h
        refine aw_region ?_
        refine al_mv rfl rfl ?_
        refine al_in rfl rfl rfl rfl ?_
        refine al_as rfl rfl ?_
        refine al_as rfl rfl ?_
        refine al_as rfl rfl ?_
        refine al_nil ?_
        refine aq_block ?_
        exact aq_join ((wq ((wq (En.bAt a0 (0 : Int))) - (224 : Int))), (3 : Int), (2048 : Int)) h (fun w a hm hs => norm hm hs [] [] [(0, (str a0)), (4, (iq (wq ((wq (En.bAt a0 (0 : Int))) - (224 : Int))))), (5, (iq (3 : Int))), (6, (iq (2048 : Int)))] (by decide) ⟨rfl, rfl, rfl, rfl, trivial⟩)
       ·replace h := bif_f hb34 h
        obtain ⟨kk36, hkk36, h⟩ := lt_some h
        refine aw_seq_join (ι := Bool) (fun i => (memOf w0 Z0 [] [] [])) (fun i => (tab [(0, (str a0)), (4, (iq (wq (En.bAt a0 (0 : Int))))), (35, (bool i))])) (fun i => kk36 i = some r) ?_ ?_
        ·rintro j35b35 h
         have h : kk36 j35b35 = some r := h
         rw [hkk36] at h
         dsimp only at h
         clear hkk36
         refine aw_show (m := (memOf w0 Z0 [] [] [])) (S := (tab [(0, (str a0)), (4, (iq (wq (En.bAt a0 (0 : Int))))), (35, (bool j35b35))])) ?_
         refine aw_cond rfl (fun hb37 => ?_) (fun hb37 => ?_)
         ·replace h := bif_t hb37 h
          refine aw_region ?_
          refine al_mv rfl rfl ?_
          refine al_in rfl rfl rfl rfl ?_
          refine al_as rfl rfl ?_
          refine al_as rfl rfl ?_
          refine al_as rfl rfl ?_
          refine al_nil ?_
          refine aq_block ?_
          exact aq_join ((wq ((wq (En.bAt a0 (0 : Int))) - (240 : Int))), (4 : Int), (65536 : Int)) h (fun w a hm hs => norm hm hs [] [] [(0, (str a0)), (4, (iq (wq ((wq (En.bAt a0 (0 : Int))) - (240 : Int))))), (5, (iq (4 : Int))), (6, (iq (65536 : Int)))] (by decide) ⟨rfl, rfl, rfl, rfl, trivial⟩)
         ·replace h := bif_f hb37 h
          refine aw_sr ?_
          refine al_as rfl rfl ?_
          refine al_as rfl rfl ?_
          refine al_nt ?_
          refine aw_ret ?_
          refine aq_block_ret ?_
          refine aq_then_ret ?_
          obtain rfl := Option.some.inj h
          exact fn_ret () [] [] rfl rfl rfl rfl (res2 rfl rfl rfl) rfl rfl rfl (by decide)
        ·clear hkk36
         refine aw_region ?_
         refine al_mv rfl rfl ?_
         refine al_in rfl rfl rfl rfl ?_
         refine al_mv rfl rfl ?_
         refine al_caseB 38 rfl (fun hb38 => ?_) (fun hb38 => ?_)
         ·replace h := bif_t hb38 h
          refine al_mv rfl rfl ?_
          refine al_in rfl rfl rfl rfl ?_
          refine al_val (ov_pick_t rfl rfl rfl) ?_
          refine al_as rfl rfl ?_
          refine al_nil ?_
          exact aq_join (decide ((wq (En.bAt a0 (0 : Int))) < (245 : Int))) h (fun w a hm hs => norm hm hs [] [] [(0, (str a0)), (4, (iq (wq (En.bAt a0 (0 : Int))))), (35, (bool (decide ((wq (En.bAt a0 (0 : Int))) < (245 : Int)))))] (by decide) ⟨rfl, rfl, rfl, trivial⟩)
         ·replace h := bif_f hb38 h
          refine al_skip ?_
          refine al_skip ?_
          refine al_val (ov_pick_f rfl rfl rfl) ?_
          refine al_as rfl rfl ?_
          refine al_nil ?_
          exact aq_join false h (fun w a hm hs => norm hm hs [] [] [(0, (str a0)), (4, (iq (wq (En.bAt a0 (0 : Int))))), (35, (bool false))] (by decide) ⟨rfl, rfl, rfl, trivial⟩)
      ·clear hkk33
       refine aw_region ?_
       refine al_mv rfl rfl ?_
       refine al_in rfl rfl rfl rfl ?_
       refine al_mv rfl rfl ?_
       refine al_caseB 29 rfl (fun hb39 => ?_) (fun hb39 => ?_)
       ·replace h := bif_t hb39 h
        refine al_mv rfl rfl ?_
        refine al_in rfl rfl rfl rfl ?_
        refine al_val (ov_pick_t rfl rfl rfl) ?_
        refine al_as rfl rfl ?_
        refine al_nil ?_
        exact aq_join (decide ((wq (En.bAt a0 (0 : Int))) < (240 : Int))) h (fun w a hm hs => norm hm hs [] [] [(0, (str a0)), (4, (iq (wq (En.bAt a0 (0 : Int))))), (26, (bool (decide ((wq (En.bAt a0 (0 : Int))) < (240 : Int)))))] (by decide) ⟨rfl, rfl, rfl, trivial⟩)
       ·replace h := bif_f hb39 h
        refine al_skip ?_
        refine al_skip ?_
        refine al_val (ov_pick_f rfl rfl rfl) ?_
        refine al_as rfl rfl ?_
        refine al_nil ?_
        exact aq_join false h (fun w a hm hs => norm hm hs [] [] [(0, (str a0)), (4, (iq (wq (En.bAt a0 (0 : Int))))), (26, (bool false))] (by decide) ⟨rfl, rfl, rfl, trivial⟩)
    ·clear hkk30
     refine aw_region ?_
     refine al_mv rfl rfl ?_
     refine al_in rfl rfl rfl rfl ?_
     refine al_mv rfl rfl ?_
     refine al_caseB 20 rfl (fun hb40 => ?_) (fun hb40 => ?_)
     ·replace h := bif_t hb40 h
      refine al_mv rfl rfl ?_
      refine al_in rfl rfl rfl rfl ?_
      refine al_val (ov_pick_t rfl rfl rfl) ?_
      refine al_as rfl rfl ?_
      refine al_nil ?_
      exact aq_join (decide ((wq (En.bAt a0 (0 : Int))) < (224 : Int))) h (fun w a hm hs => norm hm hs [] [] [(0, (str a0)), (4, (iq (wq (En.bAt a0 (0 : Int))))), (17, (bool (decide ((wq (En.bAt a0 (0 : Int))) < (224 : Int)))))] (by decide) ⟨rfl, rfl, rfl, trivial⟩)
     ·replace h := bif_f hb40 h
      refine al_skip ?_
      refine al_skip ?_
      refine al_val (ov_pick_f rfl rfl rfl) ?_
      refine al_as rfl rfl ?_
      refine al_nil ?_
      exact aq_join false h (fun w a hm hs => norm hm hs [] [] [(0, (str a0)), (4, (iq (wq (En.bAt a0 (0 : Int))))), (17, (bool false))] (by decide) ⟨rfl, rfl, rfl, trivial⟩)
def f_lumref_Chars_L5 (kk2 : ((List Int) → Option ((List Int) × Bool))) (fu : Nat) : Nat → (List UInt8) → (List Int) → Option ((List Int) × Bool)
  | 0, _, _ => none
  | k4 + 1, l3s0, l3x4 => (bif (!(l3s0 == ([] : List UInt8))) then (opt (f_lumref_char fu l3s0) fun (r8 : (Int × Int)) => (bif (r8.2 == (0 : Int)) then (some (([] : List Int), false)) else (req (((l3x4.length + ([r8.1]).length) * 8 : Nat) ≤ 140737488355328 ∧ l3x4.length + ([r8.1]).length ≤ 9223372036854775807) (req (0 ≤ r8.2 ∧ r8.2 ≤ (l3s0.length : Int)) (f_lumref_Chars_L5 kk2 fu k4 (l3s0.drop (r8.2).toNat) (l3x4 ++ ([r8.1]))))))) else (kk2 l3x4))
def f_lumref_Chars (fu : Nat) (a0 : (List UInt8)) : Option ((List Int) × Bool) := (lt (fun (j1x4 : (List Int)) => (some (j1x4, true))) fun (kk2 : (List Int) → Option ((List Int) × Bool)) => (f_lumref_Chars_L5 kk2 fu fu a0 ([] : List Int)))
set_option maxHeartbeats 2000000 in
set_option maxRecDepth 100000 in
theorem f_lumref_Chars_ok (fu : Nat) (a0 : (List UInt8)) {r : ((List Int) × Bool)} (h : f_lumref_Chars fu a0 = some r) : FnOk Tryd.prog 25 [(str a0)] [] [] (fun (i : Value) => { val := (Value.tuple #[i, (bool r.2)]), own := [(oRow i 3 (tyInt .i64) r.1)] }) := by
 unfold f_lumref_Chars at h
 refine fn_enter Tryd.func25 rfl Tryd.ntmps25 rfl (fun w0 Z0 => ?_)
 refine aw_sr ?_
 refine al_as rfl rfl ?_
 refine al_as rfl rfl ?_
 refine al_nt ?_
 refine aw_sr ?_
 refine al_as rfl rfl ?_
 refine al_nt ?_
 obtain ⟨kk2, hkk2, h⟩ := lt_some h
 refine aw_seq_join (ι := Value × (List Int)) (fun i => (memOf w0 Z0 [] [(oRow i.1 3 tq i.2)] [])) (fun i => (tab [(4, i.1)])) (fun i => kk2 i.2 = some r) ?_ ?_
 ·rintro ⟨j1v4, j1x4⟩ h
  have h : kk2 j1x4 = some r := h
  rw [hkk2] at h
  dsimp only at h
  clear hkk2
  refine aw_show (m := (memOf w0 Z0 [] [(oRow j1v4 3 tq j1x4)] [])) (S := (tab [(4, j1v4)])) ?_
  refine aw_sr ?_
  refine al_mv rfl rfl ?_
  refine al_as rfl rfl ?_
  refine al_as rfl rfl ?_
  refine al_nt ?_
  refine aw_ret ?_
  obtain rfl := Option.some.inj h
  exact fn_ret j1v4 [0] [] rfl rfl rfl rfl (res2 rfl rfl rfl) rfl rfl rfl (by decide)
 ·clear hkk2
  refine aw_block ?_
  refine aw_nilR 3 tq ?_
  refine aw_state (aw_loop (ι := (List UInt8) × Value × (List Int)) (fun i => (memOf w0 Z0 [] [(oRow i.2.1 3 tq i.2.2)] [])) (fun i => (tab [(0, (str i.1)), (4, i.2.1)])) (fun q i => f_lumref_Chars_L5 kk2 fu q i.1 i.2.2 = some r) ?_ fu (a0, nS, ([] : List Int)) h) (fun w a hm hs => norm hm hs [0] [] [(0, (str a0)), (4, nS)] (by decide) ⟨rfl, rfl, trivial⟩)
  clear h
  rintro k4 ⟨l3s0, l3v4, l3x4⟩ h
  have h : f_lumref_Chars_L5 kk2 fu k4 l3s0 l3x4 = some r := h
  obtain _ | k4 := k4
  · rw [f_lumref_Chars_L5] at h; cases h
  rw [f_lumref_Chars_L5] at h
  refine aw_show (m := (memOf w0 Z0 [] [(oRow l3v4 3 tq l3x4)] [])) (S := (tab [(0, (str l3s0)), (4, l3v4)])) ?_
  refine aw_seq ?_
  refine aw_sr ?_
  refine al_mv rfl rfl ?_
  refine al_val (ov_strCmp rfl rfl rfl rfl) ?_
  refine al_nt ?_
  refine aw_cond rfl (fun hb6 => ?_) (fun hb6 => ?_)
  ·replace h := bif_t hb6 h
   refine aw_skip ?_
   refine aq_then ?_
   refine aw_block ?_
   refine aw_sr ?_
   refine al_mv rfl rfl ?_
   obtain ⟨r8, hc7, h⟩ := opt_some h
   refine al_call (vs := [(str l3s0)]) (f_lumref_char_ok fu l3s0 hc7) [] [] [0] pre_nil rfl (by simp) (by decide) (.inl rfl) rfl Tryd.func51 rfl rfl rfl (fun _ => ?_)
   refine al_mv rfl rfl ?_
   refine al_ex rfl rfl rfl ?_
   refine al_ex rfl rfl rfl ?_
   refine al_as rfl rfl ?_
   refine al_as rfl rfl ?_
   refine al_nt ?_
   refine aw_seq ?_
   refine aw_sr ?_
   refine al_mv rfl rfl ?_
   refine al_in rfl rfl rfl rfl ?_
   refine al_nt ?_
   refine aw_cond rfl (fun hb9 => ?_) (fun hb9 => ?_)
   ·replace h := bif_t hb9 h
    refine aw_sr ?_
    refine al_as rfl rfl ?_
    refine al_as rfl rfl ?_
    refine al_nt ?_
    refine aw_ret ?_
    refine aq_then_ret ?_
    refine aq_block_ret ?_
    refine aq_then_ret ?_
    refine aq_block_ret ?_
    refine aq_then_ret ?_
    refine aq_nilR 3 tq ?_
    obtain rfl := Option.some.inj h
    exact fn_ret nS [0] [] rfl rfl rfl rfl (res2 rfl rfl rfl) rfl rfl rfl (by decide)
   ·replace h := bif_f hb9 h
    refine aw_skip ?_
    refine aq_tr ?_
    refine al_mv rfl rfl ?_
    refine al_mv rfl rfl ?_
    refine al_buildSlice (τ := tq) (e := 3) (k := 1) (sz := 0) (by_ := 0) (z := undef) (cs := [(iq r8.1)]) (xs := [r8.1]) rfl (by decide) (fun w a hm hs => ⟨([(iq r8.1)]).toArray, rfl, by simp only [List.map_toArray, List.map_cons, List.map_nil, hs.ev (x := .tmp 17) rfl]; exact run_bs [(iq r8.1)] [(iq r8.1)] Tryd.underlying52 to3 rfl rfl (bs_cons (l := [(iq r8.1)]) (cs := []) (cv_rfl rfl) rfl bs_nil) hm⟩) (fun hm => ⟨_, _, rfl, (fun _ => rfl) hm, rfl⟩) rfl (fun v10 => ?_)
    obtain ⟨hc11, h⟩ := req_some h
    refine al_append 1 hc11.1 hc11.2 rfl (src_own (i := 1) 0 rfl) rfl rfl Tryd.underlying52 to3 rfl rfl rfl (fun v12 => ?_)
    refine al_as rfl rfl ?_
    refine al_nt ?_
    refine aw_region ?_
    refine al_mv rfl rfl ?_
    refine al_mv rfl rfl ?_
    obtain ⟨hc13, h⟩ := req_some h
    refine al_val (ov_strFrom hc13.1 hc13.2 Tryd.underlying9 rfl rfl rfl) ?_
    refine al_as rfl rfl ?_
    refine al_nil ?_
    refine aq_block ?_
    exact aq_again k4 ((l3s0.drop (r8.2).toNat), v12, (l3x4 ++ ([r8.1]))) (Nat.lt_succ_self _) h (fun w a hm hs => norm hm hs [1] [] [(0, (str (l3s0.drop (r8.2).toNat))), (4, v12)] (by decide) ⟨rfl, rfl, trivial⟩)
  ·replace h := bif_f hb6 h
   refine aw_exit ?_
   refine aq_then_exit ?_
   refine aq_then_exit ?_
   refine aq_block_exit ?_
   exact aq_join (l3v4, l3x4) h (fun w a hm hs => norm hm hs [0] [] [(4, l3v4)] (by decide) ⟨rfl, trivial⟩)
def f_lumref_cutAt : Nat → (List UInt8) → Option (List (List UInt8))
  | 0, _ => none
  | fu + 1, a0 => (opt (f_strings_IndexByte fu a0 (47 : Int)) fun (r2 : Int) => (bif (decide (r2 < (0 : Int))) then (some [a0]) else (req (0 ≤ r2 ∧ r2 ≤ (a0.length : Int)) (req (0 ≤ (IntKind.i64.wrap (r2 + (1 : Int))) ∧ (IntKind.i64.wrap (r2 + (1 : Int))) ≤ (a0.length : Int)) (opt (f_lumref_cutAt fu (a0.drop ((IntKind.i64.wrap (r2 + (1 : Int)))).toNat)) fun (r9 : (List (List UInt8))) => (req (((([(a0.take (r2).toNat)]).length + r9.length) * 16 : Nat) ≤ 140737488355328 ∧ ([(a0.take (r2).toNat)]).length + r9.length ≤ 9223372036854775807) (some (([(a0.take (r2).toNat)]) ++ r9))))))))
set_option maxHeartbeats 2000000 in
set_option maxRecDepth 100000 in
theorem f_lumref_cutAt_ok (fu : Nat) (a0 : (List UInt8)) {r : (List (List UInt8))} (h : f_lumref_cutAt fu a0 = some r) : FnOk Tryd.prog 26 [(str a0)] [] [] (fun (i : Value) => { val := i, own := [(oRow i 9 tyStr r)] }) := by
 cases fu with
 | zero => rw [f_lumref_cutAt] at h; cases h
 | succ fu =>
  rw [f_lumref_cutAt] at h
  refine fn_enter Tryd.func26 rfl Tryd.ntmps26 rfl (fun w0 Z0 => ?_)
  refine aw_sr ?_
  refine al_as rfl rfl ?_
  refine al_nt ?_
  refine aw_sr ?_
  refine al_mv rfl rfl ?_
  obtain ⟨r2, hc1, h⟩ := opt_some h
  refine al_call (vs := [(str a0), (i8 (47 : Int))]) (f_strings_IndexByte_ok fu a0 (47 : Int) hc1) [] [] [] pre_nil rfl (by simp) (by decide) (.inl rfl) rfl Tryd.func52 rfl rfl rfl (fun _ => ?_)
  refine al_as rfl rfl ?_
  refine al_nt ?_
  refine aw_seq ?_
  refine aw_sr ?_
  refine al_mv rfl rfl ?_
  refine al_in rfl rfl rfl rfl ?_
  refine al_nt ?_
  refine aw_cond rfl (fun hb3 => ?_) (fun hb3 => ?_)
  ·replace h := bif_t hb3 h
   refine aw_sr ?_
   refine al_mv rfl rfl ?_
   refine al_buildSlice (τ := tyStr) (e := 9) (k := 1) (sz := 0) (by_ := 0) (z := undef) (cs := [(str a0)]) (xs := [a0]) rfl (by decide) (fun w a hm hs => ⟨([(str a0)]).toArray, rfl, by simp only [List.map_toArray, List.map_cons, List.map_nil, hs.ev (x := .tmp 8) rfl]; exact run_bs [(str a0)] [(str a0)] Tryd.underlying22 to9 rfl rfl (bs_cons (l := [(str a0)]) (cs := []) (cv_rfl rfl) rfl bs_nil) hm⟩) (fun hm => ⟨_, _, rfl, (fun _ => rfl) hm, rfl⟩) rfl (fun v4 => ?_)
   refine al_as rfl rfl ?_
   refine al_nt ?_
   refine aw_ret ?_
   refine aq_then_ret ?_
   obtain rfl := Option.some.inj h
   exact fn_ret v4 [0] [] rfl rfl rfl rfl (res1 rfl rfl) rfl rfl rfl (by decide)
  ·replace h := bif_f hb3 h
   refine aw_skip ?_
   refine aq_then ?_
   refine aw_seq ?_
   obtain ⟨hc5, h⟩ := req_some h
   obtain ⟨hc7, h⟩ := req_some h
   refine aw_region_open [⟨0, 10, Unit, fun _ => { val := (str a0) }⟩, ⟨1, 11, Unit, fun _ => { val := (iq r2) }⟩, ⟨2, 12, Unit, fun _ => { val := (str (a0.take (r2).toNat)) }⟩, ⟨3, 13, Value, fun (i : Value) => { val := i, own := [(oRow i 9 tyStr [(a0.take (r2).toNat)])] }⟩, ⟨4, 14, Unit, fun _ => { val := (str a0) }⟩, ⟨5, 15, Unit, fun _ => { val := (iq r2) }⟩, ⟨6, 16, Unit, fun _ => { val := (iq (wq (r2 + (1 : Int)))) }⟩, ⟨7, 17, Unit, fun _ => { val := (str (a0.drop ((wq (r2 + (1 : Int)))).toNat)) }⟩] (tab [(0, (str a0)), (2, nS), (3, (iq r2))]) mixed (fun a hs => hs.tab _ (allT_mem ⟨rfl, rfl, rfl, trivial⟩)) ?_
   refine ta_show (m := (memOf w0 Z0 [] [] [])) (S := (tab [(0, (str a0)), (2, nS), (3, (iq r2))])) ?_
   refine ta_step 8 _ [0, 1, 2, 3, 4, 5, 6, 7] [10, 11, 12, 13, 14, 15, 16, 17] [4, 5, 6, 7] [] [⟨4, 14, Unit, fun _ => { val := (str a0) }⟩, ⟨5, 15, Unit, fun _ => { val := (iq r2) }⟩, ⟨6, 16, Unit, fun _ => { val := (iq (wq (r2 + (1 : Int)))) }⟩, ⟨7, 17, Unit, fun _ => { val := (str (a0.drop ((wq (r2 + (1 : Int)))).toNat)) }⟩] [⟨0, 10, Unit, fun _ => { val := (str a0) }⟩, ⟨1, 11, Unit, fun _ => { val := (iq r2) }⟩, ⟨2, 12, Unit, fun _ => { val := (str (a0.take (r2).toNat)) }⟩, ⟨3, 13, Value, fun (i : Value) => { val := i, own := [(oRow i 9 tyStr [(a0.take (r2).toNat)])] }⟩] rfl rfl rfl (by kernel_rfl) rfl rfl rfl ⟨⟨_, rfl, [], rfl, by
 intro X_ Y_ F_ K_ hK_
 refine al_show (m := Mem.plus (memOf w0 Z0 [] [] []) X_ Y_) (S := over (tab [(0, (str a0)), (2, nS), (3, (iq r2))]) F_) ?_
 refine al_mv rfl rfl ?_
 refine al_nil ?_
 exact fr_fin hK_ ()⟩, ⟨_, rfl, [], rfl, by
 intro X_ Y_ F_ K_ hK_
 refine al_show (m := Mem.plus (memOf w0 Z0 [] [] []) X_ Y_) (S := over (tab [(0, (str a0)), (2, nS), (3, (iq r2))]) F_) ?_
 refine al_mv rfl rfl ?_
 refine al_nil ?_
 exact fr_fin hK_ ()⟩, ⟨_, rfl, [0, 1], rfl, by
 intro _
 intro _
 intro X_ Y_ F_ K_ hK_
 refine al_show (m := Mem.plus (memOf w0 Z0 [] [] []) X_ Y_) (S := over (put (put (tab [(0, (str a0)), (2, nS), (3, (iq r2))]) 10 (str a0)) 11 (iq r2)) F_) ?_
 refine al_val (ov_strTo hc5.1 hc5.2 Tryd.underlying9 rfl rfl rfl) ?_
 refine al_nil ?_
 exact fr_fin hK_ ()⟩, ⟨_, rfl, [2], rfl, by
 intro _
 intro X_ Y_ F_ K_ hK_
 refine al_show (m := Mem.plus (memOf w0 Z0 [] [] []) X_ Y_) (S := over (put (tab [(0, (str a0)), (2, nS), (3, (iq r2))]) 12 (str (a0.take (r2).toNat))) F_) ?_
 refine al_buildSlice (τ := tyStr) (e := 9) (k := 1) (sz := 0) (by_ := 0) (z := undef) (cs := [(str (a0.take (r2).toNat))]) (xs := [(a0.take (r2).toNat)]) rfl (by decide) (fun w a hm hs => ⟨([(str (a0.take (r2).toNat))]).toArray, rfl, by simp only [List.map_toArray, List.map_cons, List.map_nil, hs.ev (x := .tmp 12) rfl]; exact run_bs [(str (a0.take (r2).toNat))] [(str (a0.take (r2).toNat))] Tryd.underlying22 to9 rfl rfl (bs_cons (l := [(str (a0.take (r2).toNat))]) (cs := []) (cv_rfl rfl) rfl bs_nil) hm⟩) (fun hm => ⟨_, _, rfl, (fun _ => rfl) hm, rfl⟩) rfl (fun v6 => ?_)
 refine al_nil ?_
 exact fr_fin hK_ v6⟩, ⟨_, rfl, [], rfl, by
 intro X_ Y_ F_ K_ hK_
 refine al_show (m := Mem.plus (memOf w0 Z0 [] [] []) X_ Y_) (S := over (tab [(0, (str a0)), (2, nS), (3, (iq r2))]) F_) ?_
 refine al_mv rfl rfl ?_
 refine al_nil ?_
 exact fr_fin hK_ ()⟩, ⟨_, rfl, [], rfl, by
 intro X_ Y_ F_ K_ hK_
 refine al_show (m := Mem.plus (memOf w0 Z0 [] [] []) X_ Y_) (S := over (tab [(0, (str a0)), (2, nS), (3, (iq r2))]) F_) ?_
 refine al_mv rfl rfl ?_
 refine al_nil ?_
 exact fr_fin hK_ ()⟩, ⟨_, rfl, [5], rfl, by
 intro _
 intro X_ Y_ F_ K_ hK_
 refine al_show (m := Mem.plus (memOf w0 Z0 [] [] []) X_ Y_) (S := over (put (tab [(0, (str a0)), (2, nS), (3, (iq r2))]) 15 (iq r2)) F_) ?_
 refine al_in rfl rfl rfl rfl ?_
 refine al_nil ?_
 exact fr_fin hK_ ()⟩, ⟨_, rfl, [4, 6], rfl, by
 intro _
 intro _
 intro X_ Y_ F_ K_ hK_
 refine al_show (m := Mem.plus (memOf w0 Z0 [] [] []) X_ Y_) (S := over (put (put (tab [(0, (str a0)), (2, nS), (3, (iq r2))]) 14 (str a0)) 16 (iq (wq (r2 + (1 : Int))))) F_) ?_
 refine al_val (ov_strFrom hc7.1 hc7.2 Tryd.underlying9 rfl rfl rfl) ?_
 refine al_nil ?_
 exact fr_fin hK_ ()⟩, trivial⟩ ?_
   intro _
   intro _
   intro _
   intro _
   intro X_ Y_ F_ K_ hK_
   refine al_show (m := Mem.plus (memOf w0 Z0 [] [] []) X_ Y_) (S := over (put (put (put (put (tab [(0, (str a0)), (2, nS), (3, (iq r2))]) 14 (str a0)) 15 (iq r2)) 16 (iq (wq (r2 + (1 : Int))))) 17 (str (a0.drop ((wq (r2 + (1 : Int)))).toNat))) F_) ?_
   obtain ⟨r9, hc8, h⟩ := opt_some h
   refine al_callX (vs := [(str (a0.drop ((wq (r2 + (1 : Int)))).toNat))]) (f_lumref_cutAt_ok fu (a0.drop ((wq (r2 + (1 : Int)))).toNat) hc8) [] [] [] pre_nil rfl (by simp) (by decide) rfl (.inl rfl) rfl Tryd.func26 rfl rfl rfl (fun v10 => ?_)
   refine al_nil ?_
   refine aq_show (m := Mem.plus (memOf w0 Z0 [] [(oRow v10 9 tyStr r9)] []) X_ Y_) ?_
   refine aq_next hK_ [0] [] [(0, (str a0)), (2, nS), (3, (iq r2)), (18, v10)] [10, 11, 12, 13] [] rfl rfl (by decide) rfl ⟨rfl, rfl, rfl, rfl, trivial⟩ ⟨rfl, rfl, rfl, rfl, trivial⟩ ?_
   clear hK_ K_ F_ X_ Y_
   refine ta_show (m := (memOf w0 Z0 [] [(oRow v10 9 tyStr r9)] [])) (S := (tab [(0, (str a0)), (2, nS), (3, (iq r2)), (18, v10)])) ?_
   refine ta_step 9 _ [0, 1, 2, 3] [10, 11, 12, 13] [0, 1, 2, 3] [] [⟨0, 10, Unit, fun _ => { val := (str a0) }⟩, ⟨1, 11, Unit, fun _ => { val := (iq r2) }⟩, ⟨2, 12, Unit, fun _ => { val := (str (a0.take (r2).toNat)) }⟩, ⟨3, 13, Value, fun (i : Value) => { val := i, own := [(oRow i 9 tyStr [(a0.take (r2).toNat)])] }⟩] [] rfl rfl rfl (by kernel_rfl) rfl rfl rfl ⟨⟨_, rfl, [], rfl, by
 intro X_ Y_ F_ K_ hK_
 refine al_show (m := Mem.plus (memOf w0 Z0 [] [(oRow v10 9 tyStr r9)] []) X_ Y_) (S := over (tab [(0, (str a0)), (2, nS), (3, (iq r2)), (18, v10)]) F_) ?_
 refine al_mv rfl rfl ?_
 refine al_nil ?_
 exact fr_fin hK_ ()⟩, ⟨_, rfl, [], rfl, by
 intro X_ Y_ F_ K_ hK_
 refine al_show (m := Mem.plus (memOf w0 Z0 [] [(oRow v10 9 tyStr r9)] []) X_ Y_) (S := over (tab [(0, (str a0)), (2, nS), (3, (iq r2)), (18, v10)]) F_) ?_
 refine al_mv rfl rfl ?_
 refine al_nil ?_
 exact fr_fin hK_ ()⟩, ⟨_, rfl, [0, 1], rfl, by
 intro _
 intro _
 intro X_ Y_ F_ K_ hK_
 refine al_show (m := Mem.plus (memOf w0 Z0 [] [(oRow v10 9 tyStr r9)] []) X_ Y_) (S := over (put (put (tab [(0, (str a0)), (2, nS), (3, (iq r2)), (18, v10)]) 10 (str a0)) 11 (iq r2)) F_) ?_
 refine al_val (ov_strTo hc5.1 hc5.2 Tryd.underlying9 rfl rfl rfl) ?_
 refine al_nil ?_
 exact fr_fin hK_ ()⟩, ⟨_, rfl, [2], rfl, by
 intro _
 intro X_ Y_ F_ K_ hK_
 refine al_show (m := Mem.plus (memOf w0 Z0 [] [(oRow v10 9 tyStr r9)] []) X_ Y_) (S := over (put (tab [(0, (str a0)), (2, nS), (3, (iq r2)), (18, v10)]) 12 (str (a0.take (r2).toNat))) F_) ?_
 refine al_buildSlice (τ := tyStr) (e := 9) (k := 1) (sz := 0) (by_ := 0) (z := undef) (cs := [(str (a0.take (r2).toNat))]) (xs := [(a0.take (r2).toNat)]) rfl (by decide) (fun w a hm hs => ⟨([(str (a0.take (r2).toNat))]).toArray, rfl, by simp only [List.map_toArray, List.map_cons, List.map_nil, hs.ev (x := .tmp 12) rfl]; exact run_bs [(str (a0.take (r2).toNat))] [(str (a0.take (r2).toNat))] Tryd.underlying22 to9 rfl rfl (bs_cons (l := [(str (a0.take (r2).toNat))]) (cs := []) (cv_rfl rfl) rfl bs_nil) hm⟩) (fun hm => ⟨_, _, rfl, (fun _ => rfl) hm, rfl⟩) rfl (fun v6 => ?_)
 refine al_nil ?_
 exact fr_fin hK_ v6⟩, trivial⟩ ?_
   intro _
   intro _
   intro _
   intro v6
   intro X_ Y_ F_ K_ hK_
   refine al_show (m := Mem.plus (memOf w0 Z0 [] [(oRow v6 9 tyStr [(a0.take (r2).toNat)]), (oRow v10 9 tyStr r9)] []) X_ Y_) (S := over (put (put (put (put (tab [(0, (str a0)), (2, nS), (3, (iq r2)), (18, v10)]) 10 (str a0)) 11 (iq r2)) 12 (str (a0.take (r2).toNat))) 13 v6) F_) ?_
   obtain ⟨hc11, h⟩ := req_some h
   refine al_append 0 hc11.1 hc11.2 rfl (src_own (i := 0) 1 rfl) rfl rfl Tryd.underlying22 to9 rfl rfl rfl (fun v12 => ?_)
   refine al_nil ?_
   refine aq_show (m := Mem.plus (memOf w0 Z0 [] [(oRow v12 9 tyStr (([(a0.take (r2).toNat)]) ++ r9)), (oRow v10 9 tyStr r9)] []) X_ Y_) ?_
   refine aq_next hK_ [0, 1] [] [(2, nS), (19, v12)] [] [] rfl rfl (by decide) rfl ⟨rfl, rfl, trivial⟩ trivial ?_
   clear hK_ K_ F_ X_ Y_
   refine ta_show (m := (memOf w0 Z0 [] [(oRow v12 9 tyStr (([(a0.take (r2).toNat)]) ++ r9)), (oRow v10 9 tyStr r9)] [])) (S := (tab [(2, nS), (19, v12)])) ?_
   refine ta_step 10 _ [] [] [] [] [] [] rfl rfl rfl (by kernel_rfl) rfl rfl rfl trivial ?_
   intro X_ Y_ F_ K_ hK_
   refine al_show (m := Mem.plus (memOf w0 Z0 [] [(oRow v12 9 tyStr (([(a0.take (r2).toNat)]) ++ r9)), (oRow v10 9 tyStr r9)] []) X_ Y_) (S := over (tab [(2, nS), (19, v12)]) F_) ?_
   refine al_as rfl rfl ?_
   refine al_nil ?_
   refine aq_show (m := Mem.plus (memOf w0 Z0 [] [(oRow v12 9 tyStr (([(a0.take (r2).toNat)]) ++ r9)), (oRow v10 9 tyStr r9)] []) X_ Y_) ?_
   refine aq_next hK_ [0, 1] [] [(2, v12)] [] [] rfl rfl (by decide) rfl ⟨rfl, trivial⟩ trivial ?_
   clear hK_ K_ F_ X_ Y_
   refine ta_show (m := (memOf w0 Z0 [] [(oRow v12 9 tyStr (([(a0.take (r2).toNat)]) ++ r9)), (oRow v10 9 tyStr r9)] [])) (S := (tab [(2, v12)])) ?_
   refine ta_end [] [] rfl rfl (by kernel_rfl) rfl trivial ?_
   refine aq_show (m := (memOf w0 Z0 [] [(oRow v12 9 tyStr (([(a0.take (r2).toNat)]) ++ r9)), (oRow v10 9 tyStr r9)] [])) (S := (tab [(2, v12)])) ?_
   refine aq_then ?_
   refine aw_ret ?_
   obtain rfl := Option.some.inj h
   exact fn_ret v12 [0] [] rfl rfl rfl rfl (res1 rfl rfl) rfl rfl rfl (by decide)
def f_lumref_marks_1 (fu : Nat) (a0 : Int) (a1 : Int) : Option Bool := (some (a1 == a0))
set_option maxRecDepth 100000 in
theorem f_lumref_marks_1_ok (fu : Nat) (a0 : Int) (c1 : Value) (a1 : Int) {r : Bool} (h : f_lumref_marks_1 fu a0 a1 = some r) : FnOk Tryd.prog 53 [(int .i64 a0), c1] [(fPtr (tyInt .i64) c1 a1)] [] (fun (i : Unit) => { val := (bool r) }) := by
 unfold f_lumref_marks_1 at h
 refine fn_enter Tryd.func53 rfl Tryd.ntmps53 rfl (fun w0 Z0 => ?_)
 refine aw_sr ?_
 refine al_as rfl rfl ?_
 refine al_nt ?_
 refine aw_sr ?_
 refine al_val (ov_loadP (ds := [(iq a1)]) 0 rfl (fun h => h) rfl Tryd.underlying3 sz3 rfl rfl rfl) ?_
 refine al_mv rfl rfl ?_
 refine al_in rfl rfl rfl rfl ?_
 refine al_as rfl rfl ?_
 refine al_nt ?_
 refine aw_ret ?_
 obtain rfl := Option.some.inj h
 exact fn_ret () [] [] rfl rfl rfl rfl (res1 rfl rfl) rfl rfl rfl (by decide)
def f_lumref_marks_2 (fu : Nat) (a0 : Int) : Option Bool := (some true)
set_option maxRecDepth 100000 in
theorem f_lumref_marks_2_ok (fu : Nat) (a0 : Int) {r : Bool} (h : f_lumref_marks_2 fu a0 = some r) : FnOk Tryd.prog 54 [(int .i64 a0)] [] [] (fun (i : Unit) => { val := (bool r) }) := by
 unfold f_lumref_marks_2 at h
 refine fn_enter Tryd.func54 rfl Tryd.ntmps54 rfl (fun w0 Z0 => ?_)
 refine aw_sr ?_
 refine al_as rfl rfl ?_
 refine al_nt ?_
 refine aw_sr ?_
 refine al_as rfl rfl ?_
 refine al_nt ?_
 refine aw_ret ?_
 obtain rfl := Option.some.inj h
 exact fn_ret () [] [] rfl rfl rfl rfl (res1 rfl rfl) rfl rfl rfl (by decide)
def f_lumref_plain (fu : Nat) (a0 : (List Int)) : Option (Int × (List Int) × Bool) := (lt (fun (j1b5 : Bool) => (bif j1b5 then (some ((0 : Int), ([] : (List Int)), false)) else (opt (at? a0 (0 : Int)) fun (u4 : Int) => (bif (u4 != (92 : Int)) then (opt (at? a0 (0 : Int)) fun (u8 : Int) => (req (0 ≤ (1 : Int) ∧ (1 : Int) ≤ (a0.length : Int)) (some (u8, (a0.drop ((1 : Int)).toNat), true)))) else (bif ((a0.length : Int) == (1 : Int)) then (some ((0 : Int), ([] : (List Int)), false)) else (opt (at? a0 (1 : Int)) fun (u14 : Int) => (req (0 ≤ (2 : Int) ∧ (2 : Int) ≤ (a0.length : Int)) (some (u14, (a0.drop ((2 : Int)).toNat), true))))))))) fun (kk2 : Bool → Option (Int × (List Int) × Bool)) => (bif ((a0.length : Int) == (0 : Int)) then (kk2 true) else (opt (at? a0 (0 : Int)) fun (u20 : Int) => (kk2 (u20 == (93 : Int))))))
set_option maxHeartbeats 2000000 in
set_option maxRecDepth 100000 in
theorem f_lumref_plain_ok (fu : Nat) (v0_0 : Value) (a0 : (List Int)) {r : (Int × (List Int) × Bool)} (h : f_lumref_plain fu a0 = some r) : FnOk Tryd.prog 82 [v0_0] [(fDat (tyList (tyInt .i64)) [v0_0] a0)] [] (fun (i : Value) => { val := (Value.tuple #[(int .i64 r.1), i, (bool r.2.2)]), fz := [(fDat (tyList (tyInt .i64)) [i] r.2.1)] }) := by
 unfold f_lumref_plain at h
 refine fn_enter Tryd.func82 rfl Tryd.ntmps82 rfl (fun w0 Z0 => ?_)
 refine aw_sr ?_
 refine al_as rfl rfl ?_
 refine al_as rfl rfl ?_
 refine al_as rfl rfl ?_
 refine al_nt ?_
 refine aw_seq ?_
 refine aw_block ?_
 obtain ⟨kk2, hkk2, h⟩ := lt_some h
 refine aw_seq_join (ι := Bool) (fun i => (memOf w0 Z0 [] [] [(fDat (tyList tq) [v0_0] a0)])) (fun i => (tab [(0, v0_0), (5, (bool i))])) (fun i => kk2 i = some r) ?_ ?_
 ·rintro j1b5 h
  have h : kk2 j1b5 = some r := h
  rw [hkk2] at h
  dsimp only at h
  clear hkk2
  refine aw_show (m := (memOf w0 Z0 [] [] [(fDat (tyList tq) [v0_0] a0)])) (S := (tab [(0, v0_0), (5, (bool j1b5))])) ?_
  refine aw_cond rfl (fun hb3 => ?_) (fun hb3 => ?_)
  ·replace h := bif_t hb3 h
   refine aw_sr ?_
   refine al_as rfl rfl ?_
   refine al_as rfl rfl ?_
   refine al_as rfl rfl ?_
   refine al_nt ?_
   refine aw_ret ?_
   refine aq_block_ret ?_
   refine aq_then_ret ?_
   refine aq_nilD tq ?_
   obtain rfl := Option.some.inj h
   exact fn_ret nS [] [0] rfl rfl rfl rfl (res3 rfl rfl rfl rfl) rfl rfl rfl (by decide)
  ·replace h := bif_f hb3 h
   refine aw_sr ?_
   refine al_mv rfl rfl ?_
   obtain ⟨u4, hu5, h⟩ := opt_some h
   refine al_idxD 0 hu5 rfl rfl rfl Tryd.underlying52 sz3 rfl (fun p6 => ?_)
   refine al_val (ov_loadP (ds := [(iq u4)]) 0 rfl (fun h => h) rfl Tryd.underlying3 sz3 rfl rfl rfl) ?_
   refine al_in rfl rfl rfl rfl ?_
   refine al_as rfl rfl ?_
   refine al_nt ?_
   refine aw_cond rfl (fun hb7 => ?_) (fun hb7 => ?_)
   ·replace h := bif_t hb7 h
    refine aw_seq ?_
    obtain ⟨u8, hu9, h⟩ := opt_some h
    obtain ⟨hc11, h⟩ := req_some h
    refine aw_region_draw 7 [(20, (fun u => fEq u v0_0)), (21, (fun p10 => (fPtr tq p10 u8))), (22, (fun u => fEq u (iq u8))), (23, (fun u => fEq u v0_0)), (24, (fun s12 => (fDat (tyList tq) [s12] (a0.drop ((1 : Int)).toNat)))), (2, (fun u => fEq u (iq u8))), (3, (fun s12 => (fDat (tyList tq) [s12] (a0.drop ((1 : Int)).toNat))))] (tab [(0, v0_0)]) mixed (by kernel_rfl) rfl rfl rfl (fun a hs => hs.tab _ (allT_mem ⟨rfl, trivial⟩)) ⟨⟨rfl, ld_val (ov_move rfl rfl)⟩, ⟨rfl, ld_eq (j := 0) rfl rfl (ld_of (of_idxD 1 hu9 rfl rfl rfl Tryd.underlying52 sz3 rfl))⟩, ⟨rfl, ld_fact (j := 1) rfl rfl (fun p10 => ld_val (ov_loadP (ds := [(iq u8)]) 0 rfl (fun h => h) rfl Tryd.underlying3 sz3 rfl rfl rfl))⟩, ⟨rfl, ld_val (ov_move rfl rfl)⟩, ⟨rfl, ld_eq (j := 3) rfl rfl (ld_of (of_sliceDF 1 hc11.1 hc11.2 rfl rfl rfl Tryd.underlying52 sz3 rfl))⟩, ⟨rfl, ld_eq (j := 2) rfl rfl (ld_val (ov_assign rfl rfl))⟩, ⟨rfl, ld_fact (j := 4) rfl rfl (fun s12 => ld_of (of_assign 0 rfl rfl rfl))⟩, trivial⟩ ?_
    refine tl_eq 5 rfl ?_
    refine tl_fact 6 rfl (fun s12 => ?_)
    refine tl_done ?_
    refine al_as rfl rfl ?_
    refine al_nt ?_
    refine aw_ret ?_
    refine aq_block_ret ?_
    refine aq_then_ret ?_
    obtain rfl := Option.some.inj h
    exact fn_ret s12 [] [0] rfl rfl rfl rfl (res3 rfl rfl rfl rfl) rfl rfl rfl (by decide)
   ·replace h := bif_f hb7 h
    refine aw_sr ?_
    refine al_mv rfl rfl ?_
    refine al_val (ov_lenD 1 rfl rfl Tryd.underlying52 rfl) ?_
    refine al_in rfl rfl rfl rfl ?_
    refine al_as rfl rfl ?_
    refine al_nt ?_
    refine aw_cond rfl (fun hb13 => ?_) (fun hb13 => ?_)
    ·replace h := bif_t hb13 h
     refine aw_sr ?_
     refine al_as rfl rfl ?_
     refine al_as rfl rfl ?_
     refine al_as rfl rfl ?_
     refine al_nt ?_
     refine aw_ret ?_
     refine aq_block_ret ?_
     refine aq_then_ret ?_
     refine aq_nilD tq ?_
     obtain rfl := Option.some.inj h
     exact fn_ret nS [] [0] rfl rfl rfl rfl (res3 rfl rfl rfl rfl) rfl rfl rfl (by decide)
    ·replace h := bif_f hb13 h
     refine aw_skip ?_
     refine aq_block ?_
     refine aq_then ?_
     refine aw_seq ?_
     obtain ⟨u14, hu15, h⟩ := opt_some h
     obtain ⟨hc17, h⟩ := req_some h
     refine aw_region_draw 7 [(29, (fun u => fEq u v0_0)), (30, (fun p16 => (fPtr tq p16 u14))), (31, (fun u => fEq u (iq u14))), (32, (fun u => fEq u v0_0)), (33, (fun s18 => (fDat (tyList tq) [s18] (a0.drop ((2 : Int)).toNat)))), (2, (fun u => fEq u (iq u14))), (3, (fun s18 => (fDat (tyList tq) [s18] (a0.drop ((2 : Int)).toNat))))] (tab [(0, v0_0)]) mixed (by kernel_rfl) rfl rfl rfl (fun a hs => hs.tab _ (allT_mem ⟨rfl, trivial⟩)) ⟨⟨rfl, ld_val (ov_move rfl rfl)⟩, ⟨rfl, ld_eq (j := 0) rfl rfl (ld_of (of_idxD 1 hu15 rfl rfl rfl Tryd.underlying52 sz3 rfl))⟩, ⟨rfl, ld_fact (j := 1) rfl rfl (fun p16 => ld_val (ov_loadP (ds := [(iq u14)]) 0 rfl (fun h => h) rfl Tryd.underlying3 sz3 rfl rfl rfl))⟩, ⟨rfl, ld_val (ov_move rfl rfl)⟩, ⟨rfl, ld_eq (j := 3) rfl rfl (ld_of (of_sliceDF 1 hc17.1 hc17.2 rfl rfl rfl Tryd.underlying52 sz3 rfl))⟩, ⟨rfl, ld_eq (j := 2) rfl rfl (ld_val (ov_assign rfl rfl))⟩, ⟨rfl, ld_fact (j := 4) rfl rfl (fun s18 => ld_of (of_assign 0 rfl rfl rfl))⟩, trivial⟩ ?_
     refine tl_eq 5 rfl ?_
     refine tl_fact 6 rfl (fun s18 => ?_)
     refine tl_done ?_
     refine al_as rfl rfl ?_
     refine al_nt ?_
     refine aw_ret ?_
     obtain rfl := Option.some.inj h
     exact fn_ret s18 [] [0] rfl rfl rfl rfl (res3 rfl rfl rfl rfl) rfl rfl rfl (by decide)
 ·clear hkk2
  refine aw_region ?_
  refine al_mv rfl rfl ?_
  refine al_val (ov_lenD 0 rfl rfl Tryd.underlying52 rfl) ?_
  refine al_in rfl rfl rfl rfl ?_
  refine al_mv rfl rfl ?_
  refine al_caseB 9 rfl (fun hb19 => ?_) (fun hb19 => ?_)
  ·replace h := bif_t hb19 h
   refine al_skip ?_
   refine al_skip ?_
   refine al_skip ?_
   refine al_skip ?_
   refine al_val (ov_pick_t rfl rfl rfl) ?_
   refine al_as rfl rfl ?_
   refine al_nil ?_
   exact aq_join true h (fun w a hm hs => norm hm hs [] [0] [(0, v0_0), (5, (bool true))] (by decide) ⟨rfl, rfl, trivial⟩)
  ·replace h := bif_f hb19 h
   refine al_mv rfl rfl ?_
   obtain ⟨u20, hu21, h⟩ := opt_some h
   refine al_idxD 0 hu21 rfl rfl rfl Tryd.underlying52 sz3 rfl (fun p22 => ?_)
   refine al_val (ov_loadP (ds := [(iq u20)]) 0 rfl (fun h => h) rfl Tryd.underlying3 sz3 rfl rfl rfl) ?_
   refine al_in rfl rfl rfl rfl ?_
   refine al_val (ov_pick_f rfl rfl rfl) ?_
   refine al_as rfl rfl ?_
   refine al_nil ?_
   exact aq_join (u20 == (93 : Int)) h (fun w a hm hs => norm hm hs [] [1] [(0, v0_0), (5, (bool (u20 == (93 : Int))))] (by decide) ⟨rfl, rfl, trivial⟩)
def f_lumref_class_1_L6 (a0 : Int) (a1 : (List Int)) (a2 : (List Int)) (a3 : Bool) (kk2 : (Unit → Option Bool)) : Nat → Int → Option Bool
  | 0, _ => none
  | k5 + 1, l4i9 => (bif (decide (l4i9 < (a1.length : Int))) then (lt (fun (j8b25 : Bool) => (bif j8b25 then (some (!a3)) else (f_lumref_class_1_L6 a0 a1 a2 a3 kk2 k5 (IntKind.i64.wrap (l4i9 + (1 : Int)))))) fun (kk9 : Bool → Option Bool) => (opt (at? a1 l4i9) fun (u12 : Int) => (bif (decide (u12 ≤ a0)) then (opt (at? a2 l4i9) fun (u17 : Int) => (kk9 (decide (a0 ≤ u17)))) else (kk9 false)))) else (kk2 ()))
def f_lumref_class_1 (fu : Nat) (a0 : Int) (a1 : (List Int)) (a2 : (List Int)) (a3 : Bool) : Option Bool := (lt (fun (_ : Unit) => (some a3)) fun (kk2 : Unit → Option Bool) => (f_lumref_class_1_L6 a0 a1 a2 a3 kk2 fu (0 : Int)))
set_option maxHeartbeats 2000000 in
set_option maxRecDepth 100000 in
theorem f_lumref_class_1_ok (fu : Nat) (a0 : Int) (c1 : Value) (a1 : (List Int)) (c2 : Value) (a2 : (List Int)) (c3 : Value) (a3 : Bool) {r : Bool} (h : f_lumref_class_1 fu a0 a1 a2 a3 = some r) : FnOk Tryd.prog 83 [(int .i64 a0), c1, c2, c3] [(fPtr (tyList (tyInt .i64)) c1 a1), (fPtr (tyList (tyInt .i64)) c2 a2), (fPtr tyBool c3 a3)] [] (fun (i : Unit) => { val := (bool r) }) := by
 unfold f_lumref_class_1 at h
 refine fn_enter Tryd.func83 rfl Tryd.ntmps83 rfl (fun w0 Z0 => ?_)
 refine aw_sr ?_
 refine al_as rfl rfl ?_
 refine al_nt ?_
 obtain ⟨kk2, hkk2, h⟩ := lt_some h
 refine aw_seq_join (ι := Unit) (fun i => (memOf w0 Z0 [] [] [(fPtr tyBool c3 a3), (fPtr (tyList tq) c1 a1), (fPtr (tyList tq) c2 a2)])) (fun i => (tab [(3, c3)])) (fun i => kk2 () = some r) ?_ ?_
 ·rintro _ h
  have h : kk2 () = some r := h
  rw [hkk2] at h
  dsimp only at h
  clear hkk2
  refine aw_show (m := (memOf w0 Z0 [] [] [(fPtr tyBool c3 a3), (fPtr (tyList tq) c1 a1), (fPtr (tyList tq) c2 a2)])) (S := (tab [(3, c3)])) ?_
  refine aw_sr ?_
  refine al_val (ov_loadP (ds := [(bool a3)]) 0 rfl (fun h => h) rfl Tryd.underlying4 sz4 rfl rfl rfl) ?_
  refine al_as rfl rfl ?_
  refine al_nt ?_
  refine aw_ret ?_
  obtain rfl := Option.some.inj h
  exact fn_ret () [] [] rfl rfl rfl rfl (res1 rfl rfl) rfl rfl rfl (by decide)
 ·clear hkk2
  refine aw_sr ?_
  refine al_loadP1 0 rfl rfl Tryd.underlying52 sz52 rfl rfl rfl (fun s3 => ?_)
  refine al_val (ov_lenD 0 rfl rfl Tryd.underlying52 rfl) ?_
  refine al_mv rfl rfl ?_
  refine al_nt ?_
  refine aw_block ?_
  refine aw_state (aw_loop (ι := Int) (fun i => (memOf w0 Z0 [] [] [(fPtr (tyList tq) c1 a1), (fPtr (tyList tq) c2 a2), (fPtr tyBool c3 a3), (fDat (tyList tq) [s3] a1)])) (fun i => (tab [(0, (iq a0)), (1, c1), (2, c2), (3, c3), (8, (iq (a1.length : Int))), (9, (iq i))])) (fun q i => f_lumref_class_1_L6 a0 a1 a2 a3 kk2 q i = some r) ?_ fu (0 : Int) h) (fun w a hm hs => norm hm hs [] [1, 2, 3, 0] [(0, (iq a0)), (1, c1), (2, c2), (3, c3), (8, (iq (a1.length : Int))), (9, (iq (0 : Int)))] (by decide) ⟨rfl, rfl, rfl, rfl, rfl, rfl, trivial⟩)
  clear h
  rintro k5 l4i9 h
  have h : f_lumref_class_1_L6 a0 a1 a2 a3 kk2 k5 l4i9 = some r := h
  obtain _ | k5 := k5
  · rw [f_lumref_class_1_L6] at h; cases h
  rw [f_lumref_class_1_L6] at h
  refine aw_show (m := (memOf w0 Z0 [] [] [(fPtr (tyList tq) c1 a1), (fPtr (tyList tq) c2 a2), (fPtr tyBool c3 a3), (fDat (tyList tq) [s3] a1)])) (S := (tab [(0, (iq a0)), (1, c1), (2, c2), (3, c3), (8, (iq (a1.length : Int))), (9, (iq l4i9))])) ?_
  refine aw_sr ?_
  refine al_in rfl rfl rfl rfl ?_
  refine al_nt ?_
  refine aw_seq ?_
  refine aw_cond rfl (fun hb7 => ?_) (fun hb7 => ?_)
  ·replace h := bif_t hb7 h
   refine aw_skip ?_
   refine aq_then ?_
   refine aw_seq ?_
   refine aw_block ?_
   refine aw_sr ?_
   refine al_mv rfl rfl ?_
   refine al_as rfl rfl ?_
   refine al_nt ?_
   obtain ⟨kk9, hkk9, h⟩ := lt_some h
   refine aw_seq_join (ι := Bool) (fun i => (memOf w0 Z0 [] [] [(fPtr (tyList tq) c1 a1), (fPtr (tyList tq) c2 a2), (fPtr tyBool c3 a3), (fDat (tyList tq) [s3] a1)])) (fun i => (tab [(0, (iq a0)), (1, c1), (2, c2), (3, c3), (8, (iq (a1.length : Int))), (9, (iq l4i9)), (25, (bool i))])) (fun i => kk9 i = some r) ?_ ?_
   ·rintro j8b25 h
    have h : kk9 j8b25 = some r := h
    rw [hkk9] at h
    dsimp only at h
    clear hkk9
    refine aw_show (m := (memOf w0 Z0 [] [] [(fPtr (tyList tq) c1 a1), (fPtr (tyList tq) c2 a2), (fPtr tyBool c3 a3), (fDat (tyList tq) [s3] a1)])) (S := (tab [(0, (iq a0)), (1, c1), (2, c2), (3, c3), (8, (iq (a1.length : Int))), (9, (iq l4i9)), (25, (bool j8b25))])) ?_
    refine aw_cond rfl (fun hb10 => ?_) (fun hb10 => ?_)
    ·replace h := bif_t hb10 h
     refine aw_sr ?_
     refine al_val (ov_loadP (ds := [(bool a3)]) 2 rfl (fun h => h) rfl Tryd.underlying4 sz4 rfl rfl rfl) ?_
     refine al_val (ov_not rfl rfl) ?_
     refine al_as rfl rfl ?_
     refine al_nt ?_
     refine aw_ret ?_
     refine aq_block_ret ?_
     refine aq_then_ret ?_
     refine aq_then_ret ?_
     refine aq_block_ret ?_
     refine aq_then_ret ?_
     obtain rfl := Option.some.inj h
     exact fn_ret () [] [] rfl rfl rfl rfl (res1 rfl rfl) rfl rfl rfl (by decide)
    ·replace h := bif_f hb10 h
     refine aw_skip ?_
     refine aq_block ?_
     refine aq_then ?_
     refine aw_region ?_
     refine al_in rfl rfl rfl rfl ?_
     refine al_mv rfl rfl ?_
     refine al_nil ?_
     exact aq_again k5 (wq (l4i9 + (1 : Int))) (Nat.lt_succ_self _) h (fun w a hm hs => norm hm hs [] [0, 1, 2, 3] [(0, (iq a0)), (1, c1), (2, c2), (3, c3), (8, (iq (a1.length : Int))), (9, (iq (wq (l4i9 + (1 : Int)))))] (by decide) ⟨rfl, rfl, rfl, rfl, rfl, rfl, trivial⟩)
   ·clear hkk9
    refine aw_region ?_
    refine al_loadP1 0 rfl rfl Tryd.underlying52 sz52 rfl rfl rfl (fun s11 => ?_)
    refine al_mv rfl rfl ?_
    obtain ⟨u12, hu13, h⟩ := opt_some h
    refine al_idxD 0 hu13 rfl rfl rfl Tryd.underlying52 sz3 rfl (fun p14 => ?_)
    refine al_val (ov_loadP (ds := [(iq u12)]) 0 rfl (fun h => h) rfl Tryd.underlying3 sz3 rfl rfl rfl) ?_
    refine al_mv rfl rfl ?_
    refine al_in rfl rfl rfl rfl ?_
    refine al_mv rfl rfl ?_
    refine al_caseB 18 rfl (fun hb15 => ?_) (fun hb15 => ?_)
    ·replace h := bif_t hb15 h
     refine al_mv rfl rfl ?_
     refine al_loadP1 3 rfl rfl Tryd.underlying52 sz52 rfl rfl rfl (fun s16 => ?_)
     refine al_mv rfl rfl ?_
     obtain ⟨u17, hu18, h⟩ := opt_some h
     refine al_idxD 0 hu18 rfl rfl rfl Tryd.underlying52 sz3 rfl (fun p19 => ?_)
     refine al_val (ov_loadP (ds := [(iq u17)]) 0 rfl (fun h => h) rfl Tryd.underlying3 sz3 rfl rfl rfl) ?_
     refine al_in rfl rfl rfl rfl ?_
     refine al_val (ov_pick_t rfl rfl rfl) ?_
     refine al_nil ?_
     exact aq_join (decide (a0 ≤ u17)) h (fun w a hm hs => norm hm hs [] [4, 5, 6, 7] [(0, (iq a0)), (1, c1), (2, c2), (3, c3), (8, (iq (a1.length : Int))), (9, (iq l4i9)), (25, (bool (decide (a0 ≤ u17))))] (by decide) ⟨rfl, rfl, rfl, rfl, rfl, rfl, rfl, trivial⟩)
    ·replace h := bif_f hb15 h
     refine al_skip ?_
     refine al_skip ?_
     refine al_skip ?_
     refine al_skip ?_
     refine al_skip ?_
     refine al_skip ?_
     refine al_val (ov_pick_f rfl rfl rfl) ?_
     refine al_nil ?_
     exact aq_join false h (fun w a hm hs => norm hm hs [] [2, 3, 4, 5] [(0, (iq a0)), (1, c1), (2, c2), (3, c3), (8, (iq (a1.length : Int))), (9, (iq l4i9)), (25, (bool false))] (by decide) ⟨rfl, rfl, rfl, rfl, rfl, rfl, rfl, trivial⟩)
  ·replace h := bif_f hb7 h
   refine aw_exit ?_
   refine aq_then_exit ?_
   refine aq_then_exit ?_
   refine aq_block_exit ?_
   exact aq_join () h (fun w a hm hs => norm hm hs [] [2, 0, 1] [(3, c3)] (by decide) ⟨rfl, trivial⟩)
def f_lumref_class_L15 (kk9 : ((List Int) → (List Int) → (List Int) → Option (S_lumref_mark × (List Int) × Bool))) (fu : Nat) : Nat → (List Int) → (List Int) → (List Int) → Option (S_lumref_mark × (List Int) × Bool)
  | 0, _, _, _ => none
  | k14 + 1, l13x0, l13x6_0, l13x7_0 => (lt (fun (j16b37 : Bool) => (bif j16b37 then (opt (f_lumref_plain fu l13x0) fun (r20 : (Int × (List Int) × Bool)) => (bif (!r20.2.2) then (some ((S_lumref_mark.mk false C74.nil), ([] : (List Int)), false)) else (lt (fun (j23x0 : (List Int)) (j23i11 : Int) => (req (((l13x6_0.length + ([r20.1]).length) * 8 : Nat) ≤ 140737488355328 ∧ l13x6_0.length + ([r20.1]).length ≤ 9223372036854775807) (req (((l13x7_0.length + ([j23i11]).length) * 8 : Nat) ≤ 140737488355328 ∧ l13x7_0.length + ([j23i11]).length ≤ 9223372036854775807) (f_lumref_class_L15 kk9 fu k14 j23x0 (l13x6_0 ++ ([r20.1])) (l13x7_0 ++ ([j23i11])))))) fun (kk24 : (List Int) → Int → Option (S_lumref_mark × (List Int) × Bool)) => (lt (fun (j31b57 : Bool) => (bif j31b57 then (req (0 ≤ (1 : Int) ∧ (1 : Int) ≤ (r20.2.1.length : Int)) (opt (f_lumref_plain fu (r20.2.1.drop ((1 : Int)).toNat)) fun (r37 : (Int × (List Int) × Bool)) => (lt (fun (j39b71 : Bool) => (bif j39b71 then (some ((S_lumref_mark.mk false C74.nil), ([] : (List Int)), false)) else (kk24 r37.2.1 r37.1))) fun (kk40 : Bool → Option (S_lumref_mark × (List Int) × Bool)) => (bif (!r37.2.2) then (kk40 true) else (kk40 (decide (r37.1 < r20.1))))))) else (kk24 r20.2.1 r20.1))) fun (kk32 : Bool → Option (S_lumref_mark × (List Int) × Bool)) => (bif (decide ((r20.2.1.length : Int) > (0 : Int))) then (opt (at? r20.2.1 (0 : Int)) fun (u44 : Int) => (kk32 (u44 == (45 : Int)))) else (kk32 false)))))) else (kk9 l13x0 l13x6_0 l13x7_0))) fun (kk17 : Bool → Option (S_lumref_mark × (List Int) × Bool)) => (bif ((l13x6_0.length : Int) == (0 : Int)) then (kk17 true) else (bif (decide ((l13x0.length : Int) > (0 : Int))) then (opt (at? l13x0 (0 : Int)) fun (u49 : Int) => (kk17 (u49 != (93 : Int)))) else (kk17 false))))
def f_lumref_class (fu : Nat) (a0 : (List Int)) : Option (S_lumref_mark × (List Int) × Bool) := (lt (fun (j2b5_0 : Bool) => (lt (fun (j4x0 : (List Int)) => (lt (fun (j8x0 : (List Int)) (j8x6_0 : (List Int)) (j8x7_0 : (List Int)) => (bif ((j8x0.length : Int) == (0 : Int)) then (some ((S_lumref_mark.mk false C74.nil), ([] : (List Int)), false)) else (req (0 ≤ (1 : Int) ∧ (1 : Int) ≤ (j8x0.length : Int)) (some ((S_lumref_mark.mk false (C74.c83 j8x6_0 j8x7_0 j2b5_0)), (j8x0.drop ((1 : Int)).toNat), true))))) fun (kk9 : (List Int) → (List Int) → (List Int) → Option (S_lumref_mark × (List Int) × Bool)) => (f_lumref_class_L15 kk9 fu fu j4x0 ([] : List Int) ([] : List Int)))) fun (kk5 : (List Int) → Option (S_lumref_mark × (List Int) × Bool)) => (bif j2b5_0 then (req (0 ≤ (1 : Int) ∧ (1 : Int) ≤ (a0.length : Int)) (kk5 (a0.drop ((1 : Int)).toNat))) else (kk5 a0)))) fun (kk3 : Bool → Option (S_lumref_mark × (List Int) × Bool)) => (bif (decide ((a0.length : Int) > (0 : Int))) then (opt (at? a0 (0 : Int)) fun (u56 : Int) => (kk3 (u56 == (94 : Int)))) else (kk3 false)))
set_option maxRecDepth 100000 in
set_option maxHeartbeats 2000000 in
set_option maxHeartbeats 2000000 in
theorem f_lumref_class_ok (fu : Nat) (v0_0 : Value) (a0 : (List Int)) {r : (S_lumref_mark × (List Int) × Bool)} (h : f_lumref_class fu a0 = some r) : FnOk Tryd.prog 55 [v0_0] [(fDat (tyList (tyInt .i64)) [v0_0] a0)] [] (fun (i : Value × Value) => { val := (Value.tuple #[(ag [(bool r.1.star), i.1]), i.2, (bool r.2.2)]), fz := [(fDat tyC74 [i.1] r.1.ok), (fDat (tyList (tyInt .i64)) [i.2] r.2.1)] }) := by
 unfold f_lumref_class at h
 refine fn_enter Tryd.func55 rfl Tryd.ntmps55 rfl (fun w0 Z0 => ?_)
 refine aw_sr ?_
 refine al_alloc (zs := [(bool false), Value.nilFunc]) (zeroOf_to to92) rfl rfl (fun g1 => ?_)
 refine al_as rfl rfl ?_
 refine al_as rfl rfl ?_
 refine al_nt ?_
 obtain ⟨kk3, hkk3, h⟩ := lt_some h
 refine aw_seq_join (ι := Nat × Bool) (fun i => (memOf w0 Z0 [] [(oBox g1 92 [(bool false), Value.nilFunc]), (oBox i.1 4 [(bool i.2)])] [(fDat (tyList tq) [v0_0] a0)])) (fun i => (tab [(0, v0_0), (2, (pq g1)), (5, (ptr i.1 0))])) (fun i => kk3 i.2 = some r) ?_ ?_
 ·rintro ⟨j2g5, j2b5_0⟩ h
  have h : kk3 j2b5_0 = some r := h
  rw [hkk3] at h
  dsimp only at h
  clear hkk3
  refine aw_show (m := (memOf w0 Z0 [] [(oBox g1 92 [(bool false), Value.nilFunc]), (oBox j2g5 4 [(bool j2b5_0)])] [(fDat (tyList tq) [v0_0] a0)])) (S := (tab [(0, v0_0), (2, (pq g1)), (5, (pq j2g5))])) ?_
  obtain ⟨kk5, hkk5, h⟩ := lt_some h
  refine aw_seq_join (ι := Value × (List Int)) (fun i => (memOf w0 Z0 [] [(oBox g1 92 [(bool false), Value.nilFunc]), (oBox j2g5 4 [(bool j2b5_0)])] [(fDat (tyList tq) [i.1] i.2), (fDat (tyList tq) [v0_0] a0)])) (fun i => (tab [(0, i.1), (2, (pq g1)), (5, (pq j2g5))])) (fun i => kk5 i.2 = some r) ?_ ?_
  ·rintro ⟨j4v0, j4x0⟩ h
   have h : kk5 j4x0 = some r := h
   rw [hkk5] at h
   dsimp only at h
   clear hkk5
   refine aw_show (m := (memOf w0 Z0 [] [(oBox g1 92 [(bool false), Value.nilFunc]), (oBox j2g5 4 [(bool j2b5_0)])] [(fDat (tyList tq) [j4v0] j4x0), (fDat (tyList tq) [v0_0] a0)])) (S := (tab [(0, j4v0), (2, (pq g1)), (5, (pq j2g5))])) ?_
   refine aw_sr ?_
   refine al_alloc (zs := [nS]) (zeroOf_to to52) rfl rfl (fun g6 => ?_)
   refine al_alloc (zs := [nS]) (zeroOf_to to52) rfl rfl (fun g7 => ?_)
   refine al_nt ?_
   obtain ⟨kk9, hkk9, h⟩ := lt_some h
   refine aw_seq_join (ι := Value × (List Int) × Value × (List Int) × Value × (List Int)) (fun i => (memOf w0 Z0 [] [(oBox g1 92 [(bool false), Value.nilFunc]), (oBox j2g5 4 [(bool j2b5_0)]), (oRow i.2.2.1 3 tq i.2.2.2.1), (oBox g6 52 [i.2.2.1]), (oRow i.2.2.2.2.1 3 tq i.2.2.2.2.2), (oBox g7 52 [i.2.2.2.2.1])] [(fDat (tyList tq) [i.1] i.2.1), (fDat (tyList tq) [j4v0] j4x0), (fDat (tyList tq) [v0_0] a0)])) (fun i => (tab [(0, i.1), (2, (pq g1)), (5, (pq j2g5)), (6, (pq g6)), (7, (pq g7))])) (fun i => kk9 i.2.1 i.2.2.2.1 i.2.2.2.2.2 = some r) ?_ ?_
   ·rintro ⟨j8v0, j8x0, j8v6_0, j8x6_0, j8v7_0, j8x7_0⟩ h
    have h : kk9 j8x0 j8x6_0 j8x7_0 = some r := h
    rw [hkk9] at h
    dsimp only at h
    clear hkk9
    refine aw_show (m := (memOf w0 Z0 [] [(oBox g1 92 [(bool false), Value.nilFunc]), (oBox j2g5 4 [(bool j2b5_0)]), (oRow j8v6_0 3 tq j8x6_0), (oBox g6 52 [j8v6_0]), (oRow j8v7_0 3 tq j8x7_0), (oBox g7 52 [j8v7_0])] [(fDat (tyList tq) [j8v0] j8x0), (fDat (tyList tq) [j4v0] j4x0), (fDat (tyList tq) [v0_0] a0)])) (S := (tab [(0, j8v0), (2, (pq g1)), (5, (pq j2g5)), (6, (pq g6)), (7, (pq g7))])) ?_
    refine aw_seq ?_
    refine aw_sr ?_
    refine al_mv rfl rfl ?_
    refine al_val (ov_lenD 0 rfl rfl Tryd.underlying52 rfl) ?_
    refine al_in rfl rfl rfl rfl ?_
    refine al_nt ?_
    refine aw_cond rfl (fun hb10 => ?_) (fun hb10 => ?_)
    ·replace h := bif_t hb10 h
     refine aw_sr ?_
     refine al_val (ov_build (cells := ([(bool false), Value.nilFunc] : List Value).toArray) (cs := [(bool false), Value.nilFunc]) rfl (fun w a hm hs => by simp only [List.map_toArray, List.map_cons, List.map_nil, List.toList_toArray]; kernel_rfl)) ?_
     refine al_store (i := 0) (vs := [(bool false), Value.nilFunc]) (cs' := [(bool false), Value.nilFunc]) rfl rfl rfl sz92 (cv_rfl rfl) rfl (co_val rfl (co_val rfl co_nil)) (Nat.le_of_ble_eq_true rfl) rfl rfl ?_
     refine al_as rfl rfl ?_
     refine al_as rfl rfl ?_
     refine al_nt ?_
     refine aw_ret ?_
     refine aq_then_ret ?_
     refine aq_addf (f := fDat tyC74 [Value.nilFunc] C74.nil) mkC74_nil ?_
     refine aq_nilD tq ?_
     obtain rfl := Option.some.inj h
     exact fn_ret (Value.nilFunc, nS) [] [1, 0] rfl rfl rfl rfl (resC rfl (resB (i := 0) rfl rfl Tryd.underlying92 sz92 rfl rfl rfl (resT rfl (resT rfl (resN)))) rfl) rfl rfl rfl (by decide)
    ·replace h := bif_f hb10 h
     refine aw_skip ?_
     refine aq_then ?_
     refine aw_seq ?_
     refine aw_freeze 2 rfl rfl ?_
     refine aw_freezeBN (τ := (tyList tq)) 2 (j8x6_0) rfl rfl (fun hm => fz_at (i := 0) hm rfl) ?_
     refine aw_freeze 2 rfl rfl ?_
     refine aw_freezeBN (τ := (tyList tq)) 2 (j8x7_0) rfl rfl (fun hm => fz_at (i := 0) hm rfl) ?_
     refine aw_freezeB (τ := tyBool) 1 (j2b5_0) rfl rfl (fun _ _ => rfl) ?_
     obtain ⟨hc11, h⟩ := req_some h
     refine aw_region_open [⟨0, 85, Unit, fun _ => { val := (Value.func (.func 83) #[] #[(pq g6), (pq g7), (pq j2g5)]) }⟩, ⟨1, 86, Unit, fun _ => { val := (ag [(bool false), (Value.func (.func 83) #[] #[(pq g6), (pq g7), (pq j2g5)])]) }⟩, ⟨2, 87, Unit, fun _ => { val := j8v0 }⟩, ⟨3, 88, Value, fun (i : Value) => { val := i, fz := [(fDat (tyList tq) [i] (j8x0.drop ((1 : Int)).toNat))] }⟩] (tab [(0, j8v0), (2, (pq g1)), (5, (pq j2g5)), (6, (pq g6)), (7, (pq g7))]) mixed (fun a hs => hs.tab _ (allT_mem ⟨rfl, rfl, rfl, rfl, rfl, trivial⟩)) ?_
     refine ta_show (m := (memOf w0 Z0 [] [(oBox g1 92 [(bool false), Value.nilFunc])] [(fPtr tyBool (pq j2g5) j2b5_0), (fPtr (tyList tq) (pq g7) j8x7_0), (fDat (tyList tq) [j8v7_0] j8x7_0), (fPtr (tyList tq) (pq g6) j8x6_0), (fDat (tyList tq) [j8v6_0] j8x6_0), (fDat (tyList tq) [j8v0] j8x0), (fDat (tyList tq) [j4v0] j4x0), (fDat (tyList tq) [v0_0] a0)])) (S := (tab [(0, j8v0), (2, (pq g1)), (5, (pq j2g5)), (6, (pq g6)), (7, (pq g7))])) ?_
     refine ta_step 4 _ [0, 1, 2, 3] [85, 86, 87, 88] [0, 1] [] [⟨0, 85, Unit, fun _ => { val := (Value.func (.func 83) #[] #[(pq g6), (pq g7), (pq j2g5)]) }⟩, ⟨1, 86, Unit, fun _ => { val := (ag [(bool false), (Value.func (.func 83) #[] #[(pq g6), (pq g7), (pq j2g5)])]) }⟩] [⟨2, 87, Unit, fun _ => { val := j8v0 }⟩, ⟨3, 88, Value, fun (i : Value) => { val := i, fz := [(fDat (tyList tq) [i] (j8x0.drop ((1 : Int)).toNat))] }⟩] rfl rfl rfl (by kernel_rfl) rfl rfl rfl ⟨⟨_, rfl, [], rfl, by
 intro X_ Y_ F_ K_ hK_
 refine al_show (m := Mem.plus (memOf w0 Z0 [] [(oBox g1 92 [(bool false), Value.nilFunc])] [(fPtr tyBool (pq j2g5) j2b5_0), (fPtr (tyList tq) (pq g7) j8x7_0), (fDat (tyList tq) [j8v7_0] j8x7_0), (fPtr (tyList tq) (pq g6) j8x6_0), (fDat (tyList tq) [j8v6_0] j8x6_0), (fDat (tyList tq) [j8v0] j8x0), (fDat (tyList tq) [j4v0] j4x0), (fDat (tyList tq) [v0_0] a0)]) X_ Y_) (S := over (tab [(0, j8v0), (2, (pq g1)), (5, (pq j2g5)), (6, (pq g6)), (7, (pq g7))]) F_) ?_
 refine al_val (ov_makeFunc2 (vs := [(pq g6), (pq g7), (pq j2g5)]) rfl rfl) ?_
 refine al_nil ?_
 exact fr_fin hK_ ()⟩, ⟨_, rfl, [0], rfl, by
 intro _
 intro X_ Y_ F_ K_ hK_
 refine al_show (m := Mem.plus (memOf w0 Z0 [] [(oBox g1 92 [(bool false), Value.nilFunc])] [(fPtr tyBool (pq j2g5) j2b5_0), (fPtr (tyList tq) (pq g7) j8x7_0), (fDat (tyList tq) [j8v7_0] j8x7_0), (fPtr (tyList tq) (pq g6) j8x6_0), (fDat (tyList tq) [j8v6_0] j8x6_0), (fDat (tyList tq) [j8v0] j8x0), (fDat (tyList tq) [j4v0] j4x0), (fDat (tyList tq) [v0_0] a0)]) X_ Y_) (S := over (put (tab [(0, j8v0), (2, (pq g1)), (5, (pq j2g5)), (6, (pq g6)), (7, (pq g7))]) 85 (Value.func (.func 83) #[] #[(pq g6), (pq g7), (pq j2g5)])) F_) ?_
 refine al_val (ov_build (cells := ([(bool false), (Value.func (.func 83) #[] #[(pq g6), (pq g7), (pq j2g5)])] : List Value).toArray) (cs := [(bool false), (Value.func (.func 83) #[] #[(pq g6), (pq g7), (pq j2g5)])]) rfl (fun w a hm hs => by simp only [List.map_toArray, List.map_cons, List.map_nil, List.toList_toArray, hs.ev (x := .tmp 85) rfl]; kernel_rfl)) ?_
 refine al_nil ?_
 exact fr_fin hK_ ()⟩, ⟨_, rfl, [], rfl, by
 intro X_ Y_ F_ K_ hK_
 refine al_show (m := Mem.plus (memOf w0 Z0 [] [(oBox g1 92 [(bool false), Value.nilFunc])] [(fPtr tyBool (pq j2g5) j2b5_0), (fPtr (tyList tq) (pq g7) j8x7_0), (fDat (tyList tq) [j8v7_0] j8x7_0), (fPtr (tyList tq) (pq g6) j8x6_0), (fDat (tyList tq) [j8v6_0] j8x6_0), (fDat (tyList tq) [j8v0] j8x0), (fDat (tyList tq) [j4v0] j4x0), (fDat (tyList tq) [v0_0] a0)]) X_ Y_) (S := over (tab [(0, j8v0), (2, (pq g1)), (5, (pq j2g5)), (6, (pq g6)), (7, (pq g7))]) F_) ?_
 refine al_mv rfl rfl ?_
 refine al_nil ?_
 exact fr_fin hK_ ()⟩, ⟨_, rfl, [2], rfl, by
 intro _
 intro X_ Y_ F_ K_ hK_
 refine al_show (m := Mem.plus (memOf w0 Z0 [] [(oBox g1 92 [(bool false), Value.nilFunc])] [(fPtr tyBool (pq j2g5) j2b5_0), (fPtr (tyList tq) (pq g7) j8x7_0), (fDat (tyList tq) [j8v7_0] j8x7_0), (fPtr (tyList tq) (pq g6) j8x6_0), (fDat (tyList tq) [j8v6_0] j8x6_0), (fDat (tyList tq) [j8v0] j8x0), (fDat (tyList tq) [j4v0] j4x0), (fDat (tyList tq) [v0_0] a0)]) X_ Y_) (S := over (put (tab [(0, j8v0), (2, (pq g1)), (5, (pq j2g5)), (6, (pq g6)), (7, (pq g7))]) 87 j8v0) F_) ?_
 refine al_sliceDF 5 hc11.1 hc11.2 rfl rfl rfl Tryd.underlying52 sz3 rfl (fun s12 => ?_)
 refine al_nil ?_
 exact fr_fin hK_ s12⟩, trivial⟩ ?_
     intro _
     intro _
     intro X_ Y_ F_ K_ hK_
     refine al_show (m := Mem.plus (memOf w0 Z0 [] [(oBox g1 92 [(bool false), Value.nilFunc])] [(fPtr tyBool (pq j2g5) j2b5_0), (fPtr (tyList tq) (pq g7) j8x7_0), (fDat (tyList tq) [j8v7_0] j8x7_0), (fPtr (tyList tq) (pq g6) j8x6_0), (fDat (tyList tq) [j8v6_0] j8x6_0), (fDat (tyList tq) [j8v0] j8x0), (fDat (tyList tq) [j4v0] j4x0), (fDat (tyList tq) [v0_0] a0)]) X_ Y_) (S := over (put (put (tab [(0, j8v0), (2, (pq g1)), (5, (pq j2g5)), (6, (pq g6)), (7, (pq g7))]) 85 (Value.func (.func 83) #[] #[(pq g6), (pq g7), (pq j2g5)])) 86 (ag [(bool false), (Value.func (.func 83) #[] #[(pq g6), (pq g7), (pq j2g5)])])) F_) ?_
     refine al_store (i := 0) (vs := [(bool false), (Value.func (.func 83) #[] #[(pq g6), (pq g7), (pq j2g5)])]) (cs' := [(bool false), (Value.func (.func 83) #[] #[(pq g6), (pq g7), (pq j2g5)])]) rfl rfl rfl sz92 (cv_rfl rfl) rfl (co_val rfl (co_val rfl co_nil)) (Nat.le_of_ble_eq_true rfl) rfl rfl ?_
     refine al_nil ?_
     refine aq_show (m := Mem.plus (memOf w0 Z0 [] [(oBox g1 92 [(bool false), (Value.func (.func 83) #[] #[(pq g6), (pq g7), (pq j2g5)])])] [(fPtr tyBool (pq j2g5) j2b5_0), (fPtr (tyList tq) (pq g7) j8x7_0), (fDat (tyList tq) [j8v7_0] j8x7_0), (fPtr (tyList tq) (pq g6) j8x6_0), (fDat (tyList tq) [j8v6_0] j8x6_0), (fDat (tyList tq) [j8v0] j8x0), (fDat (tyList tq) [j4v0] j4x0), (fDat (tyList tq) [v0_0] a0)]) X_ Y_) ?_
     refine aq_next hK_ [0] [0, 1, 2, 3, 4, 5, 6, 7] [(0, j8v0), (2, (pq g1))] [87, 88] [] rfl rfl (by decide) rfl ⟨rfl, rfl, trivial⟩ ⟨rfl, rfl, trivial⟩ ?_
     clear hK_ K_ F_ X_ Y_
     refine ta_show (m := (memOf w0 Z0 [] [(oBox g1 92 [(bool false), (Value.func (.func 83) #[] #[(pq g6), (pq g7), (pq j2g5)])])] [(fPtr tyBool (pq j2g5) j2b5_0), (fPtr (tyList tq) (pq g7) j8x7_0), (fDat (tyList tq) [j8v7_0] j8x7_0), (fPtr (tyList tq) (pq g6) j8x6_0), (fDat (tyList tq) [j8v6_0] j8x6_0), (fDat (tyList tq) [j8v0] j8x0), (fDat (tyList tq) [j4v0] j4x0), (fDat (tyList tq) [v0_0] a0)])) (S := (tab [(0, j8v0), (2, (pq g1))])) ?_
     refine ta_step 5 _ [2, 3] [87, 88] [2, 3] [] [⟨2, 87, Unit, fun _ => { val := j8v0 }⟩, ⟨3, 88, Value, fun (i : Value) => { val := i, fz := [(fDat (tyList tq) [i] (j8x0.drop ((1 : Int)).toNat))] }⟩] [] rfl rfl rfl (by kernel_rfl) rfl rfl rfl ⟨⟨_, rfl, [], rfl, by
 intro X_ Y_ F_ K_ hK_
 refine al_show (m := Mem.plus (memOf w0 Z0 [] [(oBox g1 92 [(bool false), (Value.func (.func 83) #[] #[(pq g6), (pq g7), (pq j2g5)])])] [(fPtr tyBool (pq j2g5) j2b5_0), (fPtr (tyList tq) (pq g7) j8x7_0), (fDat (tyList tq) [j8v7_0] j8x7_0), (fPtr (tyList tq) (pq g6) j8x6_0), (fDat (tyList tq) [j8v6_0] j8x6_0), (fDat (tyList tq) [j8v0] j8x0), (fDat (tyList tq) [j4v0] j4x0), (fDat (tyList tq) [v0_0] a0)]) X_ Y_) (S := over (tab [(0, j8v0), (2, (pq g1))]) F_) ?_
 refine al_mv rfl rfl ?_
 refine al_nil ?_
 exact fr_fin hK_ ()⟩, ⟨_, rfl, [0], rfl, by
 intro _
 intro X_ Y_ F_ K_ hK_
 refine al_show (m := Mem.plus (memOf w0 Z0 [] [(oBox g1 92 [(bool false), (Value.func (.func 83) #[] #[(pq g6), (pq g7), (pq j2g5)])])] [(fPtr tyBool (pq j2g5) j2b5_0), (fPtr (tyList tq) (pq g7) j8x7_0), (fDat (tyList tq) [j8v7_0] j8x7_0), (fPtr (tyList tq) (pq g6) j8x6_0), (fDat (tyList tq) [j8v6_0] j8x6_0), (fDat (tyList tq) [j8v0] j8x0), (fDat (tyList tq) [j4v0] j4x0), (fDat (tyList tq) [v0_0] a0)]) X_ Y_) (S := over (put (tab [(0, j8v0), (2, (pq g1))]) 87 j8v0) F_) ?_
 refine al_sliceDF 5 hc11.1 hc11.2 rfl rfl rfl Tryd.underlying52 sz3 rfl (fun s12 => ?_)
 refine al_nil ?_
 exact fr_fin hK_ s12⟩, trivial⟩ ?_
     intro _
     intro s12
     intro X_ Y_ F_ K_ hK_
     refine al_show (m := Mem.plus (memOf w0 Z0 [] [(oBox g1 92 [(bool false), (Value.func (.func 83) #[] #[(pq g6), (pq g7), (pq j2g5)])])] [(fDat (tyList tq) [s12] (j8x0.drop ((1 : Int)).toNat)), (fPtr tyBool (pq j2g5) j2b5_0), (fPtr (tyList tq) (pq g7) j8x7_0), (fDat (tyList tq) [j8v7_0] j8x7_0), (fPtr (tyList tq) (pq g6) j8x6_0), (fDat (tyList tq) [j8v6_0] j8x6_0), (fDat (tyList tq) [j8v0] j8x0), (fDat (tyList tq) [j4v0] j4x0), (fDat (tyList tq) [v0_0] a0)]) X_ Y_) (S := over (put (put (tab [(0, j8v0), (2, (pq g1))]) 87 j8v0) 88 s12) F_) ?_
     refine al_as rfl rfl ?_
     refine al_nil ?_
     refine aq_show (m := Mem.plus (memOf w0 Z0 [] [(oBox g1 92 [(bool false), (Value.func (.func 83) #[] #[(pq g6), (pq g7), (pq j2g5)])])] [(fDat (tyList tq) [s12] (j8x0.drop ((1 : Int)).toNat)), (fPtr tyBool (pq j2g5) j2b5_0), (fPtr (tyList tq) (pq g7) j8x7_0), (fDat (tyList tq) [j8v7_0] j8x7_0), (fPtr (tyList tq) (pq g6) j8x6_0), (fDat (tyList tq) [j8v6_0] j8x6_0), (fDat (tyList tq) [j8v0] j8x0), (fDat (tyList tq) [j4v0] j4x0), (fDat (tyList tq) [v0_0] a0)]) X_ Y_) ?_
     refine aq_next hK_ [0] [0, 1, 2, 3, 4, 5, 6, 7, 8] [(2, (pq g1)), (3, s12)] [] [] rfl rfl (by decide) rfl ⟨rfl, rfl, trivial⟩ trivial ?_
     clear hK_ K_ F_ X_ Y_
     refine ta_show (m := (memOf w0 Z0 [] [(oBox g1 92 [(bool false), (Value.func (.func 83) #[] #[(pq g6), (pq g7), (pq j2g5)])])] [(fDat (tyList tq) [s12] (j8x0.drop ((1 : Int)).toNat)), (fPtr tyBool (pq j2g5) j2b5_0), (fPtr (tyList tq) (pq g7) j8x7_0), (fDat (tyList tq) [j8v7_0] j8x7_0), (fPtr (tyList tq) (pq g6) j8x6_0), (fDat (tyList tq) [j8v6_0] j8x6_0), (fDat (tyList tq) [j8v0] j8x0), (fDat (tyList tq) [j4v0] j4x0), (fDat (tyList tq) [v0_0] a0)])) (S := (tab [(2, (pq g1)), (3, s12)])) ?_
     refine ta_step 6 _ [] [] [] [] [] [] rfl rfl rfl (by kernel_rfl) rfl rfl rfl trivial ?_
     intro X_ Y_ F_ K_ hK_
     refine al_show (m := Mem.plus (memOf w0 Z0 [] [(oBox g1 92 [(bool false), (Value.func (.func 83) #[] #[(pq g6), (pq g7), (pq j2g5)])])] [(fDat (tyList tq) [s12] (j8x0.drop ((1 : Int)).toNat)), (fPtr tyBool (pq j2g5) j2b5_0), (fPtr (tyList tq) (pq g7) j8x7_0), (fDat (tyList tq) [j8v7_0] j8x7_0), (fPtr (tyList tq) (pq g6) j8x6_0), (fDat (tyList tq) [j8v6_0] j8x6_0), (fDat (tyList tq) [j8v0] j8x0), (fDat (tyList tq) [j4v0] j4x0), (fDat (tyList tq) [v0_0] a0)]) X_ Y_) (S := over (tab [(2, (pq g1)), (3, s12)]) F_) ?_
     refine al_as rfl rfl ?_
     refine al_nil ?_
     refine aq_show (m := Mem.plus (memOf w0 Z0 [] [(oBox g1 92 [(bool false), (Value.func (.func 83) #[] #[(pq g6), (pq g7), (pq j2g5)])])] [(fDat (tyList tq) [s12] (j8x0.drop ((1 : Int)).toNat)), (fPtr tyBool (pq j2g5) j2b5_0), (fPtr (tyList tq) (pq g7) j8x7_0), (fDat (tyList tq) [j8v7_0] j8x7_0), (fPtr (tyList tq) (pq g6) j8x6_0), (fDat (tyList tq) [j8v6_0] j8x6_0), (fDat (tyList tq) [j8v0] j8x0), (fDat (tyList tq) [j4v0] j4x0), (fDat (tyList tq) [v0_0] a0)]) X_ Y_) ?_
     refine aq_next hK_ [0] [0, 1, 2, 3, 4, 5, 6, 7, 8] [(2, (pq g1)), (3, s12), (4, (bool true))] [] [] rfl rfl (by decide) rfl ⟨rfl, rfl, rfl, trivial⟩ trivial ?_
     clear hK_ K_ F_ X_ Y_
     refine ta_show (m := (memOf w0 Z0 [] [(oBox g1 92 [(bool false), (Value.func (.func 83) #[] #[(pq g6), (pq g7), (pq j2g5)])])] [(fDat (tyList tq) [s12] (j8x0.drop ((1 : Int)).toNat)), (fPtr tyBool (pq j2g5) j2b5_0), (fPtr (tyList tq) (pq g7) j8x7_0), (fDat (tyList tq) [j8v7_0] j8x7_0), (fPtr (tyList tq) (pq g6) j8x6_0), (fDat (tyList tq) [j8v6_0] j8x6_0), (fDat (tyList tq) [j8v0] j8x0), (fDat (tyList tq) [j4v0] j4x0), (fDat (tyList tq) [v0_0] a0)])) (S := (tab [(2, (pq g1)), (3, s12), (4, (bool true))])) ?_
     refine ta_end [] [] rfl rfl (by kernel_rfl) rfl trivial ?_
     refine aq_show (m := (memOf w0 Z0 [] [(oBox g1 92 [(bool false), (Value.func (.func 83) #[] #[(pq g6), (pq g7), (pq j2g5)])])] [(fDat (tyList tq) [s12] (j8x0.drop ((1 : Int)).toNat)), (fPtr tyBool (pq j2g5) j2b5_0), (fPtr (tyList tq) (pq g7) j8x7_0), (fDat (tyList tq) [j8v7_0] j8x7_0), (fPtr (tyList tq) (pq g6) j8x6_0), (fDat (tyList tq) [j8v6_0] j8x6_0), (fDat (tyList tq) [j8v0] j8x0), (fDat (tyList tq) [j4v0] j4x0), (fDat (tyList tq) [v0_0] a0)])) (S := (tab [(2, (pq g1)), (3, s12), (4, (bool true))])) ?_
     refine aq_then ?_
     refine aw_ret ?_
     refine aq_addf (f := fDat tyC74 [(Value.func (.func 83) #[] #[(pq g6), (pq g7), (pq j2g5)])] (C74.c83 j8x6_0 j8x7_0 j2b5_0)) (mkC74_83 4 rfl 2 rfl 1 rfl) ?_
     obtain rfl := Option.some.inj h
     exact fn_ret ((Value.func (.func 83) #[] #[(pq g6), (pq g7), (pq j2g5)]), s12) [] [0, 1] rfl rfl rfl rfl (resC rfl (resB (i := 0) rfl rfl Tryd.underlying92 sz92 rfl rfl rfl (resT rfl (resT rfl (resN)))) rfl) rfl rfl rfl (by decide)
   ·clear hkk9
    refine aw_block ?_
    refine aw_nilR 3 tq ?_
    refine aw_nilR 3 tq ?_
    refine aw_state (aw_loop (ι := Value × (List Int) × Value × (List Int) × Value × (List Int)) (fun i => (memOf w0 Z0 [] [(oBox g1 92 [(bool false), Value.nilFunc]), (oBox j2g5 4 [(bool j2b5_0)]), (oRow i.2.2.1 3 tq i.2.2.2.1), (oBox g6 52 [i.2.2.1]), (oRow i.2.2.2.2.1 3 tq i.2.2.2.2.2), (oBox g7 52 [i.2.2.2.2.1])] [(fDat (tyList tq) [i.1] i.2.1), (fDat (tyList tq) [j4v0] j4x0), (fDat (tyList tq) [v0_0] a0)])) (fun i => (tab [(0, i.1), (2, (pq g1)), (5, (pq j2g5)), (6, (pq g6)), (7, (pq g7))])) (fun q i => f_lumref_class_L15 kk9 fu q i.2.1 i.2.2.2.1 i.2.2.2.2.2 = some r) ?_ fu (j4v0, j4x0, nS, ([] : List Int), nS, ([] : List Int)) h) (fun w a hm hs => norm hm hs [4, 5, 0, 3, 1, 2] [0, 0, 1] [(0, j4v0), (2, (pq g1)), (5, (pq j2g5)), (6, (pq g6)), (7, (pq g7))] (by decide) ⟨rfl, rfl, rfl, rfl, rfl, trivial⟩)
    clear h
    rintro k14 ⟨l13v0, l13x0, l13v6_0, l13x6_0, l13v7_0, l13x7_0⟩ h
    have h : f_lumref_class_L15 kk9 fu k14 l13x0 l13x6_0 l13x7_0 = some r := h
    obtain _ | k14 := k14
    · rw [f_lumref_class_L15] at h; cases h
    rw [f_lumref_class_L15] at h
    refine aw_show (m := (memOf w0 Z0 [] [(oBox g1 92 [(bool false), Value.nilFunc]), (oBox j2g5 4 [(bool j2b5_0)]), (oRow l13v6_0 3 tq l13x6_0), (oBox g6 52 [l13v6_0]), (oRow l13v7_0 3 tq l13x7_0), (oBox g7 52 [l13v7_0])] [(fDat (tyList tq) [l13v0] l13x0), (fDat (tyList tq) [j4v0] j4x0), (fDat (tyList tq) [v0_0] a0)])) (S := (tab [(0, l13v0), (2, (pq g1)), (5, (pq j2g5)), (6, (pq g6)), (7, (pq g7))])) ?_
    refine aw_seq ?_
    obtain ⟨kk17, hkk17, h⟩ := lt_some h
    refine aw_seq_join (ι := Bool) (fun i => (memOf w0 Z0 [] [(oBox g1 92 [(bool false), Value.nilFunc]), (oBox j2g5 4 [(bool j2b5_0)]), (oRow l13v6_0 3 tq l13x6_0), (oBox g6 52 [l13v6_0]), (oRow l13v7_0 3 tq l13x7_0), (oBox g7 52 [l13v7_0])] [(fDat (tyList tq) [l13v0] l13x0), (fDat (tyList tq) [j4v0] j4x0), (fDat (tyList tq) [v0_0] a0)])) (fun i => (tab [(0, l13v0), (2, (pq g1)), (5, (pq j2g5)), (6, (pq g6)), (7, (pq g7)), (37, (bool i))])) (fun i => kk17 i = some r) ?_ ?_
    ·rintro j16b37 h
     have h : kk17 j16b37 = some r := h
     rw [hkk17] at h
     dsimp only at h
     clear hkk17
     refine aw_show (m := (memOf w0 Z0 [] [(oBox g1 92 [(bool false), Value.nilFunc]), (oBox j2g5 4 [(bool j2b5_0)]), (oRow l13v6_0 3 tq l13x6_0), (oBox g6 52 [l13v6_0]), (oRow l13v7_0 3 tq l13x7_0), (oBox g7 52 [l13v7_0])] [(fDat (tyList tq) [l13v0] l13x0), (fDat (tyList tq) [j4v0] j4x0), (fDat (tyList tq) [v0_0] a0)])) (S := (tab [(0, l13v0), (2, (pq g1)), (5, (pq j2g5)), (6, (pq g6)), (7, (pq g7)), (37, (bool j16b37))])) ?_
     refine aw_cond rfl (fun hb18 => ?_) (fun hb18 => ?_)
     ·replace h := bif_t hb18 h
      refine aw_skip ?_
      refine aq_then ?_
      refine aw_block ?_
      refine aw_sr ?_
      refine al_mv rfl rfl ?_
      obtain ⟨r20, hc19, h⟩ := opt_some h
      refine al_call (vs := [l13v0]) (f_lumref_plain_ok fu l13v0 l13x0 hc19) [] [] [0, 1, 2, 3, 4, 5] (pre_fz 0 rfl pre_nil) rfl (by simp) (by decide) (.inl rfl) rfl Tryd.func82 rfl rfl rfl (fun v21 => ?_)
      refine al_mv rfl rfl ?_
      refine al_ex rfl rfl rfl ?_
      refine al_ex rfl rfl rfl ?_
      refine al_ex rfl rfl rfl ?_
      refine al_as rfl rfl ?_
      refine al_as rfl rfl ?_
      refine al_as rfl rfl ?_
      refine al_nt ?_
      refine aw_seq ?_
      refine aw_sr ?_
      refine al_mv rfl rfl ?_
      refine al_val (ov_not rfl rfl) ?_
      refine al_nt ?_
      refine aw_cond rfl (fun hb22 => ?_) (fun hb22 => ?_)
      ·replace h := bif_t hb22 h
       refine aw_sr ?_
       refine al_val (ov_build (cells := ([(bool false), Value.nilFunc] : List Value).toArray) (cs := [(bool false), Value.nilFunc]) rfl (fun w a hm hs => by simp only [List.map_toArray, List.map_cons, List.map_nil, List.toList_toArray]; kernel_rfl)) ?_
       refine al_store (i := 0) (vs := [(bool false), Value.nilFunc]) (cs' := [(bool false), Value.nilFunc]) rfl rfl rfl sz92 (cv_rfl rfl) rfl (co_val rfl (co_val rfl co_nil)) (Nat.le_of_ble_eq_true rfl) rfl rfl ?_
       refine al_as rfl rfl ?_
       refine al_as rfl rfl ?_
       refine al_nt ?_
       refine aw_ret ?_
       refine aq_then_ret ?_
       refine aq_block_ret ?_
       refine aq_then_ret ?_
       refine aq_block_ret ?_
       refine aq_then_ret ?_
       refine aq_addf (f := fDat tyC74 [Value.nilFunc] C74.nil) mkC74_nil ?_
       refine aq_nilD tq ?_
       obtain rfl := Option.some.inj h
       exact fn_ret (Value.nilFunc, nS) [] [1, 0] rfl rfl rfl rfl (resC rfl (resB (i := 0) rfl rfl Tryd.underlying92 sz92 rfl rfl rfl (resT rfl (resT rfl (resN)))) rfl) rfl rfl rfl (by decide)
      ·replace h := bif_f hb22 h
       refine aw_skip ?_
       refine aq_tr ?_
       refine al_mv rfl rfl ?_
       refine al_as rfl rfl ?_
       refine al_nt ?_
       refine aw_sr ?_
       refine al_mv rfl rfl ?_
       refine al_as rfl rfl ?_
       refine al_nt ?_
       obtain ⟨kk24, hkk24, h⟩ := lt_some h
       refine aw_seq_join (ι := Value × (List Int) × Int) (fun i => (memOf w0 Z0 [] [(oBox g1 92 [(bool false), Value.nilFunc]), (oBox j2g5 4 [(bool j2b5_0)]), (oRow l13v6_0 3 tq l13x6_0), (oBox g6 52 [l13v6_0]), (oRow l13v7_0 3 tq l13x7_0), (oBox g7 52 [l13v7_0])] [(fDat (tyList tq) [i.1] i.2.1), (fDat (tyList tq) [v21] r20.2.1), (fDat (tyList tq) [l13v0] l13x0), (fDat (tyList tq) [j4v0] j4x0), (fDat (tyList tq) [v0_0] a0)])) (fun i => (tab [(0, i.1), (2, (pq g1)), (5, (pq j2g5)), (6, (pq g6)), (7, (pq g7)), (8, (iq r20.1)), (11, (iq i.2.2))])) (fun i => kk24 i.2.1 i.2.2 = some r) ?_ ?_
       ·rintro ⟨j23v0, j23x0, j23i11⟩ h
        have h : kk24 j23x0 j23i11 = some r := h
        rw [hkk24] at h
        dsimp only at h
        clear hkk24
        refine aw_show (m := (memOf w0 Z0 [] [(oBox g1 92 [(bool false), Value.nilFunc]), (oBox j2g5 4 [(bool j2b5_0)]), (oRow l13v6_0 3 tq l13x6_0), (oBox g6 52 [l13v6_0]), (oRow l13v7_0 3 tq l13x7_0), (oBox g7 52 [l13v7_0])] [(fDat (tyList tq) [j23v0] j23x0), (fDat (tyList tq) [v21] r20.2.1), (fDat (tyList tq) [l13v0] l13x0), (fDat (tyList tq) [j4v0] j4x0), (fDat (tyList tq) [v0_0] a0)])) (S := (tab [(0, j23v0), (2, (pq g1)), (5, (pq j2g5)), (6, (pq g6)), (7, (pq g7)), (8, (iq r20.1)), (11, (iq j23i11))])) ?_
        refine aw_region_open [⟨0, 73, Unit, fun _ => { val := l13v6_0 }⟩, ⟨1, 74, Unit, fun _ => { val := (iq r20.1) }⟩, ⟨2, 75, Value, fun (i : Value) => { val := i, own := [(oRow i 3 tq [r20.1])] }⟩, ⟨4, 77, Unit, fun _ => { val := l13v7_0 }⟩, ⟨5, 78, Unit, fun _ => { val := (iq j23i11) }⟩, ⟨6, 79, Value, fun (i : Value) => { val := i, own := [(oRow i 3 tq [j23i11])] }⟩] (tab [(0, j23v0), (2, (pq g1)), (5, (pq j2g5)), (6, (pq g6)), (7, (pq g7)), (8, (iq r20.1)), (11, (iq j23i11))]) mixed (fun a hs => hs.tab _ (allT_mem ⟨rfl, rfl, rfl, rfl, rfl, rfl, rfl, trivial⟩)) ?_
        refine ta_show (m := (memOf w0 Z0 [] [(oBox g1 92 [(bool false), Value.nilFunc]), (oBox j2g5 4 [(bool j2b5_0)]), (oRow l13v6_0 3 tq l13x6_0), (oBox g6 52 [l13v6_0]), (oRow l13v7_0 3 tq l13x7_0), (oBox g7 52 [l13v7_0])] [(fDat (tyList tq) [j23v0] j23x0), (fDat (tyList tq) [v21] r20.2.1), (fDat (tyList tq) [l13v0] l13x0), (fDat (tyList tq) [j4v0] j4x0), (fDat (tyList tq) [v0_0] a0)])) (S := (tab [(0, j23v0), (2, (pq g1)), (5, (pq j2g5)), (6, (pq g6)), (7, (pq g7)), (8, (iq r20.1)), (11, (iq j23i11))])) ?_
        refine ta_step 3 _ [0, 1, 2, 4, 5, 6] [73, 74, 75, 77, 78, 79] [0, 1, 2] [] [⟨0, 73, Unit, fun _ => { val := l13v6_0 }⟩, ⟨1, 74, Unit, fun _ => { val := (iq r20.1) }⟩, ⟨2, 75, Value, fun (i : Value) => { val := i, own := [(oRow i 3 tq [r20.1])] }⟩] [⟨4, 77, Unit, fun _ => { val := l13v7_0 }⟩, ⟨5, 78, Unit, fun _ => { val := (iq j23i11) }⟩, ⟨6, 79, Value, fun (i : Value) => { val := i, own := [(oRow i 3 tq [j23i11])] }⟩] rfl rfl rfl (by kernel_rfl) rfl rfl rfl ⟨⟨_, rfl, [], rfl, by
 intro X_ Y_ F_ K_ hK_
 refine al_show (m := Mem.plus (memOf w0 Z0 [] [(oBox g1 92 [(bool false), Value.nilFunc]), (oBox j2g5 4 [(bool j2b5_0)]), (oRow l13v6_0 3 tq l13x6_0), (oBox g6 52 [l13v6_0]), (oRow l13v7_0 3 tq l13x7_0), (oBox g7 52 [l13v7_0])] [(fDat (tyList tq) [j23v0] j23x0), (fDat (tyList tq) [v21] r20.2.1), (fDat (tyList tq) [l13v0] l13x0), (fDat (tyList tq) [j4v0] j4x0), (fDat (tyList tq) [v0_0] a0)]) X_ Y_) (S := over (tab [(0, j23v0), (2, (pq g1)), (5, (pq j2g5)), (6, (pq g6)), (7, (pq g7)), (8, (iq r20.1)), (11, (iq j23i11))]) F_) ?_
 refine al_val (ov_load (i := 3) (v := l13v6_0) rfl rfl Tryd.underlying52 sz52 rfl rfl rfl rfl) ?_
 refine al_nil ?_
 exact fr_fin hK_ ()⟩, ⟨_, rfl, [], rfl, by
 intro X_ Y_ F_ K_ hK_
 refine al_show (m := Mem.plus (memOf w0 Z0 [] [(oBox g1 92 [(bool false), Value.nilFunc]), (oBox j2g5 4 [(bool j2b5_0)]), (oRow l13v6_0 3 tq l13x6_0), (oBox g6 52 [l13v6_0]), (oRow l13v7_0 3 tq l13x7_0), (oBox g7 52 [l13v7_0])] [(fDat (tyList tq) [j23v0] j23x0), (fDat (tyList tq) [v21] r20.2.1), (fDat (tyList tq) [l13v0] l13x0), (fDat (tyList tq) [j4v0] j4x0), (fDat (tyList tq) [v0_0] a0)]) X_ Y_) (S := over (tab [(0, j23v0), (2, (pq g1)), (5, (pq j2g5)), (6, (pq g6)), (7, (pq g7)), (8, (iq r20.1)), (11, (iq j23i11))]) F_) ?_
 refine al_mv rfl rfl ?_
 refine al_nil ?_
 exact fr_fin hK_ ()⟩, ⟨_, rfl, [1], rfl, by
 intro _
 intro X_ Y_ F_ K_ hK_
 refine al_show (m := Mem.plus (memOf w0 Z0 [] [(oBox g1 92 [(bool false), Value.nilFunc]), (oBox j2g5 4 [(bool j2b5_0)]), (oRow l13v6_0 3 tq l13x6_0), (oBox g6 52 [l13v6_0]), (oRow l13v7_0 3 tq l13x7_0), (oBox g7 52 [l13v7_0])] [(fDat (tyList tq) [j23v0] j23x0), (fDat (tyList tq) [v21] r20.2.1), (fDat (tyList tq) [l13v0] l13x0), (fDat (tyList tq) [j4v0] j4x0), (fDat (tyList tq) [v0_0] a0)]) X_ Y_) (S := over (put (tab [(0, j23v0), (2, (pq g1)), (5, (pq j2g5)), (6, (pq g6)), (7, (pq g7)), (8, (iq r20.1)), (11, (iq j23i11))]) 74 (iq r20.1)) F_) ?_
 refine al_buildSlice (τ := tq) (e := 3) (k := 1) (sz := 0) (by_ := 0) (z := undef) (cs := [(iq r20.1)]) (xs := [r20.1]) rfl (by decide) (fun w a hm hs => ⟨([(iq r20.1)]).toArray, rfl, by simp only [List.map_toArray, List.map_cons, List.map_nil, hs.ev (x := .tmp 74) rfl]; exact run_bs [(iq r20.1)] [(iq r20.1)] Tryd.underlying52 to3 rfl rfl (bs_cons (l := [(iq r20.1)]) (cs := []) (cv_rfl rfl) rfl bs_nil) hm⟩) (fun hm => ⟨_, _, rfl, (fun _ => rfl) hm, rfl⟩) rfl (fun v25 => ?_)
 refine al_nil ?_
 exact fr_fin hK_ v25⟩, ⟨_, rfl, [], rfl, by
 intro X_ Y_ F_ K_ hK_
 refine al_show (m := Mem.plus (memOf w0 Z0 [] [(oBox g1 92 [(bool false), Value.nilFunc]), (oBox j2g5 4 [(bool j2b5_0)]), (oRow l13v6_0 3 tq l13x6_0), (oBox g6 52 [l13v6_0]), (oRow l13v7_0 3 tq l13x7_0), (oBox g7 52 [l13v7_0])] [(fDat (tyList tq) [j23v0] j23x0), (fDat (tyList tq) [v21] r20.2.1), (fDat (tyList tq) [l13v0] l13x0), (fDat (tyList tq) [j4v0] j4x0), (fDat (tyList tq) [v0_0] a0)]) X_ Y_) (S := over (tab [(0, j23v0), (2, (pq g1)), (5, (pq j2g5)), (6, (pq g6)), (7, (pq g7)), (8, (iq r20.1)), (11, (iq j23i11))]) F_) ?_
 refine al_val (ov_load (i := 5) (v := l13v7_0) rfl rfl Tryd.underlying52 sz52 rfl rfl rfl rfl) ?_
 refine al_nil ?_
 exact fr_fin hK_ ()⟩, ⟨_, rfl, [], rfl, by
 intro X_ Y_ F_ K_ hK_
 refine al_show (m := Mem.plus (memOf w0 Z0 [] [(oBox g1 92 [(bool false), Value.nilFunc]), (oBox j2g5 4 [(bool j2b5_0)]), (oRow l13v6_0 3 tq l13x6_0), (oBox g6 52 [l13v6_0]), (oRow l13v7_0 3 tq l13x7_0), (oBox g7 52 [l13v7_0])] [(fDat (tyList tq) [j23v0] j23x0), (fDat (tyList tq) [v21] r20.2.1), (fDat (tyList tq) [l13v0] l13x0), (fDat (tyList tq) [j4v0] j4x0), (fDat (tyList tq) [v0_0] a0)]) X_ Y_) (S := over (tab [(0, j23v0), (2, (pq g1)), (5, (pq j2g5)), (6, (pq g6)), (7, (pq g7)), (8, (iq r20.1)), (11, (iq j23i11))]) F_) ?_
 refine al_mv rfl rfl ?_
 refine al_nil ?_
 exact fr_fin hK_ ()⟩, ⟨_, rfl, [4], rfl, by
 intro _
 intro X_ Y_ F_ K_ hK_
 refine al_show (m := Mem.plus (memOf w0 Z0 [] [(oBox g1 92 [(bool false), Value.nilFunc]), (oBox j2g5 4 [(bool j2b5_0)]), (oRow l13v6_0 3 tq l13x6_0), (oBox g6 52 [l13v6_0]), (oRow l13v7_0 3 tq l13x7_0), (oBox g7 52 [l13v7_0])] [(fDat (tyList tq) [j23v0] j23x0), (fDat (tyList tq) [v21] r20.2.1), (fDat (tyList tq) [l13v0] l13x0), (fDat (tyList tq) [j4v0] j4x0), (fDat (tyList tq) [v0_0] a0)]) X_ Y_) (S := over (put (tab [(0, j23v0), (2, (pq g1)), (5, (pq j2g5)), (6, (pq g6)), (7, (pq g7)), (8, (iq r20.1)), (11, (iq j23i11))]) 78 (iq j23i11)) F_) ?_
 refine al_buildSlice (τ := tq) (e := 3) (k := 1) (sz := 0) (by_ := 0) (z := undef) (cs := [(iq j23i11)]) (xs := [j23i11]) rfl (by decide) (fun w a hm hs => ⟨([(iq j23i11)]).toArray, rfl, by simp only [List.map_toArray, List.map_cons, List.map_nil, hs.ev (x := .tmp 78) rfl]; exact run_bs [(iq j23i11)] [(iq j23i11)] Tryd.underlying52 to3 rfl rfl (bs_cons (l := [(iq j23i11)]) (cs := []) (cv_rfl rfl) rfl bs_nil) hm⟩) (fun hm => ⟨_, _, rfl, (fun _ => rfl) hm, rfl⟩) rfl (fun v26 => ?_)
 refine al_nil ?_
 exact fr_fin hK_ v26⟩, trivial⟩ ?_
        intro _
        intro _
        intro v25
        intro X_ Y_ F_ K_ hK_
        refine al_show (m := Mem.plus (memOf w0 Z0 [] [(oRow v25 3 tq [r20.1]), (oBox g1 92 [(bool false), Value.nilFunc]), (oBox j2g5 4 [(bool j2b5_0)]), (oRow l13v6_0 3 tq l13x6_0), (oBox g6 52 [l13v6_0]), (oRow l13v7_0 3 tq l13x7_0), (oBox g7 52 [l13v7_0])] [(fDat (tyList tq) [j23v0] j23x0), (fDat (tyList tq) [v21] r20.2.1), (fDat (tyList tq) [l13v0] l13x0), (fDat (tyList tq) [j4v0] j4x0), (fDat (tyList tq) [v0_0] a0)]) X_ Y_) (S := over (put (put (put (tab [(0, j23v0), (2, (pq g1)), (5, (pq j2g5)), (6, (pq g6)), (7, (pq g7)), (8, (iq r20.1)), (11, (iq j23i11))]) 73 l13v6_0) 74 (iq r20.1)) 75 v25) F_) ?_
        obtain ⟨hc27, h⟩ := req_some h
        refine al_append 3 hc27.1 hc27.2 rfl (src_own (i := 3) 0 rfl) rfl rfl Tryd.underlying52 to3 rfl rfl rfl (fun v28 => ?_)
        refine al_nil ?_
        refine aq_show (m := Mem.plus (memOf w0 Z0 [] [(oRow v25 3 tq [r20.1]), (oBox g1 92 [(bool false), Value.nilFunc]), (oBox j2g5 4 [(bool j2b5_0)]), (oRow v28 3 tq (l13x6_0 ++ ([r20.1]))), (oBox g6 52 [l13v6_0]), (oRow l13v7_0 3 tq l13x7_0), (oBox g7 52 [l13v7_0])] [(fDat (tyList tq) [j23v0] j23x0), (fDat (tyList tq) [v21] r20.2.1), (fDat (tyList tq) [l13v0] l13x0), (fDat (tyList tq) [j4v0] j4x0), (fDat (tyList tq) [v0_0] a0)]) X_ Y_) ?_
        refine aq_next hK_ [0, 1, 2, 3, 4, 5, 6] [0, 1, 2, 3, 4] [(0, j23v0), (2, (pq g1)), (5, (pq j2g5)), (6, (pq g6)), (7, (pq g7)), (11, (iq j23i11)), (76, v28)] [77, 78, 79] [] rfl rfl (by decide) rfl ⟨rfl, rfl, rfl, rfl, rfl, rfl, rfl, trivial⟩ ⟨rfl, rfl, rfl, trivial⟩ ?_
        clear hK_ K_ F_ X_ Y_
        refine ta_show (m := (memOf w0 Z0 [] [(oRow v25 3 tq [r20.1]), (oBox g1 92 [(bool false), Value.nilFunc]), (oBox j2g5 4 [(bool j2b5_0)]), (oRow v28 3 tq (l13x6_0 ++ ([r20.1]))), (oBox g6 52 [l13v6_0]), (oRow l13v7_0 3 tq l13x7_0), (oBox g7 52 [l13v7_0])] [(fDat (tyList tq) [j23v0] j23x0), (fDat (tyList tq) [v21] r20.2.1), (fDat (tyList tq) [l13v0] l13x0), (fDat (tyList tq) [j4v0] j4x0), (fDat (tyList tq) [v0_0] a0)])) (S := (tab [(0, j23v0), (2, (pq g1)), (5, (pq j2g5)), (6, (pq g6)), (7, (pq g7)), (11, (iq j23i11)), (76, v28)])) ?_
        refine ta_step 7 _ [4, 5, 6] [77, 78, 79] [4, 5, 6] [] [⟨4, 77, Unit, fun _ => { val := l13v7_0 }⟩, ⟨5, 78, Unit, fun _ => { val := (iq j23i11) }⟩, ⟨6, 79, Value, fun (i : Value) => { val := i, own := [(oRow i 3 tq [j23i11])] }⟩] [] rfl rfl rfl (by kernel_rfl) rfl rfl rfl ⟨⟨_, rfl, [], rfl, by
 intro X_ Y_ F_ K_ hK_
 refine al_show (m := Mem.plus (memOf w0 Z0 [] [(oRow v25 3 tq [r20.1]), (oBox g1 92 [(bool false), Value.nilFunc]), (oBox j2g5 4 [(bool j2b5_0)]), (oRow v28 3 tq (l13x6_0 ++ ([r20.1]))), (oBox g6 52 [l13v6_0]), (oRow l13v7_0 3 tq l13x7_0), (oBox g7 52 [l13v7_0])] [(fDat (tyList tq) [j23v0] j23x0), (fDat (tyList tq) [v21] r20.2.1), (fDat (tyList tq) [l13v0] l13x0), (fDat (tyList tq) [j4v0] j4x0), (fDat (tyList tq) [v0_0] a0)]) X_ Y_) (S := over (tab [(0, j23v0), (2, (pq g1)), (5, (pq j2g5)), (6, (pq g6)), (7, (pq g7)), (11, (iq j23i11)), (76, v28)]) F_) ?_
 refine al_val (ov_load (i := 6) (v := l13v7_0) rfl rfl Tryd.underlying52 sz52 rfl rfl rfl rfl) ?_
 refine al_nil ?_
 exact fr_fin hK_ ()⟩, ⟨_, rfl, [], rfl, by
 intro X_ Y_ F_ K_ hK_
 refine al_show (m := Mem.plus (memOf w0 Z0 [] [(oRow v25 3 tq [r20.1]), (oBox g1 92 [(bool false), Value.nilFunc]), (oBox j2g5 4 [(bool j2b5_0)]), (oRow v28 3 tq (l13x6_0 ++ ([r20.1]))), (oBox g6 52 [l13v6_0]), (oRow l13v7_0 3 tq l13x7_0), (oBox g7 52 [l13v7_0])] [(fDat (tyList tq) [j23v0] j23x0), (fDat (tyList tq) [v21] r20.2.1), (fDat (tyList tq) [l13v0] l13x0), (fDat (tyList tq) [j4v0] j4x0), (fDat (tyList tq) [v0_0] a0)]) X_ Y_) (S := over (tab [(0, j23v0), (2, (pq g1)), (5, (pq j2g5)), (6, (pq g6)), (7, (pq g7)), (11, (iq j23i11)), (76, v28)]) F_) ?_
 refine al_mv rfl rfl ?_
 refine al_nil ?_
 exact fr_fin hK_ ()⟩, ⟨_, rfl, [1], rfl, by
 intro _
 intro X_ Y_ F_ K_ hK_
 refine al_show (m := Mem.plus (memOf w0 Z0 [] [(oRow v25 3 tq [r20.1]), (oBox g1 92 [(bool false), Value.nilFunc]), (oBox j2g5 4 [(bool j2b5_0)]), (oRow v28 3 tq (l13x6_0 ++ ([r20.1]))), (oBox g6 52 [l13v6_0]), (oRow l13v7_0 3 tq l13x7_0), (oBox g7 52 [l13v7_0])] [(fDat (tyList tq) [j23v0] j23x0), (fDat (tyList tq) [v21] r20.2.1), (fDat (tyList tq) [l13v0] l13x0), (fDat (tyList tq) [j4v0] j4x0), (fDat (tyList tq) [v0_0] a0)]) X_ Y_) (S := over (put (tab [(0, j23v0), (2, (pq g1)), (5, (pq j2g5)), (6, (pq g6)), (7, (pq g7)), (11, (iq j23i11)), (76, v28)]) 78 (iq j23i11)) F_) ?_
 refine al_buildSlice (τ := tq) (e := 3) (k := 1) (sz := 0) (by_ := 0) (z := undef) (cs := [(iq j23i11)]) (xs := [j23i11]) rfl (by decide) (fun w a hm hs => ⟨([(iq j23i11)]).toArray, rfl, by simp only [List.map_toArray, List.map_cons, List.map_nil, hs.ev (x := .tmp 78) rfl]; exact run_bs [(iq j23i11)] [(iq j23i11)] Tryd.underlying52 to3 rfl rfl (bs_cons (l := [(iq j23i11)]) (cs := []) (cv_rfl rfl) rfl bs_nil) hm⟩) (fun hm => ⟨_, _, rfl, (fun _ => rfl) hm, rfl⟩) rfl (fun v26 => ?_)
 refine al_nil ?_
 exact fr_fin hK_ v26⟩, trivial⟩ ?_
        intro _
        intro _
        intro v26
        intro X_ Y_ F_ K_ hK_
        refine al_show (m := Mem.plus (memOf w0 Z0 [] [(oRow v26 3 tq [j23i11]), (oRow v25 3 tq [r20.1]), (oBox g1 92 [(bool false), Value.nilFunc]), (oBox j2g5 4 [(bool j2b5_0)]), (oRow v28 3 tq (l13x6_0 ++ ([r20.1]))), (oBox g6 52 [l13v6_0]), (oRow l13v7_0 3 tq l13x7_0), (oBox g7 52 [l13v7_0])] [(fDat (tyList tq) [j23v0] j23x0), (fDat (tyList tq) [v21] r20.2.1), (fDat (tyList tq) [l13v0] l13x0), (fDat (tyList tq) [j4v0] j4x0), (fDat (tyList tq) [v0_0] a0)]) X_ Y_) (S := over (put (put (put (tab [(0, j23v0), (2, (pq g1)), (5, (pq j2g5)), (6, (pq g6)), (7, (pq g7)), (11, (iq j23i11)), (76, v28)]) 77 l13v7_0) 78 (iq j23i11)) 79 v26) F_) ?_
        obtain ⟨hc29, h⟩ := req_some h
        refine al_append 6 hc29.1 hc29.2 rfl (src_own (i := 6) 0 rfl) rfl rfl Tryd.underlying52 to3 rfl rfl rfl (fun v30 => ?_)
        refine al_nil ?_
        refine aq_show (m := Mem.plus (memOf w0 Z0 [] [(oRow v26 3 tq [j23i11]), (oRow v25 3 tq [r20.1]), (oBox g1 92 [(bool false), Value.nilFunc]), (oBox j2g5 4 [(bool j2b5_0)]), (oRow v28 3 tq (l13x6_0 ++ ([r20.1]))), (oBox g6 52 [l13v6_0]), (oRow v30 3 tq (l13x7_0 ++ ([j23i11]))), (oBox g7 52 [l13v7_0])] [(fDat (tyList tq) [j23v0] j23x0), (fDat (tyList tq) [v21] r20.2.1), (fDat (tyList tq) [l13v0] l13x0), (fDat (tyList tq) [j4v0] j4x0), (fDat (tyList tq) [v0_0] a0)]) X_ Y_) ?_
        refine aq_next hK_ [0, 1, 2, 3, 4, 5, 6, 7] [0, 1, 2, 3, 4] [(0, j23v0), (2, (pq g1)), (5, (pq j2g5)), (6, (pq g6)), (7, (pq g7)), (76, v28), (80, v30)] [] [] rfl rfl (by decide) rfl ⟨rfl, rfl, rfl, rfl, rfl, rfl, rfl, trivial⟩ trivial ?_
        clear hK_ K_ F_ X_ Y_
        refine ta_show (m := (memOf w0 Z0 [] [(oRow v26 3 tq [j23i11]), (oRow v25 3 tq [r20.1]), (oBox g1 92 [(bool false), Value.nilFunc]), (oBox j2g5 4 [(bool j2b5_0)]), (oRow v28 3 tq (l13x6_0 ++ ([r20.1]))), (oBox g6 52 [l13v6_0]), (oRow v30 3 tq (l13x7_0 ++ ([j23i11]))), (oBox g7 52 [l13v7_0])] [(fDat (tyList tq) [j23v0] j23x0), (fDat (tyList tq) [v21] r20.2.1), (fDat (tyList tq) [l13v0] l13x0), (fDat (tyList tq) [j4v0] j4x0), (fDat (tyList tq) [v0_0] a0)])) (S := (tab [(0, j23v0), (2, (pq g1)), (5, (pq j2g5)), (6, (pq g6)), (7, (pq g7)), (76, v28), (80, v30)])) ?_
        refine ta_step 8 _ [] [] [] [] [] [] rfl rfl rfl (by kernel_rfl) rfl rfl rfl trivial ?_
        intro X_ Y_ F_ K_ hK_
        refine al_show (m := Mem.plus (memOf w0 Z0 [] [(oRow v26 3 tq [j23i11]), (oRow v25 3 tq [r20.1]), (oBox g1 92 [(bool false), Value.nilFunc]), (oBox j2g5 4 [(bool j2b5_0)]), (oRow v28 3 tq (l13x6_0 ++ ([r20.1]))), (oBox g6 52 [l13v6_0]), (oRow v30 3 tq (l13x7_0 ++ ([j23i11]))), (oBox g7 52 [l13v7_0])] [(fDat (tyList tq) [j23v0] j23x0), (fDat (tyList tq) [v21] r20.2.1), (fDat (tyList tq) [l13v0] l13x0), (fDat (tyList tq) [j4v0] j4x0), (fDat (tyList tq) [v0_0] a0)]) X_ Y_) (S := over (tab [(0, j23v0), (2, (pq g1)), (5, (pq j2g5)), (6, (pq g6)), (7, (pq g7)), (76, v28), (80, v30)]) F_) ?_
        refine al_store (i := 5) (vs := [v28]) (cs' := [v28]) rfl rfl rfl sz52 (cv_own 4 rfl) rfl (co_own 4 rfl co_nil) (Nat.le_of_ble_eq_true rfl) rfl rfl ?_
        refine al_nil ?_
        refine aq_show (m := Mem.plus (memOf w0 Z0 [] [(oRow v26 3 tq [j23i11]), (oRow v25 3 tq [r20.1]), (oBox g1 92 [(bool false), Value.nilFunc]), (oBox j2g5 4 [(bool j2b5_0)]), (oRow v28 3 tq (l13x6_0 ++ ([r20.1]))), (oBox g6 52 [v28]), (oRow v30 3 tq (l13x7_0 ++ ([j23i11]))), (oBox g7 52 [l13v7_0])] [(fDat (tyList tq) [j23v0] j23x0), (fDat (tyList tq) [v21] r20.2.1), (fDat (tyList tq) [l13v0] l13x0), (fDat (tyList tq) [j4v0] j4x0), (fDat (tyList tq) [v0_0] a0)]) X_ Y_) ?_
        refine aq_next hK_ [0, 1, 2, 3, 4, 5, 6, 7] [0, 1, 2, 3, 4] [(0, j23v0), (2, (pq g1)), (5, (pq j2g5)), (6, (pq g6)), (7, (pq g7)), (80, v30)] [] [] rfl rfl (by decide) rfl ⟨rfl, rfl, rfl, rfl, rfl, rfl, trivial⟩ trivial ?_
        clear hK_ K_ F_ X_ Y_
        refine ta_show (m := (memOf w0 Z0 [] [(oRow v26 3 tq [j23i11]), (oRow v25 3 tq [r20.1]), (oBox g1 92 [(bool false), Value.nilFunc]), (oBox j2g5 4 [(bool j2b5_0)]), (oRow v28 3 tq (l13x6_0 ++ ([r20.1]))), (oBox g6 52 [v28]), (oRow v30 3 tq (l13x7_0 ++ ([j23i11]))), (oBox g7 52 [l13v7_0])] [(fDat (tyList tq) [j23v0] j23x0), (fDat (tyList tq) [v21] r20.2.1), (fDat (tyList tq) [l13v0] l13x0), (fDat (tyList tq) [j4v0] j4x0), (fDat (tyList tq) [v0_0] a0)])) (S := (tab [(0, j23v0), (2, (pq g1)), (5, (pq j2g5)), (6, (pq g6)), (7, (pq g7)), (80, v30)])) ?_
        refine ta_step 9 _ [] [] [] [] [] [] rfl rfl rfl (by kernel_rfl) rfl rfl rfl trivial ?_
        intro X_ Y_ F_ K_ hK_
        refine al_show (m := Mem.plus (memOf w0 Z0 [] [(oRow v26 3 tq [j23i11]), (oRow v25 3 tq [r20.1]), (oBox g1 92 [(bool false), Value.nilFunc]), (oBox j2g5 4 [(bool j2b5_0)]), (oRow v28 3 tq (l13x6_0 ++ ([r20.1]))), (oBox g6 52 [v28]), (oRow v30 3 tq (l13x7_0 ++ ([j23i11]))), (oBox g7 52 [l13v7_0])] [(fDat (tyList tq) [j23v0] j23x0), (fDat (tyList tq) [v21] r20.2.1), (fDat (tyList tq) [l13v0] l13x0), (fDat (tyList tq) [j4v0] j4x0), (fDat (tyList tq) [v0_0] a0)]) X_ Y_) (S := over (tab [(0, j23v0), (2, (pq g1)), (5, (pq j2g5)), (6, (pq g6)), (7, (pq g7)), (80, v30)]) F_) ?_
        refine al_store (i := 7) (vs := [v30]) (cs' := [v30]) rfl rfl rfl sz52 (cv_own 6 rfl) rfl (co_own 6 rfl co_nil) (Nat.le_of_ble_eq_true rfl) rfl rfl ?_
        refine al_nil ?_
        refine aq_show (m := Mem.plus (memOf w0 Z0 [] [(oRow v26 3 tq [j23i11]), (oRow v25 3 tq [r20.1]), (oBox g1 92 [(bool false), Value.nilFunc]), (oBox j2g5 4 [(bool j2b5_0)]), (oRow v28 3 tq (l13x6_0 ++ ([r20.1]))), (oBox g6 52 [v28]), (oRow v30 3 tq (l13x7_0 ++ ([j23i11]))), (oBox g7 52 [v30])] [(fDat (tyList tq) [j23v0] j23x0), (fDat (tyList tq) [v21] r20.2.1), (fDat (tyList tq) [l13v0] l13x0), (fDat (tyList tq) [j4v0] j4x0), (fDat (tyList tq) [v0_0] a0)]) X_ Y_) ?_
        refine aq_next hK_ [0, 1, 2, 3, 4, 5, 6, 7] [0, 1, 2, 3, 4] [(0, j23v0), (2, (pq g1)), (5, (pq j2g5)), (6, (pq g6)), (7, (pq g7))] [] [] rfl rfl (by decide) rfl ⟨rfl, rfl, rfl, rfl, rfl, trivial⟩ trivial ?_
        clear hK_ K_ F_ X_ Y_
        refine ta_show (m := (memOf w0 Z0 [] [(oRow v26 3 tq [j23i11]), (oRow v25 3 tq [r20.1]), (oBox g1 92 [(bool false), Value.nilFunc]), (oBox j2g5 4 [(bool j2b5_0)]), (oRow v28 3 tq (l13x6_0 ++ ([r20.1]))), (oBox g6 52 [v28]), (oRow v30 3 tq (l13x7_0 ++ ([j23i11]))), (oBox g7 52 [v30])] [(fDat (tyList tq) [j23v0] j23x0), (fDat (tyList tq) [v21] r20.2.1), (fDat (tyList tq) [l13v0] l13x0), (fDat (tyList tq) [j4v0] j4x0), (fDat (tyList tq) [v0_0] a0)])) (S := (tab [(0, j23v0), (2, (pq g1)), (5, (pq j2g5)), (6, (pq g6)), (7, (pq g7))])) ?_
        refine ta_end [] [] rfl rfl (by kernel_rfl) rfl trivial ?_
        refine aq_show (m := (memOf w0 Z0 [] [(oRow v26 3 tq [j23i11]), (oRow v25 3 tq [r20.1]), (oBox g1 92 [(bool false), Value.nilFunc]), (oBox j2g5 4 [(bool j2b5_0)]), (oRow v28 3 tq (l13x6_0 ++ ([r20.1]))), (oBox g6 52 [v28]), (oRow v30 3 tq (l13x7_0 ++ ([j23i11]))), (oBox g7 52 [v30])] [(fDat (tyList tq) [j23v0] j23x0), (fDat (tyList tq) [v21] r20.2.1), (fDat (tyList tq) [l13v0] l13x0), (fDat (tyList tq) [j4v0] j4x0), (fDat (tyList tq) [v0_0] a0)])) (S := (tab [(0, j23v0), (2, (pq g1)), (5, (pq j2g5)), (6, (pq g6)), (7, (pq g7))])) ?_
        refine aq_block ?_
        exact aq_again k14 (j23v0, j23x0, v28, (l13x6_0 ++ ([r20.1])), v30, (l13x7_0 ++ ([j23i11]))) (Nat.lt_succ_self _) h (fun w a hm hs => norm hm hs [2, 3, 4, 5, 6, 7] [0, 3, 4] [(0, j23v0), (2, (pq g1)), (5, (pq j2g5)), (6, (pq g6)), (7, (pq g7))] (by decide) ⟨rfl, rfl, rfl, rfl, rfl, trivial⟩)
       ·clear hkk24
        obtain ⟨kk32, hkk32, h⟩ := lt_some h
        refine aw_seq_join (ι := Bool) (fun i => (memOf w0 Z0 [] [(oBox g1 92 [(bool false), Value.nilFunc]), (oBox j2g5 4 [(bool j2b5_0)]), (oRow l13v6_0 3 tq l13x6_0), (oBox g6 52 [l13v6_0]), (oRow l13v7_0 3 tq l13x7_0), (oBox g7 52 [l13v7_0])] [(fDat (tyList tq) [v21] r20.2.1), (fDat (tyList tq) [l13v0] l13x0), (fDat (tyList tq) [j4v0] j4x0), (fDat (tyList tq) [v0_0] a0)])) (fun i => (tab [(0, v21), (2, (pq g1)), (5, (pq j2g5)), (6, (pq g6)), (7, (pq g7)), (8, (iq r20.1)), (11, (iq r20.1)), (57, (bool i))])) (fun i => kk32 i = some r) ?_ ?_
        ·rintro j31b57 h
         have h : kk32 j31b57 = some r := h
         rw [hkk32] at h
         dsimp only at h
         clear hkk32
         refine aw_show (m := (memOf w0 Z0 [] [(oBox g1 92 [(bool false), Value.nilFunc]), (oBox j2g5 4 [(bool j2b5_0)]), (oRow l13v6_0 3 tq l13x6_0), (oBox g6 52 [l13v6_0]), (oRow l13v7_0 3 tq l13x7_0), (oBox g7 52 [l13v7_0])] [(fDat (tyList tq) [v21] r20.2.1), (fDat (tyList tq) [l13v0] l13x0), (fDat (tyList tq) [j4v0] j4x0), (fDat (tyList tq) [v0_0] a0)])) (S := (tab [(0, v21), (2, (pq g1)), (5, (pq j2g5)), (6, (pq g6)), (7, (pq g7)), (8, (iq r20.1)), (11, (iq r20.1)), (57, (bool j31b57))])) ?_
         refine aw_cond rfl (fun hb33 => ?_) (fun hb33 => ?_)
         ·replace h := bif_t hb33 h
          refine aw_sr ?_
          refine al_mv rfl rfl ?_
          obtain ⟨hc34, h⟩ := req_some h
          refine al_sliceDF 0 hc34.1 hc34.2 rfl rfl rfl Tryd.underlying52 sz3 rfl (fun s35 => ?_)
          obtain ⟨r37, hc36, h⟩ := opt_some h
          refine al_call (vs := [s35]) (f_lumref_plain_ok fu s35 (r20.2.1.drop ((1 : Int)).toNat) hc36) [] [] [0, 1, 2, 3, 4, 5] (pre_fz 0 rfl pre_nil) rfl (by simp) (by decide) (.inl rfl) rfl Tryd.func82 rfl rfl rfl (fun v38 => ?_)
          refine al_mv rfl rfl ?_
          refine al_ex rfl rfl rfl ?_
          refine al_ex rfl rfl rfl ?_
          refine al_ex rfl rfl rfl ?_
          refine al_as rfl rfl ?_
          refine al_as rfl rfl ?_
          refine al_as rfl rfl ?_
          refine al_nt ?_
          obtain ⟨kk40, hkk40, h⟩ := lt_some h
          refine aw_seq_join (ι := Bool) (fun i => (memOf w0 Z0 [] [(oBox g1 92 [(bool false), Value.nilFunc]), (oBox j2g5 4 [(bool j2b5_0)]), (oRow l13v6_0 3 tq l13x6_0), (oBox g6 52 [l13v6_0]), (oRow l13v7_0 3 tq l13x7_0), (oBox g7 52 [l13v7_0])] [(fDat (tyList tq) [v38] r37.2.1), (fDat (tyList tq) [s35] (r20.2.1.drop ((1 : Int)).toNat)), (fDat (tyList tq) [v21] r20.2.1), (fDat (tyList tq) [l13v0] l13x0), (fDat (tyList tq) [j4v0] j4x0), (fDat (tyList tq) [v0_0] a0)])) (fun i => (tab [(0, v38), (2, (pq g1)), (5, (pq j2g5)), (6, (pq g6)), (7, (pq g7)), (8, (iq r20.1)), (11, (iq r37.1)), (71, (bool i))])) (fun i => kk40 i = some r) ?_ ?_
          ·rintro j39b71 h
           have h : kk40 j39b71 = some r := h
           rw [hkk40] at h
           dsimp only at h
           clear hkk40
           refine aw_show (m := (memOf w0 Z0 [] [(oBox g1 92 [(bool false), Value.nilFunc]), (oBox j2g5 4 [(bool j2b5_0)]), (oRow l13v6_0 3 tq l13x6_0), (oBox g6 52 [l13v6_0]), (oRow l13v7_0 3 tq l13x7_0), (oBox g7 52 [l13v7_0])] [(fDat (tyList tq) [v38] r37.2.1), (fDat (tyList tq) [s35] (r20.2.1.drop ((1 : Int)).toNat)), (fDat (tyList tq) [v21] r20.2.1), (fDat (tyList tq) [l13v0] l13x0), (fDat (tyList tq) [j4v0] j4x0), (fDat (tyList tq) [v0_0] a0)])) (S := (tab [(0, v38), (2, (pq g1)), (5, (pq j2g5)), (6, (pq g6)), (7, (pq g7)), (8, (iq r20.1)), (11, (iq r37.1)), (71, (bool j39b71))])) ?_
           refine aw_cond rfl (fun hb41 => ?_) (fun hb41 => ?_)
           ·replace h := bif_t hb41 h
            refine aw_sr ?_
            refine al_val (ov_build (cells := ([(bool false), Value.nilFunc] : List Value).toArray) (cs := [(bool false), Value.nilFunc]) rfl (fun w a hm hs => by simp only [List.map_toArray, List.map_cons, List.map_nil, List.toList_toArray]; kernel_rfl)) ?_
            refine al_store (i := 0) (vs := [(bool false), Value.nilFunc]) (cs' := [(bool false), Value.nilFunc]) rfl rfl rfl sz92 (cv_rfl rfl) rfl (co_val rfl (co_val rfl co_nil)) (Nat.le_of_ble_eq_true rfl) rfl rfl ?_
            refine al_as rfl rfl ?_
            refine al_as rfl rfl ?_
            refine al_nt ?_
            refine aw_ret ?_
            refine aq_then_ret ?_
            refine aq_block_ret ?_
            refine aq_then_ret ?_
            refine aq_block_ret ?_
            refine aq_then_ret ?_
            refine aq_addf (f := fDat tyC74 [Value.nilFunc] C74.nil) mkC74_nil ?_
            refine aq_nilD tq ?_
            obtain rfl := Option.some.inj h
            exact fn_ret (Value.nilFunc, nS) [] [1, 0] rfl rfl rfl rfl (resC rfl (resB (i := 0) rfl rfl Tryd.underlying92 sz92 rfl rfl rfl (resT rfl (resT rfl (resN)))) rfl) rfl rfl rfl (by decide)
           ·replace h := bif_f hb41 h
            refine aw_skip ?_
            exact aq_join (v38, r37.2.1, r37.1) h (fun w a hm hs => norm hm hs [0, 1, 2, 3, 4, 5] [0, 2, 3, 4, 5] [(0, v38), (2, (pq g1)), (5, (pq j2g5)), (6, (pq g6)), (7, (pq g7)), (8, (iq r20.1)), (11, (iq r37.1))] (by decide) ⟨rfl, rfl, rfl, rfl, rfl, rfl, rfl, trivial⟩)
          ·clear hkk40
           refine aw_region ?_
           refine al_mv rfl rfl ?_
           refine al_val (ov_not rfl rfl) ?_
           refine al_mv rfl rfl ?_
           refine al_caseB 67 rfl (fun hb42 => ?_) (fun hb42 => ?_)
           ·replace h := bif_t hb42 h
            refine al_skip ?_
            refine al_skip ?_
            refine al_skip ?_
            refine al_val (ov_pick_t rfl rfl rfl) ?_
            refine al_nil ?_
            exact aq_join true h (fun w a hm hs => norm hm hs [0, 1, 2, 3, 4, 5] [0, 1, 2, 3, 4, 5] [(0, v38), (2, (pq g1)), (5, (pq j2g5)), (6, (pq g6)), (7, (pq g7)), (8, (iq r20.1)), (11, (iq r37.1)), (71, (bool true))] (by decide) ⟨rfl, rfl, rfl, rfl, rfl, rfl, rfl, rfl, trivial⟩)
           ·replace h := bif_f hb42 h
            refine al_mv rfl rfl ?_
            refine al_mv rfl rfl ?_
            refine al_in rfl rfl rfl rfl ?_
            refine al_val (ov_pick_f rfl rfl rfl) ?_
            refine al_nil ?_
            exact aq_join (decide (r37.1 < r20.1)) h (fun w a hm hs => norm hm hs [0, 1, 2, 3, 4, 5] [0, 1, 2, 3, 4, 5] [(0, v38), (2, (pq g1)), (5, (pq j2g5)), (6, (pq g6)), (7, (pq g7)), (8, (iq r20.1)), (11, (iq r37.1)), (71, (bool (decide (r37.1 < r20.1))))] (by decide) ⟨rfl, rfl, rfl, rfl, rfl, rfl, rfl, rfl, trivial⟩)
         ·replace h := bif_f hb33 h
          refine aw_skip ?_
          exact aq_join (v21, r20.2.1, r20.1) h (fun w a hm hs => norm hm hs [0, 1, 2, 3, 4, 5] [0, 0, 1, 2, 3] [(0, v21), (2, (pq g1)), (5, (pq j2g5)), (6, (pq g6)), (7, (pq g7)), (8, (iq r20.1)), (11, (iq r20.1))] (by decide) ⟨rfl, rfl, rfl, rfl, rfl, rfl, rfl, trivial⟩)
        ·clear hkk32
         refine aw_region ?_
         refine al_mv rfl rfl ?_
         refine al_val (ov_lenD 0 rfl rfl Tryd.underlying52 rfl) ?_
         refine al_in rfl rfl rfl rfl ?_
         refine al_mv rfl rfl ?_
         refine al_caseB 52 rfl (fun hb43 => ?_) (fun hb43 => ?_)
         ·replace h := bif_t hb43 h
          refine al_mv rfl rfl ?_
          obtain ⟨u44, hu45, h⟩ := opt_some h
          refine al_idxD 0 hu45 rfl rfl rfl Tryd.underlying52 sz3 rfl (fun p46 => ?_)
          refine al_val (ov_loadP (ds := [(iq u44)]) 0 rfl (fun h => h) rfl Tryd.underlying3 sz3 rfl rfl rfl) ?_
          refine al_in rfl rfl rfl rfl ?_
          refine al_val (ov_pick_t rfl rfl rfl) ?_
          refine al_nil ?_
          exact aq_join (u44 == (45 : Int)) h (fun w a hm hs => norm hm hs [0, 1, 2, 3, 4, 5] [1, 2, 3, 4] [(0, v21), (2, (pq g1)), (5, (pq j2g5)), (6, (pq g6)), (7, (pq g7)), (8, (iq r20.1)), (11, (iq r20.1)), (57, (bool (u44 == (45 : Int))))] (by decide) ⟨rfl, rfl, rfl, rfl, rfl, rfl, rfl, rfl, trivial⟩)
         ·replace h := bif_f hb43 h
          refine al_skip ?_
          refine al_skip ?_
          refine al_skip ?_
          refine al_skip ?_
          refine al_val (ov_pick_f rfl rfl rfl) ?_
          refine al_nil ?_
          exact aq_join false h (fun w a hm hs => norm hm hs [0, 1, 2, 3, 4, 5] [0, 1, 2, 3] [(0, v21), (2, (pq g1)), (5, (pq j2g5)), (6, (pq g6)), (7, (pq g7)), (8, (iq r20.1)), (11, (iq r20.1)), (57, (bool false))] (by decide) ⟨rfl, rfl, rfl, rfl, rfl, rfl, rfl, rfl, trivial⟩)
     ·replace h := bif_f hb18 h
      refine aw_exit ?_
      refine aq_then_exit ?_
      refine aq_then_exit ?_
      refine aq_block_exit ?_
      exact aq_join (l13v0, l13x0, l13v6_0, l13x6_0, l13v7_0, l13x7_0) h (fun w a hm hs => norm hm hs [0, 1, 2, 3, 4, 5] [0, 1, 2] [(0, l13v0), (2, (pq g1)), (5, (pq j2g5)), (6, (pq g6)), (7, (pq g7))] (by decide) ⟨rfl, rfl, rfl, rfl, rfl, trivial⟩)
    ·clear hkk17
     refine aw_region ?_
     refine al_val (ov_load (i := 3) (v := l13v6_0) rfl rfl Tryd.underlying52 sz52 rfl rfl rfl rfl) ?_
     refine al_val (ov_lenR 2 rfl rfl Tryd.underlying52 rfl) ?_
     refine al_in rfl rfl rfl rfl ?_
     refine al_mv rfl rfl ?_
     refine al_caseB 27 rfl (fun hb47 => ?_) (fun hb47 => ?_)
     ·replace h := bif_t hb47 h
      refine al_skip ?_
      refine al_skip ?_
      refine al_skip ?_
      refine al_skip ?_
      refine al_skip ?_
      refine al_skip ?_
      refine al_skip ?_
      refine al_skip ?_
      refine al_skip ?_
      refine al_val (ov_pick_t rfl rfl rfl) ?_
      refine al_nil ?_
      exact aq_join true h (fun w a hm hs => norm hm hs [0, 1, 2, 3, 4, 5] [0, 1, 2] [(0, l13v0), (2, (pq g1)), (5, (pq j2g5)), (6, (pq g6)), (7, (pq g7)), (37, (bool true))] (by decide) ⟨rfl, rfl, rfl, rfl, rfl, rfl, trivial⟩)
     ·replace h := bif_f hb47 h
      refine al_mv rfl rfl ?_
      refine al_val (ov_lenD 0 rfl rfl Tryd.underlying52 rfl) ?_
      refine al_in rfl rfl rfl rfl ?_
      refine al_mv rfl rfl ?_
      refine al_caseB 31 rfl (fun hb48 => ?_) (fun hb48 => ?_)
      ·replace h := bif_t hb48 h
       refine al_mv rfl rfl ?_
       obtain ⟨u49, hu50, h⟩ := opt_some h
       refine al_idxD 0 hu50 rfl rfl rfl Tryd.underlying52 sz3 rfl (fun p51 => ?_)
       refine al_val (ov_loadP (ds := [(iq u49)]) 0 rfl (fun h => h) rfl Tryd.underlying3 sz3 rfl rfl rfl) ?_
       refine al_in rfl rfl rfl rfl ?_
       refine al_val (ov_pick_t rfl rfl rfl) ?_
       refine al_val (ov_pick_f rfl rfl rfl) ?_
       refine al_nil ?_
       exact aq_join (u49 != (93 : Int)) h (fun w a hm hs => norm hm hs [0, 1, 2, 3, 4, 5] [1, 2, 3] [(0, l13v0), (2, (pq g1)), (5, (pq j2g5)), (6, (pq g6)), (7, (pq g7)), (37, (bool (u49 != (93 : Int))))] (by decide) ⟨rfl, rfl, rfl, rfl, rfl, rfl, trivial⟩)
      ·replace h := bif_f hb48 h
       refine al_skip ?_
       refine al_skip ?_
       refine al_skip ?_
       refine al_skip ?_
       refine al_val (ov_pick_f rfl rfl rfl) ?_
       refine al_val (ov_pick_f rfl rfl rfl) ?_
       refine al_nil ?_
       exact aq_join false h (fun w a hm hs => norm hm hs [0, 1, 2, 3, 4, 5] [0, 1, 2] [(0, l13v0), (2, (pq g1)), (5, (pq j2g5)), (6, (pq g6)), (7, (pq g7)), (37, (bool false))] (by decide) ⟨rfl, rfl, rfl, rfl, rfl, rfl, trivial⟩)
  ·clear hkk5
   refine aw_sr ?_
   refine al_val (ov_load (i := 1) (v := (bool j2b5_0)) rfl rfl Tryd.underlying4 sz4 rfl rfl rfl rfl) ?_
   refine al_nt ?_
   refine aw_cond rfl (fun hb52 => ?_) (fun hb52 => ?_)
   ·replace h := bif_t hb52 h
    refine aw_region ?_
    refine al_mv rfl rfl ?_
    obtain ⟨hc53, h⟩ := req_some h
    refine al_sliceDF 0 hc53.1 hc53.2 rfl rfl rfl Tryd.underlying52 sz3 rfl (fun s54 => ?_)
    refine al_as rfl rfl ?_
    refine al_nil ?_
    exact aq_join (s54, (a0.drop ((1 : Int)).toNat)) h (fun w a hm hs => norm hm hs [0, 1] [0, 1] [(0, s54), (2, (pq g1)), (5, (pq j2g5))] (by decide) ⟨rfl, rfl, rfl, trivial⟩)
   ·replace h := bif_f hb52 h
    refine aw_skip ?_
    exact aq_join (v0_0, a0) h (fun w a hm hs => norm hm hs [0, 1] [0, 0] [(0, v0_0), (2, (pq g1)), (5, (pq j2g5))] (by decide) ⟨rfl, rfl, rfl, trivial⟩)
 ·clear hkk3
  refine aw_region ?_
  refine al_mv rfl rfl ?_
  refine al_val (ov_lenD 0 rfl rfl Tryd.underlying52 rfl) ?_
  refine al_in rfl rfl rfl rfl ?_
  refine al_mv rfl rfl ?_
  refine al_caseB 15 rfl (fun hb55 => ?_) (fun hb55 => ?_)
  ·replace h := bif_t hb55 h
   refine al_mv rfl rfl ?_
   obtain ⟨u56, hu57, h⟩ := opt_some h
   refine al_idxD 0 hu57 rfl rfl rfl Tryd.underlying52 sz3 rfl (fun p58 => ?_)
   refine al_val (ov_loadP (ds := [(iq u56)]) 0 rfl (fun h => h) rfl Tryd.underlying3 sz3 rfl rfl rfl) ?_
   refine al_in rfl rfl rfl rfl ?_
   refine al_val (ov_pick_t rfl rfl rfl) ?_
   refine al_alloc (zs := [(bool false)]) (zeroOf_to to4) rfl rfl (fun g59 => ?_)
   refine al_store (i := 0) (vs := [(bool (u56 == (94 : Int)))]) (cs' := [(bool (u56 == (94 : Int)))]) rfl rfl rfl sz4 (cv_rfl rfl) rfl (co_val rfl co_nil) (Nat.le_of_ble_eq_true rfl) rfl rfl ?_
   refine al_nil ?_
   exact aq_join (g59, (u56 == (94 : Int))) h (fun w a hm hs => norm hm hs [1, 0] [1] [(0, v0_0), (2, (pq g1)), (5, (pq g59))] (by decide) ⟨rfl, rfl, rfl, trivial⟩)
  ·replace h := bif_f hb55 h
   refine al_skip ?_
   refine al_skip ?_
   refine al_skip ?_
   refine al_skip ?_
   refine al_val (ov_pick_f rfl rfl rfl) ?_
   refine al_alloc (zs := [(bool false)]) (zeroOf_to to4) rfl rfl (fun g60 => ?_)
   refine al_store (i := 0) (vs := [(bool false)]) (cs' := [(bool false)]) rfl rfl rfl sz4 (cv_rfl rfl) rfl (co_val rfl co_nil) (Nat.le_of_ble_eq_true rfl) rfl rfl ?_
   refine al_nil ?_
   exact aq_join (g60, false) h (fun w a hm hs => norm hm hs [1, 0] [0] [(0, v0_0), (2, (pq g1)), (5, (pq g60))] (by decide) ⟨rfl, rfl, rfl, trivial⟩)
def f_lumref_marks_3 (fu : Nat) (a0 : Int) (a1 : Int) : Option Bool := (some (a0 == a1))
set_option maxRecDepth 100000 in
theorem f_lumref_marks_3_ok (fu : Nat) (a0 : Int) (c1 : Value) (a1 : Int) {r : Bool} (h : f_lumref_marks_3 fu a0 a1 = some r) : FnOk Tryd.prog 56 [(int .i64 a0), c1] [(fPtr (tyInt .i64) c1 a1)] [] (fun (i : Unit) => { val := (bool r) }) := by
 unfold f_lumref_marks_3 at h
 refine fn_enter Tryd.func56 rfl Tryd.ntmps56 rfl (fun w0 Z0 => ?_)
 refine aw_sr ?_
 refine al_as rfl rfl ?_
 refine al_nt ?_
 refine aw_sr ?_
 refine al_mv rfl rfl ?_
 refine al_val (ov_loadP (ds := [(iq a1)]) 0 rfl (fun h => h) rfl Tryd.underlying3 sz3 rfl rfl rfl) ?_
 refine al_in rfl rfl rfl rfl ?_
 refine al_as rfl rfl ?_
 refine al_nt ?_
 refine aw_ret ?_
 obtain rfl := Option.some.inj h
 exact fn_ret () [] [] rfl rfl rfl rfl (res1 rfl rfl) rfl rfl rfl (by decide)
def f_lumref_marks_L5 (kk2 : ((List S_lumref_mark) → Option ((List S_lumref_mark) × Bool))) (fu : Nat) : Nat → (List Int) → (List S_lumref_mark) → Option ((List S_lumref_mark) × Bool)
  | 0, _, _ => none
  | k4 + 1, l3x0, l3x4 => (bif (decide ((l3x0.length : Int) > (0 : Int))) then (opt (at? l3x0 (0 : Int)) fun (u7 : Int) => (req (0 ≤ (1 : Int) ∧ (1 : Int) ≤ (l3x0.length : Int)) (lt (fun (j14x0 : (List Int)) (j14b6_0 : Bool) (j14x6_1 : C74) => (req (((l3x4.length + ([(S_lumref_mark.mk j14b6_0 j14x6_1)]).length) * 16 : Nat) ≤ 140737488355328 ∧ l3x4.length + ([(S_lumref_mark.mk j14b6_0 j14x6_1)]).length ≤ 9223372036854775807) (f_lumref_marks_L5 kk2 fu k4 j14x0 (l3x4 ++ ([(S_lumref_mark.mk j14b6_0 j14x6_1)]))))) fun (kk15 : (List Int) → Bool → C74 → Option ((List S_lumref_mark) × Bool)) => (bif (u7 == (42 : Int)) then (kk15 (l3x0.drop ((1 : Int)).toNat) true C74.nil) else (bif (u7 == (63 : Int)) then (kk15 (l3x0.drop ((1 : Int)).toNat) false C74.c54) else (bif (u7 == (91 : Int)) then (opt (f_lumref_class fu (l3x0.drop ((1 : Int)).toNat)) fun (r23 : (S_lumref_mark × (List Int) × Bool)) => (bif (!r23.2.2) then (some (([] : List S_lumref_mark), false)) else (kk15 r23.2.1 r23.1.star r23.1.ok))) else (bif (u7 == (92 : Int)) then (bif (((l3x0.drop ((1 : Int)).toNat).length : Int) == (0 : Int)) then (some (([] : List S_lumref_mark), false)) else (opt (at? (l3x0.drop ((1 : Int)).toNat) (0 : Int)) fun (u29 : Int) => (req (0 ≤ (1 : Int) ∧ (1 : Int) ≤ ((l3x0.drop ((1 : Int)).toNat).length : Int)) (kk15 ((l3x0.drop ((1 : Int)).toNat).drop ((1 : Int)).toNat) false (C74.c56 u29))))) else (kk15 (l3x0.drop ((1 : Int)).toNat) false (C74.c53 u7))))))))) else (kk2 l3x4))
def f_lumref_marks (fu : Nat) (a0 : (List Int)) : Option ((List S_lumref_mark) × Bool) := (lt (fun (j1x4 : (List S_lumref_mark)) => (some (j1x4, (decide ((j1x4.length : Int) > (0 : Int)))))) fun (kk2 : (List S_lumref_mark) → Option ((List S_lumref_mark) × Bool)) => (f_lumref_marks_L5 kk2 fu fu a0 ([] : List S_lumref_mark)))
set_option maxRecDepth 100000 in
set_option maxHeartbeats 2000000 in
set_option maxHeartbeats 2000000 in
theorem f_lumref_marks_ok (fu : Nat) (v0_0 : Value) (a0 : (List Int)) {r : ((List S_lumref_mark) × Bool)} (h : f_lumref_marks fu a0 = some r) : FnOk Tryd.prog 27 [v0_0] [(fDat (tyList (tyInt .i64)) [v0_0] a0)] [] (fun (i : Value) => { val := (Value.tuple #[i, (bool r.2)]), own := [(oRow i 92 tyS_lumref_mark r.1)] }) := by
 unfold f_lumref_marks at h
 refine fn_enter Tryd.func27 rfl Tryd.ntmps27 rfl (fun w0 Z0 => ?_)
 refine aw_sr ?_
 refine al_as rfl rfl ?_
 refine al_as rfl rfl ?_
 refine al_nt ?_
 refine aw_sr ?_
 refine al_as rfl rfl ?_
 refine al_nt ?_
 obtain ⟨kk2, hkk2, h⟩ := lt_some h
 refine aw_seq_join (ι := Value × (List S_lumref_mark)) (fun i => (memOf w0 Z0 [] [(oRow i.1 92 tyS_lumref_mark i.2)] [(fDat (tyList tq) [v0_0] a0)])) (fun i => (tab [(4, i.1)])) (fun i => kk2 i.2 = some r) ?_ ?_
 ·rintro ⟨j1v4, j1x4⟩ h
  have h : kk2 j1x4 = some r := h
  rw [hkk2] at h
  dsimp only at h
  clear hkk2
  refine aw_show (m := (memOf w0 Z0 [] [(oRow j1v4 92 tyS_lumref_mark j1x4)] [(fDat (tyList tq) [v0_0] a0)])) (S := (tab [(4, j1v4)])) ?_
  refine aw_sr ?_
  refine al_mv rfl rfl ?_
  refine al_mv rfl rfl ?_
  refine al_val (ov_lenR 0 rfl rfl Tryd.underlying56 rfl) ?_
  refine al_in rfl rfl rfl rfl ?_
  refine al_as rfl rfl ?_
  refine al_as rfl rfl ?_
  refine al_nt ?_
  refine aw_ret ?_
  obtain rfl := Option.some.inj h
  exact fn_ret j1v4 [0] [] rfl rfl rfl rfl (res2 rfl rfl rfl) rfl rfl rfl (by decide)
 ·clear hkk2
  refine aw_block ?_
  refine aw_nilR 92 tyS_lumref_mark ?_
  refine aw_state (aw_loop (ι := Value × (List Int) × Value × (List S_lumref_mark)) (fun i => (memOf w0 Z0 [] [(oRow i.2.2.1 92 tyS_lumref_mark i.2.2.2)] [(fDat (tyList tq) [i.1] i.2.1), (fDat (tyList tq) [v0_0] a0)])) (fun i => (tab [(0, i.1), (4, i.2.2.1)])) (fun q i => f_lumref_marks_L5 kk2 fu q i.2.1 i.2.2.2 = some r) ?_ fu (v0_0, a0, nS, ([] : List S_lumref_mark)) h) (fun w a hm hs => norm hm hs [0] [0, 0] [(0, v0_0), (4, nS)] (by decide) ⟨rfl, rfl, trivial⟩)
  clear h
  rintro k4 ⟨l3v0, l3x0, l3v4, l3x4⟩ h
  have h : f_lumref_marks_L5 kk2 fu k4 l3x0 l3x4 = some r := h
  obtain _ | k4 := k4
  · rw [f_lumref_marks_L5] at h; cases h
  rw [f_lumref_marks_L5] at h
  refine aw_show (m := (memOf w0 Z0 [] [(oRow l3v4 92 tyS_lumref_mark l3x4)] [(fDat (tyList tq) [l3v0] l3x0), (fDat (tyList tq) [v0_0] a0)])) (S := (tab [(0, l3v0), (4, l3v4)])) ?_
  refine aw_seq ?_
  refine aw_sr ?_
  refine al_mv rfl rfl ?_
  refine al_val (ov_lenD 0 rfl rfl Tryd.underlying52 rfl) ?_
  refine al_in rfl rfl rfl rfl ?_
  refine al_nt ?_
  refine aw_cond rfl (fun hb6 => ?_) (fun hb6 => ?_)
  ·replace h := bif_t hb6 h
   refine aw_skip ?_
   refine aq_then ?_
   refine aw_block ?_
   refine aw_sr ?_
   refine al_mv rfl rfl ?_
   obtain ⟨u7, hu8, h⟩ := opt_some h
   refine al_idxD 0 hu8 rfl rfl rfl Tryd.underlying52 sz3 rfl (fun p9 => ?_)
   refine al_val (ov_loadP (ds := [(iq u7)]) 0 rfl (fun h => h) rfl Tryd.underlying3 sz3 rfl rfl rfl) ?_
   refine al_alloc (zs := [(iq (0 : Int))]) (zeroOf_to to3) rfl rfl (fun g10 => ?_)
   refine al_store (i := 0) (vs := [(iq u7)]) (cs' := [(iq u7)]) rfl rfl rfl sz3 (cv_rfl rfl) rfl (co_val rfl co_nil) (Nat.le_of_ble_eq_true rfl) rfl rfl ?_
   refine al_nt ?_
   refine aw_sr ?_
   refine al_mv rfl rfl ?_
   obtain ⟨hc11, h⟩ := req_some h
   refine al_sliceDF 1 hc11.1 hc11.2 rfl rfl rfl Tryd.underlying52 sz3 rfl (fun s12 => ?_)
   refine al_as rfl rfl ?_
   refine al_nt ?_
   refine aw_seq ?_
   refine aw_freezeB (τ := tq) 0 (u7) rfl rfl (fun _ _ => rfl) ?_
   refine aw_region ?_
   refine al_val (ov_makeFunc2 (vs := [(pq g10)]) rfl rfl) ?_
   refine al_val (ov_build (cells := ([(bool false), (Value.func (.func 53) #[] #[(pq g10)])] : List Value).toArray) (cs := [(bool false), (Value.func (.func 53) #[] #[(pq g10)])]) rfl (fun w a hm hs => by simp only [List.map_toArray, List.map_cons, List.map_nil, List.toList_toArray, hs.ev (x := .tmp 17) rfl]; kernel_rfl)) ?_
   refine al_alloc (zs := [(bool false), Value.nilFunc]) (zeroOf_to to92) rfl rfl (fun g13 => ?_)
   refine al_store (i := 0) (vs := [(bool false), (Value.func (.func 53) #[] #[(pq g10)])]) (cs' := [(bool false), (Value.func (.func 53) #[] #[(pq g10)])]) rfl rfl rfl sz92 (cv_rfl rfl) rfl (co_val rfl (co_val rfl co_nil)) (Nat.le_of_ble_eq_true rfl) rfl rfl ?_
   refine al_nt ?_
   obtain ⟨kk15, hkk15, h⟩ := lt_some h
   refine aw_seq_join (ι := Value × (List Int) × Bool × Value × C74) (fun i => (memOf w0 Z0 [] [(oRow l3v4 92 tyS_lumref_mark l3x4), (oBox g13 92 [(bool i.2.2.1), i.2.2.2.1])] [(fDat (tyList tq) [i.1] i.2.1), (fDat tyC74 [i.2.2.2.1] i.2.2.2.2), (fPtr tq (pq g10) u7), (fDat (tyList tq) [s12] (l3x0.drop ((1 : Int)).toNat)), (fPtr tq p9 u7), (fDat (tyList tq) [l3v0] l3x0), (fDat (tyList tq) [v0_0] a0)])) (fun i => (tab [(0, i.1), (4, l3v4), (6, (pq g13))])) (fun i => kk15 i.2.1 i.2.2.1 i.2.2.2.2 = some r) ?_ ?_
   ·rintro ⟨j14v0, j14x0, j14b6_0, j14v6_1, j14x6_1⟩ h
    have h : kk15 j14x0 j14b6_0 j14x6_1 = some r := h
    rw [hkk15] at h
    dsimp only at h
    clear hkk15
    refine aw_show (m := (memOf w0 Z0 [] [(oRow l3v4 92 tyS_lumref_mark l3x4), (oBox g13 92 [(bool j14b6_0), j14v6_1])] [(fDat (tyList tq) [j14v0] j14x0), (fDat tyC74 [j14v6_1] j14x6_1), (fPtr tq (pq g10) u7), (fDat (tyList tq) [s12] (l3x0.drop ((1 : Int)).toNat)), (fPtr tq p9 u7), (fDat (tyList tq) [l3v0] l3x0), (fDat (tyList tq) [v0_0] a0)])) (S := (tab [(0, j14v0), (4, l3v4), (6, (pq g13))])) ?_
    refine aw_region ?_
    refine al_mv rfl rfl ?_
    refine al_val (ov_load (i := 1) (v := (ag [(bool j14b6_0), j14v6_1])) rfl rfl Tryd.underlying92 sz92 rfl rfl rfl rfl) ?_
    refine al_buildSlice (τ := tyS_lumref_mark) (e := 92) (k := 1) (sz := 0) (by_ := 0) (z := undef) (cs := [(bool j14b6_0), j14v6_1]) (xs := [(S_lumref_mark.mk j14b6_0 j14x6_1)]) rfl (by decide) (fun w a hm hs => ⟨([(bool j14b6_0), j14v6_1]).toArray, rfl, by simp only [List.map_toArray, List.map_cons, List.map_nil, hs.ev (x := .tmp 49) rfl]; exact run_bs [(ag [(bool j14b6_0), j14v6_1])] [(bool j14b6_0), j14v6_1] Tryd.underlying56 to92 rfl rfl (bs_cons (l := [(bool j14b6_0), j14v6_1]) (cs := []) (cv_rfl rfl) rfl bs_nil) hm⟩) (fun hm => ⟨_, _, rfl, (fun hm => mknS_lumref_mark (x := (S_lumref_mark.mk j14b6_0 j14x6_1)) rfl (fz_at (i := 1) hm rfl)) hm, rfl⟩) rfl (fun v16 => ?_)
    obtain ⟨hc17, h⟩ := req_some h
    refine al_append 1 hc17.1 hc17.2 rfl (src_own (i := 1) 0 rfl) rfl rfl Tryd.underlying56 to92 rfl rfl rfl (fun v18 => ?_)
    refine al_as rfl rfl ?_
    refine al_nil ?_
    refine aq_block ?_
    exact aq_again k4 (j14v0, j14x0, v18, (l3x4 ++ ([(S_lumref_mark.mk j14b6_0 j14x6_1)]))) (Nat.lt_succ_self _) h (fun w a hm hs => norm hm hs [1] [0, 6] [(0, j14v0), (4, v18)] (by decide) ⟨rfl, rfl, trivial⟩)
   ·clear hkk15
    refine aw_sr ?_
    refine al_val (ov_loadP (ds := [(iq u7)]) 0 rfl (fun h => h) rfl Tryd.underlying3 sz3 rfl rfl rfl) ?_
    refine al_nt ?_
    refine aw_block ?_
    refine aw_sr ?_
    refine al_in rfl rfl rfl rfl ?_
    refine al_as rfl rfl ?_
    refine al_nt ?_
    refine aw_cond rfl (fun hb19 => ?_) (fun hb19 => ?_)
    ·replace h := bif_t hb19 h
     refine aw_region ?_
     refine al_val (ov_build (cells := ([(bool true), Value.nilFunc] : List Value).toArray) (cs := [(bool true), Value.nilFunc]) rfl (fun w a hm hs => by simp only [List.map_toArray, List.map_cons, List.map_nil, List.toList_toArray, hs.ev (x := .const (bool true)) rfl]; kernel_rfl)) ?_
     refine al_store (i := 0) (vs := [(bool true), Value.nilFunc]) (cs' := [(bool true), Value.nilFunc]) rfl rfl rfl sz92 (cv_rfl rfl) rfl (co_val rfl (co_val rfl co_nil)) (Nat.le_of_ble_eq_true rfl) rfl rfl ?_
     refine al_nil ?_
     refine aq_block ?_
     refine aq_addf (f := fDat tyC74 [Value.nilFunc] C74.nil) mkC74_nil ?_
     exact aq_join (s12, (l3x0.drop ((1 : Int)).toNat), true, Value.nilFunc, C74.nil) h (fun w a hm hs => norm hm hs [1, 0] [2, 0, 1, 2, 3, 4, 5] [(0, s12), (4, l3v4), (6, (pq g13))] (by decide) ⟨rfl, rfl, rfl, trivial⟩)
    ·replace h := bif_f hb19 h
     refine aw_sr ?_
     refine al_in rfl rfl rfl rfl ?_
     refine al_as rfl rfl ?_
     refine al_nt ?_
     refine aw_cond rfl (fun hb20 => ?_) (fun hb20 => ?_)
     ·replace h := bif_t hb20 h
      refine aw_region ?_
      refine al_val (ov_build (cells := ([(bool false), (fq 54)] : List Value).toArray) (cs := [(bool false), (fq 54)]) rfl (fun w a hm hs => by simp only [List.map_toArray, List.map_cons, List.map_nil, List.toList_toArray, hs.ev (x := .func 54) rfl]; kernel_rfl)) ?_
      refine al_store (i := 0) (vs := [(bool false), (fq 54)]) (cs' := [(bool false), (fq 54)]) rfl rfl rfl sz92 (cv_rfl rfl) rfl (co_val rfl (co_val rfl co_nil)) (Nat.le_of_ble_eq_true rfl) rfl rfl ?_
      refine al_nil ?_
      refine aq_block ?_
      refine aq_addf (f := fDat tyC74 [(fq 54)] C74.c54) mkC74_54 ?_
      exact aq_join (s12, (l3x0.drop ((1 : Int)).toNat), false, (fq 54), C74.c54) h (fun w a hm hs => norm hm hs [1, 0] [2, 0, 1, 2, 3, 4, 5] [(0, s12), (4, l3v4), (6, (pq g13))] (by decide) ⟨rfl, rfl, rfl, trivial⟩)
     ·replace h := bif_f hb20 h
      refine aw_sr ?_
      refine al_in rfl rfl rfl rfl ?_
      refine al_as rfl rfl ?_
      refine al_nt ?_
      refine aw_cond rfl (fun hb21 => ?_) (fun hb21 => ?_)
      ·replace h := bif_t hb21 h
       refine aw_sr ?_
       refine al_as rfl rfl ?_
       refine al_nt ?_
       refine aw_sr ?_
       refine al_mv rfl rfl ?_
       obtain ⟨r23, hc22, h⟩ := opt_some h
       refine al_call (vs := [s12]) (f_lumref_class_ok fu s12 (l3x0.drop ((1 : Int)).toNat) hc22) [] [] [0, 1] (pre_fz 1 rfl pre_nil) rfl (by simp) (by decide) (.inl rfl) rfl Tryd.func55 rfl rfl rfl (fun ⟨v24, v25⟩ => ?_)
       refine al_mv rfl rfl ?_
       refine al_ex rfl rfl rfl ?_
       refine al_ex rfl rfl rfl ?_
       refine al_ex rfl rfl rfl ?_
       refine al_store (i := 0) (vs := [(bool r23.1.star), v24]) (cs' := [(bool r23.1.star), v24]) rfl rfl rfl sz92 (cv_rfl rfl) rfl (co_val rfl (co_fzT 0 rfl co_nil)) (Nat.le_of_ble_eq_true rfl) rfl rfl ?_
       refine al_as rfl rfl ?_
       refine al_as rfl rfl ?_
       refine al_nt ?_
       refine aw_sr ?_
       refine al_mv rfl rfl ?_
       refine al_val (ov_not rfl rfl) ?_
       refine al_nt ?_
       refine aw_cond rfl (fun hb26 => ?_) (fun hb26 => ?_)
       ·replace h := bif_t hb26 h
        refine aw_sr ?_
        refine al_as rfl rfl ?_
        refine al_as rfl rfl ?_
        refine al_nt ?_
        refine aw_ret ?_
        refine aq_block_ret ?_
        refine aq_then_ret ?_
        refine aq_block_ret ?_
        refine aq_then_ret ?_
        refine aq_block_ret ?_
        refine aq_then_ret ?_
        refine aq_nilR 92 tyS_lumref_mark ?_
        obtain rfl := Option.some.inj h
        exact fn_ret nS [0] [] rfl rfl rfl rfl (res2 rfl rfl rfl) rfl rfl rfl (by decide)
       ·replace h := bif_f hb26 h
        refine aw_skip ?_
        refine aq_block ?_
        exact aq_join (v25, r23.2.1, r23.1.star, v24, r23.1.ok) h (fun w a hm hs => norm hm hs [1, 0] [1, 0, 2, 3, 4, 5, 6] [(0, v25), (4, l3v4), (6, (pq g13))] (by decide) ⟨rfl, rfl, rfl, trivial⟩)
      ·replace h := bif_f hb21 h
       refine aw_sr ?_
       refine al_in rfl rfl rfl rfl ?_
       refine al_as rfl rfl ?_
       refine al_nt ?_
       refine aw_cond rfl (fun hb27 => ?_) (fun hb27 => ?_)
       ·replace h := bif_t hb27 h
        refine aw_seq ?_
        refine aw_sr ?_
        refine al_mv rfl rfl ?_
        refine al_val (ov_lenD 1 rfl rfl Tryd.underlying52 rfl) ?_
        refine al_in rfl rfl rfl rfl ?_
        refine al_nt ?_
        refine aw_cond rfl (fun hb28 => ?_) (fun hb28 => ?_)
        ·replace h := bif_t hb28 h
         refine aw_sr ?_
         refine al_as rfl rfl ?_
         refine al_as rfl rfl ?_
         refine al_nt ?_
         refine aw_ret ?_
         refine aq_then_ret ?_
         refine aq_block_ret ?_
         refine aq_then_ret ?_
         refine aq_block_ret ?_
         refine aq_then_ret ?_
         refine aq_block_ret ?_
         refine aq_then_ret ?_
         refine aq_nilR 92 tyS_lumref_mark ?_
         obtain rfl := Option.some.inj h
         exact fn_ret nS [0] [] rfl rfl rfl rfl (res2 rfl rfl rfl) rfl rfl rfl (by decide)
        ·replace h := bif_f hb28 h
         refine aw_skip ?_
         refine aq_tr ?_
         refine al_mv rfl rfl ?_
         obtain ⟨u29, hu30, h⟩ := opt_some h
         refine al_idxD 1 hu30 rfl rfl rfl Tryd.underlying52 sz3 rfl (fun p31 => ?_)
         refine al_val (ov_loadP (ds := [(iq u29)]) 0 rfl (fun h => h) rfl Tryd.underlying3 sz3 rfl rfl rfl) ?_
         refine al_alloc (zs := [(iq (0 : Int))]) (zeroOf_to to3) rfl rfl (fun g32 => ?_)
         refine al_store (i := 0) (vs := [(iq u29)]) (cs' := [(iq u29)]) rfl rfl rfl sz3 (cv_rfl rfl) rfl (co_val rfl co_nil) (Nat.le_of_ble_eq_true rfl) rfl rfl ?_
         refine al_nt ?_
         refine aw_sr ?_
         refine al_mv rfl rfl ?_
         obtain ⟨hc33, h⟩ := req_some h
         refine al_sliceDF 2 hc33.1 hc33.2 rfl rfl rfl Tryd.underlying52 sz3 rfl (fun s34 => ?_)
         refine al_as rfl rfl ?_
         refine al_nt ?_
         refine aw_freezeB (τ := tq) 0 (u29) rfl rfl (fun _ _ => rfl) ?_
         refine aw_region ?_
         refine al_val (ov_makeFunc2 (vs := [(pq g32)]) rfl rfl) ?_
         refine al_val (ov_fieldA (p := 1) rfl Tryd.underlying92 rfl sz74 rfl rfl rfl) ?_
         refine al_store (i := 0) (vs := [(Value.func (.func 56) #[] #[(pq g32)])]) (cs' := [(bool false), (Value.func (.func 56) #[] #[(pq g32)])]) rfl rfl rfl sz74 (cv_rfl rfl) rfl (co_val rfl co_nil) (Nat.le_of_ble_eq_true rfl) rfl rfl ?_
         refine al_nil ?_
         refine aq_block ?_
         refine aq_addf (f := fDat tyC74 [(Value.func (.func 56) #[] #[(pq g32)])] (C74.c56 u29)) (mkC74_56 0 rfl) ?_
         exact aq_join (s34, ((l3x0.drop ((1 : Int)).toNat).drop ((1 : Int)).toNat), false, (Value.func (.func 56) #[] #[(pq g32)]), (C74.c56 u29)) h (fun w a hm hs => norm hm hs [1, 0] [2, 0, 4, 5, 6, 7, 8] [(0, s34), (4, l3v4), (6, (pq g13))] (by decide) ⟨rfl, rfl, rfl, trivial⟩)
       ·replace h := bif_f hb27 h
        refine aw_skip ?_
        refine aq_block ?_
        refine aq_addf (f := fDat tyC74 [(Value.func (.func 53) #[] #[(pq g10)])] (C74.c53 u7)) (mkC74_53 0 rfl) ?_
        exact aq_join (s12, (l3x0.drop ((1 : Int)).toNat), false, (Value.func (.func 53) #[] #[(pq g10)]), (C74.c53 u7)) h (fun w a hm hs => norm hm hs [1, 0] [2, 0, 1, 2, 3, 4, 5] [(0, s12), (4, l3v4), (6, (pq g13))] (by decide) ⟨rfl, rfl, rfl, trivial⟩)
  ·replace h := bif_f hb6 h
   refine aw_exit ?_
   refine aq_then_exit ?_
   refine aq_then_exit ?_
   refine aq_block_exit ?_
   exact aq_join (l3v4, l3x4) h (fun w a hm hs => norm hm hs [0] [1] [(4, l3v4)] (by decide) ⟨rfl, trivial⟩)
def f_lumref_Pattern_L16 (kk9 : ((List (Option (List S_lumref_mark))) → Option ((List (Option (List S_lumref_mark))) × Int))) (r12 : (List (List UInt8))) (fu : Nat) : Nat → (List (Option (List S_lumref_mark))) → Int → Option ((List (Option (List S_lumref_mark))) × Int)
  | 0, _, _ => none
  | k15 + 1, l14x6, l14i36 => (bif (decide (l14i36 < (r12.length : Int))) then (lt (fun (j18x6 : (List (Option (List S_lumref_mark)))) => (f_lumref_Pattern_L16 kk9 r12 fu k15 j18x6 (IntKind.i64.wrap (l14i36 + (1 : Int))))) fun (kk19 : (List (Option (List S_lumref_mark))) → Option ((List (Option (List S_lumref_mark))) × Int)) => (opt (at? r12 l14i36) fun (u20 : (List UInt8)) => (bif (u20 == ([42, 42] : List UInt8)) then (req (((l14x6.length + ([(none : (Option (List S_lumref_mark)))]).length) * 24 : Nat) ≤ 140737488355328 ∧ l14x6.length + ([(none : (Option (List S_lumref_mark)))]).length ≤ 9223372036854775807) (kk19 (l14x6 ++ ([(none : (Option (List S_lumref_mark)))])))) else (opt (f_lumref_Chars fu u20) fun (r29 : ((List Int) × Bool)) => (opt (f_lumref_marks fu r29.1) fun (r32 : ((List S_lumref_mark) × Bool)) => (bif (!r32.2) then (some (([] : List (Option (List S_lumref_mark))), (13 : Int))) else (req (r32.1 ≠ []) (req (((l14x6.length + ([(some r32.1)]).length) * 24 : Nat) ≤ 140737488355328 ∧ l14x6.length + ([(some r32.1)]).length ≤ 9223372036854775807) (kk19 (l14x6 ++ ([(some r32.1)]))))))))))) else (kk9 l14x6))
def f_lumref_Pattern (fu : Nat) (a0 : (List UInt8)) : Option ((List (Option (List S_lumref_mark))) × Int) := (bif (decide ((a0.length : Int) > (60 : Int))) then (some (([] : List (Option (List S_lumref_mark))), (2 : Int))) else (opt (f_lumref_Chars fu a0) fun (r3 : ((List Int) × Bool)) => (lt (fun (j5b31 : Bool) => (bif j5b31 then (some (([] : List (Option (List S_lumref_mark))), (13 : Int))) else (lt (fun (j8x6 : (List (Option (List S_lumref_mark)))) => (some (j8x6, (0 : Int)))) fun (kk9 : (List (Option (List S_lumref_mark))) → Option ((List (Option (List S_lumref_mark))) × Int)) => (req (0 ≤ (1 : Int) ∧ (1 : Int) ≤ (a0.length : Int)) (opt (f_lumref_cutAt fu (a0.drop ((1 : Int)).toNat)) fun (r12 : (List (List UInt8))) => (f_lumref_Pattern_L16 kk9 r12 fu fu ([] : List (Option (List S_lumref_mark))) (0 : Int))))))) fun (kk6 : Bool → Option ((List (Option (List S_lumref_mark))) × Int)) => (bif (!r3.2) then (kk6 true) else (bif (a0 == ([] : List UInt8)) then (kk6 true) else (req (0 ≤ (0 : Int) ∧ (0 : Int) < (a0.length : Int)) (kk6 ((En.bAt a0 (0 : Int)) != (47 : Int)))))))))
set_option maxRecDepth 100000 in
set_option maxHeartbeats 2000000 in
set_option maxHeartbeats 2000000 in
theorem f_lumref_Pattern_ok (fu : Nat) (a0 : (List UInt8)) {r : ((List (Option (List S_lumref_mark))) × Int)} (h : f_lumref_Pattern fu a0 = some r) : FnOk Tryd.prog 8 [(str a0)] [] [] (fun (i : Value) => { val := (Value.tuple #[i, (int .i64 r.2)]), own := [(oRow i 56 (tyOpt tyS_lumref_mark) r.1)] }) := by
 unfold f_lumref_Pattern at h
 refine fn_enter Tryd.func8 rfl Tryd.ntmps8 rfl (fun w0 Z0 => ?_)
 refine aw_sr ?_
 refine al_as rfl rfl ?_
 refine al_as rfl rfl ?_
 refine al_nt ?_
 refine aw_seq ?_
 refine aw_sr ?_
 refine al_mv rfl rfl ?_
 refine al_val (ov_strLen Tryd.underlying9 rfl rfl) ?_
 refine al_in rfl rfl rfl rfl ?_
 refine al_nt ?_
 refine aw_cond rfl (fun hb1 => ?_) (fun hb1 => ?_)
 ·replace h := bif_t hb1 h
  refine aw_sr ?_
  refine al_as rfl rfl ?_
  refine al_as rfl rfl ?_
  refine al_nt ?_
  refine aw_ret ?_
  refine aq_then_ret ?_
  refine aq_nilR 56 (tyOpt tyS_lumref_mark) ?_
  obtain rfl := Option.some.inj h
  exact fn_ret nS [0] [] rfl rfl rfl rfl (res2 rfl rfl rfl) rfl rfl rfl (by decide)
 ·replace h := bif_f hb1 h
  refine aw_skip ?_
  refine aq_then ?_
  refine aw_seq ?_
  refine aw_sr ?_
  refine al_mv rfl rfl ?_
  obtain ⟨r3, hc2, h⟩ := opt_some h
  refine al_call (vs := [(str a0)]) (f_lumref_Chars_ok fu a0 hc2) [] [] [] pre_nil rfl (by simp) (by decide) (.inl rfl) rfl Tryd.func25 rfl rfl rfl (fun v4 => ?_)
  refine al_mv rfl rfl ?_
  refine al_ex rfl rfl rfl ?_
  refine al_ex rfl rfl rfl ?_
  refine al_as rfl rfl ?_
  refine al_as rfl rfl ?_
  refine al_nt ?_
  obtain ⟨kk6, hkk6, h⟩ := lt_some h
  refine aw_seq_join (ι := Bool) (fun i => (memOf w0 Z0 [] [] [])) (fun i => (tab [(0, (str a0)), (31, (bool i))])) (fun i => kk6 i = some r) ?_ ?_
  ·rintro j5b31 h
   have h : kk6 j5b31 = some r := h
   rw [hkk6] at h
   dsimp only at h
   clear hkk6
   refine aw_show (m := (memOf w0 Z0 [] [] [])) (S := (tab [(0, (str a0)), (31, (bool j5b31))])) ?_
   refine aw_cond rfl (fun hb7 => ?_) (fun hb7 => ?_)
   ·replace h := bif_t hb7 h
    refine aw_sr ?_
    refine al_as rfl rfl ?_
    refine al_as rfl rfl ?_
    refine al_nt ?_
    refine aw_ret ?_
    refine aq_then_ret ?_
    refine aq_nilR 56 (tyOpt tyS_lumref_mark) ?_
    obtain rfl := Option.some.inj h
    exact fn_ret nS [0] [] rfl rfl rfl rfl (res2 rfl rfl rfl) rfl rfl rfl (by decide)
   ·replace h := bif_f hb7 h
    refine aw_skip ?_
    refine aq_tr ?_
    refine al_as rfl rfl ?_
    refine al_nt ?_
    obtain ⟨kk9, hkk9, h⟩ := lt_some h
    refine aw_seq_join (ι := Value × (List (Option (List S_lumref_mark)))) (fun i => (memOf w0 Z0 [] [(oRow i.1 56 (tyOpt tyS_lumref_mark) i.2)] [])) (fun i => (tab [(6, i.1)])) (fun i => kk9 i.2 = some r) ?_ ?_
    ·rintro ⟨j8v6, j8x6⟩ h
     have h : kk9 j8x6 = some r := h
     rw [hkk9] at h
     dsimp only at h
     clear hkk9
     refine aw_show (m := (memOf w0 Z0 [] [(oRow j8v6 56 (tyOpt tyS_lumref_mark) j8x6)] [])) (S := (tab [(6, j8v6)])) ?_
     refine aw_sr ?_
     refine al_mv rfl rfl ?_
     refine al_as rfl rfl ?_
     refine al_as rfl rfl ?_
     refine al_nt ?_
     refine aw_ret ?_
     obtain rfl := Option.some.inj h
     exact fn_ret j8v6 [0] [] rfl rfl rfl rfl (res2 rfl rfl rfl) rfl rfl rfl (by decide)
    ·clear hkk9
     refine aw_sr ?_
     refine al_mv rfl rfl ?_
     obtain ⟨hc10, h⟩ := req_some h
     refine al_val (ov_strFrom hc10.1 hc10.2 Tryd.underlying9 rfl rfl rfl) ?_
     obtain ⟨r12, hc11, h⟩ := opt_some h
     refine al_call (vs := [(str (a0.drop ((1 : Int)).toNat))]) (f_lumref_cutAt_ok fu (a0.drop ((1 : Int)).toNat) hc11) [] [] [] pre_nil rfl (by simp) (by decide) (.inl rfl) rfl Tryd.func26 rfl rfl rfl (fun v13 => ?_)
     refine al_val (ov_lenR 0 rfl rfl Tryd.underlying22 rfl) ?_
     refine al_mv rfl rfl ?_
     refine al_nt ?_
     refine aw_block ?_
     refine aw_nilR 56 (tyOpt tyS_lumref_mark) ?_
     refine aw_state (aw_loop (ι := Value × (List (Option (List S_lumref_mark))) × Int) (fun i => (memOf w0 Z0 [] [(oRow i.1 56 (tyOpt tyS_lumref_mark) i.2.1), (oRow v13 9 tyStr r12)] [])) (fun i => (tab [(6, i.1), (34, v13), (35, (iq (r12.length : Int))), (36, (iq i.2.2))])) (fun q i => f_lumref_Pattern_L16 kk9 r12 fu q i.2.1 i.2.2 = some r) ?_ fu (nS, ([] : List (Option (List S_lumref_mark))), (0 : Int)) h) (fun w a hm hs => norm hm hs [0, 1] [] [(6, nS), (34, v13), (35, (iq (r12.length : Int))), (36, (iq (0 : Int)))] (by decide) ⟨rfl, rfl, rfl, rfl, trivial⟩)
     clear h
     rintro k15 ⟨l14v6, l14x6, l14i36⟩ h
     have h : f_lumref_Pattern_L16 kk9 r12 fu k15 l14x6 l14i36 = some r := h
     obtain _ | k15 := k15
     · rw [f_lumref_Pattern_L16] at h; cases h
     rw [f_lumref_Pattern_L16] at h
     refine aw_show (m := (memOf w0 Z0 [] [(oRow l14v6 56 (tyOpt tyS_lumref_mark) l14x6), (oRow v13 9 tyStr r12)] [])) (S := (tab [(6, l14v6), (34, v13), (35, (iq (r12.length : Int))), (36, (iq l14i36))])) ?_
     refine aw_sr ?_
     refine al_in rfl rfl rfl rfl ?_
     refine al_nt ?_
     refine aw_seq ?_
     refine aw_cond rfl (fun hb17 => ?_) (fun hb17 => ?_)
     ·replace h := bif_t hb17 h
      refine aw_skip ?_
      refine aq_then ?_
      obtain ⟨kk19, hkk19, h⟩ := lt_some h
      refine aw_seq_join (ι := Value × (List (Option (List S_lumref_mark)))) (fun i => (memOf w0 Z0 [] [(oRow i.1 56 (tyOpt tyS_lumref_mark) i.2), (oRow v13 9 tyStr r12)] [])) (fun i => (tab [(6, i.1), (34, v13), (35, (iq (r12.length : Int))), (36, (iq l14i36))])) (fun i => kk19 i.2 = some r) ?_ ?_
      ·rintro ⟨j18v6, j18x6⟩ h
       have h : kk19 j18x6 = some r := h
       rw [hkk19] at h
       dsimp only at h
       clear hkk19
       refine aw_show (m := (memOf w0 Z0 [] [(oRow j18v6 56 (tyOpt tyS_lumref_mark) j18x6), (oRow v13 9 tyStr r12)] [])) (S := (tab [(6, j18v6), (34, v13), (35, (iq (r12.length : Int))), (36, (iq l14i36))])) ?_
       refine aw_region ?_
       refine al_in rfl rfl rfl rfl ?_
       refine al_mv rfl rfl ?_
       refine al_nil ?_
       exact aq_again k15 (j18v6, j18x6, (wq (l14i36 + (1 : Int)))) (Nat.lt_succ_self _) h (fun w a hm hs => norm hm hs [0, 1] [] [(6, j18v6), (34, v13), (35, (iq (r12.length : Int))), (36, (iq (wq (l14i36 + (1 : Int)))))] (by decide) ⟨rfl, rfl, rfl, rfl, trivial⟩)
      ·clear hkk19
       refine aw_block ?_
       refine aw_sr ?_
       obtain ⟨u20, hu21, h⟩ := opt_some h
       refine al_idxR 1 (at_some hu21).1 (at_some hu21).2.1 rfl rfl rfl Tryd.underlying22 sz9 rfl (fun p22 hp23 => ?_)
       refine al_val (ov_loadR (ds := [(str u20)]) 1 rfl hp23 (at_some hu21).2.2 (fun h => h) rfl Tryd.underlying9 sz9 rfl rfl rfl) ?_
       refine al_as rfl rfl ?_
       refine al_nt ?_
       refine aw_seq ?_
       refine aw_sr ?_
       refine al_mv rfl rfl ?_
       refine al_val (ov_strCmp rfl rfl rfl rfl) ?_
       refine al_nt ?_
       refine aw_cond rfl (fun hb24 => ?_) (fun hb24 => ?_)
       ·replace h := bif_t hb24 h
        refine aw_sr ?_
        refine al_mv rfl rfl ?_
        refine al_buildSlice (τ := (tyOpt tyS_lumref_mark)) (e := 56) (k := 1) (sz := 0) (by_ := 0) (z := undef) (cs := [nS]) (xs := [(none : (Option (List S_lumref_mark)))]) rfl (by decide) (fun w a hm hs => ⟨([nS]).toArray, rfl, by simp only [List.map_toArray, List.map_cons, List.map_nil, hs.ev (x := .const nS) rfl]; exact run_bs [nS] [nS] Tryd.underlying27 to56 rfl rfl (bs_cons (l := [nS]) (cs := []) (cv_rfl rfl) rfl bs_nil) hm⟩) (fun hm => ⟨_, _, rfl, (fun _ => rfl) hm, rfl⟩) rfl (fun v25 => ?_)
        obtain ⟨hc26, h⟩ := req_some h
        refine al_append 1 hc26.1 hc26.2 rfl (src_own (i := 1) 0 rfl) rfl rfl Tryd.underlying27 to56 rfl rfl rfl (fun v27 => ?_)
        refine al_as rfl rfl ?_
        refine al_nt ?_
        refine aw_exit ?_
        refine aq_then_exit ?_
        refine aq_block_exit ?_
        exact aq_join (v27, (l14x6 ++ ([(none : (Option (List S_lumref_mark)))]))) h (fun w a hm hs => norm hm hs [1, 2] [] [(6, v27), (34, v13), (35, (iq (r12.length : Int))), (36, (iq l14i36))] (by decide) ⟨rfl, rfl, rfl, rfl, trivial⟩)
       ·replace h := bif_f hb24 h
        refine aw_skip ?_
        refine aq_tr ?_
        refine al_mv rfl rfl ?_
        obtain ⟨r29, hc28, h⟩ := opt_some h
        refine al_call (vs := [(str u20)]) (f_lumref_Chars_ok fu u20 hc28) [] [] [0, 1] pre_nil rfl (by simp) (by decide) (.inl rfl) rfl Tryd.func25 rfl rfl rfl (fun v30 => ?_)
        refine al_mv rfl rfl ?_
        refine al_ex rfl rfl rfl ?_
        refine al_ex rfl rfl rfl ?_
        refine al_as rfl rfl ?_
        refine al_as rfl rfl ?_
        refine al_nt ?_
        refine aw_sr ?_
        refine al_mv rfl rfl ?_
        refine al_freeze 0 rfl rfl ?_
        obtain ⟨r32, hc31, h⟩ := opt_some h
        refine al_call (vs := [v30]) (f_lumref_marks_ok fu v30 r29.1 hc31) [] [] [0, 1] (pre_fz 0 rfl pre_nil) rfl (by simp) (by decide) (.inl rfl) rfl Tryd.func27 rfl rfl rfl (fun v33 => ?_)
        refine al_mv rfl rfl ?_
        refine al_ex rfl rfl rfl ?_
        refine al_ex rfl rfl rfl ?_
        refine al_as rfl rfl ?_
        refine al_as rfl rfl ?_
        refine al_nt ?_
        refine aw_seq ?_
        refine aw_sr ?_
        refine al_mv rfl rfl ?_
        refine al_val (ov_not rfl rfl) ?_
        refine al_nt ?_
        refine aw_cond rfl (fun hb34 => ?_) (fun hb34 => ?_)
        ·replace h := bif_t hb34 h
         refine aw_sr ?_
         refine al_as rfl rfl ?_
         refine al_as rfl rfl ?_
         refine al_nt ?_
         refine aw_ret ?_
         refine aq_then_ret ?_
         refine aq_block_ret ?_
         refine aq_then_ret ?_
         refine aq_then_ret ?_
         refine aq_block_ret ?_
         refine aq_then_ret ?_
         refine aq_nilR 56 (tyOpt tyS_lumref_mark) ?_
         obtain rfl := Option.some.inj h
         exact fn_ret nS [0] [] rfl rfl rfl rfl (res2 rfl rfl rfl) rfl rfl rfl (by decide)
        ·replace h := bif_f hb34 h
         refine aw_skip ?_
         refine aq_then ?_
         refine aw_region ?_
         refine al_mv rfl rfl ?_
         refine al_mv rfl rfl ?_
         refine al_freeze 0 rfl rfl ?_
         obtain ⟨hc36, h⟩ := req_some h
         refine al_buildSlice (τ := (tyOpt tyS_lumref_mark)) (e := 56) (k := 1) (sz := 0) (by_ := 0) (z := undef) (cs := [v33]) (xs := [(some r32.1)]) rfl (by decide) (fun w a hm hs => ⟨([v33]).toArray, rfl, by simp only [List.map_toArray, List.map_cons, List.map_nil, hs.ev (x := .tmp 58) rfl]; exact run_bs [v33] [v33] Tryd.underlying27 to56 rfl rfl (bs_cons (l := [v33]) (cs := []) (cv_fz 0 rfl) rfl bs_nil) hm⟩) (fun hm => ⟨_, _, rfl, (fun hm => ⟨hc36, fz_at (i := 0) hm rfl⟩) hm, rfl⟩) rfl (fun v35 => ?_)
         obtain ⟨hc37, h⟩ := req_some h
         refine al_append 1 hc37.1 hc37.2 rfl (src_own (i := 1) 0 rfl) rfl rfl Tryd.underlying27 to56 rfl rfl rfl (fun v38 => ?_)
         refine al_as rfl rfl ?_
         refine al_nil ?_
         refine aq_block ?_
         exact aq_join (v38, (l14x6 ++ ([(some r32.1)]))) h (fun w a hm hs => norm hm hs [1, 2] [] [(6, v38), (34, v13), (35, (iq (r12.length : Int))), (36, (iq l14i36))] (by decide) ⟨rfl, rfl, rfl, rfl, trivial⟩)
     ·replace h := bif_f hb17 h
      refine aw_exit ?_
      refine aq_then_exit ?_
      refine aq_then_exit ?_
      refine aq_block_exit ?_
      exact aq_join (l14v6, l14x6) h (fun w a hm hs => norm hm hs [0] [] [(6, l14v6)] (by decide) ⟨rfl, trivial⟩)
  ·clear hkk6
   refine aw_region ?_
   refine al_mv rfl rfl ?_
   refine al_val (ov_not rfl rfl) ?_
   refine al_mv rfl rfl ?_
   refine al_caseB 23 rfl (fun hb39 => ?_) (fun hb39 => ?_)
   ·replace h := bif_t hb39 h
    refine al_skip ?_
    refine al_skip ?_
    refine al_val (ov_pick_t rfl rfl rfl) ?_
    refine al_mv rfl rfl ?_
    refine al_skip ?_
    refine al_skip ?_
    refine al_skip ?_
    refine al_val (ov_pick_t rfl rfl rfl) ?_
    refine al_nil ?_
    exact aq_join true h (fun w a hm hs => norm hm hs [] [] [(0, (str a0)), (31, (bool true))] (by decide) ⟨rfl, rfl, trivial⟩)
   ·replace h := bif_f hb39 h
    refine al_mv rfl rfl ?_
    refine al_val (ov_strCmp rfl rfl rfl rfl) ?_
    refine al_val (ov_pick_f rfl rfl rfl) ?_
    refine al_mv rfl rfl ?_
    refine al_caseB 27 rfl (fun hb40 => ?_) (fun hb40 => ?_)
    ·replace h := bif_t hb40 h
     refine al_skip ?_
     refine al_skip ?_
     refine al_skip ?_
     refine al_val (ov_pick_t rfl rfl rfl) ?_
     refine al_nil ?_
     exact aq_join true h (fun w a hm hs => norm hm hs [] [] [(0, (str a0)), (31, (bool true))] (by decide) ⟨rfl, rfl, trivial⟩)
    ·replace h := bif_f hb40 h
     refine al_mv rfl rfl ?_
     obtain ⟨hc41, h⟩ := req_some h
     refine al_val (ov_strIdx hc41.1 hc41.2 Tryd.underlying9 rfl rfl rfl) ?_
     refine al_in rfl rfl rfl rfl ?_
     refine al_val (ov_pick_f rfl rfl rfl) ?_
     refine al_nil ?_
     exact aq_join ((En.bAt a0 (0 : Int)) != (47 : Int)) h (fun w a hm hs => norm hm hs [] [] [(0, (str a0)), (31, (bool ((En.bAt a0 (0 : Int)) != (47 : Int))))] (by decide) ⟨rfl, rfl, trivial⟩)
def f_stringslite_HasPrefix (fu : Nat) (a0 : (List UInt8)) (a1 : (List UInt8)) : Option Bool := (lt (fun (j1b4 : Bool) => (some j1b4)) fun (kk2 : Bool → Option Bool) => (bif (decide ((a0.length : Int) ≥ (a1.length : Int))) then (req (0 ≤ (a1.length : Int) ∧ (a1.length : Int) ≤ (a0.length : Int)) (kk2 ((a0.take ((a1.length : Int)).toNat) == a1))) else (kk2 false)))
set_option maxHeartbeats 2000000 in
set_option maxRecDepth 100000 in
theorem f_stringslite_HasPrefix_ok (fu : Nat) (a0 : (List UInt8)) (a1 : (List UInt8)) {r : Bool} (h : f_stringslite_HasPrefix fu a0 a1 = some r) : FnOk Tryd.prog 49 [(str a0), (str a1)] [] [] (fun (i : Unit) => { val := (bool r) }) := by
 unfold f_stringslite_HasPrefix at h
 refine fn_enter Tryd.func49 rfl Tryd.ntmps49 rfl (fun w0 Z0 => ?_)
 refine aw_sr ?_
 refine al_as rfl rfl ?_
 refine al_nt ?_
 obtain ⟨kk2, hkk2, h⟩ := lt_some h
 refine aw_seq_join (ι := Bool) (fun i => (memOf w0 Z0 [] [] [])) (fun i => (tab [(4, (bool i))])) (fun i => kk2 i = some r) ?_ ?_
 ·rintro j1b4 h
  have h : kk2 j1b4 = some r := h
  rw [hkk2] at h
  dsimp only at h
  clear hkk2
  refine aw_show (m := (memOf w0 Z0 [] [] [])) (S := (tab [(4, (bool j1b4))])) ?_
  refine aw_ret ?_
  obtain rfl := Option.some.inj h
  exact fn_ret () [] [] rfl rfl rfl rfl (res1 rfl rfl) rfl rfl rfl (by decide)
 ·clear hkk2
  refine aw_region ?_
  refine al_mv rfl rfl ?_
  refine al_val (ov_strLen Tryd.underlying9 rfl rfl) ?_
  refine al_mv rfl rfl ?_
  refine al_val (ov_strLen Tryd.underlying9 rfl rfl) ?_
  refine al_in rfl rfl rfl rfl ?_
  refine al_mv rfl rfl ?_
  refine al_caseB 10 rfl (fun hb3 => ?_) (fun hb3 => ?_)
  ·replace h := bif_t hb3 h
   refine al_mv rfl rfl ?_
   refine al_mv rfl rfl ?_
   refine al_val (ov_strLen Tryd.underlying9 rfl rfl) ?_
   obtain ⟨hc4, h⟩ := req_some h
   refine al_val (ov_strTo hc4.1 hc4.2 Tryd.underlying9 rfl rfl rfl) ?_
   refine al_mv rfl rfl ?_
   refine al_val (ov_strCmp rfl rfl rfl rfl) ?_
   refine al_val (ov_pick_t rfl rfl rfl) ?_
   refine al_as rfl rfl ?_
   refine al_nil ?_
   exact aq_join ((a0.take ((a1.length : Int)).toNat) == a1) h (fun w a hm hs => norm hm hs [] [] [(4, (bool ((a0.take ((a1.length : Int)).toNat) == a1)))] (by decide) ⟨rfl, trivial⟩)
  ·replace h := bif_f hb3 h
   refine al_skip ?_
   refine al_skip ?_
   refine al_skip ?_
   refine al_skip ?_
   refine al_skip ?_
   refine al_skip ?_
   refine al_val (ov_pick_f rfl rfl rfl) ?_
   refine al_as rfl rfl ?_
   refine al_nil ?_
   exact aq_join false h (fun w a hm hs => norm hm hs [] [] [(4, (bool false))] (by decide) ⟨rfl, trivial⟩)
def f_stringslite_CutPrefix (fu : Nat) (a0 : (List UInt8)) (a1 : (List UInt8)) : Option ((List UInt8) × Bool) := (opt (f_stringslite_HasPrefix fu a0 a1) fun (r2 : Bool) => (bif (!r2) then (some (a0, false)) else (req (0 ≤ (a1.length : Int) ∧ (a1.length : Int) ≤ (a0.length : Int)) (some ((a0.drop ((a1.length : Int)).toNat), true)))))
set_option maxHeartbeats 2000000 in
set_option maxRecDepth 100000 in
theorem f_stringslite_CutPrefix_ok (fu : Nat) (a0 : (List UInt8)) (a1 : (List UInt8)) {r : ((List UInt8) × Bool)} (h : f_stringslite_CutPrefix fu a0 a1 = some r) : FnOk Tryd.prog 71 [(str a0), (str a1)] [] [] (fun (i : Unit) => { val := (Value.tuple #[(str r.1), (bool r.2)]) }) := by
 unfold f_stringslite_CutPrefix at h
 refine fn_enter Tryd.func71 rfl Tryd.ntmps71 rfl (fun w0 Z0 => ?_)
 refine aw_sr ?_
 refine al_as rfl rfl ?_
 refine al_as rfl rfl ?_
 refine al_nt ?_
 refine aw_seq ?_
 refine aw_sr ?_
 refine al_mv rfl rfl ?_
 refine al_mv rfl rfl ?_
 obtain ⟨r2, hc1, h⟩ := opt_some h
 refine al_call (vs := [(str a0), (str a1)]) (f_stringslite_HasPrefix_ok fu a0 a1 hc1) [] [] [] pre_nil rfl (by simp) (by decide) (.inl rfl) rfl Tryd.func49 rfl rfl rfl (fun _ => ?_)
 refine al_val (ov_not rfl rfl) ?_
 refine al_nt ?_
 refine aw_cond rfl (fun hb3 => ?_) (fun hb3 => ?_)
 ·replace h := bif_t hb3 h
  refine aw_sr ?_
  refine al_mv rfl rfl ?_
  refine al_as rfl rfl ?_
  refine al_as rfl rfl ?_
  refine al_nt ?_
  refine aw_ret ?_
  refine aq_then_ret ?_
  obtain rfl := Option.some.inj h
  exact fn_ret () [] [] rfl rfl rfl rfl (res2 rfl rfl rfl) rfl rfl rfl (by decide)
 ·replace h := bif_f hb3 h
  refine aw_skip ?_
  refine aq_tr ?_
  refine al_mv rfl rfl ?_
  refine al_mv rfl rfl ?_
  refine al_val (ov_strLen Tryd.underlying9 rfl rfl) ?_
  obtain ⟨hc4, h⟩ := req_some h
  refine al_val (ov_strFrom hc4.1 hc4.2 Tryd.underlying9 rfl rfl rfl) ?_
  refine al_as rfl rfl ?_
  refine al_as rfl rfl ?_
  refine al_nt ?_
  refine aw_ret ?_
  obtain rfl := Option.some.inj h
  exact fn_ret () [] [] rfl rfl rfl rfl (res2 rfl rfl rfl) rfl rfl rfl (by decide)
def f_strings_CutPrefix (fu : Nat) (a0 : (List UInt8)) (a1 : (List UInt8)) : Option ((List UInt8) × Bool) := (opt (f_stringslite_CutPrefix fu a0 a1) fun (r2 : ((List UInt8) × Bool)) => (some (r2.1, r2.2)))
set_option maxRecDepth 100000 in
theorem f_strings_CutPrefix_ok (fu : Nat) (a0 : (List UInt8)) (a1 : (List UInt8)) {r : ((List UInt8) × Bool)} (h : f_strings_CutPrefix fu a0 a1 = some r) : FnOk Tryd.prog 39 [(str a0), (str a1)] [] [] (fun (i : Unit) => { val := (Value.tuple #[(str r.1), (bool r.2)]) }) := by
 unfold f_strings_CutPrefix at h
 refine fn_enter Tryd.func39 rfl Tryd.ntmps39 rfl (fun w0 Z0 => ?_)
 refine aw_sr ?_
 refine al_as rfl rfl ?_
 refine al_as rfl rfl ?_
 refine al_nt ?_
 refine aw_sr ?_
 refine al_mv rfl rfl ?_
 refine al_mv rfl rfl ?_
 obtain ⟨r2, hc1, h⟩ := opt_some h
 refine al_call (vs := [(str a0), (str a1)]) (f_stringslite_CutPrefix_ok fu a0 a1 hc1) [] [] [] pre_nil rfl (by simp) (by decide) (.inl rfl) rfl Tryd.func71 rfl rfl rfl (fun _ => ?_)
 refine al_ex rfl rfl rfl ?_
 refine al_ex rfl rfl rfl ?_
 refine al_as rfl rfl ?_
 refine al_as rfl rfl ?_
 refine al_nt ?_
 refine aw_ret ?_
 obtain rfl := Option.some.inj h
 exact fn_ret () [] [] rfl rfl rfl rfl (res2 rfl rfl rfl) rfl rfl rfl (by decide)
-- STUCK (*lumberroom/glob.reader).next: lty ['pointer', 121]
-- STUCK (*lumberroom/glob.reader).take: lty ['pointer', 121]
-- STUCK (*lumberroom/glob.reader).item: lty ['pointer', 121]
-- STUCK (*lumberroom/glob.reader).class: lty ['pointer', 121]
def f___glob_reader__next (fu : Nat) (a0 : S_glob_reader) : Option (Int × Bool × S_glob_reader) := (bif ((a0.left.length : Int) == (0 : Int)) then (some ((0 : Int), false, a0)) else (opt (at? a0.left (0 : Int)) fun (u2 : Int) => (req (0 ≤ (1 : Int) ∧ (1 : Int) ≤ (a0.left.length : Int)) (some (u2, true, (S_glob_reader.mk (a0.left.drop ((1 : Int)).toNat)))))))
set_option maxHeartbeats 2000000 in
set_option maxRecDepth 100000 in
theorem f___glob_reader__next_ok (fu : Nat) (bx0 : Nat) (v0_0 : Value) (a0 : S_glob_reader) {r : (Int × Bool × S_glob_reader)} (h : f___glob_reader__next fu a0 = some r) : FnOk Tryd.prog 74 [(ptr bx0 0)] [(fDat (tyList (tyInt .i32)) [v0_0] a0.left)] [(oBox bx0 121 [v0_0])] (fun (i : Value) => { val := (Value.tuple #[(int .i32 r.1), (bool r.2.1)]), own := [(oBox bx0 121 [i])], fz := [(fDat (tyList (tyInt .i32)) [i] r.2.2.left)] }) := by
 unfold f___glob_reader__next at h
 refine fn_enter Tryd.func74 rfl Tryd.ntmps74 rfl (fun w0 Z0 => ?_)
 refine aw_sr ?_
 refine al_as rfl rfl ?_
 refine al_as rfl rfl ?_
 refine al_nt ?_
 refine aw_seq ?_
 refine aw_sr ?_
 refine al_mv rfl rfl ?_
 refine al_val (ov_nilCheck rfl rfl) ?_
 refine al_val (ov_fieldA (p := 0) rfl Tryd.underlying121 rfl sz119 rfl rfl rfl) ?_
 refine al_val (ov_load (i := 0) (v := v0_0) rfl rfl Tryd.underlying119 sz119 rfl rfl rfl rfl) ?_
 refine al_val (ov_lenD 0 rfl rfl Tryd.underlying119 rfl) ?_
 refine al_in rfl rfl rfl rfl ?_
 refine al_nt ?_
 refine aw_cond rfl (fun hb1 => ?_) (fun hb1 => ?_)
 ·replace h := bif_t hb1 h
  refine aw_sr ?_
  refine al_as rfl rfl ?_
  refine al_as rfl rfl ?_
  refine al_nt ?_
  refine aw_ret ?_
  refine aq_then_ret ?_
  obtain rfl := Option.some.inj h
  exact fn_ret v0_0 [0] [0] rfl rfl rfl rfl (res2 rfl rfl rfl) rfl rfl rfl (by decide)
 ·replace h := bif_f hb1 h
  refine aw_skip ?_
  refine aq_tr ?_
  refine al_mv rfl rfl ?_
  refine al_val (ov_nilCheck rfl rfl) ?_
  refine al_val (ov_fieldA (p := 0) rfl Tryd.underlying121 rfl sz119 rfl rfl rfl) ?_
  refine al_val (ov_load (i := 0) (v := v0_0) rfl rfl Tryd.underlying119 sz119 rfl rfl rfl rfl) ?_
  obtain ⟨u2, hu3, h⟩ := opt_some h
  refine al_idxD 0 hu3 rfl rfl rfl Tryd.underlying119 sz21 rfl (fun p4 => ?_)
  refine al_val (ov_loadP (ds := [(int .i32 u2)]) 0 rfl (fun h => h) rfl Tryd.underlying21 sz21 rfl rfl rfl) ?_
  refine al_as rfl rfl ?_
  refine al_nt ?_
  refine aw_sr ?_
  refine al_mv rfl rfl ?_
  refine al_mv rfl rfl ?_
  refine al_val (ov_nilCheck rfl rfl) ?_
  refine al_val (ov_fieldA (p := 0) rfl Tryd.underlying121 rfl sz119 rfl rfl rfl) ?_
  refine al_val (ov_load (i := 0) (v := v0_0) rfl rfl Tryd.underlying119 sz119 rfl rfl rfl rfl) ?_
  obtain ⟨hc5, h⟩ := req_some h
  refine al_sliceDF 1 hc5.1 hc5.2 rfl rfl rfl Tryd.underlying119 sz21 rfl (fun s6 => ?_)
  refine al_val (ov_nilCheck rfl rfl) ?_
  refine al_val (ov_fieldA (p := 0) rfl Tryd.underlying121 rfl sz119 rfl rfl rfl) ?_
  refine al_store (i := 0) (vs := [s6]) (cs' := [s6]) rfl rfl rfl sz119 (cv_fz 0 rfl) rfl (co_fz 0 rfl co_nil) (Nat.le_of_ble_eq_true rfl) rfl rfl ?_
  refine al_nt ?_
  refine aw_sr ?_
  refine al_mv rfl rfl ?_
  refine al_as rfl rfl ?_
  refine al_as rfl rfl ?_
  refine al_nt ?_
  refine aw_ret ?_
  obtain rfl := Option.some.inj h
  exact fn_ret s6 [0] [0] rfl rfl rfl rfl (res2 rfl rfl rfl) rfl rfl rfl (by decide)
def f___glob_reader__take (fu : Nat) (a0 : S_glob_reader) (a1 : Int) : Option (Bool × S_glob_reader) := (lt (fun (j1b20 : Bool) => (bif j1b20 then (some (false, a0)) else (req (0 ≤ (1 : Int) ∧ (1 : Int) ≤ (a0.left.length : Int)) (some (true, (S_glob_reader.mk (a0.left.drop ((1 : Int)).toNat))))))) fun (kk2 : Bool → Option (Bool × S_glob_reader)) => (bif ((a0.left.length : Int) == (0 : Int)) then (kk2 true) else (opt (at? a0.left (0 : Int)) fun (u7 : Int) => (kk2 (u7 != a1)))))
set_option maxHeartbeats 2000000 in
set_option maxRecDepth 100000 in
theorem f___glob_reader__take_ok (fu : Nat) (bx0 : Nat) (v0_0 : Value) (a0 : S_glob_reader) (a1 : Int) {r : (Bool × S_glob_reader)} (h : f___glob_reader__take fu a0 a1 = some r) : FnOk Tryd.prog 99 [(ptr bx0 0), (int .i32 a1)] [(fDat (tyList (tyInt .i32)) [v0_0] a0.left)] [(oBox bx0 121 [v0_0])] (fun (i : Value) => { val := (bool r.1), own := [(oBox bx0 121 [i])], fz := [(fDat (tyList (tyInt .i32)) [i] r.2.left)] }) := by
 unfold f___glob_reader__take at h
 refine fn_enter Tryd.func99 rfl Tryd.ntmps99 rfl (fun w0 Z0 => ?_)
 refine aw_sr ?_
 refine al_as rfl rfl ?_
 refine al_nt ?_
 refine aw_seq ?_
 obtain ⟨kk2, hkk2, h⟩ := lt_some h
 refine aw_seq_join (ι := Bool) (fun i => (memOf w0 Z0 [(oBox bx0 121 [v0_0])] [(oBox bx0 121 [v0_0])] [(fDat (tyList (tyInt .i32)) [v0_0] a0.left)])) (fun i => (tab [(0, (pq bx0)), (20, (bool i))])) (fun i => kk2 i = some r) ?_ ?_
 ·rintro j1b20 h
  have h : kk2 j1b20 = some r := h
  rw [hkk2] at h
  dsimp only at h
  clear hkk2
  refine aw_show (m := (memOf w0 Z0 [(oBox bx0 121 [v0_0])] [(oBox bx0 121 [v0_0])] [(fDat (tyList (tyInt .i32)) [v0_0] a0.left)])) (S := (tab [(0, (pq bx0)), (20, (bool j1b20))])) ?_
  refine aw_cond rfl (fun hb3 => ?_) (fun hb3 => ?_)
  ·replace h := bif_t hb3 h
   refine aw_sr ?_
   refine al_as rfl rfl ?_
   refine al_nt ?_
   refine aw_ret ?_
   refine aq_then_ret ?_
   obtain rfl := Option.some.inj h
   exact fn_ret v0_0 [0] [0] rfl rfl rfl rfl (res1 rfl rfl) rfl rfl rfl (by decide)
  ·replace h := bif_f hb3 h
   refine aw_skip ?_
   refine aq_tr ?_
   refine al_mv rfl rfl ?_
   refine al_mv rfl rfl ?_
   refine al_val (ov_nilCheck rfl rfl) ?_
   refine al_val (ov_fieldA (p := 0) rfl Tryd.underlying121 rfl sz119 rfl rfl rfl) ?_
   refine al_val (ov_load (i := 0) (v := v0_0) rfl rfl Tryd.underlying119 sz119 rfl rfl rfl rfl) ?_
   obtain ⟨hc4, h⟩ := req_some h
   refine al_sliceDF 0 hc4.1 hc4.2 rfl rfl rfl Tryd.underlying119 sz21 rfl (fun s5 => ?_)
   refine al_val (ov_nilCheck rfl rfl) ?_
   refine al_val (ov_fieldA (p := 0) rfl Tryd.underlying121 rfl sz119 rfl rfl rfl) ?_
   refine al_store (i := 0) (vs := [s5]) (cs' := [s5]) rfl rfl rfl sz119 (cv_fz 0 rfl) rfl (co_fz 0 rfl co_nil) (Nat.le_of_ble_eq_true rfl) rfl rfl ?_
   refine al_nt ?_
   refine aw_sr ?_
   refine al_as rfl rfl ?_
   refine al_nt ?_
   refine aw_ret ?_
   obtain rfl := Option.some.inj h
   exact fn_ret s5 [0] [0] rfl rfl rfl rfl (res1 rfl rfl) rfl rfl rfl (by decide)
 ·clear hkk2
  refine aw_region ?_
  refine al_mv rfl rfl ?_
  refine al_val (ov_nilCheck rfl rfl) ?_
  refine al_val (ov_fieldA (p := 0) rfl Tryd.underlying121 rfl sz119 rfl rfl rfl) ?_
  refine al_val (ov_load (i := 0) (v := v0_0) rfl rfl Tryd.underlying119 sz119 rfl rfl rfl rfl) ?_
  refine al_val (ov_lenD 0 rfl rfl Tryd.underlying119 rfl) ?_
  refine al_in rfl rfl rfl rfl ?_
  refine al_mv rfl rfl ?_
  refine al_caseB 11 rfl (fun hb6 => ?_) (fun hb6 => ?_)
  ·replace h := bif_t hb6 h
   refine al_skip ?_
   refine al_skip ?_
   refine al_skip ?_
   refine al_skip ?_
   refine al_skip ?_
   refine al_skip ?_
   refine al_skip ?_
   refine al_skip ?_
   refine al_val (ov_pick_t rfl rfl rfl) ?_
   refine al_nil ?_
   exact aq_join true h (fun w a hm hs => norm hm hs [0] [0] [(0, (pq bx0)), (20, (bool true))] (by decide) ⟨rfl, rfl, trivial⟩)
  ·replace h := bif_f hb6 h
   refine al_mv rfl rfl ?_
   refine al_val (ov_nilCheck rfl rfl) ?_
   refine al_val (ov_fieldA (p := 0) rfl Tryd.underlying121 rfl sz119 rfl rfl rfl) ?_
   refine al_val (ov_load (i := 0) (v := v0_0) rfl rfl Tryd.underlying119 sz119 rfl rfl rfl rfl) ?_
   obtain ⟨u7, hu8, h⟩ := opt_some h
   refine al_idxD 0 hu8 rfl rfl rfl Tryd.underlying119 sz21 rfl (fun p9 => ?_)
   refine al_val (ov_loadP (ds := [(int .i32 u7)]) 0 rfl (fun h => h) rfl Tryd.underlying21 sz21 rfl rfl rfl) ?_
   refine al_mv rfl rfl ?_
   refine al_in rfl rfl rfl rfl ?_
   refine al_val (ov_pick_f rfl rfl rfl) ?_
   refine al_nil ?_
   exact aq_join (u7 != a1) h (fun w a hm hs => norm hm hs [0] [1] [(0, (pq bx0)), (20, (bool (u7 != a1)))] (by decide) ⟨rfl, rfl, trivial⟩)
def f___glob_reader__item (fu : Nat) (a0 : S_glob_reader) : Option (Int × Bool × S_glob_reader) := (opt (f___glob_reader__next fu a0) fun (r2 : (Int × Bool × S_glob_reader)) => (lt (fun (j4b11 : Bool) => (bif j4b11 then (some ((0 : Int), false, (S_glob_reader.mk r2.2.2.left))) else (bif (r2.1 == (92 : Int)) then (opt (f___glob_reader__next fu (S_glob_reader.mk r2.2.2.left)) fun (r9 : (Int × Bool × S_glob_reader)) => (some (r9.1, r9.2.1, (S_glob_reader.mk r9.2.2.left)))) else (some (r2.1, true, (S_glob_reader.mk r2.2.2.left)))))) fun (kk5 : Bool → Option (Int × Bool × S_glob_reader)) => (bif (!r2.2.1) then (kk5 true) else (kk5 (r2.1 == (93 : Int))))))
set_option maxHeartbeats 2000000 in
set_option maxRecDepth 100000 in
theorem f___glob_reader__item_ok (fu : Nat) (bx0 : Nat) (v0_0 : Value) (a0 : S_glob_reader) {r : (Int × Bool × S_glob_reader)} (h : f___glob_reader__item fu a0 = some r) : FnOk Tryd.prog 100 [(ptr bx0 0)] [(fDat (tyList (tyInt .i32)) [v0_0] a0.left)] [(oBox bx0 121 [v0_0])] (fun (i : Value) => { val := (Value.tuple #[(int .i32 r.1), (bool r.2.1)]), own := [(oBox bx0 121 [i])], fz := [(fDat (tyList (tyInt .i32)) [i] r.2.2.left)] }) := by
 unfold f___glob_reader__item at h
 refine fn_enter Tryd.func100 rfl Tryd.ntmps100 rfl (fun w0 Z0 => ?_)
 refine aw_sr ?_
 refine al_as rfl rfl ?_
 refine al_as rfl rfl ?_
 refine al_nt ?_
 refine aw_sr ?_
 refine al_mv rfl rfl ?_
 obtain ⟨r2, hc1, h⟩ := opt_some h
 refine al_call (vs := [(pq bx0)]) (f___glob_reader__next_ok fu bx0 v0_0 a0 hc1) [] [0] [] (pre_fz 0 rfl pre_nil) rfl (by simp) (by decide) (.inl rfl) rfl Tryd.func74 rfl rfl rfl (fun v3 => ?_)
 refine al_mv rfl rfl ?_
 refine al_ex rfl rfl rfl ?_
 refine al_ex rfl rfl rfl ?_
 refine al_as rfl rfl ?_
 refine al_as rfl rfl ?_
 refine al_nt ?_
 refine aw_seq ?_
 refine aw_block ?_
 obtain ⟨kk5, hkk5, h⟩ := lt_some h
 refine aw_seq_join (ι := Bool) (fun i => (memOf w0 Z0 [(oBox bx0 121 [v0_0])] [(oBox bx0 121 [v3])] [(fDat (tyList (tyInt .i32)) [v3] r2.2.2.left), (fDat (tyList (tyInt .i32)) [v0_0] a0.left)])) (fun i => (tab [(0, (pq bx0)), (4, (int .i32 r2.1)), (11, (bool i))])) (fun i => kk5 i = some r) ?_ ?_
 ·rintro j4b11 h
  have h : kk5 j4b11 = some r := h
  rw [hkk5] at h
  dsimp only at h
  clear hkk5
  refine aw_show (m := (memOf w0 Z0 [(oBox bx0 121 [v0_0])] [(oBox bx0 121 [v3])] [(fDat (tyList (tyInt .i32)) [v3] r2.2.2.left), (fDat (tyList (tyInt .i32)) [v0_0] a0.left)])) (S := (tab [(0, (pq bx0)), (4, (int .i32 r2.1)), (11, (bool j4b11))])) ?_
  refine aw_cond rfl (fun hb6 => ?_) (fun hb6 => ?_)
  ·replace h := bif_t hb6 h
   refine aw_sr ?_
   refine al_as rfl rfl ?_
   refine al_as rfl rfl ?_
   refine al_nt ?_
   refine aw_ret ?_
   refine aq_block_ret ?_
   refine aq_then_ret ?_
   obtain rfl := Option.some.inj h
   exact fn_ret v3 [0] [0] rfl rfl rfl rfl (res2 rfl rfl rfl) rfl rfl rfl (by decide)
  ·replace h := bif_f hb6 h
   refine aw_sr ?_
   refine al_mv rfl rfl ?_
   refine al_in rfl rfl rfl rfl ?_
   refine al_as rfl rfl ?_
   refine al_nt ?_
   refine aw_cond rfl (fun hb7 => ?_) (fun hb7 => ?_)
   ·replace h := bif_t hb7 h
    refine aw_sr ?_
    refine al_mv rfl rfl ?_
    obtain ⟨r9, hc8, h⟩ := opt_some h
    refine al_call (vs := [(pq bx0)]) (f___glob_reader__next_ok fu bx0 v3 (S_glob_reader.mk r2.2.2.left) hc8) [] [0] [] (pre_fz 0 rfl pre_nil) rfl (by simp) (by decide) (.inl rfl) rfl Tryd.func74 rfl rfl rfl (fun v10 => ?_)
    refine al_ex rfl rfl rfl ?_
    refine al_ex rfl rfl rfl ?_
    refine al_as rfl rfl ?_
    refine al_as rfl rfl ?_
    refine al_nt ?_
    refine aw_ret ?_
    refine aq_block_ret ?_
    refine aq_then_ret ?_
    obtain rfl := Option.some.inj h
    exact fn_ret v10 [0] [0] rfl rfl rfl rfl (res2 rfl rfl rfl) rfl rfl rfl (by decide)
   ·replace h := bif_f hb7 h
    refine aw_skip ?_
    refine aq_block ?_
    refine aq_tr ?_
    refine al_mv rfl rfl ?_
    refine al_as rfl rfl ?_
    refine al_as rfl rfl ?_
    refine al_nt ?_
    refine aw_ret ?_
    obtain rfl := Option.some.inj h
    exact fn_ret v3 [0] [0] rfl rfl rfl rfl (res2 rfl rfl rfl) rfl rfl rfl (by decide)
 ·clear hkk5
  refine aw_region ?_
  refine al_mv rfl rfl ?_
  refine al_val (ov_not rfl rfl) ?_
  refine al_mv rfl rfl ?_
  refine al_caseB 14 rfl (fun hb11 => ?_) (fun hb11 => ?_)
  ·replace h := bif_t hb11 h
   refine al_skip ?_
   refine al_skip ?_
   refine al_val (ov_pick_t rfl rfl rfl) ?_
   refine al_as rfl rfl ?_
   refine al_nil ?_
   exact aq_join true h (fun w a hm hs => norm hm hs [0] [0, 1] [(0, (pq bx0)), (4, (int .i32 r2.1)), (11, (bool true))] (by decide) ⟨rfl, rfl, rfl, trivial⟩)
  ·replace h := bif_f hb11 h
   refine al_mv rfl rfl ?_
   refine al_in rfl rfl rfl rfl ?_
   refine al_val (ov_pick_f rfl rfl rfl) ?_
   refine al_as rfl rfl ?_
   refine al_nil ?_
   exact aq_join (r2.1 == (93 : Int)) h (fun w a hm hs => norm hm hs [0] [0, 1] [(0, (pq bx0)), (4, (int .i32 r2.1)), (11, (bool (r2.1 == (93 : Int))))] (by decide) ⟨rfl, rfl, rfl, trivial⟩)
def f___glob_reader__class_L10 (r3 : (Bool × S_glob_reader)) (kk7 : ((List Int) → (List S_glob_span) → Option (S_glob_element × Bool × S_glob_reader))) (fu : Nat) : Nat → (List Int) → (List S_glob_span) → Option (S_glob_element × Bool × S_glob_reader)
  | 0, _, _ => none
  | k9 + 1, l8x0_0, l8x4_1 => (lt (fun (j11x0_0 : (List Int)) (j11b19 : Bool) => (bif j11b19 then (opt (f___glob_reader__item fu (S_glob_reader.mk j11x0_0)) fun (r15 : (Int × Bool × S_glob_reader)) => (bif (!r15.2.1) then (some ((S_glob_element.mk (0 : Int) l8x4_1 r3.1), false, (S_glob_reader.mk r15.2.2.left))) else (lt (fun (j18x0_0 : (List Int)) (j18i7 : Int) => (req (((l8x4_1.length + ([(S_glob_span.mk r15.1 j18i7)]).length) * 8 : Nat) ≤ 140737488355328 ∧ l8x4_1.length + ([(S_glob_span.mk r15.1 j18i7)]).length ≤ 9223372036854775807) (f___glob_reader__class_L10 r3 kk7 fu k9 j18x0_0 (l8x4_1 ++ ([(S_glob_span.mk r15.1 j18i7)]))))) fun (kk19 : (List Int) → Int → Option (S_glob_element × Bool × S_glob_reader)) => (opt (f___glob_reader__take fu (S_glob_reader.mk r15.2.2.left) (45 : Int)) fun (r24 : (Bool × S_glob_reader)) => (bif r24.1 then (opt (f___glob_reader__item fu (S_glob_reader.mk r24.2.left)) fun (r28 : (Int × Bool × S_glob_reader)) => (lt (fun (j30b42 : Bool) => (bif j30b42 then (some ((S_glob_element.mk (0 : Int) l8x4_1 r3.1), false, (S_glob_reader.mk r28.2.2.left))) else (kk19 r28.2.2.left r28.1))) fun (kk31 : Bool → Option (S_glob_element × Bool × S_glob_reader)) => (bif (!r28.2.1) then (kk31 true) else (kk31 (decide (r15.1 > r28.1)))))) else (kk19 r24.2.left r15.1)))))) else (kk7 j11x0_0 l8x4_1))) fun (kk12 : (List Int) → Bool → Option (S_glob_element × Bool × S_glob_reader)) => (bif ((l8x4_1.length : Int) == (0 : Int)) then (kk12 l8x0_0 true) else (opt (f___glob_reader__take fu (S_glob_reader.mk l8x0_0) (93 : Int)) fun (r36 : (Bool × S_glob_reader)) => (kk12 r36.2.left (!r36.1)))))
def f___glob_reader__class (fu : Nat) (a0 : S_glob_reader) : Option (S_glob_element × Bool × S_glob_reader) := (opt (f___glob_reader__take fu a0 (94 : Int)) fun (r3 : (Bool × S_glob_reader)) => (lt (fun (j6x0_0 : (List Int)) (j6x4_1 : (List S_glob_span)) => (some ((S_glob_element.mk (0 : Int) j6x4_1 r3.1), true, (S_glob_reader.mk j6x0_0)))) fun (kk7 : (List Int) → (List S_glob_span) → Option (S_glob_element × Bool × S_glob_reader)) => (f___glob_reader__class_L10 r3 kk7 fu fu r3.2.left ([] : List S_glob_span))))
set_option maxHeartbeats 2000000 in
set_option maxRecDepth 100000 in
theorem f___glob_reader__class_ok (fu : Nat) (bx0 : Nat) (v0_0 : Value) (a0 : S_glob_reader) {r : (S_glob_element × Bool × S_glob_reader)} (h : f___glob_reader__class fu a0 = some r) : FnOk Tryd.prog 75 [(ptr bx0 0)] [(fDat (tyList (tyInt .i32)) [v0_0] a0.left)] [(oBox bx0 121 [v0_0])] (fun (i : Value × Value) => { val := (Value.tuple #[(ag [(int .i64 r.1.kind), i.1, (bool r.1.not)]), (bool r.2.1)]), own := [(oBox bx0 121 [i.2])], fz := [(fDat (tyList tyS_glob_span) [i.1] r.1.spans), (fDat (tyList (tyInt .i32)) [i.2] r.2.2.left)] }) := by
 unfold f___glob_reader__class at h
 refine fn_enter Tryd.func75 rfl Tryd.ntmps75 rfl (fun w0 Z0 => ?_)
 refine aw_sr ?_
 refine al_alloc (zs := [(iq (0 : Int)), nS, (bool false)]) (zeroOf_to to128) rfl rfl (fun g1 => ?_)
 refine al_as rfl rfl ?_
 refine al_nt ?_
 refine aw_sr ?_
 refine al_mv rfl rfl ?_
 obtain ⟨r3, hc2, h⟩ := opt_some h
 refine al_call (vs := [(pq bx0), (int .i32 (94 : Int))]) (f___glob_reader__take_ok fu bx0 v0_0 a0 (94 : Int) hc2) [] [1] [0] (pre_fz 0 rfl pre_nil) rfl (by simp) (by decide) (.inl rfl) rfl Tryd.func99 rfl rfl rfl (fun v4 => ?_)
 refine al_val (ov_build (cells := ([(iq (0 : Int)), nS, (bool r3.1)] : List Value).toArray) (cs := [(iq (0 : Int)), nS, (bool r3.1)]) rfl (fun w a hm hs => by simp only [List.map_toArray, List.map_cons, List.map_nil, List.toList_toArray, hs.ev (x := .tmp 9) rfl]; kernel_rfl)) ?_
 refine al_alloc (zs := [(iq (0 : Int)), nS, (bool false)]) (zeroOf_to to128) rfl rfl (fun g5 => ?_)
 refine al_store (i := 0) (vs := [(iq (0 : Int)), nS, (bool r3.1)]) (cs' := [(iq (0 : Int)), nS, (bool r3.1)]) rfl rfl rfl sz128 (cv_rfl rfl) rfl (co_val rfl (co_val rfl (co_val rfl co_nil))) (Nat.le_of_ble_eq_true rfl) rfl rfl ?_
 refine al_nt ?_
 obtain ⟨kk7, hkk7, h⟩ := lt_some h
 refine aw_seq_join (ι := Value × (List Int) × Value × (List S_glob_span)) (fun i => (memOf w0 Z0 [(oBox bx0 121 [v0_0])] [(oBox bx0 121 [i.1]), (oBox g1 128 [(iq (0 : Int)), nS, (bool false)]), (oRow i.2.2.1 125 tyS_glob_span i.2.2.2), (oBox g5 128 [(iq (0 : Int)), i.2.2.1, (bool r3.1)])] [(fDat (tyList (tyInt .i32)) [i.1] i.2.1), (fDat (tyList (tyInt .i32)) [v4] r3.2.left), (fDat (tyList (tyInt .i32)) [v0_0] a0.left)])) (fun i => (tab [(0, (pq bx0)), (2, (pq g1)), (4, (pq g5))])) (fun i => kk7 i.2.1 i.2.2.2 = some r) ?_ ?_
 ·rintro ⟨j6v0_0, j6x0_0, j6v4_1, j6x4_1⟩ h
  have h : kk7 j6x0_0 j6x4_1 = some r := h
  rw [hkk7] at h
  dsimp only at h
  clear hkk7
  refine aw_show (m := (memOf w0 Z0 [(oBox bx0 121 [v0_0])] [(oBox bx0 121 [j6v0_0]), (oBox g1 128 [(iq (0 : Int)), nS, (bool false)]), (oRow j6v4_1 125 tyS_glob_span j6x4_1), (oBox g5 128 [(iq (0 : Int)), j6v4_1, (bool r3.1)])] [(fDat (tyList (tyInt .i32)) [j6v0_0] j6x0_0), (fDat (tyList (tyInt .i32)) [v4] r3.2.left), (fDat (tyList (tyInt .i32)) [v0_0] a0.left)])) (S := (tab [(0, (pq bx0)), (2, (pq g1)), (4, (pq g5))])) ?_
  refine aw_sr ?_
  refine al_val (ov_load (i := 3) (v := (ag [(iq (0 : Int)), j6v4_1, (bool r3.1)])) rfl rfl Tryd.underlying128 sz128 rfl rfl rfl rfl) ?_
  refine al_store (i := 1) (vs := [(iq (0 : Int)), j6v4_1, (bool r3.1)]) (cs' := [(iq (0 : Int)), j6v4_1, (bool r3.1)]) rfl rfl rfl sz128 (cv_rfl rfl) rfl (co_val rfl (co_own 2 rfl (co_val rfl co_nil))) (Nat.le_of_ble_eq_true rfl) rfl rfl ?_
  refine al_as rfl rfl ?_
  refine al_nt ?_
  refine aw_ret ?_
  refine aq_freezeX 2 [0] rfl rfl rfl ?_
  obtain rfl := Option.some.inj h
  exact fn_ret (j6v4_1, j6v0_0) [0] [0, 1] rfl rfl rfl rfl (resC rfl (resB (i := 1) rfl rfl Tryd.underlying128 sz128 rfl rfl rfl (resT rfl (resN))) rfl) rfl rfl rfl (by decide)
 ·clear hkk7
  refine aw_block ?_
  refine aw_nilR 125 tyS_glob_span ?_
  refine aw_state (aw_loop (ι := Value × (List Int) × Value × (List S_glob_span)) (fun i => (memOf w0 Z0 [(oBox bx0 121 [v0_0])] [(oBox bx0 121 [i.1]), (oBox g1 128 [(iq (0 : Int)), nS, (bool false)]), (oRow i.2.2.1 125 tyS_glob_span i.2.2.2), (oBox g5 128 [(iq (0 : Int)), i.2.2.1, (bool r3.1)])] [(fDat (tyList (tyInt .i32)) [i.1] i.2.1), (fDat (tyList (tyInt .i32)) [v4] r3.2.left), (fDat (tyList (tyInt .i32)) [v0_0] a0.left)])) (fun i => (tab [(0, (pq bx0)), (2, (pq g1)), (4, (pq g5))])) (fun q i => f___glob_reader__class_L10 r3 kk7 fu q i.2.1 i.2.2.2 = some r) ?_ fu (v4, r3.2.left, nS, ([] : List S_glob_span)) h) (fun w a hm hs => norm hm hs [2, 3, 0, 1] [0, 0, 1] [(0, (pq bx0)), (2, (pq g1)), (4, (pq g5))] (by decide) ⟨rfl, rfl, rfl, trivial⟩)
  clear h
  rintro k9 ⟨l8v0_0, l8x0_0, l8v4_1, l8x4_1⟩ h
  have h : f___glob_reader__class_L10 r3 kk7 fu k9 l8x0_0 l8x4_1 = some r := h
  obtain _ | k9 := k9
  · rw [f___glob_reader__class_L10] at h; cases h
  rw [f___glob_reader__class_L10] at h
  refine aw_show (m := (memOf w0 Z0 [(oBox bx0 121 [v0_0])] [(oBox bx0 121 [l8v0_0]), (oBox g1 128 [(iq (0 : Int)), nS, (bool false)]), (oRow l8v4_1 125 tyS_glob_span l8x4_1), (oBox g5 128 [(iq (0 : Int)), l8v4_1, (bool r3.1)])] [(fDat (tyList (tyInt .i32)) [l8v0_0] l8x0_0), (fDat (tyList (tyInt .i32)) [v4] r3.2.left), (fDat (tyList (tyInt .i32)) [v0_0] a0.left)])) (S := (tab [(0, (pq bx0)), (2, (pq g1)), (4, (pq g5))])) ?_
  refine aw_seq ?_
  obtain ⟨kk12, hkk12, h⟩ := lt_some h
  refine aw_seq_join (ι := Value × (List Int) × Bool) (fun i => (memOf w0 Z0 [(oBox bx0 121 [v0_0])] [(oBox bx0 121 [i.1]), (oBox g1 128 [(iq (0 : Int)), nS, (bool false)]), (oRow l8v4_1 125 tyS_glob_span l8x4_1), (oBox g5 128 [(iq (0 : Int)), l8v4_1, (bool r3.1)])] [(fDat (tyList (tyInt .i32)) [i.1] i.2.1), (fDat (tyList (tyInt .i32)) [l8v0_0] l8x0_0), (fDat (tyList (tyInt .i32)) [v4] r3.2.left), (fDat (tyList (tyInt .i32)) [v0_0] a0.left)])) (fun i => (tab [(0, (pq bx0)), (2, (pq g1)), (4, (pq g5)), (19, (bool i.2.2))])) (fun i => kk12 i.2.1 i.2.2 = some r) ?_ ?_
  ·rintro ⟨j11v0_0, j11x0_0, j11b19⟩ h
   have h : kk12 j11x0_0 j11b19 = some r := h
   rw [hkk12] at h
   dsimp only at h
   clear hkk12
   refine aw_show (m := (memOf w0 Z0 [(oBox bx0 121 [v0_0])] [(oBox bx0 121 [j11v0_0]), (oBox g1 128 [(iq (0 : Int)), nS, (bool false)]), (oRow l8v4_1 125 tyS_glob_span l8x4_1), (oBox g5 128 [(iq (0 : Int)), l8v4_1, (bool r3.1)])] [(fDat (tyList (tyInt .i32)) [j11v0_0] j11x0_0), (fDat (tyList (tyInt .i32)) [l8v0_0] l8x0_0), (fDat (tyList (tyInt .i32)) [v4] r3.2.left), (fDat (tyList (tyInt .i32)) [v0_0] a0.left)])) (S := (tab [(0, (pq bx0)), (2, (pq g1)), (4, (pq g5)), (19, (bool j11b19))])) ?_
   refine aw_cond rfl (fun hb13 => ?_) (fun hb13 => ?_)
   ·replace h := bif_t hb13 h
    refine aw_skip ?_
    refine aq_then ?_
    refine aw_block ?_
    refine aw_sr ?_
    refine al_mv rfl rfl ?_
    obtain ⟨r15, hc14, h⟩ := opt_some h
    refine al_call (vs := [(pq bx0)]) (f___glob_reader__item_ok fu bx0 j11v0_0 (S_glob_reader.mk j11x0_0) hc14) [] [0] [1, 2, 3] (pre_fz 0 rfl pre_nil) rfl (by simp) (by decide) (.inl rfl) rfl Tryd.func100 rfl rfl rfl (fun v16 => ?_)
    refine al_mv rfl rfl ?_
    refine al_ex rfl rfl rfl ?_
    refine al_ex rfl rfl rfl ?_
    refine al_as rfl rfl ?_
    refine al_as rfl rfl ?_
    refine al_nt ?_
    refine aw_seq ?_
    refine aw_sr ?_
    refine al_mv rfl rfl ?_
    refine al_val (ov_not rfl rfl) ?_
    refine al_nt ?_
    refine aw_cond rfl (fun hb17 => ?_) (fun hb17 => ?_)
    ·replace h := bif_t hb17 h
     refine aw_sr ?_
     refine al_val (ov_load (i := 3) (v := (ag [(iq (0 : Int)), l8v4_1, (bool r3.1)])) rfl rfl Tryd.underlying128 sz128 rfl rfl rfl rfl) ?_
     refine al_store (i := 1) (vs := [(iq (0 : Int)), l8v4_1, (bool r3.1)]) (cs' := [(iq (0 : Int)), l8v4_1, (bool r3.1)]) rfl rfl rfl sz128 (cv_rfl rfl) rfl (co_val rfl (co_own 2 rfl (co_val rfl co_nil))) (Nat.le_of_ble_eq_true rfl) rfl rfl ?_
     refine al_as rfl rfl ?_
     refine al_nt ?_
     refine aw_ret ?_
     refine aq_then_ret ?_
     refine aq_block_ret ?_
     refine aq_then_ret ?_
     refine aq_block_ret ?_
     refine aq_then_ret ?_
     refine aq_freezeX 2 [0] rfl rfl rfl ?_
     obtain rfl := Option.some.inj h
     exact fn_ret (l8v4_1, v16) [0] [0, 1] rfl rfl rfl rfl (resC rfl (resB (i := 1) rfl rfl Tryd.underlying128 sz128 rfl rfl rfl (resT rfl (resN))) rfl) rfl rfl rfl (by decide)
    ·replace h := bif_f hb17 h
     refine aw_skip ?_
     refine aq_tr ?_
     refine al_mv rfl rfl ?_
     refine al_as rfl rfl ?_
     refine al_nt ?_
     obtain ⟨kk19, hkk19, h⟩ := lt_some h
     refine aw_seq_join (ι := Value × (List Int) × Int) (fun i => (memOf w0 Z0 [(oBox bx0 121 [v0_0])] [(oBox bx0 121 [i.1]), (oBox g1 128 [(iq (0 : Int)), nS, (bool false)]), (oRow l8v4_1 125 tyS_glob_span l8x4_1), (oBox g5 128 [(iq (0 : Int)), l8v4_1, (bool r3.1)])] [(fDat (tyList (tyInt .i32)) [i.1] i.2.1), (fDat (tyList (tyInt .i32)) [v16] r15.2.2.left), (fDat (tyList (tyInt .i32)) [j11v0_0] j11x0_0), (fDat (tyList (tyInt .i32)) [l8v0_0] l8x0_0), (fDat (tyList (tyInt .i32)) [v4] r3.2.left), (fDat (tyList (tyInt .i32)) [v0_0] a0.left)])) (fun i => (tab [(0, (pq bx0)), (2, (pq g1)), (4, (pq g5)), (5, (int .i32 r15.1)), (7, (int .i32 i.2.2))])) (fun i => kk19 i.2.1 i.2.2 = some r) ?_ ?_
     ·rintro ⟨j18v0_0, j18x0_0, j18i7⟩ h
      have h : kk19 j18x0_0 j18i7 = some r := h
      rw [hkk19] at h
      dsimp only at h
      clear hkk19
      refine aw_show (m := (memOf w0 Z0 [(oBox bx0 121 [v0_0])] [(oBox bx0 121 [j18v0_0]), (oBox g1 128 [(iq (0 : Int)), nS, (bool false)]), (oRow l8v4_1 125 tyS_glob_span l8x4_1), (oBox g5 128 [(iq (0 : Int)), l8v4_1, (bool r3.1)])] [(fDat (tyList (tyInt .i32)) [j18v0_0] j18x0_0), (fDat (tyList (tyInt .i32)) [v16] r15.2.2.left), (fDat (tyList (tyInt .i32)) [j11v0_0] j11x0_0), (fDat (tyList (tyInt .i32)) [l8v0_0] l8x0_0), (fDat (tyList (tyInt .i32)) [v4] r3.2.left), (fDat (tyList (tyInt .i32)) [v0_0] a0.left)])) (S := (tab [(0, (pq bx0)), (2, (pq g1)), (4, (pq g5)), (5, (int .i32 r15.1)), (7, (int .i32 j18i7))])) ?_
      refine aw_region ?_
      refine al_val (ov_fieldA (p := 1) rfl Tryd.underlying128 rfl sz126 rfl rfl rfl) ?_
      refine al_val (ov_load (i := 3) (v := l8v4_1) rfl rfl Tryd.underlying126 sz126 rfl rfl rfl rfl) ?_
      refine al_mv rfl rfl ?_
      refine al_mv rfl rfl ?_
      refine al_val (ov_build (cells := ([(int .i32 r15.1), (int .i32 j18i7)] : List Value).toArray) (cs := [(int .i32 r15.1), (int .i32 j18i7)]) rfl (fun w a hm hs => by simp only [List.map_toArray, List.map_cons, List.map_nil, List.toList_toArray, hs.ev (x := .tmp 46) rfl, hs.ev (x := .tmp 47) rfl]; kernel_rfl)) ?_
      refine al_buildSlice (τ := tyS_glob_span) (e := 125) (k := 1) (sz := 0) (by_ := 0) (z := undef) (cs := [(int .i32 r15.1), (int .i32 j18i7)]) (xs := [(S_glob_span.mk r15.1 j18i7)]) rfl (by decide) (fun w a hm hs => ⟨([(int .i32 r15.1), (int .i32 j18i7)]).toArray, rfl, by simp only [List.map_toArray, List.map_cons, List.map_nil, hs.ev (x := .tmp 48) rfl]; exact run_bs [(ag [(int .i32 r15.1), (int .i32 j18i7)])] [(int .i32 r15.1), (int .i32 j18i7)] Tryd.underlying126 to125 rfl rfl (bs_cons (l := [(int .i32 r15.1), (int .i32 j18i7)]) (cs := []) (cv_rfl rfl) rfl bs_nil) hm⟩) (fun hm => ⟨_, _, rfl, (fun _ => mkS_glob_span rfl) hm, rfl⟩) rfl (fun v20 => ?_)
      obtain ⟨hc21, h⟩ := req_some h
      refine al_append 3 hc21.1 hc21.2 rfl (src_own (i := 3) 0 rfl) rfl rfl Tryd.underlying126 to125 rfl rfl rfl (fun v22 => ?_)
      refine al_val (ov_fieldA (p := 1) rfl Tryd.underlying128 rfl sz126 rfl rfl rfl) ?_
      refine al_store (i := 4) (vs := [v22]) (cs' := [(iq (0 : Int)), v22, (bool r3.1)]) rfl rfl rfl sz126 (cv_own 3 rfl) rfl (co_own 3 rfl co_nil) (Nat.le_of_ble_eq_true rfl) rfl rfl ?_
      refine al_nil ?_
      refine aq_block ?_
      exact aq_again k9 (j18v0_0, j18x0_0, v22, (l8x4_1 ++ ([(S_glob_span.mk r15.1 j18i7)]))) (Nat.lt_succ_self _) h (fun w a hm hs => norm hm hs [1, 2, 3, 4] [0, 4, 5] [(0, (pq bx0)), (2, (pq g1)), (4, (pq g5))] (by decide) ⟨rfl, rfl, rfl, trivial⟩)
     ·clear hkk19
      refine aw_sr ?_
      refine al_mv rfl rfl ?_
      obtain ⟨r24, hc23, h⟩ := opt_some h
      refine al_call (vs := [(pq bx0), (int .i32 (45 : Int))]) (f___glob_reader__take_ok fu bx0 v16 (S_glob_reader.mk r15.2.2.left) (45 : Int) hc23) [] [0] [1, 2, 3] (pre_fz 0 rfl pre_nil) rfl (by simp) (by decide) (.inl rfl) rfl Tryd.func99 rfl rfl rfl (fun v25 => ?_)
      refine al_nt ?_
      refine aw_cond rfl (fun hb26 => ?_) (fun hb26 => ?_)
      ·replace h := bif_t hb26 h
       refine aw_sr ?_
       refine al_mv rfl rfl ?_
       obtain ⟨r28, hc27, h⟩ := opt_some h
       refine al_call (vs := [(pq bx0)]) (f___glob_reader__item_ok fu bx0 v25 (S_glob_reader.mk r24.2.left) hc27) [] [0] [1, 2, 3] (pre_fz 0 rfl pre_nil) rfl (by simp) (by decide) (.inl rfl) rfl Tryd.func100 rfl rfl rfl (fun v29 => ?_)
       refine al_mv rfl rfl ?_
       refine al_ex rfl rfl rfl ?_
       refine al_ex rfl rfl rfl ?_
       refine al_as rfl rfl ?_
       refine al_as rfl rfl ?_
       refine al_nt ?_
       obtain ⟨kk31, hkk31, h⟩ := lt_some h
       refine aw_seq_join (ι := Bool) (fun i => (memOf w0 Z0 [(oBox bx0 121 [v0_0])] [(oBox bx0 121 [v29]), (oBox g1 128 [(iq (0 : Int)), nS, (bool false)]), (oRow l8v4_1 125 tyS_glob_span l8x4_1), (oBox g5 128 [(iq (0 : Int)), l8v4_1, (bool r3.1)])] [(fDat (tyList (tyInt .i32)) [v29] r28.2.2.left), (fDat (tyList (tyInt .i32)) [v25] r24.2.left), (fDat (tyList (tyInt .i32)) [v16] r15.2.2.left), (fDat (tyList (tyInt .i32)) [j11v0_0] j11x0_0), (fDat (tyList (tyInt .i32)) [l8v0_0] l8x0_0), (fDat (tyList (tyInt .i32)) [v4] r3.2.left), (fDat (tyList (tyInt .i32)) [v0_0] a0.left)])) (fun i => (tab [(0, (pq bx0)), (2, (pq g1)), (4, (pq g5)), (5, (int .i32 r15.1)), (7, (int .i32 r28.1)), (42, (bool i))])) (fun i => kk31 i = some r) ?_ ?_
       ·rintro j30b42 h
        have h : kk31 j30b42 = some r := h
        rw [hkk31] at h
        dsimp only at h
        clear hkk31
        refine aw_show (m := (memOf w0 Z0 [(oBox bx0 121 [v0_0])] [(oBox bx0 121 [v29]), (oBox g1 128 [(iq (0 : Int)), nS, (bool false)]), (oRow l8v4_1 125 tyS_glob_span l8x4_1), (oBox g5 128 [(iq (0 : Int)), l8v4_1, (bool r3.1)])] [(fDat (tyList (tyInt .i32)) [v29] r28.2.2.left), (fDat (tyList (tyInt .i32)) [v25] r24.2.left), (fDat (tyList (tyInt .i32)) [v16] r15.2.2.left), (fDat (tyList (tyInt .i32)) [j11v0_0] j11x0_0), (fDat (tyList (tyInt .i32)) [l8v0_0] l8x0_0), (fDat (tyList (tyInt .i32)) [v4] r3.2.left), (fDat (tyList (tyInt .i32)) [v0_0] a0.left)])) (S := (tab [(0, (pq bx0)), (2, (pq g1)), (4, (pq g5)), (5, (int .i32 r15.1)), (7, (int .i32 r28.1)), (42, (bool j30b42))])) ?_
        refine aw_cond rfl (fun hb32 => ?_) (fun hb32 => ?_)
        ·replace h := bif_t hb32 h
         refine aw_sr ?_
         refine al_val (ov_load (i := 3) (v := (ag [(iq (0 : Int)), l8v4_1, (bool r3.1)])) rfl rfl Tryd.underlying128 sz128 rfl rfl rfl rfl) ?_
         refine al_store (i := 1) (vs := [(iq (0 : Int)), l8v4_1, (bool r3.1)]) (cs' := [(iq (0 : Int)), l8v4_1, (bool r3.1)]) rfl rfl rfl sz128 (cv_rfl rfl) rfl (co_val rfl (co_own 2 rfl (co_val rfl co_nil))) (Nat.le_of_ble_eq_true rfl) rfl rfl ?_
         refine al_as rfl rfl ?_
         refine al_nt ?_
         refine aw_ret ?_
         refine aq_then_ret ?_
         refine aq_block_ret ?_
         refine aq_then_ret ?_
         refine aq_block_ret ?_
         refine aq_then_ret ?_
         refine aq_freezeX 2 [0] rfl rfl rfl ?_
         obtain rfl := Option.some.inj h
         exact fn_ret (l8v4_1, v29) [0] [0, 1] rfl rfl rfl rfl (resC rfl (resB (i := 1) rfl rfl Tryd.underlying128 sz128 rfl rfl rfl (resT rfl (resN))) rfl) rfl rfl rfl (by decide)
        ·replace h := bif_f hb32 h
         refine aw_skip ?_
         exact aq_join (v29, r28.2.2.left, r28.1) h (fun w a hm hs => norm hm hs [0, 1, 2, 3] [0, 2, 3, 4, 5, 6] [(0, (pq bx0)), (2, (pq g1)), (4, (pq g5)), (5, (int .i32 r15.1)), (7, (int .i32 r28.1))] (by decide) ⟨rfl, rfl, rfl, rfl, rfl, trivial⟩)
       ·clear hkk31
        refine aw_region ?_
        refine al_mv rfl rfl ?_
        refine al_val (ov_not rfl rfl) ?_
        refine al_mv rfl rfl ?_
        refine al_caseB 38 rfl (fun hb33 => ?_) (fun hb33 => ?_)
        ·replace h := bif_t hb33 h
         refine al_skip ?_
         refine al_skip ?_
         refine al_skip ?_
         refine al_val (ov_pick_t rfl rfl rfl) ?_
         refine al_nil ?_
         exact aq_join true h (fun w a hm hs => norm hm hs [0, 1, 2, 3] [0, 1, 2, 3, 4, 5, 6] [(0, (pq bx0)), (2, (pq g1)), (4, (pq g5)), (5, (int .i32 r15.1)), (7, (int .i32 r28.1)), (42, (bool true))] (by decide) ⟨rfl, rfl, rfl, rfl, rfl, rfl, trivial⟩)
        ·replace h := bif_f hb33 h
         refine al_mv rfl rfl ?_
         refine al_mv rfl rfl ?_
         refine al_in rfl rfl rfl rfl ?_
         refine al_val (ov_pick_f rfl rfl rfl) ?_
         refine al_nil ?_
         exact aq_join (decide (r15.1 > r28.1)) h (fun w a hm hs => norm hm hs [0, 1, 2, 3] [0, 1, 2, 3, 4, 5, 6] [(0, (pq bx0)), (2, (pq g1)), (4, (pq g5)), (5, (int .i32 r15.1)), (7, (int .i32 r28.1)), (42, (bool (decide (r15.1 > r28.1))))] (by decide) ⟨rfl, rfl, rfl, rfl, rfl, rfl, trivial⟩)
      ·replace h := bif_f hb26 h
       refine aw_skip ?_
       exact aq_join (v25, r24.2.left, r15.1) h (fun w a hm hs => norm hm hs [0, 1, 2, 3] [0, 1, 2, 3, 4, 5] [(0, (pq bx0)), (2, (pq g1)), (4, (pq g5)), (5, (int .i32 r15.1)), (7, (int .i32 r15.1))] (by decide) ⟨rfl, rfl, rfl, rfl, rfl, trivial⟩)
   ·replace h := bif_f hb13 h
    refine aw_exit ?_
    refine aq_then_exit ?_
    refine aq_then_exit ?_
    refine aq_block_exit ?_
    exact aq_join (j11v0_0, j11x0_0, l8v4_1, l8x4_1) h (fun w a hm hs => norm hm hs [0, 1, 2, 3] [0, 2, 3] [(0, (pq bx0)), (2, (pq g1)), (4, (pq g5))] (by decide) ⟨rfl, rfl, rfl, trivial⟩)
  ·clear hkk12
   refine aw_region ?_
   refine al_val (ov_fieldA (p := 1) rfl Tryd.underlying128 rfl sz126 rfl rfl rfl) ?_
   refine al_val (ov_load (i := 3) (v := l8v4_1) rfl rfl Tryd.underlying126 sz126 rfl rfl rfl rfl) ?_
   refine al_val (ov_lenR 2 rfl rfl Tryd.underlying126 rfl) ?_
   refine al_in rfl rfl rfl rfl ?_
   refine al_mv rfl rfl ?_
   refine al_caseB 15 rfl (fun hb34 => ?_) (fun hb34 => ?_)
   ·replace h := bif_t hb34 h
    refine al_skip ?_
    refine al_skip ?_
    refine al_skip ?_
    refine al_val (ov_pick_t rfl rfl rfl) ?_
    refine al_nil ?_
    exact aq_join (l8v0_0, l8x0_0, true) h (fun w a hm hs => norm hm hs [0, 1, 2, 3] [0, 0, 1, 2] [(0, (pq bx0)), (2, (pq g1)), (4, (pq g5)), (19, (bool true))] (by decide) ⟨rfl, rfl, rfl, rfl, trivial⟩)
   ·replace h := bif_f hb34 h
    refine al_mv rfl rfl ?_
    obtain ⟨r36, hc35, h⟩ := opt_some h
    refine al_call (vs := [(pq bx0), (int .i32 (93 : Int))]) (f___glob_reader__take_ok fu bx0 l8v0_0 (S_glob_reader.mk l8x0_0) (93 : Int) hc35) [] [0] [1, 2, 3] (pre_fz 0 rfl pre_nil) rfl (by simp) (by decide) (.inl rfl) rfl Tryd.func99 rfl rfl rfl (fun v37 => ?_)
    refine al_val (ov_not rfl rfl) ?_
    refine al_val (ov_pick_f rfl rfl rfl) ?_
    refine al_nil ?_
    exact aq_join (v37, r36.2.left, (!r36.1)) h (fun w a hm hs => norm hm hs [0, 1, 2, 3] [0, 1, 2, 3] [(0, (pq bx0)), (2, (pq g1)), (4, (pq g5)), (19, (bool (!r36.1)))] (by decide) ⟨rfl, rfl, rfl, rfl, trivial⟩)
def f_glob_elements_L6 (fu : Nat) : Nat → (List Int) → (List S_glob_element) → Option ((List S_glob_element) × Bool)
  | 0, _, _ => none
  | k5 + 1, l4x4_0, l4x5 => (opt (f___glob_reader__next fu (S_glob_reader.mk l4x4_0)) fun (r8 : (Int × Bool × S_glob_reader)) => (bif (!r8.2.1) then (some (l4x5, true)) else (bif (r8.1 == (42 : Int)) then (bif (!r8.2.1) then (some (([] : List S_glob_element), false)) else (req (((l4x5.length + ([(S_glob_element.mk (2 : Int) ([] : (List S_glob_span)) false)]).length) * 40 : Nat) ≤ 140737488355328 ∧ l4x5.length + ([(S_glob_element.mk (2 : Int) ([] : (List S_glob_span)) false)]).length ≤ 9223372036854775807) (f_glob_elements_L6 fu k5 r8.2.2.left (l4x5 ++ ([(S_glob_element.mk (2 : Int) ([] : (List S_glob_span)) false)]))))) else (bif (r8.1 == (63 : Int)) then (bif (!r8.2.1) then (some (([] : List S_glob_element), false)) else (req (((l4x5.length + ([(S_glob_element.mk (1 : Int) ([] : (List S_glob_span)) false)]).length) * 40 : Nat) ≤ 140737488355328 ∧ l4x5.length + ([(S_glob_element.mk (1 : Int) ([] : (List S_glob_span)) false)]).length ≤ 9223372036854775807) (f_glob_elements_L6 fu k5 r8.2.2.left (l4x5 ++ ([(S_glob_element.mk (1 : Int) ([] : (List S_glob_span)) false)]))))) else (bif (r8.1 == (92 : Int)) then (opt (f___glob_reader__next fu (S_glob_reader.mk r8.2.2.left)) fun (r26 : (Int × Bool × S_glob_reader)) => (bif (!r26.2.1) then (some (([] : List S_glob_element), false)) else (req (((l4x5.length + ([(S_glob_element.mk (0 : Int) ([(S_glob_span.mk r26.1 r26.1)]) false)]).length) * 40 : Nat) ≤ 140737488355328 ∧ l4x5.length + ([(S_glob_element.mk (0 : Int) ([(S_glob_span.mk r26.1 r26.1)]) false)]).length ≤ 9223372036854775807) (f_glob_elements_L6 fu k5 r26.2.2.left (l4x5 ++ ([(S_glob_element.mk (0 : Int) ([(S_glob_span.mk r26.1 r26.1)]) false)])))))) else (bif (r8.1 == (91 : Int)) then (opt (f___glob_reader__class fu (S_glob_reader.mk r8.2.2.left)) fun (r35 : (S_glob_element × Bool × S_glob_reader)) => (bif (!r35.2.1) then (some (([] : List S_glob_element), false)) else (req (((l4x5.length + ([(S_glob_element.mk r35.1.kind r35.1.spans r35.1.not)]).length) * 40 : Nat) ≤ 140737488355328 ∧ l4x5.length + ([(S_glob_element.mk r35.1.kind r35.1.spans r35.1.not)]).length ≤ 9223372036854775807) (f_glob_elements_L6 fu k5 r35.2.2.left (l4x5 ++ ([(S_glob_element.mk r35.1.kind r35.1.spans r35.1.not)])))))) else (bif (!r8.2.1) then (some (([] : List S_glob_element), false)) else (req (((l4x5.length + ([(S_glob_element.mk (0 : Int) ([(S_glob_span.mk r8.1 r8.1)]) false)]).length) * 40 : Nat) ≤ 140737488355328 ∧ l4x5.length + ([(S_glob_element.mk (0 : Int) ([(S_glob_span.mk r8.1 r8.1)]) false)]).length ≤ 9223372036854775807) (f_glob_elements_L6 fu k5 r8.2.2.left (l4x5 ++ ([(S_glob_element.mk (0 : Int) ([(S_glob_span.mk r8.1 r8.1)]) false)])))))))))))
def f_glob_elements (fu : Nat) (a0 : (List UInt8)) : Option ((List S_glob_element) × Bool) := (req (a0.length ≤ 70368744177664) (f_glob_elements_L6 fu fu (runes a0) ([] : List S_glob_element)))
set_option maxRecDepth 100000 in
set_option maxHeartbeats 2000000 in
set_option maxHeartbeats 2000000 in
theorem f_glob_elements_ok (fu : Nat) (a0 : (List UInt8)) {r : ((List S_glob_element) × Bool)} (h : f_glob_elements fu a0 = some r) : FnOk Tryd.prog 42 [(str a0)] [] [] (fun (i : Value) => { val := (Value.tuple #[i, (bool r.2)]), own := [(oRow i 128 tyS_glob_element r.1)] }) := by
 unfold f_glob_elements at h
 refine fn_enter Tryd.func42 rfl Tryd.ntmps42 rfl (fun w0 Z0 => ?_)
 refine aw_sr ?_
 refine al_as rfl rfl ?_
 refine al_as rfl rfl ?_
 refine al_nt ?_
 refine aw_sr ?_
 refine al_mv rfl rfl ?_
 obtain ⟨hc1, h⟩ := req_some h
 refine al_runes hc1 rfl Tryd.underlying9 Tryd.underlying119 Tryd.underlying21 rfl (fun s2 => ?_)
 refine al_val (ov_build (cells := ([s2] : List Value).toArray) (cs := [s2]) rfl (fun w a hm hs => by simp only [List.map_toArray, List.map_cons, List.map_nil, List.toList_toArray, hs.ev (x := .tmp 10) rfl]; obtain ⟨A0, l0, c0, e0⟩ := sl_fz 0 rfl hm; rw [e0]; kernel_rfl)) ?_
 refine al_box (vs := [s2]) rfl (cv_rfl rfl) rfl (fun g3 => ?_)
 refine al_as rfl rfl ?_
 refine al_nt ?_
 refine aw_sr ?_
 refine al_as rfl rfl ?_
 refine al_nt ?_
 refine aw_block ?_
 refine aw_nilR 128 tyS_glob_element ?_
 refine aw_state (aw_loop (ι := Value × (List Int) × Value × (List S_glob_element)) (fun i => (memOf w0 Z0 [] [(oBox g3 121 [i.1]), (oRow i.2.2.1 128 tyS_glob_element i.2.2.2)] [(fDat (tyList (tyInt .i32)) [i.1] i.2.1), (fDat (tyList (tyInt .i32)) [s2] (runes a0))])) (fun i => (tab [(4, (pq g3)), (5, i.2.2.1)])) (fun q i => f_glob_elements_L6 fu q i.2.1 i.2.2.2 = some r) ?_ fu (s2, (runes a0), nS, ([] : List S_glob_element)) h) (fun w a hm hs => norm hm hs [1, 0] [0, 0] [(4, (pq g3)), (5, nS)] (by decide) ⟨rfl, rfl, trivial⟩)
 clear h
 rintro k5 ⟨l4v4_0, l4x4_0, l4v5, l4x5⟩ h
 have h : f_glob_elements_L6 fu k5 l4x4_0 l4x5 = some r := h
 obtain _ | k5 := k5
 · rw [f_glob_elements_L6] at h; cases h
 rw [f_glob_elements_L6] at h
 refine aw_show (m := (memOf w0 Z0 [] [(oBox g3 121 [l4v4_0]), (oRow l4v5 128 tyS_glob_element l4x5)] [(fDat (tyList (tyInt .i32)) [l4v4_0] l4x4_0), (fDat (tyList (tyInt .i32)) [s2] (runes a0))])) (S := (tab [(4, (pq g3)), (5, l4v5)])) ?_
 refine aw_block ?_
 refine aw_sr ?_
 refine al_mv rfl rfl ?_
 obtain ⟨r8, hc7, h⟩ := opt_some h
 refine al_call (vs := [(pq g3)]) (f___glob_reader__next_ok fu g3 l4v4_0 (S_glob_reader.mk l4x4_0) hc7) [] [0] [1] (pre_fz 0 rfl pre_nil) rfl (by simp) (by decide) (.inl rfl) rfl Tryd.func74 rfl rfl rfl (fun v9 => ?_)
 refine al_mv rfl rfl ?_
 refine al_ex rfl rfl rfl ?_
 refine al_ex rfl rfl rfl ?_
 refine al_as rfl rfl ?_
 refine al_as rfl rfl ?_
 refine al_nt ?_
 refine aw_seq ?_
 refine aw_sr ?_
 refine al_mv rfl rfl ?_
 refine al_val (ov_not rfl rfl) ?_
 refine al_nt ?_
 refine aw_cond rfl (fun hb10 => ?_) (fun hb10 => ?_)
 ·replace h := bif_t hb10 h
  refine aw_sr ?_
  refine al_mv rfl rfl ?_
  refine al_as rfl rfl ?_
  refine al_as rfl rfl ?_
  refine al_nt ?_
  refine aw_ret ?_
  refine aq_then_ret ?_
  refine aq_block_ret ?_
  refine aq_then_ret ?_
  refine aq_block_ret ?_
  obtain rfl := Option.some.inj h
  exact fn_ret l4v5 [1] [] rfl rfl rfl rfl (res2 rfl rfl rfl) rfl rfl rfl (by decide)
 ·replace h := bif_f hb10 h
  refine aw_skip ?_
  refine aq_tr ?_
  refine al_mv rfl rfl ?_
  refine al_mv rfl rfl ?_
  refine al_val (ov_build (cells := ([(int .i32 r8.1), (int .i32 r8.1)] : List Value).toArray) (cs := [(int .i32 r8.1), (int .i32 r8.1)]) rfl (fun w a hm hs => by simp only [List.map_toArray, List.map_cons, List.map_nil, List.toList_toArray, hs.ev (x := .tmp 21) rfl, hs.ev (x := .tmp 22) rfl]; kernel_rfl)) ?_
  refine al_buildSlice (τ := tyS_glob_span) (e := 125) (k := 1) (sz := 0) (by_ := 0) (z := undef) (cs := [(int .i32 r8.1), (int .i32 r8.1)]) (xs := [(S_glob_span.mk r8.1 r8.1)]) rfl (by decide) (fun w a hm hs => ⟨([(int .i32 r8.1), (int .i32 r8.1)]).toArray, rfl, by simp only [List.map_toArray, List.map_cons, List.map_nil, hs.ev (x := .tmp 23) rfl]; exact run_bs [(ag [(int .i32 r8.1), (int .i32 r8.1)])] [(int .i32 r8.1), (int .i32 r8.1)] Tryd.underlying126 to125 rfl rfl (bs_cons (l := [(int .i32 r8.1), (int .i32 r8.1)]) (cs := []) (cv_rfl rfl) rfl bs_nil) hm⟩) (fun hm => ⟨_, _, rfl, (fun _ => mkS_glob_span rfl) hm, rfl⟩) rfl (fun v11 => ?_)
  refine al_val (ov_build (cells := ([(iq (0 : Int)), v11, (bool false)] : List Value).toArray) (cs := [(iq (0 : Int)), v11, (bool false)]) rfl (fun w a hm hs => by simp only [List.map_toArray, List.map_cons, List.map_nil, List.toList_toArray, hs.ev (x := .tmp 24) rfl]; obtain ⟨A0, l0, c0, e0⟩ := sl_own 0 rfl hm; rw [e0]; kernel_rfl)) ?_
  refine al_alloc (zs := [(iq (0 : Int)), nS, (bool false)]) (zeroOf_to to128) rfl rfl (fun g12 => ?_)
  refine al_store (i := 0) (vs := [(iq (0 : Int)), v11, (bool false)]) (cs' := [(iq (0 : Int)), v11, (bool false)]) rfl rfl rfl sz128 (cv_rfl rfl) rfl (co_val rfl (co_own 1 rfl (co_val rfl co_nil))) (Nat.le_of_ble_eq_true rfl) rfl rfl ?_
  refine al_nt ?_
  refine aw_seq ?_
  refine aw_sr ?_
  refine al_mv rfl rfl ?_
  refine al_nt ?_
  refine aw_block ?_
  refine aw_sr ?_
  refine al_in rfl rfl rfl rfl ?_
  refine al_as rfl rfl ?_
  refine al_nt ?_
  refine aw_cond rfl (fun hb14 => ?_) (fun hb14 => ?_)
  ·replace h := bif_t hb14 h
   refine aw_region ?_
   refine al_val (ov_build (cells := ([(iq (2 : Int)), nS, (bool false)] : List Value).toArray) (cs := [(iq (2 : Int)), nS, (bool false)]) rfl (fun w a hm hs => by simp only [List.map_toArray, List.map_cons, List.map_nil, List.toList_toArray, hs.ev (x := .const (iq (2 : Int))) rfl]; kernel_rfl)) ?_
   refine al_store (i := 0) (vs := [(iq (2 : Int)), nS, (bool false)]) (cs' := [(iq (2 : Int)), nS, (bool false)]) rfl rfl rfl sz128 (cv_rfl rfl) rfl (co_val rfl (co_val rfl (co_val rfl co_nil))) (Nat.le_of_ble_eq_true rfl) rfl rfl ?_
   refine al_nil ?_
   refine aq_block ?_
   refine aq_then ?_
   refine aw_seq ?_
   refine aw_sr ?_
   refine al_mv rfl rfl ?_
   refine al_val (ov_not rfl rfl) ?_
   refine al_nt ?_
   refine aw_cond rfl (fun hb15 => ?_) (fun hb15 => ?_)
   ·replace h := bif_t hb15 h
    refine aw_sr ?_
    refine al_as rfl rfl ?_
    refine al_as rfl rfl ?_
    refine al_nt ?_
    refine aw_ret ?_
    refine aq_then_ret ?_
    refine aq_block_ret ?_
    refine aq_then_ret ?_
    refine aq_block_ret ?_
    refine aq_nilR 128 tyS_glob_element ?_
    obtain rfl := Option.some.inj h
    exact fn_ret nS [0] [] rfl rfl rfl rfl (res2 rfl rfl rfl) rfl rfl rfl (by decide)
   ·replace h := bif_f hb15 h
    refine aw_skip ?_
    refine aq_then ?_
    refine aw_region ?_
    refine al_mv rfl rfl ?_
    refine al_val (ov_load (i := 0) (v := (ag [(iq (2 : Int)), nS, (bool false)])) rfl rfl Tryd.underlying128 sz128 rfl rfl rfl rfl) ?_
    refine al_buildSlice (τ := tyS_glob_element) (e := 128) (k := 1) (sz := 0) (by_ := 0) (z := undef) (cs := [(iq (2 : Int)), nS, (bool false)]) (xs := [(S_glob_element.mk (2 : Int) ([] : (List S_glob_span)) false)]) rfl (by decide) (fun w a hm hs => ⟨([(iq (2 : Int)), nS, (bool false)]).toArray, rfl, by simp only [List.map_toArray, List.map_cons, List.map_nil, hs.ev (x := .tmp 55) rfl]; exact run_bs [(ag [(iq (2 : Int)), nS, (bool false)])] [(iq (2 : Int)), nS, (bool false)] Tryd.underlying79 to128 rfl rfl (bs_cons (l := [(iq (2 : Int)), nS, (bool false)]) (cs := []) (cv_rfl rfl) rfl bs_nil) hm⟩) (fun hm => ⟨_, _, rfl, (fun hm => mknS_glob_element (x := (S_glob_element.mk (2 : Int) ([] : (List S_glob_span)) false)) rfl (nil_dat _ _ _)) hm, rfl⟩) rfl (fun v16 => ?_)
    obtain ⟨hc17, h⟩ := req_some h
    refine al_append 4 hc17.1 hc17.2 rfl (src_own (i := 4) 0 rfl) rfl rfl Tryd.underlying79 to128 rfl rfl rfl (fun v18 => ?_)
    refine al_as rfl rfl ?_
    refine al_nil ?_
    refine aq_block ?_
    exact aq_again k5 (v9, r8.2.2.left, v18, (l4x5 ++ ([(S_glob_element.mk (2 : Int) ([] : (List S_glob_span)) false)]))) (Nat.lt_succ_self _) h (fun w a hm hs => norm hm hs [3, 4] [0, 2] [(4, (pq g3)), (5, v18)] (by decide) ⟨rfl, rfl, trivial⟩)
  ·replace h := bif_f hb14 h
   refine aw_sr ?_
   refine al_in rfl rfl rfl rfl ?_
   refine al_as rfl rfl ?_
   refine al_nt ?_
   refine aw_cond rfl (fun hb19 => ?_) (fun hb19 => ?_)
   ·replace h := bif_t hb19 h
    refine aw_region ?_
    refine al_val (ov_build (cells := ([(iq (1 : Int)), nS, (bool false)] : List Value).toArray) (cs := [(iq (1 : Int)), nS, (bool false)]) rfl (fun w a hm hs => by simp only [List.map_toArray, List.map_cons, List.map_nil, List.toList_toArray, hs.ev (x := .const (iq (1 : Int))) rfl]; kernel_rfl)) ?_
    refine al_store (i := 0) (vs := [(iq (1 : Int)), nS, (bool false)]) (cs' := [(iq (1 : Int)), nS, (bool false)]) rfl rfl rfl sz128 (cv_rfl rfl) rfl (co_val rfl (co_val rfl (co_val rfl co_nil))) (Nat.le_of_ble_eq_true rfl) rfl rfl ?_
    refine al_nil ?_
    refine aq_block ?_
    refine aq_then ?_
    refine aw_seq ?_
    refine aw_sr ?_
    refine al_mv rfl rfl ?_
    refine al_val (ov_not rfl rfl) ?_
    refine al_nt ?_
    refine aw_cond rfl (fun hb20 => ?_) (fun hb20 => ?_)
    ·replace h := bif_t hb20 h
     refine aw_sr ?_
     refine al_as rfl rfl ?_
     refine al_as rfl rfl ?_
     refine al_nt ?_
     refine aw_ret ?_
     refine aq_then_ret ?_
     refine aq_block_ret ?_
     refine aq_then_ret ?_
     refine aq_block_ret ?_
     refine aq_nilR 128 tyS_glob_element ?_
     obtain rfl := Option.some.inj h
     exact fn_ret nS [0] [] rfl rfl rfl rfl (res2 rfl rfl rfl) rfl rfl rfl (by decide)
    ·replace h := bif_f hb20 h
     refine aw_skip ?_
     refine aq_then ?_
     refine aw_region ?_
     refine al_mv rfl rfl ?_
     refine al_val (ov_load (i := 0) (v := (ag [(iq (1 : Int)), nS, (bool false)])) rfl rfl Tryd.underlying128 sz128 rfl rfl rfl rfl) ?_
     refine al_buildSlice (τ := tyS_glob_element) (e := 128) (k := 1) (sz := 0) (by_ := 0) (z := undef) (cs := [(iq (1 : Int)), nS, (bool false)]) (xs := [(S_glob_element.mk (1 : Int) ([] : (List S_glob_span)) false)]) rfl (by decide) (fun w a hm hs => ⟨([(iq (1 : Int)), nS, (bool false)]).toArray, rfl, by simp only [List.map_toArray, List.map_cons, List.map_nil, hs.ev (x := .tmp 55) rfl]; exact run_bs [(ag [(iq (1 : Int)), nS, (bool false)])] [(iq (1 : Int)), nS, (bool false)] Tryd.underlying79 to128 rfl rfl (bs_cons (l := [(iq (1 : Int)), nS, (bool false)]) (cs := []) (cv_rfl rfl) rfl bs_nil) hm⟩) (fun hm => ⟨_, _, rfl, (fun hm => mknS_glob_element (x := (S_glob_element.mk (1 : Int) ([] : (List S_glob_span)) false)) rfl (nil_dat _ _ _)) hm, rfl⟩) rfl (fun v21 => ?_)
     obtain ⟨hc22, h⟩ := req_some h
     refine al_append 4 hc22.1 hc22.2 rfl (src_own (i := 4) 0 rfl) rfl rfl Tryd.underlying79 to128 rfl rfl rfl (fun v23 => ?_)
     refine al_as rfl rfl ?_
     refine al_nil ?_
     refine aq_block ?_
     exact aq_again k5 (v9, r8.2.2.left, v23, (l4x5 ++ ([(S_glob_element.mk (1 : Int) ([] : (List S_glob_span)) false)]))) (Nat.lt_succ_self _) h (fun w a hm hs => norm hm hs [3, 4] [0, 2] [(4, (pq g3)), (5, v23)] (by decide) ⟨rfl, rfl, trivial⟩)
   ·replace h := bif_f hb19 h
    refine aw_sr ?_
    refine al_in rfl rfl rfl rfl ?_
    refine al_as rfl rfl ?_
    refine al_nt ?_
    refine aw_cond rfl (fun hb24 => ?_) (fun hb24 => ?_)
    ·replace h := bif_t hb24 h
     refine aw_sr ?_
     refine al_mv rfl rfl ?_
     obtain ⟨r26, hc25, h⟩ := opt_some h
     refine al_call (vs := [(pq g3)]) (f___glob_reader__next_ok fu g3 v9 (S_glob_reader.mk r8.2.2.left) hc25) [] [2] [0, 1, 3] (pre_fz 0 rfl pre_nil) rfl (by simp) (by decide) (.inl rfl) rfl Tryd.func74 rfl rfl rfl (fun v27 => ?_)
     refine al_mv rfl rfl ?_
     refine al_ex rfl rfl rfl ?_
     refine al_ex rfl rfl rfl ?_
     refine al_as rfl rfl ?_
     refine al_as rfl rfl ?_
     refine al_nt ?_
     refine aw_region ?_
     refine al_mv rfl rfl ?_
     refine al_mv rfl rfl ?_
     refine al_val (ov_build (cells := ([(int .i32 r26.1), (int .i32 r26.1)] : List Value).toArray) (cs := [(int .i32 r26.1), (int .i32 r26.1)]) rfl (fun w a hm hs => by simp only [List.map_toArray, List.map_cons, List.map_nil, List.toList_toArray, hs.ev (x := .tmp 40) rfl, hs.ev (x := .tmp 41) rfl]; kernel_rfl)) ?_
     refine al_buildSlice (τ := tyS_glob_span) (e := 125) (k := 1) (sz := 0) (by_ := 0) (z := undef) (cs := [(int .i32 r26.1), (int .i32 r26.1)]) (xs := [(S_glob_span.mk r26.1 r26.1)]) rfl (by decide) (fun w a hm hs => ⟨([(int .i32 r26.1), (int .i32 r26.1)]).toArray, rfl, by simp only [List.map_toArray, List.map_cons, List.map_nil, hs.ev (x := .tmp 42) rfl]; exact run_bs [(ag [(int .i32 r26.1), (int .i32 r26.1)])] [(int .i32 r26.1), (int .i32 r26.1)] Tryd.underlying126 to125 rfl rfl (bs_cons (l := [(int .i32 r26.1), (int .i32 r26.1)]) (cs := []) (cv_rfl rfl) rfl bs_nil) hm⟩) (fun hm => ⟨_, _, rfl, (fun _ => mkS_glob_span rfl) hm, rfl⟩) rfl (fun v28 => ?_)
     refine al_val (ov_build (cells := ([(iq (0 : Int)), v28, (bool false)] : List Value).toArray) (cs := [(iq (0 : Int)), v28, (bool false)]) rfl (fun w a hm hs => by simp only [List.map_toArray, List.map_cons, List.map_nil, List.toList_toArray, hs.ev (x := .tmp 43) rfl]; obtain ⟨A0, l0, c0, e0⟩ := sl_own 0 rfl hm; rw [e0]; kernel_rfl)) ?_
     refine al_store (i := 2) (vs := [(iq (0 : Int)), v28, (bool false)]) (cs' := [(iq (0 : Int)), v28, (bool false)]) rfl rfl rfl sz128 (cv_rfl rfl) rfl (co_val rfl (co_own 0 rfl (co_val rfl co_nil))) (Nat.le_of_ble_eq_true rfl) rfl rfl ?_
     refine al_nil ?_
     refine aq_block ?_
     refine aq_then ?_
     refine aw_seq ?_
     refine aw_sr ?_
     refine al_mv rfl rfl ?_
     refine al_val (ov_not rfl rfl) ?_
     refine al_nt ?_
     refine aw_cond rfl (fun hb29 => ?_) (fun hb29 => ?_)
     ·replace h := bif_t hb29 h
      refine aw_sr ?_
      refine al_as rfl rfl ?_
      refine al_as rfl rfl ?_
      refine al_nt ?_
      refine aw_ret ?_
      refine aq_then_ret ?_
      refine aq_block_ret ?_
      refine aq_then_ret ?_
      refine aq_block_ret ?_
      refine aq_nilR 128 tyS_glob_element ?_
      obtain rfl := Option.some.inj h
      exact fn_ret nS [0] [] rfl rfl rfl rfl (res2 rfl rfl rfl) rfl rfl rfl (by decide)
     ·replace h := bif_f hb29 h
      refine aw_skip ?_
      refine aq_then ?_
      refine aw_region ?_
      refine al_mv rfl rfl ?_
      refine al_val (ov_load (i := 2) (v := (ag [(iq (0 : Int)), v28, (bool false)])) rfl rfl Tryd.underlying128 sz128 rfl rfl rfl rfl) ?_
      refine al_freeze 0 rfl rfl ?_
      refine al_buildSlice (τ := tyS_glob_element) (e := 128) (k := 1) (sz := 0) (by_ := 0) (z := undef) (cs := [(iq (0 : Int)), v28, (bool false)]) (xs := [(S_glob_element.mk (0 : Int) ([(S_glob_span.mk r26.1 r26.1)]) false)]) rfl (by decide) (fun w a hm hs => ⟨([(iq (0 : Int)), v28, (bool false)]).toArray, rfl, by simp only [List.map_toArray, List.map_cons, List.map_nil, hs.ev (x := .tmp 55) rfl]; exact run_bs [(ag [(iq (0 : Int)), v28, (bool false)])] [(iq (0 : Int)), v28, (bool false)] Tryd.underlying79 to128 rfl rfl (bs_cons (l := [(iq (0 : Int)), v28, (bool false)]) (cs := []) (cv_rfl rfl) rfl bs_nil) hm⟩) (fun hm => ⟨_, _, rfl, (fun hm => mknS_glob_element (x := (S_glob_element.mk (0 : Int) ([(S_glob_span.mk r26.1 r26.1)]) false)) rfl (fz_at (i := 0) hm rfl)) hm, rfl⟩) rfl (fun v30 => ?_)
      obtain ⟨hc31, h⟩ := req_some h
      refine al_append 4 hc31.1 hc31.2 rfl (src_own (i := 4) 0 rfl) rfl rfl Tryd.underlying79 to128 rfl rfl rfl (fun v32 => ?_)
      refine al_as rfl rfl ?_
      refine al_nil ?_
      refine aq_block ?_
      exact aq_again k5 (v27, r26.2.2.left, v32, (l4x5 ++ ([(S_glob_element.mk (0 : Int) ([(S_glob_span.mk r26.1 r26.1)]) false)]))) (Nat.lt_succ_self _) h (fun w a hm hs => norm hm hs [1, 4] [1, 4] [(4, (pq g3)), (5, v32)] (by decide) ⟨rfl, rfl, trivial⟩)
    ·replace h := bif_f hb24 h
     refine aw_sr ?_
     refine al_in rfl rfl rfl rfl ?_
     refine al_as rfl rfl ?_
     refine al_nt ?_
     refine aw_cond rfl (fun hb33 => ?_) (fun hb33 => ?_)
     ·replace h := bif_t hb33 h
      refine aw_region ?_
      refine al_mv rfl rfl ?_
      obtain ⟨r35, hc34, h⟩ := opt_some h
      refine al_call (vs := [(pq g3)]) (f___glob_reader__class_ok fu g3 v9 (S_glob_reader.mk r8.2.2.left) hc34) [] [2] [0, 1, 3] (pre_fz 0 rfl pre_nil) rfl (by simp) (by decide) (.inl rfl) rfl Tryd.func75 rfl rfl rfl (fun ⟨v36, v37⟩ => ?_)
      refine al_mv rfl rfl ?_
      refine al_ex rfl rfl rfl ?_
      refine al_ex rfl rfl rfl ?_
      refine al_store (i := 1) (vs := [(iq r35.1.kind), v36, (bool r35.1.not)]) (cs' := [(iq r35.1.kind), v36, (bool r35.1.not)]) rfl rfl rfl sz128 (cv_rfl rfl) rfl (co_val rfl (co_fz 0 rfl (co_val rfl co_nil))) (Nat.le_of_ble_eq_true rfl) rfl rfl ?_
      refine al_as rfl rfl ?_
      refine al_nil ?_
      refine aq_block ?_
      refine aq_then ?_
      refine aw_seq ?_
      refine aw_sr ?_
      refine al_mv rfl rfl ?_
      refine al_val (ov_not rfl rfl) ?_
      refine al_nt ?_
      refine aw_cond rfl (fun hb38 => ?_) (fun hb38 => ?_)
      ·replace h := bif_t hb38 h
       refine aw_sr ?_
       refine al_as rfl rfl ?_
       refine al_as rfl rfl ?_
       refine al_nt ?_
       refine aw_ret ?_
       refine aq_then_ret ?_
       refine aq_block_ret ?_
       refine aq_then_ret ?_
       refine aq_block_ret ?_
       refine aq_nilR 128 tyS_glob_element ?_
       obtain rfl := Option.some.inj h
       exact fn_ret nS [0] [] rfl rfl rfl rfl (res2 rfl rfl rfl) rfl rfl rfl (by decide)
      ·replace h := bif_f hb38 h
       refine aw_skip ?_
       refine aq_then ?_
       refine aw_region ?_
       refine al_mv rfl rfl ?_
       refine al_val (ov_load (i := 1) (v := (ag [(iq r35.1.kind), v36, (bool r35.1.not)])) rfl rfl Tryd.underlying128 sz128 rfl rfl rfl rfl) ?_
       refine al_buildSlice (τ := tyS_glob_element) (e := 128) (k := 1) (sz := 0) (by_ := 0) (z := undef) (cs := [(iq r35.1.kind), v36, (bool r35.1.not)]) (xs := [(S_glob_element.mk r35.1.kind r35.1.spans r35.1.not)]) rfl (by decide) (fun w a hm hs => ⟨([(iq r35.1.kind), v36, (bool r35.1.not)]).toArray, rfl, by simp only [List.map_toArray, List.map_cons, List.map_nil, hs.ev (x := .tmp 55) rfl]; exact run_bs [(ag [(iq r35.1.kind), v36, (bool r35.1.not)])] [(iq r35.1.kind), v36, (bool r35.1.not)] Tryd.underlying79 to128 rfl rfl (bs_cons (l := [(iq r35.1.kind), v36, (bool r35.1.not)]) (cs := []) (cv_rfl rfl) rfl bs_nil) hm⟩) (fun hm => ⟨_, _, rfl, (fun hm => mknS_glob_element (x := (S_glob_element.mk r35.1.kind r35.1.spans r35.1.not)) rfl (fz_at (i := 0) hm rfl)) hm, rfl⟩) rfl (fun v39 => ?_)
       obtain ⟨hc40, h⟩ := req_some h
       refine al_append 4 hc40.1 hc40.2 rfl (src_own (i := 4) 0 rfl) rfl rfl Tryd.underlying79 to128 rfl rfl rfl (fun v41 => ?_)
       refine al_as rfl rfl ?_
       refine al_nil ?_
       refine aq_block ?_
       exact aq_again k5 (v37, r35.2.2.left, v41, (l4x5 ++ ([(S_glob_element.mk r35.1.kind r35.1.spans r35.1.not)]))) (Nat.lt_succ_self _) h (fun w a hm hs => norm hm hs [1, 4] [1, 4] [(4, (pq g3)), (5, v41)] (by decide) ⟨rfl, rfl, trivial⟩)
     ·replace h := bif_f hb33 h
      refine aw_skip ?_
      refine aq_block ?_
      refine aq_then ?_
      refine aw_seq ?_
      refine aw_sr ?_
      refine al_mv rfl rfl ?_
      refine al_val (ov_not rfl rfl) ?_
      refine al_nt ?_
      refine aw_cond rfl (fun hb42 => ?_) (fun hb42 => ?_)
      ·replace h := bif_t hb42 h
       refine aw_sr ?_
       refine al_as rfl rfl ?_
       refine al_as rfl rfl ?_
       refine al_nt ?_
       refine aw_ret ?_
       refine aq_then_ret ?_
       refine aq_block_ret ?_
       refine aq_then_ret ?_
       refine aq_block_ret ?_
       refine aq_nilR 128 tyS_glob_element ?_
       obtain rfl := Option.some.inj h
       exact fn_ret nS [0] [] rfl rfl rfl rfl (res2 rfl rfl rfl) rfl rfl rfl (by decide)
      ·replace h := bif_f hb42 h
       refine aw_skip ?_
       refine aq_then ?_
       refine aw_region ?_
       refine al_mv rfl rfl ?_
       refine al_val (ov_load (i := 0) (v := (ag [(iq (0 : Int)), v11, (bool false)])) rfl rfl Tryd.underlying128 sz128 rfl rfl rfl rfl) ?_
       refine al_freeze 1 rfl rfl ?_
       refine al_buildSlice (τ := tyS_glob_element) (e := 128) (k := 1) (sz := 0) (by_ := 0) (z := undef) (cs := [(iq (0 : Int)), v11, (bool false)]) (xs := [(S_glob_element.mk (0 : Int) ([(S_glob_span.mk r8.1 r8.1)]) false)]) rfl (by decide) (fun w a hm hs => ⟨([(iq (0 : Int)), v11, (bool false)]).toArray, rfl, by simp only [List.map_toArray, List.map_cons, List.map_nil, hs.ev (x := .tmp 55) rfl]; exact run_bs [(ag [(iq (0 : Int)), v11, (bool false)])] [(iq (0 : Int)), v11, (bool false)] Tryd.underlying79 to128 rfl rfl (bs_cons (l := [(iq (0 : Int)), v11, (bool false)]) (cs := []) (cv_rfl rfl) rfl bs_nil) hm⟩) (fun hm => ⟨_, _, rfl, (fun hm => mknS_glob_element (x := (S_glob_element.mk (0 : Int) ([(S_glob_span.mk r8.1 r8.1)]) false)) rfl (fz_at (i := 0) hm rfl)) hm, rfl⟩) rfl (fun v43 => ?_)
       obtain ⟨hc44, h⟩ := req_some h
       refine al_append 3 hc44.1 hc44.2 rfl (src_own (i := 3) 0 rfl) rfl rfl Tryd.underlying79 to128 rfl rfl rfl (fun v45 => ?_)
       refine al_as rfl rfl ?_
       refine al_nil ?_
       refine aq_block ?_
       exact aq_again k5 (v9, r8.2.2.left, v45, (l4x5 ++ ([(S_glob_element.mk (0 : Int) ([(S_glob_span.mk r8.1 r8.1)]) false)]))) (Nat.lt_succ_self _) h (fun w a hm hs => norm hm hs [2, 3] [1, 3] [(4, (pq g3)), (5, v45)] (by decide) ⟨rfl, rfl, trivial⟩)
def f_glob_parse_L14 (kk8 : ((List S_glob_part) → Option ((List S_glob_part) × Int))) (r10 : (List (List UInt8))) (fu : Nat) : Nat → (List S_glob_part) → Int → Option ((List S_glob_part) × Int)
  | 0, _, _ => none
  | k13 + 1, l12x6, l12i28 => (bif (decide (l12i28 < (r10.length : Int))) then (opt (at? r10 l12i28) fun (u16 : (List UInt8)) => (opt (f_glob_elements fu u16) fun (r22 : ((List S_glob_element) × Bool)) => (lt (fun (j24b46 : Bool) => (bif j24b46 then (some (([] : List S_glob_part), (13 : Int))) else (req (((l12x6.length + ([(S_glob_part.mk (u16 == ([42, 42] : List UInt8)) r22.1)]).length) * 32 : Nat) ≤ 140737488355328 ∧ l12x6.length + ([(S_glob_part.mk (u16 == ([42, 42] : List UInt8)) r22.1)]).length ≤ 9223372036854775807) (f_glob_parse_L14 kk8 r10 fu k13 (l12x6 ++ ([(S_glob_part.mk (u16 == ([42, 42] : List UInt8)) r22.1)])) (IntKind.i64.wrap (l12i28 + (1 : Int))))))) fun (kk25 : Bool → Option ((List S_glob_part) × Int)) => (bif (!r22.2) then (kk25 true) else (kk25 (u16 == ([] : List UInt8))))))) else (kk8 l12x6))
def f_glob_parse (fu : Nat) (a0 : (List UInt8)) : Option ((List S_glob_part) × Int) := (bif (decide ((a0.length : Int) > (60 : Int))) then (some (([] : List S_glob_part), (2 : Int))) else (opt (f_strings_CutPrefix fu a0 ([47] : List UInt8)) fun (r3 : ((List UInt8) × Bool)) => (lt (fun (j4b24 : Bool) => (bif j4b24 then (some (([] : List S_glob_part), (13 : Int))) else (lt (fun (j7x6 : (List S_glob_part)) => (some (j7x6, (0 : Int)))) fun (kk8 : (List S_glob_part) → Option ((List S_glob_part) × Int)) => (opt (f_strings_Split fu r3.1 ([47] : List UInt8)) fun (r10 : (List (List UInt8))) => (f_glob_parse_L14 kk8 r10 fu fu ([] : List S_glob_part) (0 : Int)))))) fun (kk5 : Bool → Option ((List S_glob_part) × Int)) => (bif (!r3.2) then (kk5 true) else (opt (f_utf8_ValidString fu a0) fun (r33 : Bool) => (kk5 (!r33)))))))
set_option maxHeartbeats 2000000 in
set_option maxRecDepth 100000 in
theorem f_glob_parse_ok (fu : Nat) (a0 : (List UInt8)) {r : ((List S_glob_part) × Int)} (h : f_glob_parse fu a0 = some r) : FnOk Tryd.prog 18 [(str a0)] [uMax, uTabs] [] (fun (i : Value) => { val := (Value.tuple #[i, (int .i64 r.2)]), own := [(oRow i 81 tyS_glob_part r.1)] }) := by
 unfold f_glob_parse at h
 refine fn_enter Tryd.func18 rfl Tryd.ntmps18 rfl (fun w0 Z0 => ?_)
 refine aw_sr ?_
 refine al_as rfl rfl ?_
 refine al_as rfl rfl ?_
 refine al_nt ?_
 refine aw_seq ?_
 refine aw_sr ?_
 refine al_mv rfl rfl ?_
 refine al_val (ov_strLen Tryd.underlying9 rfl rfl) ?_
 refine al_in rfl rfl rfl rfl ?_
 refine al_nt ?_
 refine aw_cond rfl (fun hb1 => ?_) (fun hb1 => ?_)
 ·replace h := bif_t hb1 h
  refine aw_sr ?_
  refine al_as rfl rfl ?_
  refine al_as rfl rfl ?_
  refine al_nt ?_
  refine aw_ret ?_
  refine aq_then_ret ?_
  refine aq_nilR 81 tyS_glob_part ?_
  obtain rfl := Option.some.inj h
  exact fn_ret nS [0] [] rfl rfl rfl rfl (res2 rfl rfl rfl) rfl rfl rfl (by decide)
 ·replace h := bif_f hb1 h
  refine aw_skip ?_
  refine aq_tr ?_
  refine al_mv rfl rfl ?_
  obtain ⟨r3, hc2, h⟩ := opt_some h
  refine al_call (vs := [(str a0), (str ([47] : List UInt8))]) (f_strings_CutPrefix_ok fu a0 ([47] : List UInt8) hc2) [] [] [] pre_nil rfl (by simp) (by decide) (.inl rfl) rfl Tryd.func39 rfl rfl rfl (fun _ => ?_)
  refine al_mv rfl rfl ?_
  refine al_ex rfl rfl rfl ?_
  refine al_ex rfl rfl rfl ?_
  refine al_as rfl rfl ?_
  refine al_as rfl rfl ?_
  refine al_nt ?_
  refine aw_seq ?_
  obtain ⟨kk5, hkk5, h⟩ := lt_some h
  refine aw_seq_join (ι := Bool) (fun i => (memOf w0 Z0 [] [] [uMax, uTabs])) (fun i => (tab [(4, (str r3.1)), (24, (bool i))])) (fun i => kk5 i = some r) ?_ ?_
  ·rintro j4b24 h
   have h : kk5 j4b24 = some r := h
   rw [hkk5] at h
   dsimp only at h
   clear hkk5
   refine aw_show (m := (memOf w0 Z0 [] [] [uMax, uTabs])) (S := (tab [(4, (str r3.1)), (24, (bool j4b24))])) ?_
   refine aw_cond rfl (fun hb6 => ?_) (fun hb6 => ?_)
   ·replace h := bif_t hb6 h
    refine aw_sr ?_
    refine al_as rfl rfl ?_
    refine al_as rfl rfl ?_
    refine al_nt ?_
    refine aw_ret ?_
    refine aq_then_ret ?_
    refine aq_nilR 81 tyS_glob_part ?_
    obtain rfl := Option.some.inj h
    exact fn_ret nS [0] [] rfl rfl rfl rfl (res2 rfl rfl rfl) rfl rfl rfl (by decide)
   ·replace h := bif_f hb6 h
    refine aw_skip ?_
    refine aq_tr ?_
    refine al_as rfl rfl ?_
    refine al_nt ?_
    obtain ⟨kk8, hkk8, h⟩ := lt_some h
    refine aw_seq_join (ι := Value × (List S_glob_part)) (fun i => (memOf w0 Z0 [] [(oRow i.1 81 tyS_glob_part i.2)] [uMax, uTabs])) (fun i => (tab [(6, i.1)])) (fun i => kk8 i.2 = some r) ?_ ?_
    ·rintro ⟨j7v6, j7x6⟩ h
     have h : kk8 j7x6 = some r := h
     rw [hkk8] at h
     dsimp only at h
     clear hkk8
     refine aw_show (m := (memOf w0 Z0 [] [(oRow j7v6 81 tyS_glob_part j7x6)] [uMax, uTabs])) (S := (tab [(6, j7v6)])) ?_
     refine aw_sr ?_
     refine al_mv rfl rfl ?_
     refine al_as rfl rfl ?_
     refine al_as rfl rfl ?_
     refine al_nt ?_
     refine aw_ret ?_
     obtain rfl := Option.some.inj h
     exact fn_ret j7v6 [0] [] rfl rfl rfl rfl (res2 rfl rfl rfl) rfl rfl rfl (by decide)
    ·clear hkk8
     refine aw_sr ?_
     refine al_mv rfl rfl ?_
     obtain ⟨r10, hc9, h⟩ := opt_some h
     refine al_call (vs := [(str r3.1), (str ([47] : List UInt8))]) (f_strings_Split_ok fu r3.1 ([47] : List UInt8) hc9) [] [] [] (pre_fz 0 rfl pre_nil) rfl (by simp) (by decide) (.inl rfl) rfl Tryd.func41 rfl rfl rfl (fun v11 => ?_)
     refine al_val (ov_lenR 0 rfl rfl Tryd.underlying22 rfl) ?_
     refine al_mv rfl rfl ?_
     refine al_nt ?_
     refine aw_block ?_
     refine aw_nilR 81 tyS_glob_part ?_
     refine aw_state (aw_loop (ι := Value × (List S_glob_part) × Int) (fun i => (memOf w0 Z0 [] [(oRow i.1 81 tyS_glob_part i.2.1), (oRow v11 9 tyStr r10)] [uMax, uTabs])) (fun i => (tab [(6, i.1), (26, v11), (27, (iq (r10.length : Int))), (28, (iq i.2.2))])) (fun q i => f_glob_parse_L14 kk8 r10 fu q i.2.1 i.2.2 = some r) ?_ fu (nS, ([] : List S_glob_part), (0 : Int)) h) (fun w a hm hs => norm hm hs [0, 1] [0, 1] [(6, nS), (26, v11), (27, (iq (r10.length : Int))), (28, (iq (0 : Int)))] (by decide) ⟨rfl, rfl, rfl, rfl, trivial⟩)
     clear h
     rintro k13 ⟨l12v6, l12x6, l12i28⟩ h
     have h : f_glob_parse_L14 kk8 r10 fu k13 l12x6 l12i28 = some r := h
     obtain _ | k13 := k13
     · rw [f_glob_parse_L14] at h; cases h
     rw [f_glob_parse_L14] at h
     refine aw_show (m := (memOf w0 Z0 [] [(oRow l12v6 81 tyS_glob_part l12x6), (oRow v11 9 tyStr r10)] [uMax, uTabs])) (S := (tab [(6, l12v6), (26, v11), (27, (iq (r10.length : Int))), (28, (iq l12i28))])) ?_
     refine aw_sr ?_
     refine al_in rfl rfl rfl rfl ?_
     refine al_nt ?_
     refine aw_seq ?_
     refine aw_cond rfl (fun hb15 => ?_) (fun hb15 => ?_)
     ·replace h := bif_t hb15 h
      refine aw_skip ?_
      refine aq_then ?_
      refine aw_seq ?_
      refine aw_block ?_
      refine aw_sr ?_
      obtain ⟨u16, hu17, h⟩ := opt_some h
      refine al_idxR 1 (at_some hu17).1 (at_some hu17).2.1 rfl rfl rfl Tryd.underlying22 sz9 rfl (fun p18 hp19 => ?_)
      refine al_val (ov_loadR (ds := [(str u16)]) 1 rfl hp19 (at_some hu17).2.2 (fun h => h) rfl Tryd.underlying9 sz9 rfl rfl rfl) ?_
      refine al_as rfl rfl ?_
      refine al_nt ?_
      refine aw_sr ?_
      refine al_mv rfl rfl ?_
      refine al_val (ov_strCmp rfl rfl rfl rfl) ?_
      refine al_val (ov_build (cells := ([(bool (u16 == ([42, 42] : List UInt8))), nS] : List Value).toArray) (cs := [(bool (u16 == ([42, 42] : List UInt8))), nS]) rfl (fun w a hm hs => by simp only [List.map_toArray, List.map_cons, List.map_nil, List.toList_toArray, hs.ev (x := .tmp 33) rfl]; kernel_rfl)) ?_
      refine al_alloc (zs := [(bool false), nS]) (zeroOf_to to81) rfl rfl (fun g20 => ?_)
      refine al_store (i := 0) (vs := [(bool (u16 == ([42, 42] : List UInt8))), nS]) (cs' := [(bool (u16 == ([42, 42] : List UInt8))), nS]) rfl rfl rfl sz81 (cv_rfl rfl) rfl (co_val rfl (co_val rfl co_nil)) (Nat.le_of_ble_eq_true rfl) rfl rfl ?_
      refine al_nt ?_
      refine aw_seq ?_
      refine aw_sr ?_
      refine al_mv rfl rfl ?_
      obtain ⟨r22, hc21, h⟩ := opt_some h
      refine al_call (vs := [(str u16)]) (f_glob_elements_ok fu u16 hc21) [] [] [0, 1, 2] pre_nil rfl (by simp) (by decide) (.inl rfl) rfl Tryd.func42 rfl rfl rfl (fun v23 => ?_)
      refine al_mv rfl rfl ?_
      refine al_ex rfl rfl rfl ?_
      refine al_ex rfl rfl rfl ?_
      refine al_val (ov_fieldA (p := 1) rfl Tryd.underlying81 rfl sz79 rfl rfl rfl) ?_
      refine al_store (i := 1) (vs := [v23]) (cs' := [(bool (u16 == ([42, 42] : List UInt8))), v23]) rfl rfl rfl sz79 (cv_own 0 rfl) rfl (co_own 0 rfl co_nil) (Nat.le_of_ble_eq_true rfl) rfl rfl ?_
      refine al_as rfl rfl ?_
      refine al_nt ?_
      obtain ⟨kk25, hkk25, h⟩ := lt_some h
      refine aw_seq_join (ι := Bool) (fun i => (memOf w0 Z0 [] [(oRow l12v6 81 tyS_glob_part l12x6), (oRow v23 128 tyS_glob_element r22.1), (oBox g20 81 [(bool (u16 == ([42, 42] : List UInt8))), v23]), (oRow v11 9 tyStr r10)] [uMax, uTabs])) (fun i => (tab [(6, l12v6), (9, (pq g20)), (26, v11), (27, (iq (r10.length : Int))), (28, (iq l12i28)), (46, (bool i))])) (fun i => kk25 i = some r) ?_ ?_
      ·rintro j24b46 h
       have h : kk25 j24b46 = some r := h
       rw [hkk25] at h
       dsimp only at h
       clear hkk25
       refine aw_show (m := (memOf w0 Z0 [] [(oRow l12v6 81 tyS_glob_part l12x6), (oRow v23 128 tyS_glob_element r22.1), (oBox g20 81 [(bool (u16 == ([42, 42] : List UInt8))), v23]), (oRow v11 9 tyStr r10)] [uMax, uTabs])) (S := (tab [(6, l12v6), (9, (pq g20)), (26, v11), (27, (iq (r10.length : Int))), (28, (iq l12i28)), (46, (bool j24b46))])) ?_
       refine aw_cond rfl (fun hb26 => ?_) (fun hb26 => ?_)
       ·replace h := bif_t hb26 h
        refine aw_sr ?_
        refine al_as rfl rfl ?_
        refine al_as rfl rfl ?_
        refine al_nt ?_
        refine aw_ret ?_
        refine aq_then_ret ?_
        refine aq_block_ret ?_
        refine aq_then_ret ?_
        refine aq_then_ret ?_
        refine aq_block_ret ?_
        refine aq_then_ret ?_
        refine aq_nilR 81 tyS_glob_part ?_
        obtain rfl := Option.some.inj h
        exact fn_ret nS [0] [] rfl rfl rfl rfl (res2 rfl rfl rfl) rfl rfl rfl (by decide)
       ·replace h := bif_f hb26 h
        refine aw_skip ?_
        refine aq_then ?_
        refine aw_region ?_
        refine al_mv rfl rfl ?_
        refine al_val (ov_load (i := 2) (v := (ag [(bool (u16 == ([42, 42] : List UInt8))), v23])) rfl rfl Tryd.underlying81 sz81 rfl rfl rfl rfl) ?_
        refine al_freeze 1 rfl rfl ?_
        refine al_buildSlice (τ := tyS_glob_part) (e := 81) (k := 1) (sz := 0) (by_ := 0) (z := undef) (cs := [(bool (u16 == ([42, 42] : List UInt8))), v23]) (xs := [(S_glob_part.mk (u16 == ([42, 42] : List UInt8)) r22.1)]) rfl (by decide) (fun w a hm hs => ⟨([(bool (u16 == ([42, 42] : List UInt8))), v23]).toArray, rfl, by simp only [List.map_toArray, List.map_cons, List.map_nil, hs.ev (x := .tmp 48) rfl]; exact run_bs [(ag [(bool (u16 == ([42, 42] : List UInt8))), v23])] [(bool (u16 == ([42, 42] : List UInt8))), v23] Tryd.underlying44 to81 rfl rfl (bs_cons (l := [(bool (u16 == ([42, 42] : List UInt8))), v23]) (cs := []) (cv_rfl rfl) rfl bs_nil) hm⟩) (fun hm => ⟨_, _, rfl, (fun hm => mknS_glob_part (x := (S_glob_part.mk (u16 == ([42, 42] : List UInt8)) r22.1)) rfl (fz_at (i := 0) hm rfl)) hm, rfl⟩) rfl (fun v27 => ?_)
        obtain ⟨hc28, h⟩ := req_some h
        refine al_append 1 hc28.1 hc28.2 rfl (src_own (i := 1) 0 rfl) rfl rfl Tryd.underlying44 to81 rfl rfl rfl (fun v29 => ?_)
        refine al_as rfl rfl ?_
        refine al_nil ?_
        refine aq_block ?_
        refine aq_then ?_
        refine aw_region ?_
        refine al_in rfl rfl rfl rfl ?_
        refine al_mv rfl rfl ?_
        refine al_nil ?_
        exact aq_again k13 (v29, (l12x6 ++ ([(S_glob_part.mk (u16 == ([42, 42] : List UInt8)) r22.1)])), (wq (l12i28 + (1 : Int)))) (Nat.lt_succ_self _) h (fun w a hm hs => norm hm hs [1, 3] [1, 2] [(6, v29), (26, v11), (27, (iq (r10.length : Int))), (28, (iq (wq (l12i28 + (1 : Int)))))] (by decide) ⟨rfl, rfl, rfl, rfl, trivial⟩)
      ·clear hkk25
       refine aw_region ?_
       refine al_mv rfl rfl ?_
       refine al_val (ov_not rfl rfl) ?_
       refine al_mv rfl rfl ?_
       refine al_caseB 43 rfl (fun hb30 => ?_) (fun hb30 => ?_)
       ·replace h := bif_t hb30 h
        refine al_skip ?_
        refine al_skip ?_
        refine al_val (ov_pick_t rfl rfl rfl) ?_
        refine al_nil ?_
        exact aq_join true h (fun w a hm hs => norm hm hs [2, 0, 1, 3] [0, 1] [(6, l12v6), (9, (pq g20)), (26, v11), (27, (iq (r10.length : Int))), (28, (iq l12i28)), (46, (bool true))] (by decide) ⟨rfl, rfl, rfl, rfl, rfl, rfl, trivial⟩)
       ·replace h := bif_f hb30 h
        refine al_mv rfl rfl ?_
        refine al_val (ov_strCmp rfl rfl rfl rfl) ?_
        refine al_val (ov_pick_f rfl rfl rfl) ?_
        refine al_nil ?_
        exact aq_join (u16 == ([] : List UInt8)) h (fun w a hm hs => norm hm hs [2, 0, 1, 3] [0, 1] [(6, l12v6), (9, (pq g20)), (26, v11), (27, (iq (r10.length : Int))), (28, (iq l12i28)), (46, (bool (u16 == ([] : List UInt8))))] (by decide) ⟨rfl, rfl, rfl, rfl, rfl, rfl, trivial⟩)
     ·replace h := bif_f hb15 h
      refine aw_exit ?_
      refine aq_then_exit ?_
      refine aq_then_exit ?_
      refine aq_block_exit ?_
      exact aq_join (l12v6, l12x6) h (fun w a hm hs => norm hm hs [0] [0, 1] [(6, l12v6)] (by decide) ⟨rfl, trivial⟩)
  ·clear hkk5
   refine aw_region ?_
   refine al_mv rfl rfl ?_
   refine al_val (ov_not rfl rfl) ?_
   refine al_mv rfl rfl ?_
   refine al_caseB 20 rfl (fun hb31 => ?_) (fun hb31 => ?_)
   ·replace h := bif_t hb31 h
    refine al_skip ?_
    refine al_skip ?_
    refine al_skip ?_
    refine al_val (ov_pick_t rfl rfl rfl) ?_
    refine al_nil ?_
    exact aq_join true h (fun w a hm hs => norm hm hs [] [0, 1] [(4, (str r3.1)), (24, (bool true))] (by decide) ⟨rfl, rfl, trivial⟩)
   ·replace h := bif_f hb31 h
    refine al_mv rfl rfl ?_
    obtain ⟨r33, hc32, h⟩ := opt_some h
    refine al_call (vs := [(str a0)]) (f_utf8_ValidString_ok fu a0 hc32) [] [] [] (pre_fz 1 rfl pre_nil) rfl (by simp) (by decide) (.inl rfl) rfl Tryd.func40 rfl rfl rfl (fun _ => ?_)
    refine al_val (ov_not rfl rfl) ?_
    refine al_val (ov_pick_f rfl rfl rfl) ?_
    refine al_nil ?_
    exact aq_join (!r33) h (fun w a hm hs => norm hm hs [] [0, 1] [(4, (str r3.1)), (24, (bool (!r33)))] (by decide) ⟨rfl, rfl, trivial⟩)
def f_names_Check_L10 (a0 : (List UInt8)) (kk5 : (Int → Option Int)) : Nat → Int → Int → Option Int
  | 0, _, _ => none
  | k9 + 1, l8i3, l8xp22 => (bif (decide (l8xp22.toNat < a0.length)) then (lt (fun (j12b35 : Bool) => (bif j12b35 then (some (8 : Int)) else (f_names_Check_L10 a0 kk5 k9 (IntKind.i64.wrap (l8i3 + (1 : Int))) ((l8xp22.toNat + (dec a0 l8xp22.toNat).2 : Nat) : Int)))) fun (kk13 : Bool → Option Int) => (bif ((((dec a0 l8xp22.toNat).1 : Nat) : Int) == (47 : Int)) then (kk13 true) else (bif (decide ((((dec a0 l8xp22.toNat).1 : Nat) : Int) < (32 : Int))) then (kk13 true) else (kk13 ((((dec a0 l8xp22.toNat).1 : Nat) : Int) == (127 : Int)))))) else (kk5 l8i3))
def f_names_Check (fu : Nat) (a0 : (List UInt8)) : Option Int := (lt (fun (j1b20 : Bool) => (bif j1b20 then (some (8 : Int)) else (lt (fun (j4i3 : Int) => (bif (decide (j4i3 > (24 : Int))) then (some (2 : Int)) else (some (0 : Int)))) fun (kk5 : Int → Option Int) => (f_names_Check_L10 a0 kk5 fu (0 : Int) (0 : Int))))) fun (kk2 : Bool → Option Int) => (bif (a0 == ([] : List UInt8)) then (kk2 true) else (bif (a0 == ([46] : List UInt8)) then (kk2 true) else (bif (a0 == ([46, 46] : List UInt8)) then (kk2 true) else (opt (f_utf8_ValidString fu a0) fun (r21 : Bool) => (kk2 (!r21)))))))
set_option maxHeartbeats 2000000 in
set_option maxRecDepth 100000 in
theorem f_names_Check_ok (fu : Nat) (a0 : (List UInt8)) {r : Int} (h : f_names_Check fu a0 = some r) : FnOk Tryd.prog 76 [(str a0)] [uTabs] [] (fun (i : Unit) => { val := (int .i64 r) }) := by
 unfold f_names_Check at h
 refine fn_enter Tryd.func76 rfl Tryd.ntmps76 rfl (fun w0 Z0 => ?_)
 refine aw_sr ?_
 refine al_as rfl rfl ?_
 refine al_nt ?_
 refine aw_seq ?_
 obtain ⟨kk2, hkk2, h⟩ := lt_some h
 refine aw_seq_join (ι := Bool) (fun i => (memOf w0 Z0 [] [] [uTabs])) (fun i => (tab [(0, (str a0)), (20, (bool i))])) (fun i => kk2 i = some r) ?_ ?_
 ·rintro j1b20 h
  have h : kk2 j1b20 = some r := h
  rw [hkk2] at h
  dsimp only at h
  clear hkk2
  refine aw_show (m := (memOf w0 Z0 [] [] [uTabs])) (S := (tab [(0, (str a0)), (20, (bool j1b20))])) ?_
  refine aw_cond rfl (fun hb3 => ?_) (fun hb3 => ?_)
  ·replace h := bif_t hb3 h
   refine aw_sr ?_
   refine al_as rfl rfl ?_
   refine al_nt ?_
   refine aw_ret ?_
   refine aq_then_ret ?_
   obtain rfl := Option.some.inj h
   exact fn_ret () [] [] rfl rfl rfl rfl (res1 rfl rfl) rfl rfl rfl (by decide)
  ·replace h := bif_f hb3 h
   refine aw_skip ?_
   refine aq_tr ?_
   refine al_as rfl rfl ?_
   refine al_nt ?_
   obtain ⟨kk5, hkk5, h⟩ := lt_some h
   refine aw_seq_join (ι := Int) (fun i => (memOf w0 Z0 [] [] [uTabs])) (fun i => (tab [(3, (iq i))])) (fun i => kk5 i = some r) ?_ ?_
   ·rintro j4i3 h
    have h : kk5 j4i3 = some r := h
    rw [hkk5] at h
    dsimp only at h
    clear hkk5
    refine aw_show (m := (memOf w0 Z0 [] [] [uTabs])) (S := (tab [(3, (iq j4i3))])) ?_
    refine aw_seq ?_
    refine aw_sr ?_
    refine al_mv rfl rfl ?_
    refine al_in rfl rfl rfl rfl ?_
    refine al_nt ?_
    refine aw_cond rfl (fun hb6 => ?_) (fun hb6 => ?_)
    ·replace h := bif_t hb6 h
     refine aw_sr ?_
     refine al_as rfl rfl ?_
     refine al_nt ?_
     refine aw_ret ?_
     refine aq_then_ret ?_
     obtain rfl := Option.some.inj h
     exact fn_ret () [] [] rfl rfl rfl rfl (res1 rfl rfl) rfl rfl rfl (by decide)
    ·replace h := bif_f hb6 h
     refine aw_skip ?_
     refine aq_tr ?_
     refine al_as rfl rfl ?_
     refine al_nt ?_
     refine aw_ret ?_
     obtain rfl := Option.some.inj h
     exact fn_ret () [] [] rfl rfl rfl rfl (res1 rfl rfl) rfl rfl rfl (by decide)
   ·clear hkk5
    refine aw_sr ?_
    refine al_mv rfl rfl ?_
    refine al_range rfl Tryd.underlying9 rfl (fun g7 => ?_)
    refine al_nt ?_
    refine aw_block ?_
    refine aw_state (aw_loop (ι := Int × Int) (fun i => (memOf w0 Z0 [] [(oIter g7 a0 i.2)] [uTabs])) (fun i => (tab [(3, (iq i.1)), (22, (pq g7))])) (fun q i => f_names_Check_L10 a0 kk5 q i.1 i.2 = some r) ?_ fu ((0 : Int), (0 : Int)) h) (fun w a hm hs => norm hm hs [0] [0] [(3, (iq (0 : Int))), (22, (pq g7))] (by decide) ⟨rfl, rfl, trivial⟩)
    clear h
    rintro k9 ⟨l8i3, l8xp22⟩ h
    have h : f_names_Check_L10 a0 kk5 k9 l8i3 l8xp22 = some r := h
    obtain _ | k9 := k9
    · rw [f_names_Check_L10] at h; cases h
    rw [f_names_Check_L10] at h
    refine aw_show (m := (memOf w0 Z0 [] [(oIter g7 a0 l8xp22)] [uTabs])) (S := (tab [(3, (iq l8i3)), (22, (pq g7))])) ?_
    refine aw_sr ?_
    refine al_next 0 rfl rfl rfl (fun hn11 => ?_) (fun hn11 => ?_)
    ·replace h := bif_t (decide_eq_true hn11) h
     refine al_ex rfl rfl rfl ?_
     refine al_nt ?_
     refine aw_seq ?_
     refine aw_cond_t rfl ?_
     refine aw_skip ?_
     refine aq_then ?_
     refine aw_block ?_
     refine aw_sr ?_
     refine al_ex rfl rfl rfl ?_
     refine al_as rfl rfl ?_
     refine al_nt ?_
     refine aw_seq ?_
     obtain ⟨kk13, hkk13, h⟩ := lt_some h
     refine aw_seq_join (ι := Bool) (fun i => (memOf w0 Z0 [] [(oIter g7 a0 ((l8xp22.toNat + (dec a0 l8xp22.toNat).2 : Nat) : Int))] [uTabs])) (fun i => (tab [(3, (iq l8i3)), (22, (pq g7)), (35, (bool i))])) (fun i => kk13 i = some r) ?_ ?_
     ·rintro j12b35 h
      have h : kk13 j12b35 = some r := h
      rw [hkk13] at h
      dsimp only at h
      clear hkk13
      refine aw_show (m := (memOf w0 Z0 [] [(oIter g7 a0 ((l8xp22.toNat + (dec a0 l8xp22.toNat).2 : Nat) : Int))] [uTabs])) (S := (tab [(3, (iq l8i3)), (22, (pq g7)), (35, (bool j12b35))])) ?_
      refine aw_cond rfl (fun hb14 => ?_) (fun hb14 => ?_)
      ·replace h := bif_t hb14 h
       refine aw_sr ?_
       refine al_as rfl rfl ?_
       refine al_nt ?_
       refine aw_ret ?_
       refine aq_then_ret ?_
       refine aq_block_ret ?_
       refine aq_then_ret ?_
       refine aq_block_ret ?_
       refine aq_then_ret ?_
       obtain rfl := Option.some.inj h
       exact fn_ret () [] [] rfl rfl rfl rfl (res1 rfl rfl) rfl rfl rfl (by decide)
      ·replace h := bif_f hb14 h
       refine aw_skip ?_
       refine aq_then ?_
       refine aw_region ?_
       refine al_mv rfl rfl ?_
       refine al_in rfl rfl rfl rfl ?_
       refine al_as rfl rfl ?_
       refine al_nil ?_
       refine aq_block ?_
       exact aq_again k9 ((wq (l8i3 + (1 : Int))), ((l8xp22.toNat + (dec a0 l8xp22.toNat).2 : Nat) : Int)) (Nat.lt_succ_self _) h (fun w a hm hs => norm hm hs [0] [0] [(3, (iq (wq (l8i3 + (1 : Int))))), (22, (pq g7))] (by decide) ⟨rfl, rfl, trivial⟩)
     ·clear hkk13
      refine aw_region ?_
      refine al_mv rfl rfl ?_
      refine al_in rfl rfl rfl rfl ?_
      refine al_mv rfl rfl ?_
      refine al_caseB 28 rfl (fun hb15 => ?_) (fun hb15 => ?_)
      ·replace h := bif_t hb15 h
       refine al_skip ?_
       refine al_skip ?_
       refine al_val (ov_pick_t rfl rfl rfl) ?_
       refine al_mv rfl rfl ?_
       refine al_skip ?_
       refine al_skip ?_
       refine al_val (ov_pick_t rfl rfl rfl) ?_
       refine al_nil ?_
       exact aq_join true h (fun w a hm hs => norm hm hs [0] [0] [(3, (iq l8i3)), (22, (pq g7)), (35, (bool true))] (by decide) ⟨rfl, rfl, rfl, trivial⟩)
      ·replace h := bif_f hb15 h
       refine al_mv rfl rfl ?_
       refine al_in rfl rfl rfl rfl ?_
       refine al_val (ov_pick_f rfl rfl rfl) ?_
       refine al_mv rfl rfl ?_
       refine al_caseB 32 rfl (fun hb16 => ?_) (fun hb16 => ?_)
       ·replace h := bif_t hb16 h
        refine al_skip ?_
        refine al_skip ?_
        refine al_val (ov_pick_t rfl rfl rfl) ?_
        refine al_nil ?_
        exact aq_join true h (fun w a hm hs => norm hm hs [0] [0] [(3, (iq l8i3)), (22, (pq g7)), (35, (bool true))] (by decide) ⟨rfl, rfl, rfl, trivial⟩)
       ·replace h := bif_f hb16 h
        refine al_mv rfl rfl ?_
        refine al_in rfl rfl rfl rfl ?_
        refine al_val (ov_pick_f rfl rfl rfl) ?_
        refine al_nil ?_
        exact aq_join ((((dec a0 l8xp22.toNat).1 : Nat) : Int) == (127 : Int)) h (fun w a hm hs => norm hm hs [0] [0] [(3, (iq l8i3)), (22, (pq g7)), (35, (bool ((((dec a0 l8xp22.toNat).1 : Nat) : Int) == (127 : Int))))] (by decide) ⟨rfl, rfl, rfl, trivial⟩)
    ·replace h := bif_f (decide_eq_false hn11) h
     refine al_ex rfl rfl rfl ?_
     refine al_nt ?_
     refine aw_seq ?_
     refine aw_cond_f rfl ?_
     refine aw_exit ?_
     refine aq_then_exit ?_
     refine aq_then_exit ?_
     refine aq_block_exit ?_
     exact aq_join l8i3 h (fun w a hm hs => norm hm hs [] [0] [(3, (iq l8i3))] (by decide) ⟨rfl, trivial⟩)
 ·clear hkk2
  refine aw_region ?_
  refine al_mv rfl rfl ?_
  refine al_val (ov_strCmp rfl rfl rfl rfl) ?_
  refine al_mv rfl rfl ?_
  refine al_caseB 8 rfl (fun hb17 => ?_) (fun hb17 => ?_)
  ·replace h := bif_t hb17 h
   refine al_skip ?_
   refine al_skip ?_
   refine al_val (ov_pick_t rfl rfl rfl) ?_
   refine al_mv rfl rfl ?_
   refine al_skip ?_
   refine al_skip ?_
   refine al_val (ov_pick_t rfl rfl rfl) ?_
   refine al_mv rfl rfl ?_
   refine al_skip ?_
   refine al_skip ?_
   refine al_skip ?_
   refine al_val (ov_pick_t rfl rfl rfl) ?_
   refine al_nil ?_
   exact aq_join true h (fun w a hm hs => norm hm hs [] [0] [(0, (str a0)), (20, (bool true))] (by decide) ⟨rfl, rfl, trivial⟩)
  ·replace h := bif_f hb17 h
   refine al_mv rfl rfl ?_
   refine al_val (ov_strCmp rfl rfl rfl rfl) ?_
   refine al_val (ov_pick_f rfl rfl rfl) ?_
   refine al_mv rfl rfl ?_
   refine al_caseB 12 rfl (fun hb18 => ?_) (fun hb18 => ?_)
   ·replace h := bif_t hb18 h
    refine al_skip ?_
    refine al_skip ?_
    refine al_val (ov_pick_t rfl rfl rfl) ?_
    refine al_mv rfl rfl ?_
    refine al_skip ?_
    refine al_skip ?_
    refine al_skip ?_
    refine al_val (ov_pick_t rfl rfl rfl) ?_
    refine al_nil ?_
    exact aq_join true h (fun w a hm hs => norm hm hs [] [0] [(0, (str a0)), (20, (bool true))] (by decide) ⟨rfl, rfl, trivial⟩)
   ·replace h := bif_f hb18 h
    refine al_mv rfl rfl ?_
    refine al_val (ov_strCmp rfl rfl rfl rfl) ?_
    refine al_val (ov_pick_f rfl rfl rfl) ?_
    refine al_mv rfl rfl ?_
    refine al_caseB 16 rfl (fun hb19 => ?_) (fun hb19 => ?_)
    ·replace h := bif_t hb19 h
     refine al_skip ?_
     refine al_skip ?_
     refine al_skip ?_
     refine al_val (ov_pick_t rfl rfl rfl) ?_
     refine al_nil ?_
     exact aq_join true h (fun w a hm hs => norm hm hs [] [0] [(0, (str a0)), (20, (bool true))] (by decide) ⟨rfl, rfl, trivial⟩)
    ·replace h := bif_f hb19 h
     refine al_mv rfl rfl ?_
     obtain ⟨r21, hc20, h⟩ := opt_some h
     refine al_call (vs := [(str a0)]) (f_utf8_ValidString_ok fu a0 hc20) [] [] [] (pre_fz 0 rfl pre_nil) rfl (by simp) (by decide) (.inl rfl) rfl Tryd.func40 rfl rfl rfl (fun _ => ?_)
     refine al_val (ov_not rfl rfl) ?_
     refine al_val (ov_pick_f rfl rfl rfl) ?_
     refine al_nil ?_
     exact aq_join (!r21) h (fun w a hm hs => norm hm hs [] [0] [(0, (str a0)), (20, (bool (!r21)))] (by decide) ⟨rfl, rfl, trivial⟩)
def f_names_checkAll_L5 (a0 : (List (List UInt8))) (kk2 : (Unit → Option Int)) (fu : Nat) : Nat → Int → Option Int
  | 0, _ => none
  | k4 + 1, l3i8 => (bif (decide (l3i8 < (a0.length : Int))) then (opt (at? a0 l3i8) fun (u7 : (List UInt8)) => (bif (decide (l3i8 ≥ (8 : Int))) then (some (14 : Int)) else (opt (f_names_Check fu u7) fun (r12 : Int) => (bif (r12 != (0 : Int)) then (some r12) else (f_names_checkAll_L5 a0 kk2 fu k4 (IntKind.i64.wrap (l3i8 + (1 : Int)))))))) else (kk2 ()))
def f_names_checkAll (fu : Nat) (a0 : (List (List UInt8))) : Option Int := (lt (fun (_ : Unit) => (some (0 : Int))) fun (kk2 : Unit → Option Int) => (f_names_checkAll_L5 a0 kk2 fu fu (0 : Int)))
set_option maxHeartbeats 2000000 in
set_option maxRecDepth 100000 in
theorem f_names_checkAll_ok (fu : Nat) (v0_0 : Value) (a0 : (List (List UInt8))) {r : Int} (h : f_names_checkAll fu a0 = some r) : FnOk Tryd.prog 44 [v0_0] [(fDat (tyList tyStr) [v0_0] a0), uTabs] [] (fun (i : Unit) => { val := (int .i64 r) }) := by
 unfold f_names_checkAll at h
 refine fn_enter Tryd.func44 rfl Tryd.ntmps44 rfl (fun w0 Z0 => ?_)
 refine aw_sr ?_
 refine al_as rfl rfl ?_
 refine al_nt ?_
 obtain ⟨kk2, hkk2, h⟩ := lt_some h
 refine aw_seq_join (ι := Unit) (fun i => (memOf w0 Z0 [] [] [(fDat (tyList tyStr) [v0_0] a0), uTabs])) (fun i => (tab [])) (fun i => kk2 () = some r) ?_ ?_
 ·rintro _ h
  have h : kk2 () = some r := h
  rw [hkk2] at h
  dsimp only at h
  clear hkk2
  refine aw_show (m := (memOf w0 Z0 [] [] [(fDat (tyList tyStr) [v0_0] a0), uTabs])) (S := (tab [])) ?_
  refine aw_sr ?_
  refine al_as rfl rfl ?_
  refine al_nt ?_
  refine aw_ret ?_
  obtain rfl := Option.some.inj h
  exact fn_ret () [] [] rfl rfl rfl rfl (res1 rfl rfl) rfl rfl rfl (by decide)
 ·clear hkk2
  refine aw_sr ?_
  refine al_mv rfl rfl ?_
  refine al_val (ov_lenD 0 rfl rfl Tryd.underlying22 rfl) ?_
  refine al_mv rfl rfl ?_
  refine al_nt ?_
  refine aw_block ?_
  refine aw_state (aw_loop (ι := Int) (fun i => (memOf w0 Z0 [] [] [(fDat (tyList tyStr) [v0_0] a0), uTabs])) (fun i => (tab [(6, v0_0), (7, (iq (a0.length : Int))), (8, (iq i))])) (fun q i => f_names_checkAll_L5 a0 kk2 fu q i = some r) ?_ fu (0 : Int) h) (fun w a hm hs => norm hm hs [] [0, 1] [(6, v0_0), (7, (iq (a0.length : Int))), (8, (iq (0 : Int)))] (by decide) ⟨rfl, rfl, rfl, trivial⟩)
  clear h
  rintro k4 l3i8 h
  have h : f_names_checkAll_L5 a0 kk2 fu k4 l3i8 = some r := h
  obtain _ | k4 := k4
  · rw [f_names_checkAll_L5] at h; cases h
  rw [f_names_checkAll_L5] at h
  refine aw_show (m := (memOf w0 Z0 [] [] [(fDat (tyList tyStr) [v0_0] a0), uTabs])) (S := (tab [(6, v0_0), (7, (iq (a0.length : Int))), (8, (iq l3i8))])) ?_
  refine aw_sr ?_
  refine al_in rfl rfl rfl rfl ?_
  refine al_nt ?_
  refine aw_seq ?_
  refine aw_cond rfl (fun hb6 => ?_) (fun hb6 => ?_)
  ·replace h := bif_t hb6 h
   refine aw_skip ?_
   refine aq_then ?_
   refine aw_seq ?_
   refine aw_block ?_
   refine aw_sr ?_
   refine al_mv rfl rfl ?_
   obtain ⟨u7, hu8, h⟩ := opt_some h
   refine al_idxD 0 hu8 rfl rfl rfl Tryd.underlying22 sz9 rfl (fun p9 => ?_)
   refine al_val (ov_loadP (ds := [(str u7)]) 0 rfl (fun h => h) rfl Tryd.underlying9 sz9 rfl rfl rfl) ?_
   refine al_as rfl rfl ?_
   refine al_as rfl rfl ?_
   refine al_nt ?_
   refine aw_seq ?_
   refine aw_sr ?_
   refine al_mv rfl rfl ?_
   refine al_in rfl rfl rfl rfl ?_
   refine al_nt ?_
   refine aw_cond rfl (fun hb10 => ?_) (fun hb10 => ?_)
   ·replace h := bif_t hb10 h
    refine aw_sr ?_
    refine al_as rfl rfl ?_
    refine al_nt ?_
    refine aw_ret ?_
    refine aq_then_ret ?_
    refine aq_block_ret ?_
    refine aq_then_ret ?_
    refine aq_then_ret ?_
    refine aq_block_ret ?_
    refine aq_then_ret ?_
    obtain rfl := Option.some.inj h
    exact fn_ret () [] [] rfl rfl rfl rfl (res1 rfl rfl) rfl rfl rfl (by decide)
   ·replace h := bif_f hb10 h
    refine aw_skip ?_
    refine aq_tr ?_
    refine al_mv rfl rfl ?_
    obtain ⟨r12, hc11, h⟩ := opt_some h
    refine al_call (vs := [(str u7)]) (f_names_Check_ok fu u7 hc11) [] [] [] (pre_fz 2 rfl pre_nil) rfl (by simp) (by decide) (.inl rfl) rfl Tryd.func76 rfl rfl rfl (fun _ => ?_)
    refine al_as rfl rfl ?_
    refine al_nt ?_
    refine aw_sr ?_
    refine al_mv rfl rfl ?_
    refine al_in rfl rfl rfl rfl ?_
    refine al_nt ?_
    refine aw_cond rfl (fun hb13 => ?_) (fun hb13 => ?_)
    ·replace h := bif_t hb13 h
     refine aw_sr ?_
     refine al_mv rfl rfl ?_
     refine al_as rfl rfl ?_
     refine al_nt ?_
     refine aw_ret ?_
     refine aq_block_ret ?_
     refine aq_then_ret ?_
     refine aq_then_ret ?_
     refine aq_block_ret ?_
     refine aq_then_ret ?_
     obtain rfl := Option.some.inj h
     exact fn_ret () [] [] rfl rfl rfl rfl (res1 rfl rfl) rfl rfl rfl (by decide)
    ·replace h := bif_f hb13 h
     refine aw_skip ?_
     refine aq_block ?_
     refine aq_then ?_
     refine aw_region ?_
     refine al_in rfl rfl rfl rfl ?_
     refine al_mv rfl rfl ?_
     refine al_nil ?_
     exact aq_again k4 (wq (l3i8 + (1 : Int))) (Nat.lt_succ_self _) h (fun w a hm hs => norm hm hs [] [1, 2] [(6, v0_0), (7, (iq (a0.length : Int))), (8, (iq (wq (l3i8 + (1 : Int)))))] (by decide) ⟨rfl, rfl, rfl, trivial⟩)
  ·replace h := bif_f hb6 h
   refine aw_exit ?_
   refine aq_then_exit ?_
   refine aq_then_exit ?_
   refine aq_block_exit ?_
   exact aq_join () h (fun w a hm hs => norm hm hs [] [0, 1] [] (by decide) trivial)
def f_names_Split (fu : Nat) (a0 : (List UInt8)) : Option ((List (List UInt8)) × Int) := (opt (f_strings_CutPrefix fu a0 ([47] : List UInt8)) fun (r2 : ((List UInt8) × Bool)) => (bif (!r2.2) then (some (([] : List (List UInt8)), (8 : Int))) else (bif (r2.1 == ([] : List UInt8)) then (some (([] : List (List UInt8)), (0 : Int))) else (opt (f_strings_Split fu r2.1 ([47] : List UInt8)) fun (r6 : (List (List UInt8))) => (opt (f_names_checkAll fu r6) fun (r9 : Int) => (bif (r9 != (0 : Int)) then (some (([] : List (List UInt8)), r9)) else (some (r6, (0 : Int)))))))))
set_option maxHeartbeats 2000000 in
set_option maxRecDepth 100000 in
theorem f_names_Split_ok (fu : Nat) (a0 : (List UInt8)) {r : ((List (List UInt8)) × Int)} (h : f_names_Split fu a0 = some r) : FnOk Tryd.prog 20 [(str a0)] [uMax, uTabs] [] (fun (i : Value) => { val := (Value.tuple #[i, (int .i64 r.2)]), own := [(oRow i 9 tyStr r.1)] }) := by
 unfold f_names_Split at h
 refine fn_enter Tryd.func20 rfl Tryd.ntmps20 rfl (fun w0 Z0 => ?_)
 refine aw_sr ?_
 refine al_as rfl rfl ?_
 refine al_as rfl rfl ?_
 refine al_nt ?_
 refine aw_sr ?_
 refine al_mv rfl rfl ?_
 obtain ⟨r2, hc1, h⟩ := opt_some h
 refine al_call (vs := [(str a0), (str ([47] : List UInt8))]) (f_strings_CutPrefix_ok fu a0 ([47] : List UInt8) hc1) [] [] [] pre_nil rfl (by simp) (by decide) (.inl rfl) rfl Tryd.func39 rfl rfl rfl (fun _ => ?_)
 refine al_mv rfl rfl ?_
 refine al_ex rfl rfl rfl ?_
 refine al_ex rfl rfl rfl ?_
 refine al_as rfl rfl ?_
 refine al_as rfl rfl ?_
 refine al_nt ?_
 refine aw_seq ?_
 refine aw_sr ?_
 refine al_mv rfl rfl ?_
 refine al_val (ov_not rfl rfl) ?_
 refine al_nt ?_
 refine aw_cond rfl (fun hb3 => ?_) (fun hb3 => ?_)
 ·replace h := bif_t hb3 h
  refine aw_sr ?_
  refine al_as rfl rfl ?_
  refine al_as rfl rfl ?_
  refine al_nt ?_
  refine aw_ret ?_
  refine aq_then_ret ?_
  refine aq_nilR 9 tyStr ?_
  obtain rfl := Option.some.inj h
  exact fn_ret nS [0] [] rfl rfl rfl rfl (res2 rfl rfl rfl) rfl rfl rfl (by decide)
 ·replace h := bif_f hb3 h
  refine aw_skip ?_
  refine aq_then ?_
  refine aw_seq ?_
  refine aw_sr ?_
  refine al_mv rfl rfl ?_
  refine al_val (ov_strCmp rfl rfl rfl rfl) ?_
  refine al_nt ?_
  refine aw_cond rfl (fun hb4 => ?_) (fun hb4 => ?_)
  ·replace h := bif_t hb4 h
   refine aw_sr ?_
   refine al_as rfl rfl ?_
   refine al_as rfl rfl ?_
   refine al_nt ?_
   refine aw_ret ?_
   refine aq_then_ret ?_
   refine aq_nilR 9 tyStr ?_
   obtain rfl := Option.some.inj h
   exact fn_ret nS [0] [] rfl rfl rfl rfl (res2 rfl rfl rfl) rfl rfl rfl (by decide)
  ·replace h := bif_f hb4 h
   refine aw_skip ?_
   refine aq_tr ?_
   refine al_mv rfl rfl ?_
   obtain ⟨r6, hc5, h⟩ := opt_some h
   refine al_call (vs := [(str r2.1), (str ([47] : List UInt8))]) (f_strings_Split_ok fu r2.1 ([47] : List UInt8) hc5) [] [] [] (pre_fz 0 rfl pre_nil) rfl (by simp) (by decide) (.inl rfl) rfl Tryd.func41 rfl rfl rfl (fun v7 => ?_)
   refine al_as rfl rfl ?_
   refine al_nt ?_
   refine aw_seq ?_
   refine aw_sr ?_
   refine al_mv rfl rfl ?_
   obtain ⟨r9, hc8, h⟩ := opt_some h
   refine al_call (vs := [v7]) (f_names_checkAll_ok fu v7 r6 hc8) [0] [] [0] (pre_own 0 rfl rfl (pre_fz 1 rfl pre_nil)) rfl (by simp) (by decide) (.inr flat_res0) rfl Tryd.func44 rfl rfl rfl (fun _ => ?_)
   refine al_as rfl rfl ?_
   refine al_nt ?_
   refine aw_sr ?_
   refine al_mv rfl rfl ?_
   refine al_in rfl rfl rfl rfl ?_
   refine al_nt ?_
   refine aw_cond rfl (fun hb10 => ?_) (fun hb10 => ?_)
   ·replace h := bif_t hb10 h
    refine aw_sr ?_
    refine al_mv rfl rfl ?_
    refine al_as rfl rfl ?_
    refine al_as rfl rfl ?_
    refine al_nt ?_
    refine aw_ret ?_
    refine aq_then_ret ?_
    refine aq_nilR 9 tyStr ?_
    obtain rfl := Option.some.inj h
    exact fn_ret nS [0] [] rfl rfl rfl rfl (res2 rfl rfl rfl) rfl rfl rfl (by decide)
   ·replace h := bif_f hb10 h
    refine aw_skip ?_
    refine aq_tr ?_
    refine al_mv rfl rfl ?_
    refine al_as rfl rfl ?_
    refine al_as rfl rfl ?_
    refine al_nt ?_
    refine aw_ret ?_
    obtain rfl := Option.some.inj h
    exact fn_ret v7 [0] [] rfl rfl rfl rfl (res2 rfl rfl rfl) rfl rfl rfl (by decide)
def f_glob_path_1 (fu : Nat) (a0 : Int) (a1 : (List S_glob_part)) : Option Bool := (opt (at? a1 a0) fun (u2 : S_glob_part) => (some u2.any))
set_option maxRecDepth 100000 in
theorem f_glob_path_1_ok (fu : Nat) (a0 : Int) (c1 : Value) (a1 : (List S_glob_part)) {r : Bool} (h : f_glob_path_1 fu a0 a1 = some r) : FnOk Tryd.prog 46 [(int .i64 a0), c1] [(fPtr (tyList tyS_glob_part) c1 a1)] [] (fun (i : Unit) => { val := (bool r) }) := by
 unfold f_glob_path_1 at h
 refine fn_enter Tryd.func46 rfl Tryd.ntmps46 rfl (fun w0 Z0 => ?_)
 refine aw_sr ?_
 refine al_as rfl rfl ?_
 refine al_nt ?_
 refine aw_sr ?_
 refine al_loadP1 0 rfl rfl Tryd.underlying44 sz44 rfl rfl rfl (fun s1 => ?_)
 refine al_mv rfl rfl ?_
 obtain ⟨u2, hu3, h⟩ := opt_some h
 refine al_idxD 0 hu3 rfl rfl rfl Tryd.underlying44 sz81 rfl (fun p4 => ?_)
 refine al_fieldD (pr := fun (y : S_glob_part) => y.any) 0 rfl subS_glob_part_0 rfl Tryd.underlying81 rfl sz4 rfl rfl (fun p5 => ?_)
 refine al_val (ov_loadP (ds := [(bool u2.any)]) 0 rfl (fun h => h) rfl Tryd.underlying4 sz4 rfl rfl rfl) ?_
 refine al_as rfl rfl ?_
 refine al_nt ?_
 refine aw_ret ?_
 obtain rfl := Option.some.inj h
 exact fn_ret () [] [] rfl rfl rfl rfl (res1 rfl rfl) rfl rfl rfl (by decide)
def f_glob_name_1 (fu : Nat) (a0 : Int) (a1 : (List S_glob_element)) : Option Bool := (opt (at? a1 a0) fun (u2 : S_glob_element) => (some (u2.kind == (2 : Int))))
set_option maxRecDepth 100000 in
theorem f_glob_name_1_ok (fu : Nat) (a0 : Int) (c1 : Value) (a1 : (List S_glob_element)) {r : Bool} (h : f_glob_name_1 fu a0 a1 = some r) : FnOk Tryd.prog 77 [(int .i64 a0), c1] [(fPtr (tyList tyS_glob_element) c1 a1)] [] (fun (i : Unit) => { val := (bool r) }) := by
 unfold f_glob_name_1 at h
 refine fn_enter Tryd.func77 rfl Tryd.ntmps77 rfl (fun w0 Z0 => ?_)
 refine aw_sr ?_
 refine al_as rfl rfl ?_
 refine al_nt ?_
 refine aw_sr ?_
 refine al_loadP1 0 rfl rfl Tryd.underlying79 sz79 rfl rfl rfl (fun s1 => ?_)
 refine al_mv rfl rfl ?_
 obtain ⟨u2, hu3, h⟩ := opt_some h
 refine al_idxD 0 hu3 rfl rfl rfl Tryd.underlying79 sz128 rfl (fun p4 => ?_)
 refine al_fieldD (pr := fun (y : S_glob_element) => y.kind) 0 rfl subS_glob_element_0 rfl Tryd.underlying128 rfl sz3 rfl rfl (fun p5 => ?_)
 refine al_val (ov_loadP (ds := [(iq u2.kind)]) 0 rfl (fun h => h) rfl Tryd.underlying3 sz3 rfl rfl rfl) ?_
 refine al_in rfl rfl rfl rfl ?_
 refine al_as rfl rfl ?_
 refine al_nt ?_
 refine aw_ret ?_
 obtain rfl := Option.some.inj h
 exact fn_ret () [] [] rfl rfl rfl rfl (res1 rfl rfl) rfl rfl rfl (by decide)
end Go.Proofs.YtpakblkldklbmaaDoor
