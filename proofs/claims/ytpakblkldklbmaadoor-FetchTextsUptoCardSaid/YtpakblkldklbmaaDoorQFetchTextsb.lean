/- What FetchTexts leans on, part 2. No condition. -/
import Derived.Test.YtpakblkldklbmaaDoorQFetchTextsa
import Derived.RangeFuncRecord
import Derived.RangeFuncCalls
import Derived.Shelf.Strings.Repeat
import Derived.Test.YtpakblkldklbmaaDoorChecked
import Derived.Shelf.Strings.OnBuilder
import Derived.Test.YtpakblkldklbmaaDoorRows
namespace Go.Proofs.YtpakblkldklbmaaDoor.En
open Go.RowKit Go.Maps YtpakblkldklbmaaDoor
set_option linter.unusedVariables false
set_option linter.unusedSimpArgs false
def Fr (R : Option Nat) : Fence := { fn := fun _ => True, depth := none, alive := false, round := R }
class NoOut (Q : Exit → Act → World → Prop) : Prop where
  no : ¬ LetsOut Q
theorem calls_fr {P : Program} {R : Option Nat} {f : FuncId} {args : Array Value} {w : World} {X : Ending → World → Prop} (h : Calls P f args w X) : CallsIn (Fr R) 0 P f args w X :=
  (callsIn_wide (n := 0)).2 h
theorem calls_of_fr {P : Program} {f : FuncId} {args : Array Value} {w : World} {X : Ending → World → Prop} (h : CallsIn (Fr none) 0 P f args w X) : Calls P f args w X :=
  (callsIn_wide (n := 0)).1 h
def notDefer (o : Oper) : Bool :=
  match o.op with
  | .defer _ => false
  | _ => true
def Qc (ds : List Deferred) (K : Act → World → Prop) (Q : Exit → Act → World → Prop) (e : Exit) (a : Act) (w : World) : Prop :=
  a.defers = [] ∧ match e with
  | .normal => K { a with defers := ds } w
  | e => Q e { a with defers := ds } w
theorem letsOut_c {ds : List Deferred} {K : Act → World → Prop} {Q : Exit → Act → World → Prop} (h : LetsOut (Qc ds K Q)) : LetsOut Q := by
  obtain ⟨a, w, h⟩ := h; exact ⟨_, w, h.2⟩
theorem put_defers (a : Act) (ds : List Deferred) (d : Option Nat) (v : Value) : ({ a with defers := ds } : Act).put d v = { a.put d v with defers := ds } := by cases d <;> rfl
theorem put_def (a : Act) (d : Option Nat) (v : Value) : (a.put d v).defers = a.defers := by cases d <;> rfl
theorem semAt_fr (R : Option Nat) (ρ : Operand → Value) (o : Oper) (h : notDefer o = true) : o.semAt R ρ = execOp ρ o := by
  cases R with
  | none => exact Oper.semAt_none _ _
  | some l =>
    refine Oper.semAt_some l ρ o (fun c hc => ?_)
    unfold notDefer at h; rw [hc] at h; cases h
section
variable {P : Program} {R : Option Nat} {ops : Array Oper} {K0 K1 K : Act → World → Prop} {Q : Exit → Act → World → Prop} {ds : List Deferred} {o : Oper} {a : Act} {w : World}
theorem oper_false (hQ : ∀ e a w, Q e a w → a.defers = []) (hno : ¬ LetsOut Q) (hK : ∀ a w, a.defers ≠ [] → K0 a w → False) (ha : a.defers ≠ []) (h : o.wp P a w K0 Q) : False := by
  unfold Oper.wp at h
  have hp : ∀ v w', K0 (a.put o.dst v) w' → False := fun v w' h => hK _ _ (by rw [put_def]; exact ha) h
  generalize (execOp a.eval o).run P w = r at h
  cases r with
  | ok nx w' =>
    cases nx with
    | value v => exact hp _ _ h
    | skip => exact hp _ _ h
    | defer d => exact hK _ _ (by rw [put_def]; simp) h
    | enter f args =>
      obtain ⟨e, w'', fr, r, _⟩ := h []
      cases e with
      | returned v => exact hp _ _ r
      | panicked ch => exact ha (hQ _ _ _ r)
      | outgrown => exact hno r
    | row row args =>
      obtain ⟨v, w'', r, _⟩ := h default []
      exact hp _ _ r
    | round l f tmps assign body => exact h.elim
    | _ => exact h.elim
  | halt x w' =>
    cases x with
    | panic v => exact ha (hQ _ _ _ h)
    | _ => exact h.elim
theorem list_false (hQ : ∀ e a w, Q e a w → a.defers = []) (hno : ¬ LetsOut Q) : ∀ (l : List Oper) (a : Act) (w : World), a.defers ≠ [] → wpList P ops Q l a w → False
  | [], a, w, ha, h => ha (hQ _ _ _ h)
  | o :: l, a, w, ha, h => by
    unfold wpList at h
    split at h
    · rcases h with h | ⟨_, h⟩
      · exact oper_false hQ hno (list_false hQ hno l) ha h
      · exact hno h
    · exact list_false hQ hno l _ _ (by rw [put_def]; exact ha) h
theorem oper_in (hnd : notDefer o = true) (ha : a.defers = []) (hF : ∀ a w, a.defers ≠ [] → K0 a w → False)
    (hK : ∀ a' w', a'.defers = [] → K0 a' w' → K1 { a' with defers := ds } w') (h : o.wp P a w K0 (Qc ds K Q)) : o.wpIn (Fr R) 0 P { a with defers := ds } w K1 Q := by
  refine ⟨fun _ _ => trivial, ?_⟩
  rw [show (Fr R).round = R from rfl, semAt_fr R _ o hnd]
  unfold Oper.wp at h
  rw [show ({ a with defers := ds } : Act).eval = a.eval from rfl]
  have hp : ∀ v w', K0 (a.put o.dst v) w' → K1 (({ a with defers := ds } : Act).put o.dst v) w' := fun v w' h => by
    rw [put_defers]; exact hK _ _ (by rw [put_def]; exact ha) h
  generalize (execOp a.eval o).run P w = r at h
  cases r with
  | ok nx w' =>
    cases nx with
    | value v => exact hp _ _ h
    | skip => exact hp _ _ h
    | defer d => exact (hF _ _ (by rw [put_def]; simp) h).elim
    | enter f args =>
      refine ⟨fun h => (by cases h), (calls_fr h).mono fun e w'' he => ?_⟩
      cases e with
      | returned v => exact hp _ _ he
      | panicked ch => exact he.2
      | outgrown => exact letsOut_c he
    | row row args =>
      refine ⟨fun h => (by cases h), fun c cs _ => ?_⟩
      obtain ⟨v, w'', r, s⟩ := h c cs
      exact ⟨v, w'', hp _ _ r, stepsIn_wide.2 s⟩
    | round l f tmps assign body => exact h.elim
    | _ => exact h.elim
  | halt x w' =>
    cases x with
    | panic v => exact h.2
    | _ => exact h.elim
theorem list_in {l2 : List Oper} (hno : ¬ LetsOut Q) (hK : ∀ a w, K a w → wpListIn (Fr R) 0 P ops Q l2 a w) : ∀ (l : List Oper), l.all notDefer = true → ∀ (a : Act) (w : World), a.defers = [] → wpList P ops (Qc ds K Q) l a w →
    wpListIn (Fr R) 0 P ops Q (l ++ l2) { a with defers := ds } w
  | [], _, a, w, ha, h => hK _ _ h.2
  | o :: l, hl, a, w, ha, h => by
    rw [List.all_cons, Bool.and_eq_true] at hl
    have hno' : ¬ LetsOut (Qc ds K Q) := fun h => hno (letsOut_c h)
    unfold wpList at h
    show wpListIn (Fr R) 0 P ops Q (o :: (l ++ l2)) { a with defers := ds } w
    unfold wpListIn
    rw [show ({ a with defers := ds } : Act).tmps = a.tmps from rfl]
    split at h
    · rename_i hw
      rw [if_pos hw]
      rcases h with h | ⟨_, h⟩
      · exact oper_in hl.1 ha (list_false (fun e a w h => h.1) hno' l) (fun a' w' ha' h' => list_in hno hK l hl.2 a' w' ha' h') h
      · exact absurd h hno'
    · rename_i hw
      rw [if_neg hw]
      refine ⟨fun _ _ => trivial, ?_⟩
      rw [put_defers]
      exact list_in hno hK l hl.2 _ _ (by rw [put_def]; exact ha) h
end
def IW (R : Option Nat) (ds : List Deferred) (P : Program) (c : Code) (Q : Exit → Act → World → Prop) (n : Nat) (m : Mem) (S : Sl) : Prop := ∀ w a, Holds m w → Sat n S a → c.wpIn (Fr R) 0 P Q { a with defers := ds } w
def IQ (ds : List Deferred) (Q : Exit → Act → World → Prop) (e : Exit) (n : Nat) (m : Mem) (S : Sl) : Prop := ∀ w a, Holds m w → Sat n S a → Q e { a with defers := ds } w
def IL (R : Option Nat) (ds : List Deferred) (P : Program) (ops : Array Oper) (l : List Oper) (Q : Exit → Act → World → Prop) (n : Nat) (m : Mem) (S : Sl) : Prop := ∀ w a, Holds m w → Sat n S a → wpListIn (Fr R) 0 P ops Q l { a with defers := ds } w
section
variable {P : Program} {R : Option Nat} {ds : List Deferred} {Q : Exit → Act → World → Prop} {n : Nat} {m m' : Mem} {S S' : Sl} {ops : Array Oper} {α ι : Type}
instance {K : Act → World → Prop} [h : NoOut Q] : NoOut (Exit.then K Q) := ⟨fun ⟨a, w, hq⟩ => h.no ⟨a, w, hq⟩⟩
instance {id : Nat} [h : NoOut Q] : NoOut (Exit.inBlock id Q) := ⟨fun ⟨a, w, hq⟩ => h.no ⟨a, w, hq⟩⟩
instance : NoOut (fun _ _ _ => False) := ⟨fun ⟨_, _, hq⟩ => hq⟩
theorem iw_seq {x y : Code} (h : IW R ds P x (Exit.then (y.wpIn (Fr R) 0 P Q) Q) n m S) : IW R ds P (.seq x y) Q n m S := fun w a hm hs => wpIn_seq (h w a hm hs)
theorem iq_then {y : Code} (h : IW R ds P y Q n m S) : IQ ds (Exit.then (y.wpIn (Fr R) 0 P Q) Q) .normal n m S := h
theorem iq_then_ret {K : Act → World → Prop} (h : IQ ds Q .ret n m S) : IQ ds (Exit.then K Q) .ret n m S := h
theorem iq_then_exit {K : Act → World → Prop} {i : Nat} (h : IQ ds Q (.exit i) n m S) : IQ ds (Exit.then K Q) (.exit i) n m S := h
theorem iw_block {id : Nat} {c : Code} (h : IW R ds P c (Exit.inBlock id Q) n m S) : IW R ds P (.block id c) Q n m S := fun w a hm hs => wpIn_block (h w a hm hs)
theorem iq_block {id : Nat} (h : IQ ds Q .normal n m S) : IQ ds (Exit.inBlock id Q) .normal n m S := h
theorem iq_block_ret {id : Nat} (h : IQ ds Q .ret n m S) : IQ ds (Exit.inBlock id Q) .ret n m S := h
theorem iq_block_exit {id : Nat} (h : IQ ds Q .normal n m S) : IQ ds (Exit.inBlock id Q) (.exit id) n m S := fun w a hm hs => by
  show if id = id then _ else _
  rw [if_pos rfl]; exact h w a hm hs
theorem iw_skip (h : IQ ds Q .normal n m S) : IW R ds P .skip Q n m S := fun w a hm hs => wpIn_skip (h w a hm hs)
theorem iw_exit {i : Nat} (h : IQ ds Q (.exit i) n m S) : IW R ds P (.exit i) Q n m S := fun w a hm hs => wpIn_exit (h w a hm hs)
theorem iw_ret (h : IQ ds Q .ret n m S) : IW R ds P .ret Q n m S := fun w a hm hs => wpIn_ret (h w a hm hs)
theorem iw_cond {c : Operand} {x y : Code} {b : Bool} (hc : ev S c = some (.bool b)) (ht : b = true → IW R ds P x Q n m S) (hf : b = false → IW R ds P y Q n m S) : IW R ds P (.cond c x y) Q n m S :=
  fun w a hm hs => wpIn_cond_split (hs.ev hc) (fun e => ht e w a hm hs) (fun e => hf e w a hm hs)
theorem iw_cond_f {c : Operand} {x y : Code} (hc : ev S c = some (.bool false)) (h : IW R ds P y Q n m S) : IW R ds P (.cond c x y) Q n m S := fun w a hm hs => wpIn_cond_false (hs.ev hc) (h w a hm hs)
theorem iw_show {c : Code} (h : IW R ds P c Q n m S) : IW R ds P c Q n m S := h
theorem iw_state {c : Code} (h : IW R ds P c Q n m' S') (hh : ∀ w a, Holds m w → Sat n S a → Holds m' w ∧ Sat n S' a) : IW R ds P c Q n m S := fun w a hm hs => h w a (hh w a hm hs).1 (hh w a hm hs).2
theorem wpIn_region_litI {id : Nat} {l : List Oper} {a : Act} {w : World} (h : wpListIn (Fr R) 0 P l.toArray Q l a w) : (Code.region id l.toArray false).wpIn (Fr R) 0 P Q a w := by
  refine wpIn_region ?_
  have := wpOpsIn_eq_wpListIn (F := Fr R) (n := 0) (P := P) (ops := l.toArray) (Q := Q) l 0 (by simp)
  rw [List.range_eq_range', List.size_toArray, this]
  exact h
theorem iw_region [hQ : NoOut Q] {id : Nat} {l : List Oper} (h : AL P l.toArray l (Qc ds (Q .normal) Q) n m S) (hnd : l.all notDefer = true := by rfl) : IW R ds P (.region id l.toArray false) Q n m S := fun w a hm hs => by
  refine wpIn_region_litI ?_
  have := list_in (R := R) (l2 := []) hQ.no (fun a w h => h) l hnd a w hs.def_ (h w a hm hs)
  simpa using this
theorem iw_sr [hQ : NoOut Q] {id : Nat} {l : List Oper} {y : Code} (h : AL P l.toArray l (Qc ds (y.wpIn (Fr R) 0 P Q) (Exit.then (y.wpIn (Fr R) 0 P Q) Q)) n m S) (hnd : l.all notDefer = true := by rfl) : IW R ds P (.seq (.region id l.toArray false) y) Q n m S := iw_seq (iw_region h hnd)
theorem iq_tr [hQ : NoOut Q] {id : Nat} {l : List Oper} {y : Code} (h : AL P l.toArray l (Qc ds (y.wpIn (Fr R) 0 P Q) (Exit.then (y.wpIn (Fr R) 0 P Q) Q)) n m S) (hnd : l.all notDefer = true := by rfl) : IQ ds (Exit.then ((Code.seq (.region id l.toArray false) y).wpIn (Fr R) 0 P Q) Q) .normal n m S := iq_then (iw_sr h hnd)
theorem il_nil {Q' : Exit → Act → World → Prop} (h : IQ ds Q .normal n m S) : AL P ops [] (Qc ds (Q .normal) Q') n m S := al_nil fun w a hm hs => ⟨hs.def_, h w a hm hs⟩
theorem il_nt {y : Code} {Q' : Exit → Act → World → Prop} (h : IW R ds P y Q n m S) : AL P ops [] (Qc ds (y.wpIn (Fr R) 0 P Q) Q') n m S := al_nil fun w a hm hs => ⟨hs.def_, h w a hm hs⟩
theorem iw_cut [hQ : NoOut Q] {id : Nat} {l : List Oper} (k : Nat) (h : AL P l.toArray (l.take k) (Qc ds (wpListIn (Fr R) 0 P l.toArray Q (l.drop k)) Q) n m S) (hnd : (l.take k).all notDefer = true := by rfl) : IW R ds P (.region id l.toArray false) Q n m S := fun w a hm hs => by
  refine wpIn_region_litI ?_
  have := list_in (R := R) (l2 := l.drop k) hQ.no (fun a w h => h) (l.take k) hnd a w hs.def_ (h w a hm hs)
  rwa [List.take_append_drop] at this
theorem il_go {l2 : List Oper} {Q' : Exit → Act → World → Prop} (h : IL R ds P ops l2 Q n m S) : AL P ops [] (Qc ds (wpListIn (Fr R) 0 P ops Q l2) Q') n m S := al_nil fun w a hm hs => ⟨hs.def_, h w a hm hs⟩
theorem il_list [hQ : NoOut Q] {l : List Oper} (h : AL P ops l (Qc ds (Q .normal) Q) n m S) (hnd : l.all notDefer = true := by rfl) : IL R ds P ops l Q n m S := fun w a hm hs => by
  have := list_in (R := R) (l2 := []) hQ.no (fun a w h => h) l hnd a w hs.def_ (h w a hm hs)
  simpa using this
theorem wpIn_loop_fuel {c : Code} (J : Nat → Act → World → Prop) (round : ∀ k a w, J k a w → c.wpIn (Fr R) 0 P (Exit.then (fun a' w' => ∃ j, j < k ∧ J j a' w') Q) a w) {k : Nat} {a : Act} {w : World} (h : J k a w) : (Code.loop c).wpIn (Fr R) 0 P Q a w := by
  classical
  let μ : Act → World → Nat := fun a w => if h : ∃ k, J k a w then Classical.choose (least h) else 0
  refine wpIn_loop (fun a w => ∃ k, J k a w) μ ⟨k, h⟩ (fun a w hI => ?_)
  have hk := (Classical.choose_spec (least hI)).1
  refine wpIn_mono (round _ a w hk) (fun e a' w' q => ?_)
  cases e with
  | normal =>
    obtain ⟨j, hj, hJ⟩ := q
    refine ⟨⟨j, hJ⟩, ?_⟩
    have hex : ∃ k, J k a' w' := ⟨j, hJ⟩
    have h1 : μ a' w' ≤ j := by
      show (if h : ∃ k, J k a' w' then Classical.choose (least h) else 0) ≤ j
      rw [dif_pos hex]; exact (Classical.choose_spec (least hex)).2 j hJ
    have h2 : μ a w = Classical.choose (least hI) := dif_pos hI
    omega
  | exit i => exact q
  | goto i => exact q
  | ret => exact q
  | panic ch => exact q
  | outgrown => exact q
def Lp {ι : Type _} (ds : List Deferred) (n : Nat) (M : ι → Mem) (T : ι → Sl) (φ : Nat → ι → Prop) (k : Nat) (a' : Act) (w' : World) : Prop := ∃ j, j < k ∧ ∃ i', φ j i' ∧ Holds (M i') w' ∧ ∃ a0, a' = { a0 with defers := ds } ∧ Sat n (T i') a0
theorem iw_loop {c : Code} {ι : Type _} (M : ι → Mem) (T : ι → Sl) (φ : Nat → ι → Prop)
    (round : ∀ k i, φ k i → IW R ds P c (Exit.then (Lp ds n M T φ k) Q) n (M i) (T i)) (k : Nat) (i : ι) (h : φ k i) : IW R ds P (.loop c) Q n (M i) (T i) :=
  fun w a hm hs => wpIn_loop_fuel (fun k a w => ∃ i, φ k i ∧ Holds (M i) w ∧ ∃ a0, a = { a0 with defers := ds } ∧ Sat n (T i) a0)
    (fun k a w ⟨i, hp, hm, a0, ha, hs⟩ => by subst ha; exact round k i hp w a0 hm hs) ⟨i, h, hm, a, rfl, hs⟩
theorem iq_again {ι : Type _} {M : ι → Mem} {T : ι → Sl} {φ : Nat → ι → Prop} {k : Nat} (j : Nat) (i : ι) (hj : j < k) (hp : φ j i)
    (h : ∀ w a, Holds m w → Sat n S a → Holds (M i) w ∧ Sat n (T i) a) : IQ ds (Exit.then (Lp ds n M T φ k) Q) .normal n m S :=
  fun w a hm hs => ⟨j, hj, i, hp, (h w a hm hs).1, a, rfl, (h w a hm hs).2⟩
def Jn {ι : Type _} (dsf : ι → List Deferred) (n : Nat) (M : ι → Mem) (T : ι → Sl) (φ : ι → Prop) (a' : Act) (w' : World) : Prop := ∃ i', φ i' ∧ Holds (M i') w' ∧ ∃ a0, a' = { a0 with defers := dsf i' } ∧ Sat n (T i') a0
theorem iw_seq_join {x y : Code} {ι : Type _} {dsf : ι → List Deferred} (M : ι → Mem) (T : ι → Sl) (φ : ι → Prop) (hy : ∀ i, φ i → IW R (dsf i) P y Q n (M i) (T i))
    (hx : IW R ds P x (Exit.then (Jn dsf n M T φ) Q) n m S) : IW R ds P (.seq x y) Q n m S := fun w a hm hs =>
  wpIn_seq (wpIn_mono (hx w a hm hs) (fun e a w q => by
    cases e with
    | normal => obtain ⟨i, hp, h1, a0, ha, h2⟩ := q; subst ha; exact hy i hp w a0 h1 h2
    | exit i => exact q
    | goto i => exact q
    | ret => exact q
    | panic ch => exact q
    | outgrown => exact q))
theorem iq_join {ι : Type _} {dsf : ι → List Deferred} {M : ι → Mem} {T : ι → Sl} {φ : ι → Prop} (i : ι) (hp : φ i) (h : ∀ w a, Holds m w → Sat n S a → Holds (M i) w ∧ Sat n (T i) a) (hd : dsf i = ds := by rfl) :
    IQ ds (Exit.then (Jn dsf n M T φ) Q) .normal n m S := fun w a hm hs => ⟨i, hp, (h w a hm hs).1, a, by rw [hd], (h w a hm hs).2⟩
theorem iw_nilR {c : Code} (e : TypeId) (τ : Ty α) (h : IW R ds P c Q n (m.push (oRow (.slice none 0 0) e τ ([] : List α))) S) : IW R ds P c Q n m S := fun w a hm hs =>
  h w a (hm.push (w' := w) (Below.refl _ _) (by simp [oRow, Value.ownBlock]) (by simp [oRow, Value.ownBlock]) (fun Z _ => nil_own e τ Z w)) hs
theorem iq_nilR {e : Exit} (et : TypeId) (τ : Ty α) (h : IQ ds Q e n (m.push (oRow (.slice none 0 0) et τ ([] : List α))) S) : IQ ds Q e n m S := fun w a hm hs =>
  h w a (hm.push (w' := w) (Below.refl _ _) (by simp [oRow, Value.ownBlock]) (by simp [oRow, Value.ownBlock]) (fun Z _ => nil_own et τ Z w)) hs
def oObj (g : Nat) (o : Obj) : Own where
  blk := [g]
  p _ w := w.heap[g]? = some o
  keep hz h := (hz g (.inr (by simp))).trans h
  mono _ h := h
  lt h := by intro b hb; rw [List.mem_singleton.1 hb]; exact (Array.getElem?_eq_some_iff.1 h).1
theorem obj_push {w : World} (hm : Holds m w) (o : Obj) : Holds (m.push (oObj w.heap.size o)) (w.alloc o) :=
  hm.push ((Below.refl _ _).alloc (Nat.le_refl _) _) (by simp [oObj]) (by simp [oObj]) (fun Z _ => World.alloc_heap_new w o)
theorem obj_at {w : World} (hm : Holds m w) {i g : Nat} {o : Obj} (hi : m.own[i]? = some (oObj g o)) : w.heap[g]? = some o := hm.own _ (List.mem_of_getElem? hi)
theorem obj_upd {w : World} (hm : Holds m w) {i g : Nat} {o : Obj} (o' : Obj) (hi : m.own[i]? = some (oObj g o)) : Holds (m.upd i (oObj g o')) (w.putObj g o') :=
  hm.upd hi ⟨rfl, rfl, rfl, by rw [World.putObj_size]; exact Nat.le_refl _, fun b _ hb => World.putObj_heap_other (by simpa [oObj] using hb)⟩ (by simp [oObj]) (fun b hb => .inl hb)
    (fun Z _ => World.putObj_heap_same (Array.getElem?_eq_some_iff.1 (obj_at hm hi)).1)
def lrec (fn : FuncId) (T : Array Value) (ps : Array Tmp) (assign body : Code) (D : Nat) (st : LoopState) (pe : Option Code) : Obj := .loop { state := st, pending := pe, fn, tmps := T, params := ps, assign, body, defers := D }
def dmark (D : Nat) : Deferred := { target := .collected D, args := #[] }
def dblk : Obj := .deferred (some [])
def ItPost (P : Program) (fnI : Func) (l : Nat) (Q : Exit → Act → World → Prop) (T : Array Value) (ds : List Deferred) : Exit → Act → World → Prop :=
  bodyPost P fnI (rangePost (Fr none) 0 P l Q { tmps := T, defers := ds })
instance {fnI : Func} {l : Nat} {T : Array Value} [h : NoOut Q] : NoOut (ItPost P fnI l Q T ds) := ⟨fun ⟨_, _, hq⟩ => h.no hq⟩
theorem tab_args {n : Nat} {args : List Value} {fnI : Func} (hn : fnI.ntmps = n) (hargs : Nat.ble args.length n = true) : Sat n (tab (argTab 0 args)) { tmps := args.toArray ++ Array.replicate (fnI.ntmps - args.toArray.size) undef, defers := [] } := by
  have hle : args.length ≤ n := by simpa [Nat.ble_eq] using hargs
  refine ⟨rfl, by simp [hn]; omega, ?_⟩
  have key : ∀ (l : List Value) (k : Nat) (t : Nat) (v : Value), tab (argTab k l) t = some v → k ≤ t ∧ l[t - k]? = some v := by
    intro l
    induction l with
    | nil => intro k t v hv; cases hv
    | cons u l ih =>
      intro k t v hv
      rcases put_some hv with ⟨rfl, rfl⟩ | ⟨hne, hv⟩
      · exact ⟨Nat.le_refl _, by simp⟩
      · obtain ⟨h1, h2⟩ := ih (k + 1) t v hv
        refine ⟨by omega, ?_⟩
        rw [show t - k = (t - (k + 1)) + 1 by omega, List.getElem?_cons_succ]
        exact h2
  intro t v hv
  obtain ⟨_, h2⟩ := key args 0 t v hv
  rw [Nat.sub_zero] at h2
  have hlt := (List.getElem?_eq_some_iff.1 h2).1
  simp only [Array.getD_eq_getD_getElem?]
  rw [Array.getElem?_append_left (by simpa using hlt)]
  simp [h2]
theorem iw_range {gf nI : Nat} {fnI : Func} {lb : List Value} {g : Operand} {ps : Array Tmp} {assign body c : Code} (hg : ev S g = some (.func (.func gf) #[] lb.toArray)) (hf : P.funcs[gf]? = some fnI) (hb : fnI.body = some c) (hn : fnI.ntmps = nI)
    (hnm : (fnI.name == "runtime.NumGoroutine") = false) (harg : Nat.ble (lb.length + 1) nI = true)
    (h : ∀ (D l : Nat) (fn : FuncId) (T : Array Value) (rc : LoopState → Option Code → Obj), rc = lrec fn T ps assign body D → Sat n S { tmps := T, defers := [] } →
      IW none [] P c (ItPost P fnI l Q T (dmark D :: ds)) nI ((m.push (oObj D dblk)).push (oObj l (rc .ready none))) (tab (argTab 0 (.func (.yield l) #[] #[] :: lb)))) :
    IW none ds P (.rangeFunc g ps assign body) Q n m S := fun w a hm hs => by
  have ha : a = { tmps := a.tmps, defers := [] } := by have := hs.def_; cases a; simp only at this; rw [this]
  refine wpIn_rangeFunc fun fn _ => ?_
  have h1 := obj_push hm dblk
  have h2 := obj_push h1 (lrec fn a.tmps ps assign body w.heap.size .ready none)
  refine ⟨w.heap.size + 1, [dmark w.heap.size], (w.alloc dblk).alloc (lrec fn a.tmps ps assign body w.heap.size .ready none), { target := .fn (.func gf) lb.toArray, args := #[.func (.yield (w.heap.size + 1)) #[] #[]] }, (w.alloc dblk).alloc (lrec fn a.tmps ps assign body w.heap.size .ready none), gf,
    #[.func (.yield (w.heap.size + 1)) #[] #[]] ++ lb.toArray, (w.alloc dblk).alloc (lrec fn a.tmps ps assign body w.heap.size .ready none), run_enterLoop_outer _ _ _ _ _, ?_, fun _ _ => trivial, ?_, fun h => (by cases h), ?_⟩
  · have : ({ a with defers := ds } : Act).eval g = .func (.func gf) #[] lb.toArray := hs.ev hg
    simp only [resolve, this]
    simp [go_sem]
  · simp [invoke, go_sem, run_enter hf (by rw [hb]; rfl) hnm]
  · refine callsIn_of_wp hf hb trivial ?_ rfl
    have hz : (w.alloc dblk).heap.size = w.heap.size + 1 := World.size_alloc _ _
    have := h w.heap.size (w.heap.size + 1) fn a.tmps _ rfl (by rw [← ha]; exact hs) _ _ (by rw [hz] at h2; exact h2) (tab_args (args := .func (.yield (w.heap.size + 1)) #[] #[] :: lb) hn harg)
    have e : (#[.func (.yield (w.heap.size + 1)) #[] #[]] ++ lb.toArray : Array Value) = (Value.func (.yield (w.heap.size + 1)) #[] #[] :: lb).toArray := by simp
    rw [e]
    exact this
theorem iq_itend {e : Exit} {nI : Nat} {SI : Sl} {fnI : Func} {l D : Nat} {fn : FuncId} {T : Array Value} {ps : Array Tmp} {assign body : Code} {st : LoopState} {rc : LoopState → Option Code → Obj} (i : Nat) (hrc : rc = lrec fn T ps assign body D) (he : e = .ret ∨ e = .normal) (hi : m.own[i]? = some (oObj l (rc st none))) (hst : st ≠ .busy)
    (hr : fnI.results = #[]) (hT : Sat n S { tmps := T, defers := [] }) (h : IQ ds Q .normal n (m.upd i (oObj l (rc .exhausted none))) S) : IQ [] (ItPost P fnI l Q T ds) e nI m SI := fun w a hm hs => by
  subst hrc
  have key : rangePost (Fr none) 0 P l Q { tmps := T, defers := ds } (.returned (.tuple #[])) w := ⟨none, _, run_endLoop (obj_at hm hi) hst, h _ _ (obj_upd hm _ hi) hT⟩
  rcases he with rfl | rfl <;> exact ⟨rfl, _, results_none hr _ _ _, key⟩
def Rr (R : Option Nat) (ds : List Deferred) (P : Program) (ops : Array Oper) (rest : List Oper) (Q : Exit → Act → World → Prop) (aI : Act) (d : Nat) : Ending → World → Prop
  | .returned v, w => wpListIn (Fr R) 0 P ops Q rest (({ aI with defers := ds } : Act).put (some d) v) w
  | _, _ => False
def RdBody (P : Program) (l : Nat) (body : Code) (X : Ending → World → Prop) (a₁ : Act) (w₁ : World) : Prop := ∃ w₂, (Instr.beginRound l).run P w₁ = .ok () w₂ ∧ body.wpIn (Fr (some l)) 0 P (roundPost P l X) a₁ w₂
instance {l : Nat} {X : Ending → World → Prop} : NoOut (roundPost P l X) := ⟨fun ⟨_, _, hq⟩ => hq⟩
def puts (S : Sl) : List Tmp → List Value → Sl
  | p :: ps, v :: vs => puts (put S p v) ps vs
  | _, _ => S
theorem sat_puts {n : Nat} : ∀ (ps : List Tmp) (vs : List Value) (S : Sl) (T : Array Value), (ps.all fun p => Nat.blt p n) = true → Sat n S { tmps := T, defers := [] } →
    Sat n (puts S ps vs) { tmps := (ps.zip vs).foldl (fun t (p, v) => t.setIfInBounds p v) T, defers := [] }
  | [], _, S, T, _, h => h
  | _ :: _, [], S, T, _, h => h
  | p :: ps, v :: vs, S, T, hp, h => by
    rw [List.all_cons, Bool.and_eq_true] at hp
    exact sat_puts ps vs (put S p v) _ hp.2 (h.put (by simpa [Nat.blt_eq] using hp.1) v)
theorem il_yield {o : Oper} {rest : List Oper} {x : Operand} {args : List Operand} {vs : List Value} {tys : Array TypeId} {l D d n0 : Nat} {S0 : Sl} {fn : FuncId} {T : Array Value} {ps : List Tmp} {assign body : Code} {rc : LoopState → Option Code → Obj} (i : Nat) (hrc : rc = lrec fn T ps.toArray assign body D)
    (hi : m.own[i]? = some (oObj l (rc .ready none))) (hT : Sat n0 S0 { tmps := T, defers := [] }) (hx : ev S x = some (.func (.yield l) #[] #[])) (hargs : args.map (ev S) = vs.map some)
    (ho : o.op = .call { callee := .value x, args := args.toArray, argTypes := tys }) (hps : Nat.beq ps.length vs.length = true) (hpn : (ps.all fun p => Nat.blt p n0) = true)
    (h : ∀ aI, Sat n S aI → IW (some l) [] P assign (Exit.then (RdBody P l body (Rr R ds P ops rest Q aI d)) (fun _ _ _ => False)) n0 m (puts S0 ps vs))
    (hdd : o.dst = some d := by rfl) (hd : Nat.blt d n = true := by rfl) (hg : wantS ops S o true = true := by rfl) : IL R ds P ops (o :: rest) Q n m S := fun w a hm hs => by
  subst hrc
  unfold wpListIn
  rw [show ({ a with defers := ds } : Act).tmps = a.tmps from rfl, if_pos (wantS_of hs hg)]
  refine ⟨fun _ _ => trivial, ?_⟩
  have hnd : notDefer o = true := by unfold notDefer; rw [ho]
  rw [show (Fr R).round = R from rfl, semAt_fr R _ o hnd, show ({ a with defers := ds } : Act).eval = a.eval from rfl]
  have hsz : vs.toArray.size = ps.toArray.size := by have := Nat.eq_of_beq_eq_true hps; simp [this]
  have hy := run_yield (P := P) (args := vs.toArray) (obj_at hm hi) hsz
  have hrun : (execOp a.eval o).run P w = .ok (.round l fn ((ps.zip vs).foldl (fun t (p, v) => t.setIfInBounds p v) T) assign body) w := by
    have he : args.toArray.map a.eval = vs.toArray := by rw [← evs hs hargs]; simp
    have hy' : (Instr.yield l vs.toArray).run P w = .ok (.round l fn ((ps.zip vs).foldl (fun t (p, v) => t.setIfInBounds p v) T) assign body) w := by
      rw [hy]; simp
    unfold execOp
    simp only [ho]
    have hx' : a.eval x = .func (.yield l) #[] #[] := hs.ev hx
    simp [resolve, hx', Deferred.ofValue, invoke, he, hy']
  rw [hrun]
  refine ⟨fun h => (by cases h), RoundIn.mono (R := Rr R ds P ops rest Q a d) (roundIn_of_wpIn (F := Fr R) trivial (h a hs w _ hm (sat_puts ps vs S0 T hpn hT))) ?_⟩
  intro e w' he
  cases e with
  | returned v => rw [hdd]; exact he
  | panicked ch => exact he.elim
  | outgrown => exact he.elim
theorem iq_begin {l D : Nat} {fn : FuncId} {T : Array Value} {ps : Array Tmp} {assign b : Code} {X : Ending → World → Prop} {rc : LoopState → Option Code → Obj} (i : Nat) (hrc : rc = lrec fn T ps assign b D) (hi : m.own[i]? = some (oObj l (rc .ready none)))
    (h : IW (some l) [] P b (roundPost P l X) n (m.upd i (oObj l (rc .busy none))) S) : IQ [] (Exit.then (RdBody P l b X) (fun _ _ _ => False)) .normal n m S := fun w a hm hs => by
  subst hrc
  exact ⟨_, run_beginRound (obj_at hm hi) rfl, h _ _ (obj_upd hm _ hi) hs⟩
section
variable {l D nI d : Nat} {SI : Sl} {aI : Act} {rest : List Oper} {fn : FuncId} {T : Array Value} {ps : Array Tmp} {assign body : Code}
theorem iq_rnorm {rc : LoopState → Option Code → Obj} (i : Nat) (hrc : rc = lrec fn T ps assign body D) (hi : m.own[i]? = some (oObj l (rc .busy none))) (hI : Sat nI SI aI) (hd : Nat.blt d nI = true)
    (h : IL R ds P ops rest Q nI (m.upd i (oObj l (rc .ready none))) (put SI d (.bool true))) : IQ [] (roundPost P l (Rr R ds P ops rest Q aI d)) .normal n m S := fun w a hm hs => by
  subst hrc
  exact ⟨_, _, run_endRound none (obj_at hm hi), h _ _ (obj_upd hm _ hi) (hI.put (by simpa [Nat.blt_eq] using hd) _)⟩
end
def FnPostM (P : Program) (fn : Func) (w : World) (Z : Nat → Prop) (oin : List Own) (res : ι → Res) : Exit → Act → World → Prop :=
  bodyPostM (Fr none) 0 P fn fun e w' => ∃ i, e = .returned (res i).val ∧ Bel w.heap.size (oin.flatMap Own.blk) w w' ∧ ((res i).own.flatMap Own.blk).Nodup ∧ (∀ b ∈ (res i).own.flatMap Own.blk, b ∈ oin.flatMap Own.blk ∨ w.heap.size ≤ b) ∧
      ∀ Z' : Nat → Prop, (∀ b, b < w'.heap.size → b ∉ (res i).own.flatMap Own.blk → (b < w.heap.size → Z b) → Z' b) → (∀ o ∈ (res i).own, o.p Z' w') ∧ ∀ g ∈ (res i).fz, g.p Z' w'
instance {fn : Func} {w : World} {Z : Nat → Prop} {oin : List Own} {res : ι → Res} : NoOut (FnPostM P fn w Z oin res) := ⟨fun ⟨_, _, _, hq, _⟩ => by cases hq⟩
theorem fn_enterM {f : FuncId} {fn : Func} {c : Code} {args : List Value} {pre : List Fact} {oin : List Own} {res : ι → Res} (hf : P.funcs[f]? = some fn) (hb : fn.body = some c) (hn : fn.ntmps = n) (hargs : Nat.ble args.length n = true)
    (h : ∀ w Z, IW none [] P c (FnPostM P fn w Z oin res) n (memIn w Z pre oin) (tab (argTab 0 args))) : FnOk P f args pre oin res := fun w Z hZ hnd hX hpre hoin => by
  refine calls_of_fr (callsIn_of_wp_marks hf hb trivial (h w Z w _ ?_ (tab_args hn hargs)) rfl)
  have hz : ∀ b, Z b → (memIn w Z pre oin).frz w b := fun b hb => ⟨hZ b hb, fun hx => (hX b hx).2 hb, fun _ => hb⟩
  exact ⟨Bel.refl _ _ _, rfl, hnd, fun b hb => .inr hb, hX, fun o ho => o.mono hz (hoin o ho), fun g hg => g.mono hz (hpre g hg)⟩
theorem fn_retM {fn : Func} {w0 : World} {Z0 : Nat → Prop} {oin : List Own} {res : ι → Res} {D : Nat} (i : Nat) (hi : m.own[i]? = some (oObj D dblk)) (h : AQ (FnPost P fn w0 Z0 oin res) .ret n (m.upd i (oObj D (.deferred none))) S) :
    IQ [dmark D] (FnPostM P fn w0 Z0 oin res) .ret n m S := fun w a hm hs => by
  obtain ⟨_, v, hr, hR⟩ := h _ a (obj_upd hm _ hi) hs
  exact ⟨by simp, .inl ⟨_, _, rfl, run_takeDeferred (obj_at hm hi), v, hr, hR⟩⟩
theorem fn_ret0 {fn : Func} {w0 : World} {Z0 : Nat → Prop} {oin : List Own} {res : ι → Res} (h : AQ (FnPost P fn w0 Z0 oin res) .ret n m S) : IQ [] (FnPostM P fn w0 Z0 oin res) .ret n m S := fun w a hm hs => by
  obtain ⟨_, v, hr, hR⟩ := h _ a hm hs
  exact ⟨v, hr, hR⟩
end
section
variable {P : Program} {R : Option Nat} {ops : Array Oper} {K : Act → World → Prop} {Q : Exit → Act → World → Prop} {ds : List Deferred}
theorem ops_false (hQ : ∀ e a w, Q e a w → a.defers = []) (hno : ¬ LetsOut Q) : ∀ (l : List Nat) (a : Act) (w : World), a.defers ≠ [] → wpOps P ops Q l a w → False
  | [], a, w, ha, h => ha (hQ _ _ _ h)
  | i :: l, a, w, ha, h => by
    unfold wpOps at h
    split at h
    · exact ops_false hQ hno l _ _ ha h
    · split at h
      · rcases h with h | ⟨_, h⟩
        · exact oper_false hQ hno (ops_false hQ hno l) ha h
        · exact hno h
      · exact ops_false hQ hno l _ _ (by rw [put_def]; exact ha) h
theorem ops_in (hno : ¬ LetsOut Q) (hnd : ∀ (i : Nat) (o : Oper), ops[i]? = some o → notDefer o = true) : ∀ (l : List Nat) (a : Act) (w : World), a.defers = [] → wpOps P ops (Qc ds (Q .normal) Q) l a w → wpOpsIn (Fr R) 0 P ops Q l { a with defers := ds } w
  | [], a, w, ha, h => h.2
  | i :: l, a, w, ha, h => by
    have hno' : ¬ LetsOut (Qc ds (Q .normal) Q) := fun h => hno (letsOut_c h)
    unfold wpOps at h
    unfold wpOpsIn
    rw [show ({ a with defers := ds } : Act).tmps = a.tmps from rfl]
    split at h
    · rename_i ho; simp only [ho]
      exact ops_in hno hnd l a w ha h
    · rename_i o ho
      simp only [ho]
      split at h
      · rename_i hw
        rw [if_pos hw]
        rcases h with h | ⟨_, h⟩
        · exact oper_in (hnd i o ho) ha (ops_false (fun e a w h => h.1) hno' l) (fun a' w' ha' h' => ops_in hno hnd l a' w' ha' h') h
        · exact absurd h hno'
      · rename_i hw
        rw [if_neg hw]
        refine ⟨fun _ _ => trivial, ?_⟩
        rw [put_defers]
        exact ops_in hno hnd l _ _ (by rw [put_def]; exact ha) h
end
theorem any_region_draw {P : Program} {Q : Exit → Act → World → Prop} {n : Nat} {m : Mem} {S : Sl} {l : List Oper} (k : Nat) (L : Spec) (S' : Sl)
    (hB : (decide (k < l.length) && L.length == k && backB l && Region.sinkB .any l.toArray k && Region.chainB .any l.toArray k && Region.seqB .any l.toArray (l.length - k) k (prefixA k l.length)) = true)
    (hD : nodupB (L.map (·.1)) = true) (hn : (L.all fun s => Nat.blt s.1 n) = true) (hS0 : (L.all fun s => (S' s.1).isNone) = true) (hS : ∀ a, Sat n S a → Sat n S' a)
    (hloc : LocFrom P l.toArray n m S' L L l) (htail : TailOk P l.toArray (l.drop k) Q m L n m S') : ∀ w a, Holds m w → Sat n S a → wpAny P .any l.toArray Q l.toArray.size (Array.replicate l.toArray.size false) a { w with drawn := w.drawn + 1 } := fun w a hm0 hs0 => by
  simp only [Bool.and_eq_true, decide_eq_true_eq, beq_iff_eq] at hB
  obtain ⟨⟨⟨⟨⟨hkl, hLk⟩, hback⟩, hsink⟩, hchain⟩, hseq⟩ := hB
  have hD := nodupB_spec hD
  have hop : ∀ i, i < k → ∃ s, L[i]? = some s := fun i hi => ⟨_, List.getElem?_eq_getElem (by omega)⟩
  have main : ∀ (f : Nat) (listed : Array Bool) (a : Act) (w : World), HeadInv .any l.toArray k listed → ((List.range k).filter fun i => !listed.getD i true).length = f → Holds m w → Sat n S' a →
      (∀ j, j < k → listed.getD j false = true → FactAt m L j w a) → wpAny P .any l.toArray Q (f + (l.length - k)) listed a w := by
    intro f
    induction f with
    | zero =>
      intro listed a w inv hf hmw hsa hfacts
      rw [Nat.zero_add]
      have hall : ∀ i, i < k → listed.getD i false = true := fun i hi => by
        have h0 : (List.range k).filter (fun i => !listed.getD i true) = [] := List.eq_nil_of_length_eq_zero hf
        have h1 := List.filter_eq_nil_iff.1 h0 i (List.mem_range.2 hi)
        have hsz : i < listed.size := by rw [inv.size]; simp; omega
        simp [hsz] at h1 ⊢; exact h1
      have hpre := set_prefix (n := l.length) (by omega) (by rw [inv.size]; simp) hall (fun t ht1 ht2 => inv.tail t ht1 (by simpa using ht2))
      have hdl : (l.drop k).length = l.length - k := by simp
      have := wpAny_of_seq (P := P) (md := .any) (Q' := Q) (ops := l.toArray) (l.drop k) k listed a w (fun j => by simp [List.getElem?_drop]) (by rw [hdl, hpre]; exact hseq) (htail w a hmw hmw rfl hsa (fun j => by
        by_cases hj : j < k
        · exact hfacts j hj (hall j hj)
        · unfold FactAt; rw [List.getElem?_eq_none (by omega)]; trivial))
      rwa [hdl] at this
    | succ f ih =>
      intro listed a w inv hf hmw hsa hfacts
      rw [show f + 1 + (l.length - k) = (f + (l.length - k)) + 1 by omega]
      obtain ⟨i0, hi0⟩ : ∃ i, i ∈ (List.range k).filter fun i => !listed.getD i true := by
        cases hq : (List.range k).filter (fun i => !listed.getD i true) with
        | nil => rw [hq] at hf; cases hf
        | cons x _ => exact ⟨x, by simp⟩
      have hi0' := List.mem_filter.1 hi0
      have hi0k : i0 < k := List.mem_range.1 hi0'.1
      have hun0 : listed.getD i0 true = false := by simpa using hi0'.2
      have hlt : ∀ t, k ≤ t → t ∉ Region.ready .any l.toArray listed := tail_waits hsink hchain (by simpa using hkl) inv _ i0 rfl hi0k hun0
      refine ⟨fun hempty => ?_, fun i hi => ?_⟩
      · exfalso
        have key : ∀ q, q < k → listed.getD q true = false → False := by
          intro q
          induction q using Nat.strongRecOn with
          | _ q ihq =>
            intro hq hunq
            obtain ⟨s, hs⟩ := hop q hq
            obtain ⟨o, ho, _, _⟩ := hloc.at hs
            have hready : q ∈ Region.ready .any l.toArray listed := mem_ready.2 ⟨hunq, o, by simpa using ho, fun e he hb => by
              have hlt' := backB_spec hback ho e he hb
              have hsz : e.on < listed.size := by rw [inv.size]; simp; omega
              cases hl : listed.getD e.on false with
              | true => rfl
              | false => exact (ihq e.on hlt' (by omega) (getD_in hsz hl)).elim⟩
            rw [hempty] at hready; cases hready
        exact key i0 hi0k hun0
      · have hik : i < k := by
          rcases Nat.lt_or_ge i k with h | h
          · exact h
          · exact absurd hi (hlt i h)
        obtain ⟨hun, o', ho', hall⟩ := mem_ready.1 hi
        obtain ⟨s, hs⟩ := hop i hik
        obtain ⟨o, ho, hd, hl⟩ := hloc.at hs
        have hoo : o' = o := by have : l.toArray[i]? = some o := by simpa using ho
                                rw [this] at ho'; exact (Option.some.inj ho').symm
        subst hoo
        have hsn : Nat.blt s.1 n = true := List.all_eq_true.1 hn s (List.mem_of_getElem? hs)
        have hs0' : S' s.1 = none := by have := List.all_eq_true.1 hS0 s (List.mem_of_getElem? hs); simpa using this
        have hedge : ∀ j ∈ edgesOf o', FactAt m L j w a := fun j hj => by
          obtain ⟨e, he, rfl⟩ := List.mem_map.1 hj
          have he' := List.mem_filter.1 he
          exact hfacts e.on (by have := backB_spec hback ho e (by simpa using he'.1) he'.2; omega) (hall e (by simpa using he'.1) he'.2)
        have hloci := hl w a hmw hmw rfl hsa hedge
        have hszi : i < listed.size := by rw [inv.size]; simp; omega
        have next : ∀ v w', Below w.heap.size w w' → (s.2 v).p (m.frz w') w' → wpAny P .any l.toArray Q (f + (l.length - k)) (listed.setIfInBounds i true) (a.put o'.dst v) w' := fun v w' hb hv => by
          rw [hd]
          have hsz2 : s.1 < a.tmps.size := by rw [hsa.size]; simpa [Nat.blt_eq] using hsn
          refine ih _ _ _ (inv.set hi hik) ?_ (hmw.ext hb) (hsa.put_none hs0' v) (fun j hj hlj => ?_)
          · have e1 : (List.range k).filter (fun q => !(listed.setIfInBounds i true).getD q true) = ((List.range k).filter fun q => !listed.getD q true).filter (fun q => decide (q ≠ i)) := by
              rw [List.filter_filter]
              apply List.filter_congr
              intro q _
              by_cases hqi : q = i
              · subst hqi; simp [hszi]
              · rw [getD_set_ne true (fun e => hqi e.symm)]; simp [hqi]
            rw [e1]
            have hmem : i ∈ (List.range k).filter fun q => !listed.getD q true := List.mem_filter.2 ⟨List.mem_range.2 hik, by simp [hun]⟩
            have hndp : ((List.range k).filter fun q => !listed.getD q true).Nodup := List.Pairwise.filter _ List.nodup_range
            have h2 := List.Nodup.erase_eq_filter hndp i
            have h3 := List.length_erase_of_mem hmem
            rw [h2] at h3
            have h4 : List.filter (fun q => decide (q ≠ i)) ((List.range k).filter fun q => !listed.getD q true) = List.filter (fun q => q != i) ((List.range k).filter fun q => !listed.getD q true) := by
              apply List.filter_congr; intro q _; by_cases hqi : q = i <;> simp [hqi]
            rw [h4, h3, hf]; rfl
          · unfold FactAt
            by_cases hji : j = i
            · subst hji
              rw [hs]
              show (s.2 ((a.tmps.setIfInBounds s.1 v).getD s.1 undef)).p (m.frz w') w'
              have : (a.tmps.setIfInBounds s.1 v).getD s.1 undef = v := by simp [Array.getD_eq_getD_getElem?, hsz2]
              rw [this]; exact hv
            · rw [getD_set_ne false (fun e => hji e.symm)] at hlj
              have h1 := hfacts j hj hlj
              unfold FactAt at h1
              cases hLj : L[j]? with
              | none => trivial
              | some sj =>
                obtain ⟨dj, Rj⟩ := sj
                rw [hLj] at h1
                simp only at h1 ⊢
                have hne : dj ≠ s.1 := fun e => hji (nodup_idx hD (x := s.1) (by rw [List.getElem?_map, hLj]; simp [e]) (by rw [List.getElem?_map, hs]; rfl))
                have : (a.tmps.setIfInBounds s.1 v).getD dj undef = a.tmps.getD dj undef := by
                  simp only [Array.getD_eq_getD_getElem?]
                  rw [Array.getElem?_setIfInBounds_ne (fun e => hne e.symm)]
                show (Rj ((a.tmps.setIfInBounds s.1 v).getD dj undef)).p (m.frz w') w'
                rw [this]
                exact fact_ext hb h1
        unfold wpOp
        rw [show l.toArray[i]? = some o' by simpa using ho]
        simp only
        split
        · rename_i hw
          rw [if_pos hw] at hloci
          exact .inl (hloci.wp fun v w' h => next v w' h.1 h.2)
        · rename_i hw
          rw [if_neg hw] at hloci
          exact next undef w (Below.refl _ _) hloci
  have inv0 : HeadInv .any l.toArray k (Array.replicate l.toArray.size false) :=
    ⟨by simp, fun j oj _ hl => (by rw [getD_replicate_false] at hl; cases hl), fun t _ ht => getD_in (by simpa using ht) (getD_replicate_false _ _)⟩
  have hdrew : Below w.heap.size w { w with drawn := w.drawn + 1 } := (Below.refl _ _).drew
  have := main k (Array.replicate l.toArray.size false) a { w with drawn := w.drawn + 1 } inv0 (by
      have : (List.range k).filter (fun i => !(Array.replicate l.toArray.size false).getD i true) = List.range k := by
        apply List.filter_eq_self.2
        intro i hi
        have hik := List.mem_range.1 hi
        have : i < l.length := by omega
        simp [this]
      rw [this]; simp) (hm0.ext hdrew) (hS a hs0) (fun j _ hl => by rw [getD_replicate_false] at hl; cases hl)
  rw [show k + (l.length - k) = l.toArray.size by simp; omega] at this
  exact this
section
variable {P : Program} {R : Option Nat} {ds : List Deferred} {Q : Exit → Act → World → Prop} {n : Nat} {m : Mem} {S : Sl}
theorem iw_of_any [hQ : NoOut Q] {id : Nat} {l : List Oper} (hm : P.follows .mixedOrders = true) (hnd : l.all notDefer = true)
    (h : ∀ w a, Holds m w → Sat n S a → wpAny P .any l.toArray (Qc ds (Q .normal) Q) l.toArray.size (Array.replicate l.toArray.size false) a { w with drawn := w.drawn + 1 }) : IW R ds P (.region id l.toArray true) Q n m S := fun w a hmw hs => by
  refine wpIn_region_draw fun t => ?_
  refine ops_in hQ.no (fun i o ho => ?_) _ a _ hs.def_ ?_
  · have : o ∈ l := List.mem_of_getElem? (by simpa using ho)
    exact List.all_eq_true.1 hnd o this
  · simp only [Region.schedule, hm, Bool.true_or, if_true]
    exact wpAny_sound _ t _ a _ (h w a hmw hs)
theorem iw_region_draw [hQ : NoOut Q] {id : Nat} {l : List Oper} (k : Nat) (L : Spec) (S' : Sl) (hm : P.follows .mixedOrders = true)
    (hB : (decide (k < l.length) && L.length == k && backB l && Region.sinkB .any l.toArray k && Region.chainB .any l.toArray k && Region.seqB .any l.toArray (l.length - k) k (prefixA k l.length)) = true)
    (hD : nodupB (L.map (·.1)) = true) (hn : (L.all fun s => Nat.blt s.1 n) = true) (hS0 : (L.all fun s => (S' s.1).isNone) = true) (hS : ∀ a, Sat n S a → Sat n S' a)
    (hloc : LocFrom P l.toArray n m S' L L l) (htail : TailOk P l.toArray (l.drop k) (Qc ds (Q .normal) Q) m L n m S') (hnd : l.all notDefer = true := by rfl) : IW R ds P (.region id l.toArray true) Q n m S :=
  iw_of_any hm hnd (any_region_draw k L S' hB hD hn hS0 hS hloc htail)
end
end Go.Proofs.YtpakblkldklbmaaDoor.En
namespace Go.Proofs.YtpakblkldklbmaaDoor.En
open Go.RowKit
set_option linter.unusedVariables false
set_option linter.unusedSimpArgs false
section
variable {P : Program} {Q : Exit → Act → World → Prop} {n : Nat} {m : Mem} {S : Sl} {ops : Array Oper} {rest : List Oper} {o : Oper} {α : Type}
theorem slice_datM {Z : Nat → Prop} {w : World} {τ : Ty α} {A : Option Addr} {len c l h k : Nat} {xs : List α} (hrep : (tyList τ).rep Z w [.slice A len c] xs) (h1 : l ≤ h) (h2 : h ≤ len) (h3 : h ≤ k) :
    (tyList τ).rep Z w [.slice (if k = l then A else A.map (·.add (l * τ.size))) (h - l) (k - l)] ((xs.take h).drop l) := by
  obtain ⟨A', n', c', he, hn, hc, hm, hr⟩ := hrep
  simp only [List.cons.injEq, Value.slice.injEq, and_true] at he
  obtain ⟨rfl, rfl, rfl⟩ := he
  refine ⟨_, _, _, rfl, by rw [List.length_drop, List.length_take]; omega, by omega, by omega, ?_⟩
  by_cases hz : h - l = 0
  · exact .inl hz
  right
  rcases hr with hr | ⟨ad, cs, rfl, hca, hrl⟩
  · omega
  rw [if_neg (by omega)]
  refine ⟨ad.add (l * τ.size), (cs.take (h * τ.size)).drop (l * τ.size), rfl, (hca.take _).drop _, ?_⟩
  exact (hrl.take h).drop l
theorem of_sliceDM {τ : Ty α} {v : Value} {xs : List α} (i : Nat) {t e : TypeId} {x y z u : Operand} {ky kz ku : IntKind} {l h k : Int} (h0 : 0 ≤ l) (h1 : l ≤ h) (h2 : h ≤ k) (h3 : k ≤ xs.length) (hi : m.fz[i]? = some (fDat (tyList τ) [v] xs)) (hx : ev S x = some v) (hy : ev S y = some (.int ky l)) (hz : ev S z = some (.int kz h)) (hu : ev S u = some (.int ku k)) (ht : P.underlying t = some (.slice e)) (hsz : szOf P e = some τ.size) (ho : o.op = .slice t x (some y) (some z) (some u)) : OpF P o n m S (fun u => fDat (tyList τ) [u] (cutL xs l h)) := fun w a hm hs => by
    have hf := fz_at hm hi
    obtain ⟨A, len, c, he, hl, hc, _⟩ := hf
    have he' : v = .slice A len c := by simpa using he
    subst he'
    refine ⟨_, ?_, slice_datM (l := l.toNat) (h := h.toNat) (k := k.toNat) (fz_at hm hi) (by omega) (by omega) (by omega)⟩
    unfold execOp
    simp only [ho, hs.ev hx, Option.map_some, Option.map_none, hs.ev hy, hs.ev hz, hs.ev hu]
    have hh0 : 0 ≤ h := by omega
    have hk0 : 0 ≤ k := by omega
    have hk1 : k ≤ (c : Int) := by omega
    have hh1 : h ≤ (k.toNat : Int) := by omega
    have hh2 : l ≤ (h.toNat : Int) := by omega
    simp [Instr.sliceAt, Instr.slice, Instr.sliceBounds, Instr.sliceBound, asIntOf, Sem.run_bind, run_underlying ht, h0, hh0, hk0, hk1, run_sizeOf' hsz]
    rw [if_pos (by omega), if_pos (by omega)]
theorem al_sliceDM {d : Nat} {τ : Ty α} {v : Value} {xs : List α} (i : Nat) {t e : TypeId} {x y z u : Operand} {ky kz ku : IntKind} {l h k : Int} (h0 : 0 ≤ l) (h1 : l ≤ h) (h2 : h ≤ k) (h3 : k ≤ xs.length) (hi : m.fz[i]? = some (fDat (tyList τ) [v] xs)) (hx : ev S x = some v) (hy : ev S y = some (.int ky l)) (hz : ev S z = some (.int kz h)) (hu : ev S u = some (.int ku k)) (ht : P.underlying t = some (.slice e)) (hsz : szOf P e = some τ.size) (ho : o.op = .slice t x (some y) (some z) (some u))
    (hh : ∀ u, AL P ops rest Q n (m.add (fDat (tyList τ) [u] (cutL xs l h))) (put S d u)) (hdd : o.dst = some d := by rfl) (hd : Nat.blt d n = true := by rfl) (hg : wantS ops S o true = true := by rfl) : AL P ops (o :: rest) Q n m S :=
  al_fact (R := fun u => fDat (tyList τ) [u] (cutL xs l h)) (of_sliceDM i h0 h1 h2 h3 hi hx hy hz hu ht hsz ho) hh hdd hd hg
end
end Go.Proofs.YtpakblkldklbmaaDoor.En
namespace Go.Proofs
open Go.Shelf
def Tryd.lays105_ren : Go.Shelf.Ren := ⟨fun | 105 => 105 | 212 => 120 | 99 => 22 | 165 => 66 | 166 => 67 | 170 => 121 | 169 => 68 | 263 => 129 | 264 => 130 | 206 => 49 | 240 => 92 | 241 => 93 | 276 => 108 | 277 => 109 | n => n, fun | 9 => 9 | 3 => 3 | 4 => 4 | 20 => 20 | 0 => 0 | 46 => 116 | 109 => 163 | 5 => 5 | 72 => 102 | 76 => 106 | 51 => 169 | 146 => 170 | 53 => 98 | 148 => 172 | 70 => 100 | 37 => 60 | 75 => 105 | 127 => 140 | 164 => 148 | 80 => 108 | n => n, fun | n => n⟩
theorem Tryd.lays105 : Go.Proofs.Lays.n105 Tryd.prog Tryd.lays105_ren := {
  mixed := by kernel_rfl
  f99 := Tryd.func22.trans (congrArg some (by kernel_rfl))
  f105 := Tryd.func105.trans (congrArg some (by kernel_rfl))
  f165 := Tryd.func66.trans (congrArg some (by kernel_rfl))
  f166 := Tryd.func67.trans (congrArg some (by kernel_rfl))
  f169 := Tryd.func68.trans (congrArg some (by kernel_rfl))
  f170 := Tryd.func121.trans (congrArg some (by kernel_rfl))
  f206 := Tryd.func49.trans (congrArg some (by kernel_rfl))
  f212 := Tryd.func120.trans (congrArg some (by kernel_rfl))
  f240 := Tryd.func92.trans (congrArg some (by kernel_rfl))
  f241 := Tryd.func93.trans (congrArg some (by kernel_rfl))
  f263 := Tryd.func129.trans (congrArg some (by kernel_rfl))
  f264 := Tryd.func130.trans (congrArg some (by kernel_rfl))
  f276 := Tryd.func108.trans (congrArg some (by kernel_rfl))
  f277 := Tryd.func109.trans (congrArg some (by kernel_rfl))
  t0 := Tryd.underlying0
  a0 := Tryd.isAgg0
  z0 := Tryd.sizeOf0
  v0 := Tryd.zeroValue0
  t3 := Tryd.underlying3
  a3 := Tryd.isAgg3
  z3 := Tryd.sizeOf3
  v3 := Tryd.zeroValue3
  t4 := Tryd.underlying4
  a4 := Tryd.isAgg4
  z4 := Tryd.sizeOf4
  v4 := Tryd.zeroValue4
  t5 := Tryd.underlying5
  a5 := Tryd.isAgg5
  z5 := Tryd.sizeOf5
  v5 := Tryd.zeroValue5
  t9 := Tryd.underlying9
  a9 := Tryd.isAgg9
  z9 := Tryd.sizeOf9
  v9 := Tryd.zeroValue9
  t20 := Tryd.underlying20
  a20 := Tryd.isAgg20
  z20 := Tryd.sizeOf20
  v20 := Tryd.zeroValue20
  t37 := Tryd.underlying60
  a37 := Tryd.isAgg60
  z37 := Tryd.sizeOf60
  v37 := Tryd.zeroValue60
  t46 := Tryd.underlying116
  a46 := Tryd.isAgg116
  z46 := Tryd.sizeOf116
  v46 := Tryd.zeroValue116
  t51 := Tryd.underlying169
  a51 := Tryd.isAgg169
  z51 := Tryd.sizeOf169
  v51 := Tryd.zeroValue169
  t53 := Tryd.underlying98
  a53 := Tryd.isAgg98
  z53 := Tryd.sizeOf98
  v53 := Tryd.zeroValue98
  t70 := Tryd.underlying100
  a70 := Tryd.isAgg100
  z70 := Tryd.sizeOf100
  v70 := Tryd.zeroValue100
  t72 := Tryd.underlying102
  a72 := Tryd.isAgg102
  z72 := Tryd.sizeOf102
  v72 := Tryd.zeroValue102
  t75 := Tryd.underlying105
  a75 := Tryd.isAgg105
  z75 := Tryd.sizeOf105
  v75 := Tryd.zeroValue105
  t76 := Tryd.underlying106
  a76 := Tryd.isAgg106
  z76 := Tryd.sizeOf106
  v76 := Tryd.zeroValue106
  t109 := Tryd.underlying163
  a109 := Tryd.isAgg163
  z109 := Tryd.sizeOf163
  v109 := Tryd.zeroValue163
  t127 := Tryd.underlying140
  a127 := Tryd.isAgg140
  z127 := Tryd.sizeOf140
  v127 := Tryd.zeroValue140
  t146 := Tryd.underlying170
  a146 := Tryd.isAgg170
  z146 := Tryd.sizeOf170
  v146 := Tryd.zeroValue170
  t148 := Tryd.underlying172
  a148 := Tryd.isAgg172
  z148 := Tryd.sizeOf172
  v148 := Tryd.zeroValue172
  t164 := Tryd.underlying148
  a164 := Tryd.isAgg148
  z164 := Tryd.sizeOf148
  v164 := Tryd.zeroValue148 }
theorem Tryd.Builder_Extra_105 : Builder.Extra Tryd.prog Tryd.lays105_ren := {
  sizeBuilder := by kernel_rfl
  liesBuilder := by kernel_rfl
  t5 := Tryd.underlying5
  a5 := Tryd.isAgg5
  z5 := Tryd.sizeOf5
  v5 := Tryd.zeroValue5
  infoByte := by kernel_rfl
  cellsByte := by kernel_rfl
  sizeByte := by kernel_rfl
  neB5 := by decide }
open Go.RowKit Go.Lib in
theorem Tryd.strings_Repeat (s : ByteArray) (c : Nat) (w : World) (hc : c ≤ 9223372036854775807) (hlen : s.size * c ≤ 140737488355328) :
    Calls Tryd.prog 105 #[.string s, .int .i64 c] w fun e w' => e = .returned (.string ⟨(Lib.repeatL s.data.toList c).toArray⟩) ∧ Below w.heap.size w w' := Any.strings_Repeat Tryd.lays105 Tryd.Builder_Extra_105 s c w hc hlen
end Go.Proofs
namespace Go.Proofs
open Go.Shelf
def Tryd.lays156_ren : Go.Shelf.Ren := ⟨fun | 156 => 34 | 165 => 66 | 166 => 67 | 169 => 68 | 240 => 92 | 241 => 93 | 276 => 108 | 277 => 109 | n => n, fun | 31 => 22 | 9 => 9 | 3 => 3 | 4 => 4 | 0 => 0 | 20 => 20 | 72 => 102 | 76 => 106 | 70 => 100 | 37 => 60 | 75 => 105 | 127 => 140 | 164 => 148 | 5 => 5 | 80 => 108 | n => n, fun | n => n⟩
theorem Tryd.lays156 : Go.Proofs.Lays.n156 Tryd.prog Tryd.lays156_ren := {
  mixed := by kernel_rfl
  f156 := Tryd.func34.trans (congrArg some (by kernel_rfl))
  f165 := Tryd.func66.trans (congrArg some (by kernel_rfl))
  f166 := Tryd.func67.trans (congrArg some (by kernel_rfl))
  f169 := Tryd.func68.trans (congrArg some (by kernel_rfl))
  f240 := Tryd.func92.trans (congrArg some (by kernel_rfl))
  f241 := Tryd.func93.trans (congrArg some (by kernel_rfl))
  f276 := Tryd.func108.trans (congrArg some (by kernel_rfl))
  f277 := Tryd.func109.trans (congrArg some (by kernel_rfl))
  t0 := Tryd.underlying0
  a0 := Tryd.isAgg0
  z0 := Tryd.sizeOf0
  v0 := Tryd.zeroValue0
  t3 := Tryd.underlying3
  a3 := Tryd.isAgg3
  z3 := Tryd.sizeOf3
  v3 := Tryd.zeroValue3
  t4 := Tryd.underlying4
  a4 := Tryd.isAgg4
  z4 := Tryd.sizeOf4
  v4 := Tryd.zeroValue4
  t9 := Tryd.underlying9
  a9 := Tryd.isAgg9
  z9 := Tryd.sizeOf9
  v9 := Tryd.zeroValue9
  t20 := Tryd.underlying20
  a20 := Tryd.isAgg20
  z20 := Tryd.sizeOf20
  v20 := Tryd.zeroValue20
  t31 := Tryd.underlying22
  a31 := Tryd.isAgg22
  z31 := Tryd.sizeOf22
  v31 := Tryd.zeroValue22
  t37 := Tryd.underlying60
  a37 := Tryd.isAgg60
  z37 := Tryd.sizeOf60
  v37 := Tryd.zeroValue60
  t70 := Tryd.underlying100
  a70 := Tryd.isAgg100
  z70 := Tryd.sizeOf100
  v70 := Tryd.zeroValue100
  t72 := Tryd.underlying102
  a72 := Tryd.isAgg102
  z72 := Tryd.sizeOf102
  v72 := Tryd.zeroValue102
  t75 := Tryd.underlying105
  a75 := Tryd.isAgg105
  z75 := Tryd.sizeOf105
  v75 := Tryd.zeroValue105
  t76 := Tryd.underlying106
  a76 := Tryd.isAgg106
  z76 := Tryd.sizeOf106
  v76 := Tryd.zeroValue106
  t127 := Tryd.underlying140
  a127 := Tryd.isAgg140
  z127 := Tryd.sizeOf140
  v127 := Tryd.zeroValue140
  t164 := Tryd.underlying148
  a164 := Tryd.isAgg148
  z164 := Tryd.sizeOf148
  v164 := Tryd.zeroValue148 }
theorem Tryd.Builder_Extra_156 : Builder.Extra Tryd.prog Tryd.lays156_ren := {
  sizeBuilder := by kernel_rfl
  liesBuilder := by kernel_rfl
  t5 := Tryd.underlying5
  a5 := Tryd.isAgg5
  z5 := Tryd.sizeOf5
  v5 := Tryd.zeroValue5
  infoByte := by kernel_rfl
  cellsByte := by kernel_rfl
  sizeByte := by kernel_rfl
  neB5 := by decide }
open Go.RowKit in
theorem Tryd.strings_Join_none (a : Option Addr) (c : Nat) (sep : ByteArray) (w : World) :
    Calls Tryd.prog 34 #[.slice a 0 c, .string sep] w fun e w' => e = .returned (.string ⟨#[]⟩) ∧ w' = w := Any.strings_Join_none Tryd.lays156 Tryd.Builder_Extra_156 a c sep w
open Go.RowKit in
theorem Tryd.strings_Join (bk o c : Nat) (xs : List ByteArray) (sep : ByteArray) (w : World) (hcells : ∀ (j : Nat) x, xs[j]? = some x → w.cell? ⟨bk, o + j, none⟩ = some (.string x)) (hbk : bk < w.heap.size) (hN : xs.length ≤ 140737488355328) (hcap : xs.length ≤ c) (hlen : (Lib.join (xs.map (·.data.toList)) sep.data.toList).length ≤ 140737488355328) :
    Calls Tryd.prog 34 #[.slice (some ⟨bk, o, none⟩) xs.length c, .string sep] w fun e w' => e = .returned (.string ⟨(Lib.join (xs.map (·.data.toList)) sep.data.toList).toArray⟩) ∧ Below w.heap.size w w' := Any.strings_Join Tryd.lays156 Tryd.Builder_Extra_156 bk o c xs sep w hcells hbk hN hcap hlen
end Go.Proofs
namespace Go.Proofs.YtpakblkldklbmaaDoor
open Go.RowKit YtpakblkldklbmaaDoor.En
set_option linter.unusedVariables false
set_option linter.unusedSimpArgs false
def f_strings_Join (fu : Nat) (a0 : List (List UInt8)) (a1 : List UInt8) : Option (List UInt8) := req (a0.length ≤ 140737488355328 ∧ (Lib.join a0 a1).length ≤ 140737488355328) (some (Lib.join a0 a1))
theorem f_strings_Join_ok (fu : Nat) (v0_0 : Value) (a0 : List (List UInt8)) (a1 : List UInt8) {r : List UInt8} (h : f_strings_Join fu a0 a1 = some r) : FnOk Tryd.prog 34 [v0_0, (str a1)] [(fDat (tyList tyStr) [v0_0] a0)] [] (fun (i : Unit) => { val := (str r) }) := by
  unfold f_strings_Join at h
  obtain ⟨hc, h⟩ := req_some h
  obtain rfl := Option.some.inj h
  refine fnok_pre fun w Z hg => ?_
  obtain ⟨A, k, cap, he, hk, hcap, _, hr⟩ := hg _ (.head _)
  have he' : v0_0 = .slice A k cap := by simpa using he
  subst he'
  by_cases h0 : a0 = []
  · subst h0
    have hk0 : k = 0 := by simpa using hk
    subst hk0
    exact (Tryd.strings_Join_none A cap ⟨a1.toArray⟩ w).mono fun e w' h9 => ⟨by rw [h9.1]; rfl, by rw [h9.2]; exact Below.refl _ _⟩
  · have hpos := List.length_pos_iff.2 h0
    rcases hr with hr | ⟨ad, cs, rfl, hcells, hrep⟩
    · omega
    have hcs : cs = a0.map str := by
      have : ∀ (l : List (List UInt8)) (cs : List Value), RepL tyStr Z w cs l → cs = l.map str := by
        intro l
        induction l with
        | nil => intro cs h; exact h
        | cons x l ih =>
          intro cs h
          obtain ⟨c1, c2, rfl, q1, q2⟩ := h
          rw [ih c2 q2, show c1 = [str x] from q1]; rfl
      exact this a0 cs hrep
    subst hcs
    have hxs : (a0.map fun l : List UInt8 => (⟨l.toArray⟩ : ByteArray)).map (·.data.toList) = a0 := by simp [List.map_map, Function.comp_def]
    obtain ⟨bk, o, sp⟩ := ad
    obtain ⟨x0, xs0, hx0⟩ : ∃ x0 xs0, a0 = x0 :: xs0 := by
      cases a0 with
      | nil => exact absurd rfl h0
      | cons x t => exact ⟨x, t, rfl⟩
    have hfirst : w.cell? ⟨bk, o, sp⟩ = some (str x0) := by
      have := hcells.2 0 (str x0) (by rw [hx0]; rfl)
      exact this
    have hsp : sp = none := by
      cases sp with
      | none => rfl
      | some q =>
        unfold World.cell? at hfirst
        dsimp only at hfirst
        split at hfirst
        · rw [if_pos (by rfl)] at hfirst; cases hfirst
        · cases hfirst
    subst hsp
    have hbk : bk < w.heap.size := by
      rcases Nat.lt_or_ge bk w.heap.size with h9 | h9
      · exact h9
      · simp [World.cell?, Array.getElem?_eq_none h9] at hfirst
    have hj := Tryd.strings_Join bk o cap (a0.map fun l : List UInt8 => (⟨l.toArray⟩ : ByteArray)) ⟨a1.toArray⟩ w (fun j x hx => by
      rw [List.getElem?_map] at hx
      obtain ⟨l, hl, rfl⟩ := Option.map_eq_some_iff.1 hx
      have := hcells.2 j (str l) (by rw [List.getElem?_map, hl]; rfl)
      rw [add_plain] at this
      exact this) hbk (by rw [List.length_map]; exact hc.1) (by rw [List.length_map]; omega) (by rw [hxs]; exact hc.2)
    rw [List.length_map, hxs, ← hk] at hj
    exact hj.mono fun e w' h9 => ⟨h9.1, h9.2⟩
end Go.Proofs.YtpakblkldklbmaaDoor
namespace Go.Proofs.YtpakblkldklbmaaDoor.En
open Go.RowKit Go.ChangeShapes Go.WideShapes Go.Deep
set_option linter.unusedVariables false
set_option linter.unusedSimpArgs false
theorem bulk_pos {H : Type} : ∀ d : DataW H, 1 ≤ Rows.uptoBulk d := by
  intro d
  cases d with
  | lit l => cases l <;> simp [Rows.uptoBulk]
  | nil => simp [Rows.uptoBulk]
  | ptr d => simp [Rows.uptoBulk]
  | slice a b => simp [Rows.uptoBulk]
  | agg a => simp [Rows.uptoBulk]
  | iface a d => simp [Rows.uptoBulk]
  | map e => simp [Rows.uptoBulk]
  | held h => simp [Rows.uptoBulk]
theorem bulk_part {H : Type} {d : DataW H} : ∀ {l : List (DataW H)}, d ∈ l → Rows.uptoBulk d ≤ Rows.uptoBulkAll l
  | [], h => by cases h
  | x :: r, h => by
    simp only [Rows.uptoBulkAll]
    rcases List.mem_cons.1 h with e | e
    · subst e; omega
    · have := bulk_part e; omega
theorem bulk_len {H : Type} : ∀ l : List (DataW H), l.length ≤ Rows.uptoBulkAll l
  | [] => by simp
  | x :: r => by
    simp only [Rows.uptoBulkAll, List.length_cons]
    have h1 := bulk_len r
    have h2 := bulk_pos x
    omega
section
variable {H : Type} {P : Program} {α β : Type}
def Opb (H : Type) (P : Program) (t : TypeId) (τ : Ty α) (ok : Nat → α → Prop) : Prop := ∀ (enc : TypeId × Value → H) (w : World) (base : Nat) (spare : Nat → Bool) (held : Bool) (n : Nat) (cs : List Value) (y : DataW H × List MemPlace), DataW.trod enc P w base spare held n t cs = some y → ∃ x, (∀ N, Rows.uptoBulk y.1 ≤ N → ok N x) ∧ τ.rep (Full w) w cs x
theorem opb_of {t : TypeId} {τ : Ty α} {ok : α → Prop} (h : Opn H P t τ ok) : Opb H P t τ (fun _ => ok) := fun enc w base spare held n cs y hy => by
  obtain ⟨x, h1, h2⟩ := h enc w base spare held n cs y hy
  exact ⟨x, fun _ _ => h1, h2⟩
theorem opb_str {t : TypeId} (hu : P.underlying t = some .string) : Opb H P t tyStr (fun N x => x.length ≤ 9223372036854775807 ∧ x.length ≤ N) := fun enc w base spare held n cs y h => by
  obtain ⟨x, hx, hy, hs⟩ := DataW.trod_string hu h
  refine ⟨x.data.toList, fun N hN => ⟨?_, ?_⟩, ?_⟩
  · unfold maxLen at hs; simpa using hs
  · rw [hy] at hN
    simp only [Rows.uptoBulk] at hN
    omega
  · show cs = [str x.data.toList]
    rw [hx]; simp [str]
def okB (ok : Nat → α → Prop) (N : Nat) (xs : List α) : Prop := xs.length ≤ N ∧ ∀ x ∈ xs, ok N x
theorem opb_list {t e : TypeId} {τ : Ty α} {ok : Nat → α → Prop} (hu : P.underlying t = some (.slice e)) (hsz : szOf P e = some τ.size) (hpos : Nat.blt 0 τ.size = true) (he : Opb H P e τ ok) : Opb H P t (tyList τ) (okB ok) := fun enc w base spare held n cs y h => by
  have hce : P.cellsOf e = τ.size := by
    unfold szOf at hsz; unfold Program.cellsOf; rw [hsz]; rfl
  rcases open_slice hu h with ⟨hcs, _⟩ | ⟨a, len, cap, m, n', D, Pl, hcs, hb, hle, hm, hmm, hy, hx⟩
  · exact ⟨[], fun N _ => ⟨by simp, by simp⟩, none, 0, 0, hcs, rfl, Nat.le_refl _, Nat.zero_le _, .inl rfl⟩
  · have hmn : len ≤ m := by rw [hmm]; split <;> omega
    obtain ⟨L, hL, hp⟩ := exists_list (γ := List Value × α) (p := fun i p => w.cells? base (a.add (i * P.cellsOf e)) (P.cellsOf e) = some p.1 ∧ (∀ N, Rows.uptoBulk (D i) ≤ N → ok N p.2) ∧ τ.rep (Full w) w p.1 p.2) len (fun i hi => by
      obtain ⟨cs', h1, h2⟩ := hx i (by omega)
      obtain ⟨x, hok, hr⟩ := he enc w base spare held _ cs' _ h2
      exact ⟨(cs', x), h1, hok, hr⟩)
    have hlen : (L.map (·.2)).length = len := by simp [hL]
    have hall : ∀ i, i < len → Rows.uptoBulk (D i) ≤ Rows.uptoBulk y.1 := fun i hi => by
      rw [hy]
      have := bulk_part (d := D i) (l := (List.range len).map D) (List.mem_map.2 ⟨i, List.mem_range.2 hi, rfl⟩)
      simp only [Rows.uptoBulk]
      omega
    have hlb : len ≤ Rows.uptoBulk y.1 := by
      rw [hy]
      have := bulk_len ((List.range len).map D)
      simp only [Rows.uptoBulk, List.length_map, List.length_range] at this ⊢
      omega
    refine ⟨L.map (·.2), fun N hN => ⟨by rw [hlen]; omega, fun x hx => ?_⟩, some a, len, cap, hcs, hlen.symm, hle, Nat.le_trans hle hm, ?_⟩
    · obtain ⟨p, hpm, rfl⟩ := List.mem_map.1 hx
      obtain ⟨i, hi⟩ := List.getElem?_of_mem hpm
      have hil : i < len := by rw [← hL]; exact (List.getElem?_eq_some_iff.1 hi).1
      exact (hp i p hi).2.1 N (Nat.le_trans (hall i hil) hN)
    · by_cases h0 : len = 0
      · exact .inl h0
      right
      have hchunk : ∀ c ∈ L.map (·.1), c.length = τ.size := fun c hc => by
        obtain ⟨p, hpm, rfl⟩ := List.mem_map.1 hc
        obtain ⟨i, hi⟩ := List.getElem?_of_mem hpm
        exact τ.len (hp i p hi).2.2
      refine ⟨a, (L.map (·.1)).flatten, rfl, ⟨?_, fun j u hj => ?_⟩, RepL.mk' _ _ (by simp) (fun i c x h1 h2 => ?_)⟩
      · obtain ⟨p, hpi⟩ : ∃ p, L[0]? = some p := ⟨L[0], List.getElem?_eq_getElem (by omega)⟩
        obtain ⟨_, hl2, hat⟩ := World.cells?_some (hp 0 p hpi).1
        have hpos' : 0 < τ.size := by simpa [Nat.blt_eq] using hpos
        have hc := hat 0 (by rw [hce]; exact hpos')
        have hlt : 0 < p.1.length := by rw [hl2, hce]; exact hpos'
        rw [List.getElem?_eq_getElem hlt] at hc
        have := World.block_lt_of_cell? w _ hc
        rw [add_block, add_block] at this
        exact this
      · -- the cell j lies in the chunk j / size
        have key : ∀ (CS : List (List Value)) (i0 : Nat), (∀ c ∈ CS, c.length = τ.size) → (∀ i c, CS[i]? = some c → ∀ r, r < τ.size → w.cell? ((a.add ((i0 + i) * τ.size)).add r) = c[r]?) → ∀ j u, CS.flatten[j]? = some u → w.cell? (a.add (i0 * τ.size + j)) = some u := by
          intro CS
          induction CS with
          | nil => intro i0 _ _ j u hj; simp at hj
          | cons c CS ih =>
            intro i0 hc hcell j u hj
            rw [List.flatten_cons] at hj
            have hcl := hc c (by simp)
            by_cases hjc : j < τ.size
            · rw [List.getElem?_append_left (by omega)] at hj
              have := hcell 0 c rfl j hjc
              rw [add_add, Nat.add_zero, hj] at this
              exact this
            · rw [List.getElem?_append_right (by omega), hcl] at hj
              have := ih (i0 + 1) (fun c' hc' => hc c' (by simp [hc'])) (fun i c' hi r hr => by
                have := hcell (i + 1) c' (by simpa using hi) r hr
                rw [show i0 + 1 + i = i0 + (i + 1) by omega]; exact this) (j - τ.size) u hj
              rw [Nat.succ_mul] at this
              rw [show i0 * τ.size + j = i0 * τ.size + τ.size + (j - τ.size) by omega]
              exact this
        have := key (L.map (·.1)) 0 hchunk (fun i c hi r hr => by
          rw [List.getElem?_map] at hi
          obtain ⟨p, hpi, rfl⟩ := Option.map_eq_some_iff.1 hi
          obtain ⟨_, _, hat⟩ := World.cells?_some (hp i p hpi).1
          rw [hce] at hat
          rw [Nat.zero_add]
          exact hat r hr) j u hj
        rw [Nat.zero_mul, Nat.zero_add] at this
        exact this
      · rw [List.getElem?_map] at h1 h2
        obtain ⟨p, hpi, rfl⟩ := Option.map_eq_some_iff.1 h1
        obtain ⟨q, hqi, rfl⟩ := Option.map_eq_some_iff.1 h2
        rw [hpi] at hqi
        cases hqi
        exact (hp i p hpi).2.2
def FieldsOpb (H : Type) (P : Program) (fs : List (Nat × TypeId)) (off : Nat) (τ : Ty α) (ok : Nat → α → Prop) : Prop := ∀ (enc : TypeId × Value → H) (w : World) (base : Nat) (spare : Nat → Bool) (held : Bool) (n : Nat) (cs : List Value) (B : Nat),
  (∀ f ∈ fs, ∃ y : DataW H × List MemPlace, Rows.uptoBulk y.1 ≤ B ∧ DataW.trod enc P w base spare held n f.2 ((cs.drop f.1).take (P.cellsOf f.2)) = some y) → ∃ x, (∀ N, B ≤ N → ok N x) ∧ τ.rep (Full w) w ((cs.drop off).take τ.size) x
theorem fieldsb_one {t : TypeId} {off : Nat} {τ : Ty α} {ok : Nat → α → Prop} (hsz : szOf P t = some τ.size) (h : Opb H P t τ ok) : FieldsOpb H P [(off, t)] off τ ok := fun enc w base spare held n cs B hf => by
  obtain ⟨y, hyb, hy⟩ := hf (off, t) (by simp)
  have hce : P.cellsOf t = τ.size := by unfold szOf at hsz; unfold Program.cellsOf; rw [hsz]; rfl
  rw [hce] at hy
  obtain ⟨x, h1, h2⟩ := h enc w base spare held n _ y hy
  exact ⟨x, fun N hN => h1 N (Nat.le_trans hyb hN), h2⟩
theorem fieldsb_cons {t : TypeId} {off : Nat} {τ : Ty α} {υ : Ty β} {ok : Nat → α → Prop} {okb : Nat → β → Prop} {fs : List (Nat × TypeId)} (hsz : szOf P t = some τ.size) (h : Opb H P t τ ok) (hr : FieldsOpb H P fs (off + τ.size) υ okb) : FieldsOpb H P ((off, t) :: fs) off (tyPair τ υ) (fun N x => ok N x.1 ∧ okb N x.2) := fun enc w base spare held n cs B hf => by
  obtain ⟨y, hyb, hy⟩ := hf (off, t) (by simp)
  have hce : P.cellsOf t = τ.size := by unfold szOf at hsz; unfold Program.cellsOf; rw [hsz]; rfl
  rw [hce] at hy
  obtain ⟨x, h1, h2⟩ := h enc w base spare held n _ y hy
  obtain ⟨z, h3, h4⟩ := hr enc w base spare held n cs B (fun f hff => hf f (by simp [hff]))
  refine ⟨(x, z), fun N hN => ⟨h1 N (Nat.le_trans hyb hN), h3 N hN⟩, _, _, ?_, h2, h4⟩
  rw [show (tyPair τ υ).size = τ.size + υ.size from rfl, List.take_add, List.drop_drop]
theorem opb_struct {t : TypeId} {fs : Array Field} {υ : Ty β} {ok : Nat → β → Prop} (f : α → β) (g : β → α) (hfg : ∀ y, f (g y) = y) (hu : P.underlying t = some (.struct fs)) (hsz : szOf P t = some υ.size) (hr : FieldsOpb H P (fs.toList.map fun f => (f.offset, f.type)) 0 υ ok) : Opb H P t (tyVia f υ) (fun N x => ok N (f x)) := fun enc w base spare held n cs y h => by
  obtain ⟨xs, m, _, hy, hcl, hxl, hf⟩ := DataW.trod_struct hu h
  have hce : P.cellsOf t = υ.size := by unfold szOf at hsz; unfold Program.cellsOf; rw [hsz]; rfl
  have hpart : ∀ q ∈ xs, Rows.uptoBulk q.1 ≤ Rows.uptoBulk y.1 := fun q hq => by
    rw [hy]
    have := bulk_part (d := q.1) (l := xs.map (·.1)) (List.mem_map.2 ⟨q, hq, rfl⟩)
    simp only [Rows.uptoBulk]
    omega
  obtain ⟨z, h1, h2⟩ := hr enc w base spare held m cs (Rows.uptoBulk y.1) (fun p hp => by
    obtain ⟨fl, hfl, rfl⟩ := List.mem_map.1 hp
    obtain ⟨i, hi⟩ := List.getElem?_of_mem hfl
    have hi' : fs[i]? = some fl := by simpa using hi
    have hlt : i < xs.length := by rw [hxl]; exact (Array.getElem?_eq_some_iff.1 hi').1
    exact ⟨xs[i], hpart _ (List.getElem_mem hlt), (hf i fl hi').trans (List.getElem?_eq_getElem hlt)⟩)
  refine ⟨g z, (fun N hN => by show ok N (f (g z)); rw [hfg]; exact h1 N hN), ?_⟩
  show υ.rep _ _ cs (f (g z))
  rw [hfg]
  rw [List.drop_zero, List.take_of_length_le (by rw [hcl, hce]; exact Nat.le_refl _)] at h2
  exact h2
variable {w : World} {base : Nat} {spare : Nat → Bool} {held : Bool} {enc : TypeId × Value → H} {v : Value} {d : DataW H} {ps : List MemPlace} {r : Reach} {b0 : Nat} {t : TypeId}
theorem par_sliceB {e : TypeId} {τ : Ty α} {ok : Nat → List α → Prop} (ht : P.underlying t = some (.slice e)) (ho : Opb H P t (tyList τ) ok) (hval : Value.okWide P w r b0 t v) (hd : DataW.Trod enc P w base spare held t v d ps) : ∃ xs, (∀ N, Rows.uptoBulk d ≤ N → ok N xs) ∧ (tyList τ).rep (Full w) w [v] xs := by
  obtain ⟨A, l, c, rfl⟩ := okWide_slice ht hval
  obtain ⟨fuel, hf⟩ := hd
  exact ho enc w base spare held fuel _ _ hf
end
end Go.Proofs.YtpakblkldklbmaaDoor.En
