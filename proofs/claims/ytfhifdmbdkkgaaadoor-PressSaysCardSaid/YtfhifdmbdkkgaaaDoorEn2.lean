/- An engine for walks: the state of a call and the rules of one operation. No condition. -/
import Derived.Test.YtfhifdmbdkkgaaaDoorEn1
namespace Go.Proofs.YtfhifdmbdkkgaaaDoor.En
open Go.RowKit
set_option linter.unusedVariables false
set_option linter.unusedSimpArgs false
/-! ### slots -/
abbrev Sl := Nat → Option Value
def put (S : Sl) (d : Nat) (v : Value) : Sl := fun t => bif Nat.beq t d then some v else S t
def putO (S : Sl) (d : Option Nat) (v : Value) : Sl := match d with | some d => put S d v | none => S
/-- forgotten: what the slots from a to b held, but for those of l -/
def Sl.nil : Sl := fun _ => none
def ev (S : Sl) : Operand → Option Value
  | .tmp t => S t
  | .const v => some v
  | .global g => some (.pointer (some ⟨g, 0, none⟩))
  | .func f => some (.func (.func f) #[] #[])
structure Sat (n : Nat) (S : Sl) (a : Act) : Prop where
  def_ : a.defers = []
  size : a.tmps.size = n
  val : ∀ t v, S t = some v → a.tmps.getD t undef = v
section
variable {n : Nat} {S S' : Sl} {a : Act}
theorem Sat.ev (h : Sat n S a) {x : Operand} {v : Value} (hx : ev S x = some v) : a.eval x = v := by
  cases x with
  | tmp t => exact h.val t v hx
  | const u => exact Option.some.inj hx
  | global g => exact Option.some.inj hx
  | func f => exact Option.some.inj hx
theorem put_some {d t : Nat} {v u : Value} (h : put S d v t = some u) : (t = d ∧ u = v) ∨ (t ≠ d ∧ S t = some u) := by
  unfold put at h
  cases hb : Nat.beq t d with
  | true => rw [hb] at h; exact .inl ⟨Nat.eq_of_beq_eq_true hb, (Option.some.inj h).symm⟩
  | false => rw [hb] at h; exact .inr ⟨Nat.ne_of_beq_eq_false hb, h⟩
theorem Sat.put (h : Sat n S a) {d : Nat} (hd : d < n) (v : Value) : Sat n (put S d v) (a.put (some d) v) := by
  refine ⟨h.def_, by simp [Act.put, h.size], fun t u hu => ?_⟩
  have hsz := h.size
  rcases put_some hu with ⟨rfl, rfl⟩ | ⟨hne, hu⟩
  · simp [Act.put, Array.getD, hsz, hd]
  · have h0 := h.val t u hu
    have he : (a.tmps.setIfInBounds d v).getD t undef = a.tmps.getD t undef := by
      simp only [Array.getD_eq_getD_getElem?]
      rw [Array.getElem?_setIfInBounds_ne (fun e => hne e.symm)]
    exact he.trans h0
theorem Sat.putO (h : Sat n S a) {d : Option Nat} (hd : d.all (· < n) = true) (v : Value) : Sat n (putO S d v) (a.put d v) := by
  cases d with
  | none => exact h
  | some d => exact h.put (by simpa using hd) v
theorem Sat.put' (h : Sat n S a) {od : Option Nat} {d : Nat} (hdd : od = some d) (hd : Nat.blt d n = true) (v : Value) : Sat n (En.put S d v) (a.put od v) := by subst hdd; exact h.put (by simpa [Nat.blt_eq] using hd) v
theorem Sat.weak (h : Sat n S a) (hs : ∀ t v, S' t = some v → S t = some v) : Sat n S' a := ⟨h.def_, h.size, fun t v hv => h.val t v (hs t v hv)⟩
end
/-- a table of slots -/
def tab : List (Nat × Value) → Sl
  | [] => fun _ => none
  | (d, v) :: l => put (tab l) d v
theorem Sat.tab {n : Nat} {S : Sl} {a : Act} (h : Sat n S a) : ∀ (l : List (Nat × Value)), (∀ p ∈ l, S p.1 = some p.2) → Sat n (tab l) a
  | [], _ => h.weak (fun t v hv => by cases hv)
  | (d, v) :: l, hl => by
    have h1 := Sat.tab h l (fun p hp => hl p (by simp [hp]))
    refine ⟨h.def_, h.size, fun t u hu => ?_⟩
    rcases put_some hu with ⟨rfl, rfl⟩ | ⟨_, hu⟩
    · exact h.val _ _ (hl (t, u) (by simp))
    · exact h1.val t u hu
def allT (S : Sl) : List (Nat × Value) → Prop
  | [] => True
  | (d, v) :: l => S d = some v ∧ allT S l
theorem allT_mem {S : Sl} : ∀ {l : List (Nat × Value)}, allT S l → ∀ p ∈ l, S p.1 = some p.2
  | [], _, p, hp => by simp at hp
  | (d, v) :: l, h, p, hp => by
    rcases List.mem_cons.1 hp with rfl | hp
    · exact h.1
    · exact allT_mem h.2 p hp
/-! ### judgements -/
def AW (P : Program) (c : Code) (Q : Exit → Act → World → Prop) (n : Nat) (m : Mem) (S : Sl) : Prop := ∀ w a, Holds m w → Sat n S a → c.wp P Q a w
def AL (P : Program) (ops : Array Oper) (l : List Oper) (Q : Exit → Act → World → Prop) (n : Nat) (m : Mem) (S : Sl) : Prop := ∀ w a, Holds m w → Sat n S a → wpList P ops Q l a w
def AQ (Q : Exit → Act → World → Prop) (e : Exit) (n : Nat) (m : Mem) (S : Sl) : Prop := ∀ w a, Holds m w → Sat n S a → Q e a w
section
variable {P : Program} {Q : Exit → Act → World → Prop} {n : Nat} {m m' : Mem} {S S' : Sl}
theorem aw_seq {x y : Code} (h : AW P x (Exit.then (y.wp P Q) Q) n m S) : AW P (.seq x y) Q n m S := fun w a hm hs => wp_seq (h w a hm hs)
theorem aq_then {y : Code} (h : AW P y Q n m S) : AQ (Exit.then (y.wp P Q) Q) .normal n m S := h
theorem aq_then_ret {K : Act → World → Prop} (h : AQ Q .ret n m S) : AQ (Exit.then K Q) .ret n m S := h
theorem aq_then_exit {K : Act → World → Prop} {i : Nat} (h : AQ Q (.exit i) n m S) : AQ (Exit.then K Q) (.exit i) n m S := h
theorem aw_block {id : Nat} {c : Code} (h : AW P c (Exit.inBlock id Q) n m S) : AW P (.block id c) Q n m S := fun w a hm hs => wp_block (h w a hm hs)
theorem aq_block {id : Nat} (h : AQ Q .normal n m S) : AQ (Exit.inBlock id Q) .normal n m S := h
theorem aq_block_ret {id : Nat} (h : AQ Q .ret n m S) : AQ (Exit.inBlock id Q) .ret n m S := h
theorem aq_block_exit {id : Nat} (h : AQ Q .normal n m S) : AQ (Exit.inBlock id Q) (.exit id) n m S := fun w a hm hs => by
  show if id = id then _ else _
  rw [if_pos rfl]; exact h w a hm hs
theorem aq_block_other {id i : Nat} (hi : Nat.beq i id = false) (h : AQ Q (.exit i) n m S) : AQ (Exit.inBlock id Q) (.exit i) n m S := fun w a hm hs => by
  show if i = id then _ else _
  rw [if_neg (Nat.ne_of_beq_eq_false hi)]; exact h w a hm hs
theorem aw_skip (h : AQ Q .normal n m S) : AW P .skip Q n m S := fun w a hm hs => wp_skip (h w a hm hs)
theorem aw_exit {i : Nat} (h : AQ Q (.exit i) n m S) : AW P (.exit i) Q n m S := fun w a hm hs => wp_exit (h w a hm hs)
theorem aw_label {i : Nat} (h : AQ Q .normal n m S) : AW P (.label i) Q n m S := fun w a hm hs => wp_label (h w a hm hs)
theorem aw_ret (h : AQ Q .ret n m S) : AW P .ret Q n m S := fun w a hm hs => wp_ret (h w a hm hs)
theorem aw_cond {c : Operand} {x y : Code} {b : Bool} (hc : ev S c = some (.bool b)) (ht : b = true → AW P x Q n m S) (hf : b = false → AW P y Q n m S) : AW P (.cond c x y) Q n m S :=
  fun w a hm hs => wp_cond_split (hs.ev hc) (fun e => ht e w a hm hs) (fun e => hf e w a hm hs)
theorem aw_cond_t {c : Operand} {x y : Code} (hc : ev S c = some (.bool true)) (h : AW P x Q n m S) : AW P (.cond c x y) Q n m S :=
  fun w a hm hs => wp_cond_true (hs.ev hc) (h w a hm hs)
theorem aw_cond_f {c : Operand} {x y : Code} (hc : ev S c = some (.bool false)) (h : AW P y Q n m S) : AW P (.cond c x y) Q n m S :=
  fun w a hm hs => wp_cond_false (hs.ev hc) (h w a hm hs)
theorem aw_region {id : Nat} {l : List Oper} (h : AL P l.toArray l Q n m S) : AW P (.region id l.toArray false) Q n m S := fun w a hm hs => wp_region_lit (h w a hm hs)
theorem al_nil {ops : Array Oper} (h : AQ Q .normal n m S) : AL P ops [] Q n m S := fun w a hm hs => wpList_nil (h w a hm hs)
/-! loops, by a number of rounds -/
theorem least {p : Nat → Prop} (h : ∃ k, p k) : ∃ k, p k ∧ ∀ j, p j → k ≤ j := by
  obtain ⟨k, hk⟩ := h
  induction k using Nat.strongRecOn with
  | _ k ih =>
    by_cases hj : ∃ j, j < k ∧ p j
    · obtain ⟨j, hlt, hp⟩ := hj; exact ih j hlt hp
    · exact ⟨k, hk, fun j hp => Nat.le_of_not_lt fun hlt => hj ⟨j, hlt, hp⟩⟩
theorem wp_loop_fuel {c : Code} (J : Nat → Act → World → Prop) (round : ∀ k a w, J k a w → c.wp P (Exit.then (fun a' w' => ∃ j, j < k ∧ J j a' w') Q) a w) {k : Nat} {a : Act} {w : World} (h : J k a w) : (Code.loop c).wp P Q a w := by
  classical
  let μ : Act → World → Nat := fun a w => if h : ∃ k, J k a w then Classical.choose (least h) else 0
  refine wp_loop (fun a w => ∃ k, J k a w) μ ⟨k, h⟩ (fun a w hI => ?_)
  have hk := (Classical.choose_spec (least hI)).1
  refine Code.wp_mono (fun e a' w' q => ?_) (round _ a w hk)
  cases e with
  | normal =>
    obtain ⟨j, hj, hJ⟩ := q
    refine ⟨⟨j, hJ⟩, ?_⟩
    have hex : ∃ k, J k a' w' := ⟨j, hJ⟩
    have h1 : μ a' w' ≤ j := by
      show (if h : ∃ k, J k a' w' then Classical.choose (least h) else 0) ≤ j
      rw [dif_pos hex]; exact (Classical.choose_spec (least hex)).2 j hJ
    have h2 : μ a w = Classical.choose (least hI) := dif_pos hI
    omega
  | exit i => exact q
  | goto i => exact q
  | ret => exact q
  | panic ch => exact q
  | outgrown => exact q
/-- a loop: 'φ k i' says that k rounds are enough from the state i -/
theorem aw_loop {c : Code} {ι : Type _} (M : ι → Mem) (T : ι → Sl) (φ : Nat → ι → Prop)
    (round : ∀ k i, φ k i → AW P c (Exit.then (fun a' w' => ∃ j, j < k ∧ ∃ i', φ j i' ∧ Holds (M i') w' ∧ Sat n (T i') a') Q) n (M i) (T i)) (k : Nat) (i : ι) (h : φ k i) : AW P (.loop c) Q n (M i) (T i) :=
  fun w a hm hs => wp_loop_fuel (fun k a w => ∃ i, φ k i ∧ Holds (M i) w ∧ Sat n (T i) a)
    (fun k a w ⟨i, hp, hm, hs⟩ => round k i hp w a hm hs) ⟨i, h, hm, hs⟩
theorem aq_again {ι : Type _} {M : ι → Mem} {T : ι → Sl} {φ : Nat → ι → Prop} {k : Nat} (j : Nat) (i : ι) (hj : j < k) (hp : φ j i)
    (h : ∀ w a, Holds m w → Sat n S a → Holds (M i) w ∧ Sat n (T i) a) : AQ (Exit.then (fun a' w' => ∃ j, j < k ∧ ∃ i', φ j i' ∧ Holds (M i') w' ∧ Sat n (T i') a') Q) .normal n m S :=
  fun w a hm hs => ⟨j, hj, i, hp, h w a hm hs⟩
/-! changes of what is said of the state -/
theorem aw_state {c : Code} (h : AW P c Q n m' S') (hh : ∀ w a, Holds m w → Sat n S a → Holds m' w ∧ Sat n S' a) : AW P c Q n m S := fun w a hm hs => h w a (hh w a hm hs).1 (hh w a hm hs).2
theorem aq_state {e : Exit} (h : AQ Q e n m' S') (hh : ∀ w a, Holds m w → Sat n S a → Holds m' w ∧ Sat n S' a) : AQ Q e n m S := fun w a hm hs => h w a (hh w a hm hs).1 (hh w a hm hs).2
/-- pick of facts and owned things by their places -/
def picks {β : Type _} (l : List β) (is : List Nat) : List β := is.filterMap fun i => l[i]?
theorem picks_sub {β : Type _} {l : List β} {is : List Nat} {x : β} (h : x ∈ picks l is) : x ∈ l := by
  obtain ⟨i, _, hi⟩ := List.mem_filterMap.1 h
  exact List.mem_of_getElem? hi
theorem nodup_flat {l : List Own} (hl : (l.flatMap Own.blk).Nodup) {i j : Nat} {o o' : Own} (hi : l[i]? = some o) (hj : l[j]? = some o') (hne : i ≠ j) : ∀ b ∈ o.blk, b ∉ o'.blk := by
  induction l generalizing i j with
  | nil => simp at hi
  | cons x l ih =>
    rw [List.flatMap_cons, List.nodup_append] at hl
    cases i with
    | zero =>
      cases j with
      | zero => exact absurd rfl hne
      | succ j =>
        simp only [List.getElem?_cons_zero, Option.some.injEq] at hi
        subst hi
        rw [List.getElem?_cons_succ] at hj
        exact fun b hb hb' => hl.2.2 b hb b (List.mem_flatMap.2 ⟨o', List.mem_of_getElem? hj, hb'⟩) rfl
    | succ i =>
      rw [List.getElem?_cons_succ] at hi
      cases j with
      | zero =>
        simp only [List.getElem?_cons_zero, Option.some.injEq] at hj
        subst hj
        exact fun b hb hb' => hl.2.2 b hb' b (List.mem_flatMap.2 ⟨o, List.mem_of_getElem? hi, hb⟩) rfl
      | succ j =>
        rw [List.getElem?_cons_succ] at hj
        exact ih hl.2.1 hi hj (by omega)
theorem nodup_at {l : List Own} (hl : (l.flatMap Own.blk).Nodup) {o : Own} (ho : o ∈ l) : o.blk.Nodup := by
  induction l with
  | nil => simp at ho
  | cons x l ih =>
    rw [List.flatMap_cons, List.nodup_append] at hl
    rcases List.mem_cons.1 ho with rfl | ho
    · exact hl.1
    · exact ih hl.2.1 ho
theorem picks_nodup {l : List Own} (hl : (l.flatMap Own.blk).Nodup) : ∀ {is : List Nat}, is.Nodup → ((picks l is).flatMap Own.blk).Nodup
  | [], _ => by simp [picks]
  | i :: is, h => by
    have h2 := picks_nodup hl (List.nodup_cons.1 h).2
    unfold picks at h2 ⊢
    rw [List.filterMap_cons]
    cases hi : l[i]? with
    | none => exact h2
    | some o =>
      show ((o :: _).flatMap Own.blk).Nodup
      rw [List.flatMap_cons, List.nodup_append]
      refine ⟨nodup_at hl (List.mem_of_getElem? hi), h2, fun b hb c hc e => ?_⟩
      subst e
      obtain ⟨o', ho', hb'⟩ := List.mem_flatMap.1 hc
      obtain ⟨j, hj, ho'⟩ := List.mem_filterMap.1 ho'
      exact nodup_flat hl hi ho' (fun e => (List.nodup_cons.1 h).1 (e ▸ hj)) b hb hb'
theorem Holds.pick {w : World} (h : Holds m w) (io iz : List Nat) (hio : io.Nodup) : Holds { m with own := picks m.own io, fz := picks m.fz iz } w :=
  (h.reown (picks m.own io) (fun o ho => picks_sub ho) (picks_nodup h.nd hio)).refz _ (fun f hf => picks_sub hf)
/-- the end of a stretch: the state is brought into the form that is asked for -/
theorem norm {w : World} {a : Act} (h : Holds m w) (hs : Sat n S a) (io iz : List Nat) (l : List (Nat × Value)) (hio : io.Nodup) (hl : allT S l) :
    Holds { m with own := picks m.own io, fz := picks m.fz iz } w ∧ Sat n (tab l) a := ⟨h.pick io iz hio, hs.tab l (allT_mem hl)⟩
/-- a fact is taken apart -/
theorem aw_use {c : Code} {ι : Sort _} {f : Fact} (i : Nat) (hi : m.fz[i]? = some f) (φ : ι → Prop) (fs : ι → List Fact) (hf : ∀ Z w, f.p Z w → ∃ j, φ j ∧ ∀ g ∈ fs j, g.p Z w)
    (h : ∀ j, φ j → AW P c Q n (m.adds (fs j)) S) : AW P c Q n m S := fun w a hm hs => by
  obtain ⟨j, hj, hg⟩ := hf _ _ (hm.fz f (List.mem_of_getElem? hi))
  exact h j hj w a (hm.adds hg) hs
theorem al_use {ops : Array Oper} {l : List Oper} {ι : Sort _} {f : Fact} (i : Nat) (hi : m.fz[i]? = some f) (φ : ι → Prop) (fs : ι → List Fact) (hf : ∀ Z w, f.p Z w → ∃ j, φ j ∧ ∀ g ∈ fs j, g.p Z w)
    (h : ∀ j, φ j → AL P ops l Q n (m.adds (fs j)) S) : AL P ops l Q n m S := fun w a hm hs => by
  obtain ⟨j, hj, hg⟩ := hf _ _ (hm.fz f (List.mem_of_getElem? hi))
  exact h j hj w a (hm.adds hg) hs
end
/-! ### one operation -/
def wantS (ops : Array Oper) (S : Sl) (o : Oper) (want : Bool) : Bool :=
  match o.guard with
  | none => want
  | some (j, y) => match (ops[j]?).bind (·.dst) with
    | some t => match S t with
      | some (.bool b) => (b == y) == want
      | some _ => !want
      | none => false
    | none => false
section
variable {P : Program} {Q : Exit → Act → World → Prop} {n : Nat} {m m' : Mem} {S S' : Sl} {ops : Array Oper} {rest : List Oper} {o : Oper}
theorem getD_tmps {a : Act} {t : Nat} {b : Bool} (h : a.tmps.getD t undef = .bool b) : a.tmps[t]? = some (.bool b) := by
  unfold Array.getD at h
  split at h
  · rename_i hlt
    rw [Array.getElem?_eq_getElem hlt]
    exact congrArg some h
  · cases h
theorem wantS_of {a : Act} (hs : Sat n S a) {want : Bool} (h : wantS ops S o want = true) : Region.wanted o (yielded ops a.tmps) = want := by
  unfold wantS at h
  unfold Region.wanted
  cases hg : o.guard with
  | none => rw [hg] at h; exact h.symm
  | some p =>
    obtain ⟨j, y⟩ := p
    rw [hg] at h
    simp only at h ⊢
    cases hd : (ops[j]?).bind (·.dst) with
    | none => rw [hd] at h; cases h
    | some t =>
      rw [hd] at h
      simp only at h
      cases hv : S t with
      | none => rw [hv] at h; cases h
      | some v =>
        rw [hv] at h
        cases v with
        | bool b =>
          simp only at h
          have := getD_tmps (hs.val t _ hv)
          unfold yielded
          rw [hd]
          simp only [Option.bind_some, this]
          have h2 : (b == y) = want := by simpa using h
          rw [← h2]
          cases b <;> cases y <;> rfl
        | _ =>
          have hw : want = false := by simpa using h
          subst hw
          have hsv := hs.val t _ hv
          unfold yielded
          rw [hd]
          simp only [Option.bind_some]
          unfold Array.getD at hsv
          split at hsv
          · rename_i hlt
            have h9 : a.tmps[t]? = some (a.tmps[t]) := Array.getElem?_eq_getElem hlt
            rw [h9]
            have h8 : a.tmps[t] = _ := hsv
            rw [h8]; rfl
          · rename_i hlt
            rw [Array.getElem?_eq_none (by omega)]; rfl
theorem al_skip {d : Nat} (h : AL P ops rest Q n m (put S d undef)) (hdd : o.dst = some d := by rfl) (hd : Nat.blt d n = true := by rfl) (hg : wantS ops S o false = true := by rfl) : AL P ops (o :: rest) Q n m S := fun w a hm hs => by
  refine wpList_step fun K hK => ?_
  rw [wantS_of hs hg]
  exact hK _ _ (h w _ hm (hs.put' hdd hd _))
theorem al_step (hg : wantS ops S o true = true) (hst : ∀ w a, Holds m w → Sat n S a → ∀ K : Act → World → Prop, (∀ a w, wpList P ops Q rest a w → K a w) → o.wp P a w K Q) : AL P ops (o :: rest) Q n m S := fun w a hm hs => by
  refine wpList_step fun K hK => ?_
  rw [wantS_of hs hg]
  exact hst w a hm hs K hK
/-- the operation yields this value -/
def OpV (P : Program) (o : Oper) (n : Nat) (m : Mem) (S : Sl) (v : Value) : Prop := ∀ w a, Holds m w → Sat n S a → (execOp a.eval o).run P w = .ok (.value v) w
theorem al_val {d : Nat} {v : Value} (hv : OpV P o n m S v) (h : AL P ops rest Q n m (put S d v)) (hdd : o.dst = some d := by rfl) (hd : Nat.blt d n = true := by rfl) (hg : wantS ops S o true = true := by rfl) : AL P ops (o :: rest) Q n m S :=
  al_step hg fun w a hm hs K hK => by
    unfold Oper.wp
    rw [hv w a hm hs, Oper.upon_value]
    exact hK _ _ (h w _ hm (hs.put' hdd hd _))
def OpF (P : Program) (o : Oper) (n : Nat) (m : Mem) (S : Sl) (R : Value → Fact) : Prop := ∀ w a, Holds m w → Sat n S a → ∃ v, (execOp a.eval o).run P w = .ok (.value v) w ∧ (R v).p (m.frz w) w
/-- the operation yields a value of which this is known -/
theorem al_fact {d : Nat} {R : Value → Fact} (hv : ∀ w a, Holds m w → Sat n S a → ∃ v, (execOp a.eval o).run P w = .ok (.value v) w ∧ (R v).p (m.frz w) w)
    (h : ∀ v, AL P ops rest Q n (m.add (R v)) (put S d v)) (hdd : o.dst = some d := by rfl) (hd : Nat.blt d n = true := by rfl) (hg : wantS ops S o true = true := by rfl) : AL P ops (o :: rest) Q n m S :=
  al_step hg fun w a hm hs K hK => by
    unfold Oper.wp
    obtain ⟨v, hr, hf⟩ := hv w a hm hs
    rw [hr, Oper.upon_value]
    exact hK _ _ (h v w _ (hm.add hf) (hs.put' hdd hd _))
end
section
variable {P : Program} {n : Nat} {m : Mem} {S : Sl} {o : Oper}
theorem ov_move {x : Operand} {v : Value} (ho : o.op = .move x) (hx : ev S x = some v) : OpV P o n m S v := fun w a _ hs => by
  unfold execOp; simp [ho, hs.ev hx]
theorem ov_assign {x : Operand} {v : Value} (ho : o.op = .assign x) (hx : ev S x = some v) : OpV P o n m S v := fun w a _ hs => by
  unfold execOp; simp [ho, hs.ev hx]
theorem ov_pick {c x y : Operand} {b : Bool} {v u : Value} (ho : o.op = .pick c x y) (hc : ev S c = some (.bool b)) (hx : b = true → ev S x = some v) (hy : b = false → ev S y = some v) : OpV P o n m S v := fun w a _ hs => by
  unfold execOp
  simp only [ho, hs.ev hc, asBool, Sem.run_bind, Sem.run_pure, Result.andThen_ok]
  cases b with
  | true => rw [if_pos rfl, hs.ev (hx rfl)]
  | false => rw [if_neg (by simp), hs.ev (hy rfl)]
theorem ov_pick_t {c x y : Operand} {v : Value} (ho : o.op = .pick c x y) (hc : ev S c = some (.bool true)) (hx : ev S x = some v) : OpV P o n m S v := ov_pick (u := v) ho hc (fun _ => hx) (fun e => by cases e)
theorem ov_pick_f {c x y : Operand} {v : Value} (ho : o.op = .pick c x y) (hc : ev S c = some (.bool false)) (hy : ev S y = some v) : OpV P o n m S v := ov_pick (u := v) ho hc (fun e => by cases e) (fun _ => hy)
theorem ov_extract {x : Operand} {i : Nat} {vs : Array Value} {v : Value} (ho : o.op = .extract x i) (hx : ev S x = some (.tuple vs)) (hv : vs[i]? = some v) : OpV P o n m S v := fun w a _ hs => by
  unfold execOp
  simp [ho, hs.ev hx, Instr.extract, hv]
theorem ov_makeFunc {fn : Fn} {first captured : Array Operand} {v : Value} (ho : o.op = .makeFunc fn first captured) (hv : ∀ a, Sat n S a → Value.func fn (first.map a.eval) (captured.map a.eval) = v) : OpV P o n m S v := fun w a _ hs => by
  unfold execOp
  simp [ho, Instr.makeFunc, hv a hs]
/-! integers -/
def intRes : BinOp → IntKind → Int → Int → Option Value
  | .add, k, a, b => some (.int k (k.wrap (a + b)))
  | .sub, k, a, b => some (.int k (k.wrap (a - b)))
  | .mul, k, a, b => some (.int k (k.wrap (a * b)))
  | .eql, _, a, b => some (.bool (a == b))
  | .neq, _, a, b => some (.bool (a != b))
  | .lss, _, a, b => some (.bool (decide (a < b)))
  | .leq, _, a, b => some (.bool (decide (a ≤ b)))
  | .gtr, _, a, b => some (.bool (decide (a > b)))
  | .geq, _, a, b => some (.bool (decide (a ≥ b)))
  | .and, k, a, b => some (.int k (bits .and k a b))
  | .or, k, a, b => some (.int k (bits .or k a b))
  | .xor, k, a, b => some (.int k (bits .xor k a b))
  | .andNot, k, a, b => some (.int k (bits .andNot k a b))
  | _, _, _, _ => none
theorem ov_int {op : BinOp} {xt yt : TypeId} {x y : Operand} {k : IntKind} {p q : Int} {v : Value} (ho : o.op = .binOp op xt x y yt) (hx : ev S x = some (.int k p)) (hy : ev S y = some (.int k q)) (hv : intRes op k p q = some v) : OpV P o n m S v := fun w a _ hs => by
  unfold execOp
  simp only [ho, hs.ev hx, hs.ev hy]
  cases op <;> simp only [intRes, Option.some.injEq, reduceCtorEq] at hv <;> subst hv <;>
    simp [eqGuard, binOp, Op.intArith, Op.intCmp, Op.intBits, bits]
theorem ov_quo {xt yt : TypeId} {x y : Operand} {k : IntKind} {p q : Int} (hq : q ≠ 0) (ho : o.op = .binOp .quo xt x y yt) (hx : ev S x = some (.int k p)) (hy : ev S y = some (.int k q)) : OpV P o n m S (.int k (k.wrap (p.tdiv q))) := fun w a _ hs => by
  unfold execOp
  simp only [ho, hs.ev hx, hs.ev hy]
  simp [eqGuard, binOp, Op.intDiv, hq]
theorem ov_rem {xt yt : TypeId} {x y : Operand} {k : IntKind} {p q : Int} (hq : q ≠ 0) (ho : o.op = .binOp .rem xt x y yt) (hx : ev S x = some (.int k p)) (hy : ev S y = some (.int k q)) : OpV P o n m S (.int k (p.tmod q)) := fun w a _ hs => by
  unfold execOp
  simp only [ho, hs.ev hx, hs.ev hy]
  simp [eqGuard, binOp, Op.intDiv, hq]
theorem ov_shl {xt yt : TypeId} {x y : Operand} {k yk : IntKind} {p q : Int} (hq : 0 ≤ q) (ho : o.op = .binOp .shl xt x y yt) (hx : ev S x = some (.int k p)) (hy : ev S y = some (.int yk q)) : OpV P o n m S (.int k (k.wrap (p * 2 ^ min q.toNat k.bits))) := fun w a _ hs => by
  unfold execOp
  simp only [ho, hs.ev hx, hs.ev hy]
  simp [eqGuard, binOp, Op.shift, Int.not_lt.2 hq]
theorem ov_shr {xt yt : TypeId} {x y : Operand} {k yk : IntKind} {p q : Int} (hq : 0 ≤ q) (ho : o.op = .binOp .shr xt x y yt) (hx : ev S x = some (.int k p)) (hy : ev S y = some (.int yk q)) : OpV P o n m S (.int k (p.fdiv (2 ^ min q.toNat k.bits))) := fun w a _ hs => by
  unfold execOp
  simp only [ho, hs.ev hx, hs.ev hy]
  simp [eqGuard, binOp, Op.shift, Int.not_lt.2 hq]
theorem ov_neg {xt : TypeId} {x : Operand} {k : IntKind} {p : Int} (ho : o.op = .unOp .neg xt x) (hx : ev S x = some (.int k p)) : OpV P o n m S (.int k (k.wrap (0 - p))) := fun w a _ hs => by
  unfold execOp
  simp only [ho, hs.ev hx]
  simp [Op.unary, Op.intArith]
theorem ov_compl {xt : TypeId} {x : Operand} {k : IntKind} {p : Int} (ho : o.op = .unOp .xor xt x) (hx : ev S x = some (.int k p)) : OpV P o n m S (.int k (bits .xor k (if k.signed then -1 else k.max) p)) := fun w a _ hs => by
  unfold execOp
  simp only [ho, hs.ev hx]
  simp [Op.unary, Op.intBits, bits]
theorem ov_not {xt : TypeId} {x : Operand} {b : Bool} (ho : o.op = .unOp .not xt x) (hx : ev S x = some (.bool b)) : OpV P o n m S (.bool (!b)) := fun w a _ hs => by
  unfold execOp
  simp only [ho, hs.ev hx]
  simp [Op.unary]
theorem ov_boolEq {xt yt : TypeId} {x y : Operand} {p q : Bool} (ht : P.underlying xt = some .bool) (ho : o.op = .binOp .eql xt x y yt) (hx : ev S x = some (.bool p)) (hy : ev S y = some (.bool q)) : OpV P o n m S (.bool (p == q)) := fun w a _ hs => by
  unfold execOp
  simp only [ho, hs.ev hx, hs.ev hy]
  simp [eqGuard, binOp, run_equal_bool (P := P) w xt p q ht]
theorem ov_boolNe {xt yt : TypeId} {x y : Operand} {p q : Bool} (ht : P.underlying xt = some .bool) (ho : o.op = .binOp .neq xt x y yt) (hx : ev S x = some (.bool p)) (hy : ev S y = some (.bool q)) : OpV P o n m S (.bool (p != q)) := fun w a _ hs => by
  unfold execOp
  simp only [ho, hs.ev hx, hs.ev hy]
  simp [eqGuard, binOp, run_equal_bool (P := P) w xt p q ht, bne]
theorem ov_convInt {s d : TypeId} {x : Operand} {k k' : IntKind} {p : Int} (hss : (P.underlying s).isSome = true) (ht : P.underlying d = some (.int k')) (ho : o.op = .convert s d x) (hx : ev S x = some (.int k p)) : OpV P o n m S (.int k' (k'.wrap p)) := fun w a _ hs => by
  obtain ⟨ds, hds⟩ := Option.isSome_iff_exists.1 hss
  unfold execOp
  simp only [ho, hs.ev hx]
  simp [convert, Sem.run_bind, run_underlying hds, run_underlying ht, Conv.intToInt]
/-! strings -/
theorem size_str (l : List UInt8) : (⟨l.toArray⟩ : ByteArray).size = l.length := by show l.toArray.size = _; simp
theorem toList_str (l : List UInt8) : (⟨l.toArray⟩ : ByteArray).toList = l := by simp
theorem ov_strAdd {xt yt : TypeId} {x y : Operand} {p q : List UInt8} (hl : p.length + q.length ≤ 9223372036854775807) (ho : o.op = .binOp .add xt x y yt) (hx : ev S x = some (str p)) (hy : ev S y = some (str q)) : OpV P o n m S (str (p ++ q)) := fun w a _ hs => by
  unfold execOp
  simp only [ho, hs.ev hx, hs.ev hy]
  have h1 := run_string_add_sum (P := P) (w := w) ⟨p.toArray⟩ ⟨q.toArray⟩ (by simpa [ByteArray.size] using hl)
  have h2 : (⟨p.toArray⟩ ++ ⟨q.toArray⟩ : ByteArray) = ⟨(p ++ q).toArray⟩ := by
    apply ByteArray.ext; simp
  rw [h2] at h1
  simp [eqGuard, binOp, str, h1]
def strRes : BinOp → List UInt8 → List UInt8 → Option Value
  | .eql, p, q => some (.bool (p == q))
  | .neq, p, q => some (.bool (!(p == q)))
  | .lss, p, q => some (.bool (Op.bytesLess p q))
  | .leq, p, q => some (.bool (Op.bytesLess p q || p == q))
  | .gtr, p, q => some (.bool (!(Op.bytesLess p q || p == q)))
  | .geq, p, q => some (.bool (!Op.bytesLess p q))
  | _, _, _ => none
theorem ov_strCmp {op : BinOp} {xt yt : TypeId} {x y : Operand} {p q : List UInt8} {v : Value} (ho : o.op = .binOp op xt x y yt) (hx : ev S x = some (str p)) (hy : ev S y = some (str q)) (hv : strRes op p q = some v) : OpV P o n m S v := fun w a _ hs => by
  unfold execOp
  simp only [ho, hs.ev hx, hs.ev hy]
  cases op <;> simp only [strRes, Option.some.injEq, reduceCtorEq] at hv <;> subst hv <;>
    simp [eqGuard, binOp, str, Op.stringOp]
theorem ov_strLen {t : TypeId} {x : Operand} {p : List UInt8} (ht : P.underlying t = some .string) (ho : o.op = .call { callee := .builtin .len, args := #[x], argTypes := #[t] }) (hx : ev S x = some (str p)) : OpV P o n m S (.int .i64 p.length) := fun w a _ hs => by
  unfold execOp
  simp [ho, resolve, invoke, builtin, hs.ev hx, Builtin.len_, run_underlying ht, str, goInt, size_str]
def bAt (s : List UInt8) (i : Int) : Int := ((s.getD i.toNat 0).toNat : Int)
theorem ov_strIdx {t : TypeId} {x i : Operand} {p : List UInt8} {k : IntKind} {j : Int} (h0 : 0 ≤ j) (h1 : j < p.length) (ht : P.underlying t = some .string) (ho : o.op = .index t x i) (hx : ev S x = some (str p)) (hi : ev S i = some (.int k j)) : OpV P o n m S (.int .u8 (bAt p j)) := fun w a _ hs => by
  have hj : j.toNat < p.length := by omega
  have h2 : (⟨p.toArray⟩ : ByteArray)[j.toNat]? = some p[j.toNat] := by
    rw [getElem?_pos _ _ (by simpa [ByteArray.size] using hj)]; rfl
  unfold execOp
  simp only [ho, hs.ev hx, hs.ev hi]
  simp [Instr.index, asIntOf, run_underlying ht, str, h0, h2, bAt, List.getD_eq_getElem?_getD, List.getElem?_eq_getElem hj]
def cut (s : List UInt8) (l h : Int) : List UInt8 := (s.take h.toNat).drop l.toNat
theorem extract_str (p : List UInt8) (l h : Nat) : (⟨p.toArray⟩ : ByteArray).extract l h = ⟨((p.take h).drop l).toArray⟩ := by
  apply ByteArray.ext
  rw [ByteArray.data_extract]
  apply Array.toList_inj.1
  rw [Array.toList_extract]
  simp [List.extract_eq_take_drop, List.drop_take]
theorem ov_strCut {t : TypeId} {x i j : Operand} {p : List UInt8} {ki kj : IntKind} {l h : Int} (h0 : 0 ≤ l) (h1 : l ≤ h) (h2 : h ≤ p.length) (ht : P.underlying t = some .string) (ho : o.op = .slice t x (some i) (some j) none) (hx : ev S x = some (str p)) (hi : ev S i = some (.int ki l)) (hj : ev S j = some (.int kj h)) : OpV P o n m S (str (cut p l h)) := fun w a _ hs => by
  unfold execOp
  simp only [ho, hs.ev hx, Option.map_some, Option.map_none, hs.ev hi, hs.ev hj]
  have hh : 0 ≤ h := by omega
  simp [Instr.sliceAt, Instr.slice, Instr.sliceBounds, Instr.sliceBound, asIntOf, run_underlying ht, str, size_str, h0, hh, h2, extract_str, cut]
  omega
theorem ov_strFrom {t : TypeId} {x i : Operand} {p : List UInt8} {ki : IntKind} {l : Int} (h0 : 0 ≤ l) (h2 : l ≤ p.length) (ht : P.underlying t = some .string) (ho : o.op = .slice t x (some i) none none) (hx : ev S x = some (str p)) (hi : ev S i = some (.int ki l)) : OpV P o n m S (str (p.drop l.toNat)) := fun w a _ hs => by
  unfold execOp
  simp only [ho, hs.ev hx, Option.map_some, Option.map_none, hs.ev hi]
  have e : p.take p.length = p := List.take_length
  simp [Instr.sliceAt, Instr.slice, Instr.sliceBounds, Instr.sliceBound, asIntOf, run_underlying ht, str, size_str, h0, h2, extract_str, e]
theorem ov_strTo {t : TypeId} {x j : Operand} {p : List UInt8} {kj : IntKind} {h : Int} (h1 : 0 ≤ h) (h2 : h ≤ p.length) (ht : P.underlying t = some .string) (ho : o.op = .slice t x none (some j) none) (hx : ev S x = some (str p)) (hj : ev S j = some (.int kj h)) : OpV P o n m S (str (p.take h.toNat)) := fun w a _ hs => by
  unfold execOp
  simp only [ho, hs.ev hx, Option.map_some, Option.map_none, hs.ev hj]
  simp [Instr.sliceAt, Instr.slice, Instr.sliceBounds, Instr.sliceBound, asIntOf, run_underlying ht, str, size_str, h1, h2, extract_str]
theorem ov_convStr {s d : TypeId} {x : Operand} {p : List UInt8} (hss : P.underlying s = some .string) (ht : P.underlying d = some .string) (ho : o.op = .convert s d x) (hx : ev S x = some (str p)) : OpV P o n m S (str p) := fun w a _ hs => by
  unfold execOp
  simp only [ho, hs.ev hx]
  simp [convert, Sem.run_bind, run_underlying hss, run_underlying ht, str]
end
end Go.Proofs.YtfhifdmbdkkgaaaDoor.En
