/- An engine for walks: statements whose order is open, by stages. No condition. -/
import Derived.Test.YtfhifdmbdkkgaaaDoorEn12
namespace Go.Proofs.YtfhifdmbdkkgaaaDoor.En
open Go.RowKit
set_option linter.unusedVariables false
set_option linter.unusedSimpArgs false
def Mem.plus (m : Mem) (X : List Own) (Y : List Fact) : Mem := { m with own := m.own ++ X, fz := m.fz ++ Y }
/-- an operation that may be carried out early or late: its place, its slot, what it yields -/
structure Sp where
  i : Nat
  d : Nat
  ι : Type
  res : ι → Res
def Got (a : Act) (lst : Array Bool) : List Sp → List Own → List Fact → Prop
  | [], X, Y => X = [] ∧ Y = []
  | s :: L, X, Y => (lst.getD s.i false = false ∧ Got a lst L X Y) ∨ (lst.getD s.i false = true ∧ ∃ j X' Y', a.tmps.getD s.d undef = (s.res j).val ∧ X = (s.res j).own ++ X' ∧ Y = (s.res j).fz ++ Y' ∧ Got a lst L X' Y')
def over (S F : Sl) : Sl := fun t => match S t with | some v => some v | none => F t
theorem Sat.over {n : Nat} {S F : Sl} {a : Act} (h : Sat n S a) (hF : ∀ t v, F t = some v → a.tmps.getD t undef = v) : Sat n (over S F) a :=
  ⟨h.def_, h.size, fun t v hv => by
    unfold En.over at hv
    cases hS : S t with
    | some u => rw [hS] at hv; exact (Option.some.inj hv) ▸ h.val t u hS
    | none => rw [hS] at hv; exact hF t v hv⟩
theorem Holds.re {m : Mem} {w : World} {own' rest : List Own} {fz' : List Fact} (h : Holds m w) (hp : (own' ++ rest).Perm m.own) (hf : ∀ f ∈ fz', f ∈ m.fz) : Holds { m with own := own', fz := fz' } w :=
  (h.reown own' (fun o ho => hp.mem_iff.1 (List.mem_append_left _ ho)) (by
    have h1 := ((List.Perm.flatMap_right Own.blk hp).nodup_iff).2 h.nd
    rw [List.flatMap_append, List.nodup_append] at h1
    exact h1.1)).refz fz' hf
def QK (K : Act → World → Prop) : Exit → Act → World → Prop := fun e a w => match e with | .normal => K a w | _ => False
theorem not_outQK {K : Act → World → Prop} (h : LetsOut (QK K)) : False := by obtain ⟨a, w, h⟩ := h; exact h
theorem wp_QK {P : Program} {o : Oper} {a : Act} {w : World} {K K' : Act → World → Prop} {Q : Exit → Act → World → Prop} (h : o.wp P a w K (QK K')) : o.wp P a w K Q := by
  unfold Oper.wp at *
  generalize (execOp a.eval o).run P w = r at *
  cases r with
  | ok x w' =>
    cases x <;> simp only [Oper.upon] at h ⊢ <;>
      first
        | exact h
        | exact Calls.mono h (fun e w'' he => by
            cases e with
            | returned v => exact he
            | panicked ch => exact he.elim
            | outgrown => exact (not_outQK he).elim)
  | halt x w' => cases x <;> simp only [Oper.upon] at h ⊢ <;> exact h.elim
theorem wpOp_of {P : Program} {ops : Array Oper} {Q : Exit → Act → World → Prop} {K : Act → World → Prop} {i : Nat} {o : Oper} {a : Act} {w : World} (ho : ops[i]? = some o) (h : wpList P ops (QK K) [o] a w) : wpOp P ops Q i K a w := by
  unfold wpOp
  rw [ho]
  simp only
  unfold wpList at h
  split at h
  · rename_i hw
    rw [if_pos hw]
    rcases h with h | ⟨_, h⟩
    · exact .inl (wp_QK h)
    · exact (not_outQK h).elim
  · rename_i hw
    rw [if_neg hw]
    exact h
def preds (l : List Oper) (i : Nat) : List Nat := match l[i]? with | some o => edgesOf o | none => []
def reachGo (l : List Oper) : Nat → List Nat → List Nat
  | 0, acc => acc
  | i + 1, acc => if acc.contains i then reachGo l i (preds l i ++ acc) else reachGo l i acc
theorem edge_mem {o : Oper} {j : Nat} : j ∈ edgesOf o ↔ ∃ e ∈ o.after, Region.binds .any e = true ∧ e.on = j := by
  unfold edgesOf
  rw [List.mem_map]
  constructor
  · rintro ⟨e, he, rfl⟩
    have := List.mem_filter.1 he
    exact ⟨e, by simpa using this.1, this.2, rfl⟩
  · rintro ⟨e, he, hb, rfl⟩
    exact ⟨e, List.mem_filter.2 ⟨by simpa using he, hb⟩, rfl⟩
structure TInv (l : List Oper) (C : List Nat) (L : List Sp) (lst : Array Bool) : Prop where
  size : lst.size = l.length
  closed : ∀ j, lst.getD j false = true → ∀ e ∈ preds l j, lst.getD e false = true
  done : ∀ c ∈ C, lst.getD c false = true
  only : ∀ i, lst.getD i false = true → i ∈ C ∨ i ∈ L.map Sp.i
theorem reach_listed {l : List Oper} {lst : Array Bool} (hcl : ∀ j, lst.getD j false = true → ∀ e ∈ preds l j, lst.getD e false = true) : ∀ (k : Nat) (acc : List Nat), (∀ x ∈ acc, lst.getD x false = true) → ∀ x ∈ reachGo l k acc, lst.getD x false = true
  | 0, acc, h => h
  | k + 1, acc, h => by
    unfold reachGo
    split
    · rename_i hc
      refine reach_listed hcl k _ (fun x hx => ?_)
      rcases List.mem_append.1 hx with hx | hx
      · exact hcl k (h k (by simpa using hc)) x hx
      · exact h x hx
    · exact reach_listed hcl k acc h
/-! what has been done -/
section
variable {a a' : Act} {lst lst' : Array Bool}
theorem got_mem : ∀ {L : List Sp} {X : List Own} {Y : List Fact}, Got a lst L X Y → ∀ s ∈ L, lst.getD s.i false = true → ∃ j, a.tmps.getD s.d undef = (s.res j).val ∧ ∀ f ∈ (s.res j).fz, f ∈ Y
  | [], _, _, _, s, hs, _ => by simp at hs
  | t :: L, X, Y, h, s, hs, hl => by
    rcases h with ⟨h0, h⟩ | ⟨h0, j, X', Y', hv, hX, hY, h⟩
    · rcases List.mem_cons.1 hs with rfl | hs
      · rw [h0] at hl; cases hl
      · exact got_mem h s hs hl
    · rcases List.mem_cons.1 hs with rfl | hs
      · exact ⟨j, hv, fun f hf => by rw [hY]; exact List.mem_append_left _ hf⟩
      · obtain ⟨j', h1, h2⟩ := got_mem h s hs hl
        exact ⟨j', h1, fun f hf => by rw [hY]; exact List.mem_append_right _ (h2 f hf)⟩
theorem got_congr : ∀ {L : List Sp} {X : List Own} {Y : List Fact}, Got a lst L X Y → (∀ s ∈ L, lst'.getD s.i false = lst.getD s.i false ∧ (lst.getD s.i false = true → a'.tmps.getD s.d undef = a.tmps.getD s.d undef)) → Got a' lst' L X Y
  | [], _, _, h, _ => h
  | s :: L, X, Y, h, hc => by
    have h1 := hc s (by simp)
    rcases h with ⟨h0, h⟩ | ⟨h0, j, X', Y', hv, hX, hY, h⟩
    · exact .inl ⟨h1.1.trans h0, got_congr h (fun t ht => hc t (by simp [ht]))⟩
    · exact .inr ⟨h1.1.trans h0, j, X', Y', (h1.2 h0).trans hv, hX, hY, got_congr h (fun t ht => hc t (by simp [ht]))⟩
theorem got_ext : ∀ {L Ln : List Sp} {X : List Own} {Y : List Fact}, Got a lst L X Y → (∀ s ∈ Ln, lst.getD s.i false = false) → Got a lst (L ++ Ln) X Y
  | [], [], _, _, h, _ => h
  | [], s :: Ln, X, Y, h, hn => .inl ⟨hn s (by simp), got_ext (L := []) h (fun t ht => hn t (by simp [ht]))⟩
  | s :: L, Ln, X, Y, h, hn => by
    rcases h with ⟨h0, h⟩ | ⟨h0, j, X', Y', hv, hX, hY, h⟩
    · exact .inl ⟨h0, got_ext h hn⟩
    · exact .inr ⟨h0, j, X', Y', hv, hX, hY, got_ext h hn⟩
theorem got_split (p : Sp → Bool) : ∀ {L : List Sp} {X : List Own} {Y : List Fact}, Got a lst L X Y → ∃ Xm Ym Xf Yf, Got a lst (L.filter p) Xm Ym ∧ Got a lst (L.filter fun s => !p s) Xf Yf ∧ (Xm ++ Xf).Perm X ∧ (∀ f ∈ Ym, f ∈ Y) ∧ ∀ f ∈ Yf, f ∈ Y
  | [], X, Y, h => ⟨[], [], [], [], ⟨rfl, rfl⟩, ⟨rfl, rfl⟩, by rw [h.1]; exact .refl _, by simp, by simp⟩
  | s :: L, X, Y, h => by
    rcases h with ⟨h0, h⟩ | ⟨h0, j, X', Y', hv, hX, hY, h⟩
    · obtain ⟨Xm, Ym, Xf, Yf, h1, h2, h3, h4, h5⟩ := got_split p h
      cases hp : p s with
      | true =>
        rw [List.filter_cons_of_pos (by simpa using hp), List.filter_cons_of_neg (by simp [hp])]
        exact ⟨Xm, Ym, Xf, Yf, .inl ⟨h0, h1⟩, h2, h3, h4, h5⟩
      | false =>
        rw [List.filter_cons_of_neg (by simp [hp]), List.filter_cons_of_pos (by simp [hp])]
        exact ⟨Xm, Ym, Xf, Yf, h1, .inl ⟨h0, h2⟩, h3, h4, h5⟩
    · obtain ⟨Xm, Ym, Xf, Yf, h1, h2, h3, h4, h5⟩ := got_split p h
      subst hX hY
      cases hp : p s with
      | true =>
        rw [List.filter_cons_of_pos (by simpa using hp), List.filter_cons_of_neg (by simp [hp])]
        refine ⟨_, _, Xf, Yf, .inr ⟨h0, j, Xm, Ym, hv, rfl, rfl, h1⟩, h2, ?_, fun f hf => ?_, fun f hf => List.mem_append_right _ (h5 f hf)⟩
        · rw [List.append_assoc]; exact h3.append_left _
        · rcases List.mem_append.1 hf with hf | hf
          · exact List.mem_append_left _ hf
          · exact List.mem_append_right _ (h4 f hf)
      | false =>
        rw [List.filter_cons_of_neg (by simp [hp]), List.filter_cons_of_pos (by simp [hp])]
        refine ⟨Xm, Ym, _, _, h1, .inr ⟨h0, j, Xf, Yf, hv, rfl, rfl, h2⟩, ?_, fun f hf => List.mem_append_right _ (h4 f hf), fun f hf => ?_⟩
        · rw [← List.append_assoc]
          refine (List.Perm.append_right _ List.perm_append_comm).trans ?_
          rw [List.append_assoc]; exact h3.append_left _
        · rcases List.mem_append.1 hf with hf | hf
          · exact List.mem_append_left _ hf
          · exact List.mem_append_right _ (h5 f hf)
theorem getD_set {lst : Array Bool} {i : Nat} (h : i < lst.size) : (lst.setIfInBounds i true).getD i false = true := by simp [h]
theorem got_set {s : Sp} (j : s.ι) (hv : a'.tmps.getD s.d undef = (s.res j).val) (hlt : s.i < lst.size) (h0 : lst.getD s.i false = false) : ∀ {L : List Sp} {X : List Own} {Y : List Fact}, Got a lst L X Y → (L.map Sp.i).Nodup → s ∈ L → (∀ t ∈ L, lst.getD t.i false = true → a'.tmps.getD t.d undef = a.tmps.getD t.d undef) →
    ∃ X' Y', Got a' (lst.setIfInBounds s.i true) L X' Y' ∧ X'.Perm ((s.res j).own ++ X) ∧ ∀ f ∈ Y', f ∈ (s.res j).fz ++ Y
  | [], _, _, _, _, hs, _ => by simp at hs
  | t :: L, X, Y, h, hnd, hs, hc => by
    rw [List.map_cons, List.nodup_cons] at hnd
    by_cases hst : s = t
    · subst hst
      rcases h with ⟨_, h⟩ | ⟨h1, _⟩
      · refine ⟨_, _, .inr ⟨getD_set hlt, j, X, Y, hv, rfl, rfl, got_congr h (fun q hq => ⟨?_, fun hl => hc q (by simp [hq]) hl⟩)⟩, .refl _, fun f hf => hf⟩
        exact getD_set_ne false (fun e => hnd.1 (by rw [e]; exact List.mem_map_of_mem hq))
      · rw [h0] at h1; cases h1
    · have hs' : s ∈ L := by
        rcases List.mem_cons.1 hs with h | h
        · exact absurd h hst
        · exact h
      have hne : s.i ≠ t.i := fun e => hnd.1 (by rw [← e]; exact List.mem_map_of_mem hs')
      rcases h with ⟨h1, h⟩ | ⟨h1, k, X', Y', hv', hX, hY, h⟩
      · obtain ⟨X2, Y2, g1, g2, g3⟩ := got_set j hv hlt h0 h hnd.2 hs' (fun q hq => hc q (by simp [hq]))
        exact ⟨X2, Y2, .inl ⟨(getD_set_ne false hne).trans h1, g1⟩, g2, g3⟩
      · obtain ⟨X2, Y2, g1, g2, g3⟩ := got_set j hv hlt h0 h hnd.2 hs' (fun q hq => hc q (by simp [hq]))
        subst hX hY
        refine ⟨_, _, .inr ⟨(getD_set_ne false hne).trans h1, k, X2, Y2, (hc t (by simp) h1).trans hv', rfl, rfl, g1⟩, ?_, fun f hf => ?_⟩
        · refine (g2.append_left _).trans ?_
          rw [← List.append_assoc, ← List.append_assoc]
          exact List.Perm.append_right _ List.perm_append_comm
        · rcases List.mem_append.1 hf with hf | hf
          · exact List.mem_append_right _ (List.mem_append_left _ hf)
          · rcases List.mem_append.1 (g3 f hf) with hf | hf
            · exact List.mem_append_left _ hf
            · exact List.mem_append_right _ (List.mem_append_right _ hf)
end
/-! what an operation leans on -/
def Pull (G : Mem → Sl → Prop) : List Sp → Mem → Sl → Prop
  | [], m, S => G m S
  | s :: l, m, S => ∀ j : s.ι, Pull G l { m with own := (s.res j).own ++ m.own, fz := (s.res j).fz ++ m.fz } (put S s.d (s.res j).val)
def PullF (G : Mem → Sl → Prop) : List Sp → Mem → Sl → Prop
  | [], m, S => G m S
  | s :: l, m, S => ∀ j : s.ι, PullF G l { m with fz := (s.res j).fz ++ m.fz } (put S s.d (s.res j).val)
theorem beq_ff {a b : Nat} (h : a ≠ b) : Nat.beq a b = false := by
  cases hb : Nat.beq a b with
  | false => rfl
  | true => exact absurd (Nat.eq_of_beq_eq_true hb) h
theorem put_keeps {S : Sl} {d t : Nat} {v : Value} (h : (S t).isSome = true) : (put S d v t).isSome = true := by
  unfold put; cases Nat.beq t d <;> simp [h]
theorem pullF_use {n : Nat} {G : Mem → Sl → Prop} {a : Act} {Y : List Fact} : ∀ {L : List Sp} {m : Mem} {S : Sl}, PullF G L m S → (∀ s ∈ L, ∃ j, a.tmps.getD s.d undef = (s.res j).val ∧ ∀ f ∈ (s.res j).fz, f ∈ Y) → Sat n S a →
    ∃ ex S', G { m with fz := ex ++ m.fz } S' ∧ (∀ f ∈ ex, f ∈ Y) ∧ Sat n S' a ∧ ∀ t, (S t).isSome = true → (S' t).isSome = true
  | [], m, S, h, _, hs => ⟨[], S, h, by simp, hs, fun _ h => h⟩
  | s :: L, m, S, h, hg, hs => by
    obtain ⟨j, hv, hf⟩ := hg s (by simp)
    obtain ⟨ex, S', h1, h2, h3, h4⟩ := pullF_use (h j) (fun t ht => hg t (by simp [ht])) (hs.put_at hv)
    refine ⟨ex ++ (s.res j).fz, S', ?_, fun f hf' => ?_, h3, fun t ht => h4 t (put_keeps ht)⟩
    · rw [List.append_assoc]; exact h1
    · rcases List.mem_append.1 hf' with hf' | hf'
      · exact h2 f hf'
      · exact hf f hf'
theorem pull_use {n : Nat} {G : Mem → Sl → Prop} {a : Act} {lst : Array Bool} : ∀ {L : List Sp} {m : Mem} {S : Sl} {X : List Own} {Y : List Fact}, Pull G L m S → Got a lst L X Y → (∀ s ∈ L, lst.getD s.i false = true) → Sat n S a →
    ∃ ow ex S', G { m with own := ow ++ m.own, fz := ex ++ m.fz } S' ∧ ow.Perm X ∧ (∀ f ∈ ex, f ∈ Y) ∧ Sat n S' a ∧ ∀ t, (S t).isSome = true → (S' t).isSome = true
  | [], m, S, X, Y, h, hg, _, hs => ⟨[], [], S, h, by rw [hg.1], by simp, hs, fun _ h => h⟩
  | s :: L, m, S, X, Y, h, hg, hl, hs => by
    rcases hg with ⟨h0, _⟩ | ⟨_, j, X', Y', hv, hX, hY, hg⟩
    · rw [hl s (by simp)] at h0; cases h0
    · obtain ⟨ow, ex, S', h1, h2, h3, h4, h5⟩ := pull_use (h j) hg (fun t ht => hl t (by simp [ht])) (hs.put_at hv)
      subst hX hY
      refine ⟨ow ++ (s.res j).own, ex ++ (s.res j).fz, S', ?_, ?_, fun f hf => ?_, h4, fun t ht => h5 t (put_keeps ht)⟩
      · rw [List.append_assoc, List.append_assoc]; exact h1
      · exact List.perm_append_comm.trans (h2.append_left _)
      · rcases List.mem_append.1 hf with hf | hf
        · exact List.mem_append_right _ (h3 f hf)
        · exact List.mem_append_left _ hf
section
variable {P : Program} {Q : Exit → Act → World → Prop} {n : Nat} {m : Mem} {S : Sl} {l : List Oper} {C : List Nat} {L : List Sp}
def opened (lst : Array Bool) : Nat := ((List.range lst.size).filter fun i => !lst.getD i true).length
def TA (P : Program) (l : List Oper) (Q : Exit → Act → World → Prop) (n : Nat) (C : List Nat) (L : List Sp) (m : Mem) (S : Sl) : Prop :=
  ∀ lst a w X Y, TInv l C L lst → Got a lst L X Y → Holds (m.plus X Y) w → Sat n S a → wpAny P .any l.toArray Q (opened lst) lst a w
def FreeGoal (P : Program) (l : List Oper) (n : Nat) (o : Oper) (s : Sp) (m' : Mem) (S' : Sl) : Prop := ∀ (X : List Own) (Y : List Fact) (F : Sl) (K : Act → World → Prop),
  (∀ j a' w', Holds (m'.plus ((s.res j).own ++ X) ((s.res j).fz ++ Y)) w' → Sat n (put (over S' F) s.d (s.res j).val) a' → K a' w') → AL P l.toArray [o] (QK K) n (m'.plus X Y) (over S' F)
def picksS (L : List Sp) (ix : List Nat) : List Sp := ix.filterMap fun q => L[q]?
def FreeOk (P : Program) (l : List Oper) (n : Nat) (L : List Sp) (m : Mem) (S : Sl) (s : Sp) : Prop := ∃ o, l[s.i]? = some o ∧ ∃ ix : List Nat, ((picksS L ix).all fun t => (preds l s.i).contains t.i) = true ∧ PullF (FreeGoal P l n o s) (picksS L ix) m S
def FreeAll (P : Program) (l : List Oper) (n : Nat) (L : List Sp) (m : Mem) (S : Sl) : List Sp → Prop
  | [] => True
  | s :: r => FreeOk P l n L m S s ∧ FreeAll P l n L m S r
theorem FreeAll.mem : ∀ {r : List Sp}, FreeAll P l n L m S r → ∀ s ∈ r, FreeOk P l n L m S s
  | [], _, s, hs => by simp at hs
  | t :: r, h, s, hs => by
    rcases List.mem_cons.1 hs with rfl | hs
    · exact h.1
    · exact FreeAll.mem h.2 s hs
def Next (P : Program) (l : List Oper) (Q : Exit → Act → World → Prop) (n : Nat) (C1 In : List Nat) (Lf : List Sp) (X : List Own) (Y : List Fact) (F : Sl) (K : Act → World → Prop) : Prop :=
  ∀ Ln m1 S1, Ln.map Sp.i = In → TA P l Q n C1 (Lf ++ Ln) m1 S1 → ∀ a' w', Holds (m1.plus X Y) w' → Sat n S1 a' → (∀ s ∈ Lf, ∀ v, F s.d = some v → a'.tmps.getD s.d undef = v) → K a' w'
def ChainGoal (P : Program) (l : List Oper) (Q : Exit → Act → World → Prop) (n : Nat) (o : Oper) (C1 In : List Nat) (Lf : List Sp) (m' : Mem) (S' : Sl) : Prop :=
  ∀ (X : List Own) (Y : List Fact) (F : Sl) (K : Act → World → Prop), Next P l Q n C1 In Lf X Y F K → AL P l.toArray [o] (QK K) n (m'.plus X Y) (over S' F)
def stageB (l : List Oper) (C I : List Nat) (c : Option Nat) : Bool :=
  (List.range l.length).all fun i => C.contains i || I.contains i || (match c with | some c => Nat.beq c i | none => false) || ((preds l i).any fun e => !C.contains e && !I.contains e)
theorem opened_set {lst : Array Bool} {i f : Nat} (h : lst.getD i true = false) (hf : opened lst = f + 1) : opened (lst.setIfInBounds i true) = f := by
  unfold opened at *
  have hlt : i < lst.size := by
    rcases Nat.lt_or_ge i lst.size with h' | h'
    · exact h'
    · simp [Array.getElem?_eq_none h'] at h
  have e1 : (List.range (lst.setIfInBounds i true).size).filter (fun q => !(lst.setIfInBounds i true).getD q true) = ((List.range lst.size).filter fun q => !lst.getD q true).filter (fun q => q != i) := by
    rw [List.filter_filter, Array.size_setIfInBounds]
    apply List.filter_congr
    intro q _
    by_cases hqi : q = i
    · subst hqi; simp [hlt]
    · rw [getD_set_ne true (fun e => hqi e.symm)]; simp [hqi]
  have hmem : i ∈ (List.range lst.size).filter fun q => !lst.getD q true := List.mem_filter.2 ⟨List.mem_range.2 hlt, by simp [h]⟩
  have hndp : ((List.range lst.size).filter fun q => !lst.getD q true).Nodup := List.Pairwise.filter _ List.nodup_range
  have h2 := List.Nodup.erase_eq_filter hndp i
  have h3 := List.length_erase_of_mem hmem
  rw [h2] at h3
  rw [e1, h3, hf]; rfl
theorem unlisted {lst : Array Bool} {i : Nat} (hi : i < lst.size) (h : lst.getD i false = false) : lst.getD i true = false := getD_in hi h
/-- while something is open, something is ready -/
theorem some_ready (hback : backB l = true) {lst : Array Bool} (hsz : lst.size = l.length) {c : Nat} (hc : c < l.length) (hu : lst.getD c false = false) (he : Region.ready .any l.toArray lst = []) : False := by
  induction c using Nat.strongRecOn with
  | _ c ih =>
    have hr : c ∈ Region.ready .any l.toArray lst := mem_ready.2 ⟨unlisted (by omega) hu, l[c], by simp [hc], fun e hm hb => by
      have hlt := backB_spec hback (List.getElem?_eq_getElem hc) e hm hb
      cases hl : lst.getD e.on false with
      | true => rfl
      | false => exact (ih e.on hlt (by omega) hl).elim⟩
    rw [he] at hr; cases hr
theorem TInv.set {lst : Array Bool} {C' : List Nat} {L' : List Sp} {i : Nat} (inv : TInv l C L lst) (hr : i ∈ Region.ready .any l.toArray lst) (hd : ∀ c ∈ C', c = i ∨ lst.getD c false = true) (ho : ∀ j, j = i ∨ j ∈ C ∨ j ∈ L.map Sp.i → j ∈ C' ∨ j ∈ L'.map Sp.i) : TInv l C' L' (lst.setIfInBounds i true) := by
  obtain ⟨hu, oi, hoi, hall⟩ := mem_ready.1 hr
  have hlt : i < l.length := by have := (Array.getElem?_eq_some_iff.1 hoi).1; simpa using this
  have hlt' : i < lst.size := by rw [inv.size]; exact hlt
  have hoi' : l[i]? = some oi := by simpa using hoi
  refine ⟨by simp [inv.size], fun j hj e he => ?_, fun c hc => ?_, fun j hj => ho j ?_⟩
  · by_cases hij : i = j
    · subst hij
      unfold preds at he
      rw [hoi'] at he
      obtain ⟨e', he', hb, rfl⟩ := edge_mem.1 he
      exact getD_set_true (hall e' he' hb)
    · rw [getD_set_ne false hij] at hj
      exact getD_set_true (inv.closed j hj e he)
  · rcases hd c hc with rfl | h
    · exact getD_set hlt'
    · exact getD_set_true h
  · by_cases hij : i = j
    · exact .inl hij.symm
    · rw [getD_set_ne false hij] at hj
      exact .inr (inv.only j hj)
theorem ready_direct {lst : Array Bool} {i : Nat} (hr : i ∈ Region.ready .any l.toArray lst) : ∀ e ∈ preds l i, lst.getD e false = true := by
  obtain ⟨_, oi, hoi, hall⟩ := mem_ready.1 hr
  intro e he
  have hoi' : l[i]? = some oi := by simpa using hoi
  unfold preds at he
  rw [hoi'] at he
  obtain ⟨e', he', hb, rfl⟩ := edge_mem.1 he
  exact hall e' he' hb
/-- the slots of what is done -/
def heldF (L : List Sp) (lst : Array Bool) (a : Act) : Sl := fun t => if L.any (fun s => Nat.beq s.d t && lst.getD s.i false) then some (a.tmps.getD t undef) else none
theorem heldF_ok {lst : Array Bool} {a : Act} (t : Nat) (v : Value) (h : heldF L lst a t = some v) : a.tmps.getD t undef = v := by
  unfold heldF at h
  split at h
  · exact Option.some.inj h
  · cases h
theorem heldF_in {lst : Array Bool} {a : Act} {s : Sp} (hs : s ∈ L) (hl : lst.getD s.i false = true) : heldF L lst a s.d = some (a.tmps.getD s.d undef) := by
  unfold heldF
  rw [if_pos (List.any_eq_true.2 ⟨s, hs, by simp [hl]⟩)]
/-- an operation of the free ones is carried out -/
theorem free_step (hD : (L.map Sp.d).Nodup) (hI : (L.map Sp.i).Nodup) (hS0 : ∀ s ∈ L, S s.d = none) {s : Sp} (hs : s ∈ L) (hf : FreeOk P l n L m S s) {lst : Array Bool} {a : Act} {w : World} {X : List Own} {Y : List Fact} (inv : TInv l C L lst) (hr : s.i ∈ Region.ready .any l.toArray lst) (hg : Got a lst L X Y) (hm : Holds (m.plus X Y) w) (hsa : Sat n S a)
    {K : Act → World → Prop} (hK : ∀ a' w' X' Y', TInv l C L (lst.setIfInBounds s.i true) → Got a' (lst.setIfInBounds s.i true) L X' Y' → Holds (m.plus X' Y') w' → Sat n S a' → K a' w') : wpOp P l.toArray Q s.i K a w := by
  obtain ⟨o, ho, ix, hix, hp⟩ := hf
  have hix' : ∀ t ∈ picksS L ix, t ∈ L ∧ t.i ∈ preds l s.i := fun t ht => by
    refine ⟨?_, by simpa using List.all_eq_true.1 hix t ht⟩
    obtain ⟨q, _, hq⟩ := List.mem_filterMap.1 ht
    exact List.mem_of_getElem? hq
  have hu : lst.getD s.i true = false := (mem_ready.1 hr).1
  obtain ⟨ex, S', hG, hex, hS', hkeep⟩ := pullF_use hp (fun t ht => got_mem hg t (hix' t ht).1 (ready_direct hr _ (hix' t ht).2)) hsa
  have hlt : s.i < lst.size := by rw [inv.size]; exact (List.getElem?_eq_some_iff.1 ho).1
  have h0 : lst.getD s.i false = false := getD_both hu
  refine wpOp_of (by simpa using ho) (hG X Y (heldF L lst a) K (fun j a' w' hm' hs' => ?_) w a ?_ ?_)
  · have hval : ∀ t v, over S' (heldF L lst a) t = some v → t ≠ s.d → a'.tmps.getD t undef = v := fun t v hv hne => hs'.val t v (by
      unfold put; rw [beq_ff hne]; exact hv)
    have hov : ∀ t v, over S' (heldF L lst a) t = some v → a.tmps.getD t undef = v := (hS'.over heldF_ok).val
    have hother : ∀ t ∈ L, lst.getD t.i false = true → a'.tmps.getD t.d undef = a.tmps.getD t.d undef := fun t ht hl => by
      have hne : t.d ≠ s.d := fun e => by
        have : t = s := by
          obtain ⟨p, hp⟩ := List.mem_iff_getElem?.1 ht
          obtain ⟨q, hq⟩ := List.mem_iff_getElem?.1 hs
          have h1 := nodup_idx hD (i := p) (j := q) (x := s.d) (by rw [List.getElem?_map, hp]; simp [e]) (by rw [List.getElem?_map, hq]; rfl)
          subst h1
          exact Option.some.inj (hp.symm.trans hq)
        rw [this] at hl; rw [h0] at hl; cases hl
      obtain ⟨u, hu⟩ : ∃ u, over S' (heldF L lst a) t.d = some u := by
        unfold over
        cases hx : S' t.d with
        | some u => exact ⟨u, rfl⟩
        | none => exact ⟨_, heldF_in ht hl⟩
      rw [hval _ _ hu hne, hov _ _ hu]
    obtain ⟨X', Y', g1, g2, g3⟩ := got_set j (hs'.val s.d _ (by unfold put; simp)) hlt h0 hg hI hs hother
    refine hK a' w' X' Y' (inv.set hr (fun c hc => .inr (inv.done c hc)) (fun q hq => ?_)) g1 ?_ ⟨hs'.def_, hs'.size, fun t v hv => ?_⟩
    · rcases hq with rfl | hq
      · exact .inr (List.mem_map_of_mem hs)
      · exact hq
    · have := hm'.re (own' := m.own ++ X') (rest := []) (fz' := m.fz ++ Y') (by
        rw [List.append_nil]; exact g2.append_left _) (fun f hf => by
        rcases List.mem_append.1 hf with hf | hf
        · exact List.mem_append_left _ (List.mem_append_right _ hf)
        · exact List.mem_append_right _ (g3 f hf))
      exact this
    · have hne : t ≠ s.d := fun e => by rw [e, hS0 s hs] at hv; cases hv
      have h1 := hkeep t (by rw [hv]; rfl)
      obtain ⟨u, hu⟩ := Option.isSome_iff_exists.1 h1
      have h2 : over S' (heldF L lst a) t = some u := by unfold over; rw [hu]
      rw [hval t u h2 hne, ← hov t u h2, hsa.val t v hv]
  · have := hm.re (own' := m.own ++ X) (rest := []) (fz' := (ex ++ m.fz) ++ Y) (by rw [List.append_nil]; exact .refl _) (fun f hf => by
      rcases List.mem_append.1 hf with hf | hf
      · rcases List.mem_append.1 hf with hf | hf
        · exact List.mem_append_right _ (hex f hf)
        · exact List.mem_append_left _ hf
      · exact List.mem_append_right _ hf)
    exact this
  · exact hS'.over heldF_ok
/-- a stage: the next operation of the chain, or a free one -/
def stepB (l : List Oper) (C I D : List Nat) (c : Nat) (mu In : List Nat) : Bool :=
  backB l && stageB l C I (some c) && nodupB D && nodupB I && (mu.all fun i => (reachGo l c (preds l c)).contains i) && ((c :: In).all fun i => !C.contains i && !I.contains i) && !In.contains c
def endB (l : List Oper) (C I D : List Nat) : Bool :=
  backB l && stageB l C I none && nodupB D && nodupB I && (I.all fun i => Nat.blt i l.length) && (List.range l.length).all (fun i => C.contains i || I.contains i)
theorem ta_step (c : Nat) (o : Oper) (I D mu In : List Nat) (Lm Lf : List Sp) (ho : l[c]? = some o) (hLi : L.map Sp.i = I) (hLd : L.map Sp.d = D)
    (hB : stepB l C I D c mu In = true) (hS0 : (D.all fun d => (S d).isNone) = true)
    (hLm : (L.filter fun s => mu.contains s.i) = Lm) (hLf : (L.filter fun s => !mu.contains s.i) = Lf)
    (hfree : FreeAll P l n L m S L) (hchain : Pull (ChainGoal P l Q n o (c :: (mu ++ C)) In Lf) Lm m S) : TA P l Q n C L m S := by
  subst hLi hLd
  unfold stepB at hB
  simp only [Bool.and_eq_true] at hB
  obtain ⟨⟨⟨⟨⟨⟨hback, hstage⟩, hD⟩, hI⟩, hmu⟩, hnew⟩, hcn⟩ := hB
  have hD := nodupB_spec hD
  have hI := nodupB_spec hI
  have hS0' : ∀ s ∈ L, S s.d = none := fun s hs => by have := List.all_eq_true.1 hS0 s.d (List.mem_map_of_mem hs); simpa using this
  have hc0 : c ∉ C ∧ c ∉ L.map Sp.i := by
    have := List.all_eq_true.1 hnew c (by simp)
    simpa using this
  have hclt : c < l.length := (List.getElem?_eq_some_iff.1 ho).1
  intro lst
  generalize hf : opened lst = f
  induction f generalizing lst with
  | zero =>
    intro a w X Y inv hg hm hs
    exfalso
    have hcu : lst.getD c false = false := by
      cases hx : lst.getD c false with
      | false => rfl
      | true => exact ((inv.only c hx).elim hc0.1 hc0.2).elim
    have h0 : (List.range lst.size).filter (fun i => !lst.getD i true) = [] := List.eq_nil_of_length_eq_zero hf
    have h1 := List.filter_eq_nil_iff.1 h0 c (List.mem_range.2 (by rw [inv.size]; exact hclt))
    rw [unlisted (by rw [inv.size]; exact hclt) hcu] at h1
    exact h1 rfl
  | succ f ih =>
    intro a w X Y inv hg hm hs
    have hcu : lst.getD c false = false := by
      cases hx : lst.getD c false with
      | false => rfl
      | true => exact ((inv.only c hx).elim hc0.1 hc0.2).elim
    refine ⟨fun he => (some_ready hback inv.size hclt hcu he).elim, fun i hi => ?_⟩
    have hiu : lst.getD i true = false := (mem_ready.1 hi).1
    have hif : lst.getD i false = false := getD_both hiu
    have hilt : i < l.length := by
      obtain ⟨oi, hoi, _⟩ := (mem_ready.1 hi).2
      have := (Array.getElem?_eq_some_iff.1 hoi).1; simpa using this
    by_cases hic : i = c
    · subst hic
      subst hLm hLf
      obtain ⟨Xm, Ym, Xf, Yf, g1, g2, g3, g4, g5⟩ := got_split (fun s => mu.contains s.i) hg
      have hreach := reach_listed inv.closed i (preds l i) (ready_direct hi)
      have hmul : ∀ q ∈ mu, lst.getD q false = true := fun q hq => hreach q (by simpa using List.all_eq_true.1 hmu q hq)
      obtain ⟨ow, ex, S', hG, hp, hex, hS', hkeep⟩ := pull_use hchain g1 (fun s hs' => hmul _ (by simpa using (List.mem_filter.1 hs').2)) hs
      have hlt : i < lst.size := by rw [inv.size]; exact hclt
      refine wpOp_of (by simpa using ho) (hG Xf Yf (heldF L lst a) _ (fun Ln m1 S1 hLn hTA a' w' hm' hs' hF => ?_) w a ?_ (hS'.over heldF_ok))
      · have hsz : opened (lst.setIfInBounds i true) = f := opened_set hiu hf
        rw [← hsz]
        refine hTA _ a' w' Xf Yf (inv.set hi (fun q hq => ?_) (fun q hq => ?_)) ?_ hm' hs'
        · rcases List.mem_cons.1 hq with rfl | hq
          · exact .inl rfl
          · rcases List.mem_append.1 hq with hq | hq
            · exact .inr (hmul q hq)
            · exact .inr (inv.done q hq)
        · rcases hq with rfl | hq | hq
          · exact .inl (by simp)
          · exact .inl (by simp [hq])
          · by_cases hqm : q ∈ mu
            · exact .inl (by simp [hqm])
            · right
              obtain ⟨s, hs1, rfl⟩ := List.mem_map.1 hq
              rw [List.map_append]
              exact List.mem_append_left _ (List.mem_map_of_mem (List.mem_filter.2 ⟨hs1, by simpa using hqm⟩))
        · refine got_ext (got_congr g2 (fun s hs1 => ?_)) (fun s hs1 => ?_)
          · have hsL := (List.mem_filter.1 hs1).1
            have hne : i ≠ s.i := fun e => hc0.2 (by rw [e]; exact List.mem_map_of_mem hsL)
            exact ⟨getD_set_ne false hne, fun hl => hF s hs1 _ (heldF_in hsL hl)⟩
          · have h1 := List.all_eq_true.1 hnew s.i (List.mem_cons_of_mem _ (by rw [← hLn]; exact List.mem_map_of_mem hs1))
            have hne : i ≠ s.i := fun e => by
              have hx : In.contains i = true := by rw [e, ← hLn]; simpa using ⟨s, hs1, rfl⟩
              rw [hx] at hcn; cases hcn
            rw [getD_set_ne false hne]
            cases hx : lst.getD s.i false with
            | false => rfl
            | true =>
              have h2 : s.i ∉ C ∧ s.i ∉ L.map Sp.i := by simpa using h1
              exact ((inv.only _ hx).elim h2.1 h2.2).elim
      · have := hm.re (own' := (ow ++ m.own) ++ Xf) (rest := []) (fz' := (ex ++ m.fz) ++ Yf) (by
          rw [List.append_nil]
          refine List.Perm.trans ?_ (g3.append_left m.own)
          rw [← List.append_assoc]
          refine List.Perm.append_right _ ?_
          exact List.perm_append_comm.trans (hp.append_left _)) (fun q hq => by
          rcases List.mem_append.1 hq with hq | hq
          · rcases List.mem_append.1 hq with hq | hq
            · exact List.mem_append_right _ (g4 q (hex q hq))
            · exact List.mem_append_left _ hq
          · exact List.mem_append_right _ (g5 q hq))
        exact this
    · have hst := List.all_eq_true.1 hstage i (List.mem_range.2 hilt)
      simp only [Bool.or_eq_true, List.contains_iff_mem] at hst
      rcases hst with ((hst | hst) | hst) | hst
      · rw [inv.done i hst] at hif; cases hif
      · obtain ⟨s, hsL, rfl⟩ := List.mem_map.1 hst
        refine free_step hD hI hS0' hsL (hfree.mem s hsL) inv hi hg hm hs (fun a' w' X' Y' i1 i2 i3 i4 => ?_)
        exact ih _ (opened_set hiu hf) a' w' X' Y' i1 i2 i3 i4
      · exact absurd (Nat.eq_of_beq_eq_true hst).symm hic
      · obtain ⟨e, he, hb⟩ := List.any_eq_true.1 hst
        have h1 := ready_direct hi e he
        have h2 : e ∉ C ∧ e ∉ L.map Sp.i := by simpa using hb
        exact ((inv.only e h1).elim h2.1 h2.2).elim
/-- the last stage: only free operations are left -/
theorem ta_end (I D : List Nat) (hLi : L.map Sp.i = I) (hLd : L.map Sp.d = D) (hB : endB l C I D = true) (hS0 : (D.all fun d => (S d).isNone) = true)
    (hfree : FreeAll P l n L m S L) (hend : Pull (fun m' S' => AQ Q .normal n m' S') L m S) : TA P l Q n C L m S := by
  subst hLi hLd
  unfold endB at hB
  simp only [Bool.and_eq_true] at hB
  obtain ⟨⟨⟨⟨⟨hback, hstage⟩, hD⟩, hI⟩, hlt'⟩, hC⟩ := hB
  have hD := nodupB_spec hD
  have hI := nodupB_spec hI
  have hlt : (L.all fun s => Nat.blt s.i l.length) = true := List.all_eq_true.2 fun s hs => List.all_eq_true.1 hlt' s.i (List.mem_map_of_mem hs)
  have hS0' : ∀ s ∈ L, S s.d = none := fun s hs => by have := List.all_eq_true.1 hS0 s.d (List.mem_map_of_mem hs); simpa using this
  have fin : ∀ lst a w X Y, TInv l C L lst → Got a lst L X Y → Holds (m.plus X Y) w → Sat n S a → (∀ s ∈ L, lst.getD s.i false = true) → Q .normal a w := fun lst a w X Y inv hg hm hs hall => by
    obtain ⟨ow, ex, S', hG, hp, hex, hS', _⟩ := pull_use hend hg hall hs
    refine hG w a ?_ hS'
    have := hm.re (own' := ow ++ m.own) (rest := []) (fz' := ex ++ m.fz) (by
      rw [List.append_nil]; exact List.perm_append_comm.trans (hp.append_left _)) (fun q hq => by
      rcases List.mem_append.1 hq with hq | hq
      · exact List.mem_append_right _ (hex q hq)
      · exact List.mem_append_left _ hq)
    exact this
  intro lst
  generalize hf : opened lst = f
  induction f generalizing lst with
  | zero =>
    intro a w X Y inv hg hm hs
    have h0 : (List.range lst.size).filter (fun i => !lst.getD i true) = [] := List.eq_nil_of_length_eq_zero hf
    have hall : ∀ i, i < lst.size → lst.getD i false = true := fun i hi => by
      have h1 := List.filter_eq_nil_iff.1 h0 i (List.mem_range.2 hi)
      cases hx : lst.getD i false with
      | true => rfl
      | false => rw [unlisted hi hx] at h1; exact absurd rfl h1
    refine ⟨?_, fin lst a w X Y inv hg hm hs (fun s hsL => hall _ ?_)⟩
    · refine List.eq_nil_iff_forall_not_mem.2 fun i hi => ?_
      obtain ⟨hu, oi, hoi, _⟩ := mem_ready.1 hi
      have hlt' : i < lst.size := by rw [inv.size]; have := (Array.getElem?_eq_some_iff.1 hoi).1; simpa using this
      have h9 := hall i hlt'
      rw [getD_both hu] at h9
      cases h9
    · rw [inv.size]; have := List.all_eq_true.1 hlt s hsL; simpa [Nat.blt_eq] using this
  | succ f ih =>
    intro a w X Y inv hg hm hs
    have hready : ∀ c, c < l.length → lst.getD c false = false → Region.ready .any l.toArray lst = [] → False := fun c hc hu he => some_ready hback inv.size hc hu he
    refine ⟨fun he => fin lst a w X Y inv hg hm hs (fun s hsL => ?_), fun i hi => ?_⟩
    · cases hx : lst.getD s.i false with
      | true => rfl
      | false => exact (hready s.i (by have := List.all_eq_true.1 hlt s hsL; simpa [Nat.blt_eq] using this) hx he).elim
    · have hiu : lst.getD i true = false := (mem_ready.1 hi).1
      have hif : lst.getD i false = false := getD_both hiu
      have hilt : i < l.length := by
        obtain ⟨oi, hoi, _⟩ := (mem_ready.1 hi).2
        have := (Array.getElem?_eq_some_iff.1 hoi).1; simpa using this
      have hst := List.all_eq_true.1 hC i (List.mem_range.2 hilt)
      simp only [Bool.or_eq_true, List.contains_iff_mem] at hst
      rcases hst with hst | hst
      · rw [inv.done i hst] at hif; cases hif
      · obtain ⟨s, hsL, rfl⟩ := List.mem_map.1 hst
        refine free_step hD hI hS0' hsL (hfree.mem s hsL) inv hi hg hm hs (fun a' w' X' Y' i1 i2 i3 i4 => ?_)
        exact ih _ (opened_set hiu hf) a' w' X' Y' i1 i2 i3 i4
/-! the beginning, and the words of the printed proofs -/
theorem got_none {a : Act} {k : Nat} : ∀ L : List Sp, Got a (Array.replicate k false) L [] []
  | [] => ⟨rfl, rfl⟩
  | s :: L => .inl ⟨getD_replicate_false _ _, got_none L⟩
theorem aw_region_open {id : Nat} (L : List Sp) (S' : Sl) (hmx : P.follows .mixedOrders = true) (hS : ∀ a, Sat n S a → Sat n S' a) (h : TA P l Q n [] L m S') : AW P (.region id l.toArray true) Q n m S := fun w a hm hs => by
  refine wp_region_any hmx ?_
  have hdrew : Below w.heap.size w { w with drawn := w.drawn + 1 } := (Below.refl _ _).drew
  have hm' := hm.ext hdrew
  have hm2 : Holds (m.plus [] []) { w with drawn := w.drawn + 1 } := hm'.re (own' := m.own ++ []) (rest := []) (fz' := m.fz ++ []) (by simp) (by simp)
  have h1 := h (Array.replicate l.length false) a _ [] [] ⟨by simp, fun j hj => (by rw [getD_replicate_false] at hj; cases hj), fun c hc => (by cases hc), fun i hi => (by rw [getD_replicate_false] at hi; cases hi)⟩ (got_none L) hm2 (hS a hs)
  have h2 : opened (Array.replicate l.length false) = l.length := by
    unfold opened
    rw [List.filter_eq_self.2 (fun i hi => by have := List.mem_range.1 hi; simp at this; simp [this])]
    simp
  rw [h2] at h1
  have h3 : l.toArray.size = l.length := by simp
  rw [h3]
  exact h1
theorem fr_fin {s : Sp} {X : List Own} {Y : List Fact} {F : Sl} {K : Act → World → Prop} (hK : ∀ j a' w', Holds (m.plus ((s.res j).own ++ X) ((s.res j).fz ++ Y)) w' → Sat n (put (over S F) s.d (s.res j).val) a' → K a' w') (j : s.ι) :
    AQ (QK K) .normal n { m with own := (s.res j).own ++ (m.own ++ X), fz := (s.res j).fz ++ (m.fz ++ Y) } (put (over S F) s.d (s.res j).val) := fun w a hm hs => by
  refine hK j a w ?_ hs
  have := hm.re (own' := m.own ++ ((s.res j).own ++ X)) (rest := []) (fz' := m.fz ++ ((s.res j).fz ++ Y)) (by
    rw [List.append_nil, ← List.append_assoc, ← List.append_assoc]
    exact List.Perm.append_right _ List.perm_append_comm) (fun f hf => by
    simp only [List.mem_append] at hf ⊢
    rcases hf with hf | hf | hf
    · exact .inr (.inl hf)
    · exact .inl hf
    · exact .inr (.inr hf))
  exact this
theorem al_show {ops : Array Oper} {r : List Oper} (h : AL P ops r Q n m S) : AL P ops r Q n m S := h
theorem aq_show {e : Exit} (h : AQ Q e n m S) : AQ Q e n m S := h
theorem ta_show (h : TA P l Q n C L m S) : TA P l Q n C L m S := h
theorem ta_known {t : Nat} {b c : Bool} (ht : S t = some (.bool b)) (hb : b = c) (h : TA P l Q n C L m (put S t (.bool c))) : TA P l Q n C L m S := fun lst a w X Y i1 i2 i3 i4 =>
  h lst a w X Y i1 i2 i3 (i4.put_at (i4.val t _ (by rw [ht, hb])))
theorem al_known {ops : Array Oper} {r : List Oper} {t : Nat} {b c : Bool} (ht : S t = some (.bool b)) (hb : b = c) (h : AL P ops r Q n m (put S t (.bool c))) : AL P ops r Q n m S := fun w a i3 i4 =>
  h w a i3 (i4.put_at (i4.val t _ (by rw [ht, hb])))
theorem picks_plus {O X : List Own} {io : List Nat} (h : (io.all fun i => Nat.blt i O.length) = true) : picks (O ++ X) (io ++ List.range' O.length X.length) = picks O io ++ X := by
  unfold picks
  rw [List.filterMap_append]
  congr 1
  · have h' : ∀ i ∈ io, i < O.length := fun i hi => by have := List.all_eq_true.1 h i hi; simpa [Nat.blt_eq] using this
    clear h
    induction io with
    | nil => rfl
    | cons i io ih =>
      rw [List.filterMap_cons, List.filterMap_cons, List.getElem?_append_left (h' i (by simp)), ih (fun j hj => h' j (by simp [hj]))]
  · apply List.ext_getElem?
    intro k
    have key : ∀ (X : List Own) (b : Nat) (O : List Own), O.length = b → (List.range' b X.length).filterMap (fun i => (O ++ X)[i]?) = X := by
      intro X
      induction X with
      | nil => intro b O _; rfl
      | cons x X ih =>
        intro b O hb
        rw [List.length_cons, List.range'_succ, List.filterMap_cons]
        have e1 : (O ++ x :: X)[b]? = some x := by rw [List.getElem?_append_right (by omega), hb, Nat.sub_self]; rfl
        rw [e1]
        simp only
        congr 1
        have := ih (b + 1) (O ++ [x]) (by simp [hb])
        rw [List.append_assoc] at this
        exact this
    rw [key X O.length O rfl]
theorem nodup_plus {io : List Nat} {a k : Nat} (h : io.Nodup) (hl : (io.all fun i => Nat.blt i a) = true) : (io ++ List.range' a k).Nodup := by
  rw [List.nodup_append]
  refine ⟨h, List.nodup_range', fun i hi j hj e => ?_⟩
  have h1 := List.all_eq_true.1 hl i hi
  have h2 : i < a := by simpa [Nat.blt_eq] using h1
  have h3 := (List.mem_range'_1.1 hj).1
  omega
theorem norm_plus {w : World} {X : List Own} {Y : List Fact} (io iz : List Nat) (hm : Holds (m.plus X Y) w) (hio : io.Nodup) (hl : (io.all fun i => Nat.blt i m.own.length) = true) : Holds (Mem.plus { m with own := picks m.own io, fz := picks m.fz iz } X Y) w := by
  have h0 : ∀ o ∈ picks m.own io ++ X, o ∈ m.own ++ X := fun o ho => by
    rcases List.mem_append.1 ho with ho | ho
    · exact List.mem_append_left _ (picks_sub ho)
    · exact List.mem_append_right _ ho
  have h1 := hm.reown (picks m.own io ++ X) h0 (by
    rw [← picks_plus hl]
    exact picks_nodup (l := m.own ++ X) hm.nd (nodup_plus hio hl))
  have h2 := h1.refz (picks m.fz iz ++ Y) (fun f hf => by
    rcases List.mem_append.1 hf with hf | hf
    · exact List.mem_append_left _ (picks_sub hf)
    · exact List.mem_append_right _ hf)
  exact h2
def sameF (SS F : Sl) : List Nat → Prop
  | [] => True
  | d :: l => SS d = F d ∧ sameF SS F l
theorem sameF_mem {SS F : Sl} : ∀ {l : List Nat}, sameF SS F l → ∀ d ∈ l, SS d = F d
  | [], _, d, hd => by simp at hd
  | e :: l, h, d, hd => by
    rcases List.mem_cons.1 hd with rfl | hd
    · exact h.1
    · exact sameF_mem h.2 d hd
theorem aq_known {e : Exit} {t : Nat} {b c : Bool} (ht : S t = some (.bool b)) (hb : b = c) (h : AQ Q e n m (put S t (.bool c))) : AQ Q e n m S := fun w a i3 i4 =>
  h w a i3 (i4.put_at (i4.val t _ (by rw [ht, hb])))
theorem aq_next {C1 In : List Nat} {Lf : List Sp} {X : List Own} {Y : List Fact} {F : Sl} {K : Act → World → Prop} {SS : Sl} (hN : Next P l Q n C1 In Lf X Y F K) (io iz : List Nat) (tb : List (Nat × Value)) (D : List Nat) (Ln : List Sp) (hD : Lf.map Sp.d = D) (hLn : Ln.map Sp.i = In) (hio : io.Nodup) (hl : (io.all fun i => Nat.blt i m.own.length) = true) (hS : allT SS tb) (hF : sameF SS F D)
    (h : TA P l Q n C1 (Lf ++ Ln) { m with own := picks m.own io, fz := picks m.fz iz } (tab tb)) : AQ (QK K) .normal n (m.plus X Y) SS := fun w a hm hs => by
  subst hD
  refine hN _ _ _ hLn h a w (norm_plus io iz hm hio hl) (hs.tab tb (allT_mem hS)) (fun s hs' v hv => hs.val _ _ ?_)
  rw [sameF_mem hF s.d (List.mem_map_of_mem hs'), hv]
theorem al_enterX {ops : Array Oper} {rest : List Oper} {o : Oper} {ι : Type} {X : List Own} {Y : List Fact} {d : Nat} {f : FuncId} {vs : List Value} {pre : List Fact} {oin : List Own} {res : ι → Res} (hfn : FnOk P f vs pre oin res) (iv io ik : List Nat) (hpre : PreOk (m.plus X Y) iv pre) (hoin : picks m.own io = oin)
    (hX : ∀ j ∈ io, j ∉ iv) (hnd : (io ++ ik).Nodup) (hlt : ((io ++ ik ++ iv).all fun i => Nat.blt i m.own.length) = true) (hflat : iv = [] ∨ FlatRes res) (hrun : ∀ w a, Sat n S a → (execOp a.eval o).run P w = .ok (.enter f vs.toArray) w)
    (h : ∀ i, AL P ops rest Q n (Mem.plus { m with own := (res i).own ++ picks m.own ik, fz := (res i).fz ++ m.fz } X Y) (put S d (res i).val)) (hdd : o.dst = some d) (hd : Nat.blt d n = true) (hg : wantS ops S o true = true) : AL P ops (o :: rest) Q n (m.plus X Y) S := by
  rw [List.all_append, Bool.and_eq_true] at hlt
  have hl1 := hlt.1
  rw [List.all_append, Bool.and_eq_true] at hl1
  have e1 : picks (m.plus X Y).own io = oin := by
    rw [← hoin]
    show picks (m.own ++ X) io = picks m.own io
    unfold picks
    have h' : ∀ i ∈ io, i < m.own.length := fun i hi => by have := List.all_eq_true.1 hl1.1 i hi; simpa [Nat.blt_eq] using this
    clear hX hnd hlt hl1 hoin
    induction io with
    | nil => rfl
    | cons i io ih => rw [List.filterMap_cons, List.filterMap_cons, List.getElem?_append_left (h' i (by simp)), ih (fun j hj => h' j (by simp [hj]))]
  refine al_enter (m := m.plus X Y) hfn iv io (ik ++ List.range' m.own.length X.length) hpre e1 hX ?_ hflat hrun (fun i => ?_) hdd hd hg
  · rw [← List.append_assoc]
    exact nodup_plus hnd hlt.1
  · have e2 : picks (m.plus X Y).own (ik ++ List.range' m.own.length X.length) = picks m.own ik ++ X := picks_plus hl1.2
    rw [e2, ← List.append_assoc, show (m.plus X Y).fz = m.fz ++ Y from rfl, ← List.append_assoc]
    exact h i
theorem al_callX {ops : Array Oper} {rest : List Oper} {o : Oper} {ι : Type} {X : List Own} {Y : List Fact} {d : Nat} {f : FuncId} {fn : Func} {args : List Operand} {vs : List Value} {tys : Array TypeId} {pre : List Fact} {oin : List Own} {res : ι → Res} (hfn : FnOk P f vs pre oin res) (iv io ik : List Nat) (hpre : PreOk (m.plus X Y) iv pre) (hoin : picks m.own io = oin)
    (hX : ∀ j ∈ io, j ∉ iv) (hnd : (io ++ ik).Nodup) (hlt : ((io ++ ik ++ iv).all fun i => Nat.blt i m.own.length) = true) (hflat : iv = [] ∨ FlatRes res) (hargs : args.map (ev S) = vs.map some) (hf : P.funcs[f]? = some fn) (hb : fn.body.isNone = false) (hn : (fn.name == "runtime.NumGoroutine") = false)
    (ho : o.op = .call { callee := .value (.func f), args := args.toArray, argTypes := tys })
    (h : ∀ i, AL P ops rest Q n (Mem.plus { m with own := (res i).own ++ picks m.own ik, fz := (res i).fz ++ m.fz } X Y) (put S d (res i).val)) (hdd : o.dst = some d := by rfl) (hd : Nat.blt d n = true := by rfl) (hg : wantS ops S o true = true := by rfl) : AL P ops (o :: rest) Q n (m.plus X Y) S :=
  al_enterX hfn iv io ik hpre hoin hX hnd hlt hflat (fun w a hs => run_callV ho (evs hs hargs) hf hb hn w) h hdd hd hg
theorem al_callFX {ops : Array Oper} {rest : List Oper} {o : Oper} {ι : Type} {X : List Own} {Y : List Fact} {d : Nat} {f : FuncId} {fn : Func} {x : Operand} {args : List Operand} {vs caps vc : List Value} {tys : Array TypeId} {pre : List Fact} {oin : List Own} {res : ι → Res} (hfn : FnOk P f vc pre oin res) (hvc : vs ++ caps = vc) (iv io ik : List Nat) (hpre : PreOk (m.plus X Y) iv pre) (hoin : picks m.own io = oin)
    (hX : ∀ j ∈ io, j ∉ iv) (hnd : (io ++ ik).Nodup) (hlt : ((io ++ ik ++ iv).all fun i => Nat.blt i m.own.length) = true) (hflat : iv = [] ∨ FlatRes res) (hx : ev S x = some (.func (.func f) #[] caps.toArray)) (hargs : args.map (ev S) = vs.map some) (hf : P.funcs[f]? = some fn) (hb : fn.body.isNone = false) (hn : (fn.name == "runtime.NumGoroutine") = false)
    (ho : o.op = .call { callee := .value x, args := args.toArray, argTypes := tys })
    (h : ∀ i, AL P ops rest Q n (Mem.plus { m with own := (res i).own ++ picks m.own ik, fz := (res i).fz ++ m.fz } X Y) (put S d (res i).val)) (hdd : o.dst = some d := by rfl) (hd : Nat.blt d n = true := by rfl) (hg : wantS ops S o true = true := by rfl) : AL P ops (o :: rest) Q n (m.plus X Y) S :=
  al_enterX hfn iv io ik hpre hoin hX hnd hlt hflat (fun w a hs => by subst hvc; exact run_callF ho (hs.ev hx) (evs hs hargs) hf hb hn w) h hdd hd hg
end
end Go.Proofs.YtfhifdmbdkkgaaaDoor.En
