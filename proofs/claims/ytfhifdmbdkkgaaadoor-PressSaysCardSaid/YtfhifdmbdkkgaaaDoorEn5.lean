/- An engine for walks: calls, entry and return. No condition. -/
import Derived.Test.YtfhifdmbdkkgaaaDoorEn4
import Derived.Test.YtfhifdmbdkkgaaaDoorEn0
namespace Go.Proofs.YtfhifdmbdkkgaaaDoor.En
open Go.RowKit
set_option linter.unusedVariables false
set_option linter.unusedSimpArgs false
/-- what a call yields: a value, what of it is owned by the caller from now on, what is known of it -/
structure Res where
  val : Value
  own : List Own := []
  fz : List Fact := []
/-- a function's contract: 'pre' of the arguments, 'oin' what the caller hands over to be written -/
def FnOk (P : Program) (f : FuncId) (args : List Value) (pre : List Fact) (oin : List Own) {ι : Type} (res : ι → Res) : Prop :=
  ∀ (w : World) (Z : Nat → Prop), (∀ b, Z b → b < w.heap.size) → (oin.flatMap Own.blk).Nodup → (∀ b ∈ oin.flatMap Own.blk, b < w.heap.size ∧ ¬ Z b) → (∀ g ∈ pre, g.p Z w) → (∀ o ∈ oin, o.p Z w) →
    Calls P f args.toArray w fun e w' => ∃ i, e = .returned (res i).val ∧ Bel w.heap.size (oin.flatMap Own.blk) w w' ∧ ((res i).own.flatMap Own.blk).Nodup ∧ (∀ b ∈ (res i).own.flatMap Own.blk, b ∈ oin.flatMap Own.blk ∨ w.heap.size ≤ b) ∧
      ∀ Z' : Nat → Prop, (∀ b, b < w'.heap.size → b ∉ (res i).own.flatMap Own.blk → (b < w.heap.size → Z b) → Z' b) → (∀ o ∈ (res i).own, o.p Z' w') ∧ ∀ g ∈ (res i).fz, g.p Z' w'
section
variable {P : Program} {Q : Exit → Act → World → Prop} {n : Nat} {m : Mem} {S : Sl} {ops : Array Oper} {rest : List Oper} {o : Oper} {α β ι : Type}
/-! entry and return -/
def argTab : Nat → List Value → List (Nat × Value)
  | _, [] => []
  | k, v :: l => (k, v) :: argTab (k + 1) l
def memIn (w : World) (Z : Nat → Prop) (pre : List Fact) (oin : List Own) : Mem := { B := w.heap.size, w0 := w, Z0 := Z, X := oin.flatMap Own.blk, own := oin, fz := pre }
def FnPost (P : Program) (fn : Func) (w : World) (Z : Nat → Prop) (oin : List Own) (res : ι → Res) : Exit → Act → World → Prop :=
  bodyPost P fn fun e w' => ∃ i, e = .returned (res i).val ∧ Bel w.heap.size (oin.flatMap Own.blk) w w' ∧ ((res i).own.flatMap Own.blk).Nodup ∧ (∀ b ∈ (res i).own.flatMap Own.blk, b ∈ oin.flatMap Own.blk ∨ w.heap.size ≤ b) ∧
      ∀ Z' : Nat → Prop, (∀ b, b < w'.heap.size → b ∉ (res i).own.flatMap Own.blk → (b < w.heap.size → Z b) → Z' b) → (∀ o ∈ (res i).own, o.p Z' w') ∧ ∀ g ∈ (res i).fz, g.p Z' w'
theorem fn_enter {f : FuncId} {fn : Func} {c : Code} {args : List Value} {pre : List Fact} {oin : List Own} {res : ι → Res} (hf : P.funcs[f]? = some fn) (hb : fn.body = some c) (hn : fn.ntmps = n) (hargs : Nat.ble args.length n = true)
    (h : ∀ w Z, AW P c (FnPost P fn w Z oin res) n (memIn w Z pre oin) (tab (argTab 0 args))) : FnOk P f args pre oin res := fun w Z hZ hnd hX hpre hoin => by
  refine calls_of_wp hf hb (h w Z w _ ?_ ?_)
  · have hz : ∀ b, Z b → (memIn w Z pre oin).frz w b := fun b hb => ⟨hZ b hb, fun hx => (hX b hx).2 hb, fun _ => hb⟩
    exact ⟨Bel.refl _ _ _, rfl, hnd, fun b hb => .inr hb, hX, fun o ho => o.mono hz (hoin o ho), fun g hg => g.mono hz (hpre g hg)⟩
  · have hle : args.length ≤ n := by simpa [Nat.ble_eq] using hargs
    refine ⟨rfl, by simp [hn]; omega, ?_⟩
    have key : ∀ (l : List Value) (k : Nat) (t : Nat) (v : Value), tab (argTab k l) t = some v → k ≤ t ∧ l[t - k]? = some v := by
      intro l
      induction l with
      | nil => intro k t v hv; cases hv
      | cons u l ih =>
        intro k t v hv
        rcases put_some hv with ⟨rfl, rfl⟩ | ⟨hne, hv⟩
        · exact ⟨Nat.le_refl _, by simp⟩
        · obtain ⟨h1, h2⟩ := ih (k + 1) t v hv
          refine ⟨by omega, ?_⟩
          rw [show t - k = (t - (k + 1)) + 1 by omega, List.getElem?_cons_succ]
          exact h2
    intro t v hv
    obtain ⟨_, h2⟩ := key args 0 t v hv
    rw [Nat.sub_zero] at h2
    have hlt := (List.getElem?_eq_some_iff.1 h2).1
    simp only [Array.getD_eq_getD_getElem?]
    rw [Array.getElem?_append_left (by simpa using hlt)]
    simp [h2]
/-- at the return: the results stand in slots -/
theorem fn_ret {fn : Func} {w0 : World} {Z0 : Nat → Prop} {oin : List Own} {res : ι → Res} {v : Value} (i : ι) (io iz : List Nat) (hB : m.B = w0.heap.size) (hw : m.w0 = w0) (hZ : m.Z0 = Z0) (hX : m.X = oin.flatMap Own.blk)
    (hres : ∀ w a, Holds m w → Sat n S a → (results fn a.tmps).run P w = .ok v w) (hv : (res i).val = v) (ho : (res i).own = picks m.own io) (hf : (res i).fz = picks m.fz iz) (hio : io.Nodup) :
    AQ (FnPost P fn w0 Z0 oin res) .ret n m S := fun w a hm hs => by
  have hp := hm.pick io iz hio
  refine ⟨hs.def_, v, hres w a hm hs, i, by rw [hv], ?_, ?_, ?_, ?_⟩
  · have := hm.bel; rw [hB, hX, hw] at this; exact this
  · rw [ho]; exact hp.nd
  · rw [ho]; intro b hb
    rcases hp.lo b hb with h | h
    · right; rw [← hB]; exact h
    · left; rw [← hX]; exact h
  · intro Z' hZ'
    have hz : ∀ b, Mem.frz { m with own := picks m.own io, fz := picks m.fz iz } w b → Z' b := fun b hb => hZ' b hb.1 (by rw [ho]; exact hb.2.1) (fun hlt => by rw [← hZ]; exact hb.2.2 (by show b < m.B; rw [hB]; exact hlt))
    rw [ho, hf]
    exact ⟨fun o ho => o.mono hz (hp.own o ho), fun g hg => g.mono hz (hp.fz g hg)⟩
theorem fn_end {fn : Func} {w0 : World} {Z0 : Nat → Prop} {oin : List Own} {res : ι → Res} (h : AQ (FnPost P fn w0 Z0 oin res) .ret n m S) : AQ (FnPost P fn w0 Z0 oin res) .normal n m S := h
theorem res1 {fn : Func} {t : Nat} {v : Value} (hr : fn.results = #[.tmp t]) (hv : S t = some v) : ∀ w a, Holds m w → Sat n S a → (results fn a.tmps).run P w = .ok v w := fun w a _ hs => by
  rw [results_tmp hr, hs.val t v hv]
theorem res2 {fn : Func} {t u : Nat} {v x : Value} (hr : fn.results = #[.tmp t, .tmp u]) (hv : S t = some v) (hx : S u = some x) : ∀ w a, Holds m w → Sat n S a → (results fn a.tmps).run P w = .ok (.tuple #[v, x]) w := fun w a _ hs => by
  rw [results_tmp2 hr, hs.val t v hv, hs.val u x hx]
theorem res3 {fn : Func} {t u r : Nat} {v x y : Value} (hr : fn.results = #[.tmp t, .tmp u, .tmp r]) (hv : S t = some v) (hx : S u = some x) (hy : S r = some y) : ∀ w a, Holds m w → Sat n S a → (results fn a.tmps).run P w = .ok (.tuple #[v, x, y]) w := fun w a _ hs => by
  rw [results_tmp3 hr, hs.val t v hv, hs.val u x hx, hs.val r y hy]
/-! where ways meet -/
theorem aw_seq_join {x y : Code} {ι : Type _} (M : ι → Mem) (T : ι → Sl) (φ : ι → Prop) (hy : ∀ i, φ i → AW P y Q n (M i) (T i))
    (hx : AW P x (Exit.then (fun a w => ∃ i, φ i ∧ Holds (M i) w ∧ Sat n (T i) a) Q) n m S) : AW P (.seq x y) Q n m S := fun w a hm hs =>
  wp_seq (Code.wp_mono (fun e a w q => by
    cases e with
    | normal => obtain ⟨i, hp, h1, h2⟩ := q; exact hy i hp w a h1 h2
    | exit i => exact q
    | goto i => exact q
    | ret => exact q
    | panic ch => exact q
    | outgrown => exact q) (hx w a hm hs))
theorem aq_join {ι : Type _} {M : ι → Mem} {T : ι → Sl} {φ : ι → Prop} (i : ι) (hp : φ i) (h : ∀ w a, Holds m w → Sat n S a → Holds (M i) w ∧ Sat n (T i) a) :
    AQ (Exit.then (fun a w => ∃ i, φ i ∧ Holds (M i) w ∧ Sat n (T i) a) Q) .normal n m S := fun w a hm hs => ⟨i, hp, h w a hm hs⟩
theorem ov_cast {v v' : Value} (e : v' = v) (h : OpV P o n m S v) : OpV P o n m S v' := e ▸ h
/-! calls -/
theorem run_enter {f : FuncId} {fn : Func} (hf : P.funcs[f]? = some fn) (hb : fn.body.isNone = false) (hn : (fn.name == "runtime.NumGoroutine") = false) (w : World) (args : Array Value) : (callFunc f args).run P w = .ok (.enter f args) w := by
  have hn' : fn.name ≠ "runtime.NumGoroutine" := by simpa using hn
  have hb' : fn.body ≠ none := by intro e; rw [e] at hb; cases hb
  unfold callFunc
  simp [Sem.run_bind, program, Sem.run, hf, hn', hb']
/-- the facts that a callee asks for -/
def PreOk (m : Mem) (iv : List Nat) (pre : List Fact) : Prop := ∀ (w : World) (Z : Nat → Prop), Holds m w → (∀ b, m.frz w b → Z b) → (∀ j ∈ iv, ∀ o, m.own[j]? = some o → ∀ b ∈ o.blk, Z b) → ∀ g ∈ pre, g.p Z w
theorem pre_nil {iv : List Nat} : PreOk m iv [] := fun _ _ _ _ _ g hg => by cases hg
theorem pre_fz {iv : List Nat} {g : Fact} {l : List Fact} (i : Nat) (hi : m.fz[i]? = some g) (h : PreOk m iv l) : PreOk m iv (g :: l) := fun w Z hm hz hv x hx => by
  rcases List.mem_cons.1 hx with rfl | hx
  · exact x.mono hz (fz_at hm hi)
  · exact h w Z hm hz hv x hx
theorem pre_own {iv : List Nat} {v : Value} {e : TypeId} {τ : Ty α} {xs : List α} {l : List Fact} (i : Nat) (hi : m.own[i]? = some (oRow v e τ xs)) (hiv : iv.contains i = true) (h : PreOk m iv l) : PreOk m iv (fDat (tyList τ) [v] xs :: l) := fun w Z hm hz hv x hx => by
  rcases List.mem_cons.1 hx with rfl | hx
  · exact row_dat (own_at hm hi) hz (fun b hb => hv i (by simpa using hiv) _ hi b hb)
  · exact h w Z hm hz hv x hx
theorem pre_nilD {iv : List Nat} {τ : Ty α} {l : List Fact} (h : PreOk m iv l) : PreOk m iv (fDat (tyList τ) [.slice none 0 0] ([] : List α) :: l) := fun w Z hm hz hv x hx => by
  rcases List.mem_cons.1 hx with rfl | hx
  · exact nil_dat τ Z w
  · exact h w Z hm hz hv x hx
/-- a slice over a part of a box -/
theorem pre_box {iv : List Nat} {g off len c : Nat} {t : TypeId} {cs : List Value} {τ : Ty α} {xs : List α} {l : List Fact} (i : Nat) (hi : m.own[i]? = some (oBox g t cs)) (hiv : iv.contains i = true) (hlen : len = xs.length) (hc : len ≤ c) (hmx : len ≤ maxLen) (hrep : ∀ Z w, RepL τ Z w ((cs.drop off).take (len * τ.size)) xs) (h : PreOk m iv l) : PreOk m iv (fDat (tyList τ) [.slice (some ⟨g, off, none⟩) len c] xs :: l) := fun w Z hm hz hv x hx => by
  rcases List.mem_cons.1 hx with rfl | hx
  · refine ⟨_, _, _, rfl, hlen, hc, hmx, .inr ⟨_, _, rfl, ⟨hv i (by simpa using hiv) _ hi g (by simp [oBox]), fun j u hu => ?_⟩, hrep Z w⟩⟩
    rw [box_cell hm hi]
    rw [List.getElem?_take] at hu
    split at hu
    · rw [List.getElem?_drop] at hu; exact hu
    · cases hu
  · exact h w Z hm hz hv x hx
/-- a pointer to a box -/
theorem pre_boxP {iv : List Nat} {g : Nat} {t : TypeId} {cs : List Value} {τ : Ty α} {x : α} {l : List Fact} (i : Nat) (hi : m.own[i]? = some (oBox g t cs)) (hiv : iv.contains i = true) (hrep : ∀ Z w, τ.rep Z w cs x) (h : PreOk m iv l) : PreOk m iv (fPtr τ (ptr g 0) x :: l) := fun w Z hm hz hv y hy => by
  rcases List.mem_cons.1 hy with rfl | hy
  · refine ⟨⟨g, 0, none⟩, cs, rfl, ⟨hv i (by simpa using hiv) _ hi g (by simp [oBox]), fun j u hu => ?_⟩, hrep Z w⟩
    rw [box_cell hm hi, Nat.zero_add]; exact hu
  · exact h w Z hm hz hv y hy
/-- facts whose truth does not depend on what is readable -/
def FlatRes (res : ι → Res) : Prop := ∀ i, (∀ o ∈ (res i).own, ∀ Z Z' w, o.p Z w → o.p Z' w) ∧ ∀ g ∈ (res i).fz, ∀ Z Z' w, g.p Z w → g.p Z' w
theorem run_callV {f : FuncId} {args : List Operand} {tys : Array TypeId} {vs : List Value} {fn : Func} {a : Act} (ho : o.op = .call { callee := .value (.func f), args := args.toArray, argTypes := tys }) (hvs : args.map a.eval = vs) (hf : P.funcs[f]? = some fn) (hb : fn.body.isNone = false) (hn : (fn.name == "runtime.NumGoroutine") = false) (w : World) :
    (execOp a.eval o).run P w = .ok (.enter f vs.toArray) w := by
  unfold execOp
  simp only [ho]
  have h1 : (args.toArray.map a.eval) = vs.toArray := by rw [← hvs]; simp
  simp [resolve, Act.eval, Deferred.ofValue, invoke, h1, run_enter hf hb hn]
theorem run_callF {f : FuncId} {x : Operand} {args : List Operand} {tys : Array TypeId} {vs caps : List Value} {fn : Func} {a : Act} (ho : o.op = .call { callee := .value x, args := args.toArray, argTypes := tys }) (hx : a.eval x = .func (.func f) #[] caps.toArray) (hvs : args.map a.eval = vs) (hf : P.funcs[f]? = some fn) (hb : fn.body.isNone = false) (hn : (fn.name == "runtime.NumGoroutine") = false) (w : World) :
    (execOp a.eval o).run P w = .ok (.enter f (vs ++ caps).toArray) w := by
  unfold execOp
  simp only [ho]
  have h1 : (args.toArray.map a.eval) = vs.toArray := by rw [← hvs]; simp
  simp [resolve, hx, Deferred.ofValue, invoke, h1, run_enter hf hb hn]
theorem evs {a : Act} (hs : Sat n S a) : ∀ {args : List Operand} {vs : List Value}, args.map (ev S) = vs.map some → args.map a.eval = vs
  | [], [], _ => rfl
  | [], _ :: _, h => by cases h
  | _ :: _, [], h => by cases h
  | x :: args, v :: vs, h => by
    simp only [List.map_cons, List.cons.injEq] at h
    rw [List.map_cons, hs.ev h.1, evs hs h.2]
/-- a call: 'iv' are the own things that are shown to it, 'io' those that it may write -/
theorem al_enter {d : Nat} {f : FuncId} {vs : List Value} {pre : List Fact} {oin : List Own} {res : ι → Res} (hfn : FnOk P f vs pre oin res) (iv io ik : List Nat) (hpre : PreOk m iv pre) (hoin : picks m.own io = oin)
    (hX : ∀ j ∈ io, j ∉ iv) (hnd : (io ++ ik).Nodup) (hflat : iv = [] ∨ FlatRes res) (hrun : ∀ w a, Sat n S a → (execOp a.eval o).run P w = .ok (.enter f vs.toArray) w)
    (h : ∀ i, AL P ops rest Q n { m with own := (res i).own ++ picks m.own ik, fz := (res i).fz ++ m.fz } (put S d (res i).val)) (hdd : o.dst = some d := by rfl) (hd : Nat.blt d n = true := by rfl) (hg : wantS ops S o true = true := by rfl) : AL P ops (o :: rest) Q n m S :=
  al_step hg fun w a hm hs K hK => by
    unfold Oper.wp
    rw [hrun w a hs, Oper.upon_enter]
    let Z : Nat → Prop := fun b => m.frz w b ∨ ∃ j ∈ iv, ∃ o, m.own[j]? = some o ∧ b ∈ o.blk
    have hin : ∀ o ∈ oin, ∃ j ∈ io, m.own[j]? = some o := fun o ho => by
      rw [← hoin] at ho
      obtain ⟨j, hj, hjo⟩ := List.mem_filterMap.1 ho
      exact ⟨j, hj, hjo⟩
    have hblk : ∀ b ∈ oin.flatMap Own.blk, b ∈ m.blks ∧ ∃ j ∈ io, ∃ o, m.own[j]? = some o ∧ b ∈ o.blk := fun b hb => by
      obtain ⟨o, ho, hb⟩ := List.mem_flatMap.1 hb
      obtain ⟨j, hj, hjo⟩ := hin o ho
      exact ⟨List.mem_flatMap.2 ⟨o, List.mem_of_getElem? hjo, hb⟩, j, hj, o, hjo, hb⟩
    have hsplit := List.nodup_append.1 hnd
    have hndo : (oin.flatMap Own.blk).Nodup := by rw [← hoin]; exact picks_nodup hm.nd hsplit.1
    have hfz : ∀ b, m.frz w b → b ∉ m.blks := fun b hb => hb.2.1
    have hc := hfn w Z (fun b hb => by
        rcases hb with hb | ⟨j, _, o, ho, hb⟩
        · exact hb.1
        · exact hm.lt (List.mem_flatMap.2 ⟨o, List.mem_of_getElem? ho, hb⟩)) hndo
      (fun b hb => by
        obtain ⟨h1, j, hj, o, hjo, hbo⟩ := hblk b hb
        refine ⟨hm.lt h1, fun hz => ?_⟩
        rcases hz with hz | ⟨j', hj', o', hjo', hbo'⟩
        · exact hz.2.1 h1
        · exact nodup_flat hm.nd hjo hjo' (fun e => hX j hj (e ▸ hj')) b hbo hbo')
      (hpre w Z hm (fun b hb => .inl hb) (fun j hj o ho b hb => .inr ⟨j, hj, o, ho, hb⟩))
      (fun o ho => by
        obtain ⟨j, _, hjo⟩ := hin o ho
        exact o.mono (fun b hb => .inl hb) (own_at hm hjo))
    refine hc.mono fun e w' ⟨i, he, hbel, hnd', hlo', hz'⟩ => ?_
    subst he
    refine hK _ _ (h i w' _ ?_ (hs.put' hdd hd _))
    have hstep : Step m w (oin.flatMap Own.blk) w' := ⟨hbel.os, hbel.tape, hbel.output, hbel.size, hbel.block⟩
    have hout : ∀ b ∈ (res i).own.flatMap Own.blk, b ∈ oin.flatMap Own.blk ∨ w.heap.size ≤ b := hlo'
    have hk : ∀ o ∈ picks m.own ik, o ∈ m.own ∧ ∀ b ∈ o.blk, b ∉ oin.flatMap Own.blk := fun o ho => by
      refine ⟨picks_sub ho, fun b hb hx => ?_⟩
      obtain ⟨j, hj, hjo⟩ := List.mem_filterMap.1 ho
      obtain ⟨_, j', hj', o', hjo', hbo'⟩ := hblk b hx
      exact nodup_flat hm.nd hjo hjo' (fun e => hsplit.2.2 j' hj' j hj e.symm) b hb hbo'
    have hnew : ∀ Z' : Nat → Prop, (∀ b, m.frz w b → Z' b) → (∀ b, w.heap.size ≤ b → b < w'.heap.size → b ∉ (res i).own.flatMap Own.blk → Z' b) → (∀ o ∈ (res i).own, o.p Z' w') ∧ ∀ g ∈ (res i).fz, g.p Z' w' := by
      intro Z' h1 h2
      rcases hflat with hiv | hflat
      · refine hz' Z' (fun b hb1 hb2 hb3 => ?_)
        by_cases hlt : b < w.heap.size
        · rcases hb3 hlt with hx | ⟨j, hj, _⟩
          · exact h1 b hx
          · rw [hiv] at hj; cases hj
        · exact h2 b (by omega) hb1 hb2
      · obtain ⟨h3, h4⟩ := hz' (fun _ => True) (fun _ _ _ _ => trivial)
        exact ⟨fun o ho => (hflat i).1 o ho _ _ _ (h3 o ho), fun g hg => (hflat i).2 g hg _ _ _ (h4 g hg)⟩
    have hs1 := hm.step hstep (fun b hb => (hblk b hb).1) (picks m.own ik) (res i).own (by
        rw [List.flatMap_append, List.nodup_append]
        refine ⟨hnd', picks_nodup hm.nd hsplit.2.1, fun b hb c hc e => ?_⟩
        subst e
        obtain ⟨o, ho, hbo⟩ := List.mem_flatMap.1 hc
        rcases hout b hb with hx | hx
        · exact (hk o ho).2 b hbo hx
        · have := hm.lt (List.mem_flatMap.2 ⟨o, (hk o ho).1, hbo⟩); omega)
      hk (fun o ho => ⟨fun b hb => hout b (List.mem_flatMap.2 ⟨o, ho, hb⟩), fun Z' h1 h2 => (hnew Z' h1 h2).1 o ho⟩)
    refine hs1.adds fun g hg => ?_
    refine (hnew _ (fun b hb => ⟨Nat.lt_of_lt_of_le hb.1 hbel.size, fun hx => ?_, hb.2.2⟩) (fun b h1 h2 h3 => ⟨h2, fun hx => ?_, fun hlt => ?_⟩)).2 g hg
    · obtain ⟨o, ho, hbo⟩ := List.mem_flatMap.1 hx
      rcases List.mem_append.1 ho with ho | ho
      · rcases hout b (List.mem_flatMap.2 ⟨o, ho, hbo⟩) with hx | hx
        · exact hb.2.1 (hblk b hx).1
        · have := hb.1; omega
      · exact hb.2.1 (List.mem_flatMap.2 ⟨o, (hk o ho).1, hbo⟩)
    · obtain ⟨o, ho, hbo⟩ := List.mem_flatMap.1 hx
      rcases List.mem_append.1 ho with ho | ho
      · exact h3 (List.mem_flatMap.2 ⟨o, ho, hbo⟩)
      · have := hm.lt (List.mem_flatMap.2 ⟨o, (hk o ho).1, hbo⟩); omega
    · have := hm.size; have hlt' : b < m.B := hlt; omega
theorem al_call {d : Nat} {f : FuncId} {fn : Func} {args : List Operand} {vs : List Value} {tys : Array TypeId} {pre : List Fact} {oin : List Own} {res : ι → Res} (hfn : FnOk P f vs pre oin res) (iv io ik : List Nat) (hpre : PreOk m iv pre) (hoin : picks m.own io = oin)
    (hX : ∀ j ∈ io, j ∉ iv) (hnd : (io ++ ik).Nodup) (hflat : iv = [] ∨ FlatRes res) (hargs : args.map (ev S) = vs.map some) (hf : P.funcs[f]? = some fn) (hb : fn.body.isNone = false) (hn : (fn.name == "runtime.NumGoroutine") = false)
    (ho : o.op = .call { callee := .value (.func f), args := args.toArray, argTypes := tys })
    (h : ∀ i, AL P ops rest Q n { m with own := (res i).own ++ picks m.own ik, fz := (res i).fz ++ m.fz } (put S d (res i).val)) (hdd : o.dst = some d := by rfl) (hd : Nat.blt d n = true := by rfl) (hg : wantS ops S o true = true := by rfl) : AL P ops (o :: rest) Q n m S :=
  al_enter hfn iv io ik hpre hoin hX hnd hflat (fun w a hs => run_callV ho (evs hs hargs) hf hb hn w) h hdd hd hg
/-- a call of a function value -/
theorem al_callF {d : Nat} {f : FuncId} {fn : Func} {x : Operand} {args : List Operand} {vs caps vc : List Value} {tys : Array TypeId} {pre : List Fact} {oin : List Own} {res : ι → Res} (hfn : FnOk P f vc pre oin res) (hvc : vs ++ caps = vc) (iv io ik : List Nat) (hpre : PreOk m iv pre) (hoin : picks m.own io = oin)
    (hX : ∀ j ∈ io, j ∉ iv) (hnd : (io ++ ik).Nodup) (hflat : iv = [] ∨ FlatRes res) (hx : ev S x = some (.func (.func f) #[] caps.toArray)) (hargs : args.map (ev S) = vs.map some) (hf : P.funcs[f]? = some fn) (hb : fn.body.isNone = false) (hn : (fn.name == "runtime.NumGoroutine") = false)
    (ho : o.op = .call { callee := .value x, args := args.toArray, argTypes := tys })
    (h : ∀ i, AL P ops rest Q n { m with own := (res i).own ++ picks m.own ik, fz := (res i).fz ++ m.fz } (put S d (res i).val)) (hdd : o.dst = some d := by rfl) (hd : Nat.blt d n = true := by rfl) (hg : wantS ops S o true = true := by rfl) : AL P ops (o :: rest) Q n m S :=
  al_enter hfn iv io ik hpre hoin hX hnd hflat (fun w a hs => by subst hvc; exact run_callF ho (hs.ev hx) (evs hs hargs) hf hb hn w) h hdd hd hg
theorem aq_nilR {e : Exit} (et : TypeId) (τ : Ty α) (h : AQ Q e n (m.push (oRow (.slice none 0 0) et τ ([] : List α))) S) : AQ Q e n m S := fun w a hm hs =>
  h w a (hm.push (w' := w) (Below.refl _ _) (by simp [oRow, Value.ownBlock]) (by simp [oRow, Value.ownBlock]) (fun Z _ => nil_own et τ Z w)) hs
theorem aq_nilD {e : Exit} (τ : Ty α) (h : AQ Q e n (m.add (fDat (tyList τ) [.slice none 0 0] ([] : List α))) S) : AQ Q e n m S := fun w a hm hs => h w a (hm.add (nil_dat τ _ _)) hs
theorem aq_freeze {e' : Exit} (i : Nat) {v : Value} {e : TypeId} {τ : Ty α} {xs : List α} (hi : m.own[i]? = some (oRow v e τ xs)) (hX : m.X = [])
    (h : AQ Q e' n (Mem.add { m with own := m.own.take i ++ m.own.drop (i + 1) } (fDat (tyList τ) [v] xs)) S) : AQ Q e' n m S := fun w a hm hs => h w a (hm.freeze hi hX) hs
/-! kinds of data without memory behind them -/
def FlatTy (τ : Ty α) : Prop := ∀ Z Z' w w' cs x, τ.rep Z w cs x → τ.rep Z' w' cs x
theorem flat_list {τ : Ty α} (h : FlatTy τ) : ∀ {Z Z' : Nat → Prop} {w w' : World} {xs : List α} {cs : List Value}, RepL τ Z w cs xs → RepL τ Z' w' cs xs
  | _, _, _, _, [], _, hr => hr
  | _, _, _, _, x :: xs, _, hr => by obtain ⟨c1, c2, he, h1, h2⟩ := hr; exact ⟨c1, c2, he, h _ _ _ _ _ _ h1, flat_list h h2⟩
theorem flat_pair {a : Ty α} {b : Ty β} (ha : FlatTy a) (hb : FlatTy b) : FlatTy (tyPair a b) := fun Z Z' w w' cs x hr => by
  obtain ⟨c1, c2, he, h1, h2⟩ := hr; exact ⟨c1, c2, he, ha _ _ _ _ _ _ h1, hb _ _ _ _ _ _ h2⟩
theorem flat_via {f : α → β} {b : Ty β} (hb : FlatTy b) : FlatTy (tyVia f b) := fun Z Z' w w' cs x hr => hb _ _ _ _ _ _ hr
theorem flat_enc {k : Nat} {enc : α → List Value} {h1 h2} : FlatTy (tyEnc k enc h1 h2) := fun Z Z' w w' cs x hr => hr
theorem flat_row {v : Value} {e : TypeId} {τ : Ty α} {xs : List α} (h : FlatTy τ) : ∀ Z Z' w, (oRow v e τ xs).p Z w → (oRow v e τ xs).p Z' w := fun Z Z' w hr => by
  obtain ⟨cs, h1, h2⟩ := hr; exact ⟨cs, h1, flat_list h h2⟩
theorem flat_res0 {v : ι → Value} : FlatRes (fun i => { val := v i } : ι → Res) := fun i => ⟨by simp, by simp⟩
theorem flat_res1 {v : ι → Value} {o : ι → Own} (h : ∀ i Z Z' w, (o i).p Z w → (o i).p Z' w) : FlatRes (fun i => { val := v i, own := [o i] } : ι → Res) := fun i => ⟨by simpa using fun Z Z' w => h i Z Z' w, by simp⟩
theorem bif_t {b : Bool} {x y : Option β} {r : β} (hb : b = true) (h : (bif b then x else y) = some r) : x = some r := by rw [hb] at h; exact h
theorem bif_f {b : Bool} {x y : Option β} {r : β} (hb : b = false) (h : (bif b then x else y) = some r) : y = some r := by rw [hb] at h; exact h
end
end Go.Proofs.YtfhifdmbdkkgaaaDoor.En
