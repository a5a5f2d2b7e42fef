/- An engine for walks: statements whose order is open. No condition. -/
import Derived.Test.YtfhifdmbdkkgaaaDoorEn6
import Derived.StillTail
namespace Go.Proofs.YtfhifdmbdkkgaaaDoor.En
open Go.RowKit
set_option linter.unusedVariables false
set_option linter.unusedSimpArgs false
def fTop : Fact := ⟨fun _ _ => True, fun _ h => h, fun _ h => h⟩
def fEq (v t : Value) : Fact := ⟨fun _ _ => v = t, fun _ h => h, fun _ h => h⟩
def fElt (v p : Value) (k : Nat) : Fact := ⟨fun _ _ => EltOf v p k, fun _ h => h, fun _ h => h⟩
/-- an operation that only adds to memory: it yields a value with Φ -/
def Tame (P : Program) (o : Oper) (a : Act) (w : World) (Φ : Value → World → Prop) : Prop :=
  (∃ v w', (execOp a.eval o).run P w = .ok (.value v) w' ∧ Φ v w') ∨ (∃ f args, (execOp a.eval o).run P w = .ok (.enter f args) w ∧ Calls P f args w fun e w' => ∃ v, e = .returned v ∧ Φ v w')
theorem Tame.wp {P : Program} {o : Oper} {a : Act} {w : World} {Φ : Value → World → Prop} {K : Act → World → Prop} {Q : Exit → Act → World → Prop} (h : Tame P o a w Φ) (hK : ∀ v w', Φ v w' → K (a.put o.dst v) w') : o.wp P a w K Q := by
  unfold Oper.wp
  rcases h with ⟨v, w', hr, hv⟩ | ⟨f, args, hr, hc⟩
  · rw [hr, Oper.upon_value]; exact hK v w' hv
  · rw [hr, Oper.upon_enter]
    refine hc.mono fun e w' ⟨v, he, hv⟩ => ?_
    subst he; exact hK v w' hv
abbrev Spec := List (Nat × (Value → Fact))
def FactAt (m : Mem) (L : Spec) (j : Nat) (w : World) (a : Act) : Prop := match L[j]? with | some (d, R) => (R (a.tmps.getD d undef)).p (m.frz w) w | none => True
def LocD (P : Program) (ops : Array Oper) (m0 : Mem) (L : Spec) (o : Oper) (E : List Nat) (n : Nat) (m : Mem) (S : Sl) (R : Value → Fact) : Prop := ∀ w a, Holds m0 w → Holds m w → m.frz w = m0.frz w → Sat n S a → (∀ j ∈ E, FactAt m0 L j w a) →
  if Region.wanted o (yielded ops a.tmps) then Tame P o a w (fun v w' => Below w.heap.size w w' ∧ (R v).p (m0.frz w') w') else (R undef).p (m0.frz w) w
def edgesOf (o : Oper) : List Nat := (o.after.toList.filter fun e => Region.binds .any e).map (·.on)
def LocFrom (P : Program) (ops : Array Oper) (n : Nat) (m : Mem) (S : Sl) (L : Spec) : Spec → List Oper → Prop
  | [], _ => True
  | _ :: _, [] => False
  | s :: L', o :: l => (o.dst = some s.1 ∧ LocD P ops m L o (edgesOf o) n m S s.2) ∧ LocFrom P ops n m S L L' l
theorem LocFrom.at {P : Program} {ops : Array Oper} {n : Nat} {m : Mem} {S : Sl} {L : Spec} : ∀ {L' : Spec} {l : List Oper}, LocFrom P ops n m S L L' l → ∀ {i : Nat} {s : Nat × (Value → Fact)}, L'[i]? = some s → ∃ o, l[i]? = some o ∧ o.dst = some s.1 ∧ LocD P ops m L o (edgesOf o) n m S s.2
  | [], _, _, i, s, hi => by simp at hi
  | _ :: _, [], h, _, _, _ => h.elim
  | s' :: L', o :: l, h, 0, s, hi => by simp at hi; subst hi; exact ⟨o, rfl, h.1.1, h.1.2⟩
  | s' :: L', o :: l, h, i + 1, s, hi => by rw [List.getElem?_cons_succ] at hi ⊢; exact LocFrom.at h.2 hi
def prefixA (k n : Nat) : Array Bool := ((List.replicate k true) ++ List.replicate (n - k) false).toArray
theorem Sat.put_none {n : Nat} {S : Sl} {a : Act} (h : Sat n S a) {d : Nat} (hd : S d = none) (v : Value) : Sat n S (a.put (some d) v) := by
  refine ⟨h.def_, by simp [Act.put, h.size], fun t u hu => ?_⟩
  have hne : t ≠ d := fun e => by rw [e, hd] at hu; cases hu
  have h0 := h.val t u hu
  have he : (a.tmps.setIfInBounds d v).getD t undef = a.tmps.getD t undef := by
    simp only [Array.getD_eq_getD_getElem?]
    rw [Array.getElem?_setIfInBounds_ne (fun e => hne e.symm)]
  exact he.trans h0
theorem nodup_idx {l : List Nat} (h : l.Nodup) {i j : Nat} {x : Nat} (hi : l[i]? = some x) (hj : l[j]? = some x) : i = j := by
  have h1 := (List.getElem?_eq_some_iff.1 hi)
  have h2 := (List.getElem?_eq_some_iff.1 hj)
  obtain ⟨hi', e1⟩ := h1
  obtain ⟨hj', e2⟩ := h2
  exact (List.getElem_inj h).1 (e1.trans e2.symm)
def TailOk (P : Program) (ops : Array Oper) (l : List Oper) (Q : Exit → Act → World → Prop) (m0 : Mem) (L : Spec) (n : Nat) (m : Mem) (S : Sl) : Prop := ∀ w a, Holds m0 w → Holds m w → m.frz w = m0.frz w → Sat n S a → (∀ j, FactAt m0 L j w a) → wpList P ops Q l a w
theorem set_prefix {listed : Array Bool} {k n : Nat} (hk : k ≤ n) (hs : listed.size = n) (hp : ∀ i, i < k → listed.getD i false = true) (ht : ∀ t, k ≤ t → t < n → listed.getD t true = false) : listed = prefixA k n := by
  unfold prefixA
  apply Array.ext_getElem?
  intro i
  by_cases hi : i < n
  · have hi' : i < listed.size := by omega
    rw [Array.getElem?_eq_getElem hi']
    by_cases hik : i < k
    · have := hp i hik
      simp [hi'] at this
      simp [List.getElem?_append, hik, this]
    · have := ht i (by omega) hi
      simp [hi'] at this
      rw [List.getElem?_toArray, List.getElem?_append_right (by simp; omega), List.getElem?_replicate, if_pos (by simp; omega), this]
  · rw [Array.getElem?_eq_none (by omega)]
    simp
    omega
theorem fact_ext {m : Mem} {w w' : World} (hb : Below w.heap.size w w') {f : Fact} (h : f.p (m.frz w) w) : f.p (m.frz w') w' :=
  f.mono (fun b hb' => ⟨Nat.lt_of_lt_of_le hb'.1 hb.size, hb'.2⟩) (f.keep (fun b hb' => hb.block b hb'.1) h)
def backB (l : List Oper) : Bool := (l.zipIdx.all fun p => p.1.after.all fun e => !Region.binds .any e || Nat.blt e.on p.2)
theorem backB_spec {l : List Oper} (h : backB l = true) {i : Nat} {o : Oper} (hi : l[i]? = some o) : ∀ e ∈ o.after, Region.binds .any e = true → e.on < i := fun e he hb => by
  have h1 := List.all_eq_true.1 h (o, i) (List.mem_iff_getElem?.2 ⟨i, by rw [List.getElem?_zipIdx, hi]; simp⟩)
  have h2 := Array.all_eq_true'.1 h1 e he
  simpa [hb, Nat.blt_eq] using h2
def nodupB : List Nat → Bool
  | [] => true
  | x :: l => !(l.any fun y => Nat.beq x y) && nodupB l
theorem nodupB_spec : ∀ {l : List Nat}, nodupB l = true → l.Nodup
  | [], _ => List.nodup_nil
  | x :: l, h => by
    simp only [nodupB, Bool.and_eq_true, Bool.not_eq_true', List.any_eq_false] at h
    refine List.nodup_cons.2 ⟨fun hx => ?_, nodupB_spec h.2⟩
    have := h.1 x hx
    simp at this
/-- a region in an open order: a head that only adds to memory, then a tail in the order of the text -/
theorem aw_region_draw {P : Program} {Q : Exit → Act → World → Prop} {n : Nat} {m : Mem} {S : Sl} {id : Nat} {l : List Oper} (k : Nat) (L : Spec) (S' : Sl) (hm : P.follows .mixedOrders = true)
    (hB : (decide (k < l.length) && L.length == k && backB l && Region.sinkB .any l.toArray k && Region.chainB .any l.toArray k && Region.seqB .any l.toArray (l.length - k) k (prefixA k l.length)) = true)
    (hD : nodupB (L.map (·.1)) = true) (hn : (L.all fun s => Nat.blt s.1 n) = true) (hS0 : (L.all fun s => (S' s.1).isNone) = true) (hS : ∀ a, Sat n S a → Sat n S' a)
    (hloc : LocFrom P l.toArray n m S' L L l) (htail : TailOk P l.toArray (l.drop k) Q m L n m S') : AW P (.region id l.toArray true) Q n m S := fun w a hm0 hs0 => by
  simp only [Bool.and_eq_true, decide_eq_true_eq, beq_iff_eq] at hB
  obtain ⟨⟨⟨⟨⟨hkl, hLk⟩, hback⟩, hsink⟩, hchain⟩, hseq⟩ := hB
  have hD := nodupB_spec hD
  refine wp_region_any hm ?_
  have hop : ∀ i, i < k → ∃ s, L[i]? = some s := fun i hi => ⟨_, List.getElem?_eq_getElem (by omega)⟩
  have main : ∀ (f : Nat) (listed : Array Bool) (a : Act) (w : World), HeadInv .any l.toArray k listed → ((List.range k).filter fun i => !listed.getD i true).length = f → Holds m w → Sat n S' a →
      (∀ j, j < k → listed.getD j false = true → FactAt m L j w a) → wpAny P .any l.toArray Q (f + (l.length - k)) listed a w := by
    intro f
    induction f with
    | zero =>
      intro listed a w inv hf hmw hsa hfacts
      rw [Nat.zero_add]
      have hall : ∀ i, i < k → listed.getD i false = true := fun i hi => by
        have h0 : (List.range k).filter (fun i => !listed.getD i true) = [] := List.eq_nil_of_length_eq_zero hf
        have h1 := List.filter_eq_nil_iff.1 h0 i (List.mem_range.2 hi)
        have hsz : i < listed.size := by rw [inv.size]; simp; omega
        simp [hsz] at h1 ⊢; exact h1
      have hpre := set_prefix (n := l.length) (by omega) (by rw [inv.size]; simp) hall (fun t ht1 ht2 => inv.tail t ht1 (by simpa using ht2))
      have hdl : (l.drop k).length = l.length - k := by simp
      have := wpAny_of_seq (P := P) (md := .any) (Q' := Q) (ops := l.toArray) (l.drop k) k listed a w (fun j => by simp [List.getElem?_drop]) (by rw [hdl, hpre]; exact hseq) (htail w a hmw hmw rfl hsa (fun j => by
        by_cases hj : j < k
        · exact hfacts j hj (hall j hj)
        · unfold FactAt; rw [List.getElem?_eq_none (by omega)]; trivial))
      rwa [hdl] at this
    | succ f ih =>
      intro listed a w inv hf hmw hsa hfacts
      rw [show f + 1 + (l.length - k) = (f + (l.length - k)) + 1 by omega]
      obtain ⟨i0, hi0⟩ : ∃ i, i ∈ (List.range k).filter fun i => !listed.getD i true := by
        cases hq : (List.range k).filter (fun i => !listed.getD i true) with
        | nil => rw [hq] at hf; cases hf
        | cons x _ => exact ⟨x, by simp⟩
      have hi0' := List.mem_filter.1 hi0
      have hi0k : i0 < k := List.mem_range.1 hi0'.1
      have hun0 : listed.getD i0 true = false := by simpa using hi0'.2
      have hlt : ∀ t, k ≤ t → t ∉ Region.ready .any l.toArray listed := tail_waits hsink hchain (by simpa using hkl) inv _ i0 rfl hi0k hun0
      refine ⟨fun hempty => ?_, fun i hi => ?_⟩
      · exfalso
        have key : ∀ q, q < k → listed.getD q true = false → False := by
          intro q
          induction q using Nat.strongRecOn with
          | _ q ihq =>
            intro hq hunq
            obtain ⟨s, hs⟩ := hop q hq
            obtain ⟨o, ho, _, _⟩ := hloc.at hs
            have hready : q ∈ Region.ready .any l.toArray listed := mem_ready.2 ⟨hunq, o, by simpa using ho, fun e he hb => by
              have hlt' := backB_spec hback ho e he hb
              have hsz : e.on < listed.size := by rw [inv.size]; simp; omega
              cases hl : listed.getD e.on false with
              | true => rfl
              | false => exact (ihq e.on hlt' (by omega) (getD_in hsz hl)).elim⟩
            rw [hempty] at hready; cases hready
        exact key i0 hi0k hun0
      · have hik : i < k := by
          rcases Nat.lt_or_ge i k with h | h
          · exact h
          · exact absurd hi (hlt i h)
        obtain ⟨hun, o', ho', hall⟩ := mem_ready.1 hi
        obtain ⟨s, hs⟩ := hop i hik
        obtain ⟨o, ho, hd, hl⟩ := hloc.at hs
        have hoo : o' = o := by have : l.toArray[i]? = some o := by simpa using ho
                                rw [this] at ho'; exact (Option.some.inj ho').symm
        subst hoo
        have hsn : Nat.blt s.1 n = true := List.all_eq_true.1 hn s (List.mem_of_getElem? hs)
        have hs0' : S' s.1 = none := by have := List.all_eq_true.1 hS0 s (List.mem_of_getElem? hs); simpa using this
        have hedge : ∀ j ∈ edgesOf o', FactAt m L j w a := fun j hj => by
          obtain ⟨e, he, rfl⟩ := List.mem_map.1 hj
          have he' := List.mem_filter.1 he
          exact hfacts e.on (by have := backB_spec hback ho e (by simpa using he'.1) he'.2; omega) (hall e (by simpa using he'.1) he'.2)
        have hloci := hl w a hmw hmw rfl hsa hedge
        have hszi : i < listed.size := by rw [inv.size]; simp; omega
        have next : ∀ v w', Below w.heap.size w w' → (s.2 v).p (m.frz w') w' → wpAny P .any l.toArray Q (f + (l.length - k)) (listed.setIfInBounds i true) (a.put o'.dst v) w' := fun v w' hb hv => by
          rw [hd]
          have hsz2 : s.1 < a.tmps.size := by rw [hsa.size]; simpa [Nat.blt_eq] using hsn
          refine ih _ _ _ (inv.set hi hik) ?_ (hmw.ext hb) (hsa.put_none hs0' v) (fun j hj hlj => ?_)
          · have e1 : (List.range k).filter (fun q => !(listed.setIfInBounds i true).getD q true) = ((List.range k).filter fun q => !listed.getD q true).filter (fun q => decide (q ≠ i)) := by
              rw [List.filter_filter]
              apply List.filter_congr
              intro q _
              by_cases hqi : q = i
              · subst hqi; simp [hszi]
              · rw [getD_set_ne true (fun e => hqi e.symm)]; simp [hqi]
            rw [e1]
            have hmem : i ∈ (List.range k).filter fun q => !listed.getD q true := List.mem_filter.2 ⟨List.mem_range.2 hik, by simp [hun]⟩
            have hndp : ((List.range k).filter fun q => !listed.getD q true).Nodup := List.Pairwise.filter _ List.nodup_range
            have h2 := List.Nodup.erase_eq_filter hndp i
            have h3 := List.length_erase_of_mem hmem
            rw [h2] at h3
            have h4 : List.filter (fun q => decide (q ≠ i)) ((List.range k).filter fun q => !listed.getD q true) = List.filter (fun q => q != i) ((List.range k).filter fun q => !listed.getD q true) := by
              apply List.filter_congr; intro q _; by_cases hqi : q = i <;> simp [hqi]
            rw [h4, h3, hf]; rfl
          · unfold FactAt
            by_cases hji : j = i
            · subst hji
              rw [hs]
              show (s.2 ((a.tmps.setIfInBounds s.1 v).getD s.1 undef)).p (m.frz w') w'
              have : (a.tmps.setIfInBounds s.1 v).getD s.1 undef = v := by simp [Array.getD_eq_getD_getElem?, hsz2]
              rw [this]; exact hv
            · rw [getD_set_ne false (fun e => hji e.symm)] at hlj
              have h1 := hfacts j hj hlj
              unfold FactAt at h1
              cases hLj : L[j]? with
              | none => trivial
              | some sj =>
                obtain ⟨dj, Rj⟩ := sj
                rw [hLj] at h1
                simp only at h1 ⊢
                have hne : dj ≠ s.1 := fun e => hji (nodup_idx hD (x := s.1) (by rw [List.getElem?_map, hLj]; simp [e]) (by rw [List.getElem?_map, hs]; rfl))
                have : (a.tmps.setIfInBounds s.1 v).getD dj undef = a.tmps.getD dj undef := by
                  simp only [Array.getD_eq_getD_getElem?]
                  rw [Array.getElem?_setIfInBounds_ne (fun e => hne e.symm)]
                show (Rj ((a.tmps.setIfInBounds s.1 v).getD dj undef)).p (m.frz w') w'
                rw [this]
                exact fact_ext hb h1
        unfold wpOp
        rw [show l.toArray[i]? = some o' by simpa using ho]
        simp only
        split
        · rename_i hw
          rw [if_pos hw] at hloci
          exact .inl (hloci.wp fun v w' h => next v w' h.1 h.2)
        · rename_i hw
          rw [if_neg hw] at hloci
          exact next undef w (Below.refl _ _) hloci
  have inv0 : HeadInv .any l.toArray k (Array.replicate l.toArray.size false) :=
    ⟨by simp, fun j oj _ hl => (by rw [getD_replicate_false] at hl; cases hl), fun t _ ht => getD_in (by simpa using ht) (getD_replicate_false _ _)⟩
  have hdrew : Below w.heap.size w { w with drawn := w.drawn + 1 } := (Below.refl _ _).drew
  have := main k (Array.replicate l.toArray.size false) a { w with drawn := w.drawn + 1 } inv0 (by
      have : (List.range k).filter (fun i => !(Array.replicate l.toArray.size false).getD i true) = List.range k := by
        apply List.filter_eq_self.2
        intro i hi
        have hik := List.mem_range.1 hi
        have : i < l.length := by omega
        simp [this]
      rw [this]; simp) (hm0.ext hdrew) (hS a hs0) (fun j _ hl => by rw [getD_replicate_false] at hl; cases hl)
  rw [show k + (l.length - k) = l.toArray.size by simp; omega] at this
  exact this
/-! rules for the head -/
section
variable {P : Program} {Q : Exit → Act → World → Prop} {n : Nat} {m0 m : Mem} {S : Sl} {ops : Array Oper} {o : Oper} {E : List Nat} {L : Spec} {R : Value → Fact} {α ι : Type}
theorem add_frz (m : Mem) (f : Fact) (w : World) : (m.add f).frz w = m.frz w := rfl
theorem Sat.put_at {a : Act} (h : Sat n S a) {d : Nat} {v : Value} (hv : a.tmps.getD d undef = v) : Sat n (En.put S d v) a :=
  ⟨h.def_, h.size, fun t u hu => by
    rcases put_some hu with ⟨rfl, rfl⟩ | ⟨_, hu⟩
    · exact hv
    · exact h.val t u hu⟩
theorem ld_eq {j d : Nat} {t : Value} (hL : L[j]? = some (d, fun v => fEq v t)) (hj : E.contains j = true) (h : LocD P ops m0 L o E n m (put S d t) R) : LocD P ops m0 L o E n m S R := fun w a h0 hm hf hs hE => by
  have h1 := hE j (by simpa using hj)
  unfold FactAt at h1; rw [hL] at h1
  exact h w a h0 hm hf (hs.put_at h1) hE
theorem ld_fact {j d : Nat} {R' : Value → Fact} (hL : L[j]? = some (d, R')) (hj : E.contains j = true) (h : ∀ v, LocD P ops m0 L o E n (m.add (R' v)) (put S d v) R) : LocD P ops m0 L o E n m S R := fun w a h0 hm hf hs hE => by
  have h1 := hE j (by simpa using hj)
  unfold FactAt at h1; rw [hL] at h1
  exact h _ w a h0 (hm.add (by rw [hf]; exact h1)) hf (hs.put_at rfl) hE
theorem ld_elt {j d k : Nat} {v : Value} (hL : L[j]? = some (d, fun p => fElt v p k)) (hj : E.contains j = true) (h : ∀ p, EltOf v p k → LocD P ops m0 L o E n m (put S d p) R) : LocD P ops m0 L o E n m S R := fun w a h0 hm hf hs hE => by
  have h1 := hE j (by simpa using hj)
  unfold FactAt at h1; rw [hL] at h1
  exact h _ h1 w a h0 hm hf (hs.put_at rfl) hE
theorem ld_val {v : Value} (hv : OpV P o n m S v) (hg : wantS ops S o true = true := by rfl) : LocD P ops m0 L o E n m S (fun u => fEq u v) := fun w a h0 hm hf hs hE => by
  rw [if_pos (wantS_of hs hg)]
  exact .inl ⟨v, w, hv w a hm hs, Below.refl _ _, rfl⟩
theorem ld_of (hv : OpF P o n m S R) (hg : wantS ops S o true = true := by rfl) : LocD P ops m0 L o E n m S R := fun w a h0 hm hf hs hE => by
  rw [if_pos (wantS_of hs hg)]
  obtain ⟨v, hr, hp⟩ := hv w a hm hs
  exact .inl ⟨v, w, hr, Below.refl _ _, by rw [← hf]; exact hp⟩
theorem ld_skip (hg : wantS ops S o false = true := by rfl) : LocD P ops m0 L o E n m S (fun u => fEq u undef) := fun w a h0 hm hf hs hE => by
  rw [if_neg (by rw [wantS_of hs hg]; simp)]; rfl
/-- a call whose result is known to the sign -/
theorem ld_callV {f : FuncId} {fn : Func} {args : List Operand} {vs : List Value} {tys : Array TypeId} {pre : List Fact} {val : Value} (hfn : FnOk P f vs pre [] (fun _ : Unit => { val := val })) (iv : List Nat) (hpre : PreOk m iv pre) (hargs : args.map (ev S) = vs.map some) (hf : P.funcs[f]? = some fn) (hb : fn.body.isNone = false) (hnm : (fn.name == "runtime.NumGoroutine") = false)
    (ho : o.op = .call { callee := .value (.func f), args := args.toArray, argTypes := tys }) (hg : wantS ops S o true = true := by rfl) : LocD P ops m0 L o E n m S (fun u => fEq u val) := fun w a h0 hm hf' hs hE => by
  rw [if_pos (wantS_of hs hg)]
  refine .inr ⟨f, _, run_callV ho (evs hs hargs) hf hb hnm w, ?_⟩
  refine (hfn w (fun b => b < w.heap.size) (fun b h => h) (by simp) (by simp) (hpre w _ hm (fun b hb => hb.1) (fun j _ o ho b hb => hm.lt (List.mem_flatMap.2 ⟨o, List.mem_of_getElem? ho, hb⟩))) (by simp)).mono ?_
  rintro e w' ⟨i, he, hbel, _⟩
  exact ⟨val, he, (by simpa using hbel : Bel w.heap.size [] w w').below, rfl⟩
/-- a call that makes a slice of plain things -/
theorem ld_callR {f : FuncId} {fn : Func} {args : List Operand} {vs : List Value} {tys : Array TypeId} {pre : List Fact} {e : TypeId} {τ : Ty α} {xs : List α} (hτ : FlatTy τ) (hfn : FnOk P f vs pre [] (fun i : Value => { val := i, own := [oRow i e τ xs] })) (iv : List Nat) (hpre : PreOk m iv pre) (hargs : args.map (ev S) = vs.map some) (hf : P.funcs[f]? = some fn) (hb : fn.body.isNone = false) (hnm : (fn.name == "runtime.NumGoroutine") = false)
    (ho : o.op = .call { callee := .value (.func f), args := args.toArray, argTypes := tys }) (hg : wantS ops S o true = true := by rfl) : LocD P ops m0 L o E n m S (fun u => fDat (tyList τ) [u] xs) := fun w a h0 hm hf' hs hE => by
  rw [if_pos (wantS_of hs hg)]
  refine .inr ⟨f, _, run_callV ho (evs hs hargs) hf hb hnm w, ?_⟩
  refine (hfn w (fun b => b < w.heap.size) (fun b h => h) (by simp) (by simp) (hpre w _ hm (fun b hb => hb.1) (fun j _ o ho b hb => hm.lt (List.mem_flatMap.2 ⟨o, List.mem_of_getElem? ho, hb⟩))) (by simp)).mono ?_
  rintro e' w' ⟨i, he, hbel, _, hlo, hz⟩
  have hbel' : Below w.heap.size w w' := (by simpa using hbel : Bel w.heap.size [] w w').below
  refine ⟨i, he, hbel', ?_⟩
  obtain ⟨h1, _⟩ := hz (fun _ => True) (fun _ _ _ _ => trivial)
  have h2 := h1 (oRow i e τ xs) (by simp)
  have h3 := flat_row hτ _ (fun _ => False) _ h2
  refine row_dat h3 (fun b hb => hb.elim) (fun b hb => ?_)
  have h4 : w.heap.size ≤ b := by
    rcases hlo b (by simpa using hb) with h | h
    · simp at h
    · exact h
  refine ⟨(oRow i e τ xs).lt h2 b hb, fun hx => ?_, fun hlt => ?_⟩
  · have := h0.lt hx; omega
  · have := h0.size; have hlt' : b < m0.B := hlt; omega
theorem alloc_below (w : World) (o : Obj) : Below w.heap.size w (w.alloc o) := (Below.refl _ _).alloc (Nat.le_refl _) _
/-- a slice written out, in a region whose order is open: it is only read from then on -/
theorem ld_buildSlice {τ : Ty α} {t e : TypeId} {k : Nat} {parts : Array (Nat × Operand)} {cs : List Value} {xs : List α} (hxs : xs.length = k) (hk : k ≤ 4096) (hpos : Nat.blt 0 τ.size = true) (hb : ∀ w a, Holds m w → Sat n S a → ∃ cells : Array Value, cells.toList = cs ∧ (Instr.buildSlice t k (parts.map fun (i, x) => (i, a.eval x))).run P w = .ok (.slice (some ⟨w.heap.size, 0, none⟩) k k) (w.alloc (.cells cells e)))
    (hrep : ∀ {w : World}, Holds m w → RepL τ (m.frz w) w cs xs) (ho : o.op = .buildSlice t k parts) (hg : wantS ops S o true = true := by rfl) : LocD P ops m0 L o E n m S (fun u => fDat (tyList τ) [u] xs) := fun w a h0 hm hf' hs hE => by
  rw [if_pos (wantS_of hs hg)]
  obtain ⟨cells, hc, hr⟩ := hb w a hm hs
  have hrp := hrep hm
  have hbel := alloc_below w (.cells cells e)
  refine .inl ⟨.slice (some ⟨w.heap.size, 0, none⟩) k k, w.alloc (.cells cells e), by unfold execOp; simp only [ho]; simp [hr], hbel, ?_⟩
  refine ⟨_, k, k, rfl, hxs.symm, Nat.le_refl _, by unfold maxLen; omega, ?_⟩
  by_cases hk0 : k = 0
  · exact .inl hk0
  right
  have hz : ∀ b, m.frz w b → m0.frz (w.alloc (.cells cells e)) b := fun b hb' => by
    rw [hf'] at hb'; exact ⟨Nat.lt_of_lt_of_le hb'.1 hbel.size, hb'.2⟩
  refine ⟨_, cs, rfl, ⟨⟨by simp, fun hx => ?_, fun hlt => ?_⟩, fun j u hu => ?_⟩, (hrp.keep (fun b hb' => hbel.block b hb'.1)).mono hz⟩
  · have := h0.lt hx; exact absurd this (by simp)
  · have := h0.size; have hlt' : w.heap.size < m0.B := hlt; omega
  · rw [add_plain, Nat.zero_add, cell_of_row _ _ _ _ _ _ (heap_alloc_new w _)]
    rw [← hc] at hu; simpa using hu
/-! rules for the tail -/
theorem tl_eq {l : List Oper} {d : Nat} {t : Value} (j : Nat) (hL : L[j]? = some (d, fun v => fEq v t)) (h : TailOk P ops l Q m0 L n m (put S d t)) : TailOk P ops l Q m0 L n m S := fun w a h0 hm hf hs hE => by
  have h1 := hE j
  unfold FactAt at h1; rw [hL] at h1
  exact h w a h0 hm hf (hs.put_at h1) hE
theorem tl_fact {l : List Oper} {d : Nat} {R' : Value → Fact} (j : Nat) (hL : L[j]? = some (d, R')) (h : ∀ v, TailOk P ops l Q m0 L n (m.add (R' v)) (put S d v)) : TailOk P ops l Q m0 L n m S := fun w a h0 hm hf hs hE => by
  have h1 := hE j
  unfold FactAt at h1; rw [hL] at h1
  exact h _ w a h0 (hm.add (by rw [hf]; exact h1)) hf (hs.put_at rfl) hE
theorem tl_elt {l : List Oper} {d k : Nat} {v : Value} (j : Nat) (hL : L[j]? = some (d, fun p => fElt v p k)) (h : ∀ p, EltOf v p k → TailOk P ops l Q m0 L n m (put S d p)) : TailOk P ops l Q m0 L n m S := fun w a h0 hm hf hs hE => by
  have h1 := hE j
  unfold FactAt at h1; rw [hL] at h1
  exact h _ h1 w a h0 hm hf (hs.put_at rfl) hE
theorem tl_done {l : List Oper} (h : AL P ops l Q n m S) : TailOk P ops l Q m0 L n m S := fun w a h0 hm hf hs hE => h w a hm hs
theorem of_idxR {τ : Ty α} {v : Value} {xs : List α} (i : Nat) {t e et : TypeId} {x y : Operand} {k : IntKind} {j : Int} (h0 : 0 ≤ j) (h1 : j < xs.length) (hi : m.own[i]? = some (oRow v et τ xs)) (hx : ev S x = some v) (hy : ev S y = some (.int k j)) (ht : P.underlying t = some (.slice e)) (hsz : szOf P e = some τ.size) (ho : o.op = .indexAddr t x y) : OpF P o n m S (fun p => fElt v p (j.toNat * τ.size)) := fun w a hm hs => by
  obtain ⟨cs, hr1, hr2⟩ := own_at hm hi
  rcases hr1.2 with ⟨rfl, hn⟩ | ⟨g, cap, cur, rfl, r⟩
  · omega
  refine ⟨.pointer (some ⟨g, j.toNat * τ.size, none⟩), ?_, ⟨g, _, _, rfl, rfl⟩⟩
  unfold execOp
  simp only [ho, hs.ev hx, hs.ev hy]
  simp [Instr.indexAt, asIntOf, Sem.run_bind, run_underlying ht, h0, h1, run_sizeOf' hsz, add_plain]
theorem of_move {R : Value → Fact} {x : Operand} {v : Value} (i : Nat) (hi : m.fz[i]? = some (R v)) (ho : o.op = .move x) (hx : ev S x = some v) : OpF P o n m S R := fun w a hm hs =>
  ⟨v, by unfold execOp; simp [ho, hs.ev hx], fz_at hm hi⟩
end
end Go.Proofs.YtfhifdmbdkkgaaaDoor.En
