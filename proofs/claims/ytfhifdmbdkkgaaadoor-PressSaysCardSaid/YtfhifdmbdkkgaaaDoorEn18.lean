/- An engine for walks: maps of numbers that the call itself made. No condition. -/
import Derived.Test.YtfhifdmbdkkgaaaDoorEn17
import Derived.MapKept
namespace Go.Proofs.YtfhifdmbdkkgaaaDoor.En
open Go.RowKit
set_option linter.unusedVariables false
set_option linter.unusedSimpArgs false
def eMap (kk vk : IntKind) (l : List (Int × Int)) (es : List MapEntry) : Prop := es.map (fun e => (e.key, e.val)) = l.map (fun x => (Value.int kk x.1, Value.int vk x.2))
/-- a map of numbers -/
def oMapI (g : Nat) (kk vk : IntKind) (l : List (Int × Int)) : Own where
  blk := [g]
  p _ w := ∃ es clock, w.heap[g]? = some (.map es clock) ∧ eMap kk vk l es.toList
  keep hz h := by obtain ⟨es, c, h1, h2⟩ := h; exact ⟨es, c, (hz g (.inr (by simp))).trans h1, h2⟩
  mono _ h := h
  lt h := by obtain ⟨es, c, h1, h2⟩ := h; intro b hb; rw [List.mem_singleton.1 hb]; exact (Array.getElem?_eq_some_iff.1 h1).1
def mfind (k : Int) : List (Int × Int) → Nat → Option (Nat × Int)
  | [], _ => none
  | x :: l, i => if x.1 = k then some (i, x.2) else mfind k l (i + 1)
def mget (l : List (Int × Int)) (k : Int) : Int := ((mfind k l 0).map (·.2)).getD 0
def mset (l : List (Int × Int)) (k v : Int) : List (Int × Int) := match mfind k l 0 with
  | some y => l.set y.1 (k, v)
  | none => l ++ [(k, v)]
theorem findNow_int (kk vk : IntKind) (k : Int) : ∀ (l : List (Int × Int)) (es : List MapEntry) (i : Nat), eMap kk vk l es → Instr.findNow (.int kk) (.int kk k) es i = some ((mfind k l i).map fun y => (y.1, Value.int vk y.2))
  | [], [], _, _ => rfl
  | [], _ :: _, _, h => by simp [eMap] at h
  | _ :: _, [], _, h => by simp [eMap] at h
  | x :: l, e :: es, i, h => by
    unfold eMap at h
    rw [List.map_cons, List.map_cons] at h
    obtain ⟨h1, h2⟩ := List.cons.inj h
    have hk : e.key = .int kk x.1 := (Prod.mk.inj h1).1
    have hv : e.val = .int vk x.2 := (Prod.mk.inj h1).2
    have ih := findNow_int kk vk k l es (i + 1) h2
    unfold mfind
    by_cases hx : x.1 = k
    · simp [Instr.findNow, Instr.sameNow, hk, hv, hx]
    · have : (k == x.1) = false := beq_eq_false_iff_ne.2 fun e => hx e.symm
      simp [Instr.findNow, Instr.sameNow, hk, hx, this, ih]
section
variable {P : Program} {Q : Exit → Act → World → Prop} {n : Nat} {m : Mem} {S : Sl} {ops : Array Oper} {rest : List Oper} {o : Oper} {kk vk : IntKind} {l : List (Int × Int)} {t kt vt : TypeId} {g : Nat}
theorem al_makeMapI {d : Nat} (kk vk : IntKind) (ho : o.op = .makeMap t none)
    (h : ∀ g, AL P ops rest Q n (m.push (oMapI g kk vk [])) (put S d (.map (some g)))) (hdd : o.dst = some d := by rfl) (hd : Nat.blt d n = true := by rfl) (hg : wantS ops S o true = true := by rfl) : AL P ops (o :: rest) Q n m S :=
  al_step hg fun w a hm hs K hK => by
    refine step_val (v := .map (some w.heap.size)) (w' := w.alloc (.map #[] 0)) ?_ (hK _ _ (h _ _ _ (hm.push ((Below.refl _ _).alloc (Nat.le_refl _) _) (by simp [oMapI]) (by simp [oMapI]) (fun Z _ => ⟨#[], 0, heap_alloc_new w _, rfl⟩)) (hs.put' hdd hd _)))
    unfold execOp
    simp only [ho]
    rfl
theorem ov_lookupI (i : Nat) {x y : Operand} {k : Int} (hi : m.own[i]? = some (oMapI g kk vk l)) (hx : ev S x = some (.map (some g))) (hy : ev S y = some (.int kk k)) (ht : P.underlying t = some (.map kt vt)) (hk : P.underlying kt = some (.int kk)) (hv : zeroOf P vt = some (.int vk 0)) (ho : o.op = .lookup t x y false) : OpV P o n m S (.int vk (mget l k)) := fun w a hm hs => by
  obtain ⟨es, clock, hh, he⟩ := own_at hm hi
  have hf := Go.MapKept.run_findKey (P := P) (w := w) (k := .int kk k) hk (findNow_int kk vk k l es.toList 0 he)
  have hc := Go.MapKept.run_checkKey (P := P) (w := w) (k := .int kk k) hk (show Go.MapKept.IsKey (.int kk) (.int kk k) from rfl) es.isEmpty 9999
  have hgo := Go.MapKept.run_getObj_map (P := P) hh
  have hz := run_zeroValue' hv w
  unfold execOp
  simp only [ho, hs.ev hx, hs.ev hy]
  unfold Instr.lookup
  cases hm' : mfind k l 0 with
  | none =>
    rw [hm'] at hf
    have : mget l k = 0 := by unfold mget; rw [hm']; rfl
    rw [this]
    simp [Sem.run_bind, run_underlying ht, hgo, hc, hf, hz]
  | some y =>
    rw [hm'] at hf
    have : mget l k = y.2 := by unfold mget; rw [hm']; rfl
    rw [this]
    simp [Sem.run_bind, run_underlying ht, hgo, hc, hf]
theorem modify_map {es : Array MapEntry} {i : Nat} {key val : Value} (h : eMap kk vk l es.toList) (hi : i < l.length) {k v : Int} (hk : key = .int kk k) (hv : val = .int vk v) : eMap kk vk (l.set i (k, v)) (es.modify i fun e => { e with key := key, val := val }).toList := by
  unfold eMap at h ⊢
  rw [List.map_set, ← h]
  apply List.ext_getElem?
  intro j
  rw [List.getElem?_map, Array.getElem?_toList, Array.getElem?_modify, List.getElem?_set, List.getElem?_map, List.length_map, Array.getElem?_toList]
  have hl : es.toList.length = l.length := by have := congrArg List.length h; simpa using this
  by_cases e : i = j
  · subst e
    have : i < es.size := by rw [← Array.length_toList]; omega
    simp [this, hk, hv]
  · simp [e]
theorem mfind_lt (k : Int) : ∀ (l : List (Int × Int)) (i : Nat) {y : Nat × Int}, mfind k l i = some y → i ≤ y.1 ∧ y.1 < i + l.length
  | [], _, _, h => by cases h
  | x :: l, i, y, h => by
    unfold mfind at h
    split at h
    · cases h; simp
    · have := mfind_lt k l (i + 1) h; simp; omega
theorem mfind_at (k : Int) : ∀ (l : List (Int × Int)) (i : Nat) {y : Nat × Int}, mfind k l i = some y → l[y.1 - i]? = some (k, y.2)
  | [], _, _, h => by cases h
  | x :: l, i, y, h => by
    unfold mfind at h
    split at h
    · rename_i hx
      cases h
      rw [Nat.sub_self, ← hx]; rfl
    · have h1 := mfind_at k l (i + 1) h
      have h2 := mfind_lt k l (i + 1) h
      rw [show y.1 - i = (y.1 - (i + 1)) + 1 by omega, List.getElem?_cons_succ]
      exact h1
theorem al_mapSetI {x y z : Operand} {k v : Int} (i : Nat) (hi : m.own[i]? = some (oMapI g kk vk l)) (hx : ev S x = some (.map (some g))) (hy : ev S y = some (.int kk k)) (hz : ev S z = some (.int vk v)) (ht : P.underlying t = some (.map kt vt)) (hk : P.underlying kt = some (.int kk)) (ho : o.op = .mapUpdate t x y z)
    (h : AL P ops rest Q n (m.upd i (oMapI g kk vk (mset l k v))) S) (hdst : o.dst = none := by rfl) (hg : wantS ops S o true = true := by rfl) : AL P ops (o :: rest) Q n m S :=
  al_step hg fun w a hm hs K hK => by
    obtain ⟨es, clock, hh, he⟩ := own_at hm hi
    have hf := Go.MapKept.run_findKey (P := P) (w := w) (k := .int kk k) hk (findNow_int kk vk k l es.toList 0 he)
    have hc := Go.MapKept.run_checkKey (P := P) (w := w) (k := .int kk k) hk (show Go.MapKept.IsKey (.int kk) (.int kk k) from rfl) false 9999
    have hgo := Go.MapKept.run_getObj_map (P := P) hh
    cases hm' : mfind k l 0 with
    | none =>
      rw [hm'] at hf
      have hset := Go.MapKept.run_setObj_map (P := P) (.map (es.push { key := .int kk k, val := .int vk v, born := clock }) (clock + 1)) hh
      refine step_skip (w' := { w with heap := w.heap.setIfInBounds g (.map (es.push { key := .int kk k, val := .int vk v, born := clock }) (clock + 1)) }) ?_ (hK _ _ (h _ _ (hm.upd hi ⟨rfl, rfl, rfl, by simp, fun b _ hb => setIter_other w g b _ (by simpa [oMapI] using hb)⟩ (by simp [oMapI]) (fun b hb => .inl hb) (fun Z _ => ⟨_, _, (Go.MapKept.heap_set hh).1, ?_⟩)) (by rw [hdst]; exact hs)))
      · unfold execOp
        simp only [ho, hs.ev hx, hs.ev hy, hs.ev hz]
        simp [Instr.mapUpdate, Sem.run_bind, run_underlying ht, hgo, hc, hf, hset]
      · unfold mset eMap at *
        rw [hm']
        simp [he]
    | some y =>
      rw [hm'] at hf
      have hlt := (mfind_lt k l 0 hm').2
      have hes : es.size = l.length := by have := congrArg List.length he; simpa using this
      have hky : (es[y.1]?).map (·.key) = some (.int kk k) := by
        have h1 := mfind_at k l 0 hm'
        rw [Nat.sub_zero] at h1
        have h2 : (es.toList.map fun e => (e.key, e.val))[y.1]? = some (Value.int kk k, Value.int vk y.2) := by
          have he' : es.toList.map (fun e => (e.key, e.val)) = l.map (fun x => (Value.int kk x.1, Value.int vk x.2)) := he
          rw [he', List.getElem?_map, h1]; rfl
        rw [List.getElem?_map, Array.getElem?_toList] at h2
        cases hq : es[y.1]? with
        | none => rw [hq] at h2; cases h2
        | some q =>
          rw [hq] at h2
          have h3 : (q.key, q.val) = (Value.int kk k, Value.int vk y.2) := Option.some.inj h2
          exact congrArg some (Prod.mk.inj h3).1
      have hset := Go.MapKept.run_setObj_map (P := P) (.map (es.modify y.1 fun e => { e with key := .int kk k, val := .int vk v }) clock) hh
      have hkts : (Instr.keyThatStays (.int kk k) (.int kk k)).run P w = .ok (.int kk k) w := by
        unfold Instr.keyThatStays
        rw [if_pos (by simp [Instr.sameBits])]; rfl
      refine step_skip (w' := { w with heap := w.heap.setIfInBounds g (.map (es.modify y.1 fun e => { e with key := .int kk k, val := .int vk v }) clock) }) ?_ (hK _ _ (h _ _ (hm.upd hi ⟨rfl, rfl, rfl, by simp, fun b _ hb => setIter_other w g b _ (by simpa [oMapI] using hb)⟩ (by simp [oMapI]) (fun b hb => .inl hb) (fun Z _ => ⟨_, _, (Go.MapKept.heap_set hh).1, ?_⟩)) (by rw [hdst]; exact hs)))
      · unfold execOp
        simp only [ho, hs.ev hx, hs.ev hy, hs.ev hz]
        simp [Instr.mapUpdate, Sem.run_bind, run_underlying ht, hgo, hc, hf, hset, hky, hkts]
      · unfold mset
        rw [hm']
        exact modify_map he (by omega) rfl rfl
end
end Go.Proofs.YtfhifdmbdkkgaaaDoor.En
