/- An engine for walks: maps that the call itself made, with keys of any kind. No condition. -/
import Derived.Test.YtfhifdmbdkkgaaaDoorEn20
import Derived.Maps.Keyed
import Derived.DeepKeys4
namespace Go.Proofs.YtfhifdmbdkkgaaaDoor.En
open Go.RowKit Go.Maps YtfhifdmbdkkgaaaDoor
set_option linter.unusedVariables false
set_option linter.unusedSimpArgs false
section
variable {κ ν : Type}
def gget [DecidableEq κ] : List (κ × ν) → κ → Option ν
  | [], _ => none
  | x :: l, k => if x.1 = k then some x.2 else gget l k
def gset [DecidableEq κ] : List (κ × ν) → κ → ν → List (κ × ν)
  | [], k, v => [(k, v)]
  | x :: l, k, v => if x.1 = k then (k, v) :: l else x :: gset l k v
theorem gget_gset [DecidableEq κ] : ∀ (l : List (κ × ν)) (k : κ) (v : ν) (j : κ), gget (gset l k v) j = if k = j then some v else gget l j
  | [], k, v, j => rfl
  | x :: l, k, v, j => by
    unfold gset
    by_cases h : x.1 = k
    · rw [if_pos h]
      show (if k = j then some v else gget l j) = if k = j then some v else (if x.1 = j then some x.2 else gget l j)
      by_cases h2 : k = j
      · rw [if_pos h2, if_pos h2]
      · rw [if_neg h2, if_neg h2, if_neg (by rw [h]; exact h2)]
    · rw [if_neg h]
      show (if x.1 = j then some x.2 else gget (gset l k v) j) = if k = j then some v else (if x.1 = j then some x.2 else gget l j)
      rw [gget_gset l k v j]
      by_cases h3 : x.1 = j
      · rw [if_pos h3, if_pos h3, if_neg (by intro e; exact h (h3.trans e.symm))]
      · rw [if_neg h3, if_neg h3]
theorem gget_none [DecidableEq κ] : ∀ {l : List (κ × ν)} {k : κ}, (∀ x ∈ l, x.1 ≠ k) → gget l k = none
  | [], _, _ => rfl
  | x :: l, k, h => by
    unfold gget
    rw [if_neg (h x (by simp)), gget_none (fun y hy => h y (by simp [hy]))]
theorem gset_new [DecidableEq κ] : ∀ {l : List (κ × ν)} {k : κ} (v : ν), (∀ x ∈ l, x.1 ≠ k) → gset l k v = l ++ [(k, v)]
  | [], _, _, _ => rfl
  | x :: l, k, v, h => by
    unfold gset
    rw [if_neg (h x (by simp)), gset_new v (fun y hy => h y (by simp [hy]))]; rfl
theorem gget_at [DecidableEq κ] : ∀ {l : List (κ × ν)} {k : κ} {v : ν} {j : Nat}, (l.map fun x : κ × ν => x.1).Nodup → l[j]? = some (k, v) → gget l k = some v ∧ ∀ u, gset l k u = l.set j (k, u)
  | [], _, _, _, _, h => by simp at h
  | x :: l, k, v, 0, _, h => by
    simp at h
    subst h
    exact ⟨by unfold gget; rw [if_pos rfl], fun u => by unfold gset; rw [if_pos rfl]; rfl⟩
  | x :: l, k, v, j + 1, hn, h => by
    rw [List.map_cons, List.nodup_cons] at hn
    rw [List.getElem?_cons_succ] at h
    obtain ⟨h1, h2⟩ := gget_at hn.2 h
    have hne : x.1 ≠ k := fun e => hn.1 (by rw [e]; exact List.mem_map.2 ⟨(k, v), List.mem_of_getElem? h, rfl⟩)
    exact ⟨by unfold gget; rw [if_neg hne, h1], fun u => by unfold gset; rw [if_neg hne, h2 u]; rfl⟩
theorem gset_keys (l : List (κ × ν)) (k : κ) (v : ν) (j : Nat) (u : ν) (h : l[j]? = some (k, u)) : ((l.set j (k, v)).map fun x : κ × ν => x.1) = l.map fun x : κ × ν => x.1 := by
  rw [List.map_set]
  apply List.ext_getElem?
  intro i
  rw [List.getElem?_set]
  split
  · rename_i e
    subst e
    have hlt := (List.getElem?_eq_some_iff.1 h).1
    rw [if_pos (by simpa using hlt), List.getElem?_map, h]; rfl
  · rfl
def eMapK (ek : κ → Value) (ew : ν → Value) (l : List (κ × ν)) (es : List MapEntry) : Prop := es.map (fun e => (e.key, e.val)) = l.map (fun x => (ek x.1, ew x.2))
/-- a map -/
def oMapK (P : Program) (kt : TypeId) (g : Nat) (ek : κ → Value) (ew : ν → Value) (l : List (κ × ν)) : Own where
  blk := [g]
  p _ w := ∃ es clock, w.heap[g]? = some (.map es clock) ∧ eMapK ek ew l es.toList ∧ (l.map fun x : κ × ν => x.1).Nodup ∧ ∀ x ∈ l, ∃ t, keyOf P kt (ek x.1) = some t
  keep hz h := by obtain ⟨es, c, h1, h2⟩ := h; exact ⟨es, c, (hz g (.inr (by simp))).trans h1, h2⟩
  mono _ h := h
  lt h := by obtain ⟨es, c, h1, h2⟩ := h; intro b hb; rw [List.mem_singleton.1 hb]; exact (Array.getElem?_eq_some_iff.1 h1).1
variable {P : Program} {Q : Exit → Act → World → Prop} {n : Nat} {m : Mem} {S : Sl} {ops : Array Oper} {rest : List Oper} {o : Oper} {l : List (κ × ν)} {t kt vt : TypeId} {g : Nat} {ek : κ → Value} {ew : ν → Value}
theorem al_makeMapK {d : Nat} (kt : TypeId) (ek : κ → Value) (ew : ν → Value) (ho : o.op = .makeMap t none)
    (h : ∀ g, AL P ops rest Q n (m.push (oMapK P kt g ek ew [])) (put S d (.map (some g)))) (hdd : o.dst = some d := by rfl) (hd : Nat.blt d n = true := by rfl) (hg : wantS ops S o true = true := by rfl) : AL P ops (o :: rest) Q n m S :=
  al_step hg fun w a hm hs K hK => by
    refine step_val (v := .map (some w.heap.size)) (w' := w.alloc (.map #[] 0)) ?_ (hK _ _ (h _ _ _ (hm.push ((Below.refl _ _).alloc (Nat.le_refl _) _) (by simp [oMapK]) (by simp [oMapK]) (fun Z _ => ⟨#[], 0, heap_alloc_new w _, rfl, by simp, by simp⟩)) (hs.put' hdd hd _)))
    unfold execOp
    simp only [ho]
    rfl
/-- what a search finds -/
theorem find_K (K : Keyed P kt) (hinj : ∀ a b, ek a = ek b → a = b) {es : Array MapEntry} (he : eMapK ek ew l es.toList) (hn : (l.map fun x : κ × ν => x.1).Nodup) (hk : ∀ x ∈ l, ∃ t, keyOf P kt (ek x.1) = some t) {k : κ} (hkey : ∃ t, keyOf P kt (ek k) = some t) (w : World) :
    ((Instr.findKey kt (ek k) es.toList).run P w = .ok none w ∧ ∀ x ∈ l, x.1 ≠ k) ∨ ∃ (j : Nat) (v : ν), (Instr.findKey kt (ek k) es.toList).run P w = .ok (some (j, ew v)) w ∧ l[j]? = some (k, v) := by
  obtain ⟨lx, hlx⟩ := hkey
  have hes : ∀ e ∈ es.toList, ∃ x ∈ l, e.key = ek x.1 := fun e hee => by
    have h1 : (e.key, e.val) ∈ es.toList.map (fun e => (e.key, e.val)) := List.mem_map.2 ⟨e, hee, rfl⟩
    rw [he] at h1
    obtain ⟨x, hx, hxe⟩ := List.mem_map.1 h1
    exact ⟨x, hx, (Prod.mk.inj hxe).1.symm⟩
  rcases K.find w hlx es.toList (fun e hee => by obtain ⟨x, hx, hxe⟩ := hes e hee; rw [hxe]; exact hk x hx) with ⟨h1, h2⟩ | ⟨j, e, h1, h2, h3⟩
  · refine .inl ⟨h1, fun x hx hxk => ?_⟩
    have h4 : (ek x.1, ew x.2) ∈ l.map (fun x => (ek x.1, ew x.2)) := List.mem_map.2 ⟨x, hx, rfl⟩
    rw [← he] at h4
    obtain ⟨e, hee, hxe⟩ := List.mem_map.1 h4
    exact h2 e hee (by rw [(Prod.mk.inj hxe).1, hxk])
  · right
    have h4 : (es.toList.map fun e => (e.key, e.val))[j]? = some (e.key, e.val) := by rw [List.getElem?_map, h2]; rfl
    have he' : es.toList.map (fun e => (e.key, e.val)) = l.map (fun x => (ek x.1, ew x.2)) := he
    rw [he', List.getElem?_map] at h4
    obtain ⟨x, hx, hxe⟩ := Option.map_eq_some_iff.1 h4
    obtain ⟨q1, q2⟩ := Prod.mk.inj hxe
    refine ⟨j, x.2, by rw [h1, q2], ?_⟩
    rw [hx]
    have : x.1 = k := hinj _ _ (by rw [q1, h3])
    rw [← this]
theorem run_lookK [DecidableEq κ] (i : Nat) (K : Keyed P kt) (hinj : ∀ a b, ek a = ek b → a = b) {k : κ} (hkey : ∃ t, keyOf P kt (ek k) = some t) (hi : m.own[i]? = some (oMapK P kt g ek ew l)) (ht : P.underlying t = some (.map kt vt)) {z : ν} (hv : zeroOf P vt = some (ew z)) (c : Bool) {w : World} (hm : Holds m w) :
    (Instr.lookup t (.map (some g)) (ek k) c).run P w = .ok (if c then .tuple #[ew ((gget l k).getD z), .bool (gget l k).isSome] else ew ((gget l k).getD z)) w := by
  obtain ⟨es, clock, hh, he, hn, hk⟩ := own_at hm hi
  have hf := find_K (P := P) K hinj he hn hk hkey w
  obtain ⟨lx, hlx⟩ := hkey
  have hc := K.check w es.isEmpty hlx
  have hgo := Go.MapKept.run_getObj_map (P := P) hh
  have hz := run_zeroValue' hv w
  unfold Instr.lookup
  rcases hf with ⟨h1, h2⟩ | ⟨j, v, h1, h2⟩
  · rw [gget_none h2]
    cases c <;> simp [Sem.run_bind, run_underlying ht, hgo, hc, h1, hz]
  · rw [(gget_at hn h2).1]
    cases c <;> simp [Sem.run_bind, run_underlying ht, hgo, hc, h1]
theorem ov_lookupK [DecidableEq κ] (i : Nat) (K : Keyed P kt) (hinj : ∀ a b, ek a = ek b → a = b) {x y : Operand} {k : κ} (hkey : ∃ t, keyOf P kt (ek k) = some t) (hi : m.own[i]? = some (oMapK P kt g ek ew l)) (hx : ev S x = some (.map (some g))) (hy : ev S y = some (ek k)) (ht : P.underlying t = some (.map kt vt)) {z : ν} (hv : zeroOf P vt = some (ew z)) (ho : o.op = .lookup t x y false) : OpV P o n m S (ew ((gget l k).getD z)) := fun w a hm hs => by
  have := run_lookK i K hinj hkey hi ht hv false hm
  unfold execOp
  simp only [ho, hs.ev hx, hs.ev hy]
  simp [this]
theorem ov_lookupOkK [DecidableEq κ] (i : Nat) (K : Keyed P kt) (hinj : ∀ a b, ek a = ek b → a = b) {x y : Operand} {k : κ} (hkey : ∃ t, keyOf P kt (ek k) = some t) (hi : m.own[i]? = some (oMapK P kt g ek ew l)) (hx : ev S x = some (.map (some g))) (hy : ev S y = some (ek k)) (ht : P.underlying t = some (.map kt vt)) {z : ν} (hv : zeroOf P vt = some (ew z)) (ho : o.op = .lookup t x y true) : OpV P o n m S (.tuple #[ew ((gget l k).getD z), .bool (gget l k).isSome]) := fun w a hm hs => by
  have := run_lookK i K hinj hkey hi ht hv true hm
  unfold execOp
  simp only [ho, hs.ev hx, hs.ev hy]
  simp [this]
theorem ov_lenK (i : Nat) {x : Operand} (hi : m.own[i]? = some (oMapK P kt g ek ew l)) (hx : ev S x = some (.map (some g))) (ht : P.underlying t = some (.map kt vt)) (ho : o.op = .call { callee := .builtin .len, args := #[x], argTypes := #[t] }) : OpV P o n m S (.int .i64 (l.length : Int)) := fun w a hm hs => by
  obtain ⟨es, clock, hh, he, hn, hk⟩ := own_at hm hi
  have hgo := Go.MapKept.run_getObj_map (P := P) hh
  have hes : es.size = l.length := by have := congrArg List.length he; simpa using this
  unfold execOp
  simp [ho, resolve, invoke, builtin, hs.ev hx, Builtin.len_, run_underlying ht, hgo, goInt, hes, Sem.run_bind]
theorem al_mapSetK [DecidableEq κ] {x y z : Operand} (i : Nat) (K : Keyed P kt) (hinj : ∀ a b, ek a = ek b → a = b) {k : κ} {v : ν} (hkey : ∃ t, keyOf P kt (ek k) = some t) (hi : m.own[i]? = some (oMapK P kt g ek ew l)) (hx : ev S x = some (.map (some g))) (hy : ev S y = some (ek k)) (hz : ev S z = some (ew v)) (ht : P.underlying t = some (.map kt vt)) (ho : o.op = .mapUpdate t x y z)
    (h : AL P ops rest Q n (m.upd i (oMapK P kt g ek ew (gset l k v))) S) (hdst : o.dst = none := by rfl) (hg : wantS ops S o true = true := by rfl) : AL P ops (o :: rest) Q n m S :=
  al_step hg fun w a hm hs K' hK => by
    obtain ⟨es, clock, hh, he, hn, hk⟩ := own_at hm hi
    have hf := find_K (P := P) K hinj he hn hk hkey w
    obtain ⟨lx, hlx⟩ := hkey
    have hc := K.check w false hlx
    have hgo := Go.MapKept.run_getObj_map (P := P) hh
    have hes : es.size = l.length := by have := congrArg List.length he; simpa using this
    rcases hf with ⟨h1, h2⟩ | ⟨j, u, h1, h2⟩
    · have hset := Go.MapKept.run_setObj_map (P := P) (.map (es.push { key := ek k, val := ew v, born := clock }) (clock + 1)) hh
      refine step_skip (w' := { w with heap := w.heap.setIfInBounds g (.map (es.push { key := ek k, val := ew v, born := clock }) (clock + 1)) }) ?_ (hK _ _ (h _ _ (hm.upd hi ⟨rfl, rfl, rfl, by simp, fun b _ hb => setIter_other w g b _ (by simpa [oMapK] using hb)⟩ (by simp [oMapK]) (fun b hb => .inl hb) (fun Z _ => ⟨_, _, (Go.MapKept.heap_set hh).1, ?_, ?_, ?_⟩)) (by rw [hdst]; exact hs)))
      · unfold execOp
        simp only [ho, hs.ev hx, hs.ev hy, hs.ev hz]
        simp [Instr.mapUpdate, Sem.run_bind, run_underlying ht, hgo, hc, h1, hset]
      · rw [gset_new v h2]
        unfold eMapK at *
        simp [he]
      · rw [gset_new v h2, List.map_append, List.nodup_append]
        refine ⟨hn, by simp, ?_⟩
        intro b hb c hcc
        obtain ⟨q, hq, rfl⟩ := List.mem_map.1 hb
        simp at hcc
        subst hcc
        exact h2 q hq
      · rw [gset_new v h2]
        intro q hq
        rcases List.mem_append.1 hq with hq | hq
        · exact hk q hq
        · rw [List.mem_singleton.1 hq]; exact ⟨lx, hlx⟩
    · have hj : j < l.length := (List.getElem?_eq_some_iff.1 h2).1
      have hky : (es[j]?).map (·.key) = some (ek k) := by
        have h3 : (es.toList.map fun e => (e.key, e.val))[j]? = some (ek k, ew u) := by
          have he' : es.toList.map (fun e => (e.key, e.val)) = l.map (fun x => (ek x.1, ew x.2)) := he
          rw [he', List.getElem?_map, h2]; rfl
        rw [List.getElem?_map, Array.getElem?_toList] at h3
        cases hq : es[j]? with
        | none => rw [hq] at h3; cases h3
        | some q =>
          rw [hq] at h3
          exact congrArg some (Prod.mk.inj (Option.some.inj h3)).1
      have hkts := K.stays w hlx
      have hset := Go.MapKept.run_setObj_map (P := P) (.map (es.modify j fun e => { e with key := ek k, val := ew v }) clock) hh
      have hgs := (gget_at hn h2).2 v
      refine step_skip (w' := { w with heap := w.heap.setIfInBounds g (.map (es.modify j fun e => { e with key := ek k, val := ew v }) clock) }) ?_ (hK _ _ (h _ _ (hm.upd hi ⟨rfl, rfl, rfl, by simp, fun b _ hb => setIter_other w g b _ (by simpa [oMapK] using hb)⟩ (by simp [oMapK]) (fun b hb => .inl hb) (fun Z _ => ⟨_, _, (Go.MapKept.heap_set hh).1, ?_, ?_, ?_⟩)) (by rw [hdst]; exact hs)))
      · unfold execOp
        simp only [ho, hs.ev hx, hs.ev hy, hs.ev hz]
        simp [Instr.mapUpdate, Sem.run_bind, run_underlying ht, hgo, hc, h1, hset, hky, hkts]
      · rw [hgs]
        unfold eMapK at *
        rw [List.map_set, ← he]
        apply List.ext_getElem?
        intro q
        rw [List.getElem?_map, Array.getElem?_toList, Array.getElem?_modify, List.getElem?_set, List.getElem?_map, List.length_map, Array.getElem?_toList]
        by_cases e : j = q
        · subst e
          have : j < es.size := by omega
          simp [this]
        · simp [e]
      · rw [hgs, gset_keys l k v j u h2]; exact hn
      · rw [hgs]
        intro q hq
        rcases List.mem_or_eq_of_mem_set hq with hq | hq
        · exact hk q hq
        · rw [hq]; exact ⟨lx, hlx⟩
end
/-- what is a key -/
theorem key_wide {P : Program} {kt : TypeId} {cs : List Value} {ls : List TypeId} (hkt : P.keyType kt = true) (hl : leaves P (P.types.size + 1) kt = some ls) (hwide : (match P.underlying kt with | some (.array _ _) | some (.struct _) => true | _ => false) = true) (hf : (ag cs).formed P kt = true) (hfit : fits P ls cs = true) : ∃ t, keyOf P kt (ag cs) = some t := by
  have h := keyLits_leaves (P := P) (P.types.size + 1) kt ls cs hl hfit
  unfold keyOf
  cases hu : P.underlying kt with
  | none => simp [hu] at hwide
  | some d =>
    cases d <;> simp [hu] at hwide <;> simp [hf, hkt] <;> (simp only [ag, Value.cells] at *; simp [h])
theorem key_str {P : Program} {kt : TypeId} {l : List UInt8} (hu : P.underlying kt = some .string) (h : l.length ≤ 9223372036854775807) : ∃ t, keyOf P kt (str l) = some t := by
  unfold keyOf str
  simp [hu, mapKey, maxLen, ByteArray.size]
  omega
theorem ag_inj {a b : List Value} (h : ag a = ag b) : a = b := by
  unfold ag at h
  injection h with h
  injection h
theorem str_inj (a b : List UInt8) (h : str a = str b) : a = b := by
  unfold str at h
  injection h with h
  injection h with h
  injection h
end Go.Proofs.YtfhifdmbdkkgaaaDoor.En
