/- An engine for walks: slices of the call's own, calls, entry and return. No condition. -/
import Derived.Test.YtfhifdmbdkkgaaaDoorEn3
import Derived.Laws.MakeOwn
namespace Go.Proofs.YtfhifdmbdkkgaaaDoor.En
open Go.RowKit
set_option linter.unusedVariables false
set_option linter.unusedSimpArgs false
/-- the size in cells, the size in bytes and the zero of a type -/
def tyOf (P : Program) (e : TypeId) : Option (Nat × Nat × Option Value) := (P.info? e).map fun i => (i.size, i.bytes, i.zero)
theorem tyOf_parts {P : Program} {e : TypeId} {sz by_ : Nat} {z : Value} (h : tyOf P e = some (sz, by_, some z)) : ∃ i, P.info? e = some i ∧ i.zero = some z ∧ i.size = sz ∧ i.bytes = by_ := by
  unfold tyOf at h
  cases hq : P.info? e with
  | none => rw [hq] at h; cases h
  | some i => rw [hq] at h; simp at h; exact ⟨i, rfl, h.2.2, h.1, h.2.1⟩
theorem own_base {w : World} {base base' : Nat} {e : TypeId} {sz n : Nat} {v : Value} {xs : List Value} (h : w.ownsRow base e sz v n xs) (hb : ∀ b, v.ownBlock = some b → base' ≤ b) : w.ownsRow base' e sz v n xs :=
  ⟨h.1, h.2.imp id (by rintro ⟨g, cap, cur, rfl, _, r⟩; exact ⟨g, cap, cur, rfl, hb g rfl, r⟩)⟩
theorem own_len {w : World} {base : Nat} {e : TypeId} {sz n : Nat} {v : Value} {xs : List Value} (h : w.ownsRow base e sz v n xs) : ∃ A c, v = .slice A n c ∧ n ≤ c ∧ n ≤ maxLen := by
  rcases h.2 with ⟨rfl, rfl⟩ | ⟨g, cap, cur, rfl, _, _, h1, h2, _⟩
  · exact ⟨none, 0, rfl, Nat.le_refl _, Nat.zero_le _⟩
  · exact ⟨_, _, rfl, h1, Nat.le_trans h1 h2⟩
theorem ownBlock_nodup (v : Value) : v.ownBlock.toList.Nodup := by cases v.ownBlock <;> simp
/-- a pointer to the element k of the row v -/
def EltOf (v p : Value) (k : Nat) : Prop := ∃ g l c, v = .slice (some ⟨g, 0, none⟩) l c ∧ p = .pointer (some ⟨g, k, none⟩)
section
variable {P : Program} {Q : Exit → Act → World → Prop} {n : Nat} {m : Mem} {S : Sl} {ops : Array Oper} {rest : List Oper} {o : Oper} {α β : Type}
/-- an own row, read as data where its block counts as readable -/
theorem row_dat {Z Z' : Nat → Prop} {w : World} {v : Value} {e : TypeId} {τ : Ty α} {xs : List α} (h : (oRow v e τ xs).p Z w) (hz : ∀ b, Z b → Z' b) (hb : ∀ b ∈ (oRow v e τ xs).blk, Z' b) : (fDat (tyList τ) [v] xs).p Z' w := by
  obtain ⟨cs, h1, h2⟩ := h
  obtain ⟨A, c, rfl, hc, hm⟩ := own_len h1
  refine ⟨A, _, c, rfl, rfl, hc, hm, ?_⟩
  rcases h1.2 with ⟨he, hn⟩ | ⟨g, cap, cur, he, _⟩
  · exact .inl hn
  · right
    cases he
    exact ⟨_, cs, rfl, ⟨hb g (by simp [oRow, Value.ownBlock]), h1.cells rfl⟩, h2.mono hz⟩
/-! the beginning of a row: nil -/
theorem nil_own (e : TypeId) (τ : Ty α) (Z : Nat → Prop) (w : World) : (oRow (.slice none 0 0) e τ ([] : List α)).p Z w := ⟨[], World.ownsRow_nil w 0 e τ.size, rfl⟩
theorem nil_dat (τ : Ty α) (Z : Nat → Prop) (w : World) : (fDat (tyList τ) [.slice none 0 0] ([] : List α)).p Z w := ⟨none, 0, 0, rfl, rfl, Nat.le_refl _, Nat.zero_le _, .inl rfl⟩
theorem al_nilR {l : List Oper} (e : TypeId) (τ : Ty α) (h : AL P ops l Q n (m.push (oRow (.slice none 0 0) e τ ([] : List α))) S) : AL P ops l Q n m S := fun w a hm hs =>
  h w a (hm.push (w' := w) (Below.refl _ _) (by simp [oRow, Value.ownBlock]) (by simp [oRow, Value.ownBlock]) (fun Z _ => nil_own e τ Z w)) hs
theorem aw_nilR {c : Code} (e : TypeId) (τ : Ty α) (h : AW P c Q n (m.push (oRow (.slice none 0 0) e τ ([] : List α))) S) : AW P c Q n m S := fun w a hm hs =>
  h w a (hm.push (w' := w) (Below.refl _ _) (by simp [oRow, Value.ownBlock]) (by simp [oRow, Value.ownBlock]) (fun Z _ => nil_own e τ Z w)) hs
theorem al_nilD {l : List Oper} (τ : Ty α) (h : AL P ops l Q n (m.add (fDat (tyList τ) [.slice none 0 0] ([] : List α))) S) : AL P ops l Q n m S := fun w a hm hs => h w a (hm.add (nil_dat τ _ _)) hs
theorem aw_nilD {c : Code} (τ : Ty α) (h : AW P c Q n (m.add (fDat (tyList τ) [.slice none 0 0] ([] : List α))) S) : AW P c Q n m S := fun w a hm hs => h w a (hm.add (nil_dat τ _ _)) hs
/-! a row becomes data -/
theorem Holds.freeze {w : World} (hm : Holds m w) {i : Nat} {v : Value} {e : TypeId} {τ : Ty α} {xs : List α} (hi : m.own[i]? = some (oRow v e τ xs)) (hX : m.X = []) :
    Holds (Mem.add { m with own := m.own.take i ++ m.own.drop (i + 1) } (fDat (tyList τ) [v] xs)) w := by
  have hsub : ∀ x ∈ m.own.take i ++ m.own.drop (i + 1), x ∈ m.own := fun x hx => by
    rcases List.mem_append.1 hx with hx | hx
    · exact List.mem_of_mem_take hx
    · exact List.mem_of_mem_drop hx
  have hmo : oRow v e τ xs ∈ m.own := List.mem_of_getElem? hi
  have hnd0 : ((oRow v e τ xs :: (m.own.take i ++ m.own.drop (i + 1))).flatMap Own.blk).Nodup := (perm_get hi).nodup_iff.1 hm.nd
  rw [List.flatMap_cons, List.nodup_append] at hnd0
  have h1 := hm.reown (m.own.take i ++ m.own.drop (i + 1)) hsub hnd0.2.1
  refine h1.add (row_dat (own_at hm hi) (fun b hb => ⟨hb.1, fun hx => hb.2.1 ?_, hb.2.2⟩) (fun b hb => ⟨?_, fun hx => ?_, fun hlt => ?_⟩))
  · obtain ⟨x, hx1, hx2⟩ := List.mem_flatMap.1 hx
    exact List.mem_flatMap.2 ⟨x, hsub x hx1, hx2⟩
  · exact (oRow v e τ xs).lt (own_at hm hi) b hb
  · exact hnd0.2.2 b hb b hx rfl
  · rcases hm.lo b (List.mem_flatMap.2 ⟨_, hmo, hb⟩) with h | h
    · have hlt' : b < m.B := hlt; omega
    · rw [hX] at h; simp at h
theorem al_freeze {l : List Oper} (i : Nat) {v : Value} {e : TypeId} {τ : Ty α} {xs : List α} (hi : m.own[i]? = some (oRow v e τ xs)) (hX : m.X = [])
    (h : AL P ops l Q n (Mem.add { m with own := m.own.take i ++ m.own.drop (i + 1) } (fDat (tyList τ) [v] xs)) S) : AL P ops l Q n m S := fun w a hm hs => h w a (hm.freeze hi hX) hs
theorem aw_freeze {c : Code} (i : Nat) {v : Value} {e : TypeId} {τ : Ty α} {xs : List α} (hi : m.own[i]? = some (oRow v e τ xs)) (hX : m.X = [])
    (h : AW P c Q n (Mem.add { m with own := m.own.take i ++ m.own.drop (i + 1) } (fDat (tyList τ) [v] xs)) S) : AW P c Q n m S := fun w a hm hs => h w a (hm.freeze hi hX) hs
/-! make -/
theorem repl_rep {τ : Ty α} {z : Value} {x : α} (hz : ∀ Z w, τ.rep Z w z.cells.toList x) (Z : Nat → Prop) (w : World) : ∀ k : Nat, RepL τ Z w (madeCells z.cells (k * τ.size)).toList (List.replicate k x)
  | 0 => by simp [madeCells, RepL]
  | k + 1 => by
    have hl : z.cells.toList.length = τ.size := τ.len (hz Z w)
    refine ⟨z.cells.toList, (madeCells z.cells (k * τ.size)).toList, ?_, hz Z w, repl_rep hz Z w k⟩
    have hsz : z.cells.size = τ.size := by rw [← Array.length_toList]; exact hl
    apply List.ext_getElem?
    intro j
    rw [List.getElem?_append, hl]
    unfold madeCells
    by_cases hj : j < τ.size
    · rw [if_pos hj]
      have hj2 : j < (k + 1) * τ.size := by rw [Nat.succ_mul]; omega
      simp [hj2, hsz, Nat.mod_eq_of_lt hj, Array.getElem?_eq_getElem, hj]
    · rw [if_neg hj]
      by_cases hj2 : j < (k + 1) * τ.size
      · have hj3 : j - τ.size < k * τ.size := by rw [Nat.succ_mul] at hj2; omega
        have hmod : (j - τ.size) % τ.size = j % τ.size := by
          conv => rhs; rw [show j = (j - τ.size) + τ.size from by omega, Nat.add_mod_right]
        simp [hj2, hj3, hsz, hmod]
      · have hj3 : ¬ j - τ.size < k * τ.size := by rw [Nat.succ_mul] at hj2; omega
        simp [hj2, hj3]
theorem al_make {d : Nat} {τ : Ty α} {x0 : α} {t e : TypeId} {x y : Operand} {kx ky : IntKind} {l : Int} {sz by_ : Nat} {z : Value} (h0 : 0 ≤ l) (hby : (by_ : Int) * l ≤ 281474976710656) (h63 : l ≤ 9223372036854775807) (hx : ev S x = some (.int kx l)) (hy : ev S y = some (.int ky l))
    (ht : P.underlying t = some (.slice e)) (hi : tyOf P e = some (sz, by_, some z)) (hz : ∀ Z w, τ.rep Z w z.cells.toList x0) (hsz : sz = τ.size) (ho : o.op = .makeSlice t x y)
    (h : ∀ v, AL P ops rest Q n (m.push (oRow v e τ (List.replicate l.toNat x0))) (put S d v)) (hdd : o.dst = some d := by rfl) (hd : Nat.blt d n = true := by rfl) (hg : wantS ops S o true = true := by rfl) : AL P ops (o :: rest) Q n m S :=
  al_step hg fun w a hm hs K hK => by
    obtain ⟨i, hi1, hi2, hi3, hi4⟩ := tyOf_parts hi
    have hr := run_make (P := P) w t e i z ht hi1 hi2 kx ky l l h0 (Int.le_refl _) (by rw [hi4]; exact hby) h63
    rw [hi3, hsz] at hr
    have hr' : (execOp a.eval o).run P w = .ok (.value (.slice (some ⟨w.heap.size, 0, none⟩) l.toNat l.toNat)) (w.alloc (.cells (madeCells z.cells (l.toNat * τ.size)) e)) := by
      unfold execOp; simp only [ho, hs.ev hx, hs.ev hy]; simp [hr]
    refine step_val hr' ?_
    refine hK _ _ (h _ _ _ (hm.push ((Below.refl _ _).alloc (Nat.le_refl _) _) (ownBlock_nodup _) (by simp [oRow, Value.ownBlock]) (fun Z _ => ?_)) (hs.put' hdd hd _))
    have hrep := repl_rep hz Z (w.alloc (.cells (madeCells z.cells (l.toNat * τ.size)) e)) l.toNat
    refine ⟨_, ⟨?_, .inr ⟨w.heap.size, l.toNat, _, by simp, Nat.zero_le _, heap_alloc_new w _, by simp, ?_, ?_, rfl⟩⟩, ?_⟩
    · simp [size_madeCells]
    · unfold maxLen; omega
    · simp [size_madeCells]
    · rw [List.take_of_length_le (by simp [size_madeCells])]; exact hrep
/-! a slice written out -/
theorem al_buildSlice {d : Nat} {τ : Ty α} {t e : TypeId} {k sz : Nat} {by_ : Nat} {z : Value} {parts : Array (Nat × Operand)} {cs : List Value} {xs : List α} (hxs : xs.length = k) (hk : k ≤ 4096) (hb : ∀ w a, Holds m w → Sat n S a → ∃ cells : Array Value, cells.toList = cs ∧ (Instr.buildSlice t k (parts.map fun (i, x) => (i, a.eval x))).run P w = .ok (.slice (some ⟨w.heap.size, 0, none⟩) k k) (w.alloc (.cells cells e)))
    (hrep : ∀ {w : World}, Holds m w → RepL τ (m.frz w) w cs xs) (ho : o.op = .buildSlice t k parts)
    (h : ∀ v, AL P ops rest Q n (m.push (oRow v e τ xs)) (put S d v)) (hdd : o.dst = some d := by rfl) (hd : Nat.blt d n = true := by rfl) (hg : wantS ops S o true = true := by rfl) : AL P ops (o :: rest) Q n m S :=
  al_step hg fun w a hm hs K hK => by
    obtain ⟨cells, hc, hr⟩ := hb w a hm hs
    have hrp := hrep hm
    have hlen := hrp.len
    refine step_val (w' := w.alloc (.cells cells e)) (v := .slice (some ⟨w.heap.size, 0, none⟩) k k) (by unfold execOp; simp only [ho]; simp [hr]) ?_
    have hbel : Below w.heap.size w (w.alloc (.cells cells e)) := (Below.refl _ _).alloc (Nat.le_refl _) _
    refine hK _ _ (h _ _ _ (hm.push hbel (ownBlock_nodup _) (by simp [oRow, Value.ownBlock]) (fun Z hZ => ?_)) (hs.put' hdd hd _))
    have hcl : cells.size = k * τ.size := by rw [← Array.length_toList, hc, hlen, hxs]
    refine ⟨cs, ⟨by rw [hlen], .inr ⟨w.heap.size, k, cells, by rw [hxs], Nat.zero_le _, heap_alloc_new w _, by omega, by unfold maxLen; omega, hcl, by rw [hc, List.take_of_length_le (by rw [hlen]; exact Nat.le_refl _)]⟩⟩, ?_⟩
    exact (hrp.keep (fun b hb' => hbel.block b hb'.1)).mono hZ
/-! append -/
/-- where the appended elements come from -/
def Src (m : Mem) (i : Nat) (u : Value) (τ : Ty α) (ys : List α) : Prop := ∀ {w : World}, Holds m w → ∃ A l c cs, u = .slice A l c ∧ l = ys.length ∧ RepL τ (m.frz w) w cs ys ∧ (l = 0 ∨ ∃ ad, A = some ad ∧ ∀ j x, cs[j]? = some x → w.cell? (ad.add j) = some x)
theorem src_own {i : Nat} (j : Nat) {u : Value} {e : TypeId} {τ : Ty α} {ys : List α} (hj : m.own[j]? = some (oRow u e τ ys)) : Src m i u τ ys := fun hm => by
  obtain ⟨cs, h1, h2⟩ := own_at hm hj
  obtain ⟨A, c, rfl, _, _⟩ := own_len h1
  refine ⟨A, _, c, cs, rfl, rfl, h2, ?_⟩
  rcases h1.2 with ⟨he, hn⟩ | ⟨g, cap, cur, he, _⟩
  · exact .inl hn
  · cases he; exact .inr ⟨_, rfl, h1.cells rfl⟩
theorem src_dat {i : Nat} (j : Nat) {u : Value} {τ : Ty α} {ys : List α} (hj : m.fz[j]? = some (fDat (tyList τ) [u] ys)) : Src m i u τ ys := fun hm => by
  obtain ⟨A, l, c, he, hl, _, _, hr⟩ := fz_at hm hj
  have he' : u = .slice A l c := by simpa using he
  rcases hr with hr | ⟨ad, cs, rfl, hca, hrl⟩
  · have hy : ys = [] := List.eq_nil_of_length_eq_zero (by omega)
    subst hy
    exact ⟨A, l, c, [], he', hl, rfl, .inl hr⟩
  · exact ⟨_, l, c, cs, he', hl, hrl, .inr ⟨ad, rfl, hca.2⟩⟩
theorem al_append {d : Nat} {τ : Ty α} {v u : Value} {xs ys : List α} (i : Nat) {t e : TypeId} {x y : Operand} {by_ : Nat} {z : Value} (hb : ((xs.length + ys.length) * by_ : Nat) ≤ 140737488355328) (hm : xs.length + ys.length ≤ 9223372036854775807)
    (hi : m.own[i]? = some (oRow v e τ xs)) (hsrc : Src m i u τ ys) (hx : ev S x = some v) (hy : ev S y = some u)
    (ht : P.underlying t = some (.slice e)) (hin : tyOf P e = some (τ.size, by_, some z)) (hzs : z.cells.size = τ.size) (hsz : Nat.blt 0 τ.size = true) (ho : o.op = .call { callee := .builtin .append, args := #[x, y], argTypes := #[t, t] })
    (h : ∀ v', AL P ops rest Q n (m.upd i (oRow v' e τ (xs ++ ys))) (put S d v')) (hdd : o.dst = some d := by rfl) (hd : Nat.blt d n = true := by rfl) (hg : wantS ops S o true = true := by rfl) : AL P ops (o :: rest) Q n m S :=
  al_step hg fun w a hmm hs K hK => by
    obtain ⟨inf, hi1, hi2, hi3, hi4⟩ := tyOf_parts hin
    have hsz' : 0 < τ.size := by simpa [Nat.blt_eq] using hsz
    obtain ⟨cs, h1, h2⟩ := own_at hmm hi
    obtain ⟨A, l, c, ds, rfl, hl, hrl, hsr⟩ := hsrc hmm
    have hdl := hrl.len
    rcases hsr with hsr | ⟨ad, rfl, hcells⟩
    · -- nothing is appended
      have hy0 : ys = [] := List.eq_nil_of_length_eq_zero (by omega)
      subst hy0
      have hr : (Builtin.append_ #[t, t] o.type #[v, .slice A l c]).run P w = .ok v w := by
        obtain ⟨A', c', rfl, hc', _⟩ := own_len h1
        subst hsr
        have hfc : (Builtin.firstCells τ.size 0 (.slice A 0 c)).run P w = .ok #[] w := by
          cases A with
          | none => simp [Builtin.firstCells]
          | some ad => simp [Builtin.firstCells, loadCells, loadCellsFrom]
        have hT : ((underlying t).run P w) = .ok (.slice e) w := run_underlying ht w
        cases A' with
        | none => simp [Builtin.append_, hT, run_underlying ht, Sem.run_bind, run_sizeOf' (show szOf P e = some τ.size by unfold szOf; rw [hi1]; simp [hi3]), Builtin.lenOf, hc', hfc]
        | some ad => simp [Builtin.append_, hT, run_underlying ht, Sem.run_bind, run_sizeOf' (show szOf P e = some τ.size by unfold szOf; rw [hi1]; simp [hi3]), Builtin.lenOf, hc', hfc, storeCells]
      refine step_val (w' := w) (v := v) (by unfold execOp; simp only [ho, resolve, invoke, builtin, Sem.run_bind, Sem.run_pure, Result.andThen_ok, List.map_toArray, List.map_cons, List.map_nil, hs.ev hx, hs.ev hy, hr]) ?_
      refine hK _ _ (h v _ _ ?_ (hs.put' hdd hd _))
      rw [List.append_nil]
      have hset : m.upd i (oRow v e τ xs) = m := by
        unfold Mem.upd
        have : m.own.set i (oRow v e τ xs) = m.own := by
          apply List.ext_getElem?; intro j
          rw [List.getElem?_set]
          split
          · rename_i e'; subst e'; rw [hi, if_pos (List.getElem?_eq_some_iff.1 hi).1]
          · rfl
        rw [this]
      rw [hset]; exact hmm
    · obtain ⟨v', w', hr, h3, h4, _, h5⟩ := run_append_own_at (P := P) w 0 t o.type e inf z τ.size by_ ht hi1 hi2 hi3 hi4 hzs hsz' v xs.length cs h1 ad l c ds (by rw [hdl, hl]) hcells hrl.one (by unfold maxLen; omega) (by rw [hl]; exact hb) (Nat.zero_le _)
      refine step_val (w' := w') (v := v') (by unfold execOp; simp only [ho, resolve, invoke, builtin, Sem.run_bind, Sem.run_pure, Result.andThen_ok, List.map_toArray, List.map_cons, List.map_nil, hs.ev hx, hs.ev hy, hr]) ?_
      refine hK _ _ (h v' _ _ (hmm.upd hi ⟨h4.os, h4.tape, h4.output, h4.size, fun b hb1 hb2 => h4.block b hb1 (fun e => hb2 (by simp [oRow, ← e]))⟩ (ownBlock_nodup _) (fun b hb' => ?_) (fun Z hZ => ?_)) (hs.put' hdd hd _))
      · have hb' : v'.ownBlock = some b := by simpa [oRow] using hb'
        rcases h5 with h5 | h5
        · exact .inl (by simp [oRow, ← h5, hb'])
        · rw [hb'] at h5; exact .inr (by have := Option.some.inj h5; omega)
      · have hag : Agr (m.frz w) w w' := fun b hb' => h4.block b hb'.1 (fun e => hb'.2.1 (List.mem_flatMap.2 ⟨_, List.mem_of_getElem? hi, by simp [oRow, ← e]⟩))
        refine ⟨cs ++ ds, by rw [List.length_append, ← hl]; exact h3, ?_⟩
        exact ((h2.keep hag).mono hZ).append ((hrl.keep hag).mono hZ)
/-! one element of a row -/
theorem al_idxR {d : Nat} {τ : Ty α} {v : Value} {xs : List α} (i : Nat) {t e et : TypeId} {x y : Operand} {k : IntKind} {j : Int} (h0 : 0 ≤ j) (h1 : j < xs.length) (hi : m.own[i]? = some (oRow v et τ xs)) (hx : ev S x = some v) (hy : ev S y = some (.int k j)) (ht : P.underlying t = some (.slice e)) (hsz : szOf P e = some τ.size) (ho : o.op = .indexAddr t x y)
    (h : ∀ p, EltOf v p (j.toNat * τ.size) → AL P ops rest Q n m (put S d p)) (hdd : o.dst = some d := by rfl) (hd : Nat.blt d n = true := by rfl) (hg : wantS ops S o true = true := by rfl) : AL P ops (o :: rest) Q n m S :=
  al_step hg fun w a hm hs K hK => by
    obtain ⟨cs, hr1, hr2⟩ := own_at hm hi
    rcases hr1.2 with ⟨rfl, hn⟩ | ⟨g, cap, cur, rfl, r⟩
    · omega
    refine step_val (w' := w) (v := .pointer (some ⟨g, j.toNat * τ.size, none⟩)) ?_ (hK _ _ (h _ ⟨g, _, _, rfl, rfl⟩ w _ hm (hs.put' hdd hd _)))
    unfold execOp
    simp only [ho, hs.ev hx, hs.ev hy]
    simp [Instr.indexAt, asIntOf, Sem.run_bind, run_underlying ht, h0, h1, run_sizeOf' hsz, add_plain]
theorem row_cells {w : World} {v p : Value} {e : TypeId} {τ : Ty α} {xs : List α} {Z : Nat → Prop} {k : Nat} {x : α} (h : (oRow v e τ xs).p Z w) (hp : EltOf v p (k * τ.size)) (hx : xs[k]? = some x) :
    ∃ g l c cs cur, v = .slice (some ⟨g, 0, none⟩) l c ∧ p = .pointer (some ⟨g, k * τ.size, none⟩) ∧ w.heap[g]? = some (.cells cur e (0, 0)) ∧ RepL τ Z w cs xs ∧ cur.toList.take (xs.length * τ.size) = cs ∧ cur.size = c * τ.size ∧ l = xs.length ∧ l ≤ c ∧ c ≤ maxLen ∧
      τ.rep Z w ((cs.drop (k * τ.size)).take τ.size) x ∧ ∀ j u, ((cs.drop (k * τ.size)).take τ.size)[j]? = some u → w.cell? ((⟨g, k * τ.size, none⟩ : Addr).add j) = some u := by
  obtain ⟨cs, h1, h2⟩ := h
  obtain ⟨g, l, c, rfl, rfl⟩ := hp
  rcases h1.2 with ⟨he, hn⟩ | ⟨g', cap, cur, he, _, hg, hc, hcm, hsz, htk⟩
  · cases he
  · cases he
    refine ⟨g, _, c, cs, cur, rfl, rfl, hg, h2, htk, hsz, rfl, hc, hcm, h2.at hx, fun j u hu => ?_⟩
    rw [List.getElem?_take] at hu
    split at hu
    · rw [List.getElem?_drop] at hu
      have := h1.cells (g := g) rfl _ u hu
      rw [add_plain] at this ⊢
      rw [Nat.zero_add] at this
      exact this
    · cases hu
theorem ov_loadR {τ : Ty α} {v p u : Value} {xs : List α} {k : Nat} {x : α} {ds : List Value} (i : Nat) {t et : TypeId} {d : TypeDesc} {y : Operand} (hi : m.own[i]? = some (oRow v et τ xs)) (hp : EltOf v p (k * τ.size)) (hxk : xs[k]? = some x) (hds : ∀ {Z w cs}, τ.rep Z w cs x → cs = ds) (hx : ev S y = some p) (hu : P.underlying t = some d) (hsz : szOf P t = some τ.size) (h1 : (isAggD d || Nat.beq τ.size 1) = true) (hv : mk d ds = u) (ho : o.op = .load t y) : OpV P o n m S u := fun w a hm hs => by
  obtain ⟨g, l, c, cs, cur, rfl, rfl, _, _, _, _, _, _, _, hrep, hcells⟩ := row_cells (own_at hm hi) hp hxk
  have hr := run_loadVar' hu hsz w _ _ (τ.len hrep) (fun hd => by rw [hd] at h1; exact Nat.eq_of_beq_eq_true (by simpa using h1)) hcells
  rw [hds hrep, hv] at hr
  unfold execOp
  simp only [ho, hs.ev hx]
  simp [Instr.loadAt, Instr.sureAddr, hr]
theorem of_loadR1 {τ : Ty α} {v p : Value} {xs : List α} {k : Nat} {x : α} (i : Nat) {t et : TypeId} {d : TypeDesc} {y : Operand} (hi : m.own[i]? = some (oRow v et τ xs)) (hp : EltOf v p (k * τ.size)) (hxk : xs[k]? = some x) (hx : ev S y = some p) (hu : P.underlying t = some d) (hsz : szOf P t = some τ.size) (h1 : τ.size = 1) (h2 : isAggD d = false) (ho : o.op = .load t y) : OpF P o n m S (fun u => fDat τ [u] x) := fun w a hm hs => by
    obtain ⟨g, l, c, cs, cur, rfl, rfl, _, _, _, _, _, _, _, hrep, hcells⟩ := row_cells (own_at hm hi) hp hxk
    have hr := run_loadVar' hu hsz w _ _ (τ.len hrep) (fun _ => h1) hcells
    have hl : ((cs.drop (k * τ.size)).take τ.size).length = 1 := (τ.len hrep).trans h1
    obtain ⟨u, hue⟩ : ∃ u, ((cs.drop (k * τ.size)).take τ.size) = [u] := List.length_eq_one_iff.1 hl
    rw [hue] at hr hrep
    refine ⟨u, ?_, hrep⟩
    unfold execOp
    simp only [ho, hs.ev hx]
    simp [Instr.loadAt, Instr.sureAddr, hr, mk, h2]
theorem al_loadR1 {ds : Nat} {τ : Ty α} {v p : Value} {xs : List α} {k : Nat} {x : α} (i : Nat) {t et : TypeId} {d : TypeDesc} {y : Operand} (hi : m.own[i]? = some (oRow v et τ xs)) (hp : EltOf v p (k * τ.size)) (hxk : xs[k]? = some x) (hx : ev S y = some p) (hu : P.underlying t = some d) (hsz : szOf P t = some τ.size) (h1 : τ.size = 1) (h2 : isAggD d = false) (ho : o.op = .load t y)
    (h : ∀ u, AL P ops rest Q n (m.add (fDat τ [u] x)) (put S ds u)) (hdd : o.dst = some ds := by rfl) (hd : Nat.blt ds n = true := by rfl) (hg : wantS ops S o true = true := by rfl) : AL P ops (o :: rest) Q n m S :=
  al_fact (R := fun u => fDat τ [u] x) (of_loadR1 i hi hp hxk hx hu hsz h1 h2 ho) h hdd hd hg
theorem al_loadRA {ds : Nat} {τ : Ty α} {v p : Value} {xs : List α} {k : Nat} {x : α} (i : Nat) {t et : TypeId} {d : TypeDesc} {y : Operand} (hi : m.own[i]? = some (oRow v et τ xs)) (hp : EltOf v p (k * τ.size)) (hxk : xs[k]? = some x) (hx : ev S y = some p) (hu : P.underlying t = some d) (hsz : szOf P t = some τ.size) (h2 : isAggD d = true) (ho : o.op = .load t y)
    (h : ∀ cs, AL P ops rest Q n (m.add (fDat τ cs x)) (put S ds (ag cs))) (hdd : o.dst = some ds := by rfl) (hd : Nat.blt ds n = true := by rfl) (hg : wantS ops S o true = true := by rfl) : AL P ops (o :: rest) Q n m S :=
  al_step hg fun w a hm hs K hK => by
    obtain ⟨g, l, c, cs, cur, rfl, rfl, _, _, _, _, _, _, _, hrep, hcells⟩ := row_cells (own_at hm hi) hp hxk
    have hr := run_loadVar' hu hsz w _ _ (τ.len hrep) (fun hd' => by rw [h2] at hd'; cases hd') hcells
    refine step_val (v := ag ((cs.drop (k * τ.size)).take τ.size)) (w' := w) ?_ (hK _ _ (h _ w _ (hm.add hrep) (hs.put' hdd hd _)))
    unfold execOp
    simp only [ho, hs.ev hx]
    simp [Instr.loadAt, Instr.sureAddr, hr, mk, h2]
theorem al_storeR {τ : Ty α} {v p : Value} {xs : List α} {k : Nat} {x : α} {vs : List Value} {val : Value} (i : Nat) {t et : TypeId} {x' y : Operand} (hi : m.own[i]? = some (oRow v et τ xs)) (hp : EltOf v p (k * τ.size)) (hk : k < xs.length) (hx : ev S x' = some p) (hy : ev S y = some val) (hv : CV m val vs) (hrep : ∀ {w}, Holds m w → τ.rep (m.frz w) w vs x) (hsz : szOf P t = some τ.size) (ho : o.op = .store t x' y)
    (h : AL P ops rest Q n (m.upd i (oRow v et τ (xs.set k x))) S) (hdst : o.dst = none := by rfl) (hg : wantS ops S o true = true := by rfl) : AL P ops (o :: rest) Q n m S :=
  al_step hg fun w a hm hs K hK => by
    obtain ⟨g, l, c, cs, cur, rfl, rfl, hgg, hRL, htk, hcs, hl, hlc, hcm, _, _⟩ := row_cells (own_at hm hi) hp (List.getElem?_eq_getElem hk)
    have hr0 := hrep hm
    have hvl := τ.len hr0
    have hkl : k * τ.size + τ.size ≤ xs.length * τ.size := by rw [← Nat.succ_mul]; exact Nat.mul_le_mul_right _ hk
    have hcl : xs.length * τ.size ≤ c * τ.size := Nat.mul_le_mul_right _ (by omega)
    have hgg' : w.heap[g]? = some (.cells cur.toList.toArray et (0, 0)) := by simpa using hgg
    have hr := run_storeVar' hsz w g (k * τ.size) val et cur.toList vs (by rw [hv hm]) hvl hgg' (by simp; omega) (τ.one hr0)
    refine step_skip (w' := w.setRow g (cur.toList.take (k * τ.size) ++ vs ++ cur.toList.drop (k * τ.size + τ.size)).toArray) (by
      unfold execOp
      simp only [ho, hs.ev hx, hs.ev hy]
      simp [Instr.storeAt, Instr.sureAddr, hr]) (hK _ _ (h _ _ (hm.upd hi ⟨rfl, rfl, rfl, by rw [size_setRow]; exact Nat.le_refl _, fun b _ hb => setRow_other w g b _ (by simpa [oRow, Value.ownBlock] using hb)⟩ (by simp [oRow, Value.ownBlock]) (fun b hb => .inl hb) (fun Z hZ => ?_)) (by rw [hdst]; exact hs)))
    have hag : Agr (m.frz w) w (w.setRow g (cur.toList.take (k * τ.size) ++ vs ++ cur.toList.drop (k * τ.size + τ.size)).toArray) := fun b hb => setRow_other w g b _ (fun e => hb.2.1 (List.mem_flatMap.2 ⟨_, List.mem_of_getElem? hi, by simp [oRow, Value.ownBlock, e]⟩))
    have hclen := hRL.len
    refine ⟨_, ⟨?_, .inr ⟨g, c, _, by rw [hl, List.length_set], Nat.zero_le _, setRow_heap w g cur _ et (0, 0) hgg, by rw [List.length_set]; omega, hcm, ?_, rfl⟩⟩, ?_⟩
    · simp [hvl]; omega
    · simp [hvl]; omega
    · rw [List.length_set]
      have e1 : (cur.toList.take (k * τ.size) ++ vs ++ cur.toList.drop (k * τ.size + τ.size)).toArray.toList.take (xs.length * τ.size) = cs.take (k * τ.size) ++ vs ++ cs.drop ((k + 1) * τ.size) := by
        rw [← htk, Nat.succ_mul]
        show (cur.toList.take (k * τ.size) ++ vs ++ cur.toList.drop (k * τ.size + τ.size)).take (xs.length * τ.size) = _
        rw [List.take_append, List.take_take, Nat.min_eq_left (by omega), List.drop_take, List.take_of_length_le (by simp [hvl]; omega)]
        congr 1
        simp [hvl]
        rw [show min (k * τ.size) cur.size = k * τ.size by omega]
      rw [e1]
      exact ((hRL.keep hag).mono hZ).set k (τ.mono hZ (τ.keep hag hr0)) hk
/-! a row cut short -/
theorem al_cutR {d : Nat} {τ : Ty α} {v : Value} {xs : List α} (i : Nat) {t e et : TypeId} {x z : Operand} {kz : IntKind} {h : Int} (h0 : 0 ≤ h) (h2 : h ≤ xs.length) (hi : m.own[i]? = some (oRow v et τ xs)) (hx : ev S x = some v) (hz : ev S z = some (.int kz h)) (ht : P.underlying t = some (.slice e)) (hsz : szOf P e = some τ.size) (ho : o.op = .slice t x none (some z) none)
    (hh : ∀ u, AL P ops rest Q n (m.upd i (oRow u et τ (xs.take h.toNat))) (put S d u)) (hdd : o.dst = some d := by rfl) (hd : Nat.blt d n = true := by rfl) (hg : wantS ops S o true = true := by rfl) : AL P ops (o :: rest) Q n m S :=
  al_step hg fun w a hm hs K hK => by
    obtain ⟨cs, h1, h3⟩ := own_at hm hi
    obtain ⟨A, c, rfl, hc, hmx⟩ := own_len h1
    have hh1 : h ≤ (c : Int) := by omega
    have hh2 : h.toNat ≤ xs.length := by omega
    refine step_val (w' := w) (v := .slice A h.toNat c) (by
      unfold execOp
      simp only [ho, hs.ev hx, Option.map_some, Option.map_none, hs.ev hz]
      have e1 : (if c = 0 then A else Option.map (fun x => x.add 0) A) = A := by cases A <;> simp [Addr.add]
      simp [Instr.sliceAt, Instr.slice, Instr.sliceBounds, Instr.sliceBound, asIntOf, Sem.run_bind, run_underlying ht, h0, hh1, run_sizeOf' hsz, e1]) ?_
    refine hK _ _ (hh _ _ _ (hm.upd (w' := w) hi ⟨rfl, rfl, rfl, Nat.le_refl _, fun _ _ _ => rfl⟩ (ownBlock_nodup _) (fun b hb => .inl ?_) (fun Z hZ => ?_)) (hs.put' hdd hd _))
    · cases A with
      | none => simp [oRow, Value.ownBlock] at hb
      | some ad => simpa [oRow, Value.ownBlock] using hb
    · refine ⟨cs.take (h.toNat * τ.size), ⟨?_, ?_⟩, (h3.mono hZ).take _⟩
      · rw [List.length_take, List.length_take, h1.1, Nat.min_eq_left (Nat.mul_le_mul_right _ hh2), Nat.min_eq_left hh2]
      · rcases h1.2 with ⟨he, hn⟩ | ⟨g, cap, cur, he, hb, hgg, hcc, hcm, hcs, htk⟩
        · simp only [Value.slice.injEq] at he
          obtain ⟨rfl, hn', rfl⟩ := he
          have : h.toNat = 0 := by omega
          left; rw [this]; simp
        · simp only [Value.slice.injEq] at he
          obtain ⟨rfl, _, rfl⟩ := he
          refine .inr ⟨g, c, cur, by rw [List.length_take, Nat.min_eq_left hh2], hb, hgg, by rw [List.length_take]; omega, hcm, hcs, ?_⟩
          rw [List.length_take, Nat.min_eq_left hh2, ← htk, List.take_take, Nat.min_eq_left (Nat.mul_le_mul_right _ hh2)]
end
end Go.Proofs.YtfhifdmbdkkgaaaDoor.En
