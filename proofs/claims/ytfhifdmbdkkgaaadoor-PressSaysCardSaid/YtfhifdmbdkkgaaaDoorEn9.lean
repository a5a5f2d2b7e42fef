/- An engine for walks: results in cells, tests for nil, zeros appended. No condition. -/
import Derived.Test.YtfhifdmbdkkgaaaDoorEn8
import Derived.Lib.AppendZeros
import Derived.Laws.Cover3
namespace Go.Proofs.YtfhifdmbdkkgaaaDoor.En
open Go.RowKit
set_option linter.unusedVariables false
set_option linter.unusedSimpArgs false
section
variable {P : Program} {Q : Exit → Act → World → Prop} {n : Nat} {m : Mem} {S : Sl} {ops : Array Oper} {rest : List Oper} {o : Oper} {α β ι : Type}
/-! results, some in temporaries and some in cells -/
def oneRes (tmps : Array Value) : ResultVar → Sem Value
  | .tmp t => pure (tmps.getD t undef)
  | .cell a t => do loadVar t (← asAddr (tmps.getD a undef))
def RL (P : Program) (n : Nat) (m : Mem) (S : Sl) (rs : List ResultVar) (vs : List Value) : Prop :=
  ∀ w a, Holds m w → Sat n S a → (rs.mapM (oneRes a.tmps)).run P w = .ok vs w
theorem resN : RL P n m S [] [] := fun w a _ _ => by simp
theorem resT {t : Nat} {v : Value} {rs : List ResultVar} {vs : List Value} (hv : S t = some v) (h : RL P n m S rs vs) : RL P n m S (.tmp t :: rs) (v :: vs) := fun w a hm hs => by
  rw [List.mapM_cons]
  simp [oneRes, Sem.run_bind, hs.val t v hv, h w a hm hs]
theorem resB {c t g off k : Nat} {i : Nat} {et : TypeId} {cs : List Value} {v : Value} {d : TypeDesc} {rs : List ResultVar} {vs : List Value} (hi : m.own[i]? = some (oBox g et cs)) (hx : S c = some (ptr g off)) (hu : P.underlying t = some d) (hsz : szOf P t = some k)
    (h1 : (isAggD d || Nat.beq k 1) = true) (hl : ((cs.drop off).take k).length = k) (hv : mk d ((cs.drop off).take k) = v) (h : RL P n m S rs vs) : RL P n m S (.cell c t :: rs) (v :: vs) := fun w a hm hs => by
  have hr := run_loadVar' hu hsz w ⟨g, off, none⟩ ((cs.drop off).take k) hl (fun hd => by rw [hd] at h1; exact Nat.eq_of_beq_eq_true (by simpa using h1)) (fun j u hj => by
    rw [box_cell hm hi]
    rw [List.getElem?_take] at hj
    split at hj
    · rw [List.getElem?_drop] at hj; exact hj
    · cases hj)
  rw [List.mapM_cons]
  have hp : (asAddr (ptr g off)).run P w = .ok ⟨g, off, none⟩ w := by simp [asAddr, ptr]
  simp [oneRes, Sem.run_bind, hs.val c _ hx, hp, hr, hv, h w a hm hs]
def tupOf : List Value → Value
  | [v] => v
  | vs => .tuple vs.toArray
theorem resC {fn : Func} {rs : List ResultVar} {vs : List Value} {v : Value} (hr : fn.results = rs.toArray) (h : RL P n m S rs vs) (hv : tupOf vs = v) : ∀ w a, Holds m w → Sat n S a → (results fn a.tmps).run P w = .ok v w := fun w a hm hs => by
  have hq := h w a hm hs
  have he : results fn a.tmps = (do let vs ← fn.results.mapM (oneRes a.tmps); pure (if h : vs.size = 1 then vs[0] else .tuple vs)) := rfl
  rw [he, hr, List.mapM_toArray]
  simp only [Sem.run_bind, map_eq_pure_bind, hq, Result.andThen_ok, Sem.run_pure]
  rw [← hv]
  match vs with
  | [] => rfl
  | [x] => rfl
  | x :: y :: zs => simp [tupOf]
/-! is a slice nil -/
theorem al_isNilD {d : Nat} {τ : Ty α} {v : Value} {xs : List α} (i : Nat) {t e yt : TypeId} {x y : Operand} (hi : m.fz[i]? = some (fDat (tyList τ) [v] xs)) (hx : ev S x = some v) (hy : ev S y = some (.slice none 0 0)) (ht : P.underlying t = some (.slice e)) (ho : o.op = .binOp .eql t x y yt)
    (h : ∀ b, (b = true → xs = []) → AL P ops rest Q n m (put S d (.bool b))) (hdd : o.dst = some d := by rfl) (hd : Nat.blt d n = true := by rfl) (hg : wantS ops S o true = true := by rfl) : AL P ops (o :: rest) Q n m S :=
  al_step hg fun w a hm hs K hK => by
    obtain ⟨A, l, c, he, hl, _, _, hr⟩ := fz_at hm hi
    have he' : v = .slice A l c := by simpa using he
    refine step_val (w' := w) (v := .bool A.isNone) ?_ (hK _ _ (h _ (fun hb => ?_) w _ hm (hs.put' hdd hd _)))
    · unfold execOp
      simp only [ho, hs.ev hx, hs.ev hy, he']
      simp [eqGuard, binOp, run_equal_slice_nil (P := P) w t e A l c ht]
    · rcases hr with hr | ⟨ad, cs, rfl, _⟩
      · exact List.eq_nil_of_length_eq_zero (by omega)
      · cases hb
theorem al_isNilR {d : Nat} {τ : Ty α} {v : Value} {et : TypeId} {xs : List α} (i : Nat) {t e yt : TypeId} {x y : Operand} (hi : m.own[i]? = some (oRow v et τ xs)) (hx : ev S x = some v) (hy : ev S y = some (.slice none 0 0)) (ht : P.underlying t = some (.slice e)) (ho : o.op = .binOp .eql t x y yt)
    (h : ∀ b, (b = true → xs = []) → AL P ops rest Q n m (put S d (.bool b))) (hdd : o.dst = some d := by rfl) (hd : Nat.blt d n = true := by rfl) (hg : wantS ops S o true = true := by rfl) : AL P ops (o :: rest) Q n m S :=
  al_step hg fun w a hm hs K hK => by
    obtain ⟨cs, h1, _⟩ := own_at hm hi
    have h1' := h1
    obtain ⟨A, c, rfl, _, _⟩ := own_len h1
    refine step_val (w' := w) (v := .bool A.isNone) ?_ (hK _ _ (h _ (fun hb => ?_) w _ hm (hs.put' hdd hd _)))
    · unfold execOp
      simp only [ho, hs.ev hx, hs.ev hy]
      simp [eqGuard, binOp, run_equal_slice_nil (P := P) w t e A _ c ht]
    · rcases h1'.2 with ⟨_, hn⟩ | ⟨g, cap, cur, he, _⟩
      · exact List.eq_nil_of_length_eq_zero hn
      · cases he; cases hb
/-- nil is nil -/
theorem ov_nilNil {t e yt : TypeId} {x y : Operand} (hx : ev S x = some (.slice none 0 0)) (hy : ev S y = some (.slice none 0 0)) (ht : P.underlying t = some (.slice e)) (ho : o.op = .binOp .eql t x y yt) : OpV P o n m S (.bool true) := fun w a hm hs => by
  unfold execOp
  simp only [ho, hs.ev hx, hs.ev hy]
  simp [eqGuard, binOp, run_equal_slice_nil (P := P) w t e none 0 0 ht]
def amb {β : Type} [DecidableEq β] (c : Bool) (a b : Option β) : Option β := bif c then (if a = b then b else none) else b
theorem amb_some {β : Type} [DecidableEq β] {c : Bool} {a b : Option β} {r : β} (h : amb c a b = some r) : b = some r ∧ (c = true → a = some r) := by
  unfold amb at h
  cases c with
  | false => exact ⟨h, fun h => by cases h⟩
  | true =>
    simp only [cond_true] at h
    split at h
    · rename_i he; exact ⟨h, fun _ => he ▸ h⟩
    · cases h
theorem amb_same {β : Type} [DecidableEq β] {c : Bool} {a : Option β} : amb c a a = a := by unfold amb; cases c <;> simp
theorem amb_ff {β : Type} [DecidableEq β] {c : Bool} {a b : Option β} (h : c = false) : amb c a b = b := by rw [h]; rfl
theorem isEmpty_of {xs : List α} (h : xs = []) : xs.isEmpty = true := by rw [h]; rfl
/-! nil: its room; its beginning -/
theorem ov_capN {t e : TypeId} {x : Operand} {A : Option Addr} {k c : Nat} (hx : ev S x = some (.slice A k c)) (ht : P.underlying t = some (.slice e)) (ho : o.op = .call { callee := .builtin .cap, args := #[x], argTypes := #[t] }) : OpV P o n m S (.int .i64 c) := fun w a hm hs => by
  unfold execOp
  simp [ho, resolve, invoke, builtin, hs.ev hx, Builtin.cap_, run_underlying ht, goInt]
theorem ov_cutN {t e : TypeId} {x z : Operand} {kz : IntKind} {k : Nat} (hx : ev S x = some (.slice none 0 0)) (hz : ev S z = some (.int kz 0)) (ht : P.underlying t = some (.slice e)) (hsz : szOf P e = some k) (ho : o.op = .slice t x none (some z) none) : OpV P o n m S (.slice none 0 0) := fun w a hm hs => by
  unfold execOp
  simp only [ho, hs.ev hx, Option.map_some, Option.map_none, hs.ev hz]
  simp [Instr.sliceAt, Instr.slice, Instr.sliceBounds, Instr.sliceBound, asIntOf, run_underlying ht, run_sizeOf' hsz]
/-! zeros appended to nil -/
theorem zeros_rep {τ : Ty α} {z : Value} {x : α} (hz : ∀ Z w, τ.rep Z w z.cells.toList x) (Z : Nat → Prop) (w : World) (k : Nat) : RepL τ Z w (Builtin.zeroCells z.cells k).toList (List.replicate k x) := by
  have := repl_rep hz Z w k
  have hl : z.cells.toList.length = τ.size := τ.len (hz Z w)
  have hsz : z.cells.size = τ.size := by rw [← Array.length_toList]; exact hl
  have he : (Builtin.zeroCells z.cells k).toList = (madeCells z.cells (k * τ.size)).toList := by
    unfold Builtin.zeroCells madeCells
    simp [hsz]
  rw [he]; exact this
theorem al_appendZ {d : Nat} {τ : Ty α} {x0 : α} {t tn e : TypeId} {x y : Operand} {k kn : IntKind} {l : Int} {by_ : Nat} {z : Value} (h0 : 0 < l) (hb : l * (by_ : Int) ≤ 140737488355328) (h63 : l ≤ 9223372036854775807)
    (hx : ev S x = some (.slice none 0 0)) (hy : ev S y = some (.int k l)) (ht : P.underlying t = some (.slice e)) (htn : P.underlying tn = some (.int kn)) (hin : tyOf P e = some (τ.size, by_, some z)) (hz : ∀ Z w, τ.rep Z w z.cells.toList x0) (hsz : Nat.blt 0 τ.size = true)
    (ho : o.op = .call { callee := .builtin .append, args := #[x, y], argTypes := #[t, tn] })
    (h : ∀ v, AL P ops rest Q n (m.push (oRow v e τ (List.replicate l.toNat x0))) (put S d v)) (hdd : o.dst = some d := by rfl) (hd : Nat.blt d n = true := by rfl) (hg : wantS ops S o true = true := by rfl) : AL P ops (o :: rest) Q n m S :=
  al_step hg fun w a hm hs K hK => by
    obtain ⟨inf, hi1, hi2, hi3, hi4⟩ := tyOf_parts hin
    have hsz' : 0 < τ.size := by simpa [Nat.blt_eq] using hsz
    obtain ⟨q, rfl⟩ : ∃ q : Nat, l = q := ⟨l.toNat, by omega⟩
    have hb' : q * by_ ≤ 140737488355328 := by
      have : ((q * by_ : Nat) : Int) ≤ 140737488355328 := by rw [Int.natCast_mul]; exact hb
      omega
    have hr := Lib.run_append_nil_zeros (P := P) w t tn o.type e inf z k kn ht htn hi1 hi2 q (by omega) (by omega) h63 (by rw [hi4]; omega)
    have hge := grownCap_ge w q 0 e
    have hcm : grownCap w q 0 e ≤ maxLen := grownCap_le_maxLen w q 0 e (by unfold maxLen; omega)
    have hzl : z.cells.size = τ.size := by rw [← Array.length_toList]; exact τ.len (hz (fun _ => False) w)
    refine step_val (w' := w.drew.alloc (.cells (Builtin.zeroCells z.cells q ++ Builtin.zeroCells z.cells (grownCap w q 0 e - q)) e)) (v := .slice (some ⟨w.heap.size, 0, none⟩) q (grownCap w q 0 e)) (by
      unfold execOp; simp only [ho, resolve, invoke, builtin, Sem.run_bind, Sem.run_pure, Result.andThen_ok, List.map_toArray, List.map_cons, List.map_nil, hs.ev hx, hs.ev hy, hr]) ?_
    have hbel : Below w.heap.size w (w.drew.alloc (.cells (Builtin.zeroCells z.cells q ++ Builtin.zeroCells z.cells (grownCap w q 0 e - q)) e)) := ((Below.refl _ _).drew).alloc (Nat.le_refl _) _
    refine hK _ _ (h _ _ _ (hm.push hbel (ownBlock_nodup _) (by simp [oRow, Value.ownBlock]) (fun Z hZ => ?_)) (hs.put' hdd hd _))
    have hrep := zeros_rep hz Z (w.drew.alloc (.cells (Builtin.zeroCells z.cells q ++ Builtin.zeroCells z.cells (grownCap w q 0 e - q)) e)) q
    have hs1 : (Builtin.zeroCells z.cells q).size = q * τ.size := by rw [← Array.length_toList, hrep.len]; simp
    have hs2 : (Builtin.zeroCells z.cells (grownCap w q 0 e - q)).size = (grownCap w q 0 e - q) * τ.size := by
      have := (zeros_rep hz Z w (grownCap w q 0 e - q)).len
      rw [← Array.length_toList, this]; simp
    refine ⟨(Builtin.zeroCells z.cells q).toList, ⟨by simp [hs1], .inr ⟨w.heap.size, grownCap w q 0 e, _, by simp, Nat.zero_le _, heap_alloc_new w.drew _, by simpa using hge, hcm, ?_, ?_⟩⟩, ?_⟩
    · rw [Array.size_append, hs1, hs2, ← Nat.add_mul]; congr 1; omega
    · simp [hs1]
    · simpa using hrep
end
end Go.Proofs.YtfhifdmbdkkgaaaDoor.En
