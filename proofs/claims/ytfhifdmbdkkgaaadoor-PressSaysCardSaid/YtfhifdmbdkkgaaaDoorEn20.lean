/- An engine for walks: loops that are unrolled, slices of places. No condition. -/
import Derived.Test.YtfhifdmbdkkgaaaDoorEn19
import Derived.LoopN
namespace Go.Proofs.YtfhifdmbdkkgaaaDoor.En
open Go.RowKit
set_option linter.unusedVariables false
set_option linter.unusedSimpArgs false
section
variable {P : Program} {Q : Exit → Act → World → Prop} {n : Nat} {m : Mem} {S : Sl} {ops : Array Oper} {rest : List Oper} {o : Oper} {α β : Type}
theorem aw_rounds {c : Code} (k : Nat) (h : AW P c (Exit.then (Code.rounds P c Q k) Q) n m S) : AW P (.loop c) Q n m S := fun w a hm hs => wp_loop_rounds (k + 1) (h w a hm hs)
theorem aq_round {c : Code} {k : Nat} (h : AW P c (Exit.then (Code.rounds P c Q k) Q) n m S) : AQ (Exit.then (Code.rounds P c Q (k + 1)) Q) .normal n m S := fun w a hm hs => h w a hm hs
theorem al_buildBox {d : Nat} {t e : TypeId} {k : Nat} {parts : Array (Nat × Operand)} {cs : List Value} (hb : ∀ w a, Holds m w → Sat n S a → ∃ cells : Array Value, cells.toList = cs ∧ (Instr.buildSlice t k (parts.map fun (i, x) => (i, a.eval x))).run P w = .ok (.slice (some ⟨w.heap.size, 0, none⟩) k k) (w.alloc (.cells cells e)))
    (ho : o.op = .buildSlice t k parts)
    (h : ∀ g, AL P ops rest Q n (m.push (oBox g e cs)) (put S d (sbx g 0 k))) (hdd : o.dst = some d := by rfl) (hd : Nat.blt d n = true := by rfl) (hg : wantS ops S o true = true := by rfl) : AL P ops (o :: rest) Q n m S :=
  al_step hg fun w a hm hs K hK => by
    obtain ⟨cells, hc, hr⟩ := hb w a hm hs
    refine step_val (w' := w.alloc (.cells cells e)) (v := .slice (some ⟨w.heap.size, 0, none⟩) k k) (by unfold execOp; simp only [ho]; simp [hr]) ?_
    have hcc : cells = cs.toArray := by rw [← hc, Array.toArray_toList]
    refine hK _ _ (h w.heap.size _ _ ?_ (hs.put' hdd hd _))
    rw [hcc]
    exact box_push hm e cs
theorem ov_idxSbx {g off len k : Nat} {t e : TypeId} {x y : Operand} {kk : IntKind} {j : Int} (h0 : 0 ≤ j) (h1 : j < len) (hx : ev S x = some (sbx g off len)) (hy : ev S y = some (.int kk j)) (ht : P.underlying t = some (.slice e)) (hsz : szOf P e = some 1) (ho : o.op = .indexAddr t x y) (hk : off + j.toNat * 1 = k) :
    OpV P o n m S (ptr g k) := fun w a hm hs => by
  subst hk
  unfold execOp
  simp only [ho, hs.ev hx, hs.ev hy]
  simp [sbx, ptr, Instr.indexAt, asIntOf, Sem.run_bind, run_underlying ht, h0, h1, run_sizeOf' hsz, add_plain]
theorem ov_lenSbx {g off len : Nat} {t e : TypeId} {x : Operand} (hx : ev S x = some (sbx g off len)) (ht : P.underlying t = some (.slice e)) (ho : o.op = .call { callee := .builtin .len, args := #[x], argTypes := #[t] }) : OpV P o n m S (.int .i64 (len : Int)) := fun w a hm hs => by
  unfold execOp
  simp [ho, resolve, invoke, builtin, hs.ev hx, sbx, Builtin.len_, run_underlying ht, goInt]
end
end Go.Proofs.YtfhifdmbdkkgaaaDoor.En
