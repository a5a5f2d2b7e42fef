/- An engine for walks: contracts of the library taken over, elements' fields, and more operations. No condition. -/
import Derived.Test.YtfhifdmbdkkgaaaDoorEn13
import Derived.Laws.RangeString
namespace Go.Proofs.YtfhifdmbdkkgaaaDoor.En
open Go.RowKit
set_option linter.unusedVariables false
set_option linter.unusedSimpArgs false
/-- a contract of a call that only adds to memory -/
theorem fnok_pure {P : Program} {f : FuncId} {args : List Value} {v : Value} (h : ∀ w, Calls P f args.toArray w fun e w' => e = .returned v ∧ Below w.heap.size w w') : FnOk P f args [] [] (fun _ : Unit => { val := v }) := fun w Z hZ hnd hX hpre hoin =>
  (h w).mono fun e w' ⟨he, hb⟩ => ⟨(), he, Bel.of hb, by simp, by simp, fun Z' _ => ⟨by simp, by simp⟩⟩
/-- a contract of a call that only adds to memory and leans on facts -/
theorem fnok_pre {P : Program} {f : FuncId} {args : List Value} {pre : List Fact} {v : Value} (h : ∀ w Z, (∀ g ∈ pre, g.p Z w) → Calls P f args.toArray w fun e w' => e = .returned v ∧ Below w.heap.size w w') : FnOk P f args pre [] (fun _ : Unit => { val := v }) := fun w Z hZ hnd hX hpre hoin =>
  (h w Z hpre).mono fun e w' ⟨he, hb⟩ => ⟨(), he, Bel.of hb, by simp, by simp, fun Z' _ => ⟨by simp, by simp⟩⟩
/-! a range over a string -/
def dec (s : List UInt8) (p : Nat) : Nat × Nat := Utf8.decode ⟨s.toArray⟩ p
def oIter (g : Nat) (s : List UInt8) (p : Int) : Own where
  blk := [g]
  p _ w := w.heap[g]? = some (.stringIter ⟨s.toArray⟩ p.toNat)
  keep hz h := (hz g (.inr (by simp))).trans h
  mono _ h := h
  lt h := by intro b hb; rw [List.mem_singleton.1 hb]; exact (Array.getElem?_eq_some_iff.1 h).1
section
variable {P : Program} {Q : Exit → Act → World → Prop} {n : Nat} {m : Mem} {S : Sl} {ops : Array Oper} {rest : List Oper} {o : Oper}
theorem al_range {d : Nat} {t : TypeId} {x : Operand} {s : List UInt8} (hx : ev S x = some (str s)) (ht : P.underlying t = some .string) (ho : o.op = .range t x)
    (h : ∀ g, AL P ops rest Q n (m.push (oIter g s 0)) (put S d (ptr g 0))) (hdd : o.dst = some d := by rfl) (hd : Nat.blt d n = true := by rfl) (hg : wantS ops S o true = true := by rfl) : AL P ops (o :: rest) Q n m S :=
  al_step hg fun w a hm hs K hK => by
    refine step_val (v := ptr w.heap.size 0) (w' := w.alloc (.stringIter ⟨s.toArray⟩ 0)) ?_ (hK _ _ (h _ _ _ (hm.push ((Below.refl _ _).alloc (Nat.le_refl _) _) (by simp [oIter]) (by simp [oIter]) (fun Z _ => heap_alloc_new w _)) (hs.put' hdd hd _)))
    unfold execOp
    simp only [ho, hs.ev hx]
    have := run_range_string (P := P) w t ⟨s.toArray⟩ ht
    simp [str, this, ptr, World.iter]
theorem ov_nilCheck {x : Operand} {g off : Nat} (ho : o.op = .nilCheck x) (hx : ev S x = some (ptr g off)) : OpV P o n m S (ptr g off) := fun w a _ hs => by
  unfold execOp; simp only [ho, hs.ev hx]; simp [ptr]
theorem setIter_other (w : World) (g b : Nat) (o' : Obj) (h : b ≠ g) : ({ w with heap := w.heap.setIfInBounds g o' } : World).heap[b]? = w.heap[b]? := by
  simp only [Array.getElem?_setIfInBounds]
  rw [if_neg (fun e => h e.symm)]
theorem al_next {d : Nat} {it : Operand} {g : Nat} {s : List UInt8} {p : Int} (i : Nat) (hi : m.own[i]? = some (oIter g s p)) (hx : ev S it = some (ptr g 0)) (ho : o.op = .next it true)
    (h1 : p.toNat < s.length → AL P ops rest Q n (m.upd i (oIter g s ((p.toNat + (dec s p.toNat).2 : Nat) : Int))) (put S d (.tuple #[.bool true, .int .i64 ((p.toNat : Nat) : Int), .int .i32 (((dec s p.toNat).1 : Nat) : Int)])))
    (h2 : ¬ p.toNat < s.length → AL P ops rest Q n m (put S d (.tuple #[.bool false]))) (hdd : o.dst = some d := by rfl) (hd : Nat.blt d n = true := by rfl) (hg : wantS ops S o true = true := by rfl) : AL P ops (o :: rest) Q n m S :=
  al_step hg fun w a hm hs K hK => by
    have hob : w.heap[g]? = some (.stringIter ⟨s.toArray⟩ p.toNat) := own_at hm hi
    have hsz : (⟨s.toArray⟩ : ByteArray).size = s.length := size_str s
    by_cases hlt : p.toNat < s.length
    · refine step_val (v := .tuple #[.bool true, .int .i64 ((p.toNat : Nat) : Int), .int .i32 (((dec s p.toNat).1 : Nat) : Int)]) (w' := { w with heap := w.heap.setIfInBounds g (.stringIter ⟨s.toArray⟩ (p.toNat + (dec s p.toNat).2)) }) ?_ (hK _ _ (h1 hlt _ _ (hm.upd hi ⟨rfl, rfl, rfl, by simp, fun b _ hb => setIter_other w g b _ (by simpa [oIter] using hb)⟩ (by simp [oIter]) (fun b hb => .inl hb) (fun Z _ => ?_)) (hs.put' hdd hd _)))
      · unfold execOp
        simp only [ho, hs.ev hx]
        simp only [ptr, Instr.next, getObj, setObj, Sem.run_bind, Sem.run, hob, Result.andThen, hsz, hlt, if_true]
        simp [goInt, Sem.run, hob, dec]
      · have hg' : g < w.heap.size := (Array.getElem?_eq_some_iff.1 hob).1
        show ({ w with heap := _ } : World).heap[g]? = _
        simp [hg']
        omega
    · refine step_val (v := .tuple #[.bool false]) (w' := w) ?_ (hK _ _ (h2 hlt _ _ hm (hs.put' hdd hd _)))
      unfold execOp
      simp only [ho, hs.ev hx]
      simp [ptr, Instr.next, getObj, Sem.run, hob, hsz, hlt]
end
end Go.Proofs.YtfhifdmbdkkgaaaDoor.En
