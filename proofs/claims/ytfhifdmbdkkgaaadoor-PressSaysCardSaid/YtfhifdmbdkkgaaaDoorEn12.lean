/- An engine for walks: calls of functions that the model answers itself. No condition. -/
import Derived.Test.YtfhifdmbdkkgaaaDoorEn11
import Derived.Lib.BytesEntry
import Derived.Lib.Bytealg
import Derived.Laws.Externs
namespace Go.Proofs.YtfhifdmbdkkgaaaDoor.En
open Go.RowKit YtfhifdmbdkkgaaaDoor
set_option linter.unusedVariables false
set_option linter.unusedSimpArgs false
section
variable {P : Program} {Q : Exit → Act → World → Prop} {n : Nat} {m : Mem} {S : Sl} {ops : Array Oper} {rest : List Oper} {o : Oper} {α β ι : Type}
theorem load_u8 {w : World} (l : List UInt8) (a : Addr) (acc : ByteArray) (h : ∀ j x, l[j]? = some x → w.cell? (a.add j) = some (.int .u8 (x.toNat : Int))) : (Extern.Bytes.loadBytes a l.length acc).run P w = .ok ⟨acc.data ++ l.toArray⟩ w := by
  have := Lib.run_loadBytesX (P := P) w (l.map fun b => (b.toNat : Int)) a acc (fun j x hj => by
    rw [List.getElem?_map] at hj
    cases hl : l[j]? with
    | none => rw [hl] at hj; cases hj
    | some b => rw [hl] at hj; cases hj; exact h j b hl)
  rw [List.length_map] at this
  rw [this]
  congr 3
  unfold Lib.bytesOf
  rw [List.map_map]
  have : ((fun n : Int => UInt8.ofNat n.toNat) ∘ fun b : UInt8 => (b.toNat : Int)) = id := by funext b; simp
  rw [this, List.map_id]
theorem run_cmp {u v : Value} {a b : ByteArray} {w : World} (h1 : (Extern.Bytes.bytesOf u).run P w = .ok a w) (h2 : (Extern.Bytes.bytesOf v).run P w = .ok b w) : (Extern.BytealgCompare.compare #[u, v]).run P w = .ok (.int .i64 (Lib.compareBytes a.data.toList b.data.toList)) w := by
  change Sem.run P (do pure (goInt (Extern.BytealgCompare.cmp (← Extern.Bytes.bytesOf u) (← Extern.Bytes.bytesOf v)))) w = _
  simp only [Sem.run_bind, h1, h2, Result.andThen, Sem.run_pure]
  rw [Lib.cmp_eq]; rfl
theorem bytes_dat {v : Value} {l : List UInt8} (i : Nat) (hi : m.fz[i]? = some (fDat (tyList tyU8) [v] l)) {w : World} (hm : Holds m w) : (Extern.Bytes.bytesOf v).run P w = .ok ⟨l.toArray⟩ w := by
  obtain ⟨A, k, c, hv, hk, hc, _, hr⟩ := fz_at hm hi
  have hv' : v = .slice A k c := by simpa using hv
  subst hv'
  rcases hr with h0 | ⟨ad, cs, rfl, hca, hrl⟩
  · have hl : l = [] := List.eq_nil_of_length_eq_zero (by omega)
    subst hl; subst h0
    cases A with
    | none => simp [Extern.Bytes.bytesOf]; rfl
    | some ad => simp [Extern.Bytes.bytesOf, Extern.Bytes.loadBytes]; rfl
  · have hcs := u8_cells hrl
    have := load_u8 (P := P) (w := w) l ad .empty (fun j x hj => by
      refine hca.2 j _ ?_
      rw [hcs, List.getElem?_map, hj]; rfl)
    rw [hk]
    simp [Extern.Bytes.bytesOf, this]
theorem ov_bytesCmp {x y : Operand} {u v : Value} {xs ys : List UInt8} {f : FuncId} {fn : Func} {tys : Array TypeId} (i j : Nat) (hi : m.fz[i]? = some (fDat (tyList tyU8) [u] xs)) (hj : m.fz[j]? = some (fDat (tyList tyU8) [v] ys)) (hx : ev S x = some u) (hy : ev S y = some v)
    (hf : P.funcs[f]? = some fn) (hname : (fn.name == "runtime.NumGoroutine") = false) (hb : fn.body.isNone = true) (hn : Extern.findNext fn = none) (he : Extern.find fn = some Extern.BytealgCompare.compare) (ho : o.op = .call { callee := .value (.func f), args := #[x, y], argTypes := tys }) : OpV P o n m S (.int .i64 (Lib.compareBytes xs ys)) := fun w a hm hs => by
  have h1 := bytes_dat (P := P) i hi hm
  have h2 := bytes_dat (P := P) j hj hm
  unfold execOp
  simp only [ho]
  have e : (#[x, y] : Array Operand).map a.eval = #[u, v] := by simp [hs.ev hx, hs.ev hy]
  simp only [resolve, Sem.run_bind, e]
  simp [Act.eval, Deferred.ofValue, invoke, run_callFunc_extern hf hname hb hn he, Sem.run_bind, run_cmp h1 h2]
theorem ov_makeFunc2 {f : FuncId} {caps : List Operand} {vs : List Value} (ho : o.op = .makeFunc (.func f) #[] caps.toArray) (hc : caps.map (ev S) = vs.map some) : OpV P o n m S (.func (.func f) #[] vs.toArray) := fun w a hm hs => by
  unfold execOp
  simp only [ho]
  have e : caps.toArray.map a.eval = vs.toArray := by rw [List.map_toArray, evs hs hc]
  simp [Instr.makeFunc, e]
theorem ld_callF {m0 : Mem} {L : Spec} {E : List Nat} {f : FuncId} {fn : Func} {x : Operand} {args : List Operand} {vs caps vc : List Value} {tys : Array TypeId} {pre : List Fact} {val : Value} (hfn : FnOk P f vc pre [] (fun _ : Unit => { val := val })) (hvc : vs ++ caps = vc) (iv : List Nat) (hpre : PreOk m iv pre) (hx : ev S x = some (.func (.func f) #[] caps.toArray)) (hargs : args.map (ev S) = vs.map some) (hf : P.funcs[f]? = some fn) (hb : fn.body.isNone = false) (hnm : (fn.name == "runtime.NumGoroutine") = false)
    (ho : o.op = .call { callee := .value x, args := args.toArray, argTypes := tys }) (hg : wantS ops S o true = true := by rfl) : LocD P ops m0 L o E n m S (fun u => fEq u val) := fun w a h0 hm hf' hs hE => by
  rw [if_pos (wantS_of hs hg)]
  subst hvc
  refine .inr ⟨f, _, run_callF ho (hs.ev hx) (evs hs hargs) hf hb hnm w, ?_⟩
  refine (hfn w (fun b => b < w.heap.size) (fun b h => h) (by simp) (by simp) (hpre w _ hm (fun b hb => hb.1) (fun j _ o ho b hb => hm.lt (List.mem_flatMap.2 ⟨o, List.mem_of_getElem? ho, hb⟩))) (by simp)).mono ?_
  rintro e w' ⟨i, he, hbel, _⟩
  exact ⟨val, he, (by simpa using hbel : Bel w.heap.size [] w w').below, rfl⟩
end
end Go.Proofs.YtfhifdmbdkkgaaaDoor.En
