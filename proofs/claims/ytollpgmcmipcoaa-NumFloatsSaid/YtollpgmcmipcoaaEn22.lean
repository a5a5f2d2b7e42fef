/- An engine for walks: numbers with a point. No condition. -/
import Derived.Test.YtollpgmcmipcoaaEn21
import Derived.Laws.Cover2
namespace Go.Proofs.Ytollpgmcmipcoaa.En
open Go.RowKit Go.Maps Ytollpgmcmipcoaa
set_option linter.unusedVariables false
set_option linter.unusedSimpArgs false
section
variable {P : Program} {n : Nat} {m : Mem} {S : Sl} {o : Oper}
/-- is a word no number -/
def fNaN (b : Nat) : Bool := FloatKind.f64.format.order b b != some .eq
theorem ov_floatNe {xt yt : TypeId} {x y : Operand} {p q : Nat} (ho : o.op = .binOp .neq xt x y yt) (hx : ev S x = some (.float .f64 p)) (hy : ev S y = some (.float .f64 q)) : OpV P o n m S (.bool (FloatKind.f64.format.order p q != some .eq)) := fun w a _ hs => by
  unfold execOp
  simp only [ho, hs.ev hx, hs.ev hy]
  simp [eqGuard, binOp, Op.floatCmp]
theorem run_fbits (b : Nat) (w : World) : (Extern.MathFloatBits.float64bits #[.float .f64 b]).run P w = .ok (.int .u64 (b : Int)) w := rfl
theorem run_ffrom (b : Int) (w : World) : (Extern.MathFloatBits.float64frombits #[.int .u64 b]).run P w = .ok (.float .f64 b.toNat) w := rfl
theorem ov_fbits {x : Operand} {b : Nat} {f : FuncId} {fn : Func} {tys : Array TypeId} (hx : ev S x = some (.float .f64 b)) (hf : P.funcs[f]? = some fn) (hname : (fn.name == "runtime.NumGoroutine") = false) (hb : fn.body.isNone = true) (hn : Extern.findNext fn = none) (he : Extern.find fn = some Extern.MathFloatBits.float64bits) (ho : o.op = .call { callee := .value (.func f), args := #[x], argTypes := tys }) : OpV P o n m S (.int .u64 (b : Int)) := fun w a hm hs => by
  unfold execOp
  simp only [ho]
  have e : (#[x] : Array Operand).map a.eval = #[.float .f64 b] := by simp [hs.ev hx]
  simp only [resolve, Sem.run_bind, e]
  simp [Act.eval, Deferred.ofValue, invoke, run_callFunc_extern hf hname hb hn he, Sem.run_bind, run_fbits]
theorem ov_ffrom {x : Operand} {b : Int} {f : FuncId} {fn : Func} {tys : Array TypeId} (hx : ev S x = some (.int .u64 b)) (hf : P.funcs[f]? = some fn) (hname : (fn.name == "runtime.NumGoroutine") = false) (hb : fn.body.isNone = true) (hn : Extern.findNext fn = none) (he : Extern.find fn = some Extern.MathFloatBits.float64frombits) (ho : o.op = .call { callee := .value (.func f), args := #[x], argTypes := tys }) : OpV P o n m S (.float .f64 b.toNat) := fun w a hm hs => by
  unfold execOp
  simp only [ho]
  have e : (#[x] : Array Operand).map a.eval = #[.int .u64 b] := by simp [hs.ev hx]
  simp only [resolve, Sem.run_bind, e]
  simp [Act.eval, Deferred.ofValue, invoke, run_callFunc_extern hf hname hb hn he, Sem.run_bind, run_ffrom]
end
end Go.Proofs.Ytollpgmcmipcoaa.En
