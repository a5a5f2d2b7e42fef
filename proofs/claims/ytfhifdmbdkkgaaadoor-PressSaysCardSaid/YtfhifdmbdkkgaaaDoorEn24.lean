/- An engine for walks: functions as data, least and greatest of five. No condition. -/
import Derived.Test.YtfhifdmbdkkgaaaDoorEn21
namespace Go.Proofs.YtfhifdmbdkkgaaaDoor.En
open Go.RowKit Go.Maps YtfhifdmbdkkgaaaDoor
set_option linter.unusedVariables false
set_option linter.unusedSimpArgs false
/-- a function without captures, by its number -/
def tyFn : Ty Int := tyEnc 1 (fun x => [.func (.func x.toNat) #[] #[]]) (fun _ => rfl) (by simp [Value.oneCell'])
section
variable {P : Program} {Q : Exit → Act → World → Prop} {n : Nat} {m : Mem} {S : Sl} {ops : Array Oper} {rest : List Oper} {o : Oper}
theorem al_recast {d : Nat} {v v' : Value} (hx : S d = some v) (e : v = v') (h : AL P ops rest Q n m (put S d v')) : AL P ops rest Q n m S := by
  subst e
  have hp : put S d v = S := by
    funext t
    cases hb : Nat.beq t d with
    | true => have e := Nat.eq_of_beq_eq_true hb; subst e; simp [put, hx]
    | false => simp [put, hb]
  rw [hp] at h
  exact h
def min2 (p q : Int) : Int := if q < p then q else p
def max2 (p q : Int) : Int := if q > p then q else p
theorem ov_min5 {x1 x2 x3 x4 x5 : Operand} {tys : Array TypeId} {k : IntKind} {p1 p2 p3 p4 p5 : Int} (ho : o.op = .call { callee := .builtin .min, args := #[x1, x2, x3, x4, x5], argTypes := tys }) (h1 : ev S x1 = some (.int k p1)) (h2 : ev S x2 = some (.int k p2)) (h3 : ev S x3 = some (.int k p3)) (h4 : ev S x4 = some (.int k p4)) (h5 : ev S x5 = some (.int k p5)) : OpV P o n m S (.int k (min2 (min2 (min2 (min2 p1 p2) p3) p4) p5)) := fun w a _ hs => by
  unfold execOp
  simp [ho, resolve, invoke, builtin, hs.ev h1, hs.ev h2, hs.ev h3, hs.ev h4, hs.ev h5, Builtin.min_, Builtin.min2]
  rfl
theorem ov_max5 {x1 x2 x3 x4 x5 : Operand} {tys : Array TypeId} {k : IntKind} {p1 p2 p3 p4 p5 : Int} (ho : o.op = .call { callee := .builtin .max, args := #[x1, x2, x3, x4, x5], argTypes := tys }) (h1 : ev S x1 = some (.int k p1)) (h2 : ev S x2 = some (.int k p2)) (h3 : ev S x3 = some (.int k p3)) (h4 : ev S x4 = some (.int k p4)) (h5 : ev S x5 = some (.int k p5)) : OpV P o n m S (.int k (max2 (max2 (max2 (max2 p1 p2) p3) p4) p5)) := fun w a _ hs => by
  unfold execOp
  simp [ho, resolve, invoke, builtin, hs.ev h1, hs.ev h2, hs.ev h3, hs.ev h4, hs.ev h5, Builtin.max_, Builtin.max2]
  rfl
end
end Go.Proofs.YtfhifdmbdkkgaaaDoor.En
