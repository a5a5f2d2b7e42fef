/- An engine for walks: == of structs and arrays. No condition. -/
import Derived.Test.YtfhifdmbdkkgaaaDoorEn10
import Derived.Test.YtfhifdmbdkkgaaaDoorEq
namespace Go.Proofs.YtfhifdmbdkkgaaaDoor.En
open Go.RowKit YtfhifdmbdkkgaaaDoor
set_option linter.unusedVariables false
set_option linter.unusedSimpArgs false
section
variable {P : Program} {Q : Exit → Act → World → Prop} {n : Nat} {m : Mem} {S : Sl} {ops : Array Oper} {rest : List Oper} {o : Oper} {α β ι : Type}
theorem fit_nil : fits P [] [] = true := rfl
theorem fit_cons {t : TypeId} {ts : List TypeId} {v : Value} {vs : List Value} (h : leafOk P t v = true) (hr : fits P ts vs = true) : fits P (t :: ts) (v :: vs) = true := by unfold fits; rw [h, hr]; rfl
theorem fit_int {t : TypeId} {k : IntKind} {x : Int} (hu : P.underlying t = some (.int k)) (h : (Lit.int k x).wf = true) : leafOk P t (.int k x) = true := by
  unfold leafOk; rw [hu]; simp [h]
theorem fit_u8 {t : TypeId} {b : UInt8} (hu : P.underlying t = some (.int .u8)) : leafOk P t (.int .u8 (b.toNat : Int)) = true := fit_int hu (by
  have := b.toNat_lt
  simp [Lit.wf, IntKind.min, IntKind.max, IntKind.signed, IntKind.bits]; omega)
theorem fit_bool {t : TypeId} {b : Bool} (hu : P.underlying t = some .bool) : leafOk P t (.bool b) = true := by unfold leafOk; rw [hu]
theorem fit_str {t : TypeId} {l : List UInt8} (hu : P.underlying t = some .string) (h : l.length ≤ 9223372036854775807) : leafOk P t (str l) = true := by
  unfold leafOk str; rw [hu]; simp [size_str, maxLen]; omega
theorem ov_eqlA {t yt : TypeId} {x y : Operand} {cs ds : List Value} {ls : List TypeId} {p : Bool} (hg : P.eqGuardType P.depth t = false) (hk : P.keyTypeAt 20 t = true) (hl : leaves P 20 t = some ls) (hx : ev S x = some (ag cs)) (hy : ev S y = some (ag ds)) (hfx : (ag cs).formed P t = true) (hfy : (ag ds).formed P t = true)
    (fx : fits P ls cs = true) (fy : fits P ls ds = true) (hp : p = true ↔ cs = ds) (ho : o.op = .binOp .eql t x y yt) : OpV P o n m S (.bool p) := fun w a hm hs => by
  unfold execOp
  simp only [ho, hs.ev hx, hs.ev hy]
  have := run_eql_plain (P := P) w 20 20 (by decide) t ls hk hl cs.toArray ds.toArray hfx hfy fx fy p hp
  simp [eqGuard, Sem.run_bind, this, ag, hg]
theorem ov_neqA {t yt : TypeId} {x y : Operand} {cs ds : List Value} {ls : List TypeId} {p : Bool} (hg : P.eqGuardType P.depth t = false) (hk : P.keyTypeAt 20 t = true) (hl : leaves P 20 t = some ls) (hx : ev S x = some (ag cs)) (hy : ev S y = some (ag ds)) (hfx : (ag cs).formed P t = true) (hfy : (ag ds).formed P t = true)
    (fx : fits P ls cs = true) (fy : fits P ls ds = true) (hp : p = true ↔ cs = ds) (ho : o.op = .binOp .neq t x y yt) : OpV P o n m S (.bool (!p)) := fun w a hm hs => by
  unfold execOp
  simp only [ho, hs.ev hx, hs.ev hy]
  have := run_neq_plain (P := P) w 20 20 (by decide) t ls hk hl cs.toArray ds.toArray hfx hfy fx fy p hp
  simp [eqGuard, Sem.run_bind, this, ag, hg]
end
end Go.Proofs.YtfhifdmbdkkgaaaDoor.En
