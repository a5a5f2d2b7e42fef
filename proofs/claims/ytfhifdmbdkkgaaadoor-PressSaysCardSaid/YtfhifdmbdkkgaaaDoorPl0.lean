/- Plain lemmas on the words of the printed functions. No condition. -/
import Derived.Test.YtfhifdmbdkkgaaaDoorEn8
import Derived.IntWalk
namespace Go.Proofs.YtfhifdmbdkkgaaaDoor
open Go.RowKit YtfhifdmbdkkgaaaDoor.En
theorem at_nat {α : Type} (xs : List α) (k : Nat) : at? xs (k : Int) = xs[k]? := by unfold at?; rw [if_pos (Int.natCast_nonneg k)]; simp
theorem at_lt {α : Type} {xs : List α} {k : Nat} (h : k < xs.length) : at? xs (k : Int) = some xs[k] := by rw [at_nat, List.getElem?_eq_getElem h]
theorem at_of {α : Type} {xs : List α} {k : Nat} {x : α} (h : xs[k]? = some x) : at? xs (k : Int) = some x := by rw [at_nat, h]
theorem at_int {α : Type} {xs : List α} {i : Int} (h0 : 0 ≤ i) (h : i.toNat < xs.length) : at? xs i = some xs[i.toNat] := by unfold at?; rw [if_pos h0, List.getElem?_eq_getElem h]
theorem at_neg {α : Type} {xs : List α} {i : Int} (h0 : i < 0) : at? xs i = none := by unfold at?; rw [if_neg (by omega)]
theorem at_map {α β : Type} (f : α → β) (xs : List α) (i : Int) : at? (xs.map f) i = (at? xs i).map f := by unfold at?; split <;> simp
theorem w64 {x : Int} (h0 : -9223372036854775808 ≤ x) (h1 : x ≤ 9223372036854775807) : IntKind.i64.wrap x = x := IntWalk.i64_in x (by omega)
theorem wsucc {k : Nat} (h : k < 9223372036854775807) : IntKind.i64.wrap ((k : Int) + 1) = ((k + 1 : Nat) : Int) := by rw [w64 (by omega) (by omega)]; omega
theorem dlt {a b : Int} (h : a < b) : decide (a < b) = true := decide_eq_true h
theorem dge {a b : Int} (h : b ≤ a) : decide (a < b) = false := decide_eq_false (by omega)
theorem cond_tt {α : Type} {b : Bool} {x y : α} (h : b = true) : (bif b then x else y) = x := by rw [h]; rfl
theorem cond_ff {α : Type} {b : Bool} {x y : α} (h : b = false) : (bif b then x else y) = y := by rw [h]; rfl
theorem cond_dec {α : Type} {p : Prop} [Decidable p] {x y : α} : (bif decide p then x else y) = if p then x else y := by by_cases h : p <;> simp [h]
theorem wfi64 {x : Int} (h : (Lit.int .i64 x).wf = true) : -9223372036854775808 ≤ x ∧ x ≤ 9223372036854775807 := by
  simpa [Lit.wf, IntKind.min, IntKind.max, IntKind.signed, IntKind.bits] using h
/-! slices.Equal -/
end Go.Proofs.YtfhifdmbdkkgaaaDoor
