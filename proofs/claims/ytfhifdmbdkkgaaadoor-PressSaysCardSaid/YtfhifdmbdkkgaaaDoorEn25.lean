/- An engine for walks: results of several owned things that lean on no frozen memory. No condition. -/
import Derived.Test.YtfhifdmbdkkgaaaDoorEn21
namespace Go.Proofs.YtfhifdmbdkkgaaaDoor.En
open Go.RowKit Go.Maps YtfhifdmbdkkgaaaDoor
set_option linter.unusedVariables false
set_option linter.unusedSimpArgs false
def FlatOwn (o : Own) : Prop := ∀ (Z Z' : Nat → Prop) (w : World), o.p Z w → o.p Z' w
theorem fo_box {g t : Nat} {cs : List Value} : FlatOwn (oBox g t cs) := fun _ _ _ h => h
theorem fo_row {α : Type} {v : Value} {e : TypeId} {τ : Ty α} {xs : List α} (h : FlatTy τ) : FlatOwn (oRow v e τ xs) := flat_row h
theorem fo_map {κ ν : Type} {P : Program} {kt : TypeId} {g : Nat} {ek : κ → Value} {ew : ν → Value} {l : List (κ × ν)} : FlatOwn (oMapK P kt g ek ew l) := fun _ _ _ h => h
def FlatOwns (l : List Own) : Prop := ∀ o ∈ l, FlatOwn o
theorem fo_nil : FlatOwns [] := fun _ h => by cases h
theorem fo_cons {o : Own} {l : List Own} (h : FlatOwn o) (hl : FlatOwns l) : FlatOwns (o :: l) := fun x hx => by
  rcases List.mem_cons.1 hx with rfl | hx
  · exact h
  · exact hl x hx
theorem flat_resL {ι : Type} {res : ι → Res} (h : ∀ i, FlatOwns (res i).own ∧ (res i).fz = []) : FlatRes res := fun i =>
  ⟨fun o ho => (h i).1 o ho, fun g hg => by rw [(h i).2] at hg; cases hg⟩
section
variable {P : Program} {Q : Exit → Act → World → Prop} {n : Nat} {m : Mem} {S : Sl} {ops : Array Oper} {rest : List Oper} {o : Oper}
/-! short forms -/
theorem al_mv {d : Nat} {x : Operand} {v : Value} (ho : o.op = .move x) (hx : ev S x = some v) (h : AL P ops rest Q n m (put S d v)) (hdd : o.dst = some d := by rfl) (hd : Nat.blt d n = true := by rfl) (hg : wantS ops S o true = true := by rfl) : AL P ops (o :: rest) Q n m S := al_val (ov_move ho hx) h hdd hd hg
theorem al_as {d : Nat} {x : Operand} {v : Value} (ho : o.op = .assign x) (hx : ev S x = some v) (h : AL P ops rest Q n m (put S d v)) (hdd : o.dst = some d := by rfl) (hd : Nat.blt d n = true := by rfl) (hg : wantS ops S o true = true := by rfl) : AL P ops (o :: rest) Q n m S := al_val (ov_assign ho hx) h hdd hd hg
theorem al_in {d : Nat} {op : BinOp} {xt yt : TypeId} {x y : Operand} {k : IntKind} {p q : Int} {v : Value} (ho : o.op = .binOp op xt x y yt) (hx : ev S x = some (.int k p)) (hy : ev S y = some (.int k q)) (hv : intRes op k p q = some v) (h : AL P ops rest Q n m (put S d v)) (hdd : o.dst = some d := by rfl) (hd : Nat.blt d n = true := by rfl) (hg : wantS ops S o true = true := by rfl) : AL P ops (o :: rest) Q n m S := al_val (ov_int ho hx hy hv) h hdd hd hg
theorem al_ex {d : Nat} {x : Operand} {i : Nat} {vs : Array Value} {v : Value} (ho : o.op = .extract x i) (hx : ev S x = some (.tuple vs)) (hv : vs[i]? = some v) (h : AL P ops rest Q n m (put S d v)) (hdd : o.dst = some d := by rfl) (hd : Nat.blt d n = true := by rfl) (hg : wantS ops S o true = true := by rfl) : AL P ops (o :: rest) Q n m S := al_val (ov_extract ho hx hv) h hdd hd hg
theorem aw_sr {id : Nat} {l : List Oper} {y : Code} (h : AL P l.toArray l (Exit.then (y.wp P Q) Q) n m S) : AW P (.seq (.region id l.toArray false) y) Q n m S := aw_seq (aw_region h)
theorem al_nt {y : Code} (h : AW P y Q n m S) : AL P ops [] (Exit.then (y.wp P Q) Q) n m S := al_nil (aq_then h)
theorem aq_tr {id : Nat} {l : List Oper} {y : Code} (h : AL P l.toArray l (Exit.then (y.wp P Q) Q) n m S) : AQ (Exit.then ((Code.seq (.region id l.toArray false) y).wp P Q) Q) .normal n m S := aq_then (aw_sr h)
end
end Go.Proofs.YtfhifdmbdkkgaaaDoor.En
