/- Walks by program: a field of an element of an own row is read. No condition. -/
import Derived.Test.YtfhifdmbdkkgaaaDoorEn25
namespace Go.Proofs.YtfhifdmbdkkgaaaDoor.En
open Go.RowKit Go.Proofs.YtfhifdmbdkkgaaaDoor
set_option linter.unusedVariables false
set_option linter.unusedSimpArgs false
section
variable {P : Program} {Q : Exit → Act → World → Prop} {n : Nat} {m : Mem} {S : Sl} {ops : Array Oper} {rest : List Oper} {o : Oper} {α β : Type}
theorem al_fieldR {d : Nat} {v p : Value} {k : Nat} {t : TypeId} {y : Operand} {j sz : Nat} {fs : Array Field} {f : Field} (hp : EltOf v p k) (hx : ev S y = some p) (hu : P.underlying t = some (.struct fs)) (hf : fs[j]? = some f) (hk : szOf P f.type = some sz) (hk0 : Nat.beq sz 0 = false) (ho : o.op = .fieldAddr t y j)
    (h : ∀ q, EltOf v q (k + f.offset) → AL P ops rest Q n m (put S d q)) (hdd : o.dst = some d := by rfl) (hd : Nat.blt d n = true := by rfl) (hg : wantS ops S o true = true := by rfl) : AL P ops (o :: rest) Q n m S := by
  obtain ⟨g, l, c, rfl, rfl⟩ := hp
  exact al_val (ov_fieldAddr hx hu hf hk hk0 ho) (h _ ⟨g, l, c, rfl, rfl⟩) hdd hd hg
theorem row_cellsF {w : World} {v p : Value} {e : TypeId} {τ : Ty α} {υ : Ty β} {pr : α → β} {off : Nat} {xs : List α} {Z : Nat → Prop} {k : Nat} {x : α} (h : (oRow v e τ xs).p Z w) (hp : EltOf v p (k * τ.size + off)) (hx : xs[k]? = some x) (hsub : Sub τ off υ pr) :
    ∃ ad cs, p = .pointer (some ad) ∧ υ.rep Z w cs (pr x) ∧ ∀ j u, cs[j]? = some u → w.cell? (ad.add j) = some u := by
  obtain ⟨g, l, c, rfl, rfl⟩ := hp
  obtain ⟨g', l', c', cs, cur, h1, h2, -, -, -, -, -, -, -, hrep, hc⟩ := row_cells (p := .pointer (some ⟨g, k * τ.size, none⟩)) h ⟨g, l, c, rfl, rfl⟩ hx
  cases h1
  refine ⟨_, _, rfl, hsub hrep, fun j u hu => ?_⟩
  rw [List.getElem?_take] at hu
  split at hu
  · rw [List.getElem?_drop] at hu
    have := hc _ _ hu
    rw [add_plain] at this ⊢
    rw [Nat.add_assoc]
    exact this
  · cases hu
theorem ov_loadF {τ : Ty α} {υ : Ty β} {pr : α → β} {off : Nat} {v p u : Value} {xs : List α} {k : Nat} {x : α} {ds : List Value} (i : Nat) {t et : TypeId} {d : TypeDesc} {y : Operand} (hi : m.own[i]? = some (oRow v et τ xs)) (hp : EltOf v p (k * τ.size + off)) (hxk : xs[k]? = some x) (hsub : Sub τ off υ pr) (hds : ∀ {Z w cs}, υ.rep Z w cs (pr x) → cs = ds) (hx : ev S y = some p) (hu : P.underlying t = some d) (hsz : szOf P t = some υ.size) (h1 : (isAggD d || Nat.beq υ.size 1) = true) (hv : mk d ds = u) (ho : o.op = .load t y) : OpV P o n m S u := fun w a hm hs => by
  obtain ⟨ad, cs, rfl, hrep, hcells⟩ := row_cellsF (own_at hm hi) hp hxk hsub
  have hr := run_loadVar' hu hsz w _ _ (υ.len hrep) (fun hd => by rw [hd] at h1; exact Nat.eq_of_beq_eq_true (by simpa using h1)) hcells
  rw [hds hrep, hv] at hr
  unfold execOp
  simp only [ho, hs.ev hx]
  simp [Instr.loadAt, Instr.sureAddr, hr]
theorem of_loadF1 {τ : Ty α} {υ : Ty β} {pr : α → β} {off : Nat} {v p : Value} {xs : List α} {k : Nat} {x : α} (i : Nat) {t et : TypeId} {d : TypeDesc} {y : Operand} (hi : m.own[i]? = some (oRow v et τ xs)) (hp : EltOf v p (k * τ.size + off)) (hxk : xs[k]? = some x) (hsub : Sub τ off υ pr) (hx : ev S y = some p) (hu : P.underlying t = some d) (hsz : szOf P t = some υ.size) (h1 : υ.size = 1) (h2 : isAggD d = false) (ho : o.op = .load t y) : OpF P o n m S (fun u => fDat υ [u] (pr x)) := fun w a hm hs => by
    obtain ⟨ad, cs, rfl, hrep, hcells⟩ := row_cellsF (own_at hm hi) hp hxk hsub
    have hr := run_loadVar' hu hsz w _ _ (υ.len hrep) (fun _ => h1) hcells
    obtain ⟨u, rfl⟩ : ∃ u, cs = [u] := List.length_eq_one_iff.1 ((υ.len hrep).trans h1)
    refine ⟨u, ?_, hrep⟩
    unfold execOp
    simp only [ho, hs.ev hx]
    simp [Instr.loadAt, Instr.sureAddr, hr, mk, h2]
theorem al_loadF1 {ds : Nat} {τ : Ty α} {υ : Ty β} {pr : α → β} {off : Nat} {v p : Value} {xs : List α} {k : Nat} {x : α} (i : Nat) {t et : TypeId} {d : TypeDesc} {y : Operand} (hi : m.own[i]? = some (oRow v et τ xs)) (hp : EltOf v p (k * τ.size + off)) (hxk : xs[k]? = some x) (hsub : Sub τ off υ pr) (hx : ev S y = some p) (hu : P.underlying t = some d) (hsz : szOf P t = some υ.size) (h1 : υ.size = 1) (h2 : isAggD d = false) (ho : o.op = .load t y)
    (h : ∀ u, AL P ops rest Q n (m.add (fDat υ [u] (pr x))) (put S ds u)) (hdd : o.dst = some ds := by rfl) (hd : Nat.blt ds n = true := by rfl) (hg : wantS ops S o true = true := by rfl) : AL P ops (o :: rest) Q n m S :=
  al_fact (R := fun u => fDat υ [u] (pr x)) (of_loadF1 i hi hp hxk hsub hx hu hsz h1 h2 ho) h hdd hd hg
end
end Go.Proofs.YtfhifdmbdkkgaaaDoor.En
