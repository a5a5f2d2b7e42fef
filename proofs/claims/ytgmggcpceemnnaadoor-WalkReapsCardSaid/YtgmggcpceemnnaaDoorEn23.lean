/- An engine for walks: maps that a call hands out, or none. No condition. -/
import Derived.Test.YtgmggcpceemnnaaDoorEn21
namespace Go.Proofs.YtgmggcpceemnnaaDoor.En
open Go.RowKit Go.Maps YtgmggcpceemnnaaDoor
set_option linter.unusedVariables false
set_option linter.unusedSimpArgs false
def mapBlk (v : Value) : List Nat := match v with | .map (some g) => [g] | _ => []
theorem mapBlk_some (g : Nat) : mapBlk (.map (some g)) = [g] := rfl
def mapP {κ ν : Type} (P : Program) (kt : TypeId) (v : Value) (ek : κ → Value) (ew : ν → Value) (x : Option (List (κ × ν))) (Z : Nat → Prop) (w : World) : Prop :=
  match x with
  | none => v = .map none
  | some l => ∃ g, v = .map (some g) ∧ (oMapK P kt g ek ew l).p Z w
section
variable {κ ν : Type}
/-- a map, or none -/
def oMapM (P : Program) (kt : TypeId) (v : Value) (ek : κ → Value) (ew : ν → Value) (x : Option (List (κ × ν))) : Own where
  blk := mapBlk v
  p Z w := mapP P kt v ek ew x Z w
  keep {Z w w'} hz h := by
    cases x with
    | none => exact h
    | some l =>
      obtain ⟨g, rfl, h1⟩ := h
      exact ⟨g, rfl, (oMapK P kt g ek ew l).keep (Z := Z) hz h1⟩
  mono {Z Z' w} hz h := by
    cases x with
    | none => exact h
    | some l =>
      obtain ⟨g, rfl, h1⟩ := h
      exact ⟨g, rfl, (oMapK P kt g ek ew l).mono hz h1⟩
  lt {Z w} h := by
    cases x with
    | none =>
      have e : v = .map none := h
      subst e
      intro b hb
      cases hb
    | some l =>
      obtain ⟨g, rfl, h1⟩ := h
      exact (oMapK P kt g ek ew l).lt h1
variable {P : Program} {Q : Exit → Act → World → Prop} {n : Nat} {m : Mem} {S : Sl} {ops : Array Oper} {rest : List Oper} {l : List (κ × ν)} {x : Option (List (κ × ν))} {kt : TypeId} {g : Nat} {v : Value} {ek : κ → Value} {ew : ν → Value}
theorem Holds.isMap {w : World} (hm : Holds m w) {i : Nat} (hi : m.own[i]? = some (oMapM P kt v ek ew x)) (hx : x = some l) : ∃ g, v = .map (some g) ∧ Holds (m.upd i (oMapK P kt g ek ew l)) w := by
  subst hx
  obtain ⟨g, rfl, hp⟩ := own_at hm hi
  exact ⟨g, rfl, hm.upd hi ⟨rfl, rfl, rfl, Nat.le_refl _, fun b _ _ => rfl⟩ (by simp [oMapK]) (fun b hb => .inl (by simpa [oMapK, oMapM, mapBlk] using hb)) (fun Z hZ => hp)⟩
theorem al_mapIs (i : Nat) (hi : m.own[i]? = some (oMapM P kt v ek ew x)) (hx : x = some l) (h : ∀ g, v = .map (some g) → AL P ops rest Q n (m.upd i (oMapK P kt g ek ew l)) S) : AL P ops rest Q n m S := fun w a hm hs => by
  obtain ⟨g, hv, hh⟩ := hm.isMap hi hx
  exact h g hv w a hh hs
theorem aw_mapIs {c : Code} (i : Nat) (hi : m.own[i]? = some (oMapM P kt v ek ew x)) (hx : x = some l) (h : ∀ g, v = .map (some g) → AW P c Q n (m.upd i (oMapK P kt g ek ew l)) S) : AW P c Q n m S := fun w a hm hs => by
  obtain ⟨g, hv, hh⟩ := hm.isMap hi hx
  exact h g hv w a hh hs
theorem aq_mapM {e : Exit} (i : Nat) (hi : m.own[i]? = some (oMapK P kt g ek ew l)) (h : AQ Q e n (m.upd i (oMapM P kt (.map (some g)) ek ew (some l))) S) : AQ Q e n m S := fun w a hm hs => by
  have hp := own_at hm hi
  exact h w a (hm.upd hi ⟨rfl, rfl, rfl, Nat.le_refl _, fun b _ _ => rfl⟩ (by simp [oMapM, mapBlk]) (fun b hb => .inl (by simpa [oMapK, oMapM, mapBlk] using hb)) (fun Z hZ => ⟨g, rfl, hp⟩)) hs
theorem aq_nilM {e : Exit} (kt : TypeId) (ek : κ → Value) (ew : ν → Value) (h : AQ Q e n (m.push (oMapM P kt (.map none) ek ew none)) S) : AQ Q e n m S := fun w a hm hs =>
  h w a (hm.push (w' := w) (Below.refl _ _) (by simp [oMapM, mapBlk]) (by simp [oMapM, mapBlk]) (fun Z _ => rfl)) hs
end
end Go.Proofs.YtgmggcpceemnnaaDoor.En
