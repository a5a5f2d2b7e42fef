/- The contract of strings.Join in the calculus. No condition. -/
import Derived.Test.YtgmggcpceemnnaaDoorEn16
import Derived.Test.YtgmggcpceemnnaaDoorShJoin
namespace Go.Proofs.YtgmggcpceemnnaaDoor
open Go.RowKit YtgmggcpceemnnaaDoor.En
set_option linter.unusedVariables false
set_option linter.unusedSimpArgs false
def f_strings_Join (fu : Nat) (a0 : List (List UInt8)) (a1 : List UInt8) : Option (List UInt8) := req (a0.length ≤ 140737488355328 ∧ (Lib.join a0 a1).length ≤ 140737488355328) (some (Lib.join a0 a1))
theorem f_strings_Join_ok (fu : Nat) (v0_0 : Value) (a0 : List (List UInt8)) (a1 : List UInt8) {r : List UInt8} (h : f_strings_Join fu a0 a1 = some r) : FnOk Tryd.prog 112 [v0_0, (str a1)] [(fDat (tyList tyStr) [v0_0] a0)] [] (fun (i : Unit) => { val := (str r) }) := by
  unfold f_strings_Join at h
  obtain ⟨hc, h⟩ := req_some h
  obtain rfl := Option.some.inj h
  refine fnok_pre fun w Z hg => ?_
  obtain ⟨A, k, cap, he, hk, hcap, _, hr⟩ := hg _ (.head _)
  have he' : v0_0 = .slice A k cap := by simpa using he
  subst he'
  by_cases h0 : a0 = []
  · subst h0
    have hk0 : k = 0 := by simpa using hk
    subst hk0
    exact (Tryd.strings_Join_none A cap ⟨a1.toArray⟩ w).mono fun e w' h9 => ⟨by rw [h9.1]; rfl, by rw [h9.2]; exact Below.refl _ _⟩
  · have hpos := List.length_pos_iff.2 h0
    rcases hr with hr | ⟨ad, cs, rfl, hcells, hrep⟩
    · omega
    have hcs : cs = a0.map str := by
      have : ∀ (l : List (List UInt8)) (cs : List Value), RepL tyStr Z w cs l → cs = l.map str := by
        intro l
        induction l with
        | nil => intro cs h; exact h
        | cons x l ih =>
          intro cs h
          obtain ⟨c1, c2, rfl, q1, q2⟩ := h
          rw [ih c2 q2, show c1 = [str x] from q1]; rfl
      exact this a0 cs hrep
    subst hcs
    have hxs : (a0.map fun l : List UInt8 => (⟨l.toArray⟩ : ByteArray)).map (·.data.toList) = a0 := by simp [List.map_map, Function.comp_def]
    obtain ⟨bk, o, sp⟩ := ad
    obtain ⟨x0, xs0, hx0⟩ : ∃ x0 xs0, a0 = x0 :: xs0 := by
      cases a0 with
      | nil => exact absurd rfl h0
      | cons x t => exact ⟨x, t, rfl⟩
    have hfirst : w.cell? ⟨bk, o, sp⟩ = some (str x0) := by
      have := hcells.2 0 (str x0) (by rw [hx0]; rfl)
      exact this
    have hsp : sp = none := by
      cases sp with
      | none => rfl
      | some q =>
        unfold World.cell? at hfirst
        dsimp only at hfirst
        split at hfirst
        · rw [if_pos (by rfl)] at hfirst; cases hfirst
        · cases hfirst
    subst hsp
    have hbk : bk < w.heap.size := by
      rcases Nat.lt_or_ge bk w.heap.size with h9 | h9
      · exact h9
      · simp [World.cell?, Array.getElem?_eq_none h9] at hfirst
    have hj := Tryd.strings_Join bk o cap (a0.map fun l : List UInt8 => (⟨l.toArray⟩ : ByteArray)) ⟨a1.toArray⟩ w (fun j x hx => by
      rw [List.getElem?_map] at hx
      obtain ⟨l, hl, rfl⟩ := Option.map_eq_some_iff.1 hx
      have := hcells.2 j (str l) (by rw [List.getElem?_map, hl]; rfl)
      rw [add_plain] at this
      exact this) hbk (by rw [List.length_map]; exact hc.1) (by rw [List.length_map]; omega) (by rw [hxs]; exact hc.2)
    rw [List.length_map, hxs, ← hk] at hj
    exact hj.mono fun e w' h9 => ⟨h9.1, h9.2⟩
end Go.Proofs.YtgmggcpceemnnaaDoor
