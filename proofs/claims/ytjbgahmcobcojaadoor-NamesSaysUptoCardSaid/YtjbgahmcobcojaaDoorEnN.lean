/- The contracts of strings.Split (one byte or more), strings.Join and strings.IndexByte in the calculus. No condition. -/
import Derived.Test.YtjbgahmcobcojaaDoorEnM
import Derived.Test.YtjbgahmcobcojaaDoorShJoin
import Derived.Test.YtjbgahmcobcojaaDoorShIdx
import Derived.Lib.SplitLaws
namespace Go.Proofs.YtjbgahmcobcojaaDoor.En
open Go.RowKit
set_option linter.unusedVariables false
set_option linter.unusedSimpArgs false
theorem str_row {Z : Nat → Prop} {w : World} : ∀ l : List (List UInt8), RepL tyStr Z w (l.map str) l
  | [] => rfl
  | b :: l => ⟨[_], _, rfl, rfl, str_row l⟩
/-- a contract of a call that leans on facts and yields a row of its own -/
theorem fnok_ownP {P : Program} {f : FuncId} {args : List Value} {pre : List Fact} {e : TypeId} {α : Type} {τ : Ty α} {xs : List α}
    (h : ∀ w Z, (∀ g ∈ pre, g.p Z w) → Calls P f args.toArray w fun ex w' => ∃ v cs, ex = .returned v ∧ w'.ownsRow w.heap.size e τ.size v xs.length cs ∧ (∀ Z, RepL τ Z w' cs xs) ∧ Below w.heap.size w w') :
    FnOk P f args pre [] (fun i : Value => { val := i, own := [oRow i e τ xs] }) := fun w Z hZ hnd hX hpre hoin =>
  (h w Z hpre).mono fun ex w' ⟨v, cs, he, ho, hr, hb⟩ => ⟨v, he, Bel.of hb, by
    show ([oRow v e τ xs].flatMap Own.blk).Nodup
    cases hv : v.ownBlock <;> simp [oRow, hv], fun b hb' => by
    right
    have hb2 : v.ownBlock = some b := by simpa [oRow] using hb'
    rcases ho.2 with ⟨rfl, _⟩ | ⟨g, cap, cur, rfl, hg, _⟩
    · simp [Value.ownBlock] at hb2
    · simp [Value.ownBlock] at hb2; omega, fun Z' _ => ⟨by
    intro o ho'
    rw [List.mem_singleton.1 ho']
    exact ⟨cs, ⟨ho.1, ho.2.imp id fun ⟨g, cap, cur, h1, _, h2⟩ => ⟨g, cap, cur, h1, Nat.zero_le _, h2⟩⟩, hr Z'⟩, by simp⟩⟩
/-- the pieces of a string -/
def splitV (s sep : List UInt8) : List (List UInt8) := Lib.splitK sep 0 (Lib.count s sep) s
theorem splitV_len (s : List UInt8) (sep : List UInt8) (h : 1 ≤ sep.length) : (splitV s sep).length = Lib.count s sep + 1 := by
  have h1 := Lib.splitB_data ⟨sep.toArray⟩ 0 (Lib.count s sep) ⟨s.toArray⟩
  have h2 := Lib.splitB_all ⟨sep.toArray⟩ (by simpa [ByteArray.size] using h) 0 (Lib.count s sep) ⟨s.toArray⟩ (by simp [Lib.countB])
  have h3 := congrArg List.length h1
  rw [List.length_map, h2] at h3
  exact h3.symm
end Go.Proofs.YtjbgahmcobcojaaDoor.En
namespace Go.Proofs.YtjbgahmcobcojaaDoor
open Go.RowKit YtjbgahmcobcojaaDoor.En
set_option linter.unusedVariables false
set_option linter.unusedSimpArgs false
def f_strings_IndexByte (fu : Nat) (a0 : List UInt8) (a1 : Int) : Option Int := some (Lib.indexByte a0 a1.toNat.toUInt8)
theorem f_strings_IndexByte_ok (fu : Nat) (a0 : List UInt8) (a1 : Int) {r : Int} (h : f_strings_IndexByte fu a0 a1 = some r) : FnOk Tryd.prog 119 [(str a0), (Value.int .u8 a1)] [] [] (fun (i : Unit) => { val := (Value.int .i64 r) }) := by
  unfold f_strings_IndexByte at h
  obtain rfl := Option.some.inj h
  refine fnok_pure fun w => ?_
  exact (Tryd.strings_IndexByte ⟨a0.toArray⟩ a1 w).mono fun e w' h9 => ⟨h9.1, by rw [h9.2]; exact Below.refl _ _⟩
def f_strings_Split (fu : Nat) (a0 a1 : List UInt8) : Option (List (List UInt8)) := req (a0.length < 4294967281 ∧ 1 ≤ a1.length) (some (splitV a0 a1))
theorem f_strings_Split_ok (fu : Nat) (a0 a1 : List UInt8) {r : List (List UInt8)} (h : f_strings_Split fu a0 a1 = some r) : FnOk Tryd.prog 84 [(str a0), (str a1)] [uMax] [] (fun (i : Value) => { val := i, own := [(oRow i 9 tyStr r)] }) := by
  unfold f_strings_Split at h
  obtain ⟨hc, h⟩ := req_some h
  obtain rfl := Option.some.inj h
  refine fnok_ownP fun w Z hg => ?_
  obtain ⟨m, hm⟩ := (hg uMax (by simp)).2
  have h1 := Tryd.laysM146
  refine (Any.strings_Split { Tryd.laysM146 with } Tryd.laysM146.i9 ⟨a0.toArray⟩ ⟨a1.toArray⟩ m w (by simpa [ByteArray.size] using hc.1) hm (by simpa [ByteArray.size] using hc.2)).mono fun ex w' h9 => ?_
  obtain ⟨he, hw⟩ := h9
  have hcnt : Lib.countB ⟨a0.toArray⟩ ⟨a1.toArray⟩ = Lib.count a0 a1 := by simp [Lib.countB]
  have hlen := splitV_len a0 a1 hc.2
  have hcle := Lib.count_le a0 a1
  rw [hcnt] at he hw
  have hmap : (Lib.splitB ⟨a1.toArray⟩ 0 (Lib.count a0 a1) ⟨a0.toArray⟩).map Value.string = (splitV a0 a1).map str := by
    unfold splitV
    rw [← Lib.splitB_data ⟨a1.toArray⟩ 0 (Lib.count a0 a1) ⟨a0.toArray⟩, List.map_map]
    apply List.map_congr_left
    intro x _
    simp [str]
  rw [hmap] at hw
  refine ⟨_, (splitV a0 a1).map str, he, ⟨by rw [List.length_map]; show _ = _ * 1; omega, .inr ⟨w.heap.size, Lib.count a0 a1 + 1, _, by rw [hlen], Nat.le_refl _, by rw [hw]; exact heap_alloc_new w _, by omega, by unfold maxLen; omega, by simp [hlen, tyStr, tyEnc], ?_⟩⟩, fun Z => str_row _, by rw [hw]; exact (Below.refl _ _).alloc (Nat.le_refl _) _⟩
  rw [List.take_of_length_le (by simp [tyStr, tyEnc])]
def f_strings_Join (fu : Nat) (a0 : List (List UInt8)) (a1 : List UInt8) : Option (List UInt8) := req (a0.length ≤ 140737488355328 ∧ (Lib.join a0 a1).length ≤ 140737488355328) (some (Lib.join a0 a1))
theorem f_strings_Join_ok (fu : Nat) (v0_0 : Value) (a0 : List (List UInt8)) (a1 : List UInt8) {r : List UInt8} (h : f_strings_Join fu a0 a1 = some r) : FnOk Tryd.prog 88 [v0_0, (str a1)] [(fDat (tyList tyStr) [v0_0] a0)] [] (fun (i : Unit) => { val := (str r) }) := by
  unfold f_strings_Join at h
  obtain ⟨hc, h⟩ := req_some h
  obtain rfl := Option.some.inj h
  refine fnok_pre fun w Z hg => ?_
  obtain ⟨A, k, cap, he, hk, hcap, _, hr⟩ := hg _ (.head _)
  have he' : v0_0 = .slice A k cap := by simpa using he
  subst he'
  by_cases h0 : a0 = []
  · subst h0
    have hk0 : k = 0 := by simpa using hk
    subst hk0
    exact (Tryd.strings_Join_none A cap ⟨a1.toArray⟩ w).mono fun e w' h9 => ⟨by rw [h9.1]; rfl, by rw [h9.2]; exact Below.refl _ _⟩
  · have hpos := List.length_pos_iff.2 h0
    rcases hr with hr | ⟨ad, cs, rfl, hcells, hrep⟩
    · omega
    have hcs : cs = a0.map str := by
      have : ∀ (l : List (List UInt8)) (cs : List Value), RepL tyStr Z w cs l → cs = l.map str := by
        intro l
        induction l with
        | nil => intro cs h; exact h
        | cons x l ih =>
          intro cs h
          obtain ⟨c1, c2, rfl, q1, q2⟩ := h
          rw [ih c2 q2, show c1 = [str x] from q1]; rfl
      exact this a0 cs hrep
    subst hcs
    have hxs : (a0.map fun l : List UInt8 => (⟨l.toArray⟩ : ByteArray)).map (·.data.toList) = a0 := by simp [List.map_map, Function.comp_def]
    obtain ⟨bk, o, sp⟩ := ad
    obtain ⟨x0, xs0, hx0⟩ : ∃ x0 xs0, a0 = x0 :: xs0 := by
      cases a0 with
      | nil => exact absurd rfl h0
      | cons x t => exact ⟨x, t, rfl⟩
    have hfirst : w.cell? ⟨bk, o, sp⟩ = some (str x0) := by
      have := hcells.2 0 (str x0) (by rw [hx0]; rfl)
      exact this
    have hsp : sp = none := by
      cases sp with
      | none => rfl
      | some q =>
        unfold World.cell? at hfirst
        dsimp only at hfirst
        split at hfirst
        · rw [if_pos (by rfl)] at hfirst; cases hfirst
        · cases hfirst
    subst hsp
    have hbk : bk < w.heap.size := by
      rcases Nat.lt_or_ge bk w.heap.size with h9 | h9
      · exact h9
      · simp [World.cell?, Array.getElem?_eq_none h9] at hfirst
    have hj := Tryd.strings_Join bk o cap (a0.map fun l : List UInt8 => (⟨l.toArray⟩ : ByteArray)) ⟨a1.toArray⟩ w (fun j x hx => by
      rw [List.getElem?_map] at hx
      obtain ⟨l, hl, rfl⟩ := Option.map_eq_some_iff.1 hx
      have := hcells.2 j (str l) (by rw [List.getElem?_map, hl]; rfl)
      rw [add_plain] at this
      exact this) hbk (by rw [List.length_map]; exact hc.1) (by rw [List.length_map]; omega) (by rw [hxs]; exact hc.2)
    rw [List.length_map, hxs, ← hk] at hj
    exact hj.mono fun e w' h9 => ⟨h9.1, h9.2⟩
end Go.Proofs.YtjbgahmcobcojaaDoor
