/- An engine for walks: results that are rows, taken over from contracts of the library; empty variables. No condition. -/
import Derived.Test.YtfhifdmbdkkgaaaDoorEn14
import Derived.Lib.UnsafeStr
namespace Go.Proofs.YtfhifdmbdkkgaaaDoor.En
open Go.RowKit
set_option linter.unusedVariables false
set_option linter.unusedSimpArgs false
theorem u8_row {Z : Nat → Prop} {w : World} : ∀ l : List UInt8, RepL tyU8 Z w (Lib.byteCells l) l
  | [] => rfl
  | b :: l => ⟨[_], _, rfl, rfl, u8_row l⟩
/-- a contract of a call that yields a row of its own -/
theorem fnok_own {P : Program} {f : FuncId} {args : List Value} {e : TypeId} {α : Type} {τ : Ty α} {xs : List α}
    (h : ∀ w, Calls P f args.toArray w fun ex w' => ∃ v cs, ex = .returned v ∧ w'.ownsRow w.heap.size e τ.size v xs.length cs ∧ (∀ Z, RepL τ Z w' cs xs) ∧ Below w.heap.size w w') :
    FnOk P f args [] [] (fun i : Value => { val := i, own := [oRow i e τ xs] }) := fun w Z hZ hnd hX hpre hoin =>
  (h w).mono fun ex w' ⟨v, cs, he, ho, hr, hb⟩ => ⟨v, he, Bel.of hb, by
    show ([oRow v e τ xs].flatMap Own.blk).Nodup
    cases hv : v.ownBlock <;> simp [oRow, hv], fun b hb' => by
    right
    have hb2 : v.ownBlock = some b := by simpa [oRow] using hb'
    rcases ho.2 with ⟨rfl, _⟩ | ⟨g, cap, cur, rfl, hg, _⟩
    · simp [Value.ownBlock] at hb2
    · simp [Value.ownBlock] at hb2; omega, fun Z' _ => ⟨by
    intro o ho'
    rw [List.mem_singleton.1 ho']
    exact ⟨cs, ⟨ho.1, ho.2.imp id fun ⟨g, cap, cur, h1, _, h2⟩ => ⟨g, cap, cur, h1, Nat.zero_le _, h2⟩⟩, hr Z'⟩, by simp⟩⟩
section
variable {P : Program} {n : Nat} {m : Mem} {S : Sl} {o : Oper}
/-- a variable without cells -/
theorem ov_load0 {t : TypeId} {d : TypeDesc} {g : Nat} (hu : P.underlying t = some d) (hsz : szOf P t = some 0) (h1 : isAggD d = true) (hd : mk d [] = ag []) (ho : o.op = .load t (.global g)) : OpV P o n m S (ag []) := fun w a hm hs => by
  have hr := run_loadVar' hu hsz w ⟨g, 0, none⟩ [] rfl (fun h => by rw [h1] at h; cases h) (fun j u hj => by simp at hj)
  rw [hd] at hr
  unfold execOp
  simp only [ho]
  rw [show a.eval (.global g) = .pointer (some ⟨g, 0, none⟩) from hs.ev rfl]
  simp [Instr.loadAt, Instr.sureAddr, hr]
end
end Go.Proofs.YtfhifdmbdkkgaaaDoor.En
