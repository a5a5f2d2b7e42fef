/- The contracts of strings.Builder in the calculus. No condition. -/
import Derived.Test.YtfhifdmbdkkgaaaDoorEn21
import Derived.Test.YtfhifdmbdkkgaaaDoorEn19
import Derived.Test.YtfhifdmbdkkgaaaDoorShBld
import Derived.Test.YtfhifdmbdkkgaaaDoorChecked
import Derived.WalkKit
import Derived.Outline
import Derived.Lib.UnsafeStr
import Derived.Lib.Builder
import Derived.Shelf.RegionOpenPlain
namespace Go.Proofs.YtfhifdmbdkkgaaaDoor.En
open Go.RowKit
set_option linter.unusedVariables false
set_option linter.unusedSimpArgs false
/-- a builder: whether it holds its own address is left open -/
def oSB (g T : Nat) (v : Value) : Own where
  blk := [g]
  p _ w := ∃ q, (q = .pointer none ∨ q = ptr g 0) ∧ w.heap[g]? = some (.cells #[q, v] T (0, 0))
  keep hz h := by obtain ⟨q, hq, h⟩ := h; exact ⟨q, hq, (hz g (.inr (by simp))).trans h⟩
  mono _ h := by obtain ⟨q, hq, h⟩ := h; exact ⟨q, hq, h⟩
  lt h := by obtain ⟨q, hq, h⟩ := h; intro b hb; rw [List.mem_singleton.1 hb]; exact (Array.getElem?_eq_some_iff.1 h).1
section
variable {P : Program} {Q : Exit → Act → World → Prop} {n : Nat} {m : Mem} {S : Sl} {ops : Array Oper} {rest : List Oper}
theorem Holds.sb {w : World} (hm : Holds m w) {g T : Nat} {q v : Value} {i : Nat} (hi : m.own[i]? = some (oBox g T [q, v])) (hq : q = .pointer none ∨ q = ptr g 0) : Holds (m.upd i (oSB g T v)) w := by
  have hp := own_at hm hi
  exact hm.upd hi ⟨rfl, rfl, rfl, Nat.le_refl _, fun b _ _ => rfl⟩ (by simp [oSB]) (fun b hb => .inl (by simpa [oBox, oSB] using hb)) (fun Z hZ => ⟨q, hq, hp⟩)
theorem al_sb {g T : Nat} {q v : Value} (i : Nat) (hi : m.own[i]? = some (oBox g T [q, v])) (hq : q = .pointer none ∨ q = ptr g 0) (h : AL P ops rest Q n (m.upd i (oSB g T v)) S) : AL P ops rest Q n m S := fun w a hm hs => h w a (hm.sb hi hq) hs
theorem aq_sb {e : Exit} {g T : Nat} {q v : Value} (i : Nat) (hi : m.own[i]? = some (oBox g T [q, v])) (hq : q = .pointer none ∨ q = ptr g 0) (h : AQ Q e n (m.upd i (oSB g T v)) S) : AQ Q e n m S := fun w a hm hs => h w a (hm.sb hi hq) hs
end
end Go.Proofs.YtfhifdmbdkkgaaaDoor.En
namespace Go.Proofs.YtfhifdmbdkkgaaaDoor
open Go.RowKit YtfhifdmbdkkgaaaDoor.En
set_option linter.unusedVariables false
set_option linter.unusedSimpArgs false
set_option maxRecDepth 100000 in
set_option maxHeartbeats 1000000 in
theorem cc_used (b : Nat) (w : World) (h0 : w.cell? ⟨b, 0, none⟩ = some (.pointer (some ⟨b, 0, none⟩))) :
    Calls Tryd.prog 151 #[.pointer (some ⟨b, 0, none⟩)] w fun e w' => e = .returned (.tuple #[]) ∧ w' = w := by
  obtain ⟨j, hj, hjs⟩ := Option.map_eq_some_iff.1 Tryd.Builder_Extra_169.sizeBuilder
  go_enter Tryd.func151, Tryd.ntmps151
  go_wp2
  rw [Lib.run_neq_ptr_same w _ Tryd.underlying152 hj]
  go_wp2
  go_end0
  exact ⟨rfl, rfl⟩
set_option maxRecDepth 100000 in
set_option maxHeartbeats 1000000 in
theorem cc_fresh (b : Nat) (w : World) (h0 : w.cell? ⟨b, 0, none⟩ = some (.pointer none)) (hsh : w.shape? b = some (154, 2)) (hfz : w.frozen? ⟨b, 0, none⟩ = false) :
    Calls Tryd.prog 151 #[.pointer (some ⟨b, 0, none⟩)] w fun e w' => e = .returned (.tuple #[]) ∧ w' = w.setCell ⟨b, 0, none⟩ (.pointer (some ⟨b, 0, none⟩)) := by
  obtain ⟨j, hj, hjs⟩ := Option.map_eq_some_iff.1 Tryd.Builder_Extra_169.sizeBuilder
  go_enter Tryd.func151, Tryd.ntmps151
  go_wp2
  rw [Lib.run_to_unsafe w ⟨b, 0, none⟩ Tryd.underlying152 Tryd.underlying246 hj (by rw [hjs]; decide) hsh (Nat.zero_lt_succ 1)]
  simp only [Result.andThen]
  rw [Oper.upon_value]
  go_wp2
  rw [run_callFunc_extern Tryd.func184 (by kernel_rfl) (by kernel_rfl) (by kernel_rfl) (e := Extern.AbiNoEscape.same) (by kernel_rfl)]
  rw [Lib.run_noEscape]
  simp only [Result.andThen]
  rw [Oper.upon_value]
  go_wp2
  rw [Lib.run_from_unsafe w ⟨b, 0, none⟩ Tryd.underlying246 Tryd.underlying152 hj hsh Tryd.Builder_Extra_169.liesBuilder]
  simp only [Result.andThen]
  rw [Oper.upon_value]
  go_wp2
  go_end0
  exact ⟨rfl, rfl⟩
set_option maxRecDepth 100000 in
set_option maxHeartbeats 2000000 in
theorem bstr (b g cap : Nat) (q : Value) (cur : Array Value) (l : List UInt8) (w : World) (h0 : l ≠ []) (hbk : w.heap[b]? = some (.cells #[q, .slice (some ⟨g, 0, none⟩) l.length cap] 154 (0, 0)))
    (hg : w.heap[g]? = some (.cells cur 5 (0, 0))) (hnc : l.length ≤ cap) (hcm : cap ≤ maxLen) (hcs : cur.size = cap) (hcell : ∀ j x, l[j]? = some x → w.cell? ((⟨g, 0, none⟩ : Addr).add j) = some (.int .u8 x.toNat)) :
    Calls Tryd.prog 101 #[.pointer (some ⟨b, 0, none⟩)] w fun e w' => e = .returned (.string ⟨l.toArray⟩) ∧ w' = w.drew.freeze ⟨g, 0, none⟩ l.length := by
  have hl0 : l.length ≠ 0 := by simpa using h0
  have c1 : w.drew.cell? ⟨b, 1, none⟩ = some (.slice (some ⟨g, 0, none⟩) l.length cap) := by
    have : w.drew.heap[b]? = some (.cells #[q, .slice (some ⟨g, 0, none⟩) l.length cap] 154 (0, 0)) := hbk
    rw [Lib.cell_of_heap this]; rfl
  have hSD : (Builtin.unsafeSliceData_ #[74] 208 #[.slice (some ⟨g, 0, none⟩) l.length cap]).run Tryd.prog w.drew = .ok (.pointer (some ⟨g, 0, none⟩)) w.drew :=
    Lib.run_unsafeSliceData_row _ _ _ _ _ _ (by omega)
  have hUS : (Builtin.unsafeString_ #[208, 3] 9 #[.pointer (some ⟨g, 0, none⟩), .int .i64 l.length]).run Tryd.prog w.drew = .ok (.string ⟨l.toArray⟩) (w.drew.freeze ⟨g, 0, none⟩ l.length) :=
    Lib.run_unsafeString_row w.drew 208 3 9 5 Tryd.underlying208 (by kernel_rfl) g cur.size (by have hg' : w.drew.heap[g]? = some (.cells cur 5 (0, 0)) := hg; simp [World.shape?, hg']) l h0 (by omega) (by unfold maxLen at hcm; omega) hcell
  have mixed := Tryd.lays169.mixed
  go_enter Tryd.func101, Tryd.ntmps101
  go_wp2
  go_region_o
  all_goals (go_wp2; go_ret; exact ⟨rfl, rfl⟩)
/-- copyCheck -/
theorem fn_copyCheck (g : Nat) (v : Value) : FnOk Tryd.prog 151 [ptr g 0] [] [oSB g 154 v] (fun _ : Unit => { val := .tuple #[], own := [oBox g 154 [ptr g 0, v]] }) := fun w Z hZ hnd hX hpre hoin => by
  obtain ⟨q, hq, hb⟩ := hoin _ (.head _)
  have c0 : w.cell? ⟨g, 0, none⟩ = some q := by simp [World.cell?, hb]
  rcases hq with rfl | rfl
  · refine (cc_fresh g w c0 (by simp [World.shape?, hb]) (by simp [World.frozen?, hb])).mono fun e w' ⟨he, hw⟩ => ?_
    have hrow := setCells_row g 154 [ptr g 0] 0 #[.pointer none, v] w hb (by simp)
    have hw' : w' = w.setRow g #[ptr g 0, v] := hw.trans hrow
    refine ⟨(), he, ?_, by simp [oBox], fun b hb' => by left; simpa [oBox, oSB] using hb', fun Z' hZ' => ⟨?_, by simp⟩⟩
    · rw [hw']
      exact ⟨rfl, rfl, rfl, by rw [size_setRow]; exact Nat.le_refl _, fun k hk hk2 => setRow_other _ g k _ (by simpa [oSB] using hk2)⟩
    · intro o ho
      rw [List.mem_singleton.1 ho, hw']
      exact setRow_heap _ g _ _ _ (0, 0) hb
  · refine (cc_used g w c0).mono fun e w' ⟨he, hw⟩ => ?_
    subst hw
    refine ⟨(), he, Bel.refl _ _ _, by simp [oBox], fun b hb' => by left; simpa [oBox, oSB] using hb', fun Z' hZ' => ⟨?_, by simp⟩⟩
    intro o ho
    rw [List.mem_singleton.1 ho]
    exact hb
/-- String: the builder is given up -/
theorem fn_String (g : Nat) (v : Value) (x : List UInt8) : FnOk Tryd.prog 101 [ptr g 0] [] [oSB g 154 v, oRow v 5 tyU8 x] (fun _ : Unit => { val := str x }) := fun w Z hZ hnd hX hpre hoin => by
  obtain ⟨q, hq, hb⟩ := hoin _ (.head _)
  obtain ⟨cs, ho, hr⟩ := hoin _ (.tail _ (.head _))
  have fin : ∀ {B : Nat} {e : Ending} {w' : World}, e = .returned (str x) → Below w.heap.size w w' → ∃ i : Unit, e = .returned (str x) ∧ Bel w.heap.size ([oSB g 154 v, oRow v 5 tyU8 x].flatMap Own.blk) w w' ∧ (([] : List Own).flatMap Own.blk).Nodup ∧ (∀ b ∈ ([] : List Own).flatMap Own.blk, b ∈ [oSB g 154 v, oRow v 5 tyU8 x].flatMap Own.blk ∨ w.heap.size ≤ b) ∧
      ∀ Z' : Nat → Prop, (∀ b, b < w'.heap.size → b ∉ ([] : List Own).flatMap Own.blk → (b < w.heap.size → Z b) → Z' b) → (∀ o ∈ ([] : List Own), o.p Z' w') ∧ ∀ g ∈ ([] : List Fact), g.p Z' w' :=
    fun he hbe => ⟨(), he, ⟨hbe.os, hbe.tape, hbe.output, hbe.size, fun k hk _ => hbe.block k hk⟩, by simp, by simp, fun Z' _ => ⟨by simp, by simp⟩⟩
  rcases ho.2 with ⟨rfl, hx⟩ | ⟨r, cap, cur, rfl, _, hg, hnc, hcm, hcs, htake⟩
  · have hx' : x = [] := by simpa using hx
    subst hx'
    exact (Any.Builder_String_nil Tryd.lays169 Tryd.Builder_Extra_169 w.heap.size g q w hb).mono fun e w' ⟨he, hbe⟩ => fin (B := 0) he hbe
  · by_cases hx : x = []
    · subst hx
      by_cases hc : cap = 0
      · subst hc
        exact (Any.Builder_String_noroom Tryd.lays169 Tryd.Builder_Extra_169 w.heap.size g r q cur w (Nat.le_refl _) hb hg).mono fun e w' ⟨he, hbe⟩ => fin (B := 0) he hbe
      · exact (Any.Builder_String_room Tryd.lays169 Tryd.Builder_Extra_169 w.heap.size g r cap q w hc hb).mono fun e w' ⟨he, hbe⟩ => fin (B := 0) he hbe
    · have hcc := u8_cells hr
      refine (bstr g r cap q cur x w hx hb hg hnc hcm (by simpa [tyU8, tyEnc] using hcs) (fun j y hy => ?_)).mono fun e w' ⟨he, hw⟩ => ?_
      · have h1 : cs[j]? = some (.int .u8 (y.toNat : Int)) := by rw [hcc, List.getElem?_map, hy]; rfl
        have hlt : j < x.length := (List.getElem?_eq_some_iff.1 hy).1
        have h2 : cur.toList[j]? = some (.int .u8 (y.toNat : Int)) := by
          have : (cur.toList.take (x.length * tyU8.size))[j]? = cs[j]? := by rw [htake]
          rw [List.getElem?_take, if_pos (by show j < x.length * 1; omega), h1] at this
          exact this
        rw [add_plain, Nat.zero_add]
        simpa [World.cell?, hg] using h2
      · refine ⟨(), he, ?_, by simp, by simp, fun Z' _ => ⟨by simp, by simp⟩⟩
        have hb1 : Below w.heap.size w w.drew := Below.drew (Below.refl _ w)
        obtain ⟨w1, hw1⟩ : ∃ w1, w1 = w.drew := ⟨_, rfl⟩
        rw [← hw1] at hw hb1
        rw [hw]
        unfold World.freeze
        split
        · exact ⟨hb1.os, hb1.tape, hb1.output, hb1.size, fun k hk _ => hb1.block k hk⟩
        · refine ⟨hb1.os, hb1.tape, hb1.output, by simpa using hb1.size, fun k hk hk2 => ?_⟩
          have hne : r ≠ k := fun e => hk2 (by simp [oRow, Value.ownBlock, e])
          refine Eq.trans ?_ (hb1.block k hk)
          simp only [Array.getElem?_modify]
          rw [if_neg hne]
end Go.Proofs.YtfhifdmbdkkgaaaDoor
