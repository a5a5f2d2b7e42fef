import Derived.Test.YthcmjcnilhglmaaProg
import Derived.WalkKit
import Derived.ProofKit
import Derived.Outline
import Derived.LoopTactic
import Derived.Lib.Hide
namespace Go.Proofs.Ythcmjcnilhglmaa.names
open Go.RowKit
set_option linter.unusedSimpArgs false
theorem lt19 (k : Nat) (h : k < 19) : k = 0 ∨ k = 1 ∨ k = 2 ∨ k = 3 ∨ k = 4 ∨ k = 5 ∨ k = 6 ∨ k = 7 ∨ k = 8 ∨ k = 9 ∨ k = 10 ∨ k = 11 ∨ k = 12 ∨ k = 13 ∨ k = 14 ∨ k = 15 ∨ k = 16 ∨ k = 17 ∨ k = 18 := by omega
theorem ints19 (k : Nat) (h : k < 19) : [Value.int IntKind.i64 0, Value.int IntKind.i64 1, Value.int IntKind.i64 2, Value.int IntKind.i64 3,
      Value.int IntKind.i64 4, Value.int IntKind.i64 5, Value.int IntKind.i64 6, Value.int IntKind.i64 7,
      Value.int IntKind.i64 8, Value.int IntKind.i64 9, Value.int IntKind.i64 10, Value.int IntKind.i64 11,
      Value.int IntKind.i64 12, Value.int IntKind.i64 13, Value.int IntKind.i64 14, Value.int IntKind.i64 15,
      Value.int IntKind.i64 16, Value.int IntKind.i64 17, Value.int IntKind.i64 18][k]? = some (.int .i64 k) := by
  rcases lt19 k h with rfl | rfl | rfl | rfl | rfl | rfl | rfl | rfl | rfl | rfl | rfl | rfl | rfl | rfl | rfl | rfl | rfl | rfl | rfl <;> rfl
theorem ints3 (k : Nat) (h : k < 3) : [Value.int IntKind.i64 1, Value.int IntKind.i64 2, Value.int IntKind.i64 3][k]? = some (.int .i64 (k + 1 : Int)) := by
  rcases (by omega : k = 0 ∨ k = 1 ∨ k = 2) with rfl | rfl | rfl <;> rfl
theorem ints2 (k : Nat) (h : k < 2) : [Value.int IntKind.i64 1, Value.int IntKind.i64 2][k]? = some (.int .i64 (k + 1 : Int)) := by
  rcases (by omega : k = 0 ∨ k = 1) with rfl | rfl <;> rfl
theorem ints6 (k : Nat) (h : k < 6) : [Value.int IntKind.i64 1, Value.int IntKind.i64 2, Value.int IntKind.i64 3, Value.int IntKind.i64 4, Value.int IntKind.i64 5, Value.int IntKind.i64 6][k]? = some (.int .i64 (k + 1 : Int)) := by
  rcases (by omega : k = 0 ∨ k = 1 ∨ k = 2 ∨ k = 3 ∨ k = 4 ∨ k = 5) with rfl | rfl | rfl | rfl | rfl | rfl <;> rfl

theorem cells_alloc (w : World) (l : Array Value) (T : TypeId) (f : Nat → Value) (n : Nat) (h : ∀ k, k < n → l.toList[k]? = some (f k)) (B : Nat) (hB : B = w.heap.size) :
    ∀ k, k < n → (w.alloc (Obj.cells l T)).cell? ⟨B, k, none⟩ = some (f k) := by
  intro k hk
  subst hB
  rw [cell_of_row _ _ k l T (0, 0) (heap_alloc_new w _)]
  simpa using h k hk
theorem cells_later {w : World} {b n : Nat} {f : Nat → Value} (h : ∀ k, k < n → w.cell? ⟨b, k, none⟩ = some (f k)) (hb : b < w.heap.size) (o : Obj) :
    ∀ k, k < n → (w.alloc o).cell? ⟨b, k, none⟩ = some (f k) := fun k hk => (World.cell?_alloc_lt w o ⟨b, k, none⟩ hb).trans (h k hk)
theorem ints4 (a b c d : Value) (k : Nat) (h : k < 4) : [a, b, c, d][k]? = some (if k = 0 then a else if k = 1 then b else if k = 2 then c else d) := by
  rcases (by omega : k = 0 ∨ k = 1 ∨ k = 2 ∨ k = 3) with rfl | rfl | rfl | rfl <;> rfl

def Laid (B : Nat) (w0 w : World) : Prop :=
  (∀ k, k < 3 → w.cell? ⟨B, k, none⟩ = some (.int .i64 (k + 1))) ∧ (∀ k, k < 3 → w.cell? ⟨B + 1, k, none⟩ = some (.int .i64 (k + 1))) ∧
  (∀ k, k < 6 → w.cell? ⟨B + 1 + 1, k, none⟩ = some (.int .i64 (k + 1))) ∧ (∀ k, k < 2 → w.cell? ⟨B + 1 + 1 + 1, k, none⟩ = some (.int .i64 (k + 1))) ∧
  (∀ k, k < 4 → w.cell? ⟨B + 1 + 1 + 1 + 1, k, none⟩ = some (if k = 0 then .slice (some ⟨B, 0, none⟩) 3 3 else if k = 1 then .slice (some ⟨B + 1, 0, none⟩) 3 3 else if k = 2 then .slice (some ⟨B + 1 + 1, 0, none⟩) 6 6 else .slice (some ⟨B + 1 + 1 + 1, 0, none⟩) 2 2)) ∧
  Below w0.heap.size w0 w
theorem laid (w0 w : World) (h : Below w0.heap.size w0 w) (B : Nat) (hB : B = w.heap.size) : Laid B w0 (((((w.alloc
                  (Obj.cells #[Value.int IntKind.i64 1, Value.int IntKind.i64 2, Value.int IntKind.i64 3] 3)).alloc
              (Obj.cells #[Value.int IntKind.i64 1, Value.int IntKind.i64 2, Value.int IntKind.i64 3] 3)).alloc
          (Obj.cells #[Value.int IntKind.i64 1, Value.int IntKind.i64 2, Value.int IntKind.i64 3, Value.int IntKind.i64 4, Value.int IntKind.i64 5, Value.int IntKind.i64 6] 3)).alloc
      (Obj.cells #[Value.int IntKind.i64 1, Value.int IntKind.i64 2] 3)).alloc
  (Obj.cells
    #[Value.slice (some { block := B, off := 0 }) 3 3,
      Value.slice (some { block := B + 1, off := 0 }) 3 3,
      Value.slice (some { block := B + 1 + 1, off := 0 }) 6 6,
      Value.slice (some { block := B + 1 + 1 + 1, off := 0 }) 2 2]
    24)) := by
  subst hB
  have hs := h.size
  refine ⟨?_, ?_, ?_, ?_, ?_, ?_⟩
  · refine cells_later (cells_later (cells_later (cells_later (cells_alloc _ _ _ (fun k => .int .i64 (k + 1)) _ ints3 _ rfl) ?_ _) ?_ _) ?_ _) ?_ _ <;> (try simp) <;> omega
  · refine cells_later (cells_later (cells_later (cells_alloc _ _ _ (fun k => .int .i64 (k + 1)) _ ints3 _ ?_) ?_ _) ?_ _) ?_ _ <;> (try simp) <;> omega
  · refine cells_later (cells_later (cells_alloc _ _ _ (fun k => .int .i64 (k + 1)) _ ints6 _ ?_) ?_ _) ?_ _ <;> (try simp) <;> omega
  · refine cells_later (cells_alloc _ _ _ (fun k => .int .i64 (k + 1)) _ ints2 _ ?_) ?_ _ <;> (try simp)
  · exact cells_alloc _ _ _ (fun k => if k = 0 then .slice (some ⟨w.heap.size, 0, none⟩) 3 3 else if k = 1 then .slice (some ⟨w.heap.size + 1, 0, none⟩) 3 3 else if k = 2 then .slice (some ⟨w.heap.size + 1 + 1, 0, none⟩) 6 6 else .slice (some ⟨w.heap.size + 1 + 1 + 1, 0, none⟩) 2 2) _ (ints4 _ _ _ _) _ (by simp)
  · refine ((((h.alloc ?_ _).alloc ?_ _).alloc ?_ _).alloc ?_ _).alloc ?_ _ <;> (try simp) <;> omega
set_option maxHeartbeats 1000000 in
theorem names_any (w : World) :
    Calls Try.prog 3 #[] w fun e w' => e = .returned (.bool true) ∧ Below w.heap.size w w' := by
  go_enter Try.func3, Try.ntmps3
  go_wp2
  go_loopw [14] (fun i wr => ∃ k : Nat, k ≤ 19 ∧ i = .int .i64 k ∧ (∀ j, j < 19 → wr.cell? ⟨w.heap.size, j, none⟩ = some (.int .i64 j)) ∧ Below w.heap.size w wr) (fun i _ => 19 - (intOf i).toNat)
  case atStart => exact ⟨0, by omega, rfl, cells_alloc w _ _ (fun j => .int .i64 j) 19 (ints19) _ rfl, (Below.refl _ _).alloc (Nat.le_refl _) _⟩
  case round =>
    obtain ⟨k, hk, rfl, hc, hb⟩ := hrel
    by_cases hlt : k < 19
    · have hc1 := hc k hlt
      go_wp2
      go_roundw
      case rel => exact ⟨k + 1, by omega, by go_num, hc, hb⟩
      case measure => simp [intOf]; omega
    · clear hc
      go_wp2
      obtain ⟨B, hB⟩ : ∃ B, B = wr.heap.size := ⟨_, rfl⟩
      rw [← hB]
      go_loopw [34] (fun i ws => ∃ k : Nat, k ≤ 4 ∧ i = .int .i64 k ∧ Laid B w ws) (fun i _ => 4 - (intOf i).toNat)
      case atStart => exact ⟨0, by omega, rfl, laid w wr hb B hB⟩
      case round =>
        obtain ⟨k, hk, rfl, hl⟩ := hrel
        have HB := Lib.hid hB
        clear hB
        by_cases hlt : k < 4
        · rcases (by omega : k = 0 ∨ k = 1 ∨ k = 2 ∨ k = 3) with rfl | rfl | rfl | rfl
          · have hc := hl.2.2.2.2.1 0 (by omega)
            simp only [if_true, if_false, show ¬ (2 : Nat) = 0 from by omega, show ¬ (2 : Nat) = 1 from by omega, show ¬ (3 : Nat) = 0 from by omega, show ¬ (3 : Nat) = 1 from by omega, show ¬ (3 : Nat) = 2 from by omega] at hc
            go_wp2
            go_loop [40] (fun i => ∃ k : Nat, k ≤ 3 ∧ i = .int .i64 k) (fun i => 3 - (intOf i).toNat)
            case atStart => exact ⟨0, by omega, rfl⟩
            case round =>
              obtain ⟨k, hk, rfl⟩ := hrel
              by_cases hlt : k < 3
              · have hc := hl.1 k hlt
                go_wp2
                go_round
                case rel => exact ⟨k + 1, by omega, by go_num⟩
                case measure => simp [intOf]; omega
              · go_wp2
                go_roundw
                case rel => exact ⟨1, by omega, by go_num, hl⟩
                case measure => simp [intOf]
          · have hc := hl.2.2.2.2.1 1 (by omega)
            simp only [if_true, Nat.one_ne_zero, if_false, show ¬ (2 : Nat) = 0 from by omega, show ¬ (2 : Nat) = 1 from by omega, show ¬ (3 : Nat) = 0 from by omega, show ¬ (3 : Nat) = 1 from by omega, show ¬ (3 : Nat) = 2 from by omega] at hc
            go_wp2
            go_loop [40] (fun i => ∃ k : Nat, k ≤ 3 ∧ i = .int .i64 k) (fun i => 3 - (intOf i).toNat)
            case atStart => exact ⟨0, by omega, rfl⟩
            case round =>
              obtain ⟨k, hk, rfl⟩ := hrel
              by_cases hlt : k < 3
              · have hc := hl.2.1 k hlt
                go_wp2
                go_round
                case rel => exact ⟨k + 1, by omega, by go_num⟩
                case measure => simp [intOf]; omega
              · go_wp2
                go_roundw
                case rel => exact ⟨2, by omega, by go_num, hl⟩
                case measure => simp [intOf]
          · have hc := hl.2.2.2.2.1 2 (by omega)
            simp only [if_true, Nat.one_ne_zero, if_false, show ¬ (2 : Nat) = 0 from by omega, show ¬ (2 : Nat) = 1 from by omega, show ¬ (3 : Nat) = 0 from by omega, show ¬ (3 : Nat) = 1 from by omega, show ¬ (3 : Nat) = 2 from by omega] at hc
            go_wp2
            go_loop [40] (fun i => ∃ k : Nat, k ≤ 6 ∧ i = .int .i64 k) (fun i => 6 - (intOf i).toNat)
            case atStart => exact ⟨0, by omega, rfl⟩
            case round =>
              obtain ⟨k, hk, rfl⟩ := hrel
              by_cases hlt : k < 6
              · have hc := hl.2.2.1 k hlt
                go_wp2
                go_round
                case rel => exact ⟨k + 1, by omega, by go_num⟩
                case measure => simp [intOf]; omega
              · go_wp2
                go_roundw
                case rel => exact ⟨3, by omega, by go_num, hl⟩
                case measure => simp [intOf]
          · have hc := hl.2.2.2.2.1 3 (by omega)
            simp only [if_true, Nat.one_ne_zero, if_false, show ¬ (2 : Nat) = 0 from by omega, show ¬ (2 : Nat) = 1 from by omega, show ¬ (3 : Nat) = 0 from by omega, show ¬ (3 : Nat) = 1 from by omega, show ¬ (3 : Nat) = 2 from by omega] at hc
            go_wp2
            go_loop [40] (fun i => ∃ k : Nat, k ≤ 2 ∧ i = .int .i64 k) (fun i => 2 - (intOf i).toNat)
            case atStart => exact ⟨0, by omega, rfl⟩
            case round =>
              obtain ⟨k, hk, rfl⟩ := hrel
              by_cases hlt : k < 2
              · have hc := hl.2.2.2.1 k hlt
                go_wp2
                go_round
                case rel => exact ⟨k + 1, by omega, by go_num⟩
                case measure => simp [intOf]; omega
              · go_wp2
                go_roundw
                case rel => exact ⟨4, by omega, by go_num, hl⟩
                case measure => simp [intOf]
        · have hb2 := hl.2.2.2.2.2
          go_wp2
          go_ret
          exact ⟨rfl, hb2⟩
end Go.Proofs.Ythcmjcnilhglmaa.names
