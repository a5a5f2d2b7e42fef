/- Words for what a function computes, as a plain Lean function that may fail. No condition. -/
namespace Go.Proofs.YtfhifdmbdkkgaaaDoor.En
def req {β : Type} (c : Prop) [Decidable c] (k : Option β) : Option β := if c then k else none
def opt {α β : Type} (o : Option α) (k : α → Option β) : Option β := match o with | some x => k x | none => none
def lt {α : Type _} {β : Type} (a : α) (k : α → Option β) : Option β := k a
theorem req_some {β : Type} {c : Prop} [Decidable c] {k : Option β} {r : β} (h : req c k = some r) : c ∧ k = some r := by
  unfold req at h; split at h
  · rename_i hc; exact ⟨hc, h⟩
  · cases h
theorem opt_some {α β : Type} {o : Option α} {k : α → Option β} {r : β} (h : opt o k = some r) : ∃ x, o = some x ∧ k x = some r := by
  cases o with
  | none => cases h
  | some x => exact ⟨x, rfl, h⟩
theorem lt_some {α : Type _} {β : Type} {a : α} {k : α → Option β} {r : β} (h : lt a k = some r) : ∃ x, x = a ∧ k x = some r := ⟨a, rfl, h⟩
@[simp] theorem req_pos {β : Type} {c : Prop} [Decidable c] {k : Option β} (hc : c) : req c k = k := by unfold req; rw [if_pos hc]
@[simp] theorem opt_of {α β : Type} (x : α) (k : α → Option β) : opt (some x) k = k x := rfl
@[simp] theorem lt_of {α : Type _} {β : Type} (x : α) (k : α → Option β) : lt x k = k x := rfl
end Go.Proofs.YtfhifdmbdkkgaaaDoor.En
