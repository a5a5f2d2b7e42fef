/- What a blob needs: WalkNeeds. No condition. -/
import Derived.Test.YtgmggcpceemnnaaDoorWrMix
import Derived.Test.YtgmggcpceemnnaaDoorWrReadsPure
namespace Go.Proofs.YtgmggcpceemnnaaDoor.PFetchInto
open Go.RowKit YtgmggcpceemnnaaDoor.En YtgmggcpceemnnaaDoor Num Mix Go.Lib MX PTreeRd PTreeReads
set_option linter.unusedVariables false
set_option linter.unusedSimpArgs false
variable {F0 : Nat}
def IdF (F : List UInt8 → A8u8) : Prop := ∀ (fu : Nat) (s : List UInt8), 65 ≤ fu → s.length < fu → s.length ≤ 4611686018427387904 → f_mix_ID fu s = some (F s) ∧ f_lumref_ID fu s = some (F s)
theorem id_ex : ∃ F, IdF F := ⟨idOf, fun fu s h1 h2 h3 => ⟨mID_ok fu s h2 (by omega), rID_ok fu s h1 h2 (by omega)⟩⟩
theorem known_ok (k : Int) (fu : Nat) : f_pack_Known fu k = some (decide (1 ≤ k ∧ k ≤ 3)) := by
  unfold f_pack_Known
  rw [lt_of]
  by_cases h : k ≥ 1
  · rw [cond_tt (decide_eq_true h)]
    by_cases h2 : k ≤ 3
    · rw [decide_eq_true h2, decide_eq_true ⟨h, h2⟩]
    · rw [decide_eq_false h2, decide_eq_false (fun e => h2 e.2)]
  · rw [cond_ff (decide_eq_false h), decide_eq_false (fun e => h e.1)]
theorem kind_ok (k : Int) (fu : Nat) : f_lumref_kindOK fu k = some (decide (1 ≤ k ∧ k ≤ 3)) := by
  unfold f_lumref_kindOK
  rw [lt_of]
  by_cases h1 : k = 1
  · subst h1; rfl
  rw [cond_ff (beq_eq_false_iff_ne.2 h1)]
  by_cases h2 : k = 2
  · subst h2; rfl
  rw [cond_ff (beq_eq_false_iff_ne.2 h2)]
  by_cases h3 : k = 3
  · subst h3; rfl
  rw [beq_eq_false_iff_ne.2 h3, decide_eq_false (by omega)]
def z8 : A8u8 := (A8u8.mk (0 : UInt8) (0 : UInt8) (0 : UInt8) (0 : UInt8) (0 : UInt8) (0 : UInt8) (0 : UInt8) (0 : UInt8))
theorem blob_ok {F : List UInt8 → A8u8} (hF : IdF F) (b : S_api_Blob) (fu : Nat) (hfu : 6000 ≤ fu) : ∃ x e, f_pack_ID fu b = some (x, e) ∧ f_lumref_BlobID fu b = some (x, e) := by
  unfold f_pack_ID f_lumref_BlobID
  rw [known_ok, kind_ok, opt_of, opt_of]
  by_cases hk : 1 ≤ b.Kind ∧ b.Kind ≤ 3
  · have e : (!decide (1 ≤ b.Kind ∧ b.Kind ≤ 3)) = false := by rw [decide_eq_true hk]; rfl
    rw [e, cond_ff rfl, cond_ff rfl]
    by_cases hl : (b.Bytes.length : Int) > 4096
    · rw [cond_tt (decide_eq_true hl), cond_tt (decide_eq_true hl)]
      exact ⟨_, _, rfl, rfl⟩
    · rw [cond_ff (decide_eq_false hl), cond_ff (decide_eq_false hl)]
      obtain ⟨k, hk2⟩ : ∃ k : Nat, b.Kind = k := ⟨b.Kind.toNat, by omega⟩
      rw [hk2, u8w_in (x := k) (by omega)]
      have hlen : (([(UInt8.ofNat ((k : Int)).toNat)]) ++ b.Bytes).length ≤ 4097 := by rw [List.length_append, List.length_singleton]; omega
      obtain ⟨f1, f2⟩ := hF fu (([(UInt8.ofNat ((k : Int)).toNat)]) ++ b.Bytes) (by omega) (by omega) (by omega)
      rw [req_pos ⟨by omega, by omega⟩, req_pos (by rw [List.length_singleton]; omega), f1, opt_of, req_pos ⟨by omega, by omega⟩, req_pos (by rw [List.length_singleton]; omega), f2, opt_of]
      exact ⟨_, _, rfl, rfl⟩
  · have e : (!decide (1 ≤ b.Kind ∧ b.Kind ≤ 3)) = true := by rw [decide_eq_false hk]; rfl
    rw [e, cond_tt rfl, cond_tt rfl]
    exact ⟨_, _, rfl, rfl⟩
/-! the identifiers, each once -/
end Go.Proofs.YtgmggcpceemnnaaDoor.PFetchInto
