/- Texts written. No condition. -/
import Derived.Test.YtjbgahmcobcojaaDoorWRoomHeads
import Derived.Test.YtjbgahmcobcojaaDoorPlBits
namespace Go.Proofs.YtjbgahmcobcojaaDoor.PRoomHeads
open Go.RowKit YtjbgahmcobcojaaDoor.En YtjbgahmcobcojaaDoor
set_option linter.unusedVariables false
set_option linter.unusedSimpArgs false
namespace TX
theorem count_le (sub : List UInt8) : ∀ (k : Nat) (s : List UInt8), Lib.countFrom sub k s ≤ k
  | 0, _ => Nat.le_refl _
  | k + 1, s => by
    unfold Lib.countFrom
    split
    · omega
    · have := count_le sub k (s.drop ((Lib.index s sub).toNat + sub.length)); omega
theorem replaceK_len (old new : List UInt8) : ∀ (k : Nat) (s : List UInt8), (Lib.replaceK old new k s).length ≤ s.length + k * new.length
  | 0, s => by simp [Lib.replaceK]
  | k + 1, s => by
    unfold Lib.replaceK
    split
    · omega
    · have := replaceK_len old new k (s.drop ((Lib.index s old).toNat + old.length))
      rw [Nat.succ_mul]
      simp only [List.length_append, List.length_take, List.length_drop] at this ⊢
      omega
def txtV (s : List UInt8) : List UInt8 := Lib.replaceAll s [0] [0, 255] ++ [0, 0]
theorem rep_len (s : List UInt8) : (Lib.replaceAll s [0] [0, 255]).length ≤ s.length + (s.length + 1) * 2 := by
  have hc : Lib.count s [0] ≤ s.length + 1 := count_le _ _ _
  have h2 := replaceK_len [0] [0, 255] (Lib.replaceNum s [0] (-1)) s
  have h3 : Lib.replaceNum s [0] (-1) = Lib.count s [0] := by unfold Lib.replaceNum; rw [if_pos (.inl (by decide))]
  have h4 : Lib.replaceAll s [0] [0, 255] = Lib.replaceK [0] [0, 255] (Lib.replaceNum s [0] (-1)) s := by unfold Lib.replaceAll Lib.replace; rw [if_neg (by decide)]
  rw [h4]
  rw [h3] at h2 ⊢
  have h5 : ([0, 255] : List UInt8).length = 2 := rfl
  rw [h5] at h2
  omega
theorem txtV_len (s : List UInt8) : (txtV s).length ≤ 3 * s.length + 4 := by
  have := rep_len s
  unfold txtV
  rw [List.length_append]
  show _ + 2 ≤ _
  omega
theorem txtV_nil : txtV [] = [0, 0] := by unfold txtV; rfl
theorem putT_large (s : List UInt8) (h : 1024 < s.length) (fu : Nat) : f_num_PutText fu s = some ([], 2) ∧ f_lumref_PutText fu s = some ([], 2) := by
  unfold f_num_PutText f_lumref_PutText
  rw [cond_tt (decide_eq_true (by omega))]
  exact ⟨rfl, rfl⟩
theorem putT_ok (s : List UInt8) (h : s.length ≤ 1024) (fu : Nat) : f_num_PutText fu s = some (txtV s, 0) ∧ f_lumref_PutText fu s = some (txtV s, 0) := by
  have e : f_lumref_PutText fu s = f_num_PutText fu s := rfl
  have hc : Lib.count s [0] ≤ s.length + 1 := count_le _ _ _
  have hl := rep_len s
  have key : f_num_PutText fu s = some (txtV s, 0) := by
    unfold f_num_PutText f_strings_ReplaceAll
    rw [cond_ff (decide_eq_false (by omega)), req_pos ⟨by omega, by simp, by show s.length + Lib.count s [0] * 2 ≤ _; omega⟩, opt_of]
    rw [req_pos (by show _ + 2 ≤ _; omega)]
    rfl
  exact ⟨key, e.trans key⟩
end TX
end Go.Proofs.YtjbgahmcobcojaaDoor.PRoomHeads
