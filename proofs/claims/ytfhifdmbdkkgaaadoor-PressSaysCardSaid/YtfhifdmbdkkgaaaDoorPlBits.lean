/- Shifts, bits and bytes in the spelling of the printed functions. No condition. -/
import Derived.Test.YtfhifdmbdkkgaaaDoorArith
import Derived.Test.YtfhifdmbdkkgaaaDoorPl0
namespace Go.Proofs.YtfhifdmbdkkgaaaDoor
open Go.RowKit YtfhifdmbdkkgaaaDoor.En
theorem shr_nat {x m : Nat} {j : Int} {k : IntKind} (hj : j = (m : Int)) (hm : m ≤ k.bits) : ((x : Int)).fdiv (2 ^ min j.toNat k.bits) = ((x / 2 ^ m : Nat) : Int) := by
  subst hj
  rw [Int.toNat_natCast, Nat.min_eq_left hm, Int.fdiv_eq_ediv_of_nonneg _ (by apply Int.le_of_lt; apply Int.pow_pos; decide)]
  simp
theorem shl_nat {x m : Nat} {j : Int} {k : IntKind} (hj : j = (m : Int)) (hm : m ≤ k.bits) : ((x : Int)) * 2 ^ min j.toNat k.bits = ((x * 2 ^ m : Nat) : Int) := by
  subst hj
  rw [Int.toNat_natCast, Nat.min_eq_left hm]
  simp
theorem u8w (x : Nat) : IntKind.u8.wrap (x : Int) = ((x % 256 : Nat) : Int) := by
  unfold IntKind.wrap
  simp [IntKind.signed, IntKind.bits]
theorem u8w_in {x : Nat} (h : x < 256) : IntKind.u8.wrap (x : Int) = (x : Int) := by rw [u8w, Nat.mod_eq_of_lt h]
theorem byte_of {x : Nat} (h : x < 256) : ((UInt8.ofNat x).toNat : Int) = x := by
  rw [UInt8.toNat_ofNat']; omega
theorem byte_lt (b : UInt8) : b.toNat < 256 := b.toNat_lt
end Go.Proofs.YtfhifdmbdkkgaaaDoor
