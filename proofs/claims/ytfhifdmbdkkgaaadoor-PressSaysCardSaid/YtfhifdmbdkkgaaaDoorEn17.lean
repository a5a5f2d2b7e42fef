/- An engine for walks: rows frozen while boxes of the caller are held. No condition. -/
import Derived.Test.YtfhifdmbdkkgaaaDoorEn16
namespace Go.Proofs.YtfhifdmbdkkgaaaDoor.En
open Go.RowKit
set_option linter.unusedVariables false
set_option linter.unusedSimpArgs false
section
variable {P : Program} {Q : Exit → Act → World → Prop} {n : Nat} {m : Mem} {S : Sl} {ops : Array Oper} {rest : List Oper} {o : Oper} {α : Type}
theorem Holds.freezeX {w : World} (hm : Holds m w) {i : Nat} (ks : List Nat) {v : Value} {e : TypeId} {τ : Ty α} {xs : List α} (hi : m.own[i]? = some (oRow v e τ xs)) (hX : m.X = (picks m.own ks).flatMap Own.blk) (hk : ks.contains i = false) :
    Holds (Mem.add { m with own := m.own.take i ++ m.own.drop (i + 1) } (fDat (tyList τ) [v] xs)) w := by
  have hsub : ∀ x ∈ m.own.take i ++ m.own.drop (i + 1), x ∈ m.own := fun x hx => by
    rcases List.mem_append.1 hx with hx | hx
    · exact List.mem_of_mem_take hx
    · exact List.mem_of_mem_drop hx
  have hmo : oRow v e τ xs ∈ m.own := List.mem_of_getElem? hi
  have hnd0 : ((oRow v e τ xs :: (m.own.take i ++ m.own.drop (i + 1))).flatMap Own.blk).Nodup := (perm_get hi).nodup_iff.1 hm.nd
  rw [List.flatMap_cons, List.nodup_append] at hnd0
  have h1 := hm.reown (m.own.take i ++ m.own.drop (i + 1)) hsub hnd0.2.1
  refine h1.add (row_dat (own_at hm hi) (fun b hb => ⟨hb.1, fun hx => hb.2.1 ?_, hb.2.2⟩) (fun b hb => ⟨?_, fun hx => ?_, fun hlt => ?_⟩))
  · obtain ⟨x, hx1, hx2⟩ := List.mem_flatMap.1 hx
    exact List.mem_flatMap.2 ⟨x, hsub x hx1, hx2⟩
  · exact (oRow v e τ xs).lt (own_at hm hi) b hb
  · exact hnd0.2.2 b hb b hx rfl
  · rcases hm.lo b (List.mem_flatMap.2 ⟨_, hmo, hb⟩) with h | h
    · have hlt' : b < m.B := hlt; omega
    · rw [hX] at h
      obtain ⟨o', ho', hb'⟩ := List.mem_flatMap.1 h
      obtain ⟨k, hk1, hk2⟩ := List.mem_filterMap.1 ho'
      have hne : i ≠ k := by
        rintro rfl
        rw [List.contains_iff_mem.2 hk1] at hk; cases hk
      exact absurd hb' (nodup_flat hm.nd hi hk2 hne b hb)
theorem al_freezeX {l : List Oper} (i : Nat) (ks : List Nat) {v : Value} {e : TypeId} {τ : Ty α} {xs : List α} (hi : m.own[i]? = some (oRow v e τ xs)) (hX : m.X = (picks m.own ks).flatMap Own.blk) (hk : ks.contains i = false)
    (h : AL P ops l Q n (Mem.add { m with own := m.own.take i ++ m.own.drop (i + 1) } (fDat (tyList τ) [v] xs)) S) : AL P ops l Q n m S := fun w a hm hs => h w a (hm.freezeX ks hi hX hk) hs
theorem aw_freezeX {c : Code} (i : Nat) (ks : List Nat) {v : Value} {e : TypeId} {τ : Ty α} {xs : List α} (hi : m.own[i]? = some (oRow v e τ xs)) (hX : m.X = (picks m.own ks).flatMap Own.blk) (hk : ks.contains i = false)
    (h : AW P c Q n (Mem.add { m with own := m.own.take i ++ m.own.drop (i + 1) } (fDat (tyList τ) [v] xs)) S) : AW P c Q n m S := fun w a hm hs => h w a (hm.freezeX ks hi hX hk) hs
theorem aq_freezeX {e' : Exit} (i : Nat) (ks : List Nat) {v : Value} {e : TypeId} {τ : Ty α} {xs : List α} (hi : m.own[i]? = some (oRow v e τ xs)) (hX : m.X = (picks m.own ks).flatMap Own.blk) (hk : ks.contains i = false)
    (h : AQ Q e' n (Mem.add { m with own := m.own.take i ++ m.own.drop (i + 1) } (fDat (tyList τ) [v] xs)) S) : AQ Q e' n m S := fun w a hm hs => h w a (hm.freezeX ks hi hX hk) hs
/-- a slice as an array -/
theorem al_s2ap {d : Nat} {β : Type} {τ : Ty α} {τA : Ty β} {v : Value} {xs : List α} {x : β} {arr e : TypeId} {y : Operand} (i k : Nat) (hk : k ≤ xs.length) (hk0 : Nat.blt 0 k = true) (hL : ∀ {Z w cs}, RepL τ Z w cs (xs.take k) → τA.rep Z w cs x) (hi : m.fz[i]? = some (fDat (tyList τ) [v] xs)) (hx : ev S y = some v) (ht : P.underlying arr = some (.array k e)) (ho : o.op = .sliceToArrayPointer arr y)
    (h : ∀ p, AL P ops rest Q n (m.add (fPtr τA p x)) (put S d p)) (hdd : o.dst = some d := by rfl) (hd : Nat.blt d n = true := by rfl) (hg : wantS ops S o true = true := by rfl) : AL P ops (o :: rest) Q n m S :=
  al_fact (R := fun p => fPtr τA p x) (fun w a hm hs => by
    obtain ⟨A, l, c, he, hl, _, _, hr⟩ := fz_at hm hi
    have he' : v = .slice A l c := by simpa using he
    have h0 : 0 < k := by simpa [Nat.blt_eq] using hk0
    rcases hr with hr | ⟨ad, cs, rfl, hca, hrep⟩
    · omega
    refine ⟨.pointer (some ad), ?_, _, _, rfl, hca.take (k * τ.size), hL (hrep.take k)⟩
    unfold execOp
    simp only [ho, hs.ev hx]
    rw [he']
    have := run_arrayAt (P := P) (w := w) arr e k (some ad) l c ht (by omega)
    simp [this]) h hdd hd hg
end
end Go.Proofs.YtfhifdmbdkkgaaaDoor.En
