/- An engine for walks: arrays. No condition. -/
import Derived.Test.YtfhifdmbdkkgaaaDoorEn9
namespace Go.Proofs.YtfhifdmbdkkgaaaDoor.En
open Go.RowKit
set_option linter.unusedVariables false
set_option linter.unusedSimpArgs false
section
variable {P : Program} {Q : Exit → Act → World → Prop} {n : Nat} {m : Mem} {S : Sl} {ops : Array Oper} {rest : List Oper} {o : Oper} {α β ι : Type}
/-! an element at a variable place -/
theorem ov_idxArrV {t e : TypeId} {x y : Operand} {g off len : Nat} {k : IntKind} {j : Int} {xs : List α} {u : α} (hu : at? xs j = some u) (hl : xs.length = len) (hx : ev S x = some (ptr g off)) (hy : ev S y = some (.int k j)) (ht : P.underlying t = some (.array len e)) (hsz : szOf P e = some 1) (ho : o.op = .indexAddr t x y) :
    OpV P o n m S (ptr g (off + j.toNat)) := by
  obtain ⟨h0, h1, _⟩ := at_some hu
  have := ov_idxArr (n := n) (m := m) (S := S) h0 (by omega : j < len) hx hy ht hsz ho
  rwa [Nat.mul_one] at this
theorem seg_at {cs : List Value} {off : Nat} {enc : α → Value} {xs : List α} {j : Int} {u : α} (hseg : (cs.drop off).take xs.length = xs.map enc) (hu : at? xs j = some u) : cs[off + j.toNat]? = some (enc u) := by
  obtain ⟨h0, h1, h2⟩ := at_some hu
  have h3 : ((cs.drop off).take xs.length)[j.toNat]? = (xs.map enc)[j.toNat]? := by rw [hseg]
  rw [List.getElem?_take, if_pos (by omega), List.getElem?_drop, List.getElem?_map, h2] at h3
  simpa using h3
theorem ov_loadV {t : TypeId} {d : TypeDesc} {x : Operand} {g off : Nat} {et : TypeId} {cs : List Value} {enc : α → Value} {xs : List α} {j : Int} {u : α} (i : Nat) (hi : m.own[i]? = some (oBox g et cs)) (hx : ev S x = some (ptr g (off + j.toNat))) (hut : P.underlying t = some d) (hsz : szOf P t = some 1) (hd : isAggD d = false)
    (hseg : (cs.drop off).take xs.length = xs.map enc) (hu : at? xs j = some u) (ho : o.op = .load t x) : OpV P o n m S (enc u) := by
  have h := seg_at hseg hu
  have hd1 : (cs.drop (off + j.toNat)).take 1 = [enc u] := by
    rw [List.take_one, List.head?_drop, h]; rfl
  refine ov_load (i := i) (k := 1) hi hx hut hsz (by rw [hd]; rfl) (by rw [hd1]; rfl) ?_ ho
  rw [hd1]; unfold mk; rw [hd]; rfl
theorem al_storeV {t : TypeId} {x y : Operand} {g p : Nat} {et : TypeId} {cs cs' : List Value} {val : Value} (i : Nat) (hi : m.own[i]? = some (oBox g et cs)) (hx : ev S x = some (ptr g p)) (hy : ev S y = some val) (hsz : szOf P t = some 1) (hone : val.oneCell' = true) (hb : p < cs.length) (hcs : cs' = cs.set p val) (ho : o.op = .store t x y)
    (h : AL P ops rest Q n (m.upd i (oBox g et cs')) S) (hdst : o.dst = none := by rfl) (hg : wantS ops S o true = true := by rfl) : AL P ops (o :: rest) Q n m S :=
  al_store (vs := [val]) hi hx hy hsz (cv_rfl (cells_one hone)) rfl (co_val hone co_nil) (by omega) (by
    rw [hcs, List.set_eq_take_append_cons_drop, if_pos hb]; simp) ho h hdst hg
/-- an element of an array value -/
theorem ov_idxAgg {t e : TypeId} {x y : Operand} {len : Nat} {k : IntKind} {d : TypeDesc} {cs : List Value} {enc : α → Value} {xs : List α} {j : Int} {u : α} (hu : at? xs j = some u) (hl : xs.length = len) (hcs : cs = xs.map enc) (hx : ev S x = some (ag cs)) (hy : ev S y = some (.int k j)) (ht : P.underlying t = some (.array len e)) (he : P.underlying e = some d) (hd : isAggD d = false) (hsz : szOf P e = some 1) (ho : o.op = .index t x y) :
    OpV P o n m S (enc u) := fun w a hm hs => by
  obtain ⟨h0, h1, h2⟩ := at_some hu
  have hj : (j < (len : Int)) := by omega
  have hc : cs[j.toNat]? = some (enc u) := by rw [hcs, List.getElem?_map, h2]; rfl
  unfold execOp
  simp only [ho, hs.ev hx, hs.ev hy]
  simp [Instr.index, asIntOf, Sem.run_bind, run_underlying ht, ag, h0, hj, run_sizeOf' hsz, part, run_isAgg' he, hd, hc]
/-! a box becomes data -/
theorem Holds.freezeB {w : World} (hm : Holds m w) {i g : Nat} {t : TypeId} {cs : List Value} {τ : Ty α} {x : α} (hi : m.own[i]? = some (oBox g t cs)) (hX : m.X = []) (hrep : ∀ Z w, τ.rep Z w cs x) :
    Holds (Mem.add { m with own := m.own.take i ++ m.own.drop (i + 1) } (fPtr τ (ptr g 0) x)) w := by
  have hsub : ∀ x ∈ m.own.take i ++ m.own.drop (i + 1), x ∈ m.own := fun x hx => by
    rcases List.mem_append.1 hx with hx | hx
    · exact List.mem_of_mem_take hx
    · exact List.mem_of_mem_drop hx
  have hmo : oBox g t cs ∈ m.own := List.mem_of_getElem? hi
  have hnd0 : ((oBox g t cs :: (m.own.take i ++ m.own.drop (i + 1))).flatMap Own.blk).Nodup := (perm_get hi).nodup_iff.1 hm.nd
  rw [List.flatMap_cons, List.nodup_append] at hnd0
  have h1 := hm.reown (m.own.take i ++ m.own.drop (i + 1)) hsub hnd0.2.1
  have hg : g ∈ (oBox g t cs).blk := by simp [oBox]
  refine h1.add ⟨⟨g, 0, none⟩, cs, rfl, ⟨⟨?_, fun hx => ?_, fun hlt => ?_⟩, fun j u hu => ?_⟩, hrep _ _⟩
  · exact (oBox g t cs).lt (own_at hm hi) g hg
  · exact hnd0.2.2 g hg g hx rfl
  · rcases hm.lo g (List.mem_flatMap.2 ⟨_, hmo, hg⟩) with h | h
    · have hlt' : g < m.B := hlt; omega
    · rw [hX] at h; simp at h
  · rw [box_cell hm hi, Nat.zero_add]; exact hu
theorem al_freezeB {l : List Oper} (i : Nat) {g : Nat} {t : TypeId} {cs : List Value} {τ : Ty α} (x : α) (hi : m.own[i]? = some (oBox g t cs)) (hX : m.X = []) (hrep : ∀ Z w, τ.rep Z w cs x)
    (h : AL P ops l Q n (Mem.add { m with own := m.own.take i ++ m.own.drop (i + 1) } (fPtr τ (ptr g 0) x)) S) : AL P ops l Q n m S := fun w a hm hs => h w a (hm.freezeB hi hX hrep) hs
theorem aw_freezeB {c : Code} (i : Nat) {g : Nat} {t : TypeId} {cs : List Value} {τ : Ty α} (x : α) (hi : m.own[i]? = some (oBox g t cs)) (hX : m.X = []) (hrep : ∀ Z w, τ.rep Z w cs x)
    (h : AW P c Q n (Mem.add { m with own := m.own.take i ++ m.own.drop (i + 1) } (fPtr τ (ptr g 0) x)) S) : AW P c Q n m S := fun w a hm hs => h w a (hm.freezeB hi hX hrep) hs
/-! slices of an array that is data -/
theorem ptr_list {β : Type} {τA : Ty β} {τ : Ty α} {v : Value} {x : β} {xs : List α} {i : Nat} (hi : m.fz[i]? = some (fPtr τA v x)) (hL : ∀ {Z w cs}, τA.rep Z w cs x → RepL τ Z w cs xs) (hmx : Nat.ble xs.length 100000 = true) {w : World} (hm : Holds m w) :
    ∃ ad, v = .pointer (some ad) ∧ (tyList τ).rep (m.frz w) w [.slice (some ad) xs.length xs.length] xs := by
  obtain ⟨ad, cs, rfl, hca, hrep⟩ := fz_at hm hi
  have := Nat.le_of_ble_eq_true hmx
  exact ⟨ad, rfl, _, _, _, rfl, rfl, Nat.le_refl _, by unfold maxLen; omega, .inr ⟨ad, cs, rfl, hca, hL hrep⟩⟩
theorem of_sliceP {β : Type} {τA : Ty β} {τ : Ty α} {v : Value} {x : β} {xs : List α} (i : Nat) {t e : TypeId} {len : Nat} {y : Operand} (hL : ∀ {Z w cs}, τA.rep Z w cs x → RepL τ Z w cs xs) (hlen : xs.length = len) (hmx : Nat.ble xs.length 100000 = true) (hi : m.fz[i]? = some (fPtr τA v x)) (hx : ev S y = some v) (ht : P.underlying t = some (.array len e)) (hsz : szOf P e = some τ.size) (ho : o.op = .slice t y none none none) : OpF P o n m S (fun u => fDat (tyList τ) [u] xs) := fun w a hm hs => by
  obtain ⟨ad, rfl, hr⟩ := ptr_list hi hL hmx hm
  have hsd := slice_dat (l := 0) (h := xs.length) hr (by omega) (Nat.le_refl _)
  rw [List.take_length, List.drop_zero] at hsd
  refine ⟨_, ?_, hsd⟩
  subst hlen
  unfold execOp
  simp only [ho, hs.ev hx, Option.map_none]
  simp [Instr.sliceAt, Instr.sureAddr, Instr.sliceBounds, Instr.sliceBound, asIntOf, Sem.run_bind, run_underlying ht, run_sizeOf' hsz]
  split <;> rfl
theorem of_slicePF {β : Type} {τA : Ty β} {τ : Ty α} {v : Value} {x : β} {xs : List α} (i : Nat) {t e : TypeId} {len : Nat} {y z : Operand} {ky : IntKind} {l : Int} (h0 : 0 ≤ l) (h1 : l ≤ xs.length) (hL : ∀ {Z w cs}, τA.rep Z w cs x → RepL τ Z w cs xs) (hlen : xs.length = len) (hmx : Nat.ble xs.length 100000 = true) (hi : m.fz[i]? = some (fPtr τA v x)) (hx : ev S y = some v) (hz : ev S z = some (.int ky l)) (ht : P.underlying t = some (.array len e)) (hsz : szOf P e = some τ.size) (ho : o.op = .slice t y (some z) none none) : OpF P o n m S (fun u => fDat (tyList τ) [u] (xs.drop l.toNat)) := fun w a hm hs => by
  obtain ⟨ad, rfl, hr⟩ := ptr_list hi hL hmx hm
  have hsd := slice_dat (l := l.toNat) (h := xs.length) hr (by omega) (Nat.le_refl _)
  rw [List.take_length] at hsd
  refine ⟨_, ?_, hsd⟩
  subst hlen
  unfold execOp
  simp only [ho, hs.ev hx, hs.ev hz, Option.map_none, Option.map_some]
  simp [Instr.sliceAt, Instr.sureAddr, Instr.sliceBounds, Instr.sliceBound, asIntOf, Sem.run_bind, run_underlying ht, run_sizeOf' hsz, h0, h1]
  split <;> rfl
theorem of_slicePT {β : Type} {τA : Ty β} {τ : Ty α} {v : Value} {x : β} {xs : List α} (i : Nat) {t e : TypeId} {len : Nat} {y z : Operand} {ky : IntKind} {l : Int} (h0 : 0 ≤ l) (h1 : l ≤ xs.length) (hL : ∀ {Z w cs}, τA.rep Z w cs x → RepL τ Z w cs xs) (hlen : xs.length = len) (hmx : Nat.ble xs.length 100000 = true) (hi : m.fz[i]? = some (fPtr τA v x)) (hx : ev S y = some v) (hz : ev S z = some (.int ky l)) (ht : P.underlying t = some (.array len e)) (hsz : szOf P e = some τ.size) (ho : o.op = .slice t y none (some z) none) : OpF P o n m S (fun u => fDat (tyList τ) [u] (xs.take l.toNat)) := fun w a hm hs => by
  obtain ⟨ad, rfl, hr⟩ := ptr_list hi hL hmx hm
  have hsd := slice_dat (l := 0) (h := l.toNat) hr (by omega) (by omega)
  rw [List.drop_zero] at hsd
  refine ⟨_, ?_, hsd⟩
  subst hlen
  unfold execOp
  simp only [ho, hs.ev hx, hs.ev hz, Option.map_none, Option.map_some]
  simp [Instr.sliceAt, Instr.sureAddr, Instr.sliceBounds, Instr.sliceBound, asIntOf, Sem.run_bind, run_underlying ht, run_sizeOf' hsz, h0, h1]
  split <;> rfl
theorem al_of {d : Nat} {R : Value → Fact} (hv : OpF P o n m S R) (h : ∀ v, AL P ops rest Q n (m.add (R v)) (put S d v)) (hdd : o.dst = some d := by rfl) (hd : Nat.blt d n = true := by rfl) (hg : wantS ops S o true = true := by rfl) : AL P ops (o :: rest) Q n m S := al_fact hv h hdd hd hg
/-- an element of an array that is data -/
theorem of_idxPA {β : Type} {τA : Ty β} {τ : Ty α} {v : Value} {x : β} {xs : List α} (i : Nat) {t e : TypeId} {len : Nat} {y z : Operand} {k : IntKind} {j : Int} {u : α} (hu : at? xs j = some u) (hL : ∀ {Z w cs}, τA.rep Z w cs x → RepL τ Z w cs xs) (hlen : xs.length = len) (hi : m.fz[i]? = some (fPtr τA v x)) (hx : ev S y = some v) (hz : ev S z = some (.int k j)) (ht : P.underlying t = some (.array len e)) (hsz : szOf P e = some τ.size) (ho : o.op = .indexAddr t y z) : OpF P o n m S (fun p => fPtr τ p u) := fun w a hm hs => by
  obtain ⟨h0, h1, h2⟩ := at_some hu
  obtain ⟨ad, cs, rfl, hca, hrep⟩ := fz_at hm hi
  subst hlen
  refine ⟨.pointer (some (ad.add (j.toNat * τ.size))), ?_, _, _, rfl, (hca.drop (j.toNat * τ.size)).take τ.size, (hL hrep).at h2⟩
  unfold execOp
  simp only [ho, hs.ev hx, hs.ev hz]
  simp [Instr.indexAt, asIntOf, Sem.run_bind, run_underlying ht, Instr.sureAddr, h0, h1, run_sizeOf' hsz]
theorem ov_min3 {x y z : Operand} {tys : Array TypeId} {k : IntKind} {p q r : Int} (ho : o.op = .call { callee := .builtin .min, args := #[x, y, z], argTypes := tys }) (hx : ev S x = some (.int k p)) (hy : ev S y = some (.int k q)) (hz : ev S z = some (.int k r)) : OpV P o n m S (.int k (if r < (if q < p then q else p) then r else (if q < p then q else p))) := fun w a _ hs => by
  unfold execOp
  simp [ho, resolve, invoke, builtin, hs.ev hx, hs.ev hy, hs.ev hz, Builtin.min_, Builtin.min2]
theorem ov_max3 {x y z : Operand} {tys : Array TypeId} {k : IntKind} {p q r : Int} (ho : o.op = .call { callee := .builtin .max, args := #[x, y, z], argTypes := tys }) (hx : ev S x = some (.int k p)) (hy : ev S y = some (.int k q)) (hz : ev S z = some (.int k r)) : OpV P o n m S (.int k (if r > (if q > p then q else p) then r else (if q > p then q else p))) := fun w a _ hs => by
  unfold execOp
  simp [ho, resolve, invoke, builtin, hs.ev hx, hs.ev hy, hs.ev hz, Builtin.max_, Builtin.max2]
theorem ov_fieldA {t : TypeId} {x : Operand} {j g off k p : Nat} {fs : Array Field} {f : Field} (hx : ev S x = some (ptr g off)) (hu : P.underlying t = some (.struct fs)) (hf : fs[j]? = some f) (hk : szOf P f.type = some k) (hk0 : Nat.beq k 0 = false) (ho : o.op = .fieldAddr t x j) (hp : off + f.offset = p) : OpV P o n m S (ptr g p) := by
  subst hp; exact ov_fieldAddr hx hu hf hk hk0 ho
theorem co_app {l r : List Value} (h : ∀ u ∈ l, u.oneCell' = true) (hr : CO m r) : CO m (l ++ r) := fun hm u hu => by
  rcases List.mem_append.1 hu with hu | hu
  · exact h u hu
  · exact hr hm u hu
theorem co_all {l : List Value} (h : ∀ u ∈ l, u.oneCell' = true) : CO m l := fun _ => h
theorem ones_map {enc : α → Value} {xs : List α} (h : ∀ x, (enc x).oneCell' = true) : ∀ u ∈ xs.map enc, u.oneCell' = true := fun u hu => by
  obtain ⟨x, _, rfl⟩ := List.mem_map.1 hu; exact h x
theorem u8_val {x : Int} (h : 0 ≤ x ∧ x ≤ 255) : Value.int .u8 x = Value.int .u8 ((UInt8.ofNat x.toNat).toNat : Int) := by
  have : ((UInt8.ofNat x.toNat).toNat : Int) = x := by rw [UInt8.toNat_ofNat']; omega
  rw [this]
end
end Go.Proofs.YtfhifdmbdkkgaaaDoor.En
