/- The trees and the bunches: the relation. No condition. -/
import Derived.Test.YtfhifdmbdkkgaaaHlLeast
namespace Go.Proofs.Ytfhifdmbdkkgaaa.PHl
open Go.RowKit Ytfhifdmbdkkgaaa.En Ytfhifdmbdkkgaaa Ytfhifdmbdkkgaaa.HeapM
set_option linter.unusedVariables false
set_option linter.unusedSimpArgs false
def sumW : List B → Int
  | [] => 0
  | b :: l => b.weight + sumW l
theorem sumW_perm {l m : List B} (h : l.Perm m) : sumW l = sumW m := by
  induction h with
  | nil => rfl
  | cons x _ ih => simp only [sumW, ih]
  | swap x y l => simp only [sumW]; omega
  | trans _ _ h1 h2 => rw [h1, h2]
/-- a tree and a bunch of the same signs, of n places -/
structure Mt (n : Nat) (t : T) (b : B) : Prop where
  w : t.weight = b.weight
  pos : 0 ≤ b.weight
  least : t.least = key b
  ne : b.signs ≠ []
  mem : ∀ x, x ∈ t.symbols ↔ x ∈ b.signs
  nd : t.symbols.Nodup
  min : ∀ x ∈ b.signs, key b ≤ x
  rng : ∀ x ∈ b.signs, 0 ≤ x ∧ x < (n : Int)
theorem key_mem {b : B} (h : b.signs ≠ []) : key b ∈ b.signs := by
  unfold key
  cases hb : b.signs with
  | nil => exact absurd hb h
  | cons a t => exact List.mem_cons_self
structure Rl (n : Nat) (ps : List (T × B)) (ts : List T) (bs : List B) : Prop where
  fst : (ps.map Prod.fst).Perm ts
  snd : (ps.map Prod.snd).Perm bs
  mt : ∀ p ∈ ps, Mt n p.1 p.2
  nd : (bs.flatMap (fun b => b.signs)).Nodup
  sum : sumW bs ≤ 1099511627776
theorem nd_perm {l m : List B} (h : l.Perm m) (hn : (l.flatMap (fun b => b.signs)).Nodup) : (m.flatMap (fun b => b.signs)).Nodup := (h.flatMap_right _).nodup_iff.1 hn
theorem sum_le : ∀ {l : List B} {b : B}, (∀ c ∈ l, 0 ≤ c.weight) → b ∈ l → b.weight ≤ sumW l
  | c :: l, b, h, hb => by
    have h0 : 0 ≤ sumW l := by
      have : ∀ l : List B, (∀ c ∈ l, 0 ≤ c.weight) → 0 ≤ sumW l := fun l => by
        induction l with
        | nil => intro _; exact Int.le_refl _
        | cons a l ih => intro h; have h1 := h a List.mem_cons_self; have h2 := ih fun c hc => h c (List.mem_cons_of_mem _ hc); simp only [sumW]; omega
      exact this l fun c hc => h c (List.mem_cons_of_mem _ hc)
    rcases List.mem_cons.1 hb with rfl | hb
    · simp only [sumW]; omega
    · have h1 := h c List.mem_cons_self
      have h2 := sum_le (fun c hc => h c (List.mem_cons_of_mem _ hc)) hb
      simp only [sumW]; omega
theorem Rl.bmem {n : Nat} {ps : List (T × B)} {ts : List T} {bs : List B} (h : Rl n ps ts bs) {b : B} (hb : b ∈ bs) : ∃ t, (t, b) ∈ ps ∧ t ∈ ts := by
  obtain ⟨p, hp, rfl⟩ := List.mem_map.1 (h.snd.mem_iff.2 hb)
  exact ⟨p.1, hp, h.fst.mem_iff.1 (List.mem_map.2 ⟨p, hp, rfl⟩)⟩
theorem Rl.tmem {n : Nat} {ps : List (T × B)} {ts : List T} {bs : List B} (h : Rl n ps ts bs) {t : T} (ht : t ∈ ts) : ∃ b, (t, b) ∈ ps ∧ b ∈ bs := by
  obtain ⟨p, hp, rfl⟩ := List.mem_map.1 (h.fst.mem_iff.2 ht)
  exact ⟨p.2, hp, h.snd.mem_iff.1 (List.mem_map.2 ⟨p, hp, rfl⟩)⟩
theorem Rl.ne {n : Nat} {ps : List (T × B)} {ts : List T} {bs : List B} (h : Rl n ps ts bs) : ∀ b ∈ bs, b.signs ≠ [] := fun b hb => by
  obtain ⟨t, h1, -⟩ := h.bmem hb; exact (h.mt _ h1).ne
theorem Rl.tb {n : Nat} (hn : n ≤ 1000) {ps : List (T × B)} {ts : List T} {bs : List B} (h : Rl n ps ts bs) : ∀ t ∈ ts, Tb t := fun t ht => by
  obtain ⟨b, h1, h2⟩ := h.tmem ht
  have hm := h.mt _ h1
  have hw := sum_le (l := bs) (fun c hc => by obtain ⟨u, h3, -⟩ := h.bmem hc; exact (h.mt _ h3).pos) h2
  have hs := h.sum
  have hr := hm.rng _ (key_mem hm.ne)
  have e1 := hm.w; have e2 := hm.least; have e3 := hm.pos
  dsimp only at e1 e2 e3 hr
  exact ⟨⟨by omega, by omega⟩, ⟨by omega, by omega⟩⟩
theorem Rl.len {n : Nat} {ps : List (T × B)} {ts : List T} {bs : List B} (h : Rl n ps ts bs) : ts.length = bs.length := by
  rw [← h.fst.length_eq, ← h.snd.length_eq, List.length_map, List.length_map]
/-- the smallest tree and the smallest bunch are a pair -/
theorem Rl.pop {n : Nat} {ps : List (T × B)} {ts ts' : List T} {bs bs' : List B} {t : T} {b : B} (h : Rl n ps ts bs) (ht : (t :: ts').Perm ts) (hb : (b :: bs').Perm bs) (htm : ∀ u ∈ ts, le t u) (hbm : ∀ c ∈ bs, leB b c) :
    ∃ ps', Mt n t b ∧ Rl n ps' ts' bs' ∧ ((b :: bs').flatMap (fun b => b.signs)).Nodup ∧ sumW (b :: bs') ≤ 1099511627776 := by
  have hbb := hb.mem_iff.1 (List.mem_cons_self (a := b) (l := bs'))
  have htt := ht.mem_iff.1 (List.mem_cons_self (a := t) (l := ts'))
  obtain ⟨c, hp, hc⟩ := h.tmem htt
  obtain ⟨u, hq, hu⟩ := h.bmem hbb
  have m1 := h.mt _ hp
  have m2 := h.mt _ hq
  have hbc : b = c := by
    have l1 := htm u hu
    have l2 := hbm c hc
    have a1 := m1.w; have a2 := m1.least; have a3 := m2.w; have a4 := m2.least
    dsimp only at a1 a2 a3 a4
    have hk : key b = key c := by unfold le at l1; unfold leB at l2; omega
    refine Classical.byContradiction fun hne => ?_
    have hc2 : c ∈ bs' := by
      rcases List.mem_cons.1 (hb.mem_iff.2 hc) with e | e
      · exact absurd e.symm hne
      · exact e
    have hnd := nd_perm hb.symm h.nd
    rw [List.flatMap_cons, List.nodup_append] at hnd
    exact hnd.2.2 (key b) (key_mem (h.ne b hbb)) (key c) (List.mem_flatMap.2 ⟨c, hc2, key_mem (h.ne c hc)⟩) hk
  subst hbc
  obtain ⟨s1, s2, rfl⟩ := List.mem_iff_append.1 hp
  have hpm : (s1 ++ (t, b) :: s2).Perm ((t, b) :: (s1 ++ s2)) := List.perm_middle
  have hS := sumW_perm hb
  refine ⟨s1 ++ s2, m1, ⟨?_, ?_, fun p hp' => h.mt p ?_, ?_, ?_⟩, nd_perm hb.symm h.nd, by rw [hS]; exact h.sum⟩
  · have := ((hpm.map Prod.fst).symm.trans h.fst).trans ht.symm
    rw [List.map_cons] at this
    exact this.cons_inv
  · have := ((hpm.map Prod.snd).symm.trans h.snd).trans hb.symm
    rw [List.map_cons] at this
    exact this.cons_inv
  · exact hpm.mem_iff.2 (List.mem_cons_of_mem _ hp')
  · have hnd := nd_perm hb.symm h.nd
    rw [List.flatMap_cons, List.nodup_append] at hnd
    exact hnd.2.1
  · have h1 := h.sum
    have h2 : 0 ≤ b.weight := m1.pos
    rw [← hS] at h1
    simp only [sumW] at h1
    omega
end Go.Proofs.Ytfhifdmbdkkgaaa.PHl
