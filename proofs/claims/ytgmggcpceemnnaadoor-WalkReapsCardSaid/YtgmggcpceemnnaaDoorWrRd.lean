/- The reader of a directory and the reference's: TreeReads. No condition. -/
import Derived.Test.YtgmggcpceemnnaaDoorWWalkReaps
import Derived.Test.YtgmggcpceemnnaaDoorWrNum
import Derived.Test.YtgmggcpceemnnaaDoorWrInt
import Derived.Test.YtgmggcpceemnnaaDoorWrText
namespace Go.Proofs.YtgmggcpceemnnaaDoor.PTreeRd
open Go.RowKit YtgmggcpceemnnaaDoor.En YtgmggcpceemnnaaDoor Num Go.Lib
set_option linter.unusedVariables false
set_option linter.unusedSimpArgs false
abbrev R := S_tree_reader
variable {F0 : Nat}
theorem fail0 (fu : Nat) (s : List UInt8) (e : Int) : f___tree_reader__fail fu ⟨s, 0⟩ e = some ⟨s, e⟩ := rfl
theorem fail1 {e0 : Int} (h : e0 ≠ 0) (fu : Nat) (s : List UInt8) (e : Int) : f___tree_reader__fail fu ⟨s, e0⟩ e = some ⟨s, e0⟩ := by
  unfold f___tree_reader__fail
  rw [cond_ff (beq_eq_false_iff_ne.2 h)]
theorem getV_b (s : List UInt8) (h : (PTreeNum.getV s).2.2 = 0) : ∃ v k : Nat, PTreeNum.getV s = ((v : Int), (k : Int), 0) ∧ k ≤ s.length := by
  cases s with
  | nil => cases h
  | cons b t =>
    rw [PTreeNum.getV_cons] at h ⊢
    split at h
    · cases h
    · split at h
      · cases h
      · split at h
        · cases h
        · rename_i h1 h2 h3
          rw [if_neg h1, if_neg h2, if_neg h3]
          exact ⟨_, _, rfl, by rw [List.length_cons]; omega⟩
theorem goI_b (neg : Bool) (t : List UInt8) (k : Nat) (h : (PTreeInt.goI neg t k).2.2 = 0) : (PTreeInt.goI neg t k).2.1 = ((1 + k : Nat) : Int) ∧ k ≤ t.length := by
  unfold PTreeInt.goI at h ⊢
  split at h
  · cases h
  · split at h
    · cases h
    · rename_i h1 h2
      rw [if_neg h1, if_neg h2]
      refine ⟨?_, by omega⟩
      unfold PTreeInt.ends at h ⊢
      split at h
      · cases h
      · rename_i h3
        rw [if_neg h3]
theorem getI_b (s : List UInt8) (h : (PTreeInt.getI s).2.2 = 0) : ∃ k : Nat, (PTreeInt.getI s).2.1 = (k : Int) ∧ k ≤ s.length := by
  cases s with
  | nil => cases h
  | cons b t =>
    have e : PTreeInt.getI (b :: t) = if b.toNat < 128 then PTreeInt.goI true t (127 - b.toNat) else PTreeInt.goI false t (b.toNat - 128) := rfl
    rw [e] at h ⊢
    split at h
    · rename_i h1
      rw [if_pos h1]
      have := goI_b _ _ _ h
      exact ⟨_, this.1, by rw [List.length_cons]; omega⟩
    · rename_i h1
      rw [if_neg h1]
      have := goI_b _ _ _ h
      exact ⟨_, this.1, by rw [List.length_cons]; omega⟩
def numV (s : List UInt8) (m : Int) : Int × List UInt8 × Int := if (PTreeNum.getV s).2.2 ≠ 0 then (0, [], (PTreeNum.getV s).2.2) else if (PTreeNum.getV s).1 > m then (0, [], 2) else ((PTreeNum.getV s).1, s.drop (PTreeNum.getV s).2.1.toNat, 0)
theorem numberAt_ok [NeZero (F0 / 2000000)] (s : List UInt8) (m : Int) (hm : m ≤ 4096) : f_lumref_numberAt F0 s m = some (numV s m) := by
  unfold f_lumref_numberAt numV
  rw [PTreeNum.rget_ok s F0 (by have hbig := PTreeText.big (F0 := F0); omega), opt_of, lt_of, lt_of]
  by_cases h : (PTreeNum.getV s).2.2 = 0
  · obtain ⟨v, k, e, hk⟩ := getV_b s h
    rw [e, if_neg (by simp)]
    simp only
    by_cases h1 : (v : Int) > m
    · rw [if_pos h1, cond_tt (by rfl), decide_eq_true h1]; rfl
    · rw [if_neg h1, cond_tt (b := ((0 : Int) == 0)) (by rfl), decide_eq_false h1, cond_ff (b := false) rfl, cond_ff (by rfl), req_pos ⟨by omega, by omega⟩, w64 (by omega) (by omega)]
  · rw [cond_ff (beq_eq_false_iff_ne.2 h), if_pos h]
    simp only
    rw [cond_ff (b := false) rfl, cond_tt (by simpa using h)]
theorem number_good [NeZero (F0 / 2000000)] (s : List UInt8) (m : Int) (hm : m ≤ 4096) : f___tree_reader__number F0 ⟨s, 0⟩ m = some (if (numV s m).2.2 = 0 then ((numV s m).1, ⟨(numV s m).2.1, 0⟩) else (0, ⟨s, (numV s m).2.2⟩)) := by
  unfold f___tree_reader__number numV
  simp only
  rw [PTreeNum.get_ok s F0 (by have hbig := PTreeText.big (F0 := F0); omega), opt_of, fail0, opt_of, lt_of, lt_of]
  simp only
  by_cases h : (PTreeNum.getV s).2.2 = 0
  · obtain ⟨v, k, e, hk⟩ := getV_b s h
    rw [e, if_neg (show ¬ ((0 : Int) ≠ 0) by simp)]
    simp only
    by_cases h1 : (v : Int) > m
    · rw [if_pos h1, cond_tt (b := ((0 : Int) == 0)) (by rfl), decide_eq_true h1]; rfl
    · rw [if_neg h1, cond_tt (b := ((0 : Int) == 0)) (by rfl), decide_eq_false h1, cond_ff (b := false) rfl, cond_ff (by rfl), req_pos ⟨by omega, by omega⟩, w64 (by omega) (by omega)]; rfl
  · rw [cond_ff (beq_eq_false_iff_ne.2 h), if_pos h]
    simp only
    rw [cond_ff (b := false) rfl, cond_tt (by simpa using h), if_neg h]
theorem number_bad [NeZero (F0 / 2000000)] (s : List UInt8) {e : Int} (he : e ≠ 0) (m : Int) : f___tree_reader__number F0 ⟨s, e⟩ m = some (0, ⟨s, e⟩) := by
  unfold f___tree_reader__number
  simp only
  rw [PTreeNum.get_ok s F0 (by have hbig := PTreeText.big (F0 := F0); omega), opt_of, fail1 he, opt_of, lt_of, lt_of, cond_ff (beq_eq_false_iff_ne.2 he)]
  simp only
  rw [cond_ff (b := false) rfl, cond_tt (by simpa using he)]
theorem int_good [NeZero (F0 / 2000000)] (s : List UInt8) : f___tree_reader__integer F0 ⟨s, 0⟩ = some (if (PTreeInt.getI s).2.2 = 0 then ((PTreeInt.getI s).1, ⟨s.drop (PTreeInt.getI s).2.1.toNat, 0⟩) else (0, ⟨s, (PTreeInt.getI s).2.2⟩)) := by
  unfold f___tree_reader__integer
  simp only
  rw [PTreeInt.get_ok s F0 (by have hbig := PTreeText.big (F0 := F0); omega), opt_of, fail0, opt_of]
  by_cases h : (PTreeInt.getI s).2.2 = 0
  · obtain ⟨k, e, hk⟩ := getI_b s h
    rw [h, cond_ff (by rfl), if_pos rfl, req_pos ⟨by omega, by rw [e]; exact Int.ofNat_le.2 hk⟩]
  · rw [cond_tt (by simpa using h), if_neg h]
theorem int_bad [NeZero (F0 / 2000000)] (s : List UInt8) {e : Int} (he : e ≠ 0) : f___tree_reader__integer F0 ⟨s, e⟩ = some (0, ⟨s, e⟩) := by
  unfold f___tree_reader__integer
  simp only
  rw [PTreeInt.get_ok s F0 (by have hbig := PTreeText.big (F0 := F0); omega), opt_of, fail1 he, opt_of, cond_tt (by simpa using he)]
theorem text_good [NeZero (F0 / 2000000)] (s : List UInt8) (hs : s.length ≤ 9223372036854775807) : f___tree_reader__text F0 ⟨s, 0⟩ = some (if (PTreeText.txt F0 s).2.2 = 0 then ((PTreeText.txt F0 s).1, ⟨s.drop (PTreeText.txt F0 s).2.1.toNat, 0⟩) else ([], ⟨s, (PTreeText.txt F0 s).2.2⟩)) := by
  obtain ⟨h1, h2, h3, h4⟩ := PTreeText.txt_ok (F0 := F0) s hs
  unfold f___tree_reader__text
  simp only
  rw [h1, opt_of, fail0, opt_of]
  by_cases h : (PTreeText.txt F0 s).2.2 = 0
  · obtain ⟨k, e, hk⟩ := h4 h
    rw [h, cond_ff (by rfl), if_pos rfl, req_pos ⟨by omega, by rw [e]; exact Int.ofNat_le.2 hk⟩]
  · rw [cond_tt (by simpa using h), if_neg h]
theorem text_bad [NeZero (F0 / 2000000)] (s : List UInt8) (hs : s.length ≤ 9223372036854775807) {e : Int} (he : e ≠ 0) : f___tree_reader__text F0 ⟨s, e⟩ = some ([], ⟨s, e⟩) := by
  obtain ⟨h1, h2, h3, h4⟩ := PTreeText.txt_ok (F0 := F0) s hs
  unfold f___tree_reader__text
  simp only
  rw [h1, opt_of, fail1 he, opt_of, cond_tt (by simpa using he)]
theorem bytes_good (s : List UInt8) (hs : s.length ≤ 9223372036854775807) (n : Nat) (hn : n ≤ 8) (h : n ≤ s.length) : f___tree_reader__bytes F0 ⟨s, 0⟩ (n : Int) = some (s.take n, ⟨s.drop n, 0⟩) := by
  unfold f___tree_reader__bytes
  simp only
  rw [lt_of, cond_ff (dge (by omega))]
  simp only
  rw [cond_ff (by rfl), req_pos ⟨by omega, by omega⟩, Int.toNat_natCast, req_pos (by rw [List.length_take]; omega), req_pos ⟨by omega, by omega⟩]
theorem bytes_short (s : List UInt8) (n : Nat) (hn : n ≤ 8) (h : s.length < n) : f___tree_reader__bytes F0 ⟨s, 0⟩ (n : Int) = some (List.replicate n 0, ⟨s, 3⟩) := by
  unfold f___tree_reader__bytes
  simp only
  rw [lt_of, cond_tt (dlt (by omega)), fail0, opt_of]
  simp only
  rw [cond_tt (by rfl), req_pos ⟨by omega, by omega, by omega⟩, Int.toNat_natCast]
theorem bytes_bad (s : List UInt8) {e : Int} (he : e ≠ 0) (n : Nat) (hn : n ≤ 8) : f___tree_reader__bytes F0 ⟨s, e⟩ (n : Int) = some (List.replicate n 0, ⟨s, e⟩) := by
  unfold f___tree_reader__bytes
  simp only
  rw [lt_of, fail1 he, opt_of]
  simp only
  cases decide ((s.length : Int) < (n : Int)) with
  | true => rw [cond_tt rfl, cond_tt (by simpa using he), req_pos ⟨by omega, by omega, by omega⟩, Int.toNat_natCast]
  | false => rw [cond_ff rfl, cond_tt (by simpa using he), req_pos ⟨by omega, by omega, by omega⟩, Int.toNat_natCast]
/-! the pieces of a node -/
def ids : Nat → List UInt8 → List A8u8
  | 0, _ => []
  | c + 1, s => ofA8u8 (s.take 8) :: ids c (s.drop 8)
theorem ids_len : ∀ (c : Nat) (s : List UInt8), (ids c s).length = c
  | 0, _ => rfl
  | c + 1, s => by unfold ids; rw [List.length_cons, ids_len c]
theorem parts_end (kk : List UInt8 → Int → List A8u8 → Option (S_api_Node × S_tree_reader)) (r : Int × S_tree_reader) (f fu : Nat) (hfu : 0 < fu) (s : List UInt8) (e : Int) (xs : List A8u8) (j : Nat) (h : r.1 ≤ (j : Int)) : f___tree_reader__node_L25 kk r f fu s e xs (j : Int) = kk s e xs := by
  obtain ⟨k, rfl⟩ : ∃ k, fu = k + 1 := ⟨fu - 1, by omega⟩
  rw [f___tree_reader__node_L25, cond_ff (dge h)]
theorem parts_good [NeZero (F0 / 2000000)] (kk : List UInt8 → Int → List A8u8 → Option (S_api_Node × S_tree_reader)) (r : Int × S_tree_reader) : ∀ (d j fu : Nat) (s : List UInt8) (xs : List A8u8), r.1 = ((j + d : Nat) : Int) → j + d ≤ 300 → xs.length = j → 8 * d ≤ s.length → s.length ≤ 9223372036854775807 → d < fu →
    f___tree_reader__node_L25 kk r F0 fu s 0 xs (j : Int) = kk (s.drop (8 * d)) 0 (xs ++ ids d s)
  | 0, j, fu, s, xs, hr, hb, hx, hs, hl, hf => by
    rw [parts_end kk r F0 fu hf s 0 xs j (by have hbig := PTreeText.big (F0 := F0); omega)]
    simp [ids]
  | d + 1, j, fu + 1, s, xs, hr, hb, hx, hs, hl, hf => by
    rw [f___tree_reader__node_L25, cond_tt (dlt (by omega)), show (8 : Int) = ((8 : Nat) : Int) from rfl, bytes_good s hl 8 (by omega) (by omega), opt_of]
    simp only
    rw [req_pos (by rw [List.length_take]; omega), req_pos ⟨by rw [List.length_singleton]; omega, by rw [List.length_singleton]; omega⟩, wsucc (by omega)]
    rw [parts_good kk r d (j + 1) fu (s.drop 8) (xs ++ [ofA8u8 (s.take 8)]) (by rw [hr]; omega) (by omega) (by simp [hx]) (by rw [List.length_drop]; omega) (by rw [List.length_drop]; omega) (by omega)]
    rw [List.drop_drop, show 8 + 8 * d = 8 * (d + 1) by omega, List.append_assoc]; rfl
theorem parts_bad [NeZero (F0 / 2000000)] (kk : List UInt8 → Int → List A8u8 → Option (S_api_Node × S_tree_reader)) (r : Int × S_tree_reader) {e : Int} (he : e ≠ 0) : ∀ (d j fu : Nat) (s : List UInt8) (xs : List A8u8), r.1 = ((j + d : Nat) : Int) → j + d ≤ 300 → xs.length = j → d < fu →
    ∃ ys, f___tree_reader__node_L25 kk r F0 fu s e xs (j : Int) = kk s e ys
  | 0, j, fu, s, xs, hr, hb, hx, hf => ⟨xs, parts_end kk r F0 fu hf s e xs j (by have hbig := PTreeText.big (F0 := F0); omega)⟩
  | d + 1, j, fu + 1, s, xs, hr, hb, hx, hf => by
    rw [f___tree_reader__node_L25, cond_tt (dlt (by omega)), show (8 : Int) = ((8 : Nat) : Int) from rfl, bytes_bad s he 8 (by omega), opt_of]
    simp only
    rw [req_pos (by simp), req_pos ⟨by rw [List.length_singleton]; omega, by rw [List.length_singleton]; omega⟩, wsucc (by omega)]
    exact parts_bad kk r he d (j + 1) fu s _ (by rw [hr]; omega) (by omega) (by simp [hx]) (by omega)
theorem parts_short [NeZero (F0 / 2000000)] (kk : List UInt8 → Int → List A8u8 → Option (S_api_Node × S_tree_reader)) (r : Int × S_tree_reader) : ∀ (d j fu : Nat) (s : List UInt8) (xs : List A8u8), r.1 = ((j + d : Nat) : Int) → j + d ≤ 300 → xs.length = j → s.length < 8 * d → s.length ≤ 9223372036854775807 → d < fu →
    ∃ s' ys, f___tree_reader__node_L25 kk r F0 fu s 0 xs (j : Int) = kk s' 3 ys ∧ s'.length ≤ s.length
  | 0, j, fu, s, xs, hr, hb, hx, hs, hl, hf => by omega
  | d + 1, j, fu + 1, s, xs, hr, hb, hx, hs, hl, hf => by
    rw [f___tree_reader__node_L25, cond_tt (dlt (by omega)), show (8 : Int) = ((8 : Nat) : Int) from rfl]
    by_cases h8 : 8 ≤ s.length
    · rw [bytes_good s hl 8 (by omega) h8, opt_of]
      simp only
      rw [req_pos (by rw [List.length_take]; omega), req_pos ⟨by rw [List.length_singleton]; omega, by rw [List.length_singleton]; omega⟩, wsucc (by omega)]
      obtain ⟨s', ys, h, h'⟩ := parts_short kk r d (j + 1) fu (s.drop 8) (xs ++ [ofA8u8 (s.take 8)]) (by rw [hr]; omega) (by omega) (by simp [hx]) (by rw [List.length_drop]; omega) (by rw [List.length_drop]; omega) (by omega)
      exact ⟨s', ys, h, by rw [List.length_drop] at h'; omega⟩
    · rw [bytes_short s 8 (by omega) (by omega), opt_of]
      simp only
      rw [req_pos (by simp), req_pos ⟨by rw [List.length_singleton]; omega, by rw [List.length_singleton]; omega⟩, wsucc (by omega)]
      obtain ⟨ys, h⟩ := parts_bad (F0 := F0) kk r (e := 3) (by decide) d (j + 1) fu s (xs ++ [ofA8u8 (List.replicate 8 0)]) (by rw [hr]; omega) (by omega) (by simp [hx]) (by omega)
      exact ⟨s, ys, h, Nat.le_refl _⟩
theorem rparts_ok (kk : List UInt8 → List A8u8 → Option (S_api_Node × List UInt8 × Int)) (r : Int × List UInt8 × Int) : ∀ (d j fu : Nat) (s : List UInt8) (xs : List A8u8), r.1 = ((j + d : Nat) : Int) → j + d ≤ 300 → xs.length = j → 8 * d ≤ s.length → s.length ≤ 9223372036854775807 → d < fu →
    f_lumref_nodeRead_L32 r kk fu s xs (j : Int) = kk (s.drop (8 * d)) (xs ++ ids d s)
  | 0, j, fu + 1, s, xs, hr, hb, hx, hs, hl, hf => by
    rw [f_lumref_nodeRead_L32, cond_ff (dge (by omega))]
    simp [ids]
  | d + 1, j, fu + 1, s, xs, hr, hb, hx, hs, hl, hf => by
    have e8 : ((8 : Int)).toNat = 8 := rfl
    rw [f_lumref_nodeRead_L32, cond_tt (dlt (by omega)), e8, req_pos ⟨by omega, by omega⟩, req_pos (by rw [List.length_take]; omega), req_pos (by rw [List.length_take]; omega), req_pos ⟨by rw [List.length_singleton]; omega, by rw [List.length_singleton]; omega⟩, req_pos ⟨by omega, by omega⟩, wsucc (by omega)]
    rw [rparts_ok kk r d (j + 1) fu (s.drop 8) (xs ++ [ofA8u8 (s.take 8)]) (by rw [hr]; omega) (by omega) (by simp [hx]) (by rw [List.length_drop]; omega) (by rw [List.length_drop]; omega) (by omega)]
    rw [List.drop_drop, show 8 + 8 * d = 8 * (d + 1) by omega, List.append_assoc]; rfl
end Go.Proofs.YtgmggcpceemnnaaDoor.PTreeRd
