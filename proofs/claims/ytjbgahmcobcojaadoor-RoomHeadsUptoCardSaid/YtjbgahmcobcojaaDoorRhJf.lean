/- Records with checksums: the code and the reference agree. No condition. -/
import Derived.Test.YtjbgahmcobcojaaDoorRhMix
import Derived.Test.YtjbgahmcobcojaaDoorRhPut
namespace Go.Proofs.YtjbgahmcobcojaaDoor.PRoomHeads
open Go.RowKit YtjbgahmcobcojaaDoor.En YtjbgahmcobcojaaDoor Num Mix PPut
open Go.Lib hiding cut
set_option linter.unusedVariables false
set_option linter.unusedSimpArgs false
namespace JF
def IdF (F : List UInt8 → A8u8) : Prop := ∀ (fu : Nat) (s : List UInt8), 65 ≤ fu → s.length < fu → s.length ≤ 9223372036854775800 → f_mix_ID fu s = some (F s) ∧ f_lumref_ID fu s = some (F s)
theorem id_ex : ∃ F, IdF F := ⟨MX.idOf, fun fu s h1 h2 h3 => ⟨MX.mID_ok fu s h2 (by omega), MX.rID_ok fu s h1 h2 h3⟩⟩
/-! a number is written in one way only -/
theorem beFrom_ge : ∀ (l : List UInt8) (acc : Nat), acc ≤ beFrom acc l
  | [], acc => Nat.le_refl _
  | b :: l, acc => by
    have := beFrom_ge l (acc * 256 + b.toNat)
    show acc ≤ beFrom (acc * 256 + b.toNat) l
    omega
theorem be_pos {b : UInt8} {t : List UInt8} (h : b ≠ 0) : 0 < beNat (b :: t) := by
  have h1 := beFrom_ge t (0 * 256 + b.toNat)
  have h2 : b.toNat ≠ 0 := fun e => h (UInt8.toNat_inj.1 (by rw [e]; rfl))
  show 0 < beFrom (0 * 256 + b.toNat) t
  omega
theorem digF_be : ∀ (k : Nat) (d : List UInt8), d.length ≤ k → d.take 1 ≠ [0] → digF k (beNat d) = d
  | 0, d, hl, _ => by
    have : d = [] := List.eq_nil_of_length_eq_zero (by omega)
    subst this; rfl
  | k + 1, d, hl, hz => by
    by_cases hd : d = []
    · subst hd; rfl
    have hpos : 0 < beNat d := by
      match d, hd, hz with
      | b :: t, _, hz => exact be_pos (fun e => hz (by rw [e]; rfl))
    obtain ⟨d', b, rfl⟩ : ∃ d' b, d = d' ++ [b] := ⟨d.dropLast, d.getLast hd, (List.dropLast_concat_getLast hd).symm⟩
    have hb := b.toNat_lt
    rw [beNat_snoc] at hpos ⊢
    unfold digF
    rw [if_neg (by omega), show (beNat d' * 256 + b.toNat) / 256 = beNat d' by omega, show (beNat d' * 256 + b.toNat) % 256 = b.toNat by omega]
    have hl' : d'.length ≤ k := by rw [List.length_append, List.length_singleton] at hl; omega
    have hz' : d'.take 1 ≠ [0] := by
      intro e
      apply hz
      cases d' with
      | nil => cases e
      | cons c t =>
        show [c] = [0]
        exact e
    rw [digF_be k d' hl' hz']
    congr 1
    exact congrArg (fun x => [x]) UInt8.ofNat_toNat
theorem putV_len (n : Nat) : (putV n).length ≤ 9 ∧ 1 ≤ (putV n).length := by
  have := digF_len 8 n
  unfold putV
  rw [List.length_cons]
  omega
theorem getV_canon (s : List UInt8) (h : (getV s).2.2 = 0) : ∃ n k : Nat, getV s = ((n : Int), (k : Int), 0) ∧ k ≤ s.length ∧ s.take k = putV n ∧ n < 18446744073709551616 ∧ 1 ≤ k ∧ k ≤ 9 := by
  cases s with
  | nil => cases h
  | cons b t =>
    rw [getV_cons] at h ⊢
    split at h
    · cases h
    · split at h
      · cases h
      · split at h
        · cases h
        · rename_i h1 h2 h3
          rw [if_neg h1, if_neg h2, if_neg h3]
          have hl : (t.take b.toNat).length = b.toNat := by rw [List.length_take]; omega
          refine ⟨_, _, rfl, by rw [List.length_cons]; omega, ?_, ?_, by omega, by omega⟩
          · rw [Nat.add_comm, List.take_succ_cons]
            unfold putV
            rw [digF_be 8 _ (by omega) h3, hl, UInt8.ofNat_toNat]
          · have := beNat_lt' (l := t.take b.toNat) (k := 8) (by omega)
            rw [p8] at this; exact this
/-! frames -/
def frameV (F : List UInt8 → A8u8) (s : List UInt8) : List UInt8 := (putV s.length ++ s) ++ lA8u8 (F (putV s.length ++ s))
theorem l8 (x : A8u8) : (lA8u8 x).length = 8 := rfl
theorem frameV_len (F : List UInt8 → A8u8) (s : List UInt8) : (frameV F s).length = (putV s.length).length + s.length + 8 := by
  unfold frameV; rw [List.length_append, List.length_append, l8]
theorem frame_ok {F : List UInt8 → A8u8} (hF : IdF F) (fu : Nat) (hfu : 6000 ≤ fu) (s : List UInt8) (hs : s.length ≤ 4096) : f_journal_Frame fu s = some (frameV F s, 0) := by
  have hp := putV_len s.length
  unfold f_journal_Frame
  rw [cond_ff (decide_eq_false (by omega)), uw (n := s.length) (by omega), put_ok s.length (by omega) fu, opt_of, req_pos (by omega), (hF fu (putV s.length ++ s) (by omega) (by rw [List.length_append]; omega) (by rw [List.length_append]; omega)).1, opt_of, req_pos (by rw [List.length_append, l8]; omega)]
  rfl
theorem frame_large (fu : Nat) (s : List UInt8) (hs : 4096 < s.length) : f_journal_Frame fu s = some ([], 2) := by
  unfold f_journal_Frame
  rw [cond_tt (decide_eq_true (by omega))]
theorem rframe_ok {F : List UInt8 → A8u8} (hF : IdF F) (fu : Nat) (hfu : 6000 ≤ fu) (s : List UInt8) (hs : s.length ≤ 4096) : f_lumref_Frame fu s = some (frameV F s) := by
  have hp := putV_len s.length
  unfold f_lumref_Frame
  rw [uw (n := s.length) (by omega), rput_ok s.length (by omega) fu (by omega), opt_of, req_pos (by omega), (hF fu (putV s.length ++ s) (by omega) (by rw [List.length_append]; omega) (by rw [List.length_append]; omega)).2, opt_of, req_pos (by rw [List.length_append, l8]; omega)]
  rfl
/-! records at the front -/
theorem cut_nat (s : List UInt8) (a b : Nat) : cut s (a : Int) (b : Int) = (s.take b).drop a := by unfold cut; rw [Int.toNat_natCast, Int.toNat_natCast]
theorem lof {l : List UInt8} (h : l.length = 8) : lA8u8 (ofA8u8 l) = l := MX.lof h
theorem of_l (x : A8u8) : ofA8u8 (lA8u8 x) = x := rfl
theorem sum_eq (X : A8u8) (l : List UInt8) (h : l.length = 8) : (X == ofA8u8 l) = (l == lA8u8 X) := by
  rw [Bool.eq_iff_iff, beq_iff_eq, beq_iff_eq]
  constructor
  · rintro rfl; exact (lof h).symm
  · rintro rfl; exact (of_l X).symm
theorem take_split (s : List UInt8) (e : Nat) (f : List UInt8) (hf : f.length = 8) : (s.take (e + 8) == s.take e ++ f) = ((s.take (e + 8)).drop e == f) := by
  have h : s.take (e + 8) = s.take e ++ (s.take (e + 8)).drop e := by
    have := (List.take_append_drop e (s.take (e + 8))).symm
    rw [List.take_take, Nat.min_eq_left (by omega)] at this
    exact this
  rw [Bool.eq_iff_iff, beq_iff_eq, beq_iff_eq]
  constructor
  · intro h2; rw [h2, List.drop_append]
    by_cases hl : e ≤ s.length
    · rw [List.length_take, Nat.min_eq_left hl, List.drop_of_length_le (by rw [List.length_take]; omega), Nat.sub_self]; rfl
    · exfalso
      have := congrArg List.length h2
      rw [List.length_take, List.length_append, List.length_take] at this
      omega
  · intro h2; rw [h2] at h; exact h
theorem scan_ok {F : List UInt8 → A8u8} (hF : IdF F) (a : List UInt8) (ha : a.length ≤ 1048576) (fu : Nat) (hfu : 2000000 ≤ fu) : ∀ (d at_ : Nat) (out : List (List UInt8)) (k q : Nat), at_ ≤ a.length → a.length - at_ ≤ d → d < k → d + 6000 < q → out.length + (a.length - at_) ≤ 1048576 →
    ∃ (l : List (List UInt8)) (m : Nat), f_lumref_Scan q (a.drop at_) = some (l, (m : Int)) ∧ f_journal_Scan_L3 a fu k out (at_ : Int) = some (out ++ l, ((at_ + m : Nat) : Int)) ∧ l.length ≤ a.length - at_ ∧ m ≤ a.length - at_ ∧ ∀ t ∈ l, t.length ≤ 4096 := by
  intro d
  induction d with
  | zero =>
    intro at_ out k q h1 h2 h3 h4 h5
    obtain ⟨k, rfl⟩ : ∃ k', k = k' + 1 := ⟨k - 1, by omega⟩
    obtain ⟨q, rfl⟩ : ∃ q', q = q' + 1 := ⟨q - 1, by omega⟩
    have hn : a.drop at_ = [] := List.drop_of_length_le (by omega)
    refine ⟨[], 0, ?_, ?_, by simp, by omega, by simp⟩
    · rw [hn, f_lumref_Scan, rget_ok [] q (by omega), opt_of, lt_of]; rfl
    · rw [f_journal_Scan_L3, req_pos ⟨by omega, by omega⟩, Int.toNat_natCast, hn, get_ok [] fu (by omega), opt_of, lt_of]
      show some (out, (at_ : Int)) = _
      rw [List.append_nil]; rfl
  | succ d ih =>
    intro at_ out k q h1 h2 h3 h4 h5
    obtain ⟨k, rfl⟩ : ∃ k', k = k' + 1 := ⟨k - 1, by omega⟩
    obtain ⟨q, rfl⟩ : ∃ q', q = q' + 1 := ⟨q - 1, by omega⟩
    obtain ⟨s, hs⟩ : ∃ s, s = a.drop at_ := ⟨_, rfl⟩
    have hsl : s.length = a.length - at_ := by rw [hs, List.length_drop]
    have stop1 : ∀ X : Option (List (List UInt8) × Int), X = some (out, (at_ : Int)) → X = some (out ++ [], ((at_ + 0 : Nat) : Int)) := by
      intro X hX; rw [hX, List.append_nil, Nat.add_zero]
    rw [f_journal_Scan_L3, req_pos ⟨by omega, by omega⟩, Int.toNat_natCast, ← hs, get_ok s fu (by omega), opt_of, f_lumref_Scan, rget_ok s q (by omega), opt_of]
    by_cases he : (getV s).2.2 = 0
    · obtain ⟨n, j, hg, hj, hput, hn, hj1, hj9⟩ := getV_canon s he
      rw [hg]
      simp only [lt_of]
      have z0 : ((0 : Int) != 0) = false := rfl
      by_cases hbig : n > 4096
      · rw [cond_ff z0, decide_eq_true (show ((n : Nat) : Int) > 4096 by omega), cond_tt rfl, cond_ff z0, cond_tt rfl, cond_tt rfl]
        exact ⟨[], 0, rfl, stop1 _ rfl, by simp, by omega, by simp⟩
      · have ew : IntKind.i64.wrap (((j : Nat) : Int) + (IntKind.i64.wrap ((n : Nat) : Int))) = ((j + n : Nat) : Int) := by rw [iw (by omega), ← Int.natCast_add, iw (by omega)]
        have ew8 : IntKind.i64.wrap (((j + n : Nat) : Int) + (8 : Int)) = ((j + n + 8 : Nat) : Int) := by
          rw [show ((j + n : Nat) : Int) + (8 : Int) = ((j + n + 8 : Nat) : Int) from by omega, iw (by omega)]
        have el : IntKind.u64.wrap (IntKind.i64.wrap ((s.length : Int) - ((j : Nat) : Int))) = ((s.length - j : Nat) : Int) := by
          rw [show (s.length : Int) - ((j : Nat) : Int) = ((s.length - j : Nat) : Int) from by omega, iw (by omega), uw (by omega)]
        rw [ew, ew8, el]
        rw [cond_ff z0, decide_eq_false (show ¬ ((n : Nat) : Int) > 4096 by omega), cond_ff rfl, cond_ff z0, cond_ff rfl]
        by_cases hshort : s.length - j < n
        · rw [decide_eq_true (show ((s.length - j : Nat) : Int) < ((n : Nat) : Int) by omega), cond_tt rfl, decide_eq_true (show ((s.length : Nat) : Int) < ((j + n + 8 : Nat) : Int) by omega), cond_tt rfl, cond_tt rfl]
          exact ⟨[], 0, rfl, stop1 _ rfl, by simp, by omega, by simp⟩
        · rw [decide_eq_false (show ¬ ((s.length - j : Nat) : Int) < ((n : Nat) : Int) by omega), cond_ff rfl]
          obtain ⟨t, ht⟩ : ∃ t, t = (s.take (j + n)).drop j := ⟨_, rfl⟩
          have htl : t.length = n := by rw [ht, List.length_drop, List.length_take]; omega
          have hpt : putV t.length ++ t = s.take (j + n) := by
            rw [htl, ← hput, ht]
            have := List.take_append_drop j (s.take (j + n))
            rw [List.take_take, Nat.min_eq_left (by omega)] at this
            exact this
          have hfr : frameV F t = s.take (j + n) ++ lA8u8 (F (s.take (j + n))) := by unfold frameV; rw [hpt]
          have hfl : (frameV F t).length = j + n + 8 := by rw [hfr, List.length_append, l8, List.length_take]; omega
          rw [cut_nat, ← ht, req_pos ⟨by omega, by omega, by omega⟩, rframe_ok hF q (by omega) t (by omega), opt_of, hfl]
          by_cases hs8 : s.length < j + n + 8
          · rw [decide_eq_true (show ((s.length : Nat) : Int) < ((j + n + 8 : Nat) : Int) by omega), cond_tt rfl, cond_tt rfl, cond_tt rfl]
            exact ⟨[], 0, rfl, stop1 _ rfl, by simp, by omega, by simp⟩
          · have hcl : ((s.take (j + n + 8)).drop (j + n)).length = 8 := by rw [List.length_drop, List.length_take]; omega
            rw [decide_eq_false (show ¬ ((s.length : Nat) : Int) < ((j + n + 8 : Nat) : Int) by omega), cond_ff rfl, cond_ff rfl, cut_nat]
            rw [req_pos (by omega), req_pos (by omega), req_pos (by omega), req_pos (by omega), req_pos (by omega), req_pos (by omega), Int.toNat_natCast, Int.toNat_natCast]
            rw [(hF fu (s.take (j + n)) (by omega) (by rw [List.length_take]; omega) (by rw [List.length_take]; omega)).1, opt_of, sum_eq _ _ hcl]
            rw [hfr, take_split s (j + n) _ (l8 _)]
            cases hc : ((s.take (j + n + 8)).drop (j + n) == lA8u8 (F (s.take (j + n))))
            · rw [show (!false) = true from rfl, cond_tt rfl, cond_tt rfl]
              exact ⟨[], 0, rfl, stop1 _ rfl, by simp, by omega, by simp⟩
            · rw [show (!true) = false from rfl, cond_ff rfl, cond_ff rfl]
              rw [req_pos (by omega), req_pos ⟨by rw [List.length_singleton]; omega, by rw [List.length_singleton]; omega⟩]
              rw [← Int.natCast_add, iw (by omega)]
              obtain ⟨l, m, g1, g2, g3, g4, g5⟩ := ih (at_ + (j + n + 8)) (out ++ [t]) k q (by omega) (by omega) (by omega) (by omega) (by rw [List.length_append, List.length_singleton]; omega)
              have hdd : s.drop (j + n + 8) = a.drop (at_ + (j + n + 8)) := by rw [hs, List.drop_drop]
              rw [hdd, g1, opt_of]
              dsimp only
              rw [req_pos ⟨by rw [List.length_singleton]; omega, by rw [List.length_singleton]; omega⟩, g2]
              refine ⟨[t] ++ l, j + n + 8 + m, ?_, ?_, ?_, ?_, ?_⟩
              · rw [← Int.natCast_add, iw (by omega)]
              · rw [List.append_assoc, Nat.add_assoc]
              · rw [List.length_append, List.length_singleton]; omega
              · omega
              · intro t' ht'
                rcases List.mem_append.1 ht' with h | h
                · rw [List.mem_singleton.1 h]; omega
                · exact g5 t' h
    · have z1 : ((getV s).2.2 != 0) = true := by simpa using he
      simp only [lt_of]
      rw [cond_tt z1, cond_tt z1, cond_tt rfl, cond_tt rfl]
      exact ⟨[], 0, rfl, stop1 _ rfl, by simp, by omega, by simp⟩
theorem scans_ok {F : List UInt8 → A8u8} (hF : IdF F) (a : List UInt8) (ha : a.length ≤ 1048576) (fu : Nat) (hfu : 2000000 ≤ fu) : ∃ (l : List (List UInt8)) (m : Nat), f_lumref_Scan fu a = some (l, (m : Int)) ∧ f_journal_Scan fu a = some (l, (m : Int)) ∧ l.length ≤ a.length ∧ m ≤ a.length ∧ ∀ t ∈ l, t.length ≤ 4096 := by
  obtain ⟨l, m, h1, h2, h3, h4, h5⟩ := scan_ok hF a ha fu hfu a.length 0 [] fu fu (by omega) (by omega) (by omega) (by omega) (by simp; omega)
  rw [List.drop_zero] at h1
  refine ⟨l, m, h1, ?_, by omega, by omega, h5⟩
  unfold f_journal_Scan
  rw [Nat.zero_add] at h2
  exact h2
end JF
end Go.Proofs.YtjbgahmcobcojaaDoor.PRoomHeads
