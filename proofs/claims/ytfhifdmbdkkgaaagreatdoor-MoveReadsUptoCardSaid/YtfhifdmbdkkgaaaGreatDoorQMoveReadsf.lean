/- What MoveReads leans on, part 6. No condition. -/
import Derived.Test.YtfhifdmbdkkgaaaGreatDoorQMoveReadse
import Derived.Laws.BitsAllLaws
import Derived.Lib.Bytealg
import Derived.Lib.CountLaws
import Derived.Lib.IndexLaws
import Derived.Lib.IndexMore
import Derived.Lib.Join
namespace Go.Proofs.YtfhifdmbdkkgaaaGreatDoor.PTreeInt
open Go.RowKit YtfhifdmbdkkgaaaGreatDoor.En YtfhifdmbdkkgaaaGreatDoor Num
open Go.Lib hiding cut
set_option linter.unusedVariables false
set_option linter.unusedSimpArgs false
theorem iw {n : Nat} (h : n ≤ 9223372036854775807) : IntKind.i64.wrap (n : Int) = (n : Int) := w64 (by omega) (by omega)
theorem uw {n : Nat} (h : n < 18446744073709551616) : IntKind.u64.wrap (n : Int) = (n : Int) := by
  unfold IntKind.wrap
  simp [IntKind.signed, IntKind.bits]
  omega
theorem bAt_lt {s : List UInt8} {j : Nat} (h : j < s.length) : En.bAt s (j : Int) = ((s[j].toNat : Nat) : Int) := by
  unfold En.bAt
  rw [Int.toNat_natCast, List.getD_eq_getElem?_getD, List.getElem?_eq_getElem h]; rfl
theorem p8 : 256 ^ 8 = 18446744073709551616 := by decide
theorem p7 : 256 ^ 7 = 72057594037927936 := by decide
theorem value_go (s : List UInt8) (hs : s.length ≤ 8) (kk : Int → Option Int) : ∀ (d j fu : Nat), s.length - j = d → j ≤ s.length → d < fu →
    f_num_value_L5 s kk fu ((beNat (s.take j) : Nat) : Int) (j : Int) = kk ((beNat s : Nat) : Int)
  | 0, j, fu + 1, hd, hj, _ => by
    rw [f_num_value_L5, cond_ff (dge (by omega)), List.take_of_length_le (by omega)]
  | d + 1, j, fu + 1, hd, hj, hf => by
    have hlt : j < s.length := by omega
    have hl : (s.take j).length ≤ 7 := by rw [List.length_take]; omega
    have h7 := beNat_lt' hl
    rw [p7] at h7
    have hb := s[j].toNat_lt
    rw [f_num_value_L5, cond_tt (dlt (by omega)), req_pos ⟨by omega, by omega⟩, bAt_lt hlt, uw (n := s[j].toNat) (by omega), wsucc (by omega)]
    have e1 : ((beNat (s.take j) : Nat) : Int) * 2 ^ min ((8 : Int)).toNat (IntKind.bits .u64) = ((beNat (s.take j) * 2 ^ 8 : Nat) : Int) := shl_nat (m := 8) rfl (by decide)
    rw [e1, uw (by omega), u64_or_nat _ _ (by omega) (by omega)]
    have e2 : beNat (s.take j) * 2 ^ 8 ||| s[j].toNat = beNat (s.take (j + 1)) := by
      rw [beNat_take hlt, Nat.mul_comm _ (2 ^ 8), ← Nat.two_pow_add_eq_or_of_lt (i := 8) (by omega)]
    rw [e2]
    exact value_go s hs kk d (j + 1) fu (by omega) (by omega) (by omega)
theorem value_ok (s : List UInt8) (hs : s.length ≤ 8) (fu : Nat) (hf : 9 ≤ fu) : f_num_value fu s = some ((beNat s : Nat) : Int) := by
  unfold f_num_value
  rw [lt_of]
  exact value_go s hs _ s.length 0 fu (by omega) (by omega) (by omega)
theorem number_ok : ∀ (k : Nat) (s : List UInt8) (fu : Nat), s.length = k → k ≤ 8 → k < fu → f_lumref_number fu s = some ((beNat s : Nat) : Int)
  | 0, s, fu + 1, hk, _, _ => by
    have : s = [] := List.eq_nil_of_length_eq_zero hk
    subst this; rfl
  | k + 1, s, fu + 1, hk, h8, hf => by
    have hne : s ≠ [] := by rintro rfl; simp at hk
    have e : IntKind.i64.wrap ((s.length : Int) - (1 : Int)) = (k : Int) := by rw [w64 (by omega) (by omega)]; omega
    have hlk : k < s.length := by omega
    have ht : (s.take k).length = k := by rw [List.length_take]; omega
    have h7 := beNat_lt' (l := s.take k) (k := 7) (by omega)
    rw [p7] at h7
    have hb := s[k].toNat_lt
    rw [f_lumref_number, cond_ff (beq_eq_false_iff_ne.2 hne), e, req_pos ⟨by omega, by omega⟩, Int.toNat_natCast, number_ok k (s.take k) fu ht (by omega) (by omega), opt_of, req_pos ⟨by omega, by omega⟩, bAt_lt hlk]
    have e1 : (256 : Int) * ((beNat (s.take k) : Nat) : Int) = ((256 * beNat (s.take k) : Nat) : Int) := by omega
    rw [e1, uw (by omega), uw (n := s[k].toNat) (by omega)]
    have e2 : ((256 * beNat (s.take k) : Nat) : Int) + ((s[k].toNat : Nat) : Int) = ((beNat s : Nat) : Int) := by
      have := beNat_take hlk
      rw [List.take_of_length_le (by omega : s.length ≤ k + 1)] at this
      omega
    rw [e2, uw]
    have := beNat_lt' (l := s) (k := 8) (by omega)
    rw [p8] at this; exact this
theorem hp_ok (fu : Nat) (s : List UInt8) (c : UInt8) : f_strings_HasPrefix fu s [c] = some (decide (s.take 1 = [c])) := by
  unfold f_strings_HasPrefix f_stringslite_HasPrefix
  rw [lt_of]
  cases s with
  | nil => rfl
  | cons a t =>
    rw [cond_tt (decide_eq_true (by simp; omega)), req_pos ⟨by simp, by simp; omega⟩, opt_of]
    congr 1
    show (([a] : List UInt8) == [c]) = decide ([a] = [c])
    by_cases h : a = c
    · subst h; simp
    · simp [h]
theorem b0 (b : UInt8) (t : List UInt8) : En.bAt (b :: t) 0 = ((b.toNat : Nat) : Int) := rfl
theorem cut_k (b : UInt8) (t : List UInt8) (k : Nat) : cut (b :: t) 1 ((1 + k : Nat) : Int) = t.take k := by
  unfold cut
  rw [Int.toNat_natCast, Nat.add_comm]; rfl
def inv (b : UInt8) : UInt8 := UInt8.ofNat (255 - b.toNat)
theorem inv_nat (b : UInt8) : (inv b).toNat = 255 - b.toNat := by
  have := b.toNat_lt
  unfold inv; rw [UInt8.toNat_ofNat']; omega
theorem mid_len (s : List UInt8) {j : Nat} (h : j < s.length) : ((s.take j).map inv).length = j := by rw [List.length_map, List.length_take]; omega
theorem mid_at (s : List UInt8) {j : Nat} (h : j < s.length) : ((s.take j).map inv ++ s.drop j)[j]? = some s[j] := by
  have hl := mid_len s h
  rw [List.getElem?_append_right (by omega), hl, Nat.sub_self, List.getElem?_drop, Nat.add_zero, List.getElem?_eq_getElem h]
theorem mid_set (s : List UInt8) {j : Nat} (h : j < s.length) : ((s.take j).map inv ++ s.drop j).set j (inv s[j]) = (s.take (j + 1)).map inv ++ s.drop (j + 1) := by
  have hl := mid_len s h
  rw [List.set_append_right _ _ (by omega), hl, Nat.sub_self, List.drop_eq_getElem_cons h, ← List.take_append_getElem h, List.set_cons_zero, List.map_append, List.append_assoc]
  rfl
theorem xor_inv (b : UInt8) : bits .xor .u8 (if IntKind.signed .u8 then -1 else IntKind.max .u8) (b.toNat : Int) = (((inv b).toNat : Nat) : Int) := by
  have h : ∀ k : Fin 256, bits .xor .u8 (if IntKind.signed .u8 then -1 else IntKind.max .u8) ((k.val : Nat) : Int) = ((255 - k.val : Nat) : Int) := by decide +kernel
  have := h ⟨b.toNat, b.toNat_lt⟩
  rw [inv_nat]; exact this
theorem sub_inv (b : UInt8) : IntKind.u8.wrap ((255 : Int) - (b.toNat : Int)) = (((inv b).toNat : Nat) : Int) := by
  have := b.toNat_lt
  rw [inv_nat, show (255 : Int) - (b.toNat : Int) = ((255 - b.toNat : Nat) : Int) by omega, u8w_in (by omega)]
theorem turn_go (s : List UInt8) (hs : s.length ≤ 9223372036854775806) (kk : List UInt8 → Option (List UInt8)) : ∀ (d j fu : Nat), s.length - j = d → j ≤ s.length → d < fu →
    f_num_turned_L7 s kk fu ((s.take j).map inv ++ s.drop j) (j : Int) = kk (s.map inv)
  | 0, j, fu + 1, hd, hj, _ => by
    rw [f_num_turned_L7, cond_ff (dge (by omega)), List.take_of_length_le (by omega), List.drop_of_length_le (by omega), List.append_nil]
  | d + 1, j, fu + 1, hd, hj, hf => by
    have hlt : j < s.length := by omega
    have := (inv s[j]).toNat_lt
    rw [f_num_turned_L7, cond_tt (dlt (by omega)), at_of (mid_at s hlt), opt_of, opt_of, xor_inv, req_pos ⟨by omega, by omega⟩, wsucc (by omega), Int.toNat_natCast, Int.toNat_natCast, UInt8.ofNat_toNat, mid_set s hlt]
    exact turn_go s hs kk d (j + 1) fu (by omega) (by omega) (by omega)
theorem turn_ok (s : List UInt8) (hs : s.length ≤ 8) (fu : Nat) (hf : 9 ≤ fu) : f_num_turned fu s = some (s.map inv) := by
  unfold f_num_turned
  rw [req_pos (by omega), lt_of]
  exact turn_go s (by omega) _ s.length 0 fu (by omega) (by omega) (by omega)
theorem rturn_go (s : List UInt8) (hs : s.length ≤ 9223372036854775806) (kk : List UInt8 → Option (List UInt8)) : ∀ (d j fu : Nat), s.length - j = d → j ≤ s.length → d < fu →
    f_lumref_turned_L7 s kk fu ((s.take j).map inv ++ s.drop j) (j : Int) = kk (s.map inv)
  | 0, j, fu + 1, hd, hj, _ => by
    rw [f_lumref_turned_L7, cond_ff (dge (by omega)), List.take_of_length_le (by omega), List.drop_of_length_le (by omega), List.append_nil]
  | d + 1, j, fu + 1, hd, hj, hf => by
    have hlt : j < s.length := by omega
    have := (inv s[j]).toNat_lt
    rw [f_lumref_turned_L7, cond_tt (dlt (by omega)), at_of (mid_at s hlt), opt_of, opt_of, sub_inv, req_pos ⟨by omega, by omega⟩, wsucc (by omega), Int.toNat_natCast, Int.toNat_natCast, UInt8.ofNat_toNat, mid_set s hlt]
    exact rturn_go s hs kk d (j + 1) fu (by omega) (by omega) (by omega)
theorem rturn_ok (s : List UInt8) (hs : s.length ≤ 8) (fu : Nat) (hf : 9 ≤ fu) : f_lumref_turned fu s = some (s.map inv) := by
  unfold f_lumref_turned
  rw [req_pos (by omega), lt_of]
  exact rturn_go s (by omega) _ s.length 0 fu (by omega) (by omega) (by omega)
def ends (neg : Bool) (d : List UInt8) (k : Nat) : Int × Int × Int :=
  if d.take 1 = [0] ∨ 9223372036854775808 ≤ beNat d then (0, 0, 4) else (bif neg then (-1 : Int) - ((beNat d : Nat) : Int) else ((beNat d : Nat) : Int), ((1 + k : Nat) : Int), 0)
def goI (neg : Bool) (t : List UInt8) (k : Nat) : Int × Int × Int :=
  if 8 < k then (0, 0, 4) else if t.length < k then (0, 0, 3) else ends neg (bif neg then (t.take k).map inv else t.take k) k
def getI : List UInt8 → Int × Int × Int
  | [] => (0, 0, 3)
  | b :: t => if b.toNat < 128 then goI true t (127 - b.toNat) else goI false t (b.toNat - 128)
theorem head_z (d : List UInt8) (h : 0 < d.length) : ((En.bAt d (0 : Int)) == (0 : Int)) = decide (d.take 1 = [0]) := by
  cases d with
  | nil => simp at h
  | cons c u =>
    show ((((c.toNat : Nat) : Int)) == 0) = decide ([c] = [0])
    by_cases hc : c = 0
    · subst hc; rfl
    · have h5 : c.toNat ≠ 0 := fun h => hc (UInt8.toNat_inj.1 h)
      rw [beq_eq_false_iff_ne.2 (by omega), decide_eq_false (by simpa using hc)]
theorem tail_ok (neg : Bool) (d : List UInt8) (k fu : Nat) (hk : d.length = k) (h8 : k ≤ 8) (hf : 9 ≤ fu) (B : Int) (hB : decide (B < (128 : Int)) = neg) :
    (opt (f_num_value fu d) fun (r12 : Int) => (lt (fun (j13b51 : Bool) => (bif j13b51 then (some ((0 : Int), (0 : Int), (4 : Int))) else (bif (decide (B < (128 : Int))) then (some ((IntKind.i64.wrap ((-1 : Int) - (IntKind.i64.wrap r12))), (IntKind.i64.wrap ((1 : Int) + (k : Int))), (0 : Int))) else (some ((IntKind.i64.wrap r12), (IntKind.i64.wrap ((1 : Int) + (k : Int))), (0 : Int)))))) fun (kk14 : Bool → Option (Int × Int × Int)) => (bif (decide ((k : Int) > (0 : Int))) then (req (0 ≤ (0 : Int) ∧ (0 : Int) < (d.length : Int)) (bif ((En.bAt d (0 : Int)) == (0 : Int)) then (kk14 true) else (kk14 (decide (r12 > (9223372036854775807 : Int)))))) else (kk14 (decide (r12 > (9223372036854775807 : Int))))))) = some (ends neg d k) := by
  rw [value_ok d (by omega) fu hf, opt_of, lt_of, hB]
  have hv := beNat_lt' (l := d) (k := 8) (by omega)
  rw [p8] at hv
  have ek : IntKind.i64.wrap ((1 : Int) + (k : Int)) = ((1 + k : Nat) : Int) := by rw [w64 (by omega) (by omega)]; omega
  have key : ¬ d.take 1 = [0] → (fun (j13b51 : Bool) => (bif j13b51 then (some ((0 : Int), (0 : Int), (4 : Int))) else (bif neg then (some ((IntKind.i64.wrap ((-1 : Int) - (IntKind.i64.wrap ((beNat d : Nat) : Int)))), (IntKind.i64.wrap ((1 : Int) + (k : Int))), (0 : Int))) else (some ((IntKind.i64.wrap ((beNat d : Nat) : Int)), (IntKind.i64.wrap ((1 : Int) + (k : Int))), (0 : Int)))))) (decide (((beNat d : Nat) : Int) > (9223372036854775807 : Int))) = some (ends neg d k) := by
    intro hz
    unfold ends
    by_cases hb : 9223372036854775808 ≤ beNat d
    · rw [decide_eq_true (by omega), if_pos (.inr hb)]; rfl
    · rw [decide_eq_false (by omega), if_neg (by rintro (h | h); exact hz h; exact hb h), iw (by omega), ek]
      cases neg with
      | true => rw [w64 (by omega) (by omega)]; rfl
      | false => rfl
  by_cases h0 : 0 < k
  · rw [cond_tt (decide_eq_true (by omega)), req_pos ⟨by omega, by omega⟩, head_z d (by omega)]
    by_cases hz : d.take 1 = [0]
    · rw [decide_eq_true hz]; unfold ends; rw [if_pos (.inl hz)]; rfl
    · rw [decide_eq_false hz]; exact key hz
  · rw [cond_ff (decide_eq_false (by omega))]
    refine key ?_
    have : d = [] := List.eq_nil_of_length_eq_zero (by omega)
    subst this; simp
theorem get_ok (s : List UInt8) (fu : Nat) (hf : 9 ≤ fu) : f_num_GetInt fu s = some (getI s) := by
  unfold f_num_GetInt
  cases s with
  | nil => rfl
  | cons b t =>
    have hb := b.toNat_lt
    have hlen : (((b :: t).length : Nat) : Int) = (t.length : Int) + 1 := by simp
    rw [cond_ff (by rfl), req_pos ⟨by omega, by omega⟩, req_pos ⟨by omega, by omega⟩, b0, lt_of, iw (n := b.toNat) (by omega)]
    have main : ∀ (neg : Bool) (k : Nat), decide (((b.toNat : Nat) : Int) < (128 : Int)) = neg → k < 128 → (fun (j4i5 : Int) => (bif (decide (j4i5 > (8 : Int))) then (some ((0 : Int), (0 : Int), (4 : Int))) else (bif (decide (((b :: t).length : Int) < (IntKind.i64.wrap ((1 : Int) + j4i5)))) then (some ((0 : Int), (0 : Int), (3 : Int))) else (req (0 ≤ (1 : Int) ∧ (1 : Int) ≤ (IntKind.i64.wrap ((1 : Int) + j4i5)) ∧ (IntKind.i64.wrap ((1 : Int) + j4i5)) ≤ ((b :: t).length : Int)) (lt (fun (j9s7 : (List UInt8)) => (opt (f_num_value fu j9s7) fun (r12 : Int) => (lt (fun (j13b51 : Bool) => (bif j13b51 then (some ((0 : Int), (0 : Int), (4 : Int))) else (bif (decide (((b.toNat : Nat) : Int) < (128 : Int))) then (some ((IntKind.i64.wrap ((-1 : Int) - (IntKind.i64.wrap r12))), (IntKind.i64.wrap ((1 : Int) + j4i5)), (0 : Int))) else (some ((IntKind.i64.wrap r12), (IntKind.i64.wrap ((1 : Int) + j4i5)), (0 : Int)))))) fun (kk14 : Bool → Option (Int × Int × Int)) => (bif (decide (j4i5 > (0 : Int))) then (req (0 ≤ (0 : Int) ∧ (0 : Int) < (j9s7.length : Int)) (bif ((En.bAt j9s7 (0 : Int)) == (0 : Int)) then (kk14 true) else (kk14 (decide (r12 > (9223372036854775807 : Int)))))) else (kk14 (decide (r12 > (9223372036854775807 : Int)))))))) fun (kk10 : (List UInt8) → Option (Int × Int × Int)) => (bif (decide (((b.toNat : Nat) : Int) < (128 : Int))) then (opt (f_num_turned fu (cut (b :: t) (1 : Int) (IntKind.i64.wrap ((1 : Int) + j4i5)))) fun (r22 : (List UInt8)) => (kk10 r22)) else (kk10 (cut (b :: t) (1 : Int) (IntKind.i64.wrap ((1 : Int) + j4i5)))))))))) ((k : Nat) : Int) = some (goI neg t k) := by
      intro neg k hneg hk
      have ek : IntKind.i64.wrap ((1 : Int) + (k : Int)) = ((1 + k : Nat) : Int) := by rw [w64 (by omega) (by omega)]; omega
      unfold goI
      by_cases h1 : 8 < k
      · rw [if_pos h1]; simp only; rw [cond_tt (decide_eq_true (by omega))]
      rw [if_neg h1]
      simp only
      rw [cond_ff (decide_eq_false (by omega))]
      by_cases h2 : t.length < k
      · rw [if_pos h2, ek, cond_tt (dlt (by omega))]
      rw [if_neg h2, cond_ff (dge (by rw [ek]; omega)), req_pos ⟨by omega, by rw [ek]; omega, by rw [ek]; omega⟩, lt_of]
      have hd : (t.take k).length = k := by rw [List.length_take]; omega
      rw [hneg]
      cases neg with
      | true =>
        rw [cond_tt rfl, cond_tt rfl, ek, cut_k, turn_ok _ (by omega) fu hf, opt_of]
        have := tail_ok true ((t.take k).map inv) k fu (by rw [List.length_map, hd]) (by omega) hf ((b.toNat : Nat) : Int) hneg
        rw [hneg, ek] at this
        exact this
      | false =>
        rw [cond_ff rfl, cond_ff rfl, ek, cut_k]
        have := tail_ok false (t.take k) k fu hd (by omega) hf ((b.toNat : Nat) : Int) hneg
        rw [hneg, ek] at this
        exact this
    show _ = some (if b.toNat < 128 then goI true t (127 - b.toNat) else goI false t (b.toNat - 128))
    by_cases h : b.toNat < 128
    · rw [cond_tt (dlt (by omega)), req_pos ⟨by omega, by omega⟩, if_pos h, ← main true (127 - b.toNat) (dlt (by omega)) (by omega)]
      rw [w64 (x := (127 : Int) - (b.toNat : Int)) (by omega) (by omega), show (127 : Int) - (b.toNat : Int) = ((127 - b.toNat : Nat) : Int) by omega]
    · rw [cond_ff (dge (by omega)), if_neg h, ← main false (b.toNat - 128) (dge (by omega)) (by omega)]
      rw [w64 (x := (b.toNat : Int) - (128 : Int)) (by omega) (by omega), show (b.toNat : Int) - (128 : Int) = ((b.toNat - 128 : Nat) : Int) by omega]
theorem ff_z (d : List UInt8) : decide (d.take 1 = [255]) = decide ((d.map inv).take 1 = [0]) := by
  cases d with
  | nil => rfl
  | cons c u =>
    show decide ([c] = [255]) = decide ([inv c] = [0])
    by_cases h : c = 255
    · subst h; rfl
    · have h2 : inv c ≠ 0 := fun e => h (UInt8.toNat_inj.1 (by
        have h3 := inv_nat c
        rw [e] at h3
        have h4 := c.toNat_lt
        have h5 : (255 : UInt8).toNat = 255 := rfl
        have h6 : (0 : UInt8).toNat = 0 := rfl
        omega))
      rw [decide_eq_false (by simpa using h), decide_eq_false (by simpa using h2)]
theorem rtail (neg z : Bool) (d : List UInt8) (k : Nat) (hk : d.length = k) (h8 : k ≤ 8) (hz : z = decide (d.take 1 = [0])) (F : Bool → Option (Int × Int × Int)) (hF : F true = some (0, 0, 4)) (hG : beNat d < 9223372036854775808 → F false = some (bif neg then (-1 : Int) - ((beNat d : Nat) : Int) else ((beNat d : Nat) : Int), ((1 + k : Nat) : Int), 0)) :
    (bif z then F true else F (decide (((beNat d : Nat) : Int) ≥ (9223372036854775808 : Int)))) = some (ends neg d k) := by
  unfold ends
  by_cases h : d.take 1 = [0]
  · rw [hz, decide_eq_true h, if_pos (.inl h), cond_tt rfl, hF]
  · rw [hz, decide_eq_false h, cond_ff rfl]
    by_cases hb : 9223372036854775808 ≤ beNat d
    · rw [decide_eq_true (by omega), if_pos (.inr hb), hF]
    · rw [decide_eq_false (by omega), if_neg (by rintro (h1 | h1); exact h h1; exact hb h1), hG (by omega)]
theorem rget_ok (s : List UInt8) (fu : Nat) (hf : 9 ≤ fu) : f_lumref_GetInt fu s = some (getI s) := by
  unfold f_lumref_GetInt
  cases s with
  | nil => rfl
  | cons b t =>
    have hb := b.toNat_lt
    have hlen : (((b :: t).length : Nat) : Int) = (t.length : Int) + 1 := by simp
    show _ = some (if b.toNat < 128 then goI true t (127 - b.toNat) else goI false t (b.toNat - 128))
    rw [cond_ff (by rw [beq_eq_false_iff_ne]; omega), lt_of, req_pos ⟨by omega, by omega⟩, b0]
    by_cases h1 : b.toNat < 119
    · rw [cond_tt (dlt (by omega)), if_pos (by omega)]
      unfold goI
      rw [if_pos (by omega)]; rfl
    rw [cond_ff (dge (by omega)), req_pos ⟨by omega, by omega⟩]
    by_cases h2 : b.toNat > 136
    · rw [decide_eq_true (show ((b.toNat : Nat) : Int) > 136 by omega), if_neg (by omega)]
      unfold goI
      rw [if_pos (by omega)]; rfl
    rw [decide_eq_false (show ¬ ((b.toNat : Nat) : Int) > 136 by omega)]
    simp only
    rw [cond_ff rfl, req_pos ⟨by omega, by omega⟩, iw (n := b.toNat) (by omega)]
    by_cases h3 : b.toNat < 128
    · have e : IntKind.i64.wrap ((128 : Int) - ((b.toNat : Nat) : Int)) = ((1 + (127 - b.toNat) : Nat) : Int) := by rw [w64 (by omega) (by omega)]; omega
      rw [cond_ff (decide_eq_false (by omega)), if_pos h3, req_pos ⟨by omega, by omega⟩, e]
      generalize hk : 127 - b.toNat = k
      unfold goI
      rw [if_neg (by omega)]
      by_cases h4 : t.length < k
      · rw [cond_tt (dlt (by omega)), if_pos h4]
      have hd : (t.take k).length = k := by rw [List.length_take]; omega
      rw [cond_ff (dge (by omega)), if_neg h4, req_pos ⟨by omega, by omega, by omega⟩, cut_k, rturn_ok _ (by omega) fu hf, opt_of, number_ok k _ fu (by rw [List.length_map, hd]) (by omega) (by omega), opt_of, lt_of, req_pos ⟨by omega, by omega, by omega⟩, hp_ok, opt_of, cond_tt (b := true) rfl]
      refine rtail true _ ((t.take k).map inv) k (by rw [List.length_map, hd]) (by omega) (ff_z _) (fun (j26b67 : Bool) => (bif j26b67 then (some ((0 : Int), (0 : Int), (4 : Int))) else (some ((IntKind.i64.wrap ((-1 : Int) - (IntKind.i64.wrap ((beNat ((t.take k).map inv) : Nat) : Int)))), ((1 + k : Nat) : Int), (0 : Int))))) rfl (fun hlt => ?_)
      rw [cond_ff rfl, iw (by omega), w64 (by omega) (by omega)]; rfl
    · have e : IntKind.i64.wrap ((IntKind.i64.wrap ((1 : Int) + ((b.toNat : Nat) : Int))) - (128 : Int)) = ((1 + (b.toNat - 128) : Nat) : Int) := by rw [w64 (x := (1 : Int) + ((b.toNat : Nat) : Int)) (by omega) (by omega), w64 (by omega) (by omega)]; omega
      rw [cond_tt (decide_eq_true (by omega)), if_neg h3, req_pos ⟨by omega, by omega⟩, e]
      generalize hk : b.toNat - 128 = k
      unfold goI
      rw [if_neg (by omega)]
      by_cases h4 : t.length < k
      · rw [cond_tt (dlt (by omega)), if_pos h4]
      have hd : (t.take k).length = k := by rw [List.length_take]; omega
      rw [cond_ff (dge (by omega)), if_neg h4, req_pos ⟨by omega, by omega, by omega⟩, cut_k, number_ok k _ fu hd (by omega) (by omega), opt_of, lt_of, req_pos ⟨by omega, by omega, by omega⟩, hp_ok, opt_of, cond_ff (b := false) rfl]
      refine rtail false _ (t.take k) k hd (by omega) rfl (fun (j12b43 : Bool) => (bif j12b43 then (some ((0 : Int), (0 : Int), (4 : Int))) else (some ((IntKind.i64.wrap ((beNat (t.take k) : Nat) : Int)), ((1 + k : Nat) : Int), (0 : Int))))) rfl (fun hlt => ?_)
      rw [cond_ff rfl, iw (by omega)]; rfl
end Go.Proofs.YtfhifdmbdkkgaaaGreatDoor.PTreeInt
namespace Go.Proofs.YtfhifdmbdkkgaaaGreatDoor.StrOrd
open Go.RowKit YtfhifdmbdkkgaaaGreatDoor.En YtfhifdmbdkkgaaaGreatDoor
theorem u8_irr (a : UInt8) : ¬ a < a := fun h => Nat.lt_irrefl _ (UInt8.lt_iff_toNat_lt.1 h)
theorem u8_trans {a b c : UInt8} (h : a < b) (h' : b < c) : a < c := UInt8.lt_iff_toNat_lt.2 (Nat.lt_trans (UInt8.lt_iff_toNat_lt.1 h) (UInt8.lt_iff_toNat_lt.1 h'))
abbrev L (a b : List UInt8) : Prop := Op.bytesLess a b = true
theorem less_nil (a : List UInt8) : ¬ L a [] := by cases a <;> simp [L, Op.bytesLess]
theorem less_cons {x y : UInt8} {a b : List UInt8} : L (x :: a) (y :: b) ↔ x < y ∨ (x = y ∧ L a b) := by simp [L, Op.bytesLess]
theorem irr : ∀ a : List UInt8, ¬ L a a
  | [] => less_nil []
  | x :: a => fun h => by
    rcases less_cons.1 h with h | h
    · exact u8_irr x h
    · exact irr a h.2
theorem trans : ∀ {a b c : List UInt8}, L a b → L b c → L a c
  | a, [], c, h, _ => absurd h (less_nil a)
  | a, _ :: _, [], _, h => absurd h (less_nil _)
  | [], _ :: _, _ :: _, _, _ => rfl
  | x :: a, y :: b, z :: c, h, h' => by
    rcases less_cons.1 h with k | ⟨e, k⟩
    · rcases less_cons.1 h' with k' | ⟨e', _⟩
      · exact less_cons.2 (.inl (u8_trans k k'))
      · subst e'; exact less_cons.2 (.inl k)
    · subst e
      rcases less_cons.1 h' with k' | ⟨e', k'⟩
      · exact less_cons.2 (.inl k')
      · exact less_cons.2 (.inr ⟨e', trans k k'⟩)
end Go.Proofs.YtfhifdmbdkkgaaaGreatDoor.StrOrd
namespace Go.Proofs.YtfhifdmbdkkgaaaGreatDoor.PNamesSays
open Go.RowKit YtfhifdmbdkkgaaaGreatDoor.En YtfhifdmbdkkgaaaGreatDoor U8
open Go.Lib hiding cut
set_option linter.unusedVariables false
set_option linter.unusedSimpArgs false
abbrev L2 := List (List UInt8)
theorem iw {n : Nat} (h : n ≤ 9223372036854775807) : IntKind.i64.wrap (n : Int) = (n : Int) := w64 (by omega) (by omega)
def Sm (l : L2) : Prop := l.length ≤ 1048577 ∧ ∀ s ∈ l, s.length ≤ 1048576
theorem split_miss {s : List UInt8} (h : indexByte s 47 = -1) : splitV s [47] = [s] := by
  have h2 : index s [47] = -1 := by rw [index_one]; exact h
  unfold splitV
  rw [count_miss h2]; rfl
theorem split_hit {s : List UInt8} {i : Nat} (h : indexByte s 47 = i) : splitV s [47] = s.take i :: splitV (s.drop (i + 1)) [47] := by
  have h2 : index s [47] = i := by rw [index_one]; exact h
  have hn : ¬ (index s [47] == -1) = true := fun e => by have := beq_iff_eq.1 e; omega
  unfold splitV
  rw [count_hit (by simp) h2, Nat.add_comm]
  show (if (index s [47] == -1) = true then [s] else s.take ((index s [47]).toNat + 0) :: splitK [47] 0 (count (s.drop (i + [47].length)) [47]) (s.drop ((index s [47]).toNat + [47].length))) = _
  rw [if_neg hn, h2, Int.toNat_natCast]; rfl
theorem hit_lt {s : List UInt8} {i : Nat} (h : indexByte s 47 = i) : i < s.length := (List.getElem?_eq_some_iff.1 (indexByte_some h).1).1
theorem split_sm : ∀ (n : Nat) (s : List UInt8), s.length ≤ n → (splitV s [47]).length ≤ s.length + 1 ∧ ∀ x ∈ splitV s [47], x.length ≤ s.length
  | n, s, hn => by
    rcases Int.lt_or_le (indexByte s 47) 0 with h | h
    · have hm : indexByte s 47 = -1 := by have := indexByte_ge s 47; omega
      rw [split_miss hm]
      exact ⟨by simp, by simp⟩
    · obtain ⟨i, hi⟩ : ∃ i : Nat, indexByte s 47 = i := ⟨(indexByte s 47).toNat, by omega⟩
      have hlt := hit_lt hi
      rw [split_hit hi]
      match n with
      | 0 => omega
      | n + 1 =>
        obtain ⟨h1, h2⟩ := split_sm n (s.drop (i + 1)) (by rw [List.length_drop]; omega)
        rw [List.length_drop] at h1 h2
        refine ⟨by rw [List.length_cons]; omega, fun x hx => ?_⟩
        rcases List.mem_cons.1 hx with rfl | hx
        · rw [List.length_take]; omega
        · have := h2 x hx; omega
theorem cut_ok : ∀ (fu : Nat) (s : List UInt8), s.length < fu → s.length ≤ 1048576 → f_lumref_cutAt fu s = some (splitV s [47])
  | 0, s, h, _ => absurd h (Nat.not_lt_zero _)
  | fu + 1, s, h, hs => by
    rw [f_lumref_cutAt]
    unfold f_strings_IndexByte
    rw [opt_of, show ((47 : Int)).toNat.toUInt8 = 47 from rfl]
    rcases Int.lt_or_le (indexByte s 47) 0 with h1 | h1
    · have hm : indexByte s 47 = -1 := by have := indexByte_ge s 47; omega
      rw [split_miss hm, hm, cond_tt (decide_eq_true (by decide))]
    · obtain ⟨i, hi⟩ : ∃ i : Nat, indexByte s 47 = i := ⟨(indexByte s 47).toNat, by omega⟩
      have hlt := hit_lt hi
      have hsm := (split_sm _ (s.drop (i + 1)) (Nat.le_refl _)).1
      rw [List.length_drop] at hsm
      rw [split_hit hi, hi, cond_ff (decide_eq_false (by omega)), wsucc (by omega), req_pos (by omega), req_pos (by omega), Int.toNat_natCast, Int.toNat_natCast, cut_ok fu (s.drop (i + 1)) (by rw [List.length_drop]; omega) (by rw [List.length_drop]; omega), opt_of, req_pos (by rw [List.length_singleton]; omega)]; rfl
theorem fsplit_ok (fu : Nat) (s : List UInt8) (hs : s.length ≤ 1048576) : f_strings_Split fu s [47] = some (splitV s [47]) := by
  unfold f_strings_Split
  rw [req_pos ⟨by omega, by simp⟩]
theorem sm_split (s : List UInt8) (hs : s.length ≤ 1048576) : Sm (splitV s [47]) := by
  obtain ⟨h1, h2⟩ := split_sm _ s (Nat.le_refl _)
  exact ⟨by omega, fun x hx => by have := h2 x hx; omega⟩
def chk : Nat → L2 → Int
  | _, [] => 0
  | i, s :: t => if 8 ≤ i then 14 else if nameV s ≠ 0 then nameV s else chk (i + 1) t
theorem chk_cons (i : Nat) (s : List UInt8) (t : L2) : chk i (s :: t) = if 8 ≤ i then 14 else if nameV s ≠ 0 then nameV s else chk (i + 1) t := rfl
theorem chk_len : ∀ (l : L2) (i : Nat), chk i l = 0 → i ≤ 8 → i + l.length ≤ 8
  | [], i, _, hi => by simp; exact hi
  | s :: t, i, h, hi => by
    rw [chk_cons] at h
    by_cases h1 : 8 ≤ i
    · rw [if_pos h1] at h; exact absurd h (by decide)
    rw [if_neg h1] at h
    by_cases h2 : nameV s ≠ 0
    · rw [if_pos h2] at h; exact absurd h h2
    rw [if_neg h2] at h
    have := chk_len t (i + 1) h (by omega)
    rw [List.length_cons]; omega
theorem all_loop (l : L2) (hl : Sm l) (kk : Unit → Option Int) (g : Nat) (hg : 1048600 ≤ g) : ∀ (d i fu : Nat), l.length - i = d → i ≤ l.length → d < fu →
    f_names_checkAll_L5 l kk g fu (i : Int) = if chk i (l.drop i) = 0 then kk () else some (chk i (l.drop i))
  | _, _, 0, _, _, hf => absurd hf (Nat.not_lt_zero _)
  | 0, i, fu + 1, hd, hi, _ => by
    rw [f_names_checkAll_L5, cond_ff (dge (by omega)), List.drop_of_length_le (by omega)]; rfl
  | d + 1, i, fu + 1, hd, hi, hf => by
    have hlt : i < l.length := by omega
    have hb := hl.1
    rw [f_names_checkAll_L5, cond_tt (dlt (by omega)), at_lt hlt, opt_of, List.drop_eq_getElem_cons hlt, chk_cons]
    by_cases h8 : 8 ≤ i
    · rw [cond_tt (decide_eq_true (by omega)), if_pos h8, if_neg (by decide)]
    · rw [cond_ff (decide_eq_false (by omega)), if_neg h8, PTreeName.check_ok _ (hl.2 _ (List.getElem_mem hlt)) g hg, opt_of]
      by_cases hn : nameV l[i] = 0
      · rw [cond_ff (show (nameV l[i] != 0) = false from by simpa using hn), if_neg (c := nameV l[i] ≠ 0) (by simpa using hn), wsucc (by omega)]
        exact all_loop l hl kk g hg d (i + 1) fu (by omega) (by omega) (by omega)
      · rw [cond_tt (show (nameV l[i] != 0) = true from by simpa using hn), if_pos hn, if_neg hn]
theorem rall_loop (l : L2) (hl : Sm l) (kk : Unit → Option Int) (g : Nat) (hg : 1048600 ≤ g) : ∀ (d i fu : Nat), l.length - i = d → i ≤ l.length → d < fu →
    f_lumref_nameErr_L5 l kk g fu (i : Int) = if chk i (l.drop i) = 0 then kk () else some (chk i (l.drop i))
  | _, _, 0, _, _, hf => absurd hf (Nat.not_lt_zero _)
  | 0, i, fu + 1, hd, hi, _ => by
    rw [f_lumref_nameErr_L5, cond_ff (dge (by omega)), List.drop_of_length_le (by omega)]; rfl
  | d + 1, i, fu + 1, hd, hi, hf => by
    have hlt : i < l.length := by omega
    have hb := hl.1
    rw [f_lumref_nameErr_L5, cond_tt (dlt (by omega)), at_lt hlt, opt_of, List.drop_eq_getElem_cons hlt, chk_cons]
    by_cases h8 : 8 ≤ i
    · rw [cond_tt (decide_eq_true (by omega)), if_pos h8, if_neg (by decide)]
    · rw [cond_ff (decide_eq_false (by omega)), if_neg h8, PTreeName.name_ok _ (hl.2 _ (List.getElem_mem hlt)) g hg, opt_of]
      by_cases hn : nameV l[i] = 0
      · rw [cond_ff (show (nameV l[i] != 0) = false from by simpa using hn), if_neg (c := nameV l[i] ≠ 0) (by simpa using hn), wsucc (by omega)]
        exact rall_loop l hl kk g hg d (i + 1) fu (by omega) (by omega) (by omega)
      · rw [cond_tt (show (nameV l[i] != 0) = true from by simpa using hn), if_pos hn, if_neg hn]
theorem all_ok (l : L2) (hl : Sm l) (fu : Nat) (hf : 2000000 ≤ fu) : f_names_checkAll fu l = some (chk 0 l) ∧ f_lumref_nameErr fu l = some (chk 0 l) := by
  have hb := hl.1
  unfold f_names_checkAll f_lumref_nameErr
  rw [lt_of, lt_of]
  have e1 := all_loop l hl (fun _ => some (0 : Int)) fu (by omega) _ 0 fu rfl (Nat.zero_le _) (by omega)
  have e2 := rall_loop l hl (fun _ => some (0 : Int)) fu (by omega) _ 0 fu rfl (Nat.zero_le _) (by omega)
  rw [List.drop_zero] at e1 e2
  have key : (if chk 0 l = 0 then some (0 : Int) else some (chk 0 l)) = some (chk 0 l) := by
    by_cases h : chk 0 l = 0
    · rw [if_pos h, h]
    · rw [if_neg h]
  exact ⟨e1.trans key, e2.trans key⟩
def sp (p : List UInt8) : L2 × Int := if p.take 1 ≠ [47] then ([], 8) else if p = [47] then ([], 0) else if chk 0 (splitV (p.drop 1) [47]) ≠ 0 then ([], chk 0 (splitV (p.drop 1) [47])) else (splitV (p.drop 1) [47], 0)
theorem sp_tail (r : L2) (e : Int) : (bif (e != (0 : Int)) then (some (([] : List (List UInt8)), e)) else (some (r, (0 : Int)))) = some (if e ≠ 0 then ([], e) else (r, 0)) := by
  by_cases h : e = 0
  · rw [if_neg (by simpa using h), cond_ff (show (e != 0) = false from by simpa using h)]
  · rw [if_pos h, cond_tt (show (e != 0) = true from by simpa using h)]
theorem split1 (p : List UInt8) (hp : p.length ≤ 1048576) (fu : Nat) (hf : 2000000 ≤ fu) : f_names_Split fu p = some (sp p) := by
  unfold f_names_Split f_strings_CutPrefix f_stringslite_CutPrefix f_stringslite_HasPrefix sp
  rw [lt_of]
  cases p with
  | nil => rfl
  | cons b t =>
    rw [cond_tt (decide_eq_true (by rw [List.length_cons]; show ((t.length + 1 : Nat) : Int) ≥ (([47] : List UInt8).length : Int); simp; omega)), req_pos (by simp; omega)]
    rw [show (((([47] : List UInt8).length : Nat) : Int)).toNat = 1 from rfl, opt_of]
    by_cases h1 : (b :: t).take 1 = [47]
    · rw [beq_iff_eq.2 h1, if_neg (by simpa using h1), cond_ff (show (!true) = false from rfl), req_pos (by simp; omega), opt_of, opt_of]
      dsimp only
      rw [cond_ff (show (!true) = false from rfl)]
      have hb : b = 47 := by simpa using h1
      have hd : (b :: t).drop 1 = t := rfl
      have htl : t.length ≤ 1048576 := by rw [List.length_cons] at hp; omega
      rw [hd]
      by_cases h2 : t = []
      · subst h2; subst hb; rw [if_pos rfl]; rfl
      · rw [beq_eq_false_iff_ne.2 h2, if_neg (by rw [hb]; simpa using h2), cond_ff rfl, fsplit_ok fu t htl, opt_of, (all_ok _ (sm_split t htl) fu hf).1, opt_of]
        exact sp_tail _ _
    · rw [beq_eq_false_iff_ne.2 h1, if_pos h1]; rfl
theorem split2 (p : List UInt8) (hp : p.length ≤ 1048576) (fu : Nat) (hf : 2000000 ≤ fu) : f_lumref_Split fu p = some (sp p) := by
  unfold f_lumref_Split sp
  rw [lt_of]
  cases p with
  | nil => rfl
  | cons b t =>
    have hbt := b.toNat_lt
    rw [cond_ff (show ((b :: t) == ([] : List UInt8)) = false from rfl), req_pos (by rw [List.length_cons]; omega)]
    rw [show En.bAt (b :: t) (0 : Int) = ((b.toNat : Nat) : Int) from rfl]
    by_cases h1 : b = 47
    · rw [if_neg (by rw [h1]; simp), show ((((b.toNat : Nat) : Int)) != (47 : Int)) = false from by rw [h1]; rfl]
      dsimp only
      rw [cond_ff rfl]
      have htl : t.length ≤ 1048576 := by rw [List.length_cons] at hp; omega
      by_cases h2 : t = []
      · subst h2; subst h1; rw [if_pos rfl]; rfl
      · rw [beq_eq_false_iff_ne.2 (show b :: t ≠ [47] from by simp [h2]), if_neg (by simp [h2]), cond_ff rfl, req_pos (by rw [List.length_cons]; omega)]
        show (opt (f_lumref_cutAt fu t) _) = _
        rw [cut_ok fu t (by omega) htl, opt_of, (all_ok _ (sm_split t htl) fu hf).2, opt_of]
        exact sp_tail _ _
    · have hne : b.toNat ≠ 47 := fun e => h1 (UInt8.toNat_inj.1 (by rw [e]; rfl))
      rw [if_pos (by simpa using h1), show ((((b.toNat : Nat) : Int)) != (47 : Int)) = true from by rw [bne_iff_ne]; omega]; rfl
theorem sp_sm (p : List UInt8) (hp : p.length ≤ 1048576) : Sm (sp p).1 := by
  have hnil : Sm ([] : L2) := ⟨by simp, by simp⟩
  unfold sp
  split
  · exact hnil
  split
  · exact hnil
  split
  · exact hnil
  · exact sm_split _ (by rw [List.length_drop]; omega)
def jn (l : L2) : List UInt8 := if l = [] then [47] else l.flatMap (fun s => [47] ++ s)
def jr (l : L2) : List UInt8 × Int := if chk 0 l ≠ 0 then ([], chk 0 l) else (jn l, 0)
theorem flat_le : ∀ (l : L2) (k : Nat), (∀ s ∈ l, s.length ≤ k) → (l.flatMap (fun s => [47] ++ s)).length ≤ (k + 1) * l.length
  | [], k, _ => by simp
  | x :: t, k, h => by
    have h1 := flat_le t k (fun y hy => h y (by simp [hy]))
    have h2 := h x (by simp)
    rw [List.flatMap_cons, List.length_append, List.length_append, List.length_singleton, List.length_cons, Nat.mul_succ]; omega
theorem jloop (l : L2) (hl : Sm l) (h8 : l.length ≤ 8) (kk : List UInt8 → Option (List UInt8 × Int)) : ∀ (d i fu : Nat) (acc : List UInt8), l.length - i = d → i ≤ l.length → d < fu → acc.length ≤ 1048577 * i →
    f_lumref_Join_L9 l kk fu acc (i : Int) = kk (acc ++ (l.drop i).flatMap (fun s => [47] ++ s))
  | _, _, 0, _, _, _, hf, _ => absurd hf (Nat.not_lt_zero _)
  | 0, i, fu + 1, acc, hd, hi, _, _ => by
    rw [f_lumref_Join_L9, cond_ff (dge (by omega)), List.drop_of_length_le (by omega), List.flatMap_nil, List.append_nil]
  | d + 1, i, fu + 1, acc, hd, hi, hf, ha => by
    have hlt : i < l.length := by omega
    have hs := hl.2 _ (List.getElem_mem hlt)
    rw [f_lumref_Join_L9, cond_tt (dlt (by omega)), at_lt hlt, opt_of, req_pos (by rw [List.length_singleton]; omega), req_pos (by rw [List.length_append, List.length_singleton]; omega), wsucc (by omega), jloop l hl h8 kk d (i + 1) fu _ (by omega) (by omega) (by omega) (by rw [List.length_append, List.length_append, List.length_singleton]; omega), List.drop_eq_getElem_cons hlt, List.flatMap_cons, List.append_assoc acc]
theorem join2 (l : L2) (hl : Sm l) (fu : Nat) (hf : 2000000 ≤ fu) : f_lumref_Join fu l = some (jr l) := by
  unfold f_lumref_Join jr
  rw [(all_ok l hl fu hf).2, opt_of]
  by_cases h : chk 0 l = 0
  · have hlen := chk_len l 0 h (by omega)
    rw [if_neg (by simpa using h), cond_ff (show (chk 0 l != 0) = false from by simpa using h)]
    cases l with
    | nil => rfl
    | cons x r =>
      rw [cond_ff (show (((x :: r).length : Int) == 0) = false from by rw [beq_eq_false_iff_ne, List.length_cons]; omega), lt_of]
      refine (jloop (x :: r) hl (by omega) _ _ 0 fu [] rfl (Nat.zero_le _) (by omega) (by simp)).trans ?_
      unfold jn
      rw [if_neg (by simp), List.drop_zero, List.nil_append]
  · rw [if_pos h, cond_tt (show (chk 0 l != 0) = true from by simpa using h)]
def ah : L2 → L2 → Bool
  | _, [] => false
  | [], _ :: _ => true
  | x :: l, y :: m => if x ≠ y then Op.bytesLess x y else ah l m
theorem ah_cons (x y : List UInt8) (l m : L2) : ah (x :: l) (y :: m) = if x ≠ y then Op.bytesLess x y else ah l m := rfl
theorem ah_nil (l : L2) : ah l [] = false := by cases l <;> rfl
theorem less_self : ∀ a : List UInt8, Op.bytesLess a a = false
  | [] => rfl
  | b :: t => by
    show (decide (b < b) || (b == b && Op.bytesLess t t)) = false
    rw [less_self t]; simp
theorem cmp_ok (x y : List UInt8) (fu : Nat) : f_cmp_Compare_string_ fu x y = some (if Op.bytesLess x y = true then -1 else if x = y then 0 else 1) := by
  unfold f_cmp_Compare_string_ f_cmp_isNaN_string_
  rw [beq_self_eq_true, beq_self_eq_true, show (!true) = false from rfl, opt_of, opt_of, cond_ff rfl, cond_ff rfl]
  cases hb : Op.bytesLess x y with
  | true => rw [cond_tt rfl, if_pos rfl]
  | false =>
    rw [cond_ff rfl, if_neg (by simp), Bool.false_or]
    by_cases h : x = y
    · rw [beq_iff_eq.2 h, if_pos h]; rfl
    · rw [beq_eq_false_iff_ne.2 h, if_neg h]; rfl
theorem cmp_loop (a b : L2) (ha : a.length ≤ 1048577) (hb : b.length ≤ 1048577) (g : Nat) : ∀ (d i fu : Nat), a.length - i = d → i ≤ a.length → i ≤ b.length → d < fu →
    ∃ c : Int, f_slices_Compare___string_string__L6 a b (fun _ => (bif (decide ((a.length : Int) < (b.length : Int))) then (some (-1 : Int)) else (some (0 : Int)))) g fu (i : Int) = some c ∧ decide (c < 0) = ah (a.drop i) (b.drop i)
  | _, _, 0, _, _, _, hf => absurd hf (Nat.not_lt_zero _)
  | 0, i, fu + 1, hd, hi, hib, _ => by
    have hia : i = a.length := by omega
    rw [f_slices_Compare___string_string__L6, cond_ff (dge (by omega)), List.drop_of_length_le (l := a) (by omega)]
    by_cases h : a.length < b.length
    · rw [cond_tt (decide_eq_true (by omega)), List.drop_eq_getElem_cons (by omega : i < b.length)]
      exact ⟨-1, rfl, rfl⟩
    · rw [cond_ff (decide_eq_false (by omega)), List.drop_of_length_le (l := b) (by omega)]
      exact ⟨0, rfl, rfl⟩
  | d + 1, i, fu + 1, hd, hi, hib, hf => by
    have hlt : i < a.length := by omega
    rw [f_slices_Compare___string_string__L6, cond_tt (dlt (by omega)), at_lt hlt, opt_of]
    by_cases h : i < b.length
    · rw [cond_ff (decide_eq_false (by omega)), at_lt h, opt_of, cmp_ok, opt_of, List.drop_eq_getElem_cons hlt, List.drop_eq_getElem_cons h, ah_cons]
      by_cases he : a[i] = b[i]
      · rw [he, less_self, if_neg (by simp), if_pos rfl, if_neg (by simp), cond_ff (show ((0 : Int) != 0) = false from rfl), wsucc (by omega)]
        exact cmp_loop a b ha hb g d (i + 1) fu (by omega) (by omega) (by omega) (by omega)
      · rw [if_pos he, if_neg he]
        cases hq : Op.bytesLess a[i] b[i] with
        | true => rw [if_pos rfl]; exact ⟨-1, rfl, rfl⟩
        | false => rw [if_neg (by simp)]; exact ⟨1, rfl, rfl⟩
    · rw [cond_tt (decide_eq_true (by omega)), List.drop_of_length_le (l := b) (by omega), ah_nil]
      exact ⟨1, rfl, rfl⟩
theorem ahead_ok : ∀ (fu : Nat) (a b : L2), a.length < fu → a.length ≤ 1048577 → f_lumref_ahead fu a b = some (ah a b)
  | 0, a, b, h, _ => absurd h (Nat.not_lt_zero _)
  | fu + 1, a, b, h, hl => by
    rw [f_lumref_ahead]
    cases b with
    | nil => rw [ah_nil]; rfl
    | cons y m =>
      rw [cond_ff (show (((y :: m).length : Int) == 0) = false from by rw [beq_eq_false_iff_ne, List.length_cons]; omega)]
      cases a with
      | nil => rfl
      | cons x l =>
        rw [List.length_cons] at h hl
        rw [cond_ff (show (((x :: l).length : Int) == 0) = false from by rw [beq_eq_false_iff_ne, List.length_cons]; omega), show at? (x :: l) (0 : Int) = some x from rfl, show at? (y :: m) (0 : Int) = some y from rfl, opt_of, opt_of, ah_cons]
        by_cases he : x = y
        · rw [beq_iff_eq.2 he, cond_ff (show (!true) = false from rfl), req_pos (by rw [List.length_cons]; omega), req_pos (by rw [List.length_cons]; omega), if_neg (by simpa using he)]
          show (opt (f_lumref_ahead fu l m) _) = _
          rw [ahead_ok fu l m (by omega) (by omega), opt_of]
        · rw [beq_eq_false_iff_ne.2 he, cond_tt (show (!false) = true from rfl), if_pos he, opt_of, opt_of]
def ls (p q : List UInt8) : Bool × Int := if (sp p).2 ≠ 0 then (false, (sp p).2) else if (sp q).2 ≠ 0 then (false, (sp q).2) else (ah (sp p).1 (sp q).1, 0)
theorem less2 (p q : List UInt8) (hp : p.length ≤ 1048576) (hq : q.length ≤ 1048576) (fu : Nat) (hf : 2000000 ≤ fu) : f_lumref_Less fu p q = some (ls p q) := by
  have h1 := sp_sm p hp
  have h2 := sp_sm q hq
  have hl1 := h1.1
  have hl2 := h2.1
  unfold f_lumref_Less ls
  rw [split2 p hp fu hf, opt_of]
  by_cases e1 : (sp p).2 = 0
  · rw [if_neg (by simpa using e1), cond_ff (show ((sp p).2 != 0) = false from by simpa using e1), split2 q hq fu hf, opt_of]
    by_cases e2 : (sp q).2 = 0
    · rw [if_neg (by simpa using e2), cond_ff (show ((sp q).2 != 0) = false from by simpa using e2), ahead_ok fu _ _ (by omega) (by omega), opt_of]
    · rw [if_pos e2, cond_tt (show ((sp q).2 != 0) = true from by simpa using e2)]
  · rw [if_pos e1, cond_tt (show ((sp p).2 != 0) = true from by simpa using e1)]
theorem compare1 (p q : List UInt8) (hp : p.length ≤ 1048576) (hq : q.length ≤ 1048576) (fu : Nat) (hf : 2000000 ≤ fu) : ∃ c : Int, f_names_Compare fu p q = some c ∧ decide (c < 0) = ah (sp p).1 (sp q).1 := by
  have h1 := sp_sm p hp
  have h2 := sp_sm q hq
  have hl1 := h1.1
  have hl2 := h2.1
  unfold f_names_Compare
  rw [split1 p hp fu hf, split1 q hq fu hf, opt_of, opt_of]
  obtain ⟨c, c1, c2⟩ := cmp_loop (sp p).1 (sp q).1 hl1 hl2 fu _ 0 fu rfl (Nat.zero_le _) (Nat.zero_le _) (by omega)
  unfold f_slices_Compare___string_string_
  rw [lt_of]
  rw [show (0 : Int) = ((0 : Nat) : Int) from rfl] at *
  rw [c1, opt_of]
  exact ⟨c, rfl, by rw [c2, List.drop_zero, List.drop_zero]⟩
end Go.Proofs.YtfhifdmbdkkgaaaGreatDoor.PNamesSays
namespace Go.Proofs.YtfhifdmbdkkgaaaGreatDoor.PWorld
open Go.RowKit YtfhifdmbdkkgaaaGreatDoor.En YtfhifdmbdkkgaaaGreatDoor U8 PNamesSays
open Go.Lib hiding cut
set_option linter.unusedVariables false
set_option linter.unusedSimpArgs false
abbrev It := S_api_Item
theorem split_parts : ∀ (n : Nat) (s : List UInt8), s.length ≤ n → [47] ++ s = (splitV s [47]).flatMap (fun x => [47] ++ x) ∧ ∀ x ∈ splitV s [47], (47 : UInt8) ∉ x
  | n, s, hn => by
    rcases Int.lt_or_le (indexByte s 47) 0 with h | h
    · have hm : indexByte s 47 = -1 := by have := indexByte_ge s 47; omega
      rw [split_miss hm]
      refine ⟨by simp, fun x hx hc => ?_⟩
      rw [List.mem_singleton.1 hx] at hc
      obtain ⟨k, hk⟩ := List.mem_iff_getElem?.1 hc
      exact indexByte_none hm k hk
    · obtain ⟨i, hi⟩ : ∃ i : Nat, indexByte s 47 = i := ⟨(indexByte s 47).toNat, by omega⟩
      have hlt := hit_lt hi
      rw [split_hit hi]
      match n with
      | 0 => omega
      | n + 1 =>
        obtain ⟨h1, h2⟩ := split_parts n (s.drop (i + 1)) (by rw [List.length_drop]; omega)
        obtain ⟨hat, hbe⟩ := indexByte_some hi
        have e47 : s[i] = 47 := by rw [List.getElem?_eq_getElem hlt] at hat; exact Option.some.inj hat
        refine ⟨?_, fun x hx => ?_⟩
        · rw [List.flatMap_cons, ← h1]
          conv => lhs; rw [← List.take_append_drop i s, List.drop_eq_getElem_cons hlt, e47]
          simp
        · rcases List.mem_cons.1 hx with rfl | hx
          · intro hc
            obtain ⟨k, hk⟩ := List.mem_iff_getElem?.1 hc
            rw [List.getElem?_take] at hk
            split at hk
            · rename_i hlk; exact hbe k hlk hk
            · cases hk
          · exact h2 x hx
theorem sp_good {p : List UInt8} (h : (sp p).2 = 0) (hne : (sp p).1 ≠ []) : p = (sp p).1.flatMap (fun x => [47] ++ x) ∧ (∀ x ∈ (sp p).1, (47 : UInt8) ∉ x) ∧ chk 0 (sp p).1 = 0 ∧ (sp p).1 = splitV (p.drop 1) [47] := by
  unfold sp at h hne ⊢
  by_cases h1 : p.take 1 ≠ [47]
  · rw [if_pos h1] at hne; exact absurd rfl hne
  rw [if_neg h1] at h hne ⊢
  by_cases h2 : p = [47]
  · rw [if_pos h2] at hne; exact absurd rfl hne
  rw [if_neg h2] at h hne ⊢
  by_cases h3 : chk 0 (splitV (p.drop 1) [47]) ≠ 0
  · rw [if_pos h3] at hne; exact absurd rfl hne
  rw [if_neg h3] at h hne ⊢
  obtain ⟨e1, e2⟩ := split_parts _ (p.drop 1) (Nat.le_refl _)
  refine ⟨?_, e2, by simpa using h3, rfl⟩
  show p = (splitV (p.drop 1) [47]).flatMap _
  rw [← e1]
  have := List.take_append_drop 1 p
  rw [show p.take 1 = [47] from by simpa using h1] at this
  exact this.symm
theorem sp_zero_take {p : List UInt8} (h : (sp p).2 = 0) : p.take 1 = [47] := by
  unfold sp at h
  by_cases h1 : p.take 1 ≠ [47]
  · rw [if_pos h1] at h; exact absurd h (by decide)
  · simpa using h1
theorem bat {s : List UInt8} {i : Nat} : En.bAt s (i : Int) = ((s.getD i 0).toNat : Int) := rfl
theorem last_go (a b : List UInt8) (hb : (47 : UInt8) ∉ b) (hl : a.length + b.length + 1 ≤ 1048577) (kk : Unit → Option Int) : ∀ (d i fu : Nat), i = a.length + d → d ≤ b.length → d < fu → f_bytealg_LastIndexByteString_L5 (a ++ 47 :: b) 47 kk fu (i : Int) = some (a.length : Int)
  | _, _, 0, _, _, h => absurd h (Nat.not_lt_zero _)
  | 0, i, fu + 1, hi, _, _ => by
    subst hi
    rw [f_bytealg_LastIndexByteString_L5, cond_tt (decide_eq_true (by omega)), req_pos ⟨by omega, by rw [List.length_append, List.length_cons]; omega⟩, bat, show (a ++ 47 :: b).getD (a.length + 0) 0 = 47 from by simp [List.getD], cond_tt (by decide)]; rfl
  | d + 1, i, fu + 1, hi, hd, hf => by
    have hlt : d < b.length := by omega
    have hne : b[d] ≠ 47 := fun e => hb (e ▸ List.getElem_mem hlt)
    have hg : (a ++ 47 :: b).getD i 0 = b[d] := by
      rw [List.getD_eq_getElem?_getD, List.getElem?_append_right (by omega), show i - a.length = d + 1 from by omega, List.getElem?_cons_succ, List.getElem?_eq_getElem hlt]; rfl
    rw [f_bytealg_LastIndexByteString_L5, cond_tt (decide_eq_true (by omega)), req_pos ⟨by omega, by rw [List.length_append, List.length_cons]; omega⟩, bat, hg, cond_ff (by
      rw [beq_eq_false_iff_ne]; intro e
      exact hne (UInt8.toNat_inj.1 (by rw [show (b[d].toNat : Nat) = 47 from by omega]; rfl))), show IntKind.i64.wrap ((i : Int) - 1) = ((i - 1 : Nat) : Int) from by rw [w64 (by omega) (by omega)]; omega]
    exact last_go a b hb hl kk d (i - 1) fu (by omega) (by omega) (by omega)
theorem last_ok (a b : List UInt8) (hb : (47 : UInt8) ∉ b) (hl : a.length + b.length + 1 ≤ 1048577) (fu : Nat) (hf : 2000000 ≤ fu) : f_bytealg_LastIndexByteString fu (a ++ 47 :: b) 47 = some (a.length : Int) := by
  unfold f_bytealg_LastIndexByteString
  rw [lt_of, show IntKind.i64.wrap (((a ++ 47 :: b).length : Int) - 1) = ((a.length + b.length : Nat) : Int) from by rw [List.length_append, List.length_cons, w64 (by omega) (by omega)]; omega]
  exact last_go a b hb hl _ b.length _ fu rfl (Nat.le_refl _) (by omega)
def par (p : List UInt8) : List UInt8 := ((sp p).1.take ((sp p).1.length - 1)).flatMap (fun x => [47] ++ x)
theorem par_last {l : L2} (h : l ≠ []) : l.flatMap (fun x => [47] ++ x) = (l.take (l.length - 1)).flatMap (fun x => [47] ++ x) ++ 47 :: l.getLast h := by
  have e := List.dropLast_concat_getLast h
  have e2 : (l.dropLast ++ [l.getLast h]).flatMap (fun x => [47] ++ x) = l.dropLast.flatMap (fun x => [47] ++ x) ++ [l.getLast h].flatMap (fun x => [47] ++ x) := List.flatMap_append
  rw [e] at e2
  rw [e2, List.dropLast_eq_take, List.flatMap_singleton]; rfl
theorem par_split {p : List UInt8} (h : (sp p).2 = 0) (hne : (sp p).1 ≠ []) : p = par p ++ 47 :: (sp p).1.getLast hne ∧ (47 : UInt8) ∉ (sp p).1.getLast hne := by
  obtain ⟨h1, h2, h3, _⟩ := sp_good h hne
  refine ⟨?_, h2 _ (List.getLast_mem hne)⟩
  conv => lhs; rw [h1]
  exact par_last hne
theorem parent_ok {p : List UInt8} (h : (sp p).2 = 0) (hne : (sp p).1 ≠ []) (hp : p.length ≤ 1048576) (fu : Nat) (hf : 2000000 ≤ fu) : f_walk_Parent fu p = some (par p) := by
  obtain ⟨h1, h2⟩ := par_split h hne
  unfold f_walk_Parent f_strings_LastIndexByte
  generalize hb : (sp p).1.getLast hne = b at h1 h2
  generalize ha : par p = a at h1
  subst h1
  rw [List.length_append, List.length_cons] at hp
  rw [last_ok a b h2 (by omega) fu hf, opt_of, opt_of, req_pos ⟨by omega, by rw [List.length_append]; omega⟩, Int.toNat_natCast, List.take_left]
def itemV (x : It) : Int := if (sp x.Path).2 ≠ 0 then (sp x.Path).2 else if (sp x.Path).1 = [] then 8 else if ¬ (x.Kind = 1 ∨ x.Kind = 2 ∨ x.Kind = 3) then 5 else if x.Mode < 0 ∨ x.Mode > 511 then 1
  else if (x.Kind = 1 ∧ x.Bytes.length > 4096) ∨ (x.Kind = 2 ∧ x.Bytes ≠ []) ∨ (x.Kind = 3 ∧ x.Bytes.length > 1024) then 2 else if x.Kind = 3 ∧ x.Bytes = [] then 4 else 0
theorem len0 {α : Type} (l : List α) : ((l.length : Int) == 0) = decide (l = []) := by
  cases l with
  | nil => rfl
  | cons a t => rw [beq_eq_false_iff_ne.2 (by rw [List.length_cons]; omega)]; rfl
theorem ne0 (e : Int) : (e != 0) = decide (e ≠ 0) := by by_cases h : e = 0 <;> simp [h]
theorem nlt (a b : Nat) : (a > b) = ((b : Int) < (a : Int)) := by rw [eq_iff_iff]; omega
theorem item1 (x : It) (hp : x.Path.length ≤ 1048576) (fu : Nat) (hf : 2000000 ≤ fu) : f_walk_item fu x = some (itemV x) := by
  unfold f_walk_item itemV f_tree_Known
  rw [split1 _ hp fu hf, opt_of, ne0, cond_dec, len0, cond_dec]
  split
  · rfl
  split
  · rfl
  by_cases k1 : x.Kind = 1
  · rw [k1]
    simp only [lt_of]
    by_cases m0 : x.Mode < 0
    · simp [m0]
    by_cases m1 : 511 < x.Mode
    · simp [m0, m1]
    by_cases b1 : (4096 : Int) < (x.Bytes.length : Int)
    · simp [m0, m1, b1, nlt]
    · simp [m0, m1, b1, nlt]
  by_cases k2 : x.Kind = 2
  · rw [k2]
    simp only [lt_of]
    by_cases m0 : x.Mode < 0
    · simp [m0]
    by_cases m1 : 511 < x.Mode
    · simp [m0, m1]
    by_cases b1 : x.Bytes = []
    · simp [m0, m1, b1, nlt]
    · have b2 : (x.Bytes == []) = false := by simpa using b1
      simp [m0, m1, b1, b2, nlt]
  by_cases k3 : x.Kind = 3
  · rw [k3]
    simp only [lt_of]
    by_cases m0 : x.Mode < 0
    · simp [m0]
    by_cases m1 : 511 < x.Mode
    · simp [m0, m1]
    by_cases b1 : (1024 : Int) < (x.Bytes.length : Int)
    · simp [m0, m1, b1, nlt]
    by_cases b2 : x.Bytes = []
    · simp [m0, m1, b1, b2, nlt]
    · have b3 : (x.Bytes == []) = false := by simpa using b2
      simp [m0, m1, b1, b2, b3, nlt]
  · have hk : ¬ (1 ≤ x.Kind ∧ x.Kind ≤ 3) := by omega
    rw [if_pos (by simp [k1, k2, k3])]
    by_cases h1 : 1 ≤ x.Kind
    · have h3 : ¬ x.Kind ≤ 3 := fun h => hk ⟨h1, h⟩
      simp [h1, h3]
    · simp [h1]
theorem item2 (x : It) (hp : x.Path.length ≤ 1048576) (fu : Nat) (hf : 2000000 ≤ fu) : f_lumref_itemErr fu x = some (itemV x) := by
  unfold f_lumref_itemErr itemV
  rw [split2 _ hp fu hf, opt_of, ne0, cond_dec, len0, cond_dec]
  split
  · rfl
  split
  · rfl
  by_cases k1 : x.Kind = 1
  · rw [k1]
    simp only [lt_of]
    by_cases m0 : x.Mode < 0
    · simp [m0]
    by_cases m1 : 511 < x.Mode
    · simp [m0, m1]
    by_cases b1 : (4096 : Int) < (x.Bytes.length : Int)
    · simp [m0, m1, b1, nlt]
    · simp [m0, m1, b1, nlt]
  by_cases k2 : x.Kind = 2
  · rw [k2]
    simp only [lt_of]
    by_cases m0 : x.Mode < 0
    · simp [m0]
    by_cases m1 : 511 < x.Mode
    · simp [m0, m1]
    by_cases b1 : x.Bytes = []
    · simp [m0, m1, b1, nlt]
    · have b2 : (x.Bytes == []) = false := by simpa using b1
      simp [m0, m1, b1, b2, nlt]
  by_cases k3 : x.Kind = 3
  · rw [k3]
    simp only [lt_of]
    by_cases m0 : x.Mode < 0
    · simp [m0]
    by_cases m1 : 511 < x.Mode
    · simp [m0, m1]
    by_cases b1 : (1024 : Int) < (x.Bytes.length : Int)
    · simp [m0, m1, b1, nlt]
    by_cases b2 : x.Bytes = []
    · simp [m0, m1, b1, b2, nlt]
    · have b3 : (x.Bytes == []) = false := by simpa using b2
      simp [m0, m1, b1, b2, b3, nlt]
  · rw [if_pos (by simp [k1, k2, k3]), show (x.Kind != 1) = true from by rw [bne_iff_ne]; exact k1, show (x.Kind != 2) = true from by rw [bne_iff_ne]; exact k2, show (x.Kind != 3) = true from by rw [bne_iff_ne]; exact k3]; rfl
theorem itemV_zero {x : It} (h : itemV x = 0) : (sp x.Path).2 = 0 ∧ (sp x.Path).1 ≠ [] := by
  unfold itemV at h
  by_cases h1 : (sp x.Path).2 ≠ 0
  · rw [if_pos h1] at h; exact absurd h h1
  rw [if_neg h1] at h
  by_cases h2 : (sp x.Path).1 = []
  · rw [if_pos h2] at h; exact absurd h (by decide)
  · exact ⟨by simpa using h1, h2⟩
theorem ah_irr : ∀ l : L2, ah l l = false
  | [] => rfl
  | x :: l => by rw [ah_cons, if_neg (by simp), ah_irr l]
theorem ah_trans : ∀ {a b c : L2}, ah a b = true → ah b c = true → ah a c = true
  | a, [], c, h, _ => by rw [ah_nil] at h; cases h
  | a, _ :: _, [], _, h => by rw [ah_nil] at h; cases h
  | [], _ :: _, _ :: _, _, _ => rfl
  | x :: a, y :: b, z :: c, h, h' => by
    rw [ah_cons] at h h' ⊢
    by_cases e1 : x = y
    · subst e1
      rw [if_neg (by simp)] at h
      by_cases e2 : x = z
      · subst e2
        rw [if_neg (by simp)] at h' ⊢
        exact ah_trans h h'
      · rw [if_pos e2] at h' ⊢; exact h'
    · rw [if_pos e1] at h
      by_cases e2 : y = z
      · subst e2; rw [if_pos e1]; exact h
      · rw [if_pos e2] at h'
        have h3 := StrOrd.trans h h'
        rw [if_pos (fun e => by subst e; exact StrOrd.irr _ h3)]; exact h3
def pth (x : It) : L2 := (sp x.Path).1
def bel (x y : It) : Bool := ah (pth x) (pth y)
def parOK (w : List It) (x : It) : Bool := decide ((pth x).length = 1) || w.any (fun y => y.Path == par x.Path && y.Kind == 2)
def wGo : List It → List It → Int
  | _, [] => 0
  | w, x :: t => if itemV x ≠ 0 then itemV x else if (w.getLast?.any fun y => !bel y x) = true then 4 else if parOK w x = false then 9 else wGo (w ++ [x]) t
theorem wGo_cons (w : List It) (x : It) (t : List It) : wGo w (x :: t) = if itemV x ≠ 0 then itemV x else if (w.getLast?.any fun y => !bel y x) = true then 4 else if parOK w x = false then 9 else wGo (w ++ [x]) t := rfl
def worldV (w : List It) : Int := if w.length > 100 then 2 else wGo [] w
def Good (w : List It) : Prop := (∀ x ∈ w, itemV x = 0) ∧ w.Pairwise (fun x y => bel x y = true)
theorem good_snoc {w : List It} {x : It} (h : Good w) (hx : itemV x = 0) (hl : (w.getLast?.any fun y => !bel y x) = false) : Good (w ++ [x]) := by
  refine ⟨fun y hy => ?_, ?_⟩
  · rcases List.mem_append.1 hy with hy | hy
    · exact h.1 y hy
    · rw [List.mem_singleton.1 hy]; exact hx
  · rw [List.pairwise_append]
    refine ⟨h.2, List.pairwise_singleton _ _, fun y hy z hz => ?_⟩
    rw [List.mem_singleton.1 hz]
    have hne : w ≠ [] := fun e => by rw [e] at hy; cases hy
    rw [List.getLast?_eq_some_getLast hne] at hl
    have h1 : bel (w.getLast hne) x = true := by simpa using hl
    obtain ⟨l1, l2, e⟩ := List.append_of_mem hy
    by_cases h2 : l2 = []
    · have : y = w.getLast hne := by subst e; subst h2; simp
      rw [this]; exact h1
    · have hp := h.2
      rw [e, List.pairwise_append] at hp
      have h3 := (List.pairwise_cons.1 hp.2.1).1 (l2.getLast h2) (List.getLast_mem h2)
      have h4 : w.getLast hne = l2.getLast h2 := by subst e; simp [List.getLast_append, List.getLast_cons h2]
      rw [h4] at h1
      exact ah_trans h3 h1
theorem good_ne {w : List It} {x : It} (h : Good (w ++ [x])) {y : It} (hy : y ∈ w) : y.Path ≠ x.Path := fun e => by
  have := (List.pairwise_append.1 h.2).2.2 y hy x (by simp)
  unfold bel pth at this
  rw [e, ah_irr] at this; cases this
def Tab (D : List (List UInt8 × Bool)) (w : List It) : Prop := ∀ q, (gget D q).getD false = (decide (q = []) || w.any (fun y => y.Path == q && y.Kind == 2))
theorem path_ne {x : It} (h : itemV x = 0) : x.Path ≠ [] := fun e => by
  have := sp_zero_take (itemV_zero h).1
  rw [e] at this; cases this
theorem tab_snoc {D : List (List UInt8 × Bool)} {w : List It} {x : It} (h : Tab D w) (hg : Good (w ++ [x])) : Tab (gset D x.Path (x.Kind == 2)) (w ++ [x]) := fun q => by
  rw [gget_gset, List.any_append, List.any_cons, List.any_nil, Bool.or_false]
  by_cases e : x.Path = q
  · subst e
    rw [if_pos rfl]
    have h1 : (w.any fun y => y.Path == x.Path && y.Kind == 2) = false := by
      rw [List.any_eq_false]; intro y hy
      simp [good_ne hg hy]
    have h2 : x.Path ≠ [] := path_ne (hg.1 x (by simp))
    rw [h1, decide_eq_false h2]; simp
  · rw [if_neg e, h q, beq_eq_false_iff_ne.2 e]; simp
theorem par_nil {x : It} (h : itemV x = 0) : par x.Path = [] ↔ (pth x).length = 1 := by
  obtain ⟨h1, h2⟩ := itemV_zero h
  have hl := List.length_pos_iff.2 h2
  unfold par pth
  constructor
  · intro e
    have e' : ((sp x.Path).1.take ((sp x.Path).1.length - 1)) = [] := by
      cases hq : (sp x.Path).1.take ((sp x.Path).1.length - 1) with
      | nil => rfl
      | cons a b => rw [hq] at e; simp at e
    have := congrArg List.length e'
    rw [List.length_take, List.length_nil] at this
    omega
  · intro e; rw [e]; rfl
theorem tab_par {D : List (List UInt8 × Bool)} {w : List It} (h : Tab D w) {x : It} (hx : itemV x = 0) : (gget D (par x.Path)).getD false = parOK w x := by
  rw [h]; unfold parOK
  rw [decide_eq_decide.2 (par_nil hx)]
def Sz (w : List It) : Prop := ∀ x ∈ w, x.Path.length ≤ 1048576
theorem par_len {p : List UInt8} (h : (sp p).2 = 0) (hne : (sp p).1 ≠ []) : (par p).length ≤ p.length := by
  obtain ⟨h1, _⟩ := par_split h hne
  have := congrArg List.length h1
  rw [List.length_append] at this; omega
theorem check_go (w : List It) (hs : Sz w) (hl : w.length ≤ 100) (g : Nat) (hg : 2000000 ≤ g) : ∀ (d i fu : Nat) (D : List (List UInt8 × Bool)), w.length - i = d → i ≤ w.length → d < fu → Good (w.take i) → Tab D (w.take i) →
    f_walk_Check_L8 w (fun _ => some (0 : Int)) g fu D (i : Int) = some (wGo (w.take i) (w.drop i))
  | _, _, 0, _, _, _, h, _, _ => absurd h (Nat.not_lt_zero _)
  | 0, i, fu + 1, D, hd, hi, _, _, _ => by
    rw [f_walk_Check_L8, cond_ff (dge (by omega)), List.drop_of_length_le (by omega)]; rfl
  | d + 1, i, fu + 1, D, hd, hi, hf, hG, hT => by
    have hlt : i < w.length := by omega
    have hx := hs _ (List.getElem_mem hlt)
    have htk : w.take (i + 1) = w.take i ++ [w[i]] := by rw [List.take_add_one, List.getElem?_eq_getElem hlt]; rfl
    rw [f_walk_Check_L8, cond_tt (dlt (by omega)), at_lt hlt, opt_of, List.drop_eq_getElem_cons hlt, wGo_cons, item1 _ hx g hg, opt_of]
    by_cases h0 : itemV w[i] = 0
    · rw [cond_ff (show (itemV w[i] != 0) = false from by simpa using h0), if_neg (by simpa using h0), lt_of]
      obtain ⟨s1, s2⟩ := itemV_zero h0
      have tail : ∀ b : Bool, b = ((w.take i).getLast?.any fun y => !bel y w[i]) →
          (bif b then (some (4 : Int)) else (opt (f_walk_Parent g w[i].Path) fun (r21 : (List UInt8)) => (req (r21.length ≤ 9223372036854775807) (bif (!((gget D r21).getD false)) then (some (9 : Int)) else (req (w[i].Path.length ≤ 9223372036854775807) (f_walk_Check_L8 w (fun _ => some (0 : Int)) g fu (gset D w[i].Path (w[i].Kind == (2 : Int))) (IntKind.i64.wrap ((i : Int) + (1 : Int)))))))))
            = some (if ((w.take i).getLast?.any fun y => !bel y w[i]) = true then 4 else if parOK (w.take i) w[i] = false then 9 else wGo (w.take i ++ [w[i]]) (w.drop (i + 1))) := by
        intro b hb
        rw [← hb]
        cases b with
        | true => rfl
        | false =>
          have hG2 := good_snoc hG h0 hb.symm
          have hpl := par_len s1 s2
          rw [cond_ff rfl, if_neg (by simp), parent_ok s1 s2 hx g hg, opt_of, req_pos (by omega), tab_par hT h0]
          cases hpo : parOK (w.take i) w[i] with
          | false => rfl
          | true =>
            rw [cond_ff (show (!true) = false from rfl), if_neg (by simp), req_pos (by omega), wsucc (by omega), ← htk]
            exact check_go w hs hl g hg d (i + 1) fu _ (by omega) (by omega) (by omega) (by rw [htk]; exact hG2) (by rw [htk]; exact tab_snoc hT hG2)
      by_cases hi0 : 0 < i
      · have hlt1 : i - 1 < w.length := by omega
        have hlast : (w.take i).getLast? = some w[i - 1] := by
          rw [List.getLast?_eq_getElem?, List.length_take, Nat.min_eq_left hi, List.getElem?_take_of_lt (by omega), List.getElem?_eq_getElem hlt1]
        obtain ⟨c, c1, c2⟩ := compare1 w[i - 1].Path w[i].Path (hs _ (List.getElem_mem hlt1)) hx g hg
        rw [cond_tt (decide_eq_true (by omega)), show IntKind.i64.wrap ((i : Int) - 1) = ((i - 1 : Nat) : Int) from by rw [w64 (by omega) (by omega)]; omega, at_lt hlt1, opt_of, c1, opt_of]
        refine tail (decide (c ≥ 0)) ?_
        rw [hlast]
        show decide (c ≥ 0) = !bel w[i - 1] w[i]
        unfold bel pth
        rw [← c2]
        by_cases hc : c < 0
        · rw [decide_eq_true hc, decide_eq_false (by omega)]; rfl
        · rw [decide_eq_false hc, decide_eq_true (by omega)]; rfl
      · have : i = 0 := by omega
        subst this
        rw [cond_ff (by decide)]
        exact tail false rfl
    · rw [cond_tt (show (itemV w[i] != 0) = true from by simpa using h0), if_pos h0]
theorem check_ok (w : List It) (hs : Sz w) (fu : Nat) (hf : 2000000 ≤ fu) : f_walk_Check fu w = some (worldV w) := by
  unfold f_walk_Check worldV
  by_cases h : w.length > 100
  · rw [cond_tt (decide_eq_true (by omega)), if_pos h]
  · rw [cond_ff (decide_eq_false (by omega)), if_neg h, req_pos (by simp), lt_of]
    have := check_go w hs (by omega) fu hf _ 0 fu (gset [] [] true) rfl (Nat.zero_le _) (by omega) ⟨by simp, by simp⟩ (fun q => by
      show ((if ([] : List UInt8) = q then some true else gget [] q).getD false) = _
      by_cases e : q = []
      · rw [if_pos e.symm, e]; rfl
      · rw [if_neg (fun h => e h.symm), decide_eq_false e]; rfl)
    exact this
theorem found_go (w : List It) (i : Nat) (hi : i ≤ w.length) (hl : w.length ≤ 100) (r : List UInt8 × Int) (kk : Bool → Option Int) : ∀ (d j fu : Nat) (b : Bool), i - j = d → j ≤ i → d < fu →
    f_lumref_World_L34 w (i : Int) r kk fu b (j : Int) = kk (b || ((w.take i).drop j).any fun y => y.Path == r.1 && y.Kind == 2)
  | _, _, 0, _, _, _, h => absurd h (Nat.not_lt_zero _)
  | 0, j, fu + 1, b, hd, hj, _ => by
    rw [f_lumref_World_L34, Int.toNat_natCast, cond_ff (dge (by rw [List.length_take]; omega)), List.drop_of_length_le (by rw [List.length_take]; omega), List.any_nil, Bool.or_false]
  | d + 1, j, fu + 1, b, hd, hj, hf => by
    have hlen : (w.take i).length = i := by rw [List.length_take]; omega
    have hlt : j < (w.take i).length := by omega
    rw [f_lumref_World_L34, Int.toNat_natCast, cond_tt (dlt (by omega)), lt_of, at_lt hlt, opt_of, List.drop_eq_getElem_cons hlt, List.any_cons, wsucc (by omega)]
    have ih := fun b' => found_go w i hi hl r kk d (j + 1) fu b' (by omega) (by omega) (by omega)
    cases b with
    | true => rw [cond_tt rfl]; exact (ih true).trans (by simp)
    | false =>
      rw [cond_ff rfl, Bool.false_or]
      by_cases h1 : (w.take i)[j].Path = r.1
      · rw [cond_tt (beq_iff_eq.2 h1), beq_iff_eq.2 h1, Bool.true_and]; exact ih _
      · rw [cond_ff (beq_eq_false_iff_ne.2 h1), beq_eq_false_iff_ne.2 h1, Bool.false_and, Bool.false_or]; exact (ih false).trans (by rw [Bool.false_or])
theorem up_ok {x : It} (h : itemV x = 0) (hx : x.Path.length ≤ 1048576) : jr ((pth x).take ((pth x).length - 1)) = (if par x.Path = [] then [47] else par x.Path, 0) := by
  obtain ⟨s1, s2⟩ := itemV_zero h
  obtain ⟨_, _, h3, _⟩ := sp_good s1 s2
  have hck : ∀ (l : L2) (i k : Nat), chk i l = 0 → chk i (l.take k) = 0 := by
    intro l
    induction l with
    | nil => intro i k h; rw [List.take_nil]; exact h
    | cons a t ih =>
      intro i k h
      cases k with
      | zero => rfl
      | succ k =>
        rw [List.take_succ_cons, chk_cons]
        rw [chk_cons] at h
        by_cases h1 : 8 ≤ i
        · rw [if_pos h1] at h; exact absurd h (by decide)
        rw [if_neg h1] at h ⊢
        by_cases h2 : nameV a ≠ 0
        · rw [if_pos h2] at h; exact absurd h h2
        rw [if_neg h2] at h ⊢
        exact ih _ _ h
  unfold jr jn par pth
  rw [hck _ 0 _ h3, if_neg (by simp)]
  cases hq : (sp x.Path).1.take ((sp x.Path).1.length - 1) with
  | nil => rfl
  | cons a b => rw [if_neg (by simp), if_neg (by simp)]
theorem up_eq {x : It} (h : itemV x = 0) (w : List It) (hG : Good w) : ((if par x.Path = [] then [47] else par x.Path) == [47] || w.any fun y => y.Path == (if par x.Path = [] then [47] else par x.Path) && y.Kind == 2) = parOK w x := by
  unfold parOK
  by_cases e : par x.Path = []
  · rw [if_pos e, decide_eq_true ((par_nil h).1 e)]; rfl
  · rw [if_neg e, decide_eq_false (fun h' => e ((par_nil h).2 h')), Bool.false_or]
    have : (par x.Path == [47]) = false := by
      rw [beq_eq_false_iff_ne]; intro e2
      obtain ⟨s1, s2⟩ := itemV_zero h
      obtain ⟨_, _, h3, _⟩ := sp_good s1 s2
      unfold par at e2
      cases hq : (sp x.Path).1 with
      | nil => exact s2 hq
      | cons a t =>
        rw [hq] at e2 h3
        cases t with
        | nil => exact absurd e2 (by simp)
        | cons b t =>
          rw [chk_cons] at h3
          by_cases h2 : nameV a ≠ 0
          · rw [if_neg (by decide), if_pos h2] at h3; exact h2 h3
          · simp at e2
            have ha := e2.1
            subst ha
            exact h2 (by decide)
    rw [this, Bool.false_or]
theorem world_go (w : List It) (hs : Sz w) (hl : w.length ≤ 100) (g : Nat) (hg : 2000000 ≤ g) : ∀ (d i fu : Nat), w.length - i = d → i ≤ w.length → d < fu → Good (w.take i) →
    f_lumref_World_L6 w (fun _ => some (0 : Int)) g fu (i : Int) = some (wGo (w.take i) (w.drop i))
  | _, _, 0, _, _, h, _ => absurd h (Nat.not_lt_zero _)
  | 0, i, fu + 1, hd, hi, _, _ => by
    rw [f_lumref_World_L6, lt_of, cond_ff (dge (by omega)), List.drop_of_length_le (by omega)]; rfl
  | d + 1, i, fu + 1, hd, hi, hf, hG => by
    have hlt : i < w.length := by omega
    have hx := hs _ (List.getElem_mem hlt)
    have htk : w.take (i + 1) = w.take i ++ [w[i]] := by rw [List.take_add_one, List.getElem?_eq_getElem hlt]; rfl
    rw [f_lumref_World_L6, lt_of, cond_tt (dlt (by omega)), lt_of, at_lt hlt, opt_of, List.drop_eq_getElem_cons hlt, wGo_cons, item2 _ hx g hg, opt_of]
    by_cases h0 : itemV w[i] = 0
    · rw [cond_ff (show (itemV w[i] != 0) = false from by simpa using h0), if_neg (by simpa using h0), lt_of]
      obtain ⟨s1, s2⟩ := itemV_zero h0
      have hsm := sp_sm w[i].Path hx
      have hsl := hsm.1
      have hpos := List.length_pos_iff.2 s2
      have ew : IntKind.i64.wrap (((sp w[i].Path).1.length : Int) - 1) = (((sp w[i].Path).1.length - 1 : Nat) : Int) := by rw [w64 (by omega) (by omega)]; omega
      have tail : ((w.take i).getLast?.any fun y => !bel y w[i]) = false →
          (opt (f_lumref_Split g w[i].Path) fun (r21 : ((List (List UInt8)) × Int)) => (req (0 ≤ (IntKind.i64.wrap ((r21.1.length : Int) - (1 : Int))) ∧ (IntKind.i64.wrap ((r21.1.length : Int) - (1 : Int))) ≤ (r21.1.length : Int)) (opt (f_lumref_Join g (r21.1.take ((IntKind.i64.wrap ((r21.1.length : Int) - (1 : Int)))).toNat)) fun (r26 : ((List UInt8) × Int)) => (lt (fun (j27b12 : Bool) => (bif (!j27b12) then (some (9 : Int)) else (f_lumref_World_L6 w (fun _ => some (0 : Int)) g fu (IntKind.i64.wrap ((i : Int) + (1 : Int)))))) fun (kk28 : Bool → Option Int) => (req (0 ≤ (i : Int) ∧ (i : Int) ≤ (w.length : Int)) (f_lumref_World_L34 w (i : Int) r26 kk28 g (r26.1 == ([47] : List UInt8)) (0 : Int)))))))
            = some (if ((w.take i).getLast?.any fun y => !bel y w[i]) = true then 4 else if parOK (w.take i) w[i] = false then 9 else wGo (w.take i ++ [w[i]]) (w.drop (i + 1))) := by
        intro hb
        have hG2 := good_snoc hG h0 hb
        rw [hb, if_neg (by simp), split2 _ hx g hg, opt_of, ew, req_pos ⟨by omega, by omega⟩, Int.toNat_natCast, join2 _ ⟨by rw [List.length_take]; omega, fun s hs' => hsm.2 s (List.mem_of_mem_take hs')⟩ g hg, opt_of, lt_of, req_pos ⟨by omega, by omega⟩]
        have hu := up_ok h0 hx
        unfold pth at hu
        rw [hu]
        refine (found_go w i hi hl _ _ i 0 g _ (by omega) (by omega) (by omega)).trans ?_
        rw [List.drop_zero]
        dsimp only
        rw [up_eq h0 _ hG]
        cases hpo : parOK (w.take i) w[i] with
        | false => rfl
        | true =>
          rw [cond_ff (show (!true) = false from rfl), if_neg (by simp), wsucc (by omega), ← htk]
          exact world_go w hs hl g hg d (i + 1) fu (by omega) (by omega) (by omega) (by rw [htk]; exact hG2)
      by_cases hi0 : 0 < i
      · have hlt1 : i - 1 < w.length := by omega
        have hx1 := hs _ (List.getElem_mem hlt1)
        have hlast : (w.take i).getLast? = some w[i - 1] := by
          rw [List.getLast?_eq_getElem?, List.length_take, Nat.min_eq_left hi, List.getElem?_take_of_lt (by omega), List.getElem?_eq_getElem hlt1]
        have hprev : (sp w[i - 1].Path).2 = 0 := (itemV_zero (hG.1 w[i - 1] (List.mem_of_getLast? hlast))).1
        rw [cond_tt (decide_eq_true (by omega)), show IntKind.i64.wrap ((i : Int) - 1) = ((i - 1 : Nat) : Int) from by rw [w64 (by omega) (by omega)]; omega, at_lt hlt1, opt_of, less2 _ _ hx1 hx g hg, opt_of]
        have hls : ls w[i - 1].Path w[i].Path = (bel w[i - 1] w[i], 0) := by
          unfold ls bel pth
          rw [hprev, if_neg (by simp), s1, if_neg (by simp)]
        rw [hls]
        dsimp only
        cases hb : bel w[i - 1] w[i] with
        | true => rw [cond_ff (show (!true) = false from rfl)]; exact tail (by rw [hlast]; show (!bel w[i - 1] w[i]) = false; rw [hb]; rfl)
        | false => rw [cond_tt (show (!false) = true from rfl), hlast, if_pos (show (some w[i - 1]).any (fun y => !bel y w[i]) = true from by show (!bel w[i - 1] w[i]) = true; rw [hb]; rfl)]
      · have : i = 0 := by omega
        subst this
        rw [cond_ff (by decide)]
        exact tail rfl
    · rw [cond_tt (show (itemV w[i] != 0) = true from by simpa using h0), if_pos h0]
theorem world_ok (w : List It) (hs : Sz w) (fu : Nat) (hf : 2000000 ≤ fu) : f_lumref_World fu w = some (worldV w) := by
  unfold f_lumref_World worldV
  by_cases h : w.length > 100
  · rw [cond_tt (decide_eq_true (by omega)), if_pos h]
  · rw [cond_ff (decide_eq_false (by omega)), if_neg h, lt_of]
    exact world_go w hs (by omega) fu hf _ 0 fu rfl (Nat.zero_le _) (by omega) ⟨by simp, by simp⟩
theorem wGo_good : ∀ (t w : List It), Good w → wGo w t = 0 → Good (w ++ t)
  | [], w, h, _ => by rw [List.append_nil]; exact h
  | x :: t, w, h, h0 => by
    rw [wGo_cons] at h0
    by_cases h1 : itemV x ≠ 0
    · rw [if_pos h1] at h0; exact absurd h0 h1
    rw [if_neg h1] at h0
    by_cases h2 : (w.getLast?.any fun y => !bel y x) = true
    · rw [if_pos h2] at h0; exact absurd h0 (by decide)
    rw [if_neg h2] at h0
    by_cases h3 : parOK w x = false
    · rw [if_pos h3] at h0; exact absurd h0 (by decide)
    rw [if_neg h3] at h0
    have := wGo_good t (w ++ [x]) (good_snoc h (by simpa using h1) (by simpa using h2)) h0
    rw [List.append_assoc] at this; exact this
theorem world_good {w : List It} (h : worldV w = 0) : Good w ∧ w.length ≤ 100 := by
  unfold worldV at h
  by_cases h1 : w.length > 100
  · rw [if_pos h1] at h; exact absurd h (by decide)
  · rw [if_neg h1] at h
    exact ⟨by have := wGo_good w [] ⟨by simp, by simp⟩ h; rwa [List.nil_append] at this, by omega⟩
end Go.Proofs.YtfhifdmbdkkgaaaGreatDoor.PWorld
namespace Go.Proofs.YtfhifdmbdkkgaaaGreatDoor.PMoveReads
open Go.RowKit YtfhifdmbdkkgaaaGreatDoor.En YtfhifdmbdkkgaaaGreatDoor Num Mix PPut JF TX U8 PNamesSays PWorld
open Go.Lib hiding cut
set_option linter.unusedVariables false
set_option linter.unusedSimpArgs false
abbrev Od := S_api_Old
def intV (n : Int) : List UInt8 := if n < 0 then UInt8.ofNat (127 - (digF 8 ((-1) - n).toNat).length) :: (digF 8 ((-1) - n).toNat).map PPi.inv else UInt8.ofNat (128 + (digF 8 n.toNat).length) :: digF 8 n.toNat
theorem intV_len (n : Int) : (intV n).length ≤ 9 ∧ 1 ≤ (intV n).length := by
  unfold intV
  have h1 := digF_len 8 ((-1) - n).toNat
  have h2 := digF_len 8 n.toNat
  split
  · rw [List.length_cons, List.length_map]; omega
  · rw [List.length_cons]; omega
theorem putI_ok (n : Int) (h0 : -9223372036854775808 ≤ n) (h1 : n ≤ 9223372036854775807) (fu : Nat) (hf : 9 ≤ fu) : f_num_PutInt fu n = some (intV n) ∧ f_lumref_PutInt fu n = some (intV n) := by
  unfold f_num_PutInt f_lumref_PutInt intV
  by_cases hn : n < 0
  · obtain ⟨m, hm⟩ : ∃ m : Nat, (-1) - n = (m : Int) ∧ m < 9223372036854775808 := ⟨((-1 : Int) - n).toNat, by omega, by omega⟩
    have hl := digF_len 8 m
    rw [cond_tt (dlt hn), cond_tt (dlt hn), if_pos hn, hm.1, w64 (by omega) (by omega), PPi.uw (by omega), PPi.digits_ok m (by omega), PPi.rdigits_ok 8 m fu (by rw [PPi.p8]; omega) (by omega) (by omega), Int.toNat_natCast]
    simp only [opt_of]
    have e : IntKind.u8.wrap (IntKind.i64.wrap ((127 : Int) - ((digF 8 m).length : Int))) = ((127 - (digF 8 m).length : Nat) : Int) := by
      rw [w64 (by omega) (by omega), show (127 : Int) - ((digF 8 m).length : Int) = ((127 - (digF 8 m).length : Nat) : Int) by omega, u8w_in (by omega)]
    rw [e, req_pos ⟨by omega, by omega⟩, req_pos ⟨by omega, by omega⟩, PPi.turn_ok _ hl fu hf, PPi.rturn_ok _ hl fu hf]
    simp only [opt_of]
    rw [req_pos (by rw [List.length_singleton, List.length_map]; omega), Int.toNat_natCast]
    exact ⟨rfl, rfl⟩
  · obtain ⟨m, rfl⟩ : ∃ m : Nat, n = m := ⟨n.toNat, by omega⟩
    have hl := digF_len 8 m
    rw [cond_ff (dge (by omega)), cond_ff (dge (by omega)), if_neg hn, PPi.uw (by omega), PPi.digits_ok m (by omega), PPi.rdigits_ok 8 m fu (by rw [PPi.p8]; omega) (by omega) (by omega), Int.toNat_natCast]
    simp only [opt_of]
    have e : IntKind.u8.wrap (IntKind.i64.wrap ((128 : Int) + ((digF 8 m).length : Int))) = ((128 + (digF 8 m).length : Nat) : Int) := by
      rw [w64 (by omega) (by omega), show (128 : Int) + ((digF 8 m).length : Int) = ((128 + (digF 8 m).length : Nat) : Int) by omega, u8w_in (by omega)]
    rw [e, req_pos ⟨by omega, by omega⟩, req_pos (by rw [List.length_singleton]; omega), Int.toNat_natCast]
    exact ⟨rfl, rfl⟩
theorem inv_inv (b : UInt8) : PTreeInt.inv (PPi.inv b) = b := by
  apply UInt8.toNat_inj.1
  rw [PTreeInt.inv_nat, PPi.inv_nat]
  have := b.toNat_lt
  omega
theorem p7_lt {m : Nat} (h : m < 9223372036854775808) : m < 256 ^ 8 := by rw [PPut.p8]; omega
theorem getI_put (n : Int) (h0 : -9223372036854775808 ≤ n) (h1 : n ≤ 9223372036854775807) (rest : List UInt8) : PTreeInt.getI (intV n ++ rest) = (n, ((intV n).length : Int), 0) := by
  unfold intV
  by_cases hn : n < 0
  · obtain ⟨m, hm⟩ : ∃ m : Nat, (-1) - n = (m : Int) ∧ m < 9223372036854775808 := ⟨((-1 : Int) - n).toNat, by omega, by omega⟩
    have hl := digF_len 8 m
    rw [if_pos hn, hm.1, Int.toNat_natCast, List.cons_append]
    have hb : (UInt8.ofNat (127 - (digF 8 m).length)).toNat = 127 - (digF 8 m).length := u8o (by omega)
    show (if (UInt8.ofNat (127 - (digF 8 m).length)).toNat < 128 then PTreeInt.goI true _ (127 - (UInt8.ofNat (127 - (digF 8 m).length)).toNat) else _) = _
    rw [hb, if_pos (by omega), show 127 - (127 - (digF 8 m).length) = (digF 8 m).length from by omega]
    unfold PTreeInt.goI
    rw [if_neg (by omega), if_neg (by rw [List.length_append, List.length_map]; omega), List.take_left' (by rw [List.length_map])]
    have e1 : ((digF 8 m).map PPi.inv).map PTreeInt.inv = digF 8 m := by
      rw [List.map_map]
      conv => rhs; rw [← List.map_id (digF 8 m)]
      apply List.map_congr_left
      intro b _
      exact inv_inv b
    show PTreeInt.ends true (((digF 8 m).map PPi.inv).map PTreeInt.inv) _ = _
    rw [e1]
    unfold PTreeInt.ends
    rw [beNat_digF 8 m (p7_lt hm.2), if_neg (by rintro (h | h); exact digF_lead 8 m (p7_lt hm.2) h; omega)]
    show ((-1 : Int) - (m : Int), _, _) = _
    rw [List.length_cons, List.length_map, show (-1 : Int) - (m : Int) = n from by omega, Nat.add_comm]
  · obtain ⟨m, rfl⟩ : ∃ m : Nat, n = m := ⟨n.toNat, by omega⟩
    have hl := digF_len 8 m
    rw [if_neg hn, Int.toNat_natCast, List.cons_append]
    have hb : (UInt8.ofNat (128 + (digF 8 m).length)).toNat = 128 + (digF 8 m).length := u8o (by omega)
    show (if (UInt8.ofNat (128 + (digF 8 m).length)).toNat < 128 then _ else PTreeInt.goI false _ ((UInt8.ofNat (128 + (digF 8 m).length)).toNat - 128)) = _
    rw [hb, if_neg (by omega), Nat.add_sub_cancel_left]
    unfold PTreeInt.goI
    rw [if_neg (by omega), if_neg (by rw [List.length_append]; omega), List.take_left]
    show PTreeInt.ends false (digF 8 m) _ = _
    unfold PTreeInt.ends
    rw [beNat_digF 8 m (p7_lt (by omega)), if_neg (by rintro (h | h); exact digF_lead 8 m (p7_lt (by omega)) h; omega), List.length_cons, Nat.add_comm]
    rfl
def framesV (F : List UInt8 → A8u8) : List UInt8 → List (List UInt8) → List UInt8 × Int
  | out, [] => (out, 0)
  | out, u :: t => if 4096 < u.length then ([], 2) else if 65536 < (out ++ frameV F u).length then ([], 2) else framesV F (out ++ frameV F u) t
theorem framesV_cons (F : List UInt8 → A8u8) (out u : List UInt8) (t : List (List UInt8)) : framesV F out (u :: t) = if 4096 < u.length then ([], 2) else if 65536 < (out ++ frameV F u).length then ([], 2) else framesV F (out ++ frameV F u) t := rfl
theorem frames2_go {F : List UInt8 → A8u8} (hF : IdF F) (l : List (List UInt8)) (hl : l.length ≤ 9223372036854775807) (fu0 : Nat) (hfu : 6000 ≤ fu0) : ∀ (d i k q : Nat) (out : List UInt8), l.length - i = d → i ≤ l.length → d < k → d < q → out.length ≤ 65536 →
    f_journal_All_L5 l (fun j => some (j, 0)) fu0 k out (i : Int) = some (framesV F out (l.drop i)) ∧ f_lumref_Frames_L5 l (fun j => some (j, 0)) fu0 q out (i : Int) = some (framesV F out (l.drop i)) := by
  intro d
  induction d with
  | zero =>
    intro i k q out h1 h2 h3 h4 h5
    obtain ⟨k, rfl⟩ : ∃ k', k = k' + 1 := ⟨k - 1, by omega⟩
    obtain ⟨q, rfl⟩ : ∃ q', q = q' + 1 := ⟨q - 1, by omega⟩
    rw [f_journal_All_L5, f_lumref_Frames_L5, cond_ff (dge (by omega)), cond_ff (dge (by omega)), List.drop_of_length_le (by omega)]
    exact ⟨rfl, rfl⟩
  | succ d ih =>
    intro i k q out h1 h2 h3 h4 h5
    obtain ⟨k, rfl⟩ : ∃ k', k = k' + 1 := ⟨k - 1, by omega⟩
    obtain ⟨q, rfl⟩ : ∃ q', q = q' + 1 := ⟨q - 1, by omega⟩
    have hlt : i < l.length := by omega
    rw [f_journal_All_L5, f_lumref_Frames_L5, cond_tt (dlt (by omega)), cond_tt (dlt (by omega)), at_lt hlt, opt_of, opt_of, List.drop_eq_getElem_cons hlt, framesV_cons]
    obtain ⟨u, hu⟩ : ∃ u, u = l[i] := ⟨_, rfl⟩
    rw [← hu]
    by_cases hb : 4096 < u.length
    · rw [frame_large fu0 u hb, opt_of, decide_eq_true (show ((u.length : Nat) : Int) > 4096 by omega), cond_tt rfl, if_pos hb]
      dsimp only
      rw [cond_tt (show ((2 : Int) != 0) = true from rfl)]
      exact ⟨rfl, rfl⟩
    · have hp := putV_len u.length
      have hfl := frameV_len F u
      rw [frame_ok hF fu0 hfu u (by omega), rframe_ok hF fu0 hfu u (by omega), opt_of, decide_eq_false (show ¬ ((u.length : Nat) : Int) > 4096 by omega), cond_ff rfl, opt_of, if_neg hb]
      obtain ⟨f, hf⟩ : ∃ f, f = frameV F u := ⟨_, rfl⟩
      rw [← hf] at hfl ⊢
      dsimp only
      rw [cond_ff (show ((0 : Int) != 0) = false from rfl), req_pos (by omega), req_pos (by omega)]
      by_cases hbig : (out ++ f).length > 65536
      · rw [decide_eq_true (show (((out ++ f).length : Nat) : Int) > 65536 by omega), cond_tt rfl, cond_tt rfl, if_pos (by omega)]
        exact ⟨rfl, rfl⟩
      · rw [decide_eq_false (show ¬ (((out ++ f).length : Nat) : Int) > 65536 by omega), cond_ff rfl, cond_ff rfl, wsucc (by omega), if_neg (by omega)]
        exact ih (i + 1) k q (out ++ f) (by omega) (by omega) (by omega) (by omega) (by omega)
theorem frames_ok {F : List UInt8 → A8u8} (hF : IdF F) (l : List (List UInt8)) (fu : Nat) (hf : 6000 ≤ fu) (hl : l.length < fu) (hl2 : l.length ≤ 9223372036854775807) : f_journal_All fu l = some (framesV F [] l) ∧ f_lumref_Frames fu l = some (framesV F [] l) := by
  unfold f_journal_All f_lumref_Frames
  rw [lt_of, lt_of]
  have := frames2_go hF l hl2 fu hf l.length 0 fu fu [] rfl (Nat.zero_le _) hl hl (by simp)
  rw [List.drop_zero] at this
  exact this
theorem framesV_zero (F : List UInt8 → A8u8) : ∀ (l : List (List UInt8)) (out : List UInt8), (framesV F out l).2 = 0 → (framesV F out l).1 = out ++ l.flatMap (frameV F) ∧ (∀ u ∈ l, u.length ≤ 4096) ∧ (out.length ≤ 65536 → (out ++ l.flatMap (frameV F)).length ≤ 65536)
  | [], out, _ => by rw [List.flatMap_nil, List.append_nil]; exact ⟨rfl, by simp, id⟩
  | u :: t, out, h => by
    rw [framesV_cons] at h ⊢
    by_cases h1 : 4096 < u.length
    · rw [if_pos h1] at h; exact absurd h (by decide)
    rw [if_neg h1] at h ⊢
    by_cases h2 : 65536 < (out ++ frameV F u).length
    · rw [if_pos h2] at h; exact absurd h (by decide)
    rw [if_neg h2] at h ⊢
    obtain ⟨e1, e2, e3⟩ := framesV_zero F t _ h
    refine ⟨by rw [e1, List.flatMap_cons, List.append_assoc], fun x hx => ?_, fun _ => ?_⟩
    · rcases List.mem_cons.1 hx with rfl | hx
      · omega
      · exact e2 x hx
    · rw [List.flatMap_cons, ← List.append_assoc]; exact e3 (by omega)
def oneV (o : Od) : Int := if nameV o.Name ≠ 0 then nameV o.Name else if o.Time < 0 ∨ o.Time > 4223371679 then 1 else worldV o.World
def eGo : List Od → List Od → Int
  | _, [] => 0
  | w, o :: t => if oneV o ≠ 0 then oneV o else if w.any (fun p => p.Name == o.Name) = true then 10 else eGo (w ++ [o]) t
theorem eGo_cons (w : List Od) (o : Od) (t : List Od) : eGo w (o :: t) = if oneV o ≠ 0 then oneV o else if w.any (fun p => p.Name == o.Name) = true then 10 else eGo (w ++ [o]) t := rfl
def errV (l : List Od) : Int := if l.length > 20 then 2 else eGo [] l
def OS (o : Od) : Prop := o.Name.length ≤ 1048576 ∧ Sz o.World
theorem olderr_ok (o : Od) (h : OS o) (fu : Nat) (hf : 2000000 ≤ fu) : f_lumref_oldErr fu o = some (oneV o) := by
  unfold f_lumref_oldErr oneV
  rw [PTreeName.name_ok _ h.1 fu (by omega), opt_of]
  by_cases h1 : nameV o.Name = 0
  · rw [cond_ff (show (nameV o.Name != 0) = false from by simpa using h1), if_neg (by simpa using h1), lt_of, world_ok _ h.2 fu hf, opt_of]
    by_cases h2 : o.Time < 0
    · rw [cond_tt (dlt h2), if_pos (.inl h2)]; rfl
    · rw [cond_ff (decide_eq_false h2)]
      by_cases h3 : o.Time > 4223371679
      · rw [decide_eq_true h3, if_pos (.inr h3)]; rfl
      · rw [decide_eq_false h3, if_neg (by omega)]; rfl
  · rw [cond_tt (show (nameV o.Name != 0) = true from by simpa using h1), if_pos h1]
def Seen (m : List (List UInt8 × Bool)) (w : List Od) : Prop := ∀ n : List UInt8, (gget m n).getD false = w.any (fun p => p.Name == n)
theorem Seen.push {m : List (List UInt8 × Bool)} {w : List Od} (h : Seen m w) (o : Od) : Seen (gset m o.Name true) (w ++ [o]) := fun n => by
  rw [gget_gset, List.any_append, List.any_cons, List.any_nil, Bool.or_false]
  by_cases e : o.Name = n
  · rw [if_pos e, beq_iff_eq.2 e, Bool.or_true]; rfl
  · rw [if_neg e, h n, beq_eq_false_iff_ne.2 e, Bool.or_false]
theorem take_snoc {α : Type} {w : List α} {i : Nat} (h : i < w.length) : w.take (i + 1) = w.take i ++ [w[i]] := by rw [List.take_add_one, List.getElem?_eq_getElem h]; rfl
theorem check_go (w : List Od) (hs : ∀ o ∈ w, OS o) (hl : w.length ≤ 20) (g : Nat) (hg : 2000000 ≤ g) : ∀ (d i fu : Nat) (m : List (List UInt8 × Bool)), w.length - i = d → i ≤ w.length → d < fu → Seen m (w.take i) →
    f_move_check_L7 w (fun _ => some (0 : Int)) g fu m (i : Int) = some (eGo (w.take i) (w.drop i))
  | _, _, 0, _, _, _, h, _ => absurd h (Nat.not_lt_zero _)
  | 0, i, fu + 1, m, hd, hi, _, _ => by
    rw [f_move_check_L7, cond_ff (dge (by omega)), List.drop_of_length_le (by omega)]; rfl
  | d + 1, i, fu + 1, m, hd, hi, hf, hm => by
    have hlt : i < w.length := by omega
    obtain ⟨s1, s2⟩ := hs _ (List.getElem_mem hlt)
    rw [f_move_check_L7, cond_tt (dlt (by omega)), at_lt hlt, opt_of, List.drop_eq_getElem_cons hlt, eGo_cons, PTreeName.check_ok _ s1 g (by omega), opt_of]
    unfold oneV
    by_cases h1 : nameV w[i].Name = 0
    · rw [cond_ff (show (nameV w[i].Name != 0) = false from by simpa using h1), lt_of, PWorld.check_ok _ s2 g hg, opt_of, if_neg (c := nameV w[i].Name ≠ 0) (by simpa using h1)]
      have key : (fun (j18b31 : Bool) => (bif j18b31 then (some (1 : Int)) else (bif (worldV w[i].World != (0 : Int)) then (some (worldV w[i].World)) else (req (w[i].Name.length ≤ 9223372036854775807) (bif ((gget m w[i].Name).getD false) then (some (10 : Int)) else (req (w[i].Name.length ≤ 9223372036854775807) (f_move_check_L7 w (fun _ => some (0 : Int)) g fu (gset m w[i].Name true) (IntKind.i64.wrap ((i : Int) + (1 : Int)))))))))) false
          = some (if worldV w[i].World ≠ 0 then worldV w[i].World else if (w.take i).any (fun p => p.Name == w[i].Name) = true then 10 else eGo (w.take i ++ [w[i]]) (w.drop (i + 1))) := by
        dsimp only
        rw [cond_ff rfl]
        by_cases h3 : worldV w[i].World = 0
        · rw [cond_ff (show (worldV w[i].World != 0) = false from by simpa using h3), if_neg (by simpa using h3), req_pos (by omega), hm]
          cases h4 : (w.take i).any (fun p => p.Name == w[i].Name) with
          | true => rfl
          | false =>
            rw [cond_ff rfl, if_neg (by simp), req_pos (by omega), wsucc (by omega), ← take_snoc hlt]
            exact check_go w hs hl g hg d (i + 1) fu _ (by omega) (by omega) (by omega) (by rw [take_snoc hlt]; exact hm.push _)
        · rw [cond_tt (show (worldV w[i].World != 0) = true from by simpa using h3), if_pos h3]
      by_cases h2 : w[i].Time < 0
      · rw [cond_tt (dlt h2), if_pos (c := w[i].Time < 0 ∨ w[i].Time > 4223371679) (.inl h2)]; rfl
      · rw [cond_ff (decide_eq_false h2)]
        by_cases h3 : w[i].Time > 4223371679
        · rw [decide_eq_true h3, if_pos (c := w[i].Time < 0 ∨ w[i].Time > 4223371679) (.inr h3)]; rfl
        · rw [decide_eq_false h3, if_neg (c := w[i].Time < 0 ∨ w[i].Time > 4223371679) (by omega)]
          exact key
    · rw [cond_tt (show (nameV w[i].Name != 0) = true from by simpa using h1), if_pos (c := nameV w[i].Name ≠ 0) h1, if_pos h1]
theorem mcheck_ok (w : List Od) (hs : ∀ o ∈ w, OS o) (fu : Nat) (hf : 2000000 ≤ fu) : f_move_check fu w = some (errV w) := by
  unfold f_move_check errV
  by_cases h : w.length > 20
  · rw [cond_tt (decide_eq_true (by omega)), if_pos h]
  · rw [cond_ff (decide_eq_false (by omega)), if_neg h, lt_of]
    exact check_go w hs (by omega) fu hf _ 0 fu [] rfl (Nat.zero_le _) (by omega) (fun n => rfl)
theorem eGo_zero : ∀ (t w : List Od), eGo w t = 0 → ∀ o ∈ t, oneV o = 0
  | [], _, _, _, h => by cases h
  | x :: t, w, h, o, ho => by
    rw [eGo_cons] at h
    by_cases h1 : oneV x ≠ 0
    · rw [if_pos h1] at h; exact absurd h h1
    rw [if_neg h1] at h
    by_cases h2 : w.any (fun p => p.Name == x.Name) = true
    · rw [if_pos h2] at h; exact absurd h (by decide)
    rw [if_neg h2] at h
    rcases List.mem_cons.1 ho with rfl | ho
    · simpa using h1
    · exact eGo_zero t _ h o ho
structure GO (o : Od) : Prop where
  name : nameV o.Name = 0
  t0 : 0 ≤ o.Time
  t1 : o.Time ≤ 4223371679
  good : PWorld.Good o.World
  few : o.World.length ≤ 100
theorem go_of {o : Od} (h : oneV o = 0) : GO o := by
  unfold oneV at h
  by_cases h1 : nameV o.Name ≠ 0
  · rw [if_pos h1] at h; exact absurd h h1
  rw [if_neg h1] at h
  by_cases h2 : o.Time < 0 ∨ o.Time > 4223371679
  · rw [if_pos h2] at h; exact absurd h (by decide)
  rw [if_neg h2] at h
  obtain ⟨g1, g2⟩ := world_good h
  exact ⟨by simpa using h1, by omega, by omega, g1, g2⟩
theorem errV_zero {l : List Od} (h : errV l = 0) : l.length ≤ 20 ∧ ∀ o ∈ l, GO o := by
  unfold errV at h
  by_cases h1 : l.length > 20
  · rw [if_pos h1] at h; exact absurd h (by decide)
  rw [if_neg h1] at h
  exact ⟨by omega, fun o ho => go_of (eGo_zero l [] h o ho)⟩
structure GI (x : It) : Prop where
  p0 : 0 ∉ x.Path
  pl : x.Path.length ≤ 1024
  k1 : 1 ≤ x.Kind
  k3 : x.Kind ≤ 3
  m0 : 0 ≤ x.Mode
  m1 : x.Mode ≤ 511
  bl : x.Bytes.length ≤ 4096
theorem chk_all : ∀ (l : L2) (i : Nat), chk i l = 0 → ∀ s ∈ l, nameV s = 0
  | [], _, _, _, h => by cases h
  | a :: t, i, h, s, hs => by
    rw [chk_cons] at h
    by_cases h1 : 8 ≤ i
    · rw [if_pos h1] at h; exact absurd h (by decide)
    rw [if_neg h1] at h
    by_cases h2 : nameV a ≠ 0
    · rw [if_pos h2] at h; exact absurd h h2
    rw [if_neg h2] at h
    rcases List.mem_cons.1 hs with rfl | hs
    · simpa using h2
    · exact chk_all t _ h s hs
theorem path_good {p : List UInt8} (h : (sp p).2 = 0) (hne : (sp p).1 ≠ []) : 0 ∉ p ∧ p.length ≤ 776 := by
  obtain ⟨h1, _, h3, _⟩ := sp_good h hne
  have h8 := chk_len _ 0 h3 (by omega)
  have hall := chk_all _ 0 h3
  have hfl := flat_le (sp p).1 96 (fun s hs => (name_good (hall s hs)).1)
  rw [h1]
  refine ⟨fun hm => ?_, Nat.le_trans hfl (by omega)⟩
  rw [List.mem_flatMap] at hm
  obtain ⟨s, hs, hm⟩ := hm
  rcases List.mem_append.1 hm with hm | hm
  · simp at hm
  · exact (name_good (hall s hs)).2 hm
theorem gi_of {x : It} (h : itemV x = 0) : GI x := by
  obtain ⟨s1, s2⟩ := itemV_zero h
  obtain ⟨p0, pl⟩ := path_good s1 s2
  unfold itemV at h
  rw [if_neg (by simpa using s1), if_neg s2] at h
  by_cases h1 : ¬ (x.Kind = 1 ∨ x.Kind = 2 ∨ x.Kind = 3)
  · rw [if_pos h1] at h; exact absurd h (by decide)
  rw [if_neg h1] at h
  by_cases h2 : x.Mode < 0 ∨ x.Mode > 511
  · rw [if_pos h2] at h; exact absurd h (by decide)
  rw [if_neg h2] at h
  by_cases h3 : (x.Kind = 1 ∧ x.Bytes.length > 4096) ∨ (x.Kind = 2 ∧ x.Bytes ≠ []) ∨ (x.Kind = 3 ∧ x.Bytes.length > 1024)
  · rw [if_pos h3] at h; exact absurd h (by decide)
  have hk : x.Kind = 1 ∨ x.Kind = 2 ∨ x.Kind = 3 := Decidable.not_not.1 h1
  refine ⟨p0, by omega, by omega, by omega, by omega, by omega, ?_⟩
  rcases hk with k | k | k
  · by_cases hb : x.Bytes.length > 4096
    · exact absurd (.inl ⟨k, hb⟩) h3
    · omega
  · by_cases hb : x.Bytes = []
    · rw [hb]; simp
    · exact absurd (.inr (.inl ⟨k, hb⟩)) h3
  · by_cases hb : x.Bytes.length > 1024
    · exact absurd (.inr (.inr ⟨k, hb⟩)) h3
    · omega
def TW (o : Od) : Prop := ∀ x ∈ o.World, -9223372036854775808 ≤ x.Time ∧ x.Time ≤ 9223372036854775807
def itV (x : It) : List UInt8 := ((((txtV x.Path ++ [UInt8.ofNat x.Kind.toNat]) ++ putV x.Mode.toNat) ++ intV x.Time) ++ putV x.Bytes.length) ++ x.Bytes
def recV (o : Od) : List UInt8 := ((txtV o.Name ++ putV o.Time.toNat) ++ putV o.World.length) ++ o.World.flatMap itV
theorem itV_len {x : It} (h : GI x) : (itV x).length ≤ 6000 := by
  unfold itV
  have h1 := txtV_plain _ h.p0
  have h2 := putV_len x.Mode.toNat
  have h3 := intV_len x.Time
  have h4 := putV_len x.Bytes.length
  have h5 := h.pl
  have h6 := h.bl
  simp only [List.length_append, h1, List.length_singleton, List.length_cons, List.length_nil]
  omega
theorem put1_ok (n : Int) (h0 : 0 ≤ n) (h1 : n ≤ 9223372036854775807) (fu : Nat) : f_move_record_1 fu n = some (putV n.toNat) := by
  obtain ⟨k, rfl⟩ : ∃ k : Nat, n = k := ⟨n.toNat, by omega⟩
  unfold f_move_record_1
  rw [PPut.uw (by omega), PPut.put_ok k (by omega) fu, opt_of, Int.toNat_natCast]
theorem putr_ok (n : Int) (h0 : 0 ≤ n) (h1 : n ≤ 9223372036854775807) (fu : Nat) (hf : 9 ≤ fu) : f_lumref_Put fu (IntKind.u64.wrap n) = some (putV n.toNat) := by
  obtain ⟨k, rfl⟩ : ∃ k : Nat, n = k := ⟨n.toNat, by omega⟩
  rw [PPut.uw (by omega), PPut.rput_ok k (by omega) fu hf, Int.toNat_natCast]
theorem txt1_ok (s : List UInt8) (h : s.length ≤ 1024) (fu : Nat) : f_move_record_2 fu s = some (txtV s) := by
  unfold f_move_record_2
  rw [(putT_ok s h fu).1, opt_of]
theorem u8k {n : Int} (h0 : 1 ≤ n) (h1 : n ≤ 3) : IntKind.u8.wrap n = n := by
  obtain ⟨k, rfl⟩ : ∃ k : Nat, n = k := ⟨n.toNat, by omega⟩
  exact u8w_in (by omega)
theorem rec_go (o : Od) (hg : ∀ x ∈ o.World, GI x) (ht : TW o) (hl : o.World.length ≤ 100) (kk : List UInt8 → Option (List UInt8)) (g : Nat) (hgf : 9 ≤ g) : ∀ (d i fu : Nat) (acc : List UInt8), o.World.length - i = d → i ≤ o.World.length → d < fu → acc.length ≤ 2000 + 6000 * i →
    f_move_record_L14 o kk g fu acc (i : Int) = kk (acc ++ (o.World.drop i).flatMap itV)
  | _, _, 0, _, _, _, h, _ => absurd h (Nat.not_lt_zero _)
  | 0, i, fu + 1, acc, hd, hi, _, _ => by
    rw [f_move_record_L14, cond_ff (dge (by omega)), List.drop_of_length_le (by omega), List.flatMap_nil, List.append_nil]
  | d + 1, i, fu + 1, acc, hd, hi, hf, ha => by
    have hlt : i < o.World.length := by omega
    have hx := hg _ (List.getElem_mem hlt)
    have hxt := ht _ (List.getElem_mem hlt)
    have hlen := itV_len hx
    have l1 := txtV_len o.World[i].Path
    have l2 := putV_len o.World[i].Mode.toNat
    have l3 := intV_len o.World[i].Time
    have l4 := putV_len o.World[i].Bytes.length
    have l5 := hx.pl
    have l6 := hx.bl
    rw [f_move_record_L14, cond_tt (dlt (by omega)), at_lt hlt, opt_of, txt1_ok _ hx.pl, opt_of, u8k hx.k1 hx.k3, req_pos ⟨by have := hx.k1; omega, by have := hx.k3; omega⟩, req_pos (by rw [List.length_singleton]; omega), put1_ok _ hx.m0 (by have := hx.m1; omega), opt_of, req_pos (by rw [List.length_append, List.length_singleton]; omega), (putI_ok _ hxt.1 hxt.2 g hgf).1, opt_of, req_pos (by simp only [List.length_append, List.length_singleton]; omega), put1_ok _ (by omega) (by omega), opt_of, Int.toNat_natCast, req_pos (by simp only [List.length_append, List.length_singleton]; omega), req_pos (by simp only [List.length_append, List.length_singleton]; omega)]
    have e : (((((txtV o.World[i].Path ++ [(UInt8.ofNat (o.World[i].Kind).toNat)]) ++ putV o.World[i].Mode.toNat) ++ intV o.World[i].Time) ++ putV o.World[i].Bytes.length) ++ o.World[i].Bytes) = itV o.World[i] := rfl
    rw [e, req_pos (by omega), wsucc (by omega), rec_go o hg ht hl kk g hgf d (i + 1) fu _ (by omega) (by omega) (by omega) (by rw [List.length_append]; omega), List.drop_eq_getElem_cons hlt, List.flatMap_cons, List.append_assoc]
theorem rrec_go (o : Od) (hg : ∀ x ∈ o.World, GI x) (ht : TW o) (hl : o.World.length ≤ 100) (kk : List UInt8 → Option (List UInt8 × Int)) (g : Nat) (hgf : 9 ≤ g) : ∀ (d i fu : Nat) (acc : List UInt8), o.World.length - i = d → i ≤ o.World.length → d < fu → acc.length ≤ 2000 + 6000 * i →
    f_lumref_OldPack_L39 o kk g fu acc (i : Int) = kk (acc ++ (o.World.drop i).flatMap itV)
  | _, _, 0, _, _, _, h, _ => absurd h (Nat.not_lt_zero _)
  | 0, i, fu + 1, acc, hd, hi, _, _ => by
    rw [f_lumref_OldPack_L39, cond_ff (dge (by omega)), List.drop_of_length_le (by omega), List.flatMap_nil, List.append_nil]
  | d + 1, i, fu + 1, acc, hd, hi, hf, ha => by
    have hlt : i < o.World.length := by omega
    have hx := hg _ (List.getElem_mem hlt)
    have hxt := ht _ (List.getElem_mem hlt)
    have hlen := itV_len hx
    have l1 := txtV_len o.World[i].Path
    have l2 := putV_len o.World[i].Mode.toNat
    have l3 := intV_len o.World[i].Time
    have l4 := putV_len o.World[i].Bytes.length
    have l5 := hx.pl
    have l6 := hx.bl
    rw [f_lumref_OldPack_L39, cond_tt (dlt (by omega)), at_lt hlt, opt_of, (putT_ok _ hx.pl g).2, opt_of, u8k hx.k1 hx.k3, req_pos ⟨by have := hx.k1; omega, by have := hx.k3; omega⟩]
    dsimp only
    rw [req_pos (by rw [List.length_singleton]; omega), putr_ok _ hx.m0 (by have := hx.m1; omega) g hgf, opt_of, req_pos (by rw [List.length_append, List.length_singleton]; omega), (putI_ok _ hxt.1 hxt.2 g hgf).2, opt_of, req_pos (by simp only [List.length_append, List.length_singleton]; omega), putr_ok _ (by omega) (by omega) g hgf, opt_of, Int.toNat_natCast, req_pos (by simp only [List.length_append, List.length_singleton]; omega), req_pos (by simp only [List.length_append, List.length_singleton]; omega)]
    have e : (((((txtV o.World[i].Path ++ [(UInt8.ofNat (o.World[i].Kind).toNat)]) ++ putV o.World[i].Mode.toNat) ++ intV o.World[i].Time) ++ putV o.World[i].Bytes.length) ++ o.World[i].Bytes) = itV o.World[i] := rfl
    rw [e, req_pos (by omega), wsucc (by omega), rrec_go o hg ht hl kk g hgf d (i + 1) fu _ (by omega) (by omega) (by omega) (by rw [List.length_append]; omega), List.drop_eq_getElem_cons hlt, List.flatMap_cons, List.append_assoc]
theorem head_len (o : Od) (h : GO o) : ((txtV o.Name ++ putV o.Time.toNat) ++ putV o.World.length).length ≤ 2000 := by
  obtain ⟨n1, n2⟩ := name_good h.name
  have h2 := putV_len o.Time.toNat
  have h4 := putV_len o.World.length
  rw [List.length_append, List.length_append, txtV_plain _ n2, List.length_append]
  simp only [List.length_cons, List.length_nil]
  omega
theorem world_gi {o : Od} (h : GO o) : ∀ x ∈ o.World, GI x := fun x hx => gi_of (h.good.1 x hx)
theorem flat_le2 {α : Type} (f : α → List UInt8) (k : Nat) : ∀ (l : List α), (∀ x ∈ l, (f x).length ≤ k) → (l.flatMap f).length ≤ k * l.length
  | [], _ => by simp
  | a :: t, h => by
    have h1 := flat_le2 f k t (fun y hy => h y (by simp [hy]))
    have h2 := h a (by simp)
    rw [List.flatMap_cons, List.length_append, List.length_cons, Nat.mul_succ]; omega
theorem record_ok (o : Od) (h : GO o) (ht : TW o) (fu : Nat) (hf : 2000000 ≤ fu) : f_move_record fu o = some (recV o) := by
  have hh := head_len o h
  obtain ⟨n1, n2⟩ := name_good h.name
  have hfw := h.few
  have h0 := h.t0
  have h1 := h.t1
  rw [List.length_append, List.length_append] at hh
  unfold f_move_record
  rw [txt1_ok _ (by omega), opt_of, put1_ok _ h0 (by omega), opt_of, req_pos (by omega), put1_ok _ (by omega) (by omega), opt_of, Int.toNat_natCast, req_pos (by rw [List.length_append]; omega), lt_of]
  refine (rec_go o (world_gi h) ht hfw _ fu (by omega) _ 0 fu _ rfl (Nat.zero_le _) (by omega) (by rw [List.length_append, List.length_append]; omega)).trans ?_
  rw [List.drop_zero]; rfl
def packV (F : List UInt8 → A8u8) (l : List Od) : List UInt8 × Int := if errV l ≠ 0 then ([], errV l) else framesV F [] (l.map recV)
theorem pack_go (l : List Od) (hg : ∀ o ∈ l, GO o) (ht : ∀ o ∈ l, TW o) (hl : l.length ≤ 20) (kk : List (List UInt8) → Option (List UInt8 × Int)) (g : Nat) (hgf : 2000000 ≤ g) : ∀ (d i fu : Nat), l.length - i = d → i ≤ l.length → d < fu →
    f_move_Pack_L10 l kk g fu ((l.take i).map recV) (i : Int) = kk (l.map recV)
  | _, _, 0, _, _, h => absurd h (Nat.not_lt_zero _)
  | 0, i, fu + 1, hd, hi, _ => by
    rw [f_move_Pack_L10, cond_ff (dge (by omega)), List.take_of_length_le (by omega)]
  | d + 1, i, fu + 1, hd, hi, hf => by
    have hlt : i < l.length := by omega
    rw [f_move_Pack_L10, cond_tt (dlt (by omega)), at_lt hlt, opt_of, record_ok _ (hg _ (List.getElem_mem hlt)) (ht _ (List.getElem_mem hlt)) g hgf, opt_of, req_pos (by rw [List.length_singleton, List.length_map, List.length_take]; omega), wsucc (by omega)]
    have := pack_go l hg ht hl kk g hgf d (i + 1) fu (by omega) (by omega) (by omega)
    rw [take_snoc hlt, List.map_append] at this
    exact this
theorem pack_ok {F : List UInt8 → A8u8} (hF : IdF F) (l : List Od) (hs : ∀ o ∈ l, OS o) (ht : ∀ o ∈ l, TW o) (fu : Nat) (hf : 2000000 ≤ fu) : f_move_Pack fu l = some (packV F l) := by
  unfold f_move_Pack packV
  rw [mcheck_ok l hs fu hf, opt_of]
  by_cases h : errV l = 0
  · obtain ⟨h1, h2⟩ := errV_zero h
    rw [cond_ff (show (errV l != 0) = false from by simpa using h), if_neg (by simpa using h), lt_of]
    have := pack_go l h2 ht h1 (fun j4x5 => (opt (f_journal_All fu j4x5) fun (r7 : ((List UInt8) × Int)) => (some (r7.1, r7.2)))) fu hf _ 0 fu rfl (Nat.zero_le _) (by omega)
    refine Eq.trans this ?_
    rw [(frames_ok hF (l.map recV) fu (by omega) (by rw [List.length_map]; omega) (by rw [List.length_map]; omega)).1, opt_of]
  · rw [cond_tt (show (errV l != 0) = true from by simpa using h), if_pos h]
theorem dup_go (w : List Od) (i : Nat) (hi : i ≤ w.length) (hl : w.length ≤ 20) (o : Od) (kk : Unit → Option (List UInt8 × Int)) : ∀ (d j fu : Nat), i - j = d → j ≤ i → d < fu →
    f_lumref_OldPack_L65 w (i : Int) o kk fu (j : Int) = if ((w.take i).drop j).any (fun p => p.Name == o.Name) = true then some ([], 10) else kk ()
  | _, _, 0, _, _, h => absurd h (Nat.not_lt_zero _)
  | 0, j, fu + 1, hd, hj, _ => by
    rw [f_lumref_OldPack_L65, Int.toNat_natCast, cond_ff (dge (by rw [List.length_take]; omega)), List.drop_of_length_le (by rw [List.length_take]; omega)]; rfl
  | d + 1, j, fu + 1, hd, hj, hf => by
    have hlen : (w.take i).length = i := by rw [List.length_take]; omega
    have hlt : j < (w.take i).length := by omega
    rw [f_lumref_OldPack_L65, Int.toNat_natCast, cond_tt (dlt (by omega)), at_lt hlt, opt_of, List.drop_eq_getElem_cons hlt, List.any_cons, wsucc (by omega)]
    by_cases h : (w.take i)[j].Name = o.Name
    · rw [beq_iff_eq.2 h, cond_tt rfl, Bool.true_or, if_pos rfl]
    · rw [beq_eq_false_iff_ne.2 h, cond_ff rfl, Bool.false_or]
      exact dup_go w i hi hl o kk d (j + 1) fu (by omega) (by omega) (by omega)
def aft (kk : List (List UInt8) → Option (List UInt8 × Int)) (e : Int) (l : List (List UInt8)) : Option (List UInt8 × Int) := if e ≠ 0 then some ([], e) else kk l
theorem rpack_go (l : List Od) (hs : ∀ o ∈ l, OS o) (ht : ∀ o ∈ l, TW o) (hl : l.length ≤ 20) (kk : List (List UInt8) → Option (List UInt8 × Int)) (g : Nat) (hgf : 2000000 ≤ g) : ∀ (d i fu : Nat), l.length - i = d → i ≤ l.length → d < fu →
    f_lumref_OldPack_L8 l kk g fu ((l.take i).map recV) (i : Int) = aft kk (eGo (l.take i) (l.drop i)) (l.map recV)
  | _, _, 0, _, _, h => absurd h (Nat.not_lt_zero _)
  | 0, i, fu + 1, hd, hi, _ => by
    rw [f_lumref_OldPack_L8, lt_of, cond_ff (dge (by omega)), List.take_of_length_le (by omega), List.drop_of_length_le (by omega)]; rfl
  | d + 1, i, fu + 1, hd, hi, hf => by
    have hlt : i < l.length := by omega
    have hso := hs _ (List.getElem_mem hlt)
    rw [f_lumref_OldPack_L8, lt_of, cond_tt (dlt (by omega)), lt_of, at_lt hlt, opt_of, olderr_ok _ hso g hgf, opt_of, List.drop_eq_getElem_cons hlt, eGo_cons]
    by_cases h1 : oneV l[i] = 0
    · have hg := go_of h1
      have hh := head_len _ hg
      have hfw := hg.few
      have h0 := hg.t0
      have ht1 := hg.t1
      obtain ⟨n1, n2⟩ := name_good hg.name
      have hh2 := hh
      rw [List.length_append, List.length_append] at hh2
      rw [cond_ff (show (oneV l[i] != 0) = false from by simpa using h1), if_neg (by simpa using h1), lt_of, req_pos ⟨by omega, by omega⟩]
      have := dup_go l i (by omega) hl l[i] (fun _ => (opt (f_lumref_PutText g l[i].Name) fun (r25 : ((List UInt8) × Int)) => (opt (f_lumref_Put g (IntKind.u64.wrap l[i].Time)) fun (r27 : (List UInt8)) => (req (r25.1.length + r27.length ≤ 9223372036854775807) (opt (f_lumref_Put g (IntKind.u64.wrap (l[i].World.length : Int))) fun (r30 : (List UInt8)) => (req ((r25.1 ++ r27).length + r30.length ≤ 9223372036854775807) (lt (fun (j32s12 : (List UInt8)) => (req (((((l.take i).map recV).length + ([j32s12]).length) * 16 : Nat) ≤ 140737488355328 ∧ ((l.take i).map recV).length + ([j32s12]).length ≤ 9223372036854775807) (f_lumref_OldPack_L8 l kk g fu (((l.take i).map recV) ++ ([j32s12])) (IntKind.i64.wrap ((i : Int) + (1 : Int)))))) fun (kk33 : (List UInt8) → Option ((List UInt8) × Int)) => (f_lumref_OldPack_L39 l[i] kk33 g g ((r25.1 ++ r27) ++ r30) (0 : Int))))))))) i 0 g (by omega) (Nat.zero_le _) (by omega)
      refine Eq.trans this ?_
      rw [List.drop_zero]
      cases hd2 : (l.take i).any (fun p => p.Name == l[i].Name) with
      | true => rw [if_pos rfl, if_pos rfl]; rfl
      | false =>
        rw [if_neg (by simp), if_neg (by simp), (putT_ok _ (by omega) g).2, opt_of, putr_ok _ h0 (by omega) g (by omega), opt_of]
        dsimp only
        rw [req_pos (by omega), putr_ok _ (by omega) (by omega) g (by omega), opt_of, Int.toNat_natCast, req_pos (by rw [List.length_append]; omega), lt_of]
        have := rrec_go l[i] (world_gi hg) (ht _ (List.getElem_mem hlt)) hfw (fun (j32s12 : (List UInt8)) => (req (((((l.take i).map recV).length + ([j32s12]).length) * 16 : Nat) ≤ 140737488355328 ∧ ((l.take i).map recV).length + ([j32s12]).length ≤ 9223372036854775807) (f_lumref_OldPack_L8 l kk g fu (((l.take i).map recV) ++ ([j32s12])) (IntKind.i64.wrap ((i : Int) + (1 : Int)))))) g (by omega) _ 0 g ((txtV l[i].Name ++ putV l[i].Time.toNat) ++ putV l[i].World.length) rfl (Nat.zero_le _) (by omega) (by omega)
        refine Eq.trans this ?_
        rw [List.drop_zero]
        show (req _ (f_lumref_OldPack_L8 l kk g fu (((l.take i).map recV) ++ [recV l[i]]) _)) = _
        rw [req_pos (by rw [List.length_singleton, List.length_map, List.length_take]; omega), wsucc (by omega)]
        have ih := rpack_go l hs ht hl kk g hgf d (i + 1) fu (by omega) (by omega) (by omega)
        rw [take_snoc hlt, List.map_append] at ih
        exact ih
    · rw [cond_tt (show (oneV l[i] != 0) = true from by simpa using h1), if_pos h1]
      unfold aft
      rw [if_pos h1]
theorem rpack_ok {F : List UInt8 → A8u8} (hF : IdF F) (l : List Od) (hs : ∀ o ∈ l, OS o) (ht : ∀ o ∈ l, TW o) (fu : Nat) (hf : 2000000 ≤ fu) : f_lumref_OldPack fu l = some (packV F l) := by
  unfold f_lumref_OldPack packV errV
  by_cases h : l.length > 20
  · rw [cond_tt (decide_eq_true (by omega)), if_pos (by rw [if_pos h]; decide), if_pos h]
  · rw [cond_ff (decide_eq_false (by omega)), if_neg h, lt_of]
    refine Eq.trans (rpack_go l hs ht (by omega) (fun j2x4 => (opt (f_lumref_Frames fu j2x4) fun (r5 : ((List UInt8) × Int)) => (some (r5.1, r5.2)))) fu hf _ 0 fu rfl (Nat.zero_le _) (by omega)) ?_
    unfold aft
    rw [List.take_zero, List.drop_zero]
    split
    · rfl
    · dsimp only
      rw [(frames_ok hF (l.map recV) fu (by omega) (by rw [List.length_map]; omega) (by rw [List.length_map]; omega)).2, opt_of]
end Go.Proofs.YtfhifdmbdkkgaaaGreatDoor.PMoveReads
namespace Go.Proofs.YtfhifdmbdkkgaaaGreatDoor.PMoveReads
open Go.RowKit YtfhifdmbdkkgaaaGreatDoor.En YtfhifdmbdkkgaaaGreatDoor Num Mix PPut JF TX U8 PNamesSays PWorld
open Go.Lib hiding cut
set_option linter.unusedVariables false
set_option linter.unusedSimpArgs false
abbrev Rd := S_move_reader
theorem get_any (s : List UInt8) (fu : Nat) (hf : 9 ≤ fu) : ∃ n k e, f_num_Get fu s = some (n, k, e) ∧ f_lumref_Get fu s = some (n, k, e) ∧ (e = 0 → ∃ n' k' : Nat, n = n' ∧ k = k' ∧ k' ≤ s.length ∧ 1 ≤ k') := by
  refine ⟨(getV s).1, (getV s).2.1, (getV s).2.2, get_ok s fu hf, rget_ok s fu hf, fun h => ?_⟩
  obtain ⟨n, k, h1, h2, _, _, h5, _⟩ := getV_canon s h
  exact ⟨n, k, by rw [h1], by rw [h1], h2, h5⟩
theorem getI_rng (s : List UInt8) : -9223372036854775808 ≤ (PTreeInt.getI s).1 ∧ (PTreeInt.getI s).1 ≤ 9223372036854775807 ∧ ((PTreeInt.getI s).2.2 = 0 → ∃ k : Nat, (PTreeInt.getI s).2.1 = k ∧ k ≤ s.length) := by
  have hgo : ∀ (neg : Bool) (t : List UInt8) (k : Nat), -9223372036854775808 ≤ (PTreeInt.goI neg t k).1 ∧ (PTreeInt.goI neg t k).1 ≤ 9223372036854775807 ∧ ((PTreeInt.goI neg t k).2.2 = 0 → ∃ q : Nat, (PTreeInt.goI neg t k).2.1 = q ∧ q ≤ t.length + 1) := by
    intro neg t k
    unfold PTreeInt.goI
    by_cases h1 : 8 < k
    · rw [if_pos h1]; exact ⟨by decide, by decide, fun h => absurd h (by decide)⟩
    rw [if_neg h1]
    by_cases h2 : t.length < k
    · rw [if_pos h2]; exact ⟨by decide, by decide, fun h => absurd h (by decide)⟩
    rw [if_neg h2]
    generalize (bif neg then (t.take k).map PTreeInt.inv else t.take k) = d
    unfold PTreeInt.ends
    by_cases h3 : d.take 1 = [0] ∨ 9223372036854775808 ≤ beNat d
    · rw [if_pos h3]; exact ⟨by decide, by decide, fun h => absurd h (by decide)⟩
    rw [if_neg h3]
    have h4 : beNat d < 9223372036854775808 := by
      rcases Nat.lt_or_ge (beNat d) 9223372036854775808 with h | h
      · exact h
      · exact absurd (.inr h) h3
    cases neg with
    | true => exact ⟨by show _ ≤ (-1 : Int) - _; omega, by show (-1 : Int) - _ ≤ _; omega, fun _ => ⟨1 + k, rfl, by omega⟩⟩
    | false => exact ⟨by show _ ≤ ((beNat d : Nat) : Int); omega, by show ((beNat d : Nat) : Int) ≤ _; omega, fun _ => ⟨1 + k, rfl, by omega⟩⟩
  cases s with
  | nil => exact ⟨by decide, by decide, fun h => absurd h (by decide)⟩
  | cons b t =>
    show -9223372036854775808 ≤ (if b.toNat < 128 then PTreeInt.goI true t (127 - b.toNat) else PTreeInt.goI false t (b.toNat - 128)).1 ∧ (if b.toNat < 128 then PTreeInt.goI true t (127 - b.toNat) else PTreeInt.goI false t (b.toNat - 128)).1 ≤ 9223372036854775807 ∧ ((if b.toNat < 128 then PTreeInt.goI true t (127 - b.toNat) else PTreeInt.goI false t (b.toNat - 128)).2.2 = 0 → ∃ k : Nat, (if b.toNat < 128 then PTreeInt.goI true t (127 - b.toNat) else PTreeInt.goI false t (b.toNat - 128)).2.1 = k ∧ k ≤ t.length + 1)
    split
    · exact hgo _ _ _
    · exact hgo _ _ _
theorem take_any (s : List UInt8) (b : Bool) (n e : Int) (fu : Nat) (h : e = 0 → 0 ≤ n) : ∃ t s' b', f___move_reader__take fu ⟨s, b⟩ n e = some (t, ⟨s', b'⟩) ∧ t.length ≤ s.length ∧ s'.length ≤ s.length ∧ (b' = false → b = false ∧ e = 0 ∧ n ≤ s.length) ∧ (n = 1 → t.length ≤ 1) ∧ (∀ m : Nat, n = m → t.length ≤ m) := by
  unfold f___move_reader__take
  rw [lt_of]
  dsimp only
  have bad : ∃ t s' b', (some (([] : List UInt8), (S_move_reader.mk s true))) = some (t, (⟨s', b'⟩ : Rd)) ∧ t.length ≤ s.length ∧ s'.length ≤ s.length ∧ (b' = false → b = false ∧ e = 0 ∧ n ≤ s.length) ∧ (n = 1 → t.length ≤ 1) ∧ (∀ m : Nat, n = m → t.length ≤ m) :=
    ⟨[], s, true, rfl, Nat.zero_le _, Nat.le_refl _, (fun h => by cases h), fun _ => Nat.zero_le _, fun _ _ => Nat.zero_le _⟩
  cases b with
  | true => rw [cond_tt rfl]; exact bad
  | false =>
    rw [cond_ff rfl]
    by_cases he : e = 0
    · rw [cond_ff (show (e != 0) = false from by simpa using he)]
      by_cases hn : n > (s.length : Int)
      · rw [decide_eq_true hn]; exact bad
      · have h0 := h he
        rw [decide_eq_false hn, cond_ff rfl, req_pos ⟨h0, by omega⟩, req_pos ⟨h0, by omega⟩]
        exact ⟨_, _, _, rfl, by rw [List.length_take]; omega, by rw [List.length_drop]; omega, fun _ => ⟨rfl, he, by omega⟩, fun h1 => by rw [List.length_take]; omega, fun m h1 => by rw [List.length_take]; omega⟩
    · rw [cond_tt (show (e != 0) = true from by simpa using he)]; exact bad
theorem take_put (x rest : List UInt8) (fu : Nat) : f___move_reader__take fu ⟨x ++ rest, false⟩ (x.length : Int) 0 = some (x, ⟨rest, false⟩) := by
  unfold f___move_reader__take
  rw [lt_of]
  dsimp only
  rw [cond_ff rfl, cond_ff (show ((0 : Int) != 0) = false from rfl), decide_eq_false (by rw [List.length_append]; omega), cond_ff rfl, req_pos ⟨by omega, by rw [List.length_append]; omega⟩, req_pos ⟨by omega, by rw [List.length_append]; omega⟩, Int.toNat_natCast, List.take_left, List.drop_left]
theorem text_any (s : List UInt8) (b : Bool) (hs : s.length ≤ 100000000) (fu : Nat) (hf : 1100 ≤ fu) : ∃ t s' b', f___move_reader__text fu ⟨s, b⟩ = some (t, ⟨s', b'⟩) ∧ t.length ≤ 1024 ∧ s'.length ≤ s.length := by
  obtain ⟨r, h1, _, h3, h4, _⟩ := PTreeText.txt_ex s (by omega) fu hf
  unfold f___move_reader__text
  rw [h1, opt_of]
  obtain ⟨t, s', b', e1, _, e3, _⟩ := take_any s b r.2.1 r.2.2 fu (fun h => by obtain ⟨k, hk, _⟩ := h4 h; omega)
  rw [e1, opt_of]
  exact ⟨_, _, _, rfl, h3, e3⟩
theorem text_put (t rest : List UInt8) (h : 0 ∉ t) (ht : t.length ≤ 1024) (hr : rest.length ≤ 100000000) (fu : Nat) (hf : 1100 ≤ fu) : f___move_reader__text fu ⟨txtV t ++ rest, false⟩ = some (t, ⟨rest, false⟩) := by
  unfold f___move_reader__text
  rw [(gtext_ok t rest h ht hr fu hf).1, opt_of]
  have hl : ((t.length + 2 : Nat) : Int) = ((txtV t).length : Int) := by rw [txtV_plain t h, List.length_append]; rfl
  rw [hl, take_put, opt_of]
theorem num_any (s : List UInt8) (b : Bool) (most : Nat) (hm : most ≤ 9223372036854775807) (fu : Nat) (hf : 9 ≤ fu) : ∃ (v : Nat) (s' : List UInt8) (b' : Bool), f___move_reader__number fu ⟨s, b⟩ (most : Int) = some ((v : Int), ⟨s', b'⟩) ∧ v ≤ most ∧ s'.length ≤ s.length := by
  obtain ⟨n, k, e, h1, _, h2⟩ := get_any s fu hf
  unfold f___move_reader__number
  rw [h1, opt_of]
  obtain ⟨t, s', b', e1, _, e3, e4, _⟩ := take_any s b k e fu (fun h => by obtain ⟨n', k', _, hk, _⟩ := h2 h; omega)
  rw [e1, opt_of, lt_of]
  dsimp only
  cases b' with
  | true => rw [cond_tt rfl]; exact ⟨0, s', true, rfl, Nat.zero_le _, e3⟩
  | false =>
    obtain ⟨_, he, _⟩ := e4 rfl
    obtain ⟨n', k', rfl, rfl, hk, _⟩ := h2 he
    rw [cond_ff rfl]
    by_cases hn : (n' : Int) > (most : Int)
    · rw [decide_eq_true hn]; exact ⟨0, s', true, rfl, Nat.zero_le _, e3⟩
    · rw [decide_eq_false hn, cond_ff rfl, PPut.iw (by omega)]
      exact ⟨n', s', false, rfl, by omega, e3⟩
theorem num_put (n most : Nat) (rest : List UInt8) (hn : n ≤ most) (hm : most ≤ 9223372036854775807) (fu : Nat) (hf : 9 ≤ fu) : f___move_reader__number fu ⟨putV n ++ rest, false⟩ (most : Int) = some ((n : Int), ⟨rest, false⟩) := by
  unfold f___move_reader__number
  rw [get_ok _ fu hf, opt_of, getV_put n (by omega) rest]
  dsimp only
  rw [take_put, opt_of, lt_of]
  dsimp only
  rw [cond_ff rfl, decide_eq_false (by omega), cond_ff rfl, PPut.iw (by omega)]
theorem kind_any (s : List UInt8) (b : Bool) (fu : Nat) : ∃ (v : Int) (s' : List UInt8) (b' : Bool), f___move_reader__kind fu ⟨s, b⟩ = some (v, ⟨s', b'⟩) ∧ s'.length ≤ s.length := by
  unfold f___move_reader__kind
  obtain ⟨t, s', b', e1, _, e3, _⟩ := take_any s b 1 0 fu (fun _ => by decide)
  rw [e1, opt_of]
  dsimp only
  cases t with
  | nil => exact ⟨0, s', b', rfl, e3⟩
  | cons c u =>
    rw [cond_tt (show (!((c :: u) == ([] : List UInt8))) = true from rfl), req_pos ⟨by omega, by rw [List.length_cons]; omega⟩]
    exact ⟨_, s', b', rfl, e3⟩
theorem kind_put (k : Nat) (rest : List UInt8) (hk : k ≤ 255) (fu : Nat) : f___move_reader__kind fu ⟨[UInt8.ofNat k] ++ rest, false⟩ = some ((k : Int), ⟨rest, false⟩) := by
  unfold f___move_reader__kind
  have := take_put [UInt8.ofNat k] rest fu
  rw [show ((([UInt8.ofNat k] : List UInt8).length : Nat) : Int) = 1 from rfl] at this
  rw [this, opt_of]
  dsimp only
  rw [cond_tt (show (!(([UInt8.ofNat k] : List UInt8) == ([] : List UInt8))) = true from rfl), req_pos ⟨by omega, by rw [List.length_singleton]; omega⟩, show En.bAt [UInt8.ofNat k] (0 : Int) = (((UInt8.ofNat k).toNat : Nat) : Int) from rfl, u8o (by omega), PPut.iw (by omega)]
theorem int_any (s : List UInt8) (b : Bool) (fu : Nat) (hf : 9 ≤ fu) : ∃ (v : Int) (s' : List UInt8) (b' : Bool), f___move_reader__integer fu ⟨s, b⟩ = some (v, ⟨s', b'⟩) ∧ s'.length ≤ s.length ∧ -9223372036854775808 ≤ v ∧ v ≤ 9223372036854775807 := by
  unfold f___move_reader__integer
  obtain ⟨r1, r2, r3⟩ := getI_rng s
  rw [PTreeInt.get_ok s fu hf, opt_of]
  obtain ⟨t, s', b', e1, _, e3, _⟩ := take_any s b (PTreeInt.getI s).2.1 (PTreeInt.getI s).2.2 fu (fun h => by obtain ⟨k, hk, _⟩ := r3 h; omega)
  rw [e1, opt_of]
  exact ⟨_, _, _, rfl, e3, r1, r2⟩
theorem int_put (n : Int) (h0 : -9223372036854775808 ≤ n) (h1 : n ≤ 9223372036854775807) (rest : List UInt8) (fu : Nat) (hf : 9 ≤ fu) : f___move_reader__integer fu ⟨intV n ++ rest, false⟩ = some (n, ⟨rest, false⟩) := by
  unfold f___move_reader__integer
  rw [PTreeInt.get_ok _ fu hf, opt_of, getI_put n h0 h1]
  dsimp only
  rw [take_put, opt_of]
def PI (x : It) : Prop := x.Path.length ≤ 1024 ∧ -9223372036854775808 ≤ x.Time ∧ x.Time ≤ 9223372036854775807
abbrev K1 := List UInt8 → Bool → List It → Option (Od × Rd)
theorem items_any (kk : K1) (r : Int × Rd) (n : Nat) (hr : r.1 = n) (hn : n ≤ 100) (g : Nat) (hg : 1100 ≤ g) : ∀ (d i fu : Nat) (s : List UInt8) (b : Bool) (xs : List It), n - i = d → i ≤ n → d < fu → xs.length ≤ i → s.length ≤ 100000000 → (∀ x ∈ xs, PI x) →
    ∃ s' b' xs', f___move_reader__old_L13 kk r g fu s b xs (i : Int) = kk s' b' xs' ∧ ∀ x ∈ xs', PI x
  | _, _, 0, _, _, _, _, _, h, _, _, _ => absurd h (Nat.not_lt_zero _)
  | 0, i, fu + 1, s, b, xs, hd, hi, _, _, _, hx => by
    rw [f___move_reader__old_L13, hr, cond_ff (dge (by omega))]
    exact ⟨s, b, xs, rfl, hx⟩
  | d + 1, i, fu + 1, s, b, xs, hd, hi, hf, hxl, hs, hx => by
    rw [f___move_reader__old_L13, hr, cond_tt (dlt (by omega))]
    obtain ⟨t1, s1, b1, e1, f1, g1⟩ := text_any s b hs g hg
    rw [e1, opt_of]
    dsimp only
    obtain ⟨t2, s2, b2, e2, g2⟩ := kind_any s1 b1 g
    rw [e2, opt_of]
    dsimp only
    obtain ⟨t3, s3, b3, e3, f3, g3⟩ := num_any s2 b2 511 (by decide) g (by omega)
    rw [show ((511 : Nat) : Int) = 511 from rfl] at e3
    rw [e3, opt_of]
    dsimp only
    obtain ⟨t4, s4, b4, e4, g4, f4, f4'⟩ := int_any s3 b3 g (by omega)
    rw [e4, opt_of]
    dsimp only
    obtain ⟨t5, s5, b5, e5, f5, g5⟩ := num_any s4 b4 4096 (by decide) g (by omega)
    rw [show ((4096 : Nat) : Int) = 4096 from rfl] at e5
    rw [e5, opt_of]
    dsimp only
    obtain ⟨t6, s6, b6, e6, f6, g6, _⟩ := take_any s5 b5 (t5 : Int) 0 g (fun _ => by omega)
    rw [e6, opt_of]
    dsimp only
    rw [req_pos (by rw [List.length_singleton]; omega), wsucc (by omega)]
    refine items_any kk r n hr hn g hg d (i + 1) fu s6 b6 _ (by omega) (by omega) (by omega) (by rw [List.length_append, List.length_singleton]; omega) (by omega) (fun x hxm => ?_)
    rcases List.mem_append.1 hxm with h | h
    · exact hx x h
    · rw [List.mem_singleton.1 h]; exact ⟨f1, f4, f4'⟩
theorem itV_split (x : It) (R : List UInt8) : itV x ++ R = txtV x.Path ++ ([UInt8.ofNat x.Kind.toNat] ++ (putV x.Mode.toNat ++ (intV x.Time ++ (putV x.Bytes.length ++ (x.Bytes ++ R))))) := by
  unfold itV; simp only [List.append_assoc]
theorem flat_drop {α : Type} (f : α → List UInt8) {w : List α} {i : Nat} (h : i < w.length) : (w.drop i).flatMap f = f w[i] ++ (w.drop (i + 1)).flatMap f := by rw [List.drop_eq_getElem_cons h, List.flatMap_cons]
theorem items_len {w : List It} (hg : ∀ x ∈ w, GI x) (hl : w.length ≤ 100) (i : Nat) : ((w.drop i).flatMap itV).length ≤ 600000 := by
  have h1 := flat_le2 itV 6000 (w.drop i) (fun x hx => itV_len (hg x (List.mem_of_mem_drop hx)))
  have h2 : 6000 * (w.drop i).length ≤ 6000 * 100 := Nat.mul_le_mul_left _ (by rw [List.length_drop]; omega)
  omega
theorem items_put (kk : K1) (w : List It) (hgi : ∀ x ∈ w, GI x) (ht : ∀ x ∈ w, -9223372036854775808 ≤ x.Time ∧ x.Time ≤ 9223372036854775807) (hl : w.length ≤ 100) (r : Int × Rd) (hr : r.1 = w.length) (g : Nat) (hg : 1100 ≤ g) : ∀ (d i fu : Nat), w.length - i = d → i ≤ w.length → d < fu →
    f___move_reader__old_L13 kk r g fu ((w.drop i).flatMap itV) false (w.take i) (i : Int) = kk [] false w
  | _, _, 0, _, _, h => absurd h (Nat.not_lt_zero _)
  | 0, i, fu + 1, hd, hi, _ => by
    rw [f___move_reader__old_L13, hr, cond_ff (dge (by omega)), List.drop_of_length_le (by omega), List.take_of_length_le (by omega)]; rfl
  | d + 1, i, fu + 1, hd, hi, hf => by
    have hlt : i < w.length := by omega
    have hx := hgi _ (List.getElem_mem hlt)
    have hxt := ht _ (List.getElem_mem hlt)
    have hrl := items_len hgi hl (i + 1)
    have ih := items_put kk w hgi ht hl r hr g hg d (i + 1) fu (by omega) (by omega) (by omega)
    rw [take_snoc hlt] at ih
    rw [flat_drop itV hlt]
    generalize (w.drop (i + 1)).flatMap itV = R at hrl ih ⊢
    generalize hxe : w[i] = x at hx hxt ih ⊢
    have b1 := hx.bl
    have b2 := hx.pl
    have l3 := intV_len x.Time
    have l2 := putV_len x.Mode.toNat
    have l4 := putV_len x.Bytes.length
    obtain ⟨m, hm, hm2⟩ : ∃ m : Nat, x.Mode = m ∧ m ≤ 511 := ⟨x.Mode.toNat, by have := hx.m0; omega, by have := hx.m1; omega⟩
    obtain ⟨k, hk, hk2⟩ : ∃ k : Nat, x.Kind = k ∧ k ≤ 3 := ⟨x.Kind.toNat, by have := hx.k1; omega, by have := hx.k3; omega⟩
    rw [itV_split, f___move_reader__old_L13, hr, cond_tt (dlt (by omega)), text_put x.Path _ hx.p0 hx.pl (by simp only [List.length_append, List.length_singleton]; omega) g hg, opt_of]
    dsimp only
    rw [hk, Int.toNat_natCast, kind_put k _ (by omega) g, opt_of]
    dsimp only
    rw [hm, Int.toNat_natCast, show (511 : Int) = ((511 : Nat) : Int) from rfl, num_put m 511 _ hm2 (by decide) g (by omega), opt_of]
    dsimp only
    rw [int_put x.Time hxt.1 hxt.2 _ g (by omega), opt_of]
    dsimp only
    rw [show (4096 : Int) = ((4096 : Nat) : Int) from rfl, num_put x.Bytes.length 4096 _ b1 (by decide) g (by omega), opt_of]
    dsimp only
    rw [take_put, opt_of]
    dsimp only
    rw [req_pos (by rw [List.length_singleton, List.length_take]; omega), wsucc (by omega), ← hk, ← hm]
    exact ih
theorem old_any (s : List UInt8) (hs : s.length ≤ 100000000) (fu : Nat) (hf : 2000000 ≤ fu) : ∃ o st, f___move_reader__old fu ⟨s, false⟩ = some (o, st) ∧ o.Name.length ≤ 1024 ∧ ∀ x ∈ o.World, PI x := by
  unfold f___move_reader__old
  obtain ⟨t1, s1, b1, e1, f1, g1⟩ := text_any s false hs fu (by omega)
  rw [e1, opt_of]
  dsimp only
  obtain ⟨t2, s2, b2, e2, f2, g2⟩ := num_any s1 b1 4223371679 (by decide) fu (by omega)
  rw [show ((4223371679 : Nat) : Int) = 4223371679 from rfl] at e2
  rw [e2, opt_of, lt_of]
  dsimp only
  obtain ⟨t3, s3, b3, e3, f3, g3⟩ := num_any s2 b2 100 (by decide) fu (by omega)
  rw [show ((100 : Nat) : Int) = 100 from rfl] at e3
  rw [e3, opt_of]
  dsimp only
  obtain ⟨s', b', xs', e4, e5⟩ := items_any (fun (j7s0_0 : (List UInt8)) (j7b0_1 : Bool) (j7x3_2 : (List S_api_Item)) => (some ((S_api_Old.mk t1 (t2 : Int) j7x3_2), (S_move_reader.mk j7s0_0 j7b0_1)))) ((t3 : Int), ⟨s3, b3⟩) t3 rfl f3 fu (by omega) t3 0 fu s3 b3 [] rfl (Nat.zero_le _) (by omega) (Nat.zero_le _) (by omega) (by simp)
  exact ⟨_, _, e4, f1, e5⟩
theorem recV_split (o : Od) : recV o = txtV o.Name ++ (putV o.Time.toNat ++ (putV o.World.length ++ o.World.flatMap itV)) := by
  unfold recV; simp only [List.append_assoc]
theorem old_put (o : Od) (h : GO o) (ht : TW o) (fu : Nat) (hf : 2000000 ≤ fu) : f___move_reader__old fu ⟨recV o, false⟩ = some (o, ⟨[], false⟩) := by
  obtain ⟨n1, n2⟩ := name_good h.name
  have hrl := items_len (world_gi h) h.few 0
  rw [List.drop_zero] at hrl
  have l2 := putV_len o.Time.toNat
  have l4 := putV_len o.World.length
  have hfw := h.few
  obtain ⟨m, hm, hm2⟩ : ∃ m : Nat, o.Time = m ∧ m ≤ 4223371679 := ⟨o.Time.toNat, by have := h.t0; omega, by have := h.t1; omega⟩
  unfold f___move_reader__old
  rw [recV_split, text_put o.Name _ n2 (by omega) (by simp only [List.length_append]; omega) fu (by omega), opt_of]
  dsimp only
  rw [hm, Int.toNat_natCast, show (4223371679 : Int) = ((4223371679 : Nat) : Int) from rfl, num_put m 4223371679 _ hm2 (by decide) fu (by omega), opt_of, lt_of]
  dsimp only
  rw [show (100 : Int) = ((100 : Nat) : Int) from rfl, num_put o.World.length 100 _ hfw (by decide) fu (by omega), opt_of]
  dsimp only
  refine (items_put (fun (j7s0_0 : (List UInt8)) (j7b0_1 : Bool) (j7x3_2 : (List S_api_Item)) => (some ((S_api_Old.mk o.Name (m : Int) j7x3_2), (S_move_reader.mk j7s0_0 j7b0_1)))) o.World (world_gi h) ht hfw ((o.World.length : Int), ⟨o.World.flatMap itV, false⟩) rfl fu (by omega) o.World.length 0 fu rfl (Nat.zero_le _) (by omega)).trans ?_
  rw [← hm]
theorem at_any (s : List UInt8) (most : Nat) (hm : most ≤ 9223372036854775807) (fu : Nat) (hf : 9 ≤ fu) : ∃ (v : Int) (s' : List UInt8) (e : Int), f_lumref_numberAt fu s (most : Int) = some (v, s', e) ∧ (e = 0 → ∃ n : Nat, v = n ∧ n ≤ most ∧ s'.length ≤ s.length) := by
  obtain ⟨n, k, e, _, h1, h2⟩ := get_any s fu hf
  unfold f_lumref_numberAt
  rw [h1, opt_of, lt_of, lt_of]
  dsimp only
  by_cases he : e = 0
  · obtain ⟨n', k', rfl, rfl, hk, _⟩ := h2 he
    rw [cond_tt (show (e == 0) = true from by simpa using he)]
    by_cases hn : (n' : Int) > (most : Int)
    · rw [decide_eq_true hn]
      exact ⟨0, [], 2, rfl, fun h => absurd h (by decide)⟩
    · rw [decide_eq_false hn, cond_ff rfl, cond_ff (show (e != 0) = false from by simpa using he), req_pos ⟨by omega, by omega⟩, PPut.iw (by omega)]
      exact ⟨_, _, _, rfl, fun _ => ⟨n', rfl, by omega, by rw [List.length_drop]; omega⟩⟩
  · rw [cond_ff (show (e == 0) = false from by simpa using he)]
    rw [cond_ff rfl, cond_tt (show (e != 0) = true from by simpa using he)]
    exact ⟨_, _, _, rfl, fun h => absurd h he⟩
theorem at_put (n most : Nat) (rest : List UInt8) (hn : n ≤ most) (hm : most ≤ 9223372036854775807) (fu : Nat) (hf : 9 ≤ fu) : f_lumref_numberAt fu (putV n ++ rest) (most : Int) = some ((n : Int), rest, 0) := by
  unfold f_lumref_numberAt
  rw [rget_ok _ fu hf, opt_of, getV_put n (by omega) rest, lt_of, lt_of]
  dsimp only
  rw [cond_tt (show ((0 : Int) == 0) = true from rfl), decide_eq_false (by omega), cond_ff rfl, cond_ff (show ((0 : Int) != 0) = false from rfl), req_pos ⟨by omega, by rw [List.length_append]; omega⟩, PPut.iw (by omega), Int.toNat_natCast, List.drop_left]
abbrev J1 := List UInt8 → List It → Option (Od × Bool)
theorem ritems_any (r4 : List UInt8 × Int × Int) (r8 r11 : Int × List UInt8 × Int) (kk : J1) (n : Nat) (hr : r11.1 = n) (hn : n ≤ 100) (g : Nat) (hg : 1100 ≤ g) : ∀ (d i fu : Nat) (s : List UInt8) (xs : List It), n - i = d → i ≤ n → d < fu → xs.length ≤ i → s.length ≤ 100000000 → (∀ x ∈ xs, PI x) →
    (∃ o, f_lumref_oldRead_L17 r4 r8 r11 kk g fu s xs (i : Int) = some (o, false)) ∨ ∃ s' xs', f_lumref_oldRead_L17 r4 r8 r11 kk g fu s xs (i : Int) = kk s' xs' ∧ ∀ x ∈ xs', PI x
  | _, _, 0, _, _, _, _, h, _, _, _ => absurd h (Nat.not_lt_zero _)
  | 0, i, fu + 1, s, xs, hd, hi, _, _, _, hx => by
    rw [f_lumref_oldRead_L17, hr, cond_ff (dge (by omega))]
    exact .inr ⟨s, xs, rfl, hx⟩
  | d + 1, i, fu + 1, s, xs, hd, hi, hf, hxl, hs, hx => by
    rw [f_lumref_oldRead_L17, hr, cond_tt (dlt (by omega))]
    obtain ⟨r, _, q1, q2, q3, _⟩ := PTreeText.txt_ex s (by omega) g hg
    rw [q1, opt_of, lt_of]
    by_cases he : r.2.2 = 0
    · obtain ⟨k, hk, hk2⟩ := q3 he
      clear q3
      rw [cond_ff (show (r.2.2 != 0) = false from by simpa using he), hk]
      by_cases hl : s.length = k
      · rw [beq_iff_eq.2 (show (s.length : Int) = (k : Int) from by omega)]
        exact .inl ⟨_, rfl⟩
      · rw [beq_eq_false_iff_ne.2 (show (s.length : Int) ≠ (k : Int) from by omega)]
        dsimp only
        rw [cond_ff rfl, req_pos ⟨by omega, by omega⟩, wsucc (by omega), req_pos ⟨by omega, by omega⟩, Int.toNat_natCast, show (1099511627776 : Int) = ((1099511627776 : Nat) : Int) from rfl]
        obtain ⟨v1, s1, e1, w1, w2⟩ := at_any (s.drop (k + 1)) 1099511627776 (by decide) g (by omega)
        rw [w1, opt_of]
        dsimp only
        by_cases h1 : e1 = 0
        · obtain ⟨n1, rfl, y1, y2⟩ := w2 h1
          clear w2
          rw [List.length_drop] at y2
          rw [cond_ff (show (e1 != 0) = false from by simpa using h1), PTreeInt.rget_ok s1 g (by omega), opt_of]
          obtain ⟨z1, z2, z3⟩ := getI_rng s1
          by_cases h2 : (PTreeInt.getI s1).2.2 = 0
          · obtain ⟨k2, hk3, hk4⟩ := z3 h2
            clear z3
            rw [cond_ff (show ((PTreeInt.getI s1).2.2 != 0) = false from by simpa using h2), hk3, req_pos ⟨by omega, by omega⟩, Int.toNat_natCast, show (4096 : Int) = ((4096 : Nat) : Int) from rfl]
            obtain ⟨v3, s3, e3, w3, w4⟩ := at_any (s1.drop k2) 4096 (by decide) g (by omega)
            rw [w3, opt_of, lt_of]
            dsimp only
            by_cases h3 : e3 = 0
            · obtain ⟨n3, rfl, y3, y4⟩ := w4 h3
              clear w4
              rw [List.length_drop] at y4
              rw [cond_ff (show (e3 != 0) = false from by simpa using h3)]
              by_cases h4 : (s3.length : Int) < (n3 : Int)
              · rw [decide_eq_true h4]; exact .inl ⟨_, rfl⟩
              · rw [decide_eq_false h4, cond_ff rfl, req_pos ⟨by omega, by omega⟩, req_pos ⟨by omega, by omega⟩, req_pos (by rw [List.length_singleton]; omega), wsucc (by omega)]
                refine ritems_any r4 r8 r11 kk n hr hn g hg d (i + 1) fu _ _ (by omega) (by omega) (by omega) (by rw [List.length_append, List.length_singleton]; omega) (by rw [List.length_drop]; omega) (fun x hxm => ?_)
                rcases List.mem_append.1 hxm with h | h
                · exact hx x h
                · rw [List.mem_singleton.1 h]; exact ⟨q2, z1, z2⟩
            · rw [cond_tt (show (e3 != 0) = true from by simpa using h3)]; exact .inl ⟨_, rfl⟩
          · rw [cond_tt (show ((PTreeInt.getI s1).2.2 != 0) = true from by simpa using h2)]; exact .inl ⟨_, rfl⟩
        · rw [cond_tt (show (e1 != 0) = true from by simpa using h1)]; exact .inl ⟨_, rfl⟩
    · rw [cond_tt (show (r.2.2 != 0) = true from by simpa using he)]; exact .inl ⟨_, rfl⟩
theorem ritems_put (r4 : List UInt8 × Int × Int) (r8 r11 : Int × List UInt8 × Int) (kk : J1) (w : List It) (hgi : ∀ x ∈ w, GI x) (ht : ∀ x ∈ w, -9223372036854775808 ≤ x.Time ∧ x.Time ≤ 9223372036854775807) (hl : w.length ≤ 100) (hr : r11.1 = w.length) (g : Nat) (hg : 1100 ≤ g) : ∀ (d i fu : Nat), w.length - i = d → i ≤ w.length → d < fu →
    f_lumref_oldRead_L17 r4 r8 r11 kk g fu ((w.drop i).flatMap itV) (w.take i) (i : Int) = kk [] w
  | _, _, 0, _, _, h => absurd h (Nat.not_lt_zero _)
  | 0, i, fu + 1, hd, hi, _ => by
    rw [f_lumref_oldRead_L17, hr, cond_ff (dge (by omega)), List.drop_of_length_le (by omega), List.take_of_length_le (by omega)]; rfl
  | d + 1, i, fu + 1, hd, hi, hf => by
    have hlt : i < w.length := by omega
    have hx := hgi _ (List.getElem_mem hlt)
    have hxt := ht _ (List.getElem_mem hlt)
    have hrl := items_len hgi hl (i + 1)
    have ih := ritems_put r4 r8 r11 kk w hgi ht hl hr g hg d (i + 1) fu (by omega) (by omega) (by omega)
    rw [take_snoc hlt] at ih
    rw [flat_drop itV hlt]
    generalize (w.drop (i + 1)).flatMap itV = R at hrl ih ⊢
    generalize hxe : w[i] = x at hx hxt ih ⊢
    have b1 := hx.bl
    have b2 := hx.pl
    have l3 := intV_len x.Time
    have l2 := putV_len x.Mode.toNat
    have l4 := putV_len x.Bytes.length
    obtain ⟨m, hm, hm2⟩ : ∃ m : Nat, x.Mode = m ∧ m ≤ 511 := ⟨x.Mode.toNat, by have := hx.m0; omega, by have := hx.m1; omega⟩
    obtain ⟨k, hk, hk2⟩ : ∃ k : Nat, x.Kind = k ∧ k ≤ 3 := ⟨x.Kind.toNat, by have := hx.k1; omega, by have := hx.k3; omega⟩
    obtain ⟨T, hT⟩ : ∃ T, T = putV x.Mode.toNat ++ (intV x.Time ++ (putV x.Bytes.length ++ (x.Bytes ++ R))) := ⟨_, rfl⟩
    have hTl : T.length ≤ 700000 := by rw [hT]; simp only [List.length_append]; omega
    have htl : (txtV x.Path).length = x.Path.length + 2 := by rw [txtV_plain _ hx.p0, List.length_append]; rfl
    rw [itV_split, ← hT, f_lumref_oldRead_L17, hr, cond_tt (dlt (by omega)), (gtext_ok x.Path _ hx.p0 hx.pl (by rw [List.length_append, List.length_singleton]; omega) g hg).2, opt_of, lt_of]
    dsimp only
    have hdk : (txtV x.Path ++ ([UInt8.ofNat x.Kind.toNat] ++ T)).drop (x.Path.length + 2 + 1) = T := by
      rw [← List.append_assoc, List.drop_left' (by rw [List.length_append, List.length_singleton]; omega)]
    have hbk : En.bAt (txtV x.Path ++ ([UInt8.ofNat x.Kind.toNat] ++ T)) ((x.Path.length + 2 : Nat) : Int) = x.Kind := by
      have h1 : (txtV x.Path ++ ([UInt8.ofNat x.Kind.toNat] ++ T))[x.Path.length + 2]? = some (UInt8.ofNat x.Kind.toNat) := by
        rw [List.getElem?_append_right (by omega), htl, Nat.sub_self]; rfl
      rw [bAt_get h1, u8o (by omega)]; omega
    have hlen : (txtV x.Path ++ ([UInt8.ofNat x.Kind.toNat] ++ T)).length = x.Path.length + 2 + 1 + T.length := by simp only [List.length_append, List.length_singleton]; omega
    rw [cond_ff (show ((0 : Int) != 0) = false from rfl), beq_eq_false_iff_ne.2 (show ((txtV x.Path ++ ([UInt8.ofNat x.Kind.toNat] ++ T)).length : Int) ≠ ((x.Path.length + 2 : Nat) : Int) from by rw [hlen]; omega), cond_ff rfl, req_pos ⟨by omega, by rw [hlen]; omega⟩, wsucc (by omega), req_pos ⟨by omega, by rw [hlen]; omega⟩, Int.toNat_natCast, hdk, hbk, hT, hm, Int.toNat_natCast, show (1099511627776 : Int) = ((1099511627776 : Nat) : Int) from rfl, at_put m 1099511627776 _ (by omega) (by decide) g (by omega), opt_of]
    dsimp only
    rw [cond_ff (show ((0 : Int) != 0) = false from rfl), PTreeInt.rget_ok _ g (by omega), opt_of, getI_put x.Time hxt.1 hxt.2]
    dsimp only
    rw [cond_ff (show ((0 : Int) != 0) = false from rfl), req_pos ⟨by omega, by rw [List.length_append]; omega⟩, Int.toNat_natCast, List.drop_left, show (4096 : Int) = ((4096 : Nat) : Int) from rfl, at_put x.Bytes.length 4096 _ b1 (by decide) g (by omega), opt_of, lt_of]
    dsimp only
    rw [cond_ff (show ((0 : Int) != 0) = false from rfl), decide_eq_false (by rw [List.length_append]; omega), cond_ff rfl, req_pos ⟨by omega, by rw [List.length_append]; omega⟩, req_pos ⟨by omega, by rw [List.length_append]; omega⟩, Int.toNat_natCast, List.take_left, List.drop_left, req_pos (by rw [List.length_singleton, List.length_take]; omega), wsucc (by omega), hk, PPut.iw (by omega), ← hk, ← hm]
    exact ih
def POd (o : Od) : Prop := o.Name.length ≤ 1024 ∧ ∀ x ∈ o.World, PI x
theorem rold_any (s : List UInt8) (hs : s.length ≤ 100000000) (fu : Nat) (hf : 2000000 ≤ fu) : ∃ o ok, f_lumref_oldRead fu s = some (o, ok) ∧ (ok = true → POd o) := by
  unfold f_lumref_oldRead
  obtain ⟨r, _, q1, q2, q3, _⟩ := PTreeText.txt_ex s (by omega) fu (by omega)
  rw [q1, opt_of]
  by_cases he : r.2.2 = 0
  · obtain ⟨k, hk, hk2⟩ := q3 he
    rw [cond_ff (show (r.2.2 != 0) = false from by simpa using he), hk, req_pos ⟨by omega, by omega⟩, Int.toNat_natCast, show (1099511627776 : Int) = ((1099511627776 : Nat) : Int) from rfl]
    obtain ⟨v1, s1, e1, w1, w2⟩ := at_any (s.drop k) 1099511627776 (by decide) fu (by omega)
    rw [w1, opt_of]
    dsimp only
    by_cases h1 : e1 = 0
    · obtain ⟨n1, rfl, y1, y2⟩ := w2 h1
      rw [List.length_drop] at y2
      rw [cond_ff (show (e1 != 0) = false from by simpa using h1), show (100 : Int) = ((100 : Nat) : Int) from rfl]
      obtain ⟨v2, s2, e2, w3, w4⟩ := at_any s1 100 (by decide) fu (by omega)
      rw [w3, opt_of]
      dsimp only
      by_cases h2 : e2 = 0
      · obtain ⟨n2, rfl, y3, y4⟩ := w4 h2
        rw [cond_ff (show (e2 != 0) = false from by simpa using h2), lt_of]
        rcases ritems_any r ((n1 : Int), s1, e1) ((n2 : Int), s2, e2) (fun (j13s0 : (List UInt8)) (j13x4_2 : (List S_api_Item)) => (some ((S_api_Old.mk r.1 (n1 : Int) j13x4_2), (j13s0 == ([] : List UInt8))))) n2 rfl y3 fu (by omega) n2 0 fu s2 [] rfl (Nat.zero_le _) (by omega) (Nat.zero_le _) (by omega) (by simp) with ⟨o, ho⟩ | ⟨s', xs', ho, hx⟩
        · exact ⟨o, false, ho, fun h => by cases h⟩
        · exact ⟨_, _, ho, fun _ => ⟨q2, hx⟩⟩
      · rw [cond_tt (show (e2 != 0) = true from by simpa using h2)]; exact ⟨_, false, rfl, fun h => by cases h⟩
    · rw [cond_tt (show (e1 != 0) = true from by simpa using h1)]; exact ⟨_, false, rfl, fun h => by cases h⟩
  · rw [cond_tt (show (r.2.2 != 0) = true from by simpa using he)]; exact ⟨_, false, rfl, fun h => by cases h⟩
theorem rold_put (o : Od) (h : GO o) (ht : TW o) (fu : Nat) (hf : 2000000 ≤ fu) : f_lumref_oldRead fu (recV o) = some (o, true) := by
  obtain ⟨n1, n2⟩ := name_good h.name
  have hrl := items_len (world_gi h) h.few 0
  rw [List.drop_zero] at hrl
  have l2 := putV_len o.Time.toNat
  have l4 := putV_len o.World.length
  have hfw := h.few
  obtain ⟨m, hm, hm2⟩ : ∃ m : Nat, o.Time = m ∧ m ≤ 4223371679 := ⟨o.Time.toNat, by have := h.t0; omega, by have := h.t1; omega⟩
  have htl : (txtV o.Name).length = o.Name.length + 2 := by rw [txtV_plain _ n2, List.length_append]; rfl
  unfold f_lumref_oldRead
  rw [recV_split, (gtext_ok o.Name _ n2 (by omega) (by simp only [List.length_append]; omega) fu (by omega)).2, opt_of]
  dsimp only
  rw [cond_ff (show ((0 : Int) != 0) = false from rfl), req_pos ⟨by omega, by rw [List.length_append]; omega⟩, Int.toNat_natCast, List.drop_left' htl, hm, Int.toNat_natCast, show (1099511627776 : Int) = ((1099511627776 : Nat) : Int) from rfl, at_put m 1099511627776 _ (by omega) (by decide) fu (by omega), opt_of]
  dsimp only
  rw [cond_ff (show ((0 : Int) != 0) = false from rfl), show (100 : Int) = ((100 : Nat) : Int) from rfl, at_put o.World.length 100 _ hfw (by decide) fu (by omega), opt_of]
  dsimp only
  rw [cond_ff (show ((0 : Int) != 0) = false from rfl), lt_of]
  refine (ritems_put (o.Name, ((o.Name.length + 2 : Nat) : Int), 0) ((m : Int), putV o.World.length ++ o.World.flatMap itV, 0) ((o.World.length : Int), o.World.flatMap itV, 0) (fun (j13s0 : (List UInt8)) (j13x4_2 : (List S_api_Item)) => (some ((S_api_Old.mk o.Name (m : Int) j13x4_2), (j13s0 == ([] : List UInt8))))) o.World (world_gi h) ht hfw rfl fu (by omega) o.World.length 0 fu rfl (Nat.zero_le _) (by omega)).trans ?_
  rw [← hm]; rfl
end Go.Proofs.YtfhifdmbdkkgaaaGreatDoor.PMoveReads
namespace Go.Proofs.YtfhifdmbdkkgaaaGreatDoor.PMoveReads
open Go.RowKit YtfhifdmbdkkgaaaGreatDoor.En YtfhifdmbdkkgaaaGreatDoor Num Mix PPut JF TX U8 PNamesSays PWorld
open Go.Lib hiding cut
set_option linter.unusedVariables false
set_option linter.unusedSimpArgs false
theorem scanr {F : List UInt8 → A8u8} (hF : IdF F) : ∀ (xs : List (List UInt8)) (fu : Nat), xs.length + 7000 ≤ fu → (∀ x ∈ xs, x.length ≤ 4096) → (xs.flatMap (frameV F)).length ≤ 1048576 → f_lumref_Scan fu (xs.flatMap (frameV F)) = some (xs, ((xs.flatMap (frameV F)).length : Int))
  | [], fu, hf, _, _ => by
    obtain ⟨f, rfl⟩ : ∃ f, fu = f + 1 := ⟨fu - 1, by simp at hf; omega⟩
    rw [List.flatMap_nil, f_lumref_Scan, rget_ok [] f (by simp at hf; omega), opt_of, lt_of]; rfl
  | x :: t, fu, hf, hx, hl => by
    rw [List.length_cons] at hf
    rw [List.flatMap_cons] at hl ⊢
    have hx0 := hx x (by simp)
    have hfl := frameV_len F x
    have hp := putV_len x.length
    rw [List.length_append] at hl
    obtain ⟨f, rfl⟩ : ∃ f, fu = f + 1 := ⟨fu - 1, by omega⟩
    have ih := scanr hF t f (by omega) (fun y hy => hx y (by simp [hy])) (by omega)
    have hxl : x.length + t.length ≤ 1048576 + x.length := by
      have : ∀ (l : List (List UInt8)), l.length ≤ (l.flatMap (frameV F)).length := by
        intro l
        induction l with
        | nil => simp
        | cons a l ih =>
          have := frameV_len F a
          rw [List.flatMap_cons, List.length_cons, List.length_append]; omega
      have := this t; omega
    generalize t.flatMap (frameV F) = R at hl ih ⊢
    have hg : getV (frameV F x ++ R) = ((x.length : Int), ((putV x.length).length : Int), 0) := by
      unfold frameV
      rw [List.append_assoc, List.append_assoc]
      exact getV_put x.length (by omega) _
    have hcut : cut (frameV F x ++ R) ((putV x.length).length : Int) (((putV x.length).length + x.length : Nat) : Int) = x := by
      rw [cut_nat]
      unfold frameV
      rw [List.append_assoc, List.take_left' (by rw [List.length_append]), List.drop_left]
    have ew : IntKind.i64.wrap (((putV x.length).length : Int) + IntKind.i64.wrap (x.length : Int)) = (((putV x.length).length + x.length : Nat) : Int) := by
      rw [PPut.iw (n := x.length) (by omega), show (((putV x.length).length : Int) + (x.length : Int)) = (((putV x.length).length + x.length : Nat) : Int) by omega, PPut.iw (by omega)]
    have eu : IntKind.u64.wrap (IntKind.i64.wrap (((frameV F x ++ R).length : Int) - ((putV x.length).length : Int))) = ((x.length + 8 + R.length : Nat) : Int) := by
      rw [List.length_append, show (((frameV F x).length + R.length : Nat) : Int) - ((putV x.length).length : Int) = ((x.length + 8 + R.length : Nat) : Int) by omega, PPut.iw (by omega), PPut.uw (by omega)]
    obtain ⟨Y, hY⟩ : ∃ Y, Y = frameV F x := ⟨_, rfl⟩
    rw [← hY] at hl hfl hg hcut eu ⊢
    have hfr : f_lumref_Frame f x = some Y := by rw [hY]; exact rframe_ok hF f (by omega) x hx0
    rw [f_lumref_Scan, rget_ok (Y ++ R) f (by omega), opt_of, hg, lt_of]
    dsimp only
    rw [cond_ff (show ((0 : Int) != 0) = false from rfl), cond_ff (decide_eq_false (by omega)), ew, eu, hcut, decide_eq_false (by omega)]
    rw [cond_ff rfl, req_pos ⟨by omega, by omega, by rw [List.length_append]; omega⟩, hfr, opt_of, lt_of, cond_ff (decide_eq_false (by rw [List.length_append]; omega)), req_pos ⟨by omega, by rw [List.length_append]; omega⟩, Int.toNat_natCast, List.take_left, List.drop_left, beq_self_eq_true]
    rw [show (!true) = false from rfl]
    dsimp only
    rw [cond_ff rfl, req_pos ⟨by omega, by rw [List.length_append]; omega⟩, ih, opt_of]
    dsimp only
    rw [req_pos ⟨by rw [List.length_singleton]; omega, by rw [List.length_singleton]; omega⟩, show (Y.length : Int) + (R.length : Int) = ((Y.length + R.length : Nat) : Int) from by omega, PPut.iw (by omega), List.length_append]
    rfl
theorem scan_both {F : List UInt8 → A8u8} (hF : IdF F) (xs : List (List UInt8)) (a : List UInt8) (ha : a = xs.flatMap (frameV F)) (hx : ∀ x ∈ xs, x.length ≤ 4096) (hl : a.length ≤ 65536) (h20 : xs.length ≤ 20) (fu : Nat) (hf : 2000000 ≤ fu) : f_lumref_Scan fu a = some (xs, (a.length : Int)) ∧ f_journal_Scan fu a = some (xs, (a.length : Int)) := by
  obtain ⟨l, m, h1, h2, _⟩ := scans_ok hF a (by omega) fu hf
  have h3 := scanr hF xs fu (by omega) hx (by rw [← ha]; omega)
  rw [← ha] at h3
  refine ⟨h3, ?_⟩
  rw [h2, ← h1, h3]
def Ans (F : List UInt8 → A8u8) (a : List UInt8) (r : List Od × Int) : Prop := (r.2 = 0 ∧ (∀ o ∈ r.1, POd o) ∧ packV F r.1 = (a, 0)) ∨ r = ([], 4)
theorem pod_os {o : Od} (h : POd o) : OS o := ⟨by have := h.1; omega, fun x hx => by have := (h.2 x hx).1; omega⟩
theorem pod_tw {o : Od} (h : POd o) : TW o := fun x hx => (h.2 x hx).2
def end1 (fu : Nat) (a0 : List UInt8) (j4x6 : List Od) : Option (List Od × Int) := (opt (f_move_Pack fu j4x6) fun (r7 : ((List UInt8) × Int)) => (lt (fun (j8b43 : Bool) => (bif j8b43 then (some (([] : List S_api_Old), (4 : Int))) else (some (j4x6, (0 : Int))))) fun (kk9 : Bool → Option ((List S_api_Old) × Int)) => (bif (r7.2 != (0 : Int)) then (kk9 true) else (kk9 (!(r7.1 == a0))))))
def end2 (fu : Nat) (a0 : List UInt8) (j4x6 : List Od) : Option (List Od × Int) := (opt (f_lumref_OldPack fu j4x6) fun (r7 : ((List UInt8) × Int)) => (lt (fun (j8b47 : Bool) => (bif j8b47 then (some (([] : List S_api_Old), (4 : Int))) else (some (j4x6, (0 : Int))))) fun (kk9 : Bool → Option ((List S_api_Old) × Int)) => (bif (r7.2 != (0 : Int)) then (kk9 true) else (kk9 (!(r7.1 == a0))))))
theorem ends_any {F : List UInt8 → A8u8} (hF : IdF F) (a : List UInt8) (l : List Od) (hl : ∀ o ∈ l, POd o) (fu : Nat) (hf : 2000000 ≤ fu) : end1 fu a l = end2 fu a l ∧ ∃ r, end1 fu a l = some r ∧ Ans F a r := by
  unfold end1 end2
  rw [pack_ok hF l (fun o ho => pod_os (hl o ho)) (fun o ho => pod_tw (hl o ho)) fu hf, rpack_ok hF l (fun o ho => pod_os (hl o ho)) (fun o ho => pod_tw (hl o ho)) fu hf, opt_of, lt_of]
  refine ⟨rfl, ?_⟩
  obtain ⟨p, hp⟩ : ∃ p, p = packV F l := ⟨_, rfl⟩
  rw [← hp]
  by_cases h : p.2 = 0
  · rw [cond_ff (show (p.2 != 0) = false from by simpa using h)]
    by_cases h2 : p.1 = a
    · rw [beq_iff_eq.2 h2]
      exact ⟨(l, 0), rfl, .inl ⟨rfl, hl, by rw [← hp, ← h2, ← h]⟩⟩
    · rw [beq_eq_false_iff_ne.2 h2]
      exact ⟨([], 4), rfl, .inr rfl⟩
  · rw [cond_tt (show (p.2 != 0) = true from by simpa using h)]
    exact ⟨([], 4), rfl, .inr rfl⟩
theorem ends_put {F : List UInt8 → A8u8} (hF : IdF F) (a : List UInt8) (l : List Od) (hl : ∀ o ∈ l, POd o) (fu : Nat) (hf : 2000000 ≤ fu) (h : packV F l = (a, 0)) : end1 fu a l = some (l, 0) ∧ end2 fu a l = some (l, 0) := by
  unfold end1 end2
  rw [pack_ok hF l (fun o ho => pod_os (hl o ho)) (fun o ho => pod_tw (hl o ho)) fu hf, rpack_ok hF l (fun o ho => pod_os (hl o ho)) (fun o ho => pod_tw (hl o ho)) fu hf, opt_of, lt_of, h]
  dsimp only
  rw [cond_ff (show ((0 : Int) != 0) = false from rfl), beq_self_eq_true]
  exact ⟨rfl, rfl⟩
abbrev KR := List Od → Option (List Od × Int)
theorem reads_any (kk : KR) (r : List (List UInt8) × Int) (hl : r.1.length ≤ 1048576) (hs : ∀ t ∈ r.1, t.length ≤ 4096) (g : Nat) (hg : 2000000 ≤ g) : ∀ (d i fu : Nat) (xs : List Od), r.1.length - i = d → i ≤ r.1.length → d < fu → xs.length ≤ i → (∀ o ∈ xs, POd o) →
    ∃ xs', f_move_Read_L14 r kk g fu xs (i : Int) = kk xs' ∧ ∀ o ∈ xs', POd o
  | _, _, 0, _, _, _, h, _, _ => absurd h (Nat.not_lt_zero _)
  | 0, i, fu + 1, xs, hd, hi, _, _, hx => by
    rw [f_move_Read_L14, cond_ff (dge (by omega))]
    exact ⟨xs, rfl, hx⟩
  | d + 1, i, fu + 1, xs, hd, hi, hf, hxl, hx => by
    have hlt : i < r.1.length := by omega
    have hst := hs _ (List.getElem_mem hlt)
    obtain ⟨o, st, e1, e2, e3⟩ := old_any r.1[i] (by omega) g hg
    rw [f_move_Read_L14, cond_tt (dlt (by omega)), at_lt hlt, opt_of, e1, opt_of, req_pos (by rw [List.length_singleton]; omega), wsucc (by omega)]
    refine reads_any kk r hl hs g hg d (i + 1) fu _ (by omega) (by omega) (by omega) (by rw [List.length_append, List.length_singleton]; omega) (fun x hxm => ?_)
    rcases List.mem_append.1 hxm with h | h
    · exact hx x h
    · rw [List.mem_singleton.1 h]; exact ⟨e2, e3⟩
theorem reads_put (kk : KR) (l : List Od) (hg : ∀ o ∈ l, GO o) (ht : ∀ o ∈ l, TW o) (hl : l.length ≤ 20) (m : Int) (g : Nat) (hgf : 2000000 ≤ g) : ∀ (d i fu : Nat), l.length - i = d → i ≤ l.length → d < fu →
    f_move_Read_L14 (l.map recV, m) kk g fu (l.take i) (i : Int) = kk l
  | _, _, 0, _, _, h => absurd h (Nat.not_lt_zero _)
  | 0, i, fu + 1, hd, hi, _ => by
    rw [f_move_Read_L14, cond_ff (dge (by rw [List.length_map]; omega)), List.take_of_length_le (by omega)]
  | d + 1, i, fu + 1, hd, hi, hf => by
    have hlt : i < l.length := by omega
    have hlt2 : i < (l.map recV).length := by rw [List.length_map]; omega
    rw [f_move_Read_L14, cond_tt (dlt (by rw [List.length_map]; omega)), at_lt hlt2, opt_of, List.getElem_map, old_put _ (hg _ (List.getElem_mem hlt)) (ht _ (List.getElem_mem hlt)) g hgf, opt_of]
    dsimp only
    rw [req_pos (by rw [List.length_singleton, List.length_take]; omega), wsucc (by omega)]
    have ih := reads_put kk l hg ht hl m g hgf d (i + 1) fu (by omega) (by omega) (by omega)
    rw [take_snoc hlt] at ih
    exact ih
theorem rreads_any (kk : KR) (r : List (List UInt8) × Int) (hl : r.1.length ≤ 1048576) (hs : ∀ t ∈ r.1, t.length ≤ 4096) (g : Nat) (hg : 2000000 ≤ g) : ∀ (d i fu : Nat) (xs : List Od), r.1.length - i = d → i ≤ r.1.length → d < fu → xs.length ≤ i → (∀ o ∈ xs, POd o) →
    f_lumref_OldRead_L14 r kk g fu xs (i : Int) = some ([], 4) ∨ ∃ xs', f_lumref_OldRead_L14 r kk g fu xs (i : Int) = kk xs' ∧ ∀ o ∈ xs', POd o
  | _, _, 0, _, _, _, h, _, _ => absurd h (Nat.not_lt_zero _)
  | 0, i, fu + 1, xs, hd, hi, _, _, hx => by
    rw [f_lumref_OldRead_L14, cond_ff (dge (by omega))]
    exact .inr ⟨xs, rfl, hx⟩
  | d + 1, i, fu + 1, xs, hd, hi, hf, hxl, hx => by
    have hlt : i < r.1.length := by omega
    have hst := hs _ (List.getElem_mem hlt)
    obtain ⟨o, ok, e1, e2⟩ := rold_any r.1[i] (by omega) g hg
    rw [f_lumref_OldRead_L14, cond_tt (dlt (by omega)), at_lt hlt, opt_of, e1, opt_of]
    cases ok with
    | false => exact .inl rfl
    | true =>
      dsimp only
      rw [cond_ff (show (!true) = false from rfl), req_pos (by rw [List.length_singleton]; omega), wsucc (by omega)]
      refine rreads_any kk r hl hs g hg d (i + 1) fu _ (by omega) (by omega) (by omega) (by rw [List.length_append, List.length_singleton]; omega) (fun x hxm => ?_)
      rcases List.mem_append.1 hxm with h | h
      · exact hx x h
      · rw [List.mem_singleton.1 h]; exact e2 rfl
theorem rreads_put (kk : KR) (l : List Od) (hg : ∀ o ∈ l, GO o) (ht : ∀ o ∈ l, TW o) (hl : l.length ≤ 20) (m : Int) (g : Nat) (hgf : 2000000 ≤ g) : ∀ (d i fu : Nat), l.length - i = d → i ≤ l.length → d < fu →
    f_lumref_OldRead_L14 (l.map recV, m) kk g fu (l.take i) (i : Int) = kk l
  | _, _, 0, _, _, h => absurd h (Nat.not_lt_zero _)
  | 0, i, fu + 1, hd, hi, _ => by
    rw [f_lumref_OldRead_L14, cond_ff (dge (by rw [List.length_map]; omega)), List.take_of_length_le (by omega)]
  | d + 1, i, fu + 1, hd, hi, hf => by
    have hlt : i < l.length := by omega
    have hlt2 : i < (l.map recV).length := by rw [List.length_map]; omega
    rw [f_lumref_OldRead_L14, cond_tt (dlt (by rw [List.length_map]; omega)), at_lt hlt2, opt_of, List.getElem_map, rold_put _ (hg _ (List.getElem_mem hlt)) (ht _ (List.getElem_mem hlt)) g hgf, opt_of]
    dsimp only
    rw [cond_ff (show (!true) = false from rfl), req_pos (by rw [List.length_singleton, List.length_take]; omega), wsucc (by omega)]
    have ih := rreads_put kk l hg ht hl m g hgf d (i + 1) fu (by omega) (by omega) (by omega)
    rw [take_snoc hlt] at ih
    exact ih
theorem read_any {F : List UInt8 → A8u8} (hF : IdF F) (a : List UInt8) (ha : a.length ≤ 1048576) (fu : Nat) (hf : 2000000 ≤ fu) : ∃ r q, f_move_Read fu a = some r ∧ f_lumref_OldRead fu a = some q ∧ Ans F a r ∧ Ans F a q := by
  obtain ⟨l, m, h1, h2, h3, h4, h5⟩ := scans_ok hF a ha fu hf
  unfold f_move_Read f_lumref_OldRead
  rw [h1, h2, opt_of, opt_of, lt_of, lt_of]
  obtain ⟨xs, e1, e2⟩ := reads_any (end1 fu a) (l, (m : Int)) (by show l.length ≤ _; omega) h5 fu hf l.length 0 fu [] rfl (Nat.zero_le _) (by omega) (Nat.zero_le _) (by simp)
  obtain ⟨_, r, e3, e4⟩ := ends_any hF a xs e2 fu hf
  have hr : f_move_Read_L14 (l, (m : Int)) (end1 fu a) fu fu [] 0 = some r := e1.trans e3
  rcases rreads_any (end2 fu a) (l, (m : Int)) (by show l.length ≤ _; omega) h5 fu hf l.length 0 fu [] rfl (Nat.zero_le _) (by omega) (Nat.zero_le _) (by simp) with q1 | ⟨ys, q1, q2⟩
  · exact ⟨r, ([], 4), hr, q1, e4, .inr rfl⟩
  · obtain ⟨w1, w, w2, w3⟩ := ends_any hF a ys q2 fu hf
    have hq : f_lumref_OldRead_L14 (l, (m : Int)) (end2 fu a) fu fu [] 0 = some w := q1.trans (w1.symm.trans w2)
    exact ⟨r, w, hr, hq, e4, w3⟩
theorem read_put {F : List UInt8 → A8u8} (hF : IdF F) (a : List UInt8) (l : List Od) (hl : ∀ o ∈ l, POd o) (h : packV F l = (a, 0)) (fu : Nat) (hf : 2000000 ≤ fu) : f_move_Read fu a = some (l, 0) ∧ f_lumref_OldRead fu a = some (l, 0) := by
  have h0 := h
  unfold packV at h0
  by_cases he : errV l = 0
  · rw [if_neg (by simpa using he)] at h0
    obtain ⟨g1, g2⟩ := errV_zero he
    obtain ⟨f1, f2, f3⟩ := framesV_zero F (l.map recV) [] (by rw [h0])
    rw [h0, List.nil_append] at f1
    rw [List.nil_append] at f3
    have ha : a = (l.map recV).flatMap (frameV F) := f1
    obtain ⟨s1, s2⟩ := scan_both hF (l.map recV) a ha f2 (by rw [ha]; exact f3 (by simp)) (by rw [List.length_map]; exact g1) fu hf
    obtain ⟨e1, e2⟩ := ends_put hF a l hl fu hf h
    unfold f_move_Read f_lumref_OldRead
    rw [s1, s2, opt_of, opt_of, lt_of, lt_of]
    exact ⟨(reads_put (end1 fu a) l g2 (fun o ho => pod_tw (hl o ho)) g1 _ fu hf l.length 0 fu rfl (Nat.zero_le _) (by omega)).trans e1, (rreads_put (end2 fu a) l g2 (fun o ho => pod_tw (hl o ho)) g1 _ fu hf l.length 0 fu rfl (Nat.zero_le _) (by omega)).trans e2⟩
  · rw [if_pos he] at h0
    have := congrArg (fun x : List UInt8 × Int => x.2) h0
    exact absurd this he
theorem wf64 {n : Int} (h0 : -9223372036854775808 ≤ n) (h1 : n ≤ 9223372036854775807) : (Lit.int .i64 n).wf = true := by
  simp [Lit.wf, IntKind.min, IntKind.max, IntKind.signed, IntKind.bits]; omega
theorem eq_items (w : List It) (hg : ∀ x ∈ w, GI x) (ht : ∀ x ∈ w, -9223372036854775808 ≤ x.Time ∧ x.Time ≤ 9223372036854775807) (hl : w.length ≤ 100) (kk : Unit → Option Bool) : ∀ (d i fu : Nat), w.length - i = d → i ≤ w.length → d < fu → f_slices_Equal___api_Item_api_Item__L6 w w kk fu (i : Int) = kk ()
  | _, _, 0, _, _, h => absurd h (Nat.not_lt_zero _)
  | 0, i, fu + 1, hd, hi, _ => by rw [f_slices_Equal___api_Item_api_Item__L6, cond_ff (dge (by omega))]
  | d + 1, i, fu + 1, hd, hi, hf => by
    have hlt : i < w.length := by omega
    have hx := hg _ (List.getElem_mem hlt)
    have hxt := ht _ (List.getElem_mem hlt)
    have k1 := wf64 (n := w[i].Kind) (by have := hx.k1; omega) (by have := hx.k3; omega)
    have k2 := wf64 (n := w[i].Mode) (by have := hx.m0; omega) (by have := hx.m1; omega)
    have k3 := wf64 hxt.1 hxt.2
    have k4 := hx.pl
    have k5 := hx.bl
    rw [f_slices_Equal___api_Item_api_Item__L6, cond_tt (dlt (by omega)), at_lt hlt, opt_of, opt_of, req_pos (by omega), req_pos k1, req_pos k2, req_pos k3, req_pos (by omega), req_pos (by omega), req_pos k1, req_pos k2, req_pos k3, req_pos (by omega), beq_self_eq_true, cond_ff (show (!true) = false from rfl), wsucc (by omega)]
    exact eq_items w hg ht hl kk d (i + 1) fu (by omega) (by omega) (by omega)
theorem same_go (l : List Od) (hg : ∀ o ∈ l, GO o) (ht : ∀ o ∈ l, TW o) (hl : l.length ≤ 20) (kk : Unit → Option Bool) (g : Nat) (hgf : 2000000 ≤ g) : ∀ (d i fu : Nat), l.length - i = d → i ≤ l.length → d < fu → f_slices_EqualFunc___api_Old___api_Old_api_Old_api_Old__F30_L6 l l kk g fu (i : Int) = kk ()
  | _, _, 0, _, _, h => absurd h (Nat.not_lt_zero _)
  | 0, i, fu + 1, hd, hi, _ => by rw [f_slices_EqualFunc___api_Old___api_Old_api_Old_api_Old__F30_L6, cond_ff (dge (by omega))]
  | d + 1, i, fu + 1, hd, hi, hf => by
    have hlt : i < l.length := by omega
    have ho := hg _ (List.getElem_mem hlt)
    have hfw := ho.few
    have h1 : f_lumref_SameOlds_1 g l[i] l[i] = some true := by
      unfold f_lumref_SameOlds_1 f_slices_Equal___api_Item_api_Item_
      rw [lt_of, beq_self_eq_true, beq_self_eq_true, cond_tt rfl, cond_tt rfl, show ((l[i].World.length : Int) != (l[i].World.length : Int)) = false from by simp, cond_ff rfl, lt_of]
      have := eq_items l[i].World (world_gi ho) (ht _ (List.getElem_mem hlt)) hfw (fun _ => some true) _ 0 g rfl (Nat.zero_le _) (by omega)
      exact (congrArg (fun o => opt o fun (r8 : Bool) => some r8) this)
    rw [f_slices_EqualFunc___api_Old___api_Old_api_Old_api_Old__F30_L6, cond_tt (dlt (by omega)), at_lt hlt, opt_of, opt_of, h1, opt_of, cond_ff (show (!true) = false from rfl), wsucc (by omega)]
    exact same_go l hg ht hl kk g hgf d (i + 1) fu (by omega) (by omega) (by omega)
theorem same_ok (l : List Od) (hg : ∀ o ∈ l, GO o) (ht : ∀ o ∈ l, TW o) (hl : l.length ≤ 20) (fu : Nat) (hf : 2000000 ≤ fu) : f_lumref_SameOlds fu l l = some true := by
  unfold f_lumref_SameOlds f_slices_EqualFunc___api_Old___api_Old_api_Old_api_Old__F30
  rw [show ((l.length : Int) != (l.length : Int)) = false from by simp, cond_ff rfl, lt_of]
  have := same_go l hg ht hl (fun _ => some true) fu hf _ 0 fu rfl (Nat.zero_le _) (by omega)
  exact (congrArg (fun o => opt o fun (r2 : Bool) => some r2) this)
theorem law_end {r q : List Od × Int} (p : List UInt8 × Int) (fu : Nat) (h : r = q) (hs : f_lumref_SameOlds fu q.1 q.1 = some true) : (lt (fun (j11b4 : Bool) => (some j11b4)) fun (kk12 : Bool → Option Bool) => (bif (p.1 == p.1) then (bif (p.2 == p.2) then (opt (f_lumref_SameOlds fu r.1 q.1) fun (r16 : Bool) => (bif r16 then (kk12 (r.2 == q.2)) else (kk12 false))) else (kk12 false)) else (kk12 false))) = some true := by
  subst h
  rw [lt_of, beq_self_eq_true, beq_self_eq_true, cond_tt rfl, cond_tt rfl, hs, opt_of, cond_tt rfl, beq_self_eq_true]
theorem law_ok (l : List Od) (a : List UInt8) (hl : ∀ o ∈ l, OS o ∧ TW o) (ha : a.length ≤ 1048576) (fu : Nat) (hf : 2000000 ≤ fu) : f_lumlaw_MoveReads fu l a = some true := by
  obtain ⟨F, hF⟩ := id_ex
  unfold f_lumlaw_MoveReads
  rw [pack_ok hF l (fun o ho => (hl o ho).1) (fun o ho => (hl o ho).2) fu hf, rpack_ok hF l (fun o ho => (hl o ho).1) (fun o ho => (hl o ho).2) fu hf, opt_of, opt_of]
  obtain ⟨p, hp⟩ : ∃ p, p = packV F l := ⟨_, rfl⟩
  rw [← hp]
  obtain ⟨r, q, e1, e2, e3, e4⟩ := read_any hF a ha fu hf
  have nil_same : f_lumref_SameOlds fu [] [] = some true := same_ok [] (by simp) (by simp) (by simp) fu hf
  have put : ∀ x : List Od, (∀ o ∈ x, POd o) → packV F x = (a, 0) → r = (x, 0) ∧ q = (x, 0) ∧ f_lumref_SameOlds fu x x = some true := by
    intro x hx hpx
    obtain ⟨w1, w2⟩ := read_put hF a x hx hpx fu hf
    have he : errV x = 0 := by
      unfold packV at hpx
      by_cases he : errV x = 0
      · exact he
      · rw [if_pos he] at hpx
        exact absurd (congrArg (fun x : List UInt8 × Int => x.2) hpx) he
    obtain ⟨g1, g2⟩ := errV_zero he
    exact ⟨Option.some.inj (e1.symm.trans w1), Option.some.inj (e2.symm.trans w2), same_ok x g2 (fun o ho => pod_tw (hx o ho)) g1 fu hf⟩
  rw [e1, e2, opt_of, opt_of]
  rcases e3 with ⟨_, h2, h3⟩ | h
  · obtain ⟨z1, z2, z3⟩ := put r.1 h2 h3
    refine law_end p fu (z1.trans z2.symm) ?_
    rw [z2]; exact z3
  · rcases e4 with ⟨_, h2, h3⟩ | h'
    · obtain ⟨z1, z2, z3⟩ := put q.1 h2 h3
      refine law_end p fu (z1.trans z2.symm) ?_
      rw [z2]; exact z3
    · refine law_end p fu (h.trans h'.symm) ?_
      rw [h']; exact nil_same
def fuel (_ : List Od) (_ : List UInt8) : Nat := 4000000
theorem says (l : List Od) (a : List UInt8) (ok0 : okB (fun N y => okbS_api_Old N y) 1048576 l) (ha : a.length ≤ 1048576) : f_lumlaw_MoveReads (fuel l a) l a = some true :=
  law_ok l a (fun o ho => by
    obtain ⟨b1, b2, b3⟩ := ok0.2 o ho
    exact ⟨⟨b1.2, fun x hx => (b3.2 x hx).1.2⟩, fun x hx => wfi64 (b3.2 x hx).2.2.2.1⟩) ha 4000000 (by omega)
end Go.Proofs.YtfhifdmbdkkgaaaGreatDoor.PMoveReads
