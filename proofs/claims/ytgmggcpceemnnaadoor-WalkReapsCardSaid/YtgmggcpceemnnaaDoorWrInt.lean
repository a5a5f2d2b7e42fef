/- Numbers with their order: the code and the reference agree: TreeReads. No condition. -/
import Derived.Test.YtgmggcpceemnnaaDoorWWalkReaps
import Derived.Test.YtgmggcpceemnnaaDoorPlBits
import Derived.Test.YtgmggcpceemnnaaDoorNumMath
import Derived.Laws.BitsAllLaws
namespace Go.Proofs.YtgmggcpceemnnaaDoor.PTreeInt
open Go.RowKit YtgmggcpceemnnaaDoor.En YtgmggcpceemnnaaDoor Num Go.Lib
set_option linter.unusedVariables false
set_option linter.unusedSimpArgs false
theorem iw {n : Nat} (h : n ≤ 9223372036854775807) : IntKind.i64.wrap (n : Int) = (n : Int) := w64 (by omega) (by omega)
theorem uw {n : Nat} (h : n < 18446744073709551616) : IntKind.u64.wrap (n : Int) = (n : Int) := by
  unfold IntKind.wrap
  simp [IntKind.signed, IntKind.bits]
  omega
theorem bAt_lt {s : List UInt8} {j : Nat} (h : j < s.length) : En.bAt s (j : Int) = ((s[j].toNat : Nat) : Int) := by
  unfold En.bAt
  rw [Int.toNat_natCast, List.getD_eq_getElem?_getD, List.getElem?_eq_getElem h]; rfl
theorem p8 : 256 ^ 8 = 18446744073709551616 := by decide
theorem p7 : 256 ^ 7 = 72057594037927936 := by decide
/-! the number of a row of digits -/
theorem value_go (s : List UInt8) (hs : s.length ≤ 8) (kk : Int → Option Int) : ∀ (d j fu : Nat), s.length - j = d → j ≤ s.length → d < fu →
    f_num_value_L5 s kk fu ((beNat (s.take j) : Nat) : Int) (j : Int) = kk ((beNat s : Nat) : Int)
  | 0, j, fu + 1, hd, hj, _ => by
    rw [f_num_value_L5, cond_ff (dge (by omega)), List.take_of_length_le (by omega)]
  | d + 1, j, fu + 1, hd, hj, hf => by
    have hlt : j < s.length := by omega
    have hl : (s.take j).length ≤ 7 := by rw [List.length_take]; omega
    have h7 := beNat_lt' hl
    rw [p7] at h7
    have hb := s[j].toNat_lt
    rw [f_num_value_L5, cond_tt (dlt (by omega)), req_pos ⟨by omega, by omega⟩, bAt_lt hlt, uw (n := s[j].toNat) (by omega), wsucc (by omega)]
    have e1 : ((beNat (s.take j) : Nat) : Int) * 2 ^ min ((8 : Int)).toNat (IntKind.bits .u64) = ((beNat (s.take j) * 2 ^ 8 : Nat) : Int) := shl_nat (m := 8) rfl (by decide)
    rw [e1, uw (by omega), u64_or_nat _ _ (by omega) (by omega)]
    have e2 : beNat (s.take j) * 2 ^ 8 ||| s[j].toNat = beNat (s.take (j + 1)) := by
      rw [beNat_take hlt, Nat.mul_comm _ (2 ^ 8), ← Nat.two_pow_add_eq_or_of_lt (i := 8) (by omega)]
    rw [e2]
    exact value_go s hs kk d (j + 1) fu (by omega) (by omega) (by omega)
theorem value_ok (s : List UInt8) (hs : s.length ≤ 8) (fu : Nat) (hf : 9 ≤ fu) : f_num_value fu s = some ((beNat s : Nat) : Int) := by
  unfold f_num_value
  rw [lt_of]
  exact value_go s hs _ s.length 0 fu (by omega) (by omega) (by omega)
theorem number_ok : ∀ (k : Nat) (s : List UInt8) (fu : Nat), s.length = k → k ≤ 8 → k < fu → f_lumref_number fu s = some ((beNat s : Nat) : Int)
  | 0, s, fu + 1, hk, _, _ => by
    have : s = [] := List.eq_nil_of_length_eq_zero hk
    subst this; rfl
  | k + 1, s, fu + 1, hk, h8, hf => by
    have hne : s ≠ [] := by rintro rfl; simp at hk
    have e : IntKind.i64.wrap ((s.length : Int) - (1 : Int)) = (k : Int) := by rw [w64 (by omega) (by omega)]; omega
    have hlk : k < s.length := by omega
    have ht : (s.take k).length = k := by rw [List.length_take]; omega
    have h7 := beNat_lt' (l := s.take k) (k := 7) (by omega)
    rw [p7] at h7
    have hb := s[k].toNat_lt
    rw [f_lumref_number, cond_ff (beq_eq_false_iff_ne.2 hne), e, req_pos ⟨by omega, by omega⟩, Int.toNat_natCast, number_ok k (s.take k) fu ht (by omega) (by omega), opt_of, req_pos ⟨by omega, by omega⟩, bAt_lt hlk]
    have e1 : (256 : Int) * ((beNat (s.take k) : Nat) : Int) = ((256 * beNat (s.take k) : Nat) : Int) := by omega
    rw [e1, uw (by omega), uw (n := s[k].toNat) (by omega)]
    have e2 : ((256 * beNat (s.take k) : Nat) : Int) + ((s[k].toNat : Nat) : Int) = ((beNat s : Nat) : Int) := by
      have := beNat_take hlk
      rw [List.take_of_length_le (by omega : s.length ≤ k + 1)] at this
      omega
    rw [e2, uw]
    have := beNat_lt' (l := s) (k := 8) (by omega)
    rw [p8] at this; exact this
theorem hp_ok (fu : Nat) (s : List UInt8) (c : UInt8) : f_strings_HasPrefix fu s [c] = some (decide (s.take 1 = [c])) := by
  unfold f_strings_HasPrefix f_stringslite_HasPrefix
  rw [lt_of]
  cases s with
  | nil => rfl
  | cons a t =>
    rw [cond_tt (decide_eq_true (by simp; omega)), req_pos ⟨by simp, by simp; omega⟩, opt_of]
    congr 1
    show (([a] : List UInt8) == [c]) = decide ([a] = [c])
    by_cases h : a = c
    · subst h; simp
    · simp [h]
theorem b0 (b : UInt8) (t : List UInt8) : En.bAt (b :: t) 0 = ((b.toNat : Nat) : Int) := rfl
theorem cut_k (b : UInt8) (t : List UInt8) (k : Nat) : cut (b :: t) 1 ((1 + k : Nat) : Int) = t.take k := by
  unfold cut
  rw [Int.toNat_natCast, Nat.add_comm]; rfl
/-! bytes turned -/
def inv (b : UInt8) : UInt8 := UInt8.ofNat (255 - b.toNat)
theorem inv_nat (b : UInt8) : (inv b).toNat = 255 - b.toNat := by
  have := b.toNat_lt
  unfold inv; rw [UInt8.toNat_ofNat']; omega
theorem mid_len (s : List UInt8) {j : Nat} (h : j < s.length) : ((s.take j).map inv).length = j := by rw [List.length_map, List.length_take]; omega
theorem mid_at (s : List UInt8) {j : Nat} (h : j < s.length) : ((s.take j).map inv ++ s.drop j)[j]? = some s[j] := by
  have hl := mid_len s h
  rw [List.getElem?_append_right (by omega), hl, Nat.sub_self, List.getElem?_drop, Nat.add_zero, List.getElem?_eq_getElem h]
theorem mid_set (s : List UInt8) {j : Nat} (h : j < s.length) : ((s.take j).map inv ++ s.drop j).set j (inv s[j]) = (s.take (j + 1)).map inv ++ s.drop (j + 1) := by
  have hl := mid_len s h
  rw [List.set_append_right _ _ (by omega), hl, Nat.sub_self, List.drop_eq_getElem_cons h, ← List.take_append_getElem h, List.set_cons_zero, List.map_append, List.append_assoc]
  rfl
theorem xor_inv (b : UInt8) : bits .xor .u8 (if IntKind.signed .u8 then -1 else IntKind.max .u8) (b.toNat : Int) = (((inv b).toNat : Nat) : Int) := by
  have h : ∀ k : Fin 256, bits .xor .u8 (if IntKind.signed .u8 then -1 else IntKind.max .u8) ((k.val : Nat) : Int) = ((255 - k.val : Nat) : Int) := by decide +kernel
  have := h ⟨b.toNat, b.toNat_lt⟩
  rw [inv_nat]; exact this
theorem sub_inv (b : UInt8) : IntKind.u8.wrap ((255 : Int) - (b.toNat : Int)) = (((inv b).toNat : Nat) : Int) := by
  have := b.toNat_lt
  rw [inv_nat, show (255 : Int) - (b.toNat : Int) = ((255 - b.toNat : Nat) : Int) by omega, u8w_in (by omega)]
theorem turn_go (s : List UInt8) (hs : s.length ≤ 9223372036854775806) (kk : List UInt8 → Option (List UInt8)) : ∀ (d j fu : Nat), s.length - j = d → j ≤ s.length → d < fu →
    f_num_turned_L7 s kk fu ((s.take j).map inv ++ s.drop j) (j : Int) = kk (s.map inv)
  | 0, j, fu + 1, hd, hj, _ => by
    rw [f_num_turned_L7, cond_ff (dge (by omega)), List.take_of_length_le (by omega), List.drop_of_length_le (by omega), List.append_nil]
  | d + 1, j, fu + 1, hd, hj, hf => by
    have hlt : j < s.length := by omega
    have := (inv s[j]).toNat_lt
    rw [f_num_turned_L7, cond_tt (dlt (by omega)), at_of (mid_at s hlt), opt_of, opt_of, xor_inv, req_pos ⟨by omega, by omega⟩, wsucc (by omega), Int.toNat_natCast, Int.toNat_natCast, UInt8.ofNat_toNat, mid_set s hlt]
    exact turn_go s hs kk d (j + 1) fu (by omega) (by omega) (by omega)
theorem turn_ok (s : List UInt8) (hs : s.length ≤ 8) (fu : Nat) (hf : 9 ≤ fu) : f_num_turned fu s = some (s.map inv) := by
  unfold f_num_turned
  rw [req_pos (by omega), lt_of]
  exact turn_go s (by omega) _ s.length 0 fu (by omega) (by omega) (by omega)
theorem rturn_go (s : List UInt8) (hs : s.length ≤ 9223372036854775806) (kk : List UInt8 → Option (List UInt8)) : ∀ (d j fu : Nat), s.length - j = d → j ≤ s.length → d < fu →
    f_lumref_turned_L7 s kk fu ((s.take j).map inv ++ s.drop j) (j : Int) = kk (s.map inv)
  | 0, j, fu + 1, hd, hj, _ => by
    rw [f_lumref_turned_L7, cond_ff (dge (by omega)), List.take_of_length_le (by omega), List.drop_of_length_le (by omega), List.append_nil]
  | d + 1, j, fu + 1, hd, hj, hf => by
    have hlt : j < s.length := by omega
    have := (inv s[j]).toNat_lt
    rw [f_lumref_turned_L7, cond_tt (dlt (by omega)), at_of (mid_at s hlt), opt_of, opt_of, sub_inv, req_pos ⟨by omega, by omega⟩, wsucc (by omega), Int.toNat_natCast, Int.toNat_natCast, UInt8.ofNat_toNat, mid_set s hlt]
    exact rturn_go s hs kk d (j + 1) fu (by omega) (by omega) (by omega)
theorem rturn_ok (s : List UInt8) (hs : s.length ≤ 8) (fu : Nat) (hf : 9 ≤ fu) : f_lumref_turned fu s = some (s.map inv) := by
  unfold f_lumref_turned
  rw [req_pos (by omega), lt_of]
  exact rturn_go s (by omega) _ s.length 0 fu (by omega) (by omega) (by omega)
/-! an integer read -/
def ends (neg : Bool) (d : List UInt8) (k : Nat) : Int × Int × Int :=
  if d.take 1 = [0] ∨ 9223372036854775808 ≤ beNat d then (0, 0, 4) else (bif neg then (-1 : Int) - ((beNat d : Nat) : Int) else ((beNat d : Nat) : Int), ((1 + k : Nat) : Int), 0)
def goI (neg : Bool) (t : List UInt8) (k : Nat) : Int × Int × Int :=
  if 8 < k then (0, 0, 4) else if t.length < k then (0, 0, 3) else ends neg (bif neg then (t.take k).map inv else t.take k) k
def getI : List UInt8 → Int × Int × Int
  | [] => (0, 0, 3)
  | b :: t => if b.toNat < 128 then goI true t (127 - b.toNat) else goI false t (b.toNat - 128)
theorem head_z (d : List UInt8) (h : 0 < d.length) : ((En.bAt d (0 : Int)) == (0 : Int)) = decide (d.take 1 = [0]) := by
  cases d with
  | nil => simp at h
  | cons c u =>
    show ((((c.toNat : Nat) : Int)) == 0) = decide ([c] = [0])
    by_cases hc : c = 0
    · subst hc; rfl
    · have h5 : c.toNat ≠ 0 := fun h => hc (UInt8.toNat_inj.1 h)
      rw [beq_eq_false_iff_ne.2 (by omega), decide_eq_false (by simpa using hc)]
/-- the code's last part -/
theorem tail_ok (neg : Bool) (d : List UInt8) (k fu : Nat) (hk : d.length = k) (h8 : k ≤ 8) (hf : 9 ≤ fu) (B : Int) (hB : decide (B < (128 : Int)) = neg) :
    (opt (f_num_value fu d) fun (r12 : Int) => (lt (fun (j13b51 : Bool) => (bif j13b51 then (some ((0 : Int), (0 : Int), (4 : Int))) else (bif (decide (B < (128 : Int))) then (some ((IntKind.i64.wrap ((-1 : Int) - (IntKind.i64.wrap r12))), (IntKind.i64.wrap ((1 : Int) + (k : Int))), (0 : Int))) else (some ((IntKind.i64.wrap r12), (IntKind.i64.wrap ((1 : Int) + (k : Int))), (0 : Int)))))) fun (kk14 : Bool → Option (Int × Int × Int)) => (bif (decide ((k : Int) > (0 : Int))) then (req (0 ≤ (0 : Int) ∧ (0 : Int) < (d.length : Int)) (bif ((En.bAt d (0 : Int)) == (0 : Int)) then (kk14 true) else (kk14 (decide (r12 > (9223372036854775807 : Int)))))) else (kk14 (decide (r12 > (9223372036854775807 : Int))))))) = some (ends neg d k) := by
  rw [value_ok d (by omega) fu hf, opt_of, lt_of, hB]
  have hv := beNat_lt' (l := d) (k := 8) (by omega)
  rw [p8] at hv
  have ek : IntKind.i64.wrap ((1 : Int) + (k : Int)) = ((1 + k : Nat) : Int) := by rw [w64 (by omega) (by omega)]; omega
  have key : ¬ d.take 1 = [0] → (fun (j13b51 : Bool) => (bif j13b51 then (some ((0 : Int), (0 : Int), (4 : Int))) else (bif neg then (some ((IntKind.i64.wrap ((-1 : Int) - (IntKind.i64.wrap ((beNat d : Nat) : Int)))), (IntKind.i64.wrap ((1 : Int) + (k : Int))), (0 : Int))) else (some ((IntKind.i64.wrap ((beNat d : Nat) : Int)), (IntKind.i64.wrap ((1 : Int) + (k : Int))), (0 : Int)))))) (decide (((beNat d : Nat) : Int) > (9223372036854775807 : Int))) = some (ends neg d k) := by
    intro hz
    unfold ends
    by_cases hb : 9223372036854775808 ≤ beNat d
    · rw [decide_eq_true (by omega), if_pos (.inr hb)]; rfl
    · rw [decide_eq_false (by omega), if_neg (by rintro (h | h); exact hz h; exact hb h), iw (by omega), ek]
      cases neg with
      | true => rw [w64 (by omega) (by omega)]; rfl
      | false => rfl
  by_cases h0 : 0 < k
  · rw [cond_tt (decide_eq_true (by omega)), req_pos ⟨by omega, by omega⟩, head_z d (by omega)]
    by_cases hz : d.take 1 = [0]
    · rw [decide_eq_true hz]; unfold ends; rw [if_pos (.inl hz)]; rfl
    · rw [decide_eq_false hz]; exact key hz
  · rw [cond_ff (decide_eq_false (by omega))]
    refine key ?_
    have : d = [] := List.eq_nil_of_length_eq_zero (by omega)
    subst this; simp
theorem get_ok (s : List UInt8) (fu : Nat) (hf : 9 ≤ fu) : f_num_GetInt fu s = some (getI s) := by
  unfold f_num_GetInt
  cases s with
  | nil => rfl
  | cons b t =>
    have hb := b.toNat_lt
    have hlen : (((b :: t).length : Nat) : Int) = (t.length : Int) + 1 := by simp
    rw [cond_ff (by rfl), req_pos ⟨by omega, by omega⟩, req_pos ⟨by omega, by omega⟩, b0, lt_of, iw (n := b.toNat) (by omega)]
    have main : ∀ (neg : Bool) (k : Nat), decide (((b.toNat : Nat) : Int) < (128 : Int)) = neg → k < 128 → (fun (j4i5 : Int) => (bif (decide (j4i5 > (8 : Int))) then (some ((0 : Int), (0 : Int), (4 : Int))) else (bif (decide (((b :: t).length : Int) < (IntKind.i64.wrap ((1 : Int) + j4i5)))) then (some ((0 : Int), (0 : Int), (3 : Int))) else (req (0 ≤ (1 : Int) ∧ (1 : Int) ≤ (IntKind.i64.wrap ((1 : Int) + j4i5)) ∧ (IntKind.i64.wrap ((1 : Int) + j4i5)) ≤ ((b :: t).length : Int)) (lt (fun (j9s7 : (List UInt8)) => (opt (f_num_value fu j9s7) fun (r12 : Int) => (lt (fun (j13b51 : Bool) => (bif j13b51 then (some ((0 : Int), (0 : Int), (4 : Int))) else (bif (decide (((b.toNat : Nat) : Int) < (128 : Int))) then (some ((IntKind.i64.wrap ((-1 : Int) - (IntKind.i64.wrap r12))), (IntKind.i64.wrap ((1 : Int) + j4i5)), (0 : Int))) else (some ((IntKind.i64.wrap r12), (IntKind.i64.wrap ((1 : Int) + j4i5)), (0 : Int)))))) fun (kk14 : Bool → Option (Int × Int × Int)) => (bif (decide (j4i5 > (0 : Int))) then (req (0 ≤ (0 : Int) ∧ (0 : Int) < (j9s7.length : Int)) (bif ((En.bAt j9s7 (0 : Int)) == (0 : Int)) then (kk14 true) else (kk14 (decide (r12 > (9223372036854775807 : Int)))))) else (kk14 (decide (r12 > (9223372036854775807 : Int)))))))) fun (kk10 : (List UInt8) → Option (Int × Int × Int)) => (bif (decide (((b.toNat : Nat) : Int) < (128 : Int))) then (opt (f_num_turned fu (cut (b :: t) (1 : Int) (IntKind.i64.wrap ((1 : Int) + j4i5)))) fun (r22 : (List UInt8)) => (kk10 r22)) else (kk10 (cut (b :: t) (1 : Int) (IntKind.i64.wrap ((1 : Int) + j4i5)))))))))) ((k : Nat) : Int) = some (goI neg t k) := by
      intro neg k hneg hk
      have ek : IntKind.i64.wrap ((1 : Int) + (k : Int)) = ((1 + k : Nat) : Int) := by rw [w64 (by omega) (by omega)]; omega
      unfold goI
      by_cases h1 : 8 < k
      · rw [if_pos h1]; simp only; rw [cond_tt (decide_eq_true (by omega))]
      rw [if_neg h1]
      simp only
      rw [cond_ff (decide_eq_false (by omega))]
      by_cases h2 : t.length < k
      · rw [if_pos h2, ek, cond_tt (dlt (by omega))]
      rw [if_neg h2, cond_ff (dge (by rw [ek]; omega)), req_pos ⟨by omega, by rw [ek]; omega, by rw [ek]; omega⟩, lt_of]
      have hd : (t.take k).length = k := by rw [List.length_take]; omega
      rw [hneg]
      cases neg with
      | true =>
        rw [cond_tt rfl, cond_tt rfl, ek, cut_k, turn_ok _ (by omega) fu hf, opt_of]
        have := tail_ok true ((t.take k).map inv) k fu (by rw [List.length_map, hd]) (by omega) hf ((b.toNat : Nat) : Int) hneg
        rw [hneg, ek] at this
        exact this
      | false =>
        rw [cond_ff rfl, cond_ff rfl, ek, cut_k]
        have := tail_ok false (t.take k) k fu hd (by omega) hf ((b.toNat : Nat) : Int) hneg
        rw [hneg, ek] at this
        exact this
    show _ = some (if b.toNat < 128 then goI true t (127 - b.toNat) else goI false t (b.toNat - 128))
    by_cases h : b.toNat < 128
    · rw [cond_tt (dlt (by omega)), req_pos ⟨by omega, by omega⟩, if_pos h, ← main true (127 - b.toNat) (dlt (by omega)) (by omega)]
      rw [w64 (x := (127 : Int) - (b.toNat : Int)) (by omega) (by omega), show (127 : Int) - (b.toNat : Int) = ((127 - b.toNat : Nat) : Int) by omega]
    · rw [cond_ff (dge (by omega)), if_neg h, ← main false (b.toNat - 128) (dge (by omega)) (by omega)]
      rw [w64 (x := (b.toNat : Int) - (128 : Int)) (by omega) (by omega), show (b.toNat : Int) - (128 : Int) = ((b.toNat - 128 : Nat) : Int) by omega]
theorem ff_z (d : List UInt8) : decide (d.take 1 = [255]) = decide ((d.map inv).take 1 = [0]) := by
  cases d with
  | nil => rfl
  | cons c u =>
    show decide ([c] = [255]) = decide ([inv c] = [0])
    by_cases h : c = 255
    · subst h; rfl
    · have h2 : inv c ≠ 0 := fun e => h (UInt8.toNat_inj.1 (by
        have h3 := inv_nat c
        rw [e] at h3
        have h4 := c.toNat_lt
        have h5 : (255 : UInt8).toNat = 255 := rfl
        have h6 : (0 : UInt8).toNat = 0 := rfl
        omega))
      rw [decide_eq_false (by simpa using h), decide_eq_false (by simpa using h2)]
theorem rtail (neg z : Bool) (d : List UInt8) (k : Nat) (hk : d.length = k) (h8 : k ≤ 8) (hz : z = decide (d.take 1 = [0])) (F : Bool → Option (Int × Int × Int)) (hF : F true = some (0, 0, 4)) (hG : beNat d < 9223372036854775808 → F false = some (bif neg then (-1 : Int) - ((beNat d : Nat) : Int) else ((beNat d : Nat) : Int), ((1 + k : Nat) : Int), 0)) :
    (bif z then F true else F (decide (((beNat d : Nat) : Int) ≥ (9223372036854775808 : Int)))) = some (ends neg d k) := by
  unfold ends
  by_cases h : d.take 1 = [0]
  · rw [hz, decide_eq_true h, if_pos (.inl h), cond_tt rfl, hF]
  · rw [hz, decide_eq_false h, cond_ff rfl]
    by_cases hb : 9223372036854775808 ≤ beNat d
    · rw [decide_eq_true (by omega), if_pos (.inr hb), hF]
    · rw [decide_eq_false (by omega), if_neg (by rintro (h1 | h1); exact h h1; exact hb h1), hG (by omega)]
theorem rget_ok (s : List UInt8) (fu : Nat) (hf : 9 ≤ fu) : f_lumref_GetInt fu s = some (getI s) := by
  unfold f_lumref_GetInt
  cases s with
  | nil => rfl
  | cons b t =>
    have hb := b.toNat_lt
    have hlen : (((b :: t).length : Nat) : Int) = (t.length : Int) + 1 := by simp
    show _ = some (if b.toNat < 128 then goI true t (127 - b.toNat) else goI false t (b.toNat - 128))
    rw [cond_ff (by rw [beq_eq_false_iff_ne]; omega), lt_of, req_pos ⟨by omega, by omega⟩, b0]
    by_cases h1 : b.toNat < 119
    · rw [cond_tt (dlt (by omega)), if_pos (by omega)]
      unfold goI
      rw [if_pos (by omega)]; rfl
    rw [cond_ff (dge (by omega)), req_pos ⟨by omega, by omega⟩]
    by_cases h2 : b.toNat > 136
    · rw [decide_eq_true (show ((b.toNat : Nat) : Int) > 136 by omega), if_neg (by omega)]
      unfold goI
      rw [if_pos (by omega)]; rfl
    rw [decide_eq_false (show ¬ ((b.toNat : Nat) : Int) > 136 by omega)]
    simp only
    rw [cond_ff rfl, req_pos ⟨by omega, by omega⟩, iw (n := b.toNat) (by omega)]
    by_cases h3 : b.toNat < 128
    · have e : IntKind.i64.wrap ((128 : Int) - ((b.toNat : Nat) : Int)) = ((1 + (127 - b.toNat) : Nat) : Int) := by rw [w64 (by omega) (by omega)]; omega
      rw [cond_ff (decide_eq_false (by omega)), if_pos h3, req_pos ⟨by omega, by omega⟩, e]
      generalize hk : 127 - b.toNat = k
      unfold goI
      rw [if_neg (by omega)]
      by_cases h4 : t.length < k
      · rw [cond_tt (dlt (by omega)), if_pos h4]
      have hd : (t.take k).length = k := by rw [List.length_take]; omega
      rw [cond_ff (dge (by omega)), if_neg h4, req_pos ⟨by omega, by omega, by omega⟩, cut_k, rturn_ok _ (by omega) fu hf, opt_of, number_ok k _ fu (by rw [List.length_map, hd]) (by omega) (by omega), opt_of, lt_of, req_pos ⟨by omega, by omega, by omega⟩, hp_ok, opt_of, cond_tt (b := true) rfl]
      refine rtail true _ ((t.take k).map inv) k (by rw [List.length_map, hd]) (by omega) (ff_z _) (fun (j26b67 : Bool) => (bif j26b67 then (some ((0 : Int), (0 : Int), (4 : Int))) else (some ((IntKind.i64.wrap ((-1 : Int) - (IntKind.i64.wrap ((beNat ((t.take k).map inv) : Nat) : Int)))), ((1 + k : Nat) : Int), (0 : Int))))) rfl (fun hlt => ?_)
      rw [cond_ff rfl, iw (by omega), w64 (by omega) (by omega)]; rfl
    · have e : IntKind.i64.wrap ((IntKind.i64.wrap ((1 : Int) + ((b.toNat : Nat) : Int))) - (128 : Int)) = ((1 + (b.toNat - 128) : Nat) : Int) := by rw [w64 (x := (1 : Int) + ((b.toNat : Nat) : Int)) (by omega) (by omega), w64 (by omega) (by omega)]; omega
      rw [cond_tt (decide_eq_true (by omega)), if_neg h3, req_pos ⟨by omega, by omega⟩, e]
      generalize hk : b.toNat - 128 = k
      unfold goI
      rw [if_neg (by omega)]
      by_cases h4 : t.length < k
      · rw [cond_tt (dlt (by omega)), if_pos h4]
      have hd : (t.take k).length = k := by rw [List.length_take]; omega
      rw [cond_ff (dge (by omega)), if_neg h4, req_pos ⟨by omega, by omega, by omega⟩, cut_k, number_ok k _ fu hd (by omega) (by omega), opt_of, lt_of, req_pos ⟨by omega, by omega, by omega⟩, hp_ok, opt_of, cond_ff (b := false) rfl]
      refine rtail false _ (t.take k) k hd (by omega) rfl (fun (j12b43 : Bool) => (bif j12b43 then (some ((0 : Int), (0 : Int), (4 : Int))) else (some ((IntKind.i64.wrap ((beNat (t.take k) : Nat) : Int)), ((1 + k : Nat) : Int), (0 : Int))))) rfl (fun hlt => ?_)
      rw [cond_ff rfl, iw (by omega)]; rfl
end Go.Proofs.YtgmggcpceemnnaaDoor.PTreeInt
