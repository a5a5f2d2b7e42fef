/- The directory of a pack: PackLists. No condition. -/
import Derived.Test.YtgmggcpceemnnaaPnCan
namespace Go.Proofs.Ytgmggcpceemnnaa.PPackLists
open Go.RowKit Ytgmggcpceemnnaa.En Ytgmggcpceemnnaa Num Mix PPut CN
open Go.Lib hiding cut
set_option linter.unusedVariables false
set_option linter.unusedSimpArgs false
abbrev En1 := S_api_Entry
abbrev Rr := Option (List En1 × Int)
theorem known_ok (k : Int) (fu : Nat) : f_pack_Known fu k = some (decide (1 ≤ k ∧ k ≤ 3)) := by
  unfold f_pack_Known
  rw [lt_of]
  by_cases h : k ≥ 1
  · rw [cond_tt (decide_eq_true h)]
    by_cases h2 : k ≤ 3
    · rw [decide_eq_true h2, decide_eq_true ⟨h, h2⟩]
    · rw [decide_eq_false h2, decide_eq_false (fun e => h2 e.2)]
  · rw [cond_ff (decide_eq_false h), decide_eq_false (fun e => h e.1)]
theorem kind_ok (k : Int) (fu : Nat) : f_lumref_kindOK fu k = some (decide (1 ≤ k ∧ k ≤ 3)) := by
  unfold f_lumref_kindOK
  rw [lt_of]
  by_cases h1 : k = 1
  · subst h1; rfl
  rw [cond_ff (beq_eq_false_iff_ne.2 h1)]
  by_cases h2 : k = 2
  · subst h2; rfl
  rw [cond_ff (beq_eq_false_iff_ne.2 h2)]
  by_cases h3 : k = 3
  · subst h3; rfl
  rw [beq_eq_false_iff_ne.2 h3, decide_eq_false (by omega)]
theorem or8 {a b : Nat} (ha : a < 256) (hb : b < 256) : bits .or .i64 (a : Int) ((b * 256 : Nat) : Int) = ((a + 256 * b : Nat) : Int) := by
  rw [i64_or_nat a (b * 256) (by omega) (by omega), Nat.mul_comm b 256, Nat.or_comm, show 256 = 2 ^ 8 from rfl, ← Nat.two_pow_add_eq_or_of_lt (i := 8) (by omega), Nat.add_comm]
def z8 : A8u8 := (A8u8.mk (0 : UInt8) (0 : UInt8) (0 : UInt8) (0 : UInt8) (0 : UInt8) (0 : UInt8) (0 : UInt8) (0 : UInt8))
theorem cp8 {l : List UInt8} (h : l.length = 8) : cpA8u8 z8 l = ofA8u8 l := by
  unfold cpA8u8
  rw [List.take_of_length_le (by omega), h, show (lA8u8 z8).drop 8 = [] from rfl, List.append_nil]
def Wf (u : En1) : Prop := (0 ≤ u.Kind ∧ u.Kind ≤ 255) ∧ (0 ≤ u.At ∧ u.At ≤ 1099511627776) ∧ (0 ≤ u.Len ∧ u.Len ≤ 1099511627776)
theorem dup_go (s : List UInt8) (out : List En1) (ho : out.length ≤ 40) (id : A8u8) (hid : cpA8u8 (A8u8.mk (0 : UInt8) (0 : UInt8) (0 : UInt8) (0 : UInt8) (0 : UInt8) (0 : UInt8) (0 : UInt8) (0 : UInt8)) (cut s (1 : Int) (9 : Int)) = id) (kk : Unit → Rr) : ∀ (d j fu : Nat), out.length - j = d → j ≤ out.length → d < fu →
    f_lumref_PackList_L53 s out kk fu (j : Int) = if (out.drop j).any (fun y => y.ID == id) then some ([], 4) else kk ()
  | _, _, 0, _, _, hf => absurd hf (Nat.not_lt_zero _)
  | 0, j, fu + 1, hd, hj, _ => by
    rw [f_lumref_PackList_L53, cond_ff (dge (by omega)), List.drop_of_length_le (by omega)]; rfl
  | d + 1, j, fu + 1, hd, hj, hf => by
    have hlt : j < out.length := by omega
    rw [f_lumref_PackList_L53, cond_tt (dlt (by omega)), at_lt hlt, opt_of, hid, wsucc (by omega), dup_go s out ho id hid kk d (j + 1) fu (by omega) (by omega) (by omega), List.drop_eq_getElem_cons hlt, List.any_cons]
    cases (out[j].ID == id)
    · rw [cond_ff rfl, Bool.false_or]
    · rw [cond_tt rfl, Bool.true_or, if_pos rfl]
def Inv (m : List (A8u8 × Bool)) (out : List En1) : Prop := ∀ id : A8u8, (gget m id).getD false = out.any (fun y => y.ID == id)
theorem Inv.push {m : List (A8u8 × Bool)} {out : List En1} (h : Inv m out) (x : En1) : Inv (gset m x.ID true) (out ++ [x]) := by
  intro id
  rw [gget_gset, List.any_append]
  by_cases hx : x.ID = id
  · rw [if_pos hx]
    simp [hx]
  · rw [if_neg hx, h id]
    simp [hx]
theorem go (a0 : List UInt8) (B : Nat) (hB : (((a0.take ((IntKind.i64.wrap ((IntKind.i64.wrap ((IntKind.i64.wrap ((a0.length : Int) - (8 : Int))) - (2 : Int))) - (IntKind.i64.wrap ((IntKind.i64.wrap (En.bAt a0 (IntKind.i64.wrap ((IntKind.i64.wrap ((a0.length : Int) - (8 : Int))) - (2 : Int))))) + (IntKind.i64.wrap ((256 : Int) * (IntKind.i64.wrap (En.bAt a0 (IntKind.i64.wrap ((IntKind.i64.wrap ((a0.length : Int) - (8 : Int))) - (1 : Int)))))))))))).toNat).length : Int)) = (B : Int)) (v : Nat) (hv : v ≤ 40) (r1 r2 : Int × Int × Int) (h1 : r1.1 = (v : Int)) (h2 : r2.1 = (v : Int)) (k1 : List UInt8 → Int → List En1 → Rr) (k2 : List UInt8 → List En1 → Int → Rr) (fu : Nat) (hfu : 1000 ≤ fu) : ∀ (d j k q : Nat) (s : List UInt8) (at_ : Nat) (m : List (A8u8 × Bool)) (out : List En1), j + d = v → d < k → d < q → out.length = j → at_ ≤ B → at_ ≤ 4097 * j → Inv m out → (∀ u ∈ out, Wf u) → s.length ≤ 9223372036854775807 →
    (∃ s' ys at', (∀ u ∈ ys, Wf u) ∧ ys.length ≤ 40 ∧ at' ≤ B ∧ f_pack_directory_L15 (B : Int) r1 k1 fu k s (at_ : Int) m out (j : Int) = k1 s' ((at' : Nat) : Int) ys ∧ f_lumref_PackList_L27 a0 r2 k2 fu q s out (at_ : Int) (j : Int) = k2 s' ys ((at' : Nat) : Int)) ∨
    (∃ e, f_pack_directory_L15 (B : Int) r1 k1 fu k s (at_ : Int) m out (j : Int) = some ([], e) ∧ f_lumref_PackList_L27 a0 r2 k2 fu q s out (at_ : Int) (j : Int) = some ([], e)) := by
  intro d
  induction d with
  | zero =>
    intro j k q s at_ m out hj hk hq ho ha1 ha2 hi hw hs
    obtain ⟨k, rfl⟩ : ∃ k', k = k' + 1 := ⟨k - 1, by omega⟩
    obtain ⟨q, rfl⟩ : ∃ q', q = q' + 1 := ⟨q - 1, by omega⟩
    rw [f_pack_directory_L15, f_lumref_PackList_L27]
    simp only [lt_of]
    rw [cond_ff (show decide ((j : Int) < r1.1) = false from decide_eq_false (by rw [h1]; omega)), cond_ff (show decide ((j : Int) < r2.1) = false from decide_eq_false (by rw [h2]; omega))]
    exact .inl ⟨s, out, at_, hw, by omega, ha1, rfl, rfl⟩
  | succ d ih =>
    intro j k q s at_ m out hj hk hq ho ha1 ha2 hi hw hs
    obtain ⟨k, rfl⟩ : ∃ k', k = k' + 1 := ⟨k - 1, by omega⟩
    obtain ⟨q, rfl⟩ : ∃ q', q = q' + 1 := ⟨q - 1, by omega⟩
    have wj : IntKind.u64.wrap ((j : Int) + 1) = ((j + 1 : Nat) : Int) := by rw [show ((j : Int) + 1) = ((j + 1 : Nat) : Int) by omega, uw (by omega)]
    rw [f_pack_directory_L15, f_lumref_PackList_L27]
    simp only [lt_of]
    rw [cond_tt (show decide ((j : Int) < r1.1) = true from decide_eq_true (by rw [h1]; omega)), cond_tt (show decide ((j : Int) < r2.1) = true from decide_eq_true (by rw [h2]; omega)), wj, hB]
    by_cases h9 : s.length < 9
    · rw [decide_eq_true (show (s.length : Int) < 9 by omega), cond_tt rfl, cond_tt rfl]
      exact .inr ⟨3, rfl, rfl⟩
    · have hcl : (cut s (1 : Int) (9 : Int)).length = 8 := by
        show ((s.take 9).drop 1).length = 8
        rw [List.length_drop, List.length_take]; omega
      have hid := cp8 hcl
      obtain ⟨id, hidd⟩ : ∃ id, id = ofA8u8 (cut s (1 : Int) (9 : Int)) := ⟨_, rfl⟩
      rw [← hidd] at hid
      unfold z8 at hid
      have hb := PPut.bAt_lt (s := s) (j := 0) (by omega)
      rw [show (((0 : Nat)) : Int) = (0 : Int) from rfl] at hb
      have hbl := s[0].toNat_lt
      obtain ⟨b, hbb⟩ : ∃ b : Nat, b = s[0].toNat := ⟨_, rfl⟩
      rw [← hbb] at hb hbl
      have q1 : 0 ≤ (1 : Int) ∧ (1 : Int) ≤ (9 : Int) ∧ (9 : Int) ≤ (s.length : Int) := ⟨by omega, by omega, by omega⟩
      have q2 : (cut s (1 : Int) (9 : Int)).length ≤ 9223372036854775807 := by omega
      have q3 : 8 ≤ (cut s (1 : Int) (9 : Int)).length := by omega
      have q4 : 0 ≤ (0 : Int) ∧ (0 : Int) < (s.length : Int) := ⟨by omega, by omega⟩
      have q5 : 0 ≤ (9 : Int) ∧ (9 : Int) ≤ (s.length : Int) := ⟨by omega, by omega⟩
      rw [decide_eq_false (show ¬ (s.length : Int) < 9 by omega), cond_ff rfl, cond_ff rfl]
      simp only [req_pos q1, req_pos q2, req_pos q3, req_pos q4, req_pos q5, hb, iw (n := b) (by omega), known_ok, kind_ok, opt_of, ← hidd, hid]
      cases hkd : decide (1 ≤ (b : Int) ∧ (b : Int) ≤ 3)
      · rw [show (!false) = true from rfl, cond_tt rfl, cond_tt rfl]
        exact .inr ⟨5, rfl, rfl⟩
      · rw [show (!true) = false from rfl, cond_ff rfl, cond_ff rfl, show ((9 : Int)).toNat = 9 from rfl, get_ok _ fu (by omega), rget_ok _ fu (by omega), opt_of, opt_of]
        by_cases he : (getV (s.drop 9)).2.2 = 0
        · obtain ⟨n, kk, hg, hkl, _, _, _, _⟩ := getV_canon _ he
          rw [hg]
          dsimp only
          have z0 : ((0 : Int) != 0) = false := rfl
          rw [cond_ff z0, cond_ff z0]
          by_cases hn : n ≤ 4097
          · rw [decide_eq_false (show ¬ (n : Int) > 4097 by omega), cond_ff rfl, cond_ff rfl, iw (n := n) (by omega), ← Int.natCast_add, iw (n := at_ + n) (by omega)]
            have hkl' : 9 + kk ≤ s.length := by rw [List.length_drop] at hkl; omega
            have e9 : IntKind.i64.wrap ((9 : Int) + (kk : Int)) = ((9 + kk : Nat) : Int) := by
              rw [show (9 : Int) + (kk : Int) = ((9 + kk : Nat) : Int) by omega, iw (by omega)]
            have hdup : ∀ K : Unit → Rr, f_lumref_PackList_L53 s out K fu (0 : Int) = if out.any (fun y => y.ID == id) then some ([], 4) else K () := fun K => by
              have := dup_go s out (by omega) id hid K out.length 0 fu (by omega) (by omega) (by omega)
              rw [List.drop_zero] at this
              exact this
            rw [hdup, hi id, e9]
            cases hd : out.any (fun y => y.ID == id)
            · rw [cond_ff rfl, if_neg (by simp)]
              by_cases hbig : at_ + n > B
              · rw [decide_eq_true (show ((at_ + n : Nat) : Int) > (B : Int) by omega), cond_tt rfl, cond_tt rfl]
                exact .inr ⟨4, rfl, rfl⟩
              · rw [decide_eq_false (show ¬ ((at_ + n : Nat) : Int) > (B : Int) by omega), cond_ff rfl, cond_ff rfl]
                obtain ⟨x, hx⟩ : ∃ x, x = S_api_Entry.mk id (b : Int) (at_ : Int) (n : Int) := ⟨_, rfl⟩
                have hxw : Wf x := by
                  rw [hx]
                  refine ⟨⟨?_, ?_⟩, ⟨?_, ?_⟩, ⟨?_, ?_⟩⟩ <;> dsimp only <;> omega
                have p1 : ((out.length + [x].length) * 32 : Nat) ≤ 140737488355328 ∧ out.length + [x].length ≤ 9223372036854775807 := ⟨by rw [List.length_singleton]; omega, by rw [List.length_singleton]; omega⟩
                have p2 : (0 : Int) ≤ (kk : Int) ∧ (kk : Int) ≤ ((s.drop 9).length : Int) := ⟨by omega, by omega⟩
                have p3 : (0 : Int) ≤ ((9 + kk : Nat) : Int) ∧ ((9 + kk : Nat) : Int) ≤ (s.length : Int) := ⟨by omega, by omega⟩
                rw [← hx]
                simp only [req_pos p1, req_pos p2, req_pos p3]
                rw [Int.toNat_natCast, Int.toNat_natCast, List.drop_drop]
                have hinv := hi.push x
                have hxi : x.ID = id := by rw [hx]
                rw [hxi] at hinv
                exact ih (j + 1) k q (s.drop (9 + kk)) (at_ + n) (gset m id true) (out ++ [x]) (by omega) (by omega) (by omega) (by rw [List.length_append, List.length_singleton]; omega) (by omega) (by omega) hinv (fun w hw' => by
                  rcases List.mem_append.1 hw' with h | h
                  · exact hw w h
                  · rw [List.mem_singleton.1 h]; exact hxw) (by rw [List.length_drop]; omega)
            · rw [cond_tt rfl, if_pos rfl, cond_tt rfl]
              exact .inr ⟨4, rfl, rfl⟩
          · rw [decide_eq_true (show (n : Int) > 4097 by omega), cond_tt rfl, cond_tt rfl]
            exact .inr ⟨2, rfl, rfl⟩
        · have z1 : ((getV (s.drop 9)).2.2 != 0) = true := by simpa using he
          rw [cond_tt z1, cond_tt z1]
          exact .inr ⟨_, rfl, rfl⟩
end Go.Proofs.Ytgmggcpceemnnaa.PPackLists
