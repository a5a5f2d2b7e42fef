/- The blob of an entry and all blobs of a pack: PackOnes. No condition. -/
import Derived.Test.YtgmggcpceemnnaaPnList
import Derived.Test.YtgmggcpceemnnaaPnSays
namespace Go.Proofs.Ytgmggcpceemnnaa.PPackOnes
open Go.RowKit Ytgmggcpceemnnaa.En Ytgmggcpceemnnaa Mix
set_option linter.unusedVariables false
set_option linter.unusedSimpArgs false
def WfB (b : S_api_Blob) : Prop := (Lit.int .i64 b.Kind).wf = true ∧ b.Bytes.length ≤ 9223372036854775807
def nob : S_api_Blob := S_api_Blob.mk 0 []
theorem wf_nob : WfB nob := ⟨by decide, Nat.zero_le _⟩
theorem bid_ok {F : List UInt8 → A8u8} (hF : PPackLists.CN.IdF F) (k : Int) (t : List UInt8) (hk : 1 ≤ k ∧ k ≤ 3) (ht : t.length ≤ 4096) {fu : Nat} (hf : 10000000 ≤ fu) : ∃ r, f_pack_ID fu (S_api_Blob.mk k t) = some r ∧ f_lumref_BlobID fu (S_api_Blob.mk k t) = some r := by
  unfold f_pack_ID f_lumref_BlobID
  dsimp only
  rw [PPackLists.known_ok, PPackLists.kind_ok, decide_eq_true hk, opt_of, opt_of, cond_ff (show (!true) = false from rfl), cond_ff (show (!true) = false from rfl), cond_ff (decide_eq_false (show ¬ (t.length : Int) > 4096 by omega)), cond_ff (decide_eq_false (show ¬ (t.length : Int) > 4096 by omega))]
  have hw : IntKind.u8.wrap k = k := PPo.u8w (by omega)
  obtain ⟨m1, m2⟩ := hF fu ([UInt8.ofNat k.toNat] ++ t) (by omega) (by rw [List.length_append, List.length_singleton]; omega) (by rw [List.length_append, List.length_singleton]; omega)
  rw [hw, req_pos (by omega), req_pos (by rw [List.length_singleton]; omega), req_pos (by omega), req_pos (by rw [List.length_singleton]; omega), m1, m2]
  exact ⟨_, rfl, rfl⟩
theorem cut_nat (s : List UInt8) (a b : Nat) : cut s (a : Int) (b : Int) = (s.take b).drop a := by unfold cut; rw [Int.toNat_natCast, Int.toNat_natCast]
theorem one_in {F : List UInt8 → A8u8} (hF : PPackLists.CN.IdF F) (x : S_api_Entry) (p : List UInt8) (hp : p.length ≤ 2000000) (hk : 1 ≤ x.Kind ∧ x.Kind ≤ 3) {fu : Nat} (hf : 10000000 ≤ fu) : ∃ b e, WfB b ∧
    (opt (f_press_Open fu p) fun (r11 : ((List UInt8) × Int)) => (bif (r11.2 != (0 : Int)) then (some ((S_api_Blob.mk (0 : Int) ([] : List UInt8)), r11.2)) else (opt (f_pack_ID fu (S_api_Blob.mk x.Kind r11.1)) fun (r15 : (A8u8 × Int)) => (bif (!(r15.1 == x.ID)) then (some ((S_api_Blob.mk (0 : Int) ([] : List UInt8)), (6 : Int))) else (some ((S_api_Blob.mk x.Kind r11.1), (0 : Int))))))) = some (b, e) ∧
    (opt (f_lumref_Open fu p) fun (r12 : ((List UInt8) × Int)) => (bif (r12.2 != (0 : Int)) then (some ((S_api_Blob.mk (0 : Int) ([] : List UInt8)), r12.2)) else (opt (f_lumref_BlobID fu (S_api_Blob.mk x.Kind r12.1)) fun (r16 : (A8u8 × Int)) => (bif (!(r16.1 == x.ID)) then (some ((S_api_Blob.mk (0 : Int) ([] : List UInt8)), (6 : Int))) else (some ((S_api_Blob.mk x.Kind r12.1), (0 : Int))))))) = some (b, e) := by
  obtain ⟨v, v1, v2, v3⟩ := PPo.open_eq p hp hf
  rw [v1, v2, opt_of, opt_of]
  by_cases h : v.2 = 0
  · obtain ⟨r, r1, r2⟩ := bid_ok hF x.Kind v.1 hk v3 hf
    have hb : (v.2 != 0) = false := by rw [h]; rfl
    rw [cond_ff hb, cond_ff hb, r1, r2, opt_of]
    by_cases hi : r.1 = x.ID
    · have hc : (!(r.1 == x.ID)) = false := by rw [hi, beq_self_eq_true]; rfl
      rw [cond_ff hc]
      exact ⟨_, _, ⟨PPo.wf_i64 (by show _ ≤ x.Kind; omega) (by show x.Kind ≤ _; omega), by show v.1.length ≤ _; omega⟩, rfl, rfl⟩
    · have hc : (!(r.1 == x.ID)) = true := by simpa using hi
      rw [cond_tt hc]
      exact ⟨_, _, wf_nob, rfl, rfl⟩
  · have hb : (v.2 != 0) = true := by simpa using h
    rw [cond_tt hb, cond_tt hb]
    exact ⟨_, _, wf_nob, rfl, rfl⟩
theorem one_ok {F : List UInt8 → A8u8} (hF : PPackLists.CN.IdF F) (s : List UInt8) (x : S_api_Entry) (hs : s.length ≤ 2000000) {fu : Nat} (hf : 10000000 ≤ fu) : ∃ b e, WfB b ∧ f_pack_One fu s x = some (b, e) ∧ f_lumref_PackOne fu s x = some (b, e) := by
  unfold f_pack_One f_lumref_PackOne
  rw [lt_of, lt_of]
  dsimp only
  by_cases h1 : x.At < 0
  · rw [cond_tt (decide_eq_true h1), cond_tt (decide_eq_true h1)]
    exact ⟨_, _, wf_nob, rfl, rfl⟩
  rw [cond_ff (decide_eq_false h1), cond_ff (decide_eq_false h1)]
  by_cases h2 : x.Len < 0
  · rw [cond_tt (decide_eq_true h2), cond_tt (decide_eq_true h2)]
    exact ⟨_, _, wf_nob, rfl, rfl⟩
  rw [cond_ff (decide_eq_false h2), cond_ff (decide_eq_false h2)]
  by_cases h3 : x.At + x.Len ≤ (s.length : Int)
  · rw [cond_ff (decide_eq_false (show ¬ x.At > (s.length : Int) by omega)), cond_ff (decide_eq_false (show ¬ x.Len > (s.length : Int) by omega)), w64 (x := (s.length : Int) - x.At) (by omega) (by omega), w64 (x := (s.length : Int) - x.Len) (by omega) (by omega), w64 (x := x.At + x.Len) (by omega) (by omega)]
    rw [decide_eq_false (show ¬ x.Len > (s.length : Int) - x.At by omega), decide_eq_false (show ¬ x.At > (s.length : Int) - x.Len by omega), cond_ff rfl, cond_ff rfl, PPackLists.known_ok, PPackLists.kind_ok, opt_of, opt_of]
    by_cases hk : 1 ≤ x.Kind ∧ x.Kind ≤ 3
    · rw [decide_eq_true hk, cond_ff (show (!true) = false from rfl), cond_ff (show (!true) = false from rfl)]
      obtain ⟨a, ha⟩ := Int.eq_ofNat_of_zero_le (show 0 ≤ x.At by omega)
      obtain ⟨n, hn⟩ := Int.eq_ofNat_of_zero_le (show 0 ≤ x.Len by omega)
      have hc : cut s x.At (x.At + x.Len) = (s.drop x.At.toNat).take x.Len.toNat := by
        rw [ha, hn, ← Int.natCast_add, cut_nat, Int.toNat_natCast, Int.toNat_natCast, List.take_drop]
      rw [req_pos (by omega), hc, req_pos (by omega), req_pos (by rw [List.length_drop]; omega)]
      exact one_in hF x _ (by rw [List.length_take, List.length_drop]; omega) hk hf
    · rw [decide_eq_false hk, cond_tt (show (!false) = true from rfl), cond_tt (show (!false) = true from rfl)]
      exact ⟨_, _, wf_nob, rfl, rfl⟩
  · have hl : (bif (decide (x.At > (s.length : Int))) then true else (decide (x.Len > (IntKind.i64.wrap ((s.length : Int) - x.At))))) = true := by
      by_cases h4 : x.At > (s.length : Int)
      · rw [cond_tt (decide_eq_true h4)]
      · rw [cond_ff (decide_eq_false h4), w64 (x := (s.length : Int) - x.At) (by omega) (by omega), decide_eq_true (by omega)]
    have hr : (bif (decide (x.Len > (s.length : Int))) then true else (decide (x.At > (IntKind.i64.wrap ((s.length : Int) - x.Len))))) = true := by
      by_cases h4 : x.Len > (s.length : Int)
      · rw [cond_tt (decide_eq_true h4)]
      · rw [cond_ff (decide_eq_false h4), w64 (x := (s.length : Int) - x.Len) (by omega) (by omega), decide_eq_true (by omega)]
    refine ⟨nob, 1, wf_nob, ?_, ?_⟩
    · by_cases h4 : x.At > (s.length : Int)
      · rw [cond_tt (decide_eq_true h4)]; rfl
      · rw [cond_ff (decide_eq_false h4)] at hl ⊢
        rw [hl]; rfl
    · by_cases h4 : x.Len > (s.length : Int)
      · rw [cond_tt (decide_eq_true h4)]; rfl
      · rw [cond_ff (decide_eq_false h4)] at hr ⊢
        rw [hr]; rfl
theorem split_go {F : List UInt8 → A8u8} (hF : PPackLists.CN.IdF F) (s : List UInt8) (hs : s.length ≤ 2000000) (l : List S_api_Entry) (hl : l.length ≤ 40) (e0 e1 : Int) {fu : Nat} (hf : 10000000 ≤ fu) (kk kr : List S_api_Blob → Option (List S_api_Blob × Int)) (hk : ∀ y, kk y = some (y, 0)) (hr : ∀ y, kr y = some (y, 0)) :
    ∀ (d k j : Nat) (out : List S_api_Blob), l.length - j = d → d < k → j ≤ l.length → out.length = j → (∀ b ∈ out, WfB b) →
    ∃ y e, (∀ b ∈ y, WfB b) ∧ y.length ≤ 40 ∧ f_pack_Split_L9 s (l, e0) kk fu k out (j : Int) = some (y, e) ∧ f_lumref_PackSplit_L9 s (l, e1) kr fu k out (j : Int) = some (y, e)
  | _, 0, _, _, _, hk, _, _, _ => absurd hk (Nat.not_lt_zero _)
  | d, k + 1, j, out, hd, hk', hj, ho, hw => by
    rw [f_pack_Split_L9, f_lumref_PackSplit_L9]
    dsimp only
    by_cases h : j < l.length
    · rw [cond_tt (dlt (by omega)), cond_tt (dlt (by omega)), at_lt h, opt_of, opt_of]
      obtain ⟨b, e, b1, b2, b3⟩ := one_ok hF s l[j] hs hf
      rw [b2, b3, opt_of, opt_of]
      dsimp only
      by_cases he : e = 0
      · have hb : (e != 0) = false := by rw [he]; rfl
        rw [cond_ff hb, cond_ff hb, req_pos (by rw [List.length_singleton]; omega), req_pos (by rw [List.length_singleton]; omega), wsucc (by omega)]
        exact split_go hF s hs l hl e0 e1 hf kk kr hk hr (d - 1) k (j + 1) _ (by omega) (by omega) (by omega) (by rw [List.length_append, List.length_singleton, ho]) (fun c hc => by
          rcases List.mem_append.1 hc with h | h
          · exact hw c h
          · rw [List.mem_singleton.1 h]; exact b1)
      · have hb : (e != 0) = true := by simpa using he
        rw [cond_tt hb, cond_tt hb]
        exact ⟨[], e, by simp, by simp, rfl, rfl⟩
    · rw [cond_ff (dge (by omega)), cond_ff (dge (by omega)), hk, hr]
      exact ⟨out, 0, hw, by omega, rfl, rfl⟩
theorem split_ok {F : List UInt8 → A8u8} (hF : PPackLists.CN.IdF F) (s : List UInt8) (hs : s.length ≤ 2000000) {fu : Nat} (hf : 10000000 ≤ fu) : ∃ y e, (∀ b ∈ y, WfB b) ∧ y.length ≤ 40 ∧ f_pack_Split fu s = some (y, e) ∧ f_lumref_PackSplit fu s = some (y, e) := by
  obtain ⟨l, e, hw, hl, h1, h2⟩ := PPackLists.list_ok hF s (by omega) fu (by omega)
  unfold f_pack_Split f_lumref_PackSplit
  rw [h1, h2, opt_of, opt_of]
  dsimp only
  by_cases he : e = 0
  · have hb : (e != 0) = false := by rw [he]; rfl
    rw [cond_ff hb, cond_ff hb, lt_of, lt_of]
    exact split_go hF s hs l hl e e hf _ _ (fun _ => rfl) (fun _ => rfl) l.length fu 0 [] rfl (by omega) (by omega) rfl (by simp)
  · have hb : (e != 0) = true := by simpa using he
    rw [cond_tt hb, cond_tt hb]
    exact ⟨[], e, by simp, by simp, rfl, rfl⟩
theorem eq_go (a : List S_api_Blob) (ha : a.length ≤ 40) (hw : ∀ u ∈ a, WfB u) (kk : Unit → Option Bool) : ∀ (d j fu : Nat), a.length - j = d → j ≤ a.length → d < fu → f_slices_Equal___api_Blob_api_Blob__L6 a a kk fu (j : Int) = kk ()
  | _, _, 0, _, _, hf => absurd hf (Nat.not_lt_zero _)
  | 0, j, fu + 1, hd, hj, _ => by rw [f_slices_Equal___api_Blob_api_Blob__L6, cond_ff (dge (by omega))]
  | d + 1, j, fu + 1, hd, hj, hf => by
    have hlt : j < a.length := by omega
    obtain ⟨w1, w2⟩ := hw a[j] (List.getElem_mem hlt)
    rw [f_slices_Equal___api_Blob_api_Blob__L6, cond_tt (dlt (by omega)), at_lt hlt, opt_of, opt_of, req_pos w1, req_pos w2, req_pos w1, req_pos w2, beq_self_eq_true, show (!true) = false from rfl, cond_ff rfl, wsucc (by omega)]
    exact eq_go a ha hw kk d (j + 1) fu (by omega) (by omega) (by omega)
theorem eq_ok (a : List S_api_Blob) (ha : a.length ≤ 40) (hw : ∀ u ∈ a, WfB u) (fu : Nat) (hf : a.length < fu) : f_slices_Equal___api_Blob_api_Blob_ fu a a = some true := by
  unfold f_slices_Equal___api_Blob_api_Blob_
  rw [bne_self_eq_false, cond_ff rfl, lt_of]
  exact eq_go a ha hw _ a.length 0 fu (by omega) (by omega) (by omega)
def fuel (_ : List UInt8) (_ : S_api_Entry) : Nat := 10000000
theorem says (s : List UInt8) (x : S_api_Entry) (hb : s.length ≤ 1048576) : f_lumlaw_PackOnes (fuel s x) s x = some true := by
  obtain ⟨F, hF⟩ := PPackLists.CN.id_ex
  obtain ⟨fu, hfu⟩ : ∃ fu, fu = fuel s x := ⟨_, rfl⟩
  have hfu' : 10000000 ≤ fu := by rw [hfu]; exact Nat.le_refl _
  rw [← hfu]
  obtain ⟨b, e, ⟨w1, w2⟩, o1, o2⟩ := one_ok hF s x (by omega) hfu'
  obtain ⟨y, f, hy, hl, s1, s2⟩ := split_ok hF s (by omega) hfu'
  have h3 := eq_ok y hl hy fu (by omega)
  unfold f_lumlaw_PackOnes
  rw [o1, o2, s1, s2, opt_of, opt_of, opt_of, opt_of, lt_of]
  dsimp only
  rw [req_pos w1, req_pos w2, req_pos w1, req_pos w2, beq_self_eq_true, cond_tt rfl, beq_self_eq_true, cond_tt rfl, h3, opt_of, cond_tt rfl, beq_self_eq_true]
end Go.Proofs.Ytgmggcpceemnnaa.PPackOnes
