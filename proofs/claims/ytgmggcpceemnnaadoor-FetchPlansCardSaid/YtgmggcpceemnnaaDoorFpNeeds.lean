/- What a blob needs: WalkNeeds. No condition. -/
import Derived.Test.YtgmggcpceemnnaaDoorFpMix
import Derived.Test.YtgmggcpceemnnaaDoorFpReadsPure
namespace Go.Proofs.YtgmggcpceemnnaaDoor.PFetchInto
open Go.RowKit YtgmggcpceemnnaaDoor.En YtgmggcpceemnnaaDoor Num Mix Go.Lib MX PTreeRd PTreeReads
set_option linter.unusedVariables false
set_option linter.unusedSimpArgs false
variable {F0 : Nat}
def IdF (F : List UInt8 → A8u8) : Prop := ∀ (fu : Nat) (s : List UInt8), 65 ≤ fu → s.length < fu → s.length ≤ 4611686018427387904 → f_mix_ID fu s = some (F s) ∧ f_lumref_ID fu s = some (F s)
theorem id_ex : ∃ F, IdF F := ⟨idOf, fun fu s h1 h2 h3 => ⟨mID_ok fu s h2 (by omega), rID_ok fu s h1 h2 (by omega)⟩⟩
theorem known_ok (k : Int) (fu : Nat) : f_pack_Known fu k = some (decide (1 ≤ k ∧ k ≤ 3)) := by
  unfold f_pack_Known
  rw [lt_of]
  by_cases h : k ≥ 1
  · rw [cond_tt (decide_eq_true h)]
    by_cases h2 : k ≤ 3
    · rw [decide_eq_true h2, decide_eq_true ⟨h, h2⟩]
    · rw [decide_eq_false h2, decide_eq_false (fun e => h2 e.2)]
  · rw [cond_ff (decide_eq_false h), decide_eq_false (fun e => h e.1)]
theorem kind_ok (k : Int) (fu : Nat) : f_lumref_kindOK fu k = some (decide (1 ≤ k ∧ k ≤ 3)) := by
  unfold f_lumref_kindOK
  rw [lt_of]
  by_cases h1 : k = 1
  · subst h1; rfl
  rw [cond_ff (beq_eq_false_iff_ne.2 h1)]
  by_cases h2 : k = 2
  · subst h2; rfl
  rw [cond_ff (beq_eq_false_iff_ne.2 h2)]
  by_cases h3 : k = 3
  · subst h3; rfl
  rw [beq_eq_false_iff_ne.2 h3, decide_eq_false (by omega)]
def z8 : A8u8 := (A8u8.mk (0 : UInt8) (0 : UInt8) (0 : UInt8) (0 : UInt8) (0 : UInt8) (0 : UInt8) (0 : UInt8) (0 : UInt8))
theorem blob_ok {F : List UInt8 → A8u8} (hF : IdF F) (b : S_api_Blob) (fu : Nat) (hfu : 6000 ≤ fu) : ∃ x e, f_pack_ID fu b = some (x, e) ∧ f_lumref_BlobID fu b = some (x, e) := by
  unfold f_pack_ID f_lumref_BlobID
  rw [known_ok, kind_ok, opt_of, opt_of]
  by_cases hk : 1 ≤ b.Kind ∧ b.Kind ≤ 3
  · have e : (!decide (1 ≤ b.Kind ∧ b.Kind ≤ 3)) = false := by rw [decide_eq_true hk]; rfl
    rw [e, cond_ff rfl, cond_ff rfl]
    by_cases hl : (b.Bytes.length : Int) > 4096
    · rw [cond_tt (decide_eq_true hl), cond_tt (decide_eq_true hl)]
      exact ⟨_, _, rfl, rfl⟩
    · rw [cond_ff (decide_eq_false hl), cond_ff (decide_eq_false hl)]
      obtain ⟨k, hk2⟩ : ∃ k : Nat, b.Kind = k := ⟨b.Kind.toNat, by omega⟩
      rw [hk2, u8w_in (x := k) (by omega)]
      have hlen : (([(UInt8.ofNat ((k : Int)).toNat)]) ++ b.Bytes).length ≤ 4097 := by rw [List.length_append, List.length_singleton]; omega
      obtain ⟨f1, f2⟩ := hF fu (([(UInt8.ofNat ((k : Int)).toNat)]) ++ b.Bytes) (by omega) (by omega) (by omega)
      rw [req_pos ⟨by omega, by omega⟩, req_pos (by rw [List.length_singleton]; omega), f1, opt_of, req_pos ⟨by omega, by omega⟩, req_pos (by rw [List.length_singleton]; omega), f2, opt_of]
      exact ⟨_, _, rfl, rfl⟩
  · have e : (!decide (1 ≤ b.Kind ∧ b.Kind ≤ 3)) = true := by rw [decide_eq_false hk]; rfl
    rw [e, cond_tt rfl, cond_tt rfl]
    exact ⟨_, _, rfl, rfl⟩
/-! the identifiers, each once -/
theorem index_go (a : List A8u8) (ha : a.length < 9000000000000000000) (x : A8u8) : ∀ (d j fu : Nat), a.length - j = d → j ≤ a.length → d < fu → ∃ r, f_slices_Index___api_ID_api_ID__L6 a x (fun _ => some (-1 : Int)) fu (j : Int) = some r
  | 0, j, fu + 1, hd, hj, _ => ⟨_, by rw [f_slices_Index___api_ID_api_ID__L6, cond_ff (dge (by omega))]⟩
  | d + 1, j, fu + 1, hd, hj, hf => by
    have hlt : j < a.length := by omega
    rw [f_slices_Index___api_ID_api_ID__L6, cond_tt (dlt (by omega)), at_lt hlt, opt_of, wsucc (by omega)]
    cases hx : (x == a[j])
    · rw [cond_ff rfl]; exact index_go a ha x d (j + 1) fu (by omega) (by omega) (by omega)
    · rw [cond_tt rfl]; exact ⟨_, rfl⟩
theorem cont_ok (a : List A8u8) (ha : a.length < 9000000000000000000) (x : A8u8) (fu : Nat) (hf : a.length < fu) : ∃ b, f_slices_Contains___api_ID_api_ID_ fu a x = some b := by
  unfold f_slices_Contains___api_ID_api_ID_ f_slices_Index___api_ID_api_ID_
  rw [lt_of]
  obtain ⟨r, hr⟩ := index_go a ha x a.length 0 fu (by omega) (by omega) (by omega)
  exact ⟨_, by rw [show ((0 : Int)) = ((0 : Nat) : Int) from rfl, hr, opt_of]⟩
theorem parts_go (u : S_api_Node) (hu : u.Parts.length ≤ 300) (fu0 : Nat) (h0 : 1000000 ≤ fu0) (k1 k2 : List A8u8 → Option (List A8u8 × Int)) : ∀ (d j fu : Nat) (xs : List A8u8), u.Parts.length - j = d → j ≤ u.Parts.length → d < fu → xs.length + d ≤ 900000 →
    ∃ ys, ys.length ≤ xs.length + d ∧ f_walk_Needs_L29 k1 u fu0 fu xs (j : Int) = k1 ys ∧ f_lumref_Needs_L30 k2 u fu0 fu xs (j : Int) = k2 ys
  | 0, j, fu + 1, xs, hd, hj, _, _ => ⟨xs, by omega, by rw [f_walk_Needs_L29, cond_ff (dge (by omega))], by rw [f_lumref_Needs_L30, cond_ff (dge (by omega))]⟩
  | d + 1, j, fu + 1, xs, hd, hj, hf, hx => by
    have hlt : j < u.Parts.length := by omega
    obtain ⟨b, hb⟩ := cont_ok xs (by omega) u.Parts[j] fu0 (by omega)
    rw [f_walk_Needs_L29, f_lumref_Needs_L30, cond_tt (dlt (by omega)), cond_tt (dlt (by omega)), lt_of, lt_of, at_lt hlt, opt_of, opt_of, hb, opt_of, opt_of, wsucc (by omega)]
    cases b
    · rw [show (!false) = true from rfl, cond_tt rfl, cond_tt rfl, req_pos ⟨by rw [List.length_singleton]; omega, by rw [List.length_singleton]; omega⟩, req_pos ⟨by rw [List.length_singleton]; omega, by rw [List.length_singleton]; omega⟩]
      obtain ⟨ys, h1, h2, h3⟩ := parts_go u hu fu0 h0 k1 k2 d (j + 1) fu (xs ++ [u.Parts[j]]) (by omega) (by omega) (by omega) (by rw [List.length_append, List.length_singleton]; omega)
      exact ⟨ys, by rw [List.length_append, List.length_singleton] at h1; omega, h2, h3⟩
    · rw [show (!true) = false from rfl, cond_ff rfl, cond_ff rfl]
      obtain ⟨ys, h1, h2, h3⟩ := parts_go u hu fu0 h0 k1 k2 d (j + 1) fu xs (by omega) (by omega) (by omega) (by omega)
      exact ⟨ys, by omega, h2, h3⟩
theorem nodes_go (l : List S_api_Node) (e : Int) (hl : l.length ≤ 64) (hg : ∀ u ∈ l, PTreeReads.Good u) (fu0 : Nat) (h0 : 1000000 ≤ fu0) (k1 k2 : List A8u8 → Option (List A8u8 × Int)) : ∀ (d j fu : Nat) (xs : List A8u8), l.length - j = d → j ≤ l.length → d < fu → xs.length + 300 * d ≤ 800000 →
    ∃ ys, ys.length ≤ xs.length + 300 * d ∧ f_walk_Needs_L15 (l, e) k1 fu0 fu xs (j : Int) = k1 ys ∧ f_lumref_Needs_L16 (l, e) k2 fu0 fu xs (j : Int) = k2 ys
  | 0, j, fu + 1, xs, hd, hj, _, _ => ⟨xs, by omega, by rw [f_walk_Needs_L15, lt_of]; dsimp only; rw [cond_ff (dge (by omega))], by rw [f_lumref_Needs_L16, lt_of]; dsimp only; rw [cond_ff (dge (by omega))]⟩
  | d + 1, j, fu + 1, xs, hd, hj, hf, hx => by
    have hlt : j < l.length := by omega
    have hu := (hg l[j] (List.getElem_mem hlt)).2
    rw [f_walk_Needs_L15, f_lumref_Needs_L16]
    simp only [lt_of]
    rw [cond_tt (dlt (by omega)), cond_tt (dlt (by omega)), at_lt hlt, opt_of, opt_of, wsucc (by omega)]
    obtain ⟨ys, h1, h2, h3⟩ := parts_go l[j] hu fu0 h0 (fun x => f_walk_Needs_L15 (l, e) k1 fu0 fu x ((j + 1 : Nat) : Int)) (fun x => f_lumref_Needs_L16 (l, e) k2 fu0 fu x ((j + 1 : Nat) : Int)) l[j].Parts.length 0 fu0 xs (by omega) (by omega) (by omega) (by omega)
    obtain ⟨zs, g1, g2, g3⟩ := nodes_go l e hl hg fu0 h0 k1 k2 d (j + 1) fu ys (by omega) (by omega) (by omega) (by omega)
    exact ⟨zs, by omega, h2.trans g2, h3.trans g3⟩
theorem needs_ok [NeZero (F0 / 2000000)] (b : S_api_Blob) : ∃ l e, l.length ≤ 800000 ∧ f_walk_Needs F0 b = some (l, e) ∧ f_lumref_Needs F0 b = some (l, e) := by
  obtain ⟨F, hF⟩ := id_ex
  obtain ⟨x, e, h1, h2⟩ := blob_ok hF b F0 (by have hbig := PTreeText.big (F0 := F0); omega)
  unfold f_walk_Needs f_lumref_Needs
  rw [h1, h2, opt_of, opt_of, lt_of]
  simp only
  by_cases he : e = 0
  · subst he
    have z0 : ((0 : Int) != 0) = false := rfl
    rw [cond_ff z0, cond_ff z0]
    by_cases hk : b.Kind = 2
    · have z2 : (b.Kind != 2) = false := by rw [hk]; rfl
      rw [z2, cond_ff rfl, cond_ff rfl]
      obtain ⟨l, e, r1, r2, r3, r4⟩ := read_ok (F0 := F0) b.Bytes
      rw [r1, r2, opt_of, opt_of]
      simp only
      by_cases he : e = 0
      · subst he
        rw [cond_ff z0, cond_ff z0, lt_of, lt_of]
        obtain ⟨ys, g1, g2, g3⟩ := nodes_go l 0 r3 r4 F0 (by have hbig := PTreeText.big (F0 := F0); omega) (fun j => some (j, 0)) (fun j => some (j, 0)) l.length 0 F0 [] (by have hbig := PTreeText.big (F0 := F0); omega) (by have hbig := PTreeText.big (F0 := F0); omega) (by have hbig := PTreeText.big (F0 := F0); omega) (by simp; omega)
        exact ⟨ys, 0, by simp at g1; omega, g2, g3⟩
      · have z1 : (e != 0) = true := by simpa using he
        rw [cond_tt z1, cond_tt z1]
        exact ⟨[], e, by simp, rfl, rfl⟩
    · have z2 : (b.Kind != 2) = true := by simpa using hk
      rw [z2, cond_tt rfl, cond_tt rfl]
      exact ⟨[], 0, by simp, rfl, rfl⟩
  · have z1 : (e != 0) = true := by simpa using he
    rw [cond_tt z1, cond_tt z1, cond_tt rfl]
    exact ⟨[], e, by simp, rfl, rfl⟩
end Go.Proofs.YtgmggcpceemnnaaDoor.PFetchInto
