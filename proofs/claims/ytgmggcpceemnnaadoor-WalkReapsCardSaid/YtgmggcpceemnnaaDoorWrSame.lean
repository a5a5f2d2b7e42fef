/- Directories compared with themselves, and the checks of directories: TreeReads. No condition. -/
import Derived.Test.YtgmggcpceemnnaaDoorWWalkReaps
import Derived.Test.YtgmggcpceemnnaaDoorWrName
namespace Go.Proofs.YtgmggcpceemnnaaDoor.PTreeSame
open Go.RowKit YtgmggcpceemnnaaDoor.En YtgmggcpceemnnaaDoor PTreeName U8
set_option linter.unusedVariables false
set_option linter.unusedSimpArgs false
def formB (u : S_api_Node) : Bool := bif u.Kind == 1 then u.Link == [] else bif u.Kind == 2 then ((u.Parts.length : Int) == 1 && (u.Size == 0 && u.Link == [])) else (!(u.Link == []) && (u.Size == 0 && (u.Parts.length : Int) == 0))
theorem formed_ok (u : S_api_Node) (fu : Nat) : f_tree_formed fu u = some (formB u) := by
  unfold f_tree_formed formB
  simp only [lt_of]
  cases u.Kind == 1 <;> cases u.Kind == 2 <;> cases u.Link == [] <;> cases u.Size == 0 <;> cases (u.Parts.length : Int) == 1 <;> cases (u.Parts.length : Int) == 0 <;> rfl
def boundB (u : S_api_Node) : Bool := decide (u.Mode < 0) || (decide (u.Mode > 511) || (decide (u.Size < 0) || (decide (u.Size > 4096) || decide ((u.Parts.length : Int) > 300))))
def nodeV (u : S_api_Node) : Int := if nameV u.Name ≠ 0 then nameV u.Name else if boundB u = true then 1 else if u.Kind < 1 ∨ u.Kind > 3 then 5 else if formB u = false then 4 else if (u.Link.length : Int) > 1024 then 2 else 0
theorem bound_k {α : Type} (u : S_api_Node) (f : Bool → Option α) : (lt f fun (k : Bool → Option α) => (bif (decide (u.Mode < (0 : Int))) then (k true) else (bif (decide (u.Mode > (511 : Int))) then (k true) else (bif (decide (u.Size < (0 : Int))) then (k true) else (bif (decide (u.Size > (4096 : Int))) then (k true) else (k (decide ((u.Parts.length : Int) > (300 : Int))))))))) = f (boundB u) := by
  rw [lt_of]
  unfold boundB
  cases decide (u.Mode < 0) <;> cases decide (u.Mode > 511) <;> cases decide (u.Size < 0) <;> cases decide (u.Size > 4096) <;> rfl
theorem known_ok (u : Int) (fu : Nat) : f_tree_Known fu u = some (!decide (u < 1 ∨ u > 3)) := by
  unfold f_tree_Known
  rw [lt_of]
  by_cases h : u ≥ 1
  · rw [cond_tt (decide_eq_true h)]
    by_cases h2 : u ≤ 3
    · rw [decide_eq_true h2, decide_eq_false (by omega)]; rfl
    · rw [decide_eq_false h2, decide_eq_true (by omega)]; rfl
  · rw [cond_ff (decide_eq_false h), decide_eq_true (by omega)]; rfl
/-- the code's part for one node -/
theorem code_node (u : S_api_Node) (hu : u.Name.length ≤ 1048576) (fu : Nat) (hf : 1048600 ≤ fu) (more : Option Int) :
    (opt (f_names_Check fu u.Name) fun (r15 : Int) => (bif (r15 != (0 : Int)) then (some r15) else (lt (fun (j17b22 : Bool) => (bif j17b22 then (some (1 : Int)) else (opt (f_tree_Known fu u.Kind) fun (r21 : Bool) => (bif (!r21) then (some (5 : Int)) else (opt (f_tree_formed fu u) fun (r24 : Bool) => (bif (!r24) then (some (4 : Int)) else (bif (decide ((u.Link.length : Int) > (1024 : Int))) then (some (2 : Int)) else more))))))) fun (kk18 : Bool → Option Int) => (bif (decide (u.Mode < (0 : Int))) then (kk18 true) else (bif (decide (u.Mode > (511 : Int))) then (kk18 true) else (bif (decide (u.Size < (0 : Int))) then (kk18 true) else (bif (decide (u.Size > (4096 : Int))) then (kk18 true) else (kk18 (decide ((u.Parts.length : Int) > (300 : Int))))))))))) = if nodeV u ≠ 0 then some (nodeV u) else more := by
  rw [check_ok _ hu fu hf, opt_of, bound_k, known_ok, opt_of, formed_ok, opt_of]
  by_cases h1 : nameV u.Name = 0
  · rw [h1, cond_ff (by rfl)]
    cases h2 : boundB u with
    | true =>
      have hv : nodeV u = 1 := by unfold nodeV; simp [h1, h2]
      rw [hv]; rfl
    | false =>
      rw [cond_ff rfl]
      by_cases h3 : u.Kind < 1 ∨ u.Kind > 3
      · have hv : nodeV u = 5 := by unfold nodeV; rw [if_neg (by simp [h1]), if_neg (by simp [h2]), if_pos h3]
        rw [decide_eq_true h3, hv]; rfl
      · rw [decide_eq_false h3]
        cases h4 : formB u with
        | false =>
          have hv : nodeV u = 4 := by unfold nodeV; rw [if_neg (by simp [h1]), if_neg (by simp [h2]), if_neg h3, if_pos h4]
          rw [hv]; rfl
        | true =>
          by_cases h5 : (u.Link.length : Int) > 1024
          · have hv : nodeV u = 2 := by unfold nodeV; rw [if_neg (by simp [h1]), if_neg (by simp [h2]), if_neg h3, if_neg (by simp [h4]), if_pos h5]
            rw [hv, decide_eq_true h5]; rfl
          · have hv : nodeV u = 0 := by unfold nodeV; rw [if_neg (by simp [h1]), if_neg (by simp [h2]), if_neg h3, if_neg (by simp [h4]), if_neg h5]
            rw [hv, decide_eq_false h5]; rfl
  · have hv : nodeV u = nameV u.Name := by unfold nodeV; rw [if_pos h1]
    rw [cond_tt (by simpa using h1), hv, if_pos h1]
theorem bad_k (u : S_api_Node) (h : ¬ (u.Kind < 1 ∨ u.Kind > 3)) (f : Bool → Option Int) :
    (lt f fun (kk12 : Bool → Option Int) => (lt (fun (j15b43 : Bool) => (bif j15b43 then (kk12 j15b43) else (lt (fun (j18b43 : Bool) => (bif j18b43 then (kk12 j18b43) else (lt (fun (j21b43 : Bool) => (bif j21b43 then (kk12 j21b43) else (bif (u.Kind == (3 : Int)) then (bif ((u.Parts.length : Int) != (0 : Int)) then (kk12 true) else (kk12 (u.Link == ([] : List UInt8)))) else (kk12 false)))) fun (kk22 : Bool → Option Int) => (bif (u.Kind == (2 : Int)) then (bif ((u.Parts.length : Int) != (1 : Int)) then (kk22 true) else (kk22 (!(u.Link == ([] : List UInt8))))) else (kk22 false))))) fun (kk19 : Bool → Option Int) => (bif (decide (u.Kind > (1 : Int))) then (kk19 (u.Size != (0 : Int))) else (kk19 false))))) fun (kk16 : Bool → Option Int) => (bif (u.Kind == (1 : Int)) then (kk16 (!(u.Link == ([] : List UInt8)))) else (kk16 false)))) = f (!formB u) := by
  simp only [lt_of, bne]
  unfold formB
  have h3 : u.Kind = 1 ∨ u.Kind = 2 ∨ u.Kind = 3 := by omega
  rcases h3 with h3 | h3 | h3 <;> rw [h3] <;> cases u.Link == [] <;> cases u.Size == 0 <;> cases (u.Parts.length : Int) == 1 <;> cases (u.Parts.length : Int) == 0 <;> rfl
theorem ref_node (u : S_api_Node) (hu : u.Name.length ≤ 1048576) (fu : Nat) (hf : 1048600 ≤ fu) : f_lumref_nodeErr fu u = some (nodeV u) := by
  unfold f_lumref_nodeErr
  rw [name_ok _ hu fu hf, opt_of, bound_k]
  unfold nodeV
  by_cases h1 : nameV u.Name = 0
  · rw [h1, cond_ff (by rfl)]
    simp only [ne_eq, not_true_eq_false, if_false]
    cases h2 : boundB u with
    | true => rfl
    | false =>
      rw [cond_ff rfl, if_neg (by simp)]
      have key : ∀ f : Bool → Option Int, (lt f fun (k : Bool → Option Int) => (bif (decide (u.Kind < (1 : Int))) then (k true) else (k (decide (u.Kind > (3 : Int)))))) = f (decide (u.Kind < 1 ∨ u.Kind > 3)) := by
        intro f
        rw [lt_of]
        by_cases a : u.Kind < 1
        · rw [cond_tt (decide_eq_true a), decide_eq_true (.inl a)]
        · rw [cond_ff (decide_eq_false a)]
          by_cases b : u.Kind > 3
          · rw [decide_eq_true b, decide_eq_true (.inr b)]
          · rw [decide_eq_false b, decide_eq_false (by omega)]
      rw [key]
      by_cases h3 : u.Kind < 1 ∨ u.Kind > 3
      · rw [decide_eq_true h3, if_pos h3]; rfl
      · rw [decide_eq_false h3, if_neg h3]
        rw [cond_ff rfl, bad_k u h3]
        cases h4 : formB u with
        | false => rfl
        | true =>
          by_cases h5 : (u.Link.length : Int) > 1024
          · rw [if_neg (by simp), if_pos h5, decide_eq_true h5]; rfl
          · rw [if_neg (by simp), if_neg h5, decide_eq_false h5]; rfl
  · rw [cond_tt (by simpa using h1), if_pos h1]
/-! directories -/
theorem less_eq : ∀ (a b : List UInt8), (Op.bytesLess a b || a == b) = !Op.bytesLess b a
  | [], [] => rfl
  | [], y :: b => rfl
  | x :: a, [] => rfl
  | x :: a, y :: b => by
    have ih := less_eq a b
    by_cases h1 : x = y
    · subst h1
      have hx : ¬ x < x := by intro h; exact absurd h (UInt8.lt_irrefl x)
      simpa [Op.bytesLess, hx] using ih
    · have h2 : ¬ y = x := fun h => h1 h.symm
      have h5 : (x :: a == y :: b) = false := by rw [beq_eq_false_iff_ne]; intro h; exact h1 (List.cons.inj h).1
      rw [h5]
      by_cases h3 : x < y
      · have h4 : ¬ y < x := by intro h; exact absurd (UInt8.lt_trans h3 h) (UInt8.lt_irrefl x)
        simp [Op.bytesLess, h1, h2, h3, h4]
      · have h4 : y < x := by
          have := UInt8.lt_iff_toNat_lt (a := x) (b := y)
          have h6 : x.toNat ≠ y.toNat := fun h => h1 (UInt8.toNat_inj.1 h)
          rw [UInt8.lt_iff_toNat_lt] at h3 ⊢
          omega
        simp [Op.bytesLess, h1, h2, h3, h4]
theorem chk_go (l : List S_api_Node) (hl : l.length ≤ 64) (hn : ∀ u ∈ l, u.Name.length ≤ 1048576) (fu0 : Nat) (h0 : 1048600 ≤ fu0) : ∀ (d j fu : Nat), l.length - j = d → j ≤ l.length → d < fu →
    ∃ r, f_tree_Check_L6 l (fun _ => some 0) fu0 fu (j : Int) = some r ∧ f_lumref_Nodes_L6 l (fun _ => some 0) fu0 fu (j : Int) = some r
  | 0, j, fu + 1, hd, hj, _ => by
    rw [f_tree_Check_L6, f_lumref_Nodes_L6, cond_ff (dge (by omega)), cond_ff (dge (by omega))]; exact ⟨_, rfl, rfl⟩
  | d + 1, j, fu + 1, hd, hj, hf => by
    have hlt : j < l.length := by omega
    have hm := hn _ (List.getElem_mem hlt)
    rw [f_tree_Check_L6, f_lumref_Nodes_L6, cond_tt (dlt (by omega)), cond_tt (dlt (by omega)), at_lt hlt, opt_of, opt_of, ref_node _ hm fu0 h0, opt_of]
    rw [code_node _ hm fu0 h0]
    by_cases hv : nodeV l[j] = 0
    · rw [if_neg (by simpa using hv), hv, cond_ff (by rfl), lt_of, lt_of]
      have ih := chk_go l hl hn fu0 h0 d (j + 1) fu (by omega) (by omega) (by omega)
      by_cases hj0 : 0 < j
      · have hlt' : j - 1 < l.length := by omega
        have e : IntKind.i64.wrap ((j : Int) - (1 : Int)) = ((j - 1 : Nat) : Int) := by rw [w64 (by omega) (by omega)]; omega
        rw [cond_tt (decide_eq_true (by omega)), cond_tt (decide_eq_true (by omega)), e, at_lt hlt', opt_of, opt_of, less_eq, wsucc (by omega)]
        cases Op.bytesLess l[j - 1].Name l[j].Name with
        | true => exact ih
        | false => exact ⟨_, rfl, rfl⟩
      · rw [cond_ff (decide_eq_false (by omega)), cond_ff (decide_eq_false (by omega)), wsucc (by omega)]
        exact ih
    · rw [if_pos (by simpa using hv), cond_tt (by simpa using hv)]
      exact ⟨_, rfl, rfl⟩
theorem chk_ok (l : List S_api_Node) (hn : ∀ u ∈ l, u.Name.length ≤ 1048576) (fu : Nat) (h0 : 1048600 ≤ fu) : ∃ r, f_tree_Check fu l = some r ∧ f_lumref_Nodes fu l = some r := by
  unfold f_tree_Check f_lumref_Nodes
  by_cases h : (l.length : Int) > 64
  · rw [cond_tt (decide_eq_true h), cond_tt (decide_eq_true h)]; exact ⟨_, rfl, rfl⟩
  · rw [cond_ff (decide_eq_false h), cond_ff (decide_eq_false h), lt_of, lt_of]
    exact chk_go l (by omega) hn fu h0 l.length 0 fu (by omega) (by omega) (by omega)
end Go.Proofs.YtgmggcpceemnnaaDoor.PTreeSame
