/- Names and paths: NamesSays. Condition: of bulk at most 1048576. -/
import Derived.Test.YtjbgahmcobcojaaDoorNmName
import Derived.Test.YtjbgahmcobcojaaDoorPlOrd
import Derived.Test.YtjbgahmcobcojaaDoorEnB
import Derived.Lib.CountLaws
import Derived.Lib.IndexLaws
import Derived.Lib.IndexMore
import Derived.Lib.Join
namespace Go.Proofs.YtjbgahmcobcojaaDoor.PNamesSays
open Go.RowKit YtjbgahmcobcojaaDoor.En YtjbgahmcobcojaaDoor U8
open Go.Lib hiding cut
set_option linter.unusedVariables false
set_option linter.unusedSimpArgs false
abbrev L2 := List (List UInt8)
theorem iw {n : Nat} (h : n ≤ 9223372036854775807) : IntKind.i64.wrap (n : Int) = (n : Int) := w64 (by omega) (by omega)
def Sm (l : L2) : Prop := l.length ≤ 1048577 ∧ ∀ s ∈ l, s.length ≤ 1048576
/-! the pieces -/
theorem split_miss {s : List UInt8} (h : indexByte s 47 = -1) : splitV s [47] = [s] := by
  have h2 : index s [47] = -1 := by rw [index_one]; exact h
  unfold splitV
  rw [count_miss h2]; rfl
theorem split_hit {s : List UInt8} {i : Nat} (h : indexByte s 47 = i) : splitV s [47] = s.take i :: splitV (s.drop (i + 1)) [47] := by
  have h2 : index s [47] = i := by rw [index_one]; exact h
  have hn : ¬ (index s [47] == -1) = true := fun e => by have := beq_iff_eq.1 e; omega
  unfold splitV
  rw [count_hit (by simp) h2, Nat.add_comm]
  show (if (index s [47] == -1) = true then [s] else s.take ((index s [47]).toNat + 0) :: splitK [47] 0 (count (s.drop (i + [47].length)) [47]) (s.drop ((index s [47]).toNat + [47].length))) = _
  rw [if_neg hn, h2, Int.toNat_natCast]; rfl
theorem hit_lt {s : List UInt8} {i : Nat} (h : indexByte s 47 = i) : i < s.length := (List.getElem?_eq_some_iff.1 (indexByte_some h).1).1
theorem split_sm : ∀ (n : Nat) (s : List UInt8), s.length ≤ n → (splitV s [47]).length ≤ s.length + 1 ∧ ∀ x ∈ splitV s [47], x.length ≤ s.length
  | n, s, hn => by
    rcases Int.lt_or_le (indexByte s 47) 0 with h | h
    · have hm : indexByte s 47 = -1 := by have := indexByte_ge s 47; omega
      rw [split_miss hm]
      exact ⟨by simp, by simp⟩
    · obtain ⟨i, hi⟩ : ∃ i : Nat, indexByte s 47 = i := ⟨(indexByte s 47).toNat, by omega⟩
      have hlt := hit_lt hi
      rw [split_hit hi]
      match n with
      | 0 => omega
      | n + 1 =>
        obtain ⟨h1, h2⟩ := split_sm n (s.drop (i + 1)) (by rw [List.length_drop]; omega)
        rw [List.length_drop] at h1 h2
        refine ⟨by rw [List.length_cons]; omega, fun x hx => ?_⟩
        rcases List.mem_cons.1 hx with rfl | hx
        · rw [List.length_take]; omega
        · have := h2 x hx; omega
theorem cut_ok : ∀ (fu : Nat) (s : List UInt8), s.length < fu → s.length ≤ 1048576 → f_lumref_cutAt fu s = some (splitV s [47])
  | 0, s, h, _ => absurd h (Nat.not_lt_zero _)
  | fu + 1, s, h, hs => by
    rw [f_lumref_cutAt]
    unfold f_strings_IndexByte
    rw [opt_of, show ((47 : Int)).toNat.toUInt8 = 47 from rfl]
    rcases Int.lt_or_le (indexByte s 47) 0 with h1 | h1
    · have hm : indexByte s 47 = -1 := by have := indexByte_ge s 47; omega
      rw [split_miss hm, hm, cond_tt (decide_eq_true (by decide))]
    · obtain ⟨i, hi⟩ : ∃ i : Nat, indexByte s 47 = i := ⟨(indexByte s 47).toNat, by omega⟩
      have hlt := hit_lt hi
      have hsm := (split_sm _ (s.drop (i + 1)) (Nat.le_refl _)).1
      rw [List.length_drop] at hsm
      rw [split_hit hi, hi, cond_ff (decide_eq_false (by omega)), wsucc (by omega), req_pos (by omega), req_pos (by omega), Int.toNat_natCast, Int.toNat_natCast, cut_ok fu (s.drop (i + 1)) (by rw [List.length_drop]; omega) (by rw [List.length_drop]; omega), opt_of, req_pos (by rw [List.length_singleton]; omega)]; rfl
theorem fsplit_ok (fu : Nat) (s : List UInt8) (hs : s.length ≤ 1048576) : f_strings_Split fu s [47] = some (splitV s [47]) := by
  unfold f_strings_Split
  rw [req_pos ⟨by omega, by simp⟩]
theorem sm_split (s : List UInt8) (hs : s.length ≤ 1048576) : Sm (splitV s [47]) := by
  obtain ⟨h1, h2⟩ := split_sm _ s (Nat.le_refl _)
  exact ⟨by omega, fun x hx => by have := h2 x hx; omega⟩
/-! all names -/
def chk : Nat → L2 → Int
  | _, [] => 0
  | i, s :: t => if 8 ≤ i then 14 else if nameV s ≠ 0 then nameV s else chk (i + 1) t
theorem chk_cons (i : Nat) (s : List UInt8) (t : L2) : chk i (s :: t) = if 8 ≤ i then 14 else if nameV s ≠ 0 then nameV s else chk (i + 1) t := rfl
theorem chk_len : ∀ (l : L2) (i : Nat), chk i l = 0 → i ≤ 8 → i + l.length ≤ 8
  | [], i, _, hi => by simp; exact hi
  | s :: t, i, h, hi => by
    rw [chk_cons] at h
    by_cases h1 : 8 ≤ i
    · rw [if_pos h1] at h; exact absurd h (by decide)
    rw [if_neg h1] at h
    by_cases h2 : nameV s ≠ 0
    · rw [if_pos h2] at h; exact absurd h h2
    rw [if_neg h2] at h
    have := chk_len t (i + 1) h (by omega)
    rw [List.length_cons]; omega
theorem all_loop (l : L2) (hl : Sm l) (kk : Unit → Option Int) (g : Nat) (hg : 1048600 ≤ g) : ∀ (d i fu : Nat), l.length - i = d → i ≤ l.length → d < fu →
    f_names_checkAll_L5 l kk g fu (i : Int) = if chk i (l.drop i) = 0 then kk () else some (chk i (l.drop i))
  | _, _, 0, _, _, hf => absurd hf (Nat.not_lt_zero _)
  | 0, i, fu + 1, hd, hi, _ => by
    rw [f_names_checkAll_L5, cond_ff (dge (by omega)), List.drop_of_length_le (by omega)]; rfl
  | d + 1, i, fu + 1, hd, hi, hf => by
    have hlt : i < l.length := by omega
    have hb := hl.1
    rw [f_names_checkAll_L5, cond_tt (dlt (by omega)), at_lt hlt, opt_of, List.drop_eq_getElem_cons hlt, chk_cons]
    by_cases h8 : 8 ≤ i
    · rw [cond_tt (decide_eq_true (by omega)), if_pos h8, if_neg (by decide)]
    · rw [cond_ff (decide_eq_false (by omega)), if_neg h8, PTreeName.check_ok _ (hl.2 _ (List.getElem_mem hlt)) g hg, opt_of]
      by_cases hn : nameV l[i] = 0
      · rw [cond_ff (show (nameV l[i] != 0) = false from by simpa using hn), if_neg (c := nameV l[i] ≠ 0) (by simpa using hn), wsucc (by omega)]
        exact all_loop l hl kk g hg d (i + 1) fu (by omega) (by omega) (by omega)
      · rw [cond_tt (show (nameV l[i] != 0) = true from by simpa using hn), if_pos hn, if_neg hn]
theorem rall_loop (l : L2) (hl : Sm l) (kk : Unit → Option Int) (g : Nat) (hg : 1048600 ≤ g) : ∀ (d i fu : Nat), l.length - i = d → i ≤ l.length → d < fu →
    f_lumref_nameErr_L5 l kk g fu (i : Int) = if chk i (l.drop i) = 0 then kk () else some (chk i (l.drop i))
  | _, _, 0, _, _, hf => absurd hf (Nat.not_lt_zero _)
  | 0, i, fu + 1, hd, hi, _ => by
    rw [f_lumref_nameErr_L5, cond_ff (dge (by omega)), List.drop_of_length_le (by omega)]; rfl
  | d + 1, i, fu + 1, hd, hi, hf => by
    have hlt : i < l.length := by omega
    have hb := hl.1
    rw [f_lumref_nameErr_L5, cond_tt (dlt (by omega)), at_lt hlt, opt_of, List.drop_eq_getElem_cons hlt, chk_cons]
    by_cases h8 : 8 ≤ i
    · rw [cond_tt (decide_eq_true (by omega)), if_pos h8, if_neg (by decide)]
    · rw [cond_ff (decide_eq_false (by omega)), if_neg h8, PTreeName.name_ok _ (hl.2 _ (List.getElem_mem hlt)) g hg, opt_of]
      by_cases hn : nameV l[i] = 0
      · rw [cond_ff (show (nameV l[i] != 0) = false from by simpa using hn), if_neg (c := nameV l[i] ≠ 0) (by simpa using hn), wsucc (by omega)]
        exact rall_loop l hl kk g hg d (i + 1) fu (by omega) (by omega) (by omega)
      · rw [cond_tt (show (nameV l[i] != 0) = true from by simpa using hn), if_pos hn, if_neg hn]
theorem all_ok (l : L2) (hl : Sm l) (fu : Nat) (hf : 2000000 ≤ fu) : f_names_checkAll fu l = some (chk 0 l) ∧ f_lumref_nameErr fu l = some (chk 0 l) := by
  have hb := hl.1
  unfold f_names_checkAll f_lumref_nameErr
  rw [lt_of, lt_of]
  have e1 := all_loop l hl (fun _ => some (0 : Int)) fu (by omega) _ 0 fu rfl (Nat.zero_le _) (by omega)
  have e2 := rall_loop l hl (fun _ => some (0 : Int)) fu (by omega) _ 0 fu rfl (Nat.zero_le _) (by omega)
  rw [List.drop_zero] at e1 e2
  have key : (if chk 0 l = 0 then some (0 : Int) else some (chk 0 l)) = some (chk 0 l) := by
    by_cases h : chk 0 l = 0
    · rw [if_pos h, h]
    · rw [if_neg h]
  exact ⟨e1.trans key, e2.trans key⟩
/-! a path taken apart -/
def sp (p : List UInt8) : L2 × Int := if p.take 1 ≠ [47] then ([], 8) else if p = [47] then ([], 0) else if chk 0 (splitV (p.drop 1) [47]) ≠ 0 then ([], chk 0 (splitV (p.drop 1) [47])) else (splitV (p.drop 1) [47], 0)
theorem sp_tail (r : L2) (e : Int) : (bif (e != (0 : Int)) then (some (([] : List (List UInt8)), e)) else (some (r, (0 : Int)))) = some (if e ≠ 0 then ([], e) else (r, 0)) := by
  by_cases h : e = 0
  · rw [if_neg (by simpa using h), cond_ff (show (e != 0) = false from by simpa using h)]
  · rw [if_pos h, cond_tt (show (e != 0) = true from by simpa using h)]
theorem split1 (p : List UInt8) (hp : p.length ≤ 1048576) (fu : Nat) (hf : 2000000 ≤ fu) : f_names_Split fu p = some (sp p) := by
  unfold f_names_Split f_strings_CutPrefix f_stringslite_CutPrefix f_stringslite_HasPrefix sp
  rw [lt_of]
  cases p with
  | nil => rfl
  | cons b t =>
    rw [cond_tt (decide_eq_true (by rw [List.length_cons]; show ((t.length + 1 : Nat) : Int) ≥ (([47] : List UInt8).length : Int); simp; omega)), req_pos (by simp; omega)]
    rw [show (((([47] : List UInt8).length : Nat) : Int)).toNat = 1 from rfl, opt_of]
    by_cases h1 : (b :: t).take 1 = [47]
    · rw [beq_iff_eq.2 h1, if_neg (by simpa using h1), cond_ff (show (!true) = false from rfl), req_pos (by simp; omega), opt_of, opt_of]
      dsimp only
      rw [cond_ff (show (!true) = false from rfl)]
      have hb : b = 47 := by simpa using h1
      have hd : (b :: t).drop 1 = t := rfl
      have htl : t.length ≤ 1048576 := by rw [List.length_cons] at hp; omega
      rw [hd]
      by_cases h2 : t = []
      · subst h2; subst hb; rw [if_pos rfl]; rfl
      · rw [beq_eq_false_iff_ne.2 h2, if_neg (by rw [hb]; simpa using h2), cond_ff rfl, fsplit_ok fu t htl, opt_of, (all_ok _ (sm_split t htl) fu hf).1, opt_of]
        exact sp_tail _ _
    · rw [beq_eq_false_iff_ne.2 h1, if_pos h1]; rfl
theorem split2 (p : List UInt8) (hp : p.length ≤ 1048576) (fu : Nat) (hf : 2000000 ≤ fu) : f_lumref_Split fu p = some (sp p) := by
  unfold f_lumref_Split sp
  rw [lt_of]
  cases p with
  | nil => rfl
  | cons b t =>
    have hbt := b.toNat_lt
    rw [cond_ff (show ((b :: t) == ([] : List UInt8)) = false from rfl), req_pos (by rw [List.length_cons]; omega)]
    rw [show En.bAt (b :: t) (0 : Int) = ((b.toNat : Nat) : Int) from rfl]
    by_cases h1 : b = 47
    · rw [if_neg (by rw [h1]; simp), show ((((b.toNat : Nat) : Int)) != (47 : Int)) = false from by rw [h1]; rfl]
      dsimp only
      rw [cond_ff rfl]
      have htl : t.length ≤ 1048576 := by rw [List.length_cons] at hp; omega
      by_cases h2 : t = []
      · subst h2; subst h1; rw [if_pos rfl]; rfl
      · rw [beq_eq_false_iff_ne.2 (show b :: t ≠ [47] from by simp [h2]), if_neg (by simp [h2]), cond_ff rfl, req_pos (by rw [List.length_cons]; omega)]
        show (opt (f_lumref_cutAt fu t) _) = _
        rw [cut_ok fu t (by omega) htl, opt_of, (all_ok _ (sm_split t htl) fu hf).2, opt_of]
        exact sp_tail _ _
    · have hne : b.toNat ≠ 47 := fun e => h1 (UInt8.toNat_inj.1 (by rw [e]; rfl))
      rw [if_pos (by simpa using h1), show ((((b.toNat : Nat) : Int)) != (47 : Int)) = true from by rw [bne_iff_ne]; omega]; rfl
theorem sp_sm (p : List UInt8) (hp : p.length ≤ 1048576) : Sm (sp p).1 := by
  have hnil : Sm ([] : L2) := ⟨by simp, by simp⟩
  unfold sp
  split
  · exact hnil
  split
  · exact hnil
  split
  · exact hnil
  · exact sm_split _ (by rw [List.length_drop]; omega)
/-! names put together -/
def jn (l : L2) : List UInt8 := if l = [] then [47] else l.flatMap (fun s => [47] ++ s)
def jr (l : L2) : List UInt8 × Int := if chk 0 l ≠ 0 then ([], chk 0 l) else (jn l, 0)
theorem flat_le : ∀ (l : L2) (k : Nat), (∀ s ∈ l, s.length ≤ k) → (l.flatMap (fun s => [47] ++ s)).length ≤ (k + 1) * l.length
  | [], k, _ => by simp
  | x :: t, k, h => by
    have h1 := flat_le t k (fun y hy => h y (by simp [hy]))
    have h2 := h x (by simp)
    rw [List.flatMap_cons, List.length_append, List.length_append, List.length_singleton, List.length_cons, Nat.mul_succ]; omega
theorem join_flat (x : List UInt8) (r : L2) : [47] ++ Lib.join (x :: r) [47] = (x :: r).flatMap (fun s => [47] ++ s) := by
  rw [join_cons, List.flatMap_cons, List.append_assoc]
  unfold joinTail
  rw [List.flatMap_def]
theorem join1 (l : L2) (hl : Sm l) (fu : Nat) (hf : 2000000 ≤ fu) : f_names_Join fu l = some (jr l) := by
  unfold f_names_Join jr f_strings_Join
  rw [(all_ok l hl fu hf).1, opt_of]
  by_cases h : chk 0 l = 0
  · have hlen := chk_len l 0 h (by omega)
    rw [if_neg (by simpa using h), cond_ff (show (chk 0 l != 0) = false from by simpa using h)]
    cases l with
    | nil => rfl
    | cons x r =>
      have hfl := flat_le (x :: r) 1048576 hl.2
      have hj := join_flat x r
      have hjl : (Lib.join (x :: r) [47]).length + 1 = ((x :: r).flatMap (fun s => [47] ++ s)).length := by rw [← hj, List.length_append, List.length_singleton, Nat.add_comm]
      rw [req_pos ⟨by omega, by omega⟩, opt_of, req_pos (by rw [List.length_singleton]; omega), hj]
      unfold jn
      rw [if_neg (by simp)]
  · rw [if_pos h, cond_tt (show (chk 0 l != 0) = true from by simpa using h)]
theorem jloop (l : L2) (hl : Sm l) (h8 : l.length ≤ 8) (kk : List UInt8 → Option (List UInt8 × Int)) : ∀ (d i fu : Nat) (acc : List UInt8), l.length - i = d → i ≤ l.length → d < fu → acc.length ≤ 1048577 * i →
    f_lumref_Join_L9 l kk fu acc (i : Int) = kk (acc ++ (l.drop i).flatMap (fun s => [47] ++ s))
  | _, _, 0, _, _, _, hf, _ => absurd hf (Nat.not_lt_zero _)
  | 0, i, fu + 1, acc, hd, hi, _, _ => by
    rw [f_lumref_Join_L9, cond_ff (dge (by omega)), List.drop_of_length_le (by omega), List.flatMap_nil, List.append_nil]
  | d + 1, i, fu + 1, acc, hd, hi, hf, ha => by
    have hlt : i < l.length := by omega
    have hs := hl.2 _ (List.getElem_mem hlt)
    rw [f_lumref_Join_L9, cond_tt (dlt (by omega)), at_lt hlt, opt_of, req_pos (by rw [List.length_singleton]; omega), req_pos (by rw [List.length_append, List.length_singleton]; omega), wsucc (by omega), jloop l hl h8 kk d (i + 1) fu _ (by omega) (by omega) (by omega) (by rw [List.length_append, List.length_append, List.length_singleton]; omega), List.drop_eq_getElem_cons hlt, List.flatMap_cons, List.append_assoc acc]
theorem join2 (l : L2) (hl : Sm l) (fu : Nat) (hf : 2000000 ≤ fu) : f_lumref_Join fu l = some (jr l) := by
  unfold f_lumref_Join jr
  rw [(all_ok l hl fu hf).2, opt_of]
  by_cases h : chk 0 l = 0
  · have hlen := chk_len l 0 h (by omega)
    rw [if_neg (by simpa using h), cond_ff (show (chk 0 l != 0) = false from by simpa using h)]
    cases l with
    | nil => rfl
    | cons x r =>
      rw [cond_ff (show (((x :: r).length : Int) == 0) = false from by rw [beq_eq_false_iff_ne, List.length_cons]; omega), lt_of]
      refine (jloop (x :: r) hl (by omega) _ _ 0 fu [] rfl (Nat.zero_le _) (by omega) (by simp)).trans ?_
      unfold jn
      rw [if_neg (by simp), List.drop_zero, List.nil_append]
  · rw [if_pos h, cond_tt (show (chk 0 l != 0) = true from by simpa using h)]
/-! a path made right -/
def cl : L2 → L2 → Option L2
  | x, [] => some x
  | x, s :: t => if s = [] ∨ s = [46] then cl x t else if s = [46, 46] then (if x = [] then none else cl (x.take (x.length - 1)) t) else cl (x ++ [s]) t
theorem cl_cons (x : L2) (s : List UInt8) (t : L2) : cl x (s :: t) = if s = [] ∨ s = [46] then cl x t else if s = [46, 46] then (if x = [] then none else cl (x.take (x.length - 1)) t) else cl (x ++ [s]) t := rfl
def aft (kk : L2 → Option (List UInt8 × Int)) (r : Option L2) : Option (List UInt8 × Int) := match r with | some y => kk y | none => some ([], 8)
theorem cl_sm : ∀ (r x y : L2), cl x r = some y → x.length + r.length ≤ 1048577 → (∀ s ∈ x, s.length ≤ 1048576) → (∀ s ∈ r, s.length ≤ 1048576) → Sm y
  | [], x, y, h, hl, h1, h2 => by
    have : x = y := Option.some.inj h
    subst this
    exact ⟨by simpa using hl, h1⟩
  | s :: t, x, y, h, hl, h1, h2 => by
    rw [List.length_cons] at hl
    rw [cl_cons] at h
    have ht : ∀ u ∈ t, u.length ≤ 1048576 := fun u hu => h2 u (by simp [hu])
    split at h
    · exact cl_sm t x y h (by omega) h1 ht
    split at h
    · split at h
      · cases h
      · exact cl_sm t _ y h (by rw [List.length_take]; omega) (fun u hu => h1 u (List.mem_of_mem_take hu)) ht
    · exact cl_sm t _ y h (by rw [List.length_append, List.length_singleton]; omega) (fun u hu => by
        rcases List.mem_append.1 hu with hu | hu
        · exact h1 u hu
        · rw [List.mem_singleton.1 hu]; exact h2 s (by simp)) ht
theorem cl1 (r : L2) (hr : r.length ≤ 1048577) (kk : L2 → Option (List UInt8 × Int)) : ∀ (d i fu : Nat) (x : L2), r.length - i = d → i ≤ r.length → d < fu → x.length ≤ i →
    f_names_Clean_L10 kk r fu x (i : Int) = aft kk (cl x (r.drop i))
  | _, _, 0, _, _, _, hf, _ => absurd hf (Nat.not_lt_zero _)
  | 0, i, fu + 1, x, hd, hi, _, _ => by
    rw [f_names_Clean_L10, cond_ff (dge (by omega)), List.drop_of_length_le (by omega)]; rfl
  | d + 1, i, fu + 1, x, hd, hi, hf, hx => by
    have hlt : i < r.length := by omega
    rw [f_names_Clean_L10, cond_tt (dlt (by omega)), lt_of, at_lt hlt, opt_of, lt_of, List.drop_eq_getElem_cons hlt, cl_cons, wsucc (by omega)]
    have ih := fun (x' : L2) (hx' : x'.length ≤ i + 1) => cl1 r hr kk d (i + 1) fu x' (by omega) (by omega) (by omega) hx'
    generalize r[i] = u
    by_cases h1 : u = []
    · rw [if_pos (.inl h1), beq_iff_eq.2 h1, cond_tt rfl]
      exact ih x (by omega)
    rw [beq_eq_false_iff_ne.2 h1, cond_ff rfl]
    by_cases h2 : u = [46]
    · rw [if_pos (.inr h2), beq_iff_eq.2 h2]
      exact ih x (by omega)
    rw [beq_eq_false_iff_ne.2 h2, if_neg (by simp [h1, h2])]
    dsimp only
    rw [cond_ff rfl]
    by_cases h3 : u = [46, 46]
    · rw [if_pos h3, beq_iff_eq.2 h3, cond_tt rfl]
      by_cases h4 : x = []
      · rw [if_pos h4, h4]; rfl
      · have hp := List.length_pos_iff.2 h4
        have ew : IntKind.i64.wrap ((x.length : Int) - 1) = ((x.length - 1 : Nat) : Int) := by rw [w64 (by omega) (by omega)]; omega
        rw [if_neg h4, cond_ff (by rw [beq_eq_false_iff_ne]; omega), ew, req_pos (by omega), Int.toNat_natCast]
        exact ih _ (by rw [List.length_take]; omega)
    · rw [if_neg h3, beq_eq_false_iff_ne.2 h3, cond_ff rfl, req_pos (by rw [List.length_singleton]; omega)]
      exact ih _ (by rw [List.length_append, List.length_singleton]; omega)
theorem cl2 (r : L2) (hr : r.length ≤ 1048577) (kk : L2 → Option (List UInt8 × Int)) : ∀ (d i fu : Nat) (x : L2), r.length - i = d → i ≤ r.length → d < fu → x.length ≤ i →
    f_lumref_Clean_L10 kk r fu x (i : Int) = aft kk (cl x (r.drop i))
  | _, _, 0, _, _, _, hf, _ => absurd hf (Nat.not_lt_zero _)
  | 0, i, fu + 1, x, hd, hi, _, _ => by
    rw [f_lumref_Clean_L10, cond_ff (dge (by omega)), List.drop_of_length_le (by omega)]; rfl
  | d + 1, i, fu + 1, x, hd, hi, hf, hx => by
    have hlt : i < r.length := by omega
    rw [f_lumref_Clean_L10, cond_tt (dlt (by omega)), lt_of, at_lt hlt, opt_of, List.drop_eq_getElem_cons hlt, cl_cons, wsucc (by omega)]
    have ih := fun (x' : L2) (hx' : x'.length ≤ i + 1) => cl2 r hr kk d (i + 1) fu x' (by omega) (by omega) (by omega) hx'
    generalize r[i] = u
    by_cases h3 : u = [46, 46]
    · subst h3
      rw [if_neg (by decide), if_pos rfl, cond_tt (show (([46, 46] : List UInt8) == [46, 46]) = true from rfl)]
      by_cases h4 : x = []
      · rw [if_pos h4, h4]; rfl
      · have hp := List.length_pos_iff.2 h4
        have ew : IntKind.i64.wrap ((x.length : Int) - 1) = ((x.length - 1 : Nat) : Int) := by rw [w64 (by omega) (by omega)]; omega
        rw [if_neg h4, cond_ff (by rw [beq_eq_false_iff_ne]; omega), ew, req_pos (by omega), Int.toNat_natCast]
        exact ih _ (by rw [List.length_take]; omega)
    rw [beq_eq_false_iff_ne.2 h3, cond_ff rfl, lt_of]
    by_cases h1 : u = []
    · rw [if_pos (.inl h1), h1]
      exact ih x (by omega)
    by_cases h2 : u = [46]
    · rw [if_pos (.inr h2), h2]
      exact ih x (by omega)
    rw [beq_eq_false_iff_ne.2 h1, beq_eq_false_iff_ne.2 h2, if_neg (by simp [h1, h2]), if_neg h3, cond_tt (show (!false) = true from rfl)]
    show (bif (!false) then _ else _) = _
    rw [cond_tt (show (!false) = true from rfl), req_pos (by rw [List.length_singleton]; omega)]
    exact ih _ (by rw [List.length_append, List.length_singleton]; omega)
def cr (p : List UInt8) : List UInt8 × Int := match cl [] (splitV p [47]) with | some y => jr y | none => ([], 8)
theorem clean1 (p : List UInt8) (hp : p.length ≤ 1048576) (fu : Nat) (hf : 2000000 ≤ fu) : f_names_Clean fu p = some (cr p) ∧ f_lumref_Clean fu p = some (cr p) := by
  have hsm := sm_split p hp
  have hl := hsm.1
  unfold f_names_Clean f_lumref_Clean cr
  rw [lt_of, lt_of, fsplit_ok fu p hp, cut_ok fu p (by omega) hp, opt_of, opt_of]
  have e1 := cl1 (splitV p [47]) hl (fun j1x4 => (opt (f_names_Join fu j1x4) fun (r4 : ((List UInt8) × Int)) => (some (r4.1, r4.2)))) _ 0 fu [] rfl (Nat.zero_le _) (by omega) (Nat.zero_le _)
  have e2 := cl2 (splitV p [47]) hl (fun j1x4 => (opt (f_lumref_Join fu j1x4) fun (r4 : ((List UInt8) × Int)) => (some (r4.1, r4.2)))) _ 0 fu [] rfl (Nat.zero_le _) (by omega) (Nat.zero_le _)
  rw [List.drop_zero] at e1 e2
  have key : ∀ (f : L2 → Option (List UInt8 × Int)), (∀ l, Sm l → f l = some (jr l)) → aft (fun x => (opt (f x) fun r4 => some (r4.1, r4.2))) (cl [] (splitV p [47])) = some (match cl [] (splitV p [47]) with | some y => jr y | none => ([], 8)) := by
    intro f hfj
    cases hc : cl [] (splitV p [47]) with
    | none => rfl
    | some y =>
      have hy := cl_sm _ _ _ hc (by simpa using hl) (by simp) hsm.2
      show (opt (f y) fun r4 => some (r4.1, r4.2)) = some (jr y)
      rw [hfj y hy, opt_of]
  exact ⟨e1.trans (key _ (fun l hl => join1 l hl fu hf)), e2.trans (key _ (fun l hl => join2 l hl fu hf))⟩
/-! the order of paths -/
def ah : L2 → L2 → Bool
  | _, [] => false
  | [], _ :: _ => true
  | x :: l, y :: m => if x ≠ y then Op.bytesLess x y else ah l m
theorem ah_cons (x y : List UInt8) (l m : L2) : ah (x :: l) (y :: m) = if x ≠ y then Op.bytesLess x y else ah l m := rfl
theorem ah_nil (l : L2) : ah l [] = false := by cases l <;> rfl
theorem less_self : ∀ a : List UInt8, Op.bytesLess a a = false
  | [] => rfl
  | b :: t => by
    show (decide (b < b) || (b == b && Op.bytesLess t t)) = false
    rw [less_self t]; simp
theorem cmp_ok (x y : List UInt8) (fu : Nat) : f_cmp_Compare_string_ fu x y = some (if Op.bytesLess x y = true then -1 else if x = y then 0 else 1) := by
  unfold f_cmp_Compare_string_ f_cmp_isNaN_string_
  rw [beq_self_eq_true, beq_self_eq_true, show (!true) = false from rfl, opt_of, opt_of, cond_ff rfl, cond_ff rfl]
  cases hb : Op.bytesLess x y with
  | true => rw [cond_tt rfl, if_pos rfl]
  | false =>
    rw [cond_ff rfl, if_neg (by simp), Bool.false_or]
    by_cases h : x = y
    · rw [beq_iff_eq.2 h, if_pos h]; rfl
    · rw [beq_eq_false_iff_ne.2 h, if_neg h]; rfl
theorem cmp_loop (a b : L2) (ha : a.length ≤ 1048577) (hb : b.length ≤ 1048577) (g : Nat) : ∀ (d i fu : Nat), a.length - i = d → i ≤ a.length → i ≤ b.length → d < fu →
    ∃ c : Int, f_slices_Compare___string_string__L6 a b (fun _ => (bif (decide ((a.length : Int) < (b.length : Int))) then (some (-1 : Int)) else (some (0 : Int)))) g fu (i : Int) = some c ∧ decide (c < 0) = ah (a.drop i) (b.drop i)
  | _, _, 0, _, _, _, hf => absurd hf (Nat.not_lt_zero _)
  | 0, i, fu + 1, hd, hi, hib, _ => by
    have hia : i = a.length := by omega
    rw [f_slices_Compare___string_string__L6, cond_ff (dge (by omega)), List.drop_of_length_le (l := a) (by omega)]
    by_cases h : a.length < b.length
    · rw [cond_tt (decide_eq_true (by omega)), List.drop_eq_getElem_cons (by omega : i < b.length)]
      exact ⟨-1, rfl, rfl⟩
    · rw [cond_ff (decide_eq_false (by omega)), List.drop_of_length_le (l := b) (by omega)]
      exact ⟨0, rfl, rfl⟩
  | d + 1, i, fu + 1, hd, hi, hib, hf => by
    have hlt : i < a.length := by omega
    rw [f_slices_Compare___string_string__L6, cond_tt (dlt (by omega)), at_lt hlt, opt_of]
    by_cases h : i < b.length
    · rw [cond_ff (decide_eq_false (by omega)), at_lt h, opt_of, cmp_ok, opt_of, List.drop_eq_getElem_cons hlt, List.drop_eq_getElem_cons h, ah_cons]
      by_cases he : a[i] = b[i]
      · rw [he, less_self, if_neg (by simp), if_pos rfl, if_neg (by simp), cond_ff (show ((0 : Int) != 0) = false from rfl), wsucc (by omega)]
        exact cmp_loop a b ha hb g d (i + 1) fu (by omega) (by omega) (by omega) (by omega)
      · rw [if_pos he, if_neg he]
        cases hq : Op.bytesLess a[i] b[i] with
        | true => rw [if_pos rfl]; exact ⟨-1, rfl, rfl⟩
        | false => rw [if_neg (by simp)]; exact ⟨1, rfl, rfl⟩
    · rw [cond_tt (decide_eq_true (by omega)), List.drop_of_length_le (l := b) (by omega), ah_nil]
      exact ⟨1, rfl, rfl⟩
theorem ahead_ok : ∀ (fu : Nat) (a b : L2), a.length < fu → a.length ≤ 1048577 → f_lumref_ahead fu a b = some (ah a b)
  | 0, a, b, h, _ => absurd h (Nat.not_lt_zero _)
  | fu + 1, a, b, h, hl => by
    rw [f_lumref_ahead]
    cases b with
    | nil => rw [ah_nil]; rfl
    | cons y m =>
      rw [cond_ff (show (((y :: m).length : Int) == 0) = false from by rw [beq_eq_false_iff_ne, List.length_cons]; omega)]
      cases a with
      | nil => rfl
      | cons x l =>
        rw [List.length_cons] at h hl
        rw [cond_ff (show (((x :: l).length : Int) == 0) = false from by rw [beq_eq_false_iff_ne, List.length_cons]; omega), show at? (x :: l) (0 : Int) = some x from rfl, show at? (y :: m) (0 : Int) = some y from rfl, opt_of, opt_of, ah_cons]
        by_cases he : x = y
        · rw [beq_iff_eq.2 he, cond_ff (show (!true) = false from rfl), req_pos (by rw [List.length_cons]; omega), req_pos (by rw [List.length_cons]; omega), if_neg (by simpa using he)]
          show (opt (f_lumref_ahead fu l m) _) = _
          rw [ahead_ok fu l m (by omega) (by omega), opt_of]
        · rw [beq_eq_false_iff_ne.2 he, cond_tt (show (!false) = true from rfl), if_pos he, opt_of, opt_of]
def ls (p q : List UInt8) : Bool × Int := if (sp p).2 ≠ 0 then (false, (sp p).2) else if (sp q).2 ≠ 0 then (false, (sp q).2) else (ah (sp p).1 (sp q).1, 0)
theorem less1 (p q : List UInt8) (hp : p.length ≤ 1048576) (hq : q.length ≤ 1048576) (fu : Nat) (hf : 2000000 ≤ fu) : f_names_Less fu p q = some (ls p q) ∧ f_lumref_Less fu p q = some (ls p q) := by
  have h1 := sp_sm p hp
  have h2 := sp_sm q hq
  have hl1 := h1.1
  have hl2 := h2.1
  unfold f_names_Less f_lumref_Less ls
  rw [split1 p hp fu hf, split2 p hp fu hf, opt_of, opt_of]
  by_cases e1 : (sp p).2 = 0
  · rw [if_neg (by simpa using e1), cond_ff (show ((sp p).2 != 0) = false from by simpa using e1), cond_ff (show ((sp p).2 != 0) = false from by simpa using e1), split1 q hq fu hf, split2 q hq fu hf, opt_of, opt_of]
    by_cases e2 : (sp q).2 = 0
    · rw [if_neg (by simpa using e2), cond_ff (show ((sp q).2 != 0) = false from by simpa using e2), cond_ff (show ((sp q).2 != 0) = false from by simpa using e2), ahead_ok fu _ _ (by omega) (by omega), opt_of]
      obtain ⟨c, c1, c2⟩ := cmp_loop (sp p).1 (sp q).1 hl1 hl2 fu _ 0 fu rfl (Nat.zero_le _) (Nat.zero_le _) (by omega)
      unfold f_slices_Compare___string_string_
      rw [lt_of]
      rw [show (0 : Int) = ((0 : Nat) : Int) from rfl] at *
      rw [c1, opt_of, c2, List.drop_zero, List.drop_zero]
      exact ⟨rfl, rfl⟩
    · rw [if_pos e2, cond_tt (show ((sp q).2 != 0) = true from by simpa using e2), cond_tt (show ((sp q).2 != 0) = true from by simpa using e2)]
      exact ⟨rfl, rfl⟩
  · rw [if_pos e1, cond_tt (show ((sp p).2 != 0) = true from by simpa using e1), cond_tt (show ((sp p).2 != 0) = true from by simpa using e1)]
    exact ⟨rfl, rfl⟩
theorem eqL (l : L2) (hl : l.length ≤ 1048577) (kk : Unit → Option Bool) : ∀ (d i fu : Nat), l.length - i = d → i ≤ l.length → d < fu → f_slices_Equal___string_string__L6 l l kk fu (i : Int) = kk ()
  | _, _, 0, _, _, hf => absurd hf (Nat.not_lt_zero _)
  | 0, i, fu + 1, hd, hi, _ => by rw [f_slices_Equal___string_string__L6, cond_ff (dge (by omega))]
  | d + 1, i, fu + 1, hd, hi, hf => by
    have hlt : i < l.length := by omega
    rw [f_slices_Equal___string_string__L6, cond_tt (dlt (by omega)), at_lt hlt, opt_of, opt_of, show (!(l[i] == l[i])) = false from by simp, cond_ff rfl, wsucc (by omega)]
    exact eqL l hl kk d (i + 1) fu (by omega) (by omega) (by omega)
theorem eq_ok (l : L2) (hl : l.length ≤ 1048577) (fu : Nat) (hf : 2000000 ≤ fu) : f_slices_Equal___string_string_ fu l l = some true := by
  unfold f_slices_Equal___string_string_
  rw [show ((l.length : Int) != (l.length : Int)) = false from by simp, cond_ff rfl, lt_of]
  exact eqL l hl _ _ 0 fu rfl (Nat.zero_le _) (by omega)
theorem law_ok (n p q : List UInt8) (l : L2) (hn : n.length ≤ 1048576) (hp : p.length ≤ 1048576) (hq : q.length ≤ 1048576) (hl : Sm l) (fu : Nat) (hf : 2000000 ≤ fu) : f_lumlaw_NamesSays fu n p q l = some true := by
  unfold f_lumlaw_NamesSays
  rw [split1 p hp fu hf, opt_of, split2 p hp fu hf, opt_of, join1 l hl fu hf, opt_of, join2 l hl fu hf, opt_of, (clean1 p hp fu hf).1, opt_of, (clean1 p hp fu hf).2, opt_of, (less1 p q hp hq fu hf).1, opt_of, (less1 p q hp hq fu hf).2, opt_of, lt_of, PTreeName.check_ok n hn fu (by omega), opt_of, PTreeName.name_ok n hn fu (by omega), opt_of, cond_tt (beq_self_eq_true _), eq_ok _ (sp_sm p hp).1 fu hf, opt_of, cond_tt rfl]
  rw [cond_tt (beq_self_eq_true _), cond_tt (beq_self_eq_true _), cond_tt (beq_self_eq_true _), cond_tt (beq_self_eq_true _), cond_tt (beq_self_eq_true _), cond_tt (beq_self_eq_true _), beq_self_eq_true]
def fuel (_ _ _ : List UInt8) (_ : L2) : Nat := 2000000
theorem says (n p q : List UInt8) (l : L2) (h : okB (fun N y => y.length ≤ 9223372036854775807 ∧ y.length ≤ N) 1048576 l) (hn : n.length ≤ 1048576) (hp : p.length ≤ 1048576) (hq : q.length ≤ 1048576) : f_lumlaw_NamesSays (fuel n p q l) n p q l = some true :=
  law_ok n p q l hn hp hq ⟨by have := h.1; omega, fun s hs => (h.2 s hs).2⟩ 2000000 (Nat.le_refl _)
end Go.Proofs.YtjbgahmcobcojaaDoor.PNamesSays
