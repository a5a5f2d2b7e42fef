/- What SweepSays leans on, part 2. No condition. -/
import Derived.Test.YtiioclkiapbjnaaQSweepSaysa
import Derived.Sort.OwnSortedInts
import Derived.Test.YtiioclkiapbjnaaChecked
namespace Go.Proofs.Ytiioclkiapbjnaa
open Go.RowKit Ytiioclkiapbjnaa.En
set_option linter.unusedVariables false
set_option linter.unusedSimpArgs false
theorem del_repL {Z : Nat → Prop} {w : World} : ∀ {xs : List Int} {cs : List Value}, RepL (tyInt .i64) Z w cs xs → cs = xs.map (Value.int .i64)
  | [], _, h => h
  | x :: xs, _, h => by
    obtain ⟨c1, c2, rfl, h1, h2⟩ := h
    rw [show c1 = [Value.int .i64 x] from h1, del_repL h2]; rfl
theorem del_mkL {Z : Nat → Prop} {w : World} : ∀ (xs : List Int), RepL (tyInt .i64) Z w (xs.map (Value.int .i64)) xs
  | [] => rfl
  | x :: xs => ⟨[_], _, rfl, rfl, del_mkL xs⟩
def f_slices_Delete_I (fu : Nat) (a0 : List Int) (a1 a2 : Int) : Option (List Int) := req (0 ≤ a1 ∧ a1 < a2 ∧ a2 ≤ (a0.length : Int)) (some (a0.take a1.toNat ++ a0.drop a2.toNat))
theorem f_slices_Delete_I_ok (fu : Nat) (v0 : Value) (a0 : List Int) (a1 a2 : Int) {r : List Int} (h : f_slices_Delete_I fu a0 a1 a2 = some r) : FnOk Try.prog 70 [v0, (Value.int .i64 a1), (Value.int .i64 a2)] [] [oRow v0 3 (tyInt .i64) a0] (fun v : Value => { val := v, own := [oRow v 3 (tyInt .i64) r] }) := by
  unfold f_slices_Delete_I at h
  obtain ⟨hc, h⟩ := req_some h
  obtain rfl := Option.some.inj h
  obtain ⟨i, rfl⟩ : ∃ i : Nat, a1 = i := ⟨a1.toNat, by omega⟩
  obtain ⟨j, rfl⟩ : ∃ j : Nat, a2 = j := ⟨a2.toNat, by omega⟩
  rw [Int.toNat_natCast, Int.toNat_natCast]
  intro w Z hZ hnd hX hpre hoin
  obtain ⟨cs, hr, hrl⟩ := hoin _ (.head _)
  obtain rfl := del_repL hrl
  rcases hr.2 with ⟨rfl, hn⟩ | ⟨g, cap, cur, rfl, _, hb, h1, h2, h3, h4⟩
  · omega
  have h3' : cur.size = cap := by rw [h3]; show cap * 1 = cap; omega
  have hg : g < w.heap.size := (Array.getElem?_eq_some_iff.1 hb).1
  have h4' : cur.toList.take a0.length = a0.map (Value.int .i64) := by
    rw [show (tyInt .i64).size = 1 from rfl, Nat.mul_one] at h4
    exact h4
  have hH : Go.Sort.Holds (Value.int .i64) w g 0 a0.toArray := holds_of_blockI hb h4'
  refine (Try.slices_Delete_int g 0 cap i j a0 w hH h1 h2 (by omega) (by omega)).mono fun e w' h9 => ?_
  obtain ⟨rfl, q, rfl⟩ := h9
  generalize hD : a0.take i ++ a0.drop j ++ List.replicate (j - i) (0 : Int) = D
  have hDl : D.length = a0.length := by rw [← hD]; simp; omega
  have hgh : (Go.Sort.putRow (Value.int .i64) (Go.Sort.ahead w q) g 0 D.toArray).heap[g]? = some (.cells (Go.Sort.putCells (Value.int .i64) 0 D.toArray cur) 3 (0, 0)) := by
    simp [Go.Sort.putRow, Go.Sort.mapBlock, Go.Sort.ahead, Array.getElem?_modify, hb, Go.Sort.onCells]
  have hoth : ∀ b, b ≠ g → (Go.Sort.putRow (Value.int .i64) (Go.Sort.ahead w q) g 0 D.toArray).heap[b]? = w.heap[b]? := fun b hne => by
    simp [Go.Sort.putRow, Go.Sort.mapBlock, Go.Sort.ahead, Array.getElem?_modify, Ne.symm hne]
  have hsz : (Go.Sort.putRow (Value.int .i64) (Go.Sort.ahead w q) g 0 D.toArray).heap.size = w.heap.size := by simp [Go.Sort.putRow, Go.Sort.mapBlock, Go.Sort.ahead]
  have htk : (Go.Sort.putCells (Value.int .i64) 0 D.toArray cur).toList.take (a0.length - (j - i)) = (a0.take i ++ a0.drop j).map (Value.int .i64) := by
    have hl : (a0.take i ++ a0.drop j).length = a0.length - (j - i) := by simp; omega
    apply List.ext_getElem?
    intro t
    by_cases ht : t < a0.length - (j - i)
    · rw [List.getElem?_take_of_lt ht, Array.getElem?_toList]
      have htD : t < D.length := by omega
      have e1 : D[t]? = (a0.take i ++ a0.drop j)[t]? := by rw [← hD, List.getElem?_append_left (by omega)]
      rw [List.getElem?_map, ← e1]
      simp [Go.Sort.putCells, htD, show t < cur.size by omega]
    · rw [List.getElem?_take_eq_none (by omega), List.getElem?_eq_none (by rw [List.length_map]; omega)]
  have hl : (a0.take i ++ a0.drop j).length = a0.length - (j - i) := by simp; omega
  refine ⟨.slice (some ⟨g, 0, none⟩) (a0.length - (j - i)) cap, rfl, ⟨rfl, rfl, rfl, by rw [hsz]; exact Nat.le_refl _, fun b hb1 hb2 => hoth b (fun e => hb2 (by simp [oRow, Value.ownBlock, e]))⟩, by simp [oRow, Value.ownBlock], fun b hb1 => .inl (by simpa [oRow, Value.ownBlock] using hb1), fun Z' hZ' => ⟨fun o ho => ?_, fun f hf => by cases hf⟩⟩
  rw [List.mem_singleton.1 ho]
  refine ⟨(a0.take i ++ a0.drop j).map (Value.int .i64), ⟨?_, .inr ⟨g, cap, _, ?_, Nat.zero_le _, hgh, ?_, h2, ?_, ?_⟩⟩, del_mkL _⟩
  · rw [List.length_map]; show _ = _ * 1; omega
  · rw [hl]
  · rw [hl]; omega
  · show (Go.Sort.putCells (Value.int .i64) 0 D.toArray cur).size = cap * 1
    simp [Go.Sort.putCells, h3']
  · rw [hl, show (tyInt .i64).size = 1 from rfl, Nat.mul_one]; exact htk
end Go.Proofs.Ytiioclkiapbjnaa
namespace Go.Proofs.Ytiioclkiapbjnaa
open Go.RowKit Ytiioclkiapbjnaa.En
set_option linter.unusedVariables false
set_option linter.unusedSimpArgs false
open Go.Value (int bool)
structure S_api_Thing where
  Kids : (List Int)
  Colour : Int
  Free : Bool
  deriving DecidableEq
def tyS_api_Thing : Ty S_api_Thing := tyVia (fun x => (x.Kids, (x.Colour, x.Free))) (tyPair (tyList (tyInt .i64)) (tyPair (tyInt .i64) tyBool))
theorem subS_api_Thing_0 : Sub tyS_api_Thing 0 (tyList (tyInt .i64)) (fun x => x.Kids) := Sub.via (Sub.fst (Sub.whole _))
theorem ssetS_api_Thing_0 : SubSet tyS_api_Thing 0 (tyList (tyInt .i64)) (fun x y => { x with Kids := y }) := SubSet.via (SubSet.fst (Nat.le_of_ble_eq_true rfl) (SubSet.whole _)) (fun _ _ => rfl)
theorem subS_api_Thing_1 : Sub tyS_api_Thing 1 (tyInt .i64) (fun x => x.Colour) := Sub.via (Sub.snd (Sub.fst (Sub.whole _)))
theorem ssetS_api_Thing_1 : SubSet tyS_api_Thing 1 (tyInt .i64) (fun x y => { x with Colour := y }) := SubSet.via (SubSet.snd (SubSet.fst (Nat.le_of_ble_eq_true rfl) (SubSet.whole _))) (fun _ _ => rfl)
theorem subS_api_Thing_2 : Sub tyS_api_Thing 2 tyBool (fun x => x.Free) := Sub.via (Sub.snd (Sub.snd (Sub.whole _)))
theorem ssetS_api_Thing_2 : SubSet tyS_api_Thing 2 tyBool (fun x y => { x with Free := y }) := SubSet.via (SubSet.snd (SubSet.snd (SubSet.whole _))) (fun _ _ => rfl)
def tyhS_api_Thing : Ty (Value × S_api_Thing) := tyVia (fun y => (y.1, (y.2.Colour, y.2.Free))) (tyPair tySl (tyPair (tyInt .i64) tyBool))
theorem encnS_api_Thing {cs} {x : S_api_Thing} : ∀ Z w, (fDat tyS_api_Thing cs x).p Z w → ∃ j : Value, cs = [j, (int .i64 x.Colour), (bool x.Free)] ∧ ∀ g ∈ [(fDat (tyList (tyInt .i64)) [j] x.Kids)], g.p Z w := by
  intro Z w h
  obtain ⟨c0, d0, rfl, p0, q0⟩ := h
  obtain ⟨c1, d1, rfl, p1, q1⟩ := q0
  obtain ⟨v0, rfl⟩ := one_of p0
  obtain rfl : c1 = [(int .i64 x.Colour)] := p1
  obtain rfl : d1 = [(bool x.Free)] := q1
  exact ⟨v0, rfl, (fall_cons p0 fall_nil)⟩
theorem mknS_api_Thing {Z w cs} {x : S_api_Thing} {v0 : Value} (hc : cs = [v0, (int .i64 x.Colour), (bool x.Free)]) (h0 : (tyList (tyInt .i64)).rep Z w [v0] x.Kids) : tyS_api_Thing.rep Z w cs x := by
  subst hc
  exact ⟨_, _, (List.take_append_drop 1 _).symm, h0, ⟨_, _, (List.take_append_drop 1 _).symm, rfl, rfl⟩⟩
theorem subhS_api_Thing_0 : Sub tyhS_api_Thing 0 tySl (fun y => y.1) := Sub.via (Sub.fst (Sub.whole _))
theorem ssethS_api_Thing_0 : SubSet tyhS_api_Thing 0 tySl (fun z y => (y, z.2)) := SubSet.via (SubSet.fst (Nat.le_of_ble_eq_true rfl) (SubSet.whole _)) (fun _ _ => rfl)
theorem subhS_api_Thing_1 : Sub tyhS_api_Thing 1 (tyInt .i64) (fun y => y.2.Colour) := Sub.via (Sub.snd (Sub.fst (Sub.whole _)))
theorem ssethS_api_Thing_1 : SubSet tyhS_api_Thing 1 (tyInt .i64) (fun z y => (z.1, (⟨z.2.Kids, y, z.2.Free⟩ : S_api_Thing))) := SubSet.via (SubSet.snd (SubSet.fst (Nat.le_of_ble_eq_true rfl) (SubSet.whole _))) (fun _ _ => rfl)
theorem mkhS_api_Thing {Z w cs} {x : S_api_Thing} {u : Value} (hc : cs = [u, (int .i64 x.Colour), (bool x.Free)]) (hu : ∃ A n c, u = .slice A n c) : tyhS_api_Thing.rep Z w cs (u, x) := by
  subst hc
  exact ⟨_, _, (List.take_append_drop 1 _).symm, ⟨rfl, hu⟩, ⟨_, _, (List.take_append_drop 1 _).symm, rfl, rfl⟩⟩
theorem shS_api_Thing {Z Z' w cs u} {x : S_api_Thing} (h : tyhS_api_Thing.rep Z w cs (u, x)) (hk : (tyList (tyInt .i64)).rep Z' w [u] x.Kids) : tyS_api_Thing.rep Z' w cs x := by
  obtain ⟨c0, d0, rfl, p0, q0⟩ := h
  obtain ⟨c1, d1, rfl, p1, q1⟩ := q0
  obtain ⟨rfl, _⟩ := p0
  exact ⟨_, _, rfl, hk, ⟨_, _, rfl, p1, q1⟩⟩
structure S_api_Heap where
  Things : (List S_api_Thing)
  Roots : (List Int)
  Busy : Bool
  deriving DecidableEq
def tyS_api_Heap : Ty S_api_Heap := tyVia (fun x => (x.Things, (x.Roots, x.Busy))) (tyPair (tyList tyS_api_Thing) (tyPair (tyList (tyInt .i64)) tyBool))
theorem subS_api_Heap_0 : Sub tyS_api_Heap 0 (tyList tyS_api_Thing) (fun x => x.Things) := Sub.via (Sub.fst (Sub.whole _))
theorem subS_api_Heap_1 : Sub tyS_api_Heap 1 (tyList (tyInt .i64)) (fun x => x.Roots) := Sub.via (Sub.snd (Sub.fst (Sub.whole _)))
theorem subS_api_Heap_2 : Sub tyS_api_Heap 2 tyBool (fun x => x.Busy) := Sub.via (Sub.snd (Sub.snd (Sub.whole _)))
theorem encnS_api_Heap {cs} {x : S_api_Heap} : ∀ Z w, (fDat tyS_api_Heap cs x).p Z w → ∃ j : Value × Value, cs = [j.1, j.2, (bool x.Busy)] ∧ ∀ g ∈ [(fDat (tyList tyS_api_Thing) [j.1] x.Things), (fDat (tyList (tyInt .i64)) [j.2] x.Roots)], g.p Z w := by
  intro Z w h
  obtain ⟨c0, d0, rfl, p0, q0⟩ := h
  obtain ⟨c1, d1, rfl, p1, q1⟩ := q0
  obtain ⟨v0, rfl⟩ := one_of p0
  obtain ⟨v1, rfl⟩ := one_of p1
  obtain rfl : d1 = [(bool x.Busy)] := q1
  exact ⟨(v0, v1), rfl, (fall_cons p0 (fall_cons p1 fall_nil))⟩
theorem mknS_api_Heap {Z w cs} {x : S_api_Heap} {v0 v1 : Value} (hc : cs = [v0, v1, (bool x.Busy)]) (h0 : (tyList tyS_api_Thing).rep Z w [v0] x.Things) (h1 : (tyList (tyInt .i64)).rep Z w [v1] x.Roots) : tyS_api_Heap.rep Z w cs x := by
  subst hc
  exact ⟨_, _, (List.take_append_drop 1 _).symm, h0, ⟨_, _, (List.take_append_drop 1 _).symm, h1, rfl⟩⟩
structure S_api_Act where
  Kind : Int
  From : Int
  To : Int
  deriving DecidableEq
def tyS_api_Act : Ty S_api_Act := tyVia (fun x => (x.Kind, (x.From, x.To))) (tyPair (tyInt .i64) (tyPair (tyInt .i64) (tyInt .i64)))
theorem encS_api_Act {Z w cs} {x : S_api_Act} (h : tyS_api_Act.rep Z w cs x) : cs = [(int .i64 x.Kind), (int .i64 x.From), (int .i64 x.To)] := by
  obtain ⟨c0, d0, rfl, p0, q0⟩ := h
  obtain ⟨c1, d1, rfl, p1, q1⟩ := q0
  rw [show _ = _ from p0]
  rw [show _ = _ from p1]
  rw [show _ = _ from q1]
  rfl
structure D_sweep_heap where
  Things : (List S_api_Thing)
  Roots : (List Int)
  Busy : Bool
theorem sz3 : szOf Try.prog 3 = some 1 := by kernel_rfl
theorem to3 : tyOf Try.prog 3 = some (1, 8, some (int .i64 (0 : Int))) := by kernel_rfl
theorem sz4 : szOf Try.prog 4 = some 1 := by kernel_rfl
theorem to4 : tyOf Try.prog 4 = some (1, 1, some (bool false)) := by kernel_rfl
theorem sz30 : szOf Try.prog 30 = some 1 := by kernel_rfl
theorem to30 : tyOf Try.prog 30 = some (1, 24, some (Value.slice none 0 0)) := by kernel_rfl
theorem sz36 : szOf Try.prog 36 = some 1 := by kernel_rfl
theorem sz38 : szOf Try.prog 38 = some 3 := by kernel_rfl
theorem to38 : tyOf Try.prog 38 = some (3, 56, some (ag [(Value.slice none 0 0), (Value.slice none 0 0), (bool false)])) := by kernel_rfl
theorem sz40 : szOf Try.prog 40 = some 3 := by kernel_rfl
theorem sz42 : szOf Try.prog 42 = some 1 := by kernel_rfl
theorem to42 : tyOf Try.prog 42 = some (1, 24, some (Value.slice none 0 0)) := by kernel_rfl
theorem sz71 : szOf Try.prog 71 = some 3 := by kernel_rfl
theorem to71 : tyOf Try.prog 71 = some (3, 40, some (ag [(Value.slice none 0 0), (int .i64 (0 : Int)), (bool false)])) := by kernel_rfl
theorem mixed : Try.prog.follows .mixedOrders = true := by kernel_rfl
def okS_api_Thing (x : S_api_Thing) : Prop := (okL (fun y => (Lit.int .i64 y).wf = true) x.Kids) ∧ ((Lit.int .i64 x.Colour).wf = true) ∧ (True)
set_option maxRecDepth 100000 in
theorem opnS_api_Thing {H : Type} : Opn H Try.prog 71 tyS_api_Thing okS_api_Thing := opn_struct (fun x => (x.Kids, (x.Colour, x.Free))) (fun y => S_api_Thing.mk y.1 y.2.1 y.2.2) (fun _ => rfl) Try.underlying71 sz71 (fields_cons sz30 (opn_list Try.underlying30 sz3 rfl (opn_int Try.underlying3)) (fields_cons sz3 (opn_int Try.underlying3) (fields_one sz4 (opn_bool Try.underlying4))))
def okS_api_Heap (x : S_api_Heap) : Prop := (okL (fun y => okS_api_Thing y) x.Things) ∧ (okL (fun y => (Lit.int .i64 y).wf = true) x.Roots) ∧ (True)
set_option maxRecDepth 100000 in
theorem opnS_api_Heap {H : Type} : Opn H Try.prog 38 tyS_api_Heap okS_api_Heap := opn_struct (fun x => (x.Things, (x.Roots, x.Busy))) (fun y => S_api_Heap.mk y.1 y.2.1 y.2.2) (fun _ => rfl) Try.underlying38 sz38 (fields_cons sz36 (opn_list Try.underlying36 sz71 rfl opnS_api_Thing) (fields_cons sz30 (opn_list Try.underlying30 sz3 rfl (opn_int Try.underlying3)) (fields_one sz4 (opn_bool Try.underlying4))))
def okS_api_Act (x : S_api_Act) : Prop := ((Lit.int .i64 x.Kind).wf = true) ∧ ((Lit.int .i64 x.From).wf = true) ∧ ((Lit.int .i64 x.To).wf = true)
set_option maxRecDepth 100000 in
theorem opnS_api_Act {H : Type} : Opn H Try.prog 40 tyS_api_Act okS_api_Act := opn_struct (fun x => (x.Kind, (x.From, x.To))) (fun y => S_api_Act.mk y.1 y.2.1 y.2.2) (fun _ => rfl) Try.underlying40 sz40 (fields_cons sz3 (opn_int Try.underlying3) (fields_cons sz3 (opn_int Try.underlying3) (fields_one sz3 (opn_int Try.underlying3))))
def f_lumref_heapPoints_L6 (a0 : S_api_Heap) (a1 : (List Int)) (kk3 : (Unit → Option Bool)) : Nat → Int → Option Bool
  | 0, _ => none
  | k5 + 1, l4i9 => (bif (decide (l4i9 < (a1.length : Int))) then (opt (at? a1 l4i9) fun (u8 : Int) => (lt (fun (j11b29 : Bool) => (bif j11b29 then (some false) else (f_lumref_heapPoints_L6 a0 a1 kk3 k5 (IntKind.i64.wrap (l4i9 + (1 : Int)))))) fun (kk12 : Bool → Option Bool) => (bif (decide (u8 < (0 : Int))) then (kk12 true) else (bif (decide (u8 ≥ (a0.Things.length : Int))) then (kk12 true) else (opt (at? a0.Things u8) fun (u16 : S_api_Thing) => (kk12 u16.Free)))))) else (kk3 ()))
def f_lumref_heapPoints (fu : Nat) (a0 : S_api_Heap) (a1 : (List Int)) : Option Bool := (lt (fun (_ : Unit) => (some true)) fun (kk3 : Unit → Option Bool) => (f_lumref_heapPoints_L6 a0 a1 kk3 fu (0 : Int)))
set_option maxHeartbeats 2000000 in
set_option maxRecDepth 100000 in
theorem f_lumref_heapPoints_ok (fu : Nat) (v0_0 : Value) (v0_1 : Value) (a0 : S_api_Heap) (v1_0 : Value) (a1 : (List Int)) {r : Bool} (h : f_lumref_heapPoints fu a0 a1 = some r) : FnOk Try.prog 33 [(ag [v0_0, v0_1, (bool a0.Busy)]), v1_0] [(fDat (tyList tyS_api_Thing) [v0_0] a0.Things), (fDat (tyList (tyInt .i64)) [v0_1] a0.Roots), (fDat (tyList (tyInt .i64)) [v1_0] a1)] [] (fun (i : Unit) => { val := (bool r) }) := by
 unfold f_lumref_heapPoints at h
 refine fn_enter Try.func33 rfl Try.ntmps33 rfl (fun w0 Z0 => ?_)
 refine aw_sr ?_
 refine al_box (vs := [v0_0, v0_1, (bool a0.Busy)]) rfl (cv_rfl rfl) rfl (fun g1 => ?_)
 refine an_ ?_
 obtain ⟨kk3, hkk3, h⟩ := lt_some h
 refine aw_seq_join (ι := Unit) (fun i => (memOf w0 Z0 [] [] [(fDat (tyList tyS_api_Thing) [v0_0] a0.Things), (fDat (tyList tq) [v0_1] a0.Roots), (fDat (tyList tq) [v1_0] a1)])) (fun i => (tab [])) (fun i => kk3 () = some r) ?_ ?_
 rintro _ h
 have h : kk3 () = some r := h
 rw [hkk3] at h
 dsimp only at h
 clear hkk3
 refine aw_show (m := (memOf w0 Z0 [] [] [(fDat (tyList tyS_api_Thing) [v0_0] a0.Things), (fDat (tyList tq) [v0_1] a0.Roots), (fDat (tyList tq) [v1_0] a1)])) (S := _) ?_
 refine aw_sr ?_
 refine an_ ?_
 refine aw_ret ?_
 cases h
 exact fr1_
 clear hkk3
 refine sm_ ?_
 refine al_val (ov_lenD 2 rfl rfl Try.underlying30 rfl) ?_
 refine mv_ ?_
 refine al_nt ?_
 refine aw_block ?_
 refine aw_state (aw_loop (ι := Int) (fun i => (memOf w0 Z0 [] [(oBox g1 38 [v0_0, v0_1, (bool a0.Busy)])] [(fDat (tyList tyS_api_Thing) [v0_0] a0.Things), (fDat (tyList tq) [v0_1] a0.Roots), (fDat (tyList tq) [v1_0] a1)])) (fun i => (tab [(2, (pq g1)), (7, v1_0), (8, (iq (a1.length : Int))), (9, (iq i))])) (fun q i => f_lumref_heapPoints_L6 a0 a1 kk3 q i = some r) ?_ fu (0 : Int) h) (nm_ [0] [0, 1, 2] (by decide) ⟨rfl, rfl, rfl, rfl, trivial⟩)
 clear h
 rintro k5 l4i9 h
 have h : f_lumref_heapPoints_L6 a0 a1 kk3 k5 l4i9 = some r := h
 obtain _ | k5 := k5
 rw [f_lumref_heapPoints_L6] at h; cases h
 rw [f_lumref_heapPoints_L6] at h
 refine aw_show (m := (memOf w0 Z0 [] [(oBox g1 38 [v0_0, v0_1, (bool a0.Busy)])] [(fDat (tyList tyS_api_Thing) [v0_0] a0.Things), (fDat (tyList tq) [v0_1] a0.Roots), (fDat (tyList tq) [v1_0] a1)])) (S := _) ?_
 refine aw_sr ?_
 refine im_ ?_
 refine aw_seq ?_
 refine aw_cond rfl (fun hb7 => ?_) (fun hb7 => ?_)
 replace h := bif_t hb7 h
 refine aw_skip ?_
 refine aq_then ?_
 refine aw_seq ?_
 refine aw_block ?_
 refine aw_sr ?_
 obtain ⟨u8, hu9, h⟩ := opt_some h
 refine al_idxD 2 hu9 rfl rfl rfl Try.underlying30 sz3 rfl (fun p10 => ?_)
 refine al_val (ov_loadP (ds := [(iq u8)]) 0 rfl (fun h => h) rfl Try.underlying3 sz3 rfl rfl rfl) ?_
 refine an_ ?_
 obtain ⟨kk12, hkk12, h⟩ := lt_some h
 refine aw_seq_join (ι := Bool) (fun i => (memOf w0 Z0 [] [(oBox g1 38 [v0_0, v0_1, (bool a0.Busy)])] [(fDat (tyList tyS_api_Thing) [v0_0] a0.Things), (fDat (tyList tq) [v0_1] a0.Roots), (fDat (tyList tq) [v1_0] a1), (fPtr tq p10 u8)])) (fun i => (tab [(2, (pq g1)), (7, v1_0), (8, (iq (a1.length : Int))), (9, (iq l4i9)), (29, (bool i))])) (fun i => kk12 i = some r) ?_ ?_
 rintro j11b29 h
 have h : kk12 j11b29 = some r := h
 rw [hkk12] at h
 dsimp only at h
 clear hkk12
 refine aw_show (m := (memOf w0 Z0 [] [(oBox g1 38 [v0_0, v0_1, (bool a0.Busy)])] [(fDat (tyList tyS_api_Thing) [v0_0] a0.Things), (fDat (tyList tq) [v0_1] a0.Roots), (fDat (tyList tq) [v1_0] a1), (fPtr tq p10 u8)])) (S := _) ?_
 refine aw_cond rfl (fun hb13 => ?_) (fun hb13 => ?_)
 replace h := bif_t hb13 h
 refine aw_sr ?_
 refine an_ ?_
 refine aw_ret ?_
 refine aq_block_ret ?_
 refine aq_then_ret ?_
 refine aq_then_ret ?_
 refine aq_block_ret ?_
 refine aq_then_ret ?_
 cases h
 exact fr1_
 replace h := bif_f hb13 h
 refine aw_skip ?_
 refine aq_block ?_
 refine aq_then ?_
 refine aw_region ?_
 refine in_ ?_
 refine mv_ ?_
 refine al_nil ?_
 exact aq_again k5 (wq (l4i9 + (1 : Int))) (Nat.lt_succ_self _) h (nm_ [0] [0, 1, 2] (by decide) ⟨rfl, rfl, rfl, rfl, trivial⟩)
 clear hkk12
 refine aw_region ?_
 refine mv_ ?_
 refine in_ ?_
 refine mv_ ?_
 refine al_caseB 15 rfl (fun hb14 => ?_) (fun hb14 => ?_)
 replace h := bif_t hb14 h
 iterate 5 refine al_skip ?_
 refine al_val (ov_pick_t rfl rfl rfl) ?_
 refine mv_ ?_
 iterate 6 refine al_skip ?_
 refine al_val (ov_pick_t rfl rfl rfl) ?_
 refine al_nil ?_
 exact aq_join true h (nm_ [0] [1, 2, 3, 0] (by decide) ⟨rfl, rfl, rfl, rfl, rfl, trivial⟩)
 replace h := bif_f hb14 h
 refine mv_ ?_
 refine al_val (ov_fieldA (p := 0) rfl Try.underlying38 rfl sz36 rfl rfl rfl) ?_
 refine al_val (ov_load (i := 0) (v := v0_0) rfl rfl Try.underlying36 sz36 rfl rfl rfl rfl) ?_
 refine al_val (ov_lenD 1 rfl rfl Try.underlying36 rfl) ?_
 refine in_ ?_
 refine al_val (ov_pick_f rfl rfl rfl) ?_
 refine mv_ ?_
 refine al_caseB 22 rfl (fun hb15 => ?_) (fun hb15 => ?_)
 replace h := bif_t hb15 h
 iterate 6 refine al_skip ?_
 refine al_val (ov_pick_t rfl rfl rfl) ?_
 refine al_nil ?_
 exact aq_join true h (nm_ [0] [1, 2, 3, 0] (by decide) ⟨rfl, rfl, rfl, rfl, rfl, trivial⟩)
 replace h := bif_f hb15 h
 refine al_val (ov_fieldA (p := 0) rfl Try.underlying38 rfl sz36 rfl rfl rfl) ?_
 refine al_val (ov_load (i := 0) (v := v0_0) rfl rfl Try.underlying36 sz36 rfl rfl rfl rfl) ?_
 refine mv_ ?_
 obtain ⟨u16, hu17, h⟩ := opt_some h
 refine al_idxD 1 hu17 rfl rfl rfl Try.underlying36 sz71 rfl (fun p18 => ?_)
 refine al_fieldD (pr := fun (y : S_api_Thing) => y.Free) 0 rfl subS_api_Thing_2 rfl Try.underlying71 rfl sz4 rfl rfl (fun p19 => ?_)
 refine al_val (ov_loadP (ds := [(bool u16.Free)]) 0 rfl (fun h => h) rfl Try.underlying4 sz4 rfl rfl rfl) ?_
 refine al_val (ov_pick_f rfl rfl rfl) ?_
 refine al_nil ?_
 exact aq_join u16.Free h (nm_ [0] [3, 4, 5, 2] (by decide) ⟨rfl, rfl, rfl, rfl, rfl, trivial⟩)
 replace h := bif_f hb7 h
 refine aw_exit ?_
 refine aq_then_exit ?_
 refine aq_then_exit ?_
 refine aq_block_exit ?_
 exact aq_join () h (nm_ [] [0, 1, 2] (by decide) trivial)
def f_lumref_Heap_L12 (a0 : S_api_Heap) (kk6 : (Unit → Option Int)) (fu : Nat) : Nat → Int → Option Int
  | 0, _ => none
  | k11 + 1, l10i18 => (bif (decide (l10i18 < (a0.Things.length : Int))) then (opt (at? a0.Things l10i18) fun (u14 : S_api_Thing) => (bif (decide ((u14.Kids.length : Int) > (64 : Int))) then (some (2 : Int)) else (lt (fun (j21b48 : Bool) => (bif j21b48 then (some (4 : Int)) else (opt (f_lumref_heapPoints fu a0 u14.Kids) fun (r25 : Bool) => (bif (!r25) then (some (1 : Int)) else (f_lumref_Heap_L12 a0 kk6 fu k11 (IntKind.i64.wrap (l10i18 + (1 : Int)))))))) fun (kk22 : Bool → Option Int) => (bif (decide (u14.Colour < (0 : Int))) then (kk22 true) else (bif (decide (u14.Colour > (2 : Int))) then (kk22 true) else (bif u14.Free then (bif ((u14.Kids.length : Int) != (0 : Int)) then (kk22 true) else (kk22 (u14.Colour != (0 : Int)))) else (kk22 false))))))) else (kk6 ()))
def f_lumref_Heap (fu : Nat) (a0 : S_api_Heap) : Option Int := (lt (fun (j2b14 : Bool) => (bif j2b14 then (some (2 : Int)) else (lt (fun (_ : Unit) => (opt (f_lumref_heapPoints fu a0 a0.Roots) fun (r8 : Bool) => (bif (!r8) then (some (1 : Int)) else (some (0 : Int))))) fun (kk6 : Unit → Option Int) => (f_lumref_Heap_L12 a0 kk6 fu fu (0 : Int))))) fun (kk3 : Bool → Option Int) => (bif (decide ((a0.Things.length : Int) > (40 : Int))) then (kk3 true) else (kk3 (decide ((a0.Roots.length : Int) > (64 : Int))))))
abbrev mm1 (w0 : World) (Z0 : Nat → Prop) (a0 : S_api_Heap) (g1 : Nat) (g19 : Nat) (p16 : Value) (s17 : Value) (u14 : S_api_Thing) (v0_0 : Value) (v0_1 : Value) : Mem := memOf w0 Z0 [] [(oBox g1 38 [v0_0, v0_1, (bool a0.Busy)]), (oBox g19 71 [s17, (int .i64 u14.Colour), (bool u14.Free)])] [(fDat (tyList tyS_api_Thing) [v0_0] a0.Things), (fDat (tyList (tyInt .i64)) [v0_1] a0.Roots), (fDat (tyList (tyInt .i64)) [s17] u14.Kids), (fDat tyS_api_Thing [s17, (int .i64 u14.Colour), (bool u14.Free)] u14), (fPtr tyS_api_Thing p16 u14)]
set_option maxRecDepth 100000 in
set_option maxHeartbeats 2000000 in
set_option maxHeartbeats 2000000 in
theorem f_lumref_Heap_ok (fu : Nat) (v0_0 : Value) (v0_1 : Value) (a0 : S_api_Heap) {r : Int} (h : f_lumref_Heap fu a0 = some r) : FnOk Try.prog 9 [(ag [v0_0, v0_1, (bool a0.Busy)])] [(fDat (tyList tyS_api_Thing) [v0_0] a0.Things), (fDat (tyList (tyInt .i64)) [v0_1] a0.Roots)] [] (fun (i : Unit) => { val := (int .i64 r) }) := by
 unfold f_lumref_Heap at h
 refine fn_enter Try.func9 rfl Try.ntmps9 rfl (fun w0 Z0 => ?_)
 refine aw_sr ?_
 refine al_box (vs := [v0_0, v0_1, (bool a0.Busy)]) rfl (cv_rfl rfl) rfl (fun g1 => ?_)
 refine an_ ?_
 refine aw_seq ?_
 obtain ⟨kk3, hkk3, h⟩ := lt_some h
 refine aw_seq_join (ι := Bool) (fun i => (memOf w0 Z0 [] [(oBox g1 38 [v0_0, v0_1, (bool a0.Busy)])] [(fDat (tyList tyS_api_Thing) [v0_0] a0.Things), (fDat (tyList tq) [v0_1] a0.Roots)])) (fun i => (tab [(1, (pq g1)), (14, (bool i))])) (fun i => kk3 i = some r) ?_ ?_
 rintro j2b14 h
 have h : kk3 j2b14 = some r := h
 rw [hkk3] at h
 dsimp only at h
 clear hkk3
 refine aw_show (m := (memOf w0 Z0 [] [(oBox g1 38 [v0_0, v0_1, (bool a0.Busy)])] [(fDat (tyList tyS_api_Thing) [v0_0] a0.Things), (fDat (tyList tq) [v0_1] a0.Roots)])) (S := _) ?_
 refine aw_cond rfl (fun hb4 => ?_) (fun hb4 => ?_)
 replace h := bif_t hb4 h
 refine aw_sr ?_
 refine an_ ?_
 refine aw_ret ?_
 refine aq_then_ret ?_
 cases h
 exact fr1_
 replace h := bif_f hb4 h
 refine aw_skip ?_
 refine aq_then ?_
 obtain ⟨kk6, hkk6, h⟩ := lt_some h
 refine aw_seq_join (ι := Unit) (fun i => (memOf w0 Z0 [] [(oBox g1 38 [v0_0, v0_1, (bool a0.Busy)])] [(fDat (tyList tyS_api_Thing) [v0_0] a0.Things), (fDat (tyList tq) [v0_1] a0.Roots)])) (fun i => (tab [(1, (pq g1))])) (fun i => kk6 () = some r) ?_ ?_
 rintro _ h
 have h : kk6 () = some r := h
 rw [hkk6] at h
 dsimp only at h
 clear hkk6
 refine aw_show (m := (memOf w0 Z0 [] [(oBox g1 38 [v0_0, v0_1, (bool a0.Busy)])] [(fDat (tyList tyS_api_Thing) [v0_0] a0.Things), (fDat (tyList tq) [v0_1] a0.Roots)])) (S := _) ?_
 refine aw_seq ?_
 refine aw_sr ?_
 refine al_val (ov_load (i := 0) (v := (ag [v0_0, v0_1, (bool a0.Busy)])) rfl rfl Try.underlying38 sz38 rfl rfl rfl rfl) ?_
 refine al_val (ov_fieldA (p := 1) rfl Try.underlying38 rfl sz30 rfl rfl rfl) ?_
 refine al_val (ov_load (i := 0) (v := v0_1) rfl rfl Try.underlying30 sz30 rfl rfl rfl rfl) ?_
 obtain ⟨r8, hc7, h⟩ := opt_some h
 refine al_call (vs := [(ag [v0_0, v0_1, (bool a0.Busy)]), v0_1]) (f_lumref_heapPoints_ok fu v0_0 v0_1 a0 v0_1 a0.Roots hc7) [] [] [0] (pre_fz 0 rfl (pre_fz 1 rfl (pre_fz 1 rfl pre_nil))) rfl (by simp) (by decide) (.inl rfl) rfl Try.func33 rfl rfl rfl (fun _ => ?_)
 refine al_val (ov_not rfl rfl) ?_
 refine al_nt ?_
 refine aw_cond rfl (fun hb9 => ?_) (fun hb9 => ?_)
 replace h := bif_t hb9 h
 refine aw_sr ?_
 refine an_ ?_
 refine aw_ret ?_
 refine aq_then_ret ?_
 cases h
 exact fr1_
 replace h := bif_f hb9 h
 refine aw_skip ?_
 refine aq_tr ?_
 refine an_ ?_
 refine aw_ret ?_
 cases h
 exact fr1_
 clear hkk6
 refine aw_sr ?_
 refine al_val (ov_fieldA (p := 0) rfl Try.underlying38 rfl sz36 rfl rfl rfl) ?_
 refine al_val (ov_load (i := 0) (v := v0_0) rfl rfl Try.underlying36 sz36 rfl rfl rfl rfl) ?_
 refine al_val (ov_lenD 0 rfl rfl Try.underlying36 rfl) ?_
 refine mv_ ?_
 refine al_nt ?_
 refine aw_block ?_
 refine aw_state (aw_loop (ι := Int) (fun i => (memOf w0 Z0 [] [(oBox g1 38 [v0_0, v0_1, (bool a0.Busy)])] [(fDat (tyList tyS_api_Thing) [v0_0] a0.Things), (fDat (tyList tq) [v0_1] a0.Roots)])) (fun i => (tab [(1, (pq g1)), (16, v0_0), (17, (iq (a0.Things.length : Int))), (18, (iq i))])) (fun q i => f_lumref_Heap_L12 a0 kk6 fu q i = some r) ?_ fu (0 : Int) h) (nm_ [0] [0, 1] (by decide) ⟨rfl, rfl, rfl, rfl, trivial⟩)
 clear h
 rintro k11 l10i18 h
 have h : f_lumref_Heap_L12 a0 kk6 fu k11 l10i18 = some r := h
 obtain _ | k11 := k11
 rw [f_lumref_Heap_L12] at h; cases h
 rw [f_lumref_Heap_L12] at h
 refine aw_show (m := (memOf w0 Z0 [] [(oBox g1 38 [v0_0, v0_1, (bool a0.Busy)])] [(fDat (tyList tyS_api_Thing) [v0_0] a0.Things), (fDat (tyList tq) [v0_1] a0.Roots)])) (S := _) ?_
 refine aw_sr ?_
 refine im_ ?_
 refine aw_seq ?_
 refine aw_cond rfl (fun hb13 => ?_) (fun hb13 => ?_)
 replace h := bif_t hb13 h
 refine aw_skip ?_
 refine aq_then ?_
 refine aw_seq ?_
 refine aw_block ?_
 refine aw_sr ?_
 obtain ⟨u14, hu15, h⟩ := opt_some h
 refine al_idxD 0 hu15 rfl rfl rfl Try.underlying36 sz71 rfl (fun p16 => ?_)
 refine al_loadPA 0 rfl rfl Try.underlying71 sz71 rfl rfl (fun cs18 => ?_)
 refine al_use (ι := Value) 0 rfl (fun j => cs18 = [j, (iq u14.Colour), (bool u14.Free)]) (fun j => [(fDat (tyList tq) [j] u14.Kids)]) encnS_api_Thing (fun s17 hq => ?_)
 subst hq
 refine al_alloc (zs := [nS, (iq (0 : Int)), (bool false)]) (zeroOf_to to71) rfl rfl (fun g19 => ?_)
 refine al_store (i := 0) (vs := [s17, (iq u14.Colour), (bool u14.Free)]) (cs' := [s17, (iq u14.Colour), (bool u14.Free)]) rfl rfl rfl sz71 (cv_rfl rfl) rfl (co_fz 0 rfl (co_val rfl (co_val rfl co_nil))) (Nat.le_of_ble_eq_true rfl) rfl rfl ?_
 refine al_nt ?_
 refine aw_seq ?_
 refine aw_sr ?_
 refine al_val (ov_fieldA (p := 0) rfl Try.underlying71 rfl sz30 rfl rfl rfl) ?_
 refine al_val (ov_load (i := 0) (v := s17) rfl rfl Try.underlying30 sz30 rfl rfl rfl rfl) ?_
 refine al_val (ov_lenD 0 rfl rfl Try.underlying30 rfl) ?_
 refine im_ ?_
 refine aw_cond rfl (fun hb20 => ?_) (fun hb20 => ?_)
 replace h := bif_t hb20 h
 refine aw_sr ?_
 refine an_ ?_
 refine aw_ret ?_
 refine aq_then_ret ?_
 refine aq_block_ret ?_
 refine aq_then_ret ?_
 refine aq_then_ret ?_
 refine aq_block_ret ?_
 refine aq_then_ret ?_
 cases h
 exact fr1_
 replace h := bif_f hb20 h
 refine aw_skip ?_
 refine aq_then ?_
 refine aw_seq ?_
 obtain ⟨kk22, hkk22, h⟩ := lt_some h
 refine aw_seq_join (ι := Bool) (fun i => (mm1 w0 Z0 a0 g1 g19 p16 s17 u14 v0_0 v0_1)) (fun i => (tab [(1, (pq g1)), (4, (pq g19)), (16, v0_0), (17, (iq (a0.Things.length : Int))), (18, (iq l10i18)), (48, (bool i))])) (fun i => kk22 i = some r) ?_ ?_
 rintro j21b48 h
 have h : kk22 j21b48 = some r := h
 rw [hkk22] at h
 dsimp only at h
 clear hkk22
 refine aw_show (m := (mm1 w0 Z0 a0 g1 g19 p16 s17 u14 v0_0 v0_1)) (S := _) ?_
 refine aw_cond rfl (fun hb23 => ?_) (fun hb23 => ?_)
 replace h := bif_t hb23 h
 refine aw_sr ?_
 refine an_ ?_
 refine aw_ret ?_
 refine aq_then_ret ?_
 refine aq_block_ret ?_
 refine aq_then_ret ?_
 refine aq_then_ret ?_
 refine aq_block_ret ?_
 refine aq_then_ret ?_
 cases h
 exact fr1_
 replace h := bif_f hb23 h
 refine aw_skip ?_
 refine aq_tr ?_
 refine al_val (ov_load (i := 0) (v := (ag [v0_0, v0_1, (bool a0.Busy)])) rfl rfl Try.underlying38 sz38 rfl rfl rfl rfl) ?_
 refine al_val (ov_fieldA (p := 0) rfl Try.underlying71 rfl sz30 rfl rfl rfl) ?_
 refine al_val (ov_load (i := 1) (v := s17) rfl rfl Try.underlying30 sz30 rfl rfl rfl rfl) ?_
 obtain ⟨r25, hc24, h⟩ := opt_some h
 refine al_call (vs := [(ag [v0_0, v0_1, (bool a0.Busy)]), s17]) (f_lumref_heapPoints_ok fu v0_0 v0_1 a0 s17 u14.Kids hc24) [] [] [0, 1] (pre_fz 0 rfl (pre_fz 1 rfl (pre_fz 2 rfl pre_nil))) rfl (by simp) (by decide) (.inl rfl) rfl Try.func33 rfl rfl rfl (fun _ => ?_)
 refine al_val (ov_not rfl rfl) ?_
 refine al_nt ?_
 refine aw_cond rfl (fun hb26 => ?_) (fun hb26 => ?_)
 replace h := bif_t hb26 h
 refine aw_sr ?_
 refine an_ ?_
 refine aw_ret ?_
 refine aq_block_ret ?_
 refine aq_then_ret ?_
 refine aq_then_ret ?_
 refine aq_block_ret ?_
 refine aq_then_ret ?_
 cases h
 exact fr1_
 replace h := bif_f hb26 h
 refine aw_skip ?_
 refine aq_block ?_
 refine aq_then ?_
 refine aw_region ?_
 refine in_ ?_
 refine mv_ ?_
 refine al_nil ?_
 exact aq_again k11 (wq (l10i18 + (1 : Int))) (Nat.lt_succ_self _) h (nm_ [0] [0, 1] (by decide) ⟨rfl, rfl, rfl, rfl, trivial⟩)
 clear hkk22
 refine aw_region ?_
 refine al_val (ov_fieldA (p := 1) rfl Try.underlying71 rfl sz3 rfl rfl rfl) ?_
 refine al_val (ov_load (i := 0) (v := (iq u14.Colour)) rfl rfl Try.underlying3 sz3 rfl rfl rfl rfl) ?_
 refine in_ ?_
 refine mv_ ?_
 refine al_caseB 29 rfl (fun hb27 => ?_) (fun hb27 => ?_)
 replace h := bif_t hb27 h
 iterate 3 refine al_skip ?_
 refine al_val (ov_pick_t rfl rfl rfl) ?_
 refine mv_ ?_
 iterate 13 refine al_skip ?_
 refine al_val (ov_pick_t rfl rfl rfl) ?_
 refine al_nil ?_
 exact aq_join true h (nm_ [1, 0] [3, 4, 0, 1, 2] (by decide) ⟨rfl, rfl, rfl, rfl, rfl, rfl, trivial⟩)
 replace h := bif_f hb27 h
 refine al_val (ov_fieldA (p := 1) rfl Try.underlying71 rfl sz3 rfl rfl rfl) ?_
 refine al_val (ov_load (i := 0) (v := (iq u14.Colour)) rfl rfl Try.underlying3 sz3 rfl rfl rfl rfl) ?_
 refine in_ ?_
 refine al_val (ov_pick_f rfl rfl rfl) ?_
 refine mv_ ?_
 refine al_caseB 34 rfl (fun hb28 => ?_) (fun hb28 => ?_)
 replace h := bif_t hb28 h
 iterate 13 refine al_skip ?_
 refine al_val (ov_pick_t rfl rfl rfl) ?_
 refine al_nil ?_
 exact aq_join true h (nm_ [1, 0] [3, 4, 0, 1, 2] (by decide) ⟨rfl, rfl, rfl, rfl, rfl, rfl, trivial⟩)
 replace h := bif_f hb28 h
 refine al_val (ov_fieldA (p := 2) rfl Try.underlying71 rfl sz4 rfl rfl rfl) ?_
 refine al_val (ov_load (i := 0) (v := (bool u14.Free)) rfl rfl Try.underlying4 sz4 rfl rfl rfl rfl) ?_
 refine mv_ ?_
 refine al_caseB 37 rfl (fun hb29 => ?_) (fun hb29 => ?_)
 replace h := bif_t hb29 h
 refine al_val (ov_fieldA (p := 0) rfl Try.underlying71 rfl sz30 rfl rfl rfl) ?_
 refine al_val (ov_load (i := 0) (v := s17) rfl rfl Try.underlying30 sz30 rfl rfl rfl rfl) ?_
 refine al_val (ov_lenD 0 rfl rfl Try.underlying30 rfl) ?_
 refine in_ ?_
 refine mv_ ?_
 refine al_caseB 42 rfl (fun hb30 => ?_) (fun hb30 => ?_)
 replace h := bif_t hb30 h
 iterate 3 refine al_skip ?_
 refine al_val (ov_pick_t rfl rfl rfl) ?_
 refine al_val (ov_pick_t rfl rfl rfl) ?_
 refine al_val (ov_pick_f rfl rfl rfl) ?_
 refine al_nil ?_
 exact aq_join true h (nm_ [1, 0] [3, 4, 0, 1, 2] (by decide) ⟨rfl, rfl, rfl, rfl, rfl, rfl, trivial⟩)
 replace h := bif_f hb30 h
 refine al_val (ov_fieldA (p := 1) rfl Try.underlying71 rfl sz3 rfl rfl rfl) ?_
 refine al_val (ov_load (i := 0) (v := (iq u14.Colour)) rfl rfl Try.underlying3 sz3 rfl rfl rfl rfl) ?_
 refine in_ ?_
 refine al_val (ov_pick_f rfl rfl rfl) ?_
 refine al_val (ov_pick_t rfl rfl rfl) ?_
 refine al_val (ov_pick_f rfl rfl rfl) ?_
 refine al_nil ?_
 exact aq_join (u14.Colour != (0 : Int)) h (nm_ [1, 0] [3, 4, 0, 1, 2] (by decide) ⟨rfl, rfl, rfl, rfl, rfl, rfl, trivial⟩)
 replace h := bif_f hb29 h
 iterate 9 refine al_skip ?_
 refine al_val (ov_pick_f rfl rfl rfl) ?_
 refine al_val (ov_pick_f rfl rfl rfl) ?_
 refine al_nil ?_
 exact aq_join false h (nm_ [1, 0] [3, 4, 0, 1, 2] (by decide) ⟨rfl, rfl, rfl, rfl, rfl, rfl, trivial⟩)
 replace h := bif_f hb13 h
 refine aw_exit ?_
 refine aq_then_exit ?_
 refine aq_then_exit ?_
 refine aq_block_exit ?_
 exact aq_join () h (nm_ [0] [0, 1] (by decide) ⟨rfl, trivial⟩)
 clear hkk3
 refine aw_region ?_
 refine al_val (ov_fieldA (p := 0) rfl Try.underlying38 rfl sz36 rfl rfl rfl) ?_
 refine al_val (ov_load (i := 0) (v := v0_0) rfl rfl Try.underlying36 sz36 rfl rfl rfl rfl) ?_
 refine al_val (ov_lenD 0 rfl rfl Try.underlying36 rfl) ?_
 refine in_ ?_
 refine mv_ ?_
 refine al_caseB 9 rfl (fun hb31 => ?_) (fun hb31 => ?_)
 replace h := bif_t hb31 h
 iterate 4 refine al_skip ?_
 refine al_val (ov_pick_t rfl rfl rfl) ?_
 refine al_nil ?_
 exact aq_join true h (nm_ [0] [0, 1] (by decide) ⟨rfl, rfl, trivial⟩)
 replace h := bif_f hb31 h
 refine al_val (ov_fieldA (p := 1) rfl Try.underlying38 rfl sz30 rfl rfl rfl) ?_
 refine al_val (ov_load (i := 0) (v := v0_1) rfl rfl Try.underlying30 sz30 rfl rfl rfl rfl) ?_
 refine al_val (ov_lenD 1 rfl rfl Try.underlying30 rfl) ?_
 refine in_ ?_
 refine al_val (ov_pick_f rfl rfl rfl) ?_
 refine al_nil ?_
 exact aq_join (decide ((a0.Roots.length : Int) > (64 : Int))) h (nm_ [0] [0, 1] (by decide) ⟨rfl, rfl, trivial⟩)
def f_sweep_there (fu : Nat) (a0 : S_api_Heap) (a1 : Int) : Option Bool := (lt (fun (j2b4 : Bool) => (some j2b4)) fun (kk3 : Bool → Option Bool) => (bif (decide (a1 ≥ (0 : Int))) then (bif (decide (a1 < (a0.Things.length : Int))) then (opt (at? a0.Things a1) fun (u6 : S_api_Thing) => (kk3 (!u6.Free))) else (kk3 false)) else (kk3 false)))
set_option maxHeartbeats 2000000 in
set_option maxRecDepth 100000 in
theorem f_sweep_there_ok (fu : Nat) (v0_0 : Value) (v0_1 : Value) (a0 : S_api_Heap) (a1 : Int) {r : Bool} (h : f_sweep_there fu a0 a1 = some r) : FnOk Try.prog 47 [(ag [v0_0, v0_1, (bool a0.Busy)]), (int .i64 a1)] [(fDat (tyList tyS_api_Thing) [v0_0] a0.Things), (fDat (tyList (tyInt .i64)) [v0_1] a0.Roots)] [] (fun (i : Unit) => { val := (bool r) }) := by
 unfold f_sweep_there at h
 refine fn_enter Try.func47 rfl Try.ntmps47 rfl (fun w0 Z0 => ?_)
 refine aw_sr ?_
 refine al_box (vs := [v0_0, v0_1, (bool a0.Busy)]) rfl (cv_rfl rfl) rfl (fun g1 => ?_)
 refine an_ ?_
 obtain ⟨kk3, hkk3, h⟩ := lt_some h
 refine aw_seq_join (ι := Bool) (fun i => (memOf w0 Z0 [] [] [(fDat (tyList tyS_api_Thing) [v0_0] a0.Things), (fDat (tyList tq) [v0_1] a0.Roots)])) (fun i => (tab [(4, (bool i))])) (fun i => kk3 i = some r) ?_ ?_
 rintro j2b4 h
 have h : kk3 j2b4 = some r := h
 rw [hkk3] at h
 dsimp only at h
 clear hkk3
 refine aw_show (m := (memOf w0 Z0 [] [] [(fDat (tyList tyS_api_Thing) [v0_0] a0.Things), (fDat (tyList tq) [v0_1] a0.Roots)])) (S := _) ?_
 refine aw_ret ?_
 cases h
 exact fr1_
 clear hkk3
 refine aw_region ?_
 refine mv_ ?_
 refine in_ ?_
 refine mv_ ?_
 refine al_caseB 7 rfl (fun hb4 => ?_) (fun hb4 => ?_)
 replace h := bif_t hb4 h
 refine mv_ ?_
 refine al_val (ov_fieldA (p := 0) rfl Try.underlying38 rfl sz36 rfl rfl rfl) ?_
 refine al_val (ov_load (i := 0) (v := v0_0) rfl rfl Try.underlying36 sz36 rfl rfl rfl rfl) ?_
 refine al_val (ov_lenD 0 rfl rfl Try.underlying36 rfl) ?_
 refine in_ ?_
 refine al_val (ov_pick_t rfl rfl rfl) ?_
 refine mv_ ?_
 refine al_caseB 14 rfl (fun hb5 => ?_) (fun hb5 => ?_)
 replace h := bif_t hb5 h
 refine al_val (ov_fieldA (p := 0) rfl Try.underlying38 rfl sz36 rfl rfl rfl) ?_
 refine al_val (ov_load (i := 0) (v := v0_0) rfl rfl Try.underlying36 sz36 rfl rfl rfl rfl) ?_
 refine mv_ ?_
 obtain ⟨u6, hu7, h⟩ := opt_some h
 refine al_idxD 0 hu7 rfl rfl rfl Try.underlying36 sz71 rfl (fun p8 => ?_)
 refine al_fieldD (pr := fun (y : S_api_Thing) => y.Free) 0 rfl subS_api_Thing_2 rfl Try.underlying71 rfl sz4 rfl rfl (fun p9 => ?_)
 refine al_val (ov_loadP (ds := [(bool u6.Free)]) 0 rfl (fun h => h) rfl Try.underlying4 sz4 rfl rfl rfl) ?_
 refine al_val (ov_not rfl rfl) ?_
 refine al_val (ov_pick_t rfl rfl rfl) ?_
 refine as_ ?_
 refine al_nil ?_
 exact aq_join (!u6.Free) h (nm_ [] [2, 3] (by decide) ⟨rfl, trivial⟩)
 replace h := bif_f hb5 h
 iterate 7 refine al_skip ?_
 refine al_val (ov_pick_f rfl rfl rfl) ?_
 refine as_ ?_
 refine al_nil ?_
 exact aq_join false h (nm_ [] [0, 1] (by decide) ⟨rfl, trivial⟩)
 replace h := bif_f hb4 h
 iterate 5 refine al_skip ?_
 refine al_val (ov_pick_f rfl rfl rfl) ?_
 refine mv_ ?_
 iterate 7 refine al_skip ?_
 refine al_val (ov_pick_f rfl rfl rfl) ?_
 refine as_ ?_
 refine al_nil ?_
 exact aq_join false h (nm_ [] [0, 1] (by decide) ⟨rfl, trivial⟩)
def f_sweep_check_1 (fu : Nat) (a0 : Int) (a1 : S_api_Heap) : Option Bool := (opt (f_sweep_there fu a1 a0) fun (r5 : Bool) => (some (!r5)))
set_option maxRecDepth 100000 in
theorem f_sweep_check_1_ok (fu : Nat) (a0 : Int) (c1 : Value) (a1 : S_api_Heap) {r : Bool} (h : f_sweep_check_1 fu a0 a1 = some r) : FnOk Try.prog 73 [(int .i64 a0), c1] [(fPtr tyS_api_Heap c1 a1)] [] (fun (i : Unit) => { val := (bool r) }) := by
 unfold f_sweep_check_1 at h
 refine fn_enter Try.func73 rfl Try.ntmps73 rfl (fun w0 Z0 => ?_)
 refine aw_sr ?_
 refine an_ ?_
 refine aw_sr ?_
 refine al_loadPA 0 rfl rfl Try.underlying38 sz38 rfl rfl (fun cs3 => ?_)
 refine al_use (ι := Value × Value) 0 rfl (fun j => cs3 = [j.1, j.2, (bool a1.Busy)]) (fun j => [(fDat (tyList tyS_api_Thing) [j.1] a1.Things), (fDat (tyList tq) [j.2] a1.Roots)]) encnS_api_Heap (fun (s1, s2) hq => ?_)
 subst hq
 refine mv_ ?_
 obtain ⟨r5, hc4, h⟩ := opt_some h
 refine al_call (vs := [(ag [s1, s2, (bool a1.Busy)]), (iq a0)]) (f_sweep_there_ok fu s1 s2 a1 a0 hc4) [] [] [] (pre_fz 0 rfl (pre_fz 1 rfl pre_nil)) rfl (by simp) (by decide) (.inl rfl) rfl Try.func47 rfl rfl rfl (fun _ => ?_)
 refine al_val (ov_not rfl rfl) ?_
 refine an_ ?_
 refine aw_ret ?_
 cases h
 exact fr1_
 -- STUCK slices.IndexFunc[[]int,int]: lty ['func', [3], [4], False]
 -- STUCK slices.ContainsFunc[[]int,int]: lty ['func', [3], [4], False]
def f_slices_IndexFunc___int_int__F73_L5 (a0 : (List Int)) (a1_0 : S_api_Heap) (kk2 : (Unit → Option Int)) (fu : Nat) : Nat → Int → Option Int
  | 0, _ => none
  | k4 + 1, l3i8 => (bif (decide (l3i8 < (a0.length : Int))) then (opt (at? a0 l3i8) fun (u7 : Int) => (opt (f_sweep_check_1 fu u7 a1_0) fun (r11 : Bool) => (bif r11 then (some l3i8) else (f_slices_IndexFunc___int_int__F73_L5 a0 a1_0 kk2 fu k4 (IntKind.i64.wrap (l3i8 + (1 : Int))))))) else (kk2 ()))
def f_slices_IndexFunc___int_int__F73 (fu : Nat) (a0 : (List Int)) (a1_0 : S_api_Heap) : Option Int := (lt (fun (_ : Unit) => (some (-1 : Int))) fun (kk2 : Unit → Option Int) => (f_slices_IndexFunc___int_int__F73_L5 a0 a1_0 kk2 fu fu (0 : Int)))
set_option maxHeartbeats 2000000 in
set_option maxRecDepth 100000 in
theorem f_slices_IndexFunc___int_int__F73_ok (fu : Nat) (v0_0 : Value) (a0 : (List Int)) (c1_0 : Value) (a1_0 : S_api_Heap) {r : Int} (h : f_slices_IndexFunc___int_int__F73 fu a0 a1_0 = some r) : FnOk Try.prog 74 [v0_0, (Value.func (.func 73) #[] #[c1_0])] [(fDat (tyList (tyInt .i64)) [v0_0] a0), (fPtr tyS_api_Heap c1_0 a1_0)] [] (fun (i : Unit) => { val := (int .i64 r) }) := by
 unfold f_slices_IndexFunc___int_int__F73 at h
 refine fn_enter Try.func74 rfl Try.ntmps74 rfl (fun w0 Z0 => ?_)
 refine aw_sr ?_
 refine an_ ?_
 obtain ⟨kk2, hkk2, h⟩ := lt_some h
 refine aw_seq_join (ι := Unit) (fun i => (memOf w0 Z0 [] [] [(fDat (tyList tq) [v0_0] a0), (fPtr tyS_api_Heap c1_0 a1_0)])) (fun i => (tab [])) (fun i => kk2 () = some r) ?_ ?_
 rintro _ h
 have h : kk2 () = some r := h
 rw [hkk2] at h
 dsimp only at h
 clear hkk2
 refine aw_show (m := (memOf w0 Z0 [] [] [(fDat (tyList tq) [v0_0] a0), (fPtr tyS_api_Heap c1_0 a1_0)])) (S := _) ?_
 refine aw_sr ?_
 refine an_ ?_
 refine aw_ret ?_
 cases h
 exact fr1_
 clear hkk2
 refine sm_ ?_
 refine al_val (ov_lenD 0 rfl rfl Try.underlying30 rfl) ?_
 refine mv_ ?_
 refine al_nt ?_
 refine aw_block ?_
 refine aw_state (aw_loop (ι := Int) (fun i => (memOf w0 Z0 [] [] [(fDat (tyList tq) [v0_0] a0), (fPtr tyS_api_Heap c1_0 a1_0)])) (fun i => (tab [(0, v0_0), (1, (Value.func (.func 73) #[] #[c1_0])), (7, (iq (a0.length : Int))), (8, (iq i))])) (fun q i => f_slices_IndexFunc___int_int__F73_L5 a0 a1_0 kk2 fu q i = some r) ?_ fu (0 : Int) h) (nm_ [] [0, 1] (by decide) ⟨rfl, rfl, rfl, rfl, trivial⟩)
 clear h
 rintro k4 l3i8 h
 have h : f_slices_IndexFunc___int_int__F73_L5 a0 a1_0 kk2 fu k4 l3i8 = some r := h
 obtain _ | k4 := k4
 rw [f_slices_IndexFunc___int_int__F73_L5] at h; cases h
 rw [f_slices_IndexFunc___int_int__F73_L5] at h
 refine aw_show (m := (memOf w0 Z0 [] [] [(fDat (tyList tq) [v0_0] a0), (fPtr tyS_api_Heap c1_0 a1_0)])) (S := _) ?_
 refine aw_sr ?_
 refine im_ ?_
 refine aw_seq ?_
 refine aw_cond rfl (fun hb6 => ?_) (fun hb6 => ?_)
 replace h := bif_t hb6 h
 refine aw_skip ?_
 refine aq_then ?_
 refine aw_seq ?_
 refine aw_block ?_
 refine sm_ ?_
 refine an_ ?_
 refine sm_ ?_
 refine mv_ ?_
 refine mv_ ?_
 obtain ⟨u7, hu8, h⟩ := opt_some h
 refine al_idxD 0 hu8 rfl rfl rfl Try.underlying30 sz3 rfl (fun p9 => ?_)
 refine al_val (ov_loadP (ds := [(iq u7)]) 0 rfl (fun h => h) rfl Try.underlying3 sz3 rfl rfl rfl) ?_
 obtain ⟨r11, hc10, h⟩ := opt_some h
 refine al_callF (vs := [(iq u7)]) (caps := [c1_0]) (f_sweep_check_1_ok fu u7 c1_0 a1_0 hc10) rfl [] [] [] (pre_fz 2 rfl pre_nil) rfl (by simp) (by decide) (.inl rfl) rfl rfl Try.func73 rfl rfl rfl (fun _ => ?_)
 refine al_nt ?_
 refine aw_cond rfl (fun hb12 => ?_) (fun hb12 => ?_)
 replace h := bif_t hb12 h
 refine sm_ ?_
 refine an_ ?_
 refine aw_ret ?_
 refine aq_block_ret ?_
 refine aq_then_ret ?_
 refine aq_then_ret ?_
 refine aq_block_ret ?_
 refine aq_then_ret ?_
 cases h
 exact fr1_
 replace h := bif_f hb12 h
 refine aw_skip ?_
 refine aq_block ?_
 refine aq_then ?_
 refine aw_region ?_
 refine in_ ?_
 refine mv_ ?_
 refine al_nil ?_
 exact aq_again k4 (wq (l3i8 + (1 : Int))) (Nat.lt_succ_self _) h (nm_ [] [1, 2] (by decide) ⟨rfl, rfl, rfl, rfl, trivial⟩)
 replace h := bif_f hb6 h
 refine aw_exit ?_
 refine aq_then_exit ?_
 refine aq_then_exit ?_
 refine aq_block_exit ?_
 exact aq_join () h (nm_ [] [0, 1] (by decide) trivial)
def f_slices_ContainsFunc___int_int__F73 (fu : Nat) (a0 : (List Int)) (a1_0 : S_api_Heap) : Option Bool := (opt (f_slices_IndexFunc___int_int__F73 fu a0 a1_0) fun (r2 : Int) => (some (decide (r2 ≥ (0 : Int)))))
set_option maxRecDepth 100000 in
theorem f_slices_ContainsFunc___int_int__F73_ok (fu : Nat) (v0_0 : Value) (a0 : (List Int)) (c1_0 : Value) (a1_0 : S_api_Heap) {r : Bool} (h : f_slices_ContainsFunc___int_int__F73 fu a0 a1_0 = some r) : FnOk Try.prog 45 [v0_0, (Value.func (.func 73) #[] #[c1_0])] [(fDat (tyList (tyInt .i64)) [v0_0] a0), (fPtr tyS_api_Heap c1_0 a1_0)] [] (fun (i : Unit) => { val := (bool r) }) := by
 unfold f_slices_ContainsFunc___int_int__F73 at h
 refine fn_enter Try.func45 rfl Try.ntmps45 rfl (fun w0 Z0 => ?_)
 refine aw_sr ?_
 refine an_ ?_
 refine sm_ ?_
 refine mv_ ?_
 obtain ⟨r2, hc1, h⟩ := opt_some h
 refine al_call (vs := [v0_0, (Value.func (.func 73) #[] #[c1_0])]) (f_slices_IndexFunc___int_int__F73_ok fu v0_0 a0 c1_0 a1_0 hc1) [] [] [] (pre_fz 0 rfl (pre_fz 1 rfl pre_nil)) rfl (by simp) (by decide) (.inl rfl) rfl Try.func74 rfl rfl rfl (fun _ => ?_)
 refine in_ ?_
 refine an_ ?_
 refine aw_ret ?_
 cases h
 exact fr1_
def f_sweep_check (fu : Nat) (a0 : S_api_Heap) (a1 : S_api_Thing) : Option Int := (bif (decide ((a1.Kids.length : Int) > (64 : Int))) then (some (2 : Int)) else (lt (fun (j4b10 : Bool) => (bif j4b10 then (some (4 : Int)) else (opt (f_slices_ContainsFunc___int_int__F73 fu a1.Kids a0) fun (r8 : Bool) => (bif r8 then (some (1 : Int)) else (some (0 : Int)))))) fun (kk5 : Bool → Option Int) => (bif (decide (a1.Colour < (0 : Int))) then (kk5 true) else (bif (decide (a1.Colour > (2 : Int))) then (kk5 true) else (bif a1.Free then (bif (decide ((a1.Kids.length : Int) > (0 : Int))) then (kk5 true) else (kk5 (a1.Colour != (0 : Int)))) else (kk5 false))))))
abbrev mm2 (w0 : World) (Z0 : Nat → Prop) (a0 : S_api_Heap) (a1 : S_api_Thing) (g1 : Nat) (g2 : Nat) (v0_0 : Value) (v0_1 : Value) (v1_0 : Value) : Mem := memOf w0 Z0 [] [(oBox g1 38 [v0_0, v0_1, (bool a0.Busy)]), (oBox g2 71 [v1_0, (int .i64 a1.Colour), (bool a1.Free)])] [(fDat (tyList tyS_api_Thing) [v0_0] a0.Things), (fDat (tyList (tyInt .i64)) [v0_1] a0.Roots), (fDat (tyList (tyInt .i64)) [v1_0] a1.Kids)]
set_option maxHeartbeats 2000000 in
set_option maxRecDepth 100000 in
theorem f_sweep_check_ok (fu : Nat) (v0_0 : Value) (v0_1 : Value) (a0 : S_api_Heap) (v1_0 : Value) (a1 : S_api_Thing) {r : Int} (h : f_sweep_check fu a0 a1 = some r) : FnOk Try.prog 44 [(ag [v0_0, v0_1, (bool a0.Busy)]), (ag [v1_0, (int .i64 a1.Colour), (bool a1.Free)])] [(fDat (tyList tyS_api_Thing) [v0_0] a0.Things), (fDat (tyList (tyInt .i64)) [v0_1] a0.Roots), (fDat (tyList (tyInt .i64)) [v1_0] a1.Kids)] [] (fun (i : Unit) => { val := (int .i64 r) }) := by
 unfold f_sweep_check at h
 refine fn_enter Try.func44 rfl Try.ntmps44 rfl (fun w0 Z0 => ?_)
 refine aw_sr ?_
 refine al_box (vs := [v0_0, v0_1, (bool a0.Busy)]) rfl (cv_rfl rfl) rfl (fun g1 => ?_)
 refine al_box (vs := [v1_0, (iq a1.Colour), (bool a1.Free)]) rfl (cv_rfl rfl) rfl (fun g2 => ?_)
 refine an_ ?_
 refine aw_seq ?_
 refine aw_block ?_
 refine aw_sr ?_
 refine al_val (ov_fieldA (p := 0) rfl Try.underlying71 rfl sz30 rfl rfl rfl) ?_
 refine al_val (ov_load (i := 0) (v := v1_0) rfl rfl Try.underlying30 sz30 rfl rfl rfl rfl) ?_
 refine al_val (ov_lenD 2 rfl rfl Try.underlying30 rfl) ?_
 refine in_ ?_
 refine an_ ?_
 refine aw_cond rfl (fun hb3 => ?_) (fun hb3 => ?_)
 replace h := bif_t hb3 h
 refine aw_sr ?_
 refine an_ ?_
 refine aw_ret ?_
 refine aq_block_ret ?_
 refine aq_then_ret ?_
 cases h
 exact fr1_
 replace h := bif_f hb3 h
 obtain ⟨kk5, hkk5, h⟩ := lt_some h
 refine aw_seq_join (ι := Bool) (fun i => (mm2 w0 Z0 a0 a1 g1 g2 v0_0 v0_1 v1_0)) (fun i => (tab [(2, (pq g1)), (3, (pq g2)), (10, (bool i))])) (fun i => kk5 i = some r) ?_ ?_
 rintro j4b10 h
 have h : kk5 j4b10 = some r := h
 rw [hkk5] at h
 dsimp only at h
 clear hkk5
 refine aw_show (m := (mm2 w0 Z0 a0 a1 g1 g2 v0_0 v0_1 v1_0)) (S := _) ?_
 refine aw_cond rfl (fun hb6 => ?_) (fun hb6 => ?_)
 replace h := bif_t hb6 h
 refine aw_sr ?_
 refine an_ ?_
 refine aw_ret ?_
 refine aq_block_ret ?_
 refine aq_then_ret ?_
 cases h
 exact fr1_
 replace h := bif_f hb6 h
 refine aw_seq ?_
 refine aw_freezeBN (τ := tyS_api_Heap) 0 (a0) rfl rfl (fun hm => mknS_api_Heap (x := a0) rfl (fz_at (i := 0) hm rfl) (fz_at (i := 1) hm rfl)) ?_
 refine aw_region ?_
 refine al_val (ov_fieldA (p := 0) rfl Try.underlying71 rfl sz30 rfl rfl rfl) ?_
 refine al_val (ov_load (i := 0) (v := v1_0) rfl rfl Try.underlying30 sz30 rfl rfl rfl rfl) ?_
 refine al_val (ov_makeFunc2 (vs := [(pq g1)]) rfl rfl) ?_
 obtain ⟨r8, hc7, h⟩ := opt_some h
 refine al_call (vs := [v1_0, (Value.func (.func 73) #[] #[(pq g1)])]) (f_slices_ContainsFunc___int_int__F73_ok fu v1_0 a1.Kids (pq g1) a0 hc7) [] [] [0] (pre_fz 3 rfl (pre_fz 0 rfl pre_nil)) rfl (by simp) (by decide) (.inl rfl) rfl Try.func45 rfl rfl rfl (fun _ => ?_)
 refine an_ ?_
 refine aw_cond rfl (fun hb9 => ?_) (fun hb9 => ?_)
 replace h := bif_t hb9 h
 refine aw_sr ?_
 refine an_ ?_
 refine aw_ret ?_
 refine aq_block_ret ?_
 refine aq_then_ret ?_
 cases h
 exact fr1_
 replace h := bif_f hb9 h
 refine aw_skip ?_
 refine aq_block ?_
 refine aq_tr ?_
 refine an_ ?_
 refine aw_ret ?_
 cases h
 exact fr1_
 clear hkk5
 refine aw_region ?_
 refine al_val (ov_fieldA (p := 1) rfl Try.underlying71 rfl sz3 rfl rfl rfl) ?_
 refine al_val (ov_load (i := 0) (v := (iq a1.Colour)) rfl rfl Try.underlying3 sz3 rfl rfl rfl rfl) ?_
 refine in_ ?_
 refine mv_ ?_
 refine al_caseB 14 rfl (fun hb10 => ?_) (fun hb10 => ?_)
 replace h := bif_t hb10 h
 iterate 3 refine al_skip ?_
 refine al_val (ov_pick_t rfl rfl rfl) ?_
 refine mv_ ?_
 iterate 13 refine al_skip ?_
 refine al_val (ov_pick_t rfl rfl rfl) ?_
 refine as_ ?_
 refine al_nil ?_
 exact aq_join true h (nm_ [1, 0] [0, 1, 2] (by decide) ⟨rfl, rfl, rfl, trivial⟩)
 replace h := bif_f hb10 h
 refine al_val (ov_fieldA (p := 1) rfl Try.underlying71 rfl sz3 rfl rfl rfl) ?_
 refine al_val (ov_load (i := 0) (v := (iq a1.Colour)) rfl rfl Try.underlying3 sz3 rfl rfl rfl rfl) ?_
 refine in_ ?_
 refine al_val (ov_pick_f rfl rfl rfl) ?_
 refine mv_ ?_
 refine al_caseB 19 rfl (fun hb11 => ?_) (fun hb11 => ?_)
 replace h := bif_t hb11 h
 iterate 13 refine al_skip ?_
 refine al_val (ov_pick_t rfl rfl rfl) ?_
 refine as_ ?_
 refine al_nil ?_
 exact aq_join true h (nm_ [1, 0] [0, 1, 2] (by decide) ⟨rfl, rfl, rfl, trivial⟩)
 replace h := bif_f hb11 h
 refine al_val (ov_fieldA (p := 2) rfl Try.underlying71 rfl sz4 rfl rfl rfl) ?_
 refine al_val (ov_load (i := 0) (v := (bool a1.Free)) rfl rfl Try.underlying4 sz4 rfl rfl rfl rfl) ?_
 refine mv_ ?_
 refine al_caseB 22 rfl (fun hb12 => ?_) (fun hb12 => ?_)
 replace h := bif_t hb12 h
 refine al_val (ov_fieldA (p := 0) rfl Try.underlying71 rfl sz30 rfl rfl rfl) ?_
 refine al_val (ov_load (i := 0) (v := v1_0) rfl rfl Try.underlying30 sz30 rfl rfl rfl rfl) ?_
 refine al_val (ov_lenD 2 rfl rfl Try.underlying30 rfl) ?_
 refine in_ ?_
 refine mv_ ?_
 refine al_caseB 27 rfl (fun hb13 => ?_) (fun hb13 => ?_)
 replace h := bif_t hb13 h
 iterate 3 refine al_skip ?_
 refine al_val (ov_pick_t rfl rfl rfl) ?_
 refine al_val (ov_pick_t rfl rfl rfl) ?_
 refine al_val (ov_pick_f rfl rfl rfl) ?_
 refine as_ ?_
 refine al_nil ?_
 exact aq_join true h (nm_ [1, 0] [0, 1, 2] (by decide) ⟨rfl, rfl, rfl, trivial⟩)
 replace h := bif_f hb13 h
 refine al_val (ov_fieldA (p := 1) rfl Try.underlying71 rfl sz3 rfl rfl rfl) ?_
 refine al_val (ov_load (i := 0) (v := (iq a1.Colour)) rfl rfl Try.underlying3 sz3 rfl rfl rfl rfl) ?_
 refine in_ ?_
 refine al_val (ov_pick_f rfl rfl rfl) ?_
 refine al_val (ov_pick_t rfl rfl rfl) ?_
 refine al_val (ov_pick_f rfl rfl rfl) ?_
 refine as_ ?_
 refine al_nil ?_
 exact aq_join (a1.Colour != (0 : Int)) h (nm_ [1, 0] [0, 1, 2] (by decide) ⟨rfl, rfl, rfl, trivial⟩)
 replace h := bif_f hb12 h
 iterate 9 refine al_skip ?_
 refine al_val (ov_pick_f rfl rfl rfl) ?_
 refine al_val (ov_pick_f rfl rfl rfl) ?_
 refine as_ ?_
 refine al_nil ?_
 exact aq_join false h (nm_ [1, 0] [0, 1, 2] (by decide) ⟨rfl, rfl, rfl, trivial⟩)
def f_sweep_Check_1 (fu : Nat) (a0 : Int) (a1 : S_api_Heap) : Option Bool := (opt (f_sweep_there fu a1 a0) fun (r5 : Bool) => (some (!r5)))
set_option maxRecDepth 100000 in
theorem f_sweep_Check_1_ok (fu : Nat) (a0 : Int) (c1 : Value) (a1 : S_api_Heap) {r : Bool} (h : f_sweep_Check_1 fu a0 a1 = some r) : FnOk Try.prog 46 [(int .i64 a0), c1] [(fPtr tyS_api_Heap c1 a1)] [] (fun (i : Unit) => { val := (bool r) }) := by
 unfold f_sweep_Check_1 at h
 refine fn_enter Try.func46 rfl Try.ntmps46 rfl (fun w0 Z0 => ?_)
 refine aw_sr ?_
 refine an_ ?_
 refine aw_sr ?_
 refine al_loadPA 0 rfl rfl Try.underlying38 sz38 rfl rfl (fun cs3 => ?_)
 refine al_use (ι := Value × Value) 0 rfl (fun j => cs3 = [j.1, j.2, (bool a1.Busy)]) (fun j => [(fDat (tyList tyS_api_Thing) [j.1] a1.Things), (fDat (tyList tq) [j.2] a1.Roots)]) encnS_api_Heap (fun (s1, s2) hq => ?_)
 subst hq
 refine mv_ ?_
 obtain ⟨r5, hc4, h⟩ := opt_some h
 refine al_call (vs := [(ag [s1, s2, (bool a1.Busy)]), (iq a0)]) (f_sweep_there_ok fu s1 s2 a1 a0 hc4) [] [] [] (pre_fz 0 rfl (pre_fz 1 rfl pre_nil)) rfl (by simp) (by decide) (.inl rfl) rfl Try.func47 rfl rfl rfl (fun _ => ?_)
 refine al_val (ov_not rfl rfl) ?_
 refine an_ ?_
 refine aw_ret ?_
 cases h
 exact fr1_
def f_slices_IndexFunc___int_int__F46_L5 (a0 : (List Int)) (a1_0 : S_api_Heap) (kk2 : (Unit → Option Int)) (fu : Nat) : Nat → Int → Option Int
  | 0, _ => none
  | k4 + 1, l3i8 => (bif (decide (l3i8 < (a0.length : Int))) then (opt (at? a0 l3i8) fun (u7 : Int) => (opt (f_sweep_Check_1 fu u7 a1_0) fun (r11 : Bool) => (bif r11 then (some l3i8) else (f_slices_IndexFunc___int_int__F46_L5 a0 a1_0 kk2 fu k4 (IntKind.i64.wrap (l3i8 + (1 : Int))))))) else (kk2 ()))
def f_slices_IndexFunc___int_int__F46 (fu : Nat) (a0 : (List Int)) (a1_0 : S_api_Heap) : Option Int := (lt (fun (_ : Unit) => (some (-1 : Int))) fun (kk2 : Unit → Option Int) => (f_slices_IndexFunc___int_int__F46_L5 a0 a1_0 kk2 fu fu (0 : Int)))
set_option maxHeartbeats 2000000 in
set_option maxRecDepth 100000 in
theorem f_slices_IndexFunc___int_int__F46_ok (fu : Nat) (v0_0 : Value) (a0 : (List Int)) (c1_0 : Value) (a1_0 : S_api_Heap) {r : Int} (h : f_slices_IndexFunc___int_int__F46 fu a0 a1_0 = some r) : FnOk Try.prog 74 [v0_0, (Value.func (.func 46) #[] #[c1_0])] [(fDat (tyList (tyInt .i64)) [v0_0] a0), (fPtr tyS_api_Heap c1_0 a1_0)] [] (fun (i : Unit) => { val := (int .i64 r) }) := by
 unfold f_slices_IndexFunc___int_int__F46 at h
 refine fn_enter Try.func74 rfl Try.ntmps74 rfl (fun w0 Z0 => ?_)
 refine aw_sr ?_
 refine an_ ?_
 obtain ⟨kk2, hkk2, h⟩ := lt_some h
 refine aw_seq_join (ι := Unit) (fun i => (memOf w0 Z0 [] [] [(fDat (tyList tq) [v0_0] a0), (fPtr tyS_api_Heap c1_0 a1_0)])) (fun i => (tab [])) (fun i => kk2 () = some r) ?_ ?_
 rintro _ h
 have h : kk2 () = some r := h
 rw [hkk2] at h
 dsimp only at h
 clear hkk2
 refine aw_show (m := (memOf w0 Z0 [] [] [(fDat (tyList tq) [v0_0] a0), (fPtr tyS_api_Heap c1_0 a1_0)])) (S := _) ?_
 refine aw_sr ?_
 refine an_ ?_
 refine aw_ret ?_
 cases h
 exact fr1_
 clear hkk2
 refine sm_ ?_
 refine al_val (ov_lenD 0 rfl rfl Try.underlying30 rfl) ?_
 refine mv_ ?_
 refine al_nt ?_
 refine aw_block ?_
 refine aw_state (aw_loop (ι := Int) (fun i => (memOf w0 Z0 [] [] [(fDat (tyList tq) [v0_0] a0), (fPtr tyS_api_Heap c1_0 a1_0)])) (fun i => (tab [(0, v0_0), (1, (Value.func (.func 46) #[] #[c1_0])), (7, (iq (a0.length : Int))), (8, (iq i))])) (fun q i => f_slices_IndexFunc___int_int__F46_L5 a0 a1_0 kk2 fu q i = some r) ?_ fu (0 : Int) h) (nm_ [] [0, 1] (by decide) ⟨rfl, rfl, rfl, rfl, trivial⟩)
 clear h
 rintro k4 l3i8 h
 have h : f_slices_IndexFunc___int_int__F46_L5 a0 a1_0 kk2 fu k4 l3i8 = some r := h
 obtain _ | k4 := k4
 rw [f_slices_IndexFunc___int_int__F46_L5] at h; cases h
 rw [f_slices_IndexFunc___int_int__F46_L5] at h
 refine aw_show (m := (memOf w0 Z0 [] [] [(fDat (tyList tq) [v0_0] a0), (fPtr tyS_api_Heap c1_0 a1_0)])) (S := _) ?_
 refine aw_sr ?_
 refine im_ ?_
 refine aw_seq ?_
 refine aw_cond rfl (fun hb6 => ?_) (fun hb6 => ?_)
 replace h := bif_t hb6 h
 refine aw_skip ?_
 refine aq_then ?_
 refine aw_seq ?_
 refine aw_block ?_
 refine sm_ ?_
 refine an_ ?_
 refine sm_ ?_
 refine mv_ ?_
 refine mv_ ?_
 obtain ⟨u7, hu8, h⟩ := opt_some h
 refine al_idxD 0 hu8 rfl rfl rfl Try.underlying30 sz3 rfl (fun p9 => ?_)
 refine al_val (ov_loadP (ds := [(iq u7)]) 0 rfl (fun h => h) rfl Try.underlying3 sz3 rfl rfl rfl) ?_
 obtain ⟨r11, hc10, h⟩ := opt_some h
 refine al_callF (vs := [(iq u7)]) (caps := [c1_0]) (f_sweep_Check_1_ok fu u7 c1_0 a1_0 hc10) rfl [] [] [] (pre_fz 2 rfl pre_nil) rfl (by simp) (by decide) (.inl rfl) rfl rfl Try.func46 rfl rfl rfl (fun _ => ?_)
 refine al_nt ?_
 refine aw_cond rfl (fun hb12 => ?_) (fun hb12 => ?_)
 replace h := bif_t hb12 h
 refine sm_ ?_
 refine an_ ?_
 refine aw_ret ?_
 refine aq_block_ret ?_
 refine aq_then_ret ?_
 refine aq_then_ret ?_
 refine aq_block_ret ?_
 refine aq_then_ret ?_
 cases h
 exact fr1_
 replace h := bif_f hb12 h
 refine aw_skip ?_
 refine aq_block ?_
 refine aq_then ?_
 refine aw_region ?_
 refine in_ ?_
 refine mv_ ?_
 refine al_nil ?_
 exact aq_again k4 (wq (l3i8 + (1 : Int))) (Nat.lt_succ_self _) h (nm_ [] [1, 2] (by decide) ⟨rfl, rfl, rfl, rfl, trivial⟩)
 replace h := bif_f hb6 h
 refine aw_exit ?_
 refine aq_then_exit ?_
 refine aq_then_exit ?_
 refine aq_block_exit ?_
 exact aq_join () h (nm_ [] [0, 1] (by decide) trivial)
def f_slices_ContainsFunc___int_int__F46 (fu : Nat) (a0 : (List Int)) (a1_0 : S_api_Heap) : Option Bool := (opt (f_slices_IndexFunc___int_int__F46 fu a0 a1_0) fun (r2 : Int) => (some (decide (r2 ≥ (0 : Int)))))
set_option maxRecDepth 100000 in
theorem f_slices_ContainsFunc___int_int__F46_ok (fu : Nat) (v0_0 : Value) (a0 : (List Int)) (c1_0 : Value) (a1_0 : S_api_Heap) {r : Bool} (h : f_slices_ContainsFunc___int_int__F46 fu a0 a1_0 = some r) : FnOk Try.prog 45 [v0_0, (Value.func (.func 46) #[] #[c1_0])] [(fDat (tyList (tyInt .i64)) [v0_0] a0), (fPtr tyS_api_Heap c1_0 a1_0)] [] (fun (i : Unit) => { val := (bool r) }) := by
 unfold f_slices_ContainsFunc___int_int__F46 at h
 refine fn_enter Try.func45 rfl Try.ntmps45 rfl (fun w0 Z0 => ?_)
 refine aw_sr ?_
 refine an_ ?_
 refine sm_ ?_
 refine mv_ ?_
 obtain ⟨r2, hc1, h⟩ := opt_some h
 refine al_call (vs := [v0_0, (Value.func (.func 46) #[] #[c1_0])]) (f_slices_IndexFunc___int_int__F46_ok fu v0_0 a0 c1_0 a1_0 hc1) [] [] [] (pre_fz 0 rfl (pre_fz 1 rfl pre_nil)) rfl (by simp) (by decide) (.inl rfl) rfl Try.func74 rfl rfl rfl (fun _ => ?_)
 refine in_ ?_
 refine an_ ?_
 refine aw_ret ?_
 cases h
 exact fr1_
def f_sweep_Check_L14 (a0 : S_api_Heap) (kk6 : (Unit → Option Int)) (fu : Nat) : Nat → Int → Option Int
  | 0, _ => none
  | k13 + 1, l12i19 => (bif (decide (l12i19 < (a0.Things.length : Int))) then (opt (at? a0.Things l12i19) fun (u16 : S_api_Thing) => (opt (f_sweep_check fu a0 u16) fun (r23 : Int) => (bif (r23 != (0 : Int)) then (some r23) else (f_sweep_Check_L14 a0 kk6 fu k13 (IntKind.i64.wrap (l12i19 + (1 : Int))))))) else (kk6 ()))
def f_sweep_Check (fu : Nat) (a0 : S_api_Heap) : Option Int := (lt (fun (j2b15 : Bool) => (bif j2b15 then (some (2 : Int)) else (lt (fun (_ : Unit) => (opt (f_slices_ContainsFunc___int_int__F46 fu a0.Roots a0) fun (r10 : Bool) => (bif r10 then (some (1 : Int)) else (some (0 : Int))))) fun (kk6 : Unit → Option Int) => (f_sweep_Check_L14 a0 kk6 fu fu (0 : Int))))) fun (kk3 : Bool → Option Int) => (bif (decide ((a0.Things.length : Int) > (40 : Int))) then (kk3 true) else (kk3 (decide ((a0.Roots.length : Int) > (64 : Int))))))
set_option maxHeartbeats 2000000 in
set_option maxRecDepth 100000 in
theorem f_sweep_Check_ok (fu : Nat) (v0_0 : Value) (v0_1 : Value) (a0 : S_api_Heap) {r : Int} (h : f_sweep_Check fu a0 = some r) : FnOk Try.prog 13 [(ag [v0_0, v0_1, (bool a0.Busy)])] [(fDat (tyList tyS_api_Thing) [v0_0] a0.Things), (fDat (tyList (tyInt .i64)) [v0_1] a0.Roots)] [] (fun (i : Unit) => { val := (int .i64 r) }) := by
 unfold f_sweep_Check at h
 refine fn_enter Try.func13 rfl Try.ntmps13 rfl (fun w0 Z0 => ?_)
 refine aw_sr ?_
 refine al_box (vs := [v0_0, v0_1, (bool a0.Busy)]) rfl (cv_rfl rfl) rfl (fun g1 => ?_)
 refine an_ ?_
 refine aw_seq ?_
 obtain ⟨kk3, hkk3, h⟩ := lt_some h
 refine aw_seq_join (ι := Bool) (fun i => (memOf w0 Z0 [] [(oBox g1 38 [v0_0, v0_1, (bool a0.Busy)])] [(fDat (tyList tyS_api_Thing) [v0_0] a0.Things), (fDat (tyList tq) [v0_1] a0.Roots)])) (fun i => (tab [(1, (pq g1)), (15, (bool i))])) (fun i => kk3 i = some r) ?_ ?_
 rintro j2b15 h
 have h : kk3 j2b15 = some r := h
 rw [hkk3] at h
 dsimp only at h
 clear hkk3
 refine aw_show (m := (memOf w0 Z0 [] [(oBox g1 38 [v0_0, v0_1, (bool a0.Busy)])] [(fDat (tyList tyS_api_Thing) [v0_0] a0.Things), (fDat (tyList tq) [v0_1] a0.Roots)])) (S := _) ?_
 refine aw_cond rfl (fun hb4 => ?_) (fun hb4 => ?_)
 replace h := bif_t hb4 h
 refine aw_sr ?_
 refine an_ ?_
 refine aw_ret ?_
 refine aq_then_ret ?_
 cases h
 exact fr1_
 replace h := bif_f hb4 h
 refine aw_skip ?_
 refine aq_then ?_
 obtain ⟨kk6, hkk6, h⟩ := lt_some h
 refine aw_seq_join (ι := Unit) (fun i => (memOf w0 Z0 [] [(oBox g1 38 [v0_0, v0_1, (bool a0.Busy)])] [(fDat (tyList tyS_api_Thing) [v0_0] a0.Things), (fDat (tyList tq) [v0_1] a0.Roots)])) (fun i => (tab [(1, (pq g1))])) (fun i => kk6 () = some r) ?_ ?_
 rintro _ h
 have h : kk6 () = some r := h
 rw [hkk6] at h
 dsimp only at h
 clear hkk6
 refine aw_show (m := (memOf w0 Z0 [] [(oBox g1 38 [v0_0, v0_1, (bool a0.Busy)])] [(fDat (tyList tyS_api_Thing) [v0_0] a0.Things), (fDat (tyList tq) [v0_1] a0.Roots)])) (S := _) ?_
 refine aw_seq ?_
 refine aw_seq ?_
 refine aw_freezeBN (τ := tyS_api_Heap) 0 (a0) rfl rfl (fun hm => mknS_api_Heap (x := a0) rfl (fz_at (i := 0) hm rfl) (fz_at (i := 1) hm rfl)) ?_
 refine aw_region ?_
 refine al_fieldD (pr := fun (y : S_api_Heap) => y.Roots) 0 rfl subS_api_Heap_1 rfl Try.underlying38 rfl sz30 rfl rfl (fun p7 => ?_)
 refine al_loadP1 0 rfl rfl Try.underlying30 sz30 rfl rfl rfl (fun s8 => ?_)
 refine al_val (ov_makeFunc2 (vs := [(pq g1)]) rfl rfl) ?_
 obtain ⟨r10, hc9, h⟩ := opt_some h
 refine al_call (vs := [s8, (Value.func (.func 46) #[] #[(pq g1)])]) (f_slices_ContainsFunc___int_int__F46_ok fu s8 a0.Roots (pq g1) a0 hc9) [] [] [] (pre_fz 0 rfl (pre_fz 2 rfl pre_nil)) rfl (by simp) (by decide) (.inl rfl) rfl Try.func45 rfl rfl rfl (fun _ => ?_)
 refine al_nt ?_
 refine aw_cond rfl (fun hb11 => ?_) (fun hb11 => ?_)
 replace h := bif_t hb11 h
 refine aw_sr ?_
 refine an_ ?_
 refine aw_ret ?_
 refine aq_then_ret ?_
 cases h
 exact fr1_
 replace h := bif_f hb11 h
 refine aw_skip ?_
 refine aq_tr ?_
 refine an_ ?_
 refine aw_ret ?_
 cases h
 exact fr1_
 clear hkk6
 refine aw_sr ?_
 refine al_val (ov_fieldA (p := 0) rfl Try.underlying38 rfl sz36 rfl rfl rfl) ?_
 refine al_val (ov_load (i := 0) (v := v0_0) rfl rfl Try.underlying36 sz36 rfl rfl rfl rfl) ?_
 refine al_val (ov_lenD 0 rfl rfl Try.underlying36 rfl) ?_
 refine mv_ ?_
 refine al_nt ?_
 refine aw_block ?_
 refine aw_state (aw_loop (ι := Int) (fun i => (memOf w0 Z0 [] [(oBox g1 38 [v0_0, v0_1, (bool a0.Busy)])] [(fDat (tyList tyS_api_Thing) [v0_0] a0.Things), (fDat (tyList tq) [v0_1] a0.Roots)])) (fun i => (tab [(1, (pq g1)), (17, v0_0), (18, (iq (a0.Things.length : Int))), (19, (iq i))])) (fun q i => f_sweep_Check_L14 a0 kk6 fu q i = some r) ?_ fu (0 : Int) h) (nm_ [0] [0, 1] (by decide) ⟨rfl, rfl, rfl, rfl, trivial⟩)
 clear h
 rintro k13 l12i19 h
 have h : f_sweep_Check_L14 a0 kk6 fu k13 l12i19 = some r := h
 obtain _ | k13 := k13
 rw [f_sweep_Check_L14] at h; cases h
 rw [f_sweep_Check_L14] at h
 refine aw_show (m := (memOf w0 Z0 [] [(oBox g1 38 [v0_0, v0_1, (bool a0.Busy)])] [(fDat (tyList tyS_api_Thing) [v0_0] a0.Things), (fDat (tyList tq) [v0_1] a0.Roots)])) (S := _) ?_
 refine aw_sr ?_
 refine im_ ?_
 refine aw_seq ?_
 refine aw_cond rfl (fun hb15 => ?_) (fun hb15 => ?_)
 replace h := bif_t hb15 h
 refine aw_skip ?_
 refine aq_then ?_
 refine aw_seq ?_
 refine aw_block ?_
 refine aw_sr ?_
 obtain ⟨u16, hu17, h⟩ := opt_some h
 refine al_idxD 0 hu17 rfl rfl rfl Try.underlying36 sz71 rfl (fun p18 => ?_)
 refine al_loadPA 0 rfl rfl Try.underlying71 sz71 rfl rfl (fun cs20 => ?_)
 refine al_use (ι := Value) 0 rfl (fun j => cs20 = [j, (iq u16.Colour), (bool u16.Free)]) (fun j => [(fDat (tyList tq) [j] u16.Kids)]) encnS_api_Thing (fun s19 hq => ?_)
 subst hq
 refine al_alloc (zs := [nS, (iq (0 : Int)), (bool false)]) (zeroOf_to to71) rfl rfl (fun g21 => ?_)
 refine al_store (i := 0) (vs := [s19, (iq u16.Colour), (bool u16.Free)]) (cs' := [s19, (iq u16.Colour), (bool u16.Free)]) rfl rfl rfl sz71 (cv_rfl rfl) rfl (co_fz 0 rfl (co_val rfl (co_val rfl co_nil))) (Nat.le_of_ble_eq_true rfl) rfl rfl ?_
 refine al_nt ?_
 refine aw_sr ?_
 refine al_val (ov_load (i := 1) (v := (ag [v0_0, v0_1, (bool a0.Busy)])) rfl rfl Try.underlying38 sz38 rfl rfl rfl rfl) ?_
 refine al_val (ov_load (i := 0) (v := (ag [s19, (iq u16.Colour), (bool u16.Free)])) rfl rfl Try.underlying71 sz71 rfl rfl rfl rfl) ?_
 obtain ⟨r23, hc22, h⟩ := opt_some h
 refine al_call (vs := [(ag [v0_0, v0_1, (bool a0.Busy)]), (ag [s19, (iq u16.Colour), (bool u16.Free)])]) (f_sweep_check_ok fu v0_0 v0_1 a0 s19 u16 hc22) [] [] [0, 1] (pre_fz 3 rfl (pre_fz 4 rfl (pre_fz 0 rfl pre_nil))) rfl (by simp) (by decide) (.inl rfl) rfl Try.func44 rfl rfl rfl (fun _ => ?_)
 refine an_ ?_
 refine sm_ ?_
 refine im_ ?_
 refine aw_cond rfl (fun hb24 => ?_) (fun hb24 => ?_)
 replace h := bif_t hb24 h
 refine sm_ ?_
 refine an_ ?_
 refine aw_ret ?_
 refine aq_block_ret ?_
 refine aq_then_ret ?_
 refine aq_then_ret ?_
 refine aq_block_ret ?_
 refine aq_then_ret ?_
 cases h
 exact fr1_
 replace h := bif_f hb24 h
 refine aw_skip ?_
 refine aq_block ?_
 refine aq_then ?_
 refine aw_region ?_
 refine in_ ?_
 refine mv_ ?_
 refine al_nil ?_
 exact aq_again k13 (wq (l12i19 + (1 : Int))) (Nat.lt_succ_self _) h (nm_ [1] [3, 4] (by decide) ⟨rfl, rfl, rfl, rfl, trivial⟩)
 replace h := bif_f hb15 h
 refine aw_exit ?_
 refine aq_then_exit ?_
 refine aq_then_exit ?_
 refine aq_block_exit ?_
 exact aq_join () h (nm_ [0] [0, 1] (by decide) ⟨rfl, trivial⟩)
 clear hkk3
 refine aw_region ?_
 refine al_val (ov_fieldA (p := 0) rfl Try.underlying38 rfl sz36 rfl rfl rfl) ?_
 refine al_val (ov_load (i := 0) (v := v0_0) rfl rfl Try.underlying36 sz36 rfl rfl rfl rfl) ?_
 refine al_val (ov_lenD 0 rfl rfl Try.underlying36 rfl) ?_
 refine in_ ?_
 refine mv_ ?_
 refine al_caseB 10 rfl (fun hb25 => ?_) (fun hb25 => ?_)
 replace h := bif_t hb25 h
 iterate 4 refine al_skip ?_
 refine al_val (ov_pick_t rfl rfl rfl) ?_
 refine al_nil ?_
 exact aq_join true h (nm_ [0] [0, 1] (by decide) ⟨rfl, rfl, trivial⟩)
 replace h := bif_f hb25 h
 refine al_val (ov_fieldA (p := 1) rfl Try.underlying38 rfl sz30 rfl rfl rfl) ?_
 refine al_val (ov_load (i := 0) (v := v0_1) rfl rfl Try.underlying30 sz30 rfl rfl rfl rfl) ?_
 refine al_val (ov_lenD 1 rfl rfl Try.underlying30 rfl) ?_
 refine in_ ?_
 refine al_val (ov_pick_f rfl rfl rfl) ?_
 refine al_nil ?_
 exact aq_join (decide ((a0.Roots.length : Int) > (64 : Int))) h (nm_ [0] [0, 1] (by decide) ⟨rfl, rfl, trivial⟩)
def f_graph_Closure_L9 (a0 : (List (List Int))) (kk4 : ((List Bool) → Option (List Bool))) : Nat → (List Bool) → (List Int) → Option (List Bool)
  | 0, _, _ => none
  | k8 + 1, l7x5, l7x6 => (bif (decide ((l7x6.length : Int) > (0 : Int))) then (opt (at? l7x6 (IntKind.i64.wrap ((l7x6.length : Int) - (1 : Int)))) fun (u11 : Int) => (req (0 ≤ (IntKind.i64.wrap ((l7x6.length : Int) - (1 : Int))) ∧ (IntKind.i64.wrap ((l7x6.length : Int) - (1 : Int))) ≤ (l7x6.length : Int)) (opt (at? l7x5 u11) fun (u17 : Bool) => (bif (!u17) then (opt (at? l7x5 u11) fun (u22 : Bool) => (opt (at? a0 u11) fun (u26 : (List Int)) => (req ((((l7x6.take ((IntKind.i64.wrap ((l7x6.length : Int) - (1 : Int)))).toNat).length + u26.length) * 8 : Nat) ≤ 140737488355328 ∧ (l7x6.take ((IntKind.i64.wrap ((l7x6.length : Int) - (1 : Int)))).toNat).length + u26.length ≤ 9223372036854775807) (f_graph_Closure_L9 a0 kk4 k8 (l7x5.set (u11).toNat true) ((l7x6.take ((IntKind.i64.wrap ((l7x6.length : Int) - (1 : Int)))).toNat) ++ u26))))) else (f_graph_Closure_L9 a0 kk4 k8 l7x5 (l7x6.take ((IntKind.i64.wrap ((l7x6.length : Int) - (1 : Int)))).toNat)))))) else (kk4 l7x5))
def f_graph_Closure (fu : Nat) (a0 : (List (List Int))) (a1 : (List Int)) : Option (List Bool) := (req (0 ≤ (a0.length : Int) ∧ 1 * (a0.length : Int) ≤ 281474976710656 ∧ (a0.length : Int) ≤ 9223372036854775807) (lt (fun (j3x5 : (List Bool)) => (some j3x5)) fun (kk4 : (List Bool) → Option (List Bool)) => (req (((([] : List Int).length + a1.length) * 8 : Nat) ≤ 140737488355328 ∧ ([] : List Int).length + a1.length ≤ 9223372036854775807) (f_graph_Closure_L9 a0 kk4 fu (List.replicate ((a0.length : Int)).toNat false) (([] : List Int) ++ a1)))))
set_option maxHeartbeats 2000000 in
set_option maxRecDepth 100000 in
theorem f_graph_Closure_ok (fu : Nat) (v0_0 : Value) (a0 : (List (List Int))) (v1_0 : Value) (a1 : (List Int)) {r : (List Bool)} (h : f_graph_Closure fu a0 a1 = some r) : FnOk Try.prog 64 [v0_0, v1_0] [(fDat (tyList (tyList (tyInt .i64))) [v0_0] a0), (fDat (tyList (tyInt .i64)) [v1_0] a1)] [] (fun (i : Value) => { val := i, own := [(oRow i 4 tyBool r)] }) := by
 unfold f_graph_Closure at h
 refine fn_enter Try.func64 rfl Try.ntmps64 rfl (fun w0 Z0 => ?_)
 refine aw_sr ?_
 refine an_ ?_
 refine sm_ ?_
 refine al_val (ov_lenD 0 rfl rfl Try.underlying90 rfl) ?_
 obtain ⟨hc1, h⟩ := req_some h
 refine al_make (τ := tyBool) (x0 := false) hc1.1 hc1.2.1 hc1.2.2 rfl rfl Try.underlying42 to4 (fun _ _ => rfl) rfl rfl (fun v2 => ?_)
 refine an_ ?_
 obtain ⟨kk4, hkk4, h⟩ := lt_some h
 refine aw_seq_join (ι := (List Bool)) (fun i => (memOf w0 Z0 [] [(oRow v2 4 tyBool i)] [(fDat (tyList (tyList tq)) [v0_0] a0), (fDat (tyList tq) [v1_0] a1)])) (fun i => (tab [(5, v2)])) (fun i => kk4 i = some r) ?_ ?_
 rintro j3x5 h
 have h : kk4 j3x5 = some r := h
 rw [hkk4] at h
 dsimp only at h
 clear hkk4
 refine aw_show (m := (memOf w0 Z0 [] [(oRow v2 4 tyBool j3x5)] [(fDat (tyList (tyList tq)) [v0_0] a0), (fDat (tyList tq) [v1_0] a1)])) (S := _) ?_
 refine sm_ ?_
 refine an_ ?_
 refine aw_ret ?_
 cases h
 exact fn_ret v2 [0] [] rfl rfl rfl rfl (res1 rfl rfl) rfl rfl rfl (by decide)
 clear hkk4
 refine sm_ ?_
 refine al_nilR 3 tq ?_
 obtain ⟨hc5, h⟩ := req_some h
 refine al_append 0 hc5.1 hc5.2 rfl (src_dat (i := 0) 1 rfl) rfl rfl Try.underlying30 to3 rfl rfl rfl (fun v6 => ?_)
 refine an_ ?_
 refine aw_block ?_
 refine aw_state (aw_loop (ι := (List Bool) × Value × (List Int)) (fun i => (memOf w0 Z0 [] [(oRow v2 4 tyBool i.1), (oRow i.2.1 3 tq i.2.2)] [(fDat (tyList (tyList tq)) [v0_0] a0), (fDat (tyList tq) [v1_0] a1)])) (fun i => (tab [(0, v0_0), (5, v2), (6, i.2.1)])) (fun q i => f_graph_Closure_L9 a0 kk4 q i.1 i.2.2 = some r) ?_ fu ((List.replicate ((a0.length : Int)).toNat false), v6, (([] : List Int) ++ a1)) h) (nm_ [1, 0] [0, 1] (by decide) ⟨rfl, rfl, rfl, trivial⟩)
 clear h
 rintro k8 ⟨l7x5, l7v6, l7x6⟩ h
 have h : f_graph_Closure_L9 a0 kk4 k8 l7x5 l7x6 = some r := h
 obtain _ | k8 := k8
 rw [f_graph_Closure_L9] at h; cases h
 rw [f_graph_Closure_L9] at h
 refine aw_show (m := (memOf w0 Z0 [] [(oRow v2 4 tyBool l7x5), (oRow l7v6 3 tq l7x6)] [(fDat (tyList (tyList tq)) [v0_0] a0), (fDat (tyList tq) [v1_0] a1)])) (S := _) ?_
 refine aw_seq ?_
 refine sm_ ?_
 refine al_val (ov_lenR 1 rfl rfl Try.underlying30 rfl) ?_
 refine im_ ?_
 refine aw_cond rfl (fun hb10 => ?_) (fun hb10 => ?_)
 replace h := bif_t hb10 h
 refine aw_skip ?_
 refine aq_then ?_
 refine aw_block ?_
 refine sm_ ?_
 refine mv_ ?_
 refine al_val (ov_lenR 1 rfl rfl Try.underlying30 rfl) ?_
 refine in_ ?_
 obtain ⟨u11, hu12, h⟩ := opt_some h
 refine al_idxR 1 (at_some hu12).1 (at_some hu12).2.1 rfl rfl rfl Try.underlying30 sz3 rfl (fun p13 hp14 => ?_)
 refine al_val (ov_loadR (ds := [(iq u11)]) 1 rfl hp14 (at_some hu12).2.2 (fun h => h) rfl Try.underlying3 sz3 rfl rfl rfl) ?_
 refine an_ ?_
 refine sm_ ?_
 refine mv_ ?_
 refine al_val (ov_lenR 1 rfl rfl Try.underlying30 rfl) ?_
 refine in_ ?_
 obtain ⟨hc15, h⟩ := req_some h
 refine al_cutR 1 hc15.1 hc15.2 rfl rfl rfl Try.underlying30 sz3 rfl (fun s16 => ?_)
 refine an_ ?_
 refine sm_ ?_
 refine mv_ ?_
 obtain ⟨u17, hu18, h⟩ := opt_some h
 refine al_idxR 0 (at_some hu18).1 (at_some hu18).2.1 rfl rfl rfl Try.underlying42 sz4 rfl (fun p19 hp20 => ?_)
 refine al_val (ov_loadR (ds := [(bool u17)]) 0 rfl hp20 (at_some hu18).2.2 (fun h => h) rfl Try.underlying4 sz4 rfl rfl rfl) ?_
 refine al_val (ov_not rfl rfl) ?_
 refine al_nt ?_
 refine aw_cond rfl (fun hb21 => ?_) (fun hb21 => ?_)
 replace h := bif_t hb21 h
 refine sm_ ?_
 refine mv_ ?_
 obtain ⟨u22, hu23, h⟩ := opt_some h
 refine al_idxR 0 (at_some hu23).1 (at_some hu23).2.1 rfl rfl rfl Try.underlying42 sz4 rfl (fun p24 hp25 => ?_)
 refine al_storeR (k := (u11).toNat) (x := true) (vs := [(bool true)]) 0 rfl hp25 (idx_lt hu23) rfl rfl (cv_rfl rfl) (fun _ => rfl) sz4 rfl ?_
 refine al_nt ?_
 refine aw_region ?_
 refine mv_ ?_
 refine mv_ ?_
 refine mv_ ?_
 obtain ⟨u26, hu27, h⟩ := opt_some h
 refine al_idxD 0 hu27 rfl rfl rfl Try.underlying90 sz30 rfl (fun p28 => ?_)
 refine al_loadP1 0 rfl rfl Try.underlying30 sz30 rfl rfl rfl (fun s29 => ?_)
 obtain ⟨hc30, h⟩ := req_some h
 refine al_append 1 hc30.1 hc30.2 rfl (src_dat (i := 1) 0 rfl) rfl rfl Try.underlying30 to3 rfl rfl rfl (fun v31 => ?_)
 refine as_ ?_
 refine al_nil ?_
 refine aq_block ?_
 exact aq_again k8 ((l7x5.set (u11).toNat true), v31, ((l7x6.take ((wq ((l7x6.length : Int) - (1 : Int)))).toNat) ++ u26)) (Nat.lt_succ_self _) h (nm_ [0, 1] [2, 3] (by decide) ⟨rfl, rfl, rfl, trivial⟩)
 replace h := bif_f hb21 h
 refine aw_skip ?_
 refine aq_block ?_
 exact aq_again k8 (l7x5, s16, (l7x6.take ((wq ((l7x6.length : Int) - (1 : Int)))).toNat)) (Nat.lt_succ_self _) h (nm_ [0, 1] [0, 1] (by decide) ⟨rfl, rfl, rfl, trivial⟩)
 replace h := bif_f hb10 h
 refine aw_exit ?_
 refine aq_then_exit ?_
 refine aq_then_exit ?_
 refine aq_block_exit ?_
 exact aq_join l7x5 h (nm_ [0] [0, 1] (by decide) ⟨rfl, trivial⟩)
def f_sweep_live_L9 (a0 : S_api_Heap) (kk3 : ((List (List Int)) → Option (List Bool))) : Nat → (List (List Int)) → Int → Option (List Bool)
  | 0, _, _ => none
  | k8 + 1, l7x3, l7i9 => (bif (decide (l7i9 < (a0.Things.length : Int))) then (opt (at? a0.Things l7i9) fun (u11 : S_api_Thing) => (req (((l7x3.length + ([u11.Kids]).length) * 24 : Nat) ≤ 140737488355328 ∧ l7x3.length + ([u11.Kids]).length ≤ 9223372036854775807) (f_sweep_live_L9 a0 kk3 k8 (l7x3 ++ ([u11.Kids])) (IntKind.i64.wrap (l7i9 + (1 : Int)))))) else (kk3 l7x3))
def f_sweep_live (fu : Nat) (a0 : S_api_Heap) : Option (List Bool) := (lt (fun (j2x3 : (List (List Int))) => (opt (f_graph_Closure fu j2x3 a0.Roots) fun (r5 : (List Bool)) => (some r5))) fun (kk3 : (List (List Int)) → Option (List Bool)) => (f_sweep_live_L9 a0 kk3 fu ([] : List (List Int)) (0 : Int)))
set_option maxHeartbeats 2000000 in
set_option maxRecDepth 100000 in
theorem f_sweep_live_ok (fu : Nat) (v0_0 : Value) (v0_1 : Value) (a0 : S_api_Heap) {r : (List Bool)} (h : f_sweep_live fu a0 = some r) : FnOk Try.prog 34 [(ag [v0_0, v0_1, (bool a0.Busy)])] [(fDat (tyList tyS_api_Thing) [v0_0] a0.Things), (fDat (tyList (tyInt .i64)) [v0_1] a0.Roots)] [] (fun (i : Value) => { val := i, own := [(oRow i 4 tyBool r)] }) := by
 unfold f_sweep_live at h
 refine fn_enter Try.func34 rfl Try.ntmps34 rfl (fun w0 Z0 => ?_)
 refine aw_sr ?_
 refine al_box (vs := [v0_0, v0_1, (bool a0.Busy)]) rfl (cv_rfl rfl) rfl (fun g1 => ?_)
 refine an_ ?_
 refine aw_sr ?_
 refine an_ ?_
 obtain ⟨kk3, hkk3, h⟩ := lt_some h
 refine aw_seq_join (ι := Value × (List (List Int))) (fun i => (memOf w0 Z0 [] [(oBox g1 38 [v0_0, v0_1, (bool a0.Busy)]), (oRow i.1 30 (tyList tq) i.2)] [(fDat (tyList tyS_api_Thing) [v0_0] a0.Things), (fDat (tyList tq) [v0_1] a0.Roots)])) (fun i => (tab [(1, (pq g1)), (3, i.1)])) (fun i => kk3 i.2 = some r) ?_ ?_
 rintro ⟨j2v3, j2x3⟩ h
 have h : kk3 j2x3 = some r := h
 rw [hkk3] at h
 dsimp only at h
 clear hkk3
 refine aw_show (m := (memOf w0 Z0 [] [(oBox g1 38 [v0_0, v0_1, (bool a0.Busy)]), (oRow j2v3 30 (tyList tq) j2x3)] [(fDat (tyList tyS_api_Thing) [v0_0] a0.Things), (fDat (tyList tq) [v0_1] a0.Roots)])) (S := _) ?_
 refine sm_ ?_
 refine al_val (ov_fieldA (p := 1) rfl Try.underlying38 rfl sz30 rfl rfl rfl) ?_
 refine al_val (ov_load (i := 0) (v := v0_1) rfl rfl Try.underlying30 sz30 rfl rfl rfl rfl) ?_
 obtain ⟨r5, hc4, h⟩ := opt_some h
 refine al_call (vs := [j2v3, v0_1]) (f_graph_Closure_ok fu j2v3 j2x3 v0_1 a0.Roots hc4) [1] [] [0, 1] (pre_own 1 rfl rfl (pre_fz 1 rfl pre_nil)) rfl (by simp) (by decide) (.inr (flat_res1 (fun _ => flat_row flat_enc))) rfl Try.func64 rfl rfl rfl (fun v6 => ?_)
 refine an_ ?_
 refine aw_ret ?_
 cases h
 exact fn_ret v6 [0] [] rfl rfl rfl rfl (res1 rfl rfl) rfl rfl rfl (by decide)
 clear hkk3
 refine aw_sr ?_
 refine al_val (ov_fieldA (p := 0) rfl Try.underlying38 rfl sz36 rfl rfl rfl) ?_
 refine al_val (ov_load (i := 0) (v := v0_0) rfl rfl Try.underlying36 sz36 rfl rfl rfl rfl) ?_
 refine al_val (ov_lenD 0 rfl rfl Try.underlying36 rfl) ?_
 refine mv_ ?_
 refine al_nt ?_
 refine aw_block ?_
 refine aw_nilR 30 (tyList tq) ?_
 refine aw_state (aw_loop (ι := Value × (List (List Int)) × Int) (fun i => (memOf w0 Z0 [] [(oBox g1 38 [v0_0, v0_1, (bool a0.Busy)]), (oRow i.1 30 (tyList tq) i.2.1)] [(fDat (tyList tyS_api_Thing) [v0_0] a0.Things), (fDat (tyList tq) [v0_1] a0.Roots)])) (fun i => (tab [(1, (pq g1)), (3, i.1), (7, v0_0), (8, (iq (a0.Things.length : Int))), (9, (iq i.2.2))])) (fun q i => f_sweep_live_L9 a0 kk3 q i.2.1 i.2.2 = some r) ?_ fu (nS, ([] : List (List Int)), (0 : Int)) h) (nm_ [1, 0] [0, 1] (by decide) ⟨rfl, rfl, rfl, rfl, rfl, trivial⟩)
 clear h
 rintro k8 ⟨l7v3, l7x3, l7i9⟩ h
 have h : f_sweep_live_L9 a0 kk3 k8 l7x3 l7i9 = some r := h
 obtain _ | k8 := k8
 rw [f_sweep_live_L9] at h; cases h
 rw [f_sweep_live_L9] at h
 refine aw_show (m := (memOf w0 Z0 [] [(oBox g1 38 [v0_0, v0_1, (bool a0.Busy)]), (oRow l7v3 30 (tyList tq) l7x3)] [(fDat (tyList tyS_api_Thing) [v0_0] a0.Things), (fDat (tyList tq) [v0_1] a0.Roots)])) (S := _) ?_
 refine aw_sr ?_
 refine im_ ?_
 refine aw_seq ?_
 refine aw_cond rfl (fun hb10 => ?_) (fun hb10 => ?_)
 replace h := bif_t hb10 h
 refine aw_skip ?_
 refine aq_then ?_
 refine aw_seq ?_
 refine aw_block ?_
 refine aw_sr ?_
 obtain ⟨u11, hu12, h⟩ := opt_some h
 refine al_idxD 0 hu12 rfl rfl rfl Try.underlying36 sz71 rfl (fun p13 => ?_)
 refine al_loadPA 0 rfl rfl Try.underlying71 sz71 rfl rfl (fun cs15 => ?_)
 refine al_use (ι := Value) 0 rfl (fun j => cs15 = [j, (iq u11.Colour), (bool u11.Free)]) (fun j => [(fDat (tyList tq) [j] u11.Kids)]) encnS_api_Thing (fun s14 hq => ?_)
 subst hq
 refine al_alloc (zs := [nS, (iq (0 : Int)), (bool false)]) (zeroOf_to to71) rfl rfl (fun g16 => ?_)
 refine al_store (i := 0) (vs := [s14, (iq u11.Colour), (bool u11.Free)]) (cs' := [s14, (iq u11.Colour), (bool u11.Free)]) rfl rfl rfl sz71 (cv_rfl rfl) rfl (co_fz 0 rfl (co_val rfl (co_val rfl co_nil))) (Nat.le_of_ble_eq_true rfl) rfl rfl ?_
 refine al_nt ?_
 refine aw_region ?_
 refine mv_ ?_
 refine al_val (ov_fieldA (p := 0) rfl Try.underlying71 rfl sz30 rfl rfl rfl) ?_
 refine al_val (ov_load (i := 0) (v := s14) rfl rfl Try.underlying30 sz30 rfl rfl rfl rfl) ?_
 refine al_buildSlice (τ := (tyList tq)) (e := 30) (k := 1) (sz := 0) (by_ := 0) (z := undef) (cs := [s14]) (xs := [u11.Kids]) rfl (by decide) (fun w a hm hs => ⟨([s14]).toArray, rfl, by simp only [List.map_toArray, List.map_cons, List.map_nil, hs.ev (x := .tmp 15) rfl]; exact run_bs [s14] [s14] Try.underlying90 to30 rfl rfl (bs_cons (l := [s14]) (cs := []) (cv_fz 0 rfl) rfl bs_nil) hm⟩) (fun hm => ⟨_, _, rfl, (fun hm => fz_at (i := 0) hm rfl) hm, rfl⟩) rfl (fun v17 => ?_)
 obtain ⟨hc18, h⟩ := req_some h
 refine al_append 3 hc18.1 hc18.2 rfl (src_own (i := 3) 0 rfl) rfl rfl Try.underlying90 to30 rfl rfl rfl (fun v19 => ?_)
 refine as_ ?_
 refine al_nil ?_
 refine aq_block ?_
 refine aq_then ?_
 refine aw_region ?_
 refine in_ ?_
 refine mv_ ?_
 refine al_nil ?_
 exact aq_again k8 (v19, (l7x3 ++ ([u11.Kids])), (wq (l7i9 + (1 : Int)))) (Nat.lt_succ_self _) h (nm_ [2, 3] [3, 4] (by decide) ⟨rfl, rfl, rfl, rfl, rfl, trivial⟩)
 replace h := bif_f hb10 h
 refine aw_exit ?_
 refine aq_then_exit ?_
 refine aq_then_exit ?_
 refine aq_block_exit ?_
 exact aq_join (l7v3, l7x3) h (nm_ [0, 1] [0, 1] (by decide) ⟨rfl, rfl, trivial⟩)
def f_sweep_Live (fu : Nat) (a0 : S_api_Heap) : Option ((List Bool) × Int) := (opt (f_sweep_Check fu a0) fun (r3 : Int) => (bif (r3 != (0 : Int)) then (some (([] : List Bool), r3)) else (opt (f_sweep_live fu a0) fun (r6 : (List Bool)) => (some (r6, (0 : Int))))))
set_option maxHeartbeats 2000000 in
set_option maxRecDepth 100000 in
theorem f_sweep_Live_ok (fu : Nat) (v0_0 : Value) (v0_1 : Value) (a0 : S_api_Heap) {r : ((List Bool) × Int)} (h : f_sweep_Live fu a0 = some r) : FnOk Try.prog 10 [(ag [v0_0, v0_1, (bool a0.Busy)])] [(fDat (tyList tyS_api_Thing) [v0_0] a0.Things), (fDat (tyList (tyInt .i64)) [v0_1] a0.Roots)] [] (fun (i : Value) => { val := (Value.tuple #[i, (int .i64 r.2)]), own := [(oRow i 4 tyBool r.1)] }) := by
 unfold f_sweep_Live at h
 refine fn_enter Try.func10 rfl Try.ntmps10 rfl (fun w0 Z0 => ?_)
 refine aw_sr ?_
 refine al_box (vs := [v0_0, v0_1, (bool a0.Busy)]) rfl (cv_rfl rfl) rfl (fun g1 => ?_)
 refine as_ ?_
 refine an_ ?_
 refine aw_seq ?_
 refine aw_sr ?_
 refine al_val (ov_load (i := 0) (v := (ag [v0_0, v0_1, (bool a0.Busy)])) rfl rfl Try.underlying38 sz38 rfl rfl rfl rfl) ?_
 obtain ⟨r3, hc2, h⟩ := opt_some h
 refine al_call (vs := [(ag [v0_0, v0_1, (bool a0.Busy)])]) (f_sweep_Check_ok fu v0_0 v0_1 a0 hc2) [] [] [0] (pre_fz 0 rfl (pre_fz 1 rfl pre_nil)) rfl (by simp) (by decide) (.inl rfl) rfl Try.func13 rfl rfl rfl (fun _ => ?_)
 refine an_ ?_
 refine sm_ ?_
 refine im_ ?_
 refine aw_cond rfl (fun hb4 => ?_) (fun hb4 => ?_)
 replace h := bif_t hb4 h
 refine sm_ ?_
 refine as_ ?_
 refine an_ ?_
 refine aw_ret ?_
 refine aq_then_ret ?_
 refine aq_nilR 4 tyBool ?_
 cases h
 exact fn_ret nS [0] [] rfl rfl rfl rfl (res2 rfl rfl rfl) rfl rfl rfl (by decide)
 replace h := bif_f hb4 h
 refine aw_skip ?_
 refine aq_tr ?_
 refine al_val (ov_load (i := 0) (v := (ag [v0_0, v0_1, (bool a0.Busy)])) rfl rfl Try.underlying38 sz38 rfl rfl rfl rfl) ?_
 obtain ⟨r6, hc5, h⟩ := opt_some h
 refine al_call (vs := [(ag [v0_0, v0_1, (bool a0.Busy)])]) (f_sweep_live_ok fu v0_0 v0_1 a0 hc5) [] [] [0] (pre_fz 0 rfl (pre_fz 1 rfl pre_nil)) rfl (by simp) (by decide) (.inl rfl) rfl Try.func34 rfl rfl rfl (fun v7 => ?_)
 refine as_ ?_
 refine an_ ?_
 refine aw_ret ?_
 cases h
 exact fn_ret v7 [0] [] rfl rfl rfl rfl (res2 rfl rfl rfl) rfl rfl rfl (by decide)
def f_slices_Clone___int_int_ (fu : Nat) (a0 : (List Int)) : Option (List Int) := (amb (a0.isEmpty) (some ([] : List Int)) (req (((([] : List Int).length + a0.length) * 8 : Nat) ≤ 140737488355328 ∧ ([] : List Int).length + a0.length ≤ 9223372036854775807) (some (([] : List Int) ++ a0))))
set_option maxHeartbeats 2000000 in
set_option maxRecDepth 100000 in
theorem f_slices_Clone___int_int__ok (fu : Nat) (v0_0 : Value) (a0 : (List Int)) {r : (List Int)} (h : f_slices_Clone___int_int_ fu a0 = some r) : FnOk Try.prog 65 [v0_0] [(fDat (tyList (tyInt .i64)) [v0_0] a0)] [] (fun (i : Value) => { val := i, own := [(oRow i 3 (tyInt .i64) r)] }) := by
 unfold f_slices_Clone___int_int_ at h
 refine fn_enter Try.func65 rfl Try.ntmps65 rfl (fun w0 Z0 => ?_)
 refine aw_sr ?_
 refine an_ ?_
 refine aw_seq ?_
 refine sm_ ?_
 refine al_isNilD 0 rfl rfl rfl Try.underlying30 rfl (fun nb1 hn2 => ?_)
 refine al_nt ?_
 refine aw_cond rfl (fun hb3 => ?_) (fun hb3 => ?_)
 replace h := (amb_some h).2 (isEmpty_of (hn2 hb3))
 refine aw_sr ?_
 refine an_ ?_
 refine aw_ret ?_
 refine aq_then_ret ?_
 refine aq_nilR 3 tq ?_
 cases h
 exact fn_ret nS [0] [] rfl rfl rfl rfl (res1 rfl rfl) rfl rfl rfl (by decide)
 replace h := (amb_some h).1
 refine aw_skip ?_
 refine aq_tr ?_
 refine al_buildSlice (τ := tq) (e := 3) (k := 0) (sz := 0) (by_ := 0) (z := undef) (cs := []) (xs := ([] : List Int)) rfl (by decide) (fun w a hm hs => ⟨([]).toArray, rfl, by simp only [List.map_toArray, List.map_cons, List.map_nil]; exact run_bs [] [] Try.underlying30 to3 rfl rfl bs_nil hm⟩) (fun hm => rfl) rfl (fun v4 => ?_)
 refine mv_ ?_
 obtain ⟨hc5, h⟩ := req_some h
 refine al_append 0 hc5.1 hc5.2 rfl (src_dat (i := 0) 0 rfl) rfl rfl Try.underlying30 to3 rfl rfl rfl (fun v6 => ?_)
 refine an_ ?_
 refine aw_ret ?_
 cases h
 exact fn_ret v6 [0] [] rfl rfl rfl rfl (res1 rfl rfl) rfl rfl rfl (by decide)
def f_sweep_copyOf_L10 (a0 : S_api_Heap) (kk7 : ((List S_api_Thing) → Option D_sweep_heap)) (fu : Nat) : Nat → (List S_api_Thing) → Int → Option D_sweep_heap
  | 0, _, _ => none
  | k9 + 1, l8x3_0, l8i17 => (bif (decide (l8i17 < (a0.Things.length : Int))) then (opt (at? a0.Things l8i17) fun (u12 : S_api_Thing) => (opt (f_slices_Clone___int_int_ fu u12.Kids) fun (r19 : (List Int)) => (req (((l8x3_0.length + ([(S_api_Thing.mk r19 u12.Colour u12.Free)]).length) * 40 : Nat) ≤ 140737488355328 ∧ l8x3_0.length + ([(S_api_Thing.mk r19 u12.Colour u12.Free)]).length ≤ 9223372036854775807) (f_sweep_copyOf_L10 a0 kk7 fu k9 (l8x3_0 ++ ([(S_api_Thing.mk r19 u12.Colour u12.Free)])) (IntKind.i64.wrap (l8i17 + (1 : Int))))))) else (kk7 l8x3_0))
def f_sweep_copyOf (fu : Nat) (a0 : S_api_Heap) : Option D_sweep_heap := (opt (f_slices_Clone___int_int_ fu a0.Roots) fun (r3 : (List Int)) => (lt (fun (j6x3_0 : (List S_api_Thing)) => (some (D_sweep_heap.mk j6x3_0 r3 a0.Busy))) fun (kk7 : (List S_api_Thing) → Option D_sweep_heap) => (f_sweep_copyOf_L10 a0 kk7 fu fu ([] : List S_api_Thing) (0 : Int))))
abbrev mm3 (w0 : World) (Z0 : Nat → Prop) (a0 : S_api_Heap) (g1 : Nat) (r3 : (List Int)) (v0_0 : Value) (v0_1 : Value) (v4 : Value) : Mem := memOf w0 Z0 [] [(oRow v4 3 (tyInt .i64) r3), (oBox g1 38 [v0_0, v0_1, (bool a0.Busy)])] [(fDat (tyList tyS_api_Thing) [v0_0] a0.Things), (fDat (tyList (tyInt .i64)) [v0_1] a0.Roots)]
abbrev mm4 (w0 : World) (Z0 : Nat → Prop) (a0 : S_api_Heap) (g1 : Nat) (g5 : Nat) (r3 : (List Int)) (v0_0 : Value) (v0_1 : Value) (v4 : Value) : Mem := memOf w0 Z0 [] [(oBox g5 77 [(Value.slice none 0 0), v4, (bool a0.Busy)]), (oRow v4 3 (tyInt .i64) r3), (oBox g1 38 [v0_0, v0_1, (bool a0.Busy)])] [(fDat (tyList tyS_api_Thing) [v0_0] a0.Things), (fDat (tyList (tyInt .i64)) [v0_1] a0.Roots)]
abbrev mm5 (w0 : World) (Z0 : Nat → Prop) (a0 : S_api_Heap) (g17 : Nat) (g5 : Nat) (l8us3_0 : (List Value)) (l8v3_0 : Value) (l8x3_0 : (List S_api_Thing)) (p14 : Value) (r19 : (List Int)) (r3 : (List Int)) (s15 : Value) (u12 : S_api_Thing) (v0_0 : Value) (v0_1 : Value) (v20 : Value) (v4 : Value) : Mem := memOf w0 Z0 [] [(oRow v20 3 (tyInt .i64) r19), (oBox g17 71 [v20, (int .i64 u12.Colour), (bool u12.Free)]), (oKids l8v3_0 71 tyhS_api_Thing 3 (tyInt .i64) (fun x : S_api_Thing => x.Kids) none l8us3_0 l8x3_0), (oRow v4 3 (tyInt .i64) r3), (oBox g5 77 [l8v3_0, v4, (bool a0.Busy)])] [(fDat (tyList (tyInt .i64)) [s15] u12.Kids), (fDat tyS_api_Thing [s15, (int .i64 u12.Colour), (bool u12.Free)] u12), (fPtr tyS_api_Thing p14 u12), (fDat (tyList tyS_api_Thing) [v0_0] a0.Things), (fDat (tyList (tyInt .i64)) [v0_1] a0.Roots)]
abbrev mm6 (w0 : World) (Z0 : Nat → Prop) (a0 : S_api_Heap) (g17 : Nat) (g5 : Nat) (l8us3_0 : (List Value)) (l8v3_0 : Value) (l8x3_0 : (List S_api_Thing)) (p14 : Value) (r19 : (List Int)) (r3 : (List Int)) (s15 : Value) (u12 : S_api_Thing) (v0_0 : Value) (v0_1 : Value) (v20 : Value) (v21 : Value) (v4 : Value) : Mem := memOf w0 Z0 [] [(oKids v21 71 tyhS_api_Thing 3 (tyInt .i64) (fun x : S_api_Thing => x.Kids) none ([v20]) ([(S_api_Thing.mk r19 u12.Colour u12.Free)])), (oBox g17 71 [v20, (int .i64 u12.Colour), (bool u12.Free)]), (oKids l8v3_0 71 tyhS_api_Thing 3 (tyInt .i64) (fun x : S_api_Thing => x.Kids) none l8us3_0 l8x3_0), (oRow v4 3 (tyInt .i64) r3), (oBox g5 77 [l8v3_0, v4, (bool a0.Busy)])] [(fDat (tyList (tyInt .i64)) [s15] u12.Kids), (fDat tyS_api_Thing [s15, (int .i64 u12.Colour), (bool u12.Free)] u12), (fPtr tyS_api_Thing p14 u12), (fDat (tyList tyS_api_Thing) [v0_0] a0.Things), (fDat (tyList (tyInt .i64)) [v0_1] a0.Roots)]
abbrev mm7 (w0 : World) (Z0 : Nat → Prop) (a0 : S_api_Heap) (g17 : Nat) (g5 : Nat) (l8us3_0 : (List Value)) (l8v3_0 : Value) (l8x3_0 : (List S_api_Thing)) (p14 : Value) (r19 : (List Int)) (r3 : (List Int)) (s15 : Value) (u12 : S_api_Thing) (v0_0 : Value) (v0_1 : Value) (v20 : Value) (v22 : Value) (v4 : Value) : Mem := memOf w0 Z0 [] [(oKids v22 71 tyhS_api_Thing 3 (tyInt .i64) (fun x : S_api_Thing => x.Kids) none (l8us3_0 ++ ([v20])) (l8x3_0 ++ ([(S_api_Thing.mk r19 u12.Colour u12.Free)]))), (oBox g17 71 [v20, (int .i64 u12.Colour), (bool u12.Free)]), (oRow v4 3 (tyInt .i64) r3), (oBox g5 77 [l8v3_0, v4, (bool a0.Busy)])] [(fDat (tyList (tyInt .i64)) [s15] u12.Kids), (fDat tyS_api_Thing [s15, (int .i64 u12.Colour), (bool u12.Free)] u12), (fPtr tyS_api_Thing p14 u12), (fDat (tyList tyS_api_Thing) [v0_0] a0.Things), (fDat (tyList (tyInt .i64)) [v0_1] a0.Roots)]
abbrev mm8 (w0 : World) (Z0 : Nat → Prop) (a0 : S_api_Heap) (g17 : Nat) (g5 : Nat) (l8us3_0 : (List Value)) (l8x3_0 : (List S_api_Thing)) (p14 : Value) (r19 : (List Int)) (r3 : (List Int)) (s15 : Value) (u12 : S_api_Thing) (v0_0 : Value) (v0_1 : Value) (v20 : Value) (v22 : Value) (v4 : Value) : Mem := memOf w0 Z0 [] [(oKids v22 71 tyhS_api_Thing 3 (tyInt .i64) (fun x : S_api_Thing => x.Kids) none (l8us3_0 ++ ([v20])) (l8x3_0 ++ ([(S_api_Thing.mk r19 u12.Colour u12.Free)]))), (oBox g17 71 [v20, (int .i64 u12.Colour), (bool u12.Free)]), (oRow v4 3 (tyInt .i64) r3), (oBox g5 77 [v22, v4, (bool a0.Busy)])] [(fDat (tyList (tyInt .i64)) [s15] u12.Kids), (fDat tyS_api_Thing [s15, (int .i64 u12.Colour), (bool u12.Free)] u12), (fPtr tyS_api_Thing p14 u12), (fDat (tyList tyS_api_Thing) [v0_0] a0.Things), (fDat (tyList (tyInt .i64)) [v0_1] a0.Roots)]
set_option maxHeartbeats 2000000 in
set_option maxRecDepth 100000 in
theorem f_sweep_copyOf_ok (fu : Nat) (v0_0 : Value) (v0_1 : Value) (a0 : S_api_Heap) {r : D_sweep_heap} (h : f_sweep_copyOf fu a0 = some r) : FnOk Try.prog 35 [(ag [v0_0, v0_1, (bool a0.Busy)])] [(fDat (tyList tyS_api_Thing) [v0_0] a0.Things), (fDat (tyList (tyInt .i64)) [v0_1] a0.Roots)] [] (fun (i : Nat × Value × List Value × Value) => { val := (ptr i.1 0), own := [(oBox i.1 77 [i.2.1, i.2.2.2, (bool r.Busy)]), (oKids i.2.1 71 tyhS_api_Thing 3 (tyInt .i64) (fun x : S_api_Thing => x.Kids) none i.2.2.1 r.Things), (oRow i.2.2.2 3 (tyInt .i64) r.Roots)] }) := by
 unfold f_sweep_copyOf at h
 refine fn_enter Try.func35 rfl Try.ntmps35 rfl (fun w0 Z0 => ?_)
 refine aw_sr ?_
 refine al_box (vs := [v0_0, v0_1, (bool a0.Busy)]) rfl (cv_rfl rfl) rfl (fun g1 => ?_)
 refine an_ ?_
 refine aw_seq ?_
 refine aw_region_open [(sp_ 0 6 (ptr g1 1)), (sp_ 1 7 v0_1), (sp_ 3 9 (ptr g1 2)), (sp_ 4 10 (bool a0.Busy))] (tab [(1, (pq g1))]) mixed (fun a hs => hs.tab _ (allT_mem ⟨rfl, trivial⟩)) ?_
 refine ta_show (m := (memOf w0 Z0 [] [(oBox g1 38 [v0_0, v0_1, (bool a0.Busy)])] [(fDat (tyList tyS_api_Thing) [v0_0] a0.Things), (fDat (tyList tq) [v0_1] a0.Roots)])) (S := _) ?_
 refine ta_step 2 _ [0, 1, 3, 4] [6, 7, 9, 10] [0, 1] [5, 6, 7] [(sp_ 0 6 (ptr g1 1)), (sp_ 1 7 v0_1)] [(sp_ 3 9 (ptr g1 2)), (sp_ 4 10 (bool a0.Busy))] rfl rfl rfl (by kernel_rfl) rfl rfl rfl ⟨⟨_, rfl, [], rfl, by
  intro X_ Y_ F_ K_ hK_
  refine sh_ (memOf w0 Z0 [] [(oBox g1 38 [v0_0, v0_1, (bool a0.Busy)])] [(fDat (tyList tyS_api_Thing) [v0_0] a0.Things), (fDat (tyList tq) [v0_1] a0.Roots)]) X_ Y_ ?_
  refine al_val (ov_fieldA (p := 1) rfl Try.underlying38 rfl sz30 rfl rfl rfl) ?_
  refine al_nil ?_
  exact fr_fin hK_ ()⟩, ⟨_, rfl, [0], rfl, by
  intro _
  intro X_ Y_ F_ K_ hK_
  refine sh_ (memOf w0 Z0 [] [(oBox g1 38 [v0_0, v0_1, (bool a0.Busy)])] [(fDat (tyList tyS_api_Thing) [v0_0] a0.Things), (fDat (tyList tq) [v0_1] a0.Roots)]) X_ Y_ ?_
  refine al_val (ov_load (i := 0) (v := v0_1) rfl rfl Try.underlying30 sz30 rfl rfl rfl rfl) ?_
  refine al_nil ?_
  exact fr_fin hK_ ()⟩, ⟨_, rfl, [], rfl, by
  intro X_ Y_ F_ K_ hK_
  refine sh_ (memOf w0 Z0 [] [(oBox g1 38 [v0_0, v0_1, (bool a0.Busy)])] [(fDat (tyList tyS_api_Thing) [v0_0] a0.Things), (fDat (tyList tq) [v0_1] a0.Roots)]) X_ Y_ ?_
  refine al_val (ov_fieldA (p := 2) rfl Try.underlying38 rfl sz4 rfl rfl rfl) ?_
  refine al_nil ?_
  exact fr_fin hK_ ()⟩, ⟨_, rfl, [2], rfl, by
  intro _
  intro X_ Y_ F_ K_ hK_
  refine sh_ (memOf w0 Z0 [] [(oBox g1 38 [v0_0, v0_1, (bool a0.Busy)])] [(fDat (tyList tyS_api_Thing) [v0_0] a0.Things), (fDat (tyList tq) [v0_1] a0.Roots)]) X_ Y_ ?_
  refine al_val (ov_load (i := 0) (v := (bool a0.Busy)) rfl rfl Try.underlying4 sz4 rfl rfl rfl rfl) ?_
  refine al_nil ?_
  exact fr_fin hK_ ()⟩, trivial⟩ ?_
 intro _
 intro _
 intro X_ Y_ F_ K_ hK_
 refine sh_ (memOf w0 Z0 [] [(oBox g1 38 [v0_0, v0_1, (bool a0.Busy)])] [(fDat (tyList tyS_api_Thing) [v0_0] a0.Things), (fDat (tyList tq) [v0_1] a0.Roots)]) X_ Y_ ?_
 obtain ⟨r3, hc2, h⟩ := opt_some h
 refine al_callX (vs := [v0_1]) (f_slices_Clone___int_int__ok fu v0_1 a0.Roots hc2) [] [] [0] (pre_fz 1 rfl pre_nil) rfl (by simp) (by decide) rfl (.inl rfl) rfl Try.func65 rfl rfl rfl (fun v4 => ?_)
 refine al_nil ?_
 refine aq_show (m := Mem.plus (mm3 w0 Z0 a0 g1 r3 v0_0 v0_1 v4) X_ Y_) ?_
 refine aq_next hK_ [0, 1] [0, 1] [(1, (pq g1)), (8, v4)] [9, 10] [(sp_ 5 11 (ag [nS, v4, (bool a0.Busy)])), (sp_ 6 12 (ag [nS, v4, (bool a0.Busy)])), ⟨7, 13, Nat, fun (i : Nat) => { val := (pq i), own := [(oBox i 77 [nS, v4, (bool a0.Busy)])] }⟩] rfl rfl (by decide) rfl ⟨rfl, rfl, trivial⟩ ⟨rfl, rfl, trivial⟩ ?_
 clear hK_ K_ F_ X_ Y_
 refine ta_show (m := (mm3 w0 Z0 a0 g1 r3 v0_0 v0_1 v4)) (S := _) ?_
 refine ta_step 8 _ [3, 4, 5, 6, 7] [9, 10, 11, 12, 13] [3, 4, 5, 6, 7] [] [(sp_ 3 9 (ptr g1 2)), (sp_ 4 10 (bool a0.Busy)), (sp_ 5 11 (ag [nS, v4, (bool a0.Busy)])), (sp_ 6 12 (ag [nS, v4, (bool a0.Busy)])), ⟨7, 13, Nat, fun (i : Nat) => { val := (pq i), own := [(oBox i 77 [nS, v4, (bool a0.Busy)])] }⟩] [] rfl rfl rfl (by kernel_rfl) rfl rfl rfl ⟨⟨_, rfl, [], rfl, by
  intro X_ Y_ F_ K_ hK_
  refine sh_ (mm3 w0 Z0 a0 g1 r3 v0_0 v0_1 v4) X_ Y_ ?_
  refine al_val (ov_fieldA (p := 2) rfl Try.underlying38 rfl sz4 rfl rfl rfl) ?_
  refine al_nil ?_
  exact fr_fin hK_ ()⟩, ⟨_, rfl, [0], rfl, by
  intro _
  intro X_ Y_ F_ K_ hK_
  refine sh_ (mm3 w0 Z0 a0 g1 r3 v0_0 v0_1 v4) X_ Y_ ?_
  refine al_val (ov_load (i := 1) (v := (bool a0.Busy)) rfl rfl Try.underlying4 sz4 rfl rfl rfl rfl) ?_
  refine al_nil ?_
  exact fr_fin hK_ ()⟩, ⟨_, rfl, [1], rfl, by
  intro _
  intro X_ Y_ F_ K_ hK_
  refine sh_ (mm3 w0 Z0 a0 g1 r3 v0_0 v0_1 v4) X_ Y_ ?_
  refine al_val (ov_build (cells := ([nS, v4, (bool a0.Busy)] : List Value).toArray) (cs := [nS, v4, (bool a0.Busy)]) rfl (fun w a hm hs => by simp only [List.map_toArray, List.map_cons, List.map_nil, List.toList_toArray, hs.ev (x := .tmp 8) rfl, hs.ev (x := .tmp 10) rfl]; obtain ⟨A0, l0, c0, e0⟩ := sl_own 0 rfl hm; rw [e0]; kernel_rfl)) ?_
  refine al_nil ?_
  exact fr_fin hK_ ()⟩, ⟨_, rfl, [2], rfl, by
  intro _
  intro X_ Y_ F_ K_ hK_
  refine sh_ (mm3 w0 Z0 a0 g1 r3 v0_0 v0_1 v4) X_ Y_ ?_
  refine al_val (ov_build (cells := ([nS, v4, (bool a0.Busy)] : List Value).toArray) (cs := [nS, v4, (bool a0.Busy)]) rfl (fun w a hm hs => by simp only [List.map_toArray, List.map_cons, List.map_nil, List.toList_toArray, hs.ev (x := .tmp 11) rfl]; kernel_rfl)) ?_
  refine al_nil ?_
  exact fr_fin hK_ ()⟩, ⟨_, rfl, [3], rfl, by
  intro _
  intro X_ Y_ F_ K_ hK_
  refine sh_ (mm3 w0 Z0 a0 g1 r3 v0_0 v0_1 v4) X_ Y_ ?_
  refine al_box (vs := [nS, v4, (bool a0.Busy)]) rfl (cv_rfl rfl) rfl (fun g5 => ?_)
  refine al_nil ?_
  exact fr_fin hK_ g5⟩, trivial⟩ ?_
 intro _
 intro _
 intro _
 intro _
 intro g5
 intro X_ Y_ F_ K_ hK_
 refine sh_ (mm4 w0 Z0 a0 g1 g5 r3 v0_0 v0_1 v4) X_ Y_ ?_
 refine as_ ?_
 refine al_nil ?_
 refine aq_show (m := Mem.plus (mm4 w0 Z0 a0 g1 g5 r3 v0_0 v0_1 v4) X_ Y_) ?_
 refine aq_next hK_ [0, 1, 2] [0, 1] [(1, (pq g1)), (3, (pq g5))] [] [] rfl rfl (by decide) rfl ⟨rfl, rfl, trivial⟩ trivial ?_
 clear hK_ K_ F_ X_ Y_
 refine ta_show (m := (mm4 w0 Z0 a0 g1 g5 r3 v0_0 v0_1 v4)) (S := _) ?_
 refine ta_end [] [] rfl rfl (by kernel_rfl) rfl trivial ?_
 refine aq_show (m := (mm4 w0 Z0 a0 g1 g5 r3 v0_0 v0_1 v4)) (S := (tab [(1, (pq g1)), (3, (pq g5))])) ?_
 refine aq_then ?_
 obtain ⟨kk7, hkk7, h⟩ := lt_some h
 refine aw_seq_join (ι := Value × (List S_api_Thing) × (List Value)) (fun i => (memOf w0 Z0 [] [(oKids i.1 71 tyhS_api_Thing 3 tq (fun x : S_api_Thing => x.Kids) none i.2.2 i.2.1), (oRow v4 3 tq r3), (oBox g5 77 [i.1, v4, (bool a0.Busy)])] [(fDat (tyList tyS_api_Thing) [v0_0] a0.Things), (fDat (tyList tq) [v0_1] a0.Roots)])) (fun i => (tab [(3, (pq g5))])) (fun i => kk7 i.2.1 = some r) ?_ ?_
 rintro ⟨j6v3_0, j6x3_0, j6us3_0⟩ h
 have h : kk7 j6x3_0 = some r := h
 rw [hkk7] at h
 dsimp only at h
 clear hkk7
 refine aw_show (m := (memOf w0 Z0 [] [(oKids j6v3_0 71 tyhS_api_Thing 3 tq (fun x : S_api_Thing => x.Kids) none j6us3_0 j6x3_0), (oRow v4 3 tq r3), (oBox g5 77 [j6v3_0, v4, (bool a0.Busy)])] [(fDat (tyList tyS_api_Thing) [v0_0] a0.Things), (fDat (tyList tq) [v0_1] a0.Roots)])) (S := _) ?_
 refine sm_ ?_
 refine an_ ?_
 refine aw_ret ?_
 cases h
 exact fn_ret (g5, j6v3_0, j6us3_0, v4) [2, 0, 1] [] rfl rfl rfl rfl (res1 rfl rfl) rfl rfl rfl (by decide)
 clear hkk7
 refine aw_sr ?_
 refine al_val (ov_fieldA (p := 0) rfl Try.underlying38 rfl sz36 rfl rfl rfl) ?_
 refine al_val (ov_load (i := 2) (v := v0_0) rfl rfl Try.underlying36 sz36 rfl rfl rfl rfl) ?_
 refine al_val (ov_lenD 0 rfl rfl Try.underlying36 rfl) ?_
 refine mv_ ?_
 refine al_nt ?_
 refine aw_block ?_
 refine aw_nilK 71 tyhS_api_Thing 3 tq (fun x : S_api_Thing => x.Kids) ?_
 refine aw_state (aw_loop (ι := Value × (List S_api_Thing) × (List Value) × Int) (fun i => (memOf w0 Z0 [] [(oKids i.1 71 tyhS_api_Thing 3 tq (fun x : S_api_Thing => x.Kids) none i.2.2.1 i.2.1), (oRow v4 3 tq r3), (oBox g5 77 [i.1, v4, (bool a0.Busy)])] [(fDat (tyList tyS_api_Thing) [v0_0] a0.Things), (fDat (tyList tq) [v0_1] a0.Roots)])) (fun i => (tab [(3, (pq g5)), (15, v0_0), (16, (iq (a0.Things.length : Int))), (17, (iq i.2.2.2))])) (fun q i => f_sweep_copyOf_L10 a0 kk7 fu q i.2.1 i.2.2.2 = some r) ?_ fu (nS, ([] : List S_api_Thing), ([] : List Value), (0 : Int)) h) (nm_ [0, 2, 1] [0, 1] (by decide) ⟨rfl, rfl, rfl, rfl, trivial⟩)
 clear h
 rintro k9 ⟨l8v3_0, l8x3_0, l8us3_0, l8i17⟩ h
 have h : f_sweep_copyOf_L10 a0 kk7 fu k9 l8x3_0 l8i17 = some r := h
 obtain _ | k9 := k9
 rw [f_sweep_copyOf_L10] at h; cases h
 rw [f_sweep_copyOf_L10] at h
 refine aw_show (m := (memOf w0 Z0 [] [(oKids l8v3_0 71 tyhS_api_Thing 3 tq (fun x : S_api_Thing => x.Kids) none l8us3_0 l8x3_0), (oRow v4 3 tq r3), (oBox g5 77 [l8v3_0, v4, (bool a0.Busy)])] [(fDat (tyList tyS_api_Thing) [v0_0] a0.Things), (fDat (tyList tq) [v0_1] a0.Roots)])) (S := _) ?_
 refine aw_sr ?_
 refine im_ ?_
 refine aw_seq ?_
 refine aw_cond rfl (fun hb11 => ?_) (fun hb11 => ?_)
 replace h := bif_t hb11 h
 refine aw_skip ?_
 refine aq_then ?_
 refine aw_seq ?_
 refine aw_block ?_
 refine aw_sr ?_
 obtain ⟨u12, hu13, h⟩ := opt_some h
 refine al_idxD 0 hu13 rfl rfl rfl Try.underlying36 sz71 rfl (fun p14 => ?_)
 refine al_loadPA 0 rfl rfl Try.underlying71 sz71 rfl rfl (fun cs16 => ?_)
 refine al_use (ι := Value) 0 rfl (fun j => cs16 = [j, (iq u12.Colour), (bool u12.Free)]) (fun j => [(fDat (tyList tq) [j] u12.Kids)]) encnS_api_Thing (fun s15 hq => ?_)
 subst hq
 refine al_alloc (zs := [nS, (iq (0 : Int)), (bool false)]) (zeroOf_to to71) rfl rfl (fun g17 => ?_)
 refine al_store (i := 0) (vs := [s15, (iq u12.Colour), (bool u12.Free)]) (cs' := [s15, (iq u12.Colour), (bool u12.Free)]) rfl rfl rfl sz71 (cv_rfl rfl) rfl (co_fz 0 rfl (co_val rfl (co_val rfl co_nil))) (Nat.le_of_ble_eq_true rfl) rfl rfl ?_
 refine al_nt ?_
 refine aw_sr ?_
 refine al_val (ov_fieldA (p := 0) rfl Try.underlying71 rfl sz30 rfl rfl rfl) ?_
 refine al_val (ov_load (i := 0) (v := s15) rfl rfl Try.underlying30 sz30 rfl rfl rfl rfl) ?_
 obtain ⟨r19, hc18, h⟩ := opt_some h
 refine al_call (vs := [s15]) (f_slices_Clone___int_int__ok fu s15 u12.Kids hc18) [] [] [0, 1, 2, 3] (pre_fz 0 rfl pre_nil) rfl (by simp) (by decide) (.inl rfl) rfl Try.func65 rfl rfl rfl (fun v20 => ?_)
 refine al_val (ov_fieldA (p := 0) rfl Try.underlying71 rfl sz30 rfl rfl rfl) ?_
 refine al_store (i := 1) (vs := [v20]) (cs' := [v20, (iq u12.Colour), (bool u12.Free)]) rfl rfl rfl sz30 (cv_own 0 rfl) rfl (co_own 0 rfl co_nil) (Nat.le_of_ble_eq_true rfl) rfl rfl ?_
 refine al_nt ?_
 refine aw_region_open [(sp_ 0 25 (pq g5)), (sp_ 1 26 (pq g5)), (sp_ 2 27 (pq g5)), (sp_ 3 28 (pq g5)), (sp_ 4 29 (pq g5)), (sp_ 5 30 l8v3_0), (sp_ 6 31 (ag [v20, (iq u12.Colour), (bool u12.Free)]))] (tab [(3, (pq g5)), (5, (pq g17)), (15, v0_0), (16, (iq (a0.Things.length : Int))), (17, (iq l8i17))]) mixed (fun a hs => hs.tab _ (allT_mem ⟨rfl, rfl, rfl, rfl, rfl, trivial⟩)) ?_
 refine ta_show (m := (mm5 w0 Z0 a0 g17 g5 l8us3_0 l8v3_0 l8x3_0 p14 r19 r3 s15 u12 v0_0 v0_1 v20 v4)) (S := _) ?_
 refine ta_step 7 _ [0, 1, 2, 3, 4, 5, 6] [25, 26, 27, 28, 29, 30, 31] [6] [] [(sp_ 6 31 (ag [v20, (iq u12.Colour), (bool u12.Free)]))] [(sp_ 0 25 (pq g5)), (sp_ 1 26 (pq g5)), (sp_ 2 27 (pq g5)), (sp_ 3 28 (pq g5)), (sp_ 4 29 (pq g5)), (sp_ 5 30 l8v3_0)] rfl rfl rfl (by kernel_rfl) rfl rfl rfl ⟨⟨_, rfl, [], rfl, by
  intro X_ Y_ F_ K_ hK_
  refine sh_ (mm5 w0 Z0 a0 g17 g5 l8us3_0 l8v3_0 l8x3_0 p14 r19 r3 s15 u12 v0_0 v0_1 v20 v4) X_ Y_ ?_
  refine mv_ ?_
  refine al_nil ?_
  exact fr_fin hK_ ()⟩, ⟨_, rfl, [], rfl, by
  intro X_ Y_ F_ K_ hK_
  refine sh_ (mm5 w0 Z0 a0 g17 g5 l8us3_0 l8v3_0 l8x3_0 p14 r19 r3 s15 u12 v0_0 v0_1 v20 v4) X_ Y_ ?_
  refine mv_ ?_
  refine al_nil ?_
  exact fr_fin hK_ ()⟩, ⟨_, rfl, [1], rfl, by
  intro _
  intro X_ Y_ F_ K_ hK_
  refine sh_ (mm5 w0 Z0 a0 g17 g5 l8us3_0 l8v3_0 l8x3_0 p14 r19 r3 s15 u12 v0_0 v0_1 v20 v4) X_ Y_ ?_
  refine al_val (ov_nilCheck rfl rfl) ?_
  refine al_nil ?_
  exact fr_fin hK_ ()⟩, ⟨_, rfl, [2], rfl, by
  intro _
  intro X_ Y_ F_ K_ hK_
  refine sh_ (mm5 w0 Z0 a0 g17 g5 l8us3_0 l8v3_0 l8x3_0 p14 r19 r3 s15 u12 v0_0 v0_1 v20 v4) X_ Y_ ?_
  refine al_val (ov_fieldA (p := 0) rfl Try.underlying77 rfl sz38 rfl rfl rfl) ?_
  refine al_nil ?_
  exact fr_fin hK_ ()⟩, ⟨_, rfl, [3], rfl, by
  intro _
  intro X_ Y_ F_ K_ hK_
  refine sh_ (mm5 w0 Z0 a0 g17 g5 l8us3_0 l8v3_0 l8x3_0 p14 r19 r3 s15 u12 v0_0 v0_1 v20 v4) X_ Y_ ?_
  refine al_val (ov_fieldA (p := 0) rfl Try.underlying38 rfl sz36 rfl rfl rfl) ?_
  refine al_nil ?_
  exact fr_fin hK_ ()⟩, ⟨_, rfl, [4], rfl, by
  intro _
  intro X_ Y_ F_ K_ hK_
  refine sh_ (mm5 w0 Z0 a0 g17 g5 l8us3_0 l8v3_0 l8x3_0 p14 r19 r3 s15 u12 v0_0 v0_1 v20 v4) X_ Y_ ?_
  refine al_val (ov_load (i := 4) (v := l8v3_0) rfl rfl Try.underlying36 sz36 rfl rfl rfl rfl) ?_
  refine al_nil ?_
  exact fr_fin hK_ ()⟩, ⟨_, rfl, [], rfl, by
  intro X_ Y_ F_ K_ hK_
  refine sh_ (mm5 w0 Z0 a0 g17 g5 l8us3_0 l8v3_0 l8x3_0 p14 r19 r3 s15 u12 v0_0 v0_1 v20 v4) X_ Y_ ?_
  refine al_val (ov_load (i := 1) (v := (ag [v20, (iq u12.Colour), (bool u12.Free)])) rfl rfl Try.underlying71 sz71 rfl rfl rfl rfl) ?_
  refine al_nil ?_
  exact fr_fin hK_ ()⟩, trivial⟩ ?_
 intro _
 intro X_ Y_ F_ K_ hK_
 refine sh_ (mm5 w0 Z0 a0 g17 g5 l8us3_0 l8v3_0 l8x3_0 p14 r19 r3 s15 u12 v0_0 v0_1 v20 v4) X_ Y_ ?_
 refine al_buildSliceK (x := (S_api_Thing.mk r19 u12.Colour u12.Free)) (u := v20) (eb := 3) (τk := tq) (kd := (fun x : S_api_Thing => x.Kids)) (τh := tyhS_api_Thing) (e := 71) (cs := [v20, (iq u12.Colour), (bool u12.Free)]) rfl (fun w a hm hs => ⟨([v20, (iq u12.Colour), (bool u12.Free)]).toArray, rfl, by simp only [List.map_toArray, List.map_cons, List.map_nil, hs.ev (x := .tmp 31) rfl]; exact run_bs [(ag [v20, (iq u12.Colour), (bool u12.Free)])] [v20, (iq u12.Colour), (bool u12.Free)] Try.underlying36 to71 rfl rfl (bs_cons (l := [v20, (iq u12.Colour), (bool u12.Free)]) (cs := []) (cv_rfl rfl) rfl bs_nil) hm⟩) (fun hu => mkhS_api_Thing (x := (S_api_Thing.mk r19 u12.Colour u12.Free)) rfl hu) rfl (fun v21 => ?_)
 refine sh_ (mm6 w0 Z0 a0 g17 g5 l8us3_0 l8v3_0 l8x3_0 p14 r19 r3 s15 u12 v0_0 v0_1 v20 v21 v4) X_ Y_ ?_
 refine al_nil ?_
 refine aq_show (m := Mem.plus (mm6 w0 Z0 a0 g17 g5 l8us3_0 l8v3_0 l8x3_0 p14 r19 r3 s15 u12 v0_0 v0_1 v20 v21 v4) X_ Y_) ?_
 refine aq_next hK_ [0, 1, 2, 3, 4] [0, 1, 2, 3, 4] [(3, (pq g5)), (15, v0_0), (16, (iq (a0.Things.length : Int))), (17, (iq l8i17)), (32, v21)] [25, 26, 27, 28, 29, 30] [] rfl rfl (by decide) rfl ⟨rfl, rfl, rfl, rfl, rfl, trivial⟩ ⟨rfl, rfl, rfl, rfl, rfl, rfl, trivial⟩ ?_
 clear hK_ K_ F_ X_ Y_
 refine ta_show (m := (mm6 w0 Z0 a0 g17 g5 l8us3_0 l8v3_0 l8x3_0 p14 r19 r3 s15 u12 v0_0 v0_1 v20 v21 v4)) (S := _) ?_
 refine ta_step 8 _ [0, 1, 2, 3, 4, 5] [25, 26, 27, 28, 29, 30] [1, 2, 3, 4, 5] [9, 10, 11] [(sp_ 1 26 (pq g5)), (sp_ 2 27 (pq g5)), (sp_ 3 28 (pq g5)), (sp_ 4 29 (pq g5)), (sp_ 5 30 l8v3_0)] [(sp_ 0 25 (pq g5))] rfl rfl rfl (by kernel_rfl) rfl rfl rfl ⟨⟨_, rfl, [], rfl, by
  intro X_ Y_ F_ K_ hK_
  refine sh_ (mm6 w0 Z0 a0 g17 g5 l8us3_0 l8v3_0 l8x3_0 p14 r19 r3 s15 u12 v0_0 v0_1 v20 v21 v4) X_ Y_ ?_
  refine mv_ ?_
  refine al_nil ?_
  exact fr_fin hK_ ()⟩, ⟨_, rfl, [], rfl, by
  intro X_ Y_ F_ K_ hK_
  refine sh_ (mm6 w0 Z0 a0 g17 g5 l8us3_0 l8v3_0 l8x3_0 p14 r19 r3 s15 u12 v0_0 v0_1 v20 v21 v4) X_ Y_ ?_
  refine mv_ ?_
  refine al_nil ?_
  exact fr_fin hK_ ()⟩, ⟨_, rfl, [1], rfl, by
  intro _
  intro X_ Y_ F_ K_ hK_
  refine sh_ (mm6 w0 Z0 a0 g17 g5 l8us3_0 l8v3_0 l8x3_0 p14 r19 r3 s15 u12 v0_0 v0_1 v20 v21 v4) X_ Y_ ?_
  refine al_val (ov_nilCheck rfl rfl) ?_
  refine al_nil ?_
  exact fr_fin hK_ ()⟩, ⟨_, rfl, [2], rfl, by
  intro _
  intro X_ Y_ F_ K_ hK_
  refine sh_ (mm6 w0 Z0 a0 g17 g5 l8us3_0 l8v3_0 l8x3_0 p14 r19 r3 s15 u12 v0_0 v0_1 v20 v21 v4) X_ Y_ ?_
  refine al_val (ov_fieldA (p := 0) rfl Try.underlying77 rfl sz38 rfl rfl rfl) ?_
  refine al_nil ?_
  exact fr_fin hK_ ()⟩, ⟨_, rfl, [3], rfl, by
  intro _
  intro X_ Y_ F_ K_ hK_
  refine sh_ (mm6 w0 Z0 a0 g17 g5 l8us3_0 l8v3_0 l8x3_0 p14 r19 r3 s15 u12 v0_0 v0_1 v20 v21 v4) X_ Y_ ?_
  refine al_val (ov_fieldA (p := 0) rfl Try.underlying38 rfl sz36 rfl rfl rfl) ?_
  refine al_nil ?_
  exact fr_fin hK_ ()⟩, ⟨_, rfl, [4], rfl, by
  intro _
  intro X_ Y_ F_ K_ hK_
  refine sh_ (mm6 w0 Z0 a0 g17 g5 l8us3_0 l8v3_0 l8x3_0 p14 r19 r3 s15 u12 v0_0 v0_1 v20 v21 v4) X_ Y_ ?_
  refine al_val (ov_load (i := 4) (v := l8v3_0) rfl rfl Try.underlying36 sz36 rfl rfl rfl rfl) ?_
  refine al_nil ?_
  exact fr_fin hK_ ()⟩, trivial⟩ ?_
 intro _
 intro _
 intro _
 intro _
 intro _
 intro X_ Y_ F_ K_ hK_
 refine sh_ (mm6 w0 Z0 a0 g17 g5 l8us3_0 l8v3_0 l8x3_0 p14 r19 r3 s15 u12 v0_0 v0_1 v20 v21 v4) X_ Y_ ?_
 refine al_reoX [2, 0, 1, 3, 4] (by decide) rfl ?_
 refine sh_ (memOf w0 Z0 [] [(oKids l8v3_0 71 tyhS_api_Thing 3 tq (fun x : S_api_Thing => x.Kids) none l8us3_0 l8x3_0), (oKids v21 71 tyhS_api_Thing 3 tq (fun x : S_api_Thing => x.Kids) none ([v20]) ([(S_api_Thing.mk r19 u12.Colour u12.Free)])), (oBox g17 71 [v20, (iq u12.Colour), (bool u12.Free)]), (oRow v4 3 tq r3), (oBox g5 77 [l8v3_0, v4, (bool a0.Busy)])] [(fDat (tyList tq) [s15] u12.Kids), (fDat tyS_api_Thing [s15, (iq u12.Colour), (bool u12.Free)] u12), (fPtr tyS_api_Thing p14 u12), (fDat (tyList tyS_api_Thing) [v0_0] a0.Things), (fDat (tyList tq) [v0_1] a0.Roots)]) X_ Y_ ?_
 obtain ⟨hc23, h⟩ := req_some h
 refine al_appendK hc23.1 hc23.2 rfl rfl rfl Try.underlying36 to71 rfl rfl rfl (fun v22 => ?_)
 refine sh_ (mm7 w0 Z0 a0 g17 g5 l8us3_0 l8v3_0 l8x3_0 p14 r19 r3 s15 u12 v0_0 v0_1 v20 v22 v4) X_ Y_ ?_
 refine al_nil ?_
 refine aq_show (m := Mem.plus (mm7 w0 Z0 a0 g17 g5 l8us3_0 l8v3_0 l8x3_0 p14 r19 r3 s15 u12 v0_0 v0_1 v20 v22 v4) X_ Y_) ?_
 refine aq_next hK_ [0, 1, 2, 3] [0, 1, 2, 3, 4] [(3, (pq g5)), (15, v0_0), (16, (iq (a0.Things.length : Int))), (17, (iq l8i17)), (33, v22)] [25] [(sp_ 9 34 (pq g5)), (sp_ 10 35 (pq g5)), (sp_ 11 36 (pq g5))] rfl rfl (by decide) rfl ⟨rfl, rfl, rfl, rfl, rfl, trivial⟩ ⟨rfl, trivial⟩ ?_
 clear hK_ K_ F_ X_ Y_
 refine ta_show (m := (mm7 w0 Z0 a0 g17 g5 l8us3_0 l8v3_0 l8x3_0 p14 r19 r3 s15 u12 v0_0 v0_1 v20 v22 v4)) (S := _) ?_
 refine ta_step 12 _ [0, 9, 10, 11] [25, 34, 35, 36] [0, 9, 10, 11] [] [(sp_ 0 25 (pq g5)), (sp_ 9 34 (pq g5)), (sp_ 10 35 (pq g5)), (sp_ 11 36 (pq g5))] [] rfl rfl rfl (by kernel_rfl) rfl rfl rfl ⟨⟨_, rfl, [], rfl, by
  intro X_ Y_ F_ K_ hK_
  refine sh_ (mm7 w0 Z0 a0 g17 g5 l8us3_0 l8v3_0 l8x3_0 p14 r19 r3 s15 u12 v0_0 v0_1 v20 v22 v4) X_ Y_ ?_
  refine mv_ ?_
  refine al_nil ?_
  exact fr_fin hK_ ()⟩, ⟨_, rfl, [0], rfl, by
  intro _
  intro X_ Y_ F_ K_ hK_
  refine sh_ (mm7 w0 Z0 a0 g17 g5 l8us3_0 l8v3_0 l8x3_0 p14 r19 r3 s15 u12 v0_0 v0_1 v20 v22 v4) X_ Y_ ?_
  refine al_val (ov_nilCheck rfl rfl) ?_
  refine al_nil ?_
  exact fr_fin hK_ ()⟩, ⟨_, rfl, [0, 1], rfl, by
  intro _
  intro _
  intro X_ Y_ F_ K_ hK_
  refine sh_ (mm7 w0 Z0 a0 g17 g5 l8us3_0 l8v3_0 l8x3_0 p14 r19 r3 s15 u12 v0_0 v0_1 v20 v22 v4) X_ Y_ ?_
  refine al_val (ov_fieldA (p := 0) rfl Try.underlying77 rfl sz38 rfl rfl rfl) ?_
  refine al_nil ?_
  exact fr_fin hK_ ()⟩, ⟨_, rfl, [0, 2], rfl, by
  intro _
  intro _
  intro X_ Y_ F_ K_ hK_
  refine sh_ (mm7 w0 Z0 a0 g17 g5 l8us3_0 l8v3_0 l8x3_0 p14 r19 r3 s15 u12 v0_0 v0_1 v20 v22 v4) X_ Y_ ?_
  refine al_val (ov_fieldA (p := 0) rfl Try.underlying38 rfl sz36 rfl rfl rfl) ?_
  refine al_nil ?_
  exact fr_fin hK_ ()⟩, trivial⟩ ?_
 intro _
 intro _
 intro _
 intro _
 intro X_ Y_ F_ K_ hK_
 refine sh_ (mm7 w0 Z0 a0 g17 g5 l8us3_0 l8v3_0 l8x3_0 p14 r19 r3 s15 u12 v0_0 v0_1 v20 v22 v4) X_ Y_ ?_
 refine al_store (i := 3) (vs := [v22]) (cs' := [v22, v4, (bool a0.Busy)]) rfl rfl rfl sz36 (cv_kids 0 rfl) rfl (co_kids 0 rfl co_nil) (Nat.le_of_ble_eq_true rfl) rfl rfl ?_
 refine al_nil ?_
 refine aq_show (m := Mem.plus (mm8 w0 Z0 a0 g17 g5 l8us3_0 l8x3_0 p14 r19 r3 s15 u12 v0_0 v0_1 v20 v22 v4) X_ Y_) ?_
 refine aq_next hK_ [0, 1, 2, 3] [0, 1, 2, 3, 4] [(3, (pq g5)), (15, v0_0), (16, (iq (a0.Things.length : Int))), (17, (iq l8i17))] [] [] rfl rfl (by decide) rfl ⟨rfl, rfl, rfl, rfl, trivial⟩ trivial ?_
 clear hK_ K_ F_ X_ Y_
 refine ta_show (m := (mm8 w0 Z0 a0 g17 g5 l8us3_0 l8x3_0 p14 r19 r3 s15 u12 v0_0 v0_1 v20 v22 v4)) (S := _) ?_
 refine ta_end [] [] rfl rfl (by kernel_rfl) rfl trivial ?_
 refine aq_show (m := (mm8 w0 Z0 a0 g17 g5 l8us3_0 l8x3_0 p14 r19 r3 s15 u12 v0_0 v0_1 v20 v22 v4)) (S := (tab [(3, (pq g5)), (15, v0_0), (16, (iq (a0.Things.length : Int))), (17, (iq l8i17))])) ?_
 refine aq_block ?_
 refine aq_then ?_
 refine aw_region ?_
 refine in_ ?_
 refine mv_ ?_
 refine al_nil ?_
 exact aq_again k9 (v22, (l8x3_0 ++ ([(S_api_Thing.mk r19 u12.Colour u12.Free)])), (l8us3_0 ++ ([v20])), (wq (l8i17 + (1 : Int)))) (Nat.lt_succ_self _) h (nm_ [0, 2, 3] [3, 4] (by decide) ⟨rfl, rfl, rfl, rfl, trivial⟩)
 replace h := bif_f hb11 h
 refine aw_exit ?_
 refine aq_then_exit ?_
 refine aq_then_exit ?_
 refine aq_block_exit ?_
 exact aq_join (l8v3_0, l8x3_0, l8us3_0) h (nm_ [0, 1, 2] [0, 1] (by decide) ⟨rfl, trivial⟩)
 -- STUCK slices.IndexFunc[[]lumberroom/api.Thing,lumberroom/api.Thing]: lty ['func', [71], [4], False]
def f___sweep_heap__mark_1 (fu : Nat) (a0 : S_api_Thing) : Option Bool := (some (a0.Colour == (1 : Int)))
set_option maxRecDepth 100000 in
theorem f___sweep_heap__mark_1_ok (fu : Nat) (v0_0 : Value) (a0 : S_api_Thing) {r : Bool} (h : f___sweep_heap__mark_1 fu a0 = some r) : FnOk Try.prog 81 [(ag [v0_0, (int .i64 a0.Colour), (bool a0.Free)])] [(fDat (tyList (tyInt .i64)) [v0_0] a0.Kids)] [] (fun (i : Unit) => { val := (bool r) }) := by
 unfold f___sweep_heap__mark_1 at h
 refine fn_enter Try.func81 rfl Try.ntmps81 rfl (fun w0 Z0 => ?_)
 refine aw_sr ?_
 refine al_box (vs := [v0_0, (iq a0.Colour), (bool a0.Free)]) rfl (cv_rfl rfl) rfl (fun g1 => ?_)
 refine an_ ?_
 refine aw_sr ?_
 refine al_val (ov_fieldA (p := 1) rfl Try.underlying71 rfl sz3 rfl rfl rfl) ?_
 refine al_val (ov_load (i := 0) (v := (iq a0.Colour)) rfl rfl Try.underlying3 sz3 rfl rfl rfl rfl) ?_
 refine in_ ?_
 refine an_ ?_
 refine aw_ret ?_
 cases h
 exact fr1_
 -- STUCK (*lumberroom/sweep.heap).shade: lty ['pointer', 77]
 -- STUCK (*lumberroom/sweep.heap).mark: lty ['pointer', 77]
def f___sweep_heap__fresh_1 (fu : Nat) (a0 : S_api_Thing) : Option Bool := (some a0.Free)
set_option maxRecDepth 100000 in
theorem f___sweep_heap__fresh_1_ok (fu : Nat) (v0_0 : Value) (a0 : S_api_Thing) {r : Bool} (h : f___sweep_heap__fresh_1 fu a0 = some r) : FnOk Try.prog 82 [(ag [v0_0, (int .i64 a0.Colour), (bool a0.Free)])] [(fDat (tyList (tyInt .i64)) [v0_0] a0.Kids)] [] (fun (i : Unit) => { val := (bool r) }) := by
 unfold f___sweep_heap__fresh_1 at h
 refine fn_enter Try.func82 rfl Try.ntmps82 rfl (fun w0 Z0 => ?_)
 refine aw_sr ?_
 refine al_box (vs := [v0_0, (iq a0.Colour), (bool a0.Free)]) rfl (cv_rfl rfl) rfl (fun g1 => ?_)
 refine an_ ?_
 refine aw_sr ?_
 refine al_val (ov_fieldA (p := 2) rfl Try.underlying71 rfl sz4 rfl rfl rfl) ?_
 refine al_val (ov_load (i := 0) (v := (bool a0.Free)) rfl rfl Try.underlying4 sz4 rfl rfl rfl rfl) ?_
 refine an_ ?_
 refine aw_ret ?_
 cases h
 exact fr1_
 -- STUCK (*lumberroom/sweep.heap).root: lty ['pointer', 77]
 -- STUCK (*lumberroom/sweep.heap).fresh: lty ['pointer', 77]
 -- STUCK (*lumberroom/sweep.heap).isLive: lty ['pointer', 77]
 -- STUCK slices.Delete[[]int,int]: slices.go:232: call: append to data [open: slices.go:232: call: append to data]
 -- STUCK (*lumberroom/sweep.heap).act: lty ['pointer', 77]
def f_slices_IndexFunc___api_Thing_api_Thing__F81_L5 (a0 : (List S_api_Thing)) (kk2 : (Unit → Option Int)) (fu : Nat) : Nat → Int → Option Int
  | 0, _ => none
  | k4 + 1, l3i8 => (bif (decide (l3i8 < (a0.length : Int))) then (opt (at? a0 l3i8) fun (u7 : S_api_Thing) => (opt (f___sweep_heap__mark_1 fu u7) fun (r13 : Bool) => (bif r13 then (some l3i8) else (f_slices_IndexFunc___api_Thing_api_Thing__F81_L5 a0 kk2 fu k4 (IntKind.i64.wrap (l3i8 + (1 : Int))))))) else (kk2 ()))
def f_slices_IndexFunc___api_Thing_api_Thing__F81 (fu : Nat) (a0 : (List S_api_Thing)) : Option Int := (lt (fun (_ : Unit) => (some (-1 : Int))) fun (kk2 : Unit → Option Int) => (f_slices_IndexFunc___api_Thing_api_Thing__F81_L5 a0 kk2 fu fu (0 : Int)))
set_option maxHeartbeats 2000000 in
set_option maxRecDepth 100000 in
theorem f_slices_IndexFunc___api_Thing_api_Thing__F81_ok (fu : Nat) (v0_0 : Value) (a0 : (List S_api_Thing)) {r : Int} (h : f_slices_IndexFunc___api_Thing_api_Thing__F81 fu a0 = some r) : FnOk Try.prog 80 [v0_0, (Value.func (.func 81) #[] #[])] [(fDat (tyList tyS_api_Thing) [v0_0] a0)] [] (fun (i : Unit) => { val := (int .i64 r) }) := by
 unfold f_slices_IndexFunc___api_Thing_api_Thing__F81 at h
 refine fn_enter Try.func80 rfl Try.ntmps80 rfl (fun w0 Z0 => ?_)
 refine aw_sr ?_
 refine an_ ?_
 obtain ⟨kk2, hkk2, h⟩ := lt_some h
 refine aw_seq_join (ι := Unit) (fun i => (memOf w0 Z0 [] [] [(fDat (tyList tyS_api_Thing) [v0_0] a0)])) (fun i => (tab [])) (fun i => kk2 () = some r) ?_ ?_
 rintro _ h
 have h : kk2 () = some r := h
 rw [hkk2] at h
 dsimp only at h
 clear hkk2
 refine aw_show (m := (memOf w0 Z0 [] [] [(fDat (tyList tyS_api_Thing) [v0_0] a0)])) (S := _) ?_
 refine aw_sr ?_
 refine an_ ?_
 refine aw_ret ?_
 cases h
 exact fr1_
 clear hkk2
 refine sm_ ?_
 refine al_val (ov_lenD 0 rfl rfl Try.underlying36 rfl) ?_
 refine mv_ ?_
 refine al_nt ?_
 refine aw_block ?_
 refine aw_state (aw_loop (ι := Int) (fun i => (memOf w0 Z0 [] [] [(fDat (tyList tyS_api_Thing) [v0_0] a0)])) (fun i => (tab [(0, v0_0), (1, (fq 81)), (7, (iq (a0.length : Int))), (8, (iq i))])) (fun q i => f_slices_IndexFunc___api_Thing_api_Thing__F81_L5 a0 kk2 fu q i = some r) ?_ fu (0 : Int) h) (nm_ [] [0] (by decide) ⟨rfl, rfl, rfl, rfl, trivial⟩)
 clear h
 rintro k4 l3i8 h
 have h : f_slices_IndexFunc___api_Thing_api_Thing__F81_L5 a0 kk2 fu k4 l3i8 = some r := h
 obtain _ | k4 := k4
 rw [f_slices_IndexFunc___api_Thing_api_Thing__F81_L5] at h; cases h
 rw [f_slices_IndexFunc___api_Thing_api_Thing__F81_L5] at h
 refine aw_show (m := (memOf w0 Z0 [] [] [(fDat (tyList tyS_api_Thing) [v0_0] a0)])) (S := _) ?_
 refine aw_sr ?_
 refine im_ ?_
 refine aw_seq ?_
 refine aw_cond rfl (fun hb6 => ?_) (fun hb6 => ?_)
 replace h := bif_t hb6 h
 refine aw_skip ?_
 refine aq_then ?_
 refine aw_seq ?_
 refine aw_block ?_
 refine sm_ ?_
 refine an_ ?_
 refine sm_ ?_
 refine mv_ ?_
 refine mv_ ?_
 obtain ⟨u7, hu8, h⟩ := opt_some h
 refine al_idxD 0 hu8 rfl rfl rfl Try.underlying36 sz71 rfl (fun p9 => ?_)
 refine al_loadPA 0 rfl rfl Try.underlying71 sz71 rfl rfl (fun cs11 => ?_)
 refine al_use (ι := Value) 0 rfl (fun j => cs11 = [j, (iq u7.Colour), (bool u7.Free)]) (fun j => [(fDat (tyList tq) [j] u7.Kids)]) encnS_api_Thing (fun s10 hq => ?_)
 subst hq
 obtain ⟨r13, hc12, h⟩ := opt_some h
 refine al_callF (vs := [(ag [s10, (iq u7.Colour), (bool u7.Free)])]) (caps := []) (f___sweep_heap__mark_1_ok fu s10 u7 hc12) rfl [] [] [] (pre_fz 0 rfl pre_nil) rfl (by simp) (by decide) (.inl rfl) rfl rfl Try.func81 rfl rfl rfl (fun _ => ?_)
 refine al_nt ?_
 refine aw_cond rfl (fun hb14 => ?_) (fun hb14 => ?_)
 replace h := bif_t hb14 h
 refine sm_ ?_
 refine an_ ?_
 refine aw_ret ?_
 refine aq_block_ret ?_
 refine aq_then_ret ?_
 refine aq_then_ret ?_
 refine aq_block_ret ?_
 refine aq_then_ret ?_
 cases h
 exact fr1_
 replace h := bif_f hb14 h
 refine aw_skip ?_
 refine aq_block ?_
 refine aq_then ?_
 refine aw_region ?_
 refine in_ ?_
 refine mv_ ?_
 refine al_nil ?_
 exact aq_again k4 (wq (l3i8 + (1 : Int))) (Nat.lt_succ_self _) h (nm_ [] [3] (by decide) ⟨rfl, rfl, rfl, rfl, trivial⟩)
 replace h := bif_f hb6 h
 refine aw_exit ?_
 refine aq_then_exit ?_
 refine aq_then_exit ?_
 refine aq_block_exit ?_
 exact aq_join () h (nm_ [] [0] (by decide) trivial)
def f___sweep_heap__shade (fu : Nat) (a0 : D_sweep_heap) (a1 : Int) : Option D_sweep_heap := (opt (at? a0.Things a1) fun (u1 : S_api_Thing) => (bif a0.Busy then (bif (u1.Colour == (0 : Int)) then (some (D_sweep_heap.mk (a0.Things.set (a1).toNat { (u1 : S_api_Thing) with Colour := (1 : Int) }) a0.Roots a0.Busy)) else (some a0)) else (some a0)))
set_option maxHeartbeats 2000000 in
set_option maxRecDepth 100000 in
theorem f___sweep_heap__shade_ok (fu : Nat) (bx0 : Nat) (v0_0 : Value) (us0_0 : List Value) (ho0_0 : Option Nat) (v0_1 : Value) (a0 : D_sweep_heap) (a1 : Int) {r : D_sweep_heap} (h : f___sweep_heap__shade fu a0 a1 = some r) : FnOk Try.prog 69 [(ptr bx0 0), (int .i64 a1)] [] [(oBox bx0 77 [v0_0, v0_1, (bool a0.Busy)]), (oKids v0_0 71 tyhS_api_Thing 3 (tyInt .i64) (fun x : S_api_Thing => x.Kids) ho0_0 us0_0 a0.Things), (oRow v0_1 3 (tyInt .i64) a0.Roots)] (fun (i : Value) => { val := (Value.tuple #[]), own := [(oBox bx0 77 [v0_0, i, (bool r.Busy)]), (oKids v0_0 71 tyhS_api_Thing 3 (tyInt .i64) (fun x : S_api_Thing => x.Kids) ho0_0 us0_0 r.Things), (oRow i 3 (tyInt .i64) r.Roots)] }) := by
 unfold f___sweep_heap__shade at h
 refine fn_enter Try.func69 rfl Try.ntmps69 rfl (fun w0 Z0 => ?_)
 refine sm_ ?_
 refine al_val (ov_nilCheck rfl rfl) ?_
 refine al_val (ov_fieldA (p := 0) rfl Try.underlying77 rfl sz38 rfl rfl rfl) ?_
 refine al_val (ov_fieldA (p := 0) rfl Try.underlying38 rfl sz36 rfl rfl rfl) ?_
 refine al_val (ov_load (i := 0) (v := v0_0) rfl rfl Try.underlying36 sz36 rfl rfl rfl rfl) ?_
 refine mv_ ?_
 obtain ⟨u1, hu2, h⟩ := opt_some h
 refine al_idxK (at_some hu2).1 (at_some hu2).2.1 (i := 1) rfl rfl rfl Try.underlying36 sz71 rfl (fun p3 hp4 => ?_)
 refine an_ ?_
 refine sm_ ?_
 refine al_val (ov_nilCheck rfl rfl) ?_
 refine al_val (ov_fieldA (p := 0) rfl Try.underlying77 rfl sz38 rfl rfl rfl) ?_
 refine al_val (ov_fieldA (p := 2) rfl Try.underlying38 rfl sz4 rfl rfl rfl) ?_
 refine al_val (ov_load (i := 0) (v := (bool a0.Busy)) rfl rfl Try.underlying4 sz4 rfl rfl rfl rfl) ?_
 refine mv_ ?_
 refine al_caseB 17 rfl (fun hb6 => ?_) (fun hb6 => ?_)
 replace h := bif_t hb6 h
 refine mv_ ?_
 refine al_val (ov_nilCheckE hp4 rfl rfl) ?_
 refine al_fieldR hp4 rfl Try.underlying71 rfl sz3 rfl rfl (fun p7 hp8 => ?_)
 refine al_val (ov_loadFK (ds := [(iq u1.Colour)]) 1 rfl hp8 (at_some hu2).2.2 subhS_api_Thing_1 (fun h => h) rfl Try.underlying3 sz3 rfl rfl rfl) ?_
 refine in_ ?_
 refine al_val (ov_pick_t rfl rfl rfl) ?_
 refine al_nt ?_
 refine aw_cond rfl (fun hb9 => ?_) (fun hb9 => ?_)
 replace h := bif_t hb9 h
 refine aw_region ?_
 refine mv_ ?_
 refine al_val (ov_nilCheckE hp4 rfl rfl) ?_
 refine al_fieldR hp4 rfl Try.underlying71 rfl sz3 rfl rfl (fun p10 hp11 => ?_)
 refine al_reo [1, 0, 2] (by decide) ?_
 refine al_storeFK (up := fun (x : S_api_Thing) (y : Int) => { x with Colour := y }) (k := (a1).toNat) (x := u1) (y := (1 : Int)) (vs := [(iq (1 : Int))]) rfl hp11 (at_some hu2).2.2 ssethS_api_Thing_1 rfl rfl rfl rfl (cv_rfl rfl) rfl sz3 rfl ?_
 refine al_nil ?_
 refine fn_end ?_
 cases h
 exact fn_ret v0_1 [1, 0, 2] [] rfl rfl rfl rfl (resC rfl (resN) rfl) rfl rfl rfl (by decide)
 replace h := bif_f hb9 h
 refine aw_skip ?_
 refine fn_end ?_
 cases h
 exact fn_ret v0_1 [0, 1, 2] [] rfl rfl rfl rfl (resC rfl (resN) rfl) rfl rfl rfl (by decide)
 replace h := bif_f hb6 h
 iterate 5 refine al_skip ?_
 refine al_val (ov_pick_f rfl rfl rfl) ?_
 refine al_nt ?_
 refine aw_cond_f rfl ?_
 refine aw_skip ?_
 refine fn_end ?_
 cases h
 exact fn_ret v0_1 [0, 1, 2] [] rfl rfl rfl rfl (resC rfl (resN) rfl) rfl rfl rfl (by decide)
def f___sweep_heap__mark_L11 (a0 : D_sweep_heap) (kk8 : ((List S_api_Thing) → Option D_sweep_heap)) : Nat → (List S_api_Thing) → Int → Option D_sweep_heap
  | 0, _, _ => none
  | k10 + 1, l9x0_0, l9i97 => (bif (decide (l9i97 < (a0.Things.length : Int))) then (lt (fun (j13x0_0 : (List S_api_Thing)) => (f___sweep_heap__mark_L11 a0 kk8 k10 j13x0_0 (IntKind.i64.wrap (l9i97 + (1 : Int))))) fun (kk14 : (List S_api_Thing) → Option D_sweep_heap) => (opt (at? l9x0_0 l9i97) fun (u15 : S_api_Thing) => (bif (u15.Colour == (0 : Int)) then (kk14 (l9x0_0.set (l9i97).toNat (S_api_Thing.mk ([] : (List Int)) (0 : Int) true))) else (kk14 (l9x0_0.set (l9i97).toNat { (u15 : S_api_Thing) with Colour := (0 : Int) }))))) else (kk8 l9x0_0))
def f___sweep_heap__mark_L43 (r4 : Int) (kk32 : ((List S_api_Thing) → (List Int) → Bool → Option D_sweep_heap)) (u33 : S_api_Thing) (fu : Nat) : Nat → (List S_api_Thing) → (List Int) → Bool → Int → Option D_sweep_heap
  | 0, _, _, _, _ => none
  | k42 + 1, l41x0_0, l41x0_1, l41b0_2, l41i83 => (bif (decide (l41i83 < (u33.Kids.length : Int))) then (opt (at? u33.Kids l41i83) fun (u45 : Int) => (opt (f___sweep_heap__shade fu (D_sweep_heap.mk l41x0_0 l41x0_1 l41b0_2) u45) fun (r50 : D_sweep_heap) => (f___sweep_heap__mark_L43 r4 kk32 u33 fu k42 r50.Things r50.Roots r50.Busy (IntKind.i64.wrap (l41i83 + (1 : Int)))))) else (kk32 (l41x0_0.modify (r4).toNat (fun x : S_api_Thing => { x with Kids := u33.Kids })) l41x0_1 l41b0_2))
def f___sweep_heap__mark_L59 (a0 : D_sweep_heap) (kk56 : ((List S_api_Thing) → Option D_sweep_heap)) : Nat → (List S_api_Thing) → Int → Option D_sweep_heap
  | 0, _, _ => none
  | k58 + 1, l57x0_0, l57i44 => (bif (decide (l57i44 < (a0.Roots.length : Int))) then (opt (at? a0.Roots l57i44) fun (u61 : Int) => (opt (at? l57x0_0 u61) fun (u65 : S_api_Thing) => (f___sweep_heap__mark_L59 a0 kk56 k58 (l57x0_0.set (u61).toNat { (u65 : S_api_Thing) with Colour := (1 : Int) }) (IntKind.i64.wrap (l57i44 + (1 : Int)))))) else (kk56 l57x0_0))
def f___sweep_heap__mark_L73 (a0 : D_sweep_heap) (kk54 : ((List S_api_Thing) → Option D_sweep_heap)) : Nat → (List S_api_Thing) → Int → Option D_sweep_heap
  | 0, _, _ => none
  | k72 + 1, l71x0_0, l71i26 => (bif (decide (l71i26 < (a0.Things.length : Int))) then (opt (at? l71x0_0 l71i26) fun (u75 : S_api_Thing) => (f___sweep_heap__mark_L73 a0 kk54 k72 (l71x0_0.set (l71i26).toNat { (u75 : S_api_Thing) with Colour := (0 : Int) }) (IntKind.i64.wrap (l71i26 + (1 : Int))))) else (kk54 l71x0_0))
def f___sweep_heap__mark (fu : Nat) (a0 : D_sweep_heap) : Option D_sweep_heap := (lt (fun (_ : Unit) => (opt (f_slices_IndexFunc___api_Thing_api_Thing__F81 fu a0.Things) fun (r4 : Int) => (lt (fun (_ : Unit) => (lt (fun (j7x0_0 : (List S_api_Thing)) => (some (D_sweep_heap.mk j7x0_0 a0.Roots false))) fun (kk8 : (List S_api_Thing) → Option D_sweep_heap) => (f___sweep_heap__mark_L11 a0 kk8 fu a0.Things (0 : Int)))) fun (kk6 : Unit → Option D_sweep_heap) => (bif (decide (r4 ≥ (0 : Int))) then (opt (at? a0.Things r4) fun (u25 : S_api_Thing) => (lt (fun (j31x0_0 : (List S_api_Thing)) (j31x0_1 : (List Int)) (j31b0_2 : Bool) => (some (D_sweep_heap.mk j31x0_0 j31x0_1 j31b0_2))) fun (kk32 : (List S_api_Thing) → (List Int) → Bool → Option D_sweep_heap) => (opt (at? (a0.Things.set (r4).toNat { (u25 : S_api_Thing) with Colour := (2 : Int) }) r4) fun (u33 : S_api_Thing) => (f___sweep_heap__mark_L43 r4 kk32 u33 fu fu (a0.Things.set (r4).toNat { (u25 : S_api_Thing) with Colour := (2 : Int) }) a0.Roots a0.Busy (0 : Int))))) else (kk6 ()))))) fun (kk2 : Unit → Option D_sweep_heap) => (bif (!a0.Busy) then (lt (fun (j53x0_0 : (List S_api_Thing)) => (lt (fun (j55x0_0 : (List S_api_Thing)) => (some (D_sweep_heap.mk j55x0_0 a0.Roots true))) fun (kk56 : (List S_api_Thing) → Option D_sweep_heap) => (f___sweep_heap__mark_L59 a0 kk56 fu j53x0_0 (0 : Int)))) fun (kk54 : (List S_api_Thing) → Option D_sweep_heap) => (f___sweep_heap__mark_L73 a0 kk54 fu a0.Things (0 : Int))) else (kk2 ())))
abbrev mm9 (w0 : World) (Z0 : Nat → Prop) (a0 : D_sweep_heap) (bx0 : Nat) (us0_0 : (List Value)) (v0_0 : Value) (v0_1 : Value) : Mem := memOf w0 Z0 [(oBox bx0 77 [v0_0, v0_1, (bool a0.Busy)]), (oKids v0_0 71 tyhS_api_Thing 3 (tyInt .i64) (fun x : S_api_Thing => x.Kids) none us0_0 a0.Things), (oRow v0_1 3 (tyInt .i64) a0.Roots)] [(oKids v0_0 71 tyhS_api_Thing 3 (tyInt .i64) (fun x : S_api_Thing => x.Kids) none us0_0 a0.Things), (oRow v0_1 3 (tyInt .i64) a0.Roots), (oBox bx0 77 [v0_0, v0_1, (bool a0.Busy)])] []
abbrev mm10 (w0 : World) (Z0 : Nat → Prop) (a0 : D_sweep_heap) (bx0 : Nat) (j7us0_0 : (List Value)) (j7x0_0 : (List S_api_Thing)) (us0_0 : (List Value)) (v0_0 : Value) (v0_1 : Value) : Mem := memOf w0 Z0 [(oBox bx0 77 [v0_0, v0_1, (bool a0.Busy)]), (oKids v0_0 71 tyhS_api_Thing 3 (tyInt .i64) (fun x : S_api_Thing => x.Kids) none us0_0 a0.Things), (oRow v0_1 3 (tyInt .i64) a0.Roots)] [(oKids v0_0 71 tyhS_api_Thing 3 (tyInt .i64) (fun x : S_api_Thing => x.Kids) none j7us0_0 j7x0_0), (oRow v0_1 3 (tyInt .i64) a0.Roots), (oBox bx0 77 [v0_0, v0_1, (bool a0.Busy)])] []
abbrev mm11 (w0 : World) (Z0 : Nat → Prop) (a0 : D_sweep_heap) (bx0 : Nat) (l9us0_0 : (List Value)) (l9x0_0 : (List S_api_Thing)) (us0_0 : (List Value)) (v0_0 : Value) (v0_1 : Value) : Mem := memOf w0 Z0 [(oBox bx0 77 [v0_0, v0_1, (bool a0.Busy)]), (oKids v0_0 71 tyhS_api_Thing 3 (tyInt .i64) (fun x : S_api_Thing => x.Kids) none us0_0 a0.Things), (oRow v0_1 3 (tyInt .i64) a0.Roots)] [(oKids v0_0 71 tyhS_api_Thing 3 (tyInt .i64) (fun x : S_api_Thing => x.Kids) none l9us0_0 l9x0_0), (oRow v0_1 3 (tyInt .i64) a0.Roots), (oBox bx0 77 [v0_0, v0_1, (bool a0.Busy)])] []
abbrev mm12 (w0 : World) (Z0 : Nat → Prop) (a0 : D_sweep_heap) (bx0 : Nat) (j31b0_2 : Bool) (j31v0_1 : Value) (j31x0_0 : (List S_api_Thing)) (j31x0_1 : (List Int)) (us0_0 : (List Value)) (v0_0 : Value) (v0_1 : Value) : Mem := memOf w0 Z0 [(oBox bx0 77 [v0_0, v0_1, (bool a0.Busy)]), (oKids v0_0 71 tyhS_api_Thing 3 (tyInt .i64) (fun x : S_api_Thing => x.Kids) none us0_0 a0.Things), (oRow v0_1 3 (tyInt .i64) a0.Roots)] [(oKids v0_0 71 tyhS_api_Thing 3 (tyInt .i64) (fun x : S_api_Thing => x.Kids) none us0_0 j31x0_0), (oRow j31v0_1 3 (tyInt .i64) j31x0_1), (oBox bx0 77 [v0_0, j31v0_1, (bool j31b0_2)])] []
abbrev mm13 (w0 : World) (Z0 : Nat → Prop) (a0 : D_sweep_heap) (bx0 : Nat) (j53x0_0 : (List S_api_Thing)) (us0_0 : (List Value)) (v0_0 : Value) (v0_1 : Value) : Mem := memOf w0 Z0 [(oBox bx0 77 [v0_0, v0_1, (bool a0.Busy)]), (oKids v0_0 71 tyhS_api_Thing 3 (tyInt .i64) (fun x : S_api_Thing => x.Kids) none us0_0 a0.Things), (oRow v0_1 3 (tyInt .i64) a0.Roots)] [(oKids v0_0 71 tyhS_api_Thing 3 (tyInt .i64) (fun x : S_api_Thing => x.Kids) none us0_0 j53x0_0), (oRow v0_1 3 (tyInt .i64) a0.Roots), (oBox bx0 77 [v0_0, v0_1, (bool true)])] []
abbrev mm14 (w0 : World) (Z0 : Nat → Prop) (a0 : D_sweep_heap) (bx0 : Nat) (l71x0_0 : (List S_api_Thing)) (us0_0 : (List Value)) (v0_0 : Value) (v0_1 : Value) : Mem := memOf w0 Z0 [(oBox bx0 77 [v0_0, v0_1, (bool a0.Busy)]), (oKids v0_0 71 tyhS_api_Thing 3 (tyInt .i64) (fun x : S_api_Thing => x.Kids) none us0_0 a0.Things), (oRow v0_1 3 (tyInt .i64) a0.Roots)] [(oKids v0_0 71 tyhS_api_Thing 3 (tyInt .i64) (fun x : S_api_Thing => x.Kids) none us0_0 l71x0_0), (oRow v0_1 3 (tyInt .i64) a0.Roots), (oBox bx0 77 [v0_0, v0_1, (bool true)])] []
set_option maxRecDepth 100000 in
set_option maxHeartbeats 2000000 in
set_option maxHeartbeats 2000000 in
theorem f___sweep_heap__mark_ok (fu : Nat) (bx0 : Nat) (v0_0 : Value) (us0_0 : List Value) (v0_1 : Value) (a0 : D_sweep_heap) {r : D_sweep_heap} (h : f___sweep_heap__mark fu a0 = some r) : FnOk Try.prog 66 [(ptr bx0 0)] [] [(oBox bx0 77 [v0_0, v0_1, (bool a0.Busy)]), (oKids v0_0 71 tyhS_api_Thing 3 (tyInt .i64) (fun x : S_api_Thing => x.Kids) none us0_0 a0.Things), (oRow v0_1 3 (tyInt .i64) a0.Roots)] (fun (i : Value × List Value × Value) => { val := (Value.tuple #[]), own := [(oBox bx0 77 [i.1, i.2.2, (bool r.Busy)]), (oKids i.1 71 tyhS_api_Thing 3 (tyInt .i64) (fun x : S_api_Thing => x.Kids) none i.2.1 r.Things), (oRow i.2.2 3 (tyInt .i64) r.Roots)] }) := by
 unfold f___sweep_heap__mark at h
 refine fn_enter Try.func66 rfl Try.ntmps66 rfl (fun w0 Z0 => ?_)
 obtain ⟨kk2, hkk2, h⟩ := lt_some h
 refine aw_seq_join (ι := Unit) (fun i => (mm9 w0 Z0 a0 bx0 us0_0 v0_0 v0_1)) (fun i => (tab [(0, (pq bx0))])) (fun i => kk2 () = some r) ?_ ?_
 rintro _ h
 have h : kk2 () = some r := h
 rw [hkk2] at h
 dsimp only at h
 clear hkk2
 refine aw_show (m := (mm9 w0 Z0 a0 bx0 us0_0 v0_0 v0_1)) (S := _) ?_
 refine sm_ ?_
 refine al_val (ov_nilCheck rfl rfl) ?_
 refine al_val (ov_fieldA (p := 0) rfl Try.underlying77 rfl sz38 rfl rfl rfl) ?_
 refine al_val (ov_fieldA (p := 0) rfl Try.underlying38 rfl sz36 rfl rfl rfl) ?_
 refine al_val (ov_load (i := 2) (v := v0_0) rfl rfl Try.underlying36 sz36 rfl rfl rfl rfl) ?_
 obtain ⟨r4, hc3, h⟩ := opt_some h
 refine al_call (vs := [v0_0, (fq 81)]) (f_slices_IndexFunc___api_Thing_api_Thing__F81_ok fu v0_0 a0.Things hc3) [0] [] [0, 1, 2] (pre_kids rfl (fun p q => shS_api_Thing p q) 0 rfl rfl pre_nil) rfl (by simp) (by decide) (.inr flat_res0) rfl Try.func80 rfl rfl rfl (fun _ => ?_)
 refine an_ ?_
 obtain ⟨kk6, hkk6, h⟩ := lt_some h
 refine aw_seq_join (ι := Unit) (fun i => (mm9 w0 Z0 a0 bx0 us0_0 v0_0 v0_1)) (fun i => (tab [(0, (pq bx0))])) (fun i => kk6 () = some r) ?_ ?_
 rintro _ h
 have h : kk6 () = some r := h
 rw [hkk6] at h
 dsimp only at h
 clear hkk6
 refine aw_show (m := (mm9 w0 Z0 a0 bx0 us0_0 v0_0 v0_1)) (S := _) ?_
 obtain ⟨kk8, hkk8, h⟩ := lt_some h
 refine aw_seq_join (ι := (List S_api_Thing) × (List Value)) (fun i => (mm10 w0 Z0 a0 bx0 i.2 i.1 us0_0 v0_0 v0_1)) (fun i => (tab [(0, (pq bx0))])) (fun i => kk8 i.1 = some r) ?_ ?_
 rintro ⟨j7x0_0, j7us0_0⟩ h
 have h : kk8 j7x0_0 = some r := h
 rw [hkk8] at h
 dsimp only at h
 clear hkk8
 refine aw_show (m := (mm10 w0 Z0 a0 bx0 j7us0_0 j7x0_0 us0_0 v0_0 v0_1)) (S := _) ?_
 refine aw_region ?_
 refine mv_ ?_
 refine al_val (ov_nilCheck rfl rfl) ?_
 refine al_val (ov_fieldA (p := 0) rfl Try.underlying77 rfl sz38 rfl rfl rfl) ?_
 refine al_val (ov_fieldA (p := 2) rfl Try.underlying38 rfl sz4 rfl rfl rfl) ?_
 refine al_store (i := 2) (vs := [(bool false)]) (cs' := [v0_0, v0_1, (bool false)]) rfl rfl rfl sz4 (cv_rfl rfl) rfl (co_val rfl co_nil) (Nat.le_of_ble_eq_true rfl) rfl rfl ?_
 refine al_nil ?_
 refine fn_end ?_
 cases h
 exact fn_ret (v0_0, j7us0_0, v0_1) [2, 0, 1] [] rfl rfl rfl rfl (resC rfl (resN) rfl) rfl rfl rfl (by decide)
 clear hkk8
 refine sm_ ?_
 refine al_val (ov_nilCheck rfl rfl) ?_
 refine al_val (ov_fieldA (p := 0) rfl Try.underlying77 rfl sz38 rfl rfl rfl) ?_
 refine al_val (ov_fieldA (p := 0) rfl Try.underlying38 rfl sz36 rfl rfl rfl) ?_
 refine al_val (ov_load (i := 2) (v := v0_0) rfl rfl Try.underlying36 sz36 rfl rfl rfl rfl) ?_
 refine al_val (ov_lenK2 0 rfl rfl Try.underlying36 rfl) ?_
 refine mv_ ?_
 refine al_nt ?_
 refine aw_block ?_
 refine aw_state (aw_loop (ι := (List S_api_Thing) × (List Value) × Int) (fun i => (mm11 w0 Z0 a0 bx0 i.2.1 i.1 us0_0 v0_0 v0_1)) (fun i => (tab [(0, (pq bx0)), (96, (iq (a0.Things.length : Int))), (97, (iq i.2.2))])) (fun q i => f___sweep_heap__mark_L11 a0 kk8 q i.1 i.2.2 = some r) ?_ fu (a0.Things, us0_0, (0 : Int)) h) (nm_ [0, 1, 2] [] (by decide) ⟨rfl, rfl, rfl, trivial⟩)
 clear h
 rintro k10 ⟨l9x0_0, l9us0_0, l9i97⟩ h
 have h : f___sweep_heap__mark_L11 a0 kk8 k10 l9x0_0 l9i97 = some r := h
 obtain _ | k10 := k10
 rw [f___sweep_heap__mark_L11] at h; cases h
 rw [f___sweep_heap__mark_L11] at h
 refine aw_show (m := (mm11 w0 Z0 a0 bx0 l9us0_0 l9x0_0 us0_0 v0_0 v0_1)) (S := _) ?_
 refine aw_sr ?_
 refine im_ ?_
 refine aw_seq ?_
 refine aw_cond rfl (fun hb12 => ?_) (fun hb12 => ?_)
 replace h := bif_t hb12 h
 refine aw_skip ?_
 refine aq_then ?_
 obtain ⟨kk14, hkk14, h⟩ := lt_some h
 refine aw_seq_join (ι := (List S_api_Thing) × (List Value)) (fun i => (mm10 w0 Z0 a0 bx0 i.2 i.1 us0_0 v0_0 v0_1)) (fun i => (tab [(0, (pq bx0)), (96, (iq (a0.Things.length : Int))), (97, (iq l9i97))])) (fun i => kk14 i.1 = some r) ?_ ?_
 rintro ⟨j13x0_0, j13us0_0⟩ h
 have h : kk14 j13x0_0 = some r := h
 rw [hkk14] at h
 dsimp only at h
 clear hkk14
 refine aw_show (m := (memOf w0 Z0 [(oBox bx0 77 [v0_0, v0_1, (bool a0.Busy)]), (oKids v0_0 71 tyhS_api_Thing 3 tq (fun x : S_api_Thing => x.Kids) none us0_0 a0.Things), (oRow v0_1 3 tq a0.Roots)] [(oKids v0_0 71 tyhS_api_Thing 3 tq (fun x : S_api_Thing => x.Kids) none j13us0_0 j13x0_0), (oRow v0_1 3 tq a0.Roots), (oBox bx0 77 [v0_0, v0_1, (bool a0.Busy)])] [])) (S := _) ?_
 refine aw_region ?_
 refine in_ ?_
 refine mv_ ?_
 refine al_nil ?_
 exact aq_again k10 (j13x0_0, j13us0_0, (wq (l9i97 + (1 : Int)))) (Nat.lt_succ_self _) h (nm_ [0, 1, 2] [] (by decide) ⟨rfl, rfl, rfl, trivial⟩)
 clear hkk14
 refine aw_block ?_
 refine sm_ ?_
 refine an_ ?_
 refine sm_ ?_
 refine al_val (ov_nilCheck rfl rfl) ?_
 refine al_val (ov_fieldA (p := 0) rfl Try.underlying77 rfl sz38 rfl rfl rfl) ?_
 refine al_val (ov_fieldA (p := 0) rfl Try.underlying38 rfl sz36 rfl rfl rfl) ?_
 refine al_val (ov_load (i := 2) (v := v0_0) rfl rfl Try.underlying36 sz36 rfl rfl rfl rfl) ?_
 refine mv_ ?_
 obtain ⟨u15, hu16, h⟩ := opt_some h
 refine al_idxK (at_some hu16).1 (at_some hu16).2.1 (i := 0) rfl rfl rfl Try.underlying36 sz71 rfl (fun p17 hp18 => ?_)
 refine an_ ?_
 refine sm_ ?_
 refine al_val (ov_nilCheckE hp18 rfl rfl) ?_
 refine al_fieldR hp18 rfl Try.underlying71 rfl sz3 rfl rfl (fun p19 hp20 => ?_)
 refine al_val (ov_loadFK (ds := [(iq u15.Colour)]) 0 rfl hp20 (at_some hu16).2.2 subhS_api_Thing_1 (fun h => h) rfl Try.underlying3 sz3 rfl rfl rfl) ?_
 refine im_ ?_
 refine aw_cond rfl (fun hb21 => ?_) (fun hb21 => ?_)
 replace h := bif_t hb21 h
 refine aw_region ?_
 refine mv_ ?_
 refine al_val (ov_build (cells := ([nS, (iq (0 : Int)), (bool true)] : List Value).toArray) (cs := [nS, (iq (0 : Int)), (bool true)]) rfl (fun w a hm hs => by simp only [List.map_toArray, List.map_cons, List.map_nil, List.toList_toArray, hs.ev (x := .const (bool true)) rfl]; kernel_rfl)) ?_
 refine al_val (ov_nilCheckE hp18 rfl rfl) ?_
 refine al_storeNilK (k := (l9i97).toNat) (x2 := (S_api_Thing.mk ([] : (List Int)) (0 : Int) true)) (vs := [nS, (iq (0 : Int)), (bool true)]) rfl hp18 (at_some hu16).2.2 rfl rfl rfl (cv_rfl rfl) (mkhS_api_Thing (x := (S_api_Thing.mk ([] : (List Int)) (0 : Int) true)) rfl ⟨none, 0, 0, rfl⟩) sz71 rfl ?_
 refine al_nil ?_
 refine aq_block ?_
 exact aq_join ((l9x0_0.set (l9i97).toNat (S_api_Thing.mk ([] : (List Int)) (0 : Int) true)), (l9us0_0.set (l9i97).toNat nS)) h (nm_ [0, 1, 2] [] (by decide) ⟨rfl, rfl, rfl, trivial⟩)
 replace h := bif_f hb21 h
 refine aw_region ?_
 refine mv_ ?_
 refine al_val (ov_nilCheckE hp18 rfl rfl) ?_
 refine al_fieldR hp18 rfl Try.underlying71 rfl sz3 rfl rfl (fun p22 hp23 => ?_)
 refine al_storeFK (up := fun (x : S_api_Thing) (y : Int) => { x with Colour := y }) (k := (l9i97).toNat) (x := u15) (y := (0 : Int)) (vs := [(iq (0 : Int))]) rfl hp23 (at_some hu16).2.2 ssethS_api_Thing_1 rfl rfl rfl rfl (cv_rfl rfl) rfl sz3 rfl ?_
 refine al_nil ?_
 refine aq_block ?_
 exact aq_join ((l9x0_0.set (l9i97).toNat { (u15 : S_api_Thing) with Colour := (0 : Int) }), l9us0_0) h (nm_ [0, 1, 2] [] (by decide) ⟨rfl, rfl, rfl, trivial⟩)
 replace h := bif_f hb12 h
 refine aw_exit ?_
 refine aq_then_exit ?_
 refine aq_then_exit ?_
 refine aq_block_exit ?_
 exact aq_join (l9x0_0, l9us0_0) h (nm_ [0, 1, 2] [] (by decide) ⟨rfl, trivial⟩)
 clear hkk6
 refine sm_ ?_
 refine im_ ?_
 refine aw_cond rfl (fun hb24 => ?_) (fun hb24 => ?_)
 replace h := bif_t hb24 h
 refine sm_ ?_
 refine al_val (ov_nilCheck rfl rfl) ?_
 refine al_val (ov_fieldA (p := 0) rfl Try.underlying77 rfl sz38 rfl rfl rfl) ?_
 refine al_val (ov_fieldA (p := 0) rfl Try.underlying38 rfl sz36 rfl rfl rfl) ?_
 refine al_val (ov_load (i := 2) (v := v0_0) rfl rfl Try.underlying36 sz36 rfl rfl rfl rfl) ?_
 refine mv_ ?_
 obtain ⟨u25, hu26, h⟩ := opt_some h
 refine al_idxK (at_some hu26).1 (at_some hu26).2.1 (i := 0) rfl rfl rfl Try.underlying36 sz71 rfl (fun p27 hp28 => ?_)
 refine al_fieldR hp28 rfl Try.underlying71 rfl sz3 rfl rfl (fun p29 hp30 => ?_)
 refine al_storeFK (up := fun (x : S_api_Thing) (y : Int) => { x with Colour := y }) (k := (r4).toNat) (x := u25) (y := (2 : Int)) (vs := [(iq (2 : Int))]) rfl hp30 (at_some hu26).2.2 ssethS_api_Thing_1 rfl rfl rfl rfl (cv_rfl rfl) rfl sz3 rfl ?_
 refine al_nt ?_
 obtain ⟨kk32, hkk32, h⟩ := lt_some h
 refine aw_seq_join (ι := (List S_api_Thing) × Value × (List Int) × Bool) (fun i => (mm12 w0 Z0 a0 bx0 i.2.2.2 i.2.1 i.1 i.2.2.1 us0_0 v0_0 v0_1)) (fun i => (tab [(0, (pq bx0))])) (fun i => kk32 i.1 i.2.2.1 i.2.2.2 = some r) ?_ ?_
 rintro ⟨j31x0_0, j31v0_1, j31x0_1, j31b0_2⟩ h
 have h : kk32 j31x0_0 j31x0_1 j31b0_2 = some r := h
 rw [hkk32] at h
 dsimp only at h
 clear hkk32
 refine aw_show (m := (mm12 w0 Z0 a0 bx0 j31b0_2 j31v0_1 j31x0_0 j31x0_1 us0_0 v0_0 v0_1)) (S := _) ?_
 refine aw_ret ?_
 refine aq_then_ret ?_
 cases h
 exact fn_ret (v0_0, us0_0, j31v0_1) [2, 0, 1] [] rfl rfl rfl rfl (resC rfl (resN) rfl) rfl rfl rfl (by decide)
 clear hkk32
 refine sm_ ?_
 refine al_val (ov_nilCheck rfl rfl) ?_
 refine al_val (ov_fieldA (p := 0) rfl Try.underlying77 rfl sz38 rfl rfl rfl) ?_
 refine al_val (ov_fieldA (p := 0) rfl Try.underlying38 rfl sz36 rfl rfl rfl) ?_
 refine al_val (ov_load (i := 2) (v := v0_0) rfl rfl Try.underlying36 sz36 rfl rfl rfl rfl) ?_
 refine mv_ ?_
 obtain ⟨u33, hu34, h⟩ := opt_some h
 refine al_idxK (at_some hu34).1 (at_some hu34).2.1 (i := 0) rfl rfl rfl Try.underlying36 sz71 rfl (fun p35 hp36 => ?_)
 refine al_fieldR hp36 rfl Try.underlying71 rfl sz30 rfl rfl (fun p37 hp38 => ?_)
 refine al_loadKu 0 rfl hp38 (at_some hu34).2.2 subhS_api_Thing_0 rfl Try.underlying30 sz30 rfl rfl (fun s39 hs40 => ?_)
 refine al_val (v := (iq (u33.Kids.length : Int))) (ov_lenKu 0 rfl hs40 (at_some hu34).2.2 rfl Try.underlying30 rfl) ?_
 refine mv_ ?_
 refine al_nt ?_
 refine aw_block ?_
 refine aw_takeK hs40 (at_some hu34).2.2 rfl ?_
 refine aw_state (aw_loop (ι := (List S_api_Thing) × Value × (List Int) × Bool × Int) (fun i => (memOf w0 Z0 [(oBox bx0 77 [v0_0, v0_1, (bool a0.Busy)]), (oKids v0_0 71 tyhS_api_Thing 3 tq (fun x : S_api_Thing => x.Kids) none us0_0 a0.Things), (oRow v0_1 3 tq a0.Roots)] [(oKids v0_0 71 tyhS_api_Thing 3 tq (fun x : S_api_Thing => x.Kids) (some (r4).toNat) us0_0 i.1), (oRow s39 3 tq u33.Kids), (oRow i.2.1 3 tq i.2.2.1), (oBox bx0 77 [v0_0, i.2.1, (bool i.2.2.2.1)])] [])) (fun i => (tab [(0, (pq bx0)), (81, s39), (82, (iq (u33.Kids.length : Int))), (83, (iq i.2.2.2.2))])) (fun q i => f___sweep_heap__mark_L43 r4 kk32 u33 fu q i.1 i.2.2.1 i.2.2.2.1 i.2.2.2.2 = some r) ?_ fu ((a0.Things.set (r4).toNat { (u25 : S_api_Thing) with Colour := (2 : Int) }), v0_1, a0.Roots, a0.Busy, (0 : Int)) h) (nm_ [1, 0, 2, 3] [] (by decide) ⟨rfl, rfl, rfl, rfl, trivial⟩)
 clear h
 rintro k42 ⟨l41x0_0, l41v0_1, l41x0_1, l41b0_2, l41i83⟩ h
 have h : f___sweep_heap__mark_L43 r4 kk32 u33 fu k42 l41x0_0 l41x0_1 l41b0_2 l41i83 = some r := h
 obtain _ | k42 := k42
 rw [f___sweep_heap__mark_L43] at h; cases h
 rw [f___sweep_heap__mark_L43] at h
 refine aw_show (m := (memOf w0 Z0 [(oBox bx0 77 [v0_0, v0_1, (bool a0.Busy)]), (oKids v0_0 71 tyhS_api_Thing 3 tq (fun x : S_api_Thing => x.Kids) none us0_0 a0.Things), (oRow v0_1 3 tq a0.Roots)] [(oKids v0_0 71 tyhS_api_Thing 3 tq (fun x : S_api_Thing => x.Kids) (some (r4).toNat) us0_0 l41x0_0), (oRow s39 3 tq u33.Kids), (oRow l41v0_1 3 tq l41x0_1), (oBox bx0 77 [v0_0, l41v0_1, (bool l41b0_2)])] [])) (S := _) ?_
 refine aw_sr ?_
 refine im_ ?_
 refine aw_seq ?_
 refine aw_cond rfl (fun hb44 => ?_) (fun hb44 => ?_)
 replace h := bif_t hb44 h
 refine aw_skip ?_
 refine aq_then ?_
 refine aw_seq ?_
 refine aw_block ?_
 refine aw_sr ?_
 obtain ⟨u45, hu46, h⟩ := opt_some h
 refine al_idxR 1 (at_some hu46).1 (at_some hu46).2.1 rfl rfl rfl Try.underlying30 sz3 rfl (fun p47 hp48 => ?_)
 refine al_val (ov_loadR (ds := [(iq u45)]) 1 rfl hp48 (at_some hu46).2.2 (fun h => h) rfl Try.underlying3 sz3 rfl rfl rfl) ?_
 refine an_ ?_
 refine aw_region ?_
 refine mv_ ?_
 refine mv_ ?_
 obtain ⟨r50, hc49, h⟩ := opt_some h
 refine al_call (vs := [(pq bx0), (iq u45)]) (f___sweep_heap__shade_ok fu bx0 v0_0 us0_0 (some (r4).toNat) l41v0_1 (D_sweep_heap.mk l41x0_0 l41x0_1 l41b0_2) u45 hc49) [] [3, 0, 2] [1] pre_nil rfl (by simp) (by decide) (.inl rfl) rfl Try.func69 rfl rfl rfl (fun v51 => ?_)
 refine al_nil ?_
 refine aq_block ?_
 refine aq_then ?_
 refine aw_region ?_
 refine in_ ?_
 refine mv_ ?_
 refine al_nil ?_
 exact aq_again k42 (r50.Things, v51, r50.Roots, r50.Busy, (wq (l41i83 + (1 : Int)))) (Nat.lt_succ_self _) h (nm_ [1, 3, 2, 0] [] (by decide) ⟨rfl, rfl, rfl, rfl, trivial⟩)
 replace h := bif_f hb44 h
 refine aw_exit ?_
 refine aq_then_exit ?_
 refine aq_then_exit ?_
 refine aq_block_exit ?_
 refine aq_reo [1, 0, 2, 3] (by decide) ?_
 refine aq_backM (fun x : S_api_Thing => { x with Kids := u33.Kids }) hs40 (fun _ => rfl) (fun h => h) rfl ?_
 exact aq_join ((l41x0_0.modify (r4).toNat (fun x : S_api_Thing => { x with Kids := u33.Kids })), l41v0_1, l41x0_1, l41b0_2) h (nm_ [0, 1, 2] [] (by decide) ⟨rfl, trivial⟩)
 replace h := bif_f hb24 h
 refine aw_skip ?_
 exact aq_join () h (nm_ [0, 1, 2] [] (by decide) ⟨rfl, trivial⟩)
 clear hkk2
 refine sm_ ?_
 refine al_val (ov_nilCheck rfl rfl) ?_
 refine al_val (ov_fieldA (p := 0) rfl Try.underlying77 rfl sz38 rfl rfl rfl) ?_
 refine al_val (ov_fieldA (p := 2) rfl Try.underlying38 rfl sz4 rfl rfl rfl) ?_
 refine al_val (ov_load (i := 0) (v := (bool a0.Busy)) rfl rfl Try.underlying4 sz4 rfl rfl rfl rfl) ?_
 refine al_val (ov_not rfl rfl) ?_
 refine al_nt ?_
 refine aw_cond rfl (fun hb52 => ?_) (fun hb52 => ?_)
 replace h := bif_t hb52 h
 refine sm_ ?_
 refine al_val (ov_nilCheck rfl rfl) ?_
 refine al_val (ov_fieldA (p := 0) rfl Try.underlying77 rfl sz38 rfl rfl rfl) ?_
 refine al_val (ov_fieldA (p := 2) rfl Try.underlying38 rfl sz4 rfl rfl rfl) ?_
 refine al_store (i := 0) (vs := [(bool true)]) (cs' := [v0_0, v0_1, (bool true)]) rfl rfl rfl sz4 (cv_rfl rfl) rfl (co_val rfl co_nil) (Nat.le_of_ble_eq_true rfl) rfl rfl ?_
 refine al_nt ?_
 obtain ⟨kk54, hkk54, h⟩ := lt_some h
 refine aw_seq_join (ι := (List S_api_Thing)) (fun i => (mm13 w0 Z0 a0 bx0 i us0_0 v0_0 v0_1)) (fun i => (tab [(0, (pq bx0))])) (fun i => kk54 i = some r) ?_ ?_
 rintro j53x0_0 h
 have h : kk54 j53x0_0 = some r := h
 rw [hkk54] at h
 dsimp only at h
 clear hkk54
 refine aw_show (m := (mm13 w0 Z0 a0 bx0 j53x0_0 us0_0 v0_0 v0_1)) (S := _) ?_
 obtain ⟨kk56, hkk56, h⟩ := lt_some h
 refine aw_seq_join (ι := (List S_api_Thing)) (fun i => (mm13 w0 Z0 a0 bx0 i us0_0 v0_0 v0_1)) (fun i => (tab [(0, (pq bx0))])) (fun i => kk56 i = some r) ?_ ?_
 rintro j55x0_0 h
 have h : kk56 j55x0_0 = some r := h
 rw [hkk56] at h
 dsimp only at h
 clear hkk56
 refine aw_show (m := (memOf w0 Z0 [(oBox bx0 77 [v0_0, v0_1, (bool a0.Busy)]), (oKids v0_0 71 tyhS_api_Thing 3 tq (fun x : S_api_Thing => x.Kids) none us0_0 a0.Things), (oRow v0_1 3 tq a0.Roots)] [(oKids v0_0 71 tyhS_api_Thing 3 tq (fun x : S_api_Thing => x.Kids) none us0_0 j55x0_0), (oRow v0_1 3 tq a0.Roots), (oBox bx0 77 [v0_0, v0_1, (bool true)])] [])) (S := _) ?_
 refine aw_ret ?_
 refine aq_then_ret ?_
 cases h
 exact fn_ret (v0_0, us0_0, v0_1) [2, 0, 1] [] rfl rfl rfl rfl (resC rfl (resN) rfl) rfl rfl rfl (by decide)
 clear hkk56
 refine sm_ ?_
 refine al_val (ov_nilCheck rfl rfl) ?_
 refine al_val (ov_fieldA (p := 0) rfl Try.underlying77 rfl sz38 rfl rfl rfl) ?_
 refine al_val (ov_fieldA (p := 1) rfl Try.underlying38 rfl sz30 rfl rfl rfl) ?_
 refine al_val (ov_load (i := 2) (v := v0_1) rfl rfl Try.underlying30 sz30 rfl rfl rfl rfl) ?_
 refine al_val (ov_lenR 1 rfl rfl Try.underlying30 rfl) ?_
 refine mv_ ?_
 refine al_nt ?_
 refine aw_block ?_
 refine aw_state (aw_loop (ι := (List S_api_Thing) × Int) (fun i => (mm14 w0 Z0 a0 bx0 i.1 us0_0 v0_0 v0_1)) (fun i => (tab [(0, (pq bx0)), (42, v0_1), (43, (iq (a0.Roots.length : Int))), (44, (iq i.2))])) (fun q i => f___sweep_heap__mark_L59 a0 kk56 q i.1 i.2 = some r) ?_ fu (j53x0_0, (0 : Int)) h) (nm_ [0, 1, 2] [] (by decide) ⟨rfl, rfl, rfl, rfl, trivial⟩)
 clear h
 rintro k58 ⟨l57x0_0, l57i44⟩ h
 have h : f___sweep_heap__mark_L59 a0 kk56 k58 l57x0_0 l57i44 = some r := h
 obtain _ | k58 := k58
 rw [f___sweep_heap__mark_L59] at h; cases h
 rw [f___sweep_heap__mark_L59] at h
 refine aw_show (m := (memOf w0 Z0 [(oBox bx0 77 [v0_0, v0_1, (bool a0.Busy)]), (oKids v0_0 71 tyhS_api_Thing 3 tq (fun x : S_api_Thing => x.Kids) none us0_0 a0.Things), (oRow v0_1 3 tq a0.Roots)] [(oKids v0_0 71 tyhS_api_Thing 3 tq (fun x : S_api_Thing => x.Kids) none us0_0 l57x0_0), (oRow v0_1 3 tq a0.Roots), (oBox bx0 77 [v0_0, v0_1, (bool true)])] [])) (S := _) ?_
 refine aw_sr ?_
 refine im_ ?_
 refine aw_seq ?_
 refine aw_cond rfl (fun hb60 => ?_) (fun hb60 => ?_)
 replace h := bif_t hb60 h
 refine aw_skip ?_
 refine aq_then ?_
 refine aw_seq ?_
 refine aw_block ?_
 refine aw_sr ?_
 obtain ⟨u61, hu62, h⟩ := opt_some h
 refine al_idxR 1 (at_some hu62).1 (at_some hu62).2.1 rfl rfl rfl Try.underlying30 sz3 rfl (fun p63 hp64 => ?_)
 refine al_val (ov_loadR (ds := [(iq u61)]) 1 rfl hp64 (at_some hu62).2.2 (fun h => h) rfl Try.underlying3 sz3 rfl rfl rfl) ?_
 refine an_ ?_
 refine aw_region ?_
 refine mv_ ?_
 refine al_val (ov_nilCheck rfl rfl) ?_
 refine al_val (ov_fieldA (p := 0) rfl Try.underlying77 rfl sz38 rfl rfl rfl) ?_
 refine al_val (ov_fieldA (p := 0) rfl Try.underlying38 rfl sz36 rfl rfl rfl) ?_
 refine al_val (ov_load (i := 2) (v := v0_0) rfl rfl Try.underlying36 sz36 rfl rfl rfl rfl) ?_
 refine mv_ ?_
 obtain ⟨u65, hu66, h⟩ := opt_some h
 refine al_idxK (at_some hu66).1 (at_some hu66).2.1 (i := 0) rfl rfl rfl Try.underlying36 sz71 rfl (fun p67 hp68 => ?_)
 refine al_fieldR hp68 rfl Try.underlying71 rfl sz3 rfl rfl (fun p69 hp70 => ?_)
 refine al_storeFK (up := fun (x : S_api_Thing) (y : Int) => { x with Colour := y }) (k := (u61).toNat) (x := u65) (y := (1 : Int)) (vs := [(iq (1 : Int))]) rfl hp70 (at_some hu66).2.2 ssethS_api_Thing_1 rfl rfl rfl rfl (cv_rfl rfl) rfl sz3 rfl ?_
 refine al_nil ?_
 refine aq_block ?_
 refine aq_then ?_
 refine aw_region ?_
 refine in_ ?_
 refine mv_ ?_
 refine al_nil ?_
 exact aq_again k58 ((l57x0_0.set (u61).toNat { (u65 : S_api_Thing) with Colour := (1 : Int) }), (wq (l57i44 + (1 : Int)))) (Nat.lt_succ_self _) h (nm_ [0, 1, 2] [] (by decide) ⟨rfl, rfl, rfl, rfl, trivial⟩)
 replace h := bif_f hb60 h
 refine aw_exit ?_
 refine aq_then_exit ?_
 refine aq_then_exit ?_
 refine aq_block_exit ?_
 exact aq_join l57x0_0 h (nm_ [0, 1, 2] [] (by decide) ⟨rfl, trivial⟩)
 clear hkk54
 refine sm_ ?_
 refine al_val (ov_nilCheck rfl rfl) ?_
 refine al_val (ov_fieldA (p := 0) rfl Try.underlying77 rfl sz38 rfl rfl rfl) ?_
 refine al_val (ov_fieldA (p := 0) rfl Try.underlying38 rfl sz36 rfl rfl rfl) ?_
 refine al_val (ov_load (i := 0) (v := v0_0) rfl rfl Try.underlying36 sz36 rfl rfl rfl rfl) ?_
 refine al_val (ov_lenK2 1 rfl rfl Try.underlying36 rfl) ?_
 refine mv_ ?_
 refine al_nt ?_
 refine aw_block ?_
 refine aw_state (aw_loop (ι := (List S_api_Thing) × Int) (fun i => (mm14 w0 Z0 a0 bx0 i.1 us0_0 v0_0 v0_1)) (fun i => (tab [(0, (pq bx0)), (25, (iq (a0.Things.length : Int))), (26, (iq i.2))])) (fun q i => f___sweep_heap__mark_L73 a0 kk54 q i.1 i.2 = some r) ?_ fu (a0.Things, (0 : Int)) h) (nm_ [1, 2, 0] [] (by decide) ⟨rfl, rfl, rfl, trivial⟩)
 clear h
 rintro k72 ⟨l71x0_0, l71i26⟩ h
 have h : f___sweep_heap__mark_L73 a0 kk54 k72 l71x0_0 l71i26 = some r := h
 obtain _ | k72 := k72
 rw [f___sweep_heap__mark_L73] at h; cases h
 rw [f___sweep_heap__mark_L73] at h
 refine aw_show (m := (mm14 w0 Z0 a0 bx0 l71x0_0 us0_0 v0_0 v0_1)) (S := _) ?_
 refine aw_sr ?_
 refine im_ ?_
 refine aw_seq ?_
 refine aw_cond rfl (fun hb74 => ?_) (fun hb74 => ?_)
 replace h := bif_t hb74 h
 refine aw_skip ?_
 refine aq_then ?_
 refine aw_seq ?_
 refine aw_block ?_
 refine sm_ ?_
 refine an_ ?_
 refine aw_region ?_
 refine mv_ ?_
 refine al_val (ov_nilCheck rfl rfl) ?_
 refine al_val (ov_fieldA (p := 0) rfl Try.underlying77 rfl sz38 rfl rfl rfl) ?_
 refine al_val (ov_fieldA (p := 0) rfl Try.underlying38 rfl sz36 rfl rfl rfl) ?_
 refine al_val (ov_load (i := 2) (v := v0_0) rfl rfl Try.underlying36 sz36 rfl rfl rfl rfl) ?_
 refine mv_ ?_
 obtain ⟨u75, hu76, h⟩ := opt_some h
 refine al_idxK (at_some hu76).1 (at_some hu76).2.1 (i := 0) rfl rfl rfl Try.underlying36 sz71 rfl (fun p77 hp78 => ?_)
 refine al_fieldR hp78 rfl Try.underlying71 rfl sz3 rfl rfl (fun p79 hp80 => ?_)
 refine al_storeFK (up := fun (x : S_api_Thing) (y : Int) => { x with Colour := y }) (k := (l71i26).toNat) (x := u75) (y := (0 : Int)) (vs := [(iq (0 : Int))]) rfl hp80 (at_some hu76).2.2 ssethS_api_Thing_1 rfl rfl rfl rfl (cv_rfl rfl) rfl sz3 rfl ?_
 refine al_nil ?_
 refine aq_block ?_
 refine aq_then ?_
 refine aw_region ?_
 refine in_ ?_
 refine mv_ ?_
 refine al_nil ?_
 exact aq_again k72 ((l71x0_0.set (l71i26).toNat { (u75 : S_api_Thing) with Colour := (0 : Int) }), (wq (l71i26 + (1 : Int)))) (Nat.lt_succ_self _) h (nm_ [0, 1, 2] [] (by decide) ⟨rfl, rfl, rfl, trivial⟩)
 replace h := bif_f hb74 h
 refine aw_exit ?_
 refine aq_then_exit ?_
 refine aq_then_exit ?_
 refine aq_block_exit ?_
 exact aq_join l71x0_0 h (nm_ [0, 1, 2] [] (by decide) ⟨rfl, trivial⟩)
 replace h := bif_f hb52 h
 refine aw_skip ?_
 exact aq_join () h (nm_ [1, 2, 0] [] (by decide) ⟨rfl, trivial⟩)
def f_slices_IndexFunc___api_Thing_api_Thing__F82_L5 (a0 : (List S_api_Thing)) (kk2 : (Unit → Option Int)) (fu : Nat) : Nat → Int → Option Int
  | 0, _ => none
  | k4 + 1, l3i8 => (bif (decide (l3i8 < (a0.length : Int))) then (opt (at? a0 l3i8) fun (u7 : S_api_Thing) => (opt (f___sweep_heap__fresh_1 fu u7) fun (r13 : Bool) => (bif r13 then (some l3i8) else (f_slices_IndexFunc___api_Thing_api_Thing__F82_L5 a0 kk2 fu k4 (IntKind.i64.wrap (l3i8 + (1 : Int))))))) else (kk2 ()))
def f_slices_IndexFunc___api_Thing_api_Thing__F82 (fu : Nat) (a0 : (List S_api_Thing)) : Option Int := (lt (fun (_ : Unit) => (some (-1 : Int))) fun (kk2 : Unit → Option Int) => (f_slices_IndexFunc___api_Thing_api_Thing__F82_L5 a0 kk2 fu fu (0 : Int)))
set_option maxHeartbeats 2000000 in
set_option maxRecDepth 100000 in
theorem f_slices_IndexFunc___api_Thing_api_Thing__F82_ok (fu : Nat) (v0_0 : Value) (a0 : (List S_api_Thing)) {r : Int} (h : f_slices_IndexFunc___api_Thing_api_Thing__F82 fu a0 = some r) : FnOk Try.prog 80 [v0_0, (Value.func (.func 82) #[] #[])] [(fDat (tyList tyS_api_Thing) [v0_0] a0)] [] (fun (i : Unit) => { val := (int .i64 r) }) := by
 unfold f_slices_IndexFunc___api_Thing_api_Thing__F82 at h
 refine fn_enter Try.func80 rfl Try.ntmps80 rfl (fun w0 Z0 => ?_)
 refine aw_sr ?_
 refine an_ ?_
 obtain ⟨kk2, hkk2, h⟩ := lt_some h
 refine aw_seq_join (ι := Unit) (fun i => (memOf w0 Z0 [] [] [(fDat (tyList tyS_api_Thing) [v0_0] a0)])) (fun i => (tab [])) (fun i => kk2 () = some r) ?_ ?_
 rintro _ h
 have h : kk2 () = some r := h
 rw [hkk2] at h
 dsimp only at h
 clear hkk2
 refine aw_show (m := (memOf w0 Z0 [] [] [(fDat (tyList tyS_api_Thing) [v0_0] a0)])) (S := _) ?_
 refine aw_sr ?_
 refine an_ ?_
 refine aw_ret ?_
 cases h
 exact fr1_
 clear hkk2
 refine sm_ ?_
 refine al_val (ov_lenD 0 rfl rfl Try.underlying36 rfl) ?_
 refine mv_ ?_
 refine al_nt ?_
 refine aw_block ?_
 refine aw_state (aw_loop (ι := Int) (fun i => (memOf w0 Z0 [] [] [(fDat (tyList tyS_api_Thing) [v0_0] a0)])) (fun i => (tab [(0, v0_0), (1, (fq 82)), (7, (iq (a0.length : Int))), (8, (iq i))])) (fun q i => f_slices_IndexFunc___api_Thing_api_Thing__F82_L5 a0 kk2 fu q i = some r) ?_ fu (0 : Int) h) (nm_ [] [0] (by decide) ⟨rfl, rfl, rfl, rfl, trivial⟩)
 clear h
 rintro k4 l3i8 h
 have h : f_slices_IndexFunc___api_Thing_api_Thing__F82_L5 a0 kk2 fu k4 l3i8 = some r := h
 obtain _ | k4 := k4
 rw [f_slices_IndexFunc___api_Thing_api_Thing__F82_L5] at h; cases h
 rw [f_slices_IndexFunc___api_Thing_api_Thing__F82_L5] at h
 refine aw_show (m := (memOf w0 Z0 [] [] [(fDat (tyList tyS_api_Thing) [v0_0] a0)])) (S := _) ?_
 refine aw_sr ?_
 refine im_ ?_
 refine aw_seq ?_
 refine aw_cond rfl (fun hb6 => ?_) (fun hb6 => ?_)
 replace h := bif_t hb6 h
 refine aw_skip ?_
 refine aq_then ?_
 refine aw_seq ?_
 refine aw_block ?_
 refine sm_ ?_
 refine an_ ?_
 refine sm_ ?_
 refine mv_ ?_
 refine mv_ ?_
 obtain ⟨u7, hu8, h⟩ := opt_some h
 refine al_idxD 0 hu8 rfl rfl rfl Try.underlying36 sz71 rfl (fun p9 => ?_)
 refine al_loadPA 0 rfl rfl Try.underlying71 sz71 rfl rfl (fun cs11 => ?_)
 refine al_use (ι := Value) 0 rfl (fun j => cs11 = [j, (iq u7.Colour), (bool u7.Free)]) (fun j => [(fDat (tyList tq) [j] u7.Kids)]) encnS_api_Thing (fun s10 hq => ?_)
 subst hq
 obtain ⟨r13, hc12, h⟩ := opt_some h
 refine al_callF (vs := [(ag [s10, (iq u7.Colour), (bool u7.Free)])]) (caps := []) (f___sweep_heap__fresh_1_ok fu s10 u7 hc12) rfl [] [] [] (pre_fz 0 rfl pre_nil) rfl (by simp) (by decide) (.inl rfl) rfl rfl Try.func82 rfl rfl rfl (fun _ => ?_)
 refine al_nt ?_
 refine aw_cond rfl (fun hb14 => ?_) (fun hb14 => ?_)
 replace h := bif_t hb14 h
 refine sm_ ?_
 refine an_ ?_
 refine aw_ret ?_
 refine aq_block_ret ?_
 refine aq_then_ret ?_
 refine aq_then_ret ?_
 refine aq_block_ret ?_
 refine aq_then_ret ?_
 cases h
 exact fr1_
 replace h := bif_f hb14 h
 refine aw_skip ?_
 refine aq_block ?_
 refine aq_then ?_
 refine aw_region ?_
 refine in_ ?_
 refine mv_ ?_
 refine al_nil ?_
 exact aq_again k4 (wq (l3i8 + (1 : Int))) (Nat.lt_succ_self _) h (nm_ [] [3] (by decide) ⟨rfl, rfl, rfl, rfl, trivial⟩)
 replace h := bif_f hb6 h
 refine aw_exit ?_
 refine aq_then_exit ?_
 refine aq_then_exit ?_
 refine aq_block_exit ?_
 exact aq_join () h (nm_ [] [0] (by decide) trivial)
def f___sweep_heap__root (fu : Nat) (a0 : D_sweep_heap) (a1 : Int) : Option (Int × D_sweep_heap) := (bif (decide ((a0.Roots.length : Int) ≥ (64 : Int))) then (some ((2 : Int), a0)) else (req (((a0.Roots.length + ([a1]).length) * 8 : Nat) ≤ 140737488355328 ∧ a0.Roots.length + ([a1]).length ≤ 9223372036854775807) (opt (f___sweep_heap__shade fu (D_sweep_heap.mk a0.Things (a0.Roots ++ ([a1])) a0.Busy) a1) fun (r6 : D_sweep_heap) => (some ((0 : Int), r6)))))
set_option maxHeartbeats 2000000 in
set_option maxRecDepth 100000 in
theorem f___sweep_heap__root_ok (fu : Nat) (bx0 : Nat) (v0_0 : Value) (us0_0 : List Value) (v0_1 : Value) (a0 : D_sweep_heap) (a1 : Int) {r : (Int × D_sweep_heap)} (h : f___sweep_heap__root fu a0 a1 = some r) : FnOk Try.prog 71 [(ptr bx0 0), (int .i64 a1)] [] [(oBox bx0 77 [v0_0, v0_1, (bool a0.Busy)]), (oKids v0_0 71 tyhS_api_Thing 3 (tyInt .i64) (fun x : S_api_Thing => x.Kids) none us0_0 a0.Things), (oRow v0_1 3 (tyInt .i64) a0.Roots)] (fun (i : Value × List Value × Value) => { val := (int .i64 r.1), own := [(oBox bx0 77 [i.1, i.2.2, (bool r.2.Busy)]), (oKids i.1 71 tyhS_api_Thing 3 (tyInt .i64) (fun x : S_api_Thing => x.Kids) none i.2.1 r.2.Things), (oRow i.2.2 3 (tyInt .i64) r.2.Roots)] }) := by
 unfold f___sweep_heap__root at h
 refine fn_enter Try.func71 rfl Try.ntmps71 rfl (fun w0 Z0 => ?_)
 refine aw_sr ?_
 refine an_ ?_
 refine aw_seq ?_
 refine sm_ ?_
 refine al_val (ov_nilCheck rfl rfl) ?_
 refine al_val (ov_fieldA (p := 0) rfl Try.underlying77 rfl sz38 rfl rfl rfl) ?_
 refine al_val (ov_fieldA (p := 1) rfl Try.underlying38 rfl sz30 rfl rfl rfl) ?_
 refine al_val (ov_load (i := 0) (v := v0_1) rfl rfl Try.underlying30 sz30 rfl rfl rfl rfl) ?_
 refine al_val (ov_lenR 2 rfl rfl Try.underlying30 rfl) ?_
 refine im_ ?_
 refine aw_cond rfl (fun hb1 => ?_) (fun hb1 => ?_)
 replace h := bif_t hb1 h
 refine aw_sr ?_
 refine an_ ?_
 refine aw_ret ?_
 refine aq_then_ret ?_
 cases h
 exact fn_ret (v0_0, us0_0, v0_1) [0, 1, 2] [] rfl rfl rfl rfl (res1 rfl rfl) rfl rfl rfl (by decide)
 replace h := bif_f hb1 h
 refine aw_skip ?_
 refine aq_tr ?_
 refine mv_ ?_
 refine mv_ ?_
 refine al_val (ov_nilCheck rfl rfl) ?_
 refine al_val (ov_fieldA (p := 0) rfl Try.underlying77 rfl sz38 rfl rfl rfl) ?_
 refine al_val (ov_fieldA (p := 1) rfl Try.underlying38 rfl sz30 rfl rfl rfl) ?_
 refine al_val (ov_load (i := 0) (v := v0_1) rfl rfl Try.underlying30 sz30 rfl rfl rfl rfl) ?_
 refine mv_ ?_
 refine al_buildSlice (τ := tq) (e := 3) (k := 1) (sz := 0) (by_ := 0) (z := undef) (cs := [(iq a1)]) (xs := [a1]) rfl (by decide) (fun w a hm hs => ⟨([(iq a1)]).toArray, rfl, by simp only [List.map_toArray, List.map_cons, List.map_nil, hs.ev (x := .tmp 18) rfl]; exact run_bs [(iq a1)] [(iq a1)] Try.underlying30 to3 rfl rfl (bs_cons (l := [(iq a1)]) (cs := []) (cv_rfl rfl) rfl bs_nil) hm⟩) (fun hm => ⟨_, _, rfl, (fun _ => rfl) hm, rfl⟩) rfl (fun v2 => ?_)
 obtain ⟨hc3, h⟩ := req_some h
 refine al_append 3 hc3.1 hc3.2 rfl (src_own (i := 3) 0 rfl) rfl rfl Try.underlying30 to3 rfl rfl rfl (fun v4 => ?_)
 refine al_val (ov_nilCheck rfl rfl) ?_
 refine al_val (ov_fieldA (p := 0) rfl Try.underlying77 rfl sz38 rfl rfl rfl) ?_
 refine al_val (ov_fieldA (p := 1) rfl Try.underlying38 rfl sz30 rfl rfl rfl) ?_
 refine al_store (i := 1) (vs := [v4]) (cs' := [v0_0, v4, (bool a0.Busy)]) rfl rfl rfl sz30 (cv_own 3 rfl) rfl (co_own 3 rfl co_nil) (Nat.le_of_ble_eq_true rfl) rfl rfl ?_
 refine al_nt ?_
 refine sm_ ?_
 refine mv_ ?_
 obtain ⟨r6, hc5, h⟩ := opt_some h
 refine al_call (vs := [(pq bx0), (iq a1)]) (f___sweep_heap__shade_ok fu bx0 v0_0 us0_0 none v4 (D_sweep_heap.mk a0.Things (a0.Roots ++ ([a1])) a0.Busy) a1 hc5) [] [1, 2, 3] [0] pre_nil rfl (by simp) (by decide) (.inl rfl) rfl Try.func69 rfl rfl rfl (fun v7 => ?_)
 refine al_nt ?_
 refine aw_sr ?_
 refine an_ ?_
 refine aw_ret ?_
 cases h
 exact fn_ret (v0_0, us0_0, v7) [0, 1, 2] [] rfl rfl rfl rfl (res1 rfl rfl) rfl rfl rfl (by decide)
def f___sweep_heap__fresh (fu : Nat) (a0 : D_sweep_heap) : Option (Int × D_sweep_heap) := (opt (f_slices_IndexFunc___api_Thing_api_Thing__F82 fu a0.Things) fun (r2 : Int) => (lt (fun (j3b20 : Bool) => (bif j3b20 then (some ((12 : Int), a0)) else (bif (decide ((a0.Roots.length : Int) ≥ (64 : Int))) then (some ((2 : Int), a0)) else (lt (fun (j7x0_0 : (List S_api_Thing)) (j7i3 : Int) => (opt (at? j7x0_0 j7i3) fun (u9 : S_api_Thing) => (opt (f___sweep_heap__root fu (D_sweep_heap.mk (j7x0_0.set (j7i3).toNat (S_api_Thing.mk ([] : (List Int)) (0 : Int) false)) a0.Roots a0.Busy) j7i3) fun (r14 : (Int × D_sweep_heap)) => (some (r14.1, r14.2))))) fun (kk8 : (List S_api_Thing) → Int → Option (Int × D_sweep_heap)) => (bif (decide (r2 < (0 : Int))) then (req (((a0.Things.length + ([(S_api_Thing.mk ([] : List Int) (0 : Int) false)]).length) * 40 : Nat) ≤ 140737488355328 ∧ a0.Things.length + ([(S_api_Thing.mk ([] : List Int) (0 : Int) false)]).length ≤ 9223372036854775807) (kk8 (a0.Things ++ ([(S_api_Thing.mk ([] : List Int) (0 : Int) false)])) (a0.Things.length : Int))) else (kk8 a0.Things r2)))))) fun (kk4 : Bool → Option (Int × D_sweep_heap)) => (bif (decide (r2 < (0 : Int))) then (kk4 (decide ((a0.Things.length : Int) ≥ (40 : Int)))) else (kk4 false))))
abbrev mm15 (w0 : World) (Z0 : Nat → Prop) (a0 : D_sweep_heap) (bx0 : Nat) (us0_0 : (List Value)) (v0_0 : Value) (v0_1 : Value) : Mem := memOf w0 Z0 [(oBox bx0 77 [v0_0, v0_1, (bool a0.Busy)]), (oKids v0_0 71 tyhS_api_Thing 3 (tyInt .i64) (fun x : S_api_Thing => x.Kids) none us0_0 a0.Things), (oRow v0_1 3 (tyInt .i64) a0.Roots)] [(oKids v0_0 71 tyhS_api_Thing 3 (tyInt .i64) (fun x : S_api_Thing => x.Kids) none us0_0 a0.Things), (oRow v0_1 3 (tyInt .i64) a0.Roots), (oBox bx0 77 [v0_0, v0_1, (bool a0.Busy)])] []
abbrev mm16 (w0 : World) (Z0 : Nat → Prop) (a0 : D_sweep_heap) (bx0 : Nat) (j7us0_0 : (List Value)) (j7v0_0 : Value) (j7x0_0 : (List S_api_Thing)) (us0_0 : (List Value)) (v0_0 : Value) (v0_1 : Value) : Mem := memOf w0 Z0 [(oBox bx0 77 [v0_0, v0_1, (bool a0.Busy)]), (oKids v0_0 71 tyhS_api_Thing 3 (tyInt .i64) (fun x : S_api_Thing => x.Kids) none us0_0 a0.Things), (oRow v0_1 3 (tyInt .i64) a0.Roots)] [(oKids j7v0_0 71 tyhS_api_Thing 3 (tyInt .i64) (fun x : S_api_Thing => x.Kids) none j7us0_0 j7x0_0), (oRow v0_1 3 (tyInt .i64) a0.Roots), (oBox bx0 77 [j7v0_0, v0_1, (bool a0.Busy)])] []
set_option maxHeartbeats 2000000 in
set_option maxRecDepth 100000 in
theorem f___sweep_heap__fresh_ok (fu : Nat) (bx0 : Nat) (v0_0 : Value) (us0_0 : List Value) (v0_1 : Value) (a0 : D_sweep_heap) {r : (Int × D_sweep_heap)} (h : f___sweep_heap__fresh fu a0 = some r) : FnOk Try.prog 67 [(ptr bx0 0)] [] [(oBox bx0 77 [v0_0, v0_1, (bool a0.Busy)]), (oKids v0_0 71 tyhS_api_Thing 3 (tyInt .i64) (fun x : S_api_Thing => x.Kids) none us0_0 a0.Things), (oRow v0_1 3 (tyInt .i64) a0.Roots)] (fun (i : Value × List Value × Value) => { val := (int .i64 r.1), own := [(oBox bx0 77 [i.1, i.2.2, (bool r.2.Busy)]), (oKids i.1 71 tyhS_api_Thing 3 (tyInt .i64) (fun x : S_api_Thing => x.Kids) none i.2.1 r.2.Things), (oRow i.2.2 3 (tyInt .i64) r.2.Roots)] }) := by
 unfold f___sweep_heap__fresh at h
 refine fn_enter Try.func67 rfl Try.ntmps67 rfl (fun w0 Z0 => ?_)
 refine aw_sr ?_
 refine an_ ?_
 refine sm_ ?_
 refine al_val (ov_nilCheck rfl rfl) ?_
 refine al_val (ov_fieldA (p := 0) rfl Try.underlying77 rfl sz38 rfl rfl rfl) ?_
 refine al_val (ov_fieldA (p := 0) rfl Try.underlying38 rfl sz36 rfl rfl rfl) ?_
 refine al_val (ov_load (i := 0) (v := v0_0) rfl rfl Try.underlying36 sz36 rfl rfl rfl rfl) ?_
 obtain ⟨r2, hc1, h⟩ := opt_some h
 refine al_call (vs := [v0_0, (fq 82)]) (f_slices_IndexFunc___api_Thing_api_Thing__F82_ok fu v0_0 a0.Things hc1) [1] [] [0, 1, 2] (pre_kids rfl (fun p q => shS_api_Thing p q) 1 rfl rfl pre_nil) rfl (by simp) (by decide) (.inr flat_res0) rfl Try.func80 rfl rfl rfl (fun _ => ?_)
 refine an_ ?_
 refine aw_seq ?_
 obtain ⟨kk4, hkk4, h⟩ := lt_some h
 refine aw_seq_join (ι := Bool) (fun i => (mm15 w0 Z0 a0 bx0 us0_0 v0_0 v0_1)) (fun i => (tab [(0, (pq bx0)), (3, (iq r2)), (20, (bool i))])) (fun i => kk4 i = some r) ?_ ?_
 rintro j3b20 h
 have h : kk4 j3b20 = some r := h
 rw [hkk4] at h
 dsimp only at h
 clear hkk4
 refine aw_show (m := (mm15 w0 Z0 a0 bx0 us0_0 v0_0 v0_1)) (S := _) ?_
 refine aw_cond rfl (fun hb5 => ?_) (fun hb5 => ?_)
 replace h := bif_t hb5 h
 refine aw_sr ?_
 refine an_ ?_
 refine aw_ret ?_
 refine aq_then_ret ?_
 cases h
 exact fn_ret (v0_0, us0_0, v0_1) [2, 0, 1] [] rfl rfl rfl rfl (res1 rfl rfl) rfl rfl rfl (by decide)
 replace h := bif_f hb5 h
 refine aw_skip ?_
 refine aq_then ?_
 refine aw_seq ?_
 refine sm_ ?_
 refine al_val (ov_nilCheck rfl rfl) ?_
 refine al_val (ov_fieldA (p := 0) rfl Try.underlying77 rfl sz38 rfl rfl rfl) ?_
 refine al_val (ov_fieldA (p := 1) rfl Try.underlying38 rfl sz30 rfl rfl rfl) ?_
 refine al_val (ov_load (i := 2) (v := v0_1) rfl rfl Try.underlying30 sz30 rfl rfl rfl rfl) ?_
 refine al_val (ov_lenR 1 rfl rfl Try.underlying30 rfl) ?_
 refine im_ ?_
 refine aw_cond rfl (fun hb6 => ?_) (fun hb6 => ?_)
 replace h := bif_t hb6 h
 refine aw_sr ?_
 refine an_ ?_
 refine aw_ret ?_
 refine aq_then_ret ?_
 cases h
 exact fn_ret (v0_0, us0_0, v0_1) [2, 0, 1] [] rfl rfl rfl rfl (res1 rfl rfl) rfl rfl rfl (by decide)
 replace h := bif_f hb6 h
 refine aw_skip ?_
 refine aq_then ?_
 obtain ⟨kk8, hkk8, h⟩ := lt_some h
 refine aw_seq_join (ι := Value × (List S_api_Thing) × (List Value) × Int) (fun i => (mm16 w0 Z0 a0 bx0 i.2.2.1 i.1 i.2.1 us0_0 v0_0 v0_1)) (fun i => (tab [(0, (pq bx0)), (3, (iq i.2.2.2))])) (fun i => kk8 i.2.1 i.2.2.2 = some r) ?_ ?_
 rintro ⟨j7v0_0, j7x0_0, j7us0_0, j7i3⟩ h
 have h : kk8 j7x0_0 j7i3 = some r := h
 rw [hkk8] at h
 dsimp only at h
 clear hkk8
 refine aw_show (m := (mm16 w0 Z0 a0 bx0 j7us0_0 j7v0_0 j7x0_0 us0_0 v0_0 v0_1)) (S := _) ?_
 refine sm_ ?_
 refine al_val (ov_nilCheck rfl rfl) ?_
 refine al_val (ov_fieldA (p := 0) rfl Try.underlying77 rfl sz38 rfl rfl rfl) ?_
 refine al_val (ov_fieldA (p := 0) rfl Try.underlying38 rfl sz36 rfl rfl rfl) ?_
 refine al_val (ov_load (i := 2) (v := j7v0_0) rfl rfl Try.underlying36 sz36 rfl rfl rfl rfl) ?_
 refine mv_ ?_
 refine al_val (ov_build (cells := ([nS, (iq (0 : Int)), (bool false)] : List Value).toArray) (cs := [nS, (iq (0 : Int)), (bool false)]) rfl (fun w a hm hs => by simp only [List.map_toArray, List.map_cons, List.map_nil, List.toList_toArray]; kernel_rfl)) ?_
 obtain ⟨u9, hu10, h⟩ := opt_some h
 refine al_idxK (at_some hu10).1 (at_some hu10).2.1 (i := 0) rfl rfl rfl Try.underlying36 sz71 rfl (fun p11 hp12 => ?_)
 refine al_storeNilK (k := (j7i3).toNat) (x2 := (S_api_Thing.mk ([] : (List Int)) (0 : Int) false)) (vs := [nS, (iq (0 : Int)), (bool false)]) rfl hp12 (at_some hu10).2.2 rfl rfl rfl (cv_rfl rfl) (mkhS_api_Thing (x := (S_api_Thing.mk ([] : (List Int)) (0 : Int) false)) rfl ⟨none, 0, 0, rfl⟩) sz71 rfl ?_
 refine al_nt ?_
 refine sm_ ?_
 refine mv_ ?_
 obtain ⟨r14, hc13, h⟩ := opt_some h
 refine al_call (vs := [(pq bx0), (iq j7i3)]) (f___sweep_heap__root_ok fu bx0 j7v0_0 (j7us0_0.set (j7i3).toNat nS) v0_1 (D_sweep_heap.mk (j7x0_0.set (j7i3).toNat (S_api_Thing.mk ([] : (List Int)) (0 : Int) false)) a0.Roots a0.Busy) j7i3 hc13) [] [2, 0, 1] [] pre_nil rfl (by simp) (by decide) (.inl rfl) rfl Try.func71 rfl rfl rfl (fun ⟨v15, us16, v17⟩ => ?_)
 refine an_ ?_
 refine aw_ret ?_
 cases h
 exact fn_ret (v15, us16, v17) [0, 1, 2] [] rfl rfl rfl rfl (res1 rfl rfl) rfl rfl rfl (by decide)
 clear hkk8
 refine sm_ ?_
 refine im_ ?_
 refine aw_cond rfl (fun hb18 => ?_) (fun hb18 => ?_)
 replace h := bif_t hb18 h
 refine sm_ ?_
 refine al_val (ov_nilCheck rfl rfl) ?_
 refine al_val (ov_fieldA (p := 0) rfl Try.underlying77 rfl sz38 rfl rfl rfl) ?_
 refine al_val (ov_fieldA (p := 0) rfl Try.underlying38 rfl sz36 rfl rfl rfl) ?_
 refine al_val (ov_load (i := 2) (v := v0_0) rfl rfl Try.underlying36 sz36 rfl rfl rfl rfl) ?_
 refine al_val (ov_lenK2 0 rfl rfl Try.underlying36 rfl) ?_
 refine an_ ?_
 refine aw_region ?_
 refine mv_ ?_
 refine mv_ ?_
 refine al_val (ov_nilCheck rfl rfl) ?_
 refine al_val (ov_fieldA (p := 0) rfl Try.underlying77 rfl sz38 rfl rfl rfl) ?_
 refine al_val (ov_fieldA (p := 0) rfl Try.underlying38 rfl sz36 rfl rfl rfl) ?_
 refine al_val (ov_load (i := 2) (v := v0_0) rfl rfl Try.underlying36 sz36 rfl rfl rfl rfl) ?_
 refine al_val (ov_build (cells := ([nS, (iq (0 : Int)), (bool false)] : List Value).toArray) (cs := [nS, (iq (0 : Int)), (bool false)]) rfl (fun w a hm hs => by simp only [List.map_toArray, List.map_cons, List.map_nil, List.toList_toArray]; kernel_rfl)) ?_
 refine al_nilR 3 tq ?_
 refine al_buildSliceK (x := (S_api_Thing.mk ([] : List Int) (0 : Int) false)) (u := nS) (eb := 3) (τk := tq) (kd := (fun x : S_api_Thing => x.Kids)) (τh := tyhS_api_Thing) (e := 71) (cs := [nS, (iq (0 : Int)), (bool false)]) rfl (fun w a hm hs => ⟨([nS, (iq (0 : Int)), (bool false)]).toArray, rfl, by simp only [List.map_toArray, List.map_cons, List.map_nil, hs.ev (x := .tmp 42) rfl]; exact run_bs [(ag [nS, (iq (0 : Int)), (bool false)])] [nS, (iq (0 : Int)), (bool false)] Try.underlying36 to71 rfl rfl (bs_cons (l := [nS, (iq (0 : Int)), (bool false)]) (cs := []) (cv_rfl rfl) rfl bs_nil) hm⟩) (fun hu => mkhS_api_Thing (x := (S_api_Thing.mk ([] : List Int) (0 : Int) false)) rfl hu) rfl (fun v19 => ?_)
 refine al_reo [1, 0, 2, 3] (by decide) ?_
 obtain ⟨hc21, h⟩ := req_some h
 refine al_appendK hc21.1 hc21.2 rfl rfl rfl Try.underlying36 to71 rfl rfl rfl (fun v20 => ?_)
 refine al_val (ov_nilCheck rfl rfl) ?_
 refine al_val (ov_fieldA (p := 0) rfl Try.underlying77 rfl sz38 rfl rfl rfl) ?_
 refine al_val (ov_fieldA (p := 0) rfl Try.underlying38 rfl sz36 rfl rfl rfl) ?_
 refine al_store (i := 2) (vs := [v20]) (cs' := [v20, v0_1, (bool a0.Busy)]) rfl rfl rfl sz36 (cv_kids 0 rfl) rfl (co_kids 0 rfl co_nil) (Nat.le_of_ble_eq_true rfl) rfl rfl ?_
 refine al_nil ?_
 exact aq_join (v20, (a0.Things ++ ([(S_api_Thing.mk ([] : List Int) (0 : Int) false)])), (us0_0 ++ ([nS])), (a0.Things.length : Int)) h (nm_ [0, 1, 2] [] (by decide) ⟨rfl, rfl, trivial⟩)
 replace h := bif_f hb18 h
 refine aw_skip ?_
 exact aq_join (v0_0, a0.Things, us0_0, r2) h (nm_ [0, 1, 2] [] (by decide) ⟨rfl, rfl, trivial⟩)
 clear hkk4
 refine aw_region ?_
 refine mv_ ?_
 refine in_ ?_
 refine mv_ ?_
 refine al_caseB 12 rfl (fun hb22 => ?_) (fun hb22 => ?_)
 replace h := bif_t hb22 h
 refine mv_ ?_
 refine al_val (ov_nilCheck rfl rfl) ?_
 refine al_val (ov_fieldA (p := 0) rfl Try.underlying77 rfl sz38 rfl rfl rfl) ?_
 refine al_val (ov_fieldA (p := 0) rfl Try.underlying38 rfl sz36 rfl rfl rfl) ?_
 refine al_val (ov_load (i := 0) (v := v0_0) rfl rfl Try.underlying36 sz36 rfl rfl rfl rfl) ?_
 refine al_val (ov_lenK2 1 rfl rfl Try.underlying36 rfl) ?_
 refine in_ ?_
 refine al_val (ov_pick_t rfl rfl rfl) ?_
 refine al_nil ?_
 exact aq_join (decide ((a0.Things.length : Int) ≥ (40 : Int))) h (nm_ [1, 2, 0] [] (by decide) ⟨rfl, rfl, rfl, trivial⟩)
 replace h := bif_f hb22 h
 iterate 7 refine al_skip ?_
 refine al_val (ov_pick_f rfl rfl rfl) ?_
 refine al_nil ?_
 exact aq_join false h (nm_ [1, 2, 0] [] (by decide) ⟨rfl, rfl, rfl, trivial⟩)
def f___sweep_heap__isLive (fu : Nat) (a0 : D_sweep_heap) (a1 : Int) : Option (Bool × D_sweep_heap) := (lt (fun (j1b4 : Bool) => (some (j1b4, a0))) fun (kk2 : Bool → Option (Bool × D_sweep_heap)) => (bif (decide (a1 ≥ (0 : Int))) then (bif (decide (a1 < (a0.Things.length : Int))) then (opt (f_sweep_live fu (S_api_Heap.mk a0.Things a0.Roots a0.Busy)) fun (r6 : (List Bool)) => (opt (at? r6 a1) fun (u8 : Bool) => (kk2 u8))) else (kk2 false)) else (kk2 false)))
abbrev mm17 (w0 : World) (Z0 : Nat → Prop) (a0 : D_sweep_heap) (bx0 : Nat) (us0_0 : (List Value)) (v0_0 : Value) (v0_1 : Value) : Mem := memOf w0 Z0 [(oBox bx0 77 [v0_0, v0_1, (bool a0.Busy)]), (oKids v0_0 71 tyhS_api_Thing 3 (tyInt .i64) (fun x : S_api_Thing => x.Kids) none us0_0 a0.Things), (oRow v0_1 3 (tyInt .i64) a0.Roots)] [(oKids v0_0 71 tyhS_api_Thing 3 (tyInt .i64) (fun x : S_api_Thing => x.Kids) none us0_0 a0.Things), (oRow v0_1 3 (tyInt .i64) a0.Roots), (oBox bx0 77 [v0_0, v0_1, (bool a0.Busy)])] []
set_option maxHeartbeats 2000000 in
set_option maxRecDepth 100000 in
theorem f___sweep_heap__isLive_ok (fu : Nat) (bx0 : Nat) (v0_0 : Value) (us0_0 : List Value) (v0_1 : Value) (a0 : D_sweep_heap) (a1 : Int) {r : (Bool × D_sweep_heap)} (h : f___sweep_heap__isLive fu a0 a1 = some r) : FnOk Try.prog 68 [(ptr bx0 0), (int .i64 a1)] [] [(oBox bx0 77 [v0_0, v0_1, (bool a0.Busy)]), (oKids v0_0 71 tyhS_api_Thing 3 (tyInt .i64) (fun x : S_api_Thing => x.Kids) none us0_0 a0.Things), (oRow v0_1 3 (tyInt .i64) a0.Roots)] (fun (i : Value) => { val := (bool r.1), own := [(oBox bx0 77 [v0_0, i, (bool r.2.Busy)]), (oKids v0_0 71 tyhS_api_Thing 3 (tyInt .i64) (fun x : S_api_Thing => x.Kids) none us0_0 r.2.Things), (oRow i 3 (tyInt .i64) r.2.Roots)] }) := by
 unfold f___sweep_heap__isLive at h
 refine fn_enter Try.func68 rfl Try.ntmps68 rfl (fun w0 Z0 => ?_)
 refine aw_sr ?_
 refine an_ ?_
 obtain ⟨kk2, hkk2, h⟩ := lt_some h
 refine aw_seq_join (ι := Bool) (fun i => (mm17 w0 Z0 a0 bx0 us0_0 v0_0 v0_1)) (fun i => (tab [(0, (pq bx0)), (4, (bool i))])) (fun i => kk2 i = some r) ?_ ?_
 rintro j1b4 h
 have h : kk2 j1b4 = some r := h
 rw [hkk2] at h
 dsimp only at h
 clear hkk2
 refine aw_show (m := (mm17 w0 Z0 a0 bx0 us0_0 v0_0 v0_1)) (S := _) ?_
 refine aw_ret ?_
 cases h
 exact fn_ret v0_1 [2, 0, 1] [] rfl rfl rfl rfl (res1 rfl rfl) rfl rfl rfl (by decide)
 clear hkk2
 refine aw_region ?_
 refine mv_ ?_
 refine in_ ?_
 refine mv_ ?_
 refine al_caseB 7 rfl (fun hb3 => ?_) (fun hb3 => ?_)
 replace h := bif_t hb3 h
 refine mv_ ?_
 refine mv_ ?_
 refine al_val (ov_nilCheck rfl rfl) ?_
 refine al_val (ov_fieldA (p := 0) rfl Try.underlying77 rfl sz38 rfl rfl rfl) ?_
 refine al_val (ov_fieldA (p := 0) rfl Try.underlying38 rfl sz36 rfl rfl rfl) ?_
 refine al_val (ov_load (i := 0) (v := v0_0) rfl rfl Try.underlying36 sz36 rfl rfl rfl rfl) ?_
 refine al_val (ov_lenK2 1 rfl rfl Try.underlying36 rfl) ?_
 refine in_ ?_
 refine al_val (ov_pick_t rfl rfl rfl) ?_
 refine mv_ ?_
 refine al_caseB 17 rfl (fun hb4 => ?_) (fun hb4 => ?_)
 replace h := bif_t hb4 h
 refine mv_ ?_
 refine al_val (ov_nilCheck rfl rfl) ?_
 refine al_val (ov_fieldA (p := 0) rfl Try.underlying77 rfl sz38 rfl rfl rfl) ?_
 refine al_val (ov_load (i := 0) (v := (ag [v0_0, v0_1, (bool a0.Busy)])) rfl rfl Try.underlying38 sz38 rfl rfl rfl rfl) ?_
 obtain ⟨r6, hc5, h⟩ := opt_some h
 refine al_call (vs := [(ag [v0_0, v0_1, (bool a0.Busy)])]) (f_sweep_live_ok fu v0_0 v0_1 (S_api_Heap.mk a0.Things a0.Roots a0.Busy) hc5) [1, 2] [] [0, 1, 2] (pre_kids rfl (fun p q => shS_api_Thing p q) 1 rfl rfl (pre_own 2 rfl rfl pre_nil)) rfl (by simp) (by decide) (.inr (flat_res1 (fun _ => flat_row flat_enc))) rfl Try.func34 rfl rfl rfl (fun v7 => ?_)
 refine mv_ ?_
 obtain ⟨u8, hu9, h⟩ := opt_some h
 refine al_idxR 0 (at_some hu9).1 (at_some hu9).2.1 rfl rfl rfl Try.underlying42 sz4 rfl (fun p10 hp11 => ?_)
 refine al_val (ov_loadR (ds := [(bool u8)]) 0 rfl hp11 (at_some hu9).2.2 (fun h => h) rfl Try.underlying4 sz4 rfl rfl rfl) ?_
 refine al_val (ov_pick_t rfl rfl rfl) ?_
 refine as_ ?_
 refine al_nil ?_
 exact aq_join u8 h (nm_ [2, 3, 1] [] (by decide) ⟨rfl, rfl, trivial⟩)
 replace h := bif_f hb4 h
 iterate 8 refine al_skip ?_
 refine al_val (ov_pick_f rfl rfl rfl) ?_
 refine as_ ?_
 refine al_nil ?_
 exact aq_join false h (nm_ [1, 2, 0] [] (by decide) ⟨rfl, rfl, trivial⟩)
 replace h := bif_f hb3 h
 iterate 8 refine al_skip ?_
 refine al_val (ov_pick_f rfl rfl rfl) ?_
 refine mv_ ?_
 iterate 8 refine al_skip ?_
 refine al_val (ov_pick_f rfl rfl rfl) ?_
 refine as_ ?_
 refine al_nil ?_
 exact aq_join false h (nm_ [1, 2, 0] [] (by decide) ⟨rfl, rfl, trivial⟩)
def f___sweep_heap__act (fu : Nat) (a0 : D_sweep_heap) (a1 : S_api_Act) : Option (Int × D_sweep_heap) := (lt (fun (j2x0_0 : (List S_api_Thing)) (j2x0_1 : (List Int)) (j2b0_2 : Bool) => (some ((0 : Int), (D_sweep_heap.mk j2x0_0 j2x0_1 j2b0_2)))) fun (kk3 : (List S_api_Thing) → (List Int) → Bool → Option (Int × D_sweep_heap)) => (bif (a1.Kind == (1 : Int)) then (opt (f___sweep_heap__mark fu a0) fun (r6 : D_sweep_heap) => (kk3 r6.Things r6.Roots r6.Busy)) else (bif (a1.Kind == (2 : Int)) then (opt (f___sweep_heap__fresh fu a0) fun (r12 : (Int × D_sweep_heap)) => (some (r12.1, r12.2))) else (bif (a1.Kind == (3 : Int)) then (lt (fun (j17x0_0 : (List S_api_Thing)) (j17x0_1 : (List Int)) (j17b0_2 : Bool) (j17b30 : Bool) => (bif j17b30 then (some ((9 : Int), (D_sweep_heap.mk j17x0_0 j17x0_1 j17b0_2))) else (opt (at? j17x0_0 a1.From) fun (u20 : S_api_Thing) => (bif (decide ((u20.Kids.length : Int) ≥ (64 : Int))) then (some ((2 : Int), (D_sweep_heap.mk j17x0_0 j17x0_1 j17b0_2))) else (req (((u20.Kids.length + ([a1.To]).length) * 8 : Nat) ≤ 140737488355328 ∧ u20.Kids.length + ([a1.To]).length ≤ 9223372036854775807) (opt (f___sweep_heap__shade fu (D_sweep_heap.mk (j17x0_0.set (a1.From).toNat { (u20 : S_api_Thing) with Kids := (u20.Kids ++ ([a1.To])) }) j17x0_1 j17b0_2) a1.To) fun (r39 : D_sweep_heap) => (kk3 r39.Things r39.Roots r39.Busy))))))) fun (kk18 : (List S_api_Thing) → (List Int) → Bool → Bool → Option (Int × D_sweep_heap)) => (opt (f___sweep_heap__isLive fu a0 a1.From) fun (r42 : (Bool × D_sweep_heap)) => (bif (!r42.1) then (kk18 r42.2.Things r42.2.Roots r42.2.Busy true) else (opt (f___sweep_heap__isLive fu r42.2 a1.To) fun (r46 : (Bool × D_sweep_heap)) => (kk18 r46.2.Things r46.2.Roots r46.2.Busy (!r46.1)))))) else (bif (a1.Kind == (4 : Int)) then (lt (fun (j49x0_0 : (List S_api_Thing)) (j49x0_1 : (List Int)) (j49b0_2 : Bool) (j49b87 : Bool) => (bif j49b87 then (some ((9 : Int), (D_sweep_heap.mk j49x0_0 j49x0_1 j49b0_2))) else (opt (at? j49x0_0 a1.From) fun (u52 : S_api_Thing) => (opt (f_slices_Delete_I fu u52.Kids a1.To (IntKind.i64.wrap (a1.To + (1 : Int)))) fun (r61 : (List Int)) => (kk3 (j49x0_0.set (a1.From).toNat { (u52 : S_api_Thing) with Kids := r61 }) j49x0_1 j49b0_2))))) fun (kk50 : (List S_api_Thing) → (List Int) → Bool → Bool → Option (Int × D_sweep_heap)) => (opt (f___sweep_heap__isLive fu a0 a1.From) fun (r66 : (Bool × D_sweep_heap)) => (bif (!r66.1) then (kk50 r66.2.Things r66.2.Roots r66.2.Busy true) else (bif (decide (a1.To < (0 : Int))) then (kk50 r66.2.Things r66.2.Roots r66.2.Busy true) else (opt (at? r66.2.Things a1.From) fun (u70 : S_api_Thing) => (kk50 r66.2.Things r66.2.Roots r66.2.Busy (decide (a1.To ≥ (u70.Kids.length : Int))))))))) else (bif (a1.Kind == (5 : Int)) then (opt (f___sweep_heap__isLive fu a0 a1.To) fun (r80 : (Bool × D_sweep_heap)) => (bif (!r80.1) then (some ((9 : Int), r80.2)) else (opt (f___sweep_heap__root fu r80.2 a1.To) fun (r84 : (Int × D_sweep_heap)) => (some (r84.1, r84.2))))) else (bif (a1.Kind == (6 : Int)) then (lt (fun (j89b135 : Bool) => (bif j89b135 then (some ((9 : Int), a0)) else (opt (f_slices_Delete_I fu a0.Roots a1.To (IntKind.i64.wrap (a1.To + (1 : Int)))) fun (r93 : (List Int)) => (kk3 a0.Things r93 a0.Busy)))) fun (kk90 : Bool → Option (Int × D_sweep_heap)) => (bif (decide (a1.To < (0 : Int))) then (kk90 true) else (kk90 (decide (a1.To ≥ (a0.Roots.length : Int)))))) else (some ((5 : Int), a0)))))))))
abbrev mm18 (w0 : World) (Z0 : Nat → Prop) (a0 : D_sweep_heap) (a1 : S_api_Act) (bx0 : Nat) (g1 : Nat) (j17b0_2 : Bool) (j17v0_1 : Value) (j17x0_0 : (List S_api_Thing)) (j17x0_1 : (List Int)) (us0_0 : (List Value)) (v0_0 : Value) (v0_1 : Value) : Mem := memOf w0 Z0 [(oBox bx0 77 [v0_0, v0_1, (bool a0.Busy)]), (oKids v0_0 71 tyhS_api_Thing 3 (tyInt .i64) (fun x : S_api_Thing => x.Kids) none us0_0 a0.Things), (oRow v0_1 3 (tyInt .i64) a0.Roots)] [(oKids v0_0 71 tyhS_api_Thing 3 (tyInt .i64) (fun x : S_api_Thing => x.Kids) none us0_0 j17x0_0), (oRow j17v0_1 3 (tyInt .i64) j17x0_1), (oBox bx0 77 [v0_0, j17v0_1, (bool j17b0_2)]), (oBox g1 40 [(int .i64 a1.Kind), (int .i64 a1.From), (int .i64 a1.To)])] []
abbrev mm19 (w0 : World) (Z0 : Nat → Prop) (a0 : D_sweep_heap) (a1 : S_api_Act) (bx0 : Nat) (g1 : Nat) (j17b0_2 : Bool) (j17v0_1 : Value) (j17x0_0 : (List S_api_Thing)) (j17x0_1 : (List Int)) (u20 : S_api_Thing) (us0_0 : (List Value)) (v0_0 : Value) (v0_1 : Value) (v33 : Value) (v35 : Value) : Mem := memOf w0 Z0 [(oBox bx0 77 [v0_0, v0_1, (bool a0.Busy)]), (oKids v0_0 71 tyhS_api_Thing 3 (tyInt .i64) (fun x : S_api_Thing => x.Kids) none us0_0 a0.Things), (oRow v0_1 3 (tyInt .i64) a0.Roots)] [(oRow v35 3 (tyInt .i64) (u20.Kids ++ ([a1.To]))), (oKids v0_0 71 tyhS_api_Thing 3 (tyInt .i64) (fun x : S_api_Thing => x.Kids) (some (a1.From).toNat) us0_0 j17x0_0), (oRow v33 3 (tyInt .i64) [a1.To]), (oRow j17v0_1 3 (tyInt .i64) j17x0_1), (oBox bx0 77 [v0_0, j17v0_1, (bool j17b0_2)]), (oBox g1 40 [(int .i64 a1.Kind), (int .i64 a1.From), (int .i64 a1.To)])] []
abbrev mm20 (w0 : World) (Z0 : Nat → Prop) (a0 : D_sweep_heap) (a1 : S_api_Act) (bx0 : Nat) (g1 : Nat) (j17b0_2 : Bool) (j17v0_1 : Value) (j17x0_0 : (List S_api_Thing)) (j17x0_1 : (List Int)) (u20 : S_api_Thing) (us0_0 : (List Value)) (v0_0 : Value) (v0_1 : Value) (v33 : Value) (v35 : Value) : Mem := memOf w0 Z0 [(oBox bx0 77 [v0_0, v0_1, (bool a0.Busy)]), (oKids v0_0 71 tyhS_api_Thing 3 (tyInt .i64) (fun x : S_api_Thing => x.Kids) none us0_0 a0.Things), (oRow v0_1 3 (tyInt .i64) a0.Roots)] [(oKids v0_0 71 tyhS_api_Thing 3 (tyInt .i64) (fun x : S_api_Thing => x.Kids) none (us0_0.set (a1.From).toNat v35) (j17x0_0.set (a1.From).toNat { (u20 : S_api_Thing) with Kids := (u20.Kids ++ ([a1.To])) })), (oRow v33 3 (tyInt .i64) [a1.To]), (oRow j17v0_1 3 (tyInt .i64) j17x0_1), (oBox bx0 77 [v0_0, j17v0_1, (bool j17b0_2)]), (oBox g1 40 [(int .i64 a1.Kind), (int .i64 a1.From), (int .i64 a1.To)])] []
abbrev mm21 (w0 : World) (Z0 : Nat → Prop) (a0 : D_sweep_heap) (a1 : S_api_Act) (bx0 : Nat) (g1 : Nat) (j49b0_2 : Bool) (j49v0_1 : Value) (j49x0_0 : (List S_api_Thing)) (j49x0_1 : (List Int)) (us0_0 : (List Value)) (v0_0 : Value) (v0_1 : Value) : Mem := memOf w0 Z0 [(oBox bx0 77 [v0_0, v0_1, (bool a0.Busy)]), (oKids v0_0 71 tyhS_api_Thing 3 (tyInt .i64) (fun x : S_api_Thing => x.Kids) none us0_0 a0.Things), (oRow v0_1 3 (tyInt .i64) a0.Roots)] [(oKids v0_0 71 tyhS_api_Thing 3 (tyInt .i64) (fun x : S_api_Thing => x.Kids) none us0_0 j49x0_0), (oRow j49v0_1 3 (tyInt .i64) j49x0_1), (oBox bx0 77 [v0_0, j49v0_1, (bool j49b0_2)]), (oBox g1 40 [(int .i64 a1.Kind), (int .i64 a1.From), (int .i64 a1.To)])] []
abbrev mm22 (w0 : World) (Z0 : Nat → Prop) (a0 : D_sweep_heap) (a1 : S_api_Act) (bx0 : Nat) (g1 : Nat) (j49b0_2 : Bool) (j49v0_1 : Value) (j49x0_0 : (List S_api_Thing)) (j49x0_1 : (List Int)) (r61 : (List Int)) (us0_0 : (List Value)) (v0_0 : Value) (v0_1 : Value) (v62 : Value) : Mem := memOf w0 Z0 [(oBox bx0 77 [v0_0, v0_1, (bool a0.Busy)]), (oKids v0_0 71 tyhS_api_Thing 3 (tyInt .i64) (fun x : S_api_Thing => x.Kids) none us0_0 a0.Things), (oRow v0_1 3 (tyInt .i64) a0.Roots)] [(oRow v62 3 (tyInt .i64) r61), (oKids v0_0 71 tyhS_api_Thing 3 (tyInt .i64) (fun x : S_api_Thing => x.Kids) (some (a1.From).toNat) us0_0 j49x0_0), (oRow j49v0_1 3 (tyInt .i64) j49x0_1), (oBox bx0 77 [v0_0, j49v0_1, (bool j49b0_2)]), (oBox g1 40 [(int .i64 a1.Kind), (int .i64 a1.From), (int .i64 a1.To)])] []
abbrev mm23 (w0 : World) (Z0 : Nat → Prop) (a0 : D_sweep_heap) (a1 : S_api_Act) (bx0 : Nat) (g1 : Nat) (j49b0_2 : Bool) (j49v0_1 : Value) (j49x0_0 : (List S_api_Thing)) (j49x0_1 : (List Int)) (r61 : (List Int)) (u52 : S_api_Thing) (us0_0 : (List Value)) (v0_0 : Value) (v0_1 : Value) (v62 : Value) : Mem := memOf w0 Z0 [(oBox bx0 77 [v0_0, v0_1, (bool a0.Busy)]), (oKids v0_0 71 tyhS_api_Thing 3 (tyInt .i64) (fun x : S_api_Thing => x.Kids) none us0_0 a0.Things), (oRow v0_1 3 (tyInt .i64) a0.Roots)] [(oKids v0_0 71 tyhS_api_Thing 3 (tyInt .i64) (fun x : S_api_Thing => x.Kids) none (us0_0.set (a1.From).toNat v62) (j49x0_0.set (a1.From).toNat { (u52 : S_api_Thing) with Kids := r61 })), (oRow j49v0_1 3 (tyInt .i64) j49x0_1), (oBox bx0 77 [v0_0, j49v0_1, (bool j49b0_2)]), (oBox g1 40 [(int .i64 a1.Kind), (int .i64 a1.From), (int .i64 a1.To)])] []
abbrev mm24 (w0 : World) (Z0 : Nat → Prop) (a0 : D_sweep_heap) (a1 : S_api_Act) (bx0 : Nat) (g1 : Nat) (us0_0 : (List Value)) (v0_0 : Value) (v0_1 : Value) : Mem := memOf w0 Z0 [(oBox bx0 77 [v0_0, v0_1, (bool a0.Busy)]), (oKids v0_0 71 tyhS_api_Thing 3 (tyInt .i64) (fun x : S_api_Thing => x.Kids) none us0_0 a0.Things), (oRow v0_1 3 (tyInt .i64) a0.Roots)] [(oBox g1 40 [(int .i64 a1.Kind), (int .i64 a1.From), (int .i64 a1.To)]), (oBox bx0 77 [v0_0, v0_1, (bool a0.Busy)]), (oKids v0_0 71 tyhS_api_Thing 3 (tyInt .i64) (fun x : S_api_Thing => x.Kids) none us0_0 a0.Things), (oRow v0_1 3 (tyInt .i64) a0.Roots)] []
abbrev mm25 (w0 : World) (Z0 : Nat → Prop) (a0 : D_sweep_heap) (a1 : S_api_Act) (bx0 : Nat) (g1 : Nat) (r66 : (Bool × D_sweep_heap)) (us0_0 : (List Value)) (v0_0 : Value) (v0_1 : Value) (v67 : Value) : Mem := memOf w0 Z0 [(oBox bx0 77 [v0_0, v0_1, (bool a0.Busy)]), (oKids v0_0 71 tyhS_api_Thing 3 (tyInt .i64) (fun x : S_api_Thing => x.Kids) none us0_0 a0.Things), (oRow v0_1 3 (tyInt .i64) a0.Roots)] [(oBox bx0 77 [v0_0, v67, (bool r66.2.Busy)]), (oKids v0_0 71 tyhS_api_Thing 3 (tyInt .i64) (fun x : S_api_Thing => x.Kids) none us0_0 r66.2.Things), (oRow v67 3 (tyInt .i64) r66.2.Roots), (oBox g1 40 [(int .i64 a1.Kind), (int .i64 a1.From), (int .i64 a1.To)])] []
abbrev mm26 (w0 : World) (Z0 : Nat → Prop) (a0 : D_sweep_heap) (a1 : S_api_Act) (bx0 : Nat) (g1 : Nat) (us0_0 : (List Value)) (v0_0 : Value) (v0_1 : Value) : Mem := memOf w0 Z0 [(oBox bx0 77 [v0_0, v0_1, (bool a0.Busy)]), (oKids v0_0 71 tyhS_api_Thing 3 (tyInt .i64) (fun x : S_api_Thing => x.Kids) none us0_0 a0.Things), (oRow v0_1 3 (tyInt .i64) a0.Roots)] [(oKids v0_0 71 tyhS_api_Thing 3 (tyInt .i64) (fun x : S_api_Thing => x.Kids) none us0_0 a0.Things), (oRow v0_1 3 (tyInt .i64) a0.Roots), (oBox bx0 77 [v0_0, v0_1, (bool a0.Busy)]), (oBox g1 40 [(int .i64 a1.Kind), (int .i64 a1.From), (int .i64 a1.To)])] []
abbrev mm27 (w0 : World) (Z0 : Nat → Prop) (a0 : D_sweep_heap) (a1 : S_api_Act) (bx0 : Nat) (g1 : Nat) (r93 : (List Int)) (us0_0 : (List Value)) (v0_0 : Value) (v0_1 : Value) (v94 : Value) : Mem := memOf w0 Z0 [(oBox bx0 77 [v0_0, v0_1, (bool a0.Busy)]), (oKids v0_0 71 tyhS_api_Thing 3 (tyInt .i64) (fun x : S_api_Thing => x.Kids) none us0_0 a0.Things), (oRow v0_1 3 (tyInt .i64) a0.Roots)] [(oRow v94 3 (tyInt .i64) r93), (oKids v0_0 71 tyhS_api_Thing 3 (tyInt .i64) (fun x : S_api_Thing => x.Kids) none us0_0 a0.Things), (oBox bx0 77 [v0_0, v0_1, (bool a0.Busy)]), (oBox g1 40 [(int .i64 a1.Kind), (int .i64 a1.From), (int .i64 a1.To)])] []
abbrev mm28 (w0 : World) (Z0 : Nat → Prop) (a0 : D_sweep_heap) (a1 : S_api_Act) (bx0 : Nat) (g1 : Nat) (r93 : (List Int)) (us0_0 : (List Value)) (v0_0 : Value) (v0_1 : Value) (v94 : Value) : Mem := memOf w0 Z0 [(oBox bx0 77 [v0_0, v0_1, (bool a0.Busy)]), (oKids v0_0 71 tyhS_api_Thing 3 (tyInt .i64) (fun x : S_api_Thing => x.Kids) none us0_0 a0.Things), (oRow v0_1 3 (tyInt .i64) a0.Roots)] [(oRow v94 3 (tyInt .i64) r93), (oKids v0_0 71 tyhS_api_Thing 3 (tyInt .i64) (fun x : S_api_Thing => x.Kids) none us0_0 a0.Things), (oBox bx0 77 [v0_0, v94, (bool a0.Busy)]), (oBox g1 40 [(int .i64 a1.Kind), (int .i64 a1.From), (int .i64 a1.To)])] []
end Go.Proofs.Ytiioclkiapbjnaa
