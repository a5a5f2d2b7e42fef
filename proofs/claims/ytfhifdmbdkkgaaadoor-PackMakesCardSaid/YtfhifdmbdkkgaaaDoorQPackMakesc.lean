/- What PackMakes leans on, part 3. No condition. -/
import Derived.Test.YtfhifdmbdkkgaaaDoorQPackMakesb
import Derived.Test.YtfhifdmbdkkgaaaDoorChecked
namespace Go.Proofs.YtfhifdmbdkkgaaaDoor
open Go.RowKit YtfhifdmbdkkgaaaDoor.En
set_option linter.unusedVariables false
set_option linter.unusedSimpArgs false
open Go.Value (int bool)
set_option maxRecDepth 100000 in
set_option maxHeartbeats 2000000 in
set_option maxHeartbeats 2000000 in
theorem f___huff_heap_huff_tree___pop_ok (fu : Nat) (bx0 : Nat) (v0_0 : Value) (a0 : D_huff_heap_huff_tree_) {r : (S_huff_tree × D_huff_heap_huff_tree_)} (h : f___huff_heap_huff_tree___pop fu a0 = some r) : FnOk Tryd.prog 91 [(ptr bx0 0)] [] [(oBox bx0 143 [v0_0, (Value.func (.func 88) #[] #[])]), (oRow v0_0 138 tyS_huff_tree a0.items)] (fun (i : Value × Value) => { val := (ag [(int .i64 r.1.weight), (int .i64 r.1.least), i.1]), own := [(oBox bx0 143 [i.2, (Value.func (.func 88) #[] #[])]), (oRow i.2 138 tyS_huff_tree r.2.items)], fz := [(fDat (tyList (tyInt .i64)) [i.1] r.1.symbols)] }) := by
 unfold f___huff_heap_huff_tree___pop at h
 refine fn_enter Tryd.func91 rfl Tryd.ntmps91 rfl (fun w0 Z0 => ?_)
 refine aw_sr ?_
 refine al_alloc (zs := [(iq (0 : Int)), (iq (0 : Int)), nS]) (zeroOf_to to138) rfl rfl (fun g1 => ?_)
 refine al_nt ?_
 refine aw_sr ?_
 refine al_mv rfl rfl ?_
 refine al_val (ov_nilCheck rfl rfl) ?_
 refine al_val (ov_fieldA (p := 0) rfl Tryd.underlying143 rfl sz141 rfl rfl rfl) ?_
 refine al_val (ov_load (i := 1) (v := v0_0) rfl rfl Tryd.underlying141 sz141 rfl rfl rfl rfl) ?_
 obtain ⟨u2, hu3, h⟩ := opt_some h
 refine al_idxR 2 (at_some hu3).1 (at_some hu3).2.1 rfl rfl rfl Tryd.underlying141 sz138 rfl (fun p4 hp5 => ?_)
 refine al_loadRA 2 rfl hp5 (at_some hu3).2.2 rfl Tryd.underlying138 sz138 rfl rfl (fun cs7 => ?_)
 refine al_use (ι := Value) 0 rfl (fun j => cs7 = [(iq u2.weight), (iq u2.least), j]) (fun j => [(fDat (tyList tq) [j] u2.symbols)]) encnS_huff_tree (fun s6 hq => ?_)
 subst hq
 refine al_alloc (zs := [(iq (0 : Int)), (iq (0 : Int)), nS]) (zeroOf_to to138) rfl rfl (fun g8 => ?_)
 refine al_store (i := 0) (vs := [(iq u2.weight), (iq u2.least), s6]) (cs' := [(iq u2.weight), (iq u2.least), s6]) rfl rfl rfl sz138 (cv_rfl rfl) rfl (co_val rfl (co_val rfl (co_fz 0 rfl co_nil))) (Nat.le_of_ble_eq_true rfl) rfl rfl ?_
 refine al_nt ?_
 refine aw_sr ?_
 refine al_mv rfl rfl ?_
 refine al_val (ov_nilCheck rfl rfl) ?_
 refine al_val (ov_fieldA (p := 0) rfl Tryd.underlying143 rfl sz141 rfl rfl rfl) ?_
 refine al_val (ov_load (i := 2) (v := v0_0) rfl rfl Tryd.underlying141 sz141 rfl rfl rfl rfl) ?_
 refine al_val (ov_lenR 3 rfl rfl Tryd.underlying141 rfl) ?_
 refine al_in rfl rfl rfl rfl ?_
 refine al_as rfl rfl ?_
 refine al_nt ?_
 refine aw_seq ?_
 obtain ⟨u9, hu10, h⟩ := opt_some h
 obtain ⟨u15, hu16, h⟩ := opt_some h
 refine aw_region_open [⟨0, 21, Unit, fun _ => { val := (pq bx0) }⟩, ⟨1, 22, Unit, fun _ => { val := (pq bx0) }⟩, ⟨2, 23, Unit, fun _ => { val := (pq bx0) }⟩, ⟨3, 24, Unit, fun _ => { val := v0_0 }⟩, ⟨4, 25, Unit, fun _ => { val := (pq bx0) }⟩, ⟨5, 26, Unit, fun _ => { val := (pq bx0) }⟩, ⟨6, 27, Unit, fun _ => { val := (pq bx0) }⟩, ⟨7, 28, Unit, fun _ => { val := v0_0 }⟩, ⟨8, 29, Unit, fun _ => { val := (iq (wq ((a0.items.length : Int) - (1 : Int)))) }⟩, ⟨9, 30, {p : Value // EltOf v0_0 p (((wq ((a0.items.length : Int) - (1 : Int)))).toNat * Ty.size tyS_huff_tree)}, fun p => { val := p.1 }⟩, ⟨10, 31, Value, fun (i : Value) => { val := (ag [(iq u9.weight), (iq u9.least), i]), fz := [(fDat (tyList tq) [i] u9.symbols), (fDat tyS_huff_tree [(iq u9.weight), (iq u9.least), i] u9)] }⟩, ⟨11, 32, {p : Value // EltOf v0_0 p (((0 : Int)).toNat * Ty.size tyS_huff_tree)}, fun p => { val := p.1 }⟩] (tab [(0, (pq bx0)), (2, (pq g1)), (3, (pq g8)), (4, (iq (wq ((a0.items.length : Int) - (1 : Int)))))]) mixed (fun a hs => hs.tab _ (allT_mem ⟨rfl, rfl, rfl, rfl, trivial⟩)) ?_
 refine ta_show (m := (memOf w0 Z0 [(oBox bx0 143 [v0_0, (fq 88)]), (oRow v0_0 138 tyS_huff_tree a0.items)] [(oBox g8 138 [(iq u2.weight), (iq u2.least), s6]), (oBox g1 138 [(iq (0 : Int)), (iq (0 : Int)), nS]), (oBox bx0 143 [v0_0, (fq 88)]), (oRow v0_0 138 tyS_huff_tree a0.items)] [(fDat (tyList tq) [s6] u2.symbols), (fDat tyS_huff_tree [(iq u2.weight), (iq u2.least), s6] u2)])) (S := (tab [(0, (pq bx0)), (2, (pq g1)), (3, (pq g8)), (4, (iq (wq ((a0.items.length : Int) - (1 : Int)))))])) ?_
 refine ta_step 12 _ [0, 1, 2, 3, 4, 5, 6, 7, 8, 9, 10, 11] [21, 22, 23, 24, 25, 26, 27, 28, 29, 30, 31, 32] [0, 1, 2, 3, 4, 5, 6, 7, 8, 9, 10, 11] [] [⟨0, 21, Unit, fun _ => { val := (pq bx0) }⟩, ⟨1, 22, Unit, fun _ => { val := (pq bx0) }⟩, ⟨2, 23, Unit, fun _ => { val := (pq bx0) }⟩, ⟨3, 24, Unit, fun _ => { val := v0_0 }⟩, ⟨4, 25, Unit, fun _ => { val := (pq bx0) }⟩, ⟨5, 26, Unit, fun _ => { val := (pq bx0) }⟩, ⟨6, 27, Unit, fun _ => { val := (pq bx0) }⟩, ⟨7, 28, Unit, fun _ => { val := v0_0 }⟩, ⟨8, 29, Unit, fun _ => { val := (iq (wq ((a0.items.length : Int) - (1 : Int)))) }⟩, ⟨9, 30, {p : Value // EltOf v0_0 p (((wq ((a0.items.length : Int) - (1 : Int)))).toNat * Ty.size tyS_huff_tree)}, fun p => { val := p.1 }⟩, ⟨10, 31, Value, fun (i : Value) => { val := (ag [(iq u9.weight), (iq u9.least), i]), fz := [(fDat (tyList tq) [i] u9.symbols), (fDat tyS_huff_tree [(iq u9.weight), (iq u9.least), i] u9)] }⟩, ⟨11, 32, {p : Value // EltOf v0_0 p (((0 : Int)).toNat * Ty.size tyS_huff_tree)}, fun p => { val := p.1 }⟩] [] rfl rfl rfl (by kernel_rfl) rfl rfl rfl ⟨⟨_, rfl, [], rfl, by
 intro X_ Y_ F_ K_ hK_
 refine al_show (m := Mem.plus (memOf w0 Z0 [(oBox bx0 143 [v0_0, (fq 88)]), (oRow v0_0 138 tyS_huff_tree a0.items)] [(oBox g8 138 [(iq u2.weight), (iq u2.least), s6]), (oBox g1 138 [(iq (0 : Int)), (iq (0 : Int)), nS]), (oBox bx0 143 [v0_0, (fq 88)]), (oRow v0_0 138 tyS_huff_tree a0.items)] [(fDat (tyList tq) [s6] u2.symbols), (fDat tyS_huff_tree [(iq u2.weight), (iq u2.least), s6] u2)]) X_ Y_) (S := over (tab [(0, (pq bx0)), (2, (pq g1)), (3, (pq g8)), (4, (iq (wq ((a0.items.length : Int) - (1 : Int)))))]) F_) ?_
 refine al_mv rfl rfl ?_
 refine al_nil ?_
 exact fr_fin hK_ ()⟩, ⟨_, rfl, [0], rfl, by
 intro _
 intro X_ Y_ F_ K_ hK_
 refine al_show (m := Mem.plus (memOf w0 Z0 [(oBox bx0 143 [v0_0, (fq 88)]), (oRow v0_0 138 tyS_huff_tree a0.items)] [(oBox g8 138 [(iq u2.weight), (iq u2.least), s6]), (oBox g1 138 [(iq (0 : Int)), (iq (0 : Int)), nS]), (oBox bx0 143 [v0_0, (fq 88)]), (oRow v0_0 138 tyS_huff_tree a0.items)] [(fDat (tyList tq) [s6] u2.symbols), (fDat tyS_huff_tree [(iq u2.weight), (iq u2.least), s6] u2)]) X_ Y_) (S := over (put (tab [(0, (pq bx0)), (2, (pq g1)), (3, (pq g8)), (4, (iq (wq ((a0.items.length : Int) - (1 : Int)))))]) 21 (pq bx0)) F_) ?_
 refine al_val (ov_nilCheck rfl rfl) ?_
 refine al_nil ?_
 exact fr_fin hK_ ()⟩, ⟨_, rfl, [1], rfl, by
 intro _
 intro X_ Y_ F_ K_ hK_
 refine al_show (m := Mem.plus (memOf w0 Z0 [(oBox bx0 143 [v0_0, (fq 88)]), (oRow v0_0 138 tyS_huff_tree a0.items)] [(oBox g8 138 [(iq u2.weight), (iq u2.least), s6]), (oBox g1 138 [(iq (0 : Int)), (iq (0 : Int)), nS]), (oBox bx0 143 [v0_0, (fq 88)]), (oRow v0_0 138 tyS_huff_tree a0.items)] [(fDat (tyList tq) [s6] u2.symbols), (fDat tyS_huff_tree [(iq u2.weight), (iq u2.least), s6] u2)]) X_ Y_) (S := over (put (tab [(0, (pq bx0)), (2, (pq g1)), (3, (pq g8)), (4, (iq (wq ((a0.items.length : Int) - (1 : Int)))))]) 22 (pq bx0)) F_) ?_
 refine al_val (ov_fieldA (p := 0) rfl Tryd.underlying143 rfl sz141 rfl rfl rfl) ?_
 refine al_nil ?_
 exact fr_fin hK_ ()⟩, ⟨_, rfl, [2], rfl, by
 intro _
 intro X_ Y_ F_ K_ hK_
 refine al_show (m := Mem.plus (memOf w0 Z0 [(oBox bx0 143 [v0_0, (fq 88)]), (oRow v0_0 138 tyS_huff_tree a0.items)] [(oBox g8 138 [(iq u2.weight), (iq u2.least), s6]), (oBox g1 138 [(iq (0 : Int)), (iq (0 : Int)), nS]), (oBox bx0 143 [v0_0, (fq 88)]), (oRow v0_0 138 tyS_huff_tree a0.items)] [(fDat (tyList tq) [s6] u2.symbols), (fDat tyS_huff_tree [(iq u2.weight), (iq u2.least), s6] u2)]) X_ Y_) (S := over (put (tab [(0, (pq bx0)), (2, (pq g1)), (3, (pq g8)), (4, (iq (wq ((a0.items.length : Int) - (1 : Int)))))]) 23 (pq bx0)) F_) ?_
 refine al_val (ov_load (i := 2) (v := v0_0) rfl rfl Tryd.underlying141 sz141 rfl rfl rfl rfl) ?_
 refine al_nil ?_
 exact fr_fin hK_ ()⟩, ⟨_, rfl, [], rfl, by
 intro X_ Y_ F_ K_ hK_
 refine al_show (m := Mem.plus (memOf w0 Z0 [(oBox bx0 143 [v0_0, (fq 88)]), (oRow v0_0 138 tyS_huff_tree a0.items)] [(oBox g8 138 [(iq u2.weight), (iq u2.least), s6]), (oBox g1 138 [(iq (0 : Int)), (iq (0 : Int)), nS]), (oBox bx0 143 [v0_0, (fq 88)]), (oRow v0_0 138 tyS_huff_tree a0.items)] [(fDat (tyList tq) [s6] u2.symbols), (fDat tyS_huff_tree [(iq u2.weight), (iq u2.least), s6] u2)]) X_ Y_) (S := over (tab [(0, (pq bx0)), (2, (pq g1)), (3, (pq g8)), (4, (iq (wq ((a0.items.length : Int) - (1 : Int)))))]) F_) ?_
 refine al_mv rfl rfl ?_
 refine al_nil ?_
 exact fr_fin hK_ ()⟩, ⟨_, rfl, [4], rfl, by
 intro _
 intro X_ Y_ F_ K_ hK_
 refine al_show (m := Mem.plus (memOf w0 Z0 [(oBox bx0 143 [v0_0, (fq 88)]), (oRow v0_0 138 tyS_huff_tree a0.items)] [(oBox g8 138 [(iq u2.weight), (iq u2.least), s6]), (oBox g1 138 [(iq (0 : Int)), (iq (0 : Int)), nS]), (oBox bx0 143 [v0_0, (fq 88)]), (oRow v0_0 138 tyS_huff_tree a0.items)] [(fDat (tyList tq) [s6] u2.symbols), (fDat tyS_huff_tree [(iq u2.weight), (iq u2.least), s6] u2)]) X_ Y_) (S := over (put (tab [(0, (pq bx0)), (2, (pq g1)), (3, (pq g8)), (4, (iq (wq ((a0.items.length : Int) - (1 : Int)))))]) 25 (pq bx0)) F_) ?_
 refine al_val (ov_nilCheck rfl rfl) ?_
 refine al_nil ?_
 exact fr_fin hK_ ()⟩, ⟨_, rfl, [5], rfl, by
 intro _
 intro X_ Y_ F_ K_ hK_
 refine al_show (m := Mem.plus (memOf w0 Z0 [(oBox bx0 143 [v0_0, (fq 88)]), (oRow v0_0 138 tyS_huff_tree a0.items)] [(oBox g8 138 [(iq u2.weight), (iq u2.least), s6]), (oBox g1 138 [(iq (0 : Int)), (iq (0 : Int)), nS]), (oBox bx0 143 [v0_0, (fq 88)]), (oRow v0_0 138 tyS_huff_tree a0.items)] [(fDat (tyList tq) [s6] u2.symbols), (fDat tyS_huff_tree [(iq u2.weight), (iq u2.least), s6] u2)]) X_ Y_) (S := over (put (tab [(0, (pq bx0)), (2, (pq g1)), (3, (pq g8)), (4, (iq (wq ((a0.items.length : Int) - (1 : Int)))))]) 26 (pq bx0)) F_) ?_
 refine al_val (ov_fieldA (p := 0) rfl Tryd.underlying143 rfl sz141 rfl rfl rfl) ?_
 refine al_nil ?_
 exact fr_fin hK_ ()⟩, ⟨_, rfl, [6], rfl, by
 intro _
 intro X_ Y_ F_ K_ hK_
 refine al_show (m := Mem.plus (memOf w0 Z0 [(oBox bx0 143 [v0_0, (fq 88)]), (oRow v0_0 138 tyS_huff_tree a0.items)] [(oBox g8 138 [(iq u2.weight), (iq u2.least), s6]), (oBox g1 138 [(iq (0 : Int)), (iq (0 : Int)), nS]), (oBox bx0 143 [v0_0, (fq 88)]), (oRow v0_0 138 tyS_huff_tree a0.items)] [(fDat (tyList tq) [s6] u2.symbols), (fDat tyS_huff_tree [(iq u2.weight), (iq u2.least), s6] u2)]) X_ Y_) (S := over (put (tab [(0, (pq bx0)), (2, (pq g1)), (3, (pq g8)), (4, (iq (wq ((a0.items.length : Int) - (1 : Int)))))]) 27 (pq bx0)) F_) ?_
 refine al_val (ov_load (i := 2) (v := v0_0) rfl rfl Tryd.underlying141 sz141 rfl rfl rfl rfl) ?_
 refine al_nil ?_
 exact fr_fin hK_ ()⟩, ⟨_, rfl, [], rfl, by
 intro X_ Y_ F_ K_ hK_
 refine al_show (m := Mem.plus (memOf w0 Z0 [(oBox bx0 143 [v0_0, (fq 88)]), (oRow v0_0 138 tyS_huff_tree a0.items)] [(oBox g8 138 [(iq u2.weight), (iq u2.least), s6]), (oBox g1 138 [(iq (0 : Int)), (iq (0 : Int)), nS]), (oBox bx0 143 [v0_0, (fq 88)]), (oRow v0_0 138 tyS_huff_tree a0.items)] [(fDat (tyList tq) [s6] u2.symbols), (fDat tyS_huff_tree [(iq u2.weight), (iq u2.least), s6] u2)]) X_ Y_) (S := over (tab [(0, (pq bx0)), (2, (pq g1)), (3, (pq g8)), (4, (iq (wq ((a0.items.length : Int) - (1 : Int)))))]) F_) ?_
 refine al_mv rfl rfl ?_
 refine al_nil ?_
 exact fr_fin hK_ ()⟩, ⟨_, rfl, [7, 8], rfl, by
 intro _
 intro _
 intro X_ Y_ F_ K_ hK_
 refine al_show (m := Mem.plus (memOf w0 Z0 [(oBox bx0 143 [v0_0, (fq 88)]), (oRow v0_0 138 tyS_huff_tree a0.items)] [(oBox g8 138 [(iq u2.weight), (iq u2.least), s6]), (oBox g1 138 [(iq (0 : Int)), (iq (0 : Int)), nS]), (oBox bx0 143 [v0_0, (fq 88)]), (oRow v0_0 138 tyS_huff_tree a0.items)] [(fDat (tyList tq) [s6] u2.symbols), (fDat tyS_huff_tree [(iq u2.weight), (iq u2.least), s6] u2)]) X_ Y_) (S := over (put (put (tab [(0, (pq bx0)), (2, (pq g1)), (3, (pq g8)), (4, (iq (wq ((a0.items.length : Int) - (1 : Int)))))]) 28 v0_0) 29 (iq (wq ((a0.items.length : Int) - (1 : Int))))) F_) ?_
 refine al_idxR 3 (at_some hu10).1 (at_some hu10).2.1 rfl rfl rfl Tryd.underlying141 sz138 rfl (fun p11 hp12 => ?_)
 refine al_nil ?_
 exact fr_fin hK_ ⟨p11, hp12⟩⟩, ⟨_, rfl, [9], rfl, by
 rintro ⟨p11, hp12⟩
 intro X_ Y_ F_ K_ hK_
 refine al_show (m := Mem.plus (memOf w0 Z0 [(oBox bx0 143 [v0_0, (fq 88)]), (oRow v0_0 138 tyS_huff_tree a0.items)] [(oBox g8 138 [(iq u2.weight), (iq u2.least), s6]), (oBox g1 138 [(iq (0 : Int)), (iq (0 : Int)), nS]), (oBox bx0 143 [v0_0, (fq 88)]), (oRow v0_0 138 tyS_huff_tree a0.items)] [(fDat (tyList tq) [s6] u2.symbols), (fDat tyS_huff_tree [(iq u2.weight), (iq u2.least), s6] u2)]) X_ Y_) (S := over (put (tab [(0, (pq bx0)), (2, (pq g1)), (3, (pq g8)), (4, (iq (wq ((a0.items.length : Int) - (1 : Int)))))]) 30 p11) F_) ?_
 refine al_loadRA 3 rfl hp12 (at_some hu10).2.2 rfl Tryd.underlying138 sz138 rfl rfl (fun cs14 => ?_)
 refine al_use (ι := Value) 0 rfl (fun j => cs14 = [(iq u9.weight), (iq u9.least), j]) (fun j => [(fDat (tyList tq) [j] u9.symbols)]) encnS_huff_tree (fun s13 hq => ?_)
 subst hq
 refine al_nil ?_
 exact fr_fin hK_ s13⟩, ⟨_, rfl, [0, 1, 2, 3, 4, 5, 6, 7, 8, 9, 10], rfl, by
 intro _
 intro _
 intro _
 intro _
 intro _
 intro _
 intro _
 intro _
 intro _
 rintro ⟨p11, hp12⟩
 intro s13
 intro X_ Y_ F_ K_ hK_
 refine al_show (m := Mem.plus (memOf w0 Z0 [(oBox bx0 143 [v0_0, (fq 88)]), (oRow v0_0 138 tyS_huff_tree a0.items)] [(oBox g8 138 [(iq u2.weight), (iq u2.least), s6]), (oBox g1 138 [(iq (0 : Int)), (iq (0 : Int)), nS]), (oBox bx0 143 [v0_0, (fq 88)]), (oRow v0_0 138 tyS_huff_tree a0.items)] [(fDat (tyList tq) [s13] u9.symbols), (fDat tyS_huff_tree [(iq u9.weight), (iq u9.least), s13] u9), (fDat (tyList tq) [s6] u2.symbols), (fDat tyS_huff_tree [(iq u2.weight), (iq u2.least), s6] u2)]) X_ Y_) (S := over (put (put (put (put (put (put (put (put (put (put (put (tab [(0, (pq bx0)), (2, (pq g1)), (3, (pq g8)), (4, (iq (wq ((a0.items.length : Int) - (1 : Int)))))]) 21 (pq bx0)) 22 (pq bx0)) 23 (pq bx0)) 24 v0_0) 25 (pq bx0)) 26 (pq bx0)) 27 (pq bx0)) 28 v0_0) 29 (iq (wq ((a0.items.length : Int) - (1 : Int))))) 30 p11) 31 (ag [(iq u9.weight), (iq u9.least), s13])) F_) ?_
 refine al_idxR 3 (at_some hu16).1 (at_some hu16).2.1 rfl rfl rfl Tryd.underlying141 sz138 rfl (fun p17 hp18 => ?_)
 refine al_nil ?_
 exact fr_fin hK_ ⟨p17, hp18⟩⟩, trivial⟩ ?_
 intro _
 intro _
 intro _
 intro _
 intro _
 intro _
 intro _
 intro _
 intro _
 rintro ⟨p11, hp12⟩
 intro s13
 rintro ⟨p17, hp18⟩
 intro X_ Y_ F_ K_ hK_
 refine al_show (m := Mem.plus (memOf w0 Z0 [(oBox bx0 143 [v0_0, (fq 88)]), (oRow v0_0 138 tyS_huff_tree a0.items)] [(oBox g8 138 [(iq u2.weight), (iq u2.least), s6]), (oBox g1 138 [(iq (0 : Int)), (iq (0 : Int)), nS]), (oBox bx0 143 [v0_0, (fq 88)]), (oRow v0_0 138 tyS_huff_tree a0.items)] [(fDat (tyList tq) [s13] u9.symbols), (fDat tyS_huff_tree [(iq u9.weight), (iq u9.least), s13] u9), (fDat (tyList tq) [s6] u2.symbols), (fDat tyS_huff_tree [(iq u2.weight), (iq u2.least), s6] u2)]) X_ Y_) (S := over (put (put (put (put (put (put (put (put (put (put (put (put (tab [(0, (pq bx0)), (2, (pq g1)), (3, (pq g8)), (4, (iq (wq ((a0.items.length : Int) - (1 : Int)))))]) 21 (pq bx0)) 22 (pq bx0)) 23 (pq bx0)) 24 v0_0) 25 (pq bx0)) 26 (pq bx0)) 27 (pq bx0)) 28 v0_0) 29 (iq (wq ((a0.items.length : Int) - (1 : Int))))) 30 p11) 31 (ag [(iq u9.weight), (iq u9.least), s13])) 32 p17) F_) ?_
 refine al_storeR (k := ((0 : Int)).toNat) (x := u9) (vs := [(iq u9.weight), (iq u9.least), s13]) 3 rfl hp18 (idx_lt hu16) rfl rfl (cv_rfl rfl) (fun hm => mknS_huff_tree rfl (fz_at (i := 0) hm rfl)) sz138 rfl ?_
 refine al_nil ?_
 refine aq_show (m := Mem.plus (memOf w0 Z0 [(oBox bx0 143 [v0_0, (fq 88)]), (oRow v0_0 138 tyS_huff_tree a0.items)] [(oBox g8 138 [(iq u2.weight), (iq u2.least), s6]), (oBox g1 138 [(iq (0 : Int)), (iq (0 : Int)), nS]), (oBox bx0 143 [v0_0, (fq 88)]), (oRow v0_0 138 tyS_huff_tree (a0.items.set ((0 : Int)).toNat u9))] [(fDat (tyList tq) [s13] u9.symbols), (fDat tyS_huff_tree [(iq u9.weight), (iq u9.least), s13] u9), (fDat (tyList tq) [s6] u2.symbols), (fDat tyS_huff_tree [(iq u2.weight), (iq u2.least), s6] u2)]) X_ Y_) ?_
 refine aq_next hK_ [0, 1, 2, 3] [1, 2, 3] [(0, (pq bx0)), (2, (pq g1)), (3, (pq g8)), (4, (iq (wq ((a0.items.length : Int) - (1 : Int)))))] [] [] rfl rfl (by decide) rfl ⟨rfl, rfl, rfl, rfl, trivial⟩ trivial ?_
 clear hK_ K_ F_ X_ Y_
 refine ta_show (m := (memOf w0 Z0 [(oBox bx0 143 [v0_0, (fq 88)]), (oRow v0_0 138 tyS_huff_tree a0.items)] [(oBox g8 138 [(iq u2.weight), (iq u2.least), s6]), (oBox g1 138 [(iq (0 : Int)), (iq (0 : Int)), nS]), (oBox bx0 143 [v0_0, (fq 88)]), (oRow v0_0 138 tyS_huff_tree (a0.items.set ((0 : Int)).toNat u9))] [(fDat tyS_huff_tree [(iq u9.weight), (iq u9.least), s13] u9), (fDat (tyList tq) [s6] u2.symbols), (fDat tyS_huff_tree [(iq u2.weight), (iq u2.least), s6] u2)])) (S := (tab [(0, (pq bx0)), (2, (pq g1)), (3, (pq g8)), (4, (iq (wq ((a0.items.length : Int) - (1 : Int)))))])) ?_
 refine ta_end [] [] rfl rfl (by kernel_rfl) rfl trivial ?_
 refine aq_show (m := (memOf w0 Z0 [(oBox bx0 143 [v0_0, (fq 88)]), (oRow v0_0 138 tyS_huff_tree a0.items)] [(oBox g8 138 [(iq u2.weight), (iq u2.least), s6]), (oBox g1 138 [(iq (0 : Int)), (iq (0 : Int)), nS]), (oBox bx0 143 [v0_0, (fq 88)]), (oRow v0_0 138 tyS_huff_tree (a0.items.set ((0 : Int)).toNat u9))] [(fDat tyS_huff_tree [(iq u9.weight), (iq u9.least), s13] u9), (fDat (tyList tq) [s6] u2.symbols), (fDat tyS_huff_tree [(iq u2.weight), (iq u2.least), s6] u2)])) (S := (tab [(0, (pq bx0)), (2, (pq g1)), (3, (pq g8)), (4, (iq (wq ((a0.items.length : Int) - (1 : Int)))))])) ?_
 refine aq_tr ?_
 refine al_mv rfl rfl ?_
 refine al_mv rfl rfl ?_
 refine al_val (ov_nilCheck rfl rfl) ?_
 refine al_val (ov_fieldA (p := 0) rfl Tryd.underlying143 rfl sz141 rfl rfl rfl) ?_
 refine al_val (ov_load (i := 2) (v := v0_0) rfl rfl Tryd.underlying141 sz141 rfl rfl rfl rfl) ?_
 refine al_mv rfl rfl ?_
 obtain ⟨hc19, h⟩ := req_some h
 refine al_cutR 3 hc19.1 hc19.2 rfl rfl rfl Tryd.underlying141 sz138 rfl (fun s20 => ?_)
 refine al_val (ov_nilCheck rfl rfl) ?_
 refine al_val (ov_fieldA (p := 0) rfl Tryd.underlying143 rfl sz141 rfl rfl rfl) ?_
 refine al_store (i := 2) (vs := [s20]) (cs' := [s20, (fq 88)]) rfl rfl rfl sz141 (cv_own 3 rfl) rfl (co_own 3 rfl co_nil) (Nat.le_of_ble_eq_true rfl) rfl rfl ?_
 refine al_nt ?_
 refine aw_sr ?_
 refine al_as rfl rfl ?_
 refine al_nt ?_
 refine aw_block ?_
 refine aw_state (aw_loop (ι := (List S_huff_tree) × Int) (fun i => (memOf w0 Z0 [(oBox bx0 143 [v0_0, (fq 88)]), (oRow v0_0 138 tyS_huff_tree a0.items)] [(oRow s20 138 tyS_huff_tree i.1), (oBox bx0 143 [s20, (fq 88)]), (oBox g1 138 [(iq (0 : Int)), (iq (0 : Int)), nS]), (oBox g8 138 [(iq u2.weight), (iq u2.least), s6])] [(fDat (tyList tq) [s6] u2.symbols), (fDat tyS_huff_tree [(iq u9.weight), (iq u9.least), s13] u9), (fDat tyS_huff_tree [(iq u2.weight), (iq u2.least), s6] u2)])) (fun i => (tab [(0, (pq bx0)), (2, (pq g1)), (3, (pq g8)), (4, (iq (wq ((a0.items.length : Int) - (1 : Int))))), (5, (iq i.2))])) (fun q i => f___huff_heap_huff_tree___pop_L23 a0 u2 fu q i.1 i.2 = some r) ?_ fu (((a0.items.set ((0 : Int)).toNat u9).take ((wq ((a0.items.length : Int) - (1 : Int)))).toNat), (0 : Int)) h) (fun w a hm hs => norm hm hs [3, 2, 1, 0] [1, 0, 2] [(0, (pq bx0)), (2, (pq g1)), (3, (pq g8)), (4, (iq (wq ((a0.items.length : Int) - (1 : Int))))), (5, (iq (0 : Int)))] (by decide) ⟨rfl, rfl, rfl, rfl, rfl, trivial⟩)
 clear h
 rintro k22 ⟨l21x0_0, l21i5⟩ h
 have h : f___huff_heap_huff_tree___pop_L23 a0 u2 fu k22 l21x0_0 l21i5 = some r := h
 obtain _ | k22 := k22
 · rw [f___huff_heap_huff_tree___pop_L23] at h; cases h
 rw [f___huff_heap_huff_tree___pop_L23] at h
 refine aw_show (m := (memOf w0 Z0 [(oBox bx0 143 [v0_0, (fq 88)]), (oRow v0_0 138 tyS_huff_tree a0.items)] [(oRow s20 138 tyS_huff_tree l21x0_0), (oBox bx0 143 [s20, (fq 88)]), (oBox g1 138 [(iq (0 : Int)), (iq (0 : Int)), nS]), (oBox g8 138 [(iq u2.weight), (iq u2.least), s6])] [(fDat (tyList tq) [s6] u2.symbols), (fDat tyS_huff_tree [(iq u9.weight), (iq u9.least), s13] u9), (fDat tyS_huff_tree [(iq u2.weight), (iq u2.least), s6] u2)])) (S := (tab [(0, (pq bx0)), (2, (pq g1)), (3, (pq g8)), (4, (iq (wq ((a0.items.length : Int) - (1 : Int))))), (5, (iq l21i5))])) ?_
 obtain ⟨kk24, hkk24, h⟩ := lt_some h
 refine aw_body_join (ι := (List S_huff_tree) × Int) (fun i => (memOf w0 Z0 [(oBox bx0 143 [v0_0, (fq 88)]), (oRow v0_0 138 tyS_huff_tree a0.items)] [(oRow s20 138 tyS_huff_tree i.1), (oBox bx0 143 [s20, (fq 88)]), (oBox g1 138 [(iq (0 : Int)), (iq (0 : Int)), nS]), (oBox g8 138 [(iq u2.weight), (iq u2.least), s6])] [(fDat (tyList tq) [s6] u2.symbols), (fDat tyS_huff_tree [(iq u9.weight), (iq u9.least), s13] u9), (fDat tyS_huff_tree [(iq u2.weight), (iq u2.least), s6] u2)])) (fun i => (tab [(0, (pq bx0)), (2, (pq g1)), (3, (pq g8)), (4, (iq (wq ((a0.items.length : Int) - (1 : Int))))), (5, (iq i.2))])) (fun i => kk24 i.1 i.2 = some r) (fun i h => aq_again k22 i (Nat.lt_succ_self _) (by rw [hkk24] at h; exact h) (fun w a hm hs => ⟨hm, hs⟩)) ?_
 clear hkk24
 refine aw_block ?_
 refine aw_sr ?_
 refine al_mv rfl rfl ?_
 refine al_as rfl rfl ?_
 refine al_nt ?_
 obtain ⟨kk26, hkk26, h⟩ := lt_some h
 refine aw_seq_join (ι := Int) (fun i => (memOf w0 Z0 [(oBox bx0 143 [v0_0, (fq 88)]), (oRow v0_0 138 tyS_huff_tree a0.items)] [(oRow s20 138 tyS_huff_tree l21x0_0), (oBox bx0 143 [s20, (fq 88)]), (oBox g1 138 [(iq (0 : Int)), (iq (0 : Int)), nS]), (oBox g8 138 [(iq u2.weight), (iq u2.least), s6])] [(fDat (tyList tq) [s6] u2.symbols), (fDat tyS_huff_tree [(iq u9.weight), (iq u9.least), s13] u9), (fDat tyS_huff_tree [(iq u2.weight), (iq u2.least), s6] u2)])) (fun i => (tab [(0, (pq bx0)), (2, (pq g1)), (3, (pq g8)), (4, (iq (wq ((a0.items.length : Int) - (1 : Int))))), (5, (iq l21i5)), (6, (iq i))])) (fun i => kk26 i = some r) ?_ ?_
 ·rintro j25i6 h
  have h : kk26 j25i6 = some r := h
  rw [hkk26] at h
  dsimp only at h
  clear hkk26
  refine aw_show (m := (memOf w0 Z0 [(oBox bx0 143 [v0_0, (fq 88)]), (oRow v0_0 138 tyS_huff_tree a0.items)] [(oRow s20 138 tyS_huff_tree l21x0_0), (oBox bx0 143 [s20, (fq 88)]), (oBox g1 138 [(iq (0 : Int)), (iq (0 : Int)), nS]), (oBox g8 138 [(iq u2.weight), (iq u2.least), s6])] [(fDat (tyList tq) [s6] u2.symbols), (fDat tyS_huff_tree [(iq u9.weight), (iq u9.least), s13] u9), (fDat tyS_huff_tree [(iq u2.weight), (iq u2.least), s6] u2)])) (S := (tab [(0, (pq bx0)), (2, (pq g1)), (3, (pq g8)), (4, (iq (wq ((a0.items.length : Int) - (1 : Int))))), (5, (iq l21i5)), (6, (iq j25i6))])) ?_
  refine aw_seq ?_
  refine aw_sr ?_
  refine al_mv rfl rfl ?_
  refine al_mv rfl rfl ?_
  refine al_in rfl rfl rfl rfl ?_
  refine al_nt ?_
  refine aw_cond rfl (fun hb27 => ?_) (fun hb27 => ?_)
  ·replace h := bif_t hb27 h
   refine aw_sr ?_
   refine al_val (ov_load (i := 3) (v := (ag [(iq u2.weight), (iq u2.least), s6])) rfl rfl Tryd.underlying138 sz138 rfl rfl rfl rfl) ?_
   refine al_store (i := 2) (vs := [(iq u2.weight), (iq u2.least), s6]) (cs' := [(iq u2.weight), (iq u2.least), s6]) rfl rfl rfl sz138 (cv_rfl rfl) rfl (co_val rfl (co_val rfl (co_fz 0 rfl co_nil))) (Nat.le_of_ble_eq_true rfl) rfl rfl ?_
   refine al_nt ?_
   refine aw_ret ?_
   refine aq_then_ret ?_
   refine aq_block_ret ?_
   refine aq_then_ret ?_
   refine aq_block_ret ?_
   obtain rfl := Option.some.inj h
   exact fn_ret (s6, s20) [1, 0] [0] rfl rfl rfl rfl (resC rfl (resB (i := 2) rfl rfl Tryd.underlying138 sz138 rfl rfl rfl (resN)) rfl) rfl rfl rfl (by decide)
  ·replace h := bif_f hb27 h
   refine aw_skip ?_
   refine aq_then ?_
   refine aw_seq ?_
   obtain ⟨u28, hu29, h⟩ := opt_some h
   obtain ⟨u34, hu35, h⟩ := opt_some h
   obtain ⟨u40, hu41, h⟩ := opt_some h
   refine aw_region_open [⟨0, 84, Unit, fun _ => { val := (pq bx0) }⟩, ⟨1, 85, Unit, fun _ => { val := (pq bx0) }⟩, ⟨2, 86, Unit, fun _ => { val := (pq bx0) }⟩, ⟨3, 87, Unit, fun _ => { val := s20 }⟩, ⟨4, 88, Unit, fun _ => { val := (iq j25i6) }⟩, ⟨5, 89, Unit, fun _ => { val := (pq bx0) }⟩, ⟨6, 90, Unit, fun _ => { val := (pq bx0) }⟩, ⟨7, 91, Unit, fun _ => { val := (pq bx0) }⟩, ⟨8, 92, Unit, fun _ => { val := s20 }⟩, ⟨9, 93, Unit, fun _ => { val := (iq l21i5) }⟩, ⟨10, 94, Unit, fun _ => { val := (pq bx0) }⟩, ⟨11, 95, Unit, fun _ => { val := (pq bx0) }⟩, ⟨12, 96, Unit, fun _ => { val := (pq bx0) }⟩, ⟨13, 97, Unit, fun _ => { val := s20 }⟩, ⟨14, 98, Unit, fun _ => { val := (iq l21i5) }⟩, ⟨15, 99, {p : Value // EltOf s20 p ((l21i5).toNat * Ty.size tyS_huff_tree)}, fun p => { val := p.1 }⟩, ⟨16, 100, Value, fun (i : Value) => { val := (ag [(iq u28.weight), (iq u28.least), i]), fz := [(fDat (tyList tq) [i] u28.symbols), (fDat tyS_huff_tree [(iq u28.weight), (iq u28.least), i] u28)] }⟩, ⟨17, 101, Unit, fun _ => { val := (pq bx0) }⟩, ⟨18, 102, Unit, fun _ => { val := (pq bx0) }⟩, ⟨19, 103, Unit, fun _ => { val := (pq bx0) }⟩, ⟨20, 104, Unit, fun _ => { val := s20 }⟩, ⟨21, 105, Unit, fun _ => { val := (iq j25i6) }⟩, ⟨22, 106, {p : Value // EltOf s20 p ((j25i6).toNat * Ty.size tyS_huff_tree)}, fun p => { val := p.1 }⟩, ⟨23, 107, Value, fun (i : Value) => { val := (ag [(iq u34.weight), (iq u34.least), i]), fz := [(fDat (tyList tq) [i] u34.symbols), (fDat tyS_huff_tree [(iq u34.weight), (iq u34.least), i] u34)] }⟩, ⟨24, 108, {p : Value // EltOf s20 p ((j25i6).toNat * Ty.size tyS_huff_tree)}, fun p => { val := p.1 }⟩] (tab [(0, (pq bx0)), (2, (pq g1)), (3, (pq g8)), (4, (iq (wq ((a0.items.length : Int) - (1 : Int))))), (5, (iq l21i5)), (6, (iq j25i6))]) mixed (fun a hs => hs.tab _ (allT_mem ⟨rfl, rfl, rfl, rfl, rfl, rfl, trivial⟩)) ?_
   refine ta_show (m := (memOf w0 Z0 [(oBox bx0 143 [v0_0, (fq 88)]), (oRow v0_0 138 tyS_huff_tree a0.items)] [(oRow s20 138 tyS_huff_tree l21x0_0), (oBox bx0 143 [s20, (fq 88)]), (oBox g1 138 [(iq (0 : Int)), (iq (0 : Int)), nS]), (oBox g8 138 [(iq u2.weight), (iq u2.least), s6])] [(fDat (tyList tq) [s6] u2.symbols), (fDat tyS_huff_tree [(iq u9.weight), (iq u9.least), s13] u9), (fDat tyS_huff_tree [(iq u2.weight), (iq u2.least), s6] u2)])) (S := (tab [(0, (pq bx0)), (2, (pq g1)), (3, (pq g8)), (4, (iq (wq ((a0.items.length : Int) - (1 : Int))))), (5, (iq l21i5)), (6, (iq j25i6))])) ?_
   refine ta_step 25 _ [0, 1, 2, 3, 4, 5, 6, 7, 8, 9, 10, 11, 12, 13, 14, 15, 16, 17, 18, 19, 20, 21, 22, 23, 24] [84, 85, 86, 87, 88, 89, 90, 91, 92, 93, 94, 95, 96, 97, 98, 99, 100, 101, 102, 103, 104, 105, 106, 107, 108] [0, 1, 2, 3, 4, 5, 6, 7, 8, 10, 11, 12, 13, 14, 15, 16, 17, 18, 19, 20, 21, 22, 23, 24] [26] [⟨0, 84, Unit, fun _ => { val := (pq bx0) }⟩, ⟨1, 85, Unit, fun _ => { val := (pq bx0) }⟩, ⟨2, 86, Unit, fun _ => { val := (pq bx0) }⟩, ⟨3, 87, Unit, fun _ => { val := s20 }⟩, ⟨4, 88, Unit, fun _ => { val := (iq j25i6) }⟩, ⟨5, 89, Unit, fun _ => { val := (pq bx0) }⟩, ⟨6, 90, Unit, fun _ => { val := (pq bx0) }⟩, ⟨7, 91, Unit, fun _ => { val := (pq bx0) }⟩, ⟨8, 92, Unit, fun _ => { val := s20 }⟩, ⟨10, 94, Unit, fun _ => { val := (pq bx0) }⟩, ⟨11, 95, Unit, fun _ => { val := (pq bx0) }⟩, ⟨12, 96, Unit, fun _ => { val := (pq bx0) }⟩, ⟨13, 97, Unit, fun _ => { val := s20 }⟩, ⟨14, 98, Unit, fun _ => { val := (iq l21i5) }⟩, ⟨15, 99, {p : Value // EltOf s20 p ((l21i5).toNat * Ty.size tyS_huff_tree)}, fun p => { val := p.1 }⟩, ⟨16, 100, Value, fun (i : Value) => { val := (ag [(iq u28.weight), (iq u28.least), i]), fz := [(fDat (tyList tq) [i] u28.symbols), (fDat tyS_huff_tree [(iq u28.weight), (iq u28.least), i] u28)] }⟩, ⟨17, 101, Unit, fun _ => { val := (pq bx0) }⟩, ⟨18, 102, Unit, fun _ => { val := (pq bx0) }⟩, ⟨19, 103, Unit, fun _ => { val := (pq bx0) }⟩, ⟨20, 104, Unit, fun _ => { val := s20 }⟩, ⟨21, 105, Unit, fun _ => { val := (iq j25i6) }⟩, ⟨22, 106, {p : Value // EltOf s20 p ((j25i6).toNat * Ty.size tyS_huff_tree)}, fun p => { val := p.1 }⟩, ⟨23, 107, Value, fun (i : Value) => { val := (ag [(iq u34.weight), (iq u34.least), i]), fz := [(fDat (tyList tq) [i] u34.symbols), (fDat tyS_huff_tree [(iq u34.weight), (iq u34.least), i] u34)] }⟩, ⟨24, 108, {p : Value // EltOf s20 p ((j25i6).toNat * Ty.size tyS_huff_tree)}, fun p => { val := p.1 }⟩] [⟨9, 93, Unit, fun _ => { val := (iq l21i5) }⟩] rfl rfl rfl (by kernel_rfl) rfl rfl rfl ⟨⟨_, rfl, [], rfl, by
 intro X_ Y_ F_ K_ hK_
 refine al_show (m := Mem.plus (memOf w0 Z0 [(oBox bx0 143 [v0_0, (fq 88)]), (oRow v0_0 138 tyS_huff_tree a0.items)] [(oRow s20 138 tyS_huff_tree l21x0_0), (oBox bx0 143 [s20, (fq 88)]), (oBox g1 138 [(iq (0 : Int)), (iq (0 : Int)), nS]), (oBox g8 138 [(iq u2.weight), (iq u2.least), s6])] [(fDat (tyList tq) [s6] u2.symbols), (fDat tyS_huff_tree [(iq u9.weight), (iq u9.least), s13] u9), (fDat tyS_huff_tree [(iq u2.weight), (iq u2.least), s6] u2)]) X_ Y_) (S := over (tab [(0, (pq bx0)), (2, (pq g1)), (3, (pq g8)), (4, (iq (wq ((a0.items.length : Int) - (1 : Int))))), (5, (iq l21i5)), (6, (iq j25i6))]) F_) ?_
 refine al_mv rfl rfl ?_
 refine al_nil ?_
 exact fr_fin hK_ ()⟩, ⟨_, rfl, [0], rfl, by
 intro _
 intro X_ Y_ F_ K_ hK_
 refine al_show (m := Mem.plus (memOf w0 Z0 [(oBox bx0 143 [v0_0, (fq 88)]), (oRow v0_0 138 tyS_huff_tree a0.items)] [(oRow s20 138 tyS_huff_tree l21x0_0), (oBox bx0 143 [s20, (fq 88)]), (oBox g1 138 [(iq (0 : Int)), (iq (0 : Int)), nS]), (oBox g8 138 [(iq u2.weight), (iq u2.least), s6])] [(fDat (tyList tq) [s6] u2.symbols), (fDat tyS_huff_tree [(iq u9.weight), (iq u9.least), s13] u9), (fDat tyS_huff_tree [(iq u2.weight), (iq u2.least), s6] u2)]) X_ Y_) (S := over (put (tab [(0, (pq bx0)), (2, (pq g1)), (3, (pq g8)), (4, (iq (wq ((a0.items.length : Int) - (1 : Int))))), (5, (iq l21i5)), (6, (iq j25i6))]) 84 (pq bx0)) F_) ?_
 refine al_val (ov_nilCheck rfl rfl) ?_
 refine al_nil ?_
 exact fr_fin hK_ ()⟩, ⟨_, rfl, [1], rfl, by
 intro _
 intro X_ Y_ F_ K_ hK_
 refine al_show (m := Mem.plus (memOf w0 Z0 [(oBox bx0 143 [v0_0, (fq 88)]), (oRow v0_0 138 tyS_huff_tree a0.items)] [(oRow s20 138 tyS_huff_tree l21x0_0), (oBox bx0 143 [s20, (fq 88)]), (oBox g1 138 [(iq (0 : Int)), (iq (0 : Int)), nS]), (oBox g8 138 [(iq u2.weight), (iq u2.least), s6])] [(fDat (tyList tq) [s6] u2.symbols), (fDat tyS_huff_tree [(iq u9.weight), (iq u9.least), s13] u9), (fDat tyS_huff_tree [(iq u2.weight), (iq u2.least), s6] u2)]) X_ Y_) (S := over (put (tab [(0, (pq bx0)), (2, (pq g1)), (3, (pq g8)), (4, (iq (wq ((a0.items.length : Int) - (1 : Int))))), (5, (iq l21i5)), (6, (iq j25i6))]) 85 (pq bx0)) F_) ?_
 refine al_val (ov_fieldA (p := 0) rfl Tryd.underlying143 rfl sz141 rfl rfl rfl) ?_
 refine al_nil ?_
 exact fr_fin hK_ ()⟩, ⟨_, rfl, [2], rfl, by
 intro _
 intro X_ Y_ F_ K_ hK_
 refine al_show (m := Mem.plus (memOf w0 Z0 [(oBox bx0 143 [v0_0, (fq 88)]), (oRow v0_0 138 tyS_huff_tree a0.items)] [(oRow s20 138 tyS_huff_tree l21x0_0), (oBox bx0 143 [s20, (fq 88)]), (oBox g1 138 [(iq (0 : Int)), (iq (0 : Int)), nS]), (oBox g8 138 [(iq u2.weight), (iq u2.least), s6])] [(fDat (tyList tq) [s6] u2.symbols), (fDat tyS_huff_tree [(iq u9.weight), (iq u9.least), s13] u9), (fDat tyS_huff_tree [(iq u2.weight), (iq u2.least), s6] u2)]) X_ Y_) (S := over (put (tab [(0, (pq bx0)), (2, (pq g1)), (3, (pq g8)), (4, (iq (wq ((a0.items.length : Int) - (1 : Int))))), (5, (iq l21i5)), (6, (iq j25i6))]) 86 (pq bx0)) F_) ?_
 refine al_val (ov_load (i := 1) (v := s20) rfl rfl Tryd.underlying141 sz141 rfl rfl rfl rfl) ?_
 refine al_nil ?_
 exact fr_fin hK_ ()⟩, ⟨_, rfl, [], rfl, by
 intro X_ Y_ F_ K_ hK_
 refine al_show (m := Mem.plus (memOf w0 Z0 [(oBox bx0 143 [v0_0, (fq 88)]), (oRow v0_0 138 tyS_huff_tree a0.items)] [(oRow s20 138 tyS_huff_tree l21x0_0), (oBox bx0 143 [s20, (fq 88)]), (oBox g1 138 [(iq (0 : Int)), (iq (0 : Int)), nS]), (oBox g8 138 [(iq u2.weight), (iq u2.least), s6])] [(fDat (tyList tq) [s6] u2.symbols), (fDat tyS_huff_tree [(iq u9.weight), (iq u9.least), s13] u9), (fDat tyS_huff_tree [(iq u2.weight), (iq u2.least), s6] u2)]) X_ Y_) (S := over (tab [(0, (pq bx0)), (2, (pq g1)), (3, (pq g8)), (4, (iq (wq ((a0.items.length : Int) - (1 : Int))))), (5, (iq l21i5)), (6, (iq j25i6))]) F_) ?_
 refine al_mv rfl rfl ?_
 refine al_nil ?_
 exact fr_fin hK_ ()⟩, ⟨_, rfl, [], rfl, by
 intro X_ Y_ F_ K_ hK_
 refine al_show (m := Mem.plus (memOf w0 Z0 [(oBox bx0 143 [v0_0, (fq 88)]), (oRow v0_0 138 tyS_huff_tree a0.items)] [(oRow s20 138 tyS_huff_tree l21x0_0), (oBox bx0 143 [s20, (fq 88)]), (oBox g1 138 [(iq (0 : Int)), (iq (0 : Int)), nS]), (oBox g8 138 [(iq u2.weight), (iq u2.least), s6])] [(fDat (tyList tq) [s6] u2.symbols), (fDat tyS_huff_tree [(iq u9.weight), (iq u9.least), s13] u9), (fDat tyS_huff_tree [(iq u2.weight), (iq u2.least), s6] u2)]) X_ Y_) (S := over (tab [(0, (pq bx0)), (2, (pq g1)), (3, (pq g8)), (4, (iq (wq ((a0.items.length : Int) - (1 : Int))))), (5, (iq l21i5)), (6, (iq j25i6))]) F_) ?_
 refine al_mv rfl rfl ?_
 refine al_nil ?_
 exact fr_fin hK_ ()⟩, ⟨_, rfl, [5], rfl, by
 intro _
 intro X_ Y_ F_ K_ hK_
 refine al_show (m := Mem.plus (memOf w0 Z0 [(oBox bx0 143 [v0_0, (fq 88)]), (oRow v0_0 138 tyS_huff_tree a0.items)] [(oRow s20 138 tyS_huff_tree l21x0_0), (oBox bx0 143 [s20, (fq 88)]), (oBox g1 138 [(iq (0 : Int)), (iq (0 : Int)), nS]), (oBox g8 138 [(iq u2.weight), (iq u2.least), s6])] [(fDat (tyList tq) [s6] u2.symbols), (fDat tyS_huff_tree [(iq u9.weight), (iq u9.least), s13] u9), (fDat tyS_huff_tree [(iq u2.weight), (iq u2.least), s6] u2)]) X_ Y_) (S := over (put (tab [(0, (pq bx0)), (2, (pq g1)), (3, (pq g8)), (4, (iq (wq ((a0.items.length : Int) - (1 : Int))))), (5, (iq l21i5)), (6, (iq j25i6))]) 89 (pq bx0)) F_) ?_
 refine al_val (ov_nilCheck rfl rfl) ?_
 refine al_nil ?_
 exact fr_fin hK_ ()⟩, ⟨_, rfl, [6], rfl, by
 intro _
 intro X_ Y_ F_ K_ hK_
 refine al_show (m := Mem.plus (memOf w0 Z0 [(oBox bx0 143 [v0_0, (fq 88)]), (oRow v0_0 138 tyS_huff_tree a0.items)] [(oRow s20 138 tyS_huff_tree l21x0_0), (oBox bx0 143 [s20, (fq 88)]), (oBox g1 138 [(iq (0 : Int)), (iq (0 : Int)), nS]), (oBox g8 138 [(iq u2.weight), (iq u2.least), s6])] [(fDat (tyList tq) [s6] u2.symbols), (fDat tyS_huff_tree [(iq u9.weight), (iq u9.least), s13] u9), (fDat tyS_huff_tree [(iq u2.weight), (iq u2.least), s6] u2)]) X_ Y_) (S := over (put (tab [(0, (pq bx0)), (2, (pq g1)), (3, (pq g8)), (4, (iq (wq ((a0.items.length : Int) - (1 : Int))))), (5, (iq l21i5)), (6, (iq j25i6))]) 90 (pq bx0)) F_) ?_
 refine al_val (ov_fieldA (p := 0) rfl Tryd.underlying143 rfl sz141 rfl rfl rfl) ?_
 refine al_nil ?_
 exact fr_fin hK_ ()⟩, ⟨_, rfl, [7], rfl, by
 intro _
 intro X_ Y_ F_ K_ hK_
 refine al_show (m := Mem.plus (memOf w0 Z0 [(oBox bx0 143 [v0_0, (fq 88)]), (oRow v0_0 138 tyS_huff_tree a0.items)] [(oRow s20 138 tyS_huff_tree l21x0_0), (oBox bx0 143 [s20, (fq 88)]), (oBox g1 138 [(iq (0 : Int)), (iq (0 : Int)), nS]), (oBox g8 138 [(iq u2.weight), (iq u2.least), s6])] [(fDat (tyList tq) [s6] u2.symbols), (fDat tyS_huff_tree [(iq u9.weight), (iq u9.least), s13] u9), (fDat tyS_huff_tree [(iq u2.weight), (iq u2.least), s6] u2)]) X_ Y_) (S := over (put (tab [(0, (pq bx0)), (2, (pq g1)), (3, (pq g8)), (4, (iq (wq ((a0.items.length : Int) - (1 : Int))))), (5, (iq l21i5)), (6, (iq j25i6))]) 91 (pq bx0)) F_) ?_
 refine al_val (ov_load (i := 1) (v := s20) rfl rfl Tryd.underlying141 sz141 rfl rfl rfl rfl) ?_
 refine al_nil ?_
 exact fr_fin hK_ ()⟩, ⟨_, rfl, [], rfl, by
 intro X_ Y_ F_ K_ hK_
 refine al_show (m := Mem.plus (memOf w0 Z0 [(oBox bx0 143 [v0_0, (fq 88)]), (oRow v0_0 138 tyS_huff_tree a0.items)] [(oRow s20 138 tyS_huff_tree l21x0_0), (oBox bx0 143 [s20, (fq 88)]), (oBox g1 138 [(iq (0 : Int)), (iq (0 : Int)), nS]), (oBox g8 138 [(iq u2.weight), (iq u2.least), s6])] [(fDat (tyList tq) [s6] u2.symbols), (fDat tyS_huff_tree [(iq u9.weight), (iq u9.least), s13] u9), (fDat tyS_huff_tree [(iq u2.weight), (iq u2.least), s6] u2)]) X_ Y_) (S := over (tab [(0, (pq bx0)), (2, (pq g1)), (3, (pq g8)), (4, (iq (wq ((a0.items.length : Int) - (1 : Int))))), (5, (iq l21i5)), (6, (iq j25i6))]) F_) ?_
 refine al_mv rfl rfl ?_
 refine al_nil ?_
 exact fr_fin hK_ ()⟩, ⟨_, rfl, [], rfl, by
 intro X_ Y_ F_ K_ hK_
 refine al_show (m := Mem.plus (memOf w0 Z0 [(oBox bx0 143 [v0_0, (fq 88)]), (oRow v0_0 138 tyS_huff_tree a0.items)] [(oRow s20 138 tyS_huff_tree l21x0_0), (oBox bx0 143 [s20, (fq 88)]), (oBox g1 138 [(iq (0 : Int)), (iq (0 : Int)), nS]), (oBox g8 138 [(iq u2.weight), (iq u2.least), s6])] [(fDat (tyList tq) [s6] u2.symbols), (fDat tyS_huff_tree [(iq u9.weight), (iq u9.least), s13] u9), (fDat tyS_huff_tree [(iq u2.weight), (iq u2.least), s6] u2)]) X_ Y_) (S := over (tab [(0, (pq bx0)), (2, (pq g1)), (3, (pq g8)), (4, (iq (wq ((a0.items.length : Int) - (1 : Int))))), (5, (iq l21i5)), (6, (iq j25i6))]) F_) ?_
 refine al_mv rfl rfl ?_
 refine al_nil ?_
 exact fr_fin hK_ ()⟩, ⟨_, rfl, [10], rfl, by
 intro _
 intro X_ Y_ F_ K_ hK_
 refine al_show (m := Mem.plus (memOf w0 Z0 [(oBox bx0 143 [v0_0, (fq 88)]), (oRow v0_0 138 tyS_huff_tree a0.items)] [(oRow s20 138 tyS_huff_tree l21x0_0), (oBox bx0 143 [s20, (fq 88)]), (oBox g1 138 [(iq (0 : Int)), (iq (0 : Int)), nS]), (oBox g8 138 [(iq u2.weight), (iq u2.least), s6])] [(fDat (tyList tq) [s6] u2.symbols), (fDat tyS_huff_tree [(iq u9.weight), (iq u9.least), s13] u9), (fDat tyS_huff_tree [(iq u2.weight), (iq u2.least), s6] u2)]) X_ Y_) (S := over (put (tab [(0, (pq bx0)), (2, (pq g1)), (3, (pq g8)), (4, (iq (wq ((a0.items.length : Int) - (1 : Int))))), (5, (iq l21i5)), (6, (iq j25i6))]) 94 (pq bx0)) F_) ?_
 refine al_val (ov_nilCheck rfl rfl) ?_
 refine al_nil ?_
 exact fr_fin hK_ ()⟩, ⟨_, rfl, [11], rfl, by
 intro _
 intro X_ Y_ F_ K_ hK_
 refine al_show (m := Mem.plus (memOf w0 Z0 [(oBox bx0 143 [v0_0, (fq 88)]), (oRow v0_0 138 tyS_huff_tree a0.items)] [(oRow s20 138 tyS_huff_tree l21x0_0), (oBox bx0 143 [s20, (fq 88)]), (oBox g1 138 [(iq (0 : Int)), (iq (0 : Int)), nS]), (oBox g8 138 [(iq u2.weight), (iq u2.least), s6])] [(fDat (tyList tq) [s6] u2.symbols), (fDat tyS_huff_tree [(iq u9.weight), (iq u9.least), s13] u9), (fDat tyS_huff_tree [(iq u2.weight), (iq u2.least), s6] u2)]) X_ Y_) (S := over (put (tab [(0, (pq bx0)), (2, (pq g1)), (3, (pq g8)), (4, (iq (wq ((a0.items.length : Int) - (1 : Int))))), (5, (iq l21i5)), (6, (iq j25i6))]) 95 (pq bx0)) F_) ?_
 refine al_val (ov_fieldA (p := 0) rfl Tryd.underlying143 rfl sz141 rfl rfl rfl) ?_
 refine al_nil ?_
 exact fr_fin hK_ ()⟩, ⟨_, rfl, [12], rfl, by
 intro _
 intro X_ Y_ F_ K_ hK_
 refine al_show (m := Mem.plus (memOf w0 Z0 [(oBox bx0 143 [v0_0, (fq 88)]), (oRow v0_0 138 tyS_huff_tree a0.items)] [(oRow s20 138 tyS_huff_tree l21x0_0), (oBox bx0 143 [s20, (fq 88)]), (oBox g1 138 [(iq (0 : Int)), (iq (0 : Int)), nS]), (oBox g8 138 [(iq u2.weight), (iq u2.least), s6])] [(fDat (tyList tq) [s6] u2.symbols), (fDat tyS_huff_tree [(iq u9.weight), (iq u9.least), s13] u9), (fDat tyS_huff_tree [(iq u2.weight), (iq u2.least), s6] u2)]) X_ Y_) (S := over (put (tab [(0, (pq bx0)), (2, (pq g1)), (3, (pq g8)), (4, (iq (wq ((a0.items.length : Int) - (1 : Int))))), (5, (iq l21i5)), (6, (iq j25i6))]) 96 (pq bx0)) F_) ?_
 refine al_val (ov_load (i := 1) (v := s20) rfl rfl Tryd.underlying141 sz141 rfl rfl rfl rfl) ?_
 refine al_nil ?_
 exact fr_fin hK_ ()⟩, ⟨_, rfl, [], rfl, by
 intro X_ Y_ F_ K_ hK_
 refine al_show (m := Mem.plus (memOf w0 Z0 [(oBox bx0 143 [v0_0, (fq 88)]), (oRow v0_0 138 tyS_huff_tree a0.items)] [(oRow s20 138 tyS_huff_tree l21x0_0), (oBox bx0 143 [s20, (fq 88)]), (oBox g1 138 [(iq (0 : Int)), (iq (0 : Int)), nS]), (oBox g8 138 [(iq u2.weight), (iq u2.least), s6])] [(fDat (tyList tq) [s6] u2.symbols), (fDat tyS_huff_tree [(iq u9.weight), (iq u9.least), s13] u9), (fDat tyS_huff_tree [(iq u2.weight), (iq u2.least), s6] u2)]) X_ Y_) (S := over (tab [(0, (pq bx0)), (2, (pq g1)), (3, (pq g8)), (4, (iq (wq ((a0.items.length : Int) - (1 : Int))))), (5, (iq l21i5)), (6, (iq j25i6))]) F_) ?_
 refine al_mv rfl rfl ?_
 refine al_nil ?_
 exact fr_fin hK_ ()⟩, ⟨_, rfl, [13, 14], rfl, by
 intro _
 intro _
 intro X_ Y_ F_ K_ hK_
 refine al_show (m := Mem.plus (memOf w0 Z0 [(oBox bx0 143 [v0_0, (fq 88)]), (oRow v0_0 138 tyS_huff_tree a0.items)] [(oRow s20 138 tyS_huff_tree l21x0_0), (oBox bx0 143 [s20, (fq 88)]), (oBox g1 138 [(iq (0 : Int)), (iq (0 : Int)), nS]), (oBox g8 138 [(iq u2.weight), (iq u2.least), s6])] [(fDat (tyList tq) [s6] u2.symbols), (fDat tyS_huff_tree [(iq u9.weight), (iq u9.least), s13] u9), (fDat tyS_huff_tree [(iq u2.weight), (iq u2.least), s6] u2)]) X_ Y_) (S := over (put (put (tab [(0, (pq bx0)), (2, (pq g1)), (3, (pq g8)), (4, (iq (wq ((a0.items.length : Int) - (1 : Int))))), (5, (iq l21i5)), (6, (iq j25i6))]) 97 s20) 98 (iq l21i5)) F_) ?_
 refine al_idxR 0 (at_some hu29).1 (at_some hu29).2.1 rfl rfl rfl Tryd.underlying141 sz138 rfl (fun p30 hp31 => ?_)
 refine al_nil ?_
 exact fr_fin hK_ ⟨p30, hp31⟩⟩, ⟨_, rfl, [15], rfl, by
 rintro ⟨p30, hp31⟩
 intro X_ Y_ F_ K_ hK_
 refine al_show (m := Mem.plus (memOf w0 Z0 [(oBox bx0 143 [v0_0, (fq 88)]), (oRow v0_0 138 tyS_huff_tree a0.items)] [(oRow s20 138 tyS_huff_tree l21x0_0), (oBox bx0 143 [s20, (fq 88)]), (oBox g1 138 [(iq (0 : Int)), (iq (0 : Int)), nS]), (oBox g8 138 [(iq u2.weight), (iq u2.least), s6])] [(fDat (tyList tq) [s6] u2.symbols), (fDat tyS_huff_tree [(iq u9.weight), (iq u9.least), s13] u9), (fDat tyS_huff_tree [(iq u2.weight), (iq u2.least), s6] u2)]) X_ Y_) (S := over (put (tab [(0, (pq bx0)), (2, (pq g1)), (3, (pq g8)), (4, (iq (wq ((a0.items.length : Int) - (1 : Int))))), (5, (iq l21i5)), (6, (iq j25i6))]) 99 p30) F_) ?_
 refine al_loadRA 0 rfl hp31 (at_some hu29).2.2 rfl Tryd.underlying138 sz138 rfl rfl (fun cs33 => ?_)
 refine al_use (ι := Value) 0 rfl (fun j => cs33 = [(iq u28.weight), (iq u28.least), j]) (fun j => [(fDat (tyList tq) [j] u28.symbols)]) encnS_huff_tree (fun s32 hq => ?_)
 subst hq
 refine al_nil ?_
 exact fr_fin hK_ s32⟩, ⟨_, rfl, [], rfl, by
 intro X_ Y_ F_ K_ hK_
 refine al_show (m := Mem.plus (memOf w0 Z0 [(oBox bx0 143 [v0_0, (fq 88)]), (oRow v0_0 138 tyS_huff_tree a0.items)] [(oRow s20 138 tyS_huff_tree l21x0_0), (oBox bx0 143 [s20, (fq 88)]), (oBox g1 138 [(iq (0 : Int)), (iq (0 : Int)), nS]), (oBox g8 138 [(iq u2.weight), (iq u2.least), s6])] [(fDat (tyList tq) [s6] u2.symbols), (fDat tyS_huff_tree [(iq u9.weight), (iq u9.least), s13] u9), (fDat tyS_huff_tree [(iq u2.weight), (iq u2.least), s6] u2)]) X_ Y_) (S := over (tab [(0, (pq bx0)), (2, (pq g1)), (3, (pq g8)), (4, (iq (wq ((a0.items.length : Int) - (1 : Int))))), (5, (iq l21i5)), (6, (iq j25i6))]) F_) ?_
 refine al_mv rfl rfl ?_
 refine al_nil ?_
 exact fr_fin hK_ ()⟩, ⟨_, rfl, [17], rfl, by
 intro _
 intro X_ Y_ F_ K_ hK_
 refine al_show (m := Mem.plus (memOf w0 Z0 [(oBox bx0 143 [v0_0, (fq 88)]), (oRow v0_0 138 tyS_huff_tree a0.items)] [(oRow s20 138 tyS_huff_tree l21x0_0), (oBox bx0 143 [s20, (fq 88)]), (oBox g1 138 [(iq (0 : Int)), (iq (0 : Int)), nS]), (oBox g8 138 [(iq u2.weight), (iq u2.least), s6])] [(fDat (tyList tq) [s6] u2.symbols), (fDat tyS_huff_tree [(iq u9.weight), (iq u9.least), s13] u9), (fDat tyS_huff_tree [(iq u2.weight), (iq u2.least), s6] u2)]) X_ Y_) (S := over (put (tab [(0, (pq bx0)), (2, (pq g1)), (3, (pq g8)), (4, (iq (wq ((a0.items.length : Int) - (1 : Int))))), (5, (iq l21i5)), (6, (iq j25i6))]) 101 (pq bx0)) F_) ?_
 refine al_val (ov_nilCheck rfl rfl) ?_
 refine al_nil ?_
 exact fr_fin hK_ ()⟩, ⟨_, rfl, [18], rfl, by
 intro _
 intro X_ Y_ F_ K_ hK_
 refine al_show (m := Mem.plus (memOf w0 Z0 [(oBox bx0 143 [v0_0, (fq 88)]), (oRow v0_0 138 tyS_huff_tree a0.items)] [(oRow s20 138 tyS_huff_tree l21x0_0), (oBox bx0 143 [s20, (fq 88)]), (oBox g1 138 [(iq (0 : Int)), (iq (0 : Int)), nS]), (oBox g8 138 [(iq u2.weight), (iq u2.least), s6])] [(fDat (tyList tq) [s6] u2.symbols), (fDat tyS_huff_tree [(iq u9.weight), (iq u9.least), s13] u9), (fDat tyS_huff_tree [(iq u2.weight), (iq u2.least), s6] u2)]) X_ Y_) (S := over (put (tab [(0, (pq bx0)), (2, (pq g1)), (3, (pq g8)), (4, (iq (wq ((a0.items.length : Int) - (1 : Int))))), (5, (iq l21i5)), (6, (iq j25i6))]) 102 (pq bx0)) F_) ?_
 refine al_val (ov_fieldA (p := 0) rfl Tryd.underlying143 rfl sz141 rfl rfl rfl) ?_
 refine al_nil ?_
 exact fr_fin hK_ ()⟩, ⟨_, rfl, [19], rfl, by
 intro _
 intro X_ Y_ F_ K_ hK_
 refine al_show (m := Mem.plus (memOf w0 Z0 [(oBox bx0 143 [v0_0, (fq 88)]), (oRow v0_0 138 tyS_huff_tree a0.items)] [(oRow s20 138 tyS_huff_tree l21x0_0), (oBox bx0 143 [s20, (fq 88)]), (oBox g1 138 [(iq (0 : Int)), (iq (0 : Int)), nS]), (oBox g8 138 [(iq u2.weight), (iq u2.least), s6])] [(fDat (tyList tq) [s6] u2.symbols), (fDat tyS_huff_tree [(iq u9.weight), (iq u9.least), s13] u9), (fDat tyS_huff_tree [(iq u2.weight), (iq u2.least), s6] u2)]) X_ Y_) (S := over (put (tab [(0, (pq bx0)), (2, (pq g1)), (3, (pq g8)), (4, (iq (wq ((a0.items.length : Int) - (1 : Int))))), (5, (iq l21i5)), (6, (iq j25i6))]) 103 (pq bx0)) F_) ?_
 refine al_val (ov_load (i := 1) (v := s20) rfl rfl Tryd.underlying141 sz141 rfl rfl rfl rfl) ?_
 refine al_nil ?_
 exact fr_fin hK_ ()⟩, ⟨_, rfl, [], rfl, by
 intro X_ Y_ F_ K_ hK_
 refine al_show (m := Mem.plus (memOf w0 Z0 [(oBox bx0 143 [v0_0, (fq 88)]), (oRow v0_0 138 tyS_huff_tree a0.items)] [(oRow s20 138 tyS_huff_tree l21x0_0), (oBox bx0 143 [s20, (fq 88)]), (oBox g1 138 [(iq (0 : Int)), (iq (0 : Int)), nS]), (oBox g8 138 [(iq u2.weight), (iq u2.least), s6])] [(fDat (tyList tq) [s6] u2.symbols), (fDat tyS_huff_tree [(iq u9.weight), (iq u9.least), s13] u9), (fDat tyS_huff_tree [(iq u2.weight), (iq u2.least), s6] u2)]) X_ Y_) (S := over (tab [(0, (pq bx0)), (2, (pq g1)), (3, (pq g8)), (4, (iq (wq ((a0.items.length : Int) - (1 : Int))))), (5, (iq l21i5)), (6, (iq j25i6))]) F_) ?_
 refine al_mv rfl rfl ?_
 refine al_nil ?_
 exact fr_fin hK_ ()⟩, ⟨_, rfl, [20, 21], rfl, by
 intro _
 intro _
 intro X_ Y_ F_ K_ hK_
 refine al_show (m := Mem.plus (memOf w0 Z0 [(oBox bx0 143 [v0_0, (fq 88)]), (oRow v0_0 138 tyS_huff_tree a0.items)] [(oRow s20 138 tyS_huff_tree l21x0_0), (oBox bx0 143 [s20, (fq 88)]), (oBox g1 138 [(iq (0 : Int)), (iq (0 : Int)), nS]), (oBox g8 138 [(iq u2.weight), (iq u2.least), s6])] [(fDat (tyList tq) [s6] u2.symbols), (fDat tyS_huff_tree [(iq u9.weight), (iq u9.least), s13] u9), (fDat tyS_huff_tree [(iq u2.weight), (iq u2.least), s6] u2)]) X_ Y_) (S := over (put (put (tab [(0, (pq bx0)), (2, (pq g1)), (3, (pq g8)), (4, (iq (wq ((a0.items.length : Int) - (1 : Int))))), (5, (iq l21i5)), (6, (iq j25i6))]) 104 s20) 105 (iq j25i6)) F_) ?_
 refine al_idxR 0 (at_some hu35).1 (at_some hu35).2.1 rfl rfl rfl Tryd.underlying141 sz138 rfl (fun p36 hp37 => ?_)
 refine al_nil ?_
 exact fr_fin hK_ ⟨p36, hp37⟩⟩, ⟨_, rfl, [22], rfl, by
 rintro ⟨p36, hp37⟩
 intro X_ Y_ F_ K_ hK_
 refine al_show (m := Mem.plus (memOf w0 Z0 [(oBox bx0 143 [v0_0, (fq 88)]), (oRow v0_0 138 tyS_huff_tree a0.items)] [(oRow s20 138 tyS_huff_tree l21x0_0), (oBox bx0 143 [s20, (fq 88)]), (oBox g1 138 [(iq (0 : Int)), (iq (0 : Int)), nS]), (oBox g8 138 [(iq u2.weight), (iq u2.least), s6])] [(fDat (tyList tq) [s6] u2.symbols), (fDat tyS_huff_tree [(iq u9.weight), (iq u9.least), s13] u9), (fDat tyS_huff_tree [(iq u2.weight), (iq u2.least), s6] u2)]) X_ Y_) (S := over (put (tab [(0, (pq bx0)), (2, (pq g1)), (3, (pq g8)), (4, (iq (wq ((a0.items.length : Int) - (1 : Int))))), (5, (iq l21i5)), (6, (iq j25i6))]) 106 p36) F_) ?_
 refine al_loadRA 0 rfl hp37 (at_some hu35).2.2 rfl Tryd.underlying138 sz138 rfl rfl (fun cs39 => ?_)
 refine al_use (ι := Value) 0 rfl (fun j => cs39 = [(iq u34.weight), (iq u34.least), j]) (fun j => [(fDat (tyList tq) [j] u34.symbols)]) encnS_huff_tree (fun s38 hq => ?_)
 subst hq
 refine al_nil ?_
 exact fr_fin hK_ s38⟩, ⟨_, rfl, [0, 1, 2, 3, 4, 8, 10, 11, 12, 13, 14, 15, 16, 20, 23], rfl, by
 intro _
 intro _
 intro _
 intro _
 intro _
 intro _
 intro _
 intro _
 intro _
 intro _
 intro _
 rintro ⟨p30, hp31⟩
 intro s32
 intro _
 intro s38
 intro X_ Y_ F_ K_ hK_
 refine al_show (m := Mem.plus (memOf w0 Z0 [(oBox bx0 143 [v0_0, (fq 88)]), (oRow v0_0 138 tyS_huff_tree a0.items)] [(oRow s20 138 tyS_huff_tree l21x0_0), (oBox bx0 143 [s20, (fq 88)]), (oBox g1 138 [(iq (0 : Int)), (iq (0 : Int)), nS]), (oBox g8 138 [(iq u2.weight), (iq u2.least), s6])] [(fDat (tyList tq) [s38] u34.symbols), (fDat tyS_huff_tree [(iq u34.weight), (iq u34.least), s38] u34), (fDat (tyList tq) [s32] u28.symbols), (fDat tyS_huff_tree [(iq u28.weight), (iq u28.least), s32] u28), (fDat (tyList tq) [s6] u2.symbols), (fDat tyS_huff_tree [(iq u9.weight), (iq u9.least), s13] u9), (fDat tyS_huff_tree [(iq u2.weight), (iq u2.least), s6] u2)]) X_ Y_) (S := over (put (put (put (put (put (put (put (put (put (put (put (put (put (put (put (tab [(0, (pq bx0)), (2, (pq g1)), (3, (pq g8)), (4, (iq (wq ((a0.items.length : Int) - (1 : Int))))), (5, (iq l21i5)), (6, (iq j25i6))]) 84 (pq bx0)) 85 (pq bx0)) 86 (pq bx0)) 87 s20) 88 (iq j25i6)) 92 s20) 94 (pq bx0)) 95 (pq bx0)) 96 (pq bx0)) 97 s20) 98 (iq l21i5)) 99 p30) 100 (ag [(iq u28.weight), (iq u28.least), s32])) 104 s20) 107 (ag [(iq u34.weight), (iq u34.least), s38])) F_) ?_
 refine al_idxR 0 (at_some hu41).1 (at_some hu41).2.1 rfl rfl rfl Tryd.underlying141 sz138 rfl (fun p42 hp43 => ?_)
 refine al_nil ?_
 exact fr_fin hK_ ⟨p42, hp43⟩⟩, trivial⟩ ?_
   intro _
   intro _
   intro _
   intro _
   intro _
   intro _
   intro _
   intro _
   intro _
   intro _
   intro _
   intro _
   intro _
   intro _
   rintro ⟨p30, hp31⟩
   intro s32
   intro _
   intro _
   intro _
   intro _
   intro _
   rintro ⟨p36, hp37⟩
   intro s38
   rintro ⟨p42, hp43⟩
   intro X_ Y_ F_ K_ hK_
   refine al_show (m := Mem.plus (memOf w0 Z0 [(oBox bx0 143 [v0_0, (fq 88)]), (oRow v0_0 138 tyS_huff_tree a0.items)] [(oRow s20 138 tyS_huff_tree l21x0_0), (oBox bx0 143 [s20, (fq 88)]), (oBox g1 138 [(iq (0 : Int)), (iq (0 : Int)), nS]), (oBox g8 138 [(iq u2.weight), (iq u2.least), s6])] [(fDat (tyList tq) [s38] u34.symbols), (fDat tyS_huff_tree [(iq u34.weight), (iq u34.least), s38] u34), (fDat (tyList tq) [s32] u28.symbols), (fDat tyS_huff_tree [(iq u28.weight), (iq u28.least), s32] u28), (fDat (tyList tq) [s6] u2.symbols), (fDat tyS_huff_tree [(iq u9.weight), (iq u9.least), s13] u9), (fDat tyS_huff_tree [(iq u2.weight), (iq u2.least), s6] u2)]) X_ Y_) (S := over (put (put (put (put (put (put (put (put (put (put (put (put (put (put (put (put (put (put (put (put (put (put (put (put (tab [(0, (pq bx0)), (2, (pq g1)), (3, (pq g8)), (4, (iq (wq ((a0.items.length : Int) - (1 : Int))))), (5, (iq l21i5)), (6, (iq j25i6))]) 84 (pq bx0)) 85 (pq bx0)) 86 (pq bx0)) 87 s20) 88 (iq j25i6)) 89 (pq bx0)) 90 (pq bx0)) 91 (pq bx0)) 92 s20) 94 (pq bx0)) 95 (pq bx0)) 96 (pq bx0)) 97 s20) 98 (iq l21i5)) 99 p30) 100 (ag [(iq u28.weight), (iq u28.least), s32])) 101 (pq bx0)) 102 (pq bx0)) 103 (pq bx0)) 104 s20) 105 (iq j25i6)) 106 p36) 107 (ag [(iq u34.weight), (iq u34.least), s38])) 108 p42) F_) ?_
   refine al_storeR (k := (j25i6).toNat) (x := u28) (vs := [(iq u28.weight), (iq u28.least), s32]) 0 rfl hp43 (idx_lt hu41) rfl rfl (cv_rfl rfl) (fun hm => mknS_huff_tree rfl (fz_at (i := 2) hm rfl)) sz138 rfl ?_
   refine al_nil ?_
   obtain ⟨u44, hu45, h⟩ := opt_some h
   refine aq_show (m := Mem.plus (memOf w0 Z0 [(oBox bx0 143 [v0_0, (fq 88)]), (oRow v0_0 138 tyS_huff_tree a0.items)] [(oRow s20 138 tyS_huff_tree (l21x0_0.set (j25i6).toNat u28)), (oBox bx0 143 [s20, (fq 88)]), (oBox g1 138 [(iq (0 : Int)), (iq (0 : Int)), nS]), (oBox g8 138 [(iq u2.weight), (iq u2.least), s6])] [(fDat (tyList tq) [s38] u34.symbols), (fDat tyS_huff_tree [(iq u34.weight), (iq u34.least), s38] u34), (fDat (tyList tq) [s32] u28.symbols), (fDat tyS_huff_tree [(iq u28.weight), (iq u28.least), s32] u28), (fDat (tyList tq) [s6] u2.symbols), (fDat tyS_huff_tree [(iq u9.weight), (iq u9.least), s13] u9), (fDat tyS_huff_tree [(iq u2.weight), (iq u2.least), s6] u2)]) X_ Y_) ?_
   refine aq_next hK_ [0, 1, 2, 3] [0, 1, 3, 4, 5, 6] [(0, (pq bx0)), (2, (pq g1)), (3, (pq g8)), (4, (iq (wq ((a0.items.length : Int) - (1 : Int))))), (5, (iq l21i5)), (6, (iq j25i6)), (92, s20), (107, (ag [(iq u34.weight), (iq u34.least), s38]))] [93] [⟨26, 109, {p : Value // EltOf s20 p ((l21i5).toNat * Ty.size tyS_huff_tree)}, fun p => { val := p.1 }⟩] rfl rfl (by decide) rfl ⟨rfl, rfl, rfl, rfl, rfl, rfl, rfl, rfl, trivial⟩ ⟨rfl, trivial⟩ ?_
   clear hK_ K_ F_ X_ Y_
   refine ta_show (m := (memOf w0 Z0 [(oBox bx0 143 [v0_0, (fq 88)]), (oRow v0_0 138 tyS_huff_tree a0.items)] [(oRow s20 138 tyS_huff_tree (l21x0_0.set (j25i6).toNat u28)), (oBox bx0 143 [s20, (fq 88)]), (oBox g1 138 [(iq (0 : Int)), (iq (0 : Int)), nS]), (oBox g8 138 [(iq u2.weight), (iq u2.least), s6])] [(fDat (tyList tq) [s38] u34.symbols), (fDat tyS_huff_tree [(iq u34.weight), (iq u34.least), s38] u34), (fDat tyS_huff_tree [(iq u28.weight), (iq u28.least), s32] u28), (fDat (tyList tq) [s6] u2.symbols), (fDat tyS_huff_tree [(iq u9.weight), (iq u9.least), s13] u9), (fDat tyS_huff_tree [(iq u2.weight), (iq u2.least), s6] u2)])) (S := (tab [(0, (pq bx0)), (2, (pq g1)), (3, (pq g8)), (4, (iq (wq ((a0.items.length : Int) - (1 : Int))))), (5, (iq l21i5)), (6, (iq j25i6)), (92, s20), (107, (ag [(iq u34.weight), (iq u34.least), s38]))])) ?_
   refine ta_step 27 _ [9, 26] [93, 109] [9, 26] [] [⟨9, 93, Unit, fun _ => { val := (iq l21i5) }⟩, ⟨26, 109, {p : Value // EltOf s20 p ((l21i5).toNat * Ty.size tyS_huff_tree)}, fun p => { val := p.1 }⟩] [] rfl rfl rfl (by kernel_rfl) rfl rfl rfl ⟨⟨_, rfl, [], rfl, by
 intro X_ Y_ F_ K_ hK_
 refine al_show (m := Mem.plus (memOf w0 Z0 [(oBox bx0 143 [v0_0, (fq 88)]), (oRow v0_0 138 tyS_huff_tree a0.items)] [(oRow s20 138 tyS_huff_tree (l21x0_0.set (j25i6).toNat u28)), (oBox bx0 143 [s20, (fq 88)]), (oBox g1 138 [(iq (0 : Int)), (iq (0 : Int)), nS]), (oBox g8 138 [(iq u2.weight), (iq u2.least), s6])] [(fDat (tyList tq) [s38] u34.symbols), (fDat tyS_huff_tree [(iq u34.weight), (iq u34.least), s38] u34), (fDat tyS_huff_tree [(iq u28.weight), (iq u28.least), s32] u28), (fDat (tyList tq) [s6] u2.symbols), (fDat tyS_huff_tree [(iq u9.weight), (iq u9.least), s13] u9), (fDat tyS_huff_tree [(iq u2.weight), (iq u2.least), s6] u2)]) X_ Y_) (S := over (tab [(0, (pq bx0)), (2, (pq g1)), (3, (pq g8)), (4, (iq (wq ((a0.items.length : Int) - (1 : Int))))), (5, (iq l21i5)), (6, (iq j25i6)), (92, s20), (107, (ag [(iq u34.weight), (iq u34.least), s38]))]) F_) ?_
 refine al_mv rfl rfl ?_
 refine al_nil ?_
 exact fr_fin hK_ ()⟩, ⟨_, rfl, [0], rfl, by
 intro _
 intro X_ Y_ F_ K_ hK_
 refine al_show (m := Mem.plus (memOf w0 Z0 [(oBox bx0 143 [v0_0, (fq 88)]), (oRow v0_0 138 tyS_huff_tree a0.items)] [(oRow s20 138 tyS_huff_tree (l21x0_0.set (j25i6).toNat u28)), (oBox bx0 143 [s20, (fq 88)]), (oBox g1 138 [(iq (0 : Int)), (iq (0 : Int)), nS]), (oBox g8 138 [(iq u2.weight), (iq u2.least), s6])] [(fDat (tyList tq) [s38] u34.symbols), (fDat tyS_huff_tree [(iq u34.weight), (iq u34.least), s38] u34), (fDat tyS_huff_tree [(iq u28.weight), (iq u28.least), s32] u28), (fDat (tyList tq) [s6] u2.symbols), (fDat tyS_huff_tree [(iq u9.weight), (iq u9.least), s13] u9), (fDat tyS_huff_tree [(iq u2.weight), (iq u2.least), s6] u2)]) X_ Y_) (S := over (put (tab [(0, (pq bx0)), (2, (pq g1)), (3, (pq g8)), (4, (iq (wq ((a0.items.length : Int) - (1 : Int))))), (5, (iq l21i5)), (6, (iq j25i6)), (92, s20), (107, (ag [(iq u34.weight), (iq u34.least), s38]))]) 93 (iq l21i5)) F_) ?_
 refine al_idxR 0 (at_some hu45).1 (at_some hu45).2.1 rfl rfl rfl Tryd.underlying141 sz138 rfl (fun p46 hp47 => ?_)
 refine al_nil ?_
 exact fr_fin hK_ ⟨p46, hp47⟩⟩, trivial⟩ ?_
   intro _
   rintro ⟨p46, hp47⟩
   intro X_ Y_ F_ K_ hK_
   refine al_show (m := Mem.plus (memOf w0 Z0 [(oBox bx0 143 [v0_0, (fq 88)]), (oRow v0_0 138 tyS_huff_tree a0.items)] [(oRow s20 138 tyS_huff_tree (l21x0_0.set (j25i6).toNat u28)), (oBox bx0 143 [s20, (fq 88)]), (oBox g1 138 [(iq (0 : Int)), (iq (0 : Int)), nS]), (oBox g8 138 [(iq u2.weight), (iq u2.least), s6])] [(fDat (tyList tq) [s38] u34.symbols), (fDat tyS_huff_tree [(iq u34.weight), (iq u34.least), s38] u34), (fDat tyS_huff_tree [(iq u28.weight), (iq u28.least), s32] u28), (fDat (tyList tq) [s6] u2.symbols), (fDat tyS_huff_tree [(iq u9.weight), (iq u9.least), s13] u9), (fDat tyS_huff_tree [(iq u2.weight), (iq u2.least), s6] u2)]) X_ Y_) (S := over (put (put (tab [(0, (pq bx0)), (2, (pq g1)), (3, (pq g8)), (4, (iq (wq ((a0.items.length : Int) - (1 : Int))))), (5, (iq l21i5)), (6, (iq j25i6)), (92, s20), (107, (ag [(iq u34.weight), (iq u34.least), s38]))]) 93 (iq l21i5)) 109 p46) F_) ?_
   refine al_storeR (k := (l21i5).toNat) (x := u34) (vs := [(iq u34.weight), (iq u34.least), s38]) 0 rfl hp47 (idx_lt hu45) rfl rfl (cv_rfl rfl) (fun hm => mknS_huff_tree rfl (fz_at (i := 0) hm rfl)) sz138 rfl ?_
   refine al_nil ?_
   refine aq_show (m := Mem.plus (memOf w0 Z0 [(oBox bx0 143 [v0_0, (fq 88)]), (oRow v0_0 138 tyS_huff_tree a0.items)] [(oRow s20 138 tyS_huff_tree ((l21x0_0.set (j25i6).toNat u28).set (l21i5).toNat u34)), (oBox bx0 143 [s20, (fq 88)]), (oBox g1 138 [(iq (0 : Int)), (iq (0 : Int)), nS]), (oBox g8 138 [(iq u2.weight), (iq u2.least), s6])] [(fDat (tyList tq) [s38] u34.symbols), (fDat tyS_huff_tree [(iq u34.weight), (iq u34.least), s38] u34), (fDat tyS_huff_tree [(iq u28.weight), (iq u28.least), s32] u28), (fDat (tyList tq) [s6] u2.symbols), (fDat tyS_huff_tree [(iq u9.weight), (iq u9.least), s13] u9), (fDat tyS_huff_tree [(iq u2.weight), (iq u2.least), s6] u2)]) X_ Y_) ?_
   refine aq_next hK_ [0, 1, 2, 3] [0, 1, 2, 3, 4, 5] [(0, (pq bx0)), (2, (pq g1)), (3, (pq g8)), (4, (iq (wq ((a0.items.length : Int) - (1 : Int))))), (6, (iq j25i6))] [] [] rfl rfl (by decide) rfl ⟨rfl, rfl, rfl, rfl, rfl, trivial⟩ trivial ?_
   clear hK_ K_ F_ X_ Y_
   refine ta_show (m := (memOf w0 Z0 [(oBox bx0 143 [v0_0, (fq 88)]), (oRow v0_0 138 tyS_huff_tree a0.items)] [(oRow s20 138 tyS_huff_tree ((l21x0_0.set (j25i6).toNat u28).set (l21i5).toNat u34)), (oBox bx0 143 [s20, (fq 88)]), (oBox g1 138 [(iq (0 : Int)), (iq (0 : Int)), nS]), (oBox g8 138 [(iq u2.weight), (iq u2.least), s6])] [(fDat (tyList tq) [s38] u34.symbols), (fDat tyS_huff_tree [(iq u34.weight), (iq u34.least), s38] u34), (fDat tyS_huff_tree [(iq u28.weight), (iq u28.least), s32] u28), (fDat (tyList tq) [s6] u2.symbols), (fDat tyS_huff_tree [(iq u9.weight), (iq u9.least), s13] u9), (fDat tyS_huff_tree [(iq u2.weight), (iq u2.least), s6] u2)])) (S := (tab [(0, (pq bx0)), (2, (pq g1)), (3, (pq g8)), (4, (iq (wq ((a0.items.length : Int) - (1 : Int))))), (6, (iq j25i6))])) ?_
   refine ta_end [] [] rfl rfl (by kernel_rfl) rfl trivial ?_
   refine aq_show (m := (memOf w0 Z0 [(oBox bx0 143 [v0_0, (fq 88)]), (oRow v0_0 138 tyS_huff_tree a0.items)] [(oRow s20 138 tyS_huff_tree ((l21x0_0.set (j25i6).toNat u28).set (l21i5).toNat u34)), (oBox bx0 143 [s20, (fq 88)]), (oBox g1 138 [(iq (0 : Int)), (iq (0 : Int)), nS]), (oBox g8 138 [(iq u2.weight), (iq u2.least), s6])] [(fDat (tyList tq) [s38] u34.symbols), (fDat tyS_huff_tree [(iq u34.weight), (iq u34.least), s38] u34), (fDat tyS_huff_tree [(iq u28.weight), (iq u28.least), s32] u28), (fDat (tyList tq) [s6] u2.symbols), (fDat tyS_huff_tree [(iq u9.weight), (iq u9.least), s13] u9), (fDat tyS_huff_tree [(iq u2.weight), (iq u2.least), s6] u2)])) (S := (tab [(0, (pq bx0)), (2, (pq g1)), (3, (pq g8)), (4, (iq (wq ((a0.items.length : Int) - (1 : Int))))), (6, (iq j25i6))])) ?_
   refine aq_then ?_
   refine aw_region ?_
   refine al_mv rfl rfl ?_
   refine al_as rfl rfl ?_
   refine al_nil ?_
   refine aq_block ?_
   exact aq_join (((l21x0_0.set (j25i6).toNat u28).set (l21i5).toNat u34), j25i6) h (fun w a hm hs => norm hm hs [0, 1, 2, 3] [3, 4, 5] [(0, (pq bx0)), (2, (pq g1)), (3, (pq g8)), (4, (iq (wq ((a0.items.length : Int) - (1 : Int))))), (5, (iq j25i6))] (by decide) ⟨rfl, rfl, rfl, rfl, rfl, trivial⟩)
 ·clear hkk26
  refine aw_sr ?_
  refine al_mv rfl rfl ?_
  refine al_in rfl rfl rfl rfl ?_
  refine al_in rfl rfl rfl rfl ?_
  refine al_mv rfl rfl ?_
  refine al_in rfl rfl rfl rfl ?_
  refine al_in rfl rfl rfl rfl ?_
  refine al_val (ov_build (cells := ((cA2i64 (A2i64.mk (wq ((wq ((2 : Int) * l21i5)) + (1 : Int))) (wq ((wq ((2 : Int) * l21i5)) + (2 : Int)))))).toArray) (cs := (cA2i64 (A2i64.mk (wq ((wq ((2 : Int) * l21i5)) + (1 : Int))) (wq ((wq ((2 : Int) * l21i5)) + (2 : Int)))))) rfl (fun w a hm hs => by simp only [List.map_toArray, List.map_cons, List.map_nil, List.toList_toArray, hs.ev (x := .tmp 45) rfl, hs.ev (x := .tmp 48) rfl]; kernel_rfl)) ?_
  refine al_mv rfl rfl ?_
  refine al_nt ?_
  refine aw_block ?_
  refine aw_state (aw_loop (ι := Int × Int) (fun i => (memOf w0 Z0 [(oBox bx0 143 [v0_0, (fq 88)]), (oRow v0_0 138 tyS_huff_tree a0.items)] [(oRow s20 138 tyS_huff_tree l21x0_0), (oBox bx0 143 [s20, (fq 88)]), (oBox g1 138 [(iq (0 : Int)), (iq (0 : Int)), nS]), (oBox g8 138 [(iq u2.weight), (iq u2.least), s6])] [(fDat (tyList tq) [s6] u2.symbols), (fDat tyS_huff_tree [(iq u9.weight), (iq u9.least), s13] u9), (fDat tyS_huff_tree [(iq u2.weight), (iq u2.least), s6] u2)])) (fun i => (tab [(0, (pq bx0)), (2, (pq g1)), (3, (pq g8)), (4, (iq (wq ((a0.items.length : Int) - (1 : Int))))), (5, (iq l21i5)), (6, (iq i.1)), (49, (ag (cA2i64 (A2i64.mk (wq ((wq ((2 : Int) * l21i5)) + (1 : Int))) (wq ((wq ((2 : Int) * l21i5)) + (2 : Int))))))), (50, (iq i.2))])) (fun q i => f___huff_heap_huff_tree___pop_L50 a0 l21x0_0 l21i5 kk26 fu q i.1 i.2 = some r) ?_ fu (l21i5, (0 : Int)) h) (fun w a hm hs => norm hm hs [0, 1, 2, 3] [0, 1, 2] [(0, (pq bx0)), (2, (pq g1)), (3, (pq g8)), (4, (iq (wq ((a0.items.length : Int) - (1 : Int))))), (5, (iq l21i5)), (6, (iq l21i5)), (49, (ag (cA2i64 (A2i64.mk (wq ((wq ((2 : Int) * l21i5)) + (1 : Int))) (wq ((wq ((2 : Int) * l21i5)) + (2 : Int))))))), (50, (iq (0 : Int)))] (by decide) ⟨rfl, rfl, rfl, rfl, rfl, rfl, rfl, rfl, trivial⟩)
  clear h
  rintro k49 ⟨l48i6, l48i50⟩ h
  have h : f___huff_heap_huff_tree___pop_L50 a0 l21x0_0 l21i5 kk26 fu k49 l48i6 l48i50 = some r := h
  obtain _ | k49 := k49
  · rw [f___huff_heap_huff_tree___pop_L50] at h; cases h
  rw [f___huff_heap_huff_tree___pop_L50] at h
  refine aw_show (m := (memOf w0 Z0 [(oBox bx0 143 [v0_0, (fq 88)]), (oRow v0_0 138 tyS_huff_tree a0.items)] [(oRow s20 138 tyS_huff_tree l21x0_0), (oBox bx0 143 [s20, (fq 88)]), (oBox g1 138 [(iq (0 : Int)), (iq (0 : Int)), nS]), (oBox g8 138 [(iq u2.weight), (iq u2.least), s6])] [(fDat (tyList tq) [s6] u2.symbols), (fDat tyS_huff_tree [(iq u9.weight), (iq u9.least), s13] u9), (fDat tyS_huff_tree [(iq u2.weight), (iq u2.least), s6] u2)])) (S := (tab [(0, (pq bx0)), (2, (pq g1)), (3, (pq g8)), (4, (iq (wq ((a0.items.length : Int) - (1 : Int))))), (5, (iq l21i5)), (6, (iq l48i6)), (49, (ag (cA2i64 (A2i64.mk (wq ((wq ((2 : Int) * l21i5)) + (1 : Int))) (wq ((wq ((2 : Int) * l21i5)) + (2 : Int))))))), (50, (iq l48i50))])) ?_
  refine aw_sr ?_
  refine al_in rfl rfl rfl rfl ?_
  refine al_nt ?_
  refine aw_seq ?_
  refine aw_cond rfl (fun hb51 => ?_) (fun hb51 => ?_)
  ·replace h := bif_t hb51 h
   refine aw_skip ?_
   refine aq_then ?_
   obtain ⟨kk53, hkk53, h⟩ := lt_some h
   refine aw_seq_join (ι := Int) (fun i => (memOf w0 Z0 [(oBox bx0 143 [v0_0, (fq 88)]), (oRow v0_0 138 tyS_huff_tree a0.items)] [(oRow s20 138 tyS_huff_tree l21x0_0), (oBox bx0 143 [s20, (fq 88)]), (oBox g1 138 [(iq (0 : Int)), (iq (0 : Int)), nS]), (oBox g8 138 [(iq u2.weight), (iq u2.least), s6])] [(fDat (tyList tq) [s6] u2.symbols), (fDat tyS_huff_tree [(iq u9.weight), (iq u9.least), s13] u9), (fDat tyS_huff_tree [(iq u2.weight), (iq u2.least), s6] u2)])) (fun i => (tab [(0, (pq bx0)), (2, (pq g1)), (3, (pq g8)), (4, (iq (wq ((a0.items.length : Int) - (1 : Int))))), (5, (iq l21i5)), (6, (iq i)), (49, (ag (cA2i64 (A2i64.mk (wq ((wq ((2 : Int) * l21i5)) + (1 : Int))) (wq ((wq ((2 : Int) * l21i5)) + (2 : Int))))))), (50, (iq l48i50))])) (fun i => kk53 i = some r) ?_ ?_
   ·rintro j52i6 h
    have h : kk53 j52i6 = some r := h
    rw [hkk53] at h
    dsimp only at h
    clear hkk53
    refine aw_show (m := (memOf w0 Z0 [(oBox bx0 143 [v0_0, (fq 88)]), (oRow v0_0 138 tyS_huff_tree a0.items)] [(oRow s20 138 tyS_huff_tree l21x0_0), (oBox bx0 143 [s20, (fq 88)]), (oBox g1 138 [(iq (0 : Int)), (iq (0 : Int)), nS]), (oBox g8 138 [(iq u2.weight), (iq u2.least), s6])] [(fDat (tyList tq) [s6] u2.symbols), (fDat tyS_huff_tree [(iq u9.weight), (iq u9.least), s13] u9), (fDat tyS_huff_tree [(iq u2.weight), (iq u2.least), s6] u2)])) (S := (tab [(0, (pq bx0)), (2, (pq g1)), (3, (pq g8)), (4, (iq (wq ((a0.items.length : Int) - (1 : Int))))), (5, (iq l21i5)), (6, (iq j52i6)), (49, (ag (cA2i64 (A2i64.mk (wq ((wq ((2 : Int) * l21i5)) + (1 : Int))) (wq ((wq ((2 : Int) * l21i5)) + (2 : Int))))))), (50, (iq l48i50))])) ?_
    refine aw_region ?_
    refine al_in rfl rfl rfl rfl ?_
    refine al_mv rfl rfl ?_
    refine al_nil ?_
    exact aq_again k49 (j52i6, (wq (l48i50 + (1 : Int)))) (Nat.lt_succ_self _) h (fun w a hm hs => norm hm hs [0, 1, 2, 3] [0, 1, 2] [(0, (pq bx0)), (2, (pq g1)), (3, (pq g8)), (4, (iq (wq ((a0.items.length : Int) - (1 : Int))))), (5, (iq l21i5)), (6, (iq j52i6)), (49, (ag (cA2i64 (A2i64.mk (wq ((wq ((2 : Int) * l21i5)) + (1 : Int))) (wq ((wq ((2 : Int) * l21i5)) + (2 : Int))))))), (50, (iq (wq (l48i50 + (1 : Int)))))] (by decide) ⟨rfl, rfl, rfl, rfl, rfl, rfl, rfl, rfl, trivial⟩)
   ·clear hkk53
    refine aw_block ?_
    refine aw_sr ?_
    obtain ⟨u54, hu55, h⟩ := opt_some h
    refine al_val (v := (iq u54)) (ov_idxAgg (u := u54) (enc := vA2i64) (xs := lA2i64 (A2i64.mk (wq ((wq ((2 : Int) * l21i5)) + (1 : Int))) (wq ((wq ((2 : Int) * l21i5)) + (2 : Int))))) hu55 rfl rfl rfl rfl Tryd.underlying197 Tryd.underlying3 rfl sz3 rfl) ?_
    refine al_as rfl rfl ?_
    refine al_nt ?_
    obtain ⟨kk57, hkk57, h⟩ := lt_some h
    refine aw_seq_join (ι := Bool) (fun i => (memOf w0 Z0 [(oBox bx0 143 [v0_0, (fq 88)]), (oRow v0_0 138 tyS_huff_tree a0.items)] [(oRow s20 138 tyS_huff_tree l21x0_0), (oBox bx0 143 [s20, (fq 88)]), (oBox g1 138 [(iq (0 : Int)), (iq (0 : Int)), nS]), (oBox g8 138 [(iq u2.weight), (iq u2.least), s6])] [(fDat (tyList tq) [s6] u2.symbols), (fDat tyS_huff_tree [(iq u9.weight), (iq u9.least), s13] u9), (fDat tyS_huff_tree [(iq u2.weight), (iq u2.least), s6] u2)])) (fun i => (tab [(0, (pq bx0)), (2, (pq g1)), (3, (pq g8)), (4, (iq (wq ((a0.items.length : Int) - (1 : Int))))), (5, (iq l21i5)), (6, (iq l48i6)), (8, (iq u54)), (49, (ag (cA2i64 (A2i64.mk (wq ((wq ((2 : Int) * l21i5)) + (1 : Int))) (wq ((wq ((2 : Int) * l21i5)) + (2 : Int))))))), (50, (iq l48i50)), (77, (bool i))])) (fun i => kk57 i = some r) ?_ ?_
    ·rintro j56b77 h
     have h : kk57 j56b77 = some r := h
     rw [hkk57] at h
     dsimp only at h
     clear hkk57
     refine aw_show (m := (memOf w0 Z0 [(oBox bx0 143 [v0_0, (fq 88)]), (oRow v0_0 138 tyS_huff_tree a0.items)] [(oRow s20 138 tyS_huff_tree l21x0_0), (oBox bx0 143 [s20, (fq 88)]), (oBox g1 138 [(iq (0 : Int)), (iq (0 : Int)), nS]), (oBox g8 138 [(iq u2.weight), (iq u2.least), s6])] [(fDat (tyList tq) [s6] u2.symbols), (fDat tyS_huff_tree [(iq u9.weight), (iq u9.least), s13] u9), (fDat tyS_huff_tree [(iq u2.weight), (iq u2.least), s6] u2)])) (S := (tab [(0, (pq bx0)), (2, (pq g1)), (3, (pq g8)), (4, (iq (wq ((a0.items.length : Int) - (1 : Int))))), (5, (iq l21i5)), (6, (iq l48i6)), (8, (iq u54)), (49, (ag (cA2i64 (A2i64.mk (wq ((wq ((2 : Int) * l21i5)) + (1 : Int))) (wq ((wq ((2 : Int) * l21i5)) + (2 : Int))))))), (50, (iq l48i50)), (77, (bool j56b77))])) ?_
     refine aw_cond rfl (fun hb58 => ?_) (fun hb58 => ?_)
     ·replace h := bif_t hb58 h
      refine aw_region ?_
      refine al_mv rfl rfl ?_
      refine al_as rfl rfl ?_
      refine al_nil ?_
      refine aq_block ?_
      exact aq_join u54 h (fun w a hm hs => norm hm hs [0, 1, 2, 3] [0, 1, 2] [(0, (pq bx0)), (2, (pq g1)), (3, (pq g8)), (4, (iq (wq ((a0.items.length : Int) - (1 : Int))))), (5, (iq l21i5)), (6, (iq u54)), (49, (ag (cA2i64 (A2i64.mk (wq ((wq ((2 : Int) * l21i5)) + (1 : Int))) (wq ((wq ((2 : Int) * l21i5)) + (2 : Int))))))), (50, (iq l48i50))] (by decide) ⟨rfl, rfl, rfl, rfl, rfl, rfl, rfl, rfl, trivial⟩)
     ·replace h := bif_f hb58 h
      refine aw_skip ?_
      refine aq_block ?_
      exact aq_join l48i6 h (fun w a hm hs => norm hm hs [0, 1, 2, 3] [0, 1, 2] [(0, (pq bx0)), (2, (pq g1)), (3, (pq g8)), (4, (iq (wq ((a0.items.length : Int) - (1 : Int))))), (5, (iq l21i5)), (6, (iq l48i6)), (49, (ag (cA2i64 (A2i64.mk (wq ((wq ((2 : Int) * l21i5)) + (1 : Int))) (wq ((wq ((2 : Int) * l21i5)) + (2 : Int))))))), (50, (iq l48i50))] (by decide) ⟨rfl, rfl, rfl, rfl, rfl, rfl, rfl, rfl, trivial⟩)
    ·clear hkk57
     rcases Bool.eq_false_or_eq_true (decide (u54 < (wq ((a0.items.length : Int) - (1 : Int))))) with hb59 | hb59
     ·replace h := bif_t hb59 h
      obtain ⟨u60, hu61, h⟩ := opt_some h
      obtain ⟨u66, hu67, h⟩ := opt_some h
      refine aw_region_open [⟨0, 53, Unit, fun _ => { val := (iq u54) }⟩, ⟨1, 54, Unit, fun _ => { val := (iq (wq ((a0.items.length : Int) - (1 : Int)))) }⟩, ⟨2, 55, Unit, fun _ => { val := (bool (decide (u54 < (wq ((a0.items.length : Int) - (1 : Int)))))) }⟩, ⟨3, 56, Unit, fun _ => { val := (bool true) }⟩, ⟨4, 57, Unit, fun _ => { val := (pq bx0) }⟩, ⟨5, 58, Unit, fun _ => { val := (pq bx0) }⟩, ⟨6, 59, Unit, fun _ => { val := (ptr bx0 1) }⟩, ⟨7, 60, Unit, fun _ => { val := (fq 88) }⟩, ⟨8, 61, Unit, fun _ => { val := (pq bx0) }⟩, ⟨9, 62, Unit, fun _ => { val := (pq bx0) }⟩, ⟨10, 63, Unit, fun _ => { val := (pq bx0) }⟩, ⟨11, 64, Unit, fun _ => { val := s20 }⟩, ⟨12, 65, Unit, fun _ => { val := (iq u54) }⟩, ⟨13, 66, {p : Value // EltOf s20 p ((u54).toNat * Ty.size tyS_huff_tree)}, fun p => { val := p.1 }⟩, ⟨14, 67, Value, fun (i : Value) => { val := (ag [(iq u60.weight), (iq u60.least), i]), fz := [(fDat (tyList tq) [i] u60.symbols), (fDat tyS_huff_tree [(iq u60.weight), (iq u60.least), i] u60)] }⟩, ⟨15, 68, Unit, fun _ => { val := (pq bx0) }⟩, ⟨16, 69, Unit, fun _ => { val := (pq bx0) }⟩, ⟨17, 70, Unit, fun _ => { val := (pq bx0) }⟩, ⟨18, 71, Unit, fun _ => { val := s20 }⟩, ⟨19, 72, Unit, fun _ => { val := (iq l48i6) }⟩, ⟨20, 73, {p : Value // EltOf s20 p ((l48i6).toNat * Ty.size tyS_huff_tree)}, fun p => { val := p.1 }⟩, ⟨21, 74, Value, fun (i : Value) => { val := (ag [(iq u66.weight), (iq u66.least), i]), fz := [(fDat (tyList tq) [i] u66.symbols), (fDat tyS_huff_tree [(iq u66.weight), (iq u66.least), i] u66)] }⟩] (tab [(0, (pq bx0)), (2, (pq g1)), (3, (pq g8)), (4, (iq (wq ((a0.items.length : Int) - (1 : Int))))), (5, (iq l21i5)), (6, (iq l48i6)), (8, (iq u54)), (49, (ag (cA2i64 (A2i64.mk (wq ((wq ((2 : Int) * l21i5)) + (1 : Int))) (wq ((wq ((2 : Int) * l21i5)) + (2 : Int))))))), (50, (iq l48i50))]) mixed (fun a hs => hs.tab _ (allT_mem ⟨rfl, rfl, rfl, rfl, rfl, rfl, rfl, rfl, rfl, trivial⟩)) ?_
      refine ta_show (m := (memOf w0 Z0 [(oBox bx0 143 [v0_0, (fq 88)]), (oRow v0_0 138 tyS_huff_tree a0.items)] [(oRow s20 138 tyS_huff_tree l21x0_0), (oBox bx0 143 [s20, (fq 88)]), (oBox g1 138 [(iq (0 : Int)), (iq (0 : Int)), nS]), (oBox g8 138 [(iq u2.weight), (iq u2.least), s6])] [(fDat (tyList tq) [s6] u2.symbols), (fDat tyS_huff_tree [(iq u9.weight), (iq u9.least), s13] u9), (fDat tyS_huff_tree [(iq u2.weight), (iq u2.least), s6] u2)])) (S := (tab [(0, (pq bx0)), (2, (pq g1)), (3, (pq g8)), (4, (iq (wq ((a0.items.length : Int) - (1 : Int))))), (5, (iq l21i5)), (6, (iq l48i6)), (8, (iq u54)), (49, (ag (cA2i64 (A2i64.mk (wq ((wq ((2 : Int) * l21i5)) + (1 : Int))) (wq ((wq ((2 : Int) * l21i5)) + (2 : Int))))))), (50, (iq l48i50))])) ?_
      refine ta_step 22 _ [0, 1, 2, 3, 4, 5, 6, 7, 8, 9, 10, 11, 12, 13, 14, 15, 16, 17, 18, 19, 20, 21] [53, 54, 55, 56, 57, 58, 59, 60, 61, 62, 63, 64, 65, 66, 67, 68, 69, 70, 71, 72, 73, 74] [0, 1, 2, 3, 4, 5, 6, 7, 8, 9, 10, 11, 12, 13, 14, 15, 16, 17, 18, 19, 20, 21] [23, 24] [⟨0, 53, Unit, fun _ => { val := (iq u54) }⟩, ⟨1, 54, Unit, fun _ => { val := (iq (wq ((a0.items.length : Int) - (1 : Int)))) }⟩, ⟨2, 55, Unit, fun _ => { val := (bool (decide (u54 < (wq ((a0.items.length : Int) - (1 : Int)))))) }⟩, ⟨3, 56, Unit, fun _ => { val := (bool true) }⟩, ⟨4, 57, Unit, fun _ => { val := (pq bx0) }⟩, ⟨5, 58, Unit, fun _ => { val := (pq bx0) }⟩, ⟨6, 59, Unit, fun _ => { val := (ptr bx0 1) }⟩, ⟨7, 60, Unit, fun _ => { val := (fq 88) }⟩, ⟨8, 61, Unit, fun _ => { val := (pq bx0) }⟩, ⟨9, 62, Unit, fun _ => { val := (pq bx0) }⟩, ⟨10, 63, Unit, fun _ => { val := (pq bx0) }⟩, ⟨11, 64, Unit, fun _ => { val := s20 }⟩, ⟨12, 65, Unit, fun _ => { val := (iq u54) }⟩, ⟨13, 66, {p : Value // EltOf s20 p ((u54).toNat * Ty.size tyS_huff_tree)}, fun p => { val := p.1 }⟩, ⟨14, 67, Value, fun (i : Value) => { val := (ag [(iq u60.weight), (iq u60.least), i]), fz := [(fDat (tyList tq) [i] u60.symbols), (fDat tyS_huff_tree [(iq u60.weight), (iq u60.least), i] u60)] }⟩, ⟨15, 68, Unit, fun _ => { val := (pq bx0) }⟩, ⟨16, 69, Unit, fun _ => { val := (pq bx0) }⟩, ⟨17, 70, Unit, fun _ => { val := (pq bx0) }⟩, ⟨18, 71, Unit, fun _ => { val := s20 }⟩, ⟨19, 72, Unit, fun _ => { val := (iq l48i6) }⟩, ⟨20, 73, {p : Value // EltOf s20 p ((l48i6).toNat * Ty.size tyS_huff_tree)}, fun p => { val := p.1 }⟩, ⟨21, 74, Value, fun (i : Value) => { val := (ag [(iq u66.weight), (iq u66.least), i]), fz := [(fDat (tyList tq) [i] u66.symbols), (fDat tyS_huff_tree [(iq u66.weight), (iq u66.least), i] u66)] }⟩] [] rfl rfl rfl (by kernel_rfl) rfl rfl rfl ⟨⟨_, rfl, [], rfl, by
 intro X_ Y_ F_ K_ hK_
 refine al_show (m := Mem.plus (memOf w0 Z0 [(oBox bx0 143 [v0_0, (fq 88)]), (oRow v0_0 138 tyS_huff_tree a0.items)] [(oRow s20 138 tyS_huff_tree l21x0_0), (oBox bx0 143 [s20, (fq 88)]), (oBox g1 138 [(iq (0 : Int)), (iq (0 : Int)), nS]), (oBox g8 138 [(iq u2.weight), (iq u2.least), s6])] [(fDat (tyList tq) [s6] u2.symbols), (fDat tyS_huff_tree [(iq u9.weight), (iq u9.least), s13] u9), (fDat tyS_huff_tree [(iq u2.weight), (iq u2.least), s6] u2)]) X_ Y_) (S := over (tab [(0, (pq bx0)), (2, (pq g1)), (3, (pq g8)), (4, (iq (wq ((a0.items.length : Int) - (1 : Int))))), (5, (iq l21i5)), (6, (iq l48i6)), (8, (iq u54)), (49, (ag (cA2i64 (A2i64.mk (wq ((wq ((2 : Int) * l21i5)) + (1 : Int))) (wq ((wq ((2 : Int) * l21i5)) + (2 : Int))))))), (50, (iq l48i50))]) F_) ?_
 refine al_mv rfl rfl ?_
 refine al_nil ?_
 exact fr_fin hK_ ()⟩, ⟨_, rfl, [], rfl, by
 intro X_ Y_ F_ K_ hK_
 refine al_show (m := Mem.plus (memOf w0 Z0 [(oBox bx0 143 [v0_0, (fq 88)]), (oRow v0_0 138 tyS_huff_tree a0.items)] [(oRow s20 138 tyS_huff_tree l21x0_0), (oBox bx0 143 [s20, (fq 88)]), (oBox g1 138 [(iq (0 : Int)), (iq (0 : Int)), nS]), (oBox g8 138 [(iq u2.weight), (iq u2.least), s6])] [(fDat (tyList tq) [s6] u2.symbols), (fDat tyS_huff_tree [(iq u9.weight), (iq u9.least), s13] u9), (fDat tyS_huff_tree [(iq u2.weight), (iq u2.least), s6] u2)]) X_ Y_) (S := over (tab [(0, (pq bx0)), (2, (pq g1)), (3, (pq g8)), (4, (iq (wq ((a0.items.length : Int) - (1 : Int))))), (5, (iq l21i5)), (6, (iq l48i6)), (8, (iq u54)), (49, (ag (cA2i64 (A2i64.mk (wq ((wq ((2 : Int) * l21i5)) + (1 : Int))) (wq ((wq ((2 : Int) * l21i5)) + (2 : Int))))))), (50, (iq l48i50))]) F_) ?_
 refine al_mv rfl rfl ?_
 refine al_nil ?_
 exact fr_fin hK_ ()⟩, ⟨_, rfl, [0, 1], rfl, by
 intro _
 intro _
 intro X_ Y_ F_ K_ hK_
 refine al_show (m := Mem.plus (memOf w0 Z0 [(oBox bx0 143 [v0_0, (fq 88)]), (oRow v0_0 138 tyS_huff_tree a0.items)] [(oRow s20 138 tyS_huff_tree l21x0_0), (oBox bx0 143 [s20, (fq 88)]), (oBox g1 138 [(iq (0 : Int)), (iq (0 : Int)), nS]), (oBox g8 138 [(iq u2.weight), (iq u2.least), s6])] [(fDat (tyList tq) [s6] u2.symbols), (fDat tyS_huff_tree [(iq u9.weight), (iq u9.least), s13] u9), (fDat tyS_huff_tree [(iq u2.weight), (iq u2.least), s6] u2)]) X_ Y_) (S := over (put (put (tab [(0, (pq bx0)), (2, (pq g1)), (3, (pq g8)), (4, (iq (wq ((a0.items.length : Int) - (1 : Int))))), (5, (iq l21i5)), (6, (iq l48i6)), (8, (iq u54)), (49, (ag (cA2i64 (A2i64.mk (wq ((wq ((2 : Int) * l21i5)) + (1 : Int))) (wq ((wq ((2 : Int) * l21i5)) + (2 : Int))))))), (50, (iq l48i50))]) 53 (iq u54)) 54 (iq (wq ((a0.items.length : Int) - (1 : Int))))) F_) ?_
 refine al_in rfl rfl rfl rfl ?_
 refine al_nil ?_
 exact fr_fin hK_ ()⟩, ⟨_, rfl, [2], rfl, by
 intro _
 intro X_ Y_ F_ K_ hK_
 refine al_show (m := Mem.plus (memOf w0 Z0 [(oBox bx0 143 [v0_0, (fq 88)]), (oRow v0_0 138 tyS_huff_tree a0.items)] [(oRow s20 138 tyS_huff_tree l21x0_0), (oBox bx0 143 [s20, (fq 88)]), (oBox g1 138 [(iq (0 : Int)), (iq (0 : Int)), nS]), (oBox g8 138 [(iq u2.weight), (iq u2.least), s6])] [(fDat (tyList tq) [s6] u2.symbols), (fDat tyS_huff_tree [(iq u9.weight), (iq u9.least), s13] u9), (fDat tyS_huff_tree [(iq u2.weight), (iq u2.least), s6] u2)]) X_ Y_) (S := over (put (tab [(0, (pq bx0)), (2, (pq g1)), (3, (pq g8)), (4, (iq (wq ((a0.items.length : Int) - (1 : Int))))), (5, (iq l21i5)), (6, (iq l48i6)), (8, (iq u54)), (49, (ag (cA2i64 (A2i64.mk (wq ((wq ((2 : Int) * l21i5)) + (1 : Int))) (wq ((wq ((2 : Int) * l21i5)) + (2 : Int))))))), (50, (iq l48i50))]) 55 (bool (decide (u54 < (wq ((a0.items.length : Int) - (1 : Int))))))) F_) ?_
 refine al_val (ov_cast (by first | rw [hb59] | rfl) (ov_move rfl rfl)) ?_
 refine al_nil ?_
 exact fr_fin hK_ ()⟩, ⟨_, rfl, [3], rfl, by
 intro _
 intro X_ Y_ F_ K_ hK_
 refine al_show (m := Mem.plus (memOf w0 Z0 [(oBox bx0 143 [v0_0, (fq 88)]), (oRow v0_0 138 tyS_huff_tree a0.items)] [(oRow s20 138 tyS_huff_tree l21x0_0), (oBox bx0 143 [s20, (fq 88)]), (oBox g1 138 [(iq (0 : Int)), (iq (0 : Int)), nS]), (oBox g8 138 [(iq u2.weight), (iq u2.least), s6])] [(fDat (tyList tq) [s6] u2.symbols), (fDat tyS_huff_tree [(iq u9.weight), (iq u9.least), s13] u9), (fDat tyS_huff_tree [(iq u2.weight), (iq u2.least), s6] u2)]) X_ Y_) (S := over (put (tab [(0, (pq bx0)), (2, (pq g1)), (3, (pq g8)), (4, (iq (wq ((a0.items.length : Int) - (1 : Int))))), (5, (iq l21i5)), (6, (iq l48i6)), (8, (iq u54)), (49, (ag (cA2i64 (A2i64.mk (wq ((wq ((2 : Int) * l21i5)) + (1 : Int))) (wq ((wq ((2 : Int) * l21i5)) + (2 : Int))))))), (50, (iq l48i50))]) 56 (bool true)) F_) ?_
 refine al_mv rfl rfl ?_
 refine al_nil ?_
 exact fr_fin hK_ ()⟩, ⟨_, rfl, [3, 4], rfl, by
 intro _
 intro _
 intro X_ Y_ F_ K_ hK_
 refine al_show (m := Mem.plus (memOf w0 Z0 [(oBox bx0 143 [v0_0, (fq 88)]), (oRow v0_0 138 tyS_huff_tree a0.items)] [(oRow s20 138 tyS_huff_tree l21x0_0), (oBox bx0 143 [s20, (fq 88)]), (oBox g1 138 [(iq (0 : Int)), (iq (0 : Int)), nS]), (oBox g8 138 [(iq u2.weight), (iq u2.least), s6])] [(fDat (tyList tq) [s6] u2.symbols), (fDat tyS_huff_tree [(iq u9.weight), (iq u9.least), s13] u9), (fDat tyS_huff_tree [(iq u2.weight), (iq u2.least), s6] u2)]) X_ Y_) (S := over (put (put (tab [(0, (pq bx0)), (2, (pq g1)), (3, (pq g8)), (4, (iq (wq ((a0.items.length : Int) - (1 : Int))))), (5, (iq l21i5)), (6, (iq l48i6)), (8, (iq u54)), (49, (ag (cA2i64 (A2i64.mk (wq ((wq ((2 : Int) * l21i5)) + (1 : Int))) (wq ((wq ((2 : Int) * l21i5)) + (2 : Int))))))), (50, (iq l48i50))]) 56 (bool true)) 57 (pq bx0)) F_) ?_
 refine al_val (ov_nilCheck rfl rfl) ?_
 refine al_nil ?_
 exact fr_fin hK_ ()⟩, ⟨_, rfl, [3, 5], rfl, by
 intro _
 intro _
 intro X_ Y_ F_ K_ hK_
 refine al_show (m := Mem.plus (memOf w0 Z0 [(oBox bx0 143 [v0_0, (fq 88)]), (oRow v0_0 138 tyS_huff_tree a0.items)] [(oRow s20 138 tyS_huff_tree l21x0_0), (oBox bx0 143 [s20, (fq 88)]), (oBox g1 138 [(iq (0 : Int)), (iq (0 : Int)), nS]), (oBox g8 138 [(iq u2.weight), (iq u2.least), s6])] [(fDat (tyList tq) [s6] u2.symbols), (fDat tyS_huff_tree [(iq u9.weight), (iq u9.least), s13] u9), (fDat tyS_huff_tree [(iq u2.weight), (iq u2.least), s6] u2)]) X_ Y_) (S := over (put (put (tab [(0, (pq bx0)), (2, (pq g1)), (3, (pq g8)), (4, (iq (wq ((a0.items.length : Int) - (1 : Int))))), (5, (iq l21i5)), (6, (iq l48i6)), (8, (iq u54)), (49, (ag (cA2i64 (A2i64.mk (wq ((wq ((2 : Int) * l21i5)) + (1 : Int))) (wq ((wq ((2 : Int) * l21i5)) + (2 : Int))))))), (50, (iq l48i50))]) 56 (bool true)) 58 (pq bx0)) F_) ?_
 refine al_val (ov_fieldA (p := 1) rfl Tryd.underlying143 rfl sz140 rfl rfl rfl) ?_
 refine al_nil ?_
 exact fr_fin hK_ ()⟩, ⟨_, rfl, [3, 6], rfl, by
 intro _
 intro _
 intro X_ Y_ F_ K_ hK_
 refine al_show (m := Mem.plus (memOf w0 Z0 [(oBox bx0 143 [v0_0, (fq 88)]), (oRow v0_0 138 tyS_huff_tree a0.items)] [(oRow s20 138 tyS_huff_tree l21x0_0), (oBox bx0 143 [s20, (fq 88)]), (oBox g1 138 [(iq (0 : Int)), (iq (0 : Int)), nS]), (oBox g8 138 [(iq u2.weight), (iq u2.least), s6])] [(fDat (tyList tq) [s6] u2.symbols), (fDat tyS_huff_tree [(iq u9.weight), (iq u9.least), s13] u9), (fDat tyS_huff_tree [(iq u2.weight), (iq u2.least), s6] u2)]) X_ Y_) (S := over (put (put (tab [(0, (pq bx0)), (2, (pq g1)), (3, (pq g8)), (4, (iq (wq ((a0.items.length : Int) - (1 : Int))))), (5, (iq l21i5)), (6, (iq l48i6)), (8, (iq u54)), (49, (ag (cA2i64 (A2i64.mk (wq ((wq ((2 : Int) * l21i5)) + (1 : Int))) (wq ((wq ((2 : Int) * l21i5)) + (2 : Int))))))), (50, (iq l48i50))]) 56 (bool true)) 59 (ptr bx0 1)) F_) ?_
 refine al_val (ov_load (i := 1) (v := (fq 88)) rfl rfl Tryd.underlying140 sz140 rfl rfl rfl rfl) ?_
 refine al_nil ?_
 exact fr_fin hK_ ()⟩, ⟨_, rfl, [3], rfl, by
 intro _
 intro X_ Y_ F_ K_ hK_
 refine al_show (m := Mem.plus (memOf w0 Z0 [(oBox bx0 143 [v0_0, (fq 88)]), (oRow v0_0 138 tyS_huff_tree a0.items)] [(oRow s20 138 tyS_huff_tree l21x0_0), (oBox bx0 143 [s20, (fq 88)]), (oBox g1 138 [(iq (0 : Int)), (iq (0 : Int)), nS]), (oBox g8 138 [(iq u2.weight), (iq u2.least), s6])] [(fDat (tyList tq) [s6] u2.symbols), (fDat tyS_huff_tree [(iq u9.weight), (iq u9.least), s13] u9), (fDat tyS_huff_tree [(iq u2.weight), (iq u2.least), s6] u2)]) X_ Y_) (S := over (put (tab [(0, (pq bx0)), (2, (pq g1)), (3, (pq g8)), (4, (iq (wq ((a0.items.length : Int) - (1 : Int))))), (5, (iq l21i5)), (6, (iq l48i6)), (8, (iq u54)), (49, (ag (cA2i64 (A2i64.mk (wq ((wq ((2 : Int) * l21i5)) + (1 : Int))) (wq ((wq ((2 : Int) * l21i5)) + (2 : Int))))))), (50, (iq l48i50))]) 56 (bool true)) F_) ?_
 refine al_mv rfl rfl ?_
 refine al_nil ?_
 exact fr_fin hK_ ()⟩, ⟨_, rfl, [3, 8], rfl, by
 intro _
 intro _
 intro X_ Y_ F_ K_ hK_
 refine al_show (m := Mem.plus (memOf w0 Z0 [(oBox bx0 143 [v0_0, (fq 88)]), (oRow v0_0 138 tyS_huff_tree a0.items)] [(oRow s20 138 tyS_huff_tree l21x0_0), (oBox bx0 143 [s20, (fq 88)]), (oBox g1 138 [(iq (0 : Int)), (iq (0 : Int)), nS]), (oBox g8 138 [(iq u2.weight), (iq u2.least), s6])] [(fDat (tyList tq) [s6] u2.symbols), (fDat tyS_huff_tree [(iq u9.weight), (iq u9.least), s13] u9), (fDat tyS_huff_tree [(iq u2.weight), (iq u2.least), s6] u2)]) X_ Y_) (S := over (put (put (tab [(0, (pq bx0)), (2, (pq g1)), (3, (pq g8)), (4, (iq (wq ((a0.items.length : Int) - (1 : Int))))), (5, (iq l21i5)), (6, (iq l48i6)), (8, (iq u54)), (49, (ag (cA2i64 (A2i64.mk (wq ((wq ((2 : Int) * l21i5)) + (1 : Int))) (wq ((wq ((2 : Int) * l21i5)) + (2 : Int))))))), (50, (iq l48i50))]) 56 (bool true)) 61 (pq bx0)) F_) ?_
 refine al_val (ov_nilCheck rfl rfl) ?_
 refine al_nil ?_
 exact fr_fin hK_ ()⟩, ⟨_, rfl, [3, 9], rfl, by
 intro _
 intro _
 intro X_ Y_ F_ K_ hK_
 refine al_show (m := Mem.plus (memOf w0 Z0 [(oBox bx0 143 [v0_0, (fq 88)]), (oRow v0_0 138 tyS_huff_tree a0.items)] [(oRow s20 138 tyS_huff_tree l21x0_0), (oBox bx0 143 [s20, (fq 88)]), (oBox g1 138 [(iq (0 : Int)), (iq (0 : Int)), nS]), (oBox g8 138 [(iq u2.weight), (iq u2.least), s6])] [(fDat (tyList tq) [s6] u2.symbols), (fDat tyS_huff_tree [(iq u9.weight), (iq u9.least), s13] u9), (fDat tyS_huff_tree [(iq u2.weight), (iq u2.least), s6] u2)]) X_ Y_) (S := over (put (put (tab [(0, (pq bx0)), (2, (pq g1)), (3, (pq g8)), (4, (iq (wq ((a0.items.length : Int) - (1 : Int))))), (5, (iq l21i5)), (6, (iq l48i6)), (8, (iq u54)), (49, (ag (cA2i64 (A2i64.mk (wq ((wq ((2 : Int) * l21i5)) + (1 : Int))) (wq ((wq ((2 : Int) * l21i5)) + (2 : Int))))))), (50, (iq l48i50))]) 56 (bool true)) 62 (pq bx0)) F_) ?_
 refine al_val (ov_fieldA (p := 0) rfl Tryd.underlying143 rfl sz141 rfl rfl rfl) ?_
 refine al_nil ?_
 exact fr_fin hK_ ()⟩, ⟨_, rfl, [3, 10], rfl, by
 intro _
 intro _
 intro X_ Y_ F_ K_ hK_
 refine al_show (m := Mem.plus (memOf w0 Z0 [(oBox bx0 143 [v0_0, (fq 88)]), (oRow v0_0 138 tyS_huff_tree a0.items)] [(oRow s20 138 tyS_huff_tree l21x0_0), (oBox bx0 143 [s20, (fq 88)]), (oBox g1 138 [(iq (0 : Int)), (iq (0 : Int)), nS]), (oBox g8 138 [(iq u2.weight), (iq u2.least), s6])] [(fDat (tyList tq) [s6] u2.symbols), (fDat tyS_huff_tree [(iq u9.weight), (iq u9.least), s13] u9), (fDat tyS_huff_tree [(iq u2.weight), (iq u2.least), s6] u2)]) X_ Y_) (S := over (put (put (tab [(0, (pq bx0)), (2, (pq g1)), (3, (pq g8)), (4, (iq (wq ((a0.items.length : Int) - (1 : Int))))), (5, (iq l21i5)), (6, (iq l48i6)), (8, (iq u54)), (49, (ag (cA2i64 (A2i64.mk (wq ((wq ((2 : Int) * l21i5)) + (1 : Int))) (wq ((wq ((2 : Int) * l21i5)) + (2 : Int))))))), (50, (iq l48i50))]) 56 (bool true)) 63 (pq bx0)) F_) ?_
 refine al_val (ov_load (i := 1) (v := s20) rfl rfl Tryd.underlying141 sz141 rfl rfl rfl rfl) ?_
 refine al_nil ?_
 exact fr_fin hK_ ()⟩, ⟨_, rfl, [3], rfl, by
 intro _
 intro X_ Y_ F_ K_ hK_
 refine al_show (m := Mem.plus (memOf w0 Z0 [(oBox bx0 143 [v0_0, (fq 88)]), (oRow v0_0 138 tyS_huff_tree a0.items)] [(oRow s20 138 tyS_huff_tree l21x0_0), (oBox bx0 143 [s20, (fq 88)]), (oBox g1 138 [(iq (0 : Int)), (iq (0 : Int)), nS]), (oBox g8 138 [(iq u2.weight), (iq u2.least), s6])] [(fDat (tyList tq) [s6] u2.symbols), (fDat tyS_huff_tree [(iq u9.weight), (iq u9.least), s13] u9), (fDat tyS_huff_tree [(iq u2.weight), (iq u2.least), s6] u2)]) X_ Y_) (S := over (put (tab [(0, (pq bx0)), (2, (pq g1)), (3, (pq g8)), (4, (iq (wq ((a0.items.length : Int) - (1 : Int))))), (5, (iq l21i5)), (6, (iq l48i6)), (8, (iq u54)), (49, (ag (cA2i64 (A2i64.mk (wq ((wq ((2 : Int) * l21i5)) + (1 : Int))) (wq ((wq ((2 : Int) * l21i5)) + (2 : Int))))))), (50, (iq l48i50))]) 56 (bool true)) F_) ?_
 refine al_mv rfl rfl ?_
 refine al_nil ?_
 exact fr_fin hK_ ()⟩, ⟨_, rfl, [3, 11, 12], rfl, by
 intro _
 intro _
 intro _
 intro X_ Y_ F_ K_ hK_
 refine al_show (m := Mem.plus (memOf w0 Z0 [(oBox bx0 143 [v0_0, (fq 88)]), (oRow v0_0 138 tyS_huff_tree a0.items)] [(oRow s20 138 tyS_huff_tree l21x0_0), (oBox bx0 143 [s20, (fq 88)]), (oBox g1 138 [(iq (0 : Int)), (iq (0 : Int)), nS]), (oBox g8 138 [(iq u2.weight), (iq u2.least), s6])] [(fDat (tyList tq) [s6] u2.symbols), (fDat tyS_huff_tree [(iq u9.weight), (iq u9.least), s13] u9), (fDat tyS_huff_tree [(iq u2.weight), (iq u2.least), s6] u2)]) X_ Y_) (S := over (put (put (put (tab [(0, (pq bx0)), (2, (pq g1)), (3, (pq g8)), (4, (iq (wq ((a0.items.length : Int) - (1 : Int))))), (5, (iq l21i5)), (6, (iq l48i6)), (8, (iq u54)), (49, (ag (cA2i64 (A2i64.mk (wq ((wq ((2 : Int) * l21i5)) + (1 : Int))) (wq ((wq ((2 : Int) * l21i5)) + (2 : Int))))))), (50, (iq l48i50))]) 56 (bool true)) 64 s20) 65 (iq u54)) F_) ?_
 refine al_idxR 0 (at_some hu61).1 (at_some hu61).2.1 rfl rfl rfl Tryd.underlying141 sz138 rfl (fun p62 hp63 => ?_)
 refine al_nil ?_
 exact fr_fin hK_ ⟨p62, hp63⟩⟩, ⟨_, rfl, [3, 13], rfl, by
 intro _
 rintro ⟨p62, hp63⟩
 intro X_ Y_ F_ K_ hK_
 refine al_show (m := Mem.plus (memOf w0 Z0 [(oBox bx0 143 [v0_0, (fq 88)]), (oRow v0_0 138 tyS_huff_tree a0.items)] [(oRow s20 138 tyS_huff_tree l21x0_0), (oBox bx0 143 [s20, (fq 88)]), (oBox g1 138 [(iq (0 : Int)), (iq (0 : Int)), nS]), (oBox g8 138 [(iq u2.weight), (iq u2.least), s6])] [(fDat (tyList tq) [s6] u2.symbols), (fDat tyS_huff_tree [(iq u9.weight), (iq u9.least), s13] u9), (fDat tyS_huff_tree [(iq u2.weight), (iq u2.least), s6] u2)]) X_ Y_) (S := over (put (put (tab [(0, (pq bx0)), (2, (pq g1)), (3, (pq g8)), (4, (iq (wq ((a0.items.length : Int) - (1 : Int))))), (5, (iq l21i5)), (6, (iq l48i6)), (8, (iq u54)), (49, (ag (cA2i64 (A2i64.mk (wq ((wq ((2 : Int) * l21i5)) + (1 : Int))) (wq ((wq ((2 : Int) * l21i5)) + (2 : Int))))))), (50, (iq l48i50))]) 56 (bool true)) 66 p62) F_) ?_
 refine al_loadRA 0 rfl hp63 (at_some hu61).2.2 rfl Tryd.underlying138 sz138 rfl rfl (fun cs65 => ?_)
 refine al_use (ι := Value) 0 rfl (fun j => cs65 = [(iq u60.weight), (iq u60.least), j]) (fun j => [(fDat (tyList tq) [j] u60.symbols)]) encnS_huff_tree (fun s64 hq => ?_)
 subst hq
 refine al_nil ?_
 exact fr_fin hK_ s64⟩, ⟨_, rfl, [3], rfl, by
 intro _
 intro X_ Y_ F_ K_ hK_
 refine al_show (m := Mem.plus (memOf w0 Z0 [(oBox bx0 143 [v0_0, (fq 88)]), (oRow v0_0 138 tyS_huff_tree a0.items)] [(oRow s20 138 tyS_huff_tree l21x0_0), (oBox bx0 143 [s20, (fq 88)]), (oBox g1 138 [(iq (0 : Int)), (iq (0 : Int)), nS]), (oBox g8 138 [(iq u2.weight), (iq u2.least), s6])] [(fDat (tyList tq) [s6] u2.symbols), (fDat tyS_huff_tree [(iq u9.weight), (iq u9.least), s13] u9), (fDat tyS_huff_tree [(iq u2.weight), (iq u2.least), s6] u2)]) X_ Y_) (S := over (put (tab [(0, (pq bx0)), (2, (pq g1)), (3, (pq g8)), (4, (iq (wq ((a0.items.length : Int) - (1 : Int))))), (5, (iq l21i5)), (6, (iq l48i6)), (8, (iq u54)), (49, (ag (cA2i64 (A2i64.mk (wq ((wq ((2 : Int) * l21i5)) + (1 : Int))) (wq ((wq ((2 : Int) * l21i5)) + (2 : Int))))))), (50, (iq l48i50))]) 56 (bool true)) F_) ?_
 refine al_mv rfl rfl ?_
 refine al_nil ?_
 exact fr_fin hK_ ()⟩, ⟨_, rfl, [3, 15], rfl, by
 intro _
 intro _
 intro X_ Y_ F_ K_ hK_
 refine al_show (m := Mem.plus (memOf w0 Z0 [(oBox bx0 143 [v0_0, (fq 88)]), (oRow v0_0 138 tyS_huff_tree a0.items)] [(oRow s20 138 tyS_huff_tree l21x0_0), (oBox bx0 143 [s20, (fq 88)]), (oBox g1 138 [(iq (0 : Int)), (iq (0 : Int)), nS]), (oBox g8 138 [(iq u2.weight), (iq u2.least), s6])] [(fDat (tyList tq) [s6] u2.symbols), (fDat tyS_huff_tree [(iq u9.weight), (iq u9.least), s13] u9), (fDat tyS_huff_tree [(iq u2.weight), (iq u2.least), s6] u2)]) X_ Y_) (S := over (put (put (tab [(0, (pq bx0)), (2, (pq g1)), (3, (pq g8)), (4, (iq (wq ((a0.items.length : Int) - (1 : Int))))), (5, (iq l21i5)), (6, (iq l48i6)), (8, (iq u54)), (49, (ag (cA2i64 (A2i64.mk (wq ((wq ((2 : Int) * l21i5)) + (1 : Int))) (wq ((wq ((2 : Int) * l21i5)) + (2 : Int))))))), (50, (iq l48i50))]) 56 (bool true)) 68 (pq bx0)) F_) ?_
 refine al_val (ov_nilCheck rfl rfl) ?_
 refine al_nil ?_
 exact fr_fin hK_ ()⟩, ⟨_, rfl, [3, 16], rfl, by
 intro _
 intro _
 intro X_ Y_ F_ K_ hK_
 refine al_show (m := Mem.plus (memOf w0 Z0 [(oBox bx0 143 [v0_0, (fq 88)]), (oRow v0_0 138 tyS_huff_tree a0.items)] [(oRow s20 138 tyS_huff_tree l21x0_0), (oBox bx0 143 [s20, (fq 88)]), (oBox g1 138 [(iq (0 : Int)), (iq (0 : Int)), nS]), (oBox g8 138 [(iq u2.weight), (iq u2.least), s6])] [(fDat (tyList tq) [s6] u2.symbols), (fDat tyS_huff_tree [(iq u9.weight), (iq u9.least), s13] u9), (fDat tyS_huff_tree [(iq u2.weight), (iq u2.least), s6] u2)]) X_ Y_) (S := over (put (put (tab [(0, (pq bx0)), (2, (pq g1)), (3, (pq g8)), (4, (iq (wq ((a0.items.length : Int) - (1 : Int))))), (5, (iq l21i5)), (6, (iq l48i6)), (8, (iq u54)), (49, (ag (cA2i64 (A2i64.mk (wq ((wq ((2 : Int) * l21i5)) + (1 : Int))) (wq ((wq ((2 : Int) * l21i5)) + (2 : Int))))))), (50, (iq l48i50))]) 56 (bool true)) 69 (pq bx0)) F_) ?_
 refine al_val (ov_fieldA (p := 0) rfl Tryd.underlying143 rfl sz141 rfl rfl rfl) ?_
 refine al_nil ?_
 exact fr_fin hK_ ()⟩, ⟨_, rfl, [3, 17], rfl, by
 intro _
 intro _
 intro X_ Y_ F_ K_ hK_
 refine al_show (m := Mem.plus (memOf w0 Z0 [(oBox bx0 143 [v0_0, (fq 88)]), (oRow v0_0 138 tyS_huff_tree a0.items)] [(oRow s20 138 tyS_huff_tree l21x0_0), (oBox bx0 143 [s20, (fq 88)]), (oBox g1 138 [(iq (0 : Int)), (iq (0 : Int)), nS]), (oBox g8 138 [(iq u2.weight), (iq u2.least), s6])] [(fDat (tyList tq) [s6] u2.symbols), (fDat tyS_huff_tree [(iq u9.weight), (iq u9.least), s13] u9), (fDat tyS_huff_tree [(iq u2.weight), (iq u2.least), s6] u2)]) X_ Y_) (S := over (put (put (tab [(0, (pq bx0)), (2, (pq g1)), (3, (pq g8)), (4, (iq (wq ((a0.items.length : Int) - (1 : Int))))), (5, (iq l21i5)), (6, (iq l48i6)), (8, (iq u54)), (49, (ag (cA2i64 (A2i64.mk (wq ((wq ((2 : Int) * l21i5)) + (1 : Int))) (wq ((wq ((2 : Int) * l21i5)) + (2 : Int))))))), (50, (iq l48i50))]) 56 (bool true)) 70 (pq bx0)) F_) ?_
 refine al_val (ov_load (i := 1) (v := s20) rfl rfl Tryd.underlying141 sz141 rfl rfl rfl rfl) ?_
 refine al_nil ?_
 exact fr_fin hK_ ()⟩, ⟨_, rfl, [3], rfl, by
 intro _
 intro X_ Y_ F_ K_ hK_
 refine al_show (m := Mem.plus (memOf w0 Z0 [(oBox bx0 143 [v0_0, (fq 88)]), (oRow v0_0 138 tyS_huff_tree a0.items)] [(oRow s20 138 tyS_huff_tree l21x0_0), (oBox bx0 143 [s20, (fq 88)]), (oBox g1 138 [(iq (0 : Int)), (iq (0 : Int)), nS]), (oBox g8 138 [(iq u2.weight), (iq u2.least), s6])] [(fDat (tyList tq) [s6] u2.symbols), (fDat tyS_huff_tree [(iq u9.weight), (iq u9.least), s13] u9), (fDat tyS_huff_tree [(iq u2.weight), (iq u2.least), s6] u2)]) X_ Y_) (S := over (put (tab [(0, (pq bx0)), (2, (pq g1)), (3, (pq g8)), (4, (iq (wq ((a0.items.length : Int) - (1 : Int))))), (5, (iq l21i5)), (6, (iq l48i6)), (8, (iq u54)), (49, (ag (cA2i64 (A2i64.mk (wq ((wq ((2 : Int) * l21i5)) + (1 : Int))) (wq ((wq ((2 : Int) * l21i5)) + (2 : Int))))))), (50, (iq l48i50))]) 56 (bool true)) F_) ?_
 refine al_mv rfl rfl ?_
 refine al_nil ?_
 exact fr_fin hK_ ()⟩, ⟨_, rfl, [3, 18, 19], rfl, by
 intro _
 intro _
 intro _
 intro X_ Y_ F_ K_ hK_
 refine al_show (m := Mem.plus (memOf w0 Z0 [(oBox bx0 143 [v0_0, (fq 88)]), (oRow v0_0 138 tyS_huff_tree a0.items)] [(oRow s20 138 tyS_huff_tree l21x0_0), (oBox bx0 143 [s20, (fq 88)]), (oBox g1 138 [(iq (0 : Int)), (iq (0 : Int)), nS]), (oBox g8 138 [(iq u2.weight), (iq u2.least), s6])] [(fDat (tyList tq) [s6] u2.symbols), (fDat tyS_huff_tree [(iq u9.weight), (iq u9.least), s13] u9), (fDat tyS_huff_tree [(iq u2.weight), (iq u2.least), s6] u2)]) X_ Y_) (S := over (put (put (put (tab [(0, (pq bx0)), (2, (pq g1)), (3, (pq g8)), (4, (iq (wq ((a0.items.length : Int) - (1 : Int))))), (5, (iq l21i5)), (6, (iq l48i6)), (8, (iq u54)), (49, (ag (cA2i64 (A2i64.mk (wq ((wq ((2 : Int) * l21i5)) + (1 : Int))) (wq ((wq ((2 : Int) * l21i5)) + (2 : Int))))))), (50, (iq l48i50))]) 56 (bool true)) 71 s20) 72 (iq l48i6)) F_) ?_
 refine al_idxR 0 (at_some hu67).1 (at_some hu67).2.1 rfl rfl rfl Tryd.underlying141 sz138 rfl (fun p68 hp69 => ?_)
 refine al_nil ?_
 exact fr_fin hK_ ⟨p68, hp69⟩⟩, ⟨_, rfl, [3, 20], rfl, by
 intro _
 rintro ⟨p68, hp69⟩
 intro X_ Y_ F_ K_ hK_
 refine al_show (m := Mem.plus (memOf w0 Z0 [(oBox bx0 143 [v0_0, (fq 88)]), (oRow v0_0 138 tyS_huff_tree a0.items)] [(oRow s20 138 tyS_huff_tree l21x0_0), (oBox bx0 143 [s20, (fq 88)]), (oBox g1 138 [(iq (0 : Int)), (iq (0 : Int)), nS]), (oBox g8 138 [(iq u2.weight), (iq u2.least), s6])] [(fDat (tyList tq) [s6] u2.symbols), (fDat tyS_huff_tree [(iq u9.weight), (iq u9.least), s13] u9), (fDat tyS_huff_tree [(iq u2.weight), (iq u2.least), s6] u2)]) X_ Y_) (S := over (put (put (tab [(0, (pq bx0)), (2, (pq g1)), (3, (pq g8)), (4, (iq (wq ((a0.items.length : Int) - (1 : Int))))), (5, (iq l21i5)), (6, (iq l48i6)), (8, (iq u54)), (49, (ag (cA2i64 (A2i64.mk (wq ((wq ((2 : Int) * l21i5)) + (1 : Int))) (wq ((wq ((2 : Int) * l21i5)) + (2 : Int))))))), (50, (iq l48i50))]) 56 (bool true)) 73 p68) F_) ?_
 refine al_loadRA 0 rfl hp69 (at_some hu67).2.2 rfl Tryd.underlying138 sz138 rfl rfl (fun cs71 => ?_)
 refine al_use (ι := Value) 0 rfl (fun j => cs71 = [(iq u66.weight), (iq u66.least), j]) (fun j => [(fDat (tyList tq) [j] u66.symbols)]) encnS_huff_tree (fun s70 hq => ?_)
 subst hq
 refine al_nil ?_
 exact fr_fin hK_ s70⟩, trivial⟩ ?_
      intro _
      intro _
      intro _
      intro _
      intro _
      intro _
      intro _
      intro _
      intro _
      intro _
      intro _
      intro _
      intro _
      rintro ⟨p62, hp63⟩
      intro s64
      intro _
      intro _
      intro _
      intro _
      intro _
      rintro ⟨p68, hp69⟩
      intro s70
      intro X_ Y_ F_ K_ hK_
      refine al_show (m := Mem.plus (memOf w0 Z0 [(oBox bx0 143 [v0_0, (fq 88)]), (oRow v0_0 138 tyS_huff_tree a0.items)] [(oRow s20 138 tyS_huff_tree l21x0_0), (oBox bx0 143 [s20, (fq 88)]), (oBox g1 138 [(iq (0 : Int)), (iq (0 : Int)), nS]), (oBox g8 138 [(iq u2.weight), (iq u2.least), s6])] [(fDat (tyList tq) [s70] u66.symbols), (fDat tyS_huff_tree [(iq u66.weight), (iq u66.least), s70] u66), (fDat (tyList tq) [s64] u60.symbols), (fDat tyS_huff_tree [(iq u60.weight), (iq u60.least), s64] u60), (fDat (tyList tq) [s6] u2.symbols), (fDat tyS_huff_tree [(iq u9.weight), (iq u9.least), s13] u9), (fDat tyS_huff_tree [(iq u2.weight), (iq u2.least), s6] u2)]) X_ Y_) (S := over (put (put (put (put (put (put (put (put (put (put (put (put (put (put (put (put (put (put (put (put (put (put (tab [(0, (pq bx0)), (2, (pq g1)), (3, (pq g8)), (4, (iq (wq ((a0.items.length : Int) - (1 : Int))))), (5, (iq l21i5)), (6, (iq l48i6)), (8, (iq u54)), (49, (ag (cA2i64 (A2i64.mk (wq ((wq ((2 : Int) * l21i5)) + (1 : Int))) (wq ((wq ((2 : Int) * l21i5)) + (2 : Int))))))), (50, (iq l48i50))]) 53 (iq u54)) 54 (iq (wq ((a0.items.length : Int) - (1 : Int))))) 55 (bool (decide (u54 < (wq ((a0.items.length : Int) - (1 : Int))))))) 56 (bool true)) 57 (pq bx0)) 58 (pq bx0)) 59 (ptr bx0 1)) 60 (fq 88)) 61 (pq bx0)) 62 (pq bx0)) 63 (pq bx0)) 64 s20) 65 (iq u54)) 66 p62) 67 (ag [(iq u60.weight), (iq u60.least), s64])) 68 (pq bx0)) 69 (pq bx0)) 70 (pq bx0)) 71 s20) 72 (iq l48i6)) 73 p68) 74 (ag [(iq u66.weight), (iq u66.least), s70])) F_) ?_
      obtain ⟨r73, hc72, h⟩ := opt_some h
      refine al_callFX (vs := [(ag [(iq u60.weight), (iq u60.least), s64]), (ag [(iq u66.weight), (iq u66.least), s70])]) (caps := []) (f_huff_Lengths_2_ok fu s64 u60 s70 u66 hc72) rfl [] [] [0, 1, 2, 3] (pre_fz 2 rfl (pre_fz 0 rfl pre_nil)) rfl (by simp) (by decide) rfl (.inl rfl) rfl rfl Tryd.func88 rfl rfl rfl (fun _ => ?_)
      refine al_nil ?_
      refine aq_show (m := Mem.plus (memOf w0 Z0 [(oBox bx0 143 [v0_0, (fq 88)]), (oRow v0_0 138 tyS_huff_tree a0.items)] [(oRow s20 138 tyS_huff_tree l21x0_0), (oBox bx0 143 [s20, (fq 88)]), (oBox g1 138 [(iq (0 : Int)), (iq (0 : Int)), nS]), (oBox g8 138 [(iq u2.weight), (iq u2.least), s6])] [(fDat (tyList tq) [s70] u66.symbols), (fDat tyS_huff_tree [(iq u66.weight), (iq u66.least), s70] u66), (fDat (tyList tq) [s64] u60.symbols), (fDat tyS_huff_tree [(iq u60.weight), (iq u60.least), s64] u60), (fDat (tyList tq) [s6] u2.symbols), (fDat tyS_huff_tree [(iq u9.weight), (iq u9.least), s13] u9), (fDat tyS_huff_tree [(iq u2.weight), (iq u2.least), s6] u2)]) X_ Y_) ?_
      refine aq_next hK_ [0, 1, 2, 3] [1, 3, 4, 5, 6] [(0, (pq bx0)), (2, (pq g1)), (3, (pq g8)), (4, (iq (wq ((a0.items.length : Int) - (1 : Int))))), (5, (iq l21i5)), (6, (iq l48i6)), (8, (iq u54)), (49, (ag (cA2i64 (A2i64.mk (wq ((wq ((2 : Int) * l21i5)) + (1 : Int))) (wq ((wq ((2 : Int) * l21i5)) + (2 : Int))))))), (50, (iq l48i50)), (56, (bool true)), (75, (iq r73))] [] [⟨23, 76, Unit, fun _ => { val := (bool (decide (r73 < (0 : Int)))) }⟩, ⟨24, 77, Unit, fun _ => { val := (bool (decide (r73 < (0 : Int)))) }⟩] rfl rfl (by decide) rfl ⟨rfl, rfl, rfl, rfl, rfl, rfl, rfl, rfl, rfl, rfl, rfl, trivial⟩ trivial ?_
      clear hK_ K_ F_ X_ Y_
      refine ta_show (m := (memOf w0 Z0 [(oBox bx0 143 [v0_0, (fq 88)]), (oRow v0_0 138 tyS_huff_tree a0.items)] [(oRow s20 138 tyS_huff_tree l21x0_0), (oBox bx0 143 [s20, (fq 88)]), (oBox g1 138 [(iq (0 : Int)), (iq (0 : Int)), nS]), (oBox g8 138 [(iq u2.weight), (iq u2.least), s6])] [(fDat tyS_huff_tree [(iq u66.weight), (iq u66.least), s70] u66), (fDat tyS_huff_tree [(iq u60.weight), (iq u60.least), s64] u60), (fDat (tyList tq) [s6] u2.symbols), (fDat tyS_huff_tree [(iq u9.weight), (iq u9.least), s13] u9), (fDat tyS_huff_tree [(iq u2.weight), (iq u2.least), s6] u2)])) (S := (tab [(0, (pq bx0)), (2, (pq g1)), (3, (pq g8)), (4, (iq (wq ((a0.items.length : Int) - (1 : Int))))), (5, (iq l21i5)), (6, (iq l48i6)), (8, (iq u54)), (49, (ag (cA2i64 (A2i64.mk (wq ((wq ((2 : Int) * l21i5)) + (1 : Int))) (wq ((wq ((2 : Int) * l21i5)) + (2 : Int))))))), (50, (iq l48i50)), (56, (bool true)), (75, (iq r73))])) ?_
      refine ta_end [23, 24] [76, 77] rfl rfl (by kernel_rfl) rfl ⟨⟨_, rfl, [], rfl, by
 intro X_ Y_ F_ K_ hK_
 refine al_show (m := Mem.plus (memOf w0 Z0 [(oBox bx0 143 [v0_0, (fq 88)]), (oRow v0_0 138 tyS_huff_tree a0.items)] [(oRow s20 138 tyS_huff_tree l21x0_0), (oBox bx0 143 [s20, (fq 88)]), (oBox g1 138 [(iq (0 : Int)), (iq (0 : Int)), nS]), (oBox g8 138 [(iq u2.weight), (iq u2.least), s6])] [(fDat tyS_huff_tree [(iq u66.weight), (iq u66.least), s70] u66), (fDat tyS_huff_tree [(iq u60.weight), (iq u60.least), s64] u60), (fDat (tyList tq) [s6] u2.symbols), (fDat tyS_huff_tree [(iq u9.weight), (iq u9.least), s13] u9), (fDat tyS_huff_tree [(iq u2.weight), (iq u2.least), s6] u2)]) X_ Y_) (S := over (tab [(0, (pq bx0)), (2, (pq g1)), (3, (pq g8)), (4, (iq (wq ((a0.items.length : Int) - (1 : Int))))), (5, (iq l21i5)), (6, (iq l48i6)), (8, (iq u54)), (49, (ag (cA2i64 (A2i64.mk (wq ((wq ((2 : Int) * l21i5)) + (1 : Int))) (wq ((wq ((2 : Int) * l21i5)) + (2 : Int))))))), (50, (iq l48i50)), (56, (bool true)), (75, (iq r73))]) F_) ?_
 refine al_in rfl rfl rfl rfl ?_
 refine al_nil ?_
 exact fr_fin hK_ ()⟩, ⟨_, rfl, [0], rfl, by
 intro _
 intro X_ Y_ F_ K_ hK_
 refine al_show (m := Mem.plus (memOf w0 Z0 [(oBox bx0 143 [v0_0, (fq 88)]), (oRow v0_0 138 tyS_huff_tree a0.items)] [(oRow s20 138 tyS_huff_tree l21x0_0), (oBox bx0 143 [s20, (fq 88)]), (oBox g1 138 [(iq (0 : Int)), (iq (0 : Int)), nS]), (oBox g8 138 [(iq u2.weight), (iq u2.least), s6])] [(fDat tyS_huff_tree [(iq u66.weight), (iq u66.least), s70] u66), (fDat tyS_huff_tree [(iq u60.weight), (iq u60.least), s64] u60), (fDat (tyList tq) [s6] u2.symbols), (fDat tyS_huff_tree [(iq u9.weight), (iq u9.least), s13] u9), (fDat tyS_huff_tree [(iq u2.weight), (iq u2.least), s6] u2)]) X_ Y_) (S := over (put (tab [(0, (pq bx0)), (2, (pq g1)), (3, (pq g8)), (4, (iq (wq ((a0.items.length : Int) - (1 : Int))))), (5, (iq l21i5)), (6, (iq l48i6)), (8, (iq u54)), (49, (ag (cA2i64 (A2i64.mk (wq ((wq ((2 : Int) * l21i5)) + (1 : Int))) (wq ((wq ((2 : Int) * l21i5)) + (2 : Int))))))), (50, (iq l48i50)), (56, (bool true)), (75, (iq r73))]) 76 (bool (decide (r73 < (0 : Int))))) F_) ?_
 refine al_val (ov_pick_t rfl rfl rfl) ?_
 refine al_nil ?_
 exact fr_fin hK_ ()⟩, trivial⟩ ?_
      intro _
      intro _
      refine aq_show (m := (memOf w0 Z0 [(oBox bx0 143 [v0_0, (fq 88)]), (oRow v0_0 138 tyS_huff_tree a0.items)] [(oRow s20 138 tyS_huff_tree l21x0_0), (oBox bx0 143 [s20, (fq 88)]), (oBox g1 138 [(iq (0 : Int)), (iq (0 : Int)), nS]), (oBox g8 138 [(iq u2.weight), (iq u2.least), s6])] [(fDat tyS_huff_tree [(iq u66.weight), (iq u66.least), s70] u66), (fDat tyS_huff_tree [(iq u60.weight), (iq u60.least), s64] u60), (fDat (tyList tq) [s6] u2.symbols), (fDat tyS_huff_tree [(iq u9.weight), (iq u9.least), s13] u9), (fDat tyS_huff_tree [(iq u2.weight), (iq u2.least), s6] u2)])) (S := (put (put (tab [(0, (pq bx0)), (2, (pq g1)), (3, (pq g8)), (4, (iq (wq ((a0.items.length : Int) - (1 : Int))))), (5, (iq l21i5)), (6, (iq l48i6)), (8, (iq u54)), (49, (ag (cA2i64 (A2i64.mk (wq ((wq ((2 : Int) * l21i5)) + (1 : Int))) (wq ((wq ((2 : Int) * l21i5)) + (2 : Int))))))), (50, (iq l48i50)), (56, (bool true)), (75, (iq r73))]) 76 (bool (decide (r73 < (0 : Int))))) 77 (bool (decide (r73 < (0 : Int)))))) ?_
      exact aq_join (decide (r73 < (0 : Int))) h (fun w a hm hs => norm hm hs [0, 1, 2, 3] [2, 3, 4] [(0, (pq bx0)), (2, (pq g1)), (3, (pq g8)), (4, (iq (wq ((a0.items.length : Int) - (1 : Int))))), (5, (iq l21i5)), (6, (iq l48i6)), (8, (iq u54)), (49, (ag (cA2i64 (A2i64.mk (wq ((wq ((2 : Int) * l21i5)) + (1 : Int))) (wq ((wq ((2 : Int) * l21i5)) + (2 : Int))))))), (50, (iq l48i50)), (77, (bool (decide (r73 < (0 : Int)))))] (by decide) ⟨rfl, rfl, rfl, rfl, rfl, rfl, rfl, rfl, rfl, rfl, trivial⟩)
     ·replace h := bif_f hb59 h
      refine aw_region_open [⟨0, 53, Unit, fun _ => { val := (iq u54) }⟩, ⟨1, 54, Unit, fun _ => { val := (iq (wq ((a0.items.length : Int) - (1 : Int)))) }⟩, ⟨2, 55, Unit, fun _ => { val := (bool (decide (u54 < (wq ((a0.items.length : Int) - (1 : Int)))))) }⟩, ⟨3, 56, Unit, fun _ => { val := (bool false) }⟩, ⟨4, 57, Unit, fun _ => { val := undef }⟩, ⟨5, 58, Unit, fun _ => { val := undef }⟩, ⟨6, 59, Unit, fun _ => { val := undef }⟩, ⟨7, 60, Unit, fun _ => { val := undef }⟩, ⟨8, 61, Unit, fun _ => { val := undef }⟩, ⟨9, 62, Unit, fun _ => { val := undef }⟩, ⟨10, 63, Unit, fun _ => { val := undef }⟩, ⟨11, 64, Unit, fun _ => { val := undef }⟩, ⟨12, 65, Unit, fun _ => { val := undef }⟩, ⟨13, 66, Unit, fun _ => { val := undef }⟩, ⟨14, 67, Unit, fun _ => { val := undef }⟩, ⟨15, 68, Unit, fun _ => { val := undef }⟩, ⟨16, 69, Unit, fun _ => { val := undef }⟩, ⟨17, 70, Unit, fun _ => { val := undef }⟩, ⟨18, 71, Unit, fun _ => { val := undef }⟩, ⟨19, 72, Unit, fun _ => { val := undef }⟩, ⟨20, 73, Unit, fun _ => { val := undef }⟩, ⟨21, 74, Unit, fun _ => { val := undef }⟩] (tab [(0, (pq bx0)), (2, (pq g1)), (3, (pq g8)), (4, (iq (wq ((a0.items.length : Int) - (1 : Int))))), (5, (iq l21i5)), (6, (iq l48i6)), (8, (iq u54)), (49, (ag (cA2i64 (A2i64.mk (wq ((wq ((2 : Int) * l21i5)) + (1 : Int))) (wq ((wq ((2 : Int) * l21i5)) + (2 : Int))))))), (50, (iq l48i50))]) mixed (fun a hs => hs.tab _ (allT_mem ⟨rfl, rfl, rfl, rfl, rfl, rfl, rfl, rfl, rfl, trivial⟩)) ?_
      refine ta_show (m := (memOf w0 Z0 [(oBox bx0 143 [v0_0, (fq 88)]), (oRow v0_0 138 tyS_huff_tree a0.items)] [(oRow s20 138 tyS_huff_tree l21x0_0), (oBox bx0 143 [s20, (fq 88)]), (oBox g1 138 [(iq (0 : Int)), (iq (0 : Int)), nS]), (oBox g8 138 [(iq u2.weight), (iq u2.least), s6])] [(fDat (tyList tq) [s6] u2.symbols), (fDat tyS_huff_tree [(iq u9.weight), (iq u9.least), s13] u9), (fDat tyS_huff_tree [(iq u2.weight), (iq u2.least), s6] u2)])) (S := (tab [(0, (pq bx0)), (2, (pq g1)), (3, (pq g8)), (4, (iq (wq ((a0.items.length : Int) - (1 : Int))))), (5, (iq l21i5)), (6, (iq l48i6)), (8, (iq u54)), (49, (ag (cA2i64 (A2i64.mk (wq ((wq ((2 : Int) * l21i5)) + (1 : Int))) (wq ((wq ((2 : Int) * l21i5)) + (2 : Int))))))), (50, (iq l48i50))])) ?_
      refine ta_step 22 _ [0, 1, 2, 3, 4, 5, 6, 7, 8, 9, 10, 11, 12, 13, 14, 15, 16, 17, 18, 19, 20, 21] [53, 54, 55, 56, 57, 58, 59, 60, 61, 62, 63, 64, 65, 66, 67, 68, 69, 70, 71, 72, 73, 74] [0, 1, 2, 3, 4, 5, 6, 7, 8, 9, 10, 11, 12, 13, 14, 15, 16, 17, 18, 19, 20, 21] [23, 24] [⟨0, 53, Unit, fun _ => { val := (iq u54) }⟩, ⟨1, 54, Unit, fun _ => { val := (iq (wq ((a0.items.length : Int) - (1 : Int)))) }⟩, ⟨2, 55, Unit, fun _ => { val := (bool (decide (u54 < (wq ((a0.items.length : Int) - (1 : Int)))))) }⟩, ⟨3, 56, Unit, fun _ => { val := (bool false) }⟩, ⟨4, 57, Unit, fun _ => { val := undef }⟩, ⟨5, 58, Unit, fun _ => { val := undef }⟩, ⟨6, 59, Unit, fun _ => { val := undef }⟩, ⟨7, 60, Unit, fun _ => { val := undef }⟩, ⟨8, 61, Unit, fun _ => { val := undef }⟩, ⟨9, 62, Unit, fun _ => { val := undef }⟩, ⟨10, 63, Unit, fun _ => { val := undef }⟩, ⟨11, 64, Unit, fun _ => { val := undef }⟩, ⟨12, 65, Unit, fun _ => { val := undef }⟩, ⟨13, 66, Unit, fun _ => { val := undef }⟩, ⟨14, 67, Unit, fun _ => { val := undef }⟩, ⟨15, 68, Unit, fun _ => { val := undef }⟩, ⟨16, 69, Unit, fun _ => { val := undef }⟩, ⟨17, 70, Unit, fun _ => { val := undef }⟩, ⟨18, 71, Unit, fun _ => { val := undef }⟩, ⟨19, 72, Unit, fun _ => { val := undef }⟩, ⟨20, 73, Unit, fun _ => { val := undef }⟩, ⟨21, 74, Unit, fun _ => { val := undef }⟩] [] rfl rfl rfl (by kernel_rfl) rfl rfl rfl ⟨⟨_, rfl, [], rfl, by
 intro X_ Y_ F_ K_ hK_
 refine al_show (m := Mem.plus (memOf w0 Z0 [(oBox bx0 143 [v0_0, (fq 88)]), (oRow v0_0 138 tyS_huff_tree a0.items)] [(oRow s20 138 tyS_huff_tree l21x0_0), (oBox bx0 143 [s20, (fq 88)]), (oBox g1 138 [(iq (0 : Int)), (iq (0 : Int)), nS]), (oBox g8 138 [(iq u2.weight), (iq u2.least), s6])] [(fDat (tyList tq) [s6] u2.symbols), (fDat tyS_huff_tree [(iq u9.weight), (iq u9.least), s13] u9), (fDat tyS_huff_tree [(iq u2.weight), (iq u2.least), s6] u2)]) X_ Y_) (S := over (tab [(0, (pq bx0)), (2, (pq g1)), (3, (pq g8)), (4, (iq (wq ((a0.items.length : Int) - (1 : Int))))), (5, (iq l21i5)), (6, (iq l48i6)), (8, (iq u54)), (49, (ag (cA2i64 (A2i64.mk (wq ((wq ((2 : Int) * l21i5)) + (1 : Int))) (wq ((wq ((2 : Int) * l21i5)) + (2 : Int))))))), (50, (iq l48i50))]) F_) ?_
 refine al_mv rfl rfl ?_
 refine al_nil ?_
 exact fr_fin hK_ ()⟩, ⟨_, rfl, [], rfl, by
 intro X_ Y_ F_ K_ hK_
 refine al_show (m := Mem.plus (memOf w0 Z0 [(oBox bx0 143 [v0_0, (fq 88)]), (oRow v0_0 138 tyS_huff_tree a0.items)] [(oRow s20 138 tyS_huff_tree l21x0_0), (oBox bx0 143 [s20, (fq 88)]), (oBox g1 138 [(iq (0 : Int)), (iq (0 : Int)), nS]), (oBox g8 138 [(iq u2.weight), (iq u2.least), s6])] [(fDat (tyList tq) [s6] u2.symbols), (fDat tyS_huff_tree [(iq u9.weight), (iq u9.least), s13] u9), (fDat tyS_huff_tree [(iq u2.weight), (iq u2.least), s6] u2)]) X_ Y_) (S := over (tab [(0, (pq bx0)), (2, (pq g1)), (3, (pq g8)), (4, (iq (wq ((a0.items.length : Int) - (1 : Int))))), (5, (iq l21i5)), (6, (iq l48i6)), (8, (iq u54)), (49, (ag (cA2i64 (A2i64.mk (wq ((wq ((2 : Int) * l21i5)) + (1 : Int))) (wq ((wq ((2 : Int) * l21i5)) + (2 : Int))))))), (50, (iq l48i50))]) F_) ?_
 refine al_mv rfl rfl ?_
 refine al_nil ?_
 exact fr_fin hK_ ()⟩, ⟨_, rfl, [0, 1], rfl, by
 intro _
 intro _
 intro X_ Y_ F_ K_ hK_
 refine al_show (m := Mem.plus (memOf w0 Z0 [(oBox bx0 143 [v0_0, (fq 88)]), (oRow v0_0 138 tyS_huff_tree a0.items)] [(oRow s20 138 tyS_huff_tree l21x0_0), (oBox bx0 143 [s20, (fq 88)]), (oBox g1 138 [(iq (0 : Int)), (iq (0 : Int)), nS]), (oBox g8 138 [(iq u2.weight), (iq u2.least), s6])] [(fDat (tyList tq) [s6] u2.symbols), (fDat tyS_huff_tree [(iq u9.weight), (iq u9.least), s13] u9), (fDat tyS_huff_tree [(iq u2.weight), (iq u2.least), s6] u2)]) X_ Y_) (S := over (put (put (tab [(0, (pq bx0)), (2, (pq g1)), (3, (pq g8)), (4, (iq (wq ((a0.items.length : Int) - (1 : Int))))), (5, (iq l21i5)), (6, (iq l48i6)), (8, (iq u54)), (49, (ag (cA2i64 (A2i64.mk (wq ((wq ((2 : Int) * l21i5)) + (1 : Int))) (wq ((wq ((2 : Int) * l21i5)) + (2 : Int))))))), (50, (iq l48i50))]) 53 (iq u54)) 54 (iq (wq ((a0.items.length : Int) - (1 : Int))))) F_) ?_
 refine al_in rfl rfl rfl rfl ?_
 refine al_nil ?_
 exact fr_fin hK_ ()⟩, ⟨_, rfl, [2], rfl, by
 intro _
 intro X_ Y_ F_ K_ hK_
 refine al_show (m := Mem.plus (memOf w0 Z0 [(oBox bx0 143 [v0_0, (fq 88)]), (oRow v0_0 138 tyS_huff_tree a0.items)] [(oRow s20 138 tyS_huff_tree l21x0_0), (oBox bx0 143 [s20, (fq 88)]), (oBox g1 138 [(iq (0 : Int)), (iq (0 : Int)), nS]), (oBox g8 138 [(iq u2.weight), (iq u2.least), s6])] [(fDat (tyList tq) [s6] u2.symbols), (fDat tyS_huff_tree [(iq u9.weight), (iq u9.least), s13] u9), (fDat tyS_huff_tree [(iq u2.weight), (iq u2.least), s6] u2)]) X_ Y_) (S := over (put (tab [(0, (pq bx0)), (2, (pq g1)), (3, (pq g8)), (4, (iq (wq ((a0.items.length : Int) - (1 : Int))))), (5, (iq l21i5)), (6, (iq l48i6)), (8, (iq u54)), (49, (ag (cA2i64 (A2i64.mk (wq ((wq ((2 : Int) * l21i5)) + (1 : Int))) (wq ((wq ((2 : Int) * l21i5)) + (2 : Int))))))), (50, (iq l48i50))]) 55 (bool (decide (u54 < (wq ((a0.items.length : Int) - (1 : Int))))))) F_) ?_
 refine al_val (ov_cast (by first | rw [hb59] | rfl) (ov_move rfl rfl)) ?_
 refine al_nil ?_
 exact fr_fin hK_ ()⟩, ⟨_, rfl, [3], rfl, by
 intro _
 intro X_ Y_ F_ K_ hK_
 refine al_show (m := Mem.plus (memOf w0 Z0 [(oBox bx0 143 [v0_0, (fq 88)]), (oRow v0_0 138 tyS_huff_tree a0.items)] [(oRow s20 138 tyS_huff_tree l21x0_0), (oBox bx0 143 [s20, (fq 88)]), (oBox g1 138 [(iq (0 : Int)), (iq (0 : Int)), nS]), (oBox g8 138 [(iq u2.weight), (iq u2.least), s6])] [(fDat (tyList tq) [s6] u2.symbols), (fDat tyS_huff_tree [(iq u9.weight), (iq u9.least), s13] u9), (fDat tyS_huff_tree [(iq u2.weight), (iq u2.least), s6] u2)]) X_ Y_) (S := over (put (tab [(0, (pq bx0)), (2, (pq g1)), (3, (pq g8)), (4, (iq (wq ((a0.items.length : Int) - (1 : Int))))), (5, (iq l21i5)), (6, (iq l48i6)), (8, (iq u54)), (49, (ag (cA2i64 (A2i64.mk (wq ((wq ((2 : Int) * l21i5)) + (1 : Int))) (wq ((wq ((2 : Int) * l21i5)) + (2 : Int))))))), (50, (iq l48i50))]) 56 (bool false)) F_) ?_
 refine al_skip ?_
 refine al_nil ?_
 exact fr_fin hK_ ()⟩, ⟨_, rfl, [3, 4], rfl, by
 intro _
 intro _
 intro X_ Y_ F_ K_ hK_
 refine al_show (m := Mem.plus (memOf w0 Z0 [(oBox bx0 143 [v0_0, (fq 88)]), (oRow v0_0 138 tyS_huff_tree a0.items)] [(oRow s20 138 tyS_huff_tree l21x0_0), (oBox bx0 143 [s20, (fq 88)]), (oBox g1 138 [(iq (0 : Int)), (iq (0 : Int)), nS]), (oBox g8 138 [(iq u2.weight), (iq u2.least), s6])] [(fDat (tyList tq) [s6] u2.symbols), (fDat tyS_huff_tree [(iq u9.weight), (iq u9.least), s13] u9), (fDat tyS_huff_tree [(iq u2.weight), (iq u2.least), s6] u2)]) X_ Y_) (S := over (put (put (tab [(0, (pq bx0)), (2, (pq g1)), (3, (pq g8)), (4, (iq (wq ((a0.items.length : Int) - (1 : Int))))), (5, (iq l21i5)), (6, (iq l48i6)), (8, (iq u54)), (49, (ag (cA2i64 (A2i64.mk (wq ((wq ((2 : Int) * l21i5)) + (1 : Int))) (wq ((wq ((2 : Int) * l21i5)) + (2 : Int))))))), (50, (iq l48i50))]) 56 (bool false)) 57 undef) F_) ?_
 refine al_skip ?_
 refine al_nil ?_
 exact fr_fin hK_ ()⟩, ⟨_, rfl, [3, 5], rfl, by
 intro _
 intro _
 intro X_ Y_ F_ K_ hK_
 refine al_show (m := Mem.plus (memOf w0 Z0 [(oBox bx0 143 [v0_0, (fq 88)]), (oRow v0_0 138 tyS_huff_tree a0.items)] [(oRow s20 138 tyS_huff_tree l21x0_0), (oBox bx0 143 [s20, (fq 88)]), (oBox g1 138 [(iq (0 : Int)), (iq (0 : Int)), nS]), (oBox g8 138 [(iq u2.weight), (iq u2.least), s6])] [(fDat (tyList tq) [s6] u2.symbols), (fDat tyS_huff_tree [(iq u9.weight), (iq u9.least), s13] u9), (fDat tyS_huff_tree [(iq u2.weight), (iq u2.least), s6] u2)]) X_ Y_) (S := over (put (put (tab [(0, (pq bx0)), (2, (pq g1)), (3, (pq g8)), (4, (iq (wq ((a0.items.length : Int) - (1 : Int))))), (5, (iq l21i5)), (6, (iq l48i6)), (8, (iq u54)), (49, (ag (cA2i64 (A2i64.mk (wq ((wq ((2 : Int) * l21i5)) + (1 : Int))) (wq ((wq ((2 : Int) * l21i5)) + (2 : Int))))))), (50, (iq l48i50))]) 56 (bool false)) 58 undef) F_) ?_
 refine al_skip ?_
 refine al_nil ?_
 exact fr_fin hK_ ()⟩, ⟨_, rfl, [3, 6], rfl, by
 intro _
 intro _
 intro X_ Y_ F_ K_ hK_
 refine al_show (m := Mem.plus (memOf w0 Z0 [(oBox bx0 143 [v0_0, (fq 88)]), (oRow v0_0 138 tyS_huff_tree a0.items)] [(oRow s20 138 tyS_huff_tree l21x0_0), (oBox bx0 143 [s20, (fq 88)]), (oBox g1 138 [(iq (0 : Int)), (iq (0 : Int)), nS]), (oBox g8 138 [(iq u2.weight), (iq u2.least), s6])] [(fDat (tyList tq) [s6] u2.symbols), (fDat tyS_huff_tree [(iq u9.weight), (iq u9.least), s13] u9), (fDat tyS_huff_tree [(iq u2.weight), (iq u2.least), s6] u2)]) X_ Y_) (S := over (put (put (tab [(0, (pq bx0)), (2, (pq g1)), (3, (pq g8)), (4, (iq (wq ((a0.items.length : Int) - (1 : Int))))), (5, (iq l21i5)), (6, (iq l48i6)), (8, (iq u54)), (49, (ag (cA2i64 (A2i64.mk (wq ((wq ((2 : Int) * l21i5)) + (1 : Int))) (wq ((wq ((2 : Int) * l21i5)) + (2 : Int))))))), (50, (iq l48i50))]) 56 (bool false)) 59 undef) F_) ?_
 refine al_skip ?_
 refine al_nil ?_
 exact fr_fin hK_ ()⟩, ⟨_, rfl, [3], rfl, by
 intro _
 intro X_ Y_ F_ K_ hK_
 refine al_show (m := Mem.plus (memOf w0 Z0 [(oBox bx0 143 [v0_0, (fq 88)]), (oRow v0_0 138 tyS_huff_tree a0.items)] [(oRow s20 138 tyS_huff_tree l21x0_0), (oBox bx0 143 [s20, (fq 88)]), (oBox g1 138 [(iq (0 : Int)), (iq (0 : Int)), nS]), (oBox g8 138 [(iq u2.weight), (iq u2.least), s6])] [(fDat (tyList tq) [s6] u2.symbols), (fDat tyS_huff_tree [(iq u9.weight), (iq u9.least), s13] u9), (fDat tyS_huff_tree [(iq u2.weight), (iq u2.least), s6] u2)]) X_ Y_) (S := over (put (tab [(0, (pq bx0)), (2, (pq g1)), (3, (pq g8)), (4, (iq (wq ((a0.items.length : Int) - (1 : Int))))), (5, (iq l21i5)), (6, (iq l48i6)), (8, (iq u54)), (49, (ag (cA2i64 (A2i64.mk (wq ((wq ((2 : Int) * l21i5)) + (1 : Int))) (wq ((wq ((2 : Int) * l21i5)) + (2 : Int))))))), (50, (iq l48i50))]) 56 (bool false)) F_) ?_
 refine al_skip ?_
 refine al_nil ?_
 exact fr_fin hK_ ()⟩, ⟨_, rfl, [3, 8], rfl, by
 intro _
 intro _
 intro X_ Y_ F_ K_ hK_
 refine al_show (m := Mem.plus (memOf w0 Z0 [(oBox bx0 143 [v0_0, (fq 88)]), (oRow v0_0 138 tyS_huff_tree a0.items)] [(oRow s20 138 tyS_huff_tree l21x0_0), (oBox bx0 143 [s20, (fq 88)]), (oBox g1 138 [(iq (0 : Int)), (iq (0 : Int)), nS]), (oBox g8 138 [(iq u2.weight), (iq u2.least), s6])] [(fDat (tyList tq) [s6] u2.symbols), (fDat tyS_huff_tree [(iq u9.weight), (iq u9.least), s13] u9), (fDat tyS_huff_tree [(iq u2.weight), (iq u2.least), s6] u2)]) X_ Y_) (S := over (put (put (tab [(0, (pq bx0)), (2, (pq g1)), (3, (pq g8)), (4, (iq (wq ((a0.items.length : Int) - (1 : Int))))), (5, (iq l21i5)), (6, (iq l48i6)), (8, (iq u54)), (49, (ag (cA2i64 (A2i64.mk (wq ((wq ((2 : Int) * l21i5)) + (1 : Int))) (wq ((wq ((2 : Int) * l21i5)) + (2 : Int))))))), (50, (iq l48i50))]) 56 (bool false)) 61 undef) F_) ?_
 refine al_skip ?_
 refine al_nil ?_
 exact fr_fin hK_ ()⟩, ⟨_, rfl, [3, 9], rfl, by
 intro _
 intro _
 intro X_ Y_ F_ K_ hK_
 refine al_show (m := Mem.plus (memOf w0 Z0 [(oBox bx0 143 [v0_0, (fq 88)]), (oRow v0_0 138 tyS_huff_tree a0.items)] [(oRow s20 138 tyS_huff_tree l21x0_0), (oBox bx0 143 [s20, (fq 88)]), (oBox g1 138 [(iq (0 : Int)), (iq (0 : Int)), nS]), (oBox g8 138 [(iq u2.weight), (iq u2.least), s6])] [(fDat (tyList tq) [s6] u2.symbols), (fDat tyS_huff_tree [(iq u9.weight), (iq u9.least), s13] u9), (fDat tyS_huff_tree [(iq u2.weight), (iq u2.least), s6] u2)]) X_ Y_) (S := over (put (put (tab [(0, (pq bx0)), (2, (pq g1)), (3, (pq g8)), (4, (iq (wq ((a0.items.length : Int) - (1 : Int))))), (5, (iq l21i5)), (6, (iq l48i6)), (8, (iq u54)), (49, (ag (cA2i64 (A2i64.mk (wq ((wq ((2 : Int) * l21i5)) + (1 : Int))) (wq ((wq ((2 : Int) * l21i5)) + (2 : Int))))))), (50, (iq l48i50))]) 56 (bool false)) 62 undef) F_) ?_
 refine al_skip ?_
 refine al_nil ?_
 exact fr_fin hK_ ()⟩, ⟨_, rfl, [3, 10], rfl, by
 intro _
 intro _
 intro X_ Y_ F_ K_ hK_
 refine al_show (m := Mem.plus (memOf w0 Z0 [(oBox bx0 143 [v0_0, (fq 88)]), (oRow v0_0 138 tyS_huff_tree a0.items)] [(oRow s20 138 tyS_huff_tree l21x0_0), (oBox bx0 143 [s20, (fq 88)]), (oBox g1 138 [(iq (0 : Int)), (iq (0 : Int)), nS]), (oBox g8 138 [(iq u2.weight), (iq u2.least), s6])] [(fDat (tyList tq) [s6] u2.symbols), (fDat tyS_huff_tree [(iq u9.weight), (iq u9.least), s13] u9), (fDat tyS_huff_tree [(iq u2.weight), (iq u2.least), s6] u2)]) X_ Y_) (S := over (put (put (tab [(0, (pq bx0)), (2, (pq g1)), (3, (pq g8)), (4, (iq (wq ((a0.items.length : Int) - (1 : Int))))), (5, (iq l21i5)), (6, (iq l48i6)), (8, (iq u54)), (49, (ag (cA2i64 (A2i64.mk (wq ((wq ((2 : Int) * l21i5)) + (1 : Int))) (wq ((wq ((2 : Int) * l21i5)) + (2 : Int))))))), (50, (iq l48i50))]) 56 (bool false)) 63 undef) F_) ?_
 refine al_skip ?_
 refine al_nil ?_
 exact fr_fin hK_ ()⟩, ⟨_, rfl, [3], rfl, by
 intro _
 intro X_ Y_ F_ K_ hK_
 refine al_show (m := Mem.plus (memOf w0 Z0 [(oBox bx0 143 [v0_0, (fq 88)]), (oRow v0_0 138 tyS_huff_tree a0.items)] [(oRow s20 138 tyS_huff_tree l21x0_0), (oBox bx0 143 [s20, (fq 88)]), (oBox g1 138 [(iq (0 : Int)), (iq (0 : Int)), nS]), (oBox g8 138 [(iq u2.weight), (iq u2.least), s6])] [(fDat (tyList tq) [s6] u2.symbols), (fDat tyS_huff_tree [(iq u9.weight), (iq u9.least), s13] u9), (fDat tyS_huff_tree [(iq u2.weight), (iq u2.least), s6] u2)]) X_ Y_) (S := over (put (tab [(0, (pq bx0)), (2, (pq g1)), (3, (pq g8)), (4, (iq (wq ((a0.items.length : Int) - (1 : Int))))), (5, (iq l21i5)), (6, (iq l48i6)), (8, (iq u54)), (49, (ag (cA2i64 (A2i64.mk (wq ((wq ((2 : Int) * l21i5)) + (1 : Int))) (wq ((wq ((2 : Int) * l21i5)) + (2 : Int))))))), (50, (iq l48i50))]) 56 (bool false)) F_) ?_
 refine al_skip ?_
 refine al_nil ?_
 exact fr_fin hK_ ()⟩, ⟨_, rfl, [3, 11, 12], rfl, by
 intro _
 intro _
 intro _
 intro X_ Y_ F_ K_ hK_
 refine al_show (m := Mem.plus (memOf w0 Z0 [(oBox bx0 143 [v0_0, (fq 88)]), (oRow v0_0 138 tyS_huff_tree a0.items)] [(oRow s20 138 tyS_huff_tree l21x0_0), (oBox bx0 143 [s20, (fq 88)]), (oBox g1 138 [(iq (0 : Int)), (iq (0 : Int)), nS]), (oBox g8 138 [(iq u2.weight), (iq u2.least), s6])] [(fDat (tyList tq) [s6] u2.symbols), (fDat tyS_huff_tree [(iq u9.weight), (iq u9.least), s13] u9), (fDat tyS_huff_tree [(iq u2.weight), (iq u2.least), s6] u2)]) X_ Y_) (S := over (put (put (put (tab [(0, (pq bx0)), (2, (pq g1)), (3, (pq g8)), (4, (iq (wq ((a0.items.length : Int) - (1 : Int))))), (5, (iq l21i5)), (6, (iq l48i6)), (8, (iq u54)), (49, (ag (cA2i64 (A2i64.mk (wq ((wq ((2 : Int) * l21i5)) + (1 : Int))) (wq ((wq ((2 : Int) * l21i5)) + (2 : Int))))))), (50, (iq l48i50))]) 56 (bool false)) 64 undef) 65 undef) F_) ?_
 refine al_skip ?_
 refine al_nil ?_
 exact fr_fin hK_ ()⟩, ⟨_, rfl, [3, 13], rfl, by
 intro _
 intro _
 intro X_ Y_ F_ K_ hK_
 refine al_show (m := Mem.plus (memOf w0 Z0 [(oBox bx0 143 [v0_0, (fq 88)]), (oRow v0_0 138 tyS_huff_tree a0.items)] [(oRow s20 138 tyS_huff_tree l21x0_0), (oBox bx0 143 [s20, (fq 88)]), (oBox g1 138 [(iq (0 : Int)), (iq (0 : Int)), nS]), (oBox g8 138 [(iq u2.weight), (iq u2.least), s6])] [(fDat (tyList tq) [s6] u2.symbols), (fDat tyS_huff_tree [(iq u9.weight), (iq u9.least), s13] u9), (fDat tyS_huff_tree [(iq u2.weight), (iq u2.least), s6] u2)]) X_ Y_) (S := over (put (put (tab [(0, (pq bx0)), (2, (pq g1)), (3, (pq g8)), (4, (iq (wq ((a0.items.length : Int) - (1 : Int))))), (5, (iq l21i5)), (6, (iq l48i6)), (8, (iq u54)), (49, (ag (cA2i64 (A2i64.mk (wq ((wq ((2 : Int) * l21i5)) + (1 : Int))) (wq ((wq ((2 : Int) * l21i5)) + (2 : Int))))))), (50, (iq l48i50))]) 56 (bool false)) 66 undef) F_) ?_
 refine al_skip ?_
 refine al_nil ?_
 exact fr_fin hK_ ()⟩, ⟨_, rfl, [3], rfl, by
 intro _
 intro X_ Y_ F_ K_ hK_
 refine al_show (m := Mem.plus (memOf w0 Z0 [(oBox bx0 143 [v0_0, (fq 88)]), (oRow v0_0 138 tyS_huff_tree a0.items)] [(oRow s20 138 tyS_huff_tree l21x0_0), (oBox bx0 143 [s20, (fq 88)]), (oBox g1 138 [(iq (0 : Int)), (iq (0 : Int)), nS]), (oBox g8 138 [(iq u2.weight), (iq u2.least), s6])] [(fDat (tyList tq) [s6] u2.symbols), (fDat tyS_huff_tree [(iq u9.weight), (iq u9.least), s13] u9), (fDat tyS_huff_tree [(iq u2.weight), (iq u2.least), s6] u2)]) X_ Y_) (S := over (put (tab [(0, (pq bx0)), (2, (pq g1)), (3, (pq g8)), (4, (iq (wq ((a0.items.length : Int) - (1 : Int))))), (5, (iq l21i5)), (6, (iq l48i6)), (8, (iq u54)), (49, (ag (cA2i64 (A2i64.mk (wq ((wq ((2 : Int) * l21i5)) + (1 : Int))) (wq ((wq ((2 : Int) * l21i5)) + (2 : Int))))))), (50, (iq l48i50))]) 56 (bool false)) F_) ?_
 refine al_skip ?_
 refine al_nil ?_
 exact fr_fin hK_ ()⟩, ⟨_, rfl, [3, 15], rfl, by
 intro _
 intro _
 intro X_ Y_ F_ K_ hK_
 refine al_show (m := Mem.plus (memOf w0 Z0 [(oBox bx0 143 [v0_0, (fq 88)]), (oRow v0_0 138 tyS_huff_tree a0.items)] [(oRow s20 138 tyS_huff_tree l21x0_0), (oBox bx0 143 [s20, (fq 88)]), (oBox g1 138 [(iq (0 : Int)), (iq (0 : Int)), nS]), (oBox g8 138 [(iq u2.weight), (iq u2.least), s6])] [(fDat (tyList tq) [s6] u2.symbols), (fDat tyS_huff_tree [(iq u9.weight), (iq u9.least), s13] u9), (fDat tyS_huff_tree [(iq u2.weight), (iq u2.least), s6] u2)]) X_ Y_) (S := over (put (put (tab [(0, (pq bx0)), (2, (pq g1)), (3, (pq g8)), (4, (iq (wq ((a0.items.length : Int) - (1 : Int))))), (5, (iq l21i5)), (6, (iq l48i6)), (8, (iq u54)), (49, (ag (cA2i64 (A2i64.mk (wq ((wq ((2 : Int) * l21i5)) + (1 : Int))) (wq ((wq ((2 : Int) * l21i5)) + (2 : Int))))))), (50, (iq l48i50))]) 56 (bool false)) 68 undef) F_) ?_
 refine al_skip ?_
 refine al_nil ?_
 exact fr_fin hK_ ()⟩, ⟨_, rfl, [3, 16], rfl, by
 intro _
 intro _
 intro X_ Y_ F_ K_ hK_
 refine al_show (m := Mem.plus (memOf w0 Z0 [(oBox bx0 143 [v0_0, (fq 88)]), (oRow v0_0 138 tyS_huff_tree a0.items)] [(oRow s20 138 tyS_huff_tree l21x0_0), (oBox bx0 143 [s20, (fq 88)]), (oBox g1 138 [(iq (0 : Int)), (iq (0 : Int)), nS]), (oBox g8 138 [(iq u2.weight), (iq u2.least), s6])] [(fDat (tyList tq) [s6] u2.symbols), (fDat tyS_huff_tree [(iq u9.weight), (iq u9.least), s13] u9), (fDat tyS_huff_tree [(iq u2.weight), (iq u2.least), s6] u2)]) X_ Y_) (S := over (put (put (tab [(0, (pq bx0)), (2, (pq g1)), (3, (pq g8)), (4, (iq (wq ((a0.items.length : Int) - (1 : Int))))), (5, (iq l21i5)), (6, (iq l48i6)), (8, (iq u54)), (49, (ag (cA2i64 (A2i64.mk (wq ((wq ((2 : Int) * l21i5)) + (1 : Int))) (wq ((wq ((2 : Int) * l21i5)) + (2 : Int))))))), (50, (iq l48i50))]) 56 (bool false)) 69 undef) F_) ?_
 refine al_skip ?_
 refine al_nil ?_
 exact fr_fin hK_ ()⟩, ⟨_, rfl, [3, 17], rfl, by
 intro _
 intro _
 intro X_ Y_ F_ K_ hK_
 refine al_show (m := Mem.plus (memOf w0 Z0 [(oBox bx0 143 [v0_0, (fq 88)]), (oRow v0_0 138 tyS_huff_tree a0.items)] [(oRow s20 138 tyS_huff_tree l21x0_0), (oBox bx0 143 [s20, (fq 88)]), (oBox g1 138 [(iq (0 : Int)), (iq (0 : Int)), nS]), (oBox g8 138 [(iq u2.weight), (iq u2.least), s6])] [(fDat (tyList tq) [s6] u2.symbols), (fDat tyS_huff_tree [(iq u9.weight), (iq u9.least), s13] u9), (fDat tyS_huff_tree [(iq u2.weight), (iq u2.least), s6] u2)]) X_ Y_) (S := over (put (put (tab [(0, (pq bx0)), (2, (pq g1)), (3, (pq g8)), (4, (iq (wq ((a0.items.length : Int) - (1 : Int))))), (5, (iq l21i5)), (6, (iq l48i6)), (8, (iq u54)), (49, (ag (cA2i64 (A2i64.mk (wq ((wq ((2 : Int) * l21i5)) + (1 : Int))) (wq ((wq ((2 : Int) * l21i5)) + (2 : Int))))))), (50, (iq l48i50))]) 56 (bool false)) 70 undef) F_) ?_
 refine al_skip ?_
 refine al_nil ?_
 exact fr_fin hK_ ()⟩, ⟨_, rfl, [3], rfl, by
 intro _
 intro X_ Y_ F_ K_ hK_
 refine al_show (m := Mem.plus (memOf w0 Z0 [(oBox bx0 143 [v0_0, (fq 88)]), (oRow v0_0 138 tyS_huff_tree a0.items)] [(oRow s20 138 tyS_huff_tree l21x0_0), (oBox bx0 143 [s20, (fq 88)]), (oBox g1 138 [(iq (0 : Int)), (iq (0 : Int)), nS]), (oBox g8 138 [(iq u2.weight), (iq u2.least), s6])] [(fDat (tyList tq) [s6] u2.symbols), (fDat tyS_huff_tree [(iq u9.weight), (iq u9.least), s13] u9), (fDat tyS_huff_tree [(iq u2.weight), (iq u2.least), s6] u2)]) X_ Y_) (S := over (put (tab [(0, (pq bx0)), (2, (pq g1)), (3, (pq g8)), (4, (iq (wq ((a0.items.length : Int) - (1 : Int))))), (5, (iq l21i5)), (6, (iq l48i6)), (8, (iq u54)), (49, (ag (cA2i64 (A2i64.mk (wq ((wq ((2 : Int) * l21i5)) + (1 : Int))) (wq ((wq ((2 : Int) * l21i5)) + (2 : Int))))))), (50, (iq l48i50))]) 56 (bool false)) F_) ?_
 refine al_skip ?_
 refine al_nil ?_
 exact fr_fin hK_ ()⟩, ⟨_, rfl, [3, 18, 19], rfl, by
 intro _
 intro _
 intro _
 intro X_ Y_ F_ K_ hK_
 refine al_show (m := Mem.plus (memOf w0 Z0 [(oBox bx0 143 [v0_0, (fq 88)]), (oRow v0_0 138 tyS_huff_tree a0.items)] [(oRow s20 138 tyS_huff_tree l21x0_0), (oBox bx0 143 [s20, (fq 88)]), (oBox g1 138 [(iq (0 : Int)), (iq (0 : Int)), nS]), (oBox g8 138 [(iq u2.weight), (iq u2.least), s6])] [(fDat (tyList tq) [s6] u2.symbols), (fDat tyS_huff_tree [(iq u9.weight), (iq u9.least), s13] u9), (fDat tyS_huff_tree [(iq u2.weight), (iq u2.least), s6] u2)]) X_ Y_) (S := over (put (put (put (tab [(0, (pq bx0)), (2, (pq g1)), (3, (pq g8)), (4, (iq (wq ((a0.items.length : Int) - (1 : Int))))), (5, (iq l21i5)), (6, (iq l48i6)), (8, (iq u54)), (49, (ag (cA2i64 (A2i64.mk (wq ((wq ((2 : Int) * l21i5)) + (1 : Int))) (wq ((wq ((2 : Int) * l21i5)) + (2 : Int))))))), (50, (iq l48i50))]) 56 (bool false)) 71 undef) 72 undef) F_) ?_
 refine al_skip ?_
 refine al_nil ?_
 exact fr_fin hK_ ()⟩, ⟨_, rfl, [3, 20], rfl, by
 intro _
 intro _
 intro X_ Y_ F_ K_ hK_
 refine al_show (m := Mem.plus (memOf w0 Z0 [(oBox bx0 143 [v0_0, (fq 88)]), (oRow v0_0 138 tyS_huff_tree a0.items)] [(oRow s20 138 tyS_huff_tree l21x0_0), (oBox bx0 143 [s20, (fq 88)]), (oBox g1 138 [(iq (0 : Int)), (iq (0 : Int)), nS]), (oBox g8 138 [(iq u2.weight), (iq u2.least), s6])] [(fDat (tyList tq) [s6] u2.symbols), (fDat tyS_huff_tree [(iq u9.weight), (iq u9.least), s13] u9), (fDat tyS_huff_tree [(iq u2.weight), (iq u2.least), s6] u2)]) X_ Y_) (S := over (put (put (tab [(0, (pq bx0)), (2, (pq g1)), (3, (pq g8)), (4, (iq (wq ((a0.items.length : Int) - (1 : Int))))), (5, (iq l21i5)), (6, (iq l48i6)), (8, (iq u54)), (49, (ag (cA2i64 (A2i64.mk (wq ((wq ((2 : Int) * l21i5)) + (1 : Int))) (wq ((wq ((2 : Int) * l21i5)) + (2 : Int))))))), (50, (iq l48i50))]) 56 (bool false)) 73 undef) F_) ?_
 refine al_skip ?_
 refine al_nil ?_
 exact fr_fin hK_ ()⟩, trivial⟩ ?_
      intro _
      intro _
      intro _
      intro _
      intro _
      intro _
      intro _
      intro _
      intro _
      intro _
      intro _
      intro _
      intro _
      intro _
      intro _
      intro _
      intro _
      intro _
      intro _
      intro _
      intro _
      intro _
      intro X_ Y_ F_ K_ hK_
      refine al_show (m := Mem.plus (memOf w0 Z0 [(oBox bx0 143 [v0_0, (fq 88)]), (oRow v0_0 138 tyS_huff_tree a0.items)] [(oRow s20 138 tyS_huff_tree l21x0_0), (oBox bx0 143 [s20, (fq 88)]), (oBox g1 138 [(iq (0 : Int)), (iq (0 : Int)), nS]), (oBox g8 138 [(iq u2.weight), (iq u2.least), s6])] [(fDat (tyList tq) [s6] u2.symbols), (fDat tyS_huff_tree [(iq u9.weight), (iq u9.least), s13] u9), (fDat tyS_huff_tree [(iq u2.weight), (iq u2.least), s6] u2)]) X_ Y_) (S := over (put (put (put (put (put (put (put (put (put (put (put (put (put (put (put (put (put (put (put (put (put (put (tab [(0, (pq bx0)), (2, (pq g1)), (3, (pq g8)), (4, (iq (wq ((a0.items.length : Int) - (1 : Int))))), (5, (iq l21i5)), (6, (iq l48i6)), (8, (iq u54)), (49, (ag (cA2i64 (A2i64.mk (wq ((wq ((2 : Int) * l21i5)) + (1 : Int))) (wq ((wq ((2 : Int) * l21i5)) + (2 : Int))))))), (50, (iq l48i50))]) 53 (iq u54)) 54 (iq (wq ((a0.items.length : Int) - (1 : Int))))) 55 (bool (decide (u54 < (wq ((a0.items.length : Int) - (1 : Int))))))) 56 (bool false)) 57 undef) 58 undef) 59 undef) 60 undef) 61 undef) 62 undef) 63 undef) 64 undef) 65 undef) 66 undef) 67 undef) 68 undef) 69 undef) 70 undef) 71 undef) 72 undef) 73 undef) 74 undef) F_) ?_
      refine al_skip ?_
      refine al_nil ?_
      refine aq_show (m := Mem.plus (memOf w0 Z0 [(oBox bx0 143 [v0_0, (fq 88)]), (oRow v0_0 138 tyS_huff_tree a0.items)] [(oRow s20 138 tyS_huff_tree l21x0_0), (oBox bx0 143 [s20, (fq 88)]), (oBox g1 138 [(iq (0 : Int)), (iq (0 : Int)), nS]), (oBox g8 138 [(iq u2.weight), (iq u2.least), s6])] [(fDat (tyList tq) [s6] u2.symbols), (fDat tyS_huff_tree [(iq u9.weight), (iq u9.least), s13] u9), (fDat tyS_huff_tree [(iq u2.weight), (iq u2.least), s6] u2)]) X_ Y_) ?_
      refine aq_next hK_ [0, 1, 2, 3] [0, 1, 2] [(0, (pq bx0)), (2, (pq g1)), (3, (pq g8)), (4, (iq (wq ((a0.items.length : Int) - (1 : Int))))), (5, (iq l21i5)), (6, (iq l48i6)), (8, (iq u54)), (49, (ag (cA2i64 (A2i64.mk (wq ((wq ((2 : Int) * l21i5)) + (1 : Int))) (wq ((wq ((2 : Int) * l21i5)) + (2 : Int))))))), (50, (iq l48i50)), (56, (bool false)), (75, undef)] [] [⟨23, 76, Unit, fun _ => { val := undef }⟩, ⟨24, 77, Unit, fun _ => { val := (bool false) }⟩] rfl rfl (by decide) rfl ⟨rfl, rfl, rfl, rfl, rfl, rfl, rfl, rfl, rfl, rfl, rfl, trivial⟩ trivial ?_
      clear hK_ K_ F_ X_ Y_
      refine ta_show (m := (memOf w0 Z0 [(oBox bx0 143 [v0_0, (fq 88)]), (oRow v0_0 138 tyS_huff_tree a0.items)] [(oRow s20 138 tyS_huff_tree l21x0_0), (oBox bx0 143 [s20, (fq 88)]), (oBox g1 138 [(iq (0 : Int)), (iq (0 : Int)), nS]), (oBox g8 138 [(iq u2.weight), (iq u2.least), s6])] [(fDat (tyList tq) [s6] u2.symbols), (fDat tyS_huff_tree [(iq u9.weight), (iq u9.least), s13] u9), (fDat tyS_huff_tree [(iq u2.weight), (iq u2.least), s6] u2)])) (S := (tab [(0, (pq bx0)), (2, (pq g1)), (3, (pq g8)), (4, (iq (wq ((a0.items.length : Int) - (1 : Int))))), (5, (iq l21i5)), (6, (iq l48i6)), (8, (iq u54)), (49, (ag (cA2i64 (A2i64.mk (wq ((wq ((2 : Int) * l21i5)) + (1 : Int))) (wq ((wq ((2 : Int) * l21i5)) + (2 : Int))))))), (50, (iq l48i50)), (56, (bool false)), (75, undef)])) ?_
      refine ta_end [23, 24] [76, 77] rfl rfl (by kernel_rfl) rfl ⟨⟨_, rfl, [], rfl, by
 intro X_ Y_ F_ K_ hK_
 refine al_show (m := Mem.plus (memOf w0 Z0 [(oBox bx0 143 [v0_0, (fq 88)]), (oRow v0_0 138 tyS_huff_tree a0.items)] [(oRow s20 138 tyS_huff_tree l21x0_0), (oBox bx0 143 [s20, (fq 88)]), (oBox g1 138 [(iq (0 : Int)), (iq (0 : Int)), nS]), (oBox g8 138 [(iq u2.weight), (iq u2.least), s6])] [(fDat (tyList tq) [s6] u2.symbols), (fDat tyS_huff_tree [(iq u9.weight), (iq u9.least), s13] u9), (fDat tyS_huff_tree [(iq u2.weight), (iq u2.least), s6] u2)]) X_ Y_) (S := over (tab [(0, (pq bx0)), (2, (pq g1)), (3, (pq g8)), (4, (iq (wq ((a0.items.length : Int) - (1 : Int))))), (5, (iq l21i5)), (6, (iq l48i6)), (8, (iq u54)), (49, (ag (cA2i64 (A2i64.mk (wq ((wq ((2 : Int) * l21i5)) + (1 : Int))) (wq ((wq ((2 : Int) * l21i5)) + (2 : Int))))))), (50, (iq l48i50)), (56, (bool false)), (75, undef)]) F_) ?_
 refine al_skip ?_
 refine al_nil ?_
 exact fr_fin hK_ ()⟩, ⟨_, rfl, [0], rfl, by
 intro _
 intro X_ Y_ F_ K_ hK_
 refine al_show (m := Mem.plus (memOf w0 Z0 [(oBox bx0 143 [v0_0, (fq 88)]), (oRow v0_0 138 tyS_huff_tree a0.items)] [(oRow s20 138 tyS_huff_tree l21x0_0), (oBox bx0 143 [s20, (fq 88)]), (oBox g1 138 [(iq (0 : Int)), (iq (0 : Int)), nS]), (oBox g8 138 [(iq u2.weight), (iq u2.least), s6])] [(fDat (tyList tq) [s6] u2.symbols), (fDat tyS_huff_tree [(iq u9.weight), (iq u9.least), s13] u9), (fDat tyS_huff_tree [(iq u2.weight), (iq u2.least), s6] u2)]) X_ Y_) (S := over (put (tab [(0, (pq bx0)), (2, (pq g1)), (3, (pq g8)), (4, (iq (wq ((a0.items.length : Int) - (1 : Int))))), (5, (iq l21i5)), (6, (iq l48i6)), (8, (iq u54)), (49, (ag (cA2i64 (A2i64.mk (wq ((wq ((2 : Int) * l21i5)) + (1 : Int))) (wq ((wq ((2 : Int) * l21i5)) + (2 : Int))))))), (50, (iq l48i50)), (56, (bool false)), (75, undef)]) 76 undef) F_) ?_
 refine al_val (ov_pick_f rfl rfl rfl) ?_
 refine al_nil ?_
 exact fr_fin hK_ ()⟩, trivial⟩ ?_
      intro _
      intro _
      refine aq_show (m := (memOf w0 Z0 [(oBox bx0 143 [v0_0, (fq 88)]), (oRow v0_0 138 tyS_huff_tree a0.items)] [(oRow s20 138 tyS_huff_tree l21x0_0), (oBox bx0 143 [s20, (fq 88)]), (oBox g1 138 [(iq (0 : Int)), (iq (0 : Int)), nS]), (oBox g8 138 [(iq u2.weight), (iq u2.least), s6])] [(fDat (tyList tq) [s6] u2.symbols), (fDat tyS_huff_tree [(iq u9.weight), (iq u9.least), s13] u9), (fDat tyS_huff_tree [(iq u2.weight), (iq u2.least), s6] u2)])) (S := (put (put (tab [(0, (pq bx0)), (2, (pq g1)), (3, (pq g8)), (4, (iq (wq ((a0.items.length : Int) - (1 : Int))))), (5, (iq l21i5)), (6, (iq l48i6)), (8, (iq u54)), (49, (ag (cA2i64 (A2i64.mk (wq ((wq ((2 : Int) * l21i5)) + (1 : Int))) (wq ((wq ((2 : Int) * l21i5)) + (2 : Int))))))), (50, (iq l48i50)), (56, (bool false)), (75, undef)]) 76 undef) 77 (bool false))) ?_
      exact aq_join false h (fun w a hm hs => norm hm hs [0, 1, 2, 3] [0, 1, 2] [(0, (pq bx0)), (2, (pq g1)), (3, (pq g8)), (4, (iq (wq ((a0.items.length : Int) - (1 : Int))))), (5, (iq l21i5)), (6, (iq l48i6)), (8, (iq u54)), (49, (ag (cA2i64 (A2i64.mk (wq ((wq ((2 : Int) * l21i5)) + (1 : Int))) (wq ((wq ((2 : Int) * l21i5)) + (2 : Int))))))), (50, (iq l48i50)), (77, (bool false))] (by decide) ⟨rfl, rfl, rfl, rfl, rfl, rfl, rfl, rfl, rfl, rfl, trivial⟩)
  ·replace h := bif_f hb51 h
   refine aw_exit ?_
   refine aq_then_exit ?_
   refine aq_then_exit ?_
   refine aq_block_exit ?_
   exact aq_join l48i6 h (fun w a hm hs => norm hm hs [0, 1, 2, 3] [0, 1, 2] [(0, (pq bx0)), (2, (pq g1)), (3, (pq g8)), (4, (iq (wq ((a0.items.length : Int) - (1 : Int))))), (5, (iq l21i5)), (6, (iq l48i6))] (by decide) ⟨rfl, rfl, rfl, rfl, rfl, rfl, trivial⟩)
def f_huff_Lengths_L40 (r31 : (List Int)) (kk34 : ((List Int) → Option ((List Int) × Int))) : Nat → (List Int) → Int → Option ((List Int) × Int)
  | 0, _, _ => none
  | k39 + 1, l38x7, l38i92 => (bif (decide (l38i92 < (r31.length : Int))) then (opt (at? r31 l38i92) fun (u42 : Int) => (opt (at? l38x7 u42) fun (u46 : Int) => (opt (at? l38x7 u42) fun (u50 : Int) => (f_huff_Lengths_L40 r31 kk34 k39 (l38x7.set (u42).toNat (IntKind.i64.wrap (u46 + (1 : Int)))) (IntKind.i64.wrap (l38i92 + (1 : Int))))))) else (kk34 l38x7))
def f_huff_Lengths_L15 (kk12 : ((List Int) → Option ((List Int) × Int))) (fu : Nat) : Nat → (List S_huff_tree) → (List Int) → Option ((List Int) × Int)
  | 0, _, _ => none
  | k14 + 1, l13x4_0, l13x7 => (lt (fun (l13x4_0 : (List S_huff_tree)) (l13x7 : (List Int)) => (f_huff_Lengths_L15 kk12 fu k14 l13x4_0 l13x7)) fun (kk16 : (List S_huff_tree) → (List Int) → Option ((List Int) × Int)) => (bif (decide ((l13x4_0.length : Int) > (1 : Int))) then (opt (f___huff_heap_huff_tree___pop fu (D_huff_heap_huff_tree_.mk l13x4_0)) fun (r19 : (S_huff_tree × D_huff_heap_huff_tree_)) => (opt (f___huff_heap_huff_tree___pop fu r19.2) fun (r23 : (S_huff_tree × D_huff_heap_huff_tree_)) => (opt (f_slices_Concat___int_int_ fu ([r19.1.symbols, r23.1.symbols])) fun (r31 : (List Int)) => (lt (fun (j33x7 : (List Int)) => (opt (f___huff_heap_huff_tree___push fu r23.2 (S_huff_tree.mk (IntKind.i64.wrap (r19.1.weight + r23.1.weight)) (if r23.1.least < r19.1.least then r23.1.least else r19.1.least) r31)) fun (r36 : D_huff_heap_huff_tree_) => (kk16 r36.items j33x7))) fun (kk34 : (List Int) → Option ((List Int) × Int)) => (f_huff_Lengths_L40 r31 kk34 fu l13x7 (0 : Int)))))) else (kk12 l13x7)))
def f_huff_Lengths_L67 (a0 : (List Int)) (kk6 : ((List S_huff_tree) → Option ((List Int) × Int))) (fu : Nat) : Nat → (List S_huff_tree) → Int → Option ((List Int) × Int)
  | 0, _, _ => none
  | k66 + 1, l65x4_0, l65i29 => (bif (decide (l65i29 < (a0.length : Int))) then (lt (fun (j69x4_0 : (List S_huff_tree)) => (f_huff_Lengths_L67 a0 kk6 fu k66 j69x4_0 (IntKind.i64.wrap (l65i29 + (1 : Int))))) fun (kk70 : (List S_huff_tree) → Option ((List Int) × Int)) => (opt (at? a0 l65i29) fun (u71 : Int) => (bif (decide (u71 > (0 : Int))) then (opt (f___huff_heap_huff_tree___push fu (D_huff_heap_huff_tree_.mk l65x4_0) (S_huff_tree.mk u71 l65i29 ([l65i29]))) fun (r77 : D_huff_heap_huff_tree_) => (kk70 r77.items)) else (kk70 l65x4_0)))) else (kk6 l65x4_0))
def f_huff_Lengths (fu : Nat) (a0 : (List Int)) : Option ((List Int) × Int) := (lt (fun (j1b24 : Bool) => (bif j1b24 then (some (([] : List Int), (1 : Int))) else (lt (fun (j5x4_0 : (List S_huff_tree)) => (req (0 ≤ (a0.length : Int) ∧ 8 * (a0.length : Int) ≤ 281474976710656 ∧ (a0.length : Int) ≤ 9223372036854775807) (lt (fun (j9x7 : (List Int)) => (lt (fun (j11x7 : (List Int)) => (some (j11x7, (0 : Int)))) fun (kk12 : (List Int) → Option ((List Int) × Int)) => (f_huff_Lengths_L15 kk12 fu fu j5x4_0 j9x7))) fun (kk10 : (List Int) → Option ((List Int) × Int)) => (bif ((j5x4_0.length : Int) == (1 : Int)) then (opt (at? j5x4_0 (0 : Int)) fun (u55 : S_huff_tree) => (opt (at? (List.replicate ((a0.length : Int)).toNat 0) u55.least) fun (u61 : Int) => (kk10 ((List.replicate ((a0.length : Int)).toNat 0).set (u55.least).toNat (1 : Int))))) else (kk10 (List.replicate ((a0.length : Int)).toNat 0)))))) fun (kk6 : (List S_huff_tree) → Option ((List Int) × Int)) => (f_huff_Lengths_L67 a0 kk6 fu fu ([] : List S_huff_tree) (0 : Int))))) fun (kk2 : Bool → Option ((List Int) × Int)) => (bif (decide ((a0.length : Int) < (1 : Int))) then (kk2 true) else (bif (decide ((a0.length : Int) > (256 : Int))) then (kk2 true) else (opt (f_slices_ContainsFunc___int_int__F87 fu a0) fun (r82 : Bool) => (kk2 r82)))))
set_option maxRecDepth 100000 in
set_option maxHeartbeats 2000000 in
set_option maxHeartbeats 2000000 in
theorem f_huff_Lengths_ok (fu : Nat) (v0_0 : Value) (a0 : (List Int)) {r : ((List Int) × Int)} (h : f_huff_Lengths fu a0 = some r) : FnOk Tryd.prog 40 [v0_0] [(fDat (tyList (tyInt .i64)) [v0_0] a0)] [] (fun (i : Value) => { val := (Value.tuple #[i, (int .i64 r.2)]), own := [(oRow i 3 (tyInt .i64) r.1)] }) := by
 unfold f_huff_Lengths at h
 refine fn_enter Tryd.func40 rfl Tryd.ntmps40 rfl (fun w0 Z0 => ?_)
 refine aw_sr ?_
 refine al_as rfl rfl ?_
 refine al_as rfl rfl ?_
 refine al_nt ?_
 refine aw_seq ?_
 obtain ⟨kk2, hkk2, h⟩ := lt_some h
 refine aw_seq_join (ι := Bool) (fun i => (memOf w0 Z0 [] [] [(fDat (tyList tq) [v0_0] a0)])) (fun i => (tab [(0, v0_0), (24, (bool i))])) (fun i => kk2 i = some r) ?_ ?_
 ·rintro j1b24 h
  have h : kk2 j1b24 = some r := h
  rw [hkk2] at h
  dsimp only at h
  clear hkk2
  refine aw_show (m := (memOf w0 Z0 [] [] [(fDat (tyList tq) [v0_0] a0)])) (S := (tab [(0, v0_0), (24, (bool j1b24))])) ?_
  refine aw_cond rfl (fun hb3 => ?_) (fun hb3 => ?_)
  ·replace h := bif_t hb3 h
   refine aw_sr ?_
   refine al_as rfl rfl ?_
   refine al_as rfl rfl ?_
   refine al_nt ?_
   refine aw_ret ?_
   refine aq_then_ret ?_
   refine aq_nilR 3 tq ?_
   obtain rfl := Option.some.inj h
   exact fn_ret nS [0] [] rfl rfl rfl rfl (res2 rfl rfl rfl) rfl rfl rfl (by decide)
  ·replace h := bif_f hb3 h
   refine aw_skip ?_
   refine aq_tr ?_
   refine al_val (ov_build (cells := ([nS, (fq 88)]).toArray) (cs := [nS, (fq 88)]) rfl (fun w a hm hs => by simp only [List.map_toArray, List.map_cons, List.map_nil, List.toList_toArray, hs.ev (x := .func 88) rfl]; kernel_rfl)) ?_
   refine al_box (vs := [nS, (fq 88)]) rfl (cv_rfl rfl) rfl (fun g4 => ?_)
   refine al_as rfl rfl ?_
   refine al_nt ?_
   obtain ⟨kk6, hkk6, h⟩ := lt_some h
   refine aw_seq_join (ι := Value × (List S_huff_tree)) (fun i => (memOf w0 Z0 [] [(oRow i.1 138 tyS_huff_tree i.2), (oBox g4 143 [i.1, (fq 88)])] [(fDat (tyList tq) [v0_0] a0)])) (fun i => (tab [(0, v0_0), (4, (pq g4))])) (fun i => kk6 i.2 = some r) ?_ ?_
   ·rintro ⟨j5v4_0, j5x4_0⟩ h
    have h : kk6 j5x4_0 = some r := h
    rw [hkk6] at h
    dsimp only at h
    clear hkk6
    refine aw_show (m := (memOf w0 Z0 [] [(oRow j5v4_0 138 tyS_huff_tree j5x4_0), (oBox g4 143 [j5v4_0, (fq 88)])] [(fDat (tyList tq) [v0_0] a0)])) (S := (tab [(0, v0_0), (4, (pq g4))])) ?_
    refine aw_sr ?_
    refine al_mv rfl rfl ?_
    refine al_val (ov_lenD 0 rfl rfl Tryd.underlying71 rfl) ?_
    obtain ⟨hc7, h⟩ := req_some h
    refine al_make (τ := tq) (x0 := 0) hc7.1 hc7.2.1 hc7.2.2 rfl rfl Tryd.underlying71 to3 (fun _ _ => rfl) rfl rfl (fun v8 => ?_)
    refine al_as rfl rfl ?_
    refine al_nt ?_
    obtain ⟨kk10, hkk10, h⟩ := lt_some h
    refine aw_seq_join (ι := (List Int)) (fun i => (memOf w0 Z0 [] [(oRow j5v4_0 138 tyS_huff_tree j5x4_0), (oBox g4 143 [j5v4_0, (fq 88)]), (oRow v8 3 tq i)] [(fDat (tyList tq) [v0_0] a0)])) (fun i => (tab [(4, (pq g4)), (7, v8)])) (fun i => kk10 i = some r) ?_ ?_
    ·rintro j9x7 h
     have h : kk10 j9x7 = some r := h
     rw [hkk10] at h
     dsimp only at h
     clear hkk10
     refine aw_show (m := (memOf w0 Z0 [] [(oRow j5v4_0 138 tyS_huff_tree j5x4_0), (oBox g4 143 [j5v4_0, (fq 88)]), (oRow v8 3 tq j9x7)] [(fDat (tyList tq) [v0_0] a0)])) (S := (tab [(4, (pq g4)), (7, v8)])) ?_
     obtain ⟨kk12, hkk12, h⟩ := lt_some h
     refine aw_seq_join (ι := (List Int)) (fun i => (memOf w0 Z0 [] [(oRow v8 3 tq i)] [(fDat (tyList tq) [v0_0] a0)])) (fun i => (tab [(7, v8)])) (fun i => kk12 i = some r) ?_ ?_
     ·rintro j11x7 h
      have h : kk12 j11x7 = some r := h
      rw [hkk12] at h
      dsimp only at h
      clear hkk12
      refine aw_show (m := (memOf w0 Z0 [] [(oRow v8 3 tq j11x7)] [(fDat (tyList tq) [v0_0] a0)])) (S := (tab [(7, v8)])) ?_
      refine aw_sr ?_
      refine al_mv rfl rfl ?_
      refine al_as rfl rfl ?_
      refine al_as rfl rfl ?_
      refine al_nt ?_
      refine aw_ret ?_
      obtain rfl := Option.some.inj h
      exact fn_ret v8 [0] [] rfl rfl rfl rfl (res2 rfl rfl rfl) rfl rfl rfl (by decide)
     ·clear hkk12
      refine aw_block ?_
      refine aw_state (aw_loop (ι := Value × (List S_huff_tree) × (List Int)) (fun i => (memOf w0 Z0 [] [(oRow i.1 138 tyS_huff_tree i.2.1), (oBox g4 143 [i.1, (fq 88)]), (oRow v8 3 tq i.2.2)] [(fDat (tyList tq) [v0_0] a0)])) (fun i => (tab [(4, (pq g4)), (7, v8)])) (fun q i => f_huff_Lengths_L15 kk12 fu q i.2.1 i.2.2 = some r) ?_ fu (j5v4_0, j5x4_0, j9x7) h) (fun w a hm hs => norm hm hs [0, 1, 2] [0] [(4, (pq g4)), (7, v8)] (by decide) ⟨rfl, rfl, trivial⟩)
      clear h
      rintro k14 ⟨l13v4_0, l13x4_0, l13x7⟩ h
      have h : f_huff_Lengths_L15 kk12 fu k14 l13x4_0 l13x7 = some r := h
      obtain _ | k14 := k14
      · rw [f_huff_Lengths_L15] at h; cases h
      rw [f_huff_Lengths_L15] at h
      refine aw_show (m := (memOf w0 Z0 [] [(oRow l13v4_0 138 tyS_huff_tree l13x4_0), (oBox g4 143 [l13v4_0, (fq 88)]), (oRow v8 3 tq l13x7)] [(fDat (tyList tq) [v0_0] a0)])) (S := (tab [(4, (pq g4)), (7, v8)])) ?_
      obtain ⟨kk16, hkk16, h⟩ := lt_some h
      refine aw_body_join (ι := Value × (List S_huff_tree) × (List Int)) (fun i => (memOf w0 Z0 [] [(oRow i.1 138 tyS_huff_tree i.2.1), (oBox g4 143 [i.1, (fq 88)]), (oRow v8 3 tq i.2.2)] [(fDat (tyList tq) [v0_0] a0)])) (fun i => (tab [(4, (pq g4)), (7, v8)])) (fun i => kk16 i.2.1 i.2.2 = some r) (fun i h => aq_again k14 i (Nat.lt_succ_self _) (by rw [hkk16] at h; exact h) (fun w a hm hs => ⟨hm, hs⟩)) ?_
      clear hkk16
      refine aw_seq ?_
      refine aw_sr ?_
      refine al_mv rfl rfl ?_
      refine al_val (ov_nilCheck rfl rfl) ?_
      refine al_val (ov_fieldA (p := 0) rfl Tryd.underlying143 rfl sz141 rfl rfl rfl) ?_
      refine al_val (ov_load (i := 1) (v := l13v4_0) rfl rfl Tryd.underlying141 sz141 rfl rfl rfl rfl) ?_
      refine al_val (ov_lenR 0 rfl rfl Tryd.underlying141 rfl) ?_
      refine al_in rfl rfl rfl rfl ?_
      refine al_nt ?_
      refine aw_cond rfl (fun hb17 => ?_) (fun hb17 => ?_)
      ·replace h := bif_t hb17 h
       refine aw_skip ?_
       refine aq_then ?_
       refine aw_block ?_
       refine aw_sr ?_
       refine al_mv rfl rfl ?_
       obtain ⟨r19, hc18, h⟩ := opt_some h
       refine al_call (vs := [(pq g4)]) (f___huff_heap_huff_tree___pop_ok fu g4 l13v4_0 (D_huff_heap_huff_tree_.mk l13x4_0) hc18) [] [1, 0] [2] pre_nil rfl (by simp) (by decide) (.inl rfl) rfl Tryd.func91 rfl rfl rfl (fun ⟨v20, v21⟩ => ?_)
       refine al_mv rfl rfl ?_
       obtain ⟨r23, hc22, h⟩ := opt_some h
       refine al_call (vs := [(pq g4)]) (f___huff_heap_huff_tree___pop_ok fu g4 v21 r19.2 hc22) [] [0, 1] [2] pre_nil rfl (by simp) (by decide) (.inl rfl) rfl Tryd.func91 rfl rfl rfl (fun ⟨v24, v25⟩ => ?_)
       refine al_alloc (zs := [(iq (0 : Int)), (iq (0 : Int)), nS]) (zeroOf_to to138) rfl rfl (fun g26 => ?_)
       refine al_alloc (zs := [(iq (0 : Int)), (iq (0 : Int)), nS]) (zeroOf_to to138) rfl rfl (fun g27 => ?_)
       refine al_store (i := 1) (vs := [(iq r19.1.weight), (iq r19.1.least), v20]) (cs' := [(iq r19.1.weight), (iq r19.1.least), v20]) rfl rfl rfl sz138 (cv_rfl rfl) rfl (co_val rfl (co_val rfl (co_fz 1 rfl co_nil))) (Nat.le_of_ble_eq_true rfl) rfl rfl ?_
       refine al_store (i := 0) (vs := [(iq r23.1.weight), (iq r23.1.least), v24]) (cs' := [(iq r23.1.weight), (iq r23.1.least), v24]) rfl rfl rfl sz138 (cv_rfl rfl) rfl (co_val rfl (co_val rfl (co_fz 0 rfl co_nil))) (Nat.le_of_ble_eq_true rfl) rfl rfl ?_
       refine al_nt ?_
       refine aw_seq ?_
       refine aw_region_open [⟨0, 72, Unit, fun _ => { val := (pq g26) }⟩, ⟨1, 73, Unit, fun _ => { val := (iq r19.1.weight) }⟩, ⟨2, 74, Unit, fun _ => { val := (pq g27) }⟩, ⟨3, 75, Unit, fun _ => { val := (iq r23.1.weight) }⟩, ⟨4, 76, Unit, fun _ => { val := (iq (wq (r19.1.weight + r23.1.weight))) }⟩, ⟨5, 77, Unit, fun _ => { val := (ptr g26 1) }⟩, ⟨6, 78, Unit, fun _ => { val := (iq r19.1.least) }⟩, ⟨7, 79, Unit, fun _ => { val := (ptr g27 1) }⟩, ⟨8, 80, Unit, fun _ => { val := (iq r23.1.least) }⟩, ⟨9, 81, Unit, fun _ => { val := (iq (if r23.1.least < r19.1.least then r23.1.least else r19.1.least)) }⟩, ⟨10, 82, Unit, fun _ => { val := (ptr g26 2) }⟩, ⟨11, 83, Unit, fun _ => { val := v20 }⟩, ⟨12, 84, Unit, fun _ => { val := (ptr g27 2) }⟩, ⟨13, 85, Unit, fun _ => { val := v24 }⟩, ⟨14, 86, Value, fun (i : Value) => { val := i, own := [(oRow i 71 (tyList tq) [r19.1.symbols, r23.1.symbols])] }⟩, ⟨17, 10, Nat, fun (i : Nat) => { val := (pq i), own := [(oBox i 138 [(iq (0 : Int)), (iq (0 : Int)), nS])] }⟩] (tab [(4, (pq g4)), (7, v8), (8, (pq g26)), (9, (pq g27))]) mixed (fun a hs => hs.tab _ (allT_mem ⟨rfl, rfl, rfl, rfl, trivial⟩)) ?_
       refine ta_show (m := (memOf w0 Z0 [] [(oBox g27 138 [(iq r23.1.weight), (iq r23.1.least), v24]), (oBox g26 138 [(iq r19.1.weight), (iq r19.1.least), v20]), (oBox g4 143 [v25, (fq 88)]), (oRow v25 138 tyS_huff_tree r23.2.items), (oRow v8 3 tq l13x7)] [(fDat (tyList tq) [v24] r23.1.symbols), (fDat (tyList tq) [v20] r19.1.symbols), (fDat (tyList tq) [v0_0] a0)])) (S := (tab [(4, (pq g4)), (7, v8), (8, (pq g26)), (9, (pq g27))])) ?_
       refine ta_step 15 _ [0, 1, 2, 3, 4, 5, 6, 7, 8, 9, 10, 11, 12, 13, 14, 17] [72, 73, 74, 75, 76, 77, 78, 79, 80, 81, 82, 83, 84, 85, 86, 10] [10, 11, 12, 13, 14] [16] [⟨10, 82, Unit, fun _ => { val := (ptr g26 2) }⟩, ⟨11, 83, Unit, fun _ => { val := v20 }⟩, ⟨12, 84, Unit, fun _ => { val := (ptr g27 2) }⟩, ⟨13, 85, Unit, fun _ => { val := v24 }⟩, ⟨14, 86, Value, fun (i : Value) => { val := i, own := [(oRow i 71 (tyList tq) [r19.1.symbols, r23.1.symbols])] }⟩] [⟨0, 72, Unit, fun _ => { val := (pq g26) }⟩, ⟨1, 73, Unit, fun _ => { val := (iq r19.1.weight) }⟩, ⟨2, 74, Unit, fun _ => { val := (pq g27) }⟩, ⟨3, 75, Unit, fun _ => { val := (iq r23.1.weight) }⟩, ⟨4, 76, Unit, fun _ => { val := (iq (wq (r19.1.weight + r23.1.weight))) }⟩, ⟨5, 77, Unit, fun _ => { val := (ptr g26 1) }⟩, ⟨6, 78, Unit, fun _ => { val := (iq r19.1.least) }⟩, ⟨7, 79, Unit, fun _ => { val := (ptr g27 1) }⟩, ⟨8, 80, Unit, fun _ => { val := (iq r23.1.least) }⟩, ⟨9, 81, Unit, fun _ => { val := (iq (if r23.1.least < r19.1.least then r23.1.least else r19.1.least)) }⟩, ⟨17, 10, Nat, fun (i : Nat) => { val := (pq i), own := [(oBox i 138 [(iq (0 : Int)), (iq (0 : Int)), nS])] }⟩] rfl rfl rfl (by kernel_rfl) rfl rfl rfl ⟨⟨_, rfl, [], rfl, by
 intro X_ Y_ F_ K_ hK_
 refine al_show (m := Mem.plus (memOf w0 Z0 [] [(oBox g27 138 [(iq r23.1.weight), (iq r23.1.least), v24]), (oBox g26 138 [(iq r19.1.weight), (iq r19.1.least), v20]), (oBox g4 143 [v25, (fq 88)]), (oRow v25 138 tyS_huff_tree r23.2.items), (oRow v8 3 tq l13x7)] [(fDat (tyList tq) [v24] r23.1.symbols), (fDat (tyList tq) [v20] r19.1.symbols), (fDat (tyList tq) [v0_0] a0)]) X_ Y_) (S := over (tab [(4, (pq g4)), (7, v8), (8, (pq g26)), (9, (pq g27))]) F_) ?_
 refine al_val (ov_fieldA (p := 0) rfl Tryd.underlying138 rfl sz3 rfl rfl rfl) ?_
 refine al_nil ?_
 exact fr_fin hK_ ()⟩, ⟨_, rfl, [0], rfl, by
 intro _
 intro X_ Y_ F_ K_ hK_
 refine al_show (m := Mem.plus (memOf w0 Z0 [] [(oBox g27 138 [(iq r23.1.weight), (iq r23.1.least), v24]), (oBox g26 138 [(iq r19.1.weight), (iq r19.1.least), v20]), (oBox g4 143 [v25, (fq 88)]), (oRow v25 138 tyS_huff_tree r23.2.items), (oRow v8 3 tq l13x7)] [(fDat (tyList tq) [v24] r23.1.symbols), (fDat (tyList tq) [v20] r19.1.symbols), (fDat (tyList tq) [v0_0] a0)]) X_ Y_) (S := over (put (tab [(4, (pq g4)), (7, v8), (8, (pq g26)), (9, (pq g27))]) 72 (pq g26)) F_) ?_
 refine al_val (ov_load (i := 1) (v := (iq r19.1.weight)) rfl rfl Tryd.underlying3 sz3 rfl rfl rfl rfl) ?_
 refine al_nil ?_
 exact fr_fin hK_ ()⟩, ⟨_, rfl, [], rfl, by
 intro X_ Y_ F_ K_ hK_
 refine al_show (m := Mem.plus (memOf w0 Z0 [] [(oBox g27 138 [(iq r23.1.weight), (iq r23.1.least), v24]), (oBox g26 138 [(iq r19.1.weight), (iq r19.1.least), v20]), (oBox g4 143 [v25, (fq 88)]), (oRow v25 138 tyS_huff_tree r23.2.items), (oRow v8 3 tq l13x7)] [(fDat (tyList tq) [v24] r23.1.symbols), (fDat (tyList tq) [v20] r19.1.symbols), (fDat (tyList tq) [v0_0] a0)]) X_ Y_) (S := over (tab [(4, (pq g4)), (7, v8), (8, (pq g26)), (9, (pq g27))]) F_) ?_
 refine al_val (ov_fieldA (p := 0) rfl Tryd.underlying138 rfl sz3 rfl rfl rfl) ?_
 refine al_nil ?_
 exact fr_fin hK_ ()⟩, ⟨_, rfl, [2], rfl, by
 intro _
 intro X_ Y_ F_ K_ hK_
 refine al_show (m := Mem.plus (memOf w0 Z0 [] [(oBox g27 138 [(iq r23.1.weight), (iq r23.1.least), v24]), (oBox g26 138 [(iq r19.1.weight), (iq r19.1.least), v20]), (oBox g4 143 [v25, (fq 88)]), (oRow v25 138 tyS_huff_tree r23.2.items), (oRow v8 3 tq l13x7)] [(fDat (tyList tq) [v24] r23.1.symbols), (fDat (tyList tq) [v20] r19.1.symbols), (fDat (tyList tq) [v0_0] a0)]) X_ Y_) (S := over (put (tab [(4, (pq g4)), (7, v8), (8, (pq g26)), (9, (pq g27))]) 74 (pq g27)) F_) ?_
 refine al_val (ov_load (i := 0) (v := (iq r23.1.weight)) rfl rfl Tryd.underlying3 sz3 rfl rfl rfl rfl) ?_
 refine al_nil ?_
 exact fr_fin hK_ ()⟩, ⟨_, rfl, [1, 3], rfl, by
 intro _
 intro _
 intro X_ Y_ F_ K_ hK_
 refine al_show (m := Mem.plus (memOf w0 Z0 [] [(oBox g27 138 [(iq r23.1.weight), (iq r23.1.least), v24]), (oBox g26 138 [(iq r19.1.weight), (iq r19.1.least), v20]), (oBox g4 143 [v25, (fq 88)]), (oRow v25 138 tyS_huff_tree r23.2.items), (oRow v8 3 tq l13x7)] [(fDat (tyList tq) [v24] r23.1.symbols), (fDat (tyList tq) [v20] r19.1.symbols), (fDat (tyList tq) [v0_0] a0)]) X_ Y_) (S := over (put (put (tab [(4, (pq g4)), (7, v8), (8, (pq g26)), (9, (pq g27))]) 73 (iq r19.1.weight)) 75 (iq r23.1.weight)) F_) ?_
 refine al_in rfl rfl rfl rfl ?_
 refine al_nil ?_
 exact fr_fin hK_ ()⟩, ⟨_, rfl, [], rfl, by
 intro X_ Y_ F_ K_ hK_
 refine al_show (m := Mem.plus (memOf w0 Z0 [] [(oBox g27 138 [(iq r23.1.weight), (iq r23.1.least), v24]), (oBox g26 138 [(iq r19.1.weight), (iq r19.1.least), v20]), (oBox g4 143 [v25, (fq 88)]), (oRow v25 138 tyS_huff_tree r23.2.items), (oRow v8 3 tq l13x7)] [(fDat (tyList tq) [v24] r23.1.symbols), (fDat (tyList tq) [v20] r19.1.symbols), (fDat (tyList tq) [v0_0] a0)]) X_ Y_) (S := over (tab [(4, (pq g4)), (7, v8), (8, (pq g26)), (9, (pq g27))]) F_) ?_
 refine al_val (ov_fieldA (p := 1) rfl Tryd.underlying138 rfl sz3 rfl rfl rfl) ?_
 refine al_nil ?_
 exact fr_fin hK_ ()⟩, ⟨_, rfl, [5], rfl, by
 intro _
 intro X_ Y_ F_ K_ hK_
 refine al_show (m := Mem.plus (memOf w0 Z0 [] [(oBox g27 138 [(iq r23.1.weight), (iq r23.1.least), v24]), (oBox g26 138 [(iq r19.1.weight), (iq r19.1.least), v20]), (oBox g4 143 [v25, (fq 88)]), (oRow v25 138 tyS_huff_tree r23.2.items), (oRow v8 3 tq l13x7)] [(fDat (tyList tq) [v24] r23.1.symbols), (fDat (tyList tq) [v20] r19.1.symbols), (fDat (tyList tq) [v0_0] a0)]) X_ Y_) (S := over (put (tab [(4, (pq g4)), (7, v8), (8, (pq g26)), (9, (pq g27))]) 77 (ptr g26 1)) F_) ?_
 refine al_val (ov_load (i := 1) (v := (iq r19.1.least)) rfl rfl Tryd.underlying3 sz3 rfl rfl rfl rfl) ?_
 refine al_nil ?_
 exact fr_fin hK_ ()⟩, ⟨_, rfl, [], rfl, by
 intro X_ Y_ F_ K_ hK_
 refine al_show (m := Mem.plus (memOf w0 Z0 [] [(oBox g27 138 [(iq r23.1.weight), (iq r23.1.least), v24]), (oBox g26 138 [(iq r19.1.weight), (iq r19.1.least), v20]), (oBox g4 143 [v25, (fq 88)]), (oRow v25 138 tyS_huff_tree r23.2.items), (oRow v8 3 tq l13x7)] [(fDat (tyList tq) [v24] r23.1.symbols), (fDat (tyList tq) [v20] r19.1.symbols), (fDat (tyList tq) [v0_0] a0)]) X_ Y_) (S := over (tab [(4, (pq g4)), (7, v8), (8, (pq g26)), (9, (pq g27))]) F_) ?_
 refine al_val (ov_fieldA (p := 1) rfl Tryd.underlying138 rfl sz3 rfl rfl rfl) ?_
 refine al_nil ?_
 exact fr_fin hK_ ()⟩, ⟨_, rfl, [7], rfl, by
 intro _
 intro X_ Y_ F_ K_ hK_
 refine al_show (m := Mem.plus (memOf w0 Z0 [] [(oBox g27 138 [(iq r23.1.weight), (iq r23.1.least), v24]), (oBox g26 138 [(iq r19.1.weight), (iq r19.1.least), v20]), (oBox g4 143 [v25, (fq 88)]), (oRow v25 138 tyS_huff_tree r23.2.items), (oRow v8 3 tq l13x7)] [(fDat (tyList tq) [v24] r23.1.symbols), (fDat (tyList tq) [v20] r19.1.symbols), (fDat (tyList tq) [v0_0] a0)]) X_ Y_) (S := over (put (tab [(4, (pq g4)), (7, v8), (8, (pq g26)), (9, (pq g27))]) 79 (ptr g27 1)) F_) ?_
 refine al_val (ov_load (i := 0) (v := (iq r23.1.least)) rfl rfl Tryd.underlying3 sz3 rfl rfl rfl rfl) ?_
 refine al_nil ?_
 exact fr_fin hK_ ()⟩, ⟨_, rfl, [6, 8], rfl, by
 intro _
 intro _
 intro X_ Y_ F_ K_ hK_
 refine al_show (m := Mem.plus (memOf w0 Z0 [] [(oBox g27 138 [(iq r23.1.weight), (iq r23.1.least), v24]), (oBox g26 138 [(iq r19.1.weight), (iq r19.1.least), v20]), (oBox g4 143 [v25, (fq 88)]), (oRow v25 138 tyS_huff_tree r23.2.items), (oRow v8 3 tq l13x7)] [(fDat (tyList tq) [v24] r23.1.symbols), (fDat (tyList tq) [v20] r19.1.symbols), (fDat (tyList tq) [v0_0] a0)]) X_ Y_) (S := over (put (put (tab [(4, (pq g4)), (7, v8), (8, (pq g26)), (9, (pq g27))]) 78 (iq r19.1.least)) 80 (iq r23.1.least)) F_) ?_
 refine al_val (ov_min rfl rfl rfl) ?_
 refine al_nil ?_
 exact fr_fin hK_ ()⟩, ⟨_, rfl, [], rfl, by
 intro X_ Y_ F_ K_ hK_
 refine al_show (m := Mem.plus (memOf w0 Z0 [] [(oBox g27 138 [(iq r23.1.weight), (iq r23.1.least), v24]), (oBox g26 138 [(iq r19.1.weight), (iq r19.1.least), v20]), (oBox g4 143 [v25, (fq 88)]), (oRow v25 138 tyS_huff_tree r23.2.items), (oRow v8 3 tq l13x7)] [(fDat (tyList tq) [v24] r23.1.symbols), (fDat (tyList tq) [v20] r19.1.symbols), (fDat (tyList tq) [v0_0] a0)]) X_ Y_) (S := over (tab [(4, (pq g4)), (7, v8), (8, (pq g26)), (9, (pq g27))]) F_) ?_
 refine al_val (ov_fieldA (p := 2) rfl Tryd.underlying138 rfl sz71 rfl rfl rfl) ?_
 refine al_nil ?_
 exact fr_fin hK_ ()⟩, ⟨_, rfl, [10], rfl, by
 intro _
 intro X_ Y_ F_ K_ hK_
 refine al_show (m := Mem.plus (memOf w0 Z0 [] [(oBox g27 138 [(iq r23.1.weight), (iq r23.1.least), v24]), (oBox g26 138 [(iq r19.1.weight), (iq r19.1.least), v20]), (oBox g4 143 [v25, (fq 88)]), (oRow v25 138 tyS_huff_tree r23.2.items), (oRow v8 3 tq l13x7)] [(fDat (tyList tq) [v24] r23.1.symbols), (fDat (tyList tq) [v20] r19.1.symbols), (fDat (tyList tq) [v0_0] a0)]) X_ Y_) (S := over (put (tab [(4, (pq g4)), (7, v8), (8, (pq g26)), (9, (pq g27))]) 82 (ptr g26 2)) F_) ?_
 refine al_val (ov_load (i := 1) (v := v20) rfl rfl Tryd.underlying71 sz71 rfl rfl rfl rfl) ?_
 refine al_nil ?_
 exact fr_fin hK_ ()⟩, ⟨_, rfl, [], rfl, by
 intro X_ Y_ F_ K_ hK_
 refine al_show (m := Mem.plus (memOf w0 Z0 [] [(oBox g27 138 [(iq r23.1.weight), (iq r23.1.least), v24]), (oBox g26 138 [(iq r19.1.weight), (iq r19.1.least), v20]), (oBox g4 143 [v25, (fq 88)]), (oRow v25 138 tyS_huff_tree r23.2.items), (oRow v8 3 tq l13x7)] [(fDat (tyList tq) [v24] r23.1.symbols), (fDat (tyList tq) [v20] r19.1.symbols), (fDat (tyList tq) [v0_0] a0)]) X_ Y_) (S := over (tab [(4, (pq g4)), (7, v8), (8, (pq g26)), (9, (pq g27))]) F_) ?_
 refine al_val (ov_fieldA (p := 2) rfl Tryd.underlying138 rfl sz71 rfl rfl rfl) ?_
 refine al_nil ?_
 exact fr_fin hK_ ()⟩, ⟨_, rfl, [12], rfl, by
 intro _
 intro X_ Y_ F_ K_ hK_
 refine al_show (m := Mem.plus (memOf w0 Z0 [] [(oBox g27 138 [(iq r23.1.weight), (iq r23.1.least), v24]), (oBox g26 138 [(iq r19.1.weight), (iq r19.1.least), v20]), (oBox g4 143 [v25, (fq 88)]), (oRow v25 138 tyS_huff_tree r23.2.items), (oRow v8 3 tq l13x7)] [(fDat (tyList tq) [v24] r23.1.symbols), (fDat (tyList tq) [v20] r19.1.symbols), (fDat (tyList tq) [v0_0] a0)]) X_ Y_) (S := over (put (tab [(4, (pq g4)), (7, v8), (8, (pq g26)), (9, (pq g27))]) 84 (ptr g27 2)) F_) ?_
 refine al_val (ov_load (i := 0) (v := v24) rfl rfl Tryd.underlying71 sz71 rfl rfl rfl rfl) ?_
 refine al_nil ?_
 exact fr_fin hK_ ()⟩, ⟨_, rfl, [11, 13], rfl, by
 intro _
 intro _
 intro X_ Y_ F_ K_ hK_
 refine al_show (m := Mem.plus (memOf w0 Z0 [] [(oBox g27 138 [(iq r23.1.weight), (iq r23.1.least), v24]), (oBox g26 138 [(iq r19.1.weight), (iq r19.1.least), v20]), (oBox g4 143 [v25, (fq 88)]), (oRow v25 138 tyS_huff_tree r23.2.items), (oRow v8 3 tq l13x7)] [(fDat (tyList tq) [v24] r23.1.symbols), (fDat (tyList tq) [v20] r19.1.symbols), (fDat (tyList tq) [v0_0] a0)]) X_ Y_) (S := over (put (put (tab [(4, (pq g4)), (7, v8), (8, (pq g26)), (9, (pq g27))]) 83 v20) 85 v24) F_) ?_
 refine al_buildSlice (τ := (tyList tq)) (e := 71) (k := 2) (sz := 0) (by_ := 0) (z := undef) (cs := [v20, v24]) (xs := [r19.1.symbols, r23.1.symbols]) rfl (by decide) (fun w a hm hs => ⟨([v20, v24]).toArray, rfl, by simp only [List.map_toArray, List.map_cons, List.map_nil, hs.ev (x := .tmp 83) rfl, hs.ev (x := .tmp 85) rfl]; exact run_bs [v20, v24] [v20, v24] Tryd.underlying198 to71 rfl rfl (bs_cons (l := [v20]) (cs := [v24]) (cv_fz 1 rfl) rfl (bs_cons (l := [v24]) (cs := []) (cv_fz 0 rfl) rfl bs_nil)) hm⟩) (fun hm => ⟨_, _, rfl, (fun hm => fz_at (i := 1) hm rfl) hm, ⟨_, _, rfl, (fun hm => fz_at (i := 0) hm rfl) hm, rfl⟩⟩) rfl (fun v28 => ?_)
 refine al_nil ?_
 exact fr_fin hK_ v28⟩, ⟨_, rfl, [], rfl, by
 intro X_ Y_ F_ K_ hK_
 refine al_show (m := Mem.plus (memOf w0 Z0 [] [(oBox g27 138 [(iq r23.1.weight), (iq r23.1.least), v24]), (oBox g26 138 [(iq r19.1.weight), (iq r19.1.least), v20]), (oBox g4 143 [v25, (fq 88)]), (oRow v25 138 tyS_huff_tree r23.2.items), (oRow v8 3 tq l13x7)] [(fDat (tyList tq) [v24] r23.1.symbols), (fDat (tyList tq) [v20] r19.1.symbols), (fDat (tyList tq) [v0_0] a0)]) X_ Y_) (S := over (tab [(4, (pq g4)), (7, v8), (8, (pq g26)), (9, (pq g27))]) F_) ?_
 refine al_alloc (zs := [(iq (0 : Int)), (iq (0 : Int)), nS]) (zeroOf_to to138) rfl rfl (fun g29 => ?_)
 refine al_nil ?_
 exact fr_fin hK_ g29⟩, trivial⟩ ?_
       intro _
       intro _
       intro _
       intro _
       intro v28
       intro X_ Y_ F_ K_ hK_
       refine al_show (m := Mem.plus (memOf w0 Z0 [] [(oRow v28 71 (tyList tq) [r19.1.symbols, r23.1.symbols]), (oBox g27 138 [(iq r23.1.weight), (iq r23.1.least), v24]), (oBox g26 138 [(iq r19.1.weight), (iq r19.1.least), v20]), (oBox g4 143 [v25, (fq 88)]), (oRow v25 138 tyS_huff_tree r23.2.items), (oRow v8 3 tq l13x7)] [(fDat (tyList tq) [v24] r23.1.symbols), (fDat (tyList tq) [v20] r19.1.symbols), (fDat (tyList tq) [v0_0] a0)]) X_ Y_) (S := over (put (put (put (put (put (tab [(4, (pq g4)), (7, v8), (8, (pq g26)), (9, (pq g27))]) 82 (ptr g26 2)) 83 v20) 84 (ptr g27 2)) 85 v24) 86 v28) F_) ?_
       obtain ⟨r31, hc30, h⟩ := opt_some h
       refine al_callX (vs := [v28]) (f_slices_Concat___int_int__ok fu v28 ([r19.1.symbols, r23.1.symbols]) hc30) [0] [] [0, 1, 2, 3, 4, 5] (pre_own 0 rfl rfl pre_nil) rfl (by simp) (by decide) rfl (.inr (flat_res1 (fun _ => flat_row flat_enc))) rfl Tryd.func92 rfl rfl rfl (fun v32 => ?_)
       refine al_nil ?_
       refine aq_show (m := Mem.plus (memOf w0 Z0 [] [(oRow v32 3 tq r31), (oRow v28 71 (tyList tq) [r19.1.symbols, r23.1.symbols]), (oBox g27 138 [(iq r23.1.weight), (iq r23.1.least), v24]), (oBox g26 138 [(iq r19.1.weight), (iq r19.1.least), v20]), (oBox g4 143 [v25, (fq 88)]), (oRow v25 138 tyS_huff_tree r23.2.items), (oRow v8 3 tq l13x7)] [(fDat (tyList tq) [v24] r23.1.symbols), (fDat (tyList tq) [v20] r19.1.symbols), (fDat (tyList tq) [v0_0] a0)]) X_ Y_) ?_
       refine aq_next hK_ [0, 1, 2, 3, 4, 5, 6] [0, 1, 2] [(4, (pq g4)), (7, v8), (8, (pq g26)), (9, (pq g27)), (87, v32)] [72, 73, 74, 75, 76, 77, 78, 79, 80, 81, 10] [⟨16, 88, Unit, fun _ => { val := (ag [(iq (wq (r19.1.weight + r23.1.weight))), (iq (if r23.1.least < r19.1.least then r23.1.least else r19.1.least)), v32]) }⟩] rfl rfl (by decide) rfl ⟨rfl, rfl, rfl, rfl, rfl, trivial⟩ ⟨rfl, rfl, rfl, rfl, rfl, rfl, rfl, rfl, rfl, rfl, rfl, trivial⟩ ?_
       clear hK_ K_ F_ X_ Y_
       refine ta_show (m := (memOf w0 Z0 [] [(oRow v32 3 tq r31), (oRow v28 71 (tyList tq) [r19.1.symbols, r23.1.symbols]), (oBox g27 138 [(iq r23.1.weight), (iq r23.1.least), v24]), (oBox g26 138 [(iq r19.1.weight), (iq r19.1.least), v20]), (oBox g4 143 [v25, (fq 88)]), (oRow v25 138 tyS_huff_tree r23.2.items), (oRow v8 3 tq l13x7)] [(fDat (tyList tq) [v24] r23.1.symbols), (fDat (tyList tq) [v20] r19.1.symbols), (fDat (tyList tq) [v0_0] a0)])) (S := (tab [(4, (pq g4)), (7, v8), (8, (pq g26)), (9, (pq g27)), (87, v32)])) ?_
       refine ta_step 18 _ [0, 1, 2, 3, 4, 5, 6, 7, 8, 9, 17, 16] [72, 73, 74, 75, 76, 77, 78, 79, 80, 81, 10, 88] [0, 1, 2, 3, 4, 5, 6, 7, 8, 9, 17, 16] [] [⟨0, 72, Unit, fun _ => { val := (pq g26) }⟩, ⟨1, 73, Unit, fun _ => { val := (iq r19.1.weight) }⟩, ⟨2, 74, Unit, fun _ => { val := (pq g27) }⟩, ⟨3, 75, Unit, fun _ => { val := (iq r23.1.weight) }⟩, ⟨4, 76, Unit, fun _ => { val := (iq (wq (r19.1.weight + r23.1.weight))) }⟩, ⟨5, 77, Unit, fun _ => { val := (ptr g26 1) }⟩, ⟨6, 78, Unit, fun _ => { val := (iq r19.1.least) }⟩, ⟨7, 79, Unit, fun _ => { val := (ptr g27 1) }⟩, ⟨8, 80, Unit, fun _ => { val := (iq r23.1.least) }⟩, ⟨9, 81, Unit, fun _ => { val := (iq (if r23.1.least < r19.1.least then r23.1.least else r19.1.least)) }⟩, ⟨17, 10, Nat, fun (i : Nat) => { val := (pq i), own := [(oBox i 138 [(iq (0 : Int)), (iq (0 : Int)), nS])] }⟩, ⟨16, 88, Unit, fun _ => { val := (ag [(iq (wq (r19.1.weight + r23.1.weight))), (iq (if r23.1.least < r19.1.least then r23.1.least else r19.1.least)), v32]) }⟩] [] rfl rfl rfl (by kernel_rfl) rfl rfl rfl ⟨⟨_, rfl, [], rfl, by
 intro X_ Y_ F_ K_ hK_
 refine al_show (m := Mem.plus (memOf w0 Z0 [] [(oRow v32 3 tq r31), (oRow v28 71 (tyList tq) [r19.1.symbols, r23.1.symbols]), (oBox g27 138 [(iq r23.1.weight), (iq r23.1.least), v24]), (oBox g26 138 [(iq r19.1.weight), (iq r19.1.least), v20]), (oBox g4 143 [v25, (fq 88)]), (oRow v25 138 tyS_huff_tree r23.2.items), (oRow v8 3 tq l13x7)] [(fDat (tyList tq) [v24] r23.1.symbols), (fDat (tyList tq) [v20] r19.1.symbols), (fDat (tyList tq) [v0_0] a0)]) X_ Y_) (S := over (tab [(4, (pq g4)), (7, v8), (8, (pq g26)), (9, (pq g27)), (87, v32)]) F_) ?_
 refine al_val (ov_fieldA (p := 0) rfl Tryd.underlying138 rfl sz3 rfl rfl rfl) ?_
 refine al_nil ?_
 exact fr_fin hK_ ()⟩, ⟨_, rfl, [0], rfl, by
 intro _
 intro X_ Y_ F_ K_ hK_
 refine al_show (m := Mem.plus (memOf w0 Z0 [] [(oRow v32 3 tq r31), (oRow v28 71 (tyList tq) [r19.1.symbols, r23.1.symbols]), (oBox g27 138 [(iq r23.1.weight), (iq r23.1.least), v24]), (oBox g26 138 [(iq r19.1.weight), (iq r19.1.least), v20]), (oBox g4 143 [v25, (fq 88)]), (oRow v25 138 tyS_huff_tree r23.2.items), (oRow v8 3 tq l13x7)] [(fDat (tyList tq) [v24] r23.1.symbols), (fDat (tyList tq) [v20] r19.1.symbols), (fDat (tyList tq) [v0_0] a0)]) X_ Y_) (S := over (put (tab [(4, (pq g4)), (7, v8), (8, (pq g26)), (9, (pq g27)), (87, v32)]) 72 (pq g26)) F_) ?_
 refine al_val (ov_load (i := 3) (v := (iq r19.1.weight)) rfl rfl Tryd.underlying3 sz3 rfl rfl rfl rfl) ?_
 refine al_nil ?_
 exact fr_fin hK_ ()⟩, ⟨_, rfl, [], rfl, by
 intro X_ Y_ F_ K_ hK_
 refine al_show (m := Mem.plus (memOf w0 Z0 [] [(oRow v32 3 tq r31), (oRow v28 71 (tyList tq) [r19.1.symbols, r23.1.symbols]), (oBox g27 138 [(iq r23.1.weight), (iq r23.1.least), v24]), (oBox g26 138 [(iq r19.1.weight), (iq r19.1.least), v20]), (oBox g4 143 [v25, (fq 88)]), (oRow v25 138 tyS_huff_tree r23.2.items), (oRow v8 3 tq l13x7)] [(fDat (tyList tq) [v24] r23.1.symbols), (fDat (tyList tq) [v20] r19.1.symbols), (fDat (tyList tq) [v0_0] a0)]) X_ Y_) (S := over (tab [(4, (pq g4)), (7, v8), (8, (pq g26)), (9, (pq g27)), (87, v32)]) F_) ?_
 refine al_val (ov_fieldA (p := 0) rfl Tryd.underlying138 rfl sz3 rfl rfl rfl) ?_
 refine al_nil ?_
 exact fr_fin hK_ ()⟩, ⟨_, rfl, [2], rfl, by
 intro _
 intro X_ Y_ F_ K_ hK_
 refine al_show (m := Mem.plus (memOf w0 Z0 [] [(oRow v32 3 tq r31), (oRow v28 71 (tyList tq) [r19.1.symbols, r23.1.symbols]), (oBox g27 138 [(iq r23.1.weight), (iq r23.1.least), v24]), (oBox g26 138 [(iq r19.1.weight), (iq r19.1.least), v20]), (oBox g4 143 [v25, (fq 88)]), (oRow v25 138 tyS_huff_tree r23.2.items), (oRow v8 3 tq l13x7)] [(fDat (tyList tq) [v24] r23.1.symbols), (fDat (tyList tq) [v20] r19.1.symbols), (fDat (tyList tq) [v0_0] a0)]) X_ Y_) (S := over (put (tab [(4, (pq g4)), (7, v8), (8, (pq g26)), (9, (pq g27)), (87, v32)]) 74 (pq g27)) F_) ?_
 refine al_val (ov_load (i := 2) (v := (iq r23.1.weight)) rfl rfl Tryd.underlying3 sz3 rfl rfl rfl rfl) ?_
 refine al_nil ?_
 exact fr_fin hK_ ()⟩, ⟨_, rfl, [1, 3], rfl, by
 intro _
 intro _
 intro X_ Y_ F_ K_ hK_
 refine al_show (m := Mem.plus (memOf w0 Z0 [] [(oRow v32 3 tq r31), (oRow v28 71 (tyList tq) [r19.1.symbols, r23.1.symbols]), (oBox g27 138 [(iq r23.1.weight), (iq r23.1.least), v24]), (oBox g26 138 [(iq r19.1.weight), (iq r19.1.least), v20]), (oBox g4 143 [v25, (fq 88)]), (oRow v25 138 tyS_huff_tree r23.2.items), (oRow v8 3 tq l13x7)] [(fDat (tyList tq) [v24] r23.1.symbols), (fDat (tyList tq) [v20] r19.1.symbols), (fDat (tyList tq) [v0_0] a0)]) X_ Y_) (S := over (put (put (tab [(4, (pq g4)), (7, v8), (8, (pq g26)), (9, (pq g27)), (87, v32)]) 73 (iq r19.1.weight)) 75 (iq r23.1.weight)) F_) ?_
 refine al_in rfl rfl rfl rfl ?_
 refine al_nil ?_
 exact fr_fin hK_ ()⟩, ⟨_, rfl, [], rfl, by
 intro X_ Y_ F_ K_ hK_
 refine al_show (m := Mem.plus (memOf w0 Z0 [] [(oRow v32 3 tq r31), (oRow v28 71 (tyList tq) [r19.1.symbols, r23.1.symbols]), (oBox g27 138 [(iq r23.1.weight), (iq r23.1.least), v24]), (oBox g26 138 [(iq r19.1.weight), (iq r19.1.least), v20]), (oBox g4 143 [v25, (fq 88)]), (oRow v25 138 tyS_huff_tree r23.2.items), (oRow v8 3 tq l13x7)] [(fDat (tyList tq) [v24] r23.1.symbols), (fDat (tyList tq) [v20] r19.1.symbols), (fDat (tyList tq) [v0_0] a0)]) X_ Y_) (S := over (tab [(4, (pq g4)), (7, v8), (8, (pq g26)), (9, (pq g27)), (87, v32)]) F_) ?_
 refine al_val (ov_fieldA (p := 1) rfl Tryd.underlying138 rfl sz3 rfl rfl rfl) ?_
 refine al_nil ?_
 exact fr_fin hK_ ()⟩, ⟨_, rfl, [5], rfl, by
 intro _
 intro X_ Y_ F_ K_ hK_
 refine al_show (m := Mem.plus (memOf w0 Z0 [] [(oRow v32 3 tq r31), (oRow v28 71 (tyList tq) [r19.1.symbols, r23.1.symbols]), (oBox g27 138 [(iq r23.1.weight), (iq r23.1.least), v24]), (oBox g26 138 [(iq r19.1.weight), (iq r19.1.least), v20]), (oBox g4 143 [v25, (fq 88)]), (oRow v25 138 tyS_huff_tree r23.2.items), (oRow v8 3 tq l13x7)] [(fDat (tyList tq) [v24] r23.1.symbols), (fDat (tyList tq) [v20] r19.1.symbols), (fDat (tyList tq) [v0_0] a0)]) X_ Y_) (S := over (put (tab [(4, (pq g4)), (7, v8), (8, (pq g26)), (9, (pq g27)), (87, v32)]) 77 (ptr g26 1)) F_) ?_
 refine al_val (ov_load (i := 3) (v := (iq r19.1.least)) rfl rfl Tryd.underlying3 sz3 rfl rfl rfl rfl) ?_
 refine al_nil ?_
 exact fr_fin hK_ ()⟩, ⟨_, rfl, [], rfl, by
 intro X_ Y_ F_ K_ hK_
 refine al_show (m := Mem.plus (memOf w0 Z0 [] [(oRow v32 3 tq r31), (oRow v28 71 (tyList tq) [r19.1.symbols, r23.1.symbols]), (oBox g27 138 [(iq r23.1.weight), (iq r23.1.least), v24]), (oBox g26 138 [(iq r19.1.weight), (iq r19.1.least), v20]), (oBox g4 143 [v25, (fq 88)]), (oRow v25 138 tyS_huff_tree r23.2.items), (oRow v8 3 tq l13x7)] [(fDat (tyList tq) [v24] r23.1.symbols), (fDat (tyList tq) [v20] r19.1.symbols), (fDat (tyList tq) [v0_0] a0)]) X_ Y_) (S := over (tab [(4, (pq g4)), (7, v8), (8, (pq g26)), (9, (pq g27)), (87, v32)]) F_) ?_
 refine al_val (ov_fieldA (p := 1) rfl Tryd.underlying138 rfl sz3 rfl rfl rfl) ?_
 refine al_nil ?_
 exact fr_fin hK_ ()⟩, ⟨_, rfl, [7], rfl, by
 intro _
 intro X_ Y_ F_ K_ hK_
 refine al_show (m := Mem.plus (memOf w0 Z0 [] [(oRow v32 3 tq r31), (oRow v28 71 (tyList tq) [r19.1.symbols, r23.1.symbols]), (oBox g27 138 [(iq r23.1.weight), (iq r23.1.least), v24]), (oBox g26 138 [(iq r19.1.weight), (iq r19.1.least), v20]), (oBox g4 143 [v25, (fq 88)]), (oRow v25 138 tyS_huff_tree r23.2.items), (oRow v8 3 tq l13x7)] [(fDat (tyList tq) [v24] r23.1.symbols), (fDat (tyList tq) [v20] r19.1.symbols), (fDat (tyList tq) [v0_0] a0)]) X_ Y_) (S := over (put (tab [(4, (pq g4)), (7, v8), (8, (pq g26)), (9, (pq g27)), (87, v32)]) 79 (ptr g27 1)) F_) ?_
 refine al_val (ov_load (i := 2) (v := (iq r23.1.least)) rfl rfl Tryd.underlying3 sz3 rfl rfl rfl rfl) ?_
 refine al_nil ?_
 exact fr_fin hK_ ()⟩, ⟨_, rfl, [6, 8], rfl, by
 intro _
 intro _
 intro X_ Y_ F_ K_ hK_
 refine al_show (m := Mem.plus (memOf w0 Z0 [] [(oRow v32 3 tq r31), (oRow v28 71 (tyList tq) [r19.1.symbols, r23.1.symbols]), (oBox g27 138 [(iq r23.1.weight), (iq r23.1.least), v24]), (oBox g26 138 [(iq r19.1.weight), (iq r19.1.least), v20]), (oBox g4 143 [v25, (fq 88)]), (oRow v25 138 tyS_huff_tree r23.2.items), (oRow v8 3 tq l13x7)] [(fDat (tyList tq) [v24] r23.1.symbols), (fDat (tyList tq) [v20] r19.1.symbols), (fDat (tyList tq) [v0_0] a0)]) X_ Y_) (S := over (put (put (tab [(4, (pq g4)), (7, v8), (8, (pq g26)), (9, (pq g27)), (87, v32)]) 78 (iq r19.1.least)) 80 (iq r23.1.least)) F_) ?_
 refine al_val (ov_min rfl rfl rfl) ?_
 refine al_nil ?_
 exact fr_fin hK_ ()⟩, ⟨_, rfl, [], rfl, by
 intro X_ Y_ F_ K_ hK_
 refine al_show (m := Mem.plus (memOf w0 Z0 [] [(oRow v32 3 tq r31), (oRow v28 71 (tyList tq) [r19.1.symbols, r23.1.symbols]), (oBox g27 138 [(iq r23.1.weight), (iq r23.1.least), v24]), (oBox g26 138 [(iq r19.1.weight), (iq r19.1.least), v20]), (oBox g4 143 [v25, (fq 88)]), (oRow v25 138 tyS_huff_tree r23.2.items), (oRow v8 3 tq l13x7)] [(fDat (tyList tq) [v24] r23.1.symbols), (fDat (tyList tq) [v20] r19.1.symbols), (fDat (tyList tq) [v0_0] a0)]) X_ Y_) (S := over (tab [(4, (pq g4)), (7, v8), (8, (pq g26)), (9, (pq g27)), (87, v32)]) F_) ?_
 refine al_alloc (zs := [(iq (0 : Int)), (iq (0 : Int)), nS]) (zeroOf_to to138) rfl rfl (fun g29 => ?_)
 refine al_nil ?_
 exact fr_fin hK_ g29⟩, ⟨_, rfl, [4, 9], rfl, by
 intro _
 intro _
 intro X_ Y_ F_ K_ hK_
 refine al_show (m := Mem.plus (memOf w0 Z0 [] [(oRow v32 3 tq r31), (oRow v28 71 (tyList tq) [r19.1.symbols, r23.1.symbols]), (oBox g27 138 [(iq r23.1.weight), (iq r23.1.least), v24]), (oBox g26 138 [(iq r19.1.weight), (iq r19.1.least), v20]), (oBox g4 143 [v25, (fq 88)]), (oRow v25 138 tyS_huff_tree r23.2.items), (oRow v8 3 tq l13x7)] [(fDat (tyList tq) [v24] r23.1.symbols), (fDat (tyList tq) [v20] r19.1.symbols), (fDat (tyList tq) [v0_0] a0)]) X_ Y_) (S := over (put (put (tab [(4, (pq g4)), (7, v8), (8, (pq g26)), (9, (pq g27)), (87, v32)]) 76 (iq (wq (r19.1.weight + r23.1.weight)))) 81 (iq (if r23.1.least < r19.1.least then r23.1.least else r19.1.least))) F_) ?_
 refine al_val (ov_build (cells := ([(iq (wq (r19.1.weight + r23.1.weight))), (iq (if r23.1.least < r19.1.least then r23.1.least else r19.1.least)), v32]).toArray) (cs := [(iq (wq (r19.1.weight + r23.1.weight))), (iq (if r23.1.least < r19.1.least then r23.1.least else r19.1.least)), v32]) rfl (fun w a hm hs => by simp only [List.map_toArray, List.map_cons, List.map_nil, List.toList_toArray, hs.ev (x := .tmp 76) rfl, hs.ev (x := .tmp 81) rfl, hs.ev (x := .tmp 87) rfl]; obtain ⟨A0, l0, c0, e0⟩ := sl_own 0 rfl hm; rw [e0]; kernel_rfl)) ?_
 refine al_nil ?_
 exact fr_fin hK_ ()⟩, trivial⟩ ?_
       intro _
       intro _
       intro _
       intro _
       intro _
       intro _
       intro _
       intro _
       intro _
       intro _
       intro g29
       intro _
       intro X_ Y_ F_ K_ hK_
       refine al_show (m := Mem.plus (memOf w0 Z0 [] [(oBox g29 138 [(iq (0 : Int)), (iq (0 : Int)), nS]), (oRow v32 3 tq r31), (oRow v28 71 (tyList tq) [r19.1.symbols, r23.1.symbols]), (oBox g27 138 [(iq r23.1.weight), (iq r23.1.least), v24]), (oBox g26 138 [(iq r19.1.weight), (iq r19.1.least), v20]), (oBox g4 143 [v25, (fq 88)]), (oRow v25 138 tyS_huff_tree r23.2.items), (oRow v8 3 tq l13x7)] [(fDat (tyList tq) [v24] r23.1.symbols), (fDat (tyList tq) [v20] r19.1.symbols), (fDat (tyList tq) [v0_0] a0)]) X_ Y_) (S := over (put (put (put (put (put (put (put (put (put (put (put (put (tab [(4, (pq g4)), (7, v8), (8, (pq g26)), (9, (pq g27)), (87, v32)]) 72 (pq g26)) 73 (iq r19.1.weight)) 74 (pq g27)) 75 (iq r23.1.weight)) 76 (iq (wq (r19.1.weight + r23.1.weight)))) 77 (ptr g26 1)) 78 (iq r19.1.least)) 79 (ptr g27 1)) 80 (iq r23.1.least)) 81 (iq (if r23.1.least < r19.1.least then r23.1.least else r19.1.least))) 10 (pq g29)) 88 (ag [(iq (wq (r19.1.weight + r23.1.weight))), (iq (if r23.1.least < r19.1.least then r23.1.least else r19.1.least)), v32])) F_) ?_
       refine al_store (i := 0) (vs := [(iq (wq (r19.1.weight + r23.1.weight))), (iq (if r23.1.least < r19.1.least then r23.1.least else r19.1.least)), v32]) (cs' := [(iq (wq (r19.1.weight + r23.1.weight))), (iq (if r23.1.least < r19.1.least then r23.1.least else r19.1.least)), v32]) rfl rfl rfl sz138 (cv_rfl rfl) rfl (co_val rfl (co_val rfl (co_own 1 rfl co_nil))) (Nat.le_of_ble_eq_true rfl) rfl rfl ?_
       refine al_nil ?_
       refine aq_show (m := Mem.plus (memOf w0 Z0 [] [(oBox g29 138 [(iq (wq (r19.1.weight + r23.1.weight))), (iq (if r23.1.least < r19.1.least then r23.1.least else r19.1.least)), v32]), (oRow v32 3 tq r31), (oRow v28 71 (tyList tq) [r19.1.symbols, r23.1.symbols]), (oBox g27 138 [(iq r23.1.weight), (iq r23.1.least), v24]), (oBox g26 138 [(iq r19.1.weight), (iq r19.1.least), v20]), (oBox g4 143 [v25, (fq 88)]), (oRow v25 138 tyS_huff_tree r23.2.items), (oRow v8 3 tq l13x7)] [(fDat (tyList tq) [v24] r23.1.symbols), (fDat (tyList tq) [v20] r19.1.symbols), (fDat (tyList tq) [v0_0] a0)]) X_ Y_) ?_
       refine aq_next hK_ [0, 1, 2, 3, 4, 5, 6, 7] [0, 1, 2] [(4, (pq g4)), (7, v8), (10, (pq g29))] [] [] rfl rfl (by decide) rfl ⟨rfl, rfl, rfl, trivial⟩ trivial ?_
       clear hK_ K_ F_ X_ Y_
       refine ta_show (m := (memOf w0 Z0 [] [(oBox g29 138 [(iq (wq (r19.1.weight + r23.1.weight))), (iq (if r23.1.least < r19.1.least then r23.1.least else r19.1.least)), v32]), (oRow v32 3 tq r31), (oRow v28 71 (tyList tq) [r19.1.symbols, r23.1.symbols]), (oBox g27 138 [(iq r23.1.weight), (iq r23.1.least), v24]), (oBox g26 138 [(iq r19.1.weight), (iq r19.1.least), v20]), (oBox g4 143 [v25, (fq 88)]), (oRow v25 138 tyS_huff_tree r23.2.items), (oRow v8 3 tq l13x7)] [(fDat (tyList tq) [v24] r23.1.symbols), (fDat (tyList tq) [v20] r19.1.symbols), (fDat (tyList tq) [v0_0] a0)])) (S := (tab [(4, (pq g4)), (7, v8), (10, (pq g29))])) ?_
       refine ta_end [] [] rfl rfl (by kernel_rfl) rfl trivial ?_
       refine aq_show (m := (memOf w0 Z0 [] [(oBox g29 138 [(iq (wq (r19.1.weight + r23.1.weight))), (iq (if r23.1.least < r19.1.least then r23.1.least else r19.1.least)), v32]), (oRow v32 3 tq r31), (oRow v28 71 (tyList tq) [r19.1.symbols, r23.1.symbols]), (oBox g27 138 [(iq r23.1.weight), (iq r23.1.least), v24]), (oBox g26 138 [(iq r19.1.weight), (iq r19.1.least), v20]), (oBox g4 143 [v25, (fq 88)]), (oRow v25 138 tyS_huff_tree r23.2.items), (oRow v8 3 tq l13x7)] [(fDat (tyList tq) [v24] r23.1.symbols), (fDat (tyList tq) [v20] r19.1.symbols), (fDat (tyList tq) [v0_0] a0)])) (S := (tab [(4, (pq g4)), (7, v8), (10, (pq g29))])) ?_
       refine aq_then ?_
       obtain ⟨kk34, hkk34, h⟩ := lt_some h
       refine aw_seq_join (ι := (List Int)) (fun i => (memOf w0 Z0 [] [(oRow v25 138 tyS_huff_tree r23.2.items), (oBox g4 143 [v25, (fq 88)]), (oRow v8 3 tq i), (oRow v32 3 tq r31), (oBox g29 138 [(iq (wq (r19.1.weight + r23.1.weight))), (iq (if r23.1.least < r19.1.least then r23.1.least else r19.1.least)), v32])] [(fDat (tyList tq) [v24] r23.1.symbols), (fDat (tyList tq) [v20] r19.1.symbols), (fDat (tyList tq) [v0_0] a0)])) (fun i => (tab [(4, (pq g4)), (7, v8), (10, (pq g29))])) (fun i => kk34 i = some r) ?_ ?_
       ·rintro j33x7 h
        have h : kk34 j33x7 = some r := h
        rw [hkk34] at h
        dsimp only at h
        clear hkk34
        refine aw_show (m := (memOf w0 Z0 [] [(oRow v25 138 tyS_huff_tree r23.2.items), (oBox g4 143 [v25, (fq 88)]), (oRow v8 3 tq j33x7), (oRow v32 3 tq r31), (oBox g29 138 [(iq (wq (r19.1.weight + r23.1.weight))), (iq (if r23.1.least < r19.1.least then r23.1.least else r19.1.least)), v32])] [(fDat (tyList tq) [v24] r23.1.symbols), (fDat (tyList tq) [v20] r19.1.symbols), (fDat (tyList tq) [v0_0] a0)])) (S := (tab [(4, (pq g4)), (7, v8), (10, (pq g29))])) ?_
        refine aw_region ?_
        refine al_mv rfl rfl ?_
        refine al_val (ov_load (i := 4) (v := (ag [(iq (wq (r19.1.weight + r23.1.weight))), (iq (if r23.1.least < r19.1.least then r23.1.least else r19.1.least)), v32])) rfl rfl Tryd.underlying138 sz138 rfl rfl rfl rfl) ?_
        refine al_freeze 3 rfl rfl ?_
        obtain ⟨r36, hc35, h⟩ := opt_some h
        refine al_call (vs := [(pq g4), (ag [(iq (wq (r19.1.weight + r23.1.weight))), (iq (if r23.1.least < r19.1.least then r23.1.least else r19.1.least)), v32])]) (f___huff_heap_huff_tree___push_ok fu g4 v25 r23.2 v32 (S_huff_tree.mk (wq (r19.1.weight + r23.1.weight)) (if r23.1.least < r19.1.least then r23.1.least else r19.1.least) r31) hc35) [] [1, 0] [2, 3] (pre_fz 0 rfl pre_nil) rfl (by simp) (by decide) (.inl rfl) rfl Tryd.func90 rfl rfl rfl (fun v37 => ?_)
        refine al_nil ?_
        refine aq_block ?_
        exact aq_join (v37, r36.items, j33x7) h (fun w a hm hs => norm hm hs [1, 0, 2] [3] [(4, (pq g4)), (7, v8)] (by decide) ⟨rfl, rfl, trivial⟩)
       ·clear hkk34
        refine aw_sr ?_
        refine al_val (ov_fieldA (p := 2) rfl Tryd.underlying138 rfl sz71 rfl rfl rfl) ?_
        refine al_val (ov_load (i := 0) (v := v32) rfl rfl Tryd.underlying71 sz71 rfl rfl rfl rfl) ?_
        refine al_val (ov_lenR 1 rfl rfl Tryd.underlying71 rfl) ?_
        refine al_mv rfl rfl ?_
        refine al_nt ?_
        refine aw_block ?_
        refine aw_state (aw_loop (ι := (List Int) × Int) (fun i => (memOf w0 Z0 [] [(oRow v25 138 tyS_huff_tree r23.2.items), (oBox g4 143 [v25, (fq 88)]), (oRow v8 3 tq i.1), (oRow v32 3 tq r31), (oBox g29 138 [(iq (wq (r19.1.weight + r23.1.weight))), (iq (if r23.1.least < r19.1.least then r23.1.least else r19.1.least)), v32])] [(fDat (tyList tq) [v24] r23.1.symbols), (fDat (tyList tq) [v20] r19.1.symbols), (fDat (tyList tq) [v0_0] a0)])) (fun i => (tab [(4, (pq g4)), (7, v8), (10, (pq g29)), (90, v32), (91, (iq (r31.length : Int))), (92, (iq i.2))])) (fun q i => f_huff_Lengths_L40 r31 kk34 q i.1 i.2 = some r) ?_ fu (l13x7, (0 : Int)) h) (fun w a hm hs => norm hm hs [6, 5, 7, 1, 0] [0, 1, 2] [(4, (pq g4)), (7, v8), (10, (pq g29)), (90, v32), (91, (iq (r31.length : Int))), (92, (iq (0 : Int)))] (by decide) ⟨rfl, rfl, rfl, rfl, rfl, rfl, trivial⟩)
        clear h
        rintro k39 ⟨l38x7, l38i92⟩ h
        have h : f_huff_Lengths_L40 r31 kk34 k39 l38x7 l38i92 = some r := h
        obtain _ | k39 := k39
        · rw [f_huff_Lengths_L40] at h; cases h
        rw [f_huff_Lengths_L40] at h
        refine aw_show (m := (memOf w0 Z0 [] [(oRow v25 138 tyS_huff_tree r23.2.items), (oBox g4 143 [v25, (fq 88)]), (oRow v8 3 tq l38x7), (oRow v32 3 tq r31), (oBox g29 138 [(iq (wq (r19.1.weight + r23.1.weight))), (iq (if r23.1.least < r19.1.least then r23.1.least else r19.1.least)), v32])] [(fDat (tyList tq) [v24] r23.1.symbols), (fDat (tyList tq) [v20] r19.1.symbols), (fDat (tyList tq) [v0_0] a0)])) (S := (tab [(4, (pq g4)), (7, v8), (10, (pq g29)), (90, v32), (91, (iq (r31.length : Int))), (92, (iq l38i92))])) ?_
        refine aw_sr ?_
        refine al_in rfl rfl rfl rfl ?_
        refine al_nt ?_
        refine aw_seq ?_
        refine aw_cond rfl (fun hb41 => ?_) (fun hb41 => ?_)
        ·replace h := bif_t hb41 h
         refine aw_skip ?_
         refine aq_then ?_
         refine aw_seq ?_
         refine aw_block ?_
         refine aw_sr ?_
         obtain ⟨u42, hu43, h⟩ := opt_some h
         refine al_idxR 3 (at_some hu43).1 (at_some hu43).2.1 rfl rfl rfl Tryd.underlying71 sz3 rfl (fun p44 hp45 => ?_)
         refine al_val (ov_loadR (ds := [(iq u42)]) 3 rfl hp45 (at_some hu43).2.2 (fun h => h) rfl Tryd.underlying3 sz3 rfl rfl rfl) ?_
         refine al_as rfl rfl ?_
         refine al_nt ?_
         refine aw_region ?_
         refine al_mv rfl rfl ?_
         refine al_mv rfl rfl ?_
         obtain ⟨u46, hu47, h⟩ := opt_some h
         refine al_idxR 2 (at_some hu47).1 (at_some hu47).2.1 rfl rfl rfl Tryd.underlying71 sz3 rfl (fun p48 hp49 => ?_)
         refine al_val (ov_loadR (ds := [(iq u46)]) 2 rfl hp49 (at_some hu47).2.2 (fun h => h) rfl Tryd.underlying3 sz3 rfl rfl rfl) ?_
         refine al_in rfl rfl rfl rfl ?_
         obtain ⟨u50, hu51, h⟩ := opt_some h
         refine al_idxR 2 (at_some hu51).1 (at_some hu51).2.1 rfl rfl rfl Tryd.underlying71 sz3 rfl (fun p52 hp53 => ?_)
         refine al_storeR (k := (u42).toNat) (x := (wq (u46 + (1 : Int)))) (vs := [(iq (wq (u46 + (1 : Int))))]) 2 rfl hp53 (idx_lt hu51) rfl rfl (cv_rfl rfl) (fun _ => rfl) sz3 rfl ?_
         refine al_nil ?_
         refine aq_block ?_
         refine aq_then ?_
         refine aw_region ?_
         refine al_in rfl rfl rfl rfl ?_
         refine al_mv rfl rfl ?_
         refine al_nil ?_
         exact aq_again k39 ((l38x7.set (u42).toNat (wq (u46 + (1 : Int)))), (wq (l38i92 + (1 : Int)))) (Nat.lt_succ_self _) h (fun w a hm hs => norm hm hs [0, 1, 2, 3, 4] [0, 1, 2] [(4, (pq g4)), (7, v8), (10, (pq g29)), (90, v32), (91, (iq (r31.length : Int))), (92, (iq (wq (l38i92 + (1 : Int)))))] (by decide) ⟨rfl, rfl, rfl, rfl, rfl, rfl, trivial⟩)
        ·replace h := bif_f hb41 h
         refine aw_exit ?_
         refine aq_then_exit ?_
         refine aq_then_exit ?_
         refine aq_block_exit ?_
         exact aq_join l38x7 h (fun w a hm hs => norm hm hs [0, 1, 2, 3, 4] [0, 1, 2] [(4, (pq g4)), (7, v8), (10, (pq g29))] (by decide) ⟨rfl, rfl, rfl, trivial⟩)
      ·replace h := bif_f hb17 h
       refine aw_exit ?_
       refine aq_then_exit ?_
       refine aq_then_exit ?_
       refine aq_block_exit ?_
       exact aq_join l13x7 h (fun w a hm hs => norm hm hs [2] [0] [(7, v8)] (by decide) ⟨rfl, trivial⟩)
    ·clear hkk10
     refine aw_sr ?_
     refine al_mv rfl rfl ?_
     refine al_val (ov_nilCheck rfl rfl) ?_
     refine al_val (ov_fieldA (p := 0) rfl Tryd.underlying143 rfl sz141 rfl rfl rfl) ?_
     refine al_val (ov_load (i := 2) (v := j5v4_0) rfl rfl Tryd.underlying141 sz141 rfl rfl rfl rfl) ?_
     refine al_val (ov_lenR 1 rfl rfl Tryd.underlying141 rfl) ?_
     refine al_in rfl rfl rfl rfl ?_
     refine al_nt ?_
     refine aw_cond rfl (fun hb54 => ?_) (fun hb54 => ?_)
     ·replace h := bif_t hb54 h
      refine aw_region ?_
      refine al_mv rfl rfl ?_
      refine al_mv rfl rfl ?_
      refine al_val (ov_nilCheck rfl rfl) ?_
      refine al_val (ov_fieldA (p := 0) rfl Tryd.underlying143 rfl sz141 rfl rfl rfl) ?_
      refine al_val (ov_load (i := 2) (v := j5v4_0) rfl rfl Tryd.underlying141 sz141 rfl rfl rfl rfl) ?_
      obtain ⟨u55, hu56, h⟩ := opt_some h
      refine al_idxR 1 (at_some hu56).1 (at_some hu56).2.1 rfl rfl rfl Tryd.underlying141 sz138 rfl (fun p57 hp58 => ?_)
      refine al_fieldR hp58 rfl Tryd.underlying138 rfl sz3 rfl rfl (fun p59 hp60 => ?_)
      refine al_val (ov_loadF (ds := [(iq u55.least)]) 1 rfl hp60 (at_some hu56).2.2 subS_huff_tree_1 (fun h => h) rfl Tryd.underlying3 sz3 rfl rfl rfl) ?_
      obtain ⟨u61, hu62, h⟩ := opt_some h
      refine al_idxR 0 (at_some hu62).1 (at_some hu62).2.1 rfl rfl rfl Tryd.underlying71 sz3 rfl (fun p63 hp64 => ?_)
      refine al_storeR (k := (u55.least).toNat) (x := (1 : Int)) (vs := [(iq (1 : Int))]) 0 rfl hp64 (idx_lt hu62) rfl rfl (cv_rfl rfl) (fun _ => rfl) sz3 rfl ?_
      refine al_nil ?_
      exact aq_join ((List.replicate ((a0.length : Int)).toNat 0).set (u55.least).toNat (1 : Int)) h (fun w a hm hs => norm hm hs [1, 2, 0] [0] [(4, (pq g4)), (7, v8)] (by decide) ⟨rfl, rfl, trivial⟩)
     ·replace h := bif_f hb54 h
      refine aw_skip ?_
      exact aq_join (List.replicate ((a0.length : Int)).toNat 0) h (fun w a hm hs => norm hm hs [1, 2, 0] [0] [(4, (pq g4)), (7, v8)] (by decide) ⟨rfl, rfl, trivial⟩)
   ·clear hkk6
    refine aw_sr ?_
    refine al_mv rfl rfl ?_
    refine al_val (ov_lenD 0 rfl rfl Tryd.underlying71 rfl) ?_
    refine al_mv rfl rfl ?_
    refine al_nt ?_
    refine aw_block ?_
    refine aw_nilR 138 tyS_huff_tree ?_
    refine aw_state (aw_loop (ι := Value × (List S_huff_tree) × Int) (fun i => (memOf w0 Z0 [] [(oRow i.1 138 tyS_huff_tree i.2.1), (oBox g4 143 [i.1, (fq 88)])] [(fDat (tyList tq) [v0_0] a0)])) (fun i => (tab [(0, v0_0), (4, (pq g4)), (27, v0_0), (28, (iq (a0.length : Int))), (29, (iq i.2.2))])) (fun q i => f_huff_Lengths_L67 a0 kk6 fu q i.2.1 i.2.2 = some r) ?_ fu (nS, ([] : List S_huff_tree), (0 : Int)) h) (fun w a hm hs => norm hm hs [0, 1] [0] [(0, v0_0), (4, (pq g4)), (27, v0_0), (28, (iq (a0.length : Int))), (29, (iq (0 : Int)))] (by decide) ⟨rfl, rfl, rfl, rfl, rfl, trivial⟩)
    clear h
    rintro k66 ⟨l65v4_0, l65x4_0, l65i29⟩ h
    have h : f_huff_Lengths_L67 a0 kk6 fu k66 l65x4_0 l65i29 = some r := h
    obtain _ | k66 := k66
    · rw [f_huff_Lengths_L67] at h; cases h
    rw [f_huff_Lengths_L67] at h
    refine aw_show (m := (memOf w0 Z0 [] [(oRow l65v4_0 138 tyS_huff_tree l65x4_0), (oBox g4 143 [l65v4_0, (fq 88)])] [(fDat (tyList tq) [v0_0] a0)])) (S := (tab [(0, v0_0), (4, (pq g4)), (27, v0_0), (28, (iq (a0.length : Int))), (29, (iq l65i29))])) ?_
    refine aw_sr ?_
    refine al_in rfl rfl rfl rfl ?_
    refine al_nt ?_
    refine aw_seq ?_
    refine aw_cond rfl (fun hb68 => ?_) (fun hb68 => ?_)
    ·replace h := bif_t hb68 h
     refine aw_skip ?_
     refine aq_then ?_
     obtain ⟨kk70, hkk70, h⟩ := lt_some h
     refine aw_seq_join (ι := Value × (List S_huff_tree)) (fun i => (memOf w0 Z0 [] [(oRow i.1 138 tyS_huff_tree i.2), (oBox g4 143 [i.1, (fq 88)])] [(fDat (tyList tq) [v0_0] a0)])) (fun i => (tab [(0, v0_0), (4, (pq g4)), (27, v0_0), (28, (iq (a0.length : Int))), (29, (iq l65i29))])) (fun i => kk70 i.2 = some r) ?_ ?_
     ·rintro ⟨j69v4_0, j69x4_0⟩ h
      have h : kk70 j69x4_0 = some r := h
      rw [hkk70] at h
      dsimp only at h
      clear hkk70
      refine aw_show (m := (memOf w0 Z0 [] [(oRow j69v4_0 138 tyS_huff_tree j69x4_0), (oBox g4 143 [j69v4_0, (fq 88)])] [(fDat (tyList tq) [v0_0] a0)])) (S := (tab [(0, v0_0), (4, (pq g4)), (27, v0_0), (28, (iq (a0.length : Int))), (29, (iq l65i29))])) ?_
      refine aw_region ?_
      refine al_in rfl rfl rfl rfl ?_
      refine al_mv rfl rfl ?_
      refine al_nil ?_
      exact aq_again k66 (j69v4_0, j69x4_0, (wq (l65i29 + (1 : Int)))) (Nat.lt_succ_self _) h (fun w a hm hs => norm hm hs [0, 1] [0] [(0, v0_0), (4, (pq g4)), (27, v0_0), (28, (iq (a0.length : Int))), (29, (iq (wq (l65i29 + (1 : Int)))))] (by decide) ⟨rfl, rfl, rfl, rfl, rfl, trivial⟩)
     ·clear hkk70
      refine aw_block ?_
      refine aw_sr ?_
      refine al_mv rfl rfl ?_
      obtain ⟨u71, hu72, h⟩ := opt_some h
      refine al_idxD 0 hu72 rfl rfl rfl Tryd.underlying71 sz3 rfl (fun p73 => ?_)
      refine al_val (ov_loadP (ds := [(iq u71)]) 0 rfl (fun h => h) rfl Tryd.underlying3 sz3 rfl rfl rfl) ?_
      refine al_as rfl rfl ?_
      refine al_as rfl rfl ?_
      refine al_nt ?_
      refine aw_sr ?_
      refine al_mv rfl rfl ?_
      refine al_in rfl rfl rfl rfl ?_
      refine al_nt ?_
      refine aw_cond rfl (fun hb74 => ?_) (fun hb74 => ?_)
      ·replace h := bif_t hb74 h
       refine aw_region ?_
       refine al_mv rfl rfl ?_
       refine al_mv rfl rfl ?_
       refine al_mv rfl rfl ?_
       refine al_mv rfl rfl ?_
       refine al_buildSlice (τ := tq) (e := 3) (k := 1) (sz := 0) (by_ := 0) (z := undef) (cs := [(iq l65i29)]) (xs := [l65i29]) rfl (by decide) (fun w a hm hs => ⟨([(iq l65i29)]).toArray, rfl, by simp only [List.map_toArray, List.map_cons, List.map_nil, hs.ev (x := .tmp 39) rfl]; exact run_bs [(iq l65i29)] [(iq l65i29)] Tryd.underlying71 to3 rfl rfl (bs_cons (l := [(iq l65i29)]) (cs := []) (cv_rfl rfl) rfl bs_nil) hm⟩) (fun hm => ⟨_, _, rfl, (fun _ => rfl) hm, rfl⟩) rfl (fun v75 => ?_)
       refine al_val (ov_build (cells := ([(iq u71), (iq l65i29), v75]).toArray) (cs := [(iq u71), (iq l65i29), v75]) rfl (fun w a hm hs => by simp only [List.map_toArray, List.map_cons, List.map_nil, List.toList_toArray, hs.ev (x := .tmp 37) rfl, hs.ev (x := .tmp 38) rfl, hs.ev (x := .tmp 40) rfl]; obtain ⟨A0, l0, c0, e0⟩ := sl_own 0 rfl hm; rw [e0]; kernel_rfl)) ?_
       refine al_freeze 0 rfl rfl ?_
       obtain ⟨r77, hc76, h⟩ := opt_some h
       refine al_call (vs := [(pq g4), (ag [(iq u71), (iq l65i29), v75])]) (f___huff_heap_huff_tree___push_ok fu g4 l65v4_0 (D_huff_heap_huff_tree_.mk l65x4_0) v75 (S_huff_tree.mk u71 l65i29 ([l65i29])) hc76) [] [1, 0] [] (pre_fz 0 rfl pre_nil) rfl (by simp) (by decide) (.inl rfl) rfl Tryd.func90 rfl rfl rfl (fun v78 => ?_)
       refine al_nil ?_
       refine aq_block ?_
       exact aq_join (v78, r77.items) h (fun w a hm hs => norm hm hs [1, 0] [2] [(0, v0_0), (4, (pq g4)), (27, v0_0), (28, (iq (a0.length : Int))), (29, (iq l65i29))] (by decide) ⟨rfl, rfl, rfl, rfl, rfl, trivial⟩)
      ·replace h := bif_f hb74 h
       refine aw_skip ?_
       refine aq_block ?_
       exact aq_join (l65v4_0, l65x4_0) h (fun w a hm hs => norm hm hs [0, 1] [1] [(0, v0_0), (4, (pq g4)), (27, v0_0), (28, (iq (a0.length : Int))), (29, (iq l65i29))] (by decide) ⟨rfl, rfl, rfl, rfl, rfl, trivial⟩)
    ·replace h := bif_f hb68 h
     refine aw_exit ?_
     refine aq_then_exit ?_
     refine aq_then_exit ?_
     refine aq_block_exit ?_
     exact aq_join (l65v4_0, l65x4_0) h (fun w a hm hs => norm hm hs [0, 1] [0] [(0, v0_0), (4, (pq g4))] (by decide) ⟨rfl, rfl, trivial⟩)
 ·clear hkk2
  refine aw_region ?_
  refine al_mv rfl rfl ?_
  refine al_val (ov_lenD 0 rfl rfl Tryd.underlying71 rfl) ?_
  refine al_in rfl rfl rfl rfl ?_
  refine al_mv rfl rfl ?_
  refine al_caseB 16 rfl (fun hb79 => ?_) (fun hb79 => ?_)
  ·replace h := bif_t hb79 h
   refine al_skip ?_
   refine al_skip ?_
   refine al_skip ?_
   refine al_val (ov_pick_t rfl rfl rfl) ?_
   refine al_mv rfl rfl ?_
   refine al_skip ?_
   refine al_skip ?_
   refine al_val (ov_pick_t rfl rfl rfl) ?_
   refine al_nil ?_
   exact aq_join true h (fun w a hm hs => norm hm hs [] [0] [(0, v0_0), (24, (bool true))] (by decide) ⟨rfl, rfl, trivial⟩)
  ·replace h := bif_f hb79 h
   refine al_mv rfl rfl ?_
   refine al_val (ov_lenD 0 rfl rfl Tryd.underlying71 rfl) ?_
   refine al_in rfl rfl rfl rfl ?_
   refine al_val (ov_pick_f rfl rfl rfl) ?_
   refine al_mv rfl rfl ?_
   refine al_caseB 21 rfl (fun hb80 => ?_) (fun hb80 => ?_)
   ·replace h := bif_t hb80 h
    refine al_skip ?_
    refine al_skip ?_
    refine al_val (ov_pick_t rfl rfl rfl) ?_
    refine al_nil ?_
    exact aq_join true h (fun w a hm hs => norm hm hs [] [0] [(0, v0_0), (24, (bool true))] (by decide) ⟨rfl, rfl, trivial⟩)
   ·replace h := bif_f hb80 h
    refine al_mv rfl rfl ?_
    obtain ⟨r82, hc81, h⟩ := opt_some h
    refine al_call (vs := [v0_0, (fq 87)]) (f_slices_ContainsFunc___int_int__F87_ok fu v0_0 a0 hc81) [] [] [] (pre_fz 0 rfl pre_nil) rfl (by simp) (by decide) (.inl rfl) rfl Tryd.func86 rfl rfl rfl (fun _ => ?_)
    refine al_val (ov_pick_f rfl rfl rfl) ?_
    refine al_nil ?_
    exact aq_join r82 h (fun w a hm hs => norm hm hs [] [0] [(0, v0_0), (24, (bool r82))] (by decide) ⟨rfl, rfl, trivial⟩)
def f_huff_Kraft_1 (fu : Nat) (a0 : Int) : Option Bool := (lt (fun (j1b2 : Bool) => (some j1b2)) fun (kk2 : Bool → Option Bool) => (bif (decide (a0 < (0 : Int))) then (kk2 true) else (kk2 (decide (a0 > (48 : Int))))))
set_option maxHeartbeats 2000000 in
set_option maxRecDepth 100000 in
theorem f_huff_Kraft_1_ok (fu : Nat) (a0 : Int) {r : Bool} (h : f_huff_Kraft_1 fu a0 = some r) : FnOk Tryd.prog 144 [(int .i64 a0)] [] [] (fun (i : Unit) => { val := (bool r) }) := by
 unfold f_huff_Kraft_1 at h
 refine fn_enter Tryd.func144 rfl Tryd.ntmps144 rfl (fun w0 Z0 => ?_)
 refine aw_sr ?_
 refine al_as rfl rfl ?_
 refine al_nt ?_
 obtain ⟨kk2, hkk2, h⟩ := lt_some h
 refine aw_seq_join (ι := Bool) (fun i => (memOf w0 Z0 [] [] [])) (fun i => (tab [(2, (bool i))])) (fun i => kk2 i = some r) ?_ ?_
 ·rintro j1b2 h
  have h : kk2 j1b2 = some r := h
  rw [hkk2] at h
  dsimp only at h
  clear hkk2
  refine aw_show (m := (memOf w0 Z0 [] [] [])) (S := (tab [(2, (bool j1b2))])) ?_
  refine aw_ret ?_
  obtain rfl := Option.some.inj h
  exact fn_ret () [] [] rfl rfl rfl rfl (res1 rfl rfl) rfl rfl rfl (by decide)
 ·clear hkk2
  refine aw_region ?_
  refine al_mv rfl rfl ?_
  refine al_in rfl rfl rfl rfl ?_
  refine al_mv rfl rfl ?_
  refine al_caseB 5 rfl (fun hb3 => ?_) (fun hb3 => ?_)
  ·replace h := bif_t hb3 h
   refine al_skip ?_
   refine al_skip ?_
   refine al_val (ov_pick_t rfl rfl rfl) ?_
   refine al_as rfl rfl ?_
   refine al_nil ?_
   exact aq_join true h (fun w a hm hs => norm hm hs [] [] [(2, (bool true))] (by decide) ⟨rfl, trivial⟩)
  ·replace h := bif_f hb3 h
   refine al_mv rfl rfl ?_
   refine al_in rfl rfl rfl rfl ?_
   refine al_val (ov_pick_f rfl rfl rfl) ?_
   refine al_as rfl rfl ?_
   refine al_nil ?_
   exact aq_join (decide (a0 > (48 : Int))) h (fun w a hm hs => norm hm hs [] [] [(2, (bool (decide (a0 > (48 : Int)))))] (by decide) ⟨rfl, trivial⟩)
def f_slices_IndexFunc___int_int__F144_L5 (a0 : (List Int)) (kk2 : (Unit → Option Int)) (fu : Nat) : Nat → Int → Option Int
  | 0, _ => none
  | k4 + 1, l3i8 => (bif (decide (l3i8 < (a0.length : Int))) then (opt (at? a0 l3i8) fun (u7 : Int) => (opt (f_huff_Kraft_1 fu u7) fun (r11 : Bool) => (bif r11 then (some l3i8) else (f_slices_IndexFunc___int_int__F144_L5 a0 kk2 fu k4 (IntKind.i64.wrap (l3i8 + (1 : Int))))))) else (kk2 ()))
def f_slices_IndexFunc___int_int__F144 (fu : Nat) (a0 : (List Int)) : Option Int := (lt (fun (_ : Unit) => (some (-1 : Int))) fun (kk2 : Unit → Option Int) => (f_slices_IndexFunc___int_int__F144_L5 a0 kk2 fu fu (0 : Int)))
set_option maxHeartbeats 2000000 in
set_option maxRecDepth 100000 in
theorem f_slices_IndexFunc___int_int__F144_ok (fu : Nat) (v0_0 : Value) (a0 : (List Int)) {r : Int} (h : f_slices_IndexFunc___int_int__F144 fu a0 = some r) : FnOk Tryd.prog 142 [v0_0, (Value.func (.func 144) #[] #[])] [(fDat (tyList (tyInt .i64)) [v0_0] a0)] [] (fun (i : Unit) => { val := (int .i64 r) }) := by
 unfold f_slices_IndexFunc___int_int__F144 at h
 refine fn_enter Tryd.func142 rfl Tryd.ntmps142 rfl (fun w0 Z0 => ?_)
 refine aw_sr ?_
 refine al_as rfl rfl ?_
 refine al_nt ?_
 obtain ⟨kk2, hkk2, h⟩ := lt_some h
 refine aw_seq_join (ι := Unit) (fun i => (memOf w0 Z0 [] [] [(fDat (tyList tq) [v0_0] a0)])) (fun i => (tab [])) (fun i => kk2 () = some r) ?_ ?_
 ·rintro _ h
  have h : kk2 () = some r := h
  rw [hkk2] at h
  dsimp only at h
  clear hkk2
  refine aw_show (m := (memOf w0 Z0 [] [] [(fDat (tyList tq) [v0_0] a0)])) (S := (tab [])) ?_
  refine aw_sr ?_
  refine al_as rfl rfl ?_
  refine al_nt ?_
  refine aw_ret ?_
  obtain rfl := Option.some.inj h
  exact fn_ret () [] [] rfl rfl rfl rfl (res1 rfl rfl) rfl rfl rfl (by decide)
 ·clear hkk2
  refine aw_sr ?_
  refine al_mv rfl rfl ?_
  refine al_val (ov_lenD 0 rfl rfl Tryd.underlying71 rfl) ?_
  refine al_mv rfl rfl ?_
  refine al_nt ?_
  refine aw_block ?_
  refine aw_state (aw_loop (ι := Int) (fun i => (memOf w0 Z0 [] [] [(fDat (tyList tq) [v0_0] a0)])) (fun i => (tab [(0, v0_0), (1, (fq 144)), (7, (iq (a0.length : Int))), (8, (iq i))])) (fun q i => f_slices_IndexFunc___int_int__F144_L5 a0 kk2 fu q i = some r) ?_ fu (0 : Int) h) (fun w a hm hs => norm hm hs [] [0] [(0, v0_0), (1, (fq 144)), (7, (iq (a0.length : Int))), (8, (iq (0 : Int)))] (by decide) ⟨rfl, rfl, rfl, rfl, trivial⟩)
  clear h
  rintro k4 l3i8 h
  have h : f_slices_IndexFunc___int_int__F144_L5 a0 kk2 fu k4 l3i8 = some r := h
  obtain _ | k4 := k4
  · rw [f_slices_IndexFunc___int_int__F144_L5] at h; cases h
  rw [f_slices_IndexFunc___int_int__F144_L5] at h
  refine aw_show (m := (memOf w0 Z0 [] [] [(fDat (tyList tq) [v0_0] a0)])) (S := (tab [(0, v0_0), (1, (fq 144)), (7, (iq (a0.length : Int))), (8, (iq l3i8))])) ?_
  refine aw_sr ?_
  refine al_in rfl rfl rfl rfl ?_
  refine al_nt ?_
  refine aw_seq ?_
  refine aw_cond rfl (fun hb6 => ?_) (fun hb6 => ?_)
  ·replace h := bif_t hb6 h
   refine aw_skip ?_
   refine aq_then ?_
   refine aw_seq ?_
   refine aw_block ?_
   refine aw_sr ?_
   refine al_mv rfl rfl ?_
   refine al_as rfl rfl ?_
   refine al_nt ?_
   refine aw_sr ?_
   refine al_mv rfl rfl ?_
   refine al_mv rfl rfl ?_
   refine al_mv rfl rfl ?_
   obtain ⟨u7, hu8, h⟩ := opt_some h
   refine al_idxD 0 hu8 rfl rfl rfl Tryd.underlying71 sz3 rfl (fun p9 => ?_)
   refine al_val (ov_loadP (ds := [(iq u7)]) 0 rfl (fun h => h) rfl Tryd.underlying3 sz3 rfl rfl rfl) ?_
   obtain ⟨r11, hc10, h⟩ := opt_some h
   refine al_callF (vs := [(iq u7)]) (caps := []) (f_huff_Kraft_1_ok fu u7 hc10) rfl [] [] [] pre_nil rfl (by simp) (by decide) (.inl rfl) rfl rfl Tryd.func144 rfl rfl rfl (fun _ => ?_)
   refine al_nt ?_
   refine aw_cond rfl (fun hb12 => ?_) (fun hb12 => ?_)
   ·replace h := bif_t hb12 h
    refine aw_sr ?_
    refine al_mv rfl rfl ?_
    refine al_as rfl rfl ?_
    refine al_nt ?_
    refine aw_ret ?_
    refine aq_block_ret ?_
    refine aq_then_ret ?_
    refine aq_then_ret ?_
    refine aq_block_ret ?_
    refine aq_then_ret ?_
    obtain rfl := Option.some.inj h
    exact fn_ret () [] [] rfl rfl rfl rfl (res1 rfl rfl) rfl rfl rfl (by decide)
   ·replace h := bif_f hb12 h
    refine aw_skip ?_
    refine aq_block ?_
    refine aq_then ?_
    refine aw_region ?_
    refine al_in rfl rfl rfl rfl ?_
    refine al_mv rfl rfl ?_
    refine al_nil ?_
    exact aq_again k4 (wq (l3i8 + (1 : Int))) (Nat.lt_succ_self _) h (fun w a hm hs => norm hm hs [] [1] [(0, v0_0), (1, (fq 144)), (7, (iq (a0.length : Int))), (8, (iq (wq (l3i8 + (1 : Int)))))] (by decide) ⟨rfl, rfl, rfl, rfl, trivial⟩)
  ·replace h := bif_f hb6 h
   refine aw_exit ?_
   refine aq_then_exit ?_
   refine aq_then_exit ?_
   refine aq_block_exit ?_
   exact aq_join () h (fun w a hm hs => norm hm hs [] [0] [] (by decide) trivial)
def f_slices_ContainsFunc___int_int__F144 (fu : Nat) (a0 : (List Int)) : Option Bool := (opt (f_slices_IndexFunc___int_int__F144 fu a0) fun (r2 : Int) => (some (decide (r2 ≥ (0 : Int)))))
set_option maxRecDepth 100000 in
theorem f_slices_ContainsFunc___int_int__F144_ok (fu : Nat) (v0_0 : Value) (a0 : (List Int)) {r : Bool} (h : f_slices_ContainsFunc___int_int__F144 fu a0 = some r) : FnOk Tryd.prog 86 [v0_0, (Value.func (.func 144) #[] #[])] [(fDat (tyList (tyInt .i64)) [v0_0] a0)] [] (fun (i : Unit) => { val := (bool r) }) := by
 unfold f_slices_ContainsFunc___int_int__F144 at h
 refine fn_enter Tryd.func86 rfl Tryd.ntmps86 rfl (fun w0 Z0 => ?_)
 refine aw_sr ?_
 refine al_as rfl rfl ?_
 refine al_nt ?_
 refine aw_sr ?_
 refine al_mv rfl rfl ?_
 refine al_mv rfl rfl ?_
 obtain ⟨r2, hc1, h⟩ := opt_some h
 refine al_call (vs := [v0_0, (fq 144)]) (f_slices_IndexFunc___int_int__F144_ok fu v0_0 a0 hc1) [] [] [] (pre_fz 0 rfl pre_nil) rfl (by simp) (by decide) (.inl rfl) rfl Tryd.func142 rfl rfl rfl (fun _ => ?_)
 refine al_in rfl rfl rfl rfl ?_
 refine al_as rfl rfl ?_
 refine al_nt ?_
 refine aw_ret ?_
 obtain rfl := Option.some.inj h
 exact fn_ret () [] [] rfl rfl rfl rfl (res1 rfl rfl) rfl rfl rfl (by decide)
def f_huff_Kraft_L8 (a0 : (List Int)) (kk5 : (Int → Option (Int × Int))) : Nat → Int → Int → Option (Int × Int)
  | 0, _, _ => none
  | k7 + 1, l6i4, l6i21 => (bif (decide (l6i21 < (a0.length : Int))) then (lt (fun (j10i4 : Int) => (f_huff_Kraft_L8 a0 kk5 k7 j10i4 (IntKind.i64.wrap (l6i21 + (1 : Int))))) fun (kk11 : Int → Option (Int × Int)) => (opt (at? a0 l6i21) fun (u12 : Int) => (bif (decide (u12 > (0 : Int))) then (req (0 ≤ (IntKind.i64.wrap ((48 : Int) - u12))) (kk11 (IntKind.i64.wrap (l6i4 + (IntKind.i64.wrap ((1 : Int) * 2 ^ min ((IntKind.i64.wrap ((48 : Int) - u12))).toNat (IntKind.bits .i64))))))) else (kk11 l6i4)))) else (kk5 l6i4))
def f_huff_Kraft (fu : Nat) (a0 : (List Int)) : Option (Int × Int) := (lt (fun (j1b18 : Bool) => (bif j1b18 then (some ((0 : Int), (1 : Int))) else (lt (fun (j4i4 : Int) => (some (j4i4, (0 : Int)))) fun (kk5 : Int → Option (Int × Int)) => (f_huff_Kraft_L8 a0 kk5 fu (0 : Int) (0 : Int))))) fun (kk2 : Bool → Option (Int × Int)) => (bif (decide ((a0.length : Int) < (1 : Int))) then (kk2 true) else (bif (decide ((a0.length : Int) > (256 : Int))) then (kk2 true) else (opt (f_slices_ContainsFunc___int_int__F144 fu a0) fun (r20 : Bool) => (kk2 r20)))))
set_option maxHeartbeats 2000000 in
set_option maxRecDepth 100000 in
theorem f_huff_Kraft_ok (fu : Nat) (v0_0 : Value) (a0 : (List Int)) {r : (Int × Int)} (h : f_huff_Kraft fu a0 = some r) : FnOk Tryd.prog 93 [v0_0] [(fDat (tyList (tyInt .i64)) [v0_0] a0)] [] (fun (i : Unit) => { val := (Value.tuple #[(int .i64 r.1), (int .i64 r.2)]) }) := by
 unfold f_huff_Kraft at h
 refine fn_enter Tryd.func93 rfl Tryd.ntmps93 rfl (fun w0 Z0 => ?_)
 refine aw_sr ?_
 refine al_as rfl rfl ?_
 refine al_as rfl rfl ?_
 refine al_nt ?_
 refine aw_seq ?_
 obtain ⟨kk2, hkk2, h⟩ := lt_some h
 refine aw_seq_join (ι := Bool) (fun i => (memOf w0 Z0 [] [] [(fDat (tyList tq) [v0_0] a0)])) (fun i => (tab [(0, v0_0), (18, (bool i))])) (fun i => kk2 i = some r) ?_ ?_
 ·rintro j1b18 h
  have h : kk2 j1b18 = some r := h
  rw [hkk2] at h
  dsimp only at h
  clear hkk2
  refine aw_show (m := (memOf w0 Z0 [] [] [(fDat (tyList tq) [v0_0] a0)])) (S := (tab [(0, v0_0), (18, (bool j1b18))])) ?_
  refine aw_cond rfl (fun hb3 => ?_) (fun hb3 => ?_)
  ·replace h := bif_t hb3 h
   refine aw_sr ?_
   refine al_as rfl rfl ?_
   refine al_as rfl rfl ?_
   refine al_nt ?_
   refine aw_ret ?_
   refine aq_then_ret ?_
   obtain rfl := Option.some.inj h
   exact fn_ret () [] [] rfl rfl rfl rfl (res2 rfl rfl rfl) rfl rfl rfl (by decide)
  ·replace h := bif_f hb3 h
   refine aw_skip ?_
   refine aq_tr ?_
   refine al_as rfl rfl ?_
   refine al_nt ?_
   obtain ⟨kk5, hkk5, h⟩ := lt_some h
   refine aw_seq_join (ι := Int) (fun i => (memOf w0 Z0 [] [] [(fDat (tyList tq) [v0_0] a0)])) (fun i => (tab [(4, (iq i))])) (fun i => kk5 i = some r) ?_ ?_
   ·rintro j4i4 h
    have h : kk5 j4i4 = some r := h
    rw [hkk5] at h
    dsimp only at h
    clear hkk5
    refine aw_show (m := (memOf w0 Z0 [] [] [(fDat (tyList tq) [v0_0] a0)])) (S := (tab [(4, (iq j4i4))])) ?_
    refine aw_sr ?_
    refine al_mv rfl rfl ?_
    refine al_as rfl rfl ?_
    refine al_as rfl rfl ?_
    refine al_nt ?_
    refine aw_ret ?_
    obtain rfl := Option.some.inj h
    exact fn_ret () [] [] rfl rfl rfl rfl (res2 rfl rfl rfl) rfl rfl rfl (by decide)
   ·clear hkk5
    refine aw_sr ?_
    refine al_mv rfl rfl ?_
    refine al_val (ov_lenD 0 rfl rfl Tryd.underlying71 rfl) ?_
    refine al_mv rfl rfl ?_
    refine al_nt ?_
    refine aw_block ?_
    refine aw_state (aw_loop (ι := Int × Int) (fun i => (memOf w0 Z0 [] [] [(fDat (tyList tq) [v0_0] a0)])) (fun i => (tab [(4, (iq i.1)), (19, v0_0), (20, (iq (a0.length : Int))), (21, (iq i.2))])) (fun q i => f_huff_Kraft_L8 a0 kk5 q i.1 i.2 = some r) ?_ fu ((0 : Int), (0 : Int)) h) (fun w a hm hs => norm hm hs [] [0] [(4, (iq (0 : Int))), (19, v0_0), (20, (iq (a0.length : Int))), (21, (iq (0 : Int)))] (by decide) ⟨rfl, rfl, rfl, rfl, trivial⟩)
    clear h
    rintro k7 ⟨l6i4, l6i21⟩ h
    have h : f_huff_Kraft_L8 a0 kk5 k7 l6i4 l6i21 = some r := h
    obtain _ | k7 := k7
    · rw [f_huff_Kraft_L8] at h; cases h
    rw [f_huff_Kraft_L8] at h
    refine aw_show (m := (memOf w0 Z0 [] [] [(fDat (tyList tq) [v0_0] a0)])) (S := (tab [(4, (iq l6i4)), (19, v0_0), (20, (iq (a0.length : Int))), (21, (iq l6i21))])) ?_
    refine aw_sr ?_
    refine al_in rfl rfl rfl rfl ?_
    refine al_nt ?_
    refine aw_seq ?_
    refine aw_cond rfl (fun hb9 => ?_) (fun hb9 => ?_)
    ·replace h := bif_t hb9 h
     refine aw_skip ?_
     refine aq_then ?_
     obtain ⟨kk11, hkk11, h⟩ := lt_some h
     refine aw_seq_join (ι := Int) (fun i => (memOf w0 Z0 [] [] [(fDat (tyList tq) [v0_0] a0)])) (fun i => (tab [(4, (iq i)), (19, v0_0), (20, (iq (a0.length : Int))), (21, (iq l6i21))])) (fun i => kk11 i = some r) ?_ ?_
     ·rintro j10i4 h
      have h : kk11 j10i4 = some r := h
      rw [hkk11] at h
      dsimp only at h
      clear hkk11
      refine aw_show (m := (memOf w0 Z0 [] [] [(fDat (tyList tq) [v0_0] a0)])) (S := (tab [(4, (iq j10i4)), (19, v0_0), (20, (iq (a0.length : Int))), (21, (iq l6i21))])) ?_
      refine aw_region ?_
      refine al_in rfl rfl rfl rfl ?_
      refine al_mv rfl rfl ?_
      refine al_nil ?_
      exact aq_again k7 (j10i4, (wq (l6i21 + (1 : Int)))) (Nat.lt_succ_self _) h (fun w a hm hs => norm hm hs [] [0] [(4, (iq j10i4)), (19, v0_0), (20, (iq (a0.length : Int))), (21, (iq (wq (l6i21 + (1 : Int)))))] (by decide) ⟨rfl, rfl, rfl, rfl, trivial⟩)
     ·clear hkk11
      refine aw_block ?_
      refine aw_sr ?_
      obtain ⟨u12, hu13, h⟩ := opt_some h
      refine al_idxD 0 hu13 rfl rfl rfl Tryd.underlying71 sz3 rfl (fun p14 => ?_)
      refine al_val (ov_loadP (ds := [(iq u12)]) 0 rfl (fun h => h) rfl Tryd.underlying3 sz3 rfl rfl rfl) ?_
      refine al_as rfl rfl ?_
      refine al_nt ?_
      refine aw_sr ?_
      refine al_mv rfl rfl ?_
      refine al_in rfl rfl rfl rfl ?_
      refine al_nt ?_
      refine aw_cond rfl (fun hb15 => ?_) (fun hb15 => ?_)
      ·replace h := bif_t hb15 h
       refine aw_region ?_
       refine al_mv rfl rfl ?_
       refine al_mv rfl rfl ?_
       refine al_in rfl rfl rfl rfl ?_
       obtain ⟨hc16, h⟩ := req_some h
       refine al_val (ov_shl hc16 rfl rfl rfl) ?_
       refine al_in rfl rfl rfl rfl ?_
       refine al_as rfl rfl ?_
       refine al_nil ?_
       refine aq_block ?_
       exact aq_join (wq (l6i4 + (wq ((1 : Int) * 2 ^ min ((wq ((48 : Int) - u12))).toNat (IntKind.bits .i64))))) h (fun w a hm hs => norm hm hs [] [1] [(4, (iq (wq (l6i4 + (wq ((1 : Int) * 2 ^ min ((wq ((48 : Int) - u12))).toNat (IntKind.bits .i64))))))), (19, v0_0), (20, (iq (a0.length : Int))), (21, (iq l6i21))] (by decide) ⟨rfl, rfl, rfl, rfl, trivial⟩)
      ·replace h := bif_f hb15 h
       refine aw_skip ?_
       refine aq_block ?_
       exact aq_join l6i4 h (fun w a hm hs => norm hm hs [] [1] [(4, (iq l6i4)), (19, v0_0), (20, (iq (a0.length : Int))), (21, (iq l6i21))] (by decide) ⟨rfl, rfl, rfl, rfl, trivial⟩)
    ·replace h := bif_f hb9 h
     refine aw_exit ?_
     refine aq_then_exit ?_
     refine aq_then_exit ?_
     refine aq_block_exit ?_
     exact aq_join l6i4 h (fun w a hm hs => norm hm hs [] [0] [(4, (iq l6i4))] (by decide) ⟨rfl, trivial⟩)
 ·clear hkk2
  refine aw_region ?_
  refine al_mv rfl rfl ?_
  refine al_val (ov_lenD 0 rfl rfl Tryd.underlying71 rfl) ?_
  refine al_in rfl rfl rfl rfl ?_
  refine al_mv rfl rfl ?_
  refine al_caseB 10 rfl (fun hb17 => ?_) (fun hb17 => ?_)
  ·replace h := bif_t hb17 h
   refine al_skip ?_
   refine al_skip ?_
   refine al_skip ?_
   refine al_val (ov_pick_t rfl rfl rfl) ?_
   refine al_mv rfl rfl ?_
   refine al_skip ?_
   refine al_skip ?_
   refine al_val (ov_pick_t rfl rfl rfl) ?_
   refine al_nil ?_
   exact aq_join true h (fun w a hm hs => norm hm hs [] [0] [(0, v0_0), (18, (bool true))] (by decide) ⟨rfl, rfl, trivial⟩)
  ·replace h := bif_f hb17 h
   refine al_mv rfl rfl ?_
   refine al_val (ov_lenD 0 rfl rfl Tryd.underlying71 rfl) ?_
   refine al_in rfl rfl rfl rfl ?_
   refine al_val (ov_pick_f rfl rfl rfl) ?_
   refine al_mv rfl rfl ?_
   refine al_caseB 15 rfl (fun hb18 => ?_) (fun hb18 => ?_)
   ·replace h := bif_t hb18 h
    refine al_skip ?_
    refine al_skip ?_
    refine al_val (ov_pick_t rfl rfl rfl) ?_
    refine al_nil ?_
    exact aq_join true h (fun w a hm hs => norm hm hs [] [0] [(0, v0_0), (18, (bool true))] (by decide) ⟨rfl, rfl, trivial⟩)
   ·replace h := bif_f hb18 h
    refine al_mv rfl rfl ?_
    obtain ⟨r20, hc19, h⟩ := opt_some h
    refine al_call (vs := [v0_0, (fq 144)]) (f_slices_ContainsFunc___int_int__F144_ok fu v0_0 a0 hc19) [] [] [] (pre_fz 0 rfl pre_nil) rfl (by simp) (by decide) (.inl rfl) rfl Tryd.func86 rfl rfl rfl (fun _ => ?_)
    refine al_val (ov_pick_f rfl rfl rfl) ?_
    refine al_nil ?_
    exact aq_join r20 h (fun w a hm hs => norm hm hs [] [0] [(0, v0_0), (18, (bool r20))] (by decide) ⟨rfl, rfl, trivial⟩)
def f_huff_Codes_L18 (a0 : (List Int)) (l9i9 : Int) (kk15 : ((List Int) → Int → Int → Option ((List Int) × Int))) : Nat → (List Int) → Int → Int → Int → Option ((List Int) × Int)
  | 0, _, _, _, _ => none
  | k17 + 1, l16x6, l16i7, l16i8, l16i31 => (bif (decide (l16i31 < (a0.length : Int))) then (lt (fun (j20x6 : (List Int)) (j20i7 : Int) (j20i8 : Int) => (f_huff_Codes_L18 a0 l9i9 kk15 k17 j20x6 j20i7 j20i8 (IntKind.i64.wrap (l16i31 + (1 : Int))))) fun (kk21 : (List Int) → Int → Int → Option ((List Int) × Int)) => (opt (at? a0 l16i31) fun (u22 : Int) => (bif (u22 == l9i9) then (req (0 ≤ (IntKind.i64.wrap (l9i9 - l16i8))) (opt (at? l16x6 l16i31) fun (u27 : Int) => (kk21 (l16x6.set (l16i31).toNat (IntKind.i64.wrap (l16i7 * 2 ^ min ((IntKind.i64.wrap (l9i9 - l16i8))).toNat (IntKind.bits .i64)))) (IntKind.i64.wrap ((IntKind.i64.wrap (l16i7 * 2 ^ min ((IntKind.i64.wrap (l9i9 - l16i8))).toNat (IntKind.bits .i64))) + (1 : Int))) l9i9))) else (kk21 l16x6 l16i7 l16i8)))) else (kk15 l16x6 l16i7 l16i8))
def f_huff_Codes_L11 (a0 : (List Int)) (kk8 : ((List Int) → Option ((List Int) × Int))) (fu : Nat) : Nat → (List Int) → Int → Int → Int → Option ((List Int) × Int)
  | 0, _, _, _, _ => none
  | k10 + 1, l9x6, l9i7, l9i8, l9i9 => (lt (fun (l9x6 : (List Int)) (l9i7 : Int) (l9i8 : Int) (l9i9 : Int) => (f_huff_Codes_L11 a0 kk8 fu k10 l9x6 l9i7 l9i8 l9i9)) fun (kk12 : (List Int) → Int → Int → Int → Option ((List Int) × Int)) => (bif (decide (l9i9 ≤ (48 : Int))) then (lt (fun (j14x6 : (List Int)) (j14i7 : Int) (j14i8 : Int) => (kk12 j14x6 j14i7 j14i8 (IntKind.i64.wrap (l9i9 + (1 : Int))))) fun (kk15 : (List Int) → Int → Int → Option ((List Int) × Int)) => (f_huff_Codes_L18 a0 l9i9 kk15 fu l9x6 l9i7 l9i8 (0 : Int))) else (kk8 l9x6)))
def f_huff_Codes (fu : Nat) (a0 : (List Int)) : Option ((List Int) × Int) := (opt (f_huff_Kraft fu a0) fun (r2 : (Int × Int)) => (bif (r2.2 != (0 : Int)) then (some (([] : List Int), r2.2)) else (bif (decide (r2.1 > (281474976710656 : Int))) then (some (([] : List Int), (4 : Int))) else (req (0 ≤ (a0.length : Int) ∧ 8 * (a0.length : Int) ≤ 281474976710656 ∧ (a0.length : Int) ≤ 9223372036854775807) (lt (fun (j7x6 : (List Int)) => (some (j7x6, (0 : Int)))) fun (kk8 : (List Int) → Option ((List Int) × Int)) => (f_huff_Codes_L11 a0 kk8 fu fu (List.replicate ((a0.length : Int)).toNat 0) (0 : Int) (0 : Int) (1 : Int)))))))
set_option maxRecDepth 100000 in
set_option maxHeartbeats 2000000 in
set_option maxHeartbeats 2000000 in
theorem f_huff_Codes_ok (fu : Nat) (v0_0 : Value) (a0 : (List Int)) {r : ((List Int) × Int)} (h : f_huff_Codes fu a0 = some r) : FnOk Tryd.prog 41 [v0_0] [(fDat (tyList (tyInt .i64)) [v0_0] a0)] [] (fun (i : Value) => { val := (Value.tuple #[i, (int .i64 r.2)]), own := [(oRow i 3 (tyInt .i64) r.1)] }) := by
 unfold f_huff_Codes at h
 refine fn_enter Tryd.func41 rfl Tryd.ntmps41 rfl (fun w0 Z0 => ?_)
 refine aw_sr ?_
 refine al_as rfl rfl ?_
 refine al_as rfl rfl ?_
 refine al_nt ?_
 refine aw_sr ?_
 refine al_mv rfl rfl ?_
 obtain ⟨r2, hc1, h⟩ := opt_some h
 refine al_call (vs := [v0_0]) (f_huff_Kraft_ok fu v0_0 a0 hc1) [] [] [] (pre_fz 0 rfl pre_nil) rfl (by simp) (by decide) (.inl rfl) rfl Tryd.func93 rfl rfl rfl (fun _ => ?_)
 refine al_mv rfl rfl ?_
 refine al_ex rfl rfl rfl ?_
 refine al_ex rfl rfl rfl ?_
 refine al_as rfl rfl ?_
 refine al_as rfl rfl ?_
 refine al_nt ?_
 refine aw_seq ?_
 refine aw_sr ?_
 refine al_mv rfl rfl ?_
 refine al_in rfl rfl rfl rfl ?_
 refine al_nt ?_
 refine aw_cond rfl (fun hb3 => ?_) (fun hb3 => ?_)
 ·replace h := bif_t hb3 h
  refine aw_sr ?_
  refine al_mv rfl rfl ?_
  refine al_as rfl rfl ?_
  refine al_as rfl rfl ?_
  refine al_nt ?_
  refine aw_ret ?_
  refine aq_then_ret ?_
  refine aq_nilR 3 tq ?_
  obtain rfl := Option.some.inj h
  exact fn_ret nS [0] [] rfl rfl rfl rfl (res2 rfl rfl rfl) rfl rfl rfl (by decide)
 ·replace h := bif_f hb3 h
  refine aw_skip ?_
  refine aq_then ?_
  refine aw_seq ?_
  refine aw_sr ?_
  refine al_mv rfl rfl ?_
  refine al_in rfl rfl rfl rfl ?_
  refine al_nt ?_
  refine aw_cond rfl (fun hb4 => ?_) (fun hb4 => ?_)
  ·replace h := bif_t hb4 h
   refine aw_sr ?_
   refine al_as rfl rfl ?_
   refine al_as rfl rfl ?_
   refine al_nt ?_
   refine aw_ret ?_
   refine aq_then_ret ?_
   refine aq_nilR 3 tq ?_
   obtain rfl := Option.some.inj h
   exact fn_ret nS [0] [] rfl rfl rfl rfl (res2 rfl rfl rfl) rfl rfl rfl (by decide)
  ·replace h := bif_f hb4 h
   refine aw_skip ?_
   refine aq_tr ?_
   refine al_mv rfl rfl ?_
   refine al_val (ov_lenD 0 rfl rfl Tryd.underlying71 rfl) ?_
   obtain ⟨hc5, h⟩ := req_some h
   refine al_make (τ := tq) (x0 := 0) hc5.1 hc5.2.1 hc5.2.2 rfl rfl Tryd.underlying71 to3 (fun _ _ => rfl) rfl rfl (fun v6 => ?_)
   refine al_as rfl rfl ?_
   refine al_nt ?_
   refine aw_sr ?_
   refine al_as rfl rfl ?_
   refine al_as rfl rfl ?_
   refine al_nt ?_
   obtain ⟨kk8, hkk8, h⟩ := lt_some h
   refine aw_seq_join (ι := (List Int)) (fun i => (memOf w0 Z0 [] [(oRow v6 3 tq i)] [(fDat (tyList tq) [v0_0] a0)])) (fun i => (tab [(6, v6)])) (fun i => kk8 i = some r) ?_ ?_
   ·rintro j7x6 h
    have h : kk8 j7x6 = some r := h
    rw [hkk8] at h
    dsimp only at h
    clear hkk8
    refine aw_show (m := (memOf w0 Z0 [] [(oRow v6 3 tq j7x6)] [(fDat (tyList tq) [v0_0] a0)])) (S := (tab [(6, v6)])) ?_
    refine aw_sr ?_
    refine al_mv rfl rfl ?_
    refine al_as rfl rfl ?_
    refine al_as rfl rfl ?_
    refine al_nt ?_
    refine aw_ret ?_
    obtain rfl := Option.some.inj h
    exact fn_ret v6 [0] [] rfl rfl rfl rfl (res2 rfl rfl rfl) rfl rfl rfl (by decide)
   ·clear hkk8
    refine aw_sr ?_
    refine al_as rfl rfl ?_
    refine al_nt ?_
    refine aw_block ?_
    refine aw_state (aw_loop (ι := (List Int) × Int × Int × Int) (fun i => (memOf w0 Z0 [] [(oRow v6 3 tq i.1)] [(fDat (tyList tq) [v0_0] a0)])) (fun i => (tab [(0, v0_0), (6, v6), (7, (iq i.2.1)), (8, (iq i.2.2.1)), (9, (iq i.2.2.2))])) (fun q i => f_huff_Codes_L11 a0 kk8 fu q i.1 i.2.1 i.2.2.1 i.2.2.2 = some r) ?_ fu ((List.replicate ((a0.length : Int)).toNat 0), (0 : Int), (0 : Int), (1 : Int)) h) (fun w a hm hs => norm hm hs [0] [0] [(0, v0_0), (6, v6), (7, (iq (0 : Int))), (8, (iq (0 : Int))), (9, (iq (1 : Int)))] (by decide) ⟨rfl, rfl, rfl, rfl, rfl, trivial⟩)
    clear h
    rintro k10 ⟨l9x6, l9i7, l9i8, l9i9⟩ h
    have h : f_huff_Codes_L11 a0 kk8 fu k10 l9x6 l9i7 l9i8 l9i9 = some r := h
    obtain _ | k10 := k10
    · rw [f_huff_Codes_L11] at h; cases h
    rw [f_huff_Codes_L11] at h
    refine aw_show (m := (memOf w0 Z0 [] [(oRow v6 3 tq l9x6)] [(fDat (tyList tq) [v0_0] a0)])) (S := (tab [(0, v0_0), (6, v6), (7, (iq l9i7)), (8, (iq l9i8)), (9, (iq l9i9))])) ?_
    obtain ⟨kk12, hkk12, h⟩ := lt_some h
    refine aw_body_join (ι := (List Int) × Int × Int × Int) (fun i => (memOf w0 Z0 [] [(oRow v6 3 tq i.1)] [(fDat (tyList tq) [v0_0] a0)])) (fun i => (tab [(0, v0_0), (6, v6), (7, (iq i.2.1)), (8, (iq i.2.2.1)), (9, (iq i.2.2.2))])) (fun i => kk12 i.1 i.2.1 i.2.2.1 i.2.2.2 = some r) (fun i h => aq_again k10 i (Nat.lt_succ_self _) (by rw [hkk12] at h; exact h) (fun w a hm hs => ⟨hm, hs⟩)) ?_
    clear hkk12
    refine aw_seq ?_
    refine aw_sr ?_
    refine al_mv rfl rfl ?_
    refine al_in rfl rfl rfl rfl ?_
    refine al_nt ?_
    refine aw_cond rfl (fun hb13 => ?_) (fun hb13 => ?_)
    ·replace h := bif_t hb13 h
     refine aw_skip ?_
     refine aq_then ?_
     obtain ⟨kk15, hkk15, h⟩ := lt_some h
     refine aw_seq_join (ι := (List Int) × Int × Int) (fun i => (memOf w0 Z0 [] [(oRow v6 3 tq i.1)] [(fDat (tyList tq) [v0_0] a0)])) (fun i => (tab [(0, v0_0), (6, v6), (7, (iq i.2.1)), (8, (iq i.2.2)), (9, (iq l9i9))])) (fun i => kk15 i.1 i.2.1 i.2.2 = some r) ?_ ?_
     ·rintro ⟨j14x6, j14i7, j14i8⟩ h
      have h : kk15 j14x6 j14i7 j14i8 = some r := h
      rw [hkk15] at h
      dsimp only at h
      clear hkk15
      refine aw_show (m := (memOf w0 Z0 [] [(oRow v6 3 tq j14x6)] [(fDat (tyList tq) [v0_0] a0)])) (S := (tab [(0, v0_0), (6, v6), (7, (iq j14i7)), (8, (iq j14i8)), (9, (iq l9i9))])) ?_
      refine aw_region ?_
      refine al_mv rfl rfl ?_
      refine al_in rfl rfl rfl rfl ?_
      refine al_as rfl rfl ?_
      refine al_nil ?_
      exact aq_join (j14x6, j14i7, j14i8, (wq (l9i9 + (1 : Int)))) h (fun w a hm hs => norm hm hs [0] [0] [(0, v0_0), (6, v6), (7, (iq j14i7)), (8, (iq j14i8)), (9, (iq (wq (l9i9 + (1 : Int)))))] (by decide) ⟨rfl, rfl, rfl, rfl, rfl, trivial⟩)
     ·clear hkk15
      refine aw_block ?_
      refine aw_sr ?_
      refine al_mv rfl rfl ?_
      refine al_val (ov_lenD 0 rfl rfl Tryd.underlying71 rfl) ?_
      refine al_mv rfl rfl ?_
      refine al_nt ?_
      refine aw_block ?_
      refine aw_state (aw_loop (ι := (List Int) × Int × Int × Int) (fun i => (memOf w0 Z0 [] [(oRow v6 3 tq i.1)] [(fDat (tyList tq) [v0_0] a0)])) (fun i => (tab [(0, v0_0), (6, v6), (7, (iq i.2.1)), (8, (iq i.2.2.1)), (9, (iq l9i9)), (29, v0_0), (30, (iq (a0.length : Int))), (31, (iq i.2.2.2))])) (fun q i => f_huff_Codes_L18 a0 l9i9 kk15 q i.1 i.2.1 i.2.2.1 i.2.2.2 = some r) ?_ fu (l9x6, l9i7, l9i8, (0 : Int)) h) (fun w a hm hs => norm hm hs [0] [0] [(0, v0_0), (6, v6), (7, (iq l9i7)), (8, (iq l9i8)), (9, (iq l9i9)), (29, v0_0), (30, (iq (a0.length : Int))), (31, (iq (0 : Int)))] (by decide) ⟨rfl, rfl, rfl, rfl, rfl, rfl, rfl, rfl, trivial⟩)
      clear h
      rintro k17 ⟨l16x6, l16i7, l16i8, l16i31⟩ h
      have h : f_huff_Codes_L18 a0 l9i9 kk15 k17 l16x6 l16i7 l16i8 l16i31 = some r := h
      obtain _ | k17 := k17
      · rw [f_huff_Codes_L18] at h; cases h
      rw [f_huff_Codes_L18] at h
      refine aw_show (m := (memOf w0 Z0 [] [(oRow v6 3 tq l16x6)] [(fDat (tyList tq) [v0_0] a0)])) (S := (tab [(0, v0_0), (6, v6), (7, (iq l16i7)), (8, (iq l16i8)), (9, (iq l9i9)), (29, v0_0), (30, (iq (a0.length : Int))), (31, (iq l16i31))])) ?_
      refine aw_sr ?_
      refine al_in rfl rfl rfl rfl ?_
      refine al_nt ?_
      refine aw_seq ?_
      refine aw_cond rfl (fun hb19 => ?_) (fun hb19 => ?_)
      ·replace h := bif_t hb19 h
       refine aw_skip ?_
       refine aq_then ?_
       obtain ⟨kk21, hkk21, h⟩ := lt_some h
       refine aw_seq_join (ι := (List Int) × Int × Int) (fun i => (memOf w0 Z0 [] [(oRow v6 3 tq i.1)] [(fDat (tyList tq) [v0_0] a0)])) (fun i => (tab [(0, v0_0), (6, v6), (7, (iq i.2.1)), (8, (iq i.2.2)), (9, (iq l9i9)), (29, v0_0), (30, (iq (a0.length : Int))), (31, (iq l16i31))])) (fun i => kk21 i.1 i.2.1 i.2.2 = some r) ?_ ?_
       ·rintro ⟨j20x6, j20i7, j20i8⟩ h
        have h : kk21 j20x6 j20i7 j20i8 = some r := h
        rw [hkk21] at h
        dsimp only at h
        clear hkk21
        refine aw_show (m := (memOf w0 Z0 [] [(oRow v6 3 tq j20x6)] [(fDat (tyList tq) [v0_0] a0)])) (S := (tab [(0, v0_0), (6, v6), (7, (iq j20i7)), (8, (iq j20i8)), (9, (iq l9i9)), (29, v0_0), (30, (iq (a0.length : Int))), (31, (iq l16i31))])) ?_
        refine aw_region ?_
        refine al_in rfl rfl rfl rfl ?_
        refine al_mv rfl rfl ?_
        refine al_nil ?_
        exact aq_again k17 (j20x6, j20i7, j20i8, (wq (l16i31 + (1 : Int)))) (Nat.lt_succ_self _) h (fun w a hm hs => norm hm hs [0] [0] [(0, v0_0), (6, v6), (7, (iq j20i7)), (8, (iq j20i8)), (9, (iq l9i9)), (29, v0_0), (30, (iq (a0.length : Int))), (31, (iq (wq (l16i31 + (1 : Int)))))] (by decide) ⟨rfl, rfl, rfl, rfl, rfl, rfl, rfl, rfl, trivial⟩)
       ·clear hkk21
        refine aw_block ?_
        refine aw_sr ?_
        refine al_mv rfl rfl ?_
        obtain ⟨u22, hu23, h⟩ := opt_some h
        refine al_idxD 0 hu23 rfl rfl rfl Tryd.underlying71 sz3 rfl (fun p24 => ?_)
        refine al_val (ov_loadP (ds := [(iq u22)]) 0 rfl (fun h => h) rfl Tryd.underlying3 sz3 rfl rfl rfl) ?_
        refine al_as rfl rfl ?_
        refine al_as rfl rfl ?_
        refine al_nt ?_
        refine aw_sr ?_
        refine al_mv rfl rfl ?_
        refine al_mv rfl rfl ?_
        refine al_in rfl rfl rfl rfl ?_
        refine al_nt ?_
        refine aw_cond rfl (fun hb25 => ?_) (fun hb25 => ?_)
        ·replace h := bif_t hb25 h
         refine aw_sr ?_
         refine al_mv rfl rfl ?_
         refine al_mv rfl rfl ?_
         refine al_mv rfl rfl ?_
         refine al_in rfl rfl rfl rfl ?_
         obtain ⟨hc26, h⟩ := req_some h
         refine al_val (ov_shl hc26 rfl rfl rfl) ?_
         refine al_as rfl rfl ?_
         refine al_nt ?_
         refine aw_sr ?_
         refine al_mv rfl rfl ?_
         refine al_as rfl rfl ?_
         refine al_nt ?_
         refine aw_sr ?_
         refine al_mv rfl rfl ?_
         refine al_mv rfl rfl ?_
         refine al_mv rfl rfl ?_
         obtain ⟨u27, hu28, h⟩ := opt_some h
         refine al_idxR 0 (at_some hu28).1 (at_some hu28).2.1 rfl rfl rfl Tryd.underlying71 sz3 rfl (fun p29 hp30 => ?_)
         refine al_storeR (k := (l16i31).toNat) (x := (wq (l16i7 * 2 ^ min ((wq (l9i9 - l16i8))).toNat (IntKind.bits .i64)))) (vs := [(iq (wq (l16i7 * 2 ^ min ((wq (l9i9 - l16i8))).toNat (IntKind.bits .i64))))]) 0 rfl hp30 (idx_lt hu28) rfl rfl (cv_rfl rfl) (fun _ => rfl) sz3 rfl ?_
         refine al_nt ?_
         refine aw_region ?_
         refine al_mv rfl rfl ?_
         refine al_in rfl rfl rfl rfl ?_
         refine al_as rfl rfl ?_
         refine al_nil ?_
         refine aq_block ?_
         exact aq_join ((l16x6.set (l16i31).toNat (wq (l16i7 * 2 ^ min ((wq (l9i9 - l16i8))).toNat (IntKind.bits .i64)))), (wq ((wq (l16i7 * 2 ^ min ((wq (l9i9 - l16i8))).toNat (IntKind.bits .i64))) + (1 : Int))), l9i9) h (fun w a hm hs => norm hm hs [0] [1] [(0, v0_0), (6, v6), (7, (iq (wq ((wq (l16i7 * 2 ^ min ((wq (l9i9 - l16i8))).toNat (IntKind.bits .i64))) + (1 : Int))))), (8, (iq l9i9)), (9, (iq l9i9)), (29, v0_0), (30, (iq (a0.length : Int))), (31, (iq l16i31))] (by decide) ⟨rfl, rfl, rfl, rfl, rfl, rfl, rfl, rfl, trivial⟩)
        ·replace h := bif_f hb25 h
         refine aw_skip ?_
         refine aq_block ?_
         exact aq_join (l16x6, l16i7, l16i8) h (fun w a hm hs => norm hm hs [0] [1] [(0, v0_0), (6, v6), (7, (iq l16i7)), (8, (iq l16i8)), (9, (iq l9i9)), (29, v0_0), (30, (iq (a0.length : Int))), (31, (iq l16i31))] (by decide) ⟨rfl, rfl, rfl, rfl, rfl, rfl, rfl, rfl, trivial⟩)
      ·replace h := bif_f hb19 h
       refine aw_exit ?_
       refine aq_then_exit ?_
       refine aq_then_exit ?_
       refine aq_block_exit ?_
       refine aq_block ?_
       exact aq_join (l16x6, l16i7, l16i8) h (fun w a hm hs => norm hm hs [0] [0] [(0, v0_0), (6, v6), (7, (iq l16i7)), (8, (iq l16i8)), (9, (iq l9i9))] (by decide) ⟨rfl, rfl, rfl, rfl, rfl, trivial⟩)
    ·replace h := bif_f hb13 h
     refine aw_exit ?_
     refine aq_then_exit ?_
     refine aq_then_exit ?_
     refine aq_block_exit ?_
     exact aq_join l9x6 h (fun w a hm hs => norm hm hs [0] [0] [(6, v6)] (by decide) ⟨rfl, trivial⟩)
-- STUCK (*lumberroom/press.writer).put: lty ['pointer', 79]
def f___press_writer__put_L3 (a1 : Int) : Nat → (List UInt8) → Int → Int → Option D_press_writer
  | 0, _, _, _ => none
  | k2 + 1, l1x0_0, l1i0_1, l1i6 => (bif (decide (l1i6 ≥ (0 : Int))) then (lt (fun (j5x0_0 : (List UInt8)) (j5i0_1 : Int) => (opt (at? j5x0_0 (IntKind.i64.wrap ((j5x0_0.length : Int) - (1 : Int)))) fun (u7 : UInt8) => (req (0 ≤ l1i6) (req (0 ≤ (IntKind.i64.wrap (j5i0_1 - (1 : Int)))) (opt (at? j5x0_0 (IntKind.i64.wrap ((j5x0_0.length : Int) - (1 : Int)))) fun (u13 : UInt8) => (req (0 ≤ (bits .or .u8 (u7.toNat : Int) (IntKind.u8.wrap ((IntKind.u8.wrap (bits .and .i64 ((a1).fdiv (2 ^ min (l1i6).toNat (IntKind.bits .i64))) (1 : Int))) * 2 ^ min ((IntKind.i64.wrap (j5i0_1 - (1 : Int)))).toNat (IntKind.bits .u8)))) ∧ (bits .or .u8 (u7.toNat : Int) (IntKind.u8.wrap ((IntKind.u8.wrap (bits .and .i64 ((a1).fdiv (2 ^ min (l1i6).toNat (IntKind.bits .i64))) (1 : Int))) * 2 ^ min ((IntKind.i64.wrap (j5i0_1 - (1 : Int)))).toNat (IntKind.bits .u8)))) ≤ 255) (f___press_writer__put_L3 a1 k2 (j5x0_0.set ((IntKind.i64.wrap ((j5x0_0.length : Int) - (1 : Int)))).toNat (UInt8.ofNat ((bits .or .u8 (u7.toNat : Int) (IntKind.u8.wrap ((IntKind.u8.wrap (bits .and .i64 ((a1).fdiv (2 ^ min (l1i6).toNat (IntKind.bits .i64))) (1 : Int))) * 2 ^ min ((IntKind.i64.wrap (j5i0_1 - (1 : Int)))).toNat (IntKind.bits .u8))))).toNat)) (IntKind.i64.wrap (j5i0_1 - (1 : Int))) (IntKind.i64.wrap (l1i6 - (1 : Int)))))))))) fun (kk6 : (List UInt8) → Int → Option D_press_writer) => (bif (l1i0_1 == (0 : Int)) then (req (0 ≤ (0 : Int) ∧ (0 : Int) ≤ 255) (req (((l1x0_0.length + ([(UInt8.ofNat ((0 : Int)).toNat)]).length) * 1 : Nat) ≤ 140737488355328 ∧ l1x0_0.length + ([(UInt8.ofNat ((0 : Int)).toNat)]).length ≤ 9223372036854775807) (kk6 (l1x0_0 ++ ([(UInt8.ofNat ((0 : Int)).toNat)])) (8 : Int)))) else (kk6 l1x0_0 l1i0_1))) else (some (D_press_writer.mk l1x0_0 l1i0_1)))
def f___press_writer__put (fu : Nat) (a0 : D_press_writer) (a1 : Int) (a2 : Int) : Option D_press_writer := (f___press_writer__put_L3 a1 fu a0.out a0.free (IntKind.i64.wrap (a2 - (1 : Int))))
set_option maxHeartbeats 2000000 in
set_option maxRecDepth 100000 in
theorem f___press_writer__put_ok (fu : Nat) (bx0 : Nat) (v0_0 : Value) (a0 : D_press_writer) (a1 : Int) (a2 : Int) {r : D_press_writer} (h : f___press_writer__put fu a0 a1 a2 = some r) : FnOk Tryd.prog 43 [(ptr bx0 0), (int .i64 a1), (int .i64 a2)] [] [(oBox bx0 79 [v0_0, (int .i64 a0.free)]), (oRow v0_0 5 tyU8 a0.out)] (fun (i : Value) => { val := (Value.tuple #[]), own := [(oBox bx0 79 [i, (int .i64 r.free)]), (oRow i 5 tyU8 r.out)] }) := by
 unfold f___press_writer__put at h
 refine fn_enter Tryd.func43 rfl Tryd.ntmps43 rfl (fun w0 Z0 => ?_)
 refine aw_sr ?_
 refine al_mv rfl rfl ?_
 refine al_in rfl rfl rfl rfl ?_
 refine al_as rfl rfl ?_
 refine al_nt ?_
 refine aw_block ?_
 refine aw_state (aw_loop (ι := Value × (List UInt8) × Int × Int) (fun i => (memOf w0 Z0 [(oBox bx0 79 [v0_0, (iq a0.free)]), (oRow v0_0 5 tyU8 a0.out)] [(oRow i.1 5 tyU8 i.2.1), (oBox bx0 79 [i.1, (iq i.2.2.1)])] [])) (fun i => (tab [(0, (pq bx0)), (1, (iq a1)), (6, (iq i.2.2.2))])) (fun q i => f___press_writer__put_L3 a1 q i.2.1 i.2.2.1 i.2.2.2 = some r) ?_ fu (v0_0, a0.out, a0.free, (wq (a2 - (1 : Int)))) h) (fun w a hm hs => norm hm hs [1, 0] [] [(0, (pq bx0)), (1, (iq a1)), (6, (iq (wq (a2 - (1 : Int)))))] (by decide) ⟨rfl, rfl, rfl, trivial⟩)
 clear h
 rintro k2 ⟨l1v0_0, l1x0_0, l1i0_1, l1i6⟩ h
 have h : f___press_writer__put_L3 a1 k2 l1x0_0 l1i0_1 l1i6 = some r := h
 obtain _ | k2 := k2
 · rw [f___press_writer__put_L3] at h; cases h
 rw [f___press_writer__put_L3] at h
 refine aw_show (m := (memOf w0 Z0 [(oBox bx0 79 [v0_0, (iq a0.free)]), (oRow v0_0 5 tyU8 a0.out)] [(oRow l1v0_0 5 tyU8 l1x0_0), (oBox bx0 79 [l1v0_0, (iq l1i0_1)])] [])) (S := (tab [(0, (pq bx0)), (1, (iq a1)), (6, (iq l1i6))])) ?_
 refine aw_seq ?_
 refine aw_sr ?_
 refine al_mv rfl rfl ?_
 refine al_in rfl rfl rfl rfl ?_
 refine al_nt ?_
 refine aw_cond rfl (fun hb4 => ?_) (fun hb4 => ?_)
 ·replace h := bif_t hb4 h
  refine aw_skip ?_
  refine aq_then ?_
  refine aw_seq ?_
  refine aw_block ?_
  obtain ⟨kk6, hkk6, h⟩ := lt_some h
  refine aw_seq_join (ι := Value × (List UInt8) × Int) (fun i => (memOf w0 Z0 [(oBox bx0 79 [v0_0, (iq a0.free)]), (oRow v0_0 5 tyU8 a0.out)] [(oRow i.1 5 tyU8 i.2.1), (oBox bx0 79 [i.1, (iq i.2.2)])] [])) (fun i => (tab [(0, (pq bx0)), (1, (iq a1)), (6, (iq l1i6))])) (fun i => kk6 i.2.1 i.2.2 = some r) ?_ ?_
  ·rintro ⟨j5v0_0, j5x0_0, j5i0_1⟩ h
   have h : kk6 j5x0_0 j5i0_1 = some r := h
   rw [hkk6] at h
   dsimp only at h
   clear hkk6
   refine aw_show (m := (memOf w0 Z0 [(oBox bx0 79 [v0_0, (iq a0.free)]), (oRow v0_0 5 tyU8 a0.out)] [(oRow j5v0_0 5 tyU8 j5x0_0), (oBox bx0 79 [j5v0_0, (iq j5i0_1)])] [])) (S := (tab [(0, (pq bx0)), (1, (iq a1)), (6, (iq l1i6))])) ?_
   refine aw_sr ?_
   refine al_mv rfl rfl ?_
   refine al_val (ov_nilCheck rfl rfl) ?_
   refine al_val (ov_fieldA (p := 1) rfl Tryd.underlying79 rfl sz3 rfl rfl rfl) ?_
   refine al_val (ov_load (i := 1) (v := (iq j5i0_1)) rfl rfl Tryd.underlying3 sz3 rfl rfl rfl rfl) ?_
   refine al_in rfl rfl rfl rfl ?_
   refine al_val (ov_nilCheck rfl rfl) ?_
   refine al_val (ov_fieldA (p := 1) rfl Tryd.underlying79 rfl sz3 rfl rfl rfl) ?_
   refine al_store (i := 1) (vs := [(iq (wq (j5i0_1 - (1 : Int))))]) (cs' := [j5v0_0, (iq (wq (j5i0_1 - (1 : Int))))]) rfl rfl rfl sz3 (cv_rfl rfl) rfl (co_val rfl co_nil) (Nat.le_of_ble_eq_true rfl) rfl rfl ?_
   refine al_nt ?_
   obtain ⟨u7, hu8, h⟩ := opt_some h
   obtain ⟨hc11, h⟩ := req_some h
   obtain ⟨hc12, h⟩ := req_some h
   obtain ⟨u13, hu14, h⟩ := opt_some h
   refine aw_region_open [⟨0, 37, Unit, fun _ => { val := (pq bx0) }⟩, ⟨1, 38, Unit, fun _ => { val := (pq bx0) }⟩, ⟨2, 39, Unit, fun _ => { val := (pq bx0) }⟩, ⟨3, 40, Unit, fun _ => { val := j5v0_0 }⟩, ⟨4, 41, Unit, fun _ => { val := (pq bx0) }⟩, ⟨5, 42, Unit, fun _ => { val := (pq bx0) }⟩, ⟨6, 43, Unit, fun _ => { val := (pq bx0) }⟩, ⟨7, 44, Unit, fun _ => { val := j5v0_0 }⟩, ⟨8, 45, Unit, fun _ => { val := (iq (j5x0_0.length : Int)) }⟩, ⟨9, 46, Unit, fun _ => { val := (iq (wq ((j5x0_0.length : Int) - (1 : Int)))) }⟩, ⟨10, 47, {p : Value // EltOf j5v0_0 p (((wq ((j5x0_0.length : Int) - (1 : Int)))).toNat * Ty.size tyU8)}, fun p => { val := p.1 }⟩, ⟨11, 48, Unit, fun _ => { val := (i8 (u7.toNat : Int)) }⟩, ⟨12, 49, Unit, fun _ => { val := (iq a1) }⟩, ⟨13, 50, Unit, fun _ => { val := (iq l1i6) }⟩, ⟨14, 51, Unit, fun _ => { val := (iq ((a1).fdiv (2 ^ min (l1i6).toNat (IntKind.bits .i64)))) }⟩, ⟨15, 52, Unit, fun _ => { val := (iq (bits .and .i64 ((a1).fdiv (2 ^ min (l1i6).toNat (IntKind.bits .i64))) (1 : Int))) }⟩, ⟨16, 53, Unit, fun _ => { val := (i8 (w8 (bits .and .i64 ((a1).fdiv (2 ^ min (l1i6).toNat (IntKind.bits .i64))) (1 : Int)))) }⟩, ⟨17, 54, Unit, fun _ => { val := (pq bx0) }⟩, ⟨18, 55, Unit, fun _ => { val := (pq bx0) }⟩, ⟨19, 56, Unit, fun _ => { val := (ptr bx0 1) }⟩, ⟨20, 57, Unit, fun _ => { val := (iq (wq (j5i0_1 - (1 : Int)))) }⟩, ⟨21, 58, Unit, fun _ => { val := (i8 (w8 ((w8 (bits .and .i64 ((a1).fdiv (2 ^ min (l1i6).toNat (IntKind.bits .i64))) (1 : Int))) * 2 ^ min ((wq (j5i0_1 - (1 : Int)))).toNat (IntKind.bits .u8)))) }⟩, ⟨22, 59, Unit, fun _ => { val := (i8 (bits .or .u8 (u7.toNat : Int) (w8 ((w8 (bits .and .i64 ((a1).fdiv (2 ^ min (l1i6).toNat (IntKind.bits .i64))) (1 : Int))) * 2 ^ min ((wq (j5i0_1 - (1 : Int)))).toNat (IntKind.bits .u8))))) }⟩, ⟨23, 60, {p : Value // EltOf j5v0_0 p (((wq ((j5x0_0.length : Int) - (1 : Int)))).toNat * Ty.size tyU8)}, fun p => { val := p.1 }⟩] (tab [(0, (pq bx0)), (1, (iq a1)), (6, (iq l1i6))]) mixed (fun a hs => hs.tab _ (allT_mem ⟨rfl, rfl, rfl, trivial⟩)) ?_
   refine ta_show (m := (memOf w0 Z0 [(oBox bx0 79 [v0_0, (iq a0.free)]), (oRow v0_0 5 tyU8 a0.out)] [(oRow j5v0_0 5 tyU8 j5x0_0), (oBox bx0 79 [j5v0_0, (iq (wq (j5i0_1 - (1 : Int))))])] [])) (S := (tab [(0, (pq bx0)), (1, (iq a1)), (6, (iq l1i6))])) ?_
   refine ta_step 24 _ [0, 1, 2, 3, 4, 5, 6, 7, 8, 9, 10, 11, 12, 13, 14, 15, 16, 17, 18, 19, 20, 21, 22, 23] [37, 38, 39, 40, 41, 42, 43, 44, 45, 46, 47, 48, 49, 50, 51, 52, 53, 54, 55, 56, 57, 58, 59, 60] [0, 1, 2, 3, 4, 5, 6, 7, 8, 9, 10, 11, 12, 13, 14, 15, 16, 17, 18, 19, 20, 21, 22, 23] [] [⟨0, 37, Unit, fun _ => { val := (pq bx0) }⟩, ⟨1, 38, Unit, fun _ => { val := (pq bx0) }⟩, ⟨2, 39, Unit, fun _ => { val := (pq bx0) }⟩, ⟨3, 40, Unit, fun _ => { val := j5v0_0 }⟩, ⟨4, 41, Unit, fun _ => { val := (pq bx0) }⟩, ⟨5, 42, Unit, fun _ => { val := (pq bx0) }⟩, ⟨6, 43, Unit, fun _ => { val := (pq bx0) }⟩, ⟨7, 44, Unit, fun _ => { val := j5v0_0 }⟩, ⟨8, 45, Unit, fun _ => { val := (iq (j5x0_0.length : Int)) }⟩, ⟨9, 46, Unit, fun _ => { val := (iq (wq ((j5x0_0.length : Int) - (1 : Int)))) }⟩, ⟨10, 47, {p : Value // EltOf j5v0_0 p (((wq ((j5x0_0.length : Int) - (1 : Int)))).toNat * Ty.size tyU8)}, fun p => { val := p.1 }⟩, ⟨11, 48, Unit, fun _ => { val := (i8 (u7.toNat : Int)) }⟩, ⟨12, 49, Unit, fun _ => { val := (iq a1) }⟩, ⟨13, 50, Unit, fun _ => { val := (iq l1i6) }⟩, ⟨14, 51, Unit, fun _ => { val := (iq ((a1).fdiv (2 ^ min (l1i6).toNat (IntKind.bits .i64)))) }⟩, ⟨15, 52, Unit, fun _ => { val := (iq (bits .and .i64 ((a1).fdiv (2 ^ min (l1i6).toNat (IntKind.bits .i64))) (1 : Int))) }⟩, ⟨16, 53, Unit, fun _ => { val := (i8 (w8 (bits .and .i64 ((a1).fdiv (2 ^ min (l1i6).toNat (IntKind.bits .i64))) (1 : Int)))) }⟩, ⟨17, 54, Unit, fun _ => { val := (pq bx0) }⟩, ⟨18, 55, Unit, fun _ => { val := (pq bx0) }⟩, ⟨19, 56, Unit, fun _ => { val := (ptr bx0 1) }⟩, ⟨20, 57, Unit, fun _ => { val := (iq (wq (j5i0_1 - (1 : Int)))) }⟩, ⟨21, 58, Unit, fun _ => { val := (i8 (w8 ((w8 (bits .and .i64 ((a1).fdiv (2 ^ min (l1i6).toNat (IntKind.bits .i64))) (1 : Int))) * 2 ^ min ((wq (j5i0_1 - (1 : Int)))).toNat (IntKind.bits .u8)))) }⟩, ⟨22, 59, Unit, fun _ => { val := (i8 (bits .or .u8 (u7.toNat : Int) (w8 ((w8 (bits .and .i64 ((a1).fdiv (2 ^ min (l1i6).toNat (IntKind.bits .i64))) (1 : Int))) * 2 ^ min ((wq (j5i0_1 - (1 : Int)))).toNat (IntKind.bits .u8))))) }⟩, ⟨23, 60, {p : Value // EltOf j5v0_0 p (((wq ((j5x0_0.length : Int) - (1 : Int)))).toNat * Ty.size tyU8)}, fun p => { val := p.1 }⟩] [] rfl rfl rfl (by kernel_rfl) rfl rfl rfl ⟨⟨_, rfl, [], rfl, by
 intro X_ Y_ F_ K_ hK_
 refine al_show (m := Mem.plus (memOf w0 Z0 [(oBox bx0 79 [v0_0, (iq a0.free)]), (oRow v0_0 5 tyU8 a0.out)] [(oRow j5v0_0 5 tyU8 j5x0_0), (oBox bx0 79 [j5v0_0, (iq (wq (j5i0_1 - (1 : Int))))])] []) X_ Y_) (S := over (tab [(0, (pq bx0)), (1, (iq a1)), (6, (iq l1i6))]) F_) ?_
 refine al_mv rfl rfl ?_
 refine al_nil ?_
 exact fr_fin hK_ ()⟩, ⟨_, rfl, [0], rfl, by
 intro _
 intro X_ Y_ F_ K_ hK_
 refine al_show (m := Mem.plus (memOf w0 Z0 [(oBox bx0 79 [v0_0, (iq a0.free)]), (oRow v0_0 5 tyU8 a0.out)] [(oRow j5v0_0 5 tyU8 j5x0_0), (oBox bx0 79 [j5v0_0, (iq (wq (j5i0_1 - (1 : Int))))])] []) X_ Y_) (S := over (put (tab [(0, (pq bx0)), (1, (iq a1)), (6, (iq l1i6))]) 37 (pq bx0)) F_) ?_
 refine al_val (ov_nilCheck rfl rfl) ?_
 refine al_nil ?_
 exact fr_fin hK_ ()⟩, ⟨_, rfl, [1], rfl, by
 intro _
 intro X_ Y_ F_ K_ hK_
 refine al_show (m := Mem.plus (memOf w0 Z0 [(oBox bx0 79 [v0_0, (iq a0.free)]), (oRow v0_0 5 tyU8 a0.out)] [(oRow j5v0_0 5 tyU8 j5x0_0), (oBox bx0 79 [j5v0_0, (iq (wq (j5i0_1 - (1 : Int))))])] []) X_ Y_) (S := over (put (tab [(0, (pq bx0)), (1, (iq a1)), (6, (iq l1i6))]) 38 (pq bx0)) F_) ?_
 refine al_val (ov_fieldA (p := 0) rfl Tryd.underlying79 rfl sz74 rfl rfl rfl) ?_
 refine al_nil ?_
 exact fr_fin hK_ ()⟩, ⟨_, rfl, [2], rfl, by
 intro _
 intro X_ Y_ F_ K_ hK_
 refine al_show (m := Mem.plus (memOf w0 Z0 [(oBox bx0 79 [v0_0, (iq a0.free)]), (oRow v0_0 5 tyU8 a0.out)] [(oRow j5v0_0 5 tyU8 j5x0_0), (oBox bx0 79 [j5v0_0, (iq (wq (j5i0_1 - (1 : Int))))])] []) X_ Y_) (S := over (put (tab [(0, (pq bx0)), (1, (iq a1)), (6, (iq l1i6))]) 39 (pq bx0)) F_) ?_
 refine al_val (ov_load (i := 1) (v := j5v0_0) rfl rfl Tryd.underlying74 sz74 rfl rfl rfl rfl) ?_
 refine al_nil ?_
 exact fr_fin hK_ ()⟩, ⟨_, rfl, [], rfl, by
 intro X_ Y_ F_ K_ hK_
 refine al_show (m := Mem.plus (memOf w0 Z0 [(oBox bx0 79 [v0_0, (iq a0.free)]), (oRow v0_0 5 tyU8 a0.out)] [(oRow j5v0_0 5 tyU8 j5x0_0), (oBox bx0 79 [j5v0_0, (iq (wq (j5i0_1 - (1 : Int))))])] []) X_ Y_) (S := over (tab [(0, (pq bx0)), (1, (iq a1)), (6, (iq l1i6))]) F_) ?_
 refine al_mv rfl rfl ?_
 refine al_nil ?_
 exact fr_fin hK_ ()⟩, ⟨_, rfl, [4], rfl, by
 intro _
 intro X_ Y_ F_ K_ hK_
 refine al_show (m := Mem.plus (memOf w0 Z0 [(oBox bx0 79 [v0_0, (iq a0.free)]), (oRow v0_0 5 tyU8 a0.out)] [(oRow j5v0_0 5 tyU8 j5x0_0), (oBox bx0 79 [j5v0_0, (iq (wq (j5i0_1 - (1 : Int))))])] []) X_ Y_) (S := over (put (tab [(0, (pq bx0)), (1, (iq a1)), (6, (iq l1i6))]) 41 (pq bx0)) F_) ?_
 refine al_val (ov_nilCheck rfl rfl) ?_
 refine al_nil ?_
 exact fr_fin hK_ ()⟩, ⟨_, rfl, [5], rfl, by
 intro _
 intro X_ Y_ F_ K_ hK_
 refine al_show (m := Mem.plus (memOf w0 Z0 [(oBox bx0 79 [v0_0, (iq a0.free)]), (oRow v0_0 5 tyU8 a0.out)] [(oRow j5v0_0 5 tyU8 j5x0_0), (oBox bx0 79 [j5v0_0, (iq (wq (j5i0_1 - (1 : Int))))])] []) X_ Y_) (S := over (put (tab [(0, (pq bx0)), (1, (iq a1)), (6, (iq l1i6))]) 42 (pq bx0)) F_) ?_
 refine al_val (ov_fieldA (p := 0) rfl Tryd.underlying79 rfl sz74 rfl rfl rfl) ?_
 refine al_nil ?_
 exact fr_fin hK_ ()⟩, ⟨_, rfl, [6], rfl, by
 intro _
 intro X_ Y_ F_ K_ hK_
 refine al_show (m := Mem.plus (memOf w0 Z0 [(oBox bx0 79 [v0_0, (iq a0.free)]), (oRow v0_0 5 tyU8 a0.out)] [(oRow j5v0_0 5 tyU8 j5x0_0), (oBox bx0 79 [j5v0_0, (iq (wq (j5i0_1 - (1 : Int))))])] []) X_ Y_) (S := over (put (tab [(0, (pq bx0)), (1, (iq a1)), (6, (iq l1i6))]) 43 (pq bx0)) F_) ?_
 refine al_val (ov_load (i := 1) (v := j5v0_0) rfl rfl Tryd.underlying74 sz74 rfl rfl rfl rfl) ?_
 refine al_nil ?_
 exact fr_fin hK_ ()⟩, ⟨_, rfl, [7], rfl, by
 intro _
 intro X_ Y_ F_ K_ hK_
 refine al_show (m := Mem.plus (memOf w0 Z0 [(oBox bx0 79 [v0_0, (iq a0.free)]), (oRow v0_0 5 tyU8 a0.out)] [(oRow j5v0_0 5 tyU8 j5x0_0), (oBox bx0 79 [j5v0_0, (iq (wq (j5i0_1 - (1 : Int))))])] []) X_ Y_) (S := over (put (tab [(0, (pq bx0)), (1, (iq a1)), (6, (iq l1i6))]) 44 j5v0_0) F_) ?_
 refine al_val (ov_lenR 0 rfl rfl Tryd.underlying74 rfl) ?_
 refine al_nil ?_
 exact fr_fin hK_ ()⟩, ⟨_, rfl, [8], rfl, by
 intro _
 intro X_ Y_ F_ K_ hK_
 refine al_show (m := Mem.plus (memOf w0 Z0 [(oBox bx0 79 [v0_0, (iq a0.free)]), (oRow v0_0 5 tyU8 a0.out)] [(oRow j5v0_0 5 tyU8 j5x0_0), (oBox bx0 79 [j5v0_0, (iq (wq (j5i0_1 - (1 : Int))))])] []) X_ Y_) (S := over (put (tab [(0, (pq bx0)), (1, (iq a1)), (6, (iq l1i6))]) 45 (iq (j5x0_0.length : Int))) F_) ?_
 refine al_in rfl rfl rfl rfl ?_
 refine al_nil ?_
 exact fr_fin hK_ ()⟩, ⟨_, rfl, [3, 9], rfl, by
 intro _
 intro _
 intro X_ Y_ F_ K_ hK_
 refine al_show (m := Mem.plus (memOf w0 Z0 [(oBox bx0 79 [v0_0, (iq a0.free)]), (oRow v0_0 5 tyU8 a0.out)] [(oRow j5v0_0 5 tyU8 j5x0_0), (oBox bx0 79 [j5v0_0, (iq (wq (j5i0_1 - (1 : Int))))])] []) X_ Y_) (S := over (put (put (tab [(0, (pq bx0)), (1, (iq a1)), (6, (iq l1i6))]) 40 j5v0_0) 46 (iq (wq ((j5x0_0.length : Int) - (1 : Int))))) F_) ?_
 refine al_idxR 0 (at_some hu8).1 (at_some hu8).2.1 rfl rfl rfl Tryd.underlying74 sz5 rfl (fun p9 hp10 => ?_)
 refine al_nil ?_
 exact fr_fin hK_ ⟨p9, hp10⟩⟩, ⟨_, rfl, [10], rfl, by
 rintro ⟨p9, hp10⟩
 intro X_ Y_ F_ K_ hK_
 refine al_show (m := Mem.plus (memOf w0 Z0 [(oBox bx0 79 [v0_0, (iq a0.free)]), (oRow v0_0 5 tyU8 a0.out)] [(oRow j5v0_0 5 tyU8 j5x0_0), (oBox bx0 79 [j5v0_0, (iq (wq (j5i0_1 - (1 : Int))))])] []) X_ Y_) (S := over (put (tab [(0, (pq bx0)), (1, (iq a1)), (6, (iq l1i6))]) 47 p9) F_) ?_
 refine al_val (ov_loadR (ds := [(i8 (u7.toNat : Int))]) 0 rfl hp10 (at_some hu8).2.2 (fun h => h) rfl Tryd.underlying5 sz5 rfl rfl rfl) ?_
 refine al_nil ?_
 exact fr_fin hK_ ()⟩, ⟨_, rfl, [], rfl, by
 intro X_ Y_ F_ K_ hK_
 refine al_show (m := Mem.plus (memOf w0 Z0 [(oBox bx0 79 [v0_0, (iq a0.free)]), (oRow v0_0 5 tyU8 a0.out)] [(oRow j5v0_0 5 tyU8 j5x0_0), (oBox bx0 79 [j5v0_0, (iq (wq (j5i0_1 - (1 : Int))))])] []) X_ Y_) (S := over (tab [(0, (pq bx0)), (1, (iq a1)), (6, (iq l1i6))]) F_) ?_
 refine al_mv rfl rfl ?_
 refine al_nil ?_
 exact fr_fin hK_ ()⟩, ⟨_, rfl, [], rfl, by
 intro X_ Y_ F_ K_ hK_
 refine al_show (m := Mem.plus (memOf w0 Z0 [(oBox bx0 79 [v0_0, (iq a0.free)]), (oRow v0_0 5 tyU8 a0.out)] [(oRow j5v0_0 5 tyU8 j5x0_0), (oBox bx0 79 [j5v0_0, (iq (wq (j5i0_1 - (1 : Int))))])] []) X_ Y_) (S := over (tab [(0, (pq bx0)), (1, (iq a1)), (6, (iq l1i6))]) F_) ?_
 refine al_mv rfl rfl ?_
 refine al_nil ?_
 exact fr_fin hK_ ()⟩, ⟨_, rfl, [12, 13], rfl, by
 intro _
 intro _
 intro X_ Y_ F_ K_ hK_
 refine al_show (m := Mem.plus (memOf w0 Z0 [(oBox bx0 79 [v0_0, (iq a0.free)]), (oRow v0_0 5 tyU8 a0.out)] [(oRow j5v0_0 5 tyU8 j5x0_0), (oBox bx0 79 [j5v0_0, (iq (wq (j5i0_1 - (1 : Int))))])] []) X_ Y_) (S := over (put (put (tab [(0, (pq bx0)), (1, (iq a1)), (6, (iq l1i6))]) 49 (iq a1)) 50 (iq l1i6)) F_) ?_
 refine al_val (ov_shr hc11 rfl rfl rfl) ?_
 refine al_nil ?_
 exact fr_fin hK_ ()⟩, ⟨_, rfl, [14], rfl, by
 intro _
 intro X_ Y_ F_ K_ hK_
 refine al_show (m := Mem.plus (memOf w0 Z0 [(oBox bx0 79 [v0_0, (iq a0.free)]), (oRow v0_0 5 tyU8 a0.out)] [(oRow j5v0_0 5 tyU8 j5x0_0), (oBox bx0 79 [j5v0_0, (iq (wq (j5i0_1 - (1 : Int))))])] []) X_ Y_) (S := over (put (tab [(0, (pq bx0)), (1, (iq a1)), (6, (iq l1i6))]) 51 (iq ((a1).fdiv (2 ^ min (l1i6).toNat (IntKind.bits .i64))))) F_) ?_
 refine al_in rfl rfl rfl rfl ?_
 refine al_nil ?_
 exact fr_fin hK_ ()⟩, ⟨_, rfl, [15], rfl, by
 intro _
 intro X_ Y_ F_ K_ hK_
 refine al_show (m := Mem.plus (memOf w0 Z0 [(oBox bx0 79 [v0_0, (iq a0.free)]), (oRow v0_0 5 tyU8 a0.out)] [(oRow j5v0_0 5 tyU8 j5x0_0), (oBox bx0 79 [j5v0_0, (iq (wq (j5i0_1 - (1 : Int))))])] []) X_ Y_) (S := over (put (tab [(0, (pq bx0)), (1, (iq a1)), (6, (iq l1i6))]) 52 (iq (bits .and .i64 ((a1).fdiv (2 ^ min (l1i6).toNat (IntKind.bits .i64))) (1 : Int)))) F_) ?_
 refine al_val (ov_convInt (by rw [Tryd.underlying3]; rfl) Tryd.underlying5 rfl rfl) ?_
 refine al_nil ?_
 exact fr_fin hK_ ()⟩, ⟨_, rfl, [], rfl, by
 intro X_ Y_ F_ K_ hK_
 refine al_show (m := Mem.plus (memOf w0 Z0 [(oBox bx0 79 [v0_0, (iq a0.free)]), (oRow v0_0 5 tyU8 a0.out)] [(oRow j5v0_0 5 tyU8 j5x0_0), (oBox bx0 79 [j5v0_0, (iq (wq (j5i0_1 - (1 : Int))))])] []) X_ Y_) (S := over (tab [(0, (pq bx0)), (1, (iq a1)), (6, (iq l1i6))]) F_) ?_
 refine al_mv rfl rfl ?_
 refine al_nil ?_
 exact fr_fin hK_ ()⟩, ⟨_, rfl, [17], rfl, by
 intro _
 intro X_ Y_ F_ K_ hK_
 refine al_show (m := Mem.plus (memOf w0 Z0 [(oBox bx0 79 [v0_0, (iq a0.free)]), (oRow v0_0 5 tyU8 a0.out)] [(oRow j5v0_0 5 tyU8 j5x0_0), (oBox bx0 79 [j5v0_0, (iq (wq (j5i0_1 - (1 : Int))))])] []) X_ Y_) (S := over (put (tab [(0, (pq bx0)), (1, (iq a1)), (6, (iq l1i6))]) 54 (pq bx0)) F_) ?_
 refine al_val (ov_nilCheck rfl rfl) ?_
 refine al_nil ?_
 exact fr_fin hK_ ()⟩, ⟨_, rfl, [18], rfl, by
 intro _
 intro X_ Y_ F_ K_ hK_
 refine al_show (m := Mem.plus (memOf w0 Z0 [(oBox bx0 79 [v0_0, (iq a0.free)]), (oRow v0_0 5 tyU8 a0.out)] [(oRow j5v0_0 5 tyU8 j5x0_0), (oBox bx0 79 [j5v0_0, (iq (wq (j5i0_1 - (1 : Int))))])] []) X_ Y_) (S := over (put (tab [(0, (pq bx0)), (1, (iq a1)), (6, (iq l1i6))]) 55 (pq bx0)) F_) ?_
 refine al_val (ov_fieldA (p := 1) rfl Tryd.underlying79 rfl sz3 rfl rfl rfl) ?_
 refine al_nil ?_
 exact fr_fin hK_ ()⟩, ⟨_, rfl, [19], rfl, by
 intro _
 intro X_ Y_ F_ K_ hK_
 refine al_show (m := Mem.plus (memOf w0 Z0 [(oBox bx0 79 [v0_0, (iq a0.free)]), (oRow v0_0 5 tyU8 a0.out)] [(oRow j5v0_0 5 tyU8 j5x0_0), (oBox bx0 79 [j5v0_0, (iq (wq (j5i0_1 - (1 : Int))))])] []) X_ Y_) (S := over (put (tab [(0, (pq bx0)), (1, (iq a1)), (6, (iq l1i6))]) 56 (ptr bx0 1)) F_) ?_
 refine al_val (ov_load (i := 1) (v := (iq (wq (j5i0_1 - (1 : Int))))) rfl rfl Tryd.underlying3 sz3 rfl rfl rfl rfl) ?_
 refine al_nil ?_
 exact fr_fin hK_ ()⟩, ⟨_, rfl, [16, 20], rfl, by
 intro _
 intro _
 intro X_ Y_ F_ K_ hK_
 refine al_show (m := Mem.plus (memOf w0 Z0 [(oBox bx0 79 [v0_0, (iq a0.free)]), (oRow v0_0 5 tyU8 a0.out)] [(oRow j5v0_0 5 tyU8 j5x0_0), (oBox bx0 79 [j5v0_0, (iq (wq (j5i0_1 - (1 : Int))))])] []) X_ Y_) (S := over (put (put (tab [(0, (pq bx0)), (1, (iq a1)), (6, (iq l1i6))]) 53 (i8 (w8 (bits .and .i64 ((a1).fdiv (2 ^ min (l1i6).toNat (IntKind.bits .i64))) (1 : Int))))) 57 (iq (wq (j5i0_1 - (1 : Int))))) F_) ?_
 refine al_val (ov_shl hc12 rfl rfl rfl) ?_
 refine al_nil ?_
 exact fr_fin hK_ ()⟩, ⟨_, rfl, [11, 21], rfl, by
 intro _
 intro _
 intro X_ Y_ F_ K_ hK_
 refine al_show (m := Mem.plus (memOf w0 Z0 [(oBox bx0 79 [v0_0, (iq a0.free)]), (oRow v0_0 5 tyU8 a0.out)] [(oRow j5v0_0 5 tyU8 j5x0_0), (oBox bx0 79 [j5v0_0, (iq (wq (j5i0_1 - (1 : Int))))])] []) X_ Y_) (S := over (put (put (tab [(0, (pq bx0)), (1, (iq a1)), (6, (iq l1i6))]) 48 (i8 (u7.toNat : Int))) 58 (i8 (w8 ((w8 (bits .and .i64 ((a1).fdiv (2 ^ min (l1i6).toNat (IntKind.bits .i64))) (1 : Int))) * 2 ^ min ((wq (j5i0_1 - (1 : Int)))).toNat (IntKind.bits .u8))))) F_) ?_
 refine al_in rfl rfl rfl rfl ?_
 refine al_nil ?_
 exact fr_fin hK_ ()⟩, ⟨_, rfl, [0, 1, 2, 3, 4, 5, 6, 7, 8, 9, 10, 11, 12, 13, 14, 15, 16, 17, 18, 19, 20, 21, 22], rfl, by
 intro _
 intro _
 intro _
 intro _
 intro _
 intro _
 intro _
 intro _
 intro _
 intro _
 rintro ⟨p9, hp10⟩
 intro _
 intro _
 intro _
 intro _
 intro _
 intro _
 intro _
 intro _
 intro _
 intro _
 intro _
 intro _
 intro X_ Y_ F_ K_ hK_
 refine al_show (m := Mem.plus (memOf w0 Z0 [(oBox bx0 79 [v0_0, (iq a0.free)]), (oRow v0_0 5 tyU8 a0.out)] [(oRow j5v0_0 5 tyU8 j5x0_0), (oBox bx0 79 [j5v0_0, (iq (wq (j5i0_1 - (1 : Int))))])] []) X_ Y_) (S := over (put (put (put (put (put (put (put (put (put (put (put (put (put (put (put (put (put (put (put (put (put (put (put (tab [(0, (pq bx0)), (1, (iq a1)), (6, (iq l1i6))]) 37 (pq bx0)) 38 (pq bx0)) 39 (pq bx0)) 40 j5v0_0) 41 (pq bx0)) 42 (pq bx0)) 43 (pq bx0)) 44 j5v0_0) 45 (iq (j5x0_0.length : Int))) 46 (iq (wq ((j5x0_0.length : Int) - (1 : Int))))) 47 p9) 48 (i8 (u7.toNat : Int))) 49 (iq a1)) 50 (iq l1i6)) 51 (iq ((a1).fdiv (2 ^ min (l1i6).toNat (IntKind.bits .i64))))) 52 (iq (bits .and .i64 ((a1).fdiv (2 ^ min (l1i6).toNat (IntKind.bits .i64))) (1 : Int)))) 53 (i8 (w8 (bits .and .i64 ((a1).fdiv (2 ^ min (l1i6).toNat (IntKind.bits .i64))) (1 : Int))))) 54 (pq bx0)) 55 (pq bx0)) 56 (ptr bx0 1)) 57 (iq (wq (j5i0_1 - (1 : Int))))) 58 (i8 (w8 ((w8 (bits .and .i64 ((a1).fdiv (2 ^ min (l1i6).toNat (IntKind.bits .i64))) (1 : Int))) * 2 ^ min ((wq (j5i0_1 - (1 : Int)))).toNat (IntKind.bits .u8))))) 59 (i8 (bits .or .u8 (u7.toNat : Int) (w8 ((w8 (bits .and .i64 ((a1).fdiv (2 ^ min (l1i6).toNat (IntKind.bits .i64))) (1 : Int))) * 2 ^ min ((wq (j5i0_1 - (1 : Int)))).toNat (IntKind.bits .u8)))))) F_) ?_
 refine al_idxR 0 (at_some hu14).1 (at_some hu14).2.1 rfl rfl rfl Tryd.underlying74 sz5 rfl (fun p15 hp16 => ?_)
 refine al_nil ?_
 exact fr_fin hK_ ⟨p15, hp16⟩⟩, trivial⟩ ?_
   intro _
   intro _
   intro _
   intro _
   intro _
   intro _
   intro _
   intro _
   intro _
   intro _
   rintro ⟨p9, hp10⟩
   intro _
   intro _
   intro _
   intro _
   intro _
   intro _
   intro _
   intro _
   intro _
   intro _
   intro _
   intro _
   rintro ⟨p15, hp16⟩
   intro X_ Y_ F_ K_ hK_
   refine al_show (m := Mem.plus (memOf w0 Z0 [(oBox bx0 79 [v0_0, (iq a0.free)]), (oRow v0_0 5 tyU8 a0.out)] [(oRow j5v0_0 5 tyU8 j5x0_0), (oBox bx0 79 [j5v0_0, (iq (wq (j5i0_1 - (1 : Int))))])] []) X_ Y_) (S := over (put (put (put (put (put (put (put (put (put (put (put (put (put (put (put (put (put (put (put (put (put (put (put (put (tab [(0, (pq bx0)), (1, (iq a1)), (6, (iq l1i6))]) 37 (pq bx0)) 38 (pq bx0)) 39 (pq bx0)) 40 j5v0_0) 41 (pq bx0)) 42 (pq bx0)) 43 (pq bx0)) 44 j5v0_0) 45 (iq (j5x0_0.length : Int))) 46 (iq (wq ((j5x0_0.length : Int) - (1 : Int))))) 47 p9) 48 (i8 (u7.toNat : Int))) 49 (iq a1)) 50 (iq l1i6)) 51 (iq ((a1).fdiv (2 ^ min (l1i6).toNat (IntKind.bits .i64))))) 52 (iq (bits .and .i64 ((a1).fdiv (2 ^ min (l1i6).toNat (IntKind.bits .i64))) (1 : Int)))) 53 (i8 (w8 (bits .and .i64 ((a1).fdiv (2 ^ min (l1i6).toNat (IntKind.bits .i64))) (1 : Int))))) 54 (pq bx0)) 55 (pq bx0)) 56 (ptr bx0 1)) 57 (iq (wq (j5i0_1 - (1 : Int))))) 58 (i8 (w8 ((w8 (bits .and .i64 ((a1).fdiv (2 ^ min (l1i6).toNat (IntKind.bits .i64))) (1 : Int))) * 2 ^ min ((wq (j5i0_1 - (1 : Int)))).toNat (IntKind.bits .u8))))) 59 (i8 (bits .or .u8 (u7.toNat : Int) (w8 ((w8 (bits .and .i64 ((a1).fdiv (2 ^ min (l1i6).toNat (IntKind.bits .i64))) (1 : Int))) * 2 ^ min ((wq (j5i0_1 - (1 : Int)))).toNat (IntKind.bits .u8)))))) 60 p15) F_) ?_
   obtain ⟨hc17, h⟩ := req_some h
   refine al_storeR (k := ((wq ((j5x0_0.length : Int) - (1 : Int)))).toNat) (x := (UInt8.ofNat ((bits .or .u8 (u7.toNat : Int) (w8 ((w8 (bits .and .i64 ((a1).fdiv (2 ^ min (l1i6).toNat (IntKind.bits .i64))) (1 : Int))) * 2 ^ min ((wq (j5i0_1 - (1 : Int)))).toNat (IntKind.bits .u8))))).toNat)) (vs := [(i8 (bits .or .u8 (u7.toNat : Int) (w8 ((w8 (bits .and .i64 ((a1).fdiv (2 ^ min (l1i6).toNat (IntKind.bits .i64))) (1 : Int))) * 2 ^ min ((wq (j5i0_1 - (1 : Int)))).toNat (IntKind.bits .u8)))))]) 0 rfl hp16 (idx_lt hu14) rfl rfl (cv_rfl rfl) (fun _ => u8_rep hc17) sz5 rfl ?_
   refine al_nil ?_
   refine aq_show (m := Mem.plus (memOf w0 Z0 [(oBox bx0 79 [v0_0, (iq a0.free)]), (oRow v0_0 5 tyU8 a0.out)] [(oRow j5v0_0 5 tyU8 (j5x0_0.set ((wq ((j5x0_0.length : Int) - (1 : Int)))).toNat (UInt8.ofNat ((bits .or .u8 (u7.toNat : Int) (w8 ((w8 (bits .and .i64 ((a1).fdiv (2 ^ min (l1i6).toNat (IntKind.bits .i64))) (1 : Int))) * 2 ^ min ((wq (j5i0_1 - (1 : Int)))).toNat (IntKind.bits .u8))))).toNat))), (oBox bx0 79 [j5v0_0, (iq (wq (j5i0_1 - (1 : Int))))])] []) X_ Y_) ?_
   refine aq_next hK_ [0, 1] [] [(0, (pq bx0)), (1, (iq a1)), (6, (iq l1i6))] [] [] rfl rfl (by decide) rfl ⟨rfl, rfl, rfl, trivial⟩ trivial ?_
   clear hK_ K_ F_ X_ Y_
   refine ta_show (m := (memOf w0 Z0 [(oBox bx0 79 [v0_0, (iq a0.free)]), (oRow v0_0 5 tyU8 a0.out)] [(oRow j5v0_0 5 tyU8 (j5x0_0.set ((wq ((j5x0_0.length : Int) - (1 : Int)))).toNat (UInt8.ofNat ((bits .or .u8 (u7.toNat : Int) (w8 ((w8 (bits .and .i64 ((a1).fdiv (2 ^ min (l1i6).toNat (IntKind.bits .i64))) (1 : Int))) * 2 ^ min ((wq (j5i0_1 - (1 : Int)))).toNat (IntKind.bits .u8))))).toNat))), (oBox bx0 79 [j5v0_0, (iq (wq (j5i0_1 - (1 : Int))))])] [])) (S := (tab [(0, (pq bx0)), (1, (iq a1)), (6, (iq l1i6))])) ?_
   refine ta_end [] [] rfl rfl (by kernel_rfl) rfl trivial ?_
   refine aq_show (m := (memOf w0 Z0 [(oBox bx0 79 [v0_0, (iq a0.free)]), (oRow v0_0 5 tyU8 a0.out)] [(oRow j5v0_0 5 tyU8 (j5x0_0.set ((wq ((j5x0_0.length : Int) - (1 : Int)))).toNat (UInt8.ofNat ((bits .or .u8 (u7.toNat : Int) (w8 ((w8 (bits .and .i64 ((a1).fdiv (2 ^ min (l1i6).toNat (IntKind.bits .i64))) (1 : Int))) * 2 ^ min ((wq (j5i0_1 - (1 : Int)))).toNat (IntKind.bits .u8))))).toNat))), (oBox bx0 79 [j5v0_0, (iq (wq (j5i0_1 - (1 : Int))))])] [])) (S := (tab [(0, (pq bx0)), (1, (iq a1)), (6, (iq l1i6))])) ?_
   refine aq_block ?_
   refine aq_then ?_
   refine aw_region ?_
   refine al_mv rfl rfl ?_
   refine al_in rfl rfl rfl rfl ?_
   refine al_as rfl rfl ?_
   refine al_nil ?_
   exact aq_again k2 (j5v0_0, (j5x0_0.set ((wq ((j5x0_0.length : Int) - (1 : Int)))).toNat (UInt8.ofNat ((bits .or .u8 (u7.toNat : Int) (w8 ((w8 (bits .and .i64 ((a1).fdiv (2 ^ min (l1i6).toNat (IntKind.bits .i64))) (1 : Int))) * 2 ^ min ((wq (j5i0_1 - (1 : Int)))).toNat (IntKind.bits .u8))))).toNat)), (wq (j5i0_1 - (1 : Int))), (wq (l1i6 - (1 : Int)))) (Nat.lt_succ_self _) h (fun w a hm hs => norm hm hs [0, 1] [] [(0, (pq bx0)), (1, (iq a1)), (6, (iq (wq (l1i6 - (1 : Int)))))] (by decide) ⟨rfl, rfl, rfl, trivial⟩)
  ·clear hkk6
   refine aw_sr ?_
   refine al_mv rfl rfl ?_
   refine al_val (ov_nilCheck rfl rfl) ?_
   refine al_val (ov_fieldA (p := 1) rfl Tryd.underlying79 rfl sz3 rfl rfl rfl) ?_
   refine al_val (ov_load (i := 1) (v := (iq l1i0_1)) rfl rfl Tryd.underlying3 sz3 rfl rfl rfl rfl) ?_
   refine al_in rfl rfl rfl rfl ?_
   refine al_nt ?_
   refine aw_cond rfl (fun hb18 => ?_) (fun hb18 => ?_)
   ·replace h := bif_t hb18 h
    refine aw_sr ?_
    refine al_mv rfl rfl ?_
    refine al_mv rfl rfl ?_
    refine al_val (ov_nilCheck rfl rfl) ?_
    refine al_val (ov_fieldA (p := 0) rfl Tryd.underlying79 rfl sz74 rfl rfl rfl) ?_
    refine al_val (ov_load (i := 1) (v := l1v0_0) rfl rfl Tryd.underlying74 sz74 rfl rfl rfl rfl) ?_
    obtain ⟨hc20, h⟩ := req_some h
    refine al_buildSlice (τ := tyU8) (e := 5) (k := 1) (sz := 0) (by_ := 0) (z := undef) (cs := [(i8 (0 : Int))]) (xs := [(UInt8.ofNat ((0 : Int)).toNat)]) rfl (by decide) (fun w a hm hs => ⟨([(i8 (0 : Int))]).toArray, rfl, by simp only [List.map_toArray, List.map_cons, List.map_nil, hs.ev (x := .const (i8 (0 : Int))) rfl]; exact run_bs [(i8 (0 : Int))] [(i8 (0 : Int))] Tryd.underlying74 to5 rfl rfl (bs_cons (l := [(i8 (0 : Int))]) (cs := []) (cv_rfl rfl) rfl bs_nil) hm⟩) (fun hm => ⟨_, _, rfl, (fun _ => u8_rep hc20) hm, rfl⟩) rfl (fun v19 => ?_)
    obtain ⟨hc21, h⟩ := req_some h
    refine al_append 1 hc21.1 hc21.2 rfl (src_own (i := 1) 0 rfl) rfl rfl Tryd.underlying74 to5 rfl rfl rfl (fun v22 => ?_)
    refine al_val (ov_nilCheck rfl rfl) ?_
    refine al_val (ov_fieldA (p := 0) rfl Tryd.underlying79 rfl sz74 rfl rfl rfl) ?_
    refine al_store (i := 2) (vs := [v22]) (cs' := [v22, (iq l1i0_1)]) rfl rfl rfl sz74 (cv_own 1 rfl) rfl (co_own 1 rfl co_nil) (Nat.le_of_ble_eq_true rfl) rfl rfl ?_
    refine al_nt ?_
    refine aw_region ?_
    refine al_mv rfl rfl ?_
    refine al_val (ov_nilCheck rfl rfl) ?_
    refine al_val (ov_fieldA (p := 1) rfl Tryd.underlying79 rfl sz3 rfl rfl rfl) ?_
    refine al_store (i := 2) (vs := [(iq (8 : Int))]) (cs' := [v22, (iq (8 : Int))]) rfl rfl rfl sz3 (cv_rfl rfl) rfl (co_val rfl co_nil) (Nat.le_of_ble_eq_true rfl) rfl rfl ?_
    refine al_nil ?_
    exact aq_join (v22, (l1x0_0 ++ ([(UInt8.ofNat ((0 : Int)).toNat)])), (8 : Int)) h (fun w a hm hs => norm hm hs [1, 2] [] [(0, (pq bx0)), (1, (iq a1)), (6, (iq l1i6))] (by decide) ⟨rfl, rfl, rfl, trivial⟩)
   ·replace h := bif_f hb18 h
    refine aw_skip ?_
    exact aq_join (l1v0_0, l1x0_0, l1i0_1) h (fun w a hm hs => norm hm hs [0, 1] [] [(0, (pq bx0)), (1, (iq a1)), (6, (iq l1i6))] (by decide) ⟨rfl, rfl, rfl, trivial⟩)
 ·replace h := bif_f hb4 h
  refine aw_exit ?_
  refine aq_then_exit ?_
  refine aq_then_exit ?_
  refine aq_block_exit ?_
  refine fn_end ?_
  obtain rfl := Option.some.inj h
  exact fn_ret l1v0_0 [1, 0] [] rfl rfl rfl rfl (resC rfl (resN) rfl) rfl rfl rfl (by decide)
def f_press_Press_L34 (r6 : ((List UInt8) × Int)) (r12 : ((List Int) × Int)) (r15 : ((List Int) × Int)) (kk25 : ((List UInt8) → Int → Option ((List UInt8) × Int))) (fu : Nat) : Nat → (List UInt8) → Int → Int → Option ((List UInt8) × Int)
  | 0, _, _, _ => none
  | k33 + 1, l32x20_0, l32i20_1, l32i108 => (bif (decide (l32i108 < (r6.1.length : Int))) then (req (0 ≤ l32i108 ∧ l32i108 < (r6.1.length : Int)) (opt (at? r15.1 (En.bAt r6.1 l32i108)) fun (u37 : Int) => (req (0 ≤ l32i108 ∧ l32i108 < (r6.1.length : Int)) (opt (at? r12.1 (En.bAt r6.1 l32i108)) fun (u42 : Int) => (opt (f___press_writer__put fu (D_press_writer.mk l32x20_0 l32i20_1) u37 u42) fun (r47 : D_press_writer) => (f_press_Press_L34 r6 r12 r15 kk25 fu k33 r47.out r47.free (IntKind.i64.wrap (l32i108 + (1 : Int))))))))) else (kk25 l32x20_0 l32i20_1))
def f_press_Press_L51 (r12 : ((List Int) × Int)) (kk22 : ((List UInt8) → Option ((List UInt8) × Int))) : Nat → (List UInt8) → Int → Option ((List UInt8) × Int)
  | 0, _, _ => none
  | k50 + 1, l49x15, l49i89 => (bif (decide (l49i89 < (r12.1.length : Int))) then (lt (fun (j53x15 : (List UInt8)) => (f_press_Press_L51 r12 kk22 k50 j53x15 (IntKind.i64.wrap (l49i89 + (1 : Int))))) fun (kk54 : (List UInt8) → Option ((List UInt8) × Int)) => (opt (at? r12.1 l49i89) fun (u55 : Int) => (bif (decide (u55 > (0 : Int))) then (req (0 ≤ (IntKind.u8.wrap l49i89) ∧ (IntKind.u8.wrap l49i89) ≤ 255) (req (0 ≤ (IntKind.u8.wrap u55) ∧ (IntKind.u8.wrap u55) ≤ 255) (req (((l49x15.length + ([(UInt8.ofNat ((IntKind.u8.wrap l49i89)).toNat), (UInt8.ofNat ((IntKind.u8.wrap u55)).toNat)]).length) * 1 : Nat) ≤ 140737488355328 ∧ l49x15.length + ([(UInt8.ofNat ((IntKind.u8.wrap l49i89)).toNat), (UInt8.ofNat ((IntKind.u8.wrap u55)).toNat)]).length ≤ 9223372036854775807) (kk54 (l49x15 ++ ([(UInt8.ofNat ((IntKind.u8.wrap l49i89)).toNat), (UInt8.ofNat ((IntKind.u8.wrap u55)).toNat)])))))) else (kk54 l49x15)))) else (kk22 l49x15))
def f_press_Press_L68 (a0 : (List UInt8)) (r6 : ((List UInt8) × Int)) (j9i9 : Int) (kk20 : ((List UInt8) → Option ((List UInt8) × Int))) (fu : Nat) : Nat → (List UInt8) → Int → Option ((List UInt8) × Int)
  | 0, _, _ => none
  | k67 + 1, l66x15, l66i77 => (bif (decide (l66i77 < (([(a0.length : Int), (r6.1.length : Int), j9i9]).length : Int))) then (opt (at? ([(a0.length : Int), (r6.1.length : Int), j9i9]) l66i77) fun (u70 : Int) => (opt (f_num_Put fu (IntKind.u64.wrap u70)) fun (r75 : (List UInt8)) => (req (l66x15.length + r75.length ≤ 140737488355328) (f_press_Press_L68 a0 r6 j9i9 kk20 fu k67 (l66x15 ++ r75) (IntKind.i64.wrap (l66i77 + (1 : Int))))))) else (kk20 l66x15))
def f_press_Press_L80 (r6 : ((List UInt8) × Int)) (kk10 : ((List Int) → Int → Option ((List UInt8) × Int))) : Nat → (List Int) → Int → Int → Option ((List UInt8) × Int)
  | 0, _, _, _ => none
  | k79 + 1, l78x8, l78i9, l78i38 => (bif (decide (l78i38 < (r6.1.length : Int))) then (lt (fun (j82i9 : Int) => (req (0 ≤ l78i38 ∧ l78i38 < (r6.1.length : Int)) (opt (at? l78x8 (En.bAt r6.1 l78i38)) fun (u85 : Int) => (opt (at? l78x8 (En.bAt r6.1 l78i38)) fun (u89 : Int) => (f_press_Press_L80 r6 kk10 k79 (l78x8.set ((En.bAt r6.1 l78i38)).toNat (IntKind.i64.wrap (u85 + (1 : Int)))) j82i9 (IntKind.i64.wrap (l78i38 + (1 : Int)))))))) fun (kk83 : Int → Option ((List UInt8) × Int)) => (req (0 ≤ l78i38 ∧ l78i38 < (r6.1.length : Int)) (opt (at? l78x8 (En.bAt r6.1 l78i38)) fun (u94 : Int) => (bif (u94 == (0 : Int)) then (kk83 (IntKind.i64.wrap (l78i9 + (1 : Int)))) else (kk83 l78i9))))) else (kk10 l78x8 l78i9))
def f_press_Press (fu : Nat) (a0 : (List UInt8)) : Option ((List UInt8) × Int) := (opt (f_lz_Greedy fu a0) fun (r2 : ((List S_api_Token) × Int)) => (bif (r2.2 != (0 : Int)) then (some (([] : List UInt8), r2.2)) else (opt (f_lz_Pack fu r2.1) fun (r6 : ((List UInt8) × Int)) => (req (0 ≤ (256 : Int) ∧ 8 * (256 : Int) ≤ 281474976710656 ∧ (256 : Int) ≤ 9223372036854775807) (lt (fun (j9x8 : (List Int)) (j9i9 : Int) => (opt (f_huff_Lengths fu j9x8) fun (r12 : ((List Int) × Int)) => (opt (f_huff_Codes fu r12.1) fun (r15 : ((List Int) × Int)) => (req (0 ≤ (1 : Int) ∧ (1 : Int) ≤ 255) (lt (fun (j19x15 : (List UInt8)) => (lt (fun (j21x15 : (List UInt8)) => (lt (fun (j24x20_0 : (List UInt8)) (j24i20_1 : Int) => (req (((j21x15.length + j24x20_0.length) * 1 : Nat) ≤ 140737488355328 ∧ j21x15.length + j24x20_0.length ≤ 9223372036854775807) (bif (decide (((j21x15 ++ j24x20_0).length : Int) < (IntKind.i64.wrap ((1 : Int) + (a0.length : Int))))) then (some ((j21x15 ++ j24x20_0), (0 : Int))) else (req (0 ≤ (0 : Int) ∧ (0 : Int) ≤ 255) (req (([(UInt8.ofNat ((0 : Int)).toNat)]).length + a0.length ≤ 9223372036854775807) (some ((([(UInt8.ofNat ((0 : Int)).toNat)]) ++ a0), (0 : Int)))))))) fun (kk25 : (List UInt8) → Int → Option ((List UInt8) × Int)) => (f_press_Press_L34 r6 r12 r15 kk25 fu fu ([] : List UInt8) (0 : Int) (0 : Int)))) fun (kk22 : (List UInt8) → Option ((List UInt8) × Int)) => (f_press_Press_L51 r12 kk22 fu j19x15 (0 : Int)))) fun (kk20 : (List UInt8) → Option ((List UInt8) × Int)) => (f_press_Press_L68 a0 r6 j9i9 kk20 fu fu ([(UInt8.ofNat ((1 : Int)).toNat)]) (0 : Int))))))) fun (kk10 : (List Int) → Int → Option ((List UInt8) × Int)) => (f_press_Press_L80 r6 kk10 fu (List.replicate ((256 : Int)).toNat 0) (0 : Int) (0 : Int)))))))
end Go.Proofs.YtfhifdmbdkkgaaaDoor
