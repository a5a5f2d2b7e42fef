/- Walks by program. No condition. -/
import Derived.Test.YtfhifdmbdkkgaaaEn25
import Derived.Test.YtfhifdmbdkkgaaaChecked
import Derived.Test.YtfhifdmbdkkgaaaEn26
import Derived.Test.YtfhifdmbdkkgaaaEn25
import Derived.Test.YtfhifdmbdkkgaaaWHuffLengths_a
namespace Go.Proofs.Ytfhifdmbdkkgaaa
open Go.RowKit Ytfhifdmbdkkgaaa.En
set_option linter.unusedVariables false
set_option linter.unusedSimpArgs false
open Go.Value (int bool)
set_option maxRecDepth 100000 in
set_option maxHeartbeats 2000000 in
theorem f___huff_heap_huff_tree___pop_ok (fu : Nat) (bx0 : Nat) (v0_0 : Value) (a0 : D_huff_heap_huff_tree_) {r : (S_huff_tree × D_huff_heap_huff_tree_)} (h : f___huff_heap_huff_tree___pop fu a0 = some r) : FnOk Try.prog 64 [(ptr bx0 0)] [] [(oBox bx0 127 [v0_0, (Value.func (.func 61) #[] #[])]), (oRow v0_0 122 tyS_huff_tree a0.items)] (fun (i : Value × Value) => { val := (ag [(int .i64 r.1.weight), (int .i64 r.1.least), i.1]), own := [(oBox bx0 127 [i.2, (Value.func (.func 61) #[] #[])]), (oRow i.2 122 tyS_huff_tree r.2.items)], fz := [(fDat (tyList (tyInt .i64)) [i.1] r.1.symbols)] }) := by
 unfold f___huff_heap_huff_tree___pop at h
 refine fn_enter Try.func64 rfl Try.ntmps64 rfl (fun w0 Z0 => ?_)
 refine aw_sr ?_
 refine al_alloc (zs := [(int .i64 (0 : Int)), (int .i64 (0 : Int)), (Value.slice none 0 0)]) (zeroOf_to to122) rfl rfl (fun g1 => ?_)
 refine al_nt ?_
 refine aw_sr ?_
 refine al_mv rfl rfl ?_
 refine al_val (ov_nilCheck rfl rfl) ?_
 refine al_val (ov_fieldA (p := 0) rfl Try.underlying127 rfl sz125 rfl rfl rfl) ?_
 refine al_val (ov_load (i := 1) (v := v0_0) rfl rfl Try.underlying125 sz125 rfl rfl rfl rfl) ?_
 obtain ⟨u2, hu3, h⟩ := opt_some h
 refine al_idxR 2 (at_some hu3).1 (at_some hu3).2.1 rfl rfl rfl Try.underlying125 sz122 rfl (fun p4 hp5 => ?_)
 refine al_loadRA 2 rfl hp5 (at_some hu3).2.2 rfl Try.underlying122 sz122 rfl rfl (fun cs7 => ?_)
 refine al_use (ι := Value) 0 rfl (fun j => cs7 = [(int .i64 u2.weight), (int .i64 u2.least), j]) (fun j => [(fDat (tyList (tyInt .i64)) [j] u2.symbols)]) encnS_huff_tree (fun s6 hq => ?_)
 subst hq
 refine al_alloc (zs := [(int .i64 (0 : Int)), (int .i64 (0 : Int)), (Value.slice none 0 0)]) (zeroOf_to to122) rfl rfl (fun g8 => ?_)
 refine al_store (i := 0) (vs := [(int .i64 u2.weight), (int .i64 u2.least), s6]) (cs' := [(int .i64 u2.weight), (int .i64 u2.least), s6]) rfl rfl rfl sz122 (cv_rfl rfl) rfl (co_val rfl (co_val rfl (co_fz 0 rfl co_nil))) (Nat.le_of_ble_eq_true rfl) rfl rfl ?_
 refine al_nt ?_
 refine aw_sr ?_
 refine al_mv rfl rfl ?_
 refine al_val (ov_nilCheck rfl rfl) ?_
 refine al_val (ov_fieldA (p := 0) rfl Try.underlying127 rfl sz125 rfl rfl rfl) ?_
 refine al_val (ov_load (i := 2) (v := v0_0) rfl rfl Try.underlying125 sz125 rfl rfl rfl rfl) ?_
 refine al_val (ov_lenR 3 rfl rfl Try.underlying125 rfl) ?_
 refine al_in rfl rfl rfl rfl ?_
 refine al_as rfl rfl ?_
 refine al_nt ?_
 refine aw_seq ?_
 obtain ⟨u9, hu10, h⟩ := opt_some h
 obtain ⟨u15, hu16, h⟩ := opt_some h
 refine aw_region_open [⟨0, 21, Unit, fun _ => { val := (ptr bx0 0) }⟩, ⟨1, 22, Unit, fun _ => { val := (ptr bx0 0) }⟩, ⟨2, 23, Unit, fun _ => { val := (ptr bx0 0) }⟩, ⟨3, 24, Unit, fun _ => { val := v0_0 }⟩, ⟨4, 25, Unit, fun _ => { val := (ptr bx0 0) }⟩, ⟨5, 26, Unit, fun _ => { val := (ptr bx0 0) }⟩, ⟨6, 27, Unit, fun _ => { val := (ptr bx0 0) }⟩, ⟨7, 28, Unit, fun _ => { val := v0_0 }⟩, ⟨8, 29, Unit, fun _ => { val := (int .i64 (IntKind.i64.wrap ((a0.items.length : Int) - (1 : Int)))) }⟩, ⟨9, 30, {p : Value // EltOf v0_0 p (((IntKind.i64.wrap ((a0.items.length : Int) - (1 : Int)))).toNat * Ty.size tyS_huff_tree)}, fun p => { val := p.1 }⟩, ⟨10, 31, Value, fun (i : Value) => { val := (ag [(int .i64 u9.weight), (int .i64 u9.least), i]), fz := [(fDat (tyList (tyInt .i64)) [i] u9.symbols), (fDat tyS_huff_tree [(int .i64 u9.weight), (int .i64 u9.least), i] u9)] }⟩, ⟨11, 32, {p : Value // EltOf v0_0 p (((0 : Int)).toNat * Ty.size tyS_huff_tree)}, fun p => { val := p.1 }⟩] (tab [(0, (ptr bx0 0)), (2, (ptr g1 0)), (3, (ptr g8 0)), (4, (int .i64 (IntKind.i64.wrap ((a0.items.length : Int) - (1 : Int)))))]) mixed (fun a hs => hs.tab _ (allT_mem ⟨rfl, rfl, rfl, rfl, trivial⟩)) ?_
 refine ta_show (m := (memOf w0 Z0 [(oBox bx0 127 [v0_0, (Value.func (.func 61) #[] #[])]), (oRow v0_0 122 tyS_huff_tree a0.items)] [(oBox g8 122 [(int .i64 u2.weight), (int .i64 u2.least), s6]), (oBox g1 122 [(int .i64 (0 : Int)), (int .i64 (0 : Int)), (Value.slice none 0 0)]), (oBox bx0 127 [v0_0, (Value.func (.func 61) #[] #[])]), (oRow v0_0 122 tyS_huff_tree a0.items)] [(fDat (tyList (tyInt .i64)) [s6] u2.symbols), (fDat tyS_huff_tree [(int .i64 u2.weight), (int .i64 u2.least), s6] u2)])) (S := (tab [(0, (ptr bx0 0)), (2, (ptr g1 0)), (3, (ptr g8 0)), (4, (int .i64 (IntKind.i64.wrap ((a0.items.length : Int) - (1 : Int)))))])) ?_
 refine ta_step 12 _ [0, 1, 2, 3, 4, 5, 6, 7, 8, 9, 10, 11] [21, 22, 23, 24, 25, 26, 27, 28, 29, 30, 31, 32] [0, 1, 2, 3, 4, 5, 6, 7, 8, 9, 10, 11] [] [⟨0, 21, Unit, fun _ => { val := (ptr bx0 0) }⟩, ⟨1, 22, Unit, fun _ => { val := (ptr bx0 0) }⟩, ⟨2, 23, Unit, fun _ => { val := (ptr bx0 0) }⟩, ⟨3, 24, Unit, fun _ => { val := v0_0 }⟩, ⟨4, 25, Unit, fun _ => { val := (ptr bx0 0) }⟩, ⟨5, 26, Unit, fun _ => { val := (ptr bx0 0) }⟩, ⟨6, 27, Unit, fun _ => { val := (ptr bx0 0) }⟩, ⟨7, 28, Unit, fun _ => { val := v0_0 }⟩, ⟨8, 29, Unit, fun _ => { val := (int .i64 (IntKind.i64.wrap ((a0.items.length : Int) - (1 : Int)))) }⟩, ⟨9, 30, {p : Value // EltOf v0_0 p (((IntKind.i64.wrap ((a0.items.length : Int) - (1 : Int)))).toNat * Ty.size tyS_huff_tree)}, fun p => { val := p.1 }⟩, ⟨10, 31, Value, fun (i : Value) => { val := (ag [(int .i64 u9.weight), (int .i64 u9.least), i]), fz := [(fDat (tyList (tyInt .i64)) [i] u9.symbols), (fDat tyS_huff_tree [(int .i64 u9.weight), (int .i64 u9.least), i] u9)] }⟩, ⟨11, 32, {p : Value // EltOf v0_0 p (((0 : Int)).toNat * Ty.size tyS_huff_tree)}, fun p => { val := p.1 }⟩] [] rfl rfl rfl (by kernel_rfl) rfl rfl rfl ⟨⟨_, rfl, [], rfl, by
 intro X_ Y_ F_ K_ hK_
 refine al_show (m := Mem.plus (memOf w0 Z0 [(oBox bx0 127 [v0_0, (Value.func (.func 61) #[] #[])]), (oRow v0_0 122 tyS_huff_tree a0.items)] [(oBox g8 122 [(int .i64 u2.weight), (int .i64 u2.least), s6]), (oBox g1 122 [(int .i64 (0 : Int)), (int .i64 (0 : Int)), (Value.slice none 0 0)]), (oBox bx0 127 [v0_0, (Value.func (.func 61) #[] #[])]), (oRow v0_0 122 tyS_huff_tree a0.items)] [(fDat (tyList (tyInt .i64)) [s6] u2.symbols), (fDat tyS_huff_tree [(int .i64 u2.weight), (int .i64 u2.least), s6] u2)]) X_ Y_) (S := over (tab [(0, (ptr bx0 0)), (2, (ptr g1 0)), (3, (ptr g8 0)), (4, (int .i64 (IntKind.i64.wrap ((a0.items.length : Int) - (1 : Int)))))]) F_) ?_
 refine al_mv rfl rfl ?_
 refine al_nil ?_
 exact fr_fin hK_ ()⟩, ⟨_, rfl, [0], rfl, by
 intro _
 intro X_ Y_ F_ K_ hK_
 refine al_show (m := Mem.plus (memOf w0 Z0 [(oBox bx0 127 [v0_0, (Value.func (.func 61) #[] #[])]), (oRow v0_0 122 tyS_huff_tree a0.items)] [(oBox g8 122 [(int .i64 u2.weight), (int .i64 u2.least), s6]), (oBox g1 122 [(int .i64 (0 : Int)), (int .i64 (0 : Int)), (Value.slice none 0 0)]), (oBox bx0 127 [v0_0, (Value.func (.func 61) #[] #[])]), (oRow v0_0 122 tyS_huff_tree a0.items)] [(fDat (tyList (tyInt .i64)) [s6] u2.symbols), (fDat tyS_huff_tree [(int .i64 u2.weight), (int .i64 u2.least), s6] u2)]) X_ Y_) (S := over (put (tab [(0, (ptr bx0 0)), (2, (ptr g1 0)), (3, (ptr g8 0)), (4, (int .i64 (IntKind.i64.wrap ((a0.items.length : Int) - (1 : Int)))))]) 21 (ptr bx0 0)) F_) ?_
 refine al_val (ov_nilCheck rfl rfl) ?_
 refine al_nil ?_
 exact fr_fin hK_ ()⟩, ⟨_, rfl, [1], rfl, by
 intro _
 intro X_ Y_ F_ K_ hK_
 refine al_show (m := Mem.plus (memOf w0 Z0 [(oBox bx0 127 [v0_0, (Value.func (.func 61) #[] #[])]), (oRow v0_0 122 tyS_huff_tree a0.items)] [(oBox g8 122 [(int .i64 u2.weight), (int .i64 u2.least), s6]), (oBox g1 122 [(int .i64 (0 : Int)), (int .i64 (0 : Int)), (Value.slice none 0 0)]), (oBox bx0 127 [v0_0, (Value.func (.func 61) #[] #[])]), (oRow v0_0 122 tyS_huff_tree a0.items)] [(fDat (tyList (tyInt .i64)) [s6] u2.symbols), (fDat tyS_huff_tree [(int .i64 u2.weight), (int .i64 u2.least), s6] u2)]) X_ Y_) (S := over (put (tab [(0, (ptr bx0 0)), (2, (ptr g1 0)), (3, (ptr g8 0)), (4, (int .i64 (IntKind.i64.wrap ((a0.items.length : Int) - (1 : Int)))))]) 22 (ptr bx0 0)) F_) ?_
 refine al_val (ov_fieldA (p := 0) rfl Try.underlying127 rfl sz125 rfl rfl rfl) ?_
 refine al_nil ?_
 exact fr_fin hK_ ()⟩, ⟨_, rfl, [2], rfl, by
 intro _
 intro X_ Y_ F_ K_ hK_
 refine al_show (m := Mem.plus (memOf w0 Z0 [(oBox bx0 127 [v0_0, (Value.func (.func 61) #[] #[])]), (oRow v0_0 122 tyS_huff_tree a0.items)] [(oBox g8 122 [(int .i64 u2.weight), (int .i64 u2.least), s6]), (oBox g1 122 [(int .i64 (0 : Int)), (int .i64 (0 : Int)), (Value.slice none 0 0)]), (oBox bx0 127 [v0_0, (Value.func (.func 61) #[] #[])]), (oRow v0_0 122 tyS_huff_tree a0.items)] [(fDat (tyList (tyInt .i64)) [s6] u2.symbols), (fDat tyS_huff_tree [(int .i64 u2.weight), (int .i64 u2.least), s6] u2)]) X_ Y_) (S := over (put (tab [(0, (ptr bx0 0)), (2, (ptr g1 0)), (3, (ptr g8 0)), (4, (int .i64 (IntKind.i64.wrap ((a0.items.length : Int) - (1 : Int)))))]) 23 (ptr bx0 0)) F_) ?_
 refine al_val (ov_load (i := 2) (v := v0_0) rfl rfl Try.underlying125 sz125 rfl rfl rfl rfl) ?_
 refine al_nil ?_
 exact fr_fin hK_ ()⟩, ⟨_, rfl, [], rfl, by
 intro X_ Y_ F_ K_ hK_
 refine al_show (m := Mem.plus (memOf w0 Z0 [(oBox bx0 127 [v0_0, (Value.func (.func 61) #[] #[])]), (oRow v0_0 122 tyS_huff_tree a0.items)] [(oBox g8 122 [(int .i64 u2.weight), (int .i64 u2.least), s6]), (oBox g1 122 [(int .i64 (0 : Int)), (int .i64 (0 : Int)), (Value.slice none 0 0)]), (oBox bx0 127 [v0_0, (Value.func (.func 61) #[] #[])]), (oRow v0_0 122 tyS_huff_tree a0.items)] [(fDat (tyList (tyInt .i64)) [s6] u2.symbols), (fDat tyS_huff_tree [(int .i64 u2.weight), (int .i64 u2.least), s6] u2)]) X_ Y_) (S := over (tab [(0, (ptr bx0 0)), (2, (ptr g1 0)), (3, (ptr g8 0)), (4, (int .i64 (IntKind.i64.wrap ((a0.items.length : Int) - (1 : Int)))))]) F_) ?_
 refine al_mv rfl rfl ?_
 refine al_nil ?_
 exact fr_fin hK_ ()⟩, ⟨_, rfl, [4], rfl, by
 intro _
 intro X_ Y_ F_ K_ hK_
 refine al_show (m := Mem.plus (memOf w0 Z0 [(oBox bx0 127 [v0_0, (Value.func (.func 61) #[] #[])]), (oRow v0_0 122 tyS_huff_tree a0.items)] [(oBox g8 122 [(int .i64 u2.weight), (int .i64 u2.least), s6]), (oBox g1 122 [(int .i64 (0 : Int)), (int .i64 (0 : Int)), (Value.slice none 0 0)]), (oBox bx0 127 [v0_0, (Value.func (.func 61) #[] #[])]), (oRow v0_0 122 tyS_huff_tree a0.items)] [(fDat (tyList (tyInt .i64)) [s6] u2.symbols), (fDat tyS_huff_tree [(int .i64 u2.weight), (int .i64 u2.least), s6] u2)]) X_ Y_) (S := over (put (tab [(0, (ptr bx0 0)), (2, (ptr g1 0)), (3, (ptr g8 0)), (4, (int .i64 (IntKind.i64.wrap ((a0.items.length : Int) - (1 : Int)))))]) 25 (ptr bx0 0)) F_) ?_
 refine al_val (ov_nilCheck rfl rfl) ?_
 refine al_nil ?_
 exact fr_fin hK_ ()⟩, ⟨_, rfl, [5], rfl, by
 intro _
 intro X_ Y_ F_ K_ hK_
 refine al_show (m := Mem.plus (memOf w0 Z0 [(oBox bx0 127 [v0_0, (Value.func (.func 61) #[] #[])]), (oRow v0_0 122 tyS_huff_tree a0.items)] [(oBox g8 122 [(int .i64 u2.weight), (int .i64 u2.least), s6]), (oBox g1 122 [(int .i64 (0 : Int)), (int .i64 (0 : Int)), (Value.slice none 0 0)]), (oBox bx0 127 [v0_0, (Value.func (.func 61) #[] #[])]), (oRow v0_0 122 tyS_huff_tree a0.items)] [(fDat (tyList (tyInt .i64)) [s6] u2.symbols), (fDat tyS_huff_tree [(int .i64 u2.weight), (int .i64 u2.least), s6] u2)]) X_ Y_) (S := over (put (tab [(0, (ptr bx0 0)), (2, (ptr g1 0)), (3, (ptr g8 0)), (4, (int .i64 (IntKind.i64.wrap ((a0.items.length : Int) - (1 : Int)))))]) 26 (ptr bx0 0)) F_) ?_
 refine al_val (ov_fieldA (p := 0) rfl Try.underlying127 rfl sz125 rfl rfl rfl) ?_
 refine al_nil ?_
 exact fr_fin hK_ ()⟩, ⟨_, rfl, [6], rfl, by
 intro _
 intro X_ Y_ F_ K_ hK_
 refine al_show (m := Mem.plus (memOf w0 Z0 [(oBox bx0 127 [v0_0, (Value.func (.func 61) #[] #[])]), (oRow v0_0 122 tyS_huff_tree a0.items)] [(oBox g8 122 [(int .i64 u2.weight), (int .i64 u2.least), s6]), (oBox g1 122 [(int .i64 (0 : Int)), (int .i64 (0 : Int)), (Value.slice none 0 0)]), (oBox bx0 127 [v0_0, (Value.func (.func 61) #[] #[])]), (oRow v0_0 122 tyS_huff_tree a0.items)] [(fDat (tyList (tyInt .i64)) [s6] u2.symbols), (fDat tyS_huff_tree [(int .i64 u2.weight), (int .i64 u2.least), s6] u2)]) X_ Y_) (S := over (put (tab [(0, (ptr bx0 0)), (2, (ptr g1 0)), (3, (ptr g8 0)), (4, (int .i64 (IntKind.i64.wrap ((a0.items.length : Int) - (1 : Int)))))]) 27 (ptr bx0 0)) F_) ?_
 refine al_val (ov_load (i := 2) (v := v0_0) rfl rfl Try.underlying125 sz125 rfl rfl rfl rfl) ?_
 refine al_nil ?_
 exact fr_fin hK_ ()⟩, ⟨_, rfl, [], rfl, by
 intro X_ Y_ F_ K_ hK_
 refine al_show (m := Mem.plus (memOf w0 Z0 [(oBox bx0 127 [v0_0, (Value.func (.func 61) #[] #[])]), (oRow v0_0 122 tyS_huff_tree a0.items)] [(oBox g8 122 [(int .i64 u2.weight), (int .i64 u2.least), s6]), (oBox g1 122 [(int .i64 (0 : Int)), (int .i64 (0 : Int)), (Value.slice none 0 0)]), (oBox bx0 127 [v0_0, (Value.func (.func 61) #[] #[])]), (oRow v0_0 122 tyS_huff_tree a0.items)] [(fDat (tyList (tyInt .i64)) [s6] u2.symbols), (fDat tyS_huff_tree [(int .i64 u2.weight), (int .i64 u2.least), s6] u2)]) X_ Y_) (S := over (tab [(0, (ptr bx0 0)), (2, (ptr g1 0)), (3, (ptr g8 0)), (4, (int .i64 (IntKind.i64.wrap ((a0.items.length : Int) - (1 : Int)))))]) F_) ?_
 refine al_mv rfl rfl ?_
 refine al_nil ?_
 exact fr_fin hK_ ()⟩, ⟨_, rfl, [7, 8], rfl, by
 intro _
 intro _
 intro X_ Y_ F_ K_ hK_
 refine al_show (m := Mem.plus (memOf w0 Z0 [(oBox bx0 127 [v0_0, (Value.func (.func 61) #[] #[])]), (oRow v0_0 122 tyS_huff_tree a0.items)] [(oBox g8 122 [(int .i64 u2.weight), (int .i64 u2.least), s6]), (oBox g1 122 [(int .i64 (0 : Int)), (int .i64 (0 : Int)), (Value.slice none 0 0)]), (oBox bx0 127 [v0_0, (Value.func (.func 61) #[] #[])]), (oRow v0_0 122 tyS_huff_tree a0.items)] [(fDat (tyList (tyInt .i64)) [s6] u2.symbols), (fDat tyS_huff_tree [(int .i64 u2.weight), (int .i64 u2.least), s6] u2)]) X_ Y_) (S := over (put (put (tab [(0, (ptr bx0 0)), (2, (ptr g1 0)), (3, (ptr g8 0)), (4, (int .i64 (IntKind.i64.wrap ((a0.items.length : Int) - (1 : Int)))))]) 28 v0_0) 29 (int .i64 (IntKind.i64.wrap ((a0.items.length : Int) - (1 : Int))))) F_) ?_
 refine al_idxR 3 (at_some hu10).1 (at_some hu10).2.1 rfl rfl rfl Try.underlying125 sz122 rfl (fun p11 hp12 => ?_)
 refine al_nil ?_
 exact fr_fin hK_ ⟨p11, hp12⟩⟩, ⟨_, rfl, [9], rfl, by
 rintro ⟨p11, hp12⟩
 intro X_ Y_ F_ K_ hK_
 refine al_show (m := Mem.plus (memOf w0 Z0 [(oBox bx0 127 [v0_0, (Value.func (.func 61) #[] #[])]), (oRow v0_0 122 tyS_huff_tree a0.items)] [(oBox g8 122 [(int .i64 u2.weight), (int .i64 u2.least), s6]), (oBox g1 122 [(int .i64 (0 : Int)), (int .i64 (0 : Int)), (Value.slice none 0 0)]), (oBox bx0 127 [v0_0, (Value.func (.func 61) #[] #[])]), (oRow v0_0 122 tyS_huff_tree a0.items)] [(fDat (tyList (tyInt .i64)) [s6] u2.symbols), (fDat tyS_huff_tree [(int .i64 u2.weight), (int .i64 u2.least), s6] u2)]) X_ Y_) (S := over (put (tab [(0, (ptr bx0 0)), (2, (ptr g1 0)), (3, (ptr g8 0)), (4, (int .i64 (IntKind.i64.wrap ((a0.items.length : Int) - (1 : Int)))))]) 30 p11) F_) ?_
 refine al_loadRA 3 rfl hp12 (at_some hu10).2.2 rfl Try.underlying122 sz122 rfl rfl (fun cs14 => ?_)
 refine al_use (ι := Value) 0 rfl (fun j => cs14 = [(int .i64 u9.weight), (int .i64 u9.least), j]) (fun j => [(fDat (tyList (tyInt .i64)) [j] u9.symbols)]) encnS_huff_tree (fun s13 hq => ?_)
 subst hq
 refine al_nil ?_
 exact fr_fin hK_ s13⟩, ⟨_, rfl, [0, 1, 2, 3, 4, 5, 6, 7, 8, 9, 10], rfl, by
 intro _
 intro _
 intro _
 intro _
 intro _
 intro _
 intro _
 intro _
 intro _
 rintro ⟨p11, hp12⟩
 intro s13
 intro X_ Y_ F_ K_ hK_
 refine al_show (m := Mem.plus (memOf w0 Z0 [(oBox bx0 127 [v0_0, (Value.func (.func 61) #[] #[])]), (oRow v0_0 122 tyS_huff_tree a0.items)] [(oBox g8 122 [(int .i64 u2.weight), (int .i64 u2.least), s6]), (oBox g1 122 [(int .i64 (0 : Int)), (int .i64 (0 : Int)), (Value.slice none 0 0)]), (oBox bx0 127 [v0_0, (Value.func (.func 61) #[] #[])]), (oRow v0_0 122 tyS_huff_tree a0.items)] [(fDat (tyList (tyInt .i64)) [s13] u9.symbols), (fDat tyS_huff_tree [(int .i64 u9.weight), (int .i64 u9.least), s13] u9), (fDat (tyList (tyInt .i64)) [s6] u2.symbols), (fDat tyS_huff_tree [(int .i64 u2.weight), (int .i64 u2.least), s6] u2)]) X_ Y_) (S := over (put (put (put (put (put (put (put (put (put (put (put (tab [(0, (ptr bx0 0)), (2, (ptr g1 0)), (3, (ptr g8 0)), (4, (int .i64 (IntKind.i64.wrap ((a0.items.length : Int) - (1 : Int)))))]) 21 (ptr bx0 0)) 22 (ptr bx0 0)) 23 (ptr bx0 0)) 24 v0_0) 25 (ptr bx0 0)) 26 (ptr bx0 0)) 27 (ptr bx0 0)) 28 v0_0) 29 (int .i64 (IntKind.i64.wrap ((a0.items.length : Int) - (1 : Int))))) 30 p11) 31 (ag [(int .i64 u9.weight), (int .i64 u9.least), s13])) F_) ?_
 refine al_idxR 3 (at_some hu16).1 (at_some hu16).2.1 rfl rfl rfl Try.underlying125 sz122 rfl (fun p17 hp18 => ?_)
 refine al_nil ?_
 exact fr_fin hK_ ⟨p17, hp18⟩⟩, trivial⟩ ?_
 intro _
 intro _
 intro _
 intro _
 intro _
 intro _
 intro _
 intro _
 intro _
 rintro ⟨p11, hp12⟩
 intro s13
 rintro ⟨p17, hp18⟩
 intro X_ Y_ F_ K_ hK_
 refine al_show (m := Mem.plus (memOf w0 Z0 [(oBox bx0 127 [v0_0, (Value.func (.func 61) #[] #[])]), (oRow v0_0 122 tyS_huff_tree a0.items)] [(oBox g8 122 [(int .i64 u2.weight), (int .i64 u2.least), s6]), (oBox g1 122 [(int .i64 (0 : Int)), (int .i64 (0 : Int)), (Value.slice none 0 0)]), (oBox bx0 127 [v0_0, (Value.func (.func 61) #[] #[])]), (oRow v0_0 122 tyS_huff_tree a0.items)] [(fDat (tyList (tyInt .i64)) [s13] u9.symbols), (fDat tyS_huff_tree [(int .i64 u9.weight), (int .i64 u9.least), s13] u9), (fDat (tyList (tyInt .i64)) [s6] u2.symbols), (fDat tyS_huff_tree [(int .i64 u2.weight), (int .i64 u2.least), s6] u2)]) X_ Y_) (S := over (put (put (put (put (put (put (put (put (put (put (put (put (tab [(0, (ptr bx0 0)), (2, (ptr g1 0)), (3, (ptr g8 0)), (4, (int .i64 (IntKind.i64.wrap ((a0.items.length : Int) - (1 : Int)))))]) 21 (ptr bx0 0)) 22 (ptr bx0 0)) 23 (ptr bx0 0)) 24 v0_0) 25 (ptr bx0 0)) 26 (ptr bx0 0)) 27 (ptr bx0 0)) 28 v0_0) 29 (int .i64 (IntKind.i64.wrap ((a0.items.length : Int) - (1 : Int))))) 30 p11) 31 (ag [(int .i64 u9.weight), (int .i64 u9.least), s13])) 32 p17) F_) ?_
 refine al_storeR (k := ((0 : Int)).toNat) (x := u9) (vs := [(int .i64 u9.weight), (int .i64 u9.least), s13]) 3 rfl hp18 (idx_lt hu16) rfl rfl (cv_rfl rfl) (fun hm => mknS_huff_tree rfl (fz_at (i := 0) hm rfl)) sz122 rfl ?_
 refine al_nil ?_
 refine aq_show (m := Mem.plus (memOf w0 Z0 [(oBox bx0 127 [v0_0, (Value.func (.func 61) #[] #[])]), (oRow v0_0 122 tyS_huff_tree a0.items)] [(oBox g8 122 [(int .i64 u2.weight), (int .i64 u2.least), s6]), (oBox g1 122 [(int .i64 (0 : Int)), (int .i64 (0 : Int)), (Value.slice none 0 0)]), (oBox bx0 127 [v0_0, (Value.func (.func 61) #[] #[])]), (oRow v0_0 122 tyS_huff_tree (a0.items.set ((0 : Int)).toNat u9))] [(fDat (tyList (tyInt .i64)) [s13] u9.symbols), (fDat tyS_huff_tree [(int .i64 u9.weight), (int .i64 u9.least), s13] u9), (fDat (tyList (tyInt .i64)) [s6] u2.symbols), (fDat tyS_huff_tree [(int .i64 u2.weight), (int .i64 u2.least), s6] u2)]) X_ Y_) ?_
 refine aq_next hK_ [0, 1, 2, 3] [1, 2, 3] [(0, (ptr bx0 0)), (2, (ptr g1 0)), (3, (ptr g8 0)), (4, (int .i64 (IntKind.i64.wrap ((a0.items.length : Int) - (1 : Int)))))] [] [] rfl rfl (by decide) rfl ⟨rfl, rfl, rfl, rfl, trivial⟩ trivial ?_
 clear hK_ K_ F_ X_ Y_
 refine ta_show (m := (memOf w0 Z0 [(oBox bx0 127 [v0_0, (Value.func (.func 61) #[] #[])]), (oRow v0_0 122 tyS_huff_tree a0.items)] [(oBox g8 122 [(int .i64 u2.weight), (int .i64 u2.least), s6]), (oBox g1 122 [(int .i64 (0 : Int)), (int .i64 (0 : Int)), (Value.slice none 0 0)]), (oBox bx0 127 [v0_0, (Value.func (.func 61) #[] #[])]), (oRow v0_0 122 tyS_huff_tree (a0.items.set ((0 : Int)).toNat u9))] [(fDat tyS_huff_tree [(int .i64 u9.weight), (int .i64 u9.least), s13] u9), (fDat (tyList (tyInt .i64)) [s6] u2.symbols), (fDat tyS_huff_tree [(int .i64 u2.weight), (int .i64 u2.least), s6] u2)])) (S := (tab [(0, (ptr bx0 0)), (2, (ptr g1 0)), (3, (ptr g8 0)), (4, (int .i64 (IntKind.i64.wrap ((a0.items.length : Int) - (1 : Int)))))])) ?_
 refine ta_end [] [] rfl rfl (by kernel_rfl) rfl trivial ?_
 refine aq_show (m := (memOf w0 Z0 [(oBox bx0 127 [v0_0, (Value.func (.func 61) #[] #[])]), (oRow v0_0 122 tyS_huff_tree a0.items)] [(oBox g8 122 [(int .i64 u2.weight), (int .i64 u2.least), s6]), (oBox g1 122 [(int .i64 (0 : Int)), (int .i64 (0 : Int)), (Value.slice none 0 0)]), (oBox bx0 127 [v0_0, (Value.func (.func 61) #[] #[])]), (oRow v0_0 122 tyS_huff_tree (a0.items.set ((0 : Int)).toNat u9))] [(fDat tyS_huff_tree [(int .i64 u9.weight), (int .i64 u9.least), s13] u9), (fDat (tyList (tyInt .i64)) [s6] u2.symbols), (fDat tyS_huff_tree [(int .i64 u2.weight), (int .i64 u2.least), s6] u2)])) (S := (tab [(0, (ptr bx0 0)), (2, (ptr g1 0)), (3, (ptr g8 0)), (4, (int .i64 (IntKind.i64.wrap ((a0.items.length : Int) - (1 : Int)))))])) ?_
 refine aq_tr ?_
 refine al_mv rfl rfl ?_
 refine al_mv rfl rfl ?_
 refine al_val (ov_nilCheck rfl rfl) ?_
 refine al_val (ov_fieldA (p := 0) rfl Try.underlying127 rfl sz125 rfl rfl rfl) ?_
 refine al_val (ov_load (i := 2) (v := v0_0) rfl rfl Try.underlying125 sz125 rfl rfl rfl rfl) ?_
 refine al_mv rfl rfl ?_
 obtain ⟨hc19, h⟩ := req_some h
 refine al_cutR 3 hc19.1 hc19.2 rfl rfl rfl Try.underlying125 sz122 rfl (fun s20 => ?_)
 refine al_val (ov_nilCheck rfl rfl) ?_
 refine al_val (ov_fieldA (p := 0) rfl Try.underlying127 rfl sz125 rfl rfl rfl) ?_
 refine al_store (i := 2) (vs := [s20]) (cs' := [s20, (Value.func (.func 61) #[] #[])]) rfl rfl rfl sz125 (cv_own 3 rfl) rfl (co_own 3 rfl co_nil) (Nat.le_of_ble_eq_true rfl) rfl rfl ?_
 refine al_nt ?_
 refine aw_sr ?_
 refine al_as rfl rfl ?_
 refine al_nt ?_
 refine aw_block ?_
 refine aw_state (aw_loop (ι := (List S_huff_tree) × Int) (fun i => (memOf w0 Z0 [(oBox bx0 127 [v0_0, (Value.func (.func 61) #[] #[])]), (oRow v0_0 122 tyS_huff_tree a0.items)] [(oRow s20 122 tyS_huff_tree i.1), (oBox bx0 127 [s20, (Value.func (.func 61) #[] #[])]), (oBox g1 122 [(int .i64 (0 : Int)), (int .i64 (0 : Int)), (Value.slice none 0 0)]), (oBox g8 122 [(int .i64 u2.weight), (int .i64 u2.least), s6])] [(fDat (tyList (tyInt .i64)) [s6] u2.symbols), (fDat tyS_huff_tree [(int .i64 u9.weight), (int .i64 u9.least), s13] u9), (fDat tyS_huff_tree [(int .i64 u2.weight), (int .i64 u2.least), s6] u2)])) (fun i => (tab [(0, (ptr bx0 0)), (2, (ptr g1 0)), (3, (ptr g8 0)), (4, (int .i64 (IntKind.i64.wrap ((a0.items.length : Int) - (1 : Int))))), (5, (int .i64 i.2))])) (fun q i => f___huff_heap_huff_tree___pop_L23 a0 u2 fu q i.1 i.2 = some r) ?_ fu (((a0.items.set ((0 : Int)).toNat u9).take ((IntKind.i64.wrap ((a0.items.length : Int) - (1 : Int)))).toNat), (0 : Int)) h) (fun w a hm hs => norm hm hs [3, 2, 1, 0] [1, 0, 2] [(0, (ptr bx0 0)), (2, (ptr g1 0)), (3, (ptr g8 0)), (4, (int .i64 (IntKind.i64.wrap ((a0.items.length : Int) - (1 : Int))))), (5, (int .i64 (0 : Int)))] (by decide) ⟨rfl, rfl, rfl, rfl, rfl, trivial⟩)
 clear h
 rintro k22 ⟨l21x0_0, l21i5⟩ h
 have h : f___huff_heap_huff_tree___pop_L23 a0 u2 fu k22 l21x0_0 l21i5 = some r := h
 obtain _ | k22 := k22
 · rw [f___huff_heap_huff_tree___pop_L23] at h; cases h
 rw [f___huff_heap_huff_tree___pop_L23] at h
 refine aw_show (m := (memOf w0 Z0 [(oBox bx0 127 [v0_0, (Value.func (.func 61) #[] #[])]), (oRow v0_0 122 tyS_huff_tree a0.items)] [(oRow s20 122 tyS_huff_tree l21x0_0), (oBox bx0 127 [s20, (Value.func (.func 61) #[] #[])]), (oBox g1 122 [(int .i64 (0 : Int)), (int .i64 (0 : Int)), (Value.slice none 0 0)]), (oBox g8 122 [(int .i64 u2.weight), (int .i64 u2.least), s6])] [(fDat (tyList (tyInt .i64)) [s6] u2.symbols), (fDat tyS_huff_tree [(int .i64 u9.weight), (int .i64 u9.least), s13] u9), (fDat tyS_huff_tree [(int .i64 u2.weight), (int .i64 u2.least), s6] u2)])) (S := (tab [(0, (ptr bx0 0)), (2, (ptr g1 0)), (3, (ptr g8 0)), (4, (int .i64 (IntKind.i64.wrap ((a0.items.length : Int) - (1 : Int))))), (5, (int .i64 l21i5))])) ?_
 obtain ⟨kk24, hkk24, h⟩ := lt_some h
 refine aw_body_join (ι := (List S_huff_tree) × Int) (fun i => (memOf w0 Z0 [(oBox bx0 127 [v0_0, (Value.func (.func 61) #[] #[])]), (oRow v0_0 122 tyS_huff_tree a0.items)] [(oRow s20 122 tyS_huff_tree i.1), (oBox bx0 127 [s20, (Value.func (.func 61) #[] #[])]), (oBox g1 122 [(int .i64 (0 : Int)), (int .i64 (0 : Int)), (Value.slice none 0 0)]), (oBox g8 122 [(int .i64 u2.weight), (int .i64 u2.least), s6])] [(fDat (tyList (tyInt .i64)) [s6] u2.symbols), (fDat tyS_huff_tree [(int .i64 u9.weight), (int .i64 u9.least), s13] u9), (fDat tyS_huff_tree [(int .i64 u2.weight), (int .i64 u2.least), s6] u2)])) (fun i => (tab [(0, (ptr bx0 0)), (2, (ptr g1 0)), (3, (ptr g8 0)), (4, (int .i64 (IntKind.i64.wrap ((a0.items.length : Int) - (1 : Int))))), (5, (int .i64 i.2))])) (fun i => kk24 i.1 i.2 = some r) (fun i h => aq_again k22 i (Nat.lt_succ_self _) (by rw [hkk24] at h; exact h) (fun w a hm hs => ⟨hm, hs⟩)) ?_
 clear hkk24
 refine aw_block ?_
 refine aw_sr ?_
 refine al_mv rfl rfl ?_
 refine al_as rfl rfl ?_
 refine al_nt ?_
 obtain ⟨kk26, hkk26, h⟩ := lt_some h
 refine aw_seq_join (ι := Int) (fun i => (memOf w0 Z0 [(oBox bx0 127 [v0_0, (Value.func (.func 61) #[] #[])]), (oRow v0_0 122 tyS_huff_tree a0.items)] [(oRow s20 122 tyS_huff_tree l21x0_0), (oBox bx0 127 [s20, (Value.func (.func 61) #[] #[])]), (oBox g1 122 [(int .i64 (0 : Int)), (int .i64 (0 : Int)), (Value.slice none 0 0)]), (oBox g8 122 [(int .i64 u2.weight), (int .i64 u2.least), s6])] [(fDat (tyList (tyInt .i64)) [s6] u2.symbols), (fDat tyS_huff_tree [(int .i64 u9.weight), (int .i64 u9.least), s13] u9), (fDat tyS_huff_tree [(int .i64 u2.weight), (int .i64 u2.least), s6] u2)])) (fun i => (tab [(0, (ptr bx0 0)), (2, (ptr g1 0)), (3, (ptr g8 0)), (4, (int .i64 (IntKind.i64.wrap ((a0.items.length : Int) - (1 : Int))))), (5, (int .i64 l21i5)), (6, (int .i64 i))])) (fun i => kk26 i = some r) ?_ ?_
 ·rintro j25i6 h
  have h : kk26 j25i6 = some r := h
  rw [hkk26] at h
  dsimp only at h
  clear hkk26
  refine aw_show (m := (memOf w0 Z0 [(oBox bx0 127 [v0_0, (Value.func (.func 61) #[] #[])]), (oRow v0_0 122 tyS_huff_tree a0.items)] [(oRow s20 122 tyS_huff_tree l21x0_0), (oBox bx0 127 [s20, (Value.func (.func 61) #[] #[])]), (oBox g1 122 [(int .i64 (0 : Int)), (int .i64 (0 : Int)), (Value.slice none 0 0)]), (oBox g8 122 [(int .i64 u2.weight), (int .i64 u2.least), s6])] [(fDat (tyList (tyInt .i64)) [s6] u2.symbols), (fDat tyS_huff_tree [(int .i64 u9.weight), (int .i64 u9.least), s13] u9), (fDat tyS_huff_tree [(int .i64 u2.weight), (int .i64 u2.least), s6] u2)])) (S := (tab [(0, (ptr bx0 0)), (2, (ptr g1 0)), (3, (ptr g8 0)), (4, (int .i64 (IntKind.i64.wrap ((a0.items.length : Int) - (1 : Int))))), (5, (int .i64 l21i5)), (6, (int .i64 j25i6))])) ?_
  refine aw_seq ?_
  refine aw_sr ?_
  refine al_mv rfl rfl ?_
  refine al_mv rfl rfl ?_
  refine al_in rfl rfl rfl rfl ?_
  refine al_nt ?_
  refine aw_cond rfl (fun hb27 => ?_) (fun hb27 => ?_)
  ·replace h := bif_t hb27 h
   refine aw_sr ?_
   refine al_val (ov_load (i := 3) (v := (ag [(int .i64 u2.weight), (int .i64 u2.least), s6])) rfl rfl Try.underlying122 sz122 rfl rfl rfl rfl) ?_
   refine al_store (i := 2) (vs := [(int .i64 u2.weight), (int .i64 u2.least), s6]) (cs' := [(int .i64 u2.weight), (int .i64 u2.least), s6]) rfl rfl rfl sz122 (cv_rfl rfl) rfl (co_val rfl (co_val rfl (co_fz 0 rfl co_nil))) (Nat.le_of_ble_eq_true rfl) rfl rfl ?_
   refine al_nt ?_
   refine aw_ret ?_
   refine aq_then_ret ?_
   refine aq_block_ret ?_
   refine aq_then_ret ?_
   refine aq_block_ret ?_
   obtain rfl := Option.some.inj h
   exact fn_ret (s6, s20) [1, 0] [0] rfl rfl rfl rfl (resC rfl (resB (i := 2) rfl rfl Try.underlying122 sz122 rfl rfl rfl (resN)) rfl) rfl rfl rfl (by decide)
  ·replace h := bif_f hb27 h
   refine aw_skip ?_
   refine aq_then ?_
   refine aw_seq ?_
   obtain ⟨u28, hu29, h⟩ := opt_some h
   obtain ⟨u34, hu35, h⟩ := opt_some h
   obtain ⟨u40, hu41, h⟩ := opt_some h
   refine aw_region_open [⟨0, 84, Unit, fun _ => { val := (ptr bx0 0) }⟩, ⟨1, 85, Unit, fun _ => { val := (ptr bx0 0) }⟩, ⟨2, 86, Unit, fun _ => { val := (ptr bx0 0) }⟩, ⟨3, 87, Unit, fun _ => { val := s20 }⟩, ⟨4, 88, Unit, fun _ => { val := (int .i64 j25i6) }⟩, ⟨5, 89, Unit, fun _ => { val := (ptr bx0 0) }⟩, ⟨6, 90, Unit, fun _ => { val := (ptr bx0 0) }⟩, ⟨7, 91, Unit, fun _ => { val := (ptr bx0 0) }⟩, ⟨8, 92, Unit, fun _ => { val := s20 }⟩, ⟨9, 93, Unit, fun _ => { val := (int .i64 l21i5) }⟩, ⟨10, 94, Unit, fun _ => { val := (ptr bx0 0) }⟩, ⟨11, 95, Unit, fun _ => { val := (ptr bx0 0) }⟩, ⟨12, 96, Unit, fun _ => { val := (ptr bx0 0) }⟩, ⟨13, 97, Unit, fun _ => { val := s20 }⟩, ⟨14, 98, Unit, fun _ => { val := (int .i64 l21i5) }⟩, ⟨15, 99, {p : Value // EltOf s20 p ((l21i5).toNat * Ty.size tyS_huff_tree)}, fun p => { val := p.1 }⟩, ⟨16, 100, Value, fun (i : Value) => { val := (ag [(int .i64 u28.weight), (int .i64 u28.least), i]), fz := [(fDat (tyList (tyInt .i64)) [i] u28.symbols), (fDat tyS_huff_tree [(int .i64 u28.weight), (int .i64 u28.least), i] u28)] }⟩, ⟨17, 101, Unit, fun _ => { val := (ptr bx0 0) }⟩, ⟨18, 102, Unit, fun _ => { val := (ptr bx0 0) }⟩, ⟨19, 103, Unit, fun _ => { val := (ptr bx0 0) }⟩, ⟨20, 104, Unit, fun _ => { val := s20 }⟩, ⟨21, 105, Unit, fun _ => { val := (int .i64 j25i6) }⟩, ⟨22, 106, {p : Value // EltOf s20 p ((j25i6).toNat * Ty.size tyS_huff_tree)}, fun p => { val := p.1 }⟩, ⟨23, 107, Value, fun (i : Value) => { val := (ag [(int .i64 u34.weight), (int .i64 u34.least), i]), fz := [(fDat (tyList (tyInt .i64)) [i] u34.symbols), (fDat tyS_huff_tree [(int .i64 u34.weight), (int .i64 u34.least), i] u34)] }⟩, ⟨24, 108, {p : Value // EltOf s20 p ((j25i6).toNat * Ty.size tyS_huff_tree)}, fun p => { val := p.1 }⟩] (tab [(0, (ptr bx0 0)), (2, (ptr g1 0)), (3, (ptr g8 0)), (4, (int .i64 (IntKind.i64.wrap ((a0.items.length : Int) - (1 : Int))))), (5, (int .i64 l21i5)), (6, (int .i64 j25i6))]) mixed (fun a hs => hs.tab _ (allT_mem ⟨rfl, rfl, rfl, rfl, rfl, rfl, trivial⟩)) ?_
   refine ta_show (m := (memOf w0 Z0 [(oBox bx0 127 [v0_0, (Value.func (.func 61) #[] #[])]), (oRow v0_0 122 tyS_huff_tree a0.items)] [(oRow s20 122 tyS_huff_tree l21x0_0), (oBox bx0 127 [s20, (Value.func (.func 61) #[] #[])]), (oBox g1 122 [(int .i64 (0 : Int)), (int .i64 (0 : Int)), (Value.slice none 0 0)]), (oBox g8 122 [(int .i64 u2.weight), (int .i64 u2.least), s6])] [(fDat (tyList (tyInt .i64)) [s6] u2.symbols), (fDat tyS_huff_tree [(int .i64 u9.weight), (int .i64 u9.least), s13] u9), (fDat tyS_huff_tree [(int .i64 u2.weight), (int .i64 u2.least), s6] u2)])) (S := (tab [(0, (ptr bx0 0)), (2, (ptr g1 0)), (3, (ptr g8 0)), (4, (int .i64 (IntKind.i64.wrap ((a0.items.length : Int) - (1 : Int))))), (5, (int .i64 l21i5)), (6, (int .i64 j25i6))])) ?_
   refine ta_step 25 _ [0, 1, 2, 3, 4, 5, 6, 7, 8, 9, 10, 11, 12, 13, 14, 15, 16, 17, 18, 19, 20, 21, 22, 23, 24] [84, 85, 86, 87, 88, 89, 90, 91, 92, 93, 94, 95, 96, 97, 98, 99, 100, 101, 102, 103, 104, 105, 106, 107, 108] [0, 1, 2, 3, 4, 5, 6, 7, 8, 10, 11, 12, 13, 14, 15, 16, 17, 18, 19, 20, 21, 22, 23, 24] [26] [⟨0, 84, Unit, fun _ => { val := (ptr bx0 0) }⟩, ⟨1, 85, Unit, fun _ => { val := (ptr bx0 0) }⟩, ⟨2, 86, Unit, fun _ => { val := (ptr bx0 0) }⟩, ⟨3, 87, Unit, fun _ => { val := s20 }⟩, ⟨4, 88, Unit, fun _ => { val := (int .i64 j25i6) }⟩, ⟨5, 89, Unit, fun _ => { val := (ptr bx0 0) }⟩, ⟨6, 90, Unit, fun _ => { val := (ptr bx0 0) }⟩, ⟨7, 91, Unit, fun _ => { val := (ptr bx0 0) }⟩, ⟨8, 92, Unit, fun _ => { val := s20 }⟩, ⟨10, 94, Unit, fun _ => { val := (ptr bx0 0) }⟩, ⟨11, 95, Unit, fun _ => { val := (ptr bx0 0) }⟩, ⟨12, 96, Unit, fun _ => { val := (ptr bx0 0) }⟩, ⟨13, 97, Unit, fun _ => { val := s20 }⟩, ⟨14, 98, Unit, fun _ => { val := (int .i64 l21i5) }⟩, ⟨15, 99, {p : Value // EltOf s20 p ((l21i5).toNat * Ty.size tyS_huff_tree)}, fun p => { val := p.1 }⟩, ⟨16, 100, Value, fun (i : Value) => { val := (ag [(int .i64 u28.weight), (int .i64 u28.least), i]), fz := [(fDat (tyList (tyInt .i64)) [i] u28.symbols), (fDat tyS_huff_tree [(int .i64 u28.weight), (int .i64 u28.least), i] u28)] }⟩, ⟨17, 101, Unit, fun _ => { val := (ptr bx0 0) }⟩, ⟨18, 102, Unit, fun _ => { val := (ptr bx0 0) }⟩, ⟨19, 103, Unit, fun _ => { val := (ptr bx0 0) }⟩, ⟨20, 104, Unit, fun _ => { val := s20 }⟩, ⟨21, 105, Unit, fun _ => { val := (int .i64 j25i6) }⟩, ⟨22, 106, {p : Value // EltOf s20 p ((j25i6).toNat * Ty.size tyS_huff_tree)}, fun p => { val := p.1 }⟩, ⟨23, 107, Value, fun (i : Value) => { val := (ag [(int .i64 u34.weight), (int .i64 u34.least), i]), fz := [(fDat (tyList (tyInt .i64)) [i] u34.symbols), (fDat tyS_huff_tree [(int .i64 u34.weight), (int .i64 u34.least), i] u34)] }⟩, ⟨24, 108, {p : Value // EltOf s20 p ((j25i6).toNat * Ty.size tyS_huff_tree)}, fun p => { val := p.1 }⟩] [⟨9, 93, Unit, fun _ => { val := (int .i64 l21i5) }⟩] rfl rfl rfl (by kernel_rfl) rfl rfl rfl ⟨⟨_, rfl, [], rfl, by
 intro X_ Y_ F_ K_ hK_
 refine al_show (m := Mem.plus (memOf w0 Z0 [(oBox bx0 127 [v0_0, (Value.func (.func 61) #[] #[])]), (oRow v0_0 122 tyS_huff_tree a0.items)] [(oRow s20 122 tyS_huff_tree l21x0_0), (oBox bx0 127 [s20, (Value.func (.func 61) #[] #[])]), (oBox g1 122 [(int .i64 (0 : Int)), (int .i64 (0 : Int)), (Value.slice none 0 0)]), (oBox g8 122 [(int .i64 u2.weight), (int .i64 u2.least), s6])] [(fDat (tyList (tyInt .i64)) [s6] u2.symbols), (fDat tyS_huff_tree [(int .i64 u9.weight), (int .i64 u9.least), s13] u9), (fDat tyS_huff_tree [(int .i64 u2.weight), (int .i64 u2.least), s6] u2)]) X_ Y_) (S := over (tab [(0, (ptr bx0 0)), (2, (ptr g1 0)), (3, (ptr g8 0)), (4, (int .i64 (IntKind.i64.wrap ((a0.items.length : Int) - (1 : Int))))), (5, (int .i64 l21i5)), (6, (int .i64 j25i6))]) F_) ?_
 refine al_mv rfl rfl ?_
 refine al_nil ?_
 exact fr_fin hK_ ()⟩, ⟨_, rfl, [0], rfl, by
 intro _
 intro X_ Y_ F_ K_ hK_
 refine al_show (m := Mem.plus (memOf w0 Z0 [(oBox bx0 127 [v0_0, (Value.func (.func 61) #[] #[])]), (oRow v0_0 122 tyS_huff_tree a0.items)] [(oRow s20 122 tyS_huff_tree l21x0_0), (oBox bx0 127 [s20, (Value.func (.func 61) #[] #[])]), (oBox g1 122 [(int .i64 (0 : Int)), (int .i64 (0 : Int)), (Value.slice none 0 0)]), (oBox g8 122 [(int .i64 u2.weight), (int .i64 u2.least), s6])] [(fDat (tyList (tyInt .i64)) [s6] u2.symbols), (fDat tyS_huff_tree [(int .i64 u9.weight), (int .i64 u9.least), s13] u9), (fDat tyS_huff_tree [(int .i64 u2.weight), (int .i64 u2.least), s6] u2)]) X_ Y_) (S := over (put (tab [(0, (ptr bx0 0)), (2, (ptr g1 0)), (3, (ptr g8 0)), (4, (int .i64 (IntKind.i64.wrap ((a0.items.length : Int) - (1 : Int))))), (5, (int .i64 l21i5)), (6, (int .i64 j25i6))]) 84 (ptr bx0 0)) F_) ?_
 refine al_val (ov_nilCheck rfl rfl) ?_
 refine al_nil ?_
 exact fr_fin hK_ ()⟩, ⟨_, rfl, [1], rfl, by
 intro _
 intro X_ Y_ F_ K_ hK_
 refine al_show (m := Mem.plus (memOf w0 Z0 [(oBox bx0 127 [v0_0, (Value.func (.func 61) #[] #[])]), (oRow v0_0 122 tyS_huff_tree a0.items)] [(oRow s20 122 tyS_huff_tree l21x0_0), (oBox bx0 127 [s20, (Value.func (.func 61) #[] #[])]), (oBox g1 122 [(int .i64 (0 : Int)), (int .i64 (0 : Int)), (Value.slice none 0 0)]), (oBox g8 122 [(int .i64 u2.weight), (int .i64 u2.least), s6])] [(fDat (tyList (tyInt .i64)) [s6] u2.symbols), (fDat tyS_huff_tree [(int .i64 u9.weight), (int .i64 u9.least), s13] u9), (fDat tyS_huff_tree [(int .i64 u2.weight), (int .i64 u2.least), s6] u2)]) X_ Y_) (S := over (put (tab [(0, (ptr bx0 0)), (2, (ptr g1 0)), (3, (ptr g8 0)), (4, (int .i64 (IntKind.i64.wrap ((a0.items.length : Int) - (1 : Int))))), (5, (int .i64 l21i5)), (6, (int .i64 j25i6))]) 85 (ptr bx0 0)) F_) ?_
 refine al_val (ov_fieldA (p := 0) rfl Try.underlying127 rfl sz125 rfl rfl rfl) ?_
 refine al_nil ?_
 exact fr_fin hK_ ()⟩, ⟨_, rfl, [2], rfl, by
 intro _
 intro X_ Y_ F_ K_ hK_
 refine al_show (m := Mem.plus (memOf w0 Z0 [(oBox bx0 127 [v0_0, (Value.func (.func 61) #[] #[])]), (oRow v0_0 122 tyS_huff_tree a0.items)] [(oRow s20 122 tyS_huff_tree l21x0_0), (oBox bx0 127 [s20, (Value.func (.func 61) #[] #[])]), (oBox g1 122 [(int .i64 (0 : Int)), (int .i64 (0 : Int)), (Value.slice none 0 0)]), (oBox g8 122 [(int .i64 u2.weight), (int .i64 u2.least), s6])] [(fDat (tyList (tyInt .i64)) [s6] u2.symbols), (fDat tyS_huff_tree [(int .i64 u9.weight), (int .i64 u9.least), s13] u9), (fDat tyS_huff_tree [(int .i64 u2.weight), (int .i64 u2.least), s6] u2)]) X_ Y_) (S := over (put (tab [(0, (ptr bx0 0)), (2, (ptr g1 0)), (3, (ptr g8 0)), (4, (int .i64 (IntKind.i64.wrap ((a0.items.length : Int) - (1 : Int))))), (5, (int .i64 l21i5)), (6, (int .i64 j25i6))]) 86 (ptr bx0 0)) F_) ?_
 refine al_val (ov_load (i := 1) (v := s20) rfl rfl Try.underlying125 sz125 rfl rfl rfl rfl) ?_
 refine al_nil ?_
 exact fr_fin hK_ ()⟩, ⟨_, rfl, [], rfl, by
 intro X_ Y_ F_ K_ hK_
 refine al_show (m := Mem.plus (memOf w0 Z0 [(oBox bx0 127 [v0_0, (Value.func (.func 61) #[] #[])]), (oRow v0_0 122 tyS_huff_tree a0.items)] [(oRow s20 122 tyS_huff_tree l21x0_0), (oBox bx0 127 [s20, (Value.func (.func 61) #[] #[])]), (oBox g1 122 [(int .i64 (0 : Int)), (int .i64 (0 : Int)), (Value.slice none 0 0)]), (oBox g8 122 [(int .i64 u2.weight), (int .i64 u2.least), s6])] [(fDat (tyList (tyInt .i64)) [s6] u2.symbols), (fDat tyS_huff_tree [(int .i64 u9.weight), (int .i64 u9.least), s13] u9), (fDat tyS_huff_tree [(int .i64 u2.weight), (int .i64 u2.least), s6] u2)]) X_ Y_) (S := over (tab [(0, (ptr bx0 0)), (2, (ptr g1 0)), (3, (ptr g8 0)), (4, (int .i64 (IntKind.i64.wrap ((a0.items.length : Int) - (1 : Int))))), (5, (int .i64 l21i5)), (6, (int .i64 j25i6))]) F_) ?_
 refine al_mv rfl rfl ?_
 refine al_nil ?_
 exact fr_fin hK_ ()⟩, ⟨_, rfl, [], rfl, by
 intro X_ Y_ F_ K_ hK_
 refine al_show (m := Mem.plus (memOf w0 Z0 [(oBox bx0 127 [v0_0, (Value.func (.func 61) #[] #[])]), (oRow v0_0 122 tyS_huff_tree a0.items)] [(oRow s20 122 tyS_huff_tree l21x0_0), (oBox bx0 127 [s20, (Value.func (.func 61) #[] #[])]), (oBox g1 122 [(int .i64 (0 : Int)), (int .i64 (0 : Int)), (Value.slice none 0 0)]), (oBox g8 122 [(int .i64 u2.weight), (int .i64 u2.least), s6])] [(fDat (tyList (tyInt .i64)) [s6] u2.symbols), (fDat tyS_huff_tree [(int .i64 u9.weight), (int .i64 u9.least), s13] u9), (fDat tyS_huff_tree [(int .i64 u2.weight), (int .i64 u2.least), s6] u2)]) X_ Y_) (S := over (tab [(0, (ptr bx0 0)), (2, (ptr g1 0)), (3, (ptr g8 0)), (4, (int .i64 (IntKind.i64.wrap ((a0.items.length : Int) - (1 : Int))))), (5, (int .i64 l21i5)), (6, (int .i64 j25i6))]) F_) ?_
 refine al_mv rfl rfl ?_
 refine al_nil ?_
 exact fr_fin hK_ ()⟩, ⟨_, rfl, [5], rfl, by
 intro _
 intro X_ Y_ F_ K_ hK_
 refine al_show (m := Mem.plus (memOf w0 Z0 [(oBox bx0 127 [v0_0, (Value.func (.func 61) #[] #[])]), (oRow v0_0 122 tyS_huff_tree a0.items)] [(oRow s20 122 tyS_huff_tree l21x0_0), (oBox bx0 127 [s20, (Value.func (.func 61) #[] #[])]), (oBox g1 122 [(int .i64 (0 : Int)), (int .i64 (0 : Int)), (Value.slice none 0 0)]), (oBox g8 122 [(int .i64 u2.weight), (int .i64 u2.least), s6])] [(fDat (tyList (tyInt .i64)) [s6] u2.symbols), (fDat tyS_huff_tree [(int .i64 u9.weight), (int .i64 u9.least), s13] u9), (fDat tyS_huff_tree [(int .i64 u2.weight), (int .i64 u2.least), s6] u2)]) X_ Y_) (S := over (put (tab [(0, (ptr bx0 0)), (2, (ptr g1 0)), (3, (ptr g8 0)), (4, (int .i64 (IntKind.i64.wrap ((a0.items.length : Int) - (1 : Int))))), (5, (int .i64 l21i5)), (6, (int .i64 j25i6))]) 89 (ptr bx0 0)) F_) ?_
 refine al_val (ov_nilCheck rfl rfl) ?_
 refine al_nil ?_
 exact fr_fin hK_ ()⟩, ⟨_, rfl, [6], rfl, by
 intro _
 intro X_ Y_ F_ K_ hK_
 refine al_show (m := Mem.plus (memOf w0 Z0 [(oBox bx0 127 [v0_0, (Value.func (.func 61) #[] #[])]), (oRow v0_0 122 tyS_huff_tree a0.items)] [(oRow s20 122 tyS_huff_tree l21x0_0), (oBox bx0 127 [s20, (Value.func (.func 61) #[] #[])]), (oBox g1 122 [(int .i64 (0 : Int)), (int .i64 (0 : Int)), (Value.slice none 0 0)]), (oBox g8 122 [(int .i64 u2.weight), (int .i64 u2.least), s6])] [(fDat (tyList (tyInt .i64)) [s6] u2.symbols), (fDat tyS_huff_tree [(int .i64 u9.weight), (int .i64 u9.least), s13] u9), (fDat tyS_huff_tree [(int .i64 u2.weight), (int .i64 u2.least), s6] u2)]) X_ Y_) (S := over (put (tab [(0, (ptr bx0 0)), (2, (ptr g1 0)), (3, (ptr g8 0)), (4, (int .i64 (IntKind.i64.wrap ((a0.items.length : Int) - (1 : Int))))), (5, (int .i64 l21i5)), (6, (int .i64 j25i6))]) 90 (ptr bx0 0)) F_) ?_
 refine al_val (ov_fieldA (p := 0) rfl Try.underlying127 rfl sz125 rfl rfl rfl) ?_
 refine al_nil ?_
 exact fr_fin hK_ ()⟩, ⟨_, rfl, [7], rfl, by
 intro _
 intro X_ Y_ F_ K_ hK_
 refine al_show (m := Mem.plus (memOf w0 Z0 [(oBox bx0 127 [v0_0, (Value.func (.func 61) #[] #[])]), (oRow v0_0 122 tyS_huff_tree a0.items)] [(oRow s20 122 tyS_huff_tree l21x0_0), (oBox bx0 127 [s20, (Value.func (.func 61) #[] #[])]), (oBox g1 122 [(int .i64 (0 : Int)), (int .i64 (0 : Int)), (Value.slice none 0 0)]), (oBox g8 122 [(int .i64 u2.weight), (int .i64 u2.least), s6])] [(fDat (tyList (tyInt .i64)) [s6] u2.symbols), (fDat tyS_huff_tree [(int .i64 u9.weight), (int .i64 u9.least), s13] u9), (fDat tyS_huff_tree [(int .i64 u2.weight), (int .i64 u2.least), s6] u2)]) X_ Y_) (S := over (put (tab [(0, (ptr bx0 0)), (2, (ptr g1 0)), (3, (ptr g8 0)), (4, (int .i64 (IntKind.i64.wrap ((a0.items.length : Int) - (1 : Int))))), (5, (int .i64 l21i5)), (6, (int .i64 j25i6))]) 91 (ptr bx0 0)) F_) ?_
 refine al_val (ov_load (i := 1) (v := s20) rfl rfl Try.underlying125 sz125 rfl rfl rfl rfl) ?_
 refine al_nil ?_
 exact fr_fin hK_ ()⟩, ⟨_, rfl, [], rfl, by
 intro X_ Y_ F_ K_ hK_
 refine al_show (m := Mem.plus (memOf w0 Z0 [(oBox bx0 127 [v0_0, (Value.func (.func 61) #[] #[])]), (oRow v0_0 122 tyS_huff_tree a0.items)] [(oRow s20 122 tyS_huff_tree l21x0_0), (oBox bx0 127 [s20, (Value.func (.func 61) #[] #[])]), (oBox g1 122 [(int .i64 (0 : Int)), (int .i64 (0 : Int)), (Value.slice none 0 0)]), (oBox g8 122 [(int .i64 u2.weight), (int .i64 u2.least), s6])] [(fDat (tyList (tyInt .i64)) [s6] u2.symbols), (fDat tyS_huff_tree [(int .i64 u9.weight), (int .i64 u9.least), s13] u9), (fDat tyS_huff_tree [(int .i64 u2.weight), (int .i64 u2.least), s6] u2)]) X_ Y_) (S := over (tab [(0, (ptr bx0 0)), (2, (ptr g1 0)), (3, (ptr g8 0)), (4, (int .i64 (IntKind.i64.wrap ((a0.items.length : Int) - (1 : Int))))), (5, (int .i64 l21i5)), (6, (int .i64 j25i6))]) F_) ?_
 refine al_mv rfl rfl ?_
 refine al_nil ?_
 exact fr_fin hK_ ()⟩, ⟨_, rfl, [], rfl, by
 intro X_ Y_ F_ K_ hK_
 refine al_show (m := Mem.plus (memOf w0 Z0 [(oBox bx0 127 [v0_0, (Value.func (.func 61) #[] #[])]), (oRow v0_0 122 tyS_huff_tree a0.items)] [(oRow s20 122 tyS_huff_tree l21x0_0), (oBox bx0 127 [s20, (Value.func (.func 61) #[] #[])]), (oBox g1 122 [(int .i64 (0 : Int)), (int .i64 (0 : Int)), (Value.slice none 0 0)]), (oBox g8 122 [(int .i64 u2.weight), (int .i64 u2.least), s6])] [(fDat (tyList (tyInt .i64)) [s6] u2.symbols), (fDat tyS_huff_tree [(int .i64 u9.weight), (int .i64 u9.least), s13] u9), (fDat tyS_huff_tree [(int .i64 u2.weight), (int .i64 u2.least), s6] u2)]) X_ Y_) (S := over (tab [(0, (ptr bx0 0)), (2, (ptr g1 0)), (3, (ptr g8 0)), (4, (int .i64 (IntKind.i64.wrap ((a0.items.length : Int) - (1 : Int))))), (5, (int .i64 l21i5)), (6, (int .i64 j25i6))]) F_) ?_
 refine al_mv rfl rfl ?_
 refine al_nil ?_
 exact fr_fin hK_ ()⟩, ⟨_, rfl, [10], rfl, by
 intro _
 intro X_ Y_ F_ K_ hK_
 refine al_show (m := Mem.plus (memOf w0 Z0 [(oBox bx0 127 [v0_0, (Value.func (.func 61) #[] #[])]), (oRow v0_0 122 tyS_huff_tree a0.items)] [(oRow s20 122 tyS_huff_tree l21x0_0), (oBox bx0 127 [s20, (Value.func (.func 61) #[] #[])]), (oBox g1 122 [(int .i64 (0 : Int)), (int .i64 (0 : Int)), (Value.slice none 0 0)]), (oBox g8 122 [(int .i64 u2.weight), (int .i64 u2.least), s6])] [(fDat (tyList (tyInt .i64)) [s6] u2.symbols), (fDat tyS_huff_tree [(int .i64 u9.weight), (int .i64 u9.least), s13] u9), (fDat tyS_huff_tree [(int .i64 u2.weight), (int .i64 u2.least), s6] u2)]) X_ Y_) (S := over (put (tab [(0, (ptr bx0 0)), (2, (ptr g1 0)), (3, (ptr g8 0)), (4, (int .i64 (IntKind.i64.wrap ((a0.items.length : Int) - (1 : Int))))), (5, (int .i64 l21i5)), (6, (int .i64 j25i6))]) 94 (ptr bx0 0)) F_) ?_
 refine al_val (ov_nilCheck rfl rfl) ?_
 refine al_nil ?_
 exact fr_fin hK_ ()⟩, ⟨_, rfl, [11], rfl, by
 intro _
 intro X_ Y_ F_ K_ hK_
 refine al_show (m := Mem.plus (memOf w0 Z0 [(oBox bx0 127 [v0_0, (Value.func (.func 61) #[] #[])]), (oRow v0_0 122 tyS_huff_tree a0.items)] [(oRow s20 122 tyS_huff_tree l21x0_0), (oBox bx0 127 [s20, (Value.func (.func 61) #[] #[])]), (oBox g1 122 [(int .i64 (0 : Int)), (int .i64 (0 : Int)), (Value.slice none 0 0)]), (oBox g8 122 [(int .i64 u2.weight), (int .i64 u2.least), s6])] [(fDat (tyList (tyInt .i64)) [s6] u2.symbols), (fDat tyS_huff_tree [(int .i64 u9.weight), (int .i64 u9.least), s13] u9), (fDat tyS_huff_tree [(int .i64 u2.weight), (int .i64 u2.least), s6] u2)]) X_ Y_) (S := over (put (tab [(0, (ptr bx0 0)), (2, (ptr g1 0)), (3, (ptr g8 0)), (4, (int .i64 (IntKind.i64.wrap ((a0.items.length : Int) - (1 : Int))))), (5, (int .i64 l21i5)), (6, (int .i64 j25i6))]) 95 (ptr bx0 0)) F_) ?_
 refine al_val (ov_fieldA (p := 0) rfl Try.underlying127 rfl sz125 rfl rfl rfl) ?_
 refine al_nil ?_
 exact fr_fin hK_ ()⟩, ⟨_, rfl, [12], rfl, by
 intro _
 intro X_ Y_ F_ K_ hK_
 refine al_show (m := Mem.plus (memOf w0 Z0 [(oBox bx0 127 [v0_0, (Value.func (.func 61) #[] #[])]), (oRow v0_0 122 tyS_huff_tree a0.items)] [(oRow s20 122 tyS_huff_tree l21x0_0), (oBox bx0 127 [s20, (Value.func (.func 61) #[] #[])]), (oBox g1 122 [(int .i64 (0 : Int)), (int .i64 (0 : Int)), (Value.slice none 0 0)]), (oBox g8 122 [(int .i64 u2.weight), (int .i64 u2.least), s6])] [(fDat (tyList (tyInt .i64)) [s6] u2.symbols), (fDat tyS_huff_tree [(int .i64 u9.weight), (int .i64 u9.least), s13] u9), (fDat tyS_huff_tree [(int .i64 u2.weight), (int .i64 u2.least), s6] u2)]) X_ Y_) (S := over (put (tab [(0, (ptr bx0 0)), (2, (ptr g1 0)), (3, (ptr g8 0)), (4, (int .i64 (IntKind.i64.wrap ((a0.items.length : Int) - (1 : Int))))), (5, (int .i64 l21i5)), (6, (int .i64 j25i6))]) 96 (ptr bx0 0)) F_) ?_
 refine al_val (ov_load (i := 1) (v := s20) rfl rfl Try.underlying125 sz125 rfl rfl rfl rfl) ?_
 refine al_nil ?_
 exact fr_fin hK_ ()⟩, ⟨_, rfl, [], rfl, by
 intro X_ Y_ F_ K_ hK_
 refine al_show (m := Mem.plus (memOf w0 Z0 [(oBox bx0 127 [v0_0, (Value.func (.func 61) #[] #[])]), (oRow v0_0 122 tyS_huff_tree a0.items)] [(oRow s20 122 tyS_huff_tree l21x0_0), (oBox bx0 127 [s20, (Value.func (.func 61) #[] #[])]), (oBox g1 122 [(int .i64 (0 : Int)), (int .i64 (0 : Int)), (Value.slice none 0 0)]), (oBox g8 122 [(int .i64 u2.weight), (int .i64 u2.least), s6])] [(fDat (tyList (tyInt .i64)) [s6] u2.symbols), (fDat tyS_huff_tree [(int .i64 u9.weight), (int .i64 u9.least), s13] u9), (fDat tyS_huff_tree [(int .i64 u2.weight), (int .i64 u2.least), s6] u2)]) X_ Y_) (S := over (tab [(0, (ptr bx0 0)), (2, (ptr g1 0)), (3, (ptr g8 0)), (4, (int .i64 (IntKind.i64.wrap ((a0.items.length : Int) - (1 : Int))))), (5, (int .i64 l21i5)), (6, (int .i64 j25i6))]) F_) ?_
 refine al_mv rfl rfl ?_
 refine al_nil ?_
 exact fr_fin hK_ ()⟩, ⟨_, rfl, [13, 14], rfl, by
 intro _
 intro _
 intro X_ Y_ F_ K_ hK_
 refine al_show (m := Mem.plus (memOf w0 Z0 [(oBox bx0 127 [v0_0, (Value.func (.func 61) #[] #[])]), (oRow v0_0 122 tyS_huff_tree a0.items)] [(oRow s20 122 tyS_huff_tree l21x0_0), (oBox bx0 127 [s20, (Value.func (.func 61) #[] #[])]), (oBox g1 122 [(int .i64 (0 : Int)), (int .i64 (0 : Int)), (Value.slice none 0 0)]), (oBox g8 122 [(int .i64 u2.weight), (int .i64 u2.least), s6])] [(fDat (tyList (tyInt .i64)) [s6] u2.symbols), (fDat tyS_huff_tree [(int .i64 u9.weight), (int .i64 u9.least), s13] u9), (fDat tyS_huff_tree [(int .i64 u2.weight), (int .i64 u2.least), s6] u2)]) X_ Y_) (S := over (put (put (tab [(0, (ptr bx0 0)), (2, (ptr g1 0)), (3, (ptr g8 0)), (4, (int .i64 (IntKind.i64.wrap ((a0.items.length : Int) - (1 : Int))))), (5, (int .i64 l21i5)), (6, (int .i64 j25i6))]) 97 s20) 98 (int .i64 l21i5)) F_) ?_
 refine al_idxR 0 (at_some hu29).1 (at_some hu29).2.1 rfl rfl rfl Try.underlying125 sz122 rfl (fun p30 hp31 => ?_)
 refine al_nil ?_
 exact fr_fin hK_ ⟨p30, hp31⟩⟩, ⟨_, rfl, [15], rfl, by
 rintro ⟨p30, hp31⟩
 intro X_ Y_ F_ K_ hK_
 refine al_show (m := Mem.plus (memOf w0 Z0 [(oBox bx0 127 [v0_0, (Value.func (.func 61) #[] #[])]), (oRow v0_0 122 tyS_huff_tree a0.items)] [(oRow s20 122 tyS_huff_tree l21x0_0), (oBox bx0 127 [s20, (Value.func (.func 61) #[] #[])]), (oBox g1 122 [(int .i64 (0 : Int)), (int .i64 (0 : Int)), (Value.slice none 0 0)]), (oBox g8 122 [(int .i64 u2.weight), (int .i64 u2.least), s6])] [(fDat (tyList (tyInt .i64)) [s6] u2.symbols), (fDat tyS_huff_tree [(int .i64 u9.weight), (int .i64 u9.least), s13] u9), (fDat tyS_huff_tree [(int .i64 u2.weight), (int .i64 u2.least), s6] u2)]) X_ Y_) (S := over (put (tab [(0, (ptr bx0 0)), (2, (ptr g1 0)), (3, (ptr g8 0)), (4, (int .i64 (IntKind.i64.wrap ((a0.items.length : Int) - (1 : Int))))), (5, (int .i64 l21i5)), (6, (int .i64 j25i6))]) 99 p30) F_) ?_
 refine al_loadRA 0 rfl hp31 (at_some hu29).2.2 rfl Try.underlying122 sz122 rfl rfl (fun cs33 => ?_)
 refine al_use (ι := Value) 0 rfl (fun j => cs33 = [(int .i64 u28.weight), (int .i64 u28.least), j]) (fun j => [(fDat (tyList (tyInt .i64)) [j] u28.symbols)]) encnS_huff_tree (fun s32 hq => ?_)
 subst hq
 refine al_nil ?_
 exact fr_fin hK_ s32⟩, ⟨_, rfl, [], rfl, by
 intro X_ Y_ F_ K_ hK_
 refine al_show (m := Mem.plus (memOf w0 Z0 [(oBox bx0 127 [v0_0, (Value.func (.func 61) #[] #[])]), (oRow v0_0 122 tyS_huff_tree a0.items)] [(oRow s20 122 tyS_huff_tree l21x0_0), (oBox bx0 127 [s20, (Value.func (.func 61) #[] #[])]), (oBox g1 122 [(int .i64 (0 : Int)), (int .i64 (0 : Int)), (Value.slice none 0 0)]), (oBox g8 122 [(int .i64 u2.weight), (int .i64 u2.least), s6])] [(fDat (tyList (tyInt .i64)) [s6] u2.symbols), (fDat tyS_huff_tree [(int .i64 u9.weight), (int .i64 u9.least), s13] u9), (fDat tyS_huff_tree [(int .i64 u2.weight), (int .i64 u2.least), s6] u2)]) X_ Y_) (S := over (tab [(0, (ptr bx0 0)), (2, (ptr g1 0)), (3, (ptr g8 0)), (4, (int .i64 (IntKind.i64.wrap ((a0.items.length : Int) - (1 : Int))))), (5, (int .i64 l21i5)), (6, (int .i64 j25i6))]) F_) ?_
 refine al_mv rfl rfl ?_
 refine al_nil ?_
 exact fr_fin hK_ ()⟩, ⟨_, rfl, [17], rfl, by
 intro _
 intro X_ Y_ F_ K_ hK_
 refine al_show (m := Mem.plus (memOf w0 Z0 [(oBox bx0 127 [v0_0, (Value.func (.func 61) #[] #[])]), (oRow v0_0 122 tyS_huff_tree a0.items)] [(oRow s20 122 tyS_huff_tree l21x0_0), (oBox bx0 127 [s20, (Value.func (.func 61) #[] #[])]), (oBox g1 122 [(int .i64 (0 : Int)), (int .i64 (0 : Int)), (Value.slice none 0 0)]), (oBox g8 122 [(int .i64 u2.weight), (int .i64 u2.least), s6])] [(fDat (tyList (tyInt .i64)) [s6] u2.symbols), (fDat tyS_huff_tree [(int .i64 u9.weight), (int .i64 u9.least), s13] u9), (fDat tyS_huff_tree [(int .i64 u2.weight), (int .i64 u2.least), s6] u2)]) X_ Y_) (S := over (put (tab [(0, (ptr bx0 0)), (2, (ptr g1 0)), (3, (ptr g8 0)), (4, (int .i64 (IntKind.i64.wrap ((a0.items.length : Int) - (1 : Int))))), (5, (int .i64 l21i5)), (6, (int .i64 j25i6))]) 101 (ptr bx0 0)) F_) ?_
 refine al_val (ov_nilCheck rfl rfl) ?_
 refine al_nil ?_
 exact fr_fin hK_ ()⟩, ⟨_, rfl, [18], rfl, by
 intro _
 intro X_ Y_ F_ K_ hK_
 refine al_show (m := Mem.plus (memOf w0 Z0 [(oBox bx0 127 [v0_0, (Value.func (.func 61) #[] #[])]), (oRow v0_0 122 tyS_huff_tree a0.items)] [(oRow s20 122 tyS_huff_tree l21x0_0), (oBox bx0 127 [s20, (Value.func (.func 61) #[] #[])]), (oBox g1 122 [(int .i64 (0 : Int)), (int .i64 (0 : Int)), (Value.slice none 0 0)]), (oBox g8 122 [(int .i64 u2.weight), (int .i64 u2.least), s6])] [(fDat (tyList (tyInt .i64)) [s6] u2.symbols), (fDat tyS_huff_tree [(int .i64 u9.weight), (int .i64 u9.least), s13] u9), (fDat tyS_huff_tree [(int .i64 u2.weight), (int .i64 u2.least), s6] u2)]) X_ Y_) (S := over (put (tab [(0, (ptr bx0 0)), (2, (ptr g1 0)), (3, (ptr g8 0)), (4, (int .i64 (IntKind.i64.wrap ((a0.items.length : Int) - (1 : Int))))), (5, (int .i64 l21i5)), (6, (int .i64 j25i6))]) 102 (ptr bx0 0)) F_) ?_
 refine al_val (ov_fieldA (p := 0) rfl Try.underlying127 rfl sz125 rfl rfl rfl) ?_
 refine al_nil ?_
 exact fr_fin hK_ ()⟩, ⟨_, rfl, [19], rfl, by
 intro _
 intro X_ Y_ F_ K_ hK_
 refine al_show (m := Mem.plus (memOf w0 Z0 [(oBox bx0 127 [v0_0, (Value.func (.func 61) #[] #[])]), (oRow v0_0 122 tyS_huff_tree a0.items)] [(oRow s20 122 tyS_huff_tree l21x0_0), (oBox bx0 127 [s20, (Value.func (.func 61) #[] #[])]), (oBox g1 122 [(int .i64 (0 : Int)), (int .i64 (0 : Int)), (Value.slice none 0 0)]), (oBox g8 122 [(int .i64 u2.weight), (int .i64 u2.least), s6])] [(fDat (tyList (tyInt .i64)) [s6] u2.symbols), (fDat tyS_huff_tree [(int .i64 u9.weight), (int .i64 u9.least), s13] u9), (fDat tyS_huff_tree [(int .i64 u2.weight), (int .i64 u2.least), s6] u2)]) X_ Y_) (S := over (put (tab [(0, (ptr bx0 0)), (2, (ptr g1 0)), (3, (ptr g8 0)), (4, (int .i64 (IntKind.i64.wrap ((a0.items.length : Int) - (1 : Int))))), (5, (int .i64 l21i5)), (6, (int .i64 j25i6))]) 103 (ptr bx0 0)) F_) ?_
 refine al_val (ov_load (i := 1) (v := s20) rfl rfl Try.underlying125 sz125 rfl rfl rfl rfl) ?_
 refine al_nil ?_
 exact fr_fin hK_ ()⟩, ⟨_, rfl, [], rfl, by
 intro X_ Y_ F_ K_ hK_
 refine al_show (m := Mem.plus (memOf w0 Z0 [(oBox bx0 127 [v0_0, (Value.func (.func 61) #[] #[])]), (oRow v0_0 122 tyS_huff_tree a0.items)] [(oRow s20 122 tyS_huff_tree l21x0_0), (oBox bx0 127 [s20, (Value.func (.func 61) #[] #[])]), (oBox g1 122 [(int .i64 (0 : Int)), (int .i64 (0 : Int)), (Value.slice none 0 0)]), (oBox g8 122 [(int .i64 u2.weight), (int .i64 u2.least), s6])] [(fDat (tyList (tyInt .i64)) [s6] u2.symbols), (fDat tyS_huff_tree [(int .i64 u9.weight), (int .i64 u9.least), s13] u9), (fDat tyS_huff_tree [(int .i64 u2.weight), (int .i64 u2.least), s6] u2)]) X_ Y_) (S := over (tab [(0, (ptr bx0 0)), (2, (ptr g1 0)), (3, (ptr g8 0)), (4, (int .i64 (IntKind.i64.wrap ((a0.items.length : Int) - (1 : Int))))), (5, (int .i64 l21i5)), (6, (int .i64 j25i6))]) F_) ?_
 refine al_mv rfl rfl ?_
 refine al_nil ?_
 exact fr_fin hK_ ()⟩, ⟨_, rfl, [20, 21], rfl, by
 intro _
 intro _
 intro X_ Y_ F_ K_ hK_
 refine al_show (m := Mem.plus (memOf w0 Z0 [(oBox bx0 127 [v0_0, (Value.func (.func 61) #[] #[])]), (oRow v0_0 122 tyS_huff_tree a0.items)] [(oRow s20 122 tyS_huff_tree l21x0_0), (oBox bx0 127 [s20, (Value.func (.func 61) #[] #[])]), (oBox g1 122 [(int .i64 (0 : Int)), (int .i64 (0 : Int)), (Value.slice none 0 0)]), (oBox g8 122 [(int .i64 u2.weight), (int .i64 u2.least), s6])] [(fDat (tyList (tyInt .i64)) [s6] u2.symbols), (fDat tyS_huff_tree [(int .i64 u9.weight), (int .i64 u9.least), s13] u9), (fDat tyS_huff_tree [(int .i64 u2.weight), (int .i64 u2.least), s6] u2)]) X_ Y_) (S := over (put (put (tab [(0, (ptr bx0 0)), (2, (ptr g1 0)), (3, (ptr g8 0)), (4, (int .i64 (IntKind.i64.wrap ((a0.items.length : Int) - (1 : Int))))), (5, (int .i64 l21i5)), (6, (int .i64 j25i6))]) 104 s20) 105 (int .i64 j25i6)) F_) ?_
 refine al_idxR 0 (at_some hu35).1 (at_some hu35).2.1 rfl rfl rfl Try.underlying125 sz122 rfl (fun p36 hp37 => ?_)
 refine al_nil ?_
 exact fr_fin hK_ ⟨p36, hp37⟩⟩, ⟨_, rfl, [22], rfl, by
 rintro ⟨p36, hp37⟩
 intro X_ Y_ F_ K_ hK_
 refine al_show (m := Mem.plus (memOf w0 Z0 [(oBox bx0 127 [v0_0, (Value.func (.func 61) #[] #[])]), (oRow v0_0 122 tyS_huff_tree a0.items)] [(oRow s20 122 tyS_huff_tree l21x0_0), (oBox bx0 127 [s20, (Value.func (.func 61) #[] #[])]), (oBox g1 122 [(int .i64 (0 : Int)), (int .i64 (0 : Int)), (Value.slice none 0 0)]), (oBox g8 122 [(int .i64 u2.weight), (int .i64 u2.least), s6])] [(fDat (tyList (tyInt .i64)) [s6] u2.symbols), (fDat tyS_huff_tree [(int .i64 u9.weight), (int .i64 u9.least), s13] u9), (fDat tyS_huff_tree [(int .i64 u2.weight), (int .i64 u2.least), s6] u2)]) X_ Y_) (S := over (put (tab [(0, (ptr bx0 0)), (2, (ptr g1 0)), (3, (ptr g8 0)), (4, (int .i64 (IntKind.i64.wrap ((a0.items.length : Int) - (1 : Int))))), (5, (int .i64 l21i5)), (6, (int .i64 j25i6))]) 106 p36) F_) ?_
 refine al_loadRA 0 rfl hp37 (at_some hu35).2.2 rfl Try.underlying122 sz122 rfl rfl (fun cs39 => ?_)
 refine al_use (ι := Value) 0 rfl (fun j => cs39 = [(int .i64 u34.weight), (int .i64 u34.least), j]) (fun j => [(fDat (tyList (tyInt .i64)) [j] u34.symbols)]) encnS_huff_tree (fun s38 hq => ?_)
 subst hq
 refine al_nil ?_
 exact fr_fin hK_ s38⟩, ⟨_, rfl, [0, 1, 2, 3, 4, 8, 10, 11, 12, 13, 14, 15, 16, 20, 23], rfl, by
 intro _
 intro _
 intro _
 intro _
 intro _
 intro _
 intro _
 intro _
 intro _
 intro _
 intro _
 rintro ⟨p30, hp31⟩
 intro s32
 intro _
 intro s38
 intro X_ Y_ F_ K_ hK_
 refine al_show (m := Mem.plus (memOf w0 Z0 [(oBox bx0 127 [v0_0, (Value.func (.func 61) #[] #[])]), (oRow v0_0 122 tyS_huff_tree a0.items)] [(oRow s20 122 tyS_huff_tree l21x0_0), (oBox bx0 127 [s20, (Value.func (.func 61) #[] #[])]), (oBox g1 122 [(int .i64 (0 : Int)), (int .i64 (0 : Int)), (Value.slice none 0 0)]), (oBox g8 122 [(int .i64 u2.weight), (int .i64 u2.least), s6])] [(fDat (tyList (tyInt .i64)) [s38] u34.symbols), (fDat tyS_huff_tree [(int .i64 u34.weight), (int .i64 u34.least), s38] u34), (fDat (tyList (tyInt .i64)) [s32] u28.symbols), (fDat tyS_huff_tree [(int .i64 u28.weight), (int .i64 u28.least), s32] u28), (fDat (tyList (tyInt .i64)) [s6] u2.symbols), (fDat tyS_huff_tree [(int .i64 u9.weight), (int .i64 u9.least), s13] u9), (fDat tyS_huff_tree [(int .i64 u2.weight), (int .i64 u2.least), s6] u2)]) X_ Y_) (S := over (put (put (put (put (put (put (put (put (put (put (put (put (put (put (put (tab [(0, (ptr bx0 0)), (2, (ptr g1 0)), (3, (ptr g8 0)), (4, (int .i64 (IntKind.i64.wrap ((a0.items.length : Int) - (1 : Int))))), (5, (int .i64 l21i5)), (6, (int .i64 j25i6))]) 84 (ptr bx0 0)) 85 (ptr bx0 0)) 86 (ptr bx0 0)) 87 s20) 88 (int .i64 j25i6)) 92 s20) 94 (ptr bx0 0)) 95 (ptr bx0 0)) 96 (ptr bx0 0)) 97 s20) 98 (int .i64 l21i5)) 99 p30) 100 (ag [(int .i64 u28.weight), (int .i64 u28.least), s32])) 104 s20) 107 (ag [(int .i64 u34.weight), (int .i64 u34.least), s38])) F_) ?_
 refine al_idxR 0 (at_some hu41).1 (at_some hu41).2.1 rfl rfl rfl Try.underlying125 sz122 rfl (fun p42 hp43 => ?_)
 refine al_nil ?_
 exact fr_fin hK_ ⟨p42, hp43⟩⟩, trivial⟩ ?_
   intro _
   intro _
   intro _
   intro _
   intro _
   intro _
   intro _
   intro _
   intro _
   intro _
   intro _
   intro _
   intro _
   intro _
   rintro ⟨p30, hp31⟩
   intro s32
   intro _
   intro _
   intro _
   intro _
   intro _
   rintro ⟨p36, hp37⟩
   intro s38
   rintro ⟨p42, hp43⟩
   intro X_ Y_ F_ K_ hK_
   refine al_show (m := Mem.plus (memOf w0 Z0 [(oBox bx0 127 [v0_0, (Value.func (.func 61) #[] #[])]), (oRow v0_0 122 tyS_huff_tree a0.items)] [(oRow s20 122 tyS_huff_tree l21x0_0), (oBox bx0 127 [s20, (Value.func (.func 61) #[] #[])]), (oBox g1 122 [(int .i64 (0 : Int)), (int .i64 (0 : Int)), (Value.slice none 0 0)]), (oBox g8 122 [(int .i64 u2.weight), (int .i64 u2.least), s6])] [(fDat (tyList (tyInt .i64)) [s38] u34.symbols), (fDat tyS_huff_tree [(int .i64 u34.weight), (int .i64 u34.least), s38] u34), (fDat (tyList (tyInt .i64)) [s32] u28.symbols), (fDat tyS_huff_tree [(int .i64 u28.weight), (int .i64 u28.least), s32] u28), (fDat (tyList (tyInt .i64)) [s6] u2.symbols), (fDat tyS_huff_tree [(int .i64 u9.weight), (int .i64 u9.least), s13] u9), (fDat tyS_huff_tree [(int .i64 u2.weight), (int .i64 u2.least), s6] u2)]) X_ Y_) (S := over (put (put (put (put (put (put (put (put (put (put (put (put (put (put (put (put (put (put (put (put (put (put (put (put (tab [(0, (ptr bx0 0)), (2, (ptr g1 0)), (3, (ptr g8 0)), (4, (int .i64 (IntKind.i64.wrap ((a0.items.length : Int) - (1 : Int))))), (5, (int .i64 l21i5)), (6, (int .i64 j25i6))]) 84 (ptr bx0 0)) 85 (ptr bx0 0)) 86 (ptr bx0 0)) 87 s20) 88 (int .i64 j25i6)) 89 (ptr bx0 0)) 90 (ptr bx0 0)) 91 (ptr bx0 0)) 92 s20) 94 (ptr bx0 0)) 95 (ptr bx0 0)) 96 (ptr bx0 0)) 97 s20) 98 (int .i64 l21i5)) 99 p30) 100 (ag [(int .i64 u28.weight), (int .i64 u28.least), s32])) 101 (ptr bx0 0)) 102 (ptr bx0 0)) 103 (ptr bx0 0)) 104 s20) 105 (int .i64 j25i6)) 106 p36) 107 (ag [(int .i64 u34.weight), (int .i64 u34.least), s38])) 108 p42) F_) ?_
   refine al_storeR (k := (j25i6).toNat) (x := u28) (vs := [(int .i64 u28.weight), (int .i64 u28.least), s32]) 0 rfl hp43 (idx_lt hu41) rfl rfl (cv_rfl rfl) (fun hm => mknS_huff_tree rfl (fz_at (i := 2) hm rfl)) sz122 rfl ?_
   refine al_nil ?_
   obtain ⟨u44, hu45, h⟩ := opt_some h
   refine aq_show (m := Mem.plus (memOf w0 Z0 [(oBox bx0 127 [v0_0, (Value.func (.func 61) #[] #[])]), (oRow v0_0 122 tyS_huff_tree a0.items)] [(oRow s20 122 tyS_huff_tree (l21x0_0.set (j25i6).toNat u28)), (oBox bx0 127 [s20, (Value.func (.func 61) #[] #[])]), (oBox g1 122 [(int .i64 (0 : Int)), (int .i64 (0 : Int)), (Value.slice none 0 0)]), (oBox g8 122 [(int .i64 u2.weight), (int .i64 u2.least), s6])] [(fDat (tyList (tyInt .i64)) [s38] u34.symbols), (fDat tyS_huff_tree [(int .i64 u34.weight), (int .i64 u34.least), s38] u34), (fDat (tyList (tyInt .i64)) [s32] u28.symbols), (fDat tyS_huff_tree [(int .i64 u28.weight), (int .i64 u28.least), s32] u28), (fDat (tyList (tyInt .i64)) [s6] u2.symbols), (fDat tyS_huff_tree [(int .i64 u9.weight), (int .i64 u9.least), s13] u9), (fDat tyS_huff_tree [(int .i64 u2.weight), (int .i64 u2.least), s6] u2)]) X_ Y_) ?_
   refine aq_next hK_ [0, 1, 2, 3] [0, 1, 3, 4, 5, 6] [(0, (ptr bx0 0)), (2, (ptr g1 0)), (3, (ptr g8 0)), (4, (int .i64 (IntKind.i64.wrap ((a0.items.length : Int) - (1 : Int))))), (5, (int .i64 l21i5)), (6, (int .i64 j25i6)), (92, s20), (107, (ag [(int .i64 u34.weight), (int .i64 u34.least), s38]))] [93] [⟨26, 109, {p : Value // EltOf s20 p ((l21i5).toNat * Ty.size tyS_huff_tree)}, fun p => { val := p.1 }⟩] rfl rfl (by decide) rfl ⟨rfl, rfl, rfl, rfl, rfl, rfl, rfl, rfl, trivial⟩ ⟨rfl, trivial⟩ ?_
   clear hK_ K_ F_ X_ Y_
   refine ta_show (m := (memOf w0 Z0 [(oBox bx0 127 [v0_0, (Value.func (.func 61) #[] #[])]), (oRow v0_0 122 tyS_huff_tree a0.items)] [(oRow s20 122 tyS_huff_tree (l21x0_0.set (j25i6).toNat u28)), (oBox bx0 127 [s20, (Value.func (.func 61) #[] #[])]), (oBox g1 122 [(int .i64 (0 : Int)), (int .i64 (0 : Int)), (Value.slice none 0 0)]), (oBox g8 122 [(int .i64 u2.weight), (int .i64 u2.least), s6])] [(fDat (tyList (tyInt .i64)) [s38] u34.symbols), (fDat tyS_huff_tree [(int .i64 u34.weight), (int .i64 u34.least), s38] u34), (fDat tyS_huff_tree [(int .i64 u28.weight), (int .i64 u28.least), s32] u28), (fDat (tyList (tyInt .i64)) [s6] u2.symbols), (fDat tyS_huff_tree [(int .i64 u9.weight), (int .i64 u9.least), s13] u9), (fDat tyS_huff_tree [(int .i64 u2.weight), (int .i64 u2.least), s6] u2)])) (S := (tab [(0, (ptr bx0 0)), (2, (ptr g1 0)), (3, (ptr g8 0)), (4, (int .i64 (IntKind.i64.wrap ((a0.items.length : Int) - (1 : Int))))), (5, (int .i64 l21i5)), (6, (int .i64 j25i6)), (92, s20), (107, (ag [(int .i64 u34.weight), (int .i64 u34.least), s38]))])) ?_
   refine ta_step 27 _ [9, 26] [93, 109] [9, 26] [] [⟨9, 93, Unit, fun _ => { val := (int .i64 l21i5) }⟩, ⟨26, 109, {p : Value // EltOf s20 p ((l21i5).toNat * Ty.size tyS_huff_tree)}, fun p => { val := p.1 }⟩] [] rfl rfl rfl (by kernel_rfl) rfl rfl rfl ⟨⟨_, rfl, [], rfl, by
 intro X_ Y_ F_ K_ hK_
 refine al_show (m := Mem.plus (memOf w0 Z0 [(oBox bx0 127 [v0_0, (Value.func (.func 61) #[] #[])]), (oRow v0_0 122 tyS_huff_tree a0.items)] [(oRow s20 122 tyS_huff_tree (l21x0_0.set (j25i6).toNat u28)), (oBox bx0 127 [s20, (Value.func (.func 61) #[] #[])]), (oBox g1 122 [(int .i64 (0 : Int)), (int .i64 (0 : Int)), (Value.slice none 0 0)]), (oBox g8 122 [(int .i64 u2.weight), (int .i64 u2.least), s6])] [(fDat (tyList (tyInt .i64)) [s38] u34.symbols), (fDat tyS_huff_tree [(int .i64 u34.weight), (int .i64 u34.least), s38] u34), (fDat tyS_huff_tree [(int .i64 u28.weight), (int .i64 u28.least), s32] u28), (fDat (tyList (tyInt .i64)) [s6] u2.symbols), (fDat tyS_huff_tree [(int .i64 u9.weight), (int .i64 u9.least), s13] u9), (fDat tyS_huff_tree [(int .i64 u2.weight), (int .i64 u2.least), s6] u2)]) X_ Y_) (S := over (tab [(0, (ptr bx0 0)), (2, (ptr g1 0)), (3, (ptr g8 0)), (4, (int .i64 (IntKind.i64.wrap ((a0.items.length : Int) - (1 : Int))))), (5, (int .i64 l21i5)), (6, (int .i64 j25i6)), (92, s20), (107, (ag [(int .i64 u34.weight), (int .i64 u34.least), s38]))]) F_) ?_
 refine al_mv rfl rfl ?_
 refine al_nil ?_
 exact fr_fin hK_ ()⟩, ⟨_, rfl, [0], rfl, by
 intro _
 intro X_ Y_ F_ K_ hK_
 refine al_show (m := Mem.plus (memOf w0 Z0 [(oBox bx0 127 [v0_0, (Value.func (.func 61) #[] #[])]), (oRow v0_0 122 tyS_huff_tree a0.items)] [(oRow s20 122 tyS_huff_tree (l21x0_0.set (j25i6).toNat u28)), (oBox bx0 127 [s20, (Value.func (.func 61) #[] #[])]), (oBox g1 122 [(int .i64 (0 : Int)), (int .i64 (0 : Int)), (Value.slice none 0 0)]), (oBox g8 122 [(int .i64 u2.weight), (int .i64 u2.least), s6])] [(fDat (tyList (tyInt .i64)) [s38] u34.symbols), (fDat tyS_huff_tree [(int .i64 u34.weight), (int .i64 u34.least), s38] u34), (fDat tyS_huff_tree [(int .i64 u28.weight), (int .i64 u28.least), s32] u28), (fDat (tyList (tyInt .i64)) [s6] u2.symbols), (fDat tyS_huff_tree [(int .i64 u9.weight), (int .i64 u9.least), s13] u9), (fDat tyS_huff_tree [(int .i64 u2.weight), (int .i64 u2.least), s6] u2)]) X_ Y_) (S := over (put (tab [(0, (ptr bx0 0)), (2, (ptr g1 0)), (3, (ptr g8 0)), (4, (int .i64 (IntKind.i64.wrap ((a0.items.length : Int) - (1 : Int))))), (5, (int .i64 l21i5)), (6, (int .i64 j25i6)), (92, s20), (107, (ag [(int .i64 u34.weight), (int .i64 u34.least), s38]))]) 93 (int .i64 l21i5)) F_) ?_
 refine al_idxR 0 (at_some hu45).1 (at_some hu45).2.1 rfl rfl rfl Try.underlying125 sz122 rfl (fun p46 hp47 => ?_)
 refine al_nil ?_
 exact fr_fin hK_ ⟨p46, hp47⟩⟩, trivial⟩ ?_
   intro _
   rintro ⟨p46, hp47⟩
   intro X_ Y_ F_ K_ hK_
   refine al_show (m := Mem.plus (memOf w0 Z0 [(oBox bx0 127 [v0_0, (Value.func (.func 61) #[] #[])]), (oRow v0_0 122 tyS_huff_tree a0.items)] [(oRow s20 122 tyS_huff_tree (l21x0_0.set (j25i6).toNat u28)), (oBox bx0 127 [s20, (Value.func (.func 61) #[] #[])]), (oBox g1 122 [(int .i64 (0 : Int)), (int .i64 (0 : Int)), (Value.slice none 0 0)]), (oBox g8 122 [(int .i64 u2.weight), (int .i64 u2.least), s6])] [(fDat (tyList (tyInt .i64)) [s38] u34.symbols), (fDat tyS_huff_tree [(int .i64 u34.weight), (int .i64 u34.least), s38] u34), (fDat tyS_huff_tree [(int .i64 u28.weight), (int .i64 u28.least), s32] u28), (fDat (tyList (tyInt .i64)) [s6] u2.symbols), (fDat tyS_huff_tree [(int .i64 u9.weight), (int .i64 u9.least), s13] u9), (fDat tyS_huff_tree [(int .i64 u2.weight), (int .i64 u2.least), s6] u2)]) X_ Y_) (S := over (put (put (tab [(0, (ptr bx0 0)), (2, (ptr g1 0)), (3, (ptr g8 0)), (4, (int .i64 (IntKind.i64.wrap ((a0.items.length : Int) - (1 : Int))))), (5, (int .i64 l21i5)), (6, (int .i64 j25i6)), (92, s20), (107, (ag [(int .i64 u34.weight), (int .i64 u34.least), s38]))]) 93 (int .i64 l21i5)) 109 p46) F_) ?_
   refine al_storeR (k := (l21i5).toNat) (x := u34) (vs := [(int .i64 u34.weight), (int .i64 u34.least), s38]) 0 rfl hp47 (idx_lt hu45) rfl rfl (cv_rfl rfl) (fun hm => mknS_huff_tree rfl (fz_at (i := 0) hm rfl)) sz122 rfl ?_
   refine al_nil ?_
   refine aq_show (m := Mem.plus (memOf w0 Z0 [(oBox bx0 127 [v0_0, (Value.func (.func 61) #[] #[])]), (oRow v0_0 122 tyS_huff_tree a0.items)] [(oRow s20 122 tyS_huff_tree ((l21x0_0.set (j25i6).toNat u28).set (l21i5).toNat u34)), (oBox bx0 127 [s20, (Value.func (.func 61) #[] #[])]), (oBox g1 122 [(int .i64 (0 : Int)), (int .i64 (0 : Int)), (Value.slice none 0 0)]), (oBox g8 122 [(int .i64 u2.weight), (int .i64 u2.least), s6])] [(fDat (tyList (tyInt .i64)) [s38] u34.symbols), (fDat tyS_huff_tree [(int .i64 u34.weight), (int .i64 u34.least), s38] u34), (fDat tyS_huff_tree [(int .i64 u28.weight), (int .i64 u28.least), s32] u28), (fDat (tyList (tyInt .i64)) [s6] u2.symbols), (fDat tyS_huff_tree [(int .i64 u9.weight), (int .i64 u9.least), s13] u9), (fDat tyS_huff_tree [(int .i64 u2.weight), (int .i64 u2.least), s6] u2)]) X_ Y_) ?_
   refine aq_next hK_ [0, 1, 2, 3] [0, 1, 2, 3, 4, 5] [(0, (ptr bx0 0)), (2, (ptr g1 0)), (3, (ptr g8 0)), (4, (int .i64 (IntKind.i64.wrap ((a0.items.length : Int) - (1 : Int))))), (6, (int .i64 j25i6))] [] [] rfl rfl (by decide) rfl ⟨rfl, rfl, rfl, rfl, rfl, trivial⟩ trivial ?_
   clear hK_ K_ F_ X_ Y_
   refine ta_show (m := (memOf w0 Z0 [(oBox bx0 127 [v0_0, (Value.func (.func 61) #[] #[])]), (oRow v0_0 122 tyS_huff_tree a0.items)] [(oRow s20 122 tyS_huff_tree ((l21x0_0.set (j25i6).toNat u28).set (l21i5).toNat u34)), (oBox bx0 127 [s20, (Value.func (.func 61) #[] #[])]), (oBox g1 122 [(int .i64 (0 : Int)), (int .i64 (0 : Int)), (Value.slice none 0 0)]), (oBox g8 122 [(int .i64 u2.weight), (int .i64 u2.least), s6])] [(fDat (tyList (tyInt .i64)) [s38] u34.symbols), (fDat tyS_huff_tree [(int .i64 u34.weight), (int .i64 u34.least), s38] u34), (fDat tyS_huff_tree [(int .i64 u28.weight), (int .i64 u28.least), s32] u28), (fDat (tyList (tyInt .i64)) [s6] u2.symbols), (fDat tyS_huff_tree [(int .i64 u9.weight), (int .i64 u9.least), s13] u9), (fDat tyS_huff_tree [(int .i64 u2.weight), (int .i64 u2.least), s6] u2)])) (S := (tab [(0, (ptr bx0 0)), (2, (ptr g1 0)), (3, (ptr g8 0)), (4, (int .i64 (IntKind.i64.wrap ((a0.items.length : Int) - (1 : Int))))), (6, (int .i64 j25i6))])) ?_
   refine ta_end [] [] rfl rfl (by kernel_rfl) rfl trivial ?_
   refine aq_show (m := (memOf w0 Z0 [(oBox bx0 127 [v0_0, (Value.func (.func 61) #[] #[])]), (oRow v0_0 122 tyS_huff_tree a0.items)] [(oRow s20 122 tyS_huff_tree ((l21x0_0.set (j25i6).toNat u28).set (l21i5).toNat u34)), (oBox bx0 127 [s20, (Value.func (.func 61) #[] #[])]), (oBox g1 122 [(int .i64 (0 : Int)), (int .i64 (0 : Int)), (Value.slice none 0 0)]), (oBox g8 122 [(int .i64 u2.weight), (int .i64 u2.least), s6])] [(fDat (tyList (tyInt .i64)) [s38] u34.symbols), (fDat tyS_huff_tree [(int .i64 u34.weight), (int .i64 u34.least), s38] u34), (fDat tyS_huff_tree [(int .i64 u28.weight), (int .i64 u28.least), s32] u28), (fDat (tyList (tyInt .i64)) [s6] u2.symbols), (fDat tyS_huff_tree [(int .i64 u9.weight), (int .i64 u9.least), s13] u9), (fDat tyS_huff_tree [(int .i64 u2.weight), (int .i64 u2.least), s6] u2)])) (S := (tab [(0, (ptr bx0 0)), (2, (ptr g1 0)), (3, (ptr g8 0)), (4, (int .i64 (IntKind.i64.wrap ((a0.items.length : Int) - (1 : Int))))), (6, (int .i64 j25i6))])) ?_
   refine aq_then ?_
   refine aw_region ?_
   refine al_mv rfl rfl ?_
   refine al_as rfl rfl ?_
   refine al_nil ?_
   refine aq_block ?_
   exact aq_join (((l21x0_0.set (j25i6).toNat u28).set (l21i5).toNat u34), j25i6) h (fun w a hm hs => norm hm hs [0, 1, 2, 3] [3, 4, 5] [(0, (ptr bx0 0)), (2, (ptr g1 0)), (3, (ptr g8 0)), (4, (int .i64 (IntKind.i64.wrap ((a0.items.length : Int) - (1 : Int))))), (5, (int .i64 j25i6))] (by decide) ⟨rfl, rfl, rfl, rfl, rfl, trivial⟩)
 ·clear hkk26
  refine aw_sr ?_
  refine al_mv rfl rfl ?_
  refine al_in rfl rfl rfl rfl ?_
  refine al_in rfl rfl rfl rfl ?_
  refine al_mv rfl rfl ?_
  refine al_in rfl rfl rfl rfl ?_
  refine al_in rfl rfl rfl rfl ?_
  refine al_val (ov_build (cells := ((cA2i64 (A2i64.mk (IntKind.i64.wrap ((IntKind.i64.wrap ((2 : Int) * l21i5)) + (1 : Int))) (IntKind.i64.wrap ((IntKind.i64.wrap ((2 : Int) * l21i5)) + (2 : Int)))))).toArray) (cs := (cA2i64 (A2i64.mk (IntKind.i64.wrap ((IntKind.i64.wrap ((2 : Int) * l21i5)) + (1 : Int))) (IntKind.i64.wrap ((IntKind.i64.wrap ((2 : Int) * l21i5)) + (2 : Int)))))) rfl (fun w a hm hs => by simp only [List.map_toArray, List.map_cons, List.map_nil, List.toList_toArray, hs.ev (x := .tmp 45) rfl, hs.ev (x := .tmp 48) rfl]; kernel_rfl)) ?_
  refine al_mv rfl rfl ?_
  refine al_nt ?_
  refine aw_block ?_
  refine aw_state (aw_loop (ι := Int × Int) (fun i => (memOf w0 Z0 [(oBox bx0 127 [v0_0, (Value.func (.func 61) #[] #[])]), (oRow v0_0 122 tyS_huff_tree a0.items)] [(oRow s20 122 tyS_huff_tree l21x0_0), (oBox bx0 127 [s20, (Value.func (.func 61) #[] #[])]), (oBox g1 122 [(int .i64 (0 : Int)), (int .i64 (0 : Int)), (Value.slice none 0 0)]), (oBox g8 122 [(int .i64 u2.weight), (int .i64 u2.least), s6])] [(fDat (tyList (tyInt .i64)) [s6] u2.symbols), (fDat tyS_huff_tree [(int .i64 u9.weight), (int .i64 u9.least), s13] u9), (fDat tyS_huff_tree [(int .i64 u2.weight), (int .i64 u2.least), s6] u2)])) (fun i => (tab [(0, (ptr bx0 0)), (2, (ptr g1 0)), (3, (ptr g8 0)), (4, (int .i64 (IntKind.i64.wrap ((a0.items.length : Int) - (1 : Int))))), (5, (int .i64 l21i5)), (6, (int .i64 i.1)), (49, (ag (cA2i64 (A2i64.mk (IntKind.i64.wrap ((IntKind.i64.wrap ((2 : Int) * l21i5)) + (1 : Int))) (IntKind.i64.wrap ((IntKind.i64.wrap ((2 : Int) * l21i5)) + (2 : Int))))))), (50, (int .i64 i.2))])) (fun q i => f___huff_heap_huff_tree___pop_L50 a0 l21x0_0 l21i5 kk26 fu q i.1 i.2 = some r) ?_ fu (l21i5, (0 : Int)) h) (fun w a hm hs => norm hm hs [0, 1, 2, 3] [0, 1, 2] [(0, (ptr bx0 0)), (2, (ptr g1 0)), (3, (ptr g8 0)), (4, (int .i64 (IntKind.i64.wrap ((a0.items.length : Int) - (1 : Int))))), (5, (int .i64 l21i5)), (6, (int .i64 l21i5)), (49, (ag (cA2i64 (A2i64.mk (IntKind.i64.wrap ((IntKind.i64.wrap ((2 : Int) * l21i5)) + (1 : Int))) (IntKind.i64.wrap ((IntKind.i64.wrap ((2 : Int) * l21i5)) + (2 : Int))))))), (50, (int .i64 (0 : Int)))] (by decide) ⟨rfl, rfl, rfl, rfl, rfl, rfl, rfl, rfl, trivial⟩)
  clear h
  rintro k49 ⟨l48i6, l48i50⟩ h
  have h : f___huff_heap_huff_tree___pop_L50 a0 l21x0_0 l21i5 kk26 fu k49 l48i6 l48i50 = some r := h
  obtain _ | k49 := k49
  · rw [f___huff_heap_huff_tree___pop_L50] at h; cases h
  rw [f___huff_heap_huff_tree___pop_L50] at h
  refine aw_show (m := (memOf w0 Z0 [(oBox bx0 127 [v0_0, (Value.func (.func 61) #[] #[])]), (oRow v0_0 122 tyS_huff_tree a0.items)] [(oRow s20 122 tyS_huff_tree l21x0_0), (oBox bx0 127 [s20, (Value.func (.func 61) #[] #[])]), (oBox g1 122 [(int .i64 (0 : Int)), (int .i64 (0 : Int)), (Value.slice none 0 0)]), (oBox g8 122 [(int .i64 u2.weight), (int .i64 u2.least), s6])] [(fDat (tyList (tyInt .i64)) [s6] u2.symbols), (fDat tyS_huff_tree [(int .i64 u9.weight), (int .i64 u9.least), s13] u9), (fDat tyS_huff_tree [(int .i64 u2.weight), (int .i64 u2.least), s6] u2)])) (S := (tab [(0, (ptr bx0 0)), (2, (ptr g1 0)), (3, (ptr g8 0)), (4, (int .i64 (IntKind.i64.wrap ((a0.items.length : Int) - (1 : Int))))), (5, (int .i64 l21i5)), (6, (int .i64 l48i6)), (49, (ag (cA2i64 (A2i64.mk (IntKind.i64.wrap ((IntKind.i64.wrap ((2 : Int) * l21i5)) + (1 : Int))) (IntKind.i64.wrap ((IntKind.i64.wrap ((2 : Int) * l21i5)) + (2 : Int))))))), (50, (int .i64 l48i50))])) ?_
  refine aw_sr ?_
  refine al_in rfl rfl rfl rfl ?_
  refine al_nt ?_
  refine aw_seq ?_
  refine aw_cond rfl (fun hb51 => ?_) (fun hb51 => ?_)
  ·replace h := bif_t hb51 h
   refine aw_skip ?_
   refine aq_then ?_
   obtain ⟨kk53, hkk53, h⟩ := lt_some h
   refine aw_seq_join (ι := Int) (fun i => (memOf w0 Z0 [(oBox bx0 127 [v0_0, (Value.func (.func 61) #[] #[])]), (oRow v0_0 122 tyS_huff_tree a0.items)] [(oRow s20 122 tyS_huff_tree l21x0_0), (oBox bx0 127 [s20, (Value.func (.func 61) #[] #[])]), (oBox g1 122 [(int .i64 (0 : Int)), (int .i64 (0 : Int)), (Value.slice none 0 0)]), (oBox g8 122 [(int .i64 u2.weight), (int .i64 u2.least), s6])] [(fDat (tyList (tyInt .i64)) [s6] u2.symbols), (fDat tyS_huff_tree [(int .i64 u9.weight), (int .i64 u9.least), s13] u9), (fDat tyS_huff_tree [(int .i64 u2.weight), (int .i64 u2.least), s6] u2)])) (fun i => (tab [(0, (ptr bx0 0)), (2, (ptr g1 0)), (3, (ptr g8 0)), (4, (int .i64 (IntKind.i64.wrap ((a0.items.length : Int) - (1 : Int))))), (5, (int .i64 l21i5)), (6, (int .i64 i)), (49, (ag (cA2i64 (A2i64.mk (IntKind.i64.wrap ((IntKind.i64.wrap ((2 : Int) * l21i5)) + (1 : Int))) (IntKind.i64.wrap ((IntKind.i64.wrap ((2 : Int) * l21i5)) + (2 : Int))))))), (50, (int .i64 l48i50))])) (fun i => kk53 i = some r) ?_ ?_
   ·rintro j52i6 h
    have h : kk53 j52i6 = some r := h
    rw [hkk53] at h
    dsimp only at h
    clear hkk53
    refine aw_show (m := (memOf w0 Z0 [(oBox bx0 127 [v0_0, (Value.func (.func 61) #[] #[])]), (oRow v0_0 122 tyS_huff_tree a0.items)] [(oRow s20 122 tyS_huff_tree l21x0_0), (oBox bx0 127 [s20, (Value.func (.func 61) #[] #[])]), (oBox g1 122 [(int .i64 (0 : Int)), (int .i64 (0 : Int)), (Value.slice none 0 0)]), (oBox g8 122 [(int .i64 u2.weight), (int .i64 u2.least), s6])] [(fDat (tyList (tyInt .i64)) [s6] u2.symbols), (fDat tyS_huff_tree [(int .i64 u9.weight), (int .i64 u9.least), s13] u9), (fDat tyS_huff_tree [(int .i64 u2.weight), (int .i64 u2.least), s6] u2)])) (S := (tab [(0, (ptr bx0 0)), (2, (ptr g1 0)), (3, (ptr g8 0)), (4, (int .i64 (IntKind.i64.wrap ((a0.items.length : Int) - (1 : Int))))), (5, (int .i64 l21i5)), (6, (int .i64 j52i6)), (49, (ag (cA2i64 (A2i64.mk (IntKind.i64.wrap ((IntKind.i64.wrap ((2 : Int) * l21i5)) + (1 : Int))) (IntKind.i64.wrap ((IntKind.i64.wrap ((2 : Int) * l21i5)) + (2 : Int))))))), (50, (int .i64 l48i50))])) ?_
    refine aw_region ?_
    refine al_in rfl rfl rfl rfl ?_
    refine al_mv rfl rfl ?_
    refine al_nil ?_
    exact aq_again k49 (j52i6, (IntKind.i64.wrap (l48i50 + (1 : Int)))) (Nat.lt_succ_self _) h (fun w a hm hs => norm hm hs [0, 1, 2, 3] [0, 1, 2] [(0, (ptr bx0 0)), (2, (ptr g1 0)), (3, (ptr g8 0)), (4, (int .i64 (IntKind.i64.wrap ((a0.items.length : Int) - (1 : Int))))), (5, (int .i64 l21i5)), (6, (int .i64 j52i6)), (49, (ag (cA2i64 (A2i64.mk (IntKind.i64.wrap ((IntKind.i64.wrap ((2 : Int) * l21i5)) + (1 : Int))) (IntKind.i64.wrap ((IntKind.i64.wrap ((2 : Int) * l21i5)) + (2 : Int))))))), (50, (int .i64 (IntKind.i64.wrap (l48i50 + (1 : Int)))))] (by decide) ⟨rfl, rfl, rfl, rfl, rfl, rfl, rfl, rfl, trivial⟩)
   ·clear hkk53
    refine aw_block ?_
    refine aw_sr ?_
    obtain ⟨u54, hu55, h⟩ := opt_some h
    refine al_val (v := (int .i64 u54)) (ov_idxAgg (u := u54) (enc := vA2i64) (xs := lA2i64 (A2i64.mk (IntKind.i64.wrap ((IntKind.i64.wrap ((2 : Int) * l21i5)) + (1 : Int))) (IntKind.i64.wrap ((IntKind.i64.wrap ((2 : Int) * l21i5)) + (2 : Int))))) hu55 rfl rfl rfl rfl Try.underlying207 Try.underlying3 rfl sz3 rfl) ?_
    refine al_as rfl rfl ?_
    refine al_nt ?_
    obtain ⟨kk57, hkk57, h⟩ := lt_some h
    refine aw_seq_join (ι := Bool) (fun i => (memOf w0 Z0 [(oBox bx0 127 [v0_0, (Value.func (.func 61) #[] #[])]), (oRow v0_0 122 tyS_huff_tree a0.items)] [(oRow s20 122 tyS_huff_tree l21x0_0), (oBox bx0 127 [s20, (Value.func (.func 61) #[] #[])]), (oBox g1 122 [(int .i64 (0 : Int)), (int .i64 (0 : Int)), (Value.slice none 0 0)]), (oBox g8 122 [(int .i64 u2.weight), (int .i64 u2.least), s6])] [(fDat (tyList (tyInt .i64)) [s6] u2.symbols), (fDat tyS_huff_tree [(int .i64 u9.weight), (int .i64 u9.least), s13] u9), (fDat tyS_huff_tree [(int .i64 u2.weight), (int .i64 u2.least), s6] u2)])) (fun i => (tab [(0, (ptr bx0 0)), (2, (ptr g1 0)), (3, (ptr g8 0)), (4, (int .i64 (IntKind.i64.wrap ((a0.items.length : Int) - (1 : Int))))), (5, (int .i64 l21i5)), (6, (int .i64 l48i6)), (8, (int .i64 u54)), (49, (ag (cA2i64 (A2i64.mk (IntKind.i64.wrap ((IntKind.i64.wrap ((2 : Int) * l21i5)) + (1 : Int))) (IntKind.i64.wrap ((IntKind.i64.wrap ((2 : Int) * l21i5)) + (2 : Int))))))), (50, (int .i64 l48i50)), (77, (bool i))])) (fun i => kk57 i = some r) ?_ ?_
    ·rintro j56b77 h
     have h : kk57 j56b77 = some r := h
     rw [hkk57] at h
     dsimp only at h
     clear hkk57
     refine aw_show (m := (memOf w0 Z0 [(oBox bx0 127 [v0_0, (Value.func (.func 61) #[] #[])]), (oRow v0_0 122 tyS_huff_tree a0.items)] [(oRow s20 122 tyS_huff_tree l21x0_0), (oBox bx0 127 [s20, (Value.func (.func 61) #[] #[])]), (oBox g1 122 [(int .i64 (0 : Int)), (int .i64 (0 : Int)), (Value.slice none 0 0)]), (oBox g8 122 [(int .i64 u2.weight), (int .i64 u2.least), s6])] [(fDat (tyList (tyInt .i64)) [s6] u2.symbols), (fDat tyS_huff_tree [(int .i64 u9.weight), (int .i64 u9.least), s13] u9), (fDat tyS_huff_tree [(int .i64 u2.weight), (int .i64 u2.least), s6] u2)])) (S := (tab [(0, (ptr bx0 0)), (2, (ptr g1 0)), (3, (ptr g8 0)), (4, (int .i64 (IntKind.i64.wrap ((a0.items.length : Int) - (1 : Int))))), (5, (int .i64 l21i5)), (6, (int .i64 l48i6)), (8, (int .i64 u54)), (49, (ag (cA2i64 (A2i64.mk (IntKind.i64.wrap ((IntKind.i64.wrap ((2 : Int) * l21i5)) + (1 : Int))) (IntKind.i64.wrap ((IntKind.i64.wrap ((2 : Int) * l21i5)) + (2 : Int))))))), (50, (int .i64 l48i50)), (77, (bool j56b77))])) ?_
     refine aw_cond rfl (fun hb58 => ?_) (fun hb58 => ?_)
     ·replace h := bif_t hb58 h
      refine aw_region ?_
      refine al_mv rfl rfl ?_
      refine al_as rfl rfl ?_
      refine al_nil ?_
      refine aq_block ?_
      exact aq_join u54 h (fun w a hm hs => norm hm hs [0, 1, 2, 3] [0, 1, 2] [(0, (ptr bx0 0)), (2, (ptr g1 0)), (3, (ptr g8 0)), (4, (int .i64 (IntKind.i64.wrap ((a0.items.length : Int) - (1 : Int))))), (5, (int .i64 l21i5)), (6, (int .i64 u54)), (49, (ag (cA2i64 (A2i64.mk (IntKind.i64.wrap ((IntKind.i64.wrap ((2 : Int) * l21i5)) + (1 : Int))) (IntKind.i64.wrap ((IntKind.i64.wrap ((2 : Int) * l21i5)) + (2 : Int))))))), (50, (int .i64 l48i50))] (by decide) ⟨rfl, rfl, rfl, rfl, rfl, rfl, rfl, rfl, trivial⟩)
     ·replace h := bif_f hb58 h
      refine aw_skip ?_
      refine aq_block ?_
      exact aq_join l48i6 h (fun w a hm hs => norm hm hs [0, 1, 2, 3] [0, 1, 2] [(0, (ptr bx0 0)), (2, (ptr g1 0)), (3, (ptr g8 0)), (4, (int .i64 (IntKind.i64.wrap ((a0.items.length : Int) - (1 : Int))))), (5, (int .i64 l21i5)), (6, (int .i64 l48i6)), (49, (ag (cA2i64 (A2i64.mk (IntKind.i64.wrap ((IntKind.i64.wrap ((2 : Int) * l21i5)) + (1 : Int))) (IntKind.i64.wrap ((IntKind.i64.wrap ((2 : Int) * l21i5)) + (2 : Int))))))), (50, (int .i64 l48i50))] (by decide) ⟨rfl, rfl, rfl, rfl, rfl, rfl, rfl, rfl, trivial⟩)
    ·clear hkk57
     rcases Bool.eq_false_or_eq_true (decide (u54 < (IntKind.i64.wrap ((a0.items.length : Int) - (1 : Int))))) with hb59 | hb59
     ·replace h := bif_t hb59 h
      obtain ⟨u60, hu61, h⟩ := opt_some h
      obtain ⟨u66, hu67, h⟩ := opt_some h
      refine aw_region_open [⟨0, 53, Unit, fun _ => { val := (int .i64 u54) }⟩, ⟨1, 54, Unit, fun _ => { val := (int .i64 (IntKind.i64.wrap ((a0.items.length : Int) - (1 : Int)))) }⟩, ⟨2, 55, Unit, fun _ => { val := (bool (decide (u54 < (IntKind.i64.wrap ((a0.items.length : Int) - (1 : Int)))))) }⟩, ⟨3, 56, Unit, fun _ => { val := (bool true) }⟩, ⟨4, 57, Unit, fun _ => { val := (ptr bx0 0) }⟩, ⟨5, 58, Unit, fun _ => { val := (ptr bx0 0) }⟩, ⟨6, 59, Unit, fun _ => { val := (ptr bx0 1) }⟩, ⟨7, 60, Unit, fun _ => { val := (Value.func (.func 61) #[] #[]) }⟩, ⟨8, 61, Unit, fun _ => { val := (ptr bx0 0) }⟩, ⟨9, 62, Unit, fun _ => { val := (ptr bx0 0) }⟩, ⟨10, 63, Unit, fun _ => { val := (ptr bx0 0) }⟩, ⟨11, 64, Unit, fun _ => { val := s20 }⟩, ⟨12, 65, Unit, fun _ => { val := (int .i64 u54) }⟩, ⟨13, 66, {p : Value // EltOf s20 p ((u54).toNat * Ty.size tyS_huff_tree)}, fun p => { val := p.1 }⟩, ⟨14, 67, Value, fun (i : Value) => { val := (ag [(int .i64 u60.weight), (int .i64 u60.least), i]), fz := [(fDat (tyList (tyInt .i64)) [i] u60.symbols), (fDat tyS_huff_tree [(int .i64 u60.weight), (int .i64 u60.least), i] u60)] }⟩, ⟨15, 68, Unit, fun _ => { val := (ptr bx0 0) }⟩, ⟨16, 69, Unit, fun _ => { val := (ptr bx0 0) }⟩, ⟨17, 70, Unit, fun _ => { val := (ptr bx0 0) }⟩, ⟨18, 71, Unit, fun _ => { val := s20 }⟩, ⟨19, 72, Unit, fun _ => { val := (int .i64 l48i6) }⟩, ⟨20, 73, {p : Value // EltOf s20 p ((l48i6).toNat * Ty.size tyS_huff_tree)}, fun p => { val := p.1 }⟩, ⟨21, 74, Value, fun (i : Value) => { val := (ag [(int .i64 u66.weight), (int .i64 u66.least), i]), fz := [(fDat (tyList (tyInt .i64)) [i] u66.symbols), (fDat tyS_huff_tree [(int .i64 u66.weight), (int .i64 u66.least), i] u66)] }⟩] (tab [(0, (ptr bx0 0)), (2, (ptr g1 0)), (3, (ptr g8 0)), (4, (int .i64 (IntKind.i64.wrap ((a0.items.length : Int) - (1 : Int))))), (5, (int .i64 l21i5)), (6, (int .i64 l48i6)), (8, (int .i64 u54)), (49, (ag (cA2i64 (A2i64.mk (IntKind.i64.wrap ((IntKind.i64.wrap ((2 : Int) * l21i5)) + (1 : Int))) (IntKind.i64.wrap ((IntKind.i64.wrap ((2 : Int) * l21i5)) + (2 : Int))))))), (50, (int .i64 l48i50))]) mixed (fun a hs => hs.tab _ (allT_mem ⟨rfl, rfl, rfl, rfl, rfl, rfl, rfl, rfl, rfl, trivial⟩)) ?_
      refine ta_show (m := (memOf w0 Z0 [(oBox bx0 127 [v0_0, (Value.func (.func 61) #[] #[])]), (oRow v0_0 122 tyS_huff_tree a0.items)] [(oRow s20 122 tyS_huff_tree l21x0_0), (oBox bx0 127 [s20, (Value.func (.func 61) #[] #[])]), (oBox g1 122 [(int .i64 (0 : Int)), (int .i64 (0 : Int)), (Value.slice none 0 0)]), (oBox g8 122 [(int .i64 u2.weight), (int .i64 u2.least), s6])] [(fDat (tyList (tyInt .i64)) [s6] u2.symbols), (fDat tyS_huff_tree [(int .i64 u9.weight), (int .i64 u9.least), s13] u9), (fDat tyS_huff_tree [(int .i64 u2.weight), (int .i64 u2.least), s6] u2)])) (S := (tab [(0, (ptr bx0 0)), (2, (ptr g1 0)), (3, (ptr g8 0)), (4, (int .i64 (IntKind.i64.wrap ((a0.items.length : Int) - (1 : Int))))), (5, (int .i64 l21i5)), (6, (int .i64 l48i6)), (8, (int .i64 u54)), (49, (ag (cA2i64 (A2i64.mk (IntKind.i64.wrap ((IntKind.i64.wrap ((2 : Int) * l21i5)) + (1 : Int))) (IntKind.i64.wrap ((IntKind.i64.wrap ((2 : Int) * l21i5)) + (2 : Int))))))), (50, (int .i64 l48i50))])) ?_
      refine ta_step 22 _ [0, 1, 2, 3, 4, 5, 6, 7, 8, 9, 10, 11, 12, 13, 14, 15, 16, 17, 18, 19, 20, 21] [53, 54, 55, 56, 57, 58, 59, 60, 61, 62, 63, 64, 65, 66, 67, 68, 69, 70, 71, 72, 73, 74] [0, 1, 2, 3, 4, 5, 6, 7, 8, 9, 10, 11, 12, 13, 14, 15, 16, 17, 18, 19, 20, 21] [23, 24] [⟨0, 53, Unit, fun _ => { val := (int .i64 u54) }⟩, ⟨1, 54, Unit, fun _ => { val := (int .i64 (IntKind.i64.wrap ((a0.items.length : Int) - (1 : Int)))) }⟩, ⟨2, 55, Unit, fun _ => { val := (bool (decide (u54 < (IntKind.i64.wrap ((a0.items.length : Int) - (1 : Int)))))) }⟩, ⟨3, 56, Unit, fun _ => { val := (bool true) }⟩, ⟨4, 57, Unit, fun _ => { val := (ptr bx0 0) }⟩, ⟨5, 58, Unit, fun _ => { val := (ptr bx0 0) }⟩, ⟨6, 59, Unit, fun _ => { val := (ptr bx0 1) }⟩, ⟨7, 60, Unit, fun _ => { val := (Value.func (.func 61) #[] #[]) }⟩, ⟨8, 61, Unit, fun _ => { val := (ptr bx0 0) }⟩, ⟨9, 62, Unit, fun _ => { val := (ptr bx0 0) }⟩, ⟨10, 63, Unit, fun _ => { val := (ptr bx0 0) }⟩, ⟨11, 64, Unit, fun _ => { val := s20 }⟩, ⟨12, 65, Unit, fun _ => { val := (int .i64 u54) }⟩, ⟨13, 66, {p : Value // EltOf s20 p ((u54).toNat * Ty.size tyS_huff_tree)}, fun p => { val := p.1 }⟩, ⟨14, 67, Value, fun (i : Value) => { val := (ag [(int .i64 u60.weight), (int .i64 u60.least), i]), fz := [(fDat (tyList (tyInt .i64)) [i] u60.symbols), (fDat tyS_huff_tree [(int .i64 u60.weight), (int .i64 u60.least), i] u60)] }⟩, ⟨15, 68, Unit, fun _ => { val := (ptr bx0 0) }⟩, ⟨16, 69, Unit, fun _ => { val := (ptr bx0 0) }⟩, ⟨17, 70, Unit, fun _ => { val := (ptr bx0 0) }⟩, ⟨18, 71, Unit, fun _ => { val := s20 }⟩, ⟨19, 72, Unit, fun _ => { val := (int .i64 l48i6) }⟩, ⟨20, 73, {p : Value // EltOf s20 p ((l48i6).toNat * Ty.size tyS_huff_tree)}, fun p => { val := p.1 }⟩, ⟨21, 74, Value, fun (i : Value) => { val := (ag [(int .i64 u66.weight), (int .i64 u66.least), i]), fz := [(fDat (tyList (tyInt .i64)) [i] u66.symbols), (fDat tyS_huff_tree [(int .i64 u66.weight), (int .i64 u66.least), i] u66)] }⟩] [] rfl rfl rfl (by kernel_rfl) rfl rfl rfl ⟨⟨_, rfl, [], rfl, by
 intro X_ Y_ F_ K_ hK_
 refine al_show (m := Mem.plus (memOf w0 Z0 [(oBox bx0 127 [v0_0, (Value.func (.func 61) #[] #[])]), (oRow v0_0 122 tyS_huff_tree a0.items)] [(oRow s20 122 tyS_huff_tree l21x0_0), (oBox bx0 127 [s20, (Value.func (.func 61) #[] #[])]), (oBox g1 122 [(int .i64 (0 : Int)), (int .i64 (0 : Int)), (Value.slice none 0 0)]), (oBox g8 122 [(int .i64 u2.weight), (int .i64 u2.least), s6])] [(fDat (tyList (tyInt .i64)) [s6] u2.symbols), (fDat tyS_huff_tree [(int .i64 u9.weight), (int .i64 u9.least), s13] u9), (fDat tyS_huff_tree [(int .i64 u2.weight), (int .i64 u2.least), s6] u2)]) X_ Y_) (S := over (tab [(0, (ptr bx0 0)), (2, (ptr g1 0)), (3, (ptr g8 0)), (4, (int .i64 (IntKind.i64.wrap ((a0.items.length : Int) - (1 : Int))))), (5, (int .i64 l21i5)), (6, (int .i64 l48i6)), (8, (int .i64 u54)), (49, (ag (cA2i64 (A2i64.mk (IntKind.i64.wrap ((IntKind.i64.wrap ((2 : Int) * l21i5)) + (1 : Int))) (IntKind.i64.wrap ((IntKind.i64.wrap ((2 : Int) * l21i5)) + (2 : Int))))))), (50, (int .i64 l48i50))]) F_) ?_
 refine al_mv rfl rfl ?_
 refine al_nil ?_
 exact fr_fin hK_ ()⟩, ⟨_, rfl, [], rfl, by
 intro X_ Y_ F_ K_ hK_
 refine al_show (m := Mem.plus (memOf w0 Z0 [(oBox bx0 127 [v0_0, (Value.func (.func 61) #[] #[])]), (oRow v0_0 122 tyS_huff_tree a0.items)] [(oRow s20 122 tyS_huff_tree l21x0_0), (oBox bx0 127 [s20, (Value.func (.func 61) #[] #[])]), (oBox g1 122 [(int .i64 (0 : Int)), (int .i64 (0 : Int)), (Value.slice none 0 0)]), (oBox g8 122 [(int .i64 u2.weight), (int .i64 u2.least), s6])] [(fDat (tyList (tyInt .i64)) [s6] u2.symbols), (fDat tyS_huff_tree [(int .i64 u9.weight), (int .i64 u9.least), s13] u9), (fDat tyS_huff_tree [(int .i64 u2.weight), (int .i64 u2.least), s6] u2)]) X_ Y_) (S := over (tab [(0, (ptr bx0 0)), (2, (ptr g1 0)), (3, (ptr g8 0)), (4, (int .i64 (IntKind.i64.wrap ((a0.items.length : Int) - (1 : Int))))), (5, (int .i64 l21i5)), (6, (int .i64 l48i6)), (8, (int .i64 u54)), (49, (ag (cA2i64 (A2i64.mk (IntKind.i64.wrap ((IntKind.i64.wrap ((2 : Int) * l21i5)) + (1 : Int))) (IntKind.i64.wrap ((IntKind.i64.wrap ((2 : Int) * l21i5)) + (2 : Int))))))), (50, (int .i64 l48i50))]) F_) ?_
 refine al_mv rfl rfl ?_
 refine al_nil ?_
 exact fr_fin hK_ ()⟩, ⟨_, rfl, [0, 1], rfl, by
 intro _
 intro _
 intro X_ Y_ F_ K_ hK_
 refine al_show (m := Mem.plus (memOf w0 Z0 [(oBox bx0 127 [v0_0, (Value.func (.func 61) #[] #[])]), (oRow v0_0 122 tyS_huff_tree a0.items)] [(oRow s20 122 tyS_huff_tree l21x0_0), (oBox bx0 127 [s20, (Value.func (.func 61) #[] #[])]), (oBox g1 122 [(int .i64 (0 : Int)), (int .i64 (0 : Int)), (Value.slice none 0 0)]), (oBox g8 122 [(int .i64 u2.weight), (int .i64 u2.least), s6])] [(fDat (tyList (tyInt .i64)) [s6] u2.symbols), (fDat tyS_huff_tree [(int .i64 u9.weight), (int .i64 u9.least), s13] u9), (fDat tyS_huff_tree [(int .i64 u2.weight), (int .i64 u2.least), s6] u2)]) X_ Y_) (S := over (put (put (tab [(0, (ptr bx0 0)), (2, (ptr g1 0)), (3, (ptr g8 0)), (4, (int .i64 (IntKind.i64.wrap ((a0.items.length : Int) - (1 : Int))))), (5, (int .i64 l21i5)), (6, (int .i64 l48i6)), (8, (int .i64 u54)), (49, (ag (cA2i64 (A2i64.mk (IntKind.i64.wrap ((IntKind.i64.wrap ((2 : Int) * l21i5)) + (1 : Int))) (IntKind.i64.wrap ((IntKind.i64.wrap ((2 : Int) * l21i5)) + (2 : Int))))))), (50, (int .i64 l48i50))]) 53 (int .i64 u54)) 54 (int .i64 (IntKind.i64.wrap ((a0.items.length : Int) - (1 : Int))))) F_) ?_
 refine al_in rfl rfl rfl rfl ?_
 refine al_nil ?_
 exact fr_fin hK_ ()⟩, ⟨_, rfl, [2], rfl, by
 intro _
 intro X_ Y_ F_ K_ hK_
 refine al_show (m := Mem.plus (memOf w0 Z0 [(oBox bx0 127 [v0_0, (Value.func (.func 61) #[] #[])]), (oRow v0_0 122 tyS_huff_tree a0.items)] [(oRow s20 122 tyS_huff_tree l21x0_0), (oBox bx0 127 [s20, (Value.func (.func 61) #[] #[])]), (oBox g1 122 [(int .i64 (0 : Int)), (int .i64 (0 : Int)), (Value.slice none 0 0)]), (oBox g8 122 [(int .i64 u2.weight), (int .i64 u2.least), s6])] [(fDat (tyList (tyInt .i64)) [s6] u2.symbols), (fDat tyS_huff_tree [(int .i64 u9.weight), (int .i64 u9.least), s13] u9), (fDat tyS_huff_tree [(int .i64 u2.weight), (int .i64 u2.least), s6] u2)]) X_ Y_) (S := over (put (tab [(0, (ptr bx0 0)), (2, (ptr g1 0)), (3, (ptr g8 0)), (4, (int .i64 (IntKind.i64.wrap ((a0.items.length : Int) - (1 : Int))))), (5, (int .i64 l21i5)), (6, (int .i64 l48i6)), (8, (int .i64 u54)), (49, (ag (cA2i64 (A2i64.mk (IntKind.i64.wrap ((IntKind.i64.wrap ((2 : Int) * l21i5)) + (1 : Int))) (IntKind.i64.wrap ((IntKind.i64.wrap ((2 : Int) * l21i5)) + (2 : Int))))))), (50, (int .i64 l48i50))]) 55 (bool (decide (u54 < (IntKind.i64.wrap ((a0.items.length : Int) - (1 : Int))))))) F_) ?_
 refine al_val (ov_cast (by first | rw [hb59] | rfl) (ov_move rfl rfl)) ?_
 refine al_nil ?_
 exact fr_fin hK_ ()⟩, ⟨_, rfl, [3], rfl, by
 intro _
 intro X_ Y_ F_ K_ hK_
 refine al_show (m := Mem.plus (memOf w0 Z0 [(oBox bx0 127 [v0_0, (Value.func (.func 61) #[] #[])]), (oRow v0_0 122 tyS_huff_tree a0.items)] [(oRow s20 122 tyS_huff_tree l21x0_0), (oBox bx0 127 [s20, (Value.func (.func 61) #[] #[])]), (oBox g1 122 [(int .i64 (0 : Int)), (int .i64 (0 : Int)), (Value.slice none 0 0)]), (oBox g8 122 [(int .i64 u2.weight), (int .i64 u2.least), s6])] [(fDat (tyList (tyInt .i64)) [s6] u2.symbols), (fDat tyS_huff_tree [(int .i64 u9.weight), (int .i64 u9.least), s13] u9), (fDat tyS_huff_tree [(int .i64 u2.weight), (int .i64 u2.least), s6] u2)]) X_ Y_) (S := over (put (tab [(0, (ptr bx0 0)), (2, (ptr g1 0)), (3, (ptr g8 0)), (4, (int .i64 (IntKind.i64.wrap ((a0.items.length : Int) - (1 : Int))))), (5, (int .i64 l21i5)), (6, (int .i64 l48i6)), (8, (int .i64 u54)), (49, (ag (cA2i64 (A2i64.mk (IntKind.i64.wrap ((IntKind.i64.wrap ((2 : Int) * l21i5)) + (1 : Int))) (IntKind.i64.wrap ((IntKind.i64.wrap ((2 : Int) * l21i5)) + (2 : Int))))))), (50, (int .i64 l48i50))]) 56 (bool true)) F_) ?_
 refine al_mv rfl rfl ?_
 refine al_nil ?_
 exact fr_fin hK_ ()⟩, ⟨_, rfl, [3, 4], rfl, by
 intro _
 intro _
 intro X_ Y_ F_ K_ hK_
 refine al_show (m := Mem.plus (memOf w0 Z0 [(oBox bx0 127 [v0_0, (Value.func (.func 61) #[] #[])]), (oRow v0_0 122 tyS_huff_tree a0.items)] [(oRow s20 122 tyS_huff_tree l21x0_0), (oBox bx0 127 [s20, (Value.func (.func 61) #[] #[])]), (oBox g1 122 [(int .i64 (0 : Int)), (int .i64 (0 : Int)), (Value.slice none 0 0)]), (oBox g8 122 [(int .i64 u2.weight), (int .i64 u2.least), s6])] [(fDat (tyList (tyInt .i64)) [s6] u2.symbols), (fDat tyS_huff_tree [(int .i64 u9.weight), (int .i64 u9.least), s13] u9), (fDat tyS_huff_tree [(int .i64 u2.weight), (int .i64 u2.least), s6] u2)]) X_ Y_) (S := over (put (put (tab [(0, (ptr bx0 0)), (2, (ptr g1 0)), (3, (ptr g8 0)), (4, (int .i64 (IntKind.i64.wrap ((a0.items.length : Int) - (1 : Int))))), (5, (int .i64 l21i5)), (6, (int .i64 l48i6)), (8, (int .i64 u54)), (49, (ag (cA2i64 (A2i64.mk (IntKind.i64.wrap ((IntKind.i64.wrap ((2 : Int) * l21i5)) + (1 : Int))) (IntKind.i64.wrap ((IntKind.i64.wrap ((2 : Int) * l21i5)) + (2 : Int))))))), (50, (int .i64 l48i50))]) 56 (bool true)) 57 (ptr bx0 0)) F_) ?_
 refine al_val (ov_nilCheck rfl rfl) ?_
 refine al_nil ?_
 exact fr_fin hK_ ()⟩, ⟨_, rfl, [3, 5], rfl, by
 intro _
 intro _
 intro X_ Y_ F_ K_ hK_
 refine al_show (m := Mem.plus (memOf w0 Z0 [(oBox bx0 127 [v0_0, (Value.func (.func 61) #[] #[])]), (oRow v0_0 122 tyS_huff_tree a0.items)] [(oRow s20 122 tyS_huff_tree l21x0_0), (oBox bx0 127 [s20, (Value.func (.func 61) #[] #[])]), (oBox g1 122 [(int .i64 (0 : Int)), (int .i64 (0 : Int)), (Value.slice none 0 0)]), (oBox g8 122 [(int .i64 u2.weight), (int .i64 u2.least), s6])] [(fDat (tyList (tyInt .i64)) [s6] u2.symbols), (fDat tyS_huff_tree [(int .i64 u9.weight), (int .i64 u9.least), s13] u9), (fDat tyS_huff_tree [(int .i64 u2.weight), (int .i64 u2.least), s6] u2)]) X_ Y_) (S := over (put (put (tab [(0, (ptr bx0 0)), (2, (ptr g1 0)), (3, (ptr g8 0)), (4, (int .i64 (IntKind.i64.wrap ((a0.items.length : Int) - (1 : Int))))), (5, (int .i64 l21i5)), (6, (int .i64 l48i6)), (8, (int .i64 u54)), (49, (ag (cA2i64 (A2i64.mk (IntKind.i64.wrap ((IntKind.i64.wrap ((2 : Int) * l21i5)) + (1 : Int))) (IntKind.i64.wrap ((IntKind.i64.wrap ((2 : Int) * l21i5)) + (2 : Int))))))), (50, (int .i64 l48i50))]) 56 (bool true)) 58 (ptr bx0 0)) F_) ?_
 refine al_val (ov_fieldA (p := 1) rfl Try.underlying127 rfl sz124 rfl rfl rfl) ?_
 refine al_nil ?_
 exact fr_fin hK_ ()⟩, ⟨_, rfl, [3, 6], rfl, by
 intro _
 intro _
 intro X_ Y_ F_ K_ hK_
 refine al_show (m := Mem.plus (memOf w0 Z0 [(oBox bx0 127 [v0_0, (Value.func (.func 61) #[] #[])]), (oRow v0_0 122 tyS_huff_tree a0.items)] [(oRow s20 122 tyS_huff_tree l21x0_0), (oBox bx0 127 [s20, (Value.func (.func 61) #[] #[])]), (oBox g1 122 [(int .i64 (0 : Int)), (int .i64 (0 : Int)), (Value.slice none 0 0)]), (oBox g8 122 [(int .i64 u2.weight), (int .i64 u2.least), s6])] [(fDat (tyList (tyInt .i64)) [s6] u2.symbols), (fDat tyS_huff_tree [(int .i64 u9.weight), (int .i64 u9.least), s13] u9), (fDat tyS_huff_tree [(int .i64 u2.weight), (int .i64 u2.least), s6] u2)]) X_ Y_) (S := over (put (put (tab [(0, (ptr bx0 0)), (2, (ptr g1 0)), (3, (ptr g8 0)), (4, (int .i64 (IntKind.i64.wrap ((a0.items.length : Int) - (1 : Int))))), (5, (int .i64 l21i5)), (6, (int .i64 l48i6)), (8, (int .i64 u54)), (49, (ag (cA2i64 (A2i64.mk (IntKind.i64.wrap ((IntKind.i64.wrap ((2 : Int) * l21i5)) + (1 : Int))) (IntKind.i64.wrap ((IntKind.i64.wrap ((2 : Int) * l21i5)) + (2 : Int))))))), (50, (int .i64 l48i50))]) 56 (bool true)) 59 (ptr bx0 1)) F_) ?_
 refine al_val (ov_load (i := 1) (v := (Value.func (.func 61) #[] #[])) rfl rfl Try.underlying124 sz124 rfl rfl rfl rfl) ?_
 refine al_nil ?_
 exact fr_fin hK_ ()⟩, ⟨_, rfl, [3], rfl, by
 intro _
 intro X_ Y_ F_ K_ hK_
 refine al_show (m := Mem.plus (memOf w0 Z0 [(oBox bx0 127 [v0_0, (Value.func (.func 61) #[] #[])]), (oRow v0_0 122 tyS_huff_tree a0.items)] [(oRow s20 122 tyS_huff_tree l21x0_0), (oBox bx0 127 [s20, (Value.func (.func 61) #[] #[])]), (oBox g1 122 [(int .i64 (0 : Int)), (int .i64 (0 : Int)), (Value.slice none 0 0)]), (oBox g8 122 [(int .i64 u2.weight), (int .i64 u2.least), s6])] [(fDat (tyList (tyInt .i64)) [s6] u2.symbols), (fDat tyS_huff_tree [(int .i64 u9.weight), (int .i64 u9.least), s13] u9), (fDat tyS_huff_tree [(int .i64 u2.weight), (int .i64 u2.least), s6] u2)]) X_ Y_) (S := over (put (tab [(0, (ptr bx0 0)), (2, (ptr g1 0)), (3, (ptr g8 0)), (4, (int .i64 (IntKind.i64.wrap ((a0.items.length : Int) - (1 : Int))))), (5, (int .i64 l21i5)), (6, (int .i64 l48i6)), (8, (int .i64 u54)), (49, (ag (cA2i64 (A2i64.mk (IntKind.i64.wrap ((IntKind.i64.wrap ((2 : Int) * l21i5)) + (1 : Int))) (IntKind.i64.wrap ((IntKind.i64.wrap ((2 : Int) * l21i5)) + (2 : Int))))))), (50, (int .i64 l48i50))]) 56 (bool true)) F_) ?_
 refine al_mv rfl rfl ?_
 refine al_nil ?_
 exact fr_fin hK_ ()⟩, ⟨_, rfl, [3, 8], rfl, by
 intro _
 intro _
 intro X_ Y_ F_ K_ hK_
 refine al_show (m := Mem.plus (memOf w0 Z0 [(oBox bx0 127 [v0_0, (Value.func (.func 61) #[] #[])]), (oRow v0_0 122 tyS_huff_tree a0.items)] [(oRow s20 122 tyS_huff_tree l21x0_0), (oBox bx0 127 [s20, (Value.func (.func 61) #[] #[])]), (oBox g1 122 [(int .i64 (0 : Int)), (int .i64 (0 : Int)), (Value.slice none 0 0)]), (oBox g8 122 [(int .i64 u2.weight), (int .i64 u2.least), s6])] [(fDat (tyList (tyInt .i64)) [s6] u2.symbols), (fDat tyS_huff_tree [(int .i64 u9.weight), (int .i64 u9.least), s13] u9), (fDat tyS_huff_tree [(int .i64 u2.weight), (int .i64 u2.least), s6] u2)]) X_ Y_) (S := over (put (put (tab [(0, (ptr bx0 0)), (2, (ptr g1 0)), (3, (ptr g8 0)), (4, (int .i64 (IntKind.i64.wrap ((a0.items.length : Int) - (1 : Int))))), (5, (int .i64 l21i5)), (6, (int .i64 l48i6)), (8, (int .i64 u54)), (49, (ag (cA2i64 (A2i64.mk (IntKind.i64.wrap ((IntKind.i64.wrap ((2 : Int) * l21i5)) + (1 : Int))) (IntKind.i64.wrap ((IntKind.i64.wrap ((2 : Int) * l21i5)) + (2 : Int))))))), (50, (int .i64 l48i50))]) 56 (bool true)) 61 (ptr bx0 0)) F_) ?_
 refine al_val (ov_nilCheck rfl rfl) ?_
 refine al_nil ?_
 exact fr_fin hK_ ()⟩, ⟨_, rfl, [3, 9], rfl, by
 intro _
 intro _
 intro X_ Y_ F_ K_ hK_
 refine al_show (m := Mem.plus (memOf w0 Z0 [(oBox bx0 127 [v0_0, (Value.func (.func 61) #[] #[])]), (oRow v0_0 122 tyS_huff_tree a0.items)] [(oRow s20 122 tyS_huff_tree l21x0_0), (oBox bx0 127 [s20, (Value.func (.func 61) #[] #[])]), (oBox g1 122 [(int .i64 (0 : Int)), (int .i64 (0 : Int)), (Value.slice none 0 0)]), (oBox g8 122 [(int .i64 u2.weight), (int .i64 u2.least), s6])] [(fDat (tyList (tyInt .i64)) [s6] u2.symbols), (fDat tyS_huff_tree [(int .i64 u9.weight), (int .i64 u9.least), s13] u9), (fDat tyS_huff_tree [(int .i64 u2.weight), (int .i64 u2.least), s6] u2)]) X_ Y_) (S := over (put (put (tab [(0, (ptr bx0 0)), (2, (ptr g1 0)), (3, (ptr g8 0)), (4, (int .i64 (IntKind.i64.wrap ((a0.items.length : Int) - (1 : Int))))), (5, (int .i64 l21i5)), (6, (int .i64 l48i6)), (8, (int .i64 u54)), (49, (ag (cA2i64 (A2i64.mk (IntKind.i64.wrap ((IntKind.i64.wrap ((2 : Int) * l21i5)) + (1 : Int))) (IntKind.i64.wrap ((IntKind.i64.wrap ((2 : Int) * l21i5)) + (2 : Int))))))), (50, (int .i64 l48i50))]) 56 (bool true)) 62 (ptr bx0 0)) F_) ?_
 refine al_val (ov_fieldA (p := 0) rfl Try.underlying127 rfl sz125 rfl rfl rfl) ?_
 refine al_nil ?_
 exact fr_fin hK_ ()⟩, ⟨_, rfl, [3, 10], rfl, by
 intro _
 intro _
 intro X_ Y_ F_ K_ hK_
 refine al_show (m := Mem.plus (memOf w0 Z0 [(oBox bx0 127 [v0_0, (Value.func (.func 61) #[] #[])]), (oRow v0_0 122 tyS_huff_tree a0.items)] [(oRow s20 122 tyS_huff_tree l21x0_0), (oBox bx0 127 [s20, (Value.func (.func 61) #[] #[])]), (oBox g1 122 [(int .i64 (0 : Int)), (int .i64 (0 : Int)), (Value.slice none 0 0)]), (oBox g8 122 [(int .i64 u2.weight), (int .i64 u2.least), s6])] [(fDat (tyList (tyInt .i64)) [s6] u2.symbols), (fDat tyS_huff_tree [(int .i64 u9.weight), (int .i64 u9.least), s13] u9), (fDat tyS_huff_tree [(int .i64 u2.weight), (int .i64 u2.least), s6] u2)]) X_ Y_) (S := over (put (put (tab [(0, (ptr bx0 0)), (2, (ptr g1 0)), (3, (ptr g8 0)), (4, (int .i64 (IntKind.i64.wrap ((a0.items.length : Int) - (1 : Int))))), (5, (int .i64 l21i5)), (6, (int .i64 l48i6)), (8, (int .i64 u54)), (49, (ag (cA2i64 (A2i64.mk (IntKind.i64.wrap ((IntKind.i64.wrap ((2 : Int) * l21i5)) + (1 : Int))) (IntKind.i64.wrap ((IntKind.i64.wrap ((2 : Int) * l21i5)) + (2 : Int))))))), (50, (int .i64 l48i50))]) 56 (bool true)) 63 (ptr bx0 0)) F_) ?_
 refine al_val (ov_load (i := 1) (v := s20) rfl rfl Try.underlying125 sz125 rfl rfl rfl rfl) ?_
 refine al_nil ?_
 exact fr_fin hK_ ()⟩, ⟨_, rfl, [3], rfl, by
 intro _
 intro X_ Y_ F_ K_ hK_
 refine al_show (m := Mem.plus (memOf w0 Z0 [(oBox bx0 127 [v0_0, (Value.func (.func 61) #[] #[])]), (oRow v0_0 122 tyS_huff_tree a0.items)] [(oRow s20 122 tyS_huff_tree l21x0_0), (oBox bx0 127 [s20, (Value.func (.func 61) #[] #[])]), (oBox g1 122 [(int .i64 (0 : Int)), (int .i64 (0 : Int)), (Value.slice none 0 0)]), (oBox g8 122 [(int .i64 u2.weight), (int .i64 u2.least), s6])] [(fDat (tyList (tyInt .i64)) [s6] u2.symbols), (fDat tyS_huff_tree [(int .i64 u9.weight), (int .i64 u9.least), s13] u9), (fDat tyS_huff_tree [(int .i64 u2.weight), (int .i64 u2.least), s6] u2)]) X_ Y_) (S := over (put (tab [(0, (ptr bx0 0)), (2, (ptr g1 0)), (3, (ptr g8 0)), (4, (int .i64 (IntKind.i64.wrap ((a0.items.length : Int) - (1 : Int))))), (5, (int .i64 l21i5)), (6, (int .i64 l48i6)), (8, (int .i64 u54)), (49, (ag (cA2i64 (A2i64.mk (IntKind.i64.wrap ((IntKind.i64.wrap ((2 : Int) * l21i5)) + (1 : Int))) (IntKind.i64.wrap ((IntKind.i64.wrap ((2 : Int) * l21i5)) + (2 : Int))))))), (50, (int .i64 l48i50))]) 56 (bool true)) F_) ?_
 refine al_mv rfl rfl ?_
 refine al_nil ?_
 exact fr_fin hK_ ()⟩, ⟨_, rfl, [3, 11, 12], rfl, by
 intro _
 intro _
 intro _
 intro X_ Y_ F_ K_ hK_
 refine al_show (m := Mem.plus (memOf w0 Z0 [(oBox bx0 127 [v0_0, (Value.func (.func 61) #[] #[])]), (oRow v0_0 122 tyS_huff_tree a0.items)] [(oRow s20 122 tyS_huff_tree l21x0_0), (oBox bx0 127 [s20, (Value.func (.func 61) #[] #[])]), (oBox g1 122 [(int .i64 (0 : Int)), (int .i64 (0 : Int)), (Value.slice none 0 0)]), (oBox g8 122 [(int .i64 u2.weight), (int .i64 u2.least), s6])] [(fDat (tyList (tyInt .i64)) [s6] u2.symbols), (fDat tyS_huff_tree [(int .i64 u9.weight), (int .i64 u9.least), s13] u9), (fDat tyS_huff_tree [(int .i64 u2.weight), (int .i64 u2.least), s6] u2)]) X_ Y_) (S := over (put (put (put (tab [(0, (ptr bx0 0)), (2, (ptr g1 0)), (3, (ptr g8 0)), (4, (int .i64 (IntKind.i64.wrap ((a0.items.length : Int) - (1 : Int))))), (5, (int .i64 l21i5)), (6, (int .i64 l48i6)), (8, (int .i64 u54)), (49, (ag (cA2i64 (A2i64.mk (IntKind.i64.wrap ((IntKind.i64.wrap ((2 : Int) * l21i5)) + (1 : Int))) (IntKind.i64.wrap ((IntKind.i64.wrap ((2 : Int) * l21i5)) + (2 : Int))))))), (50, (int .i64 l48i50))]) 56 (bool true)) 64 s20) 65 (int .i64 u54)) F_) ?_
 refine al_idxR 0 (at_some hu61).1 (at_some hu61).2.1 rfl rfl rfl Try.underlying125 sz122 rfl (fun p62 hp63 => ?_)
 refine al_nil ?_
 exact fr_fin hK_ ⟨p62, hp63⟩⟩, ⟨_, rfl, [3, 13], rfl, by
 intro _
 rintro ⟨p62, hp63⟩
 intro X_ Y_ F_ K_ hK_
 refine al_show (m := Mem.plus (memOf w0 Z0 [(oBox bx0 127 [v0_0, (Value.func (.func 61) #[] #[])]), (oRow v0_0 122 tyS_huff_tree a0.items)] [(oRow s20 122 tyS_huff_tree l21x0_0), (oBox bx0 127 [s20, (Value.func (.func 61) #[] #[])]), (oBox g1 122 [(int .i64 (0 : Int)), (int .i64 (0 : Int)), (Value.slice none 0 0)]), (oBox g8 122 [(int .i64 u2.weight), (int .i64 u2.least), s6])] [(fDat (tyList (tyInt .i64)) [s6] u2.symbols), (fDat tyS_huff_tree [(int .i64 u9.weight), (int .i64 u9.least), s13] u9), (fDat tyS_huff_tree [(int .i64 u2.weight), (int .i64 u2.least), s6] u2)]) X_ Y_) (S := over (put (put (tab [(0, (ptr bx0 0)), (2, (ptr g1 0)), (3, (ptr g8 0)), (4, (int .i64 (IntKind.i64.wrap ((a0.items.length : Int) - (1 : Int))))), (5, (int .i64 l21i5)), (6, (int .i64 l48i6)), (8, (int .i64 u54)), (49, (ag (cA2i64 (A2i64.mk (IntKind.i64.wrap ((IntKind.i64.wrap ((2 : Int) * l21i5)) + (1 : Int))) (IntKind.i64.wrap ((IntKind.i64.wrap ((2 : Int) * l21i5)) + (2 : Int))))))), (50, (int .i64 l48i50))]) 56 (bool true)) 66 p62) F_) ?_
 refine al_loadRA 0 rfl hp63 (at_some hu61).2.2 rfl Try.underlying122 sz122 rfl rfl (fun cs65 => ?_)
 refine al_use (ι := Value) 0 rfl (fun j => cs65 = [(int .i64 u60.weight), (int .i64 u60.least), j]) (fun j => [(fDat (tyList (tyInt .i64)) [j] u60.symbols)]) encnS_huff_tree (fun s64 hq => ?_)
 subst hq
 refine al_nil ?_
 exact fr_fin hK_ s64⟩, ⟨_, rfl, [3], rfl, by
 intro _
 intro X_ Y_ F_ K_ hK_
 refine al_show (m := Mem.plus (memOf w0 Z0 [(oBox bx0 127 [v0_0, (Value.func (.func 61) #[] #[])]), (oRow v0_0 122 tyS_huff_tree a0.items)] [(oRow s20 122 tyS_huff_tree l21x0_0), (oBox bx0 127 [s20, (Value.func (.func 61) #[] #[])]), (oBox g1 122 [(int .i64 (0 : Int)), (int .i64 (0 : Int)), (Value.slice none 0 0)]), (oBox g8 122 [(int .i64 u2.weight), (int .i64 u2.least), s6])] [(fDat (tyList (tyInt .i64)) [s6] u2.symbols), (fDat tyS_huff_tree [(int .i64 u9.weight), (int .i64 u9.least), s13] u9), (fDat tyS_huff_tree [(int .i64 u2.weight), (int .i64 u2.least), s6] u2)]) X_ Y_) (S := over (put (tab [(0, (ptr bx0 0)), (2, (ptr g1 0)), (3, (ptr g8 0)), (4, (int .i64 (IntKind.i64.wrap ((a0.items.length : Int) - (1 : Int))))), (5, (int .i64 l21i5)), (6, (int .i64 l48i6)), (8, (int .i64 u54)), (49, (ag (cA2i64 (A2i64.mk (IntKind.i64.wrap ((IntKind.i64.wrap ((2 : Int) * l21i5)) + (1 : Int))) (IntKind.i64.wrap ((IntKind.i64.wrap ((2 : Int) * l21i5)) + (2 : Int))))))), (50, (int .i64 l48i50))]) 56 (bool true)) F_) ?_
 refine al_mv rfl rfl ?_
 refine al_nil ?_
 exact fr_fin hK_ ()⟩, ⟨_, rfl, [3, 15], rfl, by
 intro _
 intro _
 intro X_ Y_ F_ K_ hK_
 refine al_show (m := Mem.plus (memOf w0 Z0 [(oBox bx0 127 [v0_0, (Value.func (.func 61) #[] #[])]), (oRow v0_0 122 tyS_huff_tree a0.items)] [(oRow s20 122 tyS_huff_tree l21x0_0), (oBox bx0 127 [s20, (Value.func (.func 61) #[] #[])]), (oBox g1 122 [(int .i64 (0 : Int)), (int .i64 (0 : Int)), (Value.slice none 0 0)]), (oBox g8 122 [(int .i64 u2.weight), (int .i64 u2.least), s6])] [(fDat (tyList (tyInt .i64)) [s6] u2.symbols), (fDat tyS_huff_tree [(int .i64 u9.weight), (int .i64 u9.least), s13] u9), (fDat tyS_huff_tree [(int .i64 u2.weight), (int .i64 u2.least), s6] u2)]) X_ Y_) (S := over (put (put (tab [(0, (ptr bx0 0)), (2, (ptr g1 0)), (3, (ptr g8 0)), (4, (int .i64 (IntKind.i64.wrap ((a0.items.length : Int) - (1 : Int))))), (5, (int .i64 l21i5)), (6, (int .i64 l48i6)), (8, (int .i64 u54)), (49, (ag (cA2i64 (A2i64.mk (IntKind.i64.wrap ((IntKind.i64.wrap ((2 : Int) * l21i5)) + (1 : Int))) (IntKind.i64.wrap ((IntKind.i64.wrap ((2 : Int) * l21i5)) + (2 : Int))))))), (50, (int .i64 l48i50))]) 56 (bool true)) 68 (ptr bx0 0)) F_) ?_
 refine al_val (ov_nilCheck rfl rfl) ?_
 refine al_nil ?_
 exact fr_fin hK_ ()⟩, ⟨_, rfl, [3, 16], rfl, by
 intro _
 intro _
 intro X_ Y_ F_ K_ hK_
 refine al_show (m := Mem.plus (memOf w0 Z0 [(oBox bx0 127 [v0_0, (Value.func (.func 61) #[] #[])]), (oRow v0_0 122 tyS_huff_tree a0.items)] [(oRow s20 122 tyS_huff_tree l21x0_0), (oBox bx0 127 [s20, (Value.func (.func 61) #[] #[])]), (oBox g1 122 [(int .i64 (0 : Int)), (int .i64 (0 : Int)), (Value.slice none 0 0)]), (oBox g8 122 [(int .i64 u2.weight), (int .i64 u2.least), s6])] [(fDat (tyList (tyInt .i64)) [s6] u2.symbols), (fDat tyS_huff_tree [(int .i64 u9.weight), (int .i64 u9.least), s13] u9), (fDat tyS_huff_tree [(int .i64 u2.weight), (int .i64 u2.least), s6] u2)]) X_ Y_) (S := over (put (put (tab [(0, (ptr bx0 0)), (2, (ptr g1 0)), (3, (ptr g8 0)), (4, (int .i64 (IntKind.i64.wrap ((a0.items.length : Int) - (1 : Int))))), (5, (int .i64 l21i5)), (6, (int .i64 l48i6)), (8, (int .i64 u54)), (49, (ag (cA2i64 (A2i64.mk (IntKind.i64.wrap ((IntKind.i64.wrap ((2 : Int) * l21i5)) + (1 : Int))) (IntKind.i64.wrap ((IntKind.i64.wrap ((2 : Int) * l21i5)) + (2 : Int))))))), (50, (int .i64 l48i50))]) 56 (bool true)) 69 (ptr bx0 0)) F_) ?_
 refine al_val (ov_fieldA (p := 0) rfl Try.underlying127 rfl sz125 rfl rfl rfl) ?_
 refine al_nil ?_
 exact fr_fin hK_ ()⟩, ⟨_, rfl, [3, 17], rfl, by
 intro _
 intro _
 intro X_ Y_ F_ K_ hK_
 refine al_show (m := Mem.plus (memOf w0 Z0 [(oBox bx0 127 [v0_0, (Value.func (.func 61) #[] #[])]), (oRow v0_0 122 tyS_huff_tree a0.items)] [(oRow s20 122 tyS_huff_tree l21x0_0), (oBox bx0 127 [s20, (Value.func (.func 61) #[] #[])]), (oBox g1 122 [(int .i64 (0 : Int)), (int .i64 (0 : Int)), (Value.slice none 0 0)]), (oBox g8 122 [(int .i64 u2.weight), (int .i64 u2.least), s6])] [(fDat (tyList (tyInt .i64)) [s6] u2.symbols), (fDat tyS_huff_tree [(int .i64 u9.weight), (int .i64 u9.least), s13] u9), (fDat tyS_huff_tree [(int .i64 u2.weight), (int .i64 u2.least), s6] u2)]) X_ Y_) (S := over (put (put (tab [(0, (ptr bx0 0)), (2, (ptr g1 0)), (3, (ptr g8 0)), (4, (int .i64 (IntKind.i64.wrap ((a0.items.length : Int) - (1 : Int))))), (5, (int .i64 l21i5)), (6, (int .i64 l48i6)), (8, (int .i64 u54)), (49, (ag (cA2i64 (A2i64.mk (IntKind.i64.wrap ((IntKind.i64.wrap ((2 : Int) * l21i5)) + (1 : Int))) (IntKind.i64.wrap ((IntKind.i64.wrap ((2 : Int) * l21i5)) + (2 : Int))))))), (50, (int .i64 l48i50))]) 56 (bool true)) 70 (ptr bx0 0)) F_) ?_
 refine al_val (ov_load (i := 1) (v := s20) rfl rfl Try.underlying125 sz125 rfl rfl rfl rfl) ?_
 refine al_nil ?_
 exact fr_fin hK_ ()⟩, ⟨_, rfl, [3], rfl, by
 intro _
 intro X_ Y_ F_ K_ hK_
 refine al_show (m := Mem.plus (memOf w0 Z0 [(oBox bx0 127 [v0_0, (Value.func (.func 61) #[] #[])]), (oRow v0_0 122 tyS_huff_tree a0.items)] [(oRow s20 122 tyS_huff_tree l21x0_0), (oBox bx0 127 [s20, (Value.func (.func 61) #[] #[])]), (oBox g1 122 [(int .i64 (0 : Int)), (int .i64 (0 : Int)), (Value.slice none 0 0)]), (oBox g8 122 [(int .i64 u2.weight), (int .i64 u2.least), s6])] [(fDat (tyList (tyInt .i64)) [s6] u2.symbols), (fDat tyS_huff_tree [(int .i64 u9.weight), (int .i64 u9.least), s13] u9), (fDat tyS_huff_tree [(int .i64 u2.weight), (int .i64 u2.least), s6] u2)]) X_ Y_) (S := over (put (tab [(0, (ptr bx0 0)), (2, (ptr g1 0)), (3, (ptr g8 0)), (4, (int .i64 (IntKind.i64.wrap ((a0.items.length : Int) - (1 : Int))))), (5, (int .i64 l21i5)), (6, (int .i64 l48i6)), (8, (int .i64 u54)), (49, (ag (cA2i64 (A2i64.mk (IntKind.i64.wrap ((IntKind.i64.wrap ((2 : Int) * l21i5)) + (1 : Int))) (IntKind.i64.wrap ((IntKind.i64.wrap ((2 : Int) * l21i5)) + (2 : Int))))))), (50, (int .i64 l48i50))]) 56 (bool true)) F_) ?_
 refine al_mv rfl rfl ?_
 refine al_nil ?_
 exact fr_fin hK_ ()⟩, ⟨_, rfl, [3, 18, 19], rfl, by
 intro _
 intro _
 intro _
 intro X_ Y_ F_ K_ hK_
 refine al_show (m := Mem.plus (memOf w0 Z0 [(oBox bx0 127 [v0_0, (Value.func (.func 61) #[] #[])]), (oRow v0_0 122 tyS_huff_tree a0.items)] [(oRow s20 122 tyS_huff_tree l21x0_0), (oBox bx0 127 [s20, (Value.func (.func 61) #[] #[])]), (oBox g1 122 [(int .i64 (0 : Int)), (int .i64 (0 : Int)), (Value.slice none 0 0)]), (oBox g8 122 [(int .i64 u2.weight), (int .i64 u2.least), s6])] [(fDat (tyList (tyInt .i64)) [s6] u2.symbols), (fDat tyS_huff_tree [(int .i64 u9.weight), (int .i64 u9.least), s13] u9), (fDat tyS_huff_tree [(int .i64 u2.weight), (int .i64 u2.least), s6] u2)]) X_ Y_) (S := over (put (put (put (tab [(0, (ptr bx0 0)), (2, (ptr g1 0)), (3, (ptr g8 0)), (4, (int .i64 (IntKind.i64.wrap ((a0.items.length : Int) - (1 : Int))))), (5, (int .i64 l21i5)), (6, (int .i64 l48i6)), (8, (int .i64 u54)), (49, (ag (cA2i64 (A2i64.mk (IntKind.i64.wrap ((IntKind.i64.wrap ((2 : Int) * l21i5)) + (1 : Int))) (IntKind.i64.wrap ((IntKind.i64.wrap ((2 : Int) * l21i5)) + (2 : Int))))))), (50, (int .i64 l48i50))]) 56 (bool true)) 71 s20) 72 (int .i64 l48i6)) F_) ?_
 refine al_idxR 0 (at_some hu67).1 (at_some hu67).2.1 rfl rfl rfl Try.underlying125 sz122 rfl (fun p68 hp69 => ?_)
 refine al_nil ?_
 exact fr_fin hK_ ⟨p68, hp69⟩⟩, ⟨_, rfl, [3, 20], rfl, by
 intro _
 rintro ⟨p68, hp69⟩
 intro X_ Y_ F_ K_ hK_
 refine al_show (m := Mem.plus (memOf w0 Z0 [(oBox bx0 127 [v0_0, (Value.func (.func 61) #[] #[])]), (oRow v0_0 122 tyS_huff_tree a0.items)] [(oRow s20 122 tyS_huff_tree l21x0_0), (oBox bx0 127 [s20, (Value.func (.func 61) #[] #[])]), (oBox g1 122 [(int .i64 (0 : Int)), (int .i64 (0 : Int)), (Value.slice none 0 0)]), (oBox g8 122 [(int .i64 u2.weight), (int .i64 u2.least), s6])] [(fDat (tyList (tyInt .i64)) [s6] u2.symbols), (fDat tyS_huff_tree [(int .i64 u9.weight), (int .i64 u9.least), s13] u9), (fDat tyS_huff_tree [(int .i64 u2.weight), (int .i64 u2.least), s6] u2)]) X_ Y_) (S := over (put (put (tab [(0, (ptr bx0 0)), (2, (ptr g1 0)), (3, (ptr g8 0)), (4, (int .i64 (IntKind.i64.wrap ((a0.items.length : Int) - (1 : Int))))), (5, (int .i64 l21i5)), (6, (int .i64 l48i6)), (8, (int .i64 u54)), (49, (ag (cA2i64 (A2i64.mk (IntKind.i64.wrap ((IntKind.i64.wrap ((2 : Int) * l21i5)) + (1 : Int))) (IntKind.i64.wrap ((IntKind.i64.wrap ((2 : Int) * l21i5)) + (2 : Int))))))), (50, (int .i64 l48i50))]) 56 (bool true)) 73 p68) F_) ?_
 refine al_loadRA 0 rfl hp69 (at_some hu67).2.2 rfl Try.underlying122 sz122 rfl rfl (fun cs71 => ?_)
 refine al_use (ι := Value) 0 rfl (fun j => cs71 = [(int .i64 u66.weight), (int .i64 u66.least), j]) (fun j => [(fDat (tyList (tyInt .i64)) [j] u66.symbols)]) encnS_huff_tree (fun s70 hq => ?_)
 subst hq
 refine al_nil ?_
 exact fr_fin hK_ s70⟩, trivial⟩ ?_
      intro _
      intro _
      intro _
      intro _
      intro _
      intro _
      intro _
      intro _
      intro _
      intro _
      intro _
      intro _
      intro _
      rintro ⟨p62, hp63⟩
      intro s64
      intro _
      intro _
      intro _
      intro _
      intro _
      rintro ⟨p68, hp69⟩
      intro s70
      intro X_ Y_ F_ K_ hK_
      refine al_show (m := Mem.plus (memOf w0 Z0 [(oBox bx0 127 [v0_0, (Value.func (.func 61) #[] #[])]), (oRow v0_0 122 tyS_huff_tree a0.items)] [(oRow s20 122 tyS_huff_tree l21x0_0), (oBox bx0 127 [s20, (Value.func (.func 61) #[] #[])]), (oBox g1 122 [(int .i64 (0 : Int)), (int .i64 (0 : Int)), (Value.slice none 0 0)]), (oBox g8 122 [(int .i64 u2.weight), (int .i64 u2.least), s6])] [(fDat (tyList (tyInt .i64)) [s70] u66.symbols), (fDat tyS_huff_tree [(int .i64 u66.weight), (int .i64 u66.least), s70] u66), (fDat (tyList (tyInt .i64)) [s64] u60.symbols), (fDat tyS_huff_tree [(int .i64 u60.weight), (int .i64 u60.least), s64] u60), (fDat (tyList (tyInt .i64)) [s6] u2.symbols), (fDat tyS_huff_tree [(int .i64 u9.weight), (int .i64 u9.least), s13] u9), (fDat tyS_huff_tree [(int .i64 u2.weight), (int .i64 u2.least), s6] u2)]) X_ Y_) (S := over (put (put (put (put (put (put (put (put (put (put (put (put (put (put (put (put (put (put (put (put (put (put (tab [(0, (ptr bx0 0)), (2, (ptr g1 0)), (3, (ptr g8 0)), (4, (int .i64 (IntKind.i64.wrap ((a0.items.length : Int) - (1 : Int))))), (5, (int .i64 l21i5)), (6, (int .i64 l48i6)), (8, (int .i64 u54)), (49, (ag (cA2i64 (A2i64.mk (IntKind.i64.wrap ((IntKind.i64.wrap ((2 : Int) * l21i5)) + (1 : Int))) (IntKind.i64.wrap ((IntKind.i64.wrap ((2 : Int) * l21i5)) + (2 : Int))))))), (50, (int .i64 l48i50))]) 53 (int .i64 u54)) 54 (int .i64 (IntKind.i64.wrap ((a0.items.length : Int) - (1 : Int))))) 55 (bool (decide (u54 < (IntKind.i64.wrap ((a0.items.length : Int) - (1 : Int))))))) 56 (bool true)) 57 (ptr bx0 0)) 58 (ptr bx0 0)) 59 (ptr bx0 1)) 60 (Value.func (.func 61) #[] #[])) 61 (ptr bx0 0)) 62 (ptr bx0 0)) 63 (ptr bx0 0)) 64 s20) 65 (int .i64 u54)) 66 p62) 67 (ag [(int .i64 u60.weight), (int .i64 u60.least), s64])) 68 (ptr bx0 0)) 69 (ptr bx0 0)) 70 (ptr bx0 0)) 71 s20) 72 (int .i64 l48i6)) 73 p68) 74 (ag [(int .i64 u66.weight), (int .i64 u66.least), s70])) F_) ?_
      obtain ⟨r73, hc72, h⟩ := opt_some h
      refine al_callFX (vs := [(ag [(int .i64 u60.weight), (int .i64 u60.least), s64]), (ag [(int .i64 u66.weight), (int .i64 u66.least), s70])]) (caps := []) (f_huff_Lengths_2_ok fu s64 u60 s70 u66 hc72) rfl [] [] [0, 1, 2, 3] (pre_fz 2 rfl (pre_fz 0 rfl pre_nil)) rfl (by simp) (by decide) rfl (.inl rfl) rfl rfl Try.func61 rfl rfl rfl (fun _ => ?_)
      refine al_nil ?_
      refine aq_show (m := Mem.plus (memOf w0 Z0 [(oBox bx0 127 [v0_0, (Value.func (.func 61) #[] #[])]), (oRow v0_0 122 tyS_huff_tree a0.items)] [(oRow s20 122 tyS_huff_tree l21x0_0), (oBox bx0 127 [s20, (Value.func (.func 61) #[] #[])]), (oBox g1 122 [(int .i64 (0 : Int)), (int .i64 (0 : Int)), (Value.slice none 0 0)]), (oBox g8 122 [(int .i64 u2.weight), (int .i64 u2.least), s6])] [(fDat (tyList (tyInt .i64)) [s70] u66.symbols), (fDat tyS_huff_tree [(int .i64 u66.weight), (int .i64 u66.least), s70] u66), (fDat (tyList (tyInt .i64)) [s64] u60.symbols), (fDat tyS_huff_tree [(int .i64 u60.weight), (int .i64 u60.least), s64] u60), (fDat (tyList (tyInt .i64)) [s6] u2.symbols), (fDat tyS_huff_tree [(int .i64 u9.weight), (int .i64 u9.least), s13] u9), (fDat tyS_huff_tree [(int .i64 u2.weight), (int .i64 u2.least), s6] u2)]) X_ Y_) ?_
      refine aq_next hK_ [0, 1, 2, 3] [1, 3, 4, 5, 6] [(0, (ptr bx0 0)), (2, (ptr g1 0)), (3, (ptr g8 0)), (4, (int .i64 (IntKind.i64.wrap ((a0.items.length : Int) - (1 : Int))))), (5, (int .i64 l21i5)), (6, (int .i64 l48i6)), (8, (int .i64 u54)), (49, (ag (cA2i64 (A2i64.mk (IntKind.i64.wrap ((IntKind.i64.wrap ((2 : Int) * l21i5)) + (1 : Int))) (IntKind.i64.wrap ((IntKind.i64.wrap ((2 : Int) * l21i5)) + (2 : Int))))))), (50, (int .i64 l48i50)), (56, (bool true)), (75, (int .i64 r73))] [] [⟨23, 76, Unit, fun _ => { val := (bool (decide (r73 < (0 : Int)))) }⟩, ⟨24, 77, Unit, fun _ => { val := (bool (decide (r73 < (0 : Int)))) }⟩] rfl rfl (by decide) rfl ⟨rfl, rfl, rfl, rfl, rfl, rfl, rfl, rfl, rfl, rfl, rfl, trivial⟩ trivial ?_
      clear hK_ K_ F_ X_ Y_
      refine ta_show (m := (memOf w0 Z0 [(oBox bx0 127 [v0_0, (Value.func (.func 61) #[] #[])]), (oRow v0_0 122 tyS_huff_tree a0.items)] [(oRow s20 122 tyS_huff_tree l21x0_0), (oBox bx0 127 [s20, (Value.func (.func 61) #[] #[])]), (oBox g1 122 [(int .i64 (0 : Int)), (int .i64 (0 : Int)), (Value.slice none 0 0)]), (oBox g8 122 [(int .i64 u2.weight), (int .i64 u2.least), s6])] [(fDat tyS_huff_tree [(int .i64 u66.weight), (int .i64 u66.least), s70] u66), (fDat tyS_huff_tree [(int .i64 u60.weight), (int .i64 u60.least), s64] u60), (fDat (tyList (tyInt .i64)) [s6] u2.symbols), (fDat tyS_huff_tree [(int .i64 u9.weight), (int .i64 u9.least), s13] u9), (fDat tyS_huff_tree [(int .i64 u2.weight), (int .i64 u2.least), s6] u2)])) (S := (tab [(0, (ptr bx0 0)), (2, (ptr g1 0)), (3, (ptr g8 0)), (4, (int .i64 (IntKind.i64.wrap ((a0.items.length : Int) - (1 : Int))))), (5, (int .i64 l21i5)), (6, (int .i64 l48i6)), (8, (int .i64 u54)), (49, (ag (cA2i64 (A2i64.mk (IntKind.i64.wrap ((IntKind.i64.wrap ((2 : Int) * l21i5)) + (1 : Int))) (IntKind.i64.wrap ((IntKind.i64.wrap ((2 : Int) * l21i5)) + (2 : Int))))))), (50, (int .i64 l48i50)), (56, (bool true)), (75, (int .i64 r73))])) ?_
      refine ta_end [23, 24] [76, 77] rfl rfl (by kernel_rfl) rfl ⟨⟨_, rfl, [], rfl, by
 intro X_ Y_ F_ K_ hK_
 refine al_show (m := Mem.plus (memOf w0 Z0 [(oBox bx0 127 [v0_0, (Value.func (.func 61) #[] #[])]), (oRow v0_0 122 tyS_huff_tree a0.items)] [(oRow s20 122 tyS_huff_tree l21x0_0), (oBox bx0 127 [s20, (Value.func (.func 61) #[] #[])]), (oBox g1 122 [(int .i64 (0 : Int)), (int .i64 (0 : Int)), (Value.slice none 0 0)]), (oBox g8 122 [(int .i64 u2.weight), (int .i64 u2.least), s6])] [(fDat tyS_huff_tree [(int .i64 u66.weight), (int .i64 u66.least), s70] u66), (fDat tyS_huff_tree [(int .i64 u60.weight), (int .i64 u60.least), s64] u60), (fDat (tyList (tyInt .i64)) [s6] u2.symbols), (fDat tyS_huff_tree [(int .i64 u9.weight), (int .i64 u9.least), s13] u9), (fDat tyS_huff_tree [(int .i64 u2.weight), (int .i64 u2.least), s6] u2)]) X_ Y_) (S := over (tab [(0, (ptr bx0 0)), (2, (ptr g1 0)), (3, (ptr g8 0)), (4, (int .i64 (IntKind.i64.wrap ((a0.items.length : Int) - (1 : Int))))), (5, (int .i64 l21i5)), (6, (int .i64 l48i6)), (8, (int .i64 u54)), (49, (ag (cA2i64 (A2i64.mk (IntKind.i64.wrap ((IntKind.i64.wrap ((2 : Int) * l21i5)) + (1 : Int))) (IntKind.i64.wrap ((IntKind.i64.wrap ((2 : Int) * l21i5)) + (2 : Int))))))), (50, (int .i64 l48i50)), (56, (bool true)), (75, (int .i64 r73))]) F_) ?_
 refine al_in rfl rfl rfl rfl ?_
 refine al_nil ?_
 exact fr_fin hK_ ()⟩, ⟨_, rfl, [0], rfl, by
 intro _
 intro X_ Y_ F_ K_ hK_
 refine al_show (m := Mem.plus (memOf w0 Z0 [(oBox bx0 127 [v0_0, (Value.func (.func 61) #[] #[])]), (oRow v0_0 122 tyS_huff_tree a0.items)] [(oRow s20 122 tyS_huff_tree l21x0_0), (oBox bx0 127 [s20, (Value.func (.func 61) #[] #[])]), (oBox g1 122 [(int .i64 (0 : Int)), (int .i64 (0 : Int)), (Value.slice none 0 0)]), (oBox g8 122 [(int .i64 u2.weight), (int .i64 u2.least), s6])] [(fDat tyS_huff_tree [(int .i64 u66.weight), (int .i64 u66.least), s70] u66), (fDat tyS_huff_tree [(int .i64 u60.weight), (int .i64 u60.least), s64] u60), (fDat (tyList (tyInt .i64)) [s6] u2.symbols), (fDat tyS_huff_tree [(int .i64 u9.weight), (int .i64 u9.least), s13] u9), (fDat tyS_huff_tree [(int .i64 u2.weight), (int .i64 u2.least), s6] u2)]) X_ Y_) (S := over (put (tab [(0, (ptr bx0 0)), (2, (ptr g1 0)), (3, (ptr g8 0)), (4, (int .i64 (IntKind.i64.wrap ((a0.items.length : Int) - (1 : Int))))), (5, (int .i64 l21i5)), (6, (int .i64 l48i6)), (8, (int .i64 u54)), (49, (ag (cA2i64 (A2i64.mk (IntKind.i64.wrap ((IntKind.i64.wrap ((2 : Int) * l21i5)) + (1 : Int))) (IntKind.i64.wrap ((IntKind.i64.wrap ((2 : Int) * l21i5)) + (2 : Int))))))), (50, (int .i64 l48i50)), (56, (bool true)), (75, (int .i64 r73))]) 76 (bool (decide (r73 < (0 : Int))))) F_) ?_
 refine al_val (ov_pick_t rfl rfl rfl) ?_
 refine al_nil ?_
 exact fr_fin hK_ ()⟩, trivial⟩ ?_
      intro _
      intro _
      refine aq_show (m := (memOf w0 Z0 [(oBox bx0 127 [v0_0, (Value.func (.func 61) #[] #[])]), (oRow v0_0 122 tyS_huff_tree a0.items)] [(oRow s20 122 tyS_huff_tree l21x0_0), (oBox bx0 127 [s20, (Value.func (.func 61) #[] #[])]), (oBox g1 122 [(int .i64 (0 : Int)), (int .i64 (0 : Int)), (Value.slice none 0 0)]), (oBox g8 122 [(int .i64 u2.weight), (int .i64 u2.least), s6])] [(fDat tyS_huff_tree [(int .i64 u66.weight), (int .i64 u66.least), s70] u66), (fDat tyS_huff_tree [(int .i64 u60.weight), (int .i64 u60.least), s64] u60), (fDat (tyList (tyInt .i64)) [s6] u2.symbols), (fDat tyS_huff_tree [(int .i64 u9.weight), (int .i64 u9.least), s13] u9), (fDat tyS_huff_tree [(int .i64 u2.weight), (int .i64 u2.least), s6] u2)])) (S := (put (put (tab [(0, (ptr bx0 0)), (2, (ptr g1 0)), (3, (ptr g8 0)), (4, (int .i64 (IntKind.i64.wrap ((a0.items.length : Int) - (1 : Int))))), (5, (int .i64 l21i5)), (6, (int .i64 l48i6)), (8, (int .i64 u54)), (49, (ag (cA2i64 (A2i64.mk (IntKind.i64.wrap ((IntKind.i64.wrap ((2 : Int) * l21i5)) + (1 : Int))) (IntKind.i64.wrap ((IntKind.i64.wrap ((2 : Int) * l21i5)) + (2 : Int))))))), (50, (int .i64 l48i50)), (56, (bool true)), (75, (int .i64 r73))]) 76 (bool (decide (r73 < (0 : Int))))) 77 (bool (decide (r73 < (0 : Int)))))) ?_
      exact aq_join (decide (r73 < (0 : Int))) h (fun w a hm hs => norm hm hs [0, 1, 2, 3] [2, 3, 4] [(0, (ptr bx0 0)), (2, (ptr g1 0)), (3, (ptr g8 0)), (4, (int .i64 (IntKind.i64.wrap ((a0.items.length : Int) - (1 : Int))))), (5, (int .i64 l21i5)), (6, (int .i64 l48i6)), (8, (int .i64 u54)), (49, (ag (cA2i64 (A2i64.mk (IntKind.i64.wrap ((IntKind.i64.wrap ((2 : Int) * l21i5)) + (1 : Int))) (IntKind.i64.wrap ((IntKind.i64.wrap ((2 : Int) * l21i5)) + (2 : Int))))))), (50, (int .i64 l48i50)), (77, (bool (decide (r73 < (0 : Int)))))] (by decide) ⟨rfl, rfl, rfl, rfl, rfl, rfl, rfl, rfl, rfl, rfl, trivial⟩)
     ·replace h := bif_f hb59 h
      refine aw_region_open [⟨0, 53, Unit, fun _ => { val := (int .i64 u54) }⟩, ⟨1, 54, Unit, fun _ => { val := (int .i64 (IntKind.i64.wrap ((a0.items.length : Int) - (1 : Int)))) }⟩, ⟨2, 55, Unit, fun _ => { val := (bool (decide (u54 < (IntKind.i64.wrap ((a0.items.length : Int) - (1 : Int)))))) }⟩, ⟨3, 56, Unit, fun _ => { val := (bool false) }⟩, ⟨4, 57, Unit, fun _ => { val := undef }⟩, ⟨5, 58, Unit, fun _ => { val := undef }⟩, ⟨6, 59, Unit, fun _ => { val := undef }⟩, ⟨7, 60, Unit, fun _ => { val := undef }⟩, ⟨8, 61, Unit, fun _ => { val := undef }⟩, ⟨9, 62, Unit, fun _ => { val := undef }⟩, ⟨10, 63, Unit, fun _ => { val := undef }⟩, ⟨11, 64, Unit, fun _ => { val := undef }⟩, ⟨12, 65, Unit, fun _ => { val := undef }⟩, ⟨13, 66, Unit, fun _ => { val := undef }⟩, ⟨14, 67, Unit, fun _ => { val := undef }⟩, ⟨15, 68, Unit, fun _ => { val := undef }⟩, ⟨16, 69, Unit, fun _ => { val := undef }⟩, ⟨17, 70, Unit, fun _ => { val := undef }⟩, ⟨18, 71, Unit, fun _ => { val := undef }⟩, ⟨19, 72, Unit, fun _ => { val := undef }⟩, ⟨20, 73, Unit, fun _ => { val := undef }⟩, ⟨21, 74, Unit, fun _ => { val := undef }⟩] (tab [(0, (ptr bx0 0)), (2, (ptr g1 0)), (3, (ptr g8 0)), (4, (int .i64 (IntKind.i64.wrap ((a0.items.length : Int) - (1 : Int))))), (5, (int .i64 l21i5)), (6, (int .i64 l48i6)), (8, (int .i64 u54)), (49, (ag (cA2i64 (A2i64.mk (IntKind.i64.wrap ((IntKind.i64.wrap ((2 : Int) * l21i5)) + (1 : Int))) (IntKind.i64.wrap ((IntKind.i64.wrap ((2 : Int) * l21i5)) + (2 : Int))))))), (50, (int .i64 l48i50))]) mixed (fun a hs => hs.tab _ (allT_mem ⟨rfl, rfl, rfl, rfl, rfl, rfl, rfl, rfl, rfl, trivial⟩)) ?_
      refine ta_show (m := (memOf w0 Z0 [(oBox bx0 127 [v0_0, (Value.func (.func 61) #[] #[])]), (oRow v0_0 122 tyS_huff_tree a0.items)] [(oRow s20 122 tyS_huff_tree l21x0_0), (oBox bx0 127 [s20, (Value.func (.func 61) #[] #[])]), (oBox g1 122 [(int .i64 (0 : Int)), (int .i64 (0 : Int)), (Value.slice none 0 0)]), (oBox g8 122 [(int .i64 u2.weight), (int .i64 u2.least), s6])] [(fDat (tyList (tyInt .i64)) [s6] u2.symbols), (fDat tyS_huff_tree [(int .i64 u9.weight), (int .i64 u9.least), s13] u9), (fDat tyS_huff_tree [(int .i64 u2.weight), (int .i64 u2.least), s6] u2)])) (S := (tab [(0, (ptr bx0 0)), (2, (ptr g1 0)), (3, (ptr g8 0)), (4, (int .i64 (IntKind.i64.wrap ((a0.items.length : Int) - (1 : Int))))), (5, (int .i64 l21i5)), (6, (int .i64 l48i6)), (8, (int .i64 u54)), (49, (ag (cA2i64 (A2i64.mk (IntKind.i64.wrap ((IntKind.i64.wrap ((2 : Int) * l21i5)) + (1 : Int))) (IntKind.i64.wrap ((IntKind.i64.wrap ((2 : Int) * l21i5)) + (2 : Int))))))), (50, (int .i64 l48i50))])) ?_
      refine ta_step 22 _ [0, 1, 2, 3, 4, 5, 6, 7, 8, 9, 10, 11, 12, 13, 14, 15, 16, 17, 18, 19, 20, 21] [53, 54, 55, 56, 57, 58, 59, 60, 61, 62, 63, 64, 65, 66, 67, 68, 69, 70, 71, 72, 73, 74] [0, 1, 2, 3, 4, 5, 6, 7, 8, 9, 10, 11, 12, 13, 14, 15, 16, 17, 18, 19, 20, 21] [23, 24] [⟨0, 53, Unit, fun _ => { val := (int .i64 u54) }⟩, ⟨1, 54, Unit, fun _ => { val := (int .i64 (IntKind.i64.wrap ((a0.items.length : Int) - (1 : Int)))) }⟩, ⟨2, 55, Unit, fun _ => { val := (bool (decide (u54 < (IntKind.i64.wrap ((a0.items.length : Int) - (1 : Int)))))) }⟩, ⟨3, 56, Unit, fun _ => { val := (bool false) }⟩, ⟨4, 57, Unit, fun _ => { val := undef }⟩, ⟨5, 58, Unit, fun _ => { val := undef }⟩, ⟨6, 59, Unit, fun _ => { val := undef }⟩, ⟨7, 60, Unit, fun _ => { val := undef }⟩, ⟨8, 61, Unit, fun _ => { val := undef }⟩, ⟨9, 62, Unit, fun _ => { val := undef }⟩, ⟨10, 63, Unit, fun _ => { val := undef }⟩, ⟨11, 64, Unit, fun _ => { val := undef }⟩, ⟨12, 65, Unit, fun _ => { val := undef }⟩, ⟨13, 66, Unit, fun _ => { val := undef }⟩, ⟨14, 67, Unit, fun _ => { val := undef }⟩, ⟨15, 68, Unit, fun _ => { val := undef }⟩, ⟨16, 69, Unit, fun _ => { val := undef }⟩, ⟨17, 70, Unit, fun _ => { val := undef }⟩, ⟨18, 71, Unit, fun _ => { val := undef }⟩, ⟨19, 72, Unit, fun _ => { val := undef }⟩, ⟨20, 73, Unit, fun _ => { val := undef }⟩, ⟨21, 74, Unit, fun _ => { val := undef }⟩] [] rfl rfl rfl (by kernel_rfl) rfl rfl rfl ⟨⟨_, rfl, [], rfl, by
 intro X_ Y_ F_ K_ hK_
 refine al_show (m := Mem.plus (memOf w0 Z0 [(oBox bx0 127 [v0_0, (Value.func (.func 61) #[] #[])]), (oRow v0_0 122 tyS_huff_tree a0.items)] [(oRow s20 122 tyS_huff_tree l21x0_0), (oBox bx0 127 [s20, (Value.func (.func 61) #[] #[])]), (oBox g1 122 [(int .i64 (0 : Int)), (int .i64 (0 : Int)), (Value.slice none 0 0)]), (oBox g8 122 [(int .i64 u2.weight), (int .i64 u2.least), s6])] [(fDat (tyList (tyInt .i64)) [s6] u2.symbols), (fDat tyS_huff_tree [(int .i64 u9.weight), (int .i64 u9.least), s13] u9), (fDat tyS_huff_tree [(int .i64 u2.weight), (int .i64 u2.least), s6] u2)]) X_ Y_) (S := over (tab [(0, (ptr bx0 0)), (2, (ptr g1 0)), (3, (ptr g8 0)), (4, (int .i64 (IntKind.i64.wrap ((a0.items.length : Int) - (1 : Int))))), (5, (int .i64 l21i5)), (6, (int .i64 l48i6)), (8, (int .i64 u54)), (49, (ag (cA2i64 (A2i64.mk (IntKind.i64.wrap ((IntKind.i64.wrap ((2 : Int) * l21i5)) + (1 : Int))) (IntKind.i64.wrap ((IntKind.i64.wrap ((2 : Int) * l21i5)) + (2 : Int))))))), (50, (int .i64 l48i50))]) F_) ?_
 refine al_mv rfl rfl ?_
 refine al_nil ?_
 exact fr_fin hK_ ()⟩, ⟨_, rfl, [], rfl, by
 intro X_ Y_ F_ K_ hK_
 refine al_show (m := Mem.plus (memOf w0 Z0 [(oBox bx0 127 [v0_0, (Value.func (.func 61) #[] #[])]), (oRow v0_0 122 tyS_huff_tree a0.items)] [(oRow s20 122 tyS_huff_tree l21x0_0), (oBox bx0 127 [s20, (Value.func (.func 61) #[] #[])]), (oBox g1 122 [(int .i64 (0 : Int)), (int .i64 (0 : Int)), (Value.slice none 0 0)]), (oBox g8 122 [(int .i64 u2.weight), (int .i64 u2.least), s6])] [(fDat (tyList (tyInt .i64)) [s6] u2.symbols), (fDat tyS_huff_tree [(int .i64 u9.weight), (int .i64 u9.least), s13] u9), (fDat tyS_huff_tree [(int .i64 u2.weight), (int .i64 u2.least), s6] u2)]) X_ Y_) (S := over (tab [(0, (ptr bx0 0)), (2, (ptr g1 0)), (3, (ptr g8 0)), (4, (int .i64 (IntKind.i64.wrap ((a0.items.length : Int) - (1 : Int))))), (5, (int .i64 l21i5)), (6, (int .i64 l48i6)), (8, (int .i64 u54)), (49, (ag (cA2i64 (A2i64.mk (IntKind.i64.wrap ((IntKind.i64.wrap ((2 : Int) * l21i5)) + (1 : Int))) (IntKind.i64.wrap ((IntKind.i64.wrap ((2 : Int) * l21i5)) + (2 : Int))))))), (50, (int .i64 l48i50))]) F_) ?_
 refine al_mv rfl rfl ?_
 refine al_nil ?_
 exact fr_fin hK_ ()⟩, ⟨_, rfl, [0, 1], rfl, by
 intro _
 intro _
 intro X_ Y_ F_ K_ hK_
 refine al_show (m := Mem.plus (memOf w0 Z0 [(oBox bx0 127 [v0_0, (Value.func (.func 61) #[] #[])]), (oRow v0_0 122 tyS_huff_tree a0.items)] [(oRow s20 122 tyS_huff_tree l21x0_0), (oBox bx0 127 [s20, (Value.func (.func 61) #[] #[])]), (oBox g1 122 [(int .i64 (0 : Int)), (int .i64 (0 : Int)), (Value.slice none 0 0)]), (oBox g8 122 [(int .i64 u2.weight), (int .i64 u2.least), s6])] [(fDat (tyList (tyInt .i64)) [s6] u2.symbols), (fDat tyS_huff_tree [(int .i64 u9.weight), (int .i64 u9.least), s13] u9), (fDat tyS_huff_tree [(int .i64 u2.weight), (int .i64 u2.least), s6] u2)]) X_ Y_) (S := over (put (put (tab [(0, (ptr bx0 0)), (2, (ptr g1 0)), (3, (ptr g8 0)), (4, (int .i64 (IntKind.i64.wrap ((a0.items.length : Int) - (1 : Int))))), (5, (int .i64 l21i5)), (6, (int .i64 l48i6)), (8, (int .i64 u54)), (49, (ag (cA2i64 (A2i64.mk (IntKind.i64.wrap ((IntKind.i64.wrap ((2 : Int) * l21i5)) + (1 : Int))) (IntKind.i64.wrap ((IntKind.i64.wrap ((2 : Int) * l21i5)) + (2 : Int))))))), (50, (int .i64 l48i50))]) 53 (int .i64 u54)) 54 (int .i64 (IntKind.i64.wrap ((a0.items.length : Int) - (1 : Int))))) F_) ?_
 refine al_in rfl rfl rfl rfl ?_
 refine al_nil ?_
 exact fr_fin hK_ ()⟩, ⟨_, rfl, [2], rfl, by
 intro _
 intro X_ Y_ F_ K_ hK_
 refine al_show (m := Mem.plus (memOf w0 Z0 [(oBox bx0 127 [v0_0, (Value.func (.func 61) #[] #[])]), (oRow v0_0 122 tyS_huff_tree a0.items)] [(oRow s20 122 tyS_huff_tree l21x0_0), (oBox bx0 127 [s20, (Value.func (.func 61) #[] #[])]), (oBox g1 122 [(int .i64 (0 : Int)), (int .i64 (0 : Int)), (Value.slice none 0 0)]), (oBox g8 122 [(int .i64 u2.weight), (int .i64 u2.least), s6])] [(fDat (tyList (tyInt .i64)) [s6] u2.symbols), (fDat tyS_huff_tree [(int .i64 u9.weight), (int .i64 u9.least), s13] u9), (fDat tyS_huff_tree [(int .i64 u2.weight), (int .i64 u2.least), s6] u2)]) X_ Y_) (S := over (put (tab [(0, (ptr bx0 0)), (2, (ptr g1 0)), (3, (ptr g8 0)), (4, (int .i64 (IntKind.i64.wrap ((a0.items.length : Int) - (1 : Int))))), (5, (int .i64 l21i5)), (6, (int .i64 l48i6)), (8, (int .i64 u54)), (49, (ag (cA2i64 (A2i64.mk (IntKind.i64.wrap ((IntKind.i64.wrap ((2 : Int) * l21i5)) + (1 : Int))) (IntKind.i64.wrap ((IntKind.i64.wrap ((2 : Int) * l21i5)) + (2 : Int))))))), (50, (int .i64 l48i50))]) 55 (bool (decide (u54 < (IntKind.i64.wrap ((a0.items.length : Int) - (1 : Int))))))) F_) ?_
 refine al_val (ov_cast (by first | rw [hb59] | rfl) (ov_move rfl rfl)) ?_
 refine al_nil ?_
 exact fr_fin hK_ ()⟩, ⟨_, rfl, [3], rfl, by
 intro _
 intro X_ Y_ F_ K_ hK_
 refine al_show (m := Mem.plus (memOf w0 Z0 [(oBox bx0 127 [v0_0, (Value.func (.func 61) #[] #[])]), (oRow v0_0 122 tyS_huff_tree a0.items)] [(oRow s20 122 tyS_huff_tree l21x0_0), (oBox bx0 127 [s20, (Value.func (.func 61) #[] #[])]), (oBox g1 122 [(int .i64 (0 : Int)), (int .i64 (0 : Int)), (Value.slice none 0 0)]), (oBox g8 122 [(int .i64 u2.weight), (int .i64 u2.least), s6])] [(fDat (tyList (tyInt .i64)) [s6] u2.symbols), (fDat tyS_huff_tree [(int .i64 u9.weight), (int .i64 u9.least), s13] u9), (fDat tyS_huff_tree [(int .i64 u2.weight), (int .i64 u2.least), s6] u2)]) X_ Y_) (S := over (put (tab [(0, (ptr bx0 0)), (2, (ptr g1 0)), (3, (ptr g8 0)), (4, (int .i64 (IntKind.i64.wrap ((a0.items.length : Int) - (1 : Int))))), (5, (int .i64 l21i5)), (6, (int .i64 l48i6)), (8, (int .i64 u54)), (49, (ag (cA2i64 (A2i64.mk (IntKind.i64.wrap ((IntKind.i64.wrap ((2 : Int) * l21i5)) + (1 : Int))) (IntKind.i64.wrap ((IntKind.i64.wrap ((2 : Int) * l21i5)) + (2 : Int))))))), (50, (int .i64 l48i50))]) 56 (bool false)) F_) ?_
 refine al_skip ?_
 refine al_nil ?_
 exact fr_fin hK_ ()⟩, ⟨_, rfl, [3, 4], rfl, by
 intro _
 intro _
 intro X_ Y_ F_ K_ hK_
 refine al_show (m := Mem.plus (memOf w0 Z0 [(oBox bx0 127 [v0_0, (Value.func (.func 61) #[] #[])]), (oRow v0_0 122 tyS_huff_tree a0.items)] [(oRow s20 122 tyS_huff_tree l21x0_0), (oBox bx0 127 [s20, (Value.func (.func 61) #[] #[])]), (oBox g1 122 [(int .i64 (0 : Int)), (int .i64 (0 : Int)), (Value.slice none 0 0)]), (oBox g8 122 [(int .i64 u2.weight), (int .i64 u2.least), s6])] [(fDat (tyList (tyInt .i64)) [s6] u2.symbols), (fDat tyS_huff_tree [(int .i64 u9.weight), (int .i64 u9.least), s13] u9), (fDat tyS_huff_tree [(int .i64 u2.weight), (int .i64 u2.least), s6] u2)]) X_ Y_) (S := over (put (put (tab [(0, (ptr bx0 0)), (2, (ptr g1 0)), (3, (ptr g8 0)), (4, (int .i64 (IntKind.i64.wrap ((a0.items.length : Int) - (1 : Int))))), (5, (int .i64 l21i5)), (6, (int .i64 l48i6)), (8, (int .i64 u54)), (49, (ag (cA2i64 (A2i64.mk (IntKind.i64.wrap ((IntKind.i64.wrap ((2 : Int) * l21i5)) + (1 : Int))) (IntKind.i64.wrap ((IntKind.i64.wrap ((2 : Int) * l21i5)) + (2 : Int))))))), (50, (int .i64 l48i50))]) 56 (bool false)) 57 undef) F_) ?_
 refine al_skip ?_
 refine al_nil ?_
 exact fr_fin hK_ ()⟩, ⟨_, rfl, [3, 5], rfl, by
 intro _
 intro _
 intro X_ Y_ F_ K_ hK_
 refine al_show (m := Mem.plus (memOf w0 Z0 [(oBox bx0 127 [v0_0, (Value.func (.func 61) #[] #[])]), (oRow v0_0 122 tyS_huff_tree a0.items)] [(oRow s20 122 tyS_huff_tree l21x0_0), (oBox bx0 127 [s20, (Value.func (.func 61) #[] #[])]), (oBox g1 122 [(int .i64 (0 : Int)), (int .i64 (0 : Int)), (Value.slice none 0 0)]), (oBox g8 122 [(int .i64 u2.weight), (int .i64 u2.least), s6])] [(fDat (tyList (tyInt .i64)) [s6] u2.symbols), (fDat tyS_huff_tree [(int .i64 u9.weight), (int .i64 u9.least), s13] u9), (fDat tyS_huff_tree [(int .i64 u2.weight), (int .i64 u2.least), s6] u2)]) X_ Y_) (S := over (put (put (tab [(0, (ptr bx0 0)), (2, (ptr g1 0)), (3, (ptr g8 0)), (4, (int .i64 (IntKind.i64.wrap ((a0.items.length : Int) - (1 : Int))))), (5, (int .i64 l21i5)), (6, (int .i64 l48i6)), (8, (int .i64 u54)), (49, (ag (cA2i64 (A2i64.mk (IntKind.i64.wrap ((IntKind.i64.wrap ((2 : Int) * l21i5)) + (1 : Int))) (IntKind.i64.wrap ((IntKind.i64.wrap ((2 : Int) * l21i5)) + (2 : Int))))))), (50, (int .i64 l48i50))]) 56 (bool false)) 58 undef) F_) ?_
 refine al_skip ?_
 refine al_nil ?_
 exact fr_fin hK_ ()⟩, ⟨_, rfl, [3, 6], rfl, by
 intro _
 intro _
 intro X_ Y_ F_ K_ hK_
 refine al_show (m := Mem.plus (memOf w0 Z0 [(oBox bx0 127 [v0_0, (Value.func (.func 61) #[] #[])]), (oRow v0_0 122 tyS_huff_tree a0.items)] [(oRow s20 122 tyS_huff_tree l21x0_0), (oBox bx0 127 [s20, (Value.func (.func 61) #[] #[])]), (oBox g1 122 [(int .i64 (0 : Int)), (int .i64 (0 : Int)), (Value.slice none 0 0)]), (oBox g8 122 [(int .i64 u2.weight), (int .i64 u2.least), s6])] [(fDat (tyList (tyInt .i64)) [s6] u2.symbols), (fDat tyS_huff_tree [(int .i64 u9.weight), (int .i64 u9.least), s13] u9), (fDat tyS_huff_tree [(int .i64 u2.weight), (int .i64 u2.least), s6] u2)]) X_ Y_) (S := over (put (put (tab [(0, (ptr bx0 0)), (2, (ptr g1 0)), (3, (ptr g8 0)), (4, (int .i64 (IntKind.i64.wrap ((a0.items.length : Int) - (1 : Int))))), (5, (int .i64 l21i5)), (6, (int .i64 l48i6)), (8, (int .i64 u54)), (49, (ag (cA2i64 (A2i64.mk (IntKind.i64.wrap ((IntKind.i64.wrap ((2 : Int) * l21i5)) + (1 : Int))) (IntKind.i64.wrap ((IntKind.i64.wrap ((2 : Int) * l21i5)) + (2 : Int))))))), (50, (int .i64 l48i50))]) 56 (bool false)) 59 undef) F_) ?_
 refine al_skip ?_
 refine al_nil ?_
 exact fr_fin hK_ ()⟩, ⟨_, rfl, [3], rfl, by
 intro _
 intro X_ Y_ F_ K_ hK_
 refine al_show (m := Mem.plus (memOf w0 Z0 [(oBox bx0 127 [v0_0, (Value.func (.func 61) #[] #[])]), (oRow v0_0 122 tyS_huff_tree a0.items)] [(oRow s20 122 tyS_huff_tree l21x0_0), (oBox bx0 127 [s20, (Value.func (.func 61) #[] #[])]), (oBox g1 122 [(int .i64 (0 : Int)), (int .i64 (0 : Int)), (Value.slice none 0 0)]), (oBox g8 122 [(int .i64 u2.weight), (int .i64 u2.least), s6])] [(fDat (tyList (tyInt .i64)) [s6] u2.symbols), (fDat tyS_huff_tree [(int .i64 u9.weight), (int .i64 u9.least), s13] u9), (fDat tyS_huff_tree [(int .i64 u2.weight), (int .i64 u2.least), s6] u2)]) X_ Y_) (S := over (put (tab [(0, (ptr bx0 0)), (2, (ptr g1 0)), (3, (ptr g8 0)), (4, (int .i64 (IntKind.i64.wrap ((a0.items.length : Int) - (1 : Int))))), (5, (int .i64 l21i5)), (6, (int .i64 l48i6)), (8, (int .i64 u54)), (49, (ag (cA2i64 (A2i64.mk (IntKind.i64.wrap ((IntKind.i64.wrap ((2 : Int) * l21i5)) + (1 : Int))) (IntKind.i64.wrap ((IntKind.i64.wrap ((2 : Int) * l21i5)) + (2 : Int))))))), (50, (int .i64 l48i50))]) 56 (bool false)) F_) ?_
 refine al_skip ?_
 refine al_nil ?_
 exact fr_fin hK_ ()⟩, ⟨_, rfl, [3, 8], rfl, by
 intro _
 intro _
 intro X_ Y_ F_ K_ hK_
 refine al_show (m := Mem.plus (memOf w0 Z0 [(oBox bx0 127 [v0_0, (Value.func (.func 61) #[] #[])]), (oRow v0_0 122 tyS_huff_tree a0.items)] [(oRow s20 122 tyS_huff_tree l21x0_0), (oBox bx0 127 [s20, (Value.func (.func 61) #[] #[])]), (oBox g1 122 [(int .i64 (0 : Int)), (int .i64 (0 : Int)), (Value.slice none 0 0)]), (oBox g8 122 [(int .i64 u2.weight), (int .i64 u2.least), s6])] [(fDat (tyList (tyInt .i64)) [s6] u2.symbols), (fDat tyS_huff_tree [(int .i64 u9.weight), (int .i64 u9.least), s13] u9), (fDat tyS_huff_tree [(int .i64 u2.weight), (int .i64 u2.least), s6] u2)]) X_ Y_) (S := over (put (put (tab [(0, (ptr bx0 0)), (2, (ptr g1 0)), (3, (ptr g8 0)), (4, (int .i64 (IntKind.i64.wrap ((a0.items.length : Int) - (1 : Int))))), (5, (int .i64 l21i5)), (6, (int .i64 l48i6)), (8, (int .i64 u54)), (49, (ag (cA2i64 (A2i64.mk (IntKind.i64.wrap ((IntKind.i64.wrap ((2 : Int) * l21i5)) + (1 : Int))) (IntKind.i64.wrap ((IntKind.i64.wrap ((2 : Int) * l21i5)) + (2 : Int))))))), (50, (int .i64 l48i50))]) 56 (bool false)) 61 undef) F_) ?_
 refine al_skip ?_
 refine al_nil ?_
 exact fr_fin hK_ ()⟩, ⟨_, rfl, [3, 9], rfl, by
 intro _
 intro _
 intro X_ Y_ F_ K_ hK_
 refine al_show (m := Mem.plus (memOf w0 Z0 [(oBox bx0 127 [v0_0, (Value.func (.func 61) #[] #[])]), (oRow v0_0 122 tyS_huff_tree a0.items)] [(oRow s20 122 tyS_huff_tree l21x0_0), (oBox bx0 127 [s20, (Value.func (.func 61) #[] #[])]), (oBox g1 122 [(int .i64 (0 : Int)), (int .i64 (0 : Int)), (Value.slice none 0 0)]), (oBox g8 122 [(int .i64 u2.weight), (int .i64 u2.least), s6])] [(fDat (tyList (tyInt .i64)) [s6] u2.symbols), (fDat tyS_huff_tree [(int .i64 u9.weight), (int .i64 u9.least), s13] u9), (fDat tyS_huff_tree [(int .i64 u2.weight), (int .i64 u2.least), s6] u2)]) X_ Y_) (S := over (put (put (tab [(0, (ptr bx0 0)), (2, (ptr g1 0)), (3, (ptr g8 0)), (4, (int .i64 (IntKind.i64.wrap ((a0.items.length : Int) - (1 : Int))))), (5, (int .i64 l21i5)), (6, (int .i64 l48i6)), (8, (int .i64 u54)), (49, (ag (cA2i64 (A2i64.mk (IntKind.i64.wrap ((IntKind.i64.wrap ((2 : Int) * l21i5)) + (1 : Int))) (IntKind.i64.wrap ((IntKind.i64.wrap ((2 : Int) * l21i5)) + (2 : Int))))))), (50, (int .i64 l48i50))]) 56 (bool false)) 62 undef) F_) ?_
 refine al_skip ?_
 refine al_nil ?_
 exact fr_fin hK_ ()⟩, ⟨_, rfl, [3, 10], rfl, by
 intro _
 intro _
 intro X_ Y_ F_ K_ hK_
 refine al_show (m := Mem.plus (memOf w0 Z0 [(oBox bx0 127 [v0_0, (Value.func (.func 61) #[] #[])]), (oRow v0_0 122 tyS_huff_tree a0.items)] [(oRow s20 122 tyS_huff_tree l21x0_0), (oBox bx0 127 [s20, (Value.func (.func 61) #[] #[])]), (oBox g1 122 [(int .i64 (0 : Int)), (int .i64 (0 : Int)), (Value.slice none 0 0)]), (oBox g8 122 [(int .i64 u2.weight), (int .i64 u2.least), s6])] [(fDat (tyList (tyInt .i64)) [s6] u2.symbols), (fDat tyS_huff_tree [(int .i64 u9.weight), (int .i64 u9.least), s13] u9), (fDat tyS_huff_tree [(int .i64 u2.weight), (int .i64 u2.least), s6] u2)]) X_ Y_) (S := over (put (put (tab [(0, (ptr bx0 0)), (2, (ptr g1 0)), (3, (ptr g8 0)), (4, (int .i64 (IntKind.i64.wrap ((a0.items.length : Int) - (1 : Int))))), (5, (int .i64 l21i5)), (6, (int .i64 l48i6)), (8, (int .i64 u54)), (49, (ag (cA2i64 (A2i64.mk (IntKind.i64.wrap ((IntKind.i64.wrap ((2 : Int) * l21i5)) + (1 : Int))) (IntKind.i64.wrap ((IntKind.i64.wrap ((2 : Int) * l21i5)) + (2 : Int))))))), (50, (int .i64 l48i50))]) 56 (bool false)) 63 undef) F_) ?_
 refine al_skip ?_
 refine al_nil ?_
 exact fr_fin hK_ ()⟩, ⟨_, rfl, [3], rfl, by
 intro _
 intro X_ Y_ F_ K_ hK_
 refine al_show (m := Mem.plus (memOf w0 Z0 [(oBox bx0 127 [v0_0, (Value.func (.func 61) #[] #[])]), (oRow v0_0 122 tyS_huff_tree a0.items)] [(oRow s20 122 tyS_huff_tree l21x0_0), (oBox bx0 127 [s20, (Value.func (.func 61) #[] #[])]), (oBox g1 122 [(int .i64 (0 : Int)), (int .i64 (0 : Int)), (Value.slice none 0 0)]), (oBox g8 122 [(int .i64 u2.weight), (int .i64 u2.least), s6])] [(fDat (tyList (tyInt .i64)) [s6] u2.symbols), (fDat tyS_huff_tree [(int .i64 u9.weight), (int .i64 u9.least), s13] u9), (fDat tyS_huff_tree [(int .i64 u2.weight), (int .i64 u2.least), s6] u2)]) X_ Y_) (S := over (put (tab [(0, (ptr bx0 0)), (2, (ptr g1 0)), (3, (ptr g8 0)), (4, (int .i64 (IntKind.i64.wrap ((a0.items.length : Int) - (1 : Int))))), (5, (int .i64 l21i5)), (6, (int .i64 l48i6)), (8, (int .i64 u54)), (49, (ag (cA2i64 (A2i64.mk (IntKind.i64.wrap ((IntKind.i64.wrap ((2 : Int) * l21i5)) + (1 : Int))) (IntKind.i64.wrap ((IntKind.i64.wrap ((2 : Int) * l21i5)) + (2 : Int))))))), (50, (int .i64 l48i50))]) 56 (bool false)) F_) ?_
 refine al_skip ?_
 refine al_nil ?_
 exact fr_fin hK_ ()⟩, ⟨_, rfl, [3, 11, 12], rfl, by
 intro _
 intro _
 intro _
 intro X_ Y_ F_ K_ hK_
 refine al_show (m := Mem.plus (memOf w0 Z0 [(oBox bx0 127 [v0_0, (Value.func (.func 61) #[] #[])]), (oRow v0_0 122 tyS_huff_tree a0.items)] [(oRow s20 122 tyS_huff_tree l21x0_0), (oBox bx0 127 [s20, (Value.func (.func 61) #[] #[])]), (oBox g1 122 [(int .i64 (0 : Int)), (int .i64 (0 : Int)), (Value.slice none 0 0)]), (oBox g8 122 [(int .i64 u2.weight), (int .i64 u2.least), s6])] [(fDat (tyList (tyInt .i64)) [s6] u2.symbols), (fDat tyS_huff_tree [(int .i64 u9.weight), (int .i64 u9.least), s13] u9), (fDat tyS_huff_tree [(int .i64 u2.weight), (int .i64 u2.least), s6] u2)]) X_ Y_) (S := over (put (put (put (tab [(0, (ptr bx0 0)), (2, (ptr g1 0)), (3, (ptr g8 0)), (4, (int .i64 (IntKind.i64.wrap ((a0.items.length : Int) - (1 : Int))))), (5, (int .i64 l21i5)), (6, (int .i64 l48i6)), (8, (int .i64 u54)), (49, (ag (cA2i64 (A2i64.mk (IntKind.i64.wrap ((IntKind.i64.wrap ((2 : Int) * l21i5)) + (1 : Int))) (IntKind.i64.wrap ((IntKind.i64.wrap ((2 : Int) * l21i5)) + (2 : Int))))))), (50, (int .i64 l48i50))]) 56 (bool false)) 64 undef) 65 undef) F_) ?_
 refine al_skip ?_
 refine al_nil ?_
 exact fr_fin hK_ ()⟩, ⟨_, rfl, [3, 13], rfl, by
 intro _
 intro _
 intro X_ Y_ F_ K_ hK_
 refine al_show (m := Mem.plus (memOf w0 Z0 [(oBox bx0 127 [v0_0, (Value.func (.func 61) #[] #[])]), (oRow v0_0 122 tyS_huff_tree a0.items)] [(oRow s20 122 tyS_huff_tree l21x0_0), (oBox bx0 127 [s20, (Value.func (.func 61) #[] #[])]), (oBox g1 122 [(int .i64 (0 : Int)), (int .i64 (0 : Int)), (Value.slice none 0 0)]), (oBox g8 122 [(int .i64 u2.weight), (int .i64 u2.least), s6])] [(fDat (tyList (tyInt .i64)) [s6] u2.symbols), (fDat tyS_huff_tree [(int .i64 u9.weight), (int .i64 u9.least), s13] u9), (fDat tyS_huff_tree [(int .i64 u2.weight), (int .i64 u2.least), s6] u2)]) X_ Y_) (S := over (put (put (tab [(0, (ptr bx0 0)), (2, (ptr g1 0)), (3, (ptr g8 0)), (4, (int .i64 (IntKind.i64.wrap ((a0.items.length : Int) - (1 : Int))))), (5, (int .i64 l21i5)), (6, (int .i64 l48i6)), (8, (int .i64 u54)), (49, (ag (cA2i64 (A2i64.mk (IntKind.i64.wrap ((IntKind.i64.wrap ((2 : Int) * l21i5)) + (1 : Int))) (IntKind.i64.wrap ((IntKind.i64.wrap ((2 : Int) * l21i5)) + (2 : Int))))))), (50, (int .i64 l48i50))]) 56 (bool false)) 66 undef) F_) ?_
 refine al_skip ?_
 refine al_nil ?_
 exact fr_fin hK_ ()⟩, ⟨_, rfl, [3], rfl, by
 intro _
 intro X_ Y_ F_ K_ hK_
 refine al_show (m := Mem.plus (memOf w0 Z0 [(oBox bx0 127 [v0_0, (Value.func (.func 61) #[] #[])]), (oRow v0_0 122 tyS_huff_tree a0.items)] [(oRow s20 122 tyS_huff_tree l21x0_0), (oBox bx0 127 [s20, (Value.func (.func 61) #[] #[])]), (oBox g1 122 [(int .i64 (0 : Int)), (int .i64 (0 : Int)), (Value.slice none 0 0)]), (oBox g8 122 [(int .i64 u2.weight), (int .i64 u2.least), s6])] [(fDat (tyList (tyInt .i64)) [s6] u2.symbols), (fDat tyS_huff_tree [(int .i64 u9.weight), (int .i64 u9.least), s13] u9), (fDat tyS_huff_tree [(int .i64 u2.weight), (int .i64 u2.least), s6] u2)]) X_ Y_) (S := over (put (tab [(0, (ptr bx0 0)), (2, (ptr g1 0)), (3, (ptr g8 0)), (4, (int .i64 (IntKind.i64.wrap ((a0.items.length : Int) - (1 : Int))))), (5, (int .i64 l21i5)), (6, (int .i64 l48i6)), (8, (int .i64 u54)), (49, (ag (cA2i64 (A2i64.mk (IntKind.i64.wrap ((IntKind.i64.wrap ((2 : Int) * l21i5)) + (1 : Int))) (IntKind.i64.wrap ((IntKind.i64.wrap ((2 : Int) * l21i5)) + (2 : Int))))))), (50, (int .i64 l48i50))]) 56 (bool false)) F_) ?_
 refine al_skip ?_
 refine al_nil ?_
 exact fr_fin hK_ ()⟩, ⟨_, rfl, [3, 15], rfl, by
 intro _
 intro _
 intro X_ Y_ F_ K_ hK_
 refine al_show (m := Mem.plus (memOf w0 Z0 [(oBox bx0 127 [v0_0, (Value.func (.func 61) #[] #[])]), (oRow v0_0 122 tyS_huff_tree a0.items)] [(oRow s20 122 tyS_huff_tree l21x0_0), (oBox bx0 127 [s20, (Value.func (.func 61) #[] #[])]), (oBox g1 122 [(int .i64 (0 : Int)), (int .i64 (0 : Int)), (Value.slice none 0 0)]), (oBox g8 122 [(int .i64 u2.weight), (int .i64 u2.least), s6])] [(fDat (tyList (tyInt .i64)) [s6] u2.symbols), (fDat tyS_huff_tree [(int .i64 u9.weight), (int .i64 u9.least), s13] u9), (fDat tyS_huff_tree [(int .i64 u2.weight), (int .i64 u2.least), s6] u2)]) X_ Y_) (S := over (put (put (tab [(0, (ptr bx0 0)), (2, (ptr g1 0)), (3, (ptr g8 0)), (4, (int .i64 (IntKind.i64.wrap ((a0.items.length : Int) - (1 : Int))))), (5, (int .i64 l21i5)), (6, (int .i64 l48i6)), (8, (int .i64 u54)), (49, (ag (cA2i64 (A2i64.mk (IntKind.i64.wrap ((IntKind.i64.wrap ((2 : Int) * l21i5)) + (1 : Int))) (IntKind.i64.wrap ((IntKind.i64.wrap ((2 : Int) * l21i5)) + (2 : Int))))))), (50, (int .i64 l48i50))]) 56 (bool false)) 68 undef) F_) ?_
 refine al_skip ?_
 refine al_nil ?_
 exact fr_fin hK_ ()⟩, ⟨_, rfl, [3, 16], rfl, by
 intro _
 intro _
 intro X_ Y_ F_ K_ hK_
 refine al_show (m := Mem.plus (memOf w0 Z0 [(oBox bx0 127 [v0_0, (Value.func (.func 61) #[] #[])]), (oRow v0_0 122 tyS_huff_tree a0.items)] [(oRow s20 122 tyS_huff_tree l21x0_0), (oBox bx0 127 [s20, (Value.func (.func 61) #[] #[])]), (oBox g1 122 [(int .i64 (0 : Int)), (int .i64 (0 : Int)), (Value.slice none 0 0)]), (oBox g8 122 [(int .i64 u2.weight), (int .i64 u2.least), s6])] [(fDat (tyList (tyInt .i64)) [s6] u2.symbols), (fDat tyS_huff_tree [(int .i64 u9.weight), (int .i64 u9.least), s13] u9), (fDat tyS_huff_tree [(int .i64 u2.weight), (int .i64 u2.least), s6] u2)]) X_ Y_) (S := over (put (put (tab [(0, (ptr bx0 0)), (2, (ptr g1 0)), (3, (ptr g8 0)), (4, (int .i64 (IntKind.i64.wrap ((a0.items.length : Int) - (1 : Int))))), (5, (int .i64 l21i5)), (6, (int .i64 l48i6)), (8, (int .i64 u54)), (49, (ag (cA2i64 (A2i64.mk (IntKind.i64.wrap ((IntKind.i64.wrap ((2 : Int) * l21i5)) + (1 : Int))) (IntKind.i64.wrap ((IntKind.i64.wrap ((2 : Int) * l21i5)) + (2 : Int))))))), (50, (int .i64 l48i50))]) 56 (bool false)) 69 undef) F_) ?_
 refine al_skip ?_
 refine al_nil ?_
 exact fr_fin hK_ ()⟩, ⟨_, rfl, [3, 17], rfl, by
 intro _
 intro _
 intro X_ Y_ F_ K_ hK_
 refine al_show (m := Mem.plus (memOf w0 Z0 [(oBox bx0 127 [v0_0, (Value.func (.func 61) #[] #[])]), (oRow v0_0 122 tyS_huff_tree a0.items)] [(oRow s20 122 tyS_huff_tree l21x0_0), (oBox bx0 127 [s20, (Value.func (.func 61) #[] #[])]), (oBox g1 122 [(int .i64 (0 : Int)), (int .i64 (0 : Int)), (Value.slice none 0 0)]), (oBox g8 122 [(int .i64 u2.weight), (int .i64 u2.least), s6])] [(fDat (tyList (tyInt .i64)) [s6] u2.symbols), (fDat tyS_huff_tree [(int .i64 u9.weight), (int .i64 u9.least), s13] u9), (fDat tyS_huff_tree [(int .i64 u2.weight), (int .i64 u2.least), s6] u2)]) X_ Y_) (S := over (put (put (tab [(0, (ptr bx0 0)), (2, (ptr g1 0)), (3, (ptr g8 0)), (4, (int .i64 (IntKind.i64.wrap ((a0.items.length : Int) - (1 : Int))))), (5, (int .i64 l21i5)), (6, (int .i64 l48i6)), (8, (int .i64 u54)), (49, (ag (cA2i64 (A2i64.mk (IntKind.i64.wrap ((IntKind.i64.wrap ((2 : Int) * l21i5)) + (1 : Int))) (IntKind.i64.wrap ((IntKind.i64.wrap ((2 : Int) * l21i5)) + (2 : Int))))))), (50, (int .i64 l48i50))]) 56 (bool false)) 70 undef) F_) ?_
 refine al_skip ?_
 refine al_nil ?_
 exact fr_fin hK_ ()⟩, ⟨_, rfl, [3], rfl, by
 intro _
 intro X_ Y_ F_ K_ hK_
 refine al_show (m := Mem.plus (memOf w0 Z0 [(oBox bx0 127 [v0_0, (Value.func (.func 61) #[] #[])]), (oRow v0_0 122 tyS_huff_tree a0.items)] [(oRow s20 122 tyS_huff_tree l21x0_0), (oBox bx0 127 [s20, (Value.func (.func 61) #[] #[])]), (oBox g1 122 [(int .i64 (0 : Int)), (int .i64 (0 : Int)), (Value.slice none 0 0)]), (oBox g8 122 [(int .i64 u2.weight), (int .i64 u2.least), s6])] [(fDat (tyList (tyInt .i64)) [s6] u2.symbols), (fDat tyS_huff_tree [(int .i64 u9.weight), (int .i64 u9.least), s13] u9), (fDat tyS_huff_tree [(int .i64 u2.weight), (int .i64 u2.least), s6] u2)]) X_ Y_) (S := over (put (tab [(0, (ptr bx0 0)), (2, (ptr g1 0)), (3, (ptr g8 0)), (4, (int .i64 (IntKind.i64.wrap ((a0.items.length : Int) - (1 : Int))))), (5, (int .i64 l21i5)), (6, (int .i64 l48i6)), (8, (int .i64 u54)), (49, (ag (cA2i64 (A2i64.mk (IntKind.i64.wrap ((IntKind.i64.wrap ((2 : Int) * l21i5)) + (1 : Int))) (IntKind.i64.wrap ((IntKind.i64.wrap ((2 : Int) * l21i5)) + (2 : Int))))))), (50, (int .i64 l48i50))]) 56 (bool false)) F_) ?_
 refine al_skip ?_
 refine al_nil ?_
 exact fr_fin hK_ ()⟩, ⟨_, rfl, [3, 18, 19], rfl, by
 intro _
 intro _
 intro _
 intro X_ Y_ F_ K_ hK_
 refine al_show (m := Mem.plus (memOf w0 Z0 [(oBox bx0 127 [v0_0, (Value.func (.func 61) #[] #[])]), (oRow v0_0 122 tyS_huff_tree a0.items)] [(oRow s20 122 tyS_huff_tree l21x0_0), (oBox bx0 127 [s20, (Value.func (.func 61) #[] #[])]), (oBox g1 122 [(int .i64 (0 : Int)), (int .i64 (0 : Int)), (Value.slice none 0 0)]), (oBox g8 122 [(int .i64 u2.weight), (int .i64 u2.least), s6])] [(fDat (tyList (tyInt .i64)) [s6] u2.symbols), (fDat tyS_huff_tree [(int .i64 u9.weight), (int .i64 u9.least), s13] u9), (fDat tyS_huff_tree [(int .i64 u2.weight), (int .i64 u2.least), s6] u2)]) X_ Y_) (S := over (put (put (put (tab [(0, (ptr bx0 0)), (2, (ptr g1 0)), (3, (ptr g8 0)), (4, (int .i64 (IntKind.i64.wrap ((a0.items.length : Int) - (1 : Int))))), (5, (int .i64 l21i5)), (6, (int .i64 l48i6)), (8, (int .i64 u54)), (49, (ag (cA2i64 (A2i64.mk (IntKind.i64.wrap ((IntKind.i64.wrap ((2 : Int) * l21i5)) + (1 : Int))) (IntKind.i64.wrap ((IntKind.i64.wrap ((2 : Int) * l21i5)) + (2 : Int))))))), (50, (int .i64 l48i50))]) 56 (bool false)) 71 undef) 72 undef) F_) ?_
 refine al_skip ?_
 refine al_nil ?_
 exact fr_fin hK_ ()⟩, ⟨_, rfl, [3, 20], rfl, by
 intro _
 intro _
 intro X_ Y_ F_ K_ hK_
 refine al_show (m := Mem.plus (memOf w0 Z0 [(oBox bx0 127 [v0_0, (Value.func (.func 61) #[] #[])]), (oRow v0_0 122 tyS_huff_tree a0.items)] [(oRow s20 122 tyS_huff_tree l21x0_0), (oBox bx0 127 [s20, (Value.func (.func 61) #[] #[])]), (oBox g1 122 [(int .i64 (0 : Int)), (int .i64 (0 : Int)), (Value.slice none 0 0)]), (oBox g8 122 [(int .i64 u2.weight), (int .i64 u2.least), s6])] [(fDat (tyList (tyInt .i64)) [s6] u2.symbols), (fDat tyS_huff_tree [(int .i64 u9.weight), (int .i64 u9.least), s13] u9), (fDat tyS_huff_tree [(int .i64 u2.weight), (int .i64 u2.least), s6] u2)]) X_ Y_) (S := over (put (put (tab [(0, (ptr bx0 0)), (2, (ptr g1 0)), (3, (ptr g8 0)), (4, (int .i64 (IntKind.i64.wrap ((a0.items.length : Int) - (1 : Int))))), (5, (int .i64 l21i5)), (6, (int .i64 l48i6)), (8, (int .i64 u54)), (49, (ag (cA2i64 (A2i64.mk (IntKind.i64.wrap ((IntKind.i64.wrap ((2 : Int) * l21i5)) + (1 : Int))) (IntKind.i64.wrap ((IntKind.i64.wrap ((2 : Int) * l21i5)) + (2 : Int))))))), (50, (int .i64 l48i50))]) 56 (bool false)) 73 undef) F_) ?_
 refine al_skip ?_
 refine al_nil ?_
 exact fr_fin hK_ ()⟩, trivial⟩ ?_
      intro _
      intro _
      intro _
      intro _
      intro _
      intro _
      intro _
      intro _
      intro _
      intro _
      intro _
      intro _
      intro _
      intro _
      intro _
      intro _
      intro _
      intro _
      intro _
      intro _
      intro _
      intro _
      intro X_ Y_ F_ K_ hK_
      refine al_show (m := Mem.plus (memOf w0 Z0 [(oBox bx0 127 [v0_0, (Value.func (.func 61) #[] #[])]), (oRow v0_0 122 tyS_huff_tree a0.items)] [(oRow s20 122 tyS_huff_tree l21x0_0), (oBox bx0 127 [s20, (Value.func (.func 61) #[] #[])]), (oBox g1 122 [(int .i64 (0 : Int)), (int .i64 (0 : Int)), (Value.slice none 0 0)]), (oBox g8 122 [(int .i64 u2.weight), (int .i64 u2.least), s6])] [(fDat (tyList (tyInt .i64)) [s6] u2.symbols), (fDat tyS_huff_tree [(int .i64 u9.weight), (int .i64 u9.least), s13] u9), (fDat tyS_huff_tree [(int .i64 u2.weight), (int .i64 u2.least), s6] u2)]) X_ Y_) (S := over (put (put (put (put (put (put (put (put (put (put (put (put (put (put (put (put (put (put (put (put (put (put (tab [(0, (ptr bx0 0)), (2, (ptr g1 0)), (3, (ptr g8 0)), (4, (int .i64 (IntKind.i64.wrap ((a0.items.length : Int) - (1 : Int))))), (5, (int .i64 l21i5)), (6, (int .i64 l48i6)), (8, (int .i64 u54)), (49, (ag (cA2i64 (A2i64.mk (IntKind.i64.wrap ((IntKind.i64.wrap ((2 : Int) * l21i5)) + (1 : Int))) (IntKind.i64.wrap ((IntKind.i64.wrap ((2 : Int) * l21i5)) + (2 : Int))))))), (50, (int .i64 l48i50))]) 53 (int .i64 u54)) 54 (int .i64 (IntKind.i64.wrap ((a0.items.length : Int) - (1 : Int))))) 55 (bool (decide (u54 < (IntKind.i64.wrap ((a0.items.length : Int) - (1 : Int))))))) 56 (bool false)) 57 undef) 58 undef) 59 undef) 60 undef) 61 undef) 62 undef) 63 undef) 64 undef) 65 undef) 66 undef) 67 undef) 68 undef) 69 undef) 70 undef) 71 undef) 72 undef) 73 undef) 74 undef) F_) ?_
      refine al_skip ?_
      refine al_nil ?_
      refine aq_show (m := Mem.plus (memOf w0 Z0 [(oBox bx0 127 [v0_0, (Value.func (.func 61) #[] #[])]), (oRow v0_0 122 tyS_huff_tree a0.items)] [(oRow s20 122 tyS_huff_tree l21x0_0), (oBox bx0 127 [s20, (Value.func (.func 61) #[] #[])]), (oBox g1 122 [(int .i64 (0 : Int)), (int .i64 (0 : Int)), (Value.slice none 0 0)]), (oBox g8 122 [(int .i64 u2.weight), (int .i64 u2.least), s6])] [(fDat (tyList (tyInt .i64)) [s6] u2.symbols), (fDat tyS_huff_tree [(int .i64 u9.weight), (int .i64 u9.least), s13] u9), (fDat tyS_huff_tree [(int .i64 u2.weight), (int .i64 u2.least), s6] u2)]) X_ Y_) ?_
      refine aq_next hK_ [0, 1, 2, 3] [0, 1, 2] [(0, (ptr bx0 0)), (2, (ptr g1 0)), (3, (ptr g8 0)), (4, (int .i64 (IntKind.i64.wrap ((a0.items.length : Int) - (1 : Int))))), (5, (int .i64 l21i5)), (6, (int .i64 l48i6)), (8, (int .i64 u54)), (49, (ag (cA2i64 (A2i64.mk (IntKind.i64.wrap ((IntKind.i64.wrap ((2 : Int) * l21i5)) + (1 : Int))) (IntKind.i64.wrap ((IntKind.i64.wrap ((2 : Int) * l21i5)) + (2 : Int))))))), (50, (int .i64 l48i50)), (56, (bool false)), (75, undef)] [] [⟨23, 76, Unit, fun _ => { val := undef }⟩, ⟨24, 77, Unit, fun _ => { val := (bool false) }⟩] rfl rfl (by decide) rfl ⟨rfl, rfl, rfl, rfl, rfl, rfl, rfl, rfl, rfl, rfl, rfl, trivial⟩ trivial ?_
      clear hK_ K_ F_ X_ Y_
      refine ta_show (m := (memOf w0 Z0 [(oBox bx0 127 [v0_0, (Value.func (.func 61) #[] #[])]), (oRow v0_0 122 tyS_huff_tree a0.items)] [(oRow s20 122 tyS_huff_tree l21x0_0), (oBox bx0 127 [s20, (Value.func (.func 61) #[] #[])]), (oBox g1 122 [(int .i64 (0 : Int)), (int .i64 (0 : Int)), (Value.slice none 0 0)]), (oBox g8 122 [(int .i64 u2.weight), (int .i64 u2.least), s6])] [(fDat (tyList (tyInt .i64)) [s6] u2.symbols), (fDat tyS_huff_tree [(int .i64 u9.weight), (int .i64 u9.least), s13] u9), (fDat tyS_huff_tree [(int .i64 u2.weight), (int .i64 u2.least), s6] u2)])) (S := (tab [(0, (ptr bx0 0)), (2, (ptr g1 0)), (3, (ptr g8 0)), (4, (int .i64 (IntKind.i64.wrap ((a0.items.length : Int) - (1 : Int))))), (5, (int .i64 l21i5)), (6, (int .i64 l48i6)), (8, (int .i64 u54)), (49, (ag (cA2i64 (A2i64.mk (IntKind.i64.wrap ((IntKind.i64.wrap ((2 : Int) * l21i5)) + (1 : Int))) (IntKind.i64.wrap ((IntKind.i64.wrap ((2 : Int) * l21i5)) + (2 : Int))))))), (50, (int .i64 l48i50)), (56, (bool false)), (75, undef)])) ?_
      refine ta_end [23, 24] [76, 77] rfl rfl (by kernel_rfl) rfl ⟨⟨_, rfl, [], rfl, by
 intro X_ Y_ F_ K_ hK_
 refine al_show (m := Mem.plus (memOf w0 Z0 [(oBox bx0 127 [v0_0, (Value.func (.func 61) #[] #[])]), (oRow v0_0 122 tyS_huff_tree a0.items)] [(oRow s20 122 tyS_huff_tree l21x0_0), (oBox bx0 127 [s20, (Value.func (.func 61) #[] #[])]), (oBox g1 122 [(int .i64 (0 : Int)), (int .i64 (0 : Int)), (Value.slice none 0 0)]), (oBox g8 122 [(int .i64 u2.weight), (int .i64 u2.least), s6])] [(fDat (tyList (tyInt .i64)) [s6] u2.symbols), (fDat tyS_huff_tree [(int .i64 u9.weight), (int .i64 u9.least), s13] u9), (fDat tyS_huff_tree [(int .i64 u2.weight), (int .i64 u2.least), s6] u2)]) X_ Y_) (S := over (tab [(0, (ptr bx0 0)), (2, (ptr g1 0)), (3, (ptr g8 0)), (4, (int .i64 (IntKind.i64.wrap ((a0.items.length : Int) - (1 : Int))))), (5, (int .i64 l21i5)), (6, (int .i64 l48i6)), (8, (int .i64 u54)), (49, (ag (cA2i64 (A2i64.mk (IntKind.i64.wrap ((IntKind.i64.wrap ((2 : Int) * l21i5)) + (1 : Int))) (IntKind.i64.wrap ((IntKind.i64.wrap ((2 : Int) * l21i5)) + (2 : Int))))))), (50, (int .i64 l48i50)), (56, (bool false)), (75, undef)]) F_) ?_
 refine al_skip ?_
 refine al_nil ?_
 exact fr_fin hK_ ()⟩, ⟨_, rfl, [0], rfl, by
 intro _
 intro X_ Y_ F_ K_ hK_
 refine al_show (m := Mem.plus (memOf w0 Z0 [(oBox bx0 127 [v0_0, (Value.func (.func 61) #[] #[])]), (oRow v0_0 122 tyS_huff_tree a0.items)] [(oRow s20 122 tyS_huff_tree l21x0_0), (oBox bx0 127 [s20, (Value.func (.func 61) #[] #[])]), (oBox g1 122 [(int .i64 (0 : Int)), (int .i64 (0 : Int)), (Value.slice none 0 0)]), (oBox g8 122 [(int .i64 u2.weight), (int .i64 u2.least), s6])] [(fDat (tyList (tyInt .i64)) [s6] u2.symbols), (fDat tyS_huff_tree [(int .i64 u9.weight), (int .i64 u9.least), s13] u9), (fDat tyS_huff_tree [(int .i64 u2.weight), (int .i64 u2.least), s6] u2)]) X_ Y_) (S := over (put (tab [(0, (ptr bx0 0)), (2, (ptr g1 0)), (3, (ptr g8 0)), (4, (int .i64 (IntKind.i64.wrap ((a0.items.length : Int) - (1 : Int))))), (5, (int .i64 l21i5)), (6, (int .i64 l48i6)), (8, (int .i64 u54)), (49, (ag (cA2i64 (A2i64.mk (IntKind.i64.wrap ((IntKind.i64.wrap ((2 : Int) * l21i5)) + (1 : Int))) (IntKind.i64.wrap ((IntKind.i64.wrap ((2 : Int) * l21i5)) + (2 : Int))))))), (50, (int .i64 l48i50)), (56, (bool false)), (75, undef)]) 76 undef) F_) ?_
 refine al_val (ov_pick_f rfl rfl rfl) ?_
 refine al_nil ?_
 exact fr_fin hK_ ()⟩, trivial⟩ ?_
      intro _
      intro _
      refine aq_show (m := (memOf w0 Z0 [(oBox bx0 127 [v0_0, (Value.func (.func 61) #[] #[])]), (oRow v0_0 122 tyS_huff_tree a0.items)] [(oRow s20 122 tyS_huff_tree l21x0_0), (oBox bx0 127 [s20, (Value.func (.func 61) #[] #[])]), (oBox g1 122 [(int .i64 (0 : Int)), (int .i64 (0 : Int)), (Value.slice none 0 0)]), (oBox g8 122 [(int .i64 u2.weight), (int .i64 u2.least), s6])] [(fDat (tyList (tyInt .i64)) [s6] u2.symbols), (fDat tyS_huff_tree [(int .i64 u9.weight), (int .i64 u9.least), s13] u9), (fDat tyS_huff_tree [(int .i64 u2.weight), (int .i64 u2.least), s6] u2)])) (S := (put (put (tab [(0, (ptr bx0 0)), (2, (ptr g1 0)), (3, (ptr g8 0)), (4, (int .i64 (IntKind.i64.wrap ((a0.items.length : Int) - (1 : Int))))), (5, (int .i64 l21i5)), (6, (int .i64 l48i6)), (8, (int .i64 u54)), (49, (ag (cA2i64 (A2i64.mk (IntKind.i64.wrap ((IntKind.i64.wrap ((2 : Int) * l21i5)) + (1 : Int))) (IntKind.i64.wrap ((IntKind.i64.wrap ((2 : Int) * l21i5)) + (2 : Int))))))), (50, (int .i64 l48i50)), (56, (bool false)), (75, undef)]) 76 undef) 77 (bool false))) ?_
      exact aq_join false h (fun w a hm hs => norm hm hs [0, 1, 2, 3] [0, 1, 2] [(0, (ptr bx0 0)), (2, (ptr g1 0)), (3, (ptr g8 0)), (4, (int .i64 (IntKind.i64.wrap ((a0.items.length : Int) - (1 : Int))))), (5, (int .i64 l21i5)), (6, (int .i64 l48i6)), (8, (int .i64 u54)), (49, (ag (cA2i64 (A2i64.mk (IntKind.i64.wrap ((IntKind.i64.wrap ((2 : Int) * l21i5)) + (1 : Int))) (IntKind.i64.wrap ((IntKind.i64.wrap ((2 : Int) * l21i5)) + (2 : Int))))))), (50, (int .i64 l48i50)), (77, (bool false))] (by decide) ⟨rfl, rfl, rfl, rfl, rfl, rfl, rfl, rfl, rfl, rfl, trivial⟩)
  ·replace h := bif_f hb51 h
   refine aw_exit ?_
   refine aq_then_exit ?_
   refine aq_then_exit ?_
   refine aq_block_exit ?_
   exact aq_join l48i6 h (fun w a hm hs => norm hm hs [0, 1, 2, 3] [0, 1, 2] [(0, (ptr bx0 0)), (2, (ptr g1 0)), (3, (ptr g8 0)), (4, (int .i64 (IntKind.i64.wrap ((a0.items.length : Int) - (1 : Int))))), (5, (int .i64 l21i5)), (6, (int .i64 l48i6))] (by decide) ⟨rfl, rfl, rfl, rfl, rfl, rfl, trivial⟩)
def f_huff_Lengths_L40 (r31 : (List Int)) (kk34 : ((List Int) → Option ((List Int) × Int))) : Nat → (List Int) → Int → Option ((List Int) × Int)
  | 0, _, _ => none
  | k39 + 1, l38x7, l38i92 => (bif (decide (l38i92 < (r31.length : Int))) then (opt (at? r31 l38i92) fun (u42 : Int) => (opt (at? l38x7 u42) fun (u46 : Int) => (opt (at? l38x7 u42) fun (u50 : Int) => (f_huff_Lengths_L40 r31 kk34 k39 (l38x7.set (u42).toNat (IntKind.i64.wrap (u46 + (1 : Int)))) (IntKind.i64.wrap (l38i92 + (1 : Int))))))) else (kk34 l38x7))
def f_huff_Lengths_L15 (kk12 : ((List Int) → Option ((List Int) × Int))) (fu : Nat) : Nat → (List S_huff_tree) → (List Int) → Option ((List Int) × Int)
  | 0, _, _ => none
  | k14 + 1, l13x4_0, l13x7 => (lt (fun (l13x4_0 : (List S_huff_tree)) (l13x7 : (List Int)) => (f_huff_Lengths_L15 kk12 fu k14 l13x4_0 l13x7)) fun (kk16 : (List S_huff_tree) → (List Int) → Option ((List Int) × Int)) => (bif (decide ((l13x4_0.length : Int) > (1 : Int))) then (opt (f___huff_heap_huff_tree___pop fu (D_huff_heap_huff_tree_.mk l13x4_0)) fun (r19 : (S_huff_tree × D_huff_heap_huff_tree_)) => (opt (f___huff_heap_huff_tree___pop fu r19.2) fun (r23 : (S_huff_tree × D_huff_heap_huff_tree_)) => (opt (f_slices_Concat___int_int_ fu ([r19.1.symbols, r23.1.symbols])) fun (r31 : (List Int)) => (lt (fun (j33x7 : (List Int)) => (opt (f___huff_heap_huff_tree___push fu r23.2 (S_huff_tree.mk (IntKind.i64.wrap (r19.1.weight + r23.1.weight)) (if r23.1.least < r19.1.least then r23.1.least else r19.1.least) r31)) fun (r36 : D_huff_heap_huff_tree_) => (kk16 r36.items j33x7))) fun (kk34 : (List Int) → Option ((List Int) × Int)) => (f_huff_Lengths_L40 r31 kk34 fu l13x7 (0 : Int)))))) else (kk12 l13x7)))
def f_huff_Lengths_L67 (a0 : (List Int)) (kk6 : ((List S_huff_tree) → Option ((List Int) × Int))) (fu : Nat) : Nat → (List S_huff_tree) → Int → Option ((List Int) × Int)
  | 0, _, _ => none
  | k66 + 1, l65x4_0, l65i29 => (bif (decide (l65i29 < (a0.length : Int))) then (lt (fun (j69x4_0 : (List S_huff_tree)) => (f_huff_Lengths_L67 a0 kk6 fu k66 j69x4_0 (IntKind.i64.wrap (l65i29 + (1 : Int))))) fun (kk70 : (List S_huff_tree) → Option ((List Int) × Int)) => (opt (at? a0 l65i29) fun (u71 : Int) => (bif (decide (u71 > (0 : Int))) then (opt (f___huff_heap_huff_tree___push fu (D_huff_heap_huff_tree_.mk l65x4_0) (S_huff_tree.mk u71 l65i29 ([l65i29]))) fun (r77 : D_huff_heap_huff_tree_) => (kk70 r77.items)) else (kk70 l65x4_0)))) else (kk6 l65x4_0))
def f_huff_Lengths (fu : Nat) (a0 : (List Int)) : Option ((List Int) × Int) := (lt (fun (j1b24 : Bool) => (bif j1b24 then (some (([] : List Int), (1 : Int))) else (lt (fun (j5x4_0 : (List S_huff_tree)) => (req (0 ≤ (a0.length : Int) ∧ 8 * (a0.length : Int) ≤ 281474976710656 ∧ (a0.length : Int) ≤ 9223372036854775807) (lt (fun (j9x7 : (List Int)) => (lt (fun (j11x7 : (List Int)) => (some (j11x7, (0 : Int)))) fun (kk12 : (List Int) → Option ((List Int) × Int)) => (f_huff_Lengths_L15 kk12 fu fu j5x4_0 j9x7))) fun (kk10 : (List Int) → Option ((List Int) × Int)) => (bif ((j5x4_0.length : Int) == (1 : Int)) then (opt (at? j5x4_0 (0 : Int)) fun (u55 : S_huff_tree) => (opt (at? (List.replicate ((a0.length : Int)).toNat 0) u55.least) fun (u61 : Int) => (kk10 ((List.replicate ((a0.length : Int)).toNat 0).set (u55.least).toNat (1 : Int))))) else (kk10 (List.replicate ((a0.length : Int)).toNat 0)))))) fun (kk6 : (List S_huff_tree) → Option ((List Int) × Int)) => (f_huff_Lengths_L67 a0 kk6 fu fu ([] : List S_huff_tree) (0 : Int))))) fun (kk2 : Bool → Option ((List Int) × Int)) => (bif (decide ((a0.length : Int) < (1 : Int))) then (kk2 true) else (bif (decide ((a0.length : Int) > (256 : Int))) then (kk2 true) else (opt (f_slices_ContainsFunc___int_int__F60 fu a0) fun (r82 : Bool) => (kk2 r82)))))
set_option maxRecDepth 100000 in
set_option maxHeartbeats 2000000 in
theorem f_huff_Lengths_ok (fu : Nat) (v0_0 : Value) (a0 : (List Int)) {r : ((List Int) × Int)} (h : f_huff_Lengths fu a0 = some r) : FnOk Try.prog 11 [v0_0] [(fDat (tyList (tyInt .i64)) [v0_0] a0)] [] (fun (i : Value) => { val := (Value.tuple #[i, (int .i64 r.2)]), own := [(oRow i 3 (tyInt .i64) r.1)] }) := by
 unfold f_huff_Lengths at h
 refine fn_enter Try.func11 rfl Try.ntmps11 rfl (fun w0 Z0 => ?_)
 refine aw_sr ?_
 refine al_as rfl rfl ?_
 refine al_as rfl rfl ?_
 refine al_nt ?_
 refine aw_seq ?_
 obtain ⟨kk2, hkk2, h⟩ := lt_some h
 refine aw_seq_join (ι := Bool) (fun i => (memOf w0 Z0 [] [] [(fDat (tyList (tyInt .i64)) [v0_0] a0)])) (fun i => (tab [(0, v0_0), (24, (bool i))])) (fun i => kk2 i = some r) ?_ ?_
 ·rintro j1b24 h
  have h : kk2 j1b24 = some r := h
  rw [hkk2] at h
  dsimp only at h
  clear hkk2
  refine aw_show (m := (memOf w0 Z0 [] [] [(fDat (tyList (tyInt .i64)) [v0_0] a0)])) (S := (tab [(0, v0_0), (24, (bool j1b24))])) ?_
  refine aw_cond rfl (fun hb3 => ?_) (fun hb3 => ?_)
  ·replace h := bif_t hb3 h
   refine aw_sr ?_
   refine al_as rfl rfl ?_
   refine al_as rfl rfl ?_
   refine al_nt ?_
   refine aw_ret ?_
   refine aq_then_ret ?_
   refine aq_nilR 3 (tyInt .i64) ?_
   obtain rfl := Option.some.inj h
   exact fn_ret (Value.slice none 0 0) [0] [] rfl rfl rfl rfl (res2 rfl rfl rfl) rfl rfl rfl (by decide)
  ·replace h := bif_f hb3 h
   refine aw_skip ?_
   refine aq_tr ?_
   refine al_val (ov_build (cells := ([(Value.slice none 0 0), (Value.func (.func 61) #[] #[])]).toArray) (cs := [(Value.slice none 0 0), (Value.func (.func 61) #[] #[])]) rfl (fun w a hm hs => by simp only [List.map_toArray, List.map_cons, List.map_nil, List.toList_toArray, hs.ev (x := .func 61) rfl]; kernel_rfl)) ?_
   refine al_box (vs := [(Value.slice none 0 0), (Value.func (.func 61) #[] #[])]) rfl (cv_rfl rfl) rfl (fun g4 => ?_)
   refine al_as rfl rfl ?_
   refine al_nt ?_
   obtain ⟨kk6, hkk6, h⟩ := lt_some h
   refine aw_seq_join (ι := Value × (List S_huff_tree)) (fun i => (memOf w0 Z0 [] [(oRow i.1 122 tyS_huff_tree i.2), (oBox g4 127 [i.1, (Value.func (.func 61) #[] #[])])] [(fDat (tyList (tyInt .i64)) [v0_0] a0)])) (fun i => (tab [(0, v0_0), (4, (ptr g4 0))])) (fun i => kk6 i.2 = some r) ?_ ?_
   ·rintro ⟨j5v4_0, j5x4_0⟩ h
    have h : kk6 j5x4_0 = some r := h
    rw [hkk6] at h
    dsimp only at h
    clear hkk6
    refine aw_show (m := (memOf w0 Z0 [] [(oRow j5v4_0 122 tyS_huff_tree j5x4_0), (oBox g4 127 [j5v4_0, (Value.func (.func 61) #[] #[])])] [(fDat (tyList (tyInt .i64)) [v0_0] a0)])) (S := (tab [(0, v0_0), (4, (ptr g4 0))])) ?_
    refine aw_sr ?_
    refine al_mv rfl rfl ?_
    refine al_val (ov_lenD 0 rfl rfl Try.underlying22 rfl) ?_
    obtain ⟨hc7, h⟩ := req_some h
    refine al_make (τ := (tyInt .i64)) (x0 := 0) hc7.1 hc7.2.1 hc7.2.2 rfl rfl Try.underlying22 to3 (fun _ _ => rfl) rfl rfl (fun v8 => ?_)
    refine al_as rfl rfl ?_
    refine al_nt ?_
    obtain ⟨kk10, hkk10, h⟩ := lt_some h
    refine aw_seq_join (ι := (List Int)) (fun i => (memOf w0 Z0 [] [(oRow j5v4_0 122 tyS_huff_tree j5x4_0), (oBox g4 127 [j5v4_0, (Value.func (.func 61) #[] #[])]), (oRow v8 3 (tyInt .i64) i)] [(fDat (tyList (tyInt .i64)) [v0_0] a0)])) (fun i => (tab [(4, (ptr g4 0)), (7, v8)])) (fun i => kk10 i = some r) ?_ ?_
    ·rintro j9x7 h
     have h : kk10 j9x7 = some r := h
     rw [hkk10] at h
     dsimp only at h
     clear hkk10
     refine aw_show (m := (memOf w0 Z0 [] [(oRow j5v4_0 122 tyS_huff_tree j5x4_0), (oBox g4 127 [j5v4_0, (Value.func (.func 61) #[] #[])]), (oRow v8 3 (tyInt .i64) j9x7)] [(fDat (tyList (tyInt .i64)) [v0_0] a0)])) (S := (tab [(4, (ptr g4 0)), (7, v8)])) ?_
     obtain ⟨kk12, hkk12, h⟩ := lt_some h
     refine aw_seq_join (ι := (List Int)) (fun i => (memOf w0 Z0 [] [(oRow v8 3 (tyInt .i64) i)] [(fDat (tyList (tyInt .i64)) [v0_0] a0)])) (fun i => (tab [(7, v8)])) (fun i => kk12 i = some r) ?_ ?_
     ·rintro j11x7 h
      have h : kk12 j11x7 = some r := h
      rw [hkk12] at h
      dsimp only at h
      clear hkk12
      refine aw_show (m := (memOf w0 Z0 [] [(oRow v8 3 (tyInt .i64) j11x7)] [(fDat (tyList (tyInt .i64)) [v0_0] a0)])) (S := (tab [(7, v8)])) ?_
      refine aw_sr ?_
      refine al_mv rfl rfl ?_
      refine al_as rfl rfl ?_
      refine al_as rfl rfl ?_
      refine al_nt ?_
      refine aw_ret ?_
      obtain rfl := Option.some.inj h
      exact fn_ret v8 [0] [] rfl rfl rfl rfl (res2 rfl rfl rfl) rfl rfl rfl (by decide)
     ·clear hkk12
      refine aw_block ?_
      refine aw_state (aw_loop (ι := Value × (List S_huff_tree) × (List Int)) (fun i => (memOf w0 Z0 [] [(oRow i.1 122 tyS_huff_tree i.2.1), (oBox g4 127 [i.1, (Value.func (.func 61) #[] #[])]), (oRow v8 3 (tyInt .i64) i.2.2)] [(fDat (tyList (tyInt .i64)) [v0_0] a0)])) (fun i => (tab [(4, (ptr g4 0)), (7, v8)])) (fun q i => f_huff_Lengths_L15 kk12 fu q i.2.1 i.2.2 = some r) ?_ fu (j5v4_0, j5x4_0, j9x7) h) (fun w a hm hs => norm hm hs [0, 1, 2] [0] [(4, (ptr g4 0)), (7, v8)] (by decide) ⟨rfl, rfl, trivial⟩)
      clear h
      rintro k14 ⟨l13v4_0, l13x4_0, l13x7⟩ h
      have h : f_huff_Lengths_L15 kk12 fu k14 l13x4_0 l13x7 = some r := h
      obtain _ | k14 := k14
      · rw [f_huff_Lengths_L15] at h; cases h
      rw [f_huff_Lengths_L15] at h
      refine aw_show (m := (memOf w0 Z0 [] [(oRow l13v4_0 122 tyS_huff_tree l13x4_0), (oBox g4 127 [l13v4_0, (Value.func (.func 61) #[] #[])]), (oRow v8 3 (tyInt .i64) l13x7)] [(fDat (tyList (tyInt .i64)) [v0_0] a0)])) (S := (tab [(4, (ptr g4 0)), (7, v8)])) ?_
      obtain ⟨kk16, hkk16, h⟩ := lt_some h
      refine aw_body_join (ι := Value × (List S_huff_tree) × (List Int)) (fun i => (memOf w0 Z0 [] [(oRow i.1 122 tyS_huff_tree i.2.1), (oBox g4 127 [i.1, (Value.func (.func 61) #[] #[])]), (oRow v8 3 (tyInt .i64) i.2.2)] [(fDat (tyList (tyInt .i64)) [v0_0] a0)])) (fun i => (tab [(4, (ptr g4 0)), (7, v8)])) (fun i => kk16 i.2.1 i.2.2 = some r) (fun i h => aq_again k14 i (Nat.lt_succ_self _) (by rw [hkk16] at h; exact h) (fun w a hm hs => ⟨hm, hs⟩)) ?_
      clear hkk16
      refine aw_seq ?_
      refine aw_sr ?_
      refine al_mv rfl rfl ?_
      refine al_val (ov_nilCheck rfl rfl) ?_
      refine al_val (ov_fieldA (p := 0) rfl Try.underlying127 rfl sz125 rfl rfl rfl) ?_
      refine al_val (ov_load (i := 1) (v := l13v4_0) rfl rfl Try.underlying125 sz125 rfl rfl rfl rfl) ?_
      refine al_val (ov_lenR 0 rfl rfl Try.underlying125 rfl) ?_
      refine al_in rfl rfl rfl rfl ?_
      refine al_nt ?_
      refine aw_cond rfl (fun hb17 => ?_) (fun hb17 => ?_)
      ·replace h := bif_t hb17 h
       refine aw_skip ?_
       refine aq_then ?_
       refine aw_block ?_
       refine aw_sr ?_
       refine al_mv rfl rfl ?_
       obtain ⟨r19, hc18, h⟩ := opt_some h
       refine al_call (vs := [(ptr g4 0)]) (f___huff_heap_huff_tree___pop_ok fu g4 l13v4_0 (D_huff_heap_huff_tree_.mk l13x4_0) hc18) [] [1, 0] [2] pre_nil rfl (by simp) (by decide) (.inl rfl) rfl Try.func64 rfl rfl rfl (fun ⟨v20, v21⟩ => ?_)
       refine al_mv rfl rfl ?_
       obtain ⟨r23, hc22, h⟩ := opt_some h
       refine al_call (vs := [(ptr g4 0)]) (f___huff_heap_huff_tree___pop_ok fu g4 v21 r19.2 hc22) [] [0, 1] [2] pre_nil rfl (by simp) (by decide) (.inl rfl) rfl Try.func64 rfl rfl rfl (fun ⟨v24, v25⟩ => ?_)
       refine al_alloc (zs := [(int .i64 (0 : Int)), (int .i64 (0 : Int)), (Value.slice none 0 0)]) (zeroOf_to to122) rfl rfl (fun g26 => ?_)
       refine al_alloc (zs := [(int .i64 (0 : Int)), (int .i64 (0 : Int)), (Value.slice none 0 0)]) (zeroOf_to to122) rfl rfl (fun g27 => ?_)
       refine al_store (i := 1) (vs := [(int .i64 r19.1.weight), (int .i64 r19.1.least), v20]) (cs' := [(int .i64 r19.1.weight), (int .i64 r19.1.least), v20]) rfl rfl rfl sz122 (cv_rfl rfl) rfl (co_val rfl (co_val rfl (co_fz 1 rfl co_nil))) (Nat.le_of_ble_eq_true rfl) rfl rfl ?_
       refine al_store (i := 0) (vs := [(int .i64 r23.1.weight), (int .i64 r23.1.least), v24]) (cs' := [(int .i64 r23.1.weight), (int .i64 r23.1.least), v24]) rfl rfl rfl sz122 (cv_rfl rfl) rfl (co_val rfl (co_val rfl (co_fz 0 rfl co_nil))) (Nat.le_of_ble_eq_true rfl) rfl rfl ?_
       refine al_nt ?_
       refine aw_seq ?_
       refine aw_region_open [⟨0, 72, Unit, fun _ => { val := (ptr g26 0) }⟩, ⟨1, 73, Unit, fun _ => { val := (int .i64 r19.1.weight) }⟩, ⟨2, 74, Unit, fun _ => { val := (ptr g27 0) }⟩, ⟨3, 75, Unit, fun _ => { val := (int .i64 r23.1.weight) }⟩, ⟨4, 76, Unit, fun _ => { val := (int .i64 (IntKind.i64.wrap (r19.1.weight + r23.1.weight))) }⟩, ⟨5, 77, Unit, fun _ => { val := (ptr g26 1) }⟩, ⟨6, 78, Unit, fun _ => { val := (int .i64 r19.1.least) }⟩, ⟨7, 79, Unit, fun _ => { val := (ptr g27 1) }⟩, ⟨8, 80, Unit, fun _ => { val := (int .i64 r23.1.least) }⟩, ⟨9, 81, Unit, fun _ => { val := (int .i64 (if r23.1.least < r19.1.least then r23.1.least else r19.1.least)) }⟩, ⟨10, 82, Unit, fun _ => { val := (ptr g26 2) }⟩, ⟨11, 83, Unit, fun _ => { val := v20 }⟩, ⟨12, 84, Unit, fun _ => { val := (ptr g27 2) }⟩, ⟨13, 85, Unit, fun _ => { val := v24 }⟩, ⟨14, 86, Value, fun (i : Value) => { val := i, own := [(oRow i 22 (tyList (tyInt .i64)) [r19.1.symbols, r23.1.symbols])] }⟩, ⟨17, 10, Nat, fun (i : Nat) => { val := (ptr i 0), own := [(oBox i 122 [(int .i64 (0 : Int)), (int .i64 (0 : Int)), (Value.slice none 0 0)])] }⟩] (tab [(4, (ptr g4 0)), (7, v8), (8, (ptr g26 0)), (9, (ptr g27 0))]) mixed (fun a hs => hs.tab _ (allT_mem ⟨rfl, rfl, rfl, rfl, trivial⟩)) ?_
       refine ta_show (m := (memOf w0 Z0 [] [(oBox g27 122 [(int .i64 r23.1.weight), (int .i64 r23.1.least), v24]), (oBox g26 122 [(int .i64 r19.1.weight), (int .i64 r19.1.least), v20]), (oBox g4 127 [v25, (Value.func (.func 61) #[] #[])]), (oRow v25 122 tyS_huff_tree r23.2.items), (oRow v8 3 (tyInt .i64) l13x7)] [(fDat (tyList (tyInt .i64)) [v24] r23.1.symbols), (fDat (tyList (tyInt .i64)) [v20] r19.1.symbols), (fDat (tyList (tyInt .i64)) [v0_0] a0)])) (S := (tab [(4, (ptr g4 0)), (7, v8), (8, (ptr g26 0)), (9, (ptr g27 0))])) ?_
       refine ta_step 15 _ [0, 1, 2, 3, 4, 5, 6, 7, 8, 9, 10, 11, 12, 13, 14, 17] [72, 73, 74, 75, 76, 77, 78, 79, 80, 81, 82, 83, 84, 85, 86, 10] [10, 11, 12, 13, 14] [16] [⟨10, 82, Unit, fun _ => { val := (ptr g26 2) }⟩, ⟨11, 83, Unit, fun _ => { val := v20 }⟩, ⟨12, 84, Unit, fun _ => { val := (ptr g27 2) }⟩, ⟨13, 85, Unit, fun _ => { val := v24 }⟩, ⟨14, 86, Value, fun (i : Value) => { val := i, own := [(oRow i 22 (tyList (tyInt .i64)) [r19.1.symbols, r23.1.symbols])] }⟩] [⟨0, 72, Unit, fun _ => { val := (ptr g26 0) }⟩, ⟨1, 73, Unit, fun _ => { val := (int .i64 r19.1.weight) }⟩, ⟨2, 74, Unit, fun _ => { val := (ptr g27 0) }⟩, ⟨3, 75, Unit, fun _ => { val := (int .i64 r23.1.weight) }⟩, ⟨4, 76, Unit, fun _ => { val := (int .i64 (IntKind.i64.wrap (r19.1.weight + r23.1.weight))) }⟩, ⟨5, 77, Unit, fun _ => { val := (ptr g26 1) }⟩, ⟨6, 78, Unit, fun _ => { val := (int .i64 r19.1.least) }⟩, ⟨7, 79, Unit, fun _ => { val := (ptr g27 1) }⟩, ⟨8, 80, Unit, fun _ => { val := (int .i64 r23.1.least) }⟩, ⟨9, 81, Unit, fun _ => { val := (int .i64 (if r23.1.least < r19.1.least then r23.1.least else r19.1.least)) }⟩, ⟨17, 10, Nat, fun (i : Nat) => { val := (ptr i 0), own := [(oBox i 122 [(int .i64 (0 : Int)), (int .i64 (0 : Int)), (Value.slice none 0 0)])] }⟩] rfl rfl rfl (by kernel_rfl) rfl rfl rfl ⟨⟨_, rfl, [], rfl, by
 intro X_ Y_ F_ K_ hK_
 refine al_show (m := Mem.plus (memOf w0 Z0 [] [(oBox g27 122 [(int .i64 r23.1.weight), (int .i64 r23.1.least), v24]), (oBox g26 122 [(int .i64 r19.1.weight), (int .i64 r19.1.least), v20]), (oBox g4 127 [v25, (Value.func (.func 61) #[] #[])]), (oRow v25 122 tyS_huff_tree r23.2.items), (oRow v8 3 (tyInt .i64) l13x7)] [(fDat (tyList (tyInt .i64)) [v24] r23.1.symbols), (fDat (tyList (tyInt .i64)) [v20] r19.1.symbols), (fDat (tyList (tyInt .i64)) [v0_0] a0)]) X_ Y_) (S := over (tab [(4, (ptr g4 0)), (7, v8), (8, (ptr g26 0)), (9, (ptr g27 0))]) F_) ?_
 refine al_val (ov_fieldA (p := 0) rfl Try.underlying122 rfl sz3 rfl rfl rfl) ?_
 refine al_nil ?_
 exact fr_fin hK_ ()⟩, ⟨_, rfl, [0], rfl, by
 intro _
 intro X_ Y_ F_ K_ hK_
 refine al_show (m := Mem.plus (memOf w0 Z0 [] [(oBox g27 122 [(int .i64 r23.1.weight), (int .i64 r23.1.least), v24]), (oBox g26 122 [(int .i64 r19.1.weight), (int .i64 r19.1.least), v20]), (oBox g4 127 [v25, (Value.func (.func 61) #[] #[])]), (oRow v25 122 tyS_huff_tree r23.2.items), (oRow v8 3 (tyInt .i64) l13x7)] [(fDat (tyList (tyInt .i64)) [v24] r23.1.symbols), (fDat (tyList (tyInt .i64)) [v20] r19.1.symbols), (fDat (tyList (tyInt .i64)) [v0_0] a0)]) X_ Y_) (S := over (put (tab [(4, (ptr g4 0)), (7, v8), (8, (ptr g26 0)), (9, (ptr g27 0))]) 72 (ptr g26 0)) F_) ?_
 refine al_val (ov_load (i := 1) (v := (int .i64 r19.1.weight)) rfl rfl Try.underlying3 sz3 rfl rfl rfl rfl) ?_
 refine al_nil ?_
 exact fr_fin hK_ ()⟩, ⟨_, rfl, [], rfl, by
 intro X_ Y_ F_ K_ hK_
 refine al_show (m := Mem.plus (memOf w0 Z0 [] [(oBox g27 122 [(int .i64 r23.1.weight), (int .i64 r23.1.least), v24]), (oBox g26 122 [(int .i64 r19.1.weight), (int .i64 r19.1.least), v20]), (oBox g4 127 [v25, (Value.func (.func 61) #[] #[])]), (oRow v25 122 tyS_huff_tree r23.2.items), (oRow v8 3 (tyInt .i64) l13x7)] [(fDat (tyList (tyInt .i64)) [v24] r23.1.symbols), (fDat (tyList (tyInt .i64)) [v20] r19.1.symbols), (fDat (tyList (tyInt .i64)) [v0_0] a0)]) X_ Y_) (S := over (tab [(4, (ptr g4 0)), (7, v8), (8, (ptr g26 0)), (9, (ptr g27 0))]) F_) ?_
 refine al_val (ov_fieldA (p := 0) rfl Try.underlying122 rfl sz3 rfl rfl rfl) ?_
 refine al_nil ?_
 exact fr_fin hK_ ()⟩, ⟨_, rfl, [2], rfl, by
 intro _
 intro X_ Y_ F_ K_ hK_
 refine al_show (m := Mem.plus (memOf w0 Z0 [] [(oBox g27 122 [(int .i64 r23.1.weight), (int .i64 r23.1.least), v24]), (oBox g26 122 [(int .i64 r19.1.weight), (int .i64 r19.1.least), v20]), (oBox g4 127 [v25, (Value.func (.func 61) #[] #[])]), (oRow v25 122 tyS_huff_tree r23.2.items), (oRow v8 3 (tyInt .i64) l13x7)] [(fDat (tyList (tyInt .i64)) [v24] r23.1.symbols), (fDat (tyList (tyInt .i64)) [v20] r19.1.symbols), (fDat (tyList (tyInt .i64)) [v0_0] a0)]) X_ Y_) (S := over (put (tab [(4, (ptr g4 0)), (7, v8), (8, (ptr g26 0)), (9, (ptr g27 0))]) 74 (ptr g27 0)) F_) ?_
 refine al_val (ov_load (i := 0) (v := (int .i64 r23.1.weight)) rfl rfl Try.underlying3 sz3 rfl rfl rfl rfl) ?_
 refine al_nil ?_
 exact fr_fin hK_ ()⟩, ⟨_, rfl, [1, 3], rfl, by
 intro _
 intro _
 intro X_ Y_ F_ K_ hK_
 refine al_show (m := Mem.plus (memOf w0 Z0 [] [(oBox g27 122 [(int .i64 r23.1.weight), (int .i64 r23.1.least), v24]), (oBox g26 122 [(int .i64 r19.1.weight), (int .i64 r19.1.least), v20]), (oBox g4 127 [v25, (Value.func (.func 61) #[] #[])]), (oRow v25 122 tyS_huff_tree r23.2.items), (oRow v8 3 (tyInt .i64) l13x7)] [(fDat (tyList (tyInt .i64)) [v24] r23.1.symbols), (fDat (tyList (tyInt .i64)) [v20] r19.1.symbols), (fDat (tyList (tyInt .i64)) [v0_0] a0)]) X_ Y_) (S := over (put (put (tab [(4, (ptr g4 0)), (7, v8), (8, (ptr g26 0)), (9, (ptr g27 0))]) 73 (int .i64 r19.1.weight)) 75 (int .i64 r23.1.weight)) F_) ?_
 refine al_in rfl rfl rfl rfl ?_
 refine al_nil ?_
 exact fr_fin hK_ ()⟩, ⟨_, rfl, [], rfl, by
 intro X_ Y_ F_ K_ hK_
 refine al_show (m := Mem.plus (memOf w0 Z0 [] [(oBox g27 122 [(int .i64 r23.1.weight), (int .i64 r23.1.least), v24]), (oBox g26 122 [(int .i64 r19.1.weight), (int .i64 r19.1.least), v20]), (oBox g4 127 [v25, (Value.func (.func 61) #[] #[])]), (oRow v25 122 tyS_huff_tree r23.2.items), (oRow v8 3 (tyInt .i64) l13x7)] [(fDat (tyList (tyInt .i64)) [v24] r23.1.symbols), (fDat (tyList (tyInt .i64)) [v20] r19.1.symbols), (fDat (tyList (tyInt .i64)) [v0_0] a0)]) X_ Y_) (S := over (tab [(4, (ptr g4 0)), (7, v8), (8, (ptr g26 0)), (9, (ptr g27 0))]) F_) ?_
 refine al_val (ov_fieldA (p := 1) rfl Try.underlying122 rfl sz3 rfl rfl rfl) ?_
 refine al_nil ?_
 exact fr_fin hK_ ()⟩, ⟨_, rfl, [5], rfl, by
 intro _
 intro X_ Y_ F_ K_ hK_
 refine al_show (m := Mem.plus (memOf w0 Z0 [] [(oBox g27 122 [(int .i64 r23.1.weight), (int .i64 r23.1.least), v24]), (oBox g26 122 [(int .i64 r19.1.weight), (int .i64 r19.1.least), v20]), (oBox g4 127 [v25, (Value.func (.func 61) #[] #[])]), (oRow v25 122 tyS_huff_tree r23.2.items), (oRow v8 3 (tyInt .i64) l13x7)] [(fDat (tyList (tyInt .i64)) [v24] r23.1.symbols), (fDat (tyList (tyInt .i64)) [v20] r19.1.symbols), (fDat (tyList (tyInt .i64)) [v0_0] a0)]) X_ Y_) (S := over (put (tab [(4, (ptr g4 0)), (7, v8), (8, (ptr g26 0)), (9, (ptr g27 0))]) 77 (ptr g26 1)) F_) ?_
 refine al_val (ov_load (i := 1) (v := (int .i64 r19.1.least)) rfl rfl Try.underlying3 sz3 rfl rfl rfl rfl) ?_
 refine al_nil ?_
 exact fr_fin hK_ ()⟩, ⟨_, rfl, [], rfl, by
 intro X_ Y_ F_ K_ hK_
 refine al_show (m := Mem.plus (memOf w0 Z0 [] [(oBox g27 122 [(int .i64 r23.1.weight), (int .i64 r23.1.least), v24]), (oBox g26 122 [(int .i64 r19.1.weight), (int .i64 r19.1.least), v20]), (oBox g4 127 [v25, (Value.func (.func 61) #[] #[])]), (oRow v25 122 tyS_huff_tree r23.2.items), (oRow v8 3 (tyInt .i64) l13x7)] [(fDat (tyList (tyInt .i64)) [v24] r23.1.symbols), (fDat (tyList (tyInt .i64)) [v20] r19.1.symbols), (fDat (tyList (tyInt .i64)) [v0_0] a0)]) X_ Y_) (S := over (tab [(4, (ptr g4 0)), (7, v8), (8, (ptr g26 0)), (9, (ptr g27 0))]) F_) ?_
 refine al_val (ov_fieldA (p := 1) rfl Try.underlying122 rfl sz3 rfl rfl rfl) ?_
 refine al_nil ?_
 exact fr_fin hK_ ()⟩, ⟨_, rfl, [7], rfl, by
 intro _
 intro X_ Y_ F_ K_ hK_
 refine al_show (m := Mem.plus (memOf w0 Z0 [] [(oBox g27 122 [(int .i64 r23.1.weight), (int .i64 r23.1.least), v24]), (oBox g26 122 [(int .i64 r19.1.weight), (int .i64 r19.1.least), v20]), (oBox g4 127 [v25, (Value.func (.func 61) #[] #[])]), (oRow v25 122 tyS_huff_tree r23.2.items), (oRow v8 3 (tyInt .i64) l13x7)] [(fDat (tyList (tyInt .i64)) [v24] r23.1.symbols), (fDat (tyList (tyInt .i64)) [v20] r19.1.symbols), (fDat (tyList (tyInt .i64)) [v0_0] a0)]) X_ Y_) (S := over (put (tab [(4, (ptr g4 0)), (7, v8), (8, (ptr g26 0)), (9, (ptr g27 0))]) 79 (ptr g27 1)) F_) ?_
 refine al_val (ov_load (i := 0) (v := (int .i64 r23.1.least)) rfl rfl Try.underlying3 sz3 rfl rfl rfl rfl) ?_
 refine al_nil ?_
 exact fr_fin hK_ ()⟩, ⟨_, rfl, [6, 8], rfl, by
 intro _
 intro _
 intro X_ Y_ F_ K_ hK_
 refine al_show (m := Mem.plus (memOf w0 Z0 [] [(oBox g27 122 [(int .i64 r23.1.weight), (int .i64 r23.1.least), v24]), (oBox g26 122 [(int .i64 r19.1.weight), (int .i64 r19.1.least), v20]), (oBox g4 127 [v25, (Value.func (.func 61) #[] #[])]), (oRow v25 122 tyS_huff_tree r23.2.items), (oRow v8 3 (tyInt .i64) l13x7)] [(fDat (tyList (tyInt .i64)) [v24] r23.1.symbols), (fDat (tyList (tyInt .i64)) [v20] r19.1.symbols), (fDat (tyList (tyInt .i64)) [v0_0] a0)]) X_ Y_) (S := over (put (put (tab [(4, (ptr g4 0)), (7, v8), (8, (ptr g26 0)), (9, (ptr g27 0))]) 78 (int .i64 r19.1.least)) 80 (int .i64 r23.1.least)) F_) ?_
 refine al_val (ov_min rfl rfl rfl) ?_
 refine al_nil ?_
 exact fr_fin hK_ ()⟩, ⟨_, rfl, [], rfl, by
 intro X_ Y_ F_ K_ hK_
 refine al_show (m := Mem.plus (memOf w0 Z0 [] [(oBox g27 122 [(int .i64 r23.1.weight), (int .i64 r23.1.least), v24]), (oBox g26 122 [(int .i64 r19.1.weight), (int .i64 r19.1.least), v20]), (oBox g4 127 [v25, (Value.func (.func 61) #[] #[])]), (oRow v25 122 tyS_huff_tree r23.2.items), (oRow v8 3 (tyInt .i64) l13x7)] [(fDat (tyList (tyInt .i64)) [v24] r23.1.symbols), (fDat (tyList (tyInt .i64)) [v20] r19.1.symbols), (fDat (tyList (tyInt .i64)) [v0_0] a0)]) X_ Y_) (S := over (tab [(4, (ptr g4 0)), (7, v8), (8, (ptr g26 0)), (9, (ptr g27 0))]) F_) ?_
 refine al_val (ov_fieldA (p := 2) rfl Try.underlying122 rfl sz22 rfl rfl rfl) ?_
 refine al_nil ?_
 exact fr_fin hK_ ()⟩, ⟨_, rfl, [10], rfl, by
 intro _
 intro X_ Y_ F_ K_ hK_
 refine al_show (m := Mem.plus (memOf w0 Z0 [] [(oBox g27 122 [(int .i64 r23.1.weight), (int .i64 r23.1.least), v24]), (oBox g26 122 [(int .i64 r19.1.weight), (int .i64 r19.1.least), v20]), (oBox g4 127 [v25, (Value.func (.func 61) #[] #[])]), (oRow v25 122 tyS_huff_tree r23.2.items), (oRow v8 3 (tyInt .i64) l13x7)] [(fDat (tyList (tyInt .i64)) [v24] r23.1.symbols), (fDat (tyList (tyInt .i64)) [v20] r19.1.symbols), (fDat (tyList (tyInt .i64)) [v0_0] a0)]) X_ Y_) (S := over (put (tab [(4, (ptr g4 0)), (7, v8), (8, (ptr g26 0)), (9, (ptr g27 0))]) 82 (ptr g26 2)) F_) ?_
 refine al_val (ov_load (i := 1) (v := v20) rfl rfl Try.underlying22 sz22 rfl rfl rfl rfl) ?_
 refine al_nil ?_
 exact fr_fin hK_ ()⟩, ⟨_, rfl, [], rfl, by
 intro X_ Y_ F_ K_ hK_
 refine al_show (m := Mem.plus (memOf w0 Z0 [] [(oBox g27 122 [(int .i64 r23.1.weight), (int .i64 r23.1.least), v24]), (oBox g26 122 [(int .i64 r19.1.weight), (int .i64 r19.1.least), v20]), (oBox g4 127 [v25, (Value.func (.func 61) #[] #[])]), (oRow v25 122 tyS_huff_tree r23.2.items), (oRow v8 3 (tyInt .i64) l13x7)] [(fDat (tyList (tyInt .i64)) [v24] r23.1.symbols), (fDat (tyList (tyInt .i64)) [v20] r19.1.symbols), (fDat (tyList (tyInt .i64)) [v0_0] a0)]) X_ Y_) (S := over (tab [(4, (ptr g4 0)), (7, v8), (8, (ptr g26 0)), (9, (ptr g27 0))]) F_) ?_
 refine al_val (ov_fieldA (p := 2) rfl Try.underlying122 rfl sz22 rfl rfl rfl) ?_
 refine al_nil ?_
 exact fr_fin hK_ ()⟩, ⟨_, rfl, [12], rfl, by
 intro _
 intro X_ Y_ F_ K_ hK_
 refine al_show (m := Mem.plus (memOf w0 Z0 [] [(oBox g27 122 [(int .i64 r23.1.weight), (int .i64 r23.1.least), v24]), (oBox g26 122 [(int .i64 r19.1.weight), (int .i64 r19.1.least), v20]), (oBox g4 127 [v25, (Value.func (.func 61) #[] #[])]), (oRow v25 122 tyS_huff_tree r23.2.items), (oRow v8 3 (tyInt .i64) l13x7)] [(fDat (tyList (tyInt .i64)) [v24] r23.1.symbols), (fDat (tyList (tyInt .i64)) [v20] r19.1.symbols), (fDat (tyList (tyInt .i64)) [v0_0] a0)]) X_ Y_) (S := over (put (tab [(4, (ptr g4 0)), (7, v8), (8, (ptr g26 0)), (9, (ptr g27 0))]) 84 (ptr g27 2)) F_) ?_
 refine al_val (ov_load (i := 0) (v := v24) rfl rfl Try.underlying22 sz22 rfl rfl rfl rfl) ?_
 refine al_nil ?_
 exact fr_fin hK_ ()⟩, ⟨_, rfl, [11, 13], rfl, by
 intro _
 intro _
 intro X_ Y_ F_ K_ hK_
 refine al_show (m := Mem.plus (memOf w0 Z0 [] [(oBox g27 122 [(int .i64 r23.1.weight), (int .i64 r23.1.least), v24]), (oBox g26 122 [(int .i64 r19.1.weight), (int .i64 r19.1.least), v20]), (oBox g4 127 [v25, (Value.func (.func 61) #[] #[])]), (oRow v25 122 tyS_huff_tree r23.2.items), (oRow v8 3 (tyInt .i64) l13x7)] [(fDat (tyList (tyInt .i64)) [v24] r23.1.symbols), (fDat (tyList (tyInt .i64)) [v20] r19.1.symbols), (fDat (tyList (tyInt .i64)) [v0_0] a0)]) X_ Y_) (S := over (put (put (tab [(4, (ptr g4 0)), (7, v8), (8, (ptr g26 0)), (9, (ptr g27 0))]) 83 v20) 85 v24) F_) ?_
 refine al_buildSlice (τ := (tyList (tyInt .i64))) (e := 22) (k := 2) (sz := 0) (by_ := 0) (z := undef) (cs := [v20, v24]) (xs := [r19.1.symbols, r23.1.symbols]) rfl (by decide) (fun w a hm hs => ⟨([v20, v24]).toArray, rfl, by simp only [List.map_toArray, List.map_cons, List.map_nil, hs.ev (x := .tmp 83) rfl, hs.ev (x := .tmp 85) rfl]; exact run_bs [v20, v24] [v20, v24] Try.underlying204 to22 rfl rfl (bs_cons (l := [v20]) (cs := [v24]) (cv_fz 1 rfl) rfl (bs_cons (l := [v24]) (cs := []) (cv_fz 0 rfl) rfl bs_nil)) hm⟩) (fun hm => ⟨_, _, rfl, (fun hm => fz_at (i := 1) hm rfl) hm, ⟨_, _, rfl, (fun hm => fz_at (i := 0) hm rfl) hm, rfl⟩⟩) rfl (fun v28 => ?_)
 refine al_nil ?_
 exact fr_fin hK_ v28⟩, ⟨_, rfl, [], rfl, by
 intro X_ Y_ F_ K_ hK_
 refine al_show (m := Mem.plus (memOf w0 Z0 [] [(oBox g27 122 [(int .i64 r23.1.weight), (int .i64 r23.1.least), v24]), (oBox g26 122 [(int .i64 r19.1.weight), (int .i64 r19.1.least), v20]), (oBox g4 127 [v25, (Value.func (.func 61) #[] #[])]), (oRow v25 122 tyS_huff_tree r23.2.items), (oRow v8 3 (tyInt .i64) l13x7)] [(fDat (tyList (tyInt .i64)) [v24] r23.1.symbols), (fDat (tyList (tyInt .i64)) [v20] r19.1.symbols), (fDat (tyList (tyInt .i64)) [v0_0] a0)]) X_ Y_) (S := over (tab [(4, (ptr g4 0)), (7, v8), (8, (ptr g26 0)), (9, (ptr g27 0))]) F_) ?_
 refine al_alloc (zs := [(int .i64 (0 : Int)), (int .i64 (0 : Int)), (Value.slice none 0 0)]) (zeroOf_to to122) rfl rfl (fun g29 => ?_)
 refine al_nil ?_
 exact fr_fin hK_ g29⟩, trivial⟩ ?_
       intro _
       intro _
       intro _
       intro _
       intro v28
       intro X_ Y_ F_ K_ hK_
       refine al_show (m := Mem.plus (memOf w0 Z0 [] [(oRow v28 22 (tyList (tyInt .i64)) [r19.1.symbols, r23.1.symbols]), (oBox g27 122 [(int .i64 r23.1.weight), (int .i64 r23.1.least), v24]), (oBox g26 122 [(int .i64 r19.1.weight), (int .i64 r19.1.least), v20]), (oBox g4 127 [v25, (Value.func (.func 61) #[] #[])]), (oRow v25 122 tyS_huff_tree r23.2.items), (oRow v8 3 (tyInt .i64) l13x7)] [(fDat (tyList (tyInt .i64)) [v24] r23.1.symbols), (fDat (tyList (tyInt .i64)) [v20] r19.1.symbols), (fDat (tyList (tyInt .i64)) [v0_0] a0)]) X_ Y_) (S := over (put (put (put (put (put (tab [(4, (ptr g4 0)), (7, v8), (8, (ptr g26 0)), (9, (ptr g27 0))]) 82 (ptr g26 2)) 83 v20) 84 (ptr g27 2)) 85 v24) 86 v28) F_) ?_
       obtain ⟨r31, hc30, h⟩ := opt_some h
       refine al_callX (vs := [v28]) (f_slices_Concat___int_int__ok fu v28 ([r19.1.symbols, r23.1.symbols]) hc30) [0] [] [0, 1, 2, 3, 4, 5] (pre_own 0 rfl rfl pre_nil) rfl (by simp) (by decide) rfl (.inr (flat_res1 (fun _ => flat_row flat_enc))) rfl Try.func65 rfl rfl rfl (fun v32 => ?_)
       refine al_nil ?_
       refine aq_show (m := Mem.plus (memOf w0 Z0 [] [(oRow v32 3 (tyInt .i64) r31), (oRow v28 22 (tyList (tyInt .i64)) [r19.1.symbols, r23.1.symbols]), (oBox g27 122 [(int .i64 r23.1.weight), (int .i64 r23.1.least), v24]), (oBox g26 122 [(int .i64 r19.1.weight), (int .i64 r19.1.least), v20]), (oBox g4 127 [v25, (Value.func (.func 61) #[] #[])]), (oRow v25 122 tyS_huff_tree r23.2.items), (oRow v8 3 (tyInt .i64) l13x7)] [(fDat (tyList (tyInt .i64)) [v24] r23.1.symbols), (fDat (tyList (tyInt .i64)) [v20] r19.1.symbols), (fDat (tyList (tyInt .i64)) [v0_0] a0)]) X_ Y_) ?_
       refine aq_next hK_ [0, 1, 2, 3, 4, 5, 6] [0, 1, 2] [(4, (ptr g4 0)), (7, v8), (8, (ptr g26 0)), (9, (ptr g27 0)), (87, v32)] [72, 73, 74, 75, 76, 77, 78, 79, 80, 81, 10] [⟨16, 88, Unit, fun _ => { val := (ag [(int .i64 (IntKind.i64.wrap (r19.1.weight + r23.1.weight))), (int .i64 (if r23.1.least < r19.1.least then r23.1.least else r19.1.least)), v32]) }⟩] rfl rfl (by decide) rfl ⟨rfl, rfl, rfl, rfl, rfl, trivial⟩ ⟨rfl, rfl, rfl, rfl, rfl, rfl, rfl, rfl, rfl, rfl, rfl, trivial⟩ ?_
       clear hK_ K_ F_ X_ Y_
       refine ta_show (m := (memOf w0 Z0 [] [(oRow v32 3 (tyInt .i64) r31), (oRow v28 22 (tyList (tyInt .i64)) [r19.1.symbols, r23.1.symbols]), (oBox g27 122 [(int .i64 r23.1.weight), (int .i64 r23.1.least), v24]), (oBox g26 122 [(int .i64 r19.1.weight), (int .i64 r19.1.least), v20]), (oBox g4 127 [v25, (Value.func (.func 61) #[] #[])]), (oRow v25 122 tyS_huff_tree r23.2.items), (oRow v8 3 (tyInt .i64) l13x7)] [(fDat (tyList (tyInt .i64)) [v24] r23.1.symbols), (fDat (tyList (tyInt .i64)) [v20] r19.1.symbols), (fDat (tyList (tyInt .i64)) [v0_0] a0)])) (S := (tab [(4, (ptr g4 0)), (7, v8), (8, (ptr g26 0)), (9, (ptr g27 0)), (87, v32)])) ?_
       refine ta_step 18 _ [0, 1, 2, 3, 4, 5, 6, 7, 8, 9, 17, 16] [72, 73, 74, 75, 76, 77, 78, 79, 80, 81, 10, 88] [0, 1, 2, 3, 4, 5, 6, 7, 8, 9, 17, 16] [] [⟨0, 72, Unit, fun _ => { val := (ptr g26 0) }⟩, ⟨1, 73, Unit, fun _ => { val := (int .i64 r19.1.weight) }⟩, ⟨2, 74, Unit, fun _ => { val := (ptr g27 0) }⟩, ⟨3, 75, Unit, fun _ => { val := (int .i64 r23.1.weight) }⟩, ⟨4, 76, Unit, fun _ => { val := (int .i64 (IntKind.i64.wrap (r19.1.weight + r23.1.weight))) }⟩, ⟨5, 77, Unit, fun _ => { val := (ptr g26 1) }⟩, ⟨6, 78, Unit, fun _ => { val := (int .i64 r19.1.least) }⟩, ⟨7, 79, Unit, fun _ => { val := (ptr g27 1) }⟩, ⟨8, 80, Unit, fun _ => { val := (int .i64 r23.1.least) }⟩, ⟨9, 81, Unit, fun _ => { val := (int .i64 (if r23.1.least < r19.1.least then r23.1.least else r19.1.least)) }⟩, ⟨17, 10, Nat, fun (i : Nat) => { val := (ptr i 0), own := [(oBox i 122 [(int .i64 (0 : Int)), (int .i64 (0 : Int)), (Value.slice none 0 0)])] }⟩, ⟨16, 88, Unit, fun _ => { val := (ag [(int .i64 (IntKind.i64.wrap (r19.1.weight + r23.1.weight))), (int .i64 (if r23.1.least < r19.1.least then r23.1.least else r19.1.least)), v32]) }⟩] [] rfl rfl rfl (by kernel_rfl) rfl rfl rfl ⟨⟨_, rfl, [], rfl, by
 intro X_ Y_ F_ K_ hK_
 refine al_show (m := Mem.plus (memOf w0 Z0 [] [(oRow v32 3 (tyInt .i64) r31), (oRow v28 22 (tyList (tyInt .i64)) [r19.1.symbols, r23.1.symbols]), (oBox g27 122 [(int .i64 r23.1.weight), (int .i64 r23.1.least), v24]), (oBox g26 122 [(int .i64 r19.1.weight), (int .i64 r19.1.least), v20]), (oBox g4 127 [v25, (Value.func (.func 61) #[] #[])]), (oRow v25 122 tyS_huff_tree r23.2.items), (oRow v8 3 (tyInt .i64) l13x7)] [(fDat (tyList (tyInt .i64)) [v24] r23.1.symbols), (fDat (tyList (tyInt .i64)) [v20] r19.1.symbols), (fDat (tyList (tyInt .i64)) [v0_0] a0)]) X_ Y_) (S := over (tab [(4, (ptr g4 0)), (7, v8), (8, (ptr g26 0)), (9, (ptr g27 0)), (87, v32)]) F_) ?_
 refine al_val (ov_fieldA (p := 0) rfl Try.underlying122 rfl sz3 rfl rfl rfl) ?_
 refine al_nil ?_
 exact fr_fin hK_ ()⟩, ⟨_, rfl, [0], rfl, by
 intro _
 intro X_ Y_ F_ K_ hK_
 refine al_show (m := Mem.plus (memOf w0 Z0 [] [(oRow v32 3 (tyInt .i64) r31), (oRow v28 22 (tyList (tyInt .i64)) [r19.1.symbols, r23.1.symbols]), (oBox g27 122 [(int .i64 r23.1.weight), (int .i64 r23.1.least), v24]), (oBox g26 122 [(int .i64 r19.1.weight), (int .i64 r19.1.least), v20]), (oBox g4 127 [v25, (Value.func (.func 61) #[] #[])]), (oRow v25 122 tyS_huff_tree r23.2.items), (oRow v8 3 (tyInt .i64) l13x7)] [(fDat (tyList (tyInt .i64)) [v24] r23.1.symbols), (fDat (tyList (tyInt .i64)) [v20] r19.1.symbols), (fDat (tyList (tyInt .i64)) [v0_0] a0)]) X_ Y_) (S := over (put (tab [(4, (ptr g4 0)), (7, v8), (8, (ptr g26 0)), (9, (ptr g27 0)), (87, v32)]) 72 (ptr g26 0)) F_) ?_
 refine al_val (ov_load (i := 3) (v := (int .i64 r19.1.weight)) rfl rfl Try.underlying3 sz3 rfl rfl rfl rfl) ?_
 refine al_nil ?_
 exact fr_fin hK_ ()⟩, ⟨_, rfl, [], rfl, by
 intro X_ Y_ F_ K_ hK_
 refine al_show (m := Mem.plus (memOf w0 Z0 [] [(oRow v32 3 (tyInt .i64) r31), (oRow v28 22 (tyList (tyInt .i64)) [r19.1.symbols, r23.1.symbols]), (oBox g27 122 [(int .i64 r23.1.weight), (int .i64 r23.1.least), v24]), (oBox g26 122 [(int .i64 r19.1.weight), (int .i64 r19.1.least), v20]), (oBox g4 127 [v25, (Value.func (.func 61) #[] #[])]), (oRow v25 122 tyS_huff_tree r23.2.items), (oRow v8 3 (tyInt .i64) l13x7)] [(fDat (tyList (tyInt .i64)) [v24] r23.1.symbols), (fDat (tyList (tyInt .i64)) [v20] r19.1.symbols), (fDat (tyList (tyInt .i64)) [v0_0] a0)]) X_ Y_) (S := over (tab [(4, (ptr g4 0)), (7, v8), (8, (ptr g26 0)), (9, (ptr g27 0)), (87, v32)]) F_) ?_
 refine al_val (ov_fieldA (p := 0) rfl Try.underlying122 rfl sz3 rfl rfl rfl) ?_
 refine al_nil ?_
 exact fr_fin hK_ ()⟩, ⟨_, rfl, [2], rfl, by
 intro _
 intro X_ Y_ F_ K_ hK_
 refine al_show (m := Mem.plus (memOf w0 Z0 [] [(oRow v32 3 (tyInt .i64) r31), (oRow v28 22 (tyList (tyInt .i64)) [r19.1.symbols, r23.1.symbols]), (oBox g27 122 [(int .i64 r23.1.weight), (int .i64 r23.1.least), v24]), (oBox g26 122 [(int .i64 r19.1.weight), (int .i64 r19.1.least), v20]), (oBox g4 127 [v25, (Value.func (.func 61) #[] #[])]), (oRow v25 122 tyS_huff_tree r23.2.items), (oRow v8 3 (tyInt .i64) l13x7)] [(fDat (tyList (tyInt .i64)) [v24] r23.1.symbols), (fDat (tyList (tyInt .i64)) [v20] r19.1.symbols), (fDat (tyList (tyInt .i64)) [v0_0] a0)]) X_ Y_) (S := over (put (tab [(4, (ptr g4 0)), (7, v8), (8, (ptr g26 0)), (9, (ptr g27 0)), (87, v32)]) 74 (ptr g27 0)) F_) ?_
 refine al_val (ov_load (i := 2) (v := (int .i64 r23.1.weight)) rfl rfl Try.underlying3 sz3 rfl rfl rfl rfl) ?_
 refine al_nil ?_
 exact fr_fin hK_ ()⟩, ⟨_, rfl, [1, 3], rfl, by
 intro _
 intro _
 intro X_ Y_ F_ K_ hK_
 refine al_show (m := Mem.plus (memOf w0 Z0 [] [(oRow v32 3 (tyInt .i64) r31), (oRow v28 22 (tyList (tyInt .i64)) [r19.1.symbols, r23.1.symbols]), (oBox g27 122 [(int .i64 r23.1.weight), (int .i64 r23.1.least), v24]), (oBox g26 122 [(int .i64 r19.1.weight), (int .i64 r19.1.least), v20]), (oBox g4 127 [v25, (Value.func (.func 61) #[] #[])]), (oRow v25 122 tyS_huff_tree r23.2.items), (oRow v8 3 (tyInt .i64) l13x7)] [(fDat (tyList (tyInt .i64)) [v24] r23.1.symbols), (fDat (tyList (tyInt .i64)) [v20] r19.1.symbols), (fDat (tyList (tyInt .i64)) [v0_0] a0)]) X_ Y_) (S := over (put (put (tab [(4, (ptr g4 0)), (7, v8), (8, (ptr g26 0)), (9, (ptr g27 0)), (87, v32)]) 73 (int .i64 r19.1.weight)) 75 (int .i64 r23.1.weight)) F_) ?_
 refine al_in rfl rfl rfl rfl ?_
 refine al_nil ?_
 exact fr_fin hK_ ()⟩, ⟨_, rfl, [], rfl, by
 intro X_ Y_ F_ K_ hK_
 refine al_show (m := Mem.plus (memOf w0 Z0 [] [(oRow v32 3 (tyInt .i64) r31), (oRow v28 22 (tyList (tyInt .i64)) [r19.1.symbols, r23.1.symbols]), (oBox g27 122 [(int .i64 r23.1.weight), (int .i64 r23.1.least), v24]), (oBox g26 122 [(int .i64 r19.1.weight), (int .i64 r19.1.least), v20]), (oBox g4 127 [v25, (Value.func (.func 61) #[] #[])]), (oRow v25 122 tyS_huff_tree r23.2.items), (oRow v8 3 (tyInt .i64) l13x7)] [(fDat (tyList (tyInt .i64)) [v24] r23.1.symbols), (fDat (tyList (tyInt .i64)) [v20] r19.1.symbols), (fDat (tyList (tyInt .i64)) [v0_0] a0)]) X_ Y_) (S := over (tab [(4, (ptr g4 0)), (7, v8), (8, (ptr g26 0)), (9, (ptr g27 0)), (87, v32)]) F_) ?_
 refine al_val (ov_fieldA (p := 1) rfl Try.underlying122 rfl sz3 rfl rfl rfl) ?_
 refine al_nil ?_
 exact fr_fin hK_ ()⟩, ⟨_, rfl, [5], rfl, by
 intro _
 intro X_ Y_ F_ K_ hK_
 refine al_show (m := Mem.plus (memOf w0 Z0 [] [(oRow v32 3 (tyInt .i64) r31), (oRow v28 22 (tyList (tyInt .i64)) [r19.1.symbols, r23.1.symbols]), (oBox g27 122 [(int .i64 r23.1.weight), (int .i64 r23.1.least), v24]), (oBox g26 122 [(int .i64 r19.1.weight), (int .i64 r19.1.least), v20]), (oBox g4 127 [v25, (Value.func (.func 61) #[] #[])]), (oRow v25 122 tyS_huff_tree r23.2.items), (oRow v8 3 (tyInt .i64) l13x7)] [(fDat (tyList (tyInt .i64)) [v24] r23.1.symbols), (fDat (tyList (tyInt .i64)) [v20] r19.1.symbols), (fDat (tyList (tyInt .i64)) [v0_0] a0)]) X_ Y_) (S := over (put (tab [(4, (ptr g4 0)), (7, v8), (8, (ptr g26 0)), (9, (ptr g27 0)), (87, v32)]) 77 (ptr g26 1)) F_) ?_
 refine al_val (ov_load (i := 3) (v := (int .i64 r19.1.least)) rfl rfl Try.underlying3 sz3 rfl rfl rfl rfl) ?_
 refine al_nil ?_
 exact fr_fin hK_ ()⟩, ⟨_, rfl, [], rfl, by
 intro X_ Y_ F_ K_ hK_
 refine al_show (m := Mem.plus (memOf w0 Z0 [] [(oRow v32 3 (tyInt .i64) r31), (oRow v28 22 (tyList (tyInt .i64)) [r19.1.symbols, r23.1.symbols]), (oBox g27 122 [(int .i64 r23.1.weight), (int .i64 r23.1.least), v24]), (oBox g26 122 [(int .i64 r19.1.weight), (int .i64 r19.1.least), v20]), (oBox g4 127 [v25, (Value.func (.func 61) #[] #[])]), (oRow v25 122 tyS_huff_tree r23.2.items), (oRow v8 3 (tyInt .i64) l13x7)] [(fDat (tyList (tyInt .i64)) [v24] r23.1.symbols), (fDat (tyList (tyInt .i64)) [v20] r19.1.symbols), (fDat (tyList (tyInt .i64)) [v0_0] a0)]) X_ Y_) (S := over (tab [(4, (ptr g4 0)), (7, v8), (8, (ptr g26 0)), (9, (ptr g27 0)), (87, v32)]) F_) ?_
 refine al_val (ov_fieldA (p := 1) rfl Try.underlying122 rfl sz3 rfl rfl rfl) ?_
 refine al_nil ?_
 exact fr_fin hK_ ()⟩, ⟨_, rfl, [7], rfl, by
 intro _
 intro X_ Y_ F_ K_ hK_
 refine al_show (m := Mem.plus (memOf w0 Z0 [] [(oRow v32 3 (tyInt .i64) r31), (oRow v28 22 (tyList (tyInt .i64)) [r19.1.symbols, r23.1.symbols]), (oBox g27 122 [(int .i64 r23.1.weight), (int .i64 r23.1.least), v24]), (oBox g26 122 [(int .i64 r19.1.weight), (int .i64 r19.1.least), v20]), (oBox g4 127 [v25, (Value.func (.func 61) #[] #[])]), (oRow v25 122 tyS_huff_tree r23.2.items), (oRow v8 3 (tyInt .i64) l13x7)] [(fDat (tyList (tyInt .i64)) [v24] r23.1.symbols), (fDat (tyList (tyInt .i64)) [v20] r19.1.symbols), (fDat (tyList (tyInt .i64)) [v0_0] a0)]) X_ Y_) (S := over (put (tab [(4, (ptr g4 0)), (7, v8), (8, (ptr g26 0)), (9, (ptr g27 0)), (87, v32)]) 79 (ptr g27 1)) F_) ?_
 refine al_val (ov_load (i := 2) (v := (int .i64 r23.1.least)) rfl rfl Try.underlying3 sz3 rfl rfl rfl rfl) ?_
 refine al_nil ?_
 exact fr_fin hK_ ()⟩, ⟨_, rfl, [6, 8], rfl, by
 intro _
 intro _
 intro X_ Y_ F_ K_ hK_
 refine al_show (m := Mem.plus (memOf w0 Z0 [] [(oRow v32 3 (tyInt .i64) r31), (oRow v28 22 (tyList (tyInt .i64)) [r19.1.symbols, r23.1.symbols]), (oBox g27 122 [(int .i64 r23.1.weight), (int .i64 r23.1.least), v24]), (oBox g26 122 [(int .i64 r19.1.weight), (int .i64 r19.1.least), v20]), (oBox g4 127 [v25, (Value.func (.func 61) #[] #[])]), (oRow v25 122 tyS_huff_tree r23.2.items), (oRow v8 3 (tyInt .i64) l13x7)] [(fDat (tyList (tyInt .i64)) [v24] r23.1.symbols), (fDat (tyList (tyInt .i64)) [v20] r19.1.symbols), (fDat (tyList (tyInt .i64)) [v0_0] a0)]) X_ Y_) (S := over (put (put (tab [(4, (ptr g4 0)), (7, v8), (8, (ptr g26 0)), (9, (ptr g27 0)), (87, v32)]) 78 (int .i64 r19.1.least)) 80 (int .i64 r23.1.least)) F_) ?_
 refine al_val (ov_min rfl rfl rfl) ?_
 refine al_nil ?_
 exact fr_fin hK_ ()⟩, ⟨_, rfl, [], rfl, by
 intro X_ Y_ F_ K_ hK_
 refine al_show (m := Mem.plus (memOf w0 Z0 [] [(oRow v32 3 (tyInt .i64) r31), (oRow v28 22 (tyList (tyInt .i64)) [r19.1.symbols, r23.1.symbols]), (oBox g27 122 [(int .i64 r23.1.weight), (int .i64 r23.1.least), v24]), (oBox g26 122 [(int .i64 r19.1.weight), (int .i64 r19.1.least), v20]), (oBox g4 127 [v25, (Value.func (.func 61) #[] #[])]), (oRow v25 122 tyS_huff_tree r23.2.items), (oRow v8 3 (tyInt .i64) l13x7)] [(fDat (tyList (tyInt .i64)) [v24] r23.1.symbols), (fDat (tyList (tyInt .i64)) [v20] r19.1.symbols), (fDat (tyList (tyInt .i64)) [v0_0] a0)]) X_ Y_) (S := over (tab [(4, (ptr g4 0)), (7, v8), (8, (ptr g26 0)), (9, (ptr g27 0)), (87, v32)]) F_) ?_
 refine al_alloc (zs := [(int .i64 (0 : Int)), (int .i64 (0 : Int)), (Value.slice none 0 0)]) (zeroOf_to to122) rfl rfl (fun g29 => ?_)
 refine al_nil ?_
 exact fr_fin hK_ g29⟩, ⟨_, rfl, [4, 9], rfl, by
 intro _
 intro _
 intro X_ Y_ F_ K_ hK_
 refine al_show (m := Mem.plus (memOf w0 Z0 [] [(oRow v32 3 (tyInt .i64) r31), (oRow v28 22 (tyList (tyInt .i64)) [r19.1.symbols, r23.1.symbols]), (oBox g27 122 [(int .i64 r23.1.weight), (int .i64 r23.1.least), v24]), (oBox g26 122 [(int .i64 r19.1.weight), (int .i64 r19.1.least), v20]), (oBox g4 127 [v25, (Value.func (.func 61) #[] #[])]), (oRow v25 122 tyS_huff_tree r23.2.items), (oRow v8 3 (tyInt .i64) l13x7)] [(fDat (tyList (tyInt .i64)) [v24] r23.1.symbols), (fDat (tyList (tyInt .i64)) [v20] r19.1.symbols), (fDat (tyList (tyInt .i64)) [v0_0] a0)]) X_ Y_) (S := over (put (put (tab [(4, (ptr g4 0)), (7, v8), (8, (ptr g26 0)), (9, (ptr g27 0)), (87, v32)]) 76 (int .i64 (IntKind.i64.wrap (r19.1.weight + r23.1.weight)))) 81 (int .i64 (if r23.1.least < r19.1.least then r23.1.least else r19.1.least))) F_) ?_
 refine al_val (ov_build (cells := ([(int .i64 (IntKind.i64.wrap (r19.1.weight + r23.1.weight))), (int .i64 (if r23.1.least < r19.1.least then r23.1.least else r19.1.least)), v32]).toArray) (cs := [(int .i64 (IntKind.i64.wrap (r19.1.weight + r23.1.weight))), (int .i64 (if r23.1.least < r19.1.least then r23.1.least else r19.1.least)), v32]) rfl (fun w a hm hs => by simp only [List.map_toArray, List.map_cons, List.map_nil, List.toList_toArray, hs.ev (x := .tmp 76) rfl, hs.ev (x := .tmp 81) rfl, hs.ev (x := .tmp 87) rfl]; obtain ⟨A0, l0, c0, e0⟩ := sl_own 0 rfl hm; rw [e0]; kernel_rfl)) ?_
 refine al_nil ?_
 exact fr_fin hK_ ()⟩, trivial⟩ ?_
       intro _
       intro _
       intro _
       intro _
       intro _
       intro _
       intro _
       intro _
       intro _
       intro _
       intro g29
       intro _
       intro X_ Y_ F_ K_ hK_
       refine al_show (m := Mem.plus (memOf w0 Z0 [] [(oBox g29 122 [(int .i64 (0 : Int)), (int .i64 (0 : Int)), (Value.slice none 0 0)]), (oRow v32 3 (tyInt .i64) r31), (oRow v28 22 (tyList (tyInt .i64)) [r19.1.symbols, r23.1.symbols]), (oBox g27 122 [(int .i64 r23.1.weight), (int .i64 r23.1.least), v24]), (oBox g26 122 [(int .i64 r19.1.weight), (int .i64 r19.1.least), v20]), (oBox g4 127 [v25, (Value.func (.func 61) #[] #[])]), (oRow v25 122 tyS_huff_tree r23.2.items), (oRow v8 3 (tyInt .i64) l13x7)] [(fDat (tyList (tyInt .i64)) [v24] r23.1.symbols), (fDat (tyList (tyInt .i64)) [v20] r19.1.symbols), (fDat (tyList (tyInt .i64)) [v0_0] a0)]) X_ Y_) (S := over (put (put (put (put (put (put (put (put (put (put (put (put (tab [(4, (ptr g4 0)), (7, v8), (8, (ptr g26 0)), (9, (ptr g27 0)), (87, v32)]) 72 (ptr g26 0)) 73 (int .i64 r19.1.weight)) 74 (ptr g27 0)) 75 (int .i64 r23.1.weight)) 76 (int .i64 (IntKind.i64.wrap (r19.1.weight + r23.1.weight)))) 77 (ptr g26 1)) 78 (int .i64 r19.1.least)) 79 (ptr g27 1)) 80 (int .i64 r23.1.least)) 81 (int .i64 (if r23.1.least < r19.1.least then r23.1.least else r19.1.least))) 10 (ptr g29 0)) 88 (ag [(int .i64 (IntKind.i64.wrap (r19.1.weight + r23.1.weight))), (int .i64 (if r23.1.least < r19.1.least then r23.1.least else r19.1.least)), v32])) F_) ?_
       refine al_store (i := 0) (vs := [(int .i64 (IntKind.i64.wrap (r19.1.weight + r23.1.weight))), (int .i64 (if r23.1.least < r19.1.least then r23.1.least else r19.1.least)), v32]) (cs' := [(int .i64 (IntKind.i64.wrap (r19.1.weight + r23.1.weight))), (int .i64 (if r23.1.least < r19.1.least then r23.1.least else r19.1.least)), v32]) rfl rfl rfl sz122 (cv_rfl rfl) rfl (co_val rfl (co_val rfl (co_own 1 rfl co_nil))) (Nat.le_of_ble_eq_true rfl) rfl rfl ?_
       refine al_nil ?_
       refine aq_show (m := Mem.plus (memOf w0 Z0 [] [(oBox g29 122 [(int .i64 (IntKind.i64.wrap (r19.1.weight + r23.1.weight))), (int .i64 (if r23.1.least < r19.1.least then r23.1.least else r19.1.least)), v32]), (oRow v32 3 (tyInt .i64) r31), (oRow v28 22 (tyList (tyInt .i64)) [r19.1.symbols, r23.1.symbols]), (oBox g27 122 [(int .i64 r23.1.weight), (int .i64 r23.1.least), v24]), (oBox g26 122 [(int .i64 r19.1.weight), (int .i64 r19.1.least), v20]), (oBox g4 127 [v25, (Value.func (.func 61) #[] #[])]), (oRow v25 122 tyS_huff_tree r23.2.items), (oRow v8 3 (tyInt .i64) l13x7)] [(fDat (tyList (tyInt .i64)) [v24] r23.1.symbols), (fDat (tyList (tyInt .i64)) [v20] r19.1.symbols), (fDat (tyList (tyInt .i64)) [v0_0] a0)]) X_ Y_) ?_
       refine aq_next hK_ [0, 1, 2, 3, 4, 5, 6, 7] [0, 1, 2] [(4, (ptr g4 0)), (7, v8), (10, (ptr g29 0))] [] [] rfl rfl (by decide) rfl ⟨rfl, rfl, rfl, trivial⟩ trivial ?_
       clear hK_ K_ F_ X_ Y_
       refine ta_show (m := (memOf w0 Z0 [] [(oBox g29 122 [(int .i64 (IntKind.i64.wrap (r19.1.weight + r23.1.weight))), (int .i64 (if r23.1.least < r19.1.least then r23.1.least else r19.1.least)), v32]), (oRow v32 3 (tyInt .i64) r31), (oRow v28 22 (tyList (tyInt .i64)) [r19.1.symbols, r23.1.symbols]), (oBox g27 122 [(int .i64 r23.1.weight), (int .i64 r23.1.least), v24]), (oBox g26 122 [(int .i64 r19.1.weight), (int .i64 r19.1.least), v20]), (oBox g4 127 [v25, (Value.func (.func 61) #[] #[])]), (oRow v25 122 tyS_huff_tree r23.2.items), (oRow v8 3 (tyInt .i64) l13x7)] [(fDat (tyList (tyInt .i64)) [v24] r23.1.symbols), (fDat (tyList (tyInt .i64)) [v20] r19.1.symbols), (fDat (tyList (tyInt .i64)) [v0_0] a0)])) (S := (tab [(4, (ptr g4 0)), (7, v8), (10, (ptr g29 0))])) ?_
       refine ta_end [] [] rfl rfl (by kernel_rfl) rfl trivial ?_
       refine aq_show (m := (memOf w0 Z0 [] [(oBox g29 122 [(int .i64 (IntKind.i64.wrap (r19.1.weight + r23.1.weight))), (int .i64 (if r23.1.least < r19.1.least then r23.1.least else r19.1.least)), v32]), (oRow v32 3 (tyInt .i64) r31), (oRow v28 22 (tyList (tyInt .i64)) [r19.1.symbols, r23.1.symbols]), (oBox g27 122 [(int .i64 r23.1.weight), (int .i64 r23.1.least), v24]), (oBox g26 122 [(int .i64 r19.1.weight), (int .i64 r19.1.least), v20]), (oBox g4 127 [v25, (Value.func (.func 61) #[] #[])]), (oRow v25 122 tyS_huff_tree r23.2.items), (oRow v8 3 (tyInt .i64) l13x7)] [(fDat (tyList (tyInt .i64)) [v24] r23.1.symbols), (fDat (tyList (tyInt .i64)) [v20] r19.1.symbols), (fDat (tyList (tyInt .i64)) [v0_0] a0)])) (S := (tab [(4, (ptr g4 0)), (7, v8), (10, (ptr g29 0))])) ?_
       refine aq_then ?_
       obtain ⟨kk34, hkk34, h⟩ := lt_some h
       refine aw_seq_join (ι := (List Int)) (fun i => (memOf w0 Z0 [] [(oRow v25 122 tyS_huff_tree r23.2.items), (oBox g4 127 [v25, (Value.func (.func 61) #[] #[])]), (oRow v8 3 (tyInt .i64) i), (oRow v32 3 (tyInt .i64) r31), (oBox g29 122 [(int .i64 (IntKind.i64.wrap (r19.1.weight + r23.1.weight))), (int .i64 (if r23.1.least < r19.1.least then r23.1.least else r19.1.least)), v32])] [(fDat (tyList (tyInt .i64)) [v24] r23.1.symbols), (fDat (tyList (tyInt .i64)) [v20] r19.1.symbols), (fDat (tyList (tyInt .i64)) [v0_0] a0)])) (fun i => (tab [(4, (ptr g4 0)), (7, v8), (10, (ptr g29 0))])) (fun i => kk34 i = some r) ?_ ?_
       ·rintro j33x7 h
        have h : kk34 j33x7 = some r := h
        rw [hkk34] at h
        dsimp only at h
        clear hkk34
        refine aw_show (m := (memOf w0 Z0 [] [(oRow v25 122 tyS_huff_tree r23.2.items), (oBox g4 127 [v25, (Value.func (.func 61) #[] #[])]), (oRow v8 3 (tyInt .i64) j33x7), (oRow v32 3 (tyInt .i64) r31), (oBox g29 122 [(int .i64 (IntKind.i64.wrap (r19.1.weight + r23.1.weight))), (int .i64 (if r23.1.least < r19.1.least then r23.1.least else r19.1.least)), v32])] [(fDat (tyList (tyInt .i64)) [v24] r23.1.symbols), (fDat (tyList (tyInt .i64)) [v20] r19.1.symbols), (fDat (tyList (tyInt .i64)) [v0_0] a0)])) (S := (tab [(4, (ptr g4 0)), (7, v8), (10, (ptr g29 0))])) ?_
        refine aw_region ?_
        refine al_mv rfl rfl ?_
        refine al_val (ov_load (i := 4) (v := (ag [(int .i64 (IntKind.i64.wrap (r19.1.weight + r23.1.weight))), (int .i64 (if r23.1.least < r19.1.least then r23.1.least else r19.1.least)), v32])) rfl rfl Try.underlying122 sz122 rfl rfl rfl rfl) ?_
        refine al_freeze 3 rfl rfl ?_
        obtain ⟨r36, hc35, h⟩ := opt_some h
        refine al_call (vs := [(ptr g4 0), (ag [(int .i64 (IntKind.i64.wrap (r19.1.weight + r23.1.weight))), (int .i64 (if r23.1.least < r19.1.least then r23.1.least else r19.1.least)), v32])]) (f___huff_heap_huff_tree___push_ok fu g4 v25 r23.2 v32 (S_huff_tree.mk (IntKind.i64.wrap (r19.1.weight + r23.1.weight)) (if r23.1.least < r19.1.least then r23.1.least else r19.1.least) r31) hc35) [] [1, 0] [2, 3] (pre_fz 0 rfl pre_nil) rfl (by simp) (by decide) (.inl rfl) rfl Try.func63 rfl rfl rfl (fun v37 => ?_)
        refine al_nil ?_
        refine aq_block ?_
        exact aq_join (v37, r36.items, j33x7) h (fun w a hm hs => norm hm hs [1, 0, 2] [3] [(4, (ptr g4 0)), (7, v8)] (by decide) ⟨rfl, rfl, trivial⟩)
       ·clear hkk34
        refine aw_sr ?_
        refine al_val (ov_fieldA (p := 2) rfl Try.underlying122 rfl sz22 rfl rfl rfl) ?_
        refine al_val (ov_load (i := 0) (v := v32) rfl rfl Try.underlying22 sz22 rfl rfl rfl rfl) ?_
        refine al_val (ov_lenR 1 rfl rfl Try.underlying22 rfl) ?_
        refine al_mv rfl rfl ?_
        refine al_nt ?_
        refine aw_block ?_
        refine aw_state (aw_loop (ι := (List Int) × Int) (fun i => (memOf w0 Z0 [] [(oRow v25 122 tyS_huff_tree r23.2.items), (oBox g4 127 [v25, (Value.func (.func 61) #[] #[])]), (oRow v8 3 (tyInt .i64) i.1), (oRow v32 3 (tyInt .i64) r31), (oBox g29 122 [(int .i64 (IntKind.i64.wrap (r19.1.weight + r23.1.weight))), (int .i64 (if r23.1.least < r19.1.least then r23.1.least else r19.1.least)), v32])] [(fDat (tyList (tyInt .i64)) [v24] r23.1.symbols), (fDat (tyList (tyInt .i64)) [v20] r19.1.symbols), (fDat (tyList (tyInt .i64)) [v0_0] a0)])) (fun i => (tab [(4, (ptr g4 0)), (7, v8), (10, (ptr g29 0)), (90, v32), (91, (int .i64 (r31.length : Int))), (92, (int .i64 i.2))])) (fun q i => f_huff_Lengths_L40 r31 kk34 q i.1 i.2 = some r) ?_ fu (l13x7, (0 : Int)) h) (fun w a hm hs => norm hm hs [6, 5, 7, 1, 0] [0, 1, 2] [(4, (ptr g4 0)), (7, v8), (10, (ptr g29 0)), (90, v32), (91, (int .i64 (r31.length : Int))), (92, (int .i64 (0 : Int)))] (by decide) ⟨rfl, rfl, rfl, rfl, rfl, rfl, trivial⟩)
        clear h
        rintro k39 ⟨l38x7, l38i92⟩ h
        have h : f_huff_Lengths_L40 r31 kk34 k39 l38x7 l38i92 = some r := h
        obtain _ | k39 := k39
        · rw [f_huff_Lengths_L40] at h; cases h
        rw [f_huff_Lengths_L40] at h
        refine aw_show (m := (memOf w0 Z0 [] [(oRow v25 122 tyS_huff_tree r23.2.items), (oBox g4 127 [v25, (Value.func (.func 61) #[] #[])]), (oRow v8 3 (tyInt .i64) l38x7), (oRow v32 3 (tyInt .i64) r31), (oBox g29 122 [(int .i64 (IntKind.i64.wrap (r19.1.weight + r23.1.weight))), (int .i64 (if r23.1.least < r19.1.least then r23.1.least else r19.1.least)), v32])] [(fDat (tyList (tyInt .i64)) [v24] r23.1.symbols), (fDat (tyList (tyInt .i64)) [v20] r19.1.symbols), (fDat (tyList (tyInt .i64)) [v0_0] a0)])) (S := (tab [(4, (ptr g4 0)), (7, v8), (10, (ptr g29 0)), (90, v32), (91, (int .i64 (r31.length : Int))), (92, (int .i64 l38i92))])) ?_
        refine aw_sr ?_
        refine al_in rfl rfl rfl rfl ?_
        refine al_nt ?_
        refine aw_seq ?_
        refine aw_cond rfl (fun hb41 => ?_) (fun hb41 => ?_)
        ·replace h := bif_t hb41 h
         refine aw_skip ?_
         refine aq_then ?_
         refine aw_seq ?_
         refine aw_block ?_
         refine aw_sr ?_
         obtain ⟨u42, hu43, h⟩ := opt_some h
         refine al_idxR 3 (at_some hu43).1 (at_some hu43).2.1 rfl rfl rfl Try.underlying22 sz3 rfl (fun p44 hp45 => ?_)
         refine al_val (ov_loadR (ds := [(int .i64 u42)]) 3 rfl hp45 (at_some hu43).2.2 (fun h => h) rfl Try.underlying3 sz3 rfl rfl rfl) ?_
         refine al_as rfl rfl ?_
         refine al_nt ?_
         refine aw_region ?_
         refine al_mv rfl rfl ?_
         refine al_mv rfl rfl ?_
         obtain ⟨u46, hu47, h⟩ := opt_some h
         refine al_idxR 2 (at_some hu47).1 (at_some hu47).2.1 rfl rfl rfl Try.underlying22 sz3 rfl (fun p48 hp49 => ?_)
         refine al_val (ov_loadR (ds := [(int .i64 u46)]) 2 rfl hp49 (at_some hu47).2.2 (fun h => h) rfl Try.underlying3 sz3 rfl rfl rfl) ?_
         refine al_in rfl rfl rfl rfl ?_
         obtain ⟨u50, hu51, h⟩ := opt_some h
         refine al_idxR 2 (at_some hu51).1 (at_some hu51).2.1 rfl rfl rfl Try.underlying22 sz3 rfl (fun p52 hp53 => ?_)
         refine al_storeR (k := (u42).toNat) (x := (IntKind.i64.wrap (u46 + (1 : Int)))) (vs := [(int .i64 (IntKind.i64.wrap (u46 + (1 : Int))))]) 2 rfl hp53 (idx_lt hu51) rfl rfl (cv_rfl rfl) (fun _ => rfl) sz3 rfl ?_
         refine al_nil ?_
         refine aq_block ?_
         refine aq_then ?_
         refine aw_region ?_
         refine al_in rfl rfl rfl rfl ?_
         refine al_mv rfl rfl ?_
         refine al_nil ?_
         exact aq_again k39 ((l38x7.set (u42).toNat (IntKind.i64.wrap (u46 + (1 : Int)))), (IntKind.i64.wrap (l38i92 + (1 : Int)))) (Nat.lt_succ_self _) h (fun w a hm hs => norm hm hs [0, 1, 2, 3, 4] [0, 1, 2] [(4, (ptr g4 0)), (7, v8), (10, (ptr g29 0)), (90, v32), (91, (int .i64 (r31.length : Int))), (92, (int .i64 (IntKind.i64.wrap (l38i92 + (1 : Int)))))] (by decide) ⟨rfl, rfl, rfl, rfl, rfl, rfl, trivial⟩)
        ·replace h := bif_f hb41 h
         refine aw_exit ?_
         refine aq_then_exit ?_
         refine aq_then_exit ?_
         refine aq_block_exit ?_
         exact aq_join l38x7 h (fun w a hm hs => norm hm hs [0, 1, 2, 3, 4] [0, 1, 2] [(4, (ptr g4 0)), (7, v8), (10, (ptr g29 0))] (by decide) ⟨rfl, rfl, rfl, trivial⟩)
      ·replace h := bif_f hb17 h
       refine aw_exit ?_
       refine aq_then_exit ?_
       refine aq_then_exit ?_
       refine aq_block_exit ?_
       exact aq_join l13x7 h (fun w a hm hs => norm hm hs [2] [0] [(7, v8)] (by decide) ⟨rfl, trivial⟩)
    ·clear hkk10
     refine aw_sr ?_
     refine al_mv rfl rfl ?_
     refine al_val (ov_nilCheck rfl rfl) ?_
     refine al_val (ov_fieldA (p := 0) rfl Try.underlying127 rfl sz125 rfl rfl rfl) ?_
     refine al_val (ov_load (i := 2) (v := j5v4_0) rfl rfl Try.underlying125 sz125 rfl rfl rfl rfl) ?_
     refine al_val (ov_lenR 1 rfl rfl Try.underlying125 rfl) ?_
     refine al_in rfl rfl rfl rfl ?_
     refine al_nt ?_
     refine aw_cond rfl (fun hb54 => ?_) (fun hb54 => ?_)
     ·replace h := bif_t hb54 h
      refine aw_region ?_
      refine al_mv rfl rfl ?_
      refine al_mv rfl rfl ?_
      refine al_val (ov_nilCheck rfl rfl) ?_
      refine al_val (ov_fieldA (p := 0) rfl Try.underlying127 rfl sz125 rfl rfl rfl) ?_
      refine al_val (ov_load (i := 2) (v := j5v4_0) rfl rfl Try.underlying125 sz125 rfl rfl rfl rfl) ?_
      obtain ⟨u55, hu56, h⟩ := opt_some h
      refine al_idxR 1 (at_some hu56).1 (at_some hu56).2.1 rfl rfl rfl Try.underlying125 sz122 rfl (fun p57 hp58 => ?_)
      refine al_fieldR hp58 rfl Try.underlying122 rfl sz3 rfl rfl (fun p59 hp60 => ?_)
      refine al_val (ov_loadF (ds := [(int .i64 u55.least)]) 1 rfl hp60 (at_some hu56).2.2 subS_huff_tree_1 (fun h => h) rfl Try.underlying3 sz3 rfl rfl rfl) ?_
      obtain ⟨u61, hu62, h⟩ := opt_some h
      refine al_idxR 0 (at_some hu62).1 (at_some hu62).2.1 rfl rfl rfl Try.underlying22 sz3 rfl (fun p63 hp64 => ?_)
      refine al_storeR (k := (u55.least).toNat) (x := (1 : Int)) (vs := [(int .i64 (1 : Int))]) 0 rfl hp64 (idx_lt hu62) rfl rfl (cv_rfl rfl) (fun _ => rfl) sz3 rfl ?_
      refine al_nil ?_
      exact aq_join ((List.replicate ((a0.length : Int)).toNat 0).set (u55.least).toNat (1 : Int)) h (fun w a hm hs => norm hm hs [1, 2, 0] [0] [(4, (ptr g4 0)), (7, v8)] (by decide) ⟨rfl, rfl, trivial⟩)
     ·replace h := bif_f hb54 h
      refine aw_skip ?_
      exact aq_join (List.replicate ((a0.length : Int)).toNat 0) h (fun w a hm hs => norm hm hs [1, 2, 0] [0] [(4, (ptr g4 0)), (7, v8)] (by decide) ⟨rfl, rfl, trivial⟩)
   ·clear hkk6
    refine aw_sr ?_
    refine al_mv rfl rfl ?_
    refine al_val (ov_lenD 0 rfl rfl Try.underlying22 rfl) ?_
    refine al_mv rfl rfl ?_
    refine al_nt ?_
    refine aw_block ?_
    refine aw_nilR 122 tyS_huff_tree ?_
    refine aw_state (aw_loop (ι := Value × (List S_huff_tree) × Int) (fun i => (memOf w0 Z0 [] [(oRow i.1 122 tyS_huff_tree i.2.1), (oBox g4 127 [i.1, (Value.func (.func 61) #[] #[])])] [(fDat (tyList (tyInt .i64)) [v0_0] a0)])) (fun i => (tab [(0, v0_0), (4, (ptr g4 0)), (27, v0_0), (28, (int .i64 (a0.length : Int))), (29, (int .i64 i.2.2))])) (fun q i => f_huff_Lengths_L67 a0 kk6 fu q i.2.1 i.2.2 = some r) ?_ fu ((Value.slice none 0 0), ([] : List S_huff_tree), (0 : Int)) h) (fun w a hm hs => norm hm hs [0, 1] [0] [(0, v0_0), (4, (ptr g4 0)), (27, v0_0), (28, (int .i64 (a0.length : Int))), (29, (int .i64 (0 : Int)))] (by decide) ⟨rfl, rfl, rfl, rfl, rfl, trivial⟩)
    clear h
    rintro k66 ⟨l65v4_0, l65x4_0, l65i29⟩ h
    have h : f_huff_Lengths_L67 a0 kk6 fu k66 l65x4_0 l65i29 = some r := h
    obtain _ | k66 := k66
    · rw [f_huff_Lengths_L67] at h; cases h
    rw [f_huff_Lengths_L67] at h
    refine aw_show (m := (memOf w0 Z0 [] [(oRow l65v4_0 122 tyS_huff_tree l65x4_0), (oBox g4 127 [l65v4_0, (Value.func (.func 61) #[] #[])])] [(fDat (tyList (tyInt .i64)) [v0_0] a0)])) (S := (tab [(0, v0_0), (4, (ptr g4 0)), (27, v0_0), (28, (int .i64 (a0.length : Int))), (29, (int .i64 l65i29))])) ?_
    refine aw_sr ?_
    refine al_in rfl rfl rfl rfl ?_
    refine al_nt ?_
    refine aw_seq ?_
    refine aw_cond rfl (fun hb68 => ?_) (fun hb68 => ?_)
    ·replace h := bif_t hb68 h
     refine aw_skip ?_
     refine aq_then ?_
     obtain ⟨kk70, hkk70, h⟩ := lt_some h
     refine aw_seq_join (ι := Value × (List S_huff_tree)) (fun i => (memOf w0 Z0 [] [(oRow i.1 122 tyS_huff_tree i.2), (oBox g4 127 [i.1, (Value.func (.func 61) #[] #[])])] [(fDat (tyList (tyInt .i64)) [v0_0] a0)])) (fun i => (tab [(0, v0_0), (4, (ptr g4 0)), (27, v0_0), (28, (int .i64 (a0.length : Int))), (29, (int .i64 l65i29))])) (fun i => kk70 i.2 = some r) ?_ ?_
     ·rintro ⟨j69v4_0, j69x4_0⟩ h
      have h : kk70 j69x4_0 = some r := h
      rw [hkk70] at h
      dsimp only at h
      clear hkk70
      refine aw_show (m := (memOf w0 Z0 [] [(oRow j69v4_0 122 tyS_huff_tree j69x4_0), (oBox g4 127 [j69v4_0, (Value.func (.func 61) #[] #[])])] [(fDat (tyList (tyInt .i64)) [v0_0] a0)])) (S := (tab [(0, v0_0), (4, (ptr g4 0)), (27, v0_0), (28, (int .i64 (a0.length : Int))), (29, (int .i64 l65i29))])) ?_
      refine aw_region ?_
      refine al_in rfl rfl rfl rfl ?_
      refine al_mv rfl rfl ?_
      refine al_nil ?_
      exact aq_again k66 (j69v4_0, j69x4_0, (IntKind.i64.wrap (l65i29 + (1 : Int)))) (Nat.lt_succ_self _) h (fun w a hm hs => norm hm hs [0, 1] [0] [(0, v0_0), (4, (ptr g4 0)), (27, v0_0), (28, (int .i64 (a0.length : Int))), (29, (int .i64 (IntKind.i64.wrap (l65i29 + (1 : Int)))))] (by decide) ⟨rfl, rfl, rfl, rfl, rfl, trivial⟩)
     ·clear hkk70
      refine aw_block ?_
      refine aw_sr ?_
      refine al_mv rfl rfl ?_
      obtain ⟨u71, hu72, h⟩ := opt_some h
      refine al_idxD 0 hu72 rfl rfl rfl Try.underlying22 sz3 rfl (fun p73 => ?_)
      refine al_val (ov_loadP (ds := [(int .i64 u71)]) 0 rfl (fun h => h) rfl Try.underlying3 sz3 rfl rfl rfl) ?_
      refine al_as rfl rfl ?_
      refine al_as rfl rfl ?_
      refine al_nt ?_
      refine aw_sr ?_
      refine al_mv rfl rfl ?_
      refine al_in rfl rfl rfl rfl ?_
      refine al_nt ?_
      refine aw_cond rfl (fun hb74 => ?_) (fun hb74 => ?_)
      ·replace h := bif_t hb74 h
       refine aw_region ?_
       refine al_mv rfl rfl ?_
       refine al_mv rfl rfl ?_
       refine al_mv rfl rfl ?_
       refine al_mv rfl rfl ?_
       refine al_buildSlice (τ := (tyInt .i64)) (e := 3) (k := 1) (sz := 0) (by_ := 0) (z := undef) (cs := [(int .i64 l65i29)]) (xs := [l65i29]) rfl (by decide) (fun w a hm hs => ⟨([(int .i64 l65i29)]).toArray, rfl, by simp only [List.map_toArray, List.map_cons, List.map_nil, hs.ev (x := .tmp 39) rfl]; exact run_bs [(int .i64 l65i29)] [(int .i64 l65i29)] Try.underlying22 to3 rfl rfl (bs_cons (l := [(int .i64 l65i29)]) (cs := []) (cv_rfl rfl) rfl bs_nil) hm⟩) (fun hm => ⟨_, _, rfl, (fun _ => rfl) hm, rfl⟩) rfl (fun v75 => ?_)
       refine al_val (ov_build (cells := ([(int .i64 u71), (int .i64 l65i29), v75]).toArray) (cs := [(int .i64 u71), (int .i64 l65i29), v75]) rfl (fun w a hm hs => by simp only [List.map_toArray, List.map_cons, List.map_nil, List.toList_toArray, hs.ev (x := .tmp 37) rfl, hs.ev (x := .tmp 38) rfl, hs.ev (x := .tmp 40) rfl]; obtain ⟨A0, l0, c0, e0⟩ := sl_own 0 rfl hm; rw [e0]; kernel_rfl)) ?_
       refine al_freeze 0 rfl rfl ?_
       obtain ⟨r77, hc76, h⟩ := opt_some h
       refine al_call (vs := [(ptr g4 0), (ag [(int .i64 u71), (int .i64 l65i29), v75])]) (f___huff_heap_huff_tree___push_ok fu g4 l65v4_0 (D_huff_heap_huff_tree_.mk l65x4_0) v75 (S_huff_tree.mk u71 l65i29 ([l65i29])) hc76) [] [1, 0] [] (pre_fz 0 rfl pre_nil) rfl (by simp) (by decide) (.inl rfl) rfl Try.func63 rfl rfl rfl (fun v78 => ?_)
       refine al_nil ?_
       refine aq_block ?_
       exact aq_join (v78, r77.items) h (fun w a hm hs => norm hm hs [1, 0] [2] [(0, v0_0), (4, (ptr g4 0)), (27, v0_0), (28, (int .i64 (a0.length : Int))), (29, (int .i64 l65i29))] (by decide) ⟨rfl, rfl, rfl, rfl, rfl, trivial⟩)
      ·replace h := bif_f hb74 h
       refine aw_skip ?_
       refine aq_block ?_
       exact aq_join (l65v4_0, l65x4_0) h (fun w a hm hs => norm hm hs [0, 1] [1] [(0, v0_0), (4, (ptr g4 0)), (27, v0_0), (28, (int .i64 (a0.length : Int))), (29, (int .i64 l65i29))] (by decide) ⟨rfl, rfl, rfl, rfl, rfl, trivial⟩)
    ·replace h := bif_f hb68 h
     refine aw_exit ?_
     refine aq_then_exit ?_
     refine aq_then_exit ?_
     refine aq_block_exit ?_
     exact aq_join (l65v4_0, l65x4_0) h (fun w a hm hs => norm hm hs [0, 1] [0] [(0, v0_0), (4, (ptr g4 0))] (by decide) ⟨rfl, rfl, trivial⟩)
 ·clear hkk2
  refine aw_region ?_
  refine al_mv rfl rfl ?_
  refine al_val (ov_lenD 0 rfl rfl Try.underlying22 rfl) ?_
  refine al_in rfl rfl rfl rfl ?_
  refine al_mv rfl rfl ?_
  refine al_caseB 16 rfl (fun hb79 => ?_) (fun hb79 => ?_)
  ·replace h := bif_t hb79 h
   refine al_skip ?_
   refine al_skip ?_
   refine al_skip ?_
   refine al_val (ov_pick_t rfl rfl rfl) ?_
   refine al_mv rfl rfl ?_
   refine al_skip ?_
   refine al_skip ?_
   refine al_val (ov_pick_t rfl rfl rfl) ?_
   refine al_nil ?_
   exact aq_join true h (fun w a hm hs => norm hm hs [] [0] [(0, v0_0), (24, (bool true))] (by decide) ⟨rfl, rfl, trivial⟩)
  ·replace h := bif_f hb79 h
   refine al_mv rfl rfl ?_
   refine al_val (ov_lenD 0 rfl rfl Try.underlying22 rfl) ?_
   refine al_in rfl rfl rfl rfl ?_
   refine al_val (ov_pick_f rfl rfl rfl) ?_
   refine al_mv rfl rfl ?_
   refine al_caseB 21 rfl (fun hb80 => ?_) (fun hb80 => ?_)
   ·replace h := bif_t hb80 h
    refine al_skip ?_
    refine al_skip ?_
    refine al_val (ov_pick_t rfl rfl rfl) ?_
    refine al_nil ?_
    exact aq_join true h (fun w a hm hs => norm hm hs [] [0] [(0, v0_0), (24, (bool true))] (by decide) ⟨rfl, rfl, trivial⟩)
   ·replace h := bif_f hb80 h
    refine al_mv rfl rfl ?_
    obtain ⟨r82, hc81, h⟩ := opt_some h
    refine al_call (vs := [v0_0, (Value.func (.func 60) #[] #[])]) (f_slices_ContainsFunc___int_int__F60_ok fu v0_0 a0 hc81) [] [] [] (pre_fz 0 rfl pre_nil) rfl (by simp) (by decide) (.inl rfl) rfl Try.func59 rfl rfl rfl (fun _ => ?_)
    refine al_val (ov_pick_f rfl rfl rfl) ?_
    refine al_nil ?_
    exact aq_join r82 h (fun w a hm hs => norm hm hs [] [0] [(0, v0_0), (24, (bool r82))] (by decide) ⟨rfl, rfl, trivial⟩)
def f_lumref_least_L13 (a0 : (List S_lumref_bunch)) (j2i4 : Int) (kk5 : ((List S_lumref_bunch) → Option (S_lumref_bunch × (List S_lumref_bunch)))) : Nat → (List S_lumref_bunch) → Int → Option (S_lumref_bunch × (List S_lumref_bunch))
  | 0, _, _ => none
  | k12 + 1, l11x7, l11i53 => (bif (decide (l11i53 < (a0.length : Int))) then (lt (fun (j15x7 : (List S_lumref_bunch)) => (f_lumref_least_L13 a0 j2i4 kk5 k12 j15x7 (IntKind.i64.wrap (l11i53 + (1 : Int))))) fun (kk16 : (List S_lumref_bunch) → Option (S_lumref_bunch × (List S_lumref_bunch))) => (opt (at? a0 l11i53) fun (u17 : S_lumref_bunch) => (bif (l11i53 != j2i4) then (req (((l11x7.length + ([u17]).length) * 32 : Nat) ≤ 140737488355328 ∧ l11x7.length + ([u17]).length ≤ 9223372036854775807) (kk16 (l11x7 ++ ([u17])))) else (kk16 l11x7)))) else (kk5 l11x7))
def f_lumref_least_L29 (a0 : (List S_lumref_bunch)) (kk3 : (Int → Option (S_lumref_bunch × (List S_lumref_bunch)))) : Nat → Int → Int → Option (S_lumref_bunch × (List S_lumref_bunch))
  | 0, _, _ => none
  | k28 + 1, l27i12, l27i4 => (bif (decide (l27i12 < (a0.length : Int))) then (lt (fun (j31i4 : Int) => (f_lumref_least_L29 a0 kk3 k28 (IntKind.i64.wrap (l27i12 + (1 : Int))) j31i4)) fun (kk32 : Int → Option (S_lumref_bunch × (List S_lumref_bunch))) => (opt (at? a0 l27i12) fun (u33 : S_lumref_bunch) => (lt (fun (j39b48 : Bool) => (bif j39b48 then (kk32 l27i12) else (kk32 l27i4))) fun (kk40 : Bool → Option (S_lumref_bunch × (List S_lumref_bunch))) => (opt (at? a0 l27i4) fun (u42 : S_lumref_bunch) => (bif (decide (u33.weight < u42.weight)) then (kk40 true) else (opt (at? a0 l27i4) fun (u47 : S_lumref_bunch) => (bif (u33.weight == u47.weight) then (opt (at? u33.signs (0 : Int)) fun (u52 : Int) => (opt (at? a0 l27i4) fun (u55 : S_lumref_bunch) => (opt (at? u55.signs (0 : Int)) fun (u60 : Int) => (kk40 (decide (u52 < u60)))))) else (kk40 false)))))))) else (kk3 l27i4))
def f_lumref_least (fu : Nat) (a0 : (List S_lumref_bunch)) : Option (S_lumref_bunch × (List S_lumref_bunch)) := (lt (fun (j2i4 : Int) => (lt (fun (j4x7 : (List S_lumref_bunch)) => (opt (at? a0 j2i4) fun (u6 : S_lumref_bunch) => (some (u6, j4x7)))) fun (kk5 : (List S_lumref_bunch) → Option (S_lumref_bunch × (List S_lumref_bunch))) => (f_lumref_least_L13 a0 j2i4 kk5 fu ([] : List S_lumref_bunch) (0 : Int)))) fun (kk3 : Int → Option (S_lumref_bunch × (List S_lumref_bunch))) => (f_lumref_least_L29 a0 kk3 fu (0 : Int) (0 : Int)))
set_option maxRecDepth 100000 in
theorem f_lumref_least_ok (fu : Nat) (v0_0 : Value) (a0 : (List S_lumref_bunch)) {r : (S_lumref_bunch × (List S_lumref_bunch))} (h : f_lumref_least fu a0 = some r) : FnOk Try.prog 66 [v0_0] [(fDat (tyList tyS_lumref_bunch) [v0_0] a0)] [] (fun (i : Value × Value) => { val := (Value.tuple #[(ag [(int .i64 r.1.weight), i.1]), i.2]), own := [(oRow i.2 133 tyS_lumref_bunch r.2)], fz := [(fDat (tyList (tyInt .i64)) [i.1] r.1.signs)] }) := by
 unfold f_lumref_least at h
 refine fn_enter Try.func66 rfl Try.ntmps66 rfl (fun w0 Z0 => ?_)
 refine aw_sr ?_
 refine al_alloc (zs := [(int .i64 (0 : Int)), (Value.slice none 0 0)]) (zeroOf_to to133) rfl rfl (fun g1 => ?_)
 refine al_as rfl rfl ?_
 refine al_nt ?_
 refine aw_sr ?_
 refine al_as rfl rfl ?_
 refine al_nt ?_
 obtain ⟨kk3, hkk3, h⟩ := lt_some h
 refine aw_seq_join (ι := Int) (fun i => (memOf w0 Z0 [] [(oBox g1 133 [(int .i64 (0 : Int)), (Value.slice none 0 0)])] [(fDat (tyList tyS_lumref_bunch) [v0_0] a0)])) (fun i => (tab [(0, v0_0), (2, (ptr g1 0)), (4, (int .i64 i))])) (fun i => kk3 i = some r) ?_ ?_
 ·rintro j2i4 h
  have h : kk3 j2i4 = some r := h
  rw [hkk3] at h
  dsimp only at h
  clear hkk3
  refine aw_show (m := (memOf w0 Z0 [] [(oBox g1 133 [(int .i64 (0 : Int)), (Value.slice none 0 0)])] [(fDat (tyList tyS_lumref_bunch) [v0_0] a0)])) (S := (tab [(0, v0_0), (2, (ptr g1 0)), (4, (int .i64 j2i4))])) ?_
  refine aw_sr ?_
  refine al_as rfl rfl ?_
  refine al_nt ?_
  obtain ⟨kk5, hkk5, h⟩ := lt_some h
  refine aw_seq_join (ι := Value × (List S_lumref_bunch)) (fun i => (memOf w0 Z0 [] [(oBox g1 133 [(int .i64 (0 : Int)), (Value.slice none 0 0)]), (oRow i.1 133 tyS_lumref_bunch i.2)] [(fDat (tyList tyS_lumref_bunch) [v0_0] a0)])) (fun i => (tab [(0, v0_0), (2, (ptr g1 0)), (4, (int .i64 j2i4)), (7, i.1)])) (fun i => kk5 i.2 = some r) ?_ ?_
  ·rintro ⟨j4v7, j4x7⟩ h
   have h : kk5 j4x7 = some r := h
   rw [hkk5] at h
   dsimp only at h
   clear hkk5
   refine aw_show (m := (memOf w0 Z0 [] [(oBox g1 133 [(int .i64 (0 : Int)), (Value.slice none 0 0)]), (oRow j4v7 133 tyS_lumref_bunch j4x7)] [(fDat (tyList tyS_lumref_bunch) [v0_0] a0)])) (S := (tab [(0, v0_0), (2, (ptr g1 0)), (4, (int .i64 j2i4)), (7, j4v7)])) ?_
   refine aw_sr ?_
   refine al_mv rfl rfl ?_
   refine al_mv rfl rfl ?_
   obtain ⟨u6, hu7, h⟩ := opt_some h
   refine al_idxD 0 hu7 rfl rfl rfl Try.underlying131 sz133 rfl (fun p8 => ?_)
   refine al_loadPA 0 rfl rfl Try.underlying133 sz133 rfl rfl (fun cs10 => ?_)
   refine al_use (ι := Value) 0 rfl (fun j => cs10 = [(int .i64 u6.weight), j]) (fun j => [(fDat (tyList (tyInt .i64)) [j] u6.signs)]) encnS_lumref_bunch (fun s9 hq => ?_)
   subst hq
   refine al_mv rfl rfl ?_
   refine al_store (i := 0) (vs := [(int .i64 u6.weight), s9]) (cs' := [(int .i64 u6.weight), s9]) rfl rfl rfl sz133 (cv_rfl rfl) rfl (co_val rfl (co_fz 0 rfl co_nil)) (Nat.le_of_ble_eq_true rfl) rfl rfl ?_
   refine al_as rfl rfl ?_
   refine al_nt ?_
   refine aw_ret ?_
   obtain rfl := Option.some.inj h
   exact fn_ret (s9, j4v7) [1] [0] rfl rfl rfl rfl (resC rfl (resB (i := 0) rfl rfl Try.underlying133 sz133 rfl rfl rfl (resT rfl (resN))) rfl) rfl rfl rfl (by decide)
  ·clear hkk5
   refine aw_sr ?_
   refine al_mv rfl rfl ?_
   refine al_val (ov_lenD 0 rfl rfl Try.underlying131 rfl) ?_
   refine al_mv rfl rfl ?_
   refine al_nt ?_
   refine aw_block ?_
   refine aw_nilR 133 tyS_lumref_bunch ?_
   refine aw_state (aw_loop (ι := Value × (List S_lumref_bunch) × Int) (fun i => (memOf w0 Z0 [] [(oBox g1 133 [(int .i64 (0 : Int)), (Value.slice none 0 0)]), (oRow i.1 133 tyS_lumref_bunch i.2.1)] [(fDat (tyList tyS_lumref_bunch) [v0_0] a0)])) (fun i => (tab [(0, v0_0), (2, (ptr g1 0)), (4, (int .i64 j2i4)), (7, i.1), (51, v0_0), (52, (int .i64 (a0.length : Int))), (53, (int .i64 i.2.2))])) (fun q i => f_lumref_least_L13 a0 j2i4 kk5 q i.2.1 i.2.2 = some r) ?_ fu ((Value.slice none 0 0), ([] : List S_lumref_bunch), (0 : Int)) h) (fun w a hm hs => norm hm hs [1, 0] [0] [(0, v0_0), (2, (ptr g1 0)), (4, (int .i64 j2i4)), (7, (Value.slice none 0 0)), (51, v0_0), (52, (int .i64 (a0.length : Int))), (53, (int .i64 (0 : Int)))] (by decide) ⟨rfl, rfl, rfl, rfl, rfl, rfl, rfl, trivial⟩)
   clear h
   rintro k12 ⟨l11v7, l11x7, l11i53⟩ h
   have h : f_lumref_least_L13 a0 j2i4 kk5 k12 l11x7 l11i53 = some r := h
   obtain _ | k12 := k12
   · rw [f_lumref_least_L13] at h; cases h
   rw [f_lumref_least_L13] at h
   refine aw_show (m := (memOf w0 Z0 [] [(oBox g1 133 [(int .i64 (0 : Int)), (Value.slice none 0 0)]), (oRow l11v7 133 tyS_lumref_bunch l11x7)] [(fDat (tyList tyS_lumref_bunch) [v0_0] a0)])) (S := (tab [(0, v0_0), (2, (ptr g1 0)), (4, (int .i64 j2i4)), (7, l11v7), (51, v0_0), (52, (int .i64 (a0.length : Int))), (53, (int .i64 l11i53))])) ?_
   refine aw_sr ?_
   refine al_in rfl rfl rfl rfl ?_
   refine al_nt ?_
   refine aw_seq ?_
   refine aw_cond rfl (fun hb14 => ?_) (fun hb14 => ?_)
   ·replace h := bif_t hb14 h
    refine aw_skip ?_
    refine aq_then ?_
    obtain ⟨kk16, hkk16, h⟩ := lt_some h
    refine aw_seq_join (ι := Value × (List S_lumref_bunch)) (fun i => (memOf w0 Z0 [] [(oBox g1 133 [(int .i64 (0 : Int)), (Value.slice none 0 0)]), (oRow i.1 133 tyS_lumref_bunch i.2)] [(fDat (tyList tyS_lumref_bunch) [v0_0] a0)])) (fun i => (tab [(0, v0_0), (2, (ptr g1 0)), (4, (int .i64 j2i4)), (7, i.1), (51, v0_0), (52, (int .i64 (a0.length : Int))), (53, (int .i64 l11i53))])) (fun i => kk16 i.2 = some r) ?_ ?_
    ·rintro ⟨j15v7, j15x7⟩ h
     have h : kk16 j15x7 = some r := h
     rw [hkk16] at h
     dsimp only at h
     clear hkk16
     refine aw_show (m := (memOf w0 Z0 [] [(oBox g1 133 [(int .i64 (0 : Int)), (Value.slice none 0 0)]), (oRow j15v7 133 tyS_lumref_bunch j15x7)] [(fDat (tyList tyS_lumref_bunch) [v0_0] a0)])) (S := (tab [(0, v0_0), (2, (ptr g1 0)), (4, (int .i64 j2i4)), (7, j15v7), (51, v0_0), (52, (int .i64 (a0.length : Int))), (53, (int .i64 l11i53))])) ?_
     refine aw_region ?_
     refine al_in rfl rfl rfl rfl ?_
     refine al_mv rfl rfl ?_
     refine al_nil ?_
     exact aq_again k12 (j15v7, j15x7, (IntKind.i64.wrap (l11i53 + (1 : Int)))) (Nat.lt_succ_self _) h (fun w a hm hs => norm hm hs [0, 1] [0] [(0, v0_0), (2, (ptr g1 0)), (4, (int .i64 j2i4)), (7, j15v7), (51, v0_0), (52, (int .i64 (a0.length : Int))), (53, (int .i64 (IntKind.i64.wrap (l11i53 + (1 : Int)))))] (by decide) ⟨rfl, rfl, rfl, rfl, rfl, rfl, rfl, trivial⟩)
    ·clear hkk16
     refine aw_block ?_
     refine aw_sr ?_
     refine al_mv rfl rfl ?_
     obtain ⟨u17, hu18, h⟩ := opt_some h
     refine al_idxD 0 hu18 rfl rfl rfl Try.underlying131 sz133 rfl (fun p19 => ?_)
     refine al_loadPA 0 rfl rfl Try.underlying133 sz133 rfl rfl (fun cs21 => ?_)
     refine al_use (ι := Value) 0 rfl (fun j => cs21 = [(int .i64 u17.weight), j]) (fun j => [(fDat (tyList (tyInt .i64)) [j] u17.signs)]) encnS_lumref_bunch (fun s20 hq => ?_)
     subst hq
     refine al_alloc (zs := [(int .i64 (0 : Int)), (Value.slice none 0 0)]) (zeroOf_to to133) rfl rfl (fun g22 => ?_)
     refine al_as rfl rfl ?_
     refine al_store (i := 0) (vs := [(int .i64 u17.weight), s20]) (cs' := [(int .i64 u17.weight), s20]) rfl rfl rfl sz133 (cv_rfl rfl) rfl (co_val rfl (co_fz 0 rfl co_nil)) (Nat.le_of_ble_eq_true rfl) rfl rfl ?_
     refine al_nt ?_
     refine aw_sr ?_
     refine al_mv rfl rfl ?_
     refine al_mv rfl rfl ?_
     refine al_in rfl rfl rfl rfl ?_
     refine al_nt ?_
     refine aw_cond rfl (fun hb23 => ?_) (fun hb23 => ?_)
     ·replace h := bif_t hb23 h
      refine aw_region ?_
      refine al_mv rfl rfl ?_
      refine al_val (ov_load (i := 0) (v := (ag [(int .i64 u17.weight), s20])) rfl rfl Try.underlying133 sz133 rfl rfl rfl rfl) ?_
      refine al_buildSlice (τ := tyS_lumref_bunch) (e := 133) (k := 1) (sz := 0) (by_ := 0) (z := undef) (cs := [(int .i64 u17.weight), s20]) (xs := [u17]) rfl (by decide) (fun w a hm hs => ⟨([(int .i64 u17.weight), s20]).toArray, rfl, by simp only [List.map_toArray, List.map_cons, List.map_nil, hs.ev (x := .tmp 62) rfl]; exact run_bs [(ag [(int .i64 u17.weight), s20])] [(int .i64 u17.weight), s20] Try.underlying131 to133 rfl rfl (bs_cons (l := [(int .i64 u17.weight), s20]) (cs := []) (cv_rfl rfl) rfl bs_nil) hm⟩) (fun hm => ⟨_, _, rfl, (fun hm => mknS_lumref_bunch rfl (fz_at (i := 0) hm rfl)) hm, rfl⟩) rfl (fun v24 => ?_)
      obtain ⟨hc25, h⟩ := req_some h
      refine al_append 3 hc25.1 hc25.2 rfl (src_own (i := 3) 0 rfl) rfl rfl Try.underlying131 to133 rfl rfl rfl (fun v26 => ?_)
      refine al_as rfl rfl ?_
      refine al_nil ?_
      refine aq_block ?_
      exact aq_join (v26, (l11x7 ++ ([u17]))) h (fun w a hm hs => norm hm hs [2, 3] [3] [(0, v0_0), (2, (ptr g1 0)), (4, (int .i64 j2i4)), (7, v26), (51, v0_0), (52, (int .i64 (a0.length : Int))), (53, (int .i64 l11i53))] (by decide) ⟨rfl, rfl, rfl, rfl, rfl, rfl, rfl, trivial⟩)
     ·replace h := bif_f hb23 h
      refine aw_skip ?_
      refine aq_block ?_
      exact aq_join (l11v7, l11x7) h (fun w a hm hs => norm hm hs [1, 2] [3] [(0, v0_0), (2, (ptr g1 0)), (4, (int .i64 j2i4)), (7, l11v7), (51, v0_0), (52, (int .i64 (a0.length : Int))), (53, (int .i64 l11i53))] (by decide) ⟨rfl, rfl, rfl, rfl, rfl, rfl, rfl, trivial⟩)
   ·replace h := bif_f hb14 h
    refine aw_exit ?_
    refine aq_then_exit ?_
    refine aq_then_exit ?_
    refine aq_block_exit ?_
    exact aq_join (l11v7, l11x7) h (fun w a hm hs => norm hm hs [0, 1] [0] [(0, v0_0), (2, (ptr g1 0)), (4, (int .i64 j2i4)), (7, l11v7)] (by decide) ⟨rfl, rfl, rfl, rfl, trivial⟩)
 ·clear hkk3
  refine aw_sr ?_
  refine al_mv rfl rfl ?_
  refine al_val (ov_lenD 0 rfl rfl Try.underlying131 rfl) ?_
  refine al_mv rfl rfl ?_
  refine al_nt ?_
  refine aw_block ?_
  refine aw_state (aw_loop (ι := Int × Int) (fun i => (memOf w0 Z0 [] [(oBox g1 133 [(int .i64 (0 : Int)), (Value.slice none 0 0)])] [(fDat (tyList tyS_lumref_bunch) [v0_0] a0)])) (fun i => (tab [(0, v0_0), (2, (ptr g1 0)), (4, (int .i64 i.2)), (10, v0_0), (11, (int .i64 (a0.length : Int))), (12, (int .i64 i.1))])) (fun q i => f_lumref_least_L29 a0 kk3 q i.1 i.2 = some r) ?_ fu ((0 : Int), (0 : Int)) h) (fun w a hm hs => norm hm hs [0] [0] [(0, v0_0), (2, (ptr g1 0)), (4, (int .i64 (0 : Int))), (10, v0_0), (11, (int .i64 (a0.length : Int))), (12, (int .i64 (0 : Int)))] (by decide) ⟨rfl, rfl, rfl, rfl, rfl, rfl, trivial⟩)
  clear h
  rintro k28 ⟨l27i12, l27i4⟩ h
  have h : f_lumref_least_L29 a0 kk3 k28 l27i12 l27i4 = some r := h
  obtain _ | k28 := k28
  · rw [f_lumref_least_L29] at h; cases h
  rw [f_lumref_least_L29] at h
  refine aw_show (m := (memOf w0 Z0 [] [(oBox g1 133 [(int .i64 (0 : Int)), (Value.slice none 0 0)])] [(fDat (tyList tyS_lumref_bunch) [v0_0] a0)])) (S := (tab [(0, v0_0), (2, (ptr g1 0)), (4, (int .i64 l27i4)), (10, v0_0), (11, (int .i64 (a0.length : Int))), (12, (int .i64 l27i12))])) ?_
  refine aw_sr ?_
  refine al_in rfl rfl rfl rfl ?_
  refine al_nt ?_
  refine aw_seq ?_
  refine aw_cond rfl (fun hb30 => ?_) (fun hb30 => ?_)
  ·replace h := bif_t hb30 h
   refine aw_skip ?_
   refine aq_then ?_
   obtain ⟨kk32, hkk32, h⟩ := lt_some h
   refine aw_seq_join (ι := Int) (fun i => (memOf w0 Z0 [] [(oBox g1 133 [(int .i64 (0 : Int)), (Value.slice none 0 0)])] [(fDat (tyList tyS_lumref_bunch) [v0_0] a0)])) (fun i => (tab [(0, v0_0), (2, (ptr g1 0)), (4, (int .i64 i)), (10, v0_0), (11, (int .i64 (a0.length : Int))), (12, (int .i64 l27i12))])) (fun i => kk32 i = some r) ?_ ?_
   ·rintro j31i4 h
    have h : kk32 j31i4 = some r := h
    rw [hkk32] at h
    dsimp only at h
    clear hkk32
    refine aw_show (m := (memOf w0 Z0 [] [(oBox g1 133 [(int .i64 (0 : Int)), (Value.slice none 0 0)])] [(fDat (tyList tyS_lumref_bunch) [v0_0] a0)])) (S := (tab [(0, v0_0), (2, (ptr g1 0)), (4, (int .i64 j31i4)), (10, v0_0), (11, (int .i64 (a0.length : Int))), (12, (int .i64 l27i12))])) ?_
    refine aw_region ?_
    refine al_in rfl rfl rfl rfl ?_
    refine al_mv rfl rfl ?_
    refine al_nil ?_
    exact aq_again k28 ((IntKind.i64.wrap (l27i12 + (1 : Int))), j31i4) (Nat.lt_succ_self _) h (fun w a hm hs => norm hm hs [0] [0] [(0, v0_0), (2, (ptr g1 0)), (4, (int .i64 j31i4)), (10, v0_0), (11, (int .i64 (a0.length : Int))), (12, (int .i64 (IntKind.i64.wrap (l27i12 + (1 : Int)))))] (by decide) ⟨rfl, rfl, rfl, rfl, rfl, rfl, trivial⟩)
   ·clear hkk32
    refine aw_block ?_
    refine aw_sr ?_
    refine al_mv rfl rfl ?_
    obtain ⟨u33, hu34, h⟩ := opt_some h
    refine al_idxD 0 hu34 rfl rfl rfl Try.underlying131 sz133 rfl (fun p35 => ?_)
    refine al_loadPA 0 rfl rfl Try.underlying133 sz133 rfl rfl (fun cs37 => ?_)
    refine al_use (ι := Value) 0 rfl (fun j => cs37 = [(int .i64 u33.weight), j]) (fun j => [(fDat (tyList (tyInt .i64)) [j] u33.signs)]) encnS_lumref_bunch (fun s36 hq => ?_)
    subst hq
    refine al_alloc (zs := [(int .i64 (0 : Int)), (Value.slice none 0 0)]) (zeroOf_to to133) rfl rfl (fun g38 => ?_)
    refine al_as rfl rfl ?_
    refine al_store (i := 0) (vs := [(int .i64 u33.weight), s36]) (cs' := [(int .i64 u33.weight), s36]) rfl rfl rfl sz133 (cv_rfl rfl) rfl (co_val rfl (co_fz 0 rfl co_nil)) (Nat.le_of_ble_eq_true rfl) rfl rfl ?_
    refine al_nt ?_
    obtain ⟨kk40, hkk40, h⟩ := lt_some h
    refine aw_seq_join (ι := Bool) (fun i => (memOf w0 Z0 [] [(oBox g1 133 [(int .i64 (0 : Int)), (Value.slice none 0 0)])] [(fDat (tyList tyS_lumref_bunch) [v0_0] a0), (fDat (tyList (tyInt .i64)) [s36] u33.signs), (fDat tyS_lumref_bunch [(int .i64 u33.weight), s36] u33), (fPtr tyS_lumref_bunch p35 u33)])) (fun i => (tab [(0, v0_0), (2, (ptr g1 0)), (4, (int .i64 l27i4)), (5, (int .i64 l27i12)), (10, v0_0), (11, (int .i64 (a0.length : Int))), (12, (int .i64 l27i12)), (48, (bool i))])) (fun i => kk40 i = some r) ?_ ?_
    ·rintro j39b48 h
     have h : kk40 j39b48 = some r := h
     rw [hkk40] at h
     dsimp only at h
     clear hkk40
     refine aw_show (m := (memOf w0 Z0 [] [(oBox g1 133 [(int .i64 (0 : Int)), (Value.slice none 0 0)])] [(fDat (tyList tyS_lumref_bunch) [v0_0] a0), (fDat (tyList (tyInt .i64)) [s36] u33.signs), (fDat tyS_lumref_bunch [(int .i64 u33.weight), s36] u33), (fPtr tyS_lumref_bunch p35 u33)])) (S := (tab [(0, v0_0), (2, (ptr g1 0)), (4, (int .i64 l27i4)), (5, (int .i64 l27i12)), (10, v0_0), (11, (int .i64 (a0.length : Int))), (12, (int .i64 l27i12)), (48, (bool j39b48))])) ?_
     refine aw_cond rfl (fun hb41 => ?_) (fun hb41 => ?_)
     ·replace h := bif_t hb41 h
      refine aw_region ?_
      refine al_mv rfl rfl ?_
      refine al_as rfl rfl ?_
      refine al_nil ?_
      refine aq_block ?_
      exact aq_join l27i12 h (fun w a hm hs => norm hm hs [0] [0] [(0, v0_0), (2, (ptr g1 0)), (4, (int .i64 l27i12)), (10, v0_0), (11, (int .i64 (a0.length : Int))), (12, (int .i64 l27i12))] (by decide) ⟨rfl, rfl, rfl, rfl, rfl, rfl, trivial⟩)
     ·replace h := bif_f hb41 h
      refine aw_skip ?_
      refine aq_block ?_
      exact aq_join l27i4 h (fun w a hm hs => norm hm hs [0] [0] [(0, v0_0), (2, (ptr g1 0)), (4, (int .i64 l27i4)), (10, v0_0), (11, (int .i64 (a0.length : Int))), (12, (int .i64 l27i12))] (by decide) ⟨rfl, rfl, rfl, rfl, rfl, rfl, trivial⟩)
    ·clear hkk40
     obtain ⟨u42, hu43, h⟩ := opt_some h
     rcases Bool.eq_false_or_eq_true (decide (u33.weight < u42.weight)) with hb46 | hb46
     ·replace h := bif_t hb46 h
      refine aw_region_draw 31 [(17, (fun u => fEq u (ptr g38 0))), (18, (fun u => fEq u (int .i64 u33.weight))), (19, (fun u => fEq u v0_0)), (20, (fun u => fEq u (int .i64 l27i4))), (21, (fun p44 => (fPtr tyS_lumref_bunch p44 u42))), (22, (fun p45 => (fPtr (tyInt .i64) p45 u42.weight))), (23, (fun u => fEq u (int .i64 u42.weight))), (24, (fun u => fEq u (bool true))), (25, (fun u => fEq u (bool true))), (26, (fun u => fEq u undef)), (27, (fun u => fEq u undef)), (28, (fun u => fEq u undef)), (29, (fun u => fEq u undef)), (30, (fun u => fEq u undef)), (31, (fun u => fEq u undef)), (32, (fun u => fEq u undef)), (33, (fun u => fEq u undef)), (34, (fun u => fEq u undef)), (35, (fun u => fEq u undef)), (36, (fun u => fEq u undef)), (37, (fun u => fEq u undef)), (38, (fun u => fEq u undef)), (39, (fun u => fEq u undef)), (40, (fun u => fEq u undef)), (41, (fun u => fEq u undef)), (42, (fun u => fEq u undef)), (43, (fun u => fEq u undef)), (44, (fun u => fEq u undef)), (45, (fun u => fEq u undef)), (46, (fun u => fEq u undef)), (47, (fun u => fEq u undef))] (tab [(0, v0_0), (2, (ptr g1 0)), (4, (int .i64 l27i4)), (5, (int .i64 l27i12)), (6, (ptr g38 0)), (10, v0_0), (11, (int .i64 (a0.length : Int))), (12, (int .i64 l27i12))]) mixed (by kernel_rfl) rfl rfl rfl (fun a hs => hs.tab _ (allT_mem ⟨rfl, rfl, rfl, rfl, rfl, rfl, rfl, rfl, trivial⟩)) ⟨⟨rfl, ld_val (ov_fieldA (p := 0) rfl Try.underlying133 rfl sz3 rfl rfl rfl)⟩, ⟨rfl, ld_eq (j := 0) rfl rfl (ld_val (ov_load (i := 0) (v := (int .i64 u33.weight)) rfl rfl Try.underlying3 sz3 rfl rfl rfl rfl))⟩, ⟨rfl, ld_val (ov_move rfl rfl)⟩, ⟨rfl, ld_val (ov_move rfl rfl)⟩, ⟨rfl, ld_eq (j := 2) rfl rfl (ld_eq (j := 3) rfl rfl (ld_of (of_idxD 3 hu43 rfl rfl rfl Try.underlying131 sz133 rfl)))⟩, ⟨rfl, ld_fact (j := 4) rfl rfl (fun p44 => ld_of (of_fieldD (pr := fun (y : S_lumref_bunch) => y.weight) 0 rfl subS_lumref_bunch_0 rfl Try.underlying133 rfl sz3 rfl rfl))⟩, ⟨rfl, ld_fact (j := 5) rfl rfl (fun p45 => ld_val (ov_loadP (ds := [(int .i64 u42.weight)]) 0 rfl (fun h => h) rfl Try.underlying3 sz3 rfl rfl rfl))⟩, ⟨rfl, ld_eq (j := 1) rfl rfl (ld_eq (j := 6) rfl rfl (ld_val (ov_cast (by first | rw [hb46] | rfl) (ov_int rfl rfl rfl rfl))))⟩, ⟨rfl, ld_eq (j := 7) rfl rfl (ld_val (ov_cast (by first | rw [hb46] | rfl) (ov_move rfl rfl)))⟩, ⟨rfl, ld_eq (j := 8) rfl rfl (ld_skip)⟩, ⟨rfl, ld_eq (j := 8) rfl rfl (ld_skip)⟩, ⟨rfl, ld_eq (j := 8) rfl rfl (ld_skip)⟩, ⟨rfl, ld_eq (j := 8) rfl rfl (ld_skip)⟩, ⟨rfl, ld_eq (j := 8) rfl rfl (ld_skip)⟩, ⟨rfl, ld_eq (j := 8) rfl rfl (ld_skip)⟩, ⟨rfl, ld_eq (j := 8) rfl rfl (ld_skip)⟩, ⟨rfl, ld_eq (j := 8) rfl rfl (ld_skip)⟩, ⟨rfl, ld_eq (j := 8) rfl rfl (ld_skip)⟩, ⟨rfl, ld_eq (j := 17) rfl rfl (ld_skip)⟩, ⟨rfl, ld_eq (j := 17) rfl rfl (ld_skip)⟩, ⟨rfl, ld_eq (j := 17) rfl rfl (ld_skip)⟩, ⟨rfl, ld_eq (j := 17) rfl rfl (ld_skip)⟩, ⟨rfl, ld_eq (j := 17) rfl rfl (ld_skip)⟩, ⟨rfl, ld_eq (j := 17) rfl rfl (ld_skip)⟩, ⟨rfl, ld_eq (j := 17) rfl rfl (ld_skip)⟩, ⟨rfl, ld_eq (j := 17) rfl rfl (ld_skip)⟩, ⟨rfl, ld_eq (j := 17) rfl rfl (ld_skip)⟩, ⟨rfl, ld_eq (j := 17) rfl rfl (ld_skip)⟩, ⟨rfl, ld_eq (j := 17) rfl rfl (ld_skip)⟩, ⟨rfl, ld_eq (j := 17) rfl rfl (ld_skip)⟩, ⟨rfl, ld_eq (j := 8) rfl rfl (ld_skip)⟩, trivial⟩ ?_
      refine tl_eq 8 rfl ?_
      refine tl_eq 30 rfl ?_
      refine tl_done ?_
      refine al_val (ov_pick_t rfl rfl rfl) ?_
      refine al_nil ?_
      exact aq_join true h (fun w a hm hs => norm hm hs [1] [3, 0, 1, 2] [(0, v0_0), (2, (ptr g1 0)), (4, (int .i64 l27i4)), (5, (int .i64 l27i12)), (10, v0_0), (11, (int .i64 (a0.length : Int))), (12, (int .i64 l27i12)), (48, (bool true))] (by decide) ⟨rfl, rfl, rfl, rfl, rfl, rfl, rfl, rfl, trivial⟩)
     ·replace h := bif_f hb46 h
      obtain ⟨u47, hu48, h⟩ := opt_some h
      rcases Bool.eq_false_or_eq_true (u33.weight == u47.weight) with hb51 | hb51
      ·replace h := bif_t hb51 h
       obtain ⟨u52, hu53, h⟩ := opt_some h
       obtain ⟨u55, hu56, h⟩ := opt_some h
       obtain ⟨u60, hu61, h⟩ := opt_some h
       refine aw_region_draw 31 [(17, (fun u => fEq u (ptr g38 0))), (18, (fun u => fEq u (int .i64 u33.weight))), (19, (fun u => fEq u v0_0)), (20, (fun u => fEq u (int .i64 l27i4))), (21, (fun p44 => (fPtr tyS_lumref_bunch p44 u42))), (22, (fun p45 => (fPtr (tyInt .i64) p45 u42.weight))), (23, (fun u => fEq u (int .i64 u42.weight))), (24, (fun u => fEq u (bool false))), (25, (fun u => fEq u (bool false))), (26, (fun u => fEq u (ptr g38 0))), (27, (fun u => fEq u (int .i64 u33.weight))), (28, (fun u => fEq u v0_0)), (29, (fun u => fEq u (int .i64 l27i4))), (30, (fun p49 => (fPtr tyS_lumref_bunch p49 u47))), (31, (fun p50 => (fPtr (tyInt .i64) p50 u47.weight))), (32, (fun u => fEq u (int .i64 u47.weight))), (33, (fun u => fEq u (bool true))), (34, (fun u => fEq u (bool true))), (35, (fun u => fEq u (ptr g38 1))), (36, (fun u => fEq u s36)), (37, (fun p54 => (fPtr (tyInt .i64) p54 u52))), (38, (fun u => fEq u (int .i64 u52))), (39, (fun u => fEq u v0_0)), (40, (fun u => fEq u (int .i64 l27i4))), (41, (fun p57 => (fPtr tyS_lumref_bunch p57 u55))), (42, (fun p58 => (fPtr (tyList (tyInt .i64)) p58 u55.signs))), (43, (fun s59 => (fDat (tyList (tyInt .i64)) [s59] u55.signs))), (44, (fun p62 => (fPtr (tyInt .i64) p62 u60))), (45, (fun u => fEq u (int .i64 u60))), (46, (fun u => fEq u (bool (decide (u52 < u60))))), (47, (fun u => fEq u (bool (decide (u52 < u60)))))] (tab [(0, v0_0), (2, (ptr g1 0)), (4, (int .i64 l27i4)), (5, (int .i64 l27i12)), (6, (ptr g38 0)), (10, v0_0), (11, (int .i64 (a0.length : Int))), (12, (int .i64 l27i12))]) mixed (by kernel_rfl) rfl rfl rfl (fun a hs => hs.tab _ (allT_mem ⟨rfl, rfl, rfl, rfl, rfl, rfl, rfl, rfl, trivial⟩)) ⟨⟨rfl, ld_val (ov_fieldA (p := 0) rfl Try.underlying133 rfl sz3 rfl rfl rfl)⟩, ⟨rfl, ld_eq (j := 0) rfl rfl (ld_val (ov_load (i := 0) (v := (int .i64 u33.weight)) rfl rfl Try.underlying3 sz3 rfl rfl rfl rfl))⟩, ⟨rfl, ld_val (ov_move rfl rfl)⟩, ⟨rfl, ld_val (ov_move rfl rfl)⟩, ⟨rfl, ld_eq (j := 2) rfl rfl (ld_eq (j := 3) rfl rfl (ld_of (of_idxD 3 hu43 rfl rfl rfl Try.underlying131 sz133 rfl)))⟩, ⟨rfl, ld_fact (j := 4) rfl rfl (fun p44 => ld_of (of_fieldD (pr := fun (y : S_lumref_bunch) => y.weight) 0 rfl subS_lumref_bunch_0 rfl Try.underlying133 rfl sz3 rfl rfl))⟩, ⟨rfl, ld_fact (j := 5) rfl rfl (fun p45 => ld_val (ov_loadP (ds := [(int .i64 u42.weight)]) 0 rfl (fun h => h) rfl Try.underlying3 sz3 rfl rfl rfl))⟩, ⟨rfl, ld_eq (j := 1) rfl rfl (ld_eq (j := 6) rfl rfl (ld_val (ov_cast (by first | rw [hb46] | rfl) (ov_int rfl rfl rfl rfl))))⟩, ⟨rfl, ld_eq (j := 7) rfl rfl (ld_val (ov_cast (by first | rw [hb46] | rfl) (ov_move rfl rfl)))⟩, ⟨rfl, ld_eq (j := 8) rfl rfl (ld_val (ov_fieldA (p := 0) rfl Try.underlying133 rfl sz3 rfl rfl rfl))⟩, ⟨rfl, ld_eq (j := 8) rfl rfl (ld_eq (j := 9) rfl rfl (ld_val (ov_load (i := 0) (v := (int .i64 u33.weight)) rfl rfl Try.underlying3 sz3 rfl rfl rfl rfl)))⟩, ⟨rfl, ld_eq (j := 8) rfl rfl (ld_val (ov_move rfl rfl))⟩, ⟨rfl, ld_eq (j := 8) rfl rfl (ld_val (ov_move rfl rfl))⟩, ⟨rfl, ld_eq (j := 8) rfl rfl (ld_eq (j := 11) rfl rfl (ld_eq (j := 12) rfl rfl (ld_of (of_idxD 3 hu48 rfl rfl rfl Try.underlying131 sz133 rfl))))⟩, ⟨rfl, ld_eq (j := 8) rfl rfl (ld_fact (j := 13) rfl rfl (fun p49 => ld_of (of_fieldD (pr := fun (y : S_lumref_bunch) => y.weight) 0 rfl subS_lumref_bunch_0 rfl Try.underlying133 rfl sz3 rfl rfl)))⟩, ⟨rfl, ld_eq (j := 8) rfl rfl (ld_fact (j := 14) rfl rfl (fun p50 => ld_val (ov_loadP (ds := [(int .i64 u47.weight)]) 0 rfl (fun h => h) rfl Try.underlying3 sz3 rfl rfl rfl)))⟩, ⟨rfl, ld_eq (j := 8) rfl rfl (ld_eq (j := 10) rfl rfl (ld_eq (j := 15) rfl rfl (ld_val (ov_cast (by first | rw [hb51] | rfl) (ov_int rfl rfl rfl rfl)))))⟩, ⟨rfl, ld_eq (j := 8) rfl rfl (ld_eq (j := 16) rfl rfl (ld_val (ov_cast (by first | rw [hb51] | rfl) (ov_move rfl rfl))))⟩, ⟨rfl, ld_eq (j := 17) rfl rfl (ld_val (ov_fieldA (p := 1) rfl Try.underlying133 rfl sz22 rfl rfl rfl))⟩, ⟨rfl, ld_eq (j := 17) rfl rfl (ld_eq (j := 18) rfl rfl (ld_val (ov_load (i := 0) (v := s36) rfl rfl Try.underlying22 sz22 rfl rfl rfl rfl)))⟩, ⟨rfl, ld_eq (j := 17) rfl rfl (ld_eq (j := 19) rfl rfl (ld_of (of_idxD 0 hu53 rfl rfl rfl Try.underlying22 sz3 rfl)))⟩, ⟨rfl, ld_eq (j := 17) rfl rfl (ld_fact (j := 20) rfl rfl (fun p54 => ld_val (ov_loadP (ds := [(int .i64 u52)]) 0 rfl (fun h => h) rfl Try.underlying3 sz3 rfl rfl rfl)))⟩, ⟨rfl, ld_eq (j := 17) rfl rfl (ld_val (ov_move rfl rfl))⟩, ⟨rfl, ld_eq (j := 17) rfl rfl (ld_val (ov_move rfl rfl))⟩, ⟨rfl, ld_eq (j := 17) rfl rfl (ld_eq (j := 22) rfl rfl (ld_eq (j := 23) rfl rfl (ld_of (of_idxD 3 hu56 rfl rfl rfl Try.underlying131 sz133 rfl))))⟩, ⟨rfl, ld_eq (j := 17) rfl rfl (ld_fact (j := 24) rfl rfl (fun p57 => ld_of (of_fieldD (pr := fun (y : S_lumref_bunch) => y.signs) 0 rfl subS_lumref_bunch_1 rfl Try.underlying133 rfl sz22 rfl rfl)))⟩, ⟨rfl, ld_eq (j := 17) rfl rfl (ld_fact (j := 25) rfl rfl (fun p58 => ld_of (of_loadP1 0 rfl rfl Try.underlying22 sz22 rfl rfl rfl)))⟩, ⟨rfl, ld_eq (j := 17) rfl rfl (ld_fact (j := 26) rfl rfl (fun s59 => ld_of (of_idxD 0 hu61 rfl rfl rfl Try.underlying22 sz3 rfl)))⟩, ⟨rfl, ld_eq (j := 17) rfl rfl (ld_fact (j := 27) rfl rfl (fun p62 => ld_val (ov_loadP (ds := [(int .i64 u60)]) 0 rfl (fun h => h) rfl Try.underlying3 sz3 rfl rfl rfl)))⟩, ⟨rfl, ld_eq (j := 17) rfl rfl (ld_eq (j := 21) rfl rfl (ld_eq (j := 28) rfl rfl (ld_val (ov_int rfl rfl rfl rfl))))⟩, ⟨rfl, ld_eq (j := 8) rfl rfl (ld_eq (j := 17) rfl rfl (ld_eq (j := 29) rfl rfl (ld_val (ov_pick_t rfl rfl rfl))))⟩, trivial⟩ ?_
       refine tl_eq 8 rfl ?_
       refine tl_eq 30 rfl ?_
       refine tl_done ?_
       refine al_val (ov_pick_f rfl rfl rfl) ?_
       refine al_nil ?_
       exact aq_join (decide (u52 < u60)) h (fun w a hm hs => norm hm hs [1] [3, 0, 1, 2] [(0, v0_0), (2, (ptr g1 0)), (4, (int .i64 l27i4)), (5, (int .i64 l27i12)), (10, v0_0), (11, (int .i64 (a0.length : Int))), (12, (int .i64 l27i12)), (48, (bool (decide (u52 < u60))))] (by decide) ⟨rfl, rfl, rfl, rfl, rfl, rfl, rfl, rfl, trivial⟩)
      ·replace h := bif_f hb51 h
       refine aw_region_draw 31 [(17, (fun u => fEq u (ptr g38 0))), (18, (fun u => fEq u (int .i64 u33.weight))), (19, (fun u => fEq u v0_0)), (20, (fun u => fEq u (int .i64 l27i4))), (21, (fun p44 => (fPtr tyS_lumref_bunch p44 u42))), (22, (fun p45 => (fPtr (tyInt .i64) p45 u42.weight))), (23, (fun u => fEq u (int .i64 u42.weight))), (24, (fun u => fEq u (bool false))), (25, (fun u => fEq u (bool false))), (26, (fun u => fEq u (ptr g38 0))), (27, (fun u => fEq u (int .i64 u33.weight))), (28, (fun u => fEq u v0_0)), (29, (fun u => fEq u (int .i64 l27i4))), (30, (fun p49 => (fPtr tyS_lumref_bunch p49 u47))), (31, (fun p50 => (fPtr (tyInt .i64) p50 u47.weight))), (32, (fun u => fEq u (int .i64 u47.weight))), (33, (fun u => fEq u (bool false))), (34, (fun u => fEq u (bool false))), (35, (fun u => fEq u undef)), (36, (fun u => fEq u undef)), (37, (fun u => fEq u undef)), (38, (fun u => fEq u undef)), (39, (fun u => fEq u undef)), (40, (fun u => fEq u undef)), (41, (fun u => fEq u undef)), (42, (fun u => fEq u undef)), (43, (fun u => fEq u undef)), (44, (fun u => fEq u undef)), (45, (fun u => fEq u undef)), (46, (fun u => fEq u undef)), (47, (fun u => fEq u (bool false)))] (tab [(0, v0_0), (2, (ptr g1 0)), (4, (int .i64 l27i4)), (5, (int .i64 l27i12)), (6, (ptr g38 0)), (10, v0_0), (11, (int .i64 (a0.length : Int))), (12, (int .i64 l27i12))]) mixed (by kernel_rfl) rfl rfl rfl (fun a hs => hs.tab _ (allT_mem ⟨rfl, rfl, rfl, rfl, rfl, rfl, rfl, rfl, trivial⟩)) ⟨⟨rfl, ld_val (ov_fieldA (p := 0) rfl Try.underlying133 rfl sz3 rfl rfl rfl)⟩, ⟨rfl, ld_eq (j := 0) rfl rfl (ld_val (ov_load (i := 0) (v := (int .i64 u33.weight)) rfl rfl Try.underlying3 sz3 rfl rfl rfl rfl))⟩, ⟨rfl, ld_val (ov_move rfl rfl)⟩, ⟨rfl, ld_val (ov_move rfl rfl)⟩, ⟨rfl, ld_eq (j := 2) rfl rfl (ld_eq (j := 3) rfl rfl (ld_of (of_idxD 3 hu43 rfl rfl rfl Try.underlying131 sz133 rfl)))⟩, ⟨rfl, ld_fact (j := 4) rfl rfl (fun p44 => ld_of (of_fieldD (pr := fun (y : S_lumref_bunch) => y.weight) 0 rfl subS_lumref_bunch_0 rfl Try.underlying133 rfl sz3 rfl rfl))⟩, ⟨rfl, ld_fact (j := 5) rfl rfl (fun p45 => ld_val (ov_loadP (ds := [(int .i64 u42.weight)]) 0 rfl (fun h => h) rfl Try.underlying3 sz3 rfl rfl rfl))⟩, ⟨rfl, ld_eq (j := 1) rfl rfl (ld_eq (j := 6) rfl rfl (ld_val (ov_cast (by first | rw [hb46] | rfl) (ov_int rfl rfl rfl rfl))))⟩, ⟨rfl, ld_eq (j := 7) rfl rfl (ld_val (ov_cast (by first | rw [hb46] | rfl) (ov_move rfl rfl)))⟩, ⟨rfl, ld_eq (j := 8) rfl rfl (ld_val (ov_fieldA (p := 0) rfl Try.underlying133 rfl sz3 rfl rfl rfl))⟩, ⟨rfl, ld_eq (j := 8) rfl rfl (ld_eq (j := 9) rfl rfl (ld_val (ov_load (i := 0) (v := (int .i64 u33.weight)) rfl rfl Try.underlying3 sz3 rfl rfl rfl rfl)))⟩, ⟨rfl, ld_eq (j := 8) rfl rfl (ld_val (ov_move rfl rfl))⟩, ⟨rfl, ld_eq (j := 8) rfl rfl (ld_val (ov_move rfl rfl))⟩, ⟨rfl, ld_eq (j := 8) rfl rfl (ld_eq (j := 11) rfl rfl (ld_eq (j := 12) rfl rfl (ld_of (of_idxD 3 hu48 rfl rfl rfl Try.underlying131 sz133 rfl))))⟩, ⟨rfl, ld_eq (j := 8) rfl rfl (ld_fact (j := 13) rfl rfl (fun p49 => ld_of (of_fieldD (pr := fun (y : S_lumref_bunch) => y.weight) 0 rfl subS_lumref_bunch_0 rfl Try.underlying133 rfl sz3 rfl rfl)))⟩, ⟨rfl, ld_eq (j := 8) rfl rfl (ld_fact (j := 14) rfl rfl (fun p50 => ld_val (ov_loadP (ds := [(int .i64 u47.weight)]) 0 rfl (fun h => h) rfl Try.underlying3 sz3 rfl rfl rfl)))⟩, ⟨rfl, ld_eq (j := 8) rfl rfl (ld_eq (j := 10) rfl rfl (ld_eq (j := 15) rfl rfl (ld_val (ov_cast (by first | rw [hb51] | rfl) (ov_int rfl rfl rfl rfl)))))⟩, ⟨rfl, ld_eq (j := 8) rfl rfl (ld_eq (j := 16) rfl rfl (ld_val (ov_cast (by first | rw [hb51] | rfl) (ov_move rfl rfl))))⟩, ⟨rfl, ld_eq (j := 17) rfl rfl (ld_skip)⟩, ⟨rfl, ld_eq (j := 17) rfl rfl (ld_skip)⟩, ⟨rfl, ld_eq (j := 17) rfl rfl (ld_skip)⟩, ⟨rfl, ld_eq (j := 17) rfl rfl (ld_skip)⟩, ⟨rfl, ld_eq (j := 17) rfl rfl (ld_skip)⟩, ⟨rfl, ld_eq (j := 17) rfl rfl (ld_skip)⟩, ⟨rfl, ld_eq (j := 17) rfl rfl (ld_skip)⟩, ⟨rfl, ld_eq (j := 17) rfl rfl (ld_skip)⟩, ⟨rfl, ld_eq (j := 17) rfl rfl (ld_skip)⟩, ⟨rfl, ld_eq (j := 17) rfl rfl (ld_skip)⟩, ⟨rfl, ld_eq (j := 17) rfl rfl (ld_skip)⟩, ⟨rfl, ld_eq (j := 17) rfl rfl (ld_skip)⟩, ⟨rfl, ld_eq (j := 8) rfl rfl (ld_eq (j := 17) rfl rfl (ld_eq (j := 29) rfl rfl (ld_val (ov_pick_f rfl rfl rfl))))⟩, trivial⟩ ?_
       refine tl_eq 8 rfl ?_
       refine tl_eq 30 rfl ?_
       refine tl_done ?_
       refine al_val (ov_pick_f rfl rfl rfl) ?_
       refine al_nil ?_
       exact aq_join false h (fun w a hm hs => norm hm hs [1] [3, 0, 1, 2] [(0, v0_0), (2, (ptr g1 0)), (4, (int .i64 l27i4)), (5, (int .i64 l27i12)), (10, v0_0), (11, (int .i64 (a0.length : Int))), (12, (int .i64 l27i12)), (48, (bool false))] (by decide) ⟨rfl, rfl, rfl, rfl, rfl, rfl, rfl, rfl, trivial⟩)
  ·replace h := bif_f hb30 h
   refine aw_exit ?_
   refine aq_then_exit ?_
   refine aq_then_exit ?_
   refine aq_block_exit ?_
   exact aq_join l27i4 h (fun w a hm hs => norm hm hs [0] [0] [(0, v0_0), (2, (ptr g1 0)), (4, (int .i64 l27i4))] (by decide) ⟨rfl, rfl, rfl, trivial⟩)
def f_lumref_has_L5 (a0 : (List Int)) (a1 : Int) (kk2 : (Unit → Option Bool)) : Nat → Int → Option Bool
  | 0, _ => none
  | k4 + 1, l3i9 => (bif (decide (l3i9 < (a0.length : Int))) then (opt (at? a0 l3i9) fun (u7 : Int) => (bif (u7 == a1) then (some true) else (f_lumref_has_L5 a0 a1 kk2 k4 (IntKind.i64.wrap (l3i9 + (1 : Int)))))) else (kk2 ()))
def f_lumref_has (fu : Nat) (a0 : (List Int)) (a1 : Int) : Option Bool := (lt (fun (_ : Unit) => (some false)) fun (kk2 : Unit → Option Bool) => (f_lumref_has_L5 a0 a1 kk2 fu (0 : Int)))
set_option maxRecDepth 100000 in
theorem f_lumref_has_ok (fu : Nat) (v0_0 : Value) (a0 : (List Int)) (a1 : Int) {r : Bool} (h : f_lumref_has fu a0 a1 = some r) : FnOk Try.prog 67 [v0_0, (int .i64 a1)] [(fDat (tyList (tyInt .i64)) [v0_0] a0)] [] (fun (i : Unit) => { val := (bool r) }) := by
 unfold f_lumref_has at h
 refine fn_enter Try.func67 rfl Try.ntmps67 rfl (fun w0 Z0 => ?_)
 refine aw_sr ?_
 refine al_as rfl rfl ?_
 refine al_nt ?_
 obtain ⟨kk2, hkk2, h⟩ := lt_some h
 refine aw_seq_join (ι := Unit) (fun i => (memOf w0 Z0 [] [] [(fDat (tyList (tyInt .i64)) [v0_0] a0)])) (fun i => (tab [])) (fun i => kk2 () = some r) ?_ ?_
 ·rintro _ h
  have h : kk2 () = some r := h
  rw [hkk2] at h
  dsimp only at h
  clear hkk2
  refine aw_show (m := (memOf w0 Z0 [] [] [(fDat (tyList (tyInt .i64)) [v0_0] a0)])) (S := (tab [])) ?_
  refine aw_sr ?_
  refine al_as rfl rfl ?_
  refine al_nt ?_
  refine aw_ret ?_
  obtain rfl := Option.some.inj h
  exact fn_ret () [] [] rfl rfl rfl rfl (res1 rfl rfl) rfl rfl rfl (by decide)
 ·clear hkk2
  refine aw_sr ?_
  refine al_mv rfl rfl ?_
  refine al_val (ov_lenD 0 rfl rfl Try.underlying22 rfl) ?_
  refine al_mv rfl rfl ?_
  refine al_nt ?_
  refine aw_block ?_
  refine aw_state (aw_loop (ι := Int) (fun i => (memOf w0 Z0 [] [] [(fDat (tyList (tyInt .i64)) [v0_0] a0)])) (fun i => (tab [(1, (int .i64 a1)), (7, v0_0), (8, (int .i64 (a0.length : Int))), (9, (int .i64 i))])) (fun q i => f_lumref_has_L5 a0 a1 kk2 q i = some r) ?_ fu (0 : Int) h) (fun w a hm hs => norm hm hs [] [0] [(1, (int .i64 a1)), (7, v0_0), (8, (int .i64 (a0.length : Int))), (9, (int .i64 (0 : Int)))] (by decide) ⟨rfl, rfl, rfl, rfl, trivial⟩)
  clear h
  rintro k4 l3i9 h
  have h : f_lumref_has_L5 a0 a1 kk2 k4 l3i9 = some r := h
  obtain _ | k4 := k4
  · rw [f_lumref_has_L5] at h; cases h
  rw [f_lumref_has_L5] at h
  refine aw_show (m := (memOf w0 Z0 [] [] [(fDat (tyList (tyInt .i64)) [v0_0] a0)])) (S := (tab [(1, (int .i64 a1)), (7, v0_0), (8, (int .i64 (a0.length : Int))), (9, (int .i64 l3i9))])) ?_
  refine aw_sr ?_
  refine al_in rfl rfl rfl rfl ?_
  refine al_nt ?_
  refine aw_seq ?_
  refine aw_cond rfl (fun hb6 => ?_) (fun hb6 => ?_)
  ·replace h := bif_t hb6 h
   refine aw_skip ?_
   refine aq_then ?_
   refine aw_seq ?_
   refine aw_block ?_
   refine aw_sr ?_
   obtain ⟨u7, hu8, h⟩ := opt_some h
   refine al_idxD 0 hu8 rfl rfl rfl Try.underlying22 sz3 rfl (fun p9 => ?_)
   refine al_val (ov_loadP (ds := [(int .i64 u7)]) 0 rfl (fun h => h) rfl Try.underlying3 sz3 rfl rfl rfl) ?_
   refine al_as rfl rfl ?_
   refine al_nt ?_
   refine aw_sr ?_
   refine al_mv rfl rfl ?_
   refine al_mv rfl rfl ?_
   refine al_in rfl rfl rfl rfl ?_
   refine al_nt ?_
   refine aw_cond rfl (fun hb10 => ?_) (fun hb10 => ?_)
   ·replace h := bif_t hb10 h
    refine aw_sr ?_
    refine al_as rfl rfl ?_
    refine al_nt ?_
    refine aw_ret ?_
    refine aq_block_ret ?_
    refine aq_then_ret ?_
    refine aq_then_ret ?_
    refine aq_block_ret ?_
    refine aq_then_ret ?_
    obtain rfl := Option.some.inj h
    exact fn_ret () [] [] rfl rfl rfl rfl (res1 rfl rfl) rfl rfl rfl (by decide)
   ·replace h := bif_f hb10 h
    refine aw_skip ?_
    refine aq_block ?_
    refine aq_then ?_
    refine aw_region ?_
    refine al_in rfl rfl rfl rfl ?_
    refine al_mv rfl rfl ?_
    refine al_nil ?_
    exact aq_again k4 (IntKind.i64.wrap (l3i9 + (1 : Int))) (Nat.lt_succ_self _) h (fun w a hm hs => norm hm hs [] [1] [(1, (int .i64 a1)), (7, v0_0), (8, (int .i64 (a0.length : Int))), (9, (int .i64 (IntKind.i64.wrap (l3i9 + (1 : Int)))))] (by decide) ⟨rfl, rfl, rfl, rfl, trivial⟩)
  ·replace h := bif_f hb6 h
   refine aw_exit ?_
   refine aq_then_exit ?_
   refine aq_then_exit ?_
   refine aq_block_exit ?_
   exact aq_join () h (fun w a hm hs => norm hm hs [] [0] [] (by decide) trivial)
def f_lumref_Lengths_L35 (a0 : (List Int)) (r20 : (S_lumref_bunch × (List S_lumref_bunch))) (r24 : (S_lumref_bunch × (List S_lumref_bunch))) (kk29 : ((List Int) → (List Int) → Option ((List Int) × Int))) (fu : Nat) : Nat → (List Int) → (List Int) → Int → Option ((List Int) × Int)
  | 0, _, _, _ => none
  | k34 + 1, l33x7, l33x10_1, l33i78 => (bif (decide (l33i78 < (a0.length : Int))) then (lt (fun (j37x7 : (List Int)) (j37x10_1 : (List Int)) => (f_lumref_Lengths_L35 a0 r20 r24 kk29 fu k34 j37x7 j37x10_1 (IntKind.i64.wrap (l33i78 + (1 : Int))))) fun (kk38 : (List Int) → (List Int) → Option ((List Int) × Int)) => (lt (fun (j39b90 : Bool) => (bif j39b90 then (req (((l33x10_1.length + ([l33i78]).length) * 8 : Nat) ≤ 140737488355328 ∧ l33x10_1.length + ([l33i78]).length ≤ 9223372036854775807) (opt (at? l33x7 l33i78) fun (u45 : Int) => (opt (at? l33x7 l33i78) fun (u49 : Int) => (kk38 (l33x7.set (l33i78).toNat (IntKind.i64.wrap (u45 + (1 : Int)))) (l33x10_1 ++ ([l33i78])))))) else (kk38 l33x7 l33x10_1))) fun (kk40 : Bool → Option ((List Int) × Int)) => (opt (f_lumref_has fu r20.1.signs l33i78) fun (r54 : Bool) => (bif r54 then (kk40 true) else (opt (f_lumref_has fu r24.1.signs l33i78) fun (r57 : Bool) => (kk40 r57)))))) else (kk29 l33x7 l33x10_1))
def f_lumref_Lengths_L14 (a0 : (List Int)) (kk11 : ((List Int) → Option ((List Int) × Int))) (fu : Nat) : Nat → (List S_lumref_bunch) → (List Int) → Option ((List Int) × Int)
  | 0, _, _ => none
  | k13 + 1, l12x4, l12x7 => (lt (fun (l12x4 : (List S_lumref_bunch)) (l12x7 : (List Int)) => (f_lumref_Lengths_L14 a0 kk11 fu k13 l12x4 l12x7)) fun (kk15 : (List S_lumref_bunch) → (List Int) → Option ((List Int) × Int)) => (bif (decide ((l12x4.length : Int) > (1 : Int))) then (opt (f_lumref_least fu l12x4) fun (r20 : (S_lumref_bunch × (List S_lumref_bunch))) => (opt (f_lumref_least fu r20.2) fun (r24 : (S_lumref_bunch × (List S_lumref_bunch))) => (lt (fun (j28x7 : (List Int)) (j28x10_1 : (List Int)) => (req (((r24.2.length + ([(S_lumref_bunch.mk (IntKind.i64.wrap (r20.1.weight + r24.1.weight)) j28x10_1)]).length) * 32 : Nat) ≤ 140737488355328 ∧ r24.2.length + ([(S_lumref_bunch.mk (IntKind.i64.wrap (r20.1.weight + r24.1.weight)) j28x10_1)]).length ≤ 9223372036854775807) (kk15 (r24.2 ++ ([(S_lumref_bunch.mk (IntKind.i64.wrap (r20.1.weight + r24.1.weight)) j28x10_1)])) j28x7))) fun (kk29 : (List Int) → (List Int) → Option ((List Int) × Int)) => (f_lumref_Lengths_L35 a0 r20 r24 kk29 fu fu l12x7 ([] : List Int) (0 : Int))))) else (kk11 l12x7)))
def f_lumref_Lengths_L75 (a0 : (List Int)) (kk5 : ((List S_lumref_bunch) → Option ((List Int) × Int))) : Nat → (List S_lumref_bunch) → Int → Option ((List Int) × Int)
  | 0, _, _ => none
  | k74 + 1, l73x4, l73i22 => (bif (decide (l73i22 < (a0.length : Int))) then (lt (fun (j77x4 : (List S_lumref_bunch)) => (f_lumref_Lengths_L75 a0 kk5 k74 j77x4 (IntKind.i64.wrap (l73i22 + (1 : Int))))) fun (kk78 : (List S_lumref_bunch) → Option ((List Int) × Int)) => (opt (at? a0 l73i22) fun (u79 : Int) => (lt (fun (j82b32 : Bool) => (bif j82b32 then (some (([] : List Int), (1 : Int))) else (bif (decide (u79 > (0 : Int))) then (req (((l73x4.length + ([(S_lumref_bunch.mk u79 ([l73i22]))]).length) * 32 : Nat) ≤ 140737488355328 ∧ l73x4.length + ([(S_lumref_bunch.mk u79 ([l73i22]))]).length ≤ 9223372036854775807) (kk78 (l73x4 ++ ([(S_lumref_bunch.mk u79 ([l73i22]))])))) else (kk78 l73x4)))) fun (kk83 : Bool → Option ((List Int) × Int)) => (bif (decide (u79 < (0 : Int))) then (kk83 true) else (kk83 (decide (u79 > (1048576 : Int)))))))) else (kk5 l73x4))
end Go.Proofs.Ytfhifdmbdkkgaaa
