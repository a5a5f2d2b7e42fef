/- Walks by program. No condition. -/
import Derived.Test.YtjbgahmcobcojaaEn19
import Derived.Test.YtjbgahmcobcojaaChecked
import Derived.Test.YtjbgahmcobcojaaWBloomSays_a
namespace Go.Proofs.Ytjbgahmcobcojaa
open Go.RowKit Ytjbgahmcobcojaa.En
set_option linter.unusedVariables false
set_option linter.unusedSimpArgs false
set_option maxRecDepth 100000 in
theorem f_lumlaw_BloomSays_ok (fu : Nat) (a0 : A16u64) (a1 : A16u64) (a2 : A8u8) {r : Bool} (h : f_lumlaw_BloomSays fu a0 a1 a2 = some r) : FnOk Try.prog 3 [(ag (cA16u64 a0)), (ag (cA16u64 a1)), (ag (cA8u8 a2))] [] [] (fun (i : Unit) => { val := (Value.bool r) }) := by
  unfold f_lumlaw_BloomSays at h
  refine fn_enter Try.func3 rfl Try.ntmps3 rfl (fun w0 Z0 => ?_)
  refine aw_seq ?_
  refine aw_region ?_
  refine al_box (vs := (cA16u64 a0)) rfl (cv_rfl rfl) rfl (fun g1 => ?_)
  refine al_box (vs := (cA16u64 a1)) rfl (cv_rfl rfl) rfl (fun g2 => ?_)
  refine al_box (vs := (cA8u8 a2)) rfl (cv_rfl rfl) rfl (fun g3 => ?_)
  refine al_val (ov_assign rfl rfl) ?_
  refine al_nil ?_
  refine aq_then ?_
  refine aw_seq ?_
  refine aw_region_open [⟨0, 15, Unit, fun _ => { val := (ag (cA16u64 a0)) }⟩, ⟨1, 16, Unit, fun _ => { val := (ag (cA8u8 a2)) }⟩, ⟨3, 18, Unit, fun _ => { val := (ag (cA16u64 a0)) }⟩, ⟨4, 19, Unit, fun _ => { val := (ag (cA16u64 a1)) }⟩, ⟨5, 20, Value, fun (i : Value) => { val := i, own := [(oRow i 24 tyA16u64 [a0, a1])] }⟩, ⟨7, 8, Nat, fun (i : Nat) => { val := (ptr i 0), own := [(oBox i 24 (cA16u64 (A16u64.mk (0 : Int) (0 : Int) (0 : Int) (0 : Int) (0 : Int) (0 : Int) (0 : Int) (0 : Int) (0 : Int) (0 : Int) (0 : Int) (0 : Int) (0 : Int) (0 : Int) (0 : Int) (0 : Int))))] }⟩, ⟨8, 9, Nat, fun (i : Nat) => { val := (ptr i 0), own := [(oBox i 24 (cA16u64 (A16u64.mk (0 : Int) (0 : Int) (0 : Int) (0 : Int) (0 : Int) (0 : Int) (0 : Int) (0 : Int) (0 : Int) (0 : Int) (0 : Int) (0 : Int) (0 : Int) (0 : Int) (0 : Int) (0 : Int))))] }⟩] (tab [(3, (ptr g1 0)), (4, (ptr g2 0)), (5, (ptr g3 0))]) mixed (fun a hs => hs.tab _ (allT_mem ⟨rfl, rfl, rfl, trivial⟩)) ?_
  refine ta_show (m := (memOf w0 Z0 [] [(oBox g3 26 (cA8u8 a2)), (oBox g2 24 (cA16u64 a1)), (oBox g1 24 (cA16u64 a0))] [])) (S := (tab [(3, (ptr g1 0)), (4, (ptr g2 0)), (5, (ptr g3 0))])) ?_
  refine ta_step 2 _ [0, 1, 3, 4, 5, 7, 8] [15, 16, 18, 19, 20, 8, 9] [0, 1] [] [⟨0, 15, Unit, fun _ => { val := (ag (cA16u64 a0)) }⟩, ⟨1, 16, Unit, fun _ => { val := (ag (cA8u8 a2)) }⟩] [⟨3, 18, Unit, fun _ => { val := (ag (cA16u64 a0)) }⟩, ⟨4, 19, Unit, fun _ => { val := (ag (cA16u64 a1)) }⟩, ⟨5, 20, Value, fun (i : Value) => { val := i, own := [(oRow i 24 tyA16u64 [a0, a1])] }⟩, ⟨7, 8, Nat, fun (i : Nat) => { val := (ptr i 0), own := [(oBox i 24 (cA16u64 (A16u64.mk (0 : Int) (0 : Int) (0 : Int) (0 : Int) (0 : Int) (0 : Int) (0 : Int) (0 : Int) (0 : Int) (0 : Int) (0 : Int) (0 : Int) (0 : Int) (0 : Int) (0 : Int) (0 : Int))))] }⟩, ⟨8, 9, Nat, fun (i : Nat) => { val := (ptr i 0), own := [(oBox i 24 (cA16u64 (A16u64.mk (0 : Int) (0 : Int) (0 : Int) (0 : Int) (0 : Int) (0 : Int) (0 : Int) (0 : Int) (0 : Int) (0 : Int) (0 : Int) (0 : Int) (0 : Int) (0 : Int) (0 : Int) (0 : Int))))] }⟩] rfl rfl rfl (by kernel_rfl) rfl rfl rfl ⟨⟨_, rfl, [], rfl, by
    intro X_ Y_ F_ K_ hK_
    refine al_show (m := Mem.plus (memOf w0 Z0 [] [(oBox g3 26 (cA8u8 a2)), (oBox g2 24 (cA16u64 a1)), (oBox g1 24 (cA16u64 a0))] []) X_ Y_) (S := over (tab [(3, (ptr g1 0)), (4, (ptr g2 0)), (5, (ptr g3 0))]) F_) ?_
    refine al_val (ov_load (i := 2) (v := (ag (cA16u64 a0))) rfl rfl Try.underlying24 sz24 rfl rfl rfl rfl) ?_
    refine al_nil ?_
    exact fr_fin hK_ ()⟩, ⟨_, rfl, [], rfl, by
    intro X_ Y_ F_ K_ hK_
    refine al_show (m := Mem.plus (memOf w0 Z0 [] [(oBox g3 26 (cA8u8 a2)), (oBox g2 24 (cA16u64 a1)), (oBox g1 24 (cA16u64 a0))] []) X_ Y_) (S := over (tab [(3, (ptr g1 0)), (4, (ptr g2 0)), (5, (ptr g3 0))]) F_) ?_
    refine al_val (ov_load (i := 0) (v := (ag (cA8u8 a2))) rfl rfl Try.underlying26 sz26 rfl rfl rfl rfl) ?_
    refine al_nil ?_
    exact fr_fin hK_ ()⟩, ⟨_, rfl, [], rfl, by
    intro X_ Y_ F_ K_ hK_
    refine al_show (m := Mem.plus (memOf w0 Z0 [] [(oBox g3 26 (cA8u8 a2)), (oBox g2 24 (cA16u64 a1)), (oBox g1 24 (cA16u64 a0))] []) X_ Y_) (S := over (tab [(3, (ptr g1 0)), (4, (ptr g2 0)), (5, (ptr g3 0))]) F_) ?_
    refine al_val (ov_load (i := 2) (v := (ag (cA16u64 a0))) rfl rfl Try.underlying24 sz24 rfl rfl rfl rfl) ?_
    refine al_nil ?_
    exact fr_fin hK_ ()⟩, ⟨_, rfl, [], rfl, by
    intro X_ Y_ F_ K_ hK_
    refine al_show (m := Mem.plus (memOf w0 Z0 [] [(oBox g3 26 (cA8u8 a2)), (oBox g2 24 (cA16u64 a1)), (oBox g1 24 (cA16u64 a0))] []) X_ Y_) (S := over (tab [(3, (ptr g1 0)), (4, (ptr g2 0)), (5, (ptr g3 0))]) F_) ?_
    refine al_val (ov_load (i := 1) (v := (ag (cA16u64 a1))) rfl rfl Try.underlying24 sz24 rfl rfl rfl rfl) ?_
    refine al_nil ?_
    exact fr_fin hK_ ()⟩, ⟨_, rfl, [2, 3], rfl, by
    intro _
    intro _
    intro X_ Y_ F_ K_ hK_
    refine al_show (m := Mem.plus (memOf w0 Z0 [] [(oBox g3 26 (cA8u8 a2)), (oBox g2 24 (cA16u64 a1)), (oBox g1 24 (cA16u64 a0))] []) X_ Y_) (S := over (put (put (tab [(3, (ptr g1 0)), (4, (ptr g2 0)), (5, (ptr g3 0))]) 18 (ag (cA16u64 a0))) 19 (ag (cA16u64 a1))) F_) ?_
    refine al_buildSlice (τ := tyA16u64) (e := 24) (k := 2) (sz := 0) (by_ := 0) (z := undef) (cs := ((cA16u64 a0) ++ (cA16u64 a1))) (xs := [a0, a1]) rfl (by decide) (fun w a hm hs => ⟨(((cA16u64 a0) ++ (cA16u64 a1))).toArray, rfl, by simp only [List.map_toArray, List.map_cons, List.map_nil, hs.ev (x := .tmp 18) rfl, hs.ev (x := .tmp 19) rfl]; exact run_bs [(ag (cA16u64 a0)), (ag (cA16u64 a1))] ((cA16u64 a0) ++ (cA16u64 a1)) Try.underlying61 to24 rfl rfl (bs_cons (l := (cA16u64 a0)) (cs := (cA16u64 a1)) (cv_rfl rfl) rfl (bs_cons (l := (cA16u64 a1)) (cs := []) (cv_rfl rfl) rfl bs_nil)) hm⟩) (fun hm => ⟨_, _, rfl, (fun _ => mkA16u64 rfl) hm, ⟨_, _, rfl, (fun _ => mkA16u64 rfl) hm, rfl⟩⟩) rfl (fun v4 => ?_)
    refine al_nil ?_
    exact fr_fin hK_ v4⟩, ⟨_, rfl, [], rfl, by
    intro X_ Y_ F_ K_ hK_
    refine al_show (m := Mem.plus (memOf w0 Z0 [] [(oBox g3 26 (cA8u8 a2)), (oBox g2 24 (cA16u64 a1)), (oBox g1 24 (cA16u64 a0))] []) X_ Y_) (S := over (tab [(3, (ptr g1 0)), (4, (ptr g2 0)), (5, (ptr g3 0))]) F_) ?_
    refine al_alloc (zs := (cA16u64 (A16u64.mk (0 : Int) (0 : Int) (0 : Int) (0 : Int) (0 : Int) (0 : Int) (0 : Int) (0 : Int) (0 : Int) (0 : Int) (0 : Int) (0 : Int) (0 : Int) (0 : Int) (0 : Int) (0 : Int)))) (zeroOf_to to24) rfl rfl (fun g5 => ?_)
    refine al_nil ?_
    exact fr_fin hK_ g5⟩, ⟨_, rfl, [], rfl, by
    intro X_ Y_ F_ K_ hK_
    refine al_show (m := Mem.plus (memOf w0 Z0 [] [(oBox g3 26 (cA8u8 a2)), (oBox g2 24 (cA16u64 a1)), (oBox g1 24 (cA16u64 a0))] []) X_ Y_) (S := over (tab [(3, (ptr g1 0)), (4, (ptr g2 0)), (5, (ptr g3 0))]) F_) ?_
    refine al_alloc (zs := (cA16u64 (A16u64.mk (0 : Int) (0 : Int) (0 : Int) (0 : Int) (0 : Int) (0 : Int) (0 : Int) (0 : Int) (0 : Int) (0 : Int) (0 : Int) (0 : Int) (0 : Int) (0 : Int) (0 : Int) (0 : Int)))) (zeroOf_to to24) rfl rfl (fun g6 => ?_)
    refine al_nil ?_
    exact fr_fin hK_ g6⟩, trivial⟩ ?_
  intro _
  intro _
  intro X_ Y_ F_ K_ hK_
  refine al_show (m := Mem.plus (memOf w0 Z0 [] [(oBox g3 26 (cA8u8 a2)), (oBox g2 24 (cA16u64 a1)), (oBox g1 24 (cA16u64 a0))] []) X_ Y_) (S := over (put (put (tab [(3, (ptr g1 0)), (4, (ptr g2 0)), (5, (ptr g3 0))]) 15 (ag (cA16u64 a0))) 16 (ag (cA8u8 a2))) F_) ?_
  obtain ⟨r8, hc7, h⟩ := opt_some h
  refine al_callX (vs := [(ag (cA16u64 a0)), (ag (cA8u8 a2))]) (f_bloom_Add_ok fu a0 a2 hc7) [] [] [0, 1, 2] pre_nil rfl (by simp) (by decide) rfl (.inl rfl) rfl Try.func7 rfl rfl rfl (fun _ => ?_)
  refine al_nil ?_
  refine aq_show (m := Mem.plus (memOf w0 Z0 [] [(oBox g3 26 (cA8u8 a2)), (oBox g2 24 (cA16u64 a1)), (oBox g1 24 (cA16u64 a0))] []) X_ Y_) ?_
  refine aq_next hK_ [0, 1, 2] [] [(3, (ptr g1 0)), (4, (ptr g2 0)), (5, (ptr g3 0)), (17, (ag (cA16u64 r8)))] [18, 19, 20, 8, 9] [] rfl rfl (by decide) rfl ⟨rfl, rfl, rfl, rfl, trivial⟩ ⟨rfl, rfl, rfl, rfl, rfl, trivial⟩ ?_
  clear hK_ K_ F_ X_ Y_
  refine ta_show (m := (memOf w0 Z0 [] [(oBox g3 26 (cA8u8 a2)), (oBox g2 24 (cA16u64 a1)), (oBox g1 24 (cA16u64 a0))] [])) (S := (tab [(3, (ptr g1 0)), (4, (ptr g2 0)), (5, (ptr g3 0)), (17, (ag (cA16u64 r8)))])) ?_
  refine ta_step 6 _ [3, 4, 5, 7, 8] [18, 19, 20, 8, 9] [3, 4, 5] [] [⟨3, 18, Unit, fun _ => { val := (ag (cA16u64 a0)) }⟩, ⟨4, 19, Unit, fun _ => { val := (ag (cA16u64 a1)) }⟩, ⟨5, 20, Value, fun (i : Value) => { val := i, own := [(oRow i 24 tyA16u64 [a0, a1])] }⟩] [⟨7, 8, Nat, fun (i : Nat) => { val := (ptr i 0), own := [(oBox i 24 (cA16u64 (A16u64.mk (0 : Int) (0 : Int) (0 : Int) (0 : Int) (0 : Int) (0 : Int) (0 : Int) (0 : Int) (0 : Int) (0 : Int) (0 : Int) (0 : Int) (0 : Int) (0 : Int) (0 : Int) (0 : Int))))] }⟩, ⟨8, 9, Nat, fun (i : Nat) => { val := (ptr i 0), own := [(oBox i 24 (cA16u64 (A16u64.mk (0 : Int) (0 : Int) (0 : Int) (0 : Int) (0 : Int) (0 : Int) (0 : Int) (0 : Int) (0 : Int) (0 : Int) (0 : Int) (0 : Int) (0 : Int) (0 : Int) (0 : Int) (0 : Int))))] }⟩] rfl rfl rfl (by kernel_rfl) rfl rfl rfl ⟨⟨_, rfl, [], rfl, by
    intro X_ Y_ F_ K_ hK_
    refine al_show (m := Mem.plus (memOf w0 Z0 [] [(oBox g3 26 (cA8u8 a2)), (oBox g2 24 (cA16u64 a1)), (oBox g1 24 (cA16u64 a0))] []) X_ Y_) (S := over (tab [(3, (ptr g1 0)), (4, (ptr g2 0)), (5, (ptr g3 0)), (17, (ag (cA16u64 r8)))]) F_) ?_
    refine al_val (ov_load (i := 2) (v := (ag (cA16u64 a0))) rfl rfl Try.underlying24 sz24 rfl rfl rfl rfl) ?_
    refine al_nil ?_
    exact fr_fin hK_ ()⟩, ⟨_, rfl, [], rfl, by
    intro X_ Y_ F_ K_ hK_
    refine al_show (m := Mem.plus (memOf w0 Z0 [] [(oBox g3 26 (cA8u8 a2)), (oBox g2 24 (cA16u64 a1)), (oBox g1 24 (cA16u64 a0))] []) X_ Y_) (S := over (tab [(3, (ptr g1 0)), (4, (ptr g2 0)), (5, (ptr g3 0)), (17, (ag (cA16u64 r8)))]) F_) ?_
    refine al_val (ov_load (i := 1) (v := (ag (cA16u64 a1))) rfl rfl Try.underlying24 sz24 rfl rfl rfl rfl) ?_
    refine al_nil ?_
    exact fr_fin hK_ ()⟩, ⟨_, rfl, [0, 1], rfl, by
    intro _
    intro _
    intro X_ Y_ F_ K_ hK_
    refine al_show (m := Mem.plus (memOf w0 Z0 [] [(oBox g3 26 (cA8u8 a2)), (oBox g2 24 (cA16u64 a1)), (oBox g1 24 (cA16u64 a0))] []) X_ Y_) (S := over (put (put (tab [(3, (ptr g1 0)), (4, (ptr g2 0)), (5, (ptr g3 0)), (17, (ag (cA16u64 r8)))]) 18 (ag (cA16u64 a0))) 19 (ag (cA16u64 a1))) F_) ?_
    refine al_buildSlice (τ := tyA16u64) (e := 24) (k := 2) (sz := 0) (by_ := 0) (z := undef) (cs := ((cA16u64 a0) ++ (cA16u64 a1))) (xs := [a0, a1]) rfl (by decide) (fun w a hm hs => ⟨(((cA16u64 a0) ++ (cA16u64 a1))).toArray, rfl, by simp only [List.map_toArray, List.map_cons, List.map_nil, hs.ev (x := .tmp 18) rfl, hs.ev (x := .tmp 19) rfl]; exact run_bs [(ag (cA16u64 a0)), (ag (cA16u64 a1))] ((cA16u64 a0) ++ (cA16u64 a1)) Try.underlying61 to24 rfl rfl (bs_cons (l := (cA16u64 a0)) (cs := (cA16u64 a1)) (cv_rfl rfl) rfl (bs_cons (l := (cA16u64 a1)) (cs := []) (cv_rfl rfl) rfl bs_nil)) hm⟩) (fun hm => ⟨_, _, rfl, (fun _ => mkA16u64 rfl) hm, ⟨_, _, rfl, (fun _ => mkA16u64 rfl) hm, rfl⟩⟩) rfl (fun v4 => ?_)
    refine al_nil ?_
    exact fr_fin hK_ v4⟩, ⟨_, rfl, [], rfl, by
    intro X_ Y_ F_ K_ hK_
    refine al_show (m := Mem.plus (memOf w0 Z0 [] [(oBox g3 26 (cA8u8 a2)), (oBox g2 24 (cA16u64 a1)), (oBox g1 24 (cA16u64 a0))] []) X_ Y_) (S := over (tab [(3, (ptr g1 0)), (4, (ptr g2 0)), (5, (ptr g3 0)), (17, (ag (cA16u64 r8)))]) F_) ?_
    refine al_alloc (zs := (cA16u64 (A16u64.mk (0 : Int) (0 : Int) (0 : Int) (0 : Int) (0 : Int) (0 : Int) (0 : Int) (0 : Int) (0 : Int) (0 : Int) (0 : Int) (0 : Int) (0 : Int) (0 : Int) (0 : Int) (0 : Int)))) (zeroOf_to to24) rfl rfl (fun g5 => ?_)
    refine al_nil ?_
    exact fr_fin hK_ g5⟩, ⟨_, rfl, [], rfl, by
    intro X_ Y_ F_ K_ hK_
    refine al_show (m := Mem.plus (memOf w0 Z0 [] [(oBox g3 26 (cA8u8 a2)), (oBox g2 24 (cA16u64 a1)), (oBox g1 24 (cA16u64 a0))] []) X_ Y_) (S := over (tab [(3, (ptr g1 0)), (4, (ptr g2 0)), (5, (ptr g3 0)), (17, (ag (cA16u64 r8)))]) F_) ?_
    refine al_alloc (zs := (cA16u64 (A16u64.mk (0 : Int) (0 : Int) (0 : Int) (0 : Int) (0 : Int) (0 : Int) (0 : Int) (0 : Int) (0 : Int) (0 : Int) (0 : Int) (0 : Int) (0 : Int) (0 : Int) (0 : Int) (0 : Int)))) (zeroOf_to to24) rfl rfl (fun g6 => ?_)
    refine al_nil ?_
    exact fr_fin hK_ g6⟩, trivial⟩ ?_
  intro _
  intro _
  intro v4
  intro X_ Y_ F_ K_ hK_
  refine al_show (m := Mem.plus (memOf w0 Z0 [] [(oRow v4 24 tyA16u64 [a0, a1]), (oBox g3 26 (cA8u8 a2)), (oBox g2 24 (cA16u64 a1)), (oBox g1 24 (cA16u64 a0))] []) X_ Y_) (S := over (put (put (put (tab [(3, (ptr g1 0)), (4, (ptr g2 0)), (5, (ptr g3 0)), (17, (ag (cA16u64 r8)))]) 18 (ag (cA16u64 a0))) 19 (ag (cA16u64 a1))) 20 v4) F_) ?_
  obtain ⟨r10, hc9, h⟩ := opt_some h
  refine al_callX (vs := [v4]) (f_bloom_Join_ok fu v4 ([a0, a1]) hc9) [0] [] [0, 1, 2, 3] (pre_own 0 rfl rfl pre_nil) rfl (by simp) (by decide) rfl (.inr flat_res0) rfl Try.func8 rfl rfl rfl (fun _ => ?_)
  refine al_nil ?_
  refine aq_show (m := Mem.plus (memOf w0 Z0 [] [(oRow v4 24 tyA16u64 [a0, a1]), (oBox g3 26 (cA8u8 a2)), (oBox g2 24 (cA16u64 a1)), (oBox g1 24 (cA16u64 a0))] []) X_ Y_) ?_
  refine aq_next hK_ [0, 1, 2, 3] [] [(3, (ptr g1 0)), (4, (ptr g2 0)), (5, (ptr g3 0)), (17, (ag (cA16u64 r8))), (21, (ag (cA16u64 r10)))] [8, 9] [] rfl rfl (by decide) rfl ⟨rfl, rfl, rfl, rfl, rfl, trivial⟩ ⟨rfl, rfl, trivial⟩ ?_
  clear hK_ K_ F_ X_ Y_
  refine ta_show (m := (memOf w0 Z0 [] [(oRow v4 24 tyA16u64 [a0, a1]), (oBox g3 26 (cA8u8 a2)), (oBox g2 24 (cA16u64 a1)), (oBox g1 24 (cA16u64 a0))] [])) (S := (tab [(3, (ptr g1 0)), (4, (ptr g2 0)), (5, (ptr g3 0)), (17, (ag (cA16u64 r8))), (21, (ag (cA16u64 r10)))])) ?_
  refine ta_step 9 _ [7, 8] [8, 9] [7, 8] [] [⟨7, 8, Nat, fun (i : Nat) => { val := (ptr i 0), own := [(oBox i 24 (cA16u64 (A16u64.mk (0 : Int) (0 : Int) (0 : Int) (0 : Int) (0 : Int) (0 : Int) (0 : Int) (0 : Int) (0 : Int) (0 : Int) (0 : Int) (0 : Int) (0 : Int) (0 : Int) (0 : Int) (0 : Int))))] }⟩, ⟨8, 9, Nat, fun (i : Nat) => { val := (ptr i 0), own := [(oBox i 24 (cA16u64 (A16u64.mk (0 : Int) (0 : Int) (0 : Int) (0 : Int) (0 : Int) (0 : Int) (0 : Int) (0 : Int) (0 : Int) (0 : Int) (0 : Int) (0 : Int) (0 : Int) (0 : Int) (0 : Int) (0 : Int))))] }⟩] [] rfl rfl rfl (by kernel_rfl) rfl rfl rfl ⟨⟨_, rfl, [], rfl, by
    intro X_ Y_ F_ K_ hK_
    refine al_show (m := Mem.plus (memOf w0 Z0 [] [(oRow v4 24 tyA16u64 [a0, a1]), (oBox g3 26 (cA8u8 a2)), (oBox g2 24 (cA16u64 a1)), (oBox g1 24 (cA16u64 a0))] []) X_ Y_) (S := over (tab [(3, (ptr g1 0)), (4, (ptr g2 0)), (5, (ptr g3 0)), (17, (ag (cA16u64 r8))), (21, (ag (cA16u64 r10)))]) F_) ?_
    refine al_alloc (zs := (cA16u64 (A16u64.mk (0 : Int) (0 : Int) (0 : Int) (0 : Int) (0 : Int) (0 : Int) (0 : Int) (0 : Int) (0 : Int) (0 : Int) (0 : Int) (0 : Int) (0 : Int) (0 : Int) (0 : Int) (0 : Int)))) (zeroOf_to to24) rfl rfl (fun g5 => ?_)
    refine al_nil ?_
    exact fr_fin hK_ g5⟩, ⟨_, rfl, [], rfl, by
    intro X_ Y_ F_ K_ hK_
    refine al_show (m := Mem.plus (memOf w0 Z0 [] [(oRow v4 24 tyA16u64 [a0, a1]), (oBox g3 26 (cA8u8 a2)), (oBox g2 24 (cA16u64 a1)), (oBox g1 24 (cA16u64 a0))] []) X_ Y_) (S := over (tab [(3, (ptr g1 0)), (4, (ptr g2 0)), (5, (ptr g3 0)), (17, (ag (cA16u64 r8))), (21, (ag (cA16u64 r10)))]) F_) ?_
    refine al_alloc (zs := (cA16u64 (A16u64.mk (0 : Int) (0 : Int) (0 : Int) (0 : Int) (0 : Int) (0 : Int) (0 : Int) (0 : Int) (0 : Int) (0 : Int) (0 : Int) (0 : Int) (0 : Int) (0 : Int) (0 : Int) (0 : Int)))) (zeroOf_to to24) rfl rfl (fun g6 => ?_)
    refine al_nil ?_
    exact fr_fin hK_ g6⟩, trivial⟩ ?_
  intro g5
  intro g6
  intro X_ Y_ F_ K_ hK_
  refine al_show (m := Mem.plus (memOf w0 Z0 [] [(oBox g6 24 (cA16u64 (A16u64.mk (0 : Int) (0 : Int) (0 : Int) (0 : Int) (0 : Int) (0 : Int) (0 : Int) (0 : Int) (0 : Int) (0 : Int) (0 : Int) (0 : Int) (0 : Int) (0 : Int) (0 : Int) (0 : Int)))), (oBox g5 24 (cA16u64 (A16u64.mk (0 : Int) (0 : Int) (0 : Int) (0 : Int) (0 : Int) (0 : Int) (0 : Int) (0 : Int) (0 : Int) (0 : Int) (0 : Int) (0 : Int) (0 : Int) (0 : Int) (0 : Int) (0 : Int)))), (oRow v4 24 tyA16u64 [a0, a1]), (oBox g3 26 (cA8u8 a2)), (oBox g2 24 (cA16u64 a1)), (oBox g1 24 (cA16u64 a0))] []) X_ Y_) (S := over (put (put (tab [(3, (ptr g1 0)), (4, (ptr g2 0)), (5, (ptr g3 0)), (17, (ag (cA16u64 r8))), (21, (ag (cA16u64 r10)))]) 8 (ptr g5 0)) 9 (ptr g6 0)) F_) ?_
  refine al_val (ov_assign rfl rfl) ?_
  refine al_nil ?_
  refine aq_show (m := Mem.plus (memOf w0 Z0 [] [(oBox g6 24 (cA16u64 (A16u64.mk (0 : Int) (0 : Int) (0 : Int) (0 : Int) (0 : Int) (0 : Int) (0 : Int) (0 : Int) (0 : Int) (0 : Int) (0 : Int) (0 : Int) (0 : Int) (0 : Int) (0 : Int) (0 : Int)))), (oBox g5 24 (cA16u64 (A16u64.mk (0 : Int) (0 : Int) (0 : Int) (0 : Int) (0 : Int) (0 : Int) (0 : Int) (0 : Int) (0 : Int) (0 : Int) (0 : Int) (0 : Int) (0 : Int) (0 : Int) (0 : Int) (0 : Int)))), (oRow v4 24 tyA16u64 [a0, a1]), (oBox g3 26 (cA8u8 a2)), (oBox g2 24 (cA16u64 a1)), (oBox g1 24 (cA16u64 a0))] []) X_ Y_) ?_
  refine aq_next hK_ [0, 1, 2, 3, 4, 5] [] [(3, (ptr g1 0)), (4, (ptr g2 0)), (5, (ptr g3 0)), (7, (Value.bool true)), (8, (ptr g5 0)), (9, (ptr g6 0)), (17, (ag (cA16u64 r8))), (21, (ag (cA16u64 r10)))] [] [] rfl rfl (by decide) rfl ⟨rfl, rfl, rfl, rfl, rfl, rfl, rfl, rfl, trivial⟩ trivial ?_
  clear hK_ K_ F_ X_ Y_
  refine ta_show (m := (memOf w0 Z0 [] [(oBox g6 24 (cA16u64 (A16u64.mk (0 : Int) (0 : Int) (0 : Int) (0 : Int) (0 : Int) (0 : Int) (0 : Int) (0 : Int) (0 : Int) (0 : Int) (0 : Int) (0 : Int) (0 : Int) (0 : Int) (0 : Int) (0 : Int)))), (oBox g5 24 (cA16u64 (A16u64.mk (0 : Int) (0 : Int) (0 : Int) (0 : Int) (0 : Int) (0 : Int) (0 : Int) (0 : Int) (0 : Int) (0 : Int) (0 : Int) (0 : Int) (0 : Int) (0 : Int) (0 : Int) (0 : Int)))), (oRow v4 24 tyA16u64 [a0, a1]), (oBox g3 26 (cA8u8 a2)), (oBox g2 24 (cA16u64 a1)), (oBox g1 24 (cA16u64 a0))] [])) (S := (tab [(3, (ptr g1 0)), (4, (ptr g2 0)), (5, (ptr g3 0)), (7, (Value.bool true)), (8, (ptr g5 0)), (9, (ptr g6 0)), (17, (ag (cA16u64 r8))), (21, (ag (cA16u64 r10)))])) ?_
  refine ta_step 10 _ [] [] [] [] [] [] rfl rfl rfl (by kernel_rfl) rfl rfl rfl trivial ?_
  intro X_ Y_ F_ K_ hK_
  refine al_show (m := Mem.plus (memOf w0 Z0 [] [(oBox g6 24 (cA16u64 (A16u64.mk (0 : Int) (0 : Int) (0 : Int) (0 : Int) (0 : Int) (0 : Int) (0 : Int) (0 : Int) (0 : Int) (0 : Int) (0 : Int) (0 : Int) (0 : Int) (0 : Int) (0 : Int) (0 : Int)))), (oBox g5 24 (cA16u64 (A16u64.mk (0 : Int) (0 : Int) (0 : Int) (0 : Int) (0 : Int) (0 : Int) (0 : Int) (0 : Int) (0 : Int) (0 : Int) (0 : Int) (0 : Int) (0 : Int) (0 : Int) (0 : Int) (0 : Int)))), (oRow v4 24 tyA16u64 [a0, a1]), (oBox g3 26 (cA8u8 a2)), (oBox g2 24 (cA16u64 a1)), (oBox g1 24 (cA16u64 a0))] []) X_ Y_) (S := over (tab [(3, (ptr g1 0)), (4, (ptr g2 0)), (5, (ptr g3 0)), (7, (Value.bool true)), (8, (ptr g5 0)), (9, (ptr g6 0)), (17, (ag (cA16u64 r8))), (21, (ag (cA16u64 r10)))]) F_) ?_
  refine al_store (i := 1) (vs := (cA16u64 r8)) (cs' := (cA16u64 r8)) rfl rfl rfl sz24 (cv_rfl rfl) rfl (co_all (oneA16u64 r8)) (Nat.le_of_ble_eq_true rfl) rfl rfl ?_
  refine al_nil ?_
  refine aq_show (m := Mem.plus (memOf w0 Z0 [] [(oBox g6 24 (cA16u64 (A16u64.mk (0 : Int) (0 : Int) (0 : Int) (0 : Int) (0 : Int) (0 : Int) (0 : Int) (0 : Int) (0 : Int) (0 : Int) (0 : Int) (0 : Int) (0 : Int) (0 : Int) (0 : Int) (0 : Int)))), (oBox g5 24 (cA16u64 r8)), (oRow v4 24 tyA16u64 [a0, a1]), (oBox g3 26 (cA8u8 a2)), (oBox g2 24 (cA16u64 a1)), (oBox g1 24 (cA16u64 a0))] []) X_ Y_) ?_
  refine aq_next hK_ [0, 1, 2, 3, 4, 5] [] [(3, (ptr g1 0)), (4, (ptr g2 0)), (5, (ptr g3 0)), (7, (Value.bool true)), (8, (ptr g5 0)), (9, (ptr g6 0)), (21, (ag (cA16u64 r10)))] [] [] rfl rfl (by decide) rfl ⟨rfl, rfl, rfl, rfl, rfl, rfl, rfl, trivial⟩ trivial ?_
  clear hK_ K_ F_ X_ Y_
  refine ta_show (m := (memOf w0 Z0 [] [(oBox g6 24 (cA16u64 (A16u64.mk (0 : Int) (0 : Int) (0 : Int) (0 : Int) (0 : Int) (0 : Int) (0 : Int) (0 : Int) (0 : Int) (0 : Int) (0 : Int) (0 : Int) (0 : Int) (0 : Int) (0 : Int) (0 : Int)))), (oBox g5 24 (cA16u64 r8)), (oRow v4 24 tyA16u64 [a0, a1]), (oBox g3 26 (cA8u8 a2)), (oBox g2 24 (cA16u64 a1)), (oBox g1 24 (cA16u64 a0))] [])) (S := (tab [(3, (ptr g1 0)), (4, (ptr g2 0)), (5, (ptr g3 0)), (7, (Value.bool true)), (8, (ptr g5 0)), (9, (ptr g6 0)), (21, (ag (cA16u64 r10)))])) ?_
  refine ta_step 11 _ [] [] [] [] [] [] rfl rfl rfl (by kernel_rfl) rfl rfl rfl trivial ?_
  intro X_ Y_ F_ K_ hK_
  refine al_show (m := Mem.plus (memOf w0 Z0 [] [(oBox g6 24 (cA16u64 (A16u64.mk (0 : Int) (0 : Int) (0 : Int) (0 : Int) (0 : Int) (0 : Int) (0 : Int) (0 : Int) (0 : Int) (0 : Int) (0 : Int) (0 : Int) (0 : Int) (0 : Int) (0 : Int) (0 : Int)))), (oBox g5 24 (cA16u64 r8)), (oRow v4 24 tyA16u64 [a0, a1]), (oBox g3 26 (cA8u8 a2)), (oBox g2 24 (cA16u64 a1)), (oBox g1 24 (cA16u64 a0))] []) X_ Y_) (S := over (tab [(3, (ptr g1 0)), (4, (ptr g2 0)), (5, (ptr g3 0)), (7, (Value.bool true)), (8, (ptr g5 0)), (9, (ptr g6 0)), (21, (ag (cA16u64 r10)))]) F_) ?_
  refine al_store (i := 0) (vs := (cA16u64 r10)) (cs' := (cA16u64 r10)) rfl rfl rfl sz24 (cv_rfl rfl) rfl (co_all (oneA16u64 r10)) (Nat.le_of_ble_eq_true rfl) rfl rfl ?_
  refine al_nil ?_
  refine aq_show (m := Mem.plus (memOf w0 Z0 [] [(oBox g6 24 (cA16u64 r10)), (oBox g5 24 (cA16u64 r8)), (oRow v4 24 tyA16u64 [a0, a1]), (oBox g3 26 (cA8u8 a2)), (oBox g2 24 (cA16u64 a1)), (oBox g1 24 (cA16u64 a0))] []) X_ Y_) ?_
  refine aq_next hK_ [0, 1, 2, 3, 4, 5] [] [(3, (ptr g1 0)), (4, (ptr g2 0)), (5, (ptr g3 0)), (7, (Value.bool true)), (8, (ptr g5 0)), (9, (ptr g6 0))] [] [] rfl rfl (by decide) rfl ⟨rfl, rfl, rfl, rfl, rfl, rfl, trivial⟩ trivial ?_
  clear hK_ K_ F_ X_ Y_
  refine ta_show (m := (memOf w0 Z0 [] [(oBox g6 24 (cA16u64 r10)), (oBox g5 24 (cA16u64 r8)), (oRow v4 24 tyA16u64 [a0, a1]), (oBox g3 26 (cA8u8 a2)), (oBox g2 24 (cA16u64 a1)), (oBox g1 24 (cA16u64 a0))] [])) (S := (tab [(3, (ptr g1 0)), (4, (ptr g2 0)), (5, (ptr g3 0)), (7, (Value.bool true)), (8, (ptr g5 0)), (9, (ptr g6 0))])) ?_
  refine ta_step 12 _ [] [] [] [] [] [] rfl rfl rfl (by kernel_rfl) rfl rfl rfl trivial ?_
  intro X_ Y_ F_ K_ hK_
  refine al_show (m := Mem.plus (memOf w0 Z0 [] [(oBox g6 24 (cA16u64 r10)), (oBox g5 24 (cA16u64 r8)), (oRow v4 24 tyA16u64 [a0, a1]), (oBox g3 26 (cA8u8 a2)), (oBox g2 24 (cA16u64 a1)), (oBox g1 24 (cA16u64 a0))] []) X_ Y_) (S := over (tab [(3, (ptr g1 0)), (4, (ptr g2 0)), (5, (ptr g3 0)), (7, (Value.bool true)), (8, (ptr g5 0)), (9, (ptr g6 0))]) F_) ?_
  refine al_val (ov_assign rfl rfl) ?_
  refine al_nil ?_
  refine aq_show (m := Mem.plus (memOf w0 Z0 [] [(oBox g6 24 (cA16u64 r10)), (oBox g5 24 (cA16u64 r8)), (oRow v4 24 tyA16u64 [a0, a1]), (oBox g3 26 (cA8u8 a2)), (oBox g2 24 (cA16u64 a1)), (oBox g1 24 (cA16u64 a0))] []) X_ Y_) ?_
  refine aq_next hK_ [0, 1, 2, 3, 4, 5] [] [(3, (ptr g1 0)), (4, (ptr g2 0)), (5, (ptr g3 0)), (7, (Value.bool true)), (8, (ptr g5 0)), (9, (ptr g6 0)), (10, (Value.int .i64 (0 : Int)))] [] [] rfl rfl (by decide) rfl ⟨rfl, rfl, rfl, rfl, rfl, rfl, rfl, trivial⟩ trivial ?_
  clear hK_ K_ F_ X_ Y_
  refine ta_show (m := (memOf w0 Z0 [] [(oBox g6 24 (cA16u64 r10)), (oBox g5 24 (cA16u64 r8)), (oRow v4 24 tyA16u64 [a0, a1]), (oBox g3 26 (cA8u8 a2)), (oBox g2 24 (cA16u64 a1)), (oBox g1 24 (cA16u64 a0))] [])) (S := (tab [(3, (ptr g1 0)), (4, (ptr g2 0)), (5, (ptr g3 0)), (7, (Value.bool true)), (8, (ptr g5 0)), (9, (ptr g6 0)), (10, (Value.int .i64 (0 : Int)))])) ?_
  refine ta_end [] [] rfl rfl (by kernel_rfl) rfl trivial ?_
  refine aq_show (m := (memOf w0 Z0 [] [(oBox g6 24 (cA16u64 r10)), (oBox g5 24 (cA16u64 r8)), (oRow v4 24 tyA16u64 [a0, a1]), (oBox g3 26 (cA8u8 a2)), (oBox g2 24 (cA16u64 a1)), (oBox g1 24 (cA16u64 a0))] [])) (S := (tab [(3, (ptr g1 0)), (4, (ptr g2 0)), (5, (ptr g3 0)), (7, (Value.bool true)), (8, (ptr g5 0)), (9, (ptr g6 0)), (10, (Value.int .i64 (0 : Int)))])) ?_
  refine aq_then ?_
  refine aw_seq ?_
  refine aw_region ?_
  refine al_makeMapI .i64 .i64 rfl (fun g11 => ?_)
  refine al_val (ov_assign rfl rfl) ?_
  refine al_nil ?_
  refine aq_then ?_
  obtain ⟨kk13, hkk13, h⟩ := lt_some h
  refine aw_seq_join (ι := (List (Int × Int))) (fun i => (memOf w0 Z0 [] [(oBox g1 24 (cA16u64 a0)), (oBox g2 24 (cA16u64 a1)), (oBox g3 26 (cA8u8 a2)), (oBox g5 24 (cA16u64 r8)), (oBox g6 24 (cA16u64 r10)), (oMapI g11 .i64 .i64 i)] [])) (fun i => (tab [(3, (ptr g1 0)), (4, (ptr g2 0)), (5, (ptr g3 0)), (7, (Value.bool true)), (8, (ptr g5 0)), (9, (ptr g6 0)), (10, (Value.int .i64 (0 : Int))), (11, (Value.map (some g11)))])) (fun i => kk13 i = some r) ?_ ?_
  · rintro j12xm11 h
    have h : kk13 j12xm11 = some r := h
    rw [hkk13] at h
    dsimp only at h
    clear hkk13
    refine aw_show (m := (memOf w0 Z0 [] [(oBox g1 24 (cA16u64 a0)), (oBox g2 24 (cA16u64 a1)), (oBox g3 26 (cA8u8 a2)), (oBox g5 24 (cA16u64 r8)), (oBox g6 24 (cA16u64 r10)), (oMapI g11 .i64 .i64 j12xm11)] [])) (S := (tab [(3, (ptr g1 0)), (4, (ptr g2 0)), (5, (ptr g3 0)), (7, (Value.bool true)), (8, (ptr g5 0)), (9, (ptr g6 0)), (10, (Value.int .i64 (0 : Int))), (11, (Value.map (some g11)))])) ?_
    obtain ⟨kk15, hkk15, h⟩ := lt_some h
    refine aw_seq_join (ι := Bool × Int) (fun i => (memOf w0 Z0 [] [(oBox g1 24 (cA16u64 a0)), (oBox g3 26 (cA8u8 a2))] [])) (fun i => (tab [(3, (ptr g1 0)), (5, (ptr g3 0)), (7, (Value.bool i.1)), (10, (Value.int .i64 i.2))])) (fun i => kk15 i.1 i.2 = some r) ?_ ?_
    · rintro ⟨j14b7, j14i10⟩ h
      have h : kk15 j14b7 j14i10 = some r := h
      rw [hkk15] at h
      dsimp only at h
      clear hkk15
      refine aw_show (m := (memOf w0 Z0 [] [(oBox g1 24 (cA16u64 a0)), (oBox g3 26 (cA8u8 a2))] [])) (S := (tab [(3, (ptr g1 0)), (5, (ptr g3 0)), (7, (Value.bool j14b7)), (10, (Value.int .i64 j14i10))])) ?_
      obtain ⟨kk17, hkk17, h⟩ := lt_some h
      refine aw_seq_join (ι := Bool) (fun i => (memOf w0 Z0 [] [] [])) (fun i => (tab [(6, (Value.bool i))])) (fun i => kk17 i = some r) ?_ ?_
      · rintro j16b6 h
        have h : kk17 j16b6 = some r := h
        rw [hkk17] at h
        dsimp only at h
        clear hkk17
        refine aw_show (m := (memOf w0 Z0 [] [] [])) (S := (tab [(6, (Value.bool j16b6))])) ?_
        refine aw_ret ?_
        obtain rfl := Option.some.inj h
        exact fn_ret () [] [] rfl rfl rfl rfl (res1 rfl rfl) rfl rfl rfl (by decide)
      · clear hkk17
        refine aw_region ?_
        refine al_val (ov_load (i := 0) (v := (ag (cA16u64 a0))) rfl rfl Try.underlying24 sz24 rfl rfl rfl rfl) ?_
        refine al_val (ov_load (i := 1) (v := (ag (cA8u8 a2))) rfl rfl Try.underlying26 sz26 rfl rfl rfl rfl) ?_
        obtain ⟨r19, hc18, h⟩ := opt_some h
        refine al_call (vs := [(ag (cA16u64 a0)), (ag (cA8u8 a2))]) (f_bloom_Has_ok fu a0 a2 hc18) [] [] [0, 1] pre_nil rfl (by simp) (by decide) (.inl rfl) rfl Try.func11 rfl rfl rfl (fun _ => ?_)
        refine al_val (ov_move rfl rfl) ?_
        refine al_val (ov_boolEq Try.underlying4 rfl rfl rfl) ?_
        refine al_val (ov_move rfl rfl) ?_
        refine al_caseB 83 rfl (fun hb20 => ?_) (fun hb20 => ?_)
        · replace h := bif_t hb20 h
          refine al_val (ov_load (i := 0) (v := (ag (cA16u64 a0))) rfl rfl Try.underlying24 sz24 rfl rfl rfl rfl) ?_
          obtain ⟨r22, hc21, h⟩ := opt_some h
          refine al_call (vs := [(ag (cA16u64 a0))]) (f_bloom_Count_ok fu a0 hc21) [] [] [0, 1] pre_nil rfl (by simp) (by decide) (.inl rfl) rfl Try.func12 rfl rfl rfl (fun _ => ?_)
          refine al_val (ov_move rfl rfl) ?_
          refine al_val (ov_int rfl rfl rfl rfl) ?_
          refine al_val (ov_pick_t rfl rfl rfl) ?_
          refine al_val (ov_move rfl rfl) ?_
          refine al_caseB 89 rfl (fun hb23 => ?_) (fun hb23 => ?_)
          · replace h := bif_t hb23 h
            obtain ⟨r25, hc24, h⟩ := opt_some h
            refine al_call (vs := [(Value.slice none 0 0)]) (f_bloom_Join_ok fu (Value.slice none 0 0) ([] : (List A16u64)) hc24) [] [] [0, 1] (pre_nilD pre_nil) rfl (by simp) (by decide) (.inl rfl) rfl Try.func8 rfl rfl rfl (fun _ => ?_)
            refine al_val (ov_build (cells := ((cA16u64 (A16u64.mk (0 : Int) (0 : Int) (0 : Int) (0 : Int) (0 : Int) (0 : Int) (0 : Int) (0 : Int) (0 : Int) (0 : Int) (0 : Int) (0 : Int) (0 : Int) (0 : Int) (0 : Int) (0 : Int)))).toArray) (cs := (cA16u64 (A16u64.mk (0 : Int) (0 : Int) (0 : Int) (0 : Int) (0 : Int) (0 : Int) (0 : Int) (0 : Int) (0 : Int) (0 : Int) (0 : Int) (0 : Int) (0 : Int) (0 : Int) (0 : Int) (0 : Int)))) rfl (fun w a hm hs => by simp only [List.map_toArray, List.map_cons, List.map_nil, List.toList_toArray]; kernel_rfl)) ?_
            obtain ⟨hc26, h⟩ := req_some h
            obtain ⟨hc27, h⟩ := req_some h
            obtain ⟨hc28, h⟩ := req_some h
            obtain ⟨hc29, h⟩ := req_some h
            obtain ⟨hc30, h⟩ := req_some h
            obtain ⟨hc31, h⟩ := req_some h
            obtain ⟨hc32, h⟩ := req_some h
            obtain ⟨hc33, h⟩ := req_some h
            obtain ⟨hc34, h⟩ := req_some h
            obtain ⟨hc35, h⟩ := req_some h
            obtain ⟨hc36, h⟩ := req_some h
            obtain ⟨hc37, h⟩ := req_some h
            obtain ⟨hc38, h⟩ := req_some h
            obtain ⟨hc39, h⟩ := req_some h
            obtain ⟨hc40, h⟩ := req_some h
            obtain ⟨hc41, h⟩ := req_some h
            obtain ⟨hc42, h⟩ := req_some h
            obtain ⟨hc43, h⟩ := req_some h
            obtain ⟨hc44, h⟩ := req_some h
            obtain ⟨hc45, h⟩ := req_some h
            obtain ⟨hc46, h⟩ := req_some h
            obtain ⟨hc47, h⟩ := req_some h
            obtain ⟨hc48, h⟩ := req_some h
            obtain ⟨hc49, h⟩ := req_some h
            obtain ⟨hc50, h⟩ := req_some h
            obtain ⟨hc51, h⟩ := req_some h
            obtain ⟨hc52, h⟩ := req_some h
            obtain ⟨hc53, h⟩ := req_some h
            obtain ⟨hc54, h⟩ := req_some h
            obtain ⟨hc55, h⟩ := req_some h
            obtain ⟨hc56, h⟩ := req_some h
            obtain ⟨hc57, h⟩ := req_some h
            refine al_val (ov_eqlA (cs := (cA16u64 r25)) (ds := (cA16u64 (A16u64.mk (0 : Int) (0 : Int) (0 : Int) (0 : Int) (0 : Int) (0 : Int) (0 : Int) (0 : Int) (0 : Int) (0 : Int) (0 : Int) (0 : Int) (0 : Int) (0 : Int) (0 : Int) (0 : Int)))) (ls := [22, 22, 22, 22, 22, 22, 22, 22, 22, 22, 22, 22, 22, 22, 22, 22]) (p := (r25 == (A16u64.mk (0 : Int) (0 : Int) (0 : Int) (0 : Int) (0 : Int) (0 : Int) (0 : Int) (0 : Int) (0 : Int) (0 : Int) (0 : Int) (0 : Int) (0 : Int) (0 : Int) (0 : Int) (0 : Int)))) eg24 kt24 lv24 rfl rfl (by kernel_rfl) (by kernel_rfl) (fit_cons (fit_int Try.underlying22 hc26) (fit_cons (fit_int Try.underlying22 hc27) (fit_cons (fit_int Try.underlying22 hc28) (fit_cons (fit_int Try.underlying22 hc29) (fit_cons (fit_int Try.underlying22 hc30) (fit_cons (fit_int Try.underlying22 hc31) (fit_cons (fit_int Try.underlying22 hc32) (fit_cons (fit_int Try.underlying22 hc33) (fit_cons (fit_int Try.underlying22 hc34) (fit_cons (fit_int Try.underlying22 hc35) (fit_cons (fit_int Try.underlying22 hc36) (fit_cons (fit_int Try.underlying22 hc37) (fit_cons (fit_int Try.underlying22 hc38) (fit_cons (fit_int Try.underlying22 hc39) (fit_cons (fit_int Try.underlying22 hc40) (fit_cons (fit_int Try.underlying22 hc41) fit_nil)))))))))))))))) (fit_cons (fit_int Try.underlying22 hc42) (fit_cons (fit_int Try.underlying22 hc43) (fit_cons (fit_int Try.underlying22 hc44) (fit_cons (fit_int Try.underlying22 hc45) (fit_cons (fit_int Try.underlying22 hc46) (fit_cons (fit_int Try.underlying22 hc47) (fit_cons (fit_int Try.underlying22 hc48) (fit_cons (fit_int Try.underlying22 hc49) (fit_cons (fit_int Try.underlying22 hc50) (fit_cons (fit_int Try.underlying22 hc51) (fit_cons (fit_int Try.underlying22 hc52) (fit_cons (fit_int Try.underlying22 hc53) (fit_cons (fit_int Try.underlying22 hc54) (fit_cons (fit_int Try.underlying22 hc55) (fit_cons (fit_int Try.underlying22 hc56) (fit_cons (fit_int Try.underlying22 hc57) fit_nil)))))))))))))))) (injA16u64 (x := r25) (y := (A16u64.mk (0 : Int) (0 : Int) (0 : Int) (0 : Int) (0 : Int) (0 : Int) (0 : Int) (0 : Int) (0 : Int) (0 : Int) (0 : Int) (0 : Int) (0 : Int) (0 : Int) (0 : Int) (0 : Int)))) rfl) ?_
            refine al_val (ov_pick_t rfl rfl rfl) ?_
            refine al_val (ov_assign rfl rfl) ?_
            refine al_nil ?_
            exact aq_join (r25 == (A16u64.mk (0 : Int) (0 : Int) (0 : Int) (0 : Int) (0 : Int) (0 : Int) (0 : Int) (0 : Int) (0 : Int) (0 : Int) (0 : Int) (0 : Int) (0 : Int) (0 : Int) (0 : Int) (0 : Int))) h (fun w a hm hs => norm hm hs [] [] [(6, (Value.bool (r25 == (A16u64.mk (0 : Int) (0 : Int) (0 : Int) (0 : Int) (0 : Int) (0 : Int) (0 : Int) (0 : Int) (0 : Int) (0 : Int) (0 : Int) (0 : Int) (0 : Int) (0 : Int) (0 : Int) (0 : Int)))))] (by decide) ⟨rfl, trivial⟩)
          · replace h := bif_f hb23 h
            refine al_skip ?_
            refine al_skip ?_
            refine al_skip ?_
            refine al_val (ov_pick_f rfl rfl rfl) ?_
            refine al_val (ov_assign rfl rfl) ?_
            refine al_nil ?_
            exact aq_join false h (fun w a hm hs => norm hm hs [] [] [(6, (Value.bool false))] (by decide) ⟨rfl, trivial⟩)
        · replace h := bif_f hb20 h
          refine al_skip ?_
          refine al_skip ?_
          refine al_skip ?_
          refine al_skip ?_
          refine al_val (ov_pick_f rfl rfl rfl) ?_
          refine al_val (ov_move rfl rfl) ?_
          refine al_skip ?_
          refine al_skip ?_
          refine al_skip ?_
          refine al_val (ov_pick_f rfl rfl rfl) ?_
          refine al_val (ov_assign rfl rfl) ?_
          refine al_nil ?_
          exact aq_join false h (fun w a hm hs => norm hm hs [] [] [(6, (Value.bool false))] (by decide) ⟨rfl, trivial⟩)
    · clear hkk15
      refine aw_seq ?_
      refine aw_region ?_
      refine al_val (ov_move rfl rfl) ?_
      refine al_nil ?_
      refine aq_then ?_
      refine aw_block ?_
      refine aw_state (aw_loop (ι := Bool × Int × Int) (fun i => (memOf w0 Z0 [] [(oBox g1 24 (cA16u64 a0)), (oBox g2 24 (cA16u64 a1)), (oBox g3 26 (cA8u8 a2)), (oBox g5 24 (cA16u64 r8)), (oBox g6 24 (cA16u64 r10)), (oMapI g11 .i64 .i64 j12xm11)] [])) (fun i => (tab [(3, (ptr g1 0)), (4, (ptr g2 0)), (5, (ptr g3 0)), (7, (Value.bool i.1)), (8, (ptr g5 0)), (9, (ptr g6 0)), (10, (Value.int .i64 i.2.1)), (11, (Value.map (some g11))), (31, (Value.int .i64 i.2.2))])) (fun q i => f_lumlaw_BloomSays_L60 a0 a1 r8 r10 j12xm11 kk15 fu q i.1 i.2.1 i.2.2 = some r) ?_ fu (true, (0 : Int), (0 : Int)) h) (fun w a hm hs => norm hm hs [0, 1, 2, 3, 4, 5] [] [(3, (ptr g1 0)), (4, (ptr g2 0)), (5, (ptr g3 0)), (7, (Value.bool true)), (8, (ptr g5 0)), (9, (ptr g6 0)), (10, (Value.int .i64 (0 : Int))), (11, (Value.map (some g11))), (31, (Value.int .i64 (0 : Int)))] (by decide) ⟨rfl, rfl, rfl, rfl, rfl, rfl, rfl, rfl, rfl, trivial⟩)
      clear h
      rintro k59 ⟨l58b7, l58i10, l58i31⟩ h
      have h : f_lumlaw_BloomSays_L60 a0 a1 r8 r10 j12xm11 kk15 fu k59 l58b7 l58i10 l58i31 = some r := h
      obtain _ | k59 := k59
      · rw [f_lumlaw_BloomSays_L60] at h; cases h
      rw [f_lumlaw_BloomSays_L60] at h
      refine aw_show (m := (memOf w0 Z0 [] [(oBox g1 24 (cA16u64 a0)), (oBox g2 24 (cA16u64 a1)), (oBox g3 26 (cA8u8 a2)), (oBox g5 24 (cA16u64 r8)), (oBox g6 24 (cA16u64 r10)), (oMapI g11 .i64 .i64 j12xm11)] [])) (S := (tab [(3, (ptr g1 0)), (4, (ptr g2 0)), (5, (ptr g3 0)), (7, (Value.bool l58b7)), (8, (ptr g5 0)), (9, (ptr g6 0)), (10, (Value.int .i64 l58i10)), (11, (Value.map (some g11))), (31, (Value.int .i64 l58i31))])) ?_
      refine aw_seq ?_
      refine aw_region ?_
      refine al_val (ov_int rfl rfl rfl rfl) ?_
      refine al_nil ?_
      refine aq_then ?_
      refine aw_seq ?_
      refine aw_cond rfl (fun hb61 => ?_) (fun hb61 => ?_)
      · replace h := bif_t hb61 h
        refine aw_skip ?_
        refine aq_then ?_
        obtain ⟨kk63, hkk63, h⟩ := lt_some h
        refine aw_seq_join (ι := Bool × Int) (fun i => (memOf w0 Z0 [] [(oBox g1 24 (cA16u64 a0)), (oBox g2 24 (cA16u64 a1)), (oBox g3 26 (cA8u8 a2)), (oBox g5 24 (cA16u64 r8)), (oBox g6 24 (cA16u64 r10)), (oMapI g11 .i64 .i64 j12xm11)] [])) (fun i => (tab [(3, (ptr g1 0)), (4, (ptr g2 0)), (5, (ptr g3 0)), (7, (Value.bool i.1)), (8, (ptr g5 0)), (9, (ptr g6 0)), (10, (Value.int .i64 i.2)), (11, (Value.map (some g11))), (31, (Value.int .i64 l58i31))])) (fun i => kk63 i.1 i.2 = some r) ?_ ?_
        · rintro ⟨j62b7, j62i10⟩ h
          have h : kk63 j62b7 j62i10 = some r := h
          rw [hkk63] at h
          dsimp only at h
          clear hkk63
          refine aw_show (m := (memOf w0 Z0 [] [(oBox g1 24 (cA16u64 a0)), (oBox g2 24 (cA16u64 a1)), (oBox g3 26 (cA8u8 a2)), (oBox g5 24 (cA16u64 r8)), (oBox g6 24 (cA16u64 r10)), (oMapI g11 .i64 .i64 j12xm11)] [])) (S := (tab [(3, (ptr g1 0)), (4, (ptr g2 0)), (5, (ptr g3 0)), (7, (Value.bool j62b7)), (8, (ptr g5 0)), (9, (ptr g6 0)), (10, (Value.int .i64 j62i10)), (11, (Value.map (some g11))), (31, (Value.int .i64 l58i31))])) ?_
          refine aw_region ?_
          refine al_val (ov_int rfl rfl rfl rfl) ?_
          refine al_val (ov_move rfl rfl) ?_
          refine al_nil ?_
          exact aq_again k59 (j62b7, j62i10, (IntKind.i64.wrap (l58i31 + (1 : Int)))) (Nat.lt_succ_self _) h (fun w a hm hs => norm hm hs [0, 1, 2, 3, 4, 5] [] [(3, (ptr g1 0)), (4, (ptr g2 0)), (5, (ptr g3 0)), (7, (Value.bool j62b7)), (8, (ptr g5 0)), (9, (ptr g6 0)), (10, (Value.int .i64 j62i10)), (11, (Value.map (some g11))), (31, (Value.int .i64 (IntKind.i64.wrap (l58i31 + (1 : Int)))))] (by decide) ⟨rfl, rfl, rfl, rfl, rfl, rfl, rfl, rfl, rfl, trivial⟩)
        · clear hkk63
          refine aw_block ?_
          refine aw_seq ?_
          refine aw_region ?_
          refine al_val (ov_move rfl rfl) ?_
          refine al_val (ov_assign rfl rfl) ?_
          refine al_nil ?_
          refine aq_then ?_
          refine aw_seq ?_
          refine aw_region ?_
          refine al_val (ov_move rfl rfl) ?_
          refine al_val (ov_move rfl rfl) ?_
          refine al_val (ov_lookupI 5 rfl rfl rfl Try.underlying29 Try.underlying3 (zeroOf_to to3) rfl) ?_
          refine al_val (ov_int rfl rfl rfl rfl) ?_
          refine al_val (ov_assign rfl rfl) ?_
          refine al_nil ?_
          refine aq_then ?_
          obtain ⟨kk65, hkk65, h⟩ := lt_some h
          refine aw_seq_join (ι := Bool) (fun i => (memOf w0 Z0 [] [(oBox g1 24 (cA16u64 a0)), (oBox g2 24 (cA16u64 a1)), (oBox g3 26 (cA8u8 a2)), (oBox g5 24 (cA16u64 r8)), (oBox g6 24 (cA16u64 r10)), (oMapI g11 .i64 .i64 j12xm11)] [])) (fun i => (tab [(3, (ptr g1 0)), (4, (ptr g2 0)), (5, (ptr g3 0)), (7, (Value.bool i)), (8, (ptr g5 0)), (9, (ptr g6 0)), (10, (Value.int .i64 l58i10)), (11, (Value.map (some g11))), (13, (Value.int .i64 l58i31)), (14, (Value.bool ((mget j12xm11 l58i31) == (1 : Int)))), (31, (Value.int .i64 l58i31))])) (fun i => kk65 i = some r) ?_ ?_
          · rintro j64b7 h
            have h : kk65 j64b7 = some r := h
            rw [hkk65] at h
            dsimp only at h
            clear hkk65
            refine aw_show (m := (memOf w0 Z0 [] [(oBox g1 24 (cA16u64 a0)), (oBox g2 24 (cA16u64 a1)), (oBox g3 26 (cA8u8 a2)), (oBox g5 24 (cA16u64 r8)), (oBox g6 24 (cA16u64 r10)), (oMapI g11 .i64 .i64 j12xm11)] [])) (S := (tab [(3, (ptr g1 0)), (4, (ptr g2 0)), (5, (ptr g3 0)), (7, (Value.bool j64b7)), (8, (ptr g5 0)), (9, (ptr g6 0)), (10, (Value.int .i64 l58i10)), (11, (Value.map (some g11))), (13, (Value.int .i64 l58i31)), (14, (Value.bool ((mget j12xm11 l58i31) == (1 : Int)))), (31, (Value.int .i64 l58i31))])) ?_
            refine aw_seq ?_
            obtain ⟨kk67, hkk67, h⟩ := lt_some h
            refine aw_seq_join (ι := Bool) (fun i => (memOf w0 Z0 [] [(oBox g1 24 (cA16u64 a0)), (oBox g2 24 (cA16u64 a1)), (oBox g3 26 (cA8u8 a2)), (oBox g5 24 (cA16u64 r8)), (oBox g6 24 (cA16u64 r10)), (oMapI g11 .i64 .i64 j12xm11)] [])) (fun i => (tab [(3, (ptr g1 0)), (4, (ptr g2 0)), (5, (ptr g3 0)), (7, (Value.bool j64b7)), (8, (ptr g5 0)), (9, (ptr g6 0)), (10, (Value.int .i64 l58i10)), (11, (Value.map (some g11))), (13, (Value.int .i64 l58i31)), (31, (Value.int .i64 l58i31)), (71, (Value.bool i))])) (fun i => kk67 i = some r) ?_ ?_
            · rintro j66b71 h
              have h : kk67 j66b71 = some r := h
              rw [hkk67] at h
              dsimp only at h
              clear hkk67
              refine aw_show (m := (memOf w0 Z0 [] [(oBox g1 24 (cA16u64 a0)), (oBox g2 24 (cA16u64 a1)), (oBox g3 26 (cA8u8 a2)), (oBox g5 24 (cA16u64 r8)), (oBox g6 24 (cA16u64 r10)), (oMapI g11 .i64 .i64 j12xm11)] [])) (S := (tab [(3, (ptr g1 0)), (4, (ptr g2 0)), (5, (ptr g3 0)), (7, (Value.bool j64b7)), (8, (ptr g5 0)), (9, (ptr g6 0)), (10, (Value.int .i64 l58i10)), (11, (Value.map (some g11))), (13, (Value.int .i64 l58i31)), (31, (Value.int .i64 l58i31)), (71, (Value.bool j66b71))])) ?_
              refine aw_cond rfl (fun hb68 => ?_) (fun hb68 => ?_)
              · replace h := bif_t hb68 h
                refine aw_seq ?_
                refine aw_region ?_
                refine al_val (ov_assign rfl rfl) ?_
                refine al_nil ?_
                refine aq_then ?_
                refine aw_ret ?_
                refine aq_then_ret ?_
                refine aq_block_ret ?_
                refine aq_then_ret ?_
                refine aq_then_ret ?_
                refine aq_block_ret ?_
                refine aq_then_ret ?_
                obtain rfl := Option.some.inj h
                exact fn_ret () [] [] rfl rfl rfl rfl (res1 rfl rfl) rfl rfl rfl (by decide)
              · replace h := bif_f hb68 h
                refine aw_skip ?_
                refine aq_then ?_
                refine aw_seq ?_
                refine aw_region ?_
                refine al_val (ov_load (i := 0) (v := (ag (cA16u64 a0))) rfl rfl Try.underlying24 sz24 rfl rfl rfl rfl) ?_
                refine al_val (ov_move rfl rfl) ?_
                obtain ⟨r70, hc69, h⟩ := opt_some h
                refine al_call (vs := [(ag (cA16u64 a0)), (Value.int .i64 l58i31)]) (f_lumref_Bit_ok fu a0 l58i31 hc69) [] [] [0, 1, 2, 3, 4, 5] pre_nil rfl (by simp) (by decide) (.inl rfl) rfl Try.func10 rfl rfl rfl (fun _ => ?_)
                refine al_nil ?_
                refine aq_then ?_
                refine aw_cond rfl (fun hb71 => ?_) (fun hb71 => ?_)
                · replace h := bif_t hb71 h
                  refine aw_region ?_
                  refine al_val (ov_move rfl rfl) ?_
                  refine al_val (ov_int rfl rfl rfl rfl) ?_
                  refine al_val (ov_assign rfl rfl) ?_
                  refine al_nil ?_
                  refine aq_block ?_
                  exact aq_join (j64b7, (IntKind.i64.wrap (l58i10 + (1 : Int)))) h (fun w a hm hs => norm hm hs [0, 1, 2, 3, 4, 5] [] [(3, (ptr g1 0)), (4, (ptr g2 0)), (5, (ptr g3 0)), (7, (Value.bool j64b7)), (8, (ptr g5 0)), (9, (ptr g6 0)), (10, (Value.int .i64 (IntKind.i64.wrap (l58i10 + (1 : Int))))), (11, (Value.map (some g11))), (31, (Value.int .i64 l58i31))] (by decide) ⟨rfl, rfl, rfl, rfl, rfl, rfl, rfl, rfl, rfl, trivial⟩)
                · replace h := bif_f hb71 h
                  refine aw_skip ?_
                  refine aq_block ?_
                  exact aq_join (j64b7, l58i10) h (fun w a hm hs => norm hm hs [0, 1, 2, 3, 4, 5] [] [(3, (ptr g1 0)), (4, (ptr g2 0)), (5, (ptr g3 0)), (7, (Value.bool j64b7)), (8, (ptr g5 0)), (9, (ptr g6 0)), (10, (Value.int .i64 l58i10)), (11, (Value.map (some g11))), (31, (Value.int .i64 l58i31))] (by decide) ⟨rfl, rfl, rfl, rfl, rfl, rfl, rfl, rfl, rfl, trivial⟩)
            · clear hkk67
              refine aw_region_open [⟨0, 48, Unit, fun _ => { val := (ag (cA16u64 r8)) }⟩, ⟨1, 49, Unit, fun _ => { val := (Value.int .i64 l58i31) }⟩, ⟨3, 51, Unit, fun _ => { val := (Value.bool ((mget j12xm11 l58i31) == (1 : Int))) }⟩] (tab [(3, (ptr g1 0)), (4, (ptr g2 0)), (5, (ptr g3 0)), (7, (Value.bool j64b7)), (8, (ptr g5 0)), (9, (ptr g6 0)), (10, (Value.int .i64 l58i10)), (11, (Value.map (some g11))), (13, (Value.int .i64 l58i31)), (14, (Value.bool ((mget j12xm11 l58i31) == (1 : Int)))), (31, (Value.int .i64 l58i31))]) mixed (fun a hs => hs.tab _ (allT_mem ⟨rfl, rfl, rfl, rfl, rfl, rfl, rfl, rfl, rfl, rfl, rfl, trivial⟩)) ?_
              refine ta_show (m := (memOf w0 Z0 [] [(oBox g1 24 (cA16u64 a0)), (oBox g2 24 (cA16u64 a1)), (oBox g3 26 (cA8u8 a2)), (oBox g5 24 (cA16u64 r8)), (oBox g6 24 (cA16u64 r10)), (oMapI g11 .i64 .i64 j12xm11)] [])) (S := (tab [(3, (ptr g1 0)), (4, (ptr g2 0)), (5, (ptr g3 0)), (7, (Value.bool j64b7)), (8, (ptr g5 0)), (9, (ptr g6 0)), (10, (Value.int .i64 l58i10)), (11, (Value.map (some g11))), (13, (Value.int .i64 l58i31)), (14, (Value.bool ((mget j12xm11 l58i31) == (1 : Int)))), (31, (Value.int .i64 l58i31))])) ?_
              refine ta_step 2 _ [0, 1, 3] [48, 49, 51] [0, 1] [4, 5, 6] [⟨0, 48, Unit, fun _ => { val := (ag (cA16u64 r8)) }⟩, ⟨1, 49, Unit, fun _ => { val := (Value.int .i64 l58i31) }⟩] [⟨3, 51, Unit, fun _ => { val := (Value.bool ((mget j12xm11 l58i31) == (1 : Int))) }⟩] rfl rfl rfl (by kernel_rfl) rfl rfl rfl ⟨⟨_, rfl, [], rfl, by
    intro X_ Y_ F_ K_ hK_
    refine al_show (m := Mem.plus (memOf w0 Z0 [] [(oBox g1 24 (cA16u64 a0)), (oBox g2 24 (cA16u64 a1)), (oBox g3 26 (cA8u8 a2)), (oBox g5 24 (cA16u64 r8)), (oBox g6 24 (cA16u64 r10)), (oMapI g11 .i64 .i64 j12xm11)] []) X_ Y_) (S := over (tab [(3, (ptr g1 0)), (4, (ptr g2 0)), (5, (ptr g3 0)), (7, (Value.bool j64b7)), (8, (ptr g5 0)), (9, (ptr g6 0)), (10, (Value.int .i64 l58i10)), (11, (Value.map (some g11))), (13, (Value.int .i64 l58i31)), (14, (Value.bool ((mget j12xm11 l58i31) == (1 : Int)))), (31, (Value.int .i64 l58i31))]) F_) ?_
    refine al_val (ov_load (i := 3) (v := (ag (cA16u64 r8))) rfl rfl Try.underlying24 sz24 rfl rfl rfl rfl) ?_
    refine al_nil ?_
    exact fr_fin hK_ ()⟩, ⟨_, rfl, [], rfl, by
    intro X_ Y_ F_ K_ hK_
    refine al_show (m := Mem.plus (memOf w0 Z0 [] [(oBox g1 24 (cA16u64 a0)), (oBox g2 24 (cA16u64 a1)), (oBox g3 26 (cA8u8 a2)), (oBox g5 24 (cA16u64 r8)), (oBox g6 24 (cA16u64 r10)), (oMapI g11 .i64 .i64 j12xm11)] []) X_ Y_) (S := over (tab [(3, (ptr g1 0)), (4, (ptr g2 0)), (5, (ptr g3 0)), (7, (Value.bool j64b7)), (8, (ptr g5 0)), (9, (ptr g6 0)), (10, (Value.int .i64 l58i10)), (11, (Value.map (some g11))), (13, (Value.int .i64 l58i31)), (14, (Value.bool ((mget j12xm11 l58i31) == (1 : Int)))), (31, (Value.int .i64 l58i31))]) F_) ?_
    refine al_val (ov_move rfl rfl) ?_
    refine al_nil ?_
    exact fr_fin hK_ ()⟩, ⟨_, rfl, [], rfl, by
    intro X_ Y_ F_ K_ hK_
    refine al_show (m := Mem.plus (memOf w0 Z0 [] [(oBox g1 24 (cA16u64 a0)), (oBox g2 24 (cA16u64 a1)), (oBox g3 26 (cA8u8 a2)), (oBox g5 24 (cA16u64 r8)), (oBox g6 24 (cA16u64 r10)), (oMapI g11 .i64 .i64 j12xm11)] []) X_ Y_) (S := over (tab [(3, (ptr g1 0)), (4, (ptr g2 0)), (5, (ptr g3 0)), (7, (Value.bool j64b7)), (8, (ptr g5 0)), (9, (ptr g6 0)), (10, (Value.int .i64 l58i10)), (11, (Value.map (some g11))), (13, (Value.int .i64 l58i31)), (14, (Value.bool ((mget j12xm11 l58i31) == (1 : Int)))), (31, (Value.int .i64 l58i31))]) F_) ?_
    refine al_val (ov_move rfl rfl) ?_
    refine al_nil ?_
    exact fr_fin hK_ ()⟩, trivial⟩ ?_
              intro _
              intro _
              intro X_ Y_ F_ K_ hK_
              refine al_show (m := Mem.plus (memOf w0 Z0 [] [(oBox g1 24 (cA16u64 a0)), (oBox g2 24 (cA16u64 a1)), (oBox g3 26 (cA8u8 a2)), (oBox g5 24 (cA16u64 r8)), (oBox g6 24 (cA16u64 r10)), (oMapI g11 .i64 .i64 j12xm11)] []) X_ Y_) (S := over (put (put (tab [(3, (ptr g1 0)), (4, (ptr g2 0)), (5, (ptr g3 0)), (7, (Value.bool j64b7)), (8, (ptr g5 0)), (9, (ptr g6 0)), (10, (Value.int .i64 l58i10)), (11, (Value.map (some g11))), (13, (Value.int .i64 l58i31)), (14, (Value.bool ((mget j12xm11 l58i31) == (1 : Int)))), (31, (Value.int .i64 l58i31))]) 48 (ag (cA16u64 r8))) 49 (Value.int .i64 l58i31)) F_) ?_
              obtain ⟨r73, hc72, h⟩ := opt_some h
              refine al_callX (vs := [(ag (cA16u64 r8)), (Value.int .i64 l58i31)]) (f_lumref_Bit_ok fu r8 l58i31 hc72) [] [] [0, 1, 2, 3, 4, 5] pre_nil rfl (by simp) (by decide) rfl (.inl rfl) rfl Try.func10 rfl rfl rfl (fun _ => ?_)
              refine al_nil ?_
              rcases Bool.eq_false_or_eq_true ((mget j12xm11 l58i31) == (1 : Int)) with hb74 | hb74
              · replace h := bif_t hb74 h
                refine aq_show (m := Mem.plus (memOf w0 Z0 [] [(oBox g1 24 (cA16u64 a0)), (oBox g2 24 (cA16u64 a1)), (oBox g3 26 (cA8u8 a2)), (oBox g5 24 (cA16u64 r8)), (oBox g6 24 (cA16u64 r10)), (oMapI g11 .i64 .i64 j12xm11)] []) X_ Y_) ?_
                refine aq_next hK_ [0, 1, 2, 3, 4, 5] [] [(3, (ptr g1 0)), (4, (ptr g2 0)), (5, (ptr g3 0)), (7, (Value.bool j64b7)), (8, (ptr g5 0)), (9, (ptr g6 0)), (10, (Value.int .i64 l58i10)), (11, (Value.map (some g11))), (13, (Value.int .i64 l58i31)), (14, (Value.bool ((mget j12xm11 l58i31) == (1 : Int)))), (31, (Value.int .i64 l58i31)), (50, (Value.bool r73))] [51] [⟨4, 52, Unit, fun _ => { val := (Value.bool true) }⟩, ⟨5, 53, Unit, fun _ => { val := undef }⟩, ⟨6, 54, Unit, fun _ => { val := undef }⟩] rfl rfl (by decide) rfl ⟨rfl, rfl, rfl, rfl, rfl, rfl, rfl, rfl, rfl, rfl, rfl, rfl, trivial⟩ ⟨rfl, trivial⟩ ?_
                clear hK_ K_ F_ X_ Y_
                refine ta_show (m := (memOf w0 Z0 [] [(oBox g1 24 (cA16u64 a0)), (oBox g2 24 (cA16u64 a1)), (oBox g3 26 (cA8u8 a2)), (oBox g5 24 (cA16u64 r8)), (oBox g6 24 (cA16u64 r10)), (oMapI g11 .i64 .i64 j12xm11)] [])) (S := (tab [(3, (ptr g1 0)), (4, (ptr g2 0)), (5, (ptr g3 0)), (7, (Value.bool j64b7)), (8, (ptr g5 0)), (9, (ptr g6 0)), (10, (Value.int .i64 l58i10)), (11, (Value.map (some g11))), (13, (Value.int .i64 l58i31)), (14, (Value.bool ((mget j12xm11 l58i31) == (1 : Int)))), (31, (Value.int .i64 l58i31)), (50, (Value.bool r73))])) ?_
                refine ta_step 7 _ [3, 4, 5, 6] [51, 52, 53, 54] [3, 4, 5, 6] [8, 9, 10, 11, 12, 14, 15] [⟨3, 51, Unit, fun _ => { val := (Value.bool ((mget j12xm11 l58i31) == (1 : Int))) }⟩, ⟨4, 52, Unit, fun _ => { val := (Value.bool true) }⟩, ⟨5, 53, Unit, fun _ => { val := undef }⟩, ⟨6, 54, Unit, fun _ => { val := undef }⟩] [] rfl rfl rfl (by kernel_rfl) rfl rfl rfl ⟨⟨_, rfl, [], rfl, by
    intro X_ Y_ F_ K_ hK_
    refine al_show (m := Mem.plus (memOf w0 Z0 [] [(oBox g1 24 (cA16u64 a0)), (oBox g2 24 (cA16u64 a1)), (oBox g3 26 (cA8u8 a2)), (oBox g5 24 (cA16u64 r8)), (oBox g6 24 (cA16u64 r10)), (oMapI g11 .i64 .i64 j12xm11)] []) X_ Y_) (S := over (tab [(3, (ptr g1 0)), (4, (ptr g2 0)), (5, (ptr g3 0)), (7, (Value.bool j64b7)), (8, (ptr g5 0)), (9, (ptr g6 0)), (10, (Value.int .i64 l58i10)), (11, (Value.map (some g11))), (13, (Value.int .i64 l58i31)), (14, (Value.bool ((mget j12xm11 l58i31) == (1 : Int)))), (31, (Value.int .i64 l58i31)), (50, (Value.bool r73))]) F_) ?_
    refine al_val (ov_move rfl rfl) ?_
    refine al_nil ?_
    exact fr_fin hK_ ()⟩, ⟨_, rfl, [0], rfl, by
    intro _
    intro X_ Y_ F_ K_ hK_
    refine al_show (m := Mem.plus (memOf w0 Z0 [] [(oBox g1 24 (cA16u64 a0)), (oBox g2 24 (cA16u64 a1)), (oBox g3 26 (cA8u8 a2)), (oBox g5 24 (cA16u64 r8)), (oBox g6 24 (cA16u64 r10)), (oMapI g11 .i64 .i64 j12xm11)] []) X_ Y_) (S := over (put (tab [(3, (ptr g1 0)), (4, (ptr g2 0)), (5, (ptr g3 0)), (7, (Value.bool j64b7)), (8, (ptr g5 0)), (9, (ptr g6 0)), (10, (Value.int .i64 l58i10)), (11, (Value.map (some g11))), (13, (Value.int .i64 l58i31)), (14, (Value.bool ((mget j12xm11 l58i31) == (1 : Int)))), (31, (Value.int .i64 l58i31)), (50, (Value.bool r73))]) 51 (Value.bool ((mget j12xm11 l58i31) == (1 : Int)))) F_) ?_
    refine al_val (ov_cast (by first | rw [hb74] | rfl) (ov_move rfl rfl)) ?_
    refine al_nil ?_
    exact fr_fin hK_ ()⟩, ⟨_, rfl, [1], rfl, by
    intro _
    intro X_ Y_ F_ K_ hK_
    refine al_show (m := Mem.plus (memOf w0 Z0 [] [(oBox g1 24 (cA16u64 a0)), (oBox g2 24 (cA16u64 a1)), (oBox g3 26 (cA8u8 a2)), (oBox g5 24 (cA16u64 r8)), (oBox g6 24 (cA16u64 r10)), (oMapI g11 .i64 .i64 j12xm11)] []) X_ Y_) (S := over (put (tab [(3, (ptr g1 0)), (4, (ptr g2 0)), (5, (ptr g3 0)), (7, (Value.bool j64b7)), (8, (ptr g5 0)), (9, (ptr g6 0)), (10, (Value.int .i64 l58i10)), (11, (Value.map (some g11))), (13, (Value.int .i64 l58i31)), (14, (Value.bool ((mget j12xm11 l58i31) == (1 : Int)))), (31, (Value.int .i64 l58i31)), (50, (Value.bool r73))]) 52 (Value.bool true)) F_) ?_
    refine al_skip ?_
    refine al_nil ?_
    exact fr_fin hK_ ()⟩, ⟨_, rfl, [1], rfl, by
    intro _
    intro X_ Y_ F_ K_ hK_
    refine al_show (m := Mem.plus (memOf w0 Z0 [] [(oBox g1 24 (cA16u64 a0)), (oBox g2 24 (cA16u64 a1)), (oBox g3 26 (cA8u8 a2)), (oBox g5 24 (cA16u64 r8)), (oBox g6 24 (cA16u64 r10)), (oMapI g11 .i64 .i64 j12xm11)] []) X_ Y_) (S := over (put (tab [(3, (ptr g1 0)), (4, (ptr g2 0)), (5, (ptr g3 0)), (7, (Value.bool j64b7)), (8, (ptr g5 0)), (9, (ptr g6 0)), (10, (Value.int .i64 l58i10)), (11, (Value.map (some g11))), (13, (Value.int .i64 l58i31)), (14, (Value.bool ((mget j12xm11 l58i31) == (1 : Int)))), (31, (Value.int .i64 l58i31)), (50, (Value.bool r73))]) 52 (Value.bool true)) F_) ?_
    refine al_skip ?_
    refine al_nil ?_
    exact fr_fin hK_ ()⟩, trivial⟩ ?_
                intro _
                intro _
                intro _
                intro _
                intro X_ Y_ F_ K_ hK_
                refine al_show (m := Mem.plus (memOf w0 Z0 [] [(oBox g1 24 (cA16u64 a0)), (oBox g2 24 (cA16u64 a1)), (oBox g3 26 (cA8u8 a2)), (oBox g5 24 (cA16u64 r8)), (oBox g6 24 (cA16u64 r10)), (oMapI g11 .i64 .i64 j12xm11)] []) X_ Y_) (S := over (put (put (put (put (tab [(3, (ptr g1 0)), (4, (ptr g2 0)), (5, (ptr g3 0)), (7, (Value.bool j64b7)), (8, (ptr g5 0)), (9, (ptr g6 0)), (10, (Value.int .i64 l58i10)), (11, (Value.map (some g11))), (13, (Value.int .i64 l58i31)), (14, (Value.bool ((mget j12xm11 l58i31) == (1 : Int)))), (31, (Value.int .i64 l58i31)), (50, (Value.bool r73))]) 51 (Value.bool ((mget j12xm11 l58i31) == (1 : Int)))) 52 (Value.bool true)) 53 undef) 54 undef) F_) ?_
                refine al_skip ?_
                refine al_nil ?_
                rcases Bool.eq_false_or_eq_true (r73 != true) with hb75 | hb75
                · replace h := bif_t hb75 h
                  refine aq_show (m := Mem.plus (memOf w0 Z0 [] [(oBox g1 24 (cA16u64 a0)), (oBox g2 24 (cA16u64 a1)), (oBox g3 26 (cA8u8 a2)), (oBox g5 24 (cA16u64 r8)), (oBox g6 24 (cA16u64 r10)), (oMapI g11 .i64 .i64 j12xm11)] []) X_ Y_) ?_
                  refine aq_next hK_ [0, 1, 2, 3, 4, 5] [] [(3, (ptr g1 0)), (4, (ptr g2 0)), (5, (ptr g3 0)), (7, (Value.bool j64b7)), (8, (ptr g5 0)), (9, (ptr g6 0)), (10, (Value.int .i64 l58i10)), (11, (Value.map (some g11))), (13, (Value.int .i64 l58i31)), (31, (Value.int .i64 l58i31)), (50, (Value.bool r73)), (52, (Value.bool true)), (55, undef)] [] [⟨8, 56, Unit, fun _ => { val := (Value.bool true) }⟩, ⟨9, 57, Unit, fun _ => { val := (Value.bool (r73 != true)) }⟩, ⟨10, 58, Unit, fun _ => { val := (Value.bool true) }⟩, ⟨11, 59, Unit, fun _ => { val := undef }⟩, ⟨12, 60, Unit, fun _ => { val := undef }⟩, ⟨14, 62, Unit, fun _ => { val := undef }⟩, ⟨15, 63, Unit, fun _ => { val := undef }⟩] rfl rfl (by decide) rfl ⟨rfl, rfl, rfl, rfl, rfl, rfl, rfl, rfl, rfl, rfl, rfl, rfl, rfl, trivial⟩ trivial ?_
                  clear hK_ K_ F_ X_ Y_
                  refine ta_show (m := (memOf w0 Z0 [] [(oBox g1 24 (cA16u64 a0)), (oBox g2 24 (cA16u64 a1)), (oBox g3 26 (cA8u8 a2)), (oBox g5 24 (cA16u64 r8)), (oBox g6 24 (cA16u64 r10)), (oMapI g11 .i64 .i64 j12xm11)] [])) (S := (tab [(3, (ptr g1 0)), (4, (ptr g2 0)), (5, (ptr g3 0)), (7, (Value.bool j64b7)), (8, (ptr g5 0)), (9, (ptr g6 0)), (10, (Value.int .i64 l58i10)), (11, (Value.map (some g11))), (13, (Value.int .i64 l58i31)), (31, (Value.int .i64 l58i31)), (50, (Value.bool r73)), (52, (Value.bool true)), (55, undef)])) ?_
                  refine ta_step 13 _ [8, 9, 10, 11, 12, 14, 15] [56, 57, 58, 59, 60, 62, 63] [8, 9, 10, 11, 12] [] [⟨8, 56, Unit, fun _ => { val := (Value.bool true) }⟩, ⟨9, 57, Unit, fun _ => { val := (Value.bool (r73 != true)) }⟩, ⟨10, 58, Unit, fun _ => { val := (Value.bool true) }⟩, ⟨11, 59, Unit, fun _ => { val := undef }⟩, ⟨12, 60, Unit, fun _ => { val := undef }⟩] [⟨14, 62, Unit, fun _ => { val := undef }⟩, ⟨15, 63, Unit, fun _ => { val := undef }⟩] rfl rfl rfl (by kernel_rfl) rfl rfl rfl ⟨⟨_, rfl, [], rfl, by
    intro X_ Y_ F_ K_ hK_
    refine al_show (m := Mem.plus (memOf w0 Z0 [] [(oBox g1 24 (cA16u64 a0)), (oBox g2 24 (cA16u64 a1)), (oBox g3 26 (cA8u8 a2)), (oBox g5 24 (cA16u64 r8)), (oBox g6 24 (cA16u64 r10)), (oMapI g11 .i64 .i64 j12xm11)] []) X_ Y_) (S := over (tab [(3, (ptr g1 0)), (4, (ptr g2 0)), (5, (ptr g3 0)), (7, (Value.bool j64b7)), (8, (ptr g5 0)), (9, (ptr g6 0)), (10, (Value.int .i64 l58i10)), (11, (Value.map (some g11))), (13, (Value.int .i64 l58i31)), (31, (Value.int .i64 l58i31)), (50, (Value.bool r73)), (52, (Value.bool true)), (55, undef)]) F_) ?_
    refine al_val (ov_pick_t rfl rfl rfl) ?_
    refine al_nil ?_
    exact fr_fin hK_ ()⟩, ⟨_, rfl, [0], rfl, by
    intro _
    intro X_ Y_ F_ K_ hK_
    refine al_show (m := Mem.plus (memOf w0 Z0 [] [(oBox g1 24 (cA16u64 a0)), (oBox g2 24 (cA16u64 a1)), (oBox g3 26 (cA8u8 a2)), (oBox g5 24 (cA16u64 r8)), (oBox g6 24 (cA16u64 r10)), (oMapI g11 .i64 .i64 j12xm11)] []) X_ Y_) (S := over (put (tab [(3, (ptr g1 0)), (4, (ptr g2 0)), (5, (ptr g3 0)), (7, (Value.bool j64b7)), (8, (ptr g5 0)), (9, (ptr g6 0)), (10, (Value.int .i64 l58i10)), (11, (Value.map (some g11))), (13, (Value.int .i64 l58i31)), (31, (Value.int .i64 l58i31)), (50, (Value.bool r73)), (52, (Value.bool true)), (55, undef)]) 56 (Value.bool true)) F_) ?_
    refine al_val (ov_boolNe Try.underlying4 rfl rfl rfl) ?_
    refine al_nil ?_
    exact fr_fin hK_ ()⟩, ⟨_, rfl, [1], rfl, by
    intro _
    intro X_ Y_ F_ K_ hK_
    refine al_show (m := Mem.plus (memOf w0 Z0 [] [(oBox g1 24 (cA16u64 a0)), (oBox g2 24 (cA16u64 a1)), (oBox g3 26 (cA8u8 a2)), (oBox g5 24 (cA16u64 r8)), (oBox g6 24 (cA16u64 r10)), (oMapI g11 .i64 .i64 j12xm11)] []) X_ Y_) (S := over (put (tab [(3, (ptr g1 0)), (4, (ptr g2 0)), (5, (ptr g3 0)), (7, (Value.bool j64b7)), (8, (ptr g5 0)), (9, (ptr g6 0)), (10, (Value.int .i64 l58i10)), (11, (Value.map (some g11))), (13, (Value.int .i64 l58i31)), (31, (Value.int .i64 l58i31)), (50, (Value.bool r73)), (52, (Value.bool true)), (55, undef)]) 57 (Value.bool (r73 != true))) F_) ?_
    refine al_val (ov_cast (by first | rw [hb75] | rfl) (ov_move rfl rfl)) ?_
    refine al_nil ?_
    exact fr_fin hK_ ()⟩, ⟨_, rfl, [2], rfl, by
    intro _
    intro X_ Y_ F_ K_ hK_
    refine al_show (m := Mem.plus (memOf w0 Z0 [] [(oBox g1 24 (cA16u64 a0)), (oBox g2 24 (cA16u64 a1)), (oBox g3 26 (cA8u8 a2)), (oBox g5 24 (cA16u64 r8)), (oBox g6 24 (cA16u64 r10)), (oMapI g11 .i64 .i64 j12xm11)] []) X_ Y_) (S := over (put (tab [(3, (ptr g1 0)), (4, (ptr g2 0)), (5, (ptr g3 0)), (7, (Value.bool j64b7)), (8, (ptr g5 0)), (9, (ptr g6 0)), (10, (Value.int .i64 l58i10)), (11, (Value.map (some g11))), (13, (Value.int .i64 l58i31)), (31, (Value.int .i64 l58i31)), (50, (Value.bool r73)), (52, (Value.bool true)), (55, undef)]) 58 (Value.bool true)) F_) ?_
    refine al_skip ?_
    refine al_nil ?_
    exact fr_fin hK_ ()⟩, ⟨_, rfl, [2], rfl, by
    intro _
    intro X_ Y_ F_ K_ hK_
    refine al_show (m := Mem.plus (memOf w0 Z0 [] [(oBox g1 24 (cA16u64 a0)), (oBox g2 24 (cA16u64 a1)), (oBox g3 26 (cA8u8 a2)), (oBox g5 24 (cA16u64 r8)), (oBox g6 24 (cA16u64 r10)), (oMapI g11 .i64 .i64 j12xm11)] []) X_ Y_) (S := over (put (tab [(3, (ptr g1 0)), (4, (ptr g2 0)), (5, (ptr g3 0)), (7, (Value.bool j64b7)), (8, (ptr g5 0)), (9, (ptr g6 0)), (10, (Value.int .i64 l58i10)), (11, (Value.map (some g11))), (13, (Value.int .i64 l58i31)), (31, (Value.int .i64 l58i31)), (50, (Value.bool r73)), (52, (Value.bool true)), (55, undef)]) 58 (Value.bool true)) F_) ?_
    refine al_skip ?_
    refine al_nil ?_
    exact fr_fin hK_ ()⟩, ⟨_, rfl, [2], rfl, by
    intro _
    intro X_ Y_ F_ K_ hK_
    refine al_show (m := Mem.plus (memOf w0 Z0 [] [(oBox g1 24 (cA16u64 a0)), (oBox g2 24 (cA16u64 a1)), (oBox g3 26 (cA8u8 a2)), (oBox g5 24 (cA16u64 r8)), (oBox g6 24 (cA16u64 r10)), (oMapI g11 .i64 .i64 j12xm11)] []) X_ Y_) (S := over (put (tab [(3, (ptr g1 0)), (4, (ptr g2 0)), (5, (ptr g3 0)), (7, (Value.bool j64b7)), (8, (ptr g5 0)), (9, (ptr g6 0)), (10, (Value.int .i64 l58i10)), (11, (Value.map (some g11))), (13, (Value.int .i64 l58i31)), (31, (Value.int .i64 l58i31)), (50, (Value.bool r73)), (52, (Value.bool true)), (55, undef)]) 58 (Value.bool true)) F_) ?_
    refine al_skip ?_
    refine al_nil ?_
    exact fr_fin hK_ ()⟩, ⟨_, rfl, [2], rfl, by
    intro _
    intro X_ Y_ F_ K_ hK_
    refine al_show (m := Mem.plus (memOf w0 Z0 [] [(oBox g1 24 (cA16u64 a0)), (oBox g2 24 (cA16u64 a1)), (oBox g3 26 (cA8u8 a2)), (oBox g5 24 (cA16u64 r8)), (oBox g6 24 (cA16u64 r10)), (oMapI g11 .i64 .i64 j12xm11)] []) X_ Y_) (S := over (put (tab [(3, (ptr g1 0)), (4, (ptr g2 0)), (5, (ptr g3 0)), (7, (Value.bool j64b7)), (8, (ptr g5 0)), (9, (ptr g6 0)), (10, (Value.int .i64 l58i10)), (11, (Value.map (some g11))), (13, (Value.int .i64 l58i31)), (31, (Value.int .i64 l58i31)), (50, (Value.bool r73)), (52, (Value.bool true)), (55, undef)]) 58 (Value.bool true)) F_) ?_
    refine al_skip ?_
    refine al_nil ?_
    exact fr_fin hK_ ()⟩, trivial⟩ ?_
                  intro _
                  intro _
                  intro _
                  intro _
                  intro _
                  intro X_ Y_ F_ K_ hK_
                  refine al_show (m := Mem.plus (memOf w0 Z0 [] [(oBox g1 24 (cA16u64 a0)), (oBox g2 24 (cA16u64 a1)), (oBox g3 26 (cA8u8 a2)), (oBox g5 24 (cA16u64 r8)), (oBox g6 24 (cA16u64 r10)), (oMapI g11 .i64 .i64 j12xm11)] []) X_ Y_) (S := over (put (put (put (put (put (tab [(3, (ptr g1 0)), (4, (ptr g2 0)), (5, (ptr g3 0)), (7, (Value.bool j64b7)), (8, (ptr g5 0)), (9, (ptr g6 0)), (10, (Value.int .i64 l58i10)), (11, (Value.map (some g11))), (13, (Value.int .i64 l58i31)), (31, (Value.int .i64 l58i31)), (50, (Value.bool r73)), (52, (Value.bool true)), (55, undef)]) 56 (Value.bool true)) 57 (Value.bool (r73 != true))) 58 (Value.bool true)) 59 undef) 60 undef) F_) ?_
                  refine al_skip ?_
                  refine al_nil ?_
                  refine aq_show (m := Mem.plus (memOf w0 Z0 [] [(oBox g1 24 (cA16u64 a0)), (oBox g2 24 (cA16u64 a1)), (oBox g3 26 (cA8u8 a2)), (oBox g5 24 (cA16u64 r8)), (oBox g6 24 (cA16u64 r10)), (oMapI g11 .i64 .i64 j12xm11)] []) X_ Y_) ?_
                  refine aq_next hK_ [0, 1, 2, 3, 4, 5] [] [(3, (ptr g1 0)), (4, (ptr g2 0)), (5, (ptr g3 0)), (7, (Value.bool j64b7)), (8, (ptr g5 0)), (9, (ptr g6 0)), (10, (Value.int .i64 l58i10)), (11, (Value.map (some g11))), (13, (Value.int .i64 l58i31)), (31, (Value.int .i64 l58i31)), (58, (Value.bool true)), (61, undef)] [62, 63] [] rfl rfl (by decide) rfl ⟨rfl, rfl, rfl, rfl, rfl, rfl, rfl, rfl, rfl, rfl, rfl, rfl, trivial⟩ ⟨rfl, rfl, trivial⟩ ?_
                  clear hK_ K_ F_ X_ Y_
                  refine ta_show (m := (memOf w0 Z0 [] [(oBox g1 24 (cA16u64 a0)), (oBox g2 24 (cA16u64 a1)), (oBox g3 26 (cA8u8 a2)), (oBox g5 24 (cA16u64 r8)), (oBox g6 24 (cA16u64 r10)), (oMapI g11 .i64 .i64 j12xm11)] [])) (S := (tab [(3, (ptr g1 0)), (4, (ptr g2 0)), (5, (ptr g3 0)), (7, (Value.bool j64b7)), (8, (ptr g5 0)), (9, (ptr g6 0)), (10, (Value.int .i64 l58i10)), (11, (Value.map (some g11))), (13, (Value.int .i64 l58i31)), (31, (Value.int .i64 l58i31)), (58, (Value.bool true)), (61, undef)])) ?_
                  refine ta_step 16 _ [14, 15] [62, 63] [14, 15] [17, 18, 19] [⟨14, 62, Unit, fun _ => { val := undef }⟩, ⟨15, 63, Unit, fun _ => { val := undef }⟩] [] rfl rfl rfl (by kernel_rfl) rfl rfl rfl ⟨⟨_, rfl, [], rfl, by
    intro X_ Y_ F_ K_ hK_
    refine al_show (m := Mem.plus (memOf w0 Z0 [] [(oBox g1 24 (cA16u64 a0)), (oBox g2 24 (cA16u64 a1)), (oBox g3 26 (cA8u8 a2)), (oBox g5 24 (cA16u64 r8)), (oBox g6 24 (cA16u64 r10)), (oMapI g11 .i64 .i64 j12xm11)] []) X_ Y_) (S := over (tab [(3, (ptr g1 0)), (4, (ptr g2 0)), (5, (ptr g3 0)), (7, (Value.bool j64b7)), (8, (ptr g5 0)), (9, (ptr g6 0)), (10, (Value.int .i64 l58i10)), (11, (Value.map (some g11))), (13, (Value.int .i64 l58i31)), (31, (Value.int .i64 l58i31)), (58, (Value.bool true)), (61, undef)]) F_) ?_
    refine al_skip ?_
    refine al_nil ?_
    exact fr_fin hK_ ()⟩, ⟨_, rfl, [], rfl, by
    intro X_ Y_ F_ K_ hK_
    refine al_show (m := Mem.plus (memOf w0 Z0 [] [(oBox g1 24 (cA16u64 a0)), (oBox g2 24 (cA16u64 a1)), (oBox g3 26 (cA8u8 a2)), (oBox g5 24 (cA16u64 r8)), (oBox g6 24 (cA16u64 r10)), (oMapI g11 .i64 .i64 j12xm11)] []) X_ Y_) (S := over (tab [(3, (ptr g1 0)), (4, (ptr g2 0)), (5, (ptr g3 0)), (7, (Value.bool j64b7)), (8, (ptr g5 0)), (9, (ptr g6 0)), (10, (Value.int .i64 l58i10)), (11, (Value.map (some g11))), (13, (Value.int .i64 l58i31)), (31, (Value.int .i64 l58i31)), (58, (Value.bool true)), (61, undef)]) F_) ?_
    refine al_skip ?_
    refine al_nil ?_
    exact fr_fin hK_ ()⟩, trivial⟩ ?_
                  intro _
                  intro _
                  intro X_ Y_ F_ K_ hK_
                  refine al_show (m := Mem.plus (memOf w0 Z0 [] [(oBox g1 24 (cA16u64 a0)), (oBox g2 24 (cA16u64 a1)), (oBox g3 26 (cA8u8 a2)), (oBox g5 24 (cA16u64 r8)), (oBox g6 24 (cA16u64 r10)), (oMapI g11 .i64 .i64 j12xm11)] []) X_ Y_) (S := over (put (put (tab [(3, (ptr g1 0)), (4, (ptr g2 0)), (5, (ptr g3 0)), (7, (Value.bool j64b7)), (8, (ptr g5 0)), (9, (ptr g6 0)), (10, (Value.int .i64 l58i10)), (11, (Value.map (some g11))), (13, (Value.int .i64 l58i31)), (31, (Value.int .i64 l58i31)), (58, (Value.bool true)), (61, undef)]) 62 undef) 63 undef) F_) ?_
                  refine al_skip ?_
                  refine al_nil ?_
                  refine aq_show (m := Mem.plus (memOf w0 Z0 [] [(oBox g1 24 (cA16u64 a0)), (oBox g2 24 (cA16u64 a1)), (oBox g3 26 (cA8u8 a2)), (oBox g5 24 (cA16u64 r8)), (oBox g6 24 (cA16u64 r10)), (oMapI g11 .i64 .i64 j12xm11)] []) X_ Y_) ?_
                  refine aq_next hK_ [0, 1, 2, 3, 4, 5] [] [(3, (ptr g1 0)), (4, (ptr g2 0)), (5, (ptr g3 0)), (7, (Value.bool j64b7)), (8, (ptr g5 0)), (9, (ptr g6 0)), (10, (Value.int .i64 l58i10)), (11, (Value.map (some g11))), (13, (Value.int .i64 l58i31)), (31, (Value.int .i64 l58i31)), (58, (Value.bool true)), (61, undef), (64, undef)] [] [⟨17, 65, Unit, fun _ => { val := undef }⟩, ⟨18, 66, Unit, fun _ => { val := undef }⟩, ⟨19, 67, Unit, fun _ => { val := undef }⟩] rfl rfl (by decide) rfl ⟨rfl, rfl, rfl, rfl, rfl, rfl, rfl, rfl, rfl, rfl, rfl, rfl, rfl, trivial⟩ trivial ?_
                  clear hK_ K_ F_ X_ Y_
                  refine ta_show (m := (memOf w0 Z0 [] [(oBox g1 24 (cA16u64 a0)), (oBox g2 24 (cA16u64 a1)), (oBox g3 26 (cA8u8 a2)), (oBox g5 24 (cA16u64 r8)), (oBox g6 24 (cA16u64 r10)), (oMapI g11 .i64 .i64 j12xm11)] [])) (S := (tab [(3, (ptr g1 0)), (4, (ptr g2 0)), (5, (ptr g3 0)), (7, (Value.bool j64b7)), (8, (ptr g5 0)), (9, (ptr g6 0)), (10, (Value.int .i64 l58i10)), (11, (Value.map (some g11))), (13, (Value.int .i64 l58i31)), (31, (Value.int .i64 l58i31)), (58, (Value.bool true)), (61, undef), (64, undef)])) ?_
                  refine ta_step 20 _ [17, 18, 19] [65, 66, 67] [17, 18, 19] [21, 22, 23] [⟨17, 65, Unit, fun _ => { val := undef }⟩, ⟨18, 66, Unit, fun _ => { val := undef }⟩, ⟨19, 67, Unit, fun _ => { val := undef }⟩] [] rfl rfl rfl (by kernel_rfl) rfl rfl rfl ⟨⟨_, rfl, [], rfl, by
    intro X_ Y_ F_ K_ hK_
    refine al_show (m := Mem.plus (memOf w0 Z0 [] [(oBox g1 24 (cA16u64 a0)), (oBox g2 24 (cA16u64 a1)), (oBox g3 26 (cA8u8 a2)), (oBox g5 24 (cA16u64 r8)), (oBox g6 24 (cA16u64 r10)), (oMapI g11 .i64 .i64 j12xm11)] []) X_ Y_) (S := over (tab [(3, (ptr g1 0)), (4, (ptr g2 0)), (5, (ptr g3 0)), (7, (Value.bool j64b7)), (8, (ptr g5 0)), (9, (ptr g6 0)), (10, (Value.int .i64 l58i10)), (11, (Value.map (some g11))), (13, (Value.int .i64 l58i31)), (31, (Value.int .i64 l58i31)), (58, (Value.bool true)), (61, undef), (64, undef)]) F_) ?_
    refine al_skip ?_
    refine al_nil ?_
    exact fr_fin hK_ ()⟩, ⟨_, rfl, [0], rfl, by
    intro _
    intro X_ Y_ F_ K_ hK_
    refine al_show (m := Mem.plus (memOf w0 Z0 [] [(oBox g1 24 (cA16u64 a0)), (oBox g2 24 (cA16u64 a1)), (oBox g3 26 (cA8u8 a2)), (oBox g5 24 (cA16u64 r8)), (oBox g6 24 (cA16u64 r10)), (oMapI g11 .i64 .i64 j12xm11)] []) X_ Y_) (S := over (put (tab [(3, (ptr g1 0)), (4, (ptr g2 0)), (5, (ptr g3 0)), (7, (Value.bool j64b7)), (8, (ptr g5 0)), (9, (ptr g6 0)), (10, (Value.int .i64 l58i10)), (11, (Value.map (some g11))), (13, (Value.int .i64 l58i31)), (31, (Value.int .i64 l58i31)), (58, (Value.bool true)), (61, undef), (64, undef)]) 65 undef) F_) ?_
    refine al_skip ?_
    refine al_nil ?_
    exact fr_fin hK_ ()⟩, ⟨_, rfl, [0], rfl, by
    intro _
    intro X_ Y_ F_ K_ hK_
    refine al_show (m := Mem.plus (memOf w0 Z0 [] [(oBox g1 24 (cA16u64 a0)), (oBox g2 24 (cA16u64 a1)), (oBox g3 26 (cA8u8 a2)), (oBox g5 24 (cA16u64 r8)), (oBox g6 24 (cA16u64 r10)), (oMapI g11 .i64 .i64 j12xm11)] []) X_ Y_) (S := over (put (tab [(3, (ptr g1 0)), (4, (ptr g2 0)), (5, (ptr g3 0)), (7, (Value.bool j64b7)), (8, (ptr g5 0)), (9, (ptr g6 0)), (10, (Value.int .i64 l58i10)), (11, (Value.map (some g11))), (13, (Value.int .i64 l58i31)), (31, (Value.int .i64 l58i31)), (58, (Value.bool true)), (61, undef), (64, undef)]) 65 undef) F_) ?_
    refine al_skip ?_
    refine al_nil ?_
    exact fr_fin hK_ ()⟩, trivial⟩ ?_
                  intro _
                  intro _
                  intro _
                  intro X_ Y_ F_ K_ hK_
                  refine al_show (m := Mem.plus (memOf w0 Z0 [] [(oBox g1 24 (cA16u64 a0)), (oBox g2 24 (cA16u64 a1)), (oBox g3 26 (cA8u8 a2)), (oBox g5 24 (cA16u64 r8)), (oBox g6 24 (cA16u64 r10)), (oMapI g11 .i64 .i64 j12xm11)] []) X_ Y_) (S := over (put (put (put (tab [(3, (ptr g1 0)), (4, (ptr g2 0)), (5, (ptr g3 0)), (7, (Value.bool j64b7)), (8, (ptr g5 0)), (9, (ptr g6 0)), (10, (Value.int .i64 l58i10)), (11, (Value.map (some g11))), (13, (Value.int .i64 l58i31)), (31, (Value.int .i64 l58i31)), (58, (Value.bool true)), (61, undef), (64, undef)]) 65 undef) 66 undef) 67 undef) F_) ?_
                  refine al_skip ?_
                  refine al_nil ?_
                  refine aq_show (m := Mem.plus (memOf w0 Z0 [] [(oBox g1 24 (cA16u64 a0)), (oBox g2 24 (cA16u64 a1)), (oBox g3 26 (cA8u8 a2)), (oBox g5 24 (cA16u64 r8)), (oBox g6 24 (cA16u64 r10)), (oMapI g11 .i64 .i64 j12xm11)] []) X_ Y_) ?_
                  refine aq_next hK_ [0, 1, 2, 3, 4, 5] [] [(3, (ptr g1 0)), (4, (ptr g2 0)), (5, (ptr g3 0)), (7, (Value.bool j64b7)), (8, (ptr g5 0)), (9, (ptr g6 0)), (10, (Value.int .i64 l58i10)), (11, (Value.map (some g11))), (13, (Value.int .i64 l58i31)), (31, (Value.int .i64 l58i31)), (58, (Value.bool true)), (61, undef), (65, undef), (68, undef)] [] [⟨21, 69, Unit, fun _ => { val := undef }⟩, ⟨22, 70, Unit, fun _ => { val := undef }⟩, ⟨23, 71, Unit, fun _ => { val := (Value.bool true) }⟩] rfl rfl (by decide) rfl ⟨rfl, rfl, rfl, rfl, rfl, rfl, rfl, rfl, rfl, rfl, rfl, rfl, rfl, rfl, trivial⟩ trivial ?_
                  clear hK_ K_ F_ X_ Y_
                  refine ta_show (m := (memOf w0 Z0 [] [(oBox g1 24 (cA16u64 a0)), (oBox g2 24 (cA16u64 a1)), (oBox g3 26 (cA8u8 a2)), (oBox g5 24 (cA16u64 r8)), (oBox g6 24 (cA16u64 r10)), (oMapI g11 .i64 .i64 j12xm11)] [])) (S := (tab [(3, (ptr g1 0)), (4, (ptr g2 0)), (5, (ptr g3 0)), (7, (Value.bool j64b7)), (8, (ptr g5 0)), (9, (ptr g6 0)), (10, (Value.int .i64 l58i10)), (11, (Value.map (some g11))), (13, (Value.int .i64 l58i31)), (31, (Value.int .i64 l58i31)), (58, (Value.bool true)), (61, undef), (65, undef), (68, undef)])) ?_
                  refine ta_end [21, 22, 23] [69, 70, 71] rfl rfl (by kernel_rfl) rfl ⟨⟨_, rfl, [], rfl, by
    intro X_ Y_ F_ K_ hK_
    refine al_show (m := Mem.plus (memOf w0 Z0 [] [(oBox g1 24 (cA16u64 a0)), (oBox g2 24 (cA16u64 a1)), (oBox g3 26 (cA8u8 a2)), (oBox g5 24 (cA16u64 r8)), (oBox g6 24 (cA16u64 r10)), (oMapI g11 .i64 .i64 j12xm11)] []) X_ Y_) (S := over (tab [(3, (ptr g1 0)), (4, (ptr g2 0)), (5, (ptr g3 0)), (7, (Value.bool j64b7)), (8, (ptr g5 0)), (9, (ptr g6 0)), (10, (Value.int .i64 l58i10)), (11, (Value.map (some g11))), (13, (Value.int .i64 l58i31)), (31, (Value.int .i64 l58i31)), (58, (Value.bool true)), (61, undef), (65, undef), (68, undef)]) F_) ?_
    refine al_skip ?_
    refine al_nil ?_
    exact fr_fin hK_ ()⟩, ⟨_, rfl, [0], rfl, by
    intro _
    intro X_ Y_ F_ K_ hK_
    refine al_show (m := Mem.plus (memOf w0 Z0 [] [(oBox g1 24 (cA16u64 a0)), (oBox g2 24 (cA16u64 a1)), (oBox g3 26 (cA8u8 a2)), (oBox g5 24 (cA16u64 r8)), (oBox g6 24 (cA16u64 r10)), (oMapI g11 .i64 .i64 j12xm11)] []) X_ Y_) (S := over (put (tab [(3, (ptr g1 0)), (4, (ptr g2 0)), (5, (ptr g3 0)), (7, (Value.bool j64b7)), (8, (ptr g5 0)), (9, (ptr g6 0)), (10, (Value.int .i64 l58i10)), (11, (Value.map (some g11))), (13, (Value.int .i64 l58i31)), (31, (Value.int .i64 l58i31)), (58, (Value.bool true)), (61, undef), (65, undef), (68, undef)]) 69 undef) F_) ?_
    refine al_skip ?_
    refine al_nil ?_
    exact fr_fin hK_ ()⟩, ⟨_, rfl, [1], rfl, by
    intro _
    intro X_ Y_ F_ K_ hK_
    refine al_show (m := Mem.plus (memOf w0 Z0 [] [(oBox g1 24 (cA16u64 a0)), (oBox g2 24 (cA16u64 a1)), (oBox g3 26 (cA8u8 a2)), (oBox g5 24 (cA16u64 r8)), (oBox g6 24 (cA16u64 r10)), (oMapI g11 .i64 .i64 j12xm11)] []) X_ Y_) (S := over (put (tab [(3, (ptr g1 0)), (4, (ptr g2 0)), (5, (ptr g3 0)), (7, (Value.bool j64b7)), (8, (ptr g5 0)), (9, (ptr g6 0)), (10, (Value.int .i64 l58i10)), (11, (Value.map (some g11))), (13, (Value.int .i64 l58i31)), (31, (Value.int .i64 l58i31)), (58, (Value.bool true)), (61, undef), (65, undef), (68, undef)]) 70 undef) F_) ?_
    refine al_val (ov_pick_t rfl rfl rfl) ?_
    refine al_nil ?_
    exact fr_fin hK_ ()⟩, trivial⟩ ?_
                  intro _
                  intro _
                  intro _
                  refine aq_show (m := (memOf w0 Z0 [] [(oBox g1 24 (cA16u64 a0)), (oBox g2 24 (cA16u64 a1)), (oBox g3 26 (cA8u8 a2)), (oBox g5 24 (cA16u64 r8)), (oBox g6 24 (cA16u64 r10)), (oMapI g11 .i64 .i64 j12xm11)] [])) (S := (put (put (put (tab [(3, (ptr g1 0)), (4, (ptr g2 0)), (5, (ptr g3 0)), (7, (Value.bool j64b7)), (8, (ptr g5 0)), (9, (ptr g6 0)), (10, (Value.int .i64 l58i10)), (11, (Value.map (some g11))), (13, (Value.int .i64 l58i31)), (31, (Value.int .i64 l58i31)), (58, (Value.bool true)), (61, undef), (65, undef), (68, undef)]) 69 undef) 70 undef) 71 (Value.bool true))) ?_
                  exact aq_join true h (fun w a hm hs => norm hm hs [0, 1, 2, 3, 4, 5] [] [(3, (ptr g1 0)), (4, (ptr g2 0)), (5, (ptr g3 0)), (7, (Value.bool j64b7)), (8, (ptr g5 0)), (9, (ptr g6 0)), (10, (Value.int .i64 l58i10)), (11, (Value.map (some g11))), (13, (Value.int .i64 l58i31)), (31, (Value.int .i64 l58i31)), (71, (Value.bool true))] (by decide) ⟨rfl, rfl, rfl, rfl, rfl, rfl, rfl, rfl, rfl, rfl, rfl, trivial⟩)
                · replace h := bif_f hb75 h
                  refine aq_show (m := Mem.plus (memOf w0 Z0 [] [(oBox g1 24 (cA16u64 a0)), (oBox g2 24 (cA16u64 a1)), (oBox g3 26 (cA8u8 a2)), (oBox g5 24 (cA16u64 r8)), (oBox g6 24 (cA16u64 r10)), (oMapI g11 .i64 .i64 j12xm11)] []) X_ Y_) ?_
                  refine aq_next hK_ [0, 1, 2, 3, 4, 5] [] [(3, (ptr g1 0)), (4, (ptr g2 0)), (5, (ptr g3 0)), (7, (Value.bool j64b7)), (8, (ptr g5 0)), (9, (ptr g6 0)), (10, (Value.int .i64 l58i10)), (11, (Value.map (some g11))), (13, (Value.int .i64 l58i31)), (31, (Value.int .i64 l58i31)), (50, (Value.bool r73)), (52, (Value.bool true)), (55, undef)] [] [⟨8, 56, Unit, fun _ => { val := (Value.bool true) }⟩, ⟨9, 57, Unit, fun _ => { val := (Value.bool (r73 != true)) }⟩, ⟨10, 58, Unit, fun _ => { val := (Value.bool false) }⟩, ⟨11, 59, Unit, fun _ => { val := (ag (cA16u64 r10)) }⟩, ⟨12, 60, Unit, fun _ => { val := (Value.int .i64 l58i31) }⟩, ⟨14, 62, Unit, fun _ => { val := (ag (cA16u64 a0)) }⟩, ⟨15, 63, Unit, fun _ => { val := (Value.int .i64 l58i31) }⟩] rfl rfl (by decide) rfl ⟨rfl, rfl, rfl, rfl, rfl, rfl, rfl, rfl, rfl, rfl, rfl, rfl, rfl, trivial⟩ trivial ?_
                  clear hK_ K_ F_ X_ Y_
                  refine ta_show (m := (memOf w0 Z0 [] [(oBox g1 24 (cA16u64 a0)), (oBox g2 24 (cA16u64 a1)), (oBox g3 26 (cA8u8 a2)), (oBox g5 24 (cA16u64 r8)), (oBox g6 24 (cA16u64 r10)), (oMapI g11 .i64 .i64 j12xm11)] [])) (S := (tab [(3, (ptr g1 0)), (4, (ptr g2 0)), (5, (ptr g3 0)), (7, (Value.bool j64b7)), (8, (ptr g5 0)), (9, (ptr g6 0)), (10, (Value.int .i64 l58i10)), (11, (Value.map (some g11))), (13, (Value.int .i64 l58i31)), (31, (Value.int .i64 l58i31)), (50, (Value.bool r73)), (52, (Value.bool true)), (55, undef)])) ?_
                  refine ta_step 13 _ [8, 9, 10, 11, 12, 14, 15] [56, 57, 58, 59, 60, 62, 63] [8, 9, 10, 11, 12] [] [⟨8, 56, Unit, fun _ => { val := (Value.bool true) }⟩, ⟨9, 57, Unit, fun _ => { val := (Value.bool (r73 != true)) }⟩, ⟨10, 58, Unit, fun _ => { val := (Value.bool false) }⟩, ⟨11, 59, Unit, fun _ => { val := (ag (cA16u64 r10)) }⟩, ⟨12, 60, Unit, fun _ => { val := (Value.int .i64 l58i31) }⟩] [⟨14, 62, Unit, fun _ => { val := (ag (cA16u64 a0)) }⟩, ⟨15, 63, Unit, fun _ => { val := (Value.int .i64 l58i31) }⟩] rfl rfl rfl (by kernel_rfl) rfl rfl rfl ⟨⟨_, rfl, [], rfl, by
    intro X_ Y_ F_ K_ hK_
    refine al_show (m := Mem.plus (memOf w0 Z0 [] [(oBox g1 24 (cA16u64 a0)), (oBox g2 24 (cA16u64 a1)), (oBox g3 26 (cA8u8 a2)), (oBox g5 24 (cA16u64 r8)), (oBox g6 24 (cA16u64 r10)), (oMapI g11 .i64 .i64 j12xm11)] []) X_ Y_) (S := over (tab [(3, (ptr g1 0)), (4, (ptr g2 0)), (5, (ptr g3 0)), (7, (Value.bool j64b7)), (8, (ptr g5 0)), (9, (ptr g6 0)), (10, (Value.int .i64 l58i10)), (11, (Value.map (some g11))), (13, (Value.int .i64 l58i31)), (31, (Value.int .i64 l58i31)), (50, (Value.bool r73)), (52, (Value.bool true)), (55, undef)]) F_) ?_
    refine al_val (ov_pick_t rfl rfl rfl) ?_
    refine al_nil ?_
    exact fr_fin hK_ ()⟩, ⟨_, rfl, [0], rfl, by
    intro _
    intro X_ Y_ F_ K_ hK_
    refine al_show (m := Mem.plus (memOf w0 Z0 [] [(oBox g1 24 (cA16u64 a0)), (oBox g2 24 (cA16u64 a1)), (oBox g3 26 (cA8u8 a2)), (oBox g5 24 (cA16u64 r8)), (oBox g6 24 (cA16u64 r10)), (oMapI g11 .i64 .i64 j12xm11)] []) X_ Y_) (S := over (put (tab [(3, (ptr g1 0)), (4, (ptr g2 0)), (5, (ptr g3 0)), (7, (Value.bool j64b7)), (8, (ptr g5 0)), (9, (ptr g6 0)), (10, (Value.int .i64 l58i10)), (11, (Value.map (some g11))), (13, (Value.int .i64 l58i31)), (31, (Value.int .i64 l58i31)), (50, (Value.bool r73)), (52, (Value.bool true)), (55, undef)]) 56 (Value.bool true)) F_) ?_
    refine al_val (ov_boolNe Try.underlying4 rfl rfl rfl) ?_
    refine al_nil ?_
    exact fr_fin hK_ ()⟩, ⟨_, rfl, [1], rfl, by
    intro _
    intro X_ Y_ F_ K_ hK_
    refine al_show (m := Mem.plus (memOf w0 Z0 [] [(oBox g1 24 (cA16u64 a0)), (oBox g2 24 (cA16u64 a1)), (oBox g3 26 (cA8u8 a2)), (oBox g5 24 (cA16u64 r8)), (oBox g6 24 (cA16u64 r10)), (oMapI g11 .i64 .i64 j12xm11)] []) X_ Y_) (S := over (put (tab [(3, (ptr g1 0)), (4, (ptr g2 0)), (5, (ptr g3 0)), (7, (Value.bool j64b7)), (8, (ptr g5 0)), (9, (ptr g6 0)), (10, (Value.int .i64 l58i10)), (11, (Value.map (some g11))), (13, (Value.int .i64 l58i31)), (31, (Value.int .i64 l58i31)), (50, (Value.bool r73)), (52, (Value.bool true)), (55, undef)]) 57 (Value.bool (r73 != true))) F_) ?_
    refine al_val (ov_cast (by first | rw [hb75] | rfl) (ov_move rfl rfl)) ?_
    refine al_nil ?_
    exact fr_fin hK_ ()⟩, ⟨_, rfl, [2], rfl, by
    intro _
    intro X_ Y_ F_ K_ hK_
    refine al_show (m := Mem.plus (memOf w0 Z0 [] [(oBox g1 24 (cA16u64 a0)), (oBox g2 24 (cA16u64 a1)), (oBox g3 26 (cA8u8 a2)), (oBox g5 24 (cA16u64 r8)), (oBox g6 24 (cA16u64 r10)), (oMapI g11 .i64 .i64 j12xm11)] []) X_ Y_) (S := over (put (tab [(3, (ptr g1 0)), (4, (ptr g2 0)), (5, (ptr g3 0)), (7, (Value.bool j64b7)), (8, (ptr g5 0)), (9, (ptr g6 0)), (10, (Value.int .i64 l58i10)), (11, (Value.map (some g11))), (13, (Value.int .i64 l58i31)), (31, (Value.int .i64 l58i31)), (50, (Value.bool r73)), (52, (Value.bool true)), (55, undef)]) 58 (Value.bool false)) F_) ?_
    refine al_val (ov_load (i := 4) (v := (ag (cA16u64 r10))) rfl rfl Try.underlying24 sz24 rfl rfl rfl rfl) ?_
    refine al_nil ?_
    exact fr_fin hK_ ()⟩, ⟨_, rfl, [2], rfl, by
    intro _
    intro X_ Y_ F_ K_ hK_
    refine al_show (m := Mem.plus (memOf w0 Z0 [] [(oBox g1 24 (cA16u64 a0)), (oBox g2 24 (cA16u64 a1)), (oBox g3 26 (cA8u8 a2)), (oBox g5 24 (cA16u64 r8)), (oBox g6 24 (cA16u64 r10)), (oMapI g11 .i64 .i64 j12xm11)] []) X_ Y_) (S := over (put (tab [(3, (ptr g1 0)), (4, (ptr g2 0)), (5, (ptr g3 0)), (7, (Value.bool j64b7)), (8, (ptr g5 0)), (9, (ptr g6 0)), (10, (Value.int .i64 l58i10)), (11, (Value.map (some g11))), (13, (Value.int .i64 l58i31)), (31, (Value.int .i64 l58i31)), (50, (Value.bool r73)), (52, (Value.bool true)), (55, undef)]) 58 (Value.bool false)) F_) ?_
    refine al_val (ov_move rfl rfl) ?_
    refine al_nil ?_
    exact fr_fin hK_ ()⟩, ⟨_, rfl, [2], rfl, by
    intro _
    intro X_ Y_ F_ K_ hK_
    refine al_show (m := Mem.plus (memOf w0 Z0 [] [(oBox g1 24 (cA16u64 a0)), (oBox g2 24 (cA16u64 a1)), (oBox g3 26 (cA8u8 a2)), (oBox g5 24 (cA16u64 r8)), (oBox g6 24 (cA16u64 r10)), (oMapI g11 .i64 .i64 j12xm11)] []) X_ Y_) (S := over (put (tab [(3, (ptr g1 0)), (4, (ptr g2 0)), (5, (ptr g3 0)), (7, (Value.bool j64b7)), (8, (ptr g5 0)), (9, (ptr g6 0)), (10, (Value.int .i64 l58i10)), (11, (Value.map (some g11))), (13, (Value.int .i64 l58i31)), (31, (Value.int .i64 l58i31)), (50, (Value.bool r73)), (52, (Value.bool true)), (55, undef)]) 58 (Value.bool false)) F_) ?_
    refine al_val (ov_load (i := 0) (v := (ag (cA16u64 a0))) rfl rfl Try.underlying24 sz24 rfl rfl rfl rfl) ?_
    refine al_nil ?_
    exact fr_fin hK_ ()⟩, ⟨_, rfl, [2], rfl, by
    intro _
    intro X_ Y_ F_ K_ hK_
    refine al_show (m := Mem.plus (memOf w0 Z0 [] [(oBox g1 24 (cA16u64 a0)), (oBox g2 24 (cA16u64 a1)), (oBox g3 26 (cA8u8 a2)), (oBox g5 24 (cA16u64 r8)), (oBox g6 24 (cA16u64 r10)), (oMapI g11 .i64 .i64 j12xm11)] []) X_ Y_) (S := over (put (tab [(3, (ptr g1 0)), (4, (ptr g2 0)), (5, (ptr g3 0)), (7, (Value.bool j64b7)), (8, (ptr g5 0)), (9, (ptr g6 0)), (10, (Value.int .i64 l58i10)), (11, (Value.map (some g11))), (13, (Value.int .i64 l58i31)), (31, (Value.int .i64 l58i31)), (50, (Value.bool r73)), (52, (Value.bool true)), (55, undef)]) 58 (Value.bool false)) F_) ?_
    refine al_val (ov_move rfl rfl) ?_
    refine al_nil ?_
    exact fr_fin hK_ ()⟩, trivial⟩ ?_
                  intro _
                  intro _
                  intro _
                  intro _
                  intro _
                  intro X_ Y_ F_ K_ hK_
                  refine al_show (m := Mem.plus (memOf w0 Z0 [] [(oBox g1 24 (cA16u64 a0)), (oBox g2 24 (cA16u64 a1)), (oBox g3 26 (cA8u8 a2)), (oBox g5 24 (cA16u64 r8)), (oBox g6 24 (cA16u64 r10)), (oMapI g11 .i64 .i64 j12xm11)] []) X_ Y_) (S := over (put (put (put (put (put (tab [(3, (ptr g1 0)), (4, (ptr g2 0)), (5, (ptr g3 0)), (7, (Value.bool j64b7)), (8, (ptr g5 0)), (9, (ptr g6 0)), (10, (Value.int .i64 l58i10)), (11, (Value.map (some g11))), (13, (Value.int .i64 l58i31)), (31, (Value.int .i64 l58i31)), (50, (Value.bool r73)), (52, (Value.bool true)), (55, undef)]) 56 (Value.bool true)) 57 (Value.bool (r73 != true))) 58 (Value.bool false)) 59 (ag (cA16u64 r10))) 60 (Value.int .i64 l58i31)) F_) ?_
                  obtain ⟨r77, hc76, h⟩ := opt_some h
                  refine al_callX (vs := [(ag (cA16u64 r10)), (Value.int .i64 l58i31)]) (f_lumref_Bit_ok fu r10 l58i31 hc76) [] [] [0, 1, 2, 3, 4, 5] pre_nil rfl (by simp) (by decide) rfl (.inl rfl) rfl Try.func10 rfl rfl rfl (fun _ => ?_)
                  refine al_nil ?_
                  refine aq_show (m := Mem.plus (memOf w0 Z0 [] [(oBox g1 24 (cA16u64 a0)), (oBox g2 24 (cA16u64 a1)), (oBox g3 26 (cA8u8 a2)), (oBox g5 24 (cA16u64 r8)), (oBox g6 24 (cA16u64 r10)), (oMapI g11 .i64 .i64 j12xm11)] []) X_ Y_) ?_
                  refine aq_next hK_ [0, 1, 2, 3, 4, 5] [] [(3, (ptr g1 0)), (4, (ptr g2 0)), (5, (ptr g3 0)), (7, (Value.bool j64b7)), (8, (ptr g5 0)), (9, (ptr g6 0)), (10, (Value.int .i64 l58i10)), (11, (Value.map (some g11))), (13, (Value.int .i64 l58i31)), (31, (Value.int .i64 l58i31)), (58, (Value.bool false)), (61, (Value.bool r77))] [62, 63] [] rfl rfl (by decide) rfl ⟨rfl, rfl, rfl, rfl, rfl, rfl, rfl, rfl, rfl, rfl, rfl, rfl, trivial⟩ ⟨rfl, rfl, trivial⟩ ?_
                  clear hK_ K_ F_ X_ Y_
                  refine ta_show (m := (memOf w0 Z0 [] [(oBox g1 24 (cA16u64 a0)), (oBox g2 24 (cA16u64 a1)), (oBox g3 26 (cA8u8 a2)), (oBox g5 24 (cA16u64 r8)), (oBox g6 24 (cA16u64 r10)), (oMapI g11 .i64 .i64 j12xm11)] [])) (S := (tab [(3, (ptr g1 0)), (4, (ptr g2 0)), (5, (ptr g3 0)), (7, (Value.bool j64b7)), (8, (ptr g5 0)), (9, (ptr g6 0)), (10, (Value.int .i64 l58i10)), (11, (Value.map (some g11))), (13, (Value.int .i64 l58i31)), (31, (Value.int .i64 l58i31)), (58, (Value.bool false)), (61, (Value.bool r77))])) ?_
                  refine ta_step 16 _ [14, 15] [62, 63] [14, 15] [17, 18, 19] [⟨14, 62, Unit, fun _ => { val := (ag (cA16u64 a0)) }⟩, ⟨15, 63, Unit, fun _ => { val := (Value.int .i64 l58i31) }⟩] [] rfl rfl rfl (by kernel_rfl) rfl rfl rfl ⟨⟨_, rfl, [], rfl, by
    intro X_ Y_ F_ K_ hK_
    refine al_show (m := Mem.plus (memOf w0 Z0 [] [(oBox g1 24 (cA16u64 a0)), (oBox g2 24 (cA16u64 a1)), (oBox g3 26 (cA8u8 a2)), (oBox g5 24 (cA16u64 r8)), (oBox g6 24 (cA16u64 r10)), (oMapI g11 .i64 .i64 j12xm11)] []) X_ Y_) (S := over (tab [(3, (ptr g1 0)), (4, (ptr g2 0)), (5, (ptr g3 0)), (7, (Value.bool j64b7)), (8, (ptr g5 0)), (9, (ptr g6 0)), (10, (Value.int .i64 l58i10)), (11, (Value.map (some g11))), (13, (Value.int .i64 l58i31)), (31, (Value.int .i64 l58i31)), (58, (Value.bool false)), (61, (Value.bool r77))]) F_) ?_
    refine al_val (ov_load (i := 0) (v := (ag (cA16u64 a0))) rfl rfl Try.underlying24 sz24 rfl rfl rfl rfl) ?_
    refine al_nil ?_
    exact fr_fin hK_ ()⟩, ⟨_, rfl, [], rfl, by
    intro X_ Y_ F_ K_ hK_
    refine al_show (m := Mem.plus (memOf w0 Z0 [] [(oBox g1 24 (cA16u64 a0)), (oBox g2 24 (cA16u64 a1)), (oBox g3 26 (cA8u8 a2)), (oBox g5 24 (cA16u64 r8)), (oBox g6 24 (cA16u64 r10)), (oMapI g11 .i64 .i64 j12xm11)] []) X_ Y_) (S := over (tab [(3, (ptr g1 0)), (4, (ptr g2 0)), (5, (ptr g3 0)), (7, (Value.bool j64b7)), (8, (ptr g5 0)), (9, (ptr g6 0)), (10, (Value.int .i64 l58i10)), (11, (Value.map (some g11))), (13, (Value.int .i64 l58i31)), (31, (Value.int .i64 l58i31)), (58, (Value.bool false)), (61, (Value.bool r77))]) F_) ?_
    refine al_val (ov_move rfl rfl) ?_
    refine al_nil ?_
    exact fr_fin hK_ ()⟩, trivial⟩ ?_
                  intro _
                  intro _
                  intro X_ Y_ F_ K_ hK_
                  refine al_show (m := Mem.plus (memOf w0 Z0 [] [(oBox g1 24 (cA16u64 a0)), (oBox g2 24 (cA16u64 a1)), (oBox g3 26 (cA8u8 a2)), (oBox g5 24 (cA16u64 r8)), (oBox g6 24 (cA16u64 r10)), (oMapI g11 .i64 .i64 j12xm11)] []) X_ Y_) (S := over (put (put (tab [(3, (ptr g1 0)), (4, (ptr g2 0)), (5, (ptr g3 0)), (7, (Value.bool j64b7)), (8, (ptr g5 0)), (9, (ptr g6 0)), (10, (Value.int .i64 l58i10)), (11, (Value.map (some g11))), (13, (Value.int .i64 l58i31)), (31, (Value.int .i64 l58i31)), (58, (Value.bool false)), (61, (Value.bool r77))]) 62 (ag (cA16u64 a0))) 63 (Value.int .i64 l58i31)) F_) ?_
                  obtain ⟨r79, hc78, h⟩ := opt_some h
                  refine al_callX (vs := [(ag (cA16u64 a0)), (Value.int .i64 l58i31)]) (f_lumref_Bit_ok fu a0 l58i31 hc78) [] [] [0, 1, 2, 3, 4, 5] pre_nil rfl (by simp) (by decide) rfl (.inl rfl) rfl Try.func10 rfl rfl rfl (fun _ => ?_)
                  refine al_nil ?_
                  rcases Bool.eq_false_or_eq_true r79 with hb80 | hb80
                  · replace h := bif_t hb80 h
                    refine aq_show (m := Mem.plus (memOf w0 Z0 [] [(oBox g1 24 (cA16u64 a0)), (oBox g2 24 (cA16u64 a1)), (oBox g3 26 (cA8u8 a2)), (oBox g5 24 (cA16u64 r8)), (oBox g6 24 (cA16u64 r10)), (oMapI g11 .i64 .i64 j12xm11)] []) X_ Y_) ?_
                    refine aq_next hK_ [0, 1, 2, 3, 4, 5] [] [(3, (ptr g1 0)), (4, (ptr g2 0)), (5, (ptr g3 0)), (7, (Value.bool j64b7)), (8, (ptr g5 0)), (9, (ptr g6 0)), (10, (Value.int .i64 l58i10)), (11, (Value.map (some g11))), (13, (Value.int .i64 l58i31)), (31, (Value.int .i64 l58i31)), (58, (Value.bool false)), (61, (Value.bool r77)), (64, (Value.bool r79))] [] [⟨17, 65, Unit, fun _ => { val := (Value.bool true) }⟩, ⟨18, 66, Unit, fun _ => { val := undef }⟩, ⟨19, 67, Unit, fun _ => { val := undef }⟩] rfl rfl (by decide) rfl ⟨rfl, rfl, rfl, rfl, rfl, rfl, rfl, rfl, rfl, rfl, rfl, rfl, rfl, trivial⟩ trivial ?_
                    clear hK_ K_ F_ X_ Y_
                    refine ta_show (m := (memOf w0 Z0 [] [(oBox g1 24 (cA16u64 a0)), (oBox g2 24 (cA16u64 a1)), (oBox g3 26 (cA8u8 a2)), (oBox g5 24 (cA16u64 r8)), (oBox g6 24 (cA16u64 r10)), (oMapI g11 .i64 .i64 j12xm11)] [])) (S := (tab [(3, (ptr g1 0)), (4, (ptr g2 0)), (5, (ptr g3 0)), (7, (Value.bool j64b7)), (8, (ptr g5 0)), (9, (ptr g6 0)), (10, (Value.int .i64 l58i10)), (11, (Value.map (some g11))), (13, (Value.int .i64 l58i31)), (31, (Value.int .i64 l58i31)), (58, (Value.bool false)), (61, (Value.bool r77)), (64, (Value.bool r79))])) ?_
                    refine ta_step 20 _ [17, 18, 19] [65, 66, 67] [17, 18, 19] [21, 22, 23] [⟨17, 65, Unit, fun _ => { val := (Value.bool true) }⟩, ⟨18, 66, Unit, fun _ => { val := undef }⟩, ⟨19, 67, Unit, fun _ => { val := undef }⟩] [] rfl rfl rfl (by kernel_rfl) rfl rfl rfl ⟨⟨_, rfl, [], rfl, by
    intro X_ Y_ F_ K_ hK_
    refine al_show (m := Mem.plus (memOf w0 Z0 [] [(oBox g1 24 (cA16u64 a0)), (oBox g2 24 (cA16u64 a1)), (oBox g3 26 (cA8u8 a2)), (oBox g5 24 (cA16u64 r8)), (oBox g6 24 (cA16u64 r10)), (oMapI g11 .i64 .i64 j12xm11)] []) X_ Y_) (S := over (tab [(3, (ptr g1 0)), (4, (ptr g2 0)), (5, (ptr g3 0)), (7, (Value.bool j64b7)), (8, (ptr g5 0)), (9, (ptr g6 0)), (10, (Value.int .i64 l58i10)), (11, (Value.map (some g11))), (13, (Value.int .i64 l58i31)), (31, (Value.int .i64 l58i31)), (58, (Value.bool false)), (61, (Value.bool r77)), (64, (Value.bool r79))]) F_) ?_
    refine al_val (ov_cast (by first | rw [hb80] | rfl) (ov_move rfl rfl)) ?_
    refine al_nil ?_
    exact fr_fin hK_ ()⟩, ⟨_, rfl, [0], rfl, by
    intro _
    intro X_ Y_ F_ K_ hK_
    refine al_show (m := Mem.plus (memOf w0 Z0 [] [(oBox g1 24 (cA16u64 a0)), (oBox g2 24 (cA16u64 a1)), (oBox g3 26 (cA8u8 a2)), (oBox g5 24 (cA16u64 r8)), (oBox g6 24 (cA16u64 r10)), (oMapI g11 .i64 .i64 j12xm11)] []) X_ Y_) (S := over (put (tab [(3, (ptr g1 0)), (4, (ptr g2 0)), (5, (ptr g3 0)), (7, (Value.bool j64b7)), (8, (ptr g5 0)), (9, (ptr g6 0)), (10, (Value.int .i64 l58i10)), (11, (Value.map (some g11))), (13, (Value.int .i64 l58i31)), (31, (Value.int .i64 l58i31)), (58, (Value.bool false)), (61, (Value.bool r77)), (64, (Value.bool r79))]) 65 (Value.bool true)) F_) ?_
    refine al_skip ?_
    refine al_nil ?_
    exact fr_fin hK_ ()⟩, ⟨_, rfl, [0], rfl, by
    intro _
    intro X_ Y_ F_ K_ hK_
    refine al_show (m := Mem.plus (memOf w0 Z0 [] [(oBox g1 24 (cA16u64 a0)), (oBox g2 24 (cA16u64 a1)), (oBox g3 26 (cA8u8 a2)), (oBox g5 24 (cA16u64 r8)), (oBox g6 24 (cA16u64 r10)), (oMapI g11 .i64 .i64 j12xm11)] []) X_ Y_) (S := over (put (tab [(3, (ptr g1 0)), (4, (ptr g2 0)), (5, (ptr g3 0)), (7, (Value.bool j64b7)), (8, (ptr g5 0)), (9, (ptr g6 0)), (10, (Value.int .i64 l58i10)), (11, (Value.map (some g11))), (13, (Value.int .i64 l58i31)), (31, (Value.int .i64 l58i31)), (58, (Value.bool false)), (61, (Value.bool r77)), (64, (Value.bool r79))]) 65 (Value.bool true)) F_) ?_
    refine al_skip ?_
    refine al_nil ?_
    exact fr_fin hK_ ()⟩, trivial⟩ ?_
                    intro _
                    intro _
                    intro _
                    intro X_ Y_ F_ K_ hK_
                    refine al_show (m := Mem.plus (memOf w0 Z0 [] [(oBox g1 24 (cA16u64 a0)), (oBox g2 24 (cA16u64 a1)), (oBox g3 26 (cA8u8 a2)), (oBox g5 24 (cA16u64 r8)), (oBox g6 24 (cA16u64 r10)), (oMapI g11 .i64 .i64 j12xm11)] []) X_ Y_) (S := over (put (put (put (tab [(3, (ptr g1 0)), (4, (ptr g2 0)), (5, (ptr g3 0)), (7, (Value.bool j64b7)), (8, (ptr g5 0)), (9, (ptr g6 0)), (10, (Value.int .i64 l58i10)), (11, (Value.map (some g11))), (13, (Value.int .i64 l58i31)), (31, (Value.int .i64 l58i31)), (58, (Value.bool false)), (61, (Value.bool r77)), (64, (Value.bool r79))]) 65 (Value.bool true)) 66 undef) 67 undef) F_) ?_
                    refine al_skip ?_
                    refine al_nil ?_
                    refine aq_show (m := Mem.plus (memOf w0 Z0 [] [(oBox g1 24 (cA16u64 a0)), (oBox g2 24 (cA16u64 a1)), (oBox g3 26 (cA8u8 a2)), (oBox g5 24 (cA16u64 r8)), (oBox g6 24 (cA16u64 r10)), (oMapI g11 .i64 .i64 j12xm11)] []) X_ Y_) ?_
                    refine aq_next hK_ [0, 1, 2, 3, 4, 5] [] [(3, (ptr g1 0)), (4, (ptr g2 0)), (5, (ptr g3 0)), (7, (Value.bool j64b7)), (8, (ptr g5 0)), (9, (ptr g6 0)), (10, (Value.int .i64 l58i10)), (11, (Value.map (some g11))), (13, (Value.int .i64 l58i31)), (31, (Value.int .i64 l58i31)), (58, (Value.bool false)), (61, (Value.bool r77)), (65, (Value.bool true)), (68, undef)] [] [⟨21, 69, Unit, fun _ => { val := (Value.bool true) }⟩, ⟨22, 70, Unit, fun _ => { val := (Value.bool (r77 != true)) }⟩, ⟨23, 71, Unit, fun _ => { val := (Value.bool (r77 != true)) }⟩] rfl rfl (by decide) rfl ⟨rfl, rfl, rfl, rfl, rfl, rfl, rfl, rfl, rfl, rfl, rfl, rfl, rfl, rfl, trivial⟩ trivial ?_
                    clear hK_ K_ F_ X_ Y_
                    refine ta_show (m := (memOf w0 Z0 [] [(oBox g1 24 (cA16u64 a0)), (oBox g2 24 (cA16u64 a1)), (oBox g3 26 (cA8u8 a2)), (oBox g5 24 (cA16u64 r8)), (oBox g6 24 (cA16u64 r10)), (oMapI g11 .i64 .i64 j12xm11)] [])) (S := (tab [(3, (ptr g1 0)), (4, (ptr g2 0)), (5, (ptr g3 0)), (7, (Value.bool j64b7)), (8, (ptr g5 0)), (9, (ptr g6 0)), (10, (Value.int .i64 l58i10)), (11, (Value.map (some g11))), (13, (Value.int .i64 l58i31)), (31, (Value.int .i64 l58i31)), (58, (Value.bool false)), (61, (Value.bool r77)), (65, (Value.bool true)), (68, undef)])) ?_
                    refine ta_end [21, 22, 23] [69, 70, 71] rfl rfl (by kernel_rfl) rfl ⟨⟨_, rfl, [], rfl, by
    intro X_ Y_ F_ K_ hK_
    refine al_show (m := Mem.plus (memOf w0 Z0 [] [(oBox g1 24 (cA16u64 a0)), (oBox g2 24 (cA16u64 a1)), (oBox g3 26 (cA8u8 a2)), (oBox g5 24 (cA16u64 r8)), (oBox g6 24 (cA16u64 r10)), (oMapI g11 .i64 .i64 j12xm11)] []) X_ Y_) (S := over (tab [(3, (ptr g1 0)), (4, (ptr g2 0)), (5, (ptr g3 0)), (7, (Value.bool j64b7)), (8, (ptr g5 0)), (9, (ptr g6 0)), (10, (Value.int .i64 l58i10)), (11, (Value.map (some g11))), (13, (Value.int .i64 l58i31)), (31, (Value.int .i64 l58i31)), (58, (Value.bool false)), (61, (Value.bool r77)), (65, (Value.bool true)), (68, undef)]) F_) ?_
    refine al_val (ov_pick_t rfl rfl rfl) ?_
    refine al_nil ?_
    exact fr_fin hK_ ()⟩, ⟨_, rfl, [0], rfl, by
    intro _
    intro X_ Y_ F_ K_ hK_
    refine al_show (m := Mem.plus (memOf w0 Z0 [] [(oBox g1 24 (cA16u64 a0)), (oBox g2 24 (cA16u64 a1)), (oBox g3 26 (cA8u8 a2)), (oBox g5 24 (cA16u64 r8)), (oBox g6 24 (cA16u64 r10)), (oMapI g11 .i64 .i64 j12xm11)] []) X_ Y_) (S := over (put (tab [(3, (ptr g1 0)), (4, (ptr g2 0)), (5, (ptr g3 0)), (7, (Value.bool j64b7)), (8, (ptr g5 0)), (9, (ptr g6 0)), (10, (Value.int .i64 l58i10)), (11, (Value.map (some g11))), (13, (Value.int .i64 l58i31)), (31, (Value.int .i64 l58i31)), (58, (Value.bool false)), (61, (Value.bool r77)), (65, (Value.bool true)), (68, undef)]) 69 (Value.bool true)) F_) ?_
    refine al_val (ov_boolNe Try.underlying4 rfl rfl rfl) ?_
    refine al_nil ?_
    exact fr_fin hK_ ()⟩, ⟨_, rfl, [1], rfl, by
    intro _
    intro X_ Y_ F_ K_ hK_
    refine al_show (m := Mem.plus (memOf w0 Z0 [] [(oBox g1 24 (cA16u64 a0)), (oBox g2 24 (cA16u64 a1)), (oBox g3 26 (cA8u8 a2)), (oBox g5 24 (cA16u64 r8)), (oBox g6 24 (cA16u64 r10)), (oMapI g11 .i64 .i64 j12xm11)] []) X_ Y_) (S := over (put (tab [(3, (ptr g1 0)), (4, (ptr g2 0)), (5, (ptr g3 0)), (7, (Value.bool j64b7)), (8, (ptr g5 0)), (9, (ptr g6 0)), (10, (Value.int .i64 l58i10)), (11, (Value.map (some g11))), (13, (Value.int .i64 l58i31)), (31, (Value.int .i64 l58i31)), (58, (Value.bool false)), (61, (Value.bool r77)), (65, (Value.bool true)), (68, undef)]) 70 (Value.bool (r77 != true))) F_) ?_
    refine al_val (ov_pick_f rfl rfl rfl) ?_
    refine al_nil ?_
    exact fr_fin hK_ ()⟩, trivial⟩ ?_
                    intro _
                    intro _
                    intro _
                    refine aq_show (m := (memOf w0 Z0 [] [(oBox g1 24 (cA16u64 a0)), (oBox g2 24 (cA16u64 a1)), (oBox g3 26 (cA8u8 a2)), (oBox g5 24 (cA16u64 r8)), (oBox g6 24 (cA16u64 r10)), (oMapI g11 .i64 .i64 j12xm11)] [])) (S := (put (put (put (tab [(3, (ptr g1 0)), (4, (ptr g2 0)), (5, (ptr g3 0)), (7, (Value.bool j64b7)), (8, (ptr g5 0)), (9, (ptr g6 0)), (10, (Value.int .i64 l58i10)), (11, (Value.map (some g11))), (13, (Value.int .i64 l58i31)), (31, (Value.int .i64 l58i31)), (58, (Value.bool false)), (61, (Value.bool r77)), (65, (Value.bool true)), (68, undef)]) 69 (Value.bool true)) 70 (Value.bool (r77 != true))) 71 (Value.bool (r77 != true)))) ?_
                    exact aq_join (r77 != true) h (fun w a hm hs => norm hm hs [0, 1, 2, 3, 4, 5] [] [(3, (ptr g1 0)), (4, (ptr g2 0)), (5, (ptr g3 0)), (7, (Value.bool j64b7)), (8, (ptr g5 0)), (9, (ptr g6 0)), (10, (Value.int .i64 l58i10)), (11, (Value.map (some g11))), (13, (Value.int .i64 l58i31)), (31, (Value.int .i64 l58i31)), (71, (Value.bool (r77 != true)))] (by decide) ⟨rfl, rfl, rfl, rfl, rfl, rfl, rfl, rfl, rfl, rfl, rfl, trivial⟩)
                  · replace h := bif_f hb80 h
                    refine aq_show (m := Mem.plus (memOf w0 Z0 [] [(oBox g1 24 (cA16u64 a0)), (oBox g2 24 (cA16u64 a1)), (oBox g3 26 (cA8u8 a2)), (oBox g5 24 (cA16u64 r8)), (oBox g6 24 (cA16u64 r10)), (oMapI g11 .i64 .i64 j12xm11)] []) X_ Y_) ?_
                    refine aq_next hK_ [0, 1, 2, 3, 4, 5] [] [(3, (ptr g1 0)), (4, (ptr g2 0)), (5, (ptr g3 0)), (7, (Value.bool j64b7)), (8, (ptr g5 0)), (9, (ptr g6 0)), (10, (Value.int .i64 l58i10)), (11, (Value.map (some g11))), (13, (Value.int .i64 l58i31)), (31, (Value.int .i64 l58i31)), (58, (Value.bool false)), (61, (Value.bool r77)), (64, (Value.bool r79))] [] [⟨17, 65, Unit, fun _ => { val := (Value.bool false) }⟩, ⟨18, 66, Unit, fun _ => { val := (ag (cA16u64 a1)) }⟩, ⟨19, 67, Unit, fun _ => { val := (Value.int .i64 l58i31) }⟩] rfl rfl (by decide) rfl ⟨rfl, rfl, rfl, rfl, rfl, rfl, rfl, rfl, rfl, rfl, rfl, rfl, rfl, trivial⟩ trivial ?_
                    clear hK_ K_ F_ X_ Y_
                    refine ta_show (m := (memOf w0 Z0 [] [(oBox g1 24 (cA16u64 a0)), (oBox g2 24 (cA16u64 a1)), (oBox g3 26 (cA8u8 a2)), (oBox g5 24 (cA16u64 r8)), (oBox g6 24 (cA16u64 r10)), (oMapI g11 .i64 .i64 j12xm11)] [])) (S := (tab [(3, (ptr g1 0)), (4, (ptr g2 0)), (5, (ptr g3 0)), (7, (Value.bool j64b7)), (8, (ptr g5 0)), (9, (ptr g6 0)), (10, (Value.int .i64 l58i10)), (11, (Value.map (some g11))), (13, (Value.int .i64 l58i31)), (31, (Value.int .i64 l58i31)), (58, (Value.bool false)), (61, (Value.bool r77)), (64, (Value.bool r79))])) ?_
                    refine ta_step 20 _ [17, 18, 19] [65, 66, 67] [17, 18, 19] [21, 22, 23] [⟨17, 65, Unit, fun _ => { val := (Value.bool false) }⟩, ⟨18, 66, Unit, fun _ => { val := (ag (cA16u64 a1)) }⟩, ⟨19, 67, Unit, fun _ => { val := (Value.int .i64 l58i31) }⟩] [] rfl rfl rfl (by kernel_rfl) rfl rfl rfl ⟨⟨_, rfl, [], rfl, by
    intro X_ Y_ F_ K_ hK_
    refine al_show (m := Mem.plus (memOf w0 Z0 [] [(oBox g1 24 (cA16u64 a0)), (oBox g2 24 (cA16u64 a1)), (oBox g3 26 (cA8u8 a2)), (oBox g5 24 (cA16u64 r8)), (oBox g6 24 (cA16u64 r10)), (oMapI g11 .i64 .i64 j12xm11)] []) X_ Y_) (S := over (tab [(3, (ptr g1 0)), (4, (ptr g2 0)), (5, (ptr g3 0)), (7, (Value.bool j64b7)), (8, (ptr g5 0)), (9, (ptr g6 0)), (10, (Value.int .i64 l58i10)), (11, (Value.map (some g11))), (13, (Value.int .i64 l58i31)), (31, (Value.int .i64 l58i31)), (58, (Value.bool false)), (61, (Value.bool r77)), (64, (Value.bool r79))]) F_) ?_
    refine al_val (ov_cast (by first | rw [hb80] | rfl) (ov_move rfl rfl)) ?_
    refine al_nil ?_
    exact fr_fin hK_ ()⟩, ⟨_, rfl, [0], rfl, by
    intro _
    intro X_ Y_ F_ K_ hK_
    refine al_show (m := Mem.plus (memOf w0 Z0 [] [(oBox g1 24 (cA16u64 a0)), (oBox g2 24 (cA16u64 a1)), (oBox g3 26 (cA8u8 a2)), (oBox g5 24 (cA16u64 r8)), (oBox g6 24 (cA16u64 r10)), (oMapI g11 .i64 .i64 j12xm11)] []) X_ Y_) (S := over (put (tab [(3, (ptr g1 0)), (4, (ptr g2 0)), (5, (ptr g3 0)), (7, (Value.bool j64b7)), (8, (ptr g5 0)), (9, (ptr g6 0)), (10, (Value.int .i64 l58i10)), (11, (Value.map (some g11))), (13, (Value.int .i64 l58i31)), (31, (Value.int .i64 l58i31)), (58, (Value.bool false)), (61, (Value.bool r77)), (64, (Value.bool r79))]) 65 (Value.bool false)) F_) ?_
    refine al_val (ov_load (i := 1) (v := (ag (cA16u64 a1))) rfl rfl Try.underlying24 sz24 rfl rfl rfl rfl) ?_
    refine al_nil ?_
    exact fr_fin hK_ ()⟩, ⟨_, rfl, [0], rfl, by
    intro _
    intro X_ Y_ F_ K_ hK_
    refine al_show (m := Mem.plus (memOf w0 Z0 [] [(oBox g1 24 (cA16u64 a0)), (oBox g2 24 (cA16u64 a1)), (oBox g3 26 (cA8u8 a2)), (oBox g5 24 (cA16u64 r8)), (oBox g6 24 (cA16u64 r10)), (oMapI g11 .i64 .i64 j12xm11)] []) X_ Y_) (S := over (put (tab [(3, (ptr g1 0)), (4, (ptr g2 0)), (5, (ptr g3 0)), (7, (Value.bool j64b7)), (8, (ptr g5 0)), (9, (ptr g6 0)), (10, (Value.int .i64 l58i10)), (11, (Value.map (some g11))), (13, (Value.int .i64 l58i31)), (31, (Value.int .i64 l58i31)), (58, (Value.bool false)), (61, (Value.bool r77)), (64, (Value.bool r79))]) 65 (Value.bool false)) F_) ?_
    refine al_val (ov_move rfl rfl) ?_
    refine al_nil ?_
    exact fr_fin hK_ ()⟩, trivial⟩ ?_
                    intro _
                    intro _
                    intro _
                    intro X_ Y_ F_ K_ hK_
                    refine al_show (m := Mem.plus (memOf w0 Z0 [] [(oBox g1 24 (cA16u64 a0)), (oBox g2 24 (cA16u64 a1)), (oBox g3 26 (cA8u8 a2)), (oBox g5 24 (cA16u64 r8)), (oBox g6 24 (cA16u64 r10)), (oMapI g11 .i64 .i64 j12xm11)] []) X_ Y_) (S := over (put (put (put (tab [(3, (ptr g1 0)), (4, (ptr g2 0)), (5, (ptr g3 0)), (7, (Value.bool j64b7)), (8, (ptr g5 0)), (9, (ptr g6 0)), (10, (Value.int .i64 l58i10)), (11, (Value.map (some g11))), (13, (Value.int .i64 l58i31)), (31, (Value.int .i64 l58i31)), (58, (Value.bool false)), (61, (Value.bool r77)), (64, (Value.bool r79))]) 65 (Value.bool false)) 66 (ag (cA16u64 a1))) 67 (Value.int .i64 l58i31)) F_) ?_
                    obtain ⟨r82, hc81, h⟩ := opt_some h
                    refine al_callX (vs := [(ag (cA16u64 a1)), (Value.int .i64 l58i31)]) (f_lumref_Bit_ok fu a1 l58i31 hc81) [] [] [0, 1, 2, 3, 4, 5] pre_nil rfl (by simp) (by decide) rfl (.inl rfl) rfl Try.func10 rfl rfl rfl (fun _ => ?_)
                    refine al_nil ?_
                    refine aq_show (m := Mem.plus (memOf w0 Z0 [] [(oBox g1 24 (cA16u64 a0)), (oBox g2 24 (cA16u64 a1)), (oBox g3 26 (cA8u8 a2)), (oBox g5 24 (cA16u64 r8)), (oBox g6 24 (cA16u64 r10)), (oMapI g11 .i64 .i64 j12xm11)] []) X_ Y_) ?_
                    refine aq_next hK_ [0, 1, 2, 3, 4, 5] [] [(3, (ptr g1 0)), (4, (ptr g2 0)), (5, (ptr g3 0)), (7, (Value.bool j64b7)), (8, (ptr g5 0)), (9, (ptr g6 0)), (10, (Value.int .i64 l58i10)), (11, (Value.map (some g11))), (13, (Value.int .i64 l58i31)), (31, (Value.int .i64 l58i31)), (58, (Value.bool false)), (61, (Value.bool r77)), (65, (Value.bool false)), (68, (Value.bool r82))] [] [⟨21, 69, Unit, fun _ => { val := (Value.bool r82) }⟩, ⟨22, 70, Unit, fun _ => { val := (Value.bool (r77 != r82)) }⟩, ⟨23, 71, Unit, fun _ => { val := (Value.bool (r77 != r82)) }⟩] rfl rfl (by decide) rfl ⟨rfl, rfl, rfl, rfl, rfl, rfl, rfl, rfl, rfl, rfl, rfl, rfl, rfl, rfl, trivial⟩ trivial ?_
                    clear hK_ K_ F_ X_ Y_
                    refine ta_show (m := (memOf w0 Z0 [] [(oBox g1 24 (cA16u64 a0)), (oBox g2 24 (cA16u64 a1)), (oBox g3 26 (cA8u8 a2)), (oBox g5 24 (cA16u64 r8)), (oBox g6 24 (cA16u64 r10)), (oMapI g11 .i64 .i64 j12xm11)] [])) (S := (tab [(3, (ptr g1 0)), (4, (ptr g2 0)), (5, (ptr g3 0)), (7, (Value.bool j64b7)), (8, (ptr g5 0)), (9, (ptr g6 0)), (10, (Value.int .i64 l58i10)), (11, (Value.map (some g11))), (13, (Value.int .i64 l58i31)), (31, (Value.int .i64 l58i31)), (58, (Value.bool false)), (61, (Value.bool r77)), (65, (Value.bool false)), (68, (Value.bool r82))])) ?_
                    refine ta_end [21, 22, 23] [69, 70, 71] rfl rfl (by kernel_rfl) rfl ⟨⟨_, rfl, [], rfl, by
    intro X_ Y_ F_ K_ hK_
    refine al_show (m := Mem.plus (memOf w0 Z0 [] [(oBox g1 24 (cA16u64 a0)), (oBox g2 24 (cA16u64 a1)), (oBox g3 26 (cA8u8 a2)), (oBox g5 24 (cA16u64 r8)), (oBox g6 24 (cA16u64 r10)), (oMapI g11 .i64 .i64 j12xm11)] []) X_ Y_) (S := over (tab [(3, (ptr g1 0)), (4, (ptr g2 0)), (5, (ptr g3 0)), (7, (Value.bool j64b7)), (8, (ptr g5 0)), (9, (ptr g6 0)), (10, (Value.int .i64 l58i10)), (11, (Value.map (some g11))), (13, (Value.int .i64 l58i31)), (31, (Value.int .i64 l58i31)), (58, (Value.bool false)), (61, (Value.bool r77)), (65, (Value.bool false)), (68, (Value.bool r82))]) F_) ?_
    refine al_val (ov_pick_f rfl rfl rfl) ?_
    refine al_nil ?_
    exact fr_fin hK_ ()⟩, ⟨_, rfl, [0], rfl, by
    intro _
    intro X_ Y_ F_ K_ hK_
    refine al_show (m := Mem.plus (memOf w0 Z0 [] [(oBox g1 24 (cA16u64 a0)), (oBox g2 24 (cA16u64 a1)), (oBox g3 26 (cA8u8 a2)), (oBox g5 24 (cA16u64 r8)), (oBox g6 24 (cA16u64 r10)), (oMapI g11 .i64 .i64 j12xm11)] []) X_ Y_) (S := over (put (tab [(3, (ptr g1 0)), (4, (ptr g2 0)), (5, (ptr g3 0)), (7, (Value.bool j64b7)), (8, (ptr g5 0)), (9, (ptr g6 0)), (10, (Value.int .i64 l58i10)), (11, (Value.map (some g11))), (13, (Value.int .i64 l58i31)), (31, (Value.int .i64 l58i31)), (58, (Value.bool false)), (61, (Value.bool r77)), (65, (Value.bool false)), (68, (Value.bool r82))]) 69 (Value.bool r82)) F_) ?_
    refine al_val (ov_boolNe Try.underlying4 rfl rfl rfl) ?_
    refine al_nil ?_
    exact fr_fin hK_ ()⟩, ⟨_, rfl, [1], rfl, by
    intro _
    intro X_ Y_ F_ K_ hK_
    refine al_show (m := Mem.plus (memOf w0 Z0 [] [(oBox g1 24 (cA16u64 a0)), (oBox g2 24 (cA16u64 a1)), (oBox g3 26 (cA8u8 a2)), (oBox g5 24 (cA16u64 r8)), (oBox g6 24 (cA16u64 r10)), (oMapI g11 .i64 .i64 j12xm11)] []) X_ Y_) (S := over (put (tab [(3, (ptr g1 0)), (4, (ptr g2 0)), (5, (ptr g3 0)), (7, (Value.bool j64b7)), (8, (ptr g5 0)), (9, (ptr g6 0)), (10, (Value.int .i64 l58i10)), (11, (Value.map (some g11))), (13, (Value.int .i64 l58i31)), (31, (Value.int .i64 l58i31)), (58, (Value.bool false)), (61, (Value.bool r77)), (65, (Value.bool false)), (68, (Value.bool r82))]) 70 (Value.bool (r77 != r82))) F_) ?_
    refine al_val (ov_pick_f rfl rfl rfl) ?_
    refine al_nil ?_
    exact fr_fin hK_ ()⟩, trivial⟩ ?_
                    intro _
                    intro _
                    intro _
                    refine aq_show (m := (memOf w0 Z0 [] [(oBox g1 24 (cA16u64 a0)), (oBox g2 24 (cA16u64 a1)), (oBox g3 26 (cA8u8 a2)), (oBox g5 24 (cA16u64 r8)), (oBox g6 24 (cA16u64 r10)), (oMapI g11 .i64 .i64 j12xm11)] [])) (S := (put (put (put (tab [(3, (ptr g1 0)), (4, (ptr g2 0)), (5, (ptr g3 0)), (7, (Value.bool j64b7)), (8, (ptr g5 0)), (9, (ptr g6 0)), (10, (Value.int .i64 l58i10)), (11, (Value.map (some g11))), (13, (Value.int .i64 l58i31)), (31, (Value.int .i64 l58i31)), (58, (Value.bool false)), (61, (Value.bool r77)), (65, (Value.bool false)), (68, (Value.bool r82))]) 69 (Value.bool r82)) 70 (Value.bool (r77 != r82))) 71 (Value.bool (r77 != r82)))) ?_
                    exact aq_join (r77 != r82) h (fun w a hm hs => norm hm hs [0, 1, 2, 3, 4, 5] [] [(3, (ptr g1 0)), (4, (ptr g2 0)), (5, (ptr g3 0)), (7, (Value.bool j64b7)), (8, (ptr g5 0)), (9, (ptr g6 0)), (10, (Value.int .i64 l58i10)), (11, (Value.map (some g11))), (13, (Value.int .i64 l58i31)), (31, (Value.int .i64 l58i31)), (71, (Value.bool (r77 != r82)))] (by decide) ⟨rfl, rfl, rfl, rfl, rfl, rfl, rfl, rfl, rfl, rfl, rfl, trivial⟩)
              · replace h := bif_f hb74 h
                refine aq_show (m := Mem.plus (memOf w0 Z0 [] [(oBox g1 24 (cA16u64 a0)), (oBox g2 24 (cA16u64 a1)), (oBox g3 26 (cA8u8 a2)), (oBox g5 24 (cA16u64 r8)), (oBox g6 24 (cA16u64 r10)), (oMapI g11 .i64 .i64 j12xm11)] []) X_ Y_) ?_
                refine aq_next hK_ [0, 1, 2, 3, 4, 5] [] [(3, (ptr g1 0)), (4, (ptr g2 0)), (5, (ptr g3 0)), (7, (Value.bool j64b7)), (8, (ptr g5 0)), (9, (ptr g6 0)), (10, (Value.int .i64 l58i10)), (11, (Value.map (some g11))), (13, (Value.int .i64 l58i31)), (14, (Value.bool ((mget j12xm11 l58i31) == (1 : Int)))), (31, (Value.int .i64 l58i31)), (50, (Value.bool r73))] [51] [⟨4, 52, Unit, fun _ => { val := (Value.bool false) }⟩, ⟨5, 53, Unit, fun _ => { val := (ag (cA16u64 a0)) }⟩, ⟨6, 54, Unit, fun _ => { val := (Value.int .i64 l58i31) }⟩] rfl rfl (by decide) rfl ⟨rfl, rfl, rfl, rfl, rfl, rfl, rfl, rfl, rfl, rfl, rfl, rfl, trivial⟩ ⟨rfl, trivial⟩ ?_
                clear hK_ K_ F_ X_ Y_
                refine ta_show (m := (memOf w0 Z0 [] [(oBox g1 24 (cA16u64 a0)), (oBox g2 24 (cA16u64 a1)), (oBox g3 26 (cA8u8 a2)), (oBox g5 24 (cA16u64 r8)), (oBox g6 24 (cA16u64 r10)), (oMapI g11 .i64 .i64 j12xm11)] [])) (S := (tab [(3, (ptr g1 0)), (4, (ptr g2 0)), (5, (ptr g3 0)), (7, (Value.bool j64b7)), (8, (ptr g5 0)), (9, (ptr g6 0)), (10, (Value.int .i64 l58i10)), (11, (Value.map (some g11))), (13, (Value.int .i64 l58i31)), (14, (Value.bool ((mget j12xm11 l58i31) == (1 : Int)))), (31, (Value.int .i64 l58i31)), (50, (Value.bool r73))])) ?_
                refine ta_step 7 _ [3, 4, 5, 6] [51, 52, 53, 54] [3, 4, 5, 6] [8, 9, 10, 11, 12, 14, 15] [⟨3, 51, Unit, fun _ => { val := (Value.bool ((mget j12xm11 l58i31) == (1 : Int))) }⟩, ⟨4, 52, Unit, fun _ => { val := (Value.bool false) }⟩, ⟨5, 53, Unit, fun _ => { val := (ag (cA16u64 a0)) }⟩, ⟨6, 54, Unit, fun _ => { val := (Value.int .i64 l58i31) }⟩] [] rfl rfl rfl (by kernel_rfl) rfl rfl rfl ⟨⟨_, rfl, [], rfl, by
    intro X_ Y_ F_ K_ hK_
    refine al_show (m := Mem.plus (memOf w0 Z0 [] [(oBox g1 24 (cA16u64 a0)), (oBox g2 24 (cA16u64 a1)), (oBox g3 26 (cA8u8 a2)), (oBox g5 24 (cA16u64 r8)), (oBox g6 24 (cA16u64 r10)), (oMapI g11 .i64 .i64 j12xm11)] []) X_ Y_) (S := over (tab [(3, (ptr g1 0)), (4, (ptr g2 0)), (5, (ptr g3 0)), (7, (Value.bool j64b7)), (8, (ptr g5 0)), (9, (ptr g6 0)), (10, (Value.int .i64 l58i10)), (11, (Value.map (some g11))), (13, (Value.int .i64 l58i31)), (14, (Value.bool ((mget j12xm11 l58i31) == (1 : Int)))), (31, (Value.int .i64 l58i31)), (50, (Value.bool r73))]) F_) ?_
    refine al_val (ov_move rfl rfl) ?_
    refine al_nil ?_
    exact fr_fin hK_ ()⟩, ⟨_, rfl, [0], rfl, by
    intro _
    intro X_ Y_ F_ K_ hK_
    refine al_show (m := Mem.plus (memOf w0 Z0 [] [(oBox g1 24 (cA16u64 a0)), (oBox g2 24 (cA16u64 a1)), (oBox g3 26 (cA8u8 a2)), (oBox g5 24 (cA16u64 r8)), (oBox g6 24 (cA16u64 r10)), (oMapI g11 .i64 .i64 j12xm11)] []) X_ Y_) (S := over (put (tab [(3, (ptr g1 0)), (4, (ptr g2 0)), (5, (ptr g3 0)), (7, (Value.bool j64b7)), (8, (ptr g5 0)), (9, (ptr g6 0)), (10, (Value.int .i64 l58i10)), (11, (Value.map (some g11))), (13, (Value.int .i64 l58i31)), (14, (Value.bool ((mget j12xm11 l58i31) == (1 : Int)))), (31, (Value.int .i64 l58i31)), (50, (Value.bool r73))]) 51 (Value.bool ((mget j12xm11 l58i31) == (1 : Int)))) F_) ?_
    refine al_val (ov_cast (by first | rw [hb74] | rfl) (ov_move rfl rfl)) ?_
    refine al_nil ?_
    exact fr_fin hK_ ()⟩, ⟨_, rfl, [1], rfl, by
    intro _
    intro X_ Y_ F_ K_ hK_
    refine al_show (m := Mem.plus (memOf w0 Z0 [] [(oBox g1 24 (cA16u64 a0)), (oBox g2 24 (cA16u64 a1)), (oBox g3 26 (cA8u8 a2)), (oBox g5 24 (cA16u64 r8)), (oBox g6 24 (cA16u64 r10)), (oMapI g11 .i64 .i64 j12xm11)] []) X_ Y_) (S := over (put (tab [(3, (ptr g1 0)), (4, (ptr g2 0)), (5, (ptr g3 0)), (7, (Value.bool j64b7)), (8, (ptr g5 0)), (9, (ptr g6 0)), (10, (Value.int .i64 l58i10)), (11, (Value.map (some g11))), (13, (Value.int .i64 l58i31)), (14, (Value.bool ((mget j12xm11 l58i31) == (1 : Int)))), (31, (Value.int .i64 l58i31)), (50, (Value.bool r73))]) 52 (Value.bool false)) F_) ?_
    refine al_val (ov_load (i := 0) (v := (ag (cA16u64 a0))) rfl rfl Try.underlying24 sz24 rfl rfl rfl rfl) ?_
    refine al_nil ?_
    exact fr_fin hK_ ()⟩, ⟨_, rfl, [1], rfl, by
    intro _
    intro X_ Y_ F_ K_ hK_
    refine al_show (m := Mem.plus (memOf w0 Z0 [] [(oBox g1 24 (cA16u64 a0)), (oBox g2 24 (cA16u64 a1)), (oBox g3 26 (cA8u8 a2)), (oBox g5 24 (cA16u64 r8)), (oBox g6 24 (cA16u64 r10)), (oMapI g11 .i64 .i64 j12xm11)] []) X_ Y_) (S := over (put (tab [(3, (ptr g1 0)), (4, (ptr g2 0)), (5, (ptr g3 0)), (7, (Value.bool j64b7)), (8, (ptr g5 0)), (9, (ptr g6 0)), (10, (Value.int .i64 l58i10)), (11, (Value.map (some g11))), (13, (Value.int .i64 l58i31)), (14, (Value.bool ((mget j12xm11 l58i31) == (1 : Int)))), (31, (Value.int .i64 l58i31)), (50, (Value.bool r73))]) 52 (Value.bool false)) F_) ?_
    refine al_val (ov_move rfl rfl) ?_
    refine al_nil ?_
    exact fr_fin hK_ ()⟩, trivial⟩ ?_
                intro _
                intro _
                intro _
                intro _
                intro X_ Y_ F_ K_ hK_
                refine al_show (m := Mem.plus (memOf w0 Z0 [] [(oBox g1 24 (cA16u64 a0)), (oBox g2 24 (cA16u64 a1)), (oBox g3 26 (cA8u8 a2)), (oBox g5 24 (cA16u64 r8)), (oBox g6 24 (cA16u64 r10)), (oMapI g11 .i64 .i64 j12xm11)] []) X_ Y_) (S := over (put (put (put (put (tab [(3, (ptr g1 0)), (4, (ptr g2 0)), (5, (ptr g3 0)), (7, (Value.bool j64b7)), (8, (ptr g5 0)), (9, (ptr g6 0)), (10, (Value.int .i64 l58i10)), (11, (Value.map (some g11))), (13, (Value.int .i64 l58i31)), (14, (Value.bool ((mget j12xm11 l58i31) == (1 : Int)))), (31, (Value.int .i64 l58i31)), (50, (Value.bool r73))]) 51 (Value.bool ((mget j12xm11 l58i31) == (1 : Int)))) 52 (Value.bool false)) 53 (ag (cA16u64 a0))) 54 (Value.int .i64 l58i31)) F_) ?_
                obtain ⟨r84, hc83, h⟩ := opt_some h
                refine al_callX (vs := [(ag (cA16u64 a0)), (Value.int .i64 l58i31)]) (f_lumref_Bit_ok fu a0 l58i31 hc83) [] [] [0, 1, 2, 3, 4, 5] pre_nil rfl (by simp) (by decide) rfl (.inl rfl) rfl Try.func10 rfl rfl rfl (fun _ => ?_)
                refine al_nil ?_
                rcases Bool.eq_false_or_eq_true (r73 != r84) with hb85 | hb85
                · replace h := bif_t hb85 h
                  refine aq_show (m := Mem.plus (memOf w0 Z0 [] [(oBox g1 24 (cA16u64 a0)), (oBox g2 24 (cA16u64 a1)), (oBox g3 26 (cA8u8 a2)), (oBox g5 24 (cA16u64 r8)), (oBox g6 24 (cA16u64 r10)), (oMapI g11 .i64 .i64 j12xm11)] []) X_ Y_) ?_
                  refine aq_next hK_ [0, 1, 2, 3, 4, 5] [] [(3, (ptr g1 0)), (4, (ptr g2 0)), (5, (ptr g3 0)), (7, (Value.bool j64b7)), (8, (ptr g5 0)), (9, (ptr g6 0)), (10, (Value.int .i64 l58i10)), (11, (Value.map (some g11))), (13, (Value.int .i64 l58i31)), (31, (Value.int .i64 l58i31)), (50, (Value.bool r73)), (52, (Value.bool false)), (55, (Value.bool r84))] [] [⟨8, 56, Unit, fun _ => { val := (Value.bool r84) }⟩, ⟨9, 57, Unit, fun _ => { val := (Value.bool (r73 != r84)) }⟩, ⟨10, 58, Unit, fun _ => { val := (Value.bool true) }⟩, ⟨11, 59, Unit, fun _ => { val := undef }⟩, ⟨12, 60, Unit, fun _ => { val := undef }⟩, ⟨14, 62, Unit, fun _ => { val := undef }⟩, ⟨15, 63, Unit, fun _ => { val := undef }⟩] rfl rfl (by decide) rfl ⟨rfl, rfl, rfl, rfl, rfl, rfl, rfl, rfl, rfl, rfl, rfl, rfl, rfl, trivial⟩ trivial ?_
                  clear hK_ K_ F_ X_ Y_
                  refine ta_show (m := (memOf w0 Z0 [] [(oBox g1 24 (cA16u64 a0)), (oBox g2 24 (cA16u64 a1)), (oBox g3 26 (cA8u8 a2)), (oBox g5 24 (cA16u64 r8)), (oBox g6 24 (cA16u64 r10)), (oMapI g11 .i64 .i64 j12xm11)] [])) (S := (tab [(3, (ptr g1 0)), (4, (ptr g2 0)), (5, (ptr g3 0)), (7, (Value.bool j64b7)), (8, (ptr g5 0)), (9, (ptr g6 0)), (10, (Value.int .i64 l58i10)), (11, (Value.map (some g11))), (13, (Value.int .i64 l58i31)), (31, (Value.int .i64 l58i31)), (50, (Value.bool r73)), (52, (Value.bool false)), (55, (Value.bool r84))])) ?_
                  refine ta_step 13 _ [8, 9, 10, 11, 12, 14, 15] [56, 57, 58, 59, 60, 62, 63] [8, 9, 10, 11, 12] [] [⟨8, 56, Unit, fun _ => { val := (Value.bool r84) }⟩, ⟨9, 57, Unit, fun _ => { val := (Value.bool (r73 != r84)) }⟩, ⟨10, 58, Unit, fun _ => { val := (Value.bool true) }⟩, ⟨11, 59, Unit, fun _ => { val := undef }⟩, ⟨12, 60, Unit, fun _ => { val := undef }⟩] [⟨14, 62, Unit, fun _ => { val := undef }⟩, ⟨15, 63, Unit, fun _ => { val := undef }⟩] rfl rfl rfl (by kernel_rfl) rfl rfl rfl ⟨⟨_, rfl, [], rfl, by
    intro X_ Y_ F_ K_ hK_
    refine al_show (m := Mem.plus (memOf w0 Z0 [] [(oBox g1 24 (cA16u64 a0)), (oBox g2 24 (cA16u64 a1)), (oBox g3 26 (cA8u8 a2)), (oBox g5 24 (cA16u64 r8)), (oBox g6 24 (cA16u64 r10)), (oMapI g11 .i64 .i64 j12xm11)] []) X_ Y_) (S := over (tab [(3, (ptr g1 0)), (4, (ptr g2 0)), (5, (ptr g3 0)), (7, (Value.bool j64b7)), (8, (ptr g5 0)), (9, (ptr g6 0)), (10, (Value.int .i64 l58i10)), (11, (Value.map (some g11))), (13, (Value.int .i64 l58i31)), (31, (Value.int .i64 l58i31)), (50, (Value.bool r73)), (52, (Value.bool false)), (55, (Value.bool r84))]) F_) ?_
    refine al_val (ov_pick_f rfl rfl rfl) ?_
    refine al_nil ?_
    exact fr_fin hK_ ()⟩, ⟨_, rfl, [0], rfl, by
    intro _
    intro X_ Y_ F_ K_ hK_
    refine al_show (m := Mem.plus (memOf w0 Z0 [] [(oBox g1 24 (cA16u64 a0)), (oBox g2 24 (cA16u64 a1)), (oBox g3 26 (cA8u8 a2)), (oBox g5 24 (cA16u64 r8)), (oBox g6 24 (cA16u64 r10)), (oMapI g11 .i64 .i64 j12xm11)] []) X_ Y_) (S := over (put (tab [(3, (ptr g1 0)), (4, (ptr g2 0)), (5, (ptr g3 0)), (7, (Value.bool j64b7)), (8, (ptr g5 0)), (9, (ptr g6 0)), (10, (Value.int .i64 l58i10)), (11, (Value.map (some g11))), (13, (Value.int .i64 l58i31)), (31, (Value.int .i64 l58i31)), (50, (Value.bool r73)), (52, (Value.bool false)), (55, (Value.bool r84))]) 56 (Value.bool r84)) F_) ?_
    refine al_val (ov_boolNe Try.underlying4 rfl rfl rfl) ?_
    refine al_nil ?_
    exact fr_fin hK_ ()⟩, ⟨_, rfl, [1], rfl, by
    intro _
    intro X_ Y_ F_ K_ hK_
    refine al_show (m := Mem.plus (memOf w0 Z0 [] [(oBox g1 24 (cA16u64 a0)), (oBox g2 24 (cA16u64 a1)), (oBox g3 26 (cA8u8 a2)), (oBox g5 24 (cA16u64 r8)), (oBox g6 24 (cA16u64 r10)), (oMapI g11 .i64 .i64 j12xm11)] []) X_ Y_) (S := over (put (tab [(3, (ptr g1 0)), (4, (ptr g2 0)), (5, (ptr g3 0)), (7, (Value.bool j64b7)), (8, (ptr g5 0)), (9, (ptr g6 0)), (10, (Value.int .i64 l58i10)), (11, (Value.map (some g11))), (13, (Value.int .i64 l58i31)), (31, (Value.int .i64 l58i31)), (50, (Value.bool r73)), (52, (Value.bool false)), (55, (Value.bool r84))]) 57 (Value.bool (r73 != r84))) F_) ?_
    refine al_val (ov_cast (by first | rw [hb85] | rfl) (ov_move rfl rfl)) ?_
    refine al_nil ?_
    exact fr_fin hK_ ()⟩, ⟨_, rfl, [2], rfl, by
    intro _
    intro X_ Y_ F_ K_ hK_
    refine al_show (m := Mem.plus (memOf w0 Z0 [] [(oBox g1 24 (cA16u64 a0)), (oBox g2 24 (cA16u64 a1)), (oBox g3 26 (cA8u8 a2)), (oBox g5 24 (cA16u64 r8)), (oBox g6 24 (cA16u64 r10)), (oMapI g11 .i64 .i64 j12xm11)] []) X_ Y_) (S := over (put (tab [(3, (ptr g1 0)), (4, (ptr g2 0)), (5, (ptr g3 0)), (7, (Value.bool j64b7)), (8, (ptr g5 0)), (9, (ptr g6 0)), (10, (Value.int .i64 l58i10)), (11, (Value.map (some g11))), (13, (Value.int .i64 l58i31)), (31, (Value.int .i64 l58i31)), (50, (Value.bool r73)), (52, (Value.bool false)), (55, (Value.bool r84))]) 58 (Value.bool true)) F_) ?_
    refine al_skip ?_
    refine al_nil ?_
    exact fr_fin hK_ ()⟩, ⟨_, rfl, [2], rfl, by
    intro _
    intro X_ Y_ F_ K_ hK_
    refine al_show (m := Mem.plus (memOf w0 Z0 [] [(oBox g1 24 (cA16u64 a0)), (oBox g2 24 (cA16u64 a1)), (oBox g3 26 (cA8u8 a2)), (oBox g5 24 (cA16u64 r8)), (oBox g6 24 (cA16u64 r10)), (oMapI g11 .i64 .i64 j12xm11)] []) X_ Y_) (S := over (put (tab [(3, (ptr g1 0)), (4, (ptr g2 0)), (5, (ptr g3 0)), (7, (Value.bool j64b7)), (8, (ptr g5 0)), (9, (ptr g6 0)), (10, (Value.int .i64 l58i10)), (11, (Value.map (some g11))), (13, (Value.int .i64 l58i31)), (31, (Value.int .i64 l58i31)), (50, (Value.bool r73)), (52, (Value.bool false)), (55, (Value.bool r84))]) 58 (Value.bool true)) F_) ?_
    refine al_skip ?_
    refine al_nil ?_
    exact fr_fin hK_ ()⟩, ⟨_, rfl, [2], rfl, by
    intro _
    intro X_ Y_ F_ K_ hK_
    refine al_show (m := Mem.plus (memOf w0 Z0 [] [(oBox g1 24 (cA16u64 a0)), (oBox g2 24 (cA16u64 a1)), (oBox g3 26 (cA8u8 a2)), (oBox g5 24 (cA16u64 r8)), (oBox g6 24 (cA16u64 r10)), (oMapI g11 .i64 .i64 j12xm11)] []) X_ Y_) (S := over (put (tab [(3, (ptr g1 0)), (4, (ptr g2 0)), (5, (ptr g3 0)), (7, (Value.bool j64b7)), (8, (ptr g5 0)), (9, (ptr g6 0)), (10, (Value.int .i64 l58i10)), (11, (Value.map (some g11))), (13, (Value.int .i64 l58i31)), (31, (Value.int .i64 l58i31)), (50, (Value.bool r73)), (52, (Value.bool false)), (55, (Value.bool r84))]) 58 (Value.bool true)) F_) ?_
    refine al_skip ?_
    refine al_nil ?_
    exact fr_fin hK_ ()⟩, ⟨_, rfl, [2], rfl, by
    intro _
    intro X_ Y_ F_ K_ hK_
    refine al_show (m := Mem.plus (memOf w0 Z0 [] [(oBox g1 24 (cA16u64 a0)), (oBox g2 24 (cA16u64 a1)), (oBox g3 26 (cA8u8 a2)), (oBox g5 24 (cA16u64 r8)), (oBox g6 24 (cA16u64 r10)), (oMapI g11 .i64 .i64 j12xm11)] []) X_ Y_) (S := over (put (tab [(3, (ptr g1 0)), (4, (ptr g2 0)), (5, (ptr g3 0)), (7, (Value.bool j64b7)), (8, (ptr g5 0)), (9, (ptr g6 0)), (10, (Value.int .i64 l58i10)), (11, (Value.map (some g11))), (13, (Value.int .i64 l58i31)), (31, (Value.int .i64 l58i31)), (50, (Value.bool r73)), (52, (Value.bool false)), (55, (Value.bool r84))]) 58 (Value.bool true)) F_) ?_
    refine al_skip ?_
    refine al_nil ?_
    exact fr_fin hK_ ()⟩, trivial⟩ ?_
                  intro _
                  intro _
                  intro _
                  intro _
                  intro _
                  intro X_ Y_ F_ K_ hK_
                  refine al_show (m := Mem.plus (memOf w0 Z0 [] [(oBox g1 24 (cA16u64 a0)), (oBox g2 24 (cA16u64 a1)), (oBox g3 26 (cA8u8 a2)), (oBox g5 24 (cA16u64 r8)), (oBox g6 24 (cA16u64 r10)), (oMapI g11 .i64 .i64 j12xm11)] []) X_ Y_) (S := over (put (put (put (put (put (tab [(3, (ptr g1 0)), (4, (ptr g2 0)), (5, (ptr g3 0)), (7, (Value.bool j64b7)), (8, (ptr g5 0)), (9, (ptr g6 0)), (10, (Value.int .i64 l58i10)), (11, (Value.map (some g11))), (13, (Value.int .i64 l58i31)), (31, (Value.int .i64 l58i31)), (50, (Value.bool r73)), (52, (Value.bool false)), (55, (Value.bool r84))]) 56 (Value.bool r84)) 57 (Value.bool (r73 != r84))) 58 (Value.bool true)) 59 undef) 60 undef) F_) ?_
                  refine al_skip ?_
                  refine al_nil ?_
                  refine aq_show (m := Mem.plus (memOf w0 Z0 [] [(oBox g1 24 (cA16u64 a0)), (oBox g2 24 (cA16u64 a1)), (oBox g3 26 (cA8u8 a2)), (oBox g5 24 (cA16u64 r8)), (oBox g6 24 (cA16u64 r10)), (oMapI g11 .i64 .i64 j12xm11)] []) X_ Y_) ?_
                  refine aq_next hK_ [0, 1, 2, 3, 4, 5] [] [(3, (ptr g1 0)), (4, (ptr g2 0)), (5, (ptr g3 0)), (7, (Value.bool j64b7)), (8, (ptr g5 0)), (9, (ptr g6 0)), (10, (Value.int .i64 l58i10)), (11, (Value.map (some g11))), (13, (Value.int .i64 l58i31)), (31, (Value.int .i64 l58i31)), (58, (Value.bool true)), (61, undef)] [62, 63] [] rfl rfl (by decide) rfl ⟨rfl, rfl, rfl, rfl, rfl, rfl, rfl, rfl, rfl, rfl, rfl, rfl, trivial⟩ ⟨rfl, rfl, trivial⟩ ?_
                  clear hK_ K_ F_ X_ Y_
                  refine ta_show (m := (memOf w0 Z0 [] [(oBox g1 24 (cA16u64 a0)), (oBox g2 24 (cA16u64 a1)), (oBox g3 26 (cA8u8 a2)), (oBox g5 24 (cA16u64 r8)), (oBox g6 24 (cA16u64 r10)), (oMapI g11 .i64 .i64 j12xm11)] [])) (S := (tab [(3, (ptr g1 0)), (4, (ptr g2 0)), (5, (ptr g3 0)), (7, (Value.bool j64b7)), (8, (ptr g5 0)), (9, (ptr g6 0)), (10, (Value.int .i64 l58i10)), (11, (Value.map (some g11))), (13, (Value.int .i64 l58i31)), (31, (Value.int .i64 l58i31)), (58, (Value.bool true)), (61, undef)])) ?_
                  refine ta_step 16 _ [14, 15] [62, 63] [14, 15] [17, 18, 19] [⟨14, 62, Unit, fun _ => { val := undef }⟩, ⟨15, 63, Unit, fun _ => { val := undef }⟩] [] rfl rfl rfl (by kernel_rfl) rfl rfl rfl ⟨⟨_, rfl, [], rfl, by
    intro X_ Y_ F_ K_ hK_
    refine al_show (m := Mem.plus (memOf w0 Z0 [] [(oBox g1 24 (cA16u64 a0)), (oBox g2 24 (cA16u64 a1)), (oBox g3 26 (cA8u8 a2)), (oBox g5 24 (cA16u64 r8)), (oBox g6 24 (cA16u64 r10)), (oMapI g11 .i64 .i64 j12xm11)] []) X_ Y_) (S := over (tab [(3, (ptr g1 0)), (4, (ptr g2 0)), (5, (ptr g3 0)), (7, (Value.bool j64b7)), (8, (ptr g5 0)), (9, (ptr g6 0)), (10, (Value.int .i64 l58i10)), (11, (Value.map (some g11))), (13, (Value.int .i64 l58i31)), (31, (Value.int .i64 l58i31)), (58, (Value.bool true)), (61, undef)]) F_) ?_
    refine al_skip ?_
    refine al_nil ?_
    exact fr_fin hK_ ()⟩, ⟨_, rfl, [], rfl, by
    intro X_ Y_ F_ K_ hK_
    refine al_show (m := Mem.plus (memOf w0 Z0 [] [(oBox g1 24 (cA16u64 a0)), (oBox g2 24 (cA16u64 a1)), (oBox g3 26 (cA8u8 a2)), (oBox g5 24 (cA16u64 r8)), (oBox g6 24 (cA16u64 r10)), (oMapI g11 .i64 .i64 j12xm11)] []) X_ Y_) (S := over (tab [(3, (ptr g1 0)), (4, (ptr g2 0)), (5, (ptr g3 0)), (7, (Value.bool j64b7)), (8, (ptr g5 0)), (9, (ptr g6 0)), (10, (Value.int .i64 l58i10)), (11, (Value.map (some g11))), (13, (Value.int .i64 l58i31)), (31, (Value.int .i64 l58i31)), (58, (Value.bool true)), (61, undef)]) F_) ?_
    refine al_skip ?_
    refine al_nil ?_
    exact fr_fin hK_ ()⟩, trivial⟩ ?_
                  intro _
                  intro _
                  intro X_ Y_ F_ K_ hK_
                  refine al_show (m := Mem.plus (memOf w0 Z0 [] [(oBox g1 24 (cA16u64 a0)), (oBox g2 24 (cA16u64 a1)), (oBox g3 26 (cA8u8 a2)), (oBox g5 24 (cA16u64 r8)), (oBox g6 24 (cA16u64 r10)), (oMapI g11 .i64 .i64 j12xm11)] []) X_ Y_) (S := over (put (put (tab [(3, (ptr g1 0)), (4, (ptr g2 0)), (5, (ptr g3 0)), (7, (Value.bool j64b7)), (8, (ptr g5 0)), (9, (ptr g6 0)), (10, (Value.int .i64 l58i10)), (11, (Value.map (some g11))), (13, (Value.int .i64 l58i31)), (31, (Value.int .i64 l58i31)), (58, (Value.bool true)), (61, undef)]) 62 undef) 63 undef) F_) ?_
                  refine al_skip ?_
                  refine al_nil ?_
                  refine aq_show (m := Mem.plus (memOf w0 Z0 [] [(oBox g1 24 (cA16u64 a0)), (oBox g2 24 (cA16u64 a1)), (oBox g3 26 (cA8u8 a2)), (oBox g5 24 (cA16u64 r8)), (oBox g6 24 (cA16u64 r10)), (oMapI g11 .i64 .i64 j12xm11)] []) X_ Y_) ?_
                  refine aq_next hK_ [0, 1, 2, 3, 4, 5] [] [(3, (ptr g1 0)), (4, (ptr g2 0)), (5, (ptr g3 0)), (7, (Value.bool j64b7)), (8, (ptr g5 0)), (9, (ptr g6 0)), (10, (Value.int .i64 l58i10)), (11, (Value.map (some g11))), (13, (Value.int .i64 l58i31)), (31, (Value.int .i64 l58i31)), (58, (Value.bool true)), (61, undef), (64, undef)] [] [⟨17, 65, Unit, fun _ => { val := undef }⟩, ⟨18, 66, Unit, fun _ => { val := undef }⟩, ⟨19, 67, Unit, fun _ => { val := undef }⟩] rfl rfl (by decide) rfl ⟨rfl, rfl, rfl, rfl, rfl, rfl, rfl, rfl, rfl, rfl, rfl, rfl, rfl, trivial⟩ trivial ?_
                  clear hK_ K_ F_ X_ Y_
                  refine ta_show (m := (memOf w0 Z0 [] [(oBox g1 24 (cA16u64 a0)), (oBox g2 24 (cA16u64 a1)), (oBox g3 26 (cA8u8 a2)), (oBox g5 24 (cA16u64 r8)), (oBox g6 24 (cA16u64 r10)), (oMapI g11 .i64 .i64 j12xm11)] [])) (S := (tab [(3, (ptr g1 0)), (4, (ptr g2 0)), (5, (ptr g3 0)), (7, (Value.bool j64b7)), (8, (ptr g5 0)), (9, (ptr g6 0)), (10, (Value.int .i64 l58i10)), (11, (Value.map (some g11))), (13, (Value.int .i64 l58i31)), (31, (Value.int .i64 l58i31)), (58, (Value.bool true)), (61, undef), (64, undef)])) ?_
                  refine ta_step 20 _ [17, 18, 19] [65, 66, 67] [17, 18, 19] [21, 22, 23] [⟨17, 65, Unit, fun _ => { val := undef }⟩, ⟨18, 66, Unit, fun _ => { val := undef }⟩, ⟨19, 67, Unit, fun _ => { val := undef }⟩] [] rfl rfl rfl (by kernel_rfl) rfl rfl rfl ⟨⟨_, rfl, [], rfl, by
    intro X_ Y_ F_ K_ hK_
    refine al_show (m := Mem.plus (memOf w0 Z0 [] [(oBox g1 24 (cA16u64 a0)), (oBox g2 24 (cA16u64 a1)), (oBox g3 26 (cA8u8 a2)), (oBox g5 24 (cA16u64 r8)), (oBox g6 24 (cA16u64 r10)), (oMapI g11 .i64 .i64 j12xm11)] []) X_ Y_) (S := over (tab [(3, (ptr g1 0)), (4, (ptr g2 0)), (5, (ptr g3 0)), (7, (Value.bool j64b7)), (8, (ptr g5 0)), (9, (ptr g6 0)), (10, (Value.int .i64 l58i10)), (11, (Value.map (some g11))), (13, (Value.int .i64 l58i31)), (31, (Value.int .i64 l58i31)), (58, (Value.bool true)), (61, undef), (64, undef)]) F_) ?_
    refine al_skip ?_
    refine al_nil ?_
    exact fr_fin hK_ ()⟩, ⟨_, rfl, [0], rfl, by
    intro _
    intro X_ Y_ F_ K_ hK_
    refine al_show (m := Mem.plus (memOf w0 Z0 [] [(oBox g1 24 (cA16u64 a0)), (oBox g2 24 (cA16u64 a1)), (oBox g3 26 (cA8u8 a2)), (oBox g5 24 (cA16u64 r8)), (oBox g6 24 (cA16u64 r10)), (oMapI g11 .i64 .i64 j12xm11)] []) X_ Y_) (S := over (put (tab [(3, (ptr g1 0)), (4, (ptr g2 0)), (5, (ptr g3 0)), (7, (Value.bool j64b7)), (8, (ptr g5 0)), (9, (ptr g6 0)), (10, (Value.int .i64 l58i10)), (11, (Value.map (some g11))), (13, (Value.int .i64 l58i31)), (31, (Value.int .i64 l58i31)), (58, (Value.bool true)), (61, undef), (64, undef)]) 65 undef) F_) ?_
    refine al_skip ?_
    refine al_nil ?_
    exact fr_fin hK_ ()⟩, ⟨_, rfl, [0], rfl, by
    intro _
    intro X_ Y_ F_ K_ hK_
    refine al_show (m := Mem.plus (memOf w0 Z0 [] [(oBox g1 24 (cA16u64 a0)), (oBox g2 24 (cA16u64 a1)), (oBox g3 26 (cA8u8 a2)), (oBox g5 24 (cA16u64 r8)), (oBox g6 24 (cA16u64 r10)), (oMapI g11 .i64 .i64 j12xm11)] []) X_ Y_) (S := over (put (tab [(3, (ptr g1 0)), (4, (ptr g2 0)), (5, (ptr g3 0)), (7, (Value.bool j64b7)), (8, (ptr g5 0)), (9, (ptr g6 0)), (10, (Value.int .i64 l58i10)), (11, (Value.map (some g11))), (13, (Value.int .i64 l58i31)), (31, (Value.int .i64 l58i31)), (58, (Value.bool true)), (61, undef), (64, undef)]) 65 undef) F_) ?_
    refine al_skip ?_
    refine al_nil ?_
    exact fr_fin hK_ ()⟩, trivial⟩ ?_
                  intro _
                  intro _
                  intro _
                  intro X_ Y_ F_ K_ hK_
                  refine al_show (m := Mem.plus (memOf w0 Z0 [] [(oBox g1 24 (cA16u64 a0)), (oBox g2 24 (cA16u64 a1)), (oBox g3 26 (cA8u8 a2)), (oBox g5 24 (cA16u64 r8)), (oBox g6 24 (cA16u64 r10)), (oMapI g11 .i64 .i64 j12xm11)] []) X_ Y_) (S := over (put (put (put (tab [(3, (ptr g1 0)), (4, (ptr g2 0)), (5, (ptr g3 0)), (7, (Value.bool j64b7)), (8, (ptr g5 0)), (9, (ptr g6 0)), (10, (Value.int .i64 l58i10)), (11, (Value.map (some g11))), (13, (Value.int .i64 l58i31)), (31, (Value.int .i64 l58i31)), (58, (Value.bool true)), (61, undef), (64, undef)]) 65 undef) 66 undef) 67 undef) F_) ?_
                  refine al_skip ?_
                  refine al_nil ?_
                  refine aq_show (m := Mem.plus (memOf w0 Z0 [] [(oBox g1 24 (cA16u64 a0)), (oBox g2 24 (cA16u64 a1)), (oBox g3 26 (cA8u8 a2)), (oBox g5 24 (cA16u64 r8)), (oBox g6 24 (cA16u64 r10)), (oMapI g11 .i64 .i64 j12xm11)] []) X_ Y_) ?_
                  refine aq_next hK_ [0, 1, 2, 3, 4, 5] [] [(3, (ptr g1 0)), (4, (ptr g2 0)), (5, (ptr g3 0)), (7, (Value.bool j64b7)), (8, (ptr g5 0)), (9, (ptr g6 0)), (10, (Value.int .i64 l58i10)), (11, (Value.map (some g11))), (13, (Value.int .i64 l58i31)), (31, (Value.int .i64 l58i31)), (58, (Value.bool true)), (61, undef), (65, undef), (68, undef)] [] [⟨21, 69, Unit, fun _ => { val := undef }⟩, ⟨22, 70, Unit, fun _ => { val := undef }⟩, ⟨23, 71, Unit, fun _ => { val := (Value.bool true) }⟩] rfl rfl (by decide) rfl ⟨rfl, rfl, rfl, rfl, rfl, rfl, rfl, rfl, rfl, rfl, rfl, rfl, rfl, rfl, trivial⟩ trivial ?_
                  clear hK_ K_ F_ X_ Y_
                  refine ta_show (m := (memOf w0 Z0 [] [(oBox g1 24 (cA16u64 a0)), (oBox g2 24 (cA16u64 a1)), (oBox g3 26 (cA8u8 a2)), (oBox g5 24 (cA16u64 r8)), (oBox g6 24 (cA16u64 r10)), (oMapI g11 .i64 .i64 j12xm11)] [])) (S := (tab [(3, (ptr g1 0)), (4, (ptr g2 0)), (5, (ptr g3 0)), (7, (Value.bool j64b7)), (8, (ptr g5 0)), (9, (ptr g6 0)), (10, (Value.int .i64 l58i10)), (11, (Value.map (some g11))), (13, (Value.int .i64 l58i31)), (31, (Value.int .i64 l58i31)), (58, (Value.bool true)), (61, undef), (65, undef), (68, undef)])) ?_
                  refine ta_end [21, 22, 23] [69, 70, 71] rfl rfl (by kernel_rfl) rfl ⟨⟨_, rfl, [], rfl, by
    intro X_ Y_ F_ K_ hK_
    refine al_show (m := Mem.plus (memOf w0 Z0 [] [(oBox g1 24 (cA16u64 a0)), (oBox g2 24 (cA16u64 a1)), (oBox g3 26 (cA8u8 a2)), (oBox g5 24 (cA16u64 r8)), (oBox g6 24 (cA16u64 r10)), (oMapI g11 .i64 .i64 j12xm11)] []) X_ Y_) (S := over (tab [(3, (ptr g1 0)), (4, (ptr g2 0)), (5, (ptr g3 0)), (7, (Value.bool j64b7)), (8, (ptr g5 0)), (9, (ptr g6 0)), (10, (Value.int .i64 l58i10)), (11, (Value.map (some g11))), (13, (Value.int .i64 l58i31)), (31, (Value.int .i64 l58i31)), (58, (Value.bool true)), (61, undef), (65, undef), (68, undef)]) F_) ?_
    refine al_skip ?_
    refine al_nil ?_
    exact fr_fin hK_ ()⟩, ⟨_, rfl, [0], rfl, by
    intro _
    intro X_ Y_ F_ K_ hK_
    refine al_show (m := Mem.plus (memOf w0 Z0 [] [(oBox g1 24 (cA16u64 a0)), (oBox g2 24 (cA16u64 a1)), (oBox g3 26 (cA8u8 a2)), (oBox g5 24 (cA16u64 r8)), (oBox g6 24 (cA16u64 r10)), (oMapI g11 .i64 .i64 j12xm11)] []) X_ Y_) (S := over (put (tab [(3, (ptr g1 0)), (4, (ptr g2 0)), (5, (ptr g3 0)), (7, (Value.bool j64b7)), (8, (ptr g5 0)), (9, (ptr g6 0)), (10, (Value.int .i64 l58i10)), (11, (Value.map (some g11))), (13, (Value.int .i64 l58i31)), (31, (Value.int .i64 l58i31)), (58, (Value.bool true)), (61, undef), (65, undef), (68, undef)]) 69 undef) F_) ?_
    refine al_skip ?_
    refine al_nil ?_
    exact fr_fin hK_ ()⟩, ⟨_, rfl, [1], rfl, by
    intro _
    intro X_ Y_ F_ K_ hK_
    refine al_show (m := Mem.plus (memOf w0 Z0 [] [(oBox g1 24 (cA16u64 a0)), (oBox g2 24 (cA16u64 a1)), (oBox g3 26 (cA8u8 a2)), (oBox g5 24 (cA16u64 r8)), (oBox g6 24 (cA16u64 r10)), (oMapI g11 .i64 .i64 j12xm11)] []) X_ Y_) (S := over (put (tab [(3, (ptr g1 0)), (4, (ptr g2 0)), (5, (ptr g3 0)), (7, (Value.bool j64b7)), (8, (ptr g5 0)), (9, (ptr g6 0)), (10, (Value.int .i64 l58i10)), (11, (Value.map (some g11))), (13, (Value.int .i64 l58i31)), (31, (Value.int .i64 l58i31)), (58, (Value.bool true)), (61, undef), (65, undef), (68, undef)]) 70 undef) F_) ?_
    refine al_val (ov_pick_t rfl rfl rfl) ?_
    refine al_nil ?_
    exact fr_fin hK_ ()⟩, trivial⟩ ?_
                  intro _
                  intro _
                  intro _
                  refine aq_show (m := (memOf w0 Z0 [] [(oBox g1 24 (cA16u64 a0)), (oBox g2 24 (cA16u64 a1)), (oBox g3 26 (cA8u8 a2)), (oBox g5 24 (cA16u64 r8)), (oBox g6 24 (cA16u64 r10)), (oMapI g11 .i64 .i64 j12xm11)] [])) (S := (put (put (put (tab [(3, (ptr g1 0)), (4, (ptr g2 0)), (5, (ptr g3 0)), (7, (Value.bool j64b7)), (8, (ptr g5 0)), (9, (ptr g6 0)), (10, (Value.int .i64 l58i10)), (11, (Value.map (some g11))), (13, (Value.int .i64 l58i31)), (31, (Value.int .i64 l58i31)), (58, (Value.bool true)), (61, undef), (65, undef), (68, undef)]) 69 undef) 70 undef) 71 (Value.bool true))) ?_
                  exact aq_join true h (fun w a hm hs => norm hm hs [0, 1, 2, 3, 4, 5] [] [(3, (ptr g1 0)), (4, (ptr g2 0)), (5, (ptr g3 0)), (7, (Value.bool j64b7)), (8, (ptr g5 0)), (9, (ptr g6 0)), (10, (Value.int .i64 l58i10)), (11, (Value.map (some g11))), (13, (Value.int .i64 l58i31)), (31, (Value.int .i64 l58i31)), (71, (Value.bool true))] (by decide) ⟨rfl, rfl, rfl, rfl, rfl, rfl, rfl, rfl, rfl, rfl, rfl, trivial⟩)
                · replace h := bif_f hb85 h
                  refine aq_show (m := Mem.plus (memOf w0 Z0 [] [(oBox g1 24 (cA16u64 a0)), (oBox g2 24 (cA16u64 a1)), (oBox g3 26 (cA8u8 a2)), (oBox g5 24 (cA16u64 r8)), (oBox g6 24 (cA16u64 r10)), (oMapI g11 .i64 .i64 j12xm11)] []) X_ Y_) ?_
                  refine aq_next hK_ [0, 1, 2, 3, 4, 5] [] [(3, (ptr g1 0)), (4, (ptr g2 0)), (5, (ptr g3 0)), (7, (Value.bool j64b7)), (8, (ptr g5 0)), (9, (ptr g6 0)), (10, (Value.int .i64 l58i10)), (11, (Value.map (some g11))), (13, (Value.int .i64 l58i31)), (31, (Value.int .i64 l58i31)), (50, (Value.bool r73)), (52, (Value.bool false)), (55, (Value.bool r84))] [] [⟨8, 56, Unit, fun _ => { val := (Value.bool r84) }⟩, ⟨9, 57, Unit, fun _ => { val := (Value.bool (r73 != r84)) }⟩, ⟨10, 58, Unit, fun _ => { val := (Value.bool false) }⟩, ⟨11, 59, Unit, fun _ => { val := (ag (cA16u64 r10)) }⟩, ⟨12, 60, Unit, fun _ => { val := (Value.int .i64 l58i31) }⟩, ⟨14, 62, Unit, fun _ => { val := (ag (cA16u64 a0)) }⟩, ⟨15, 63, Unit, fun _ => { val := (Value.int .i64 l58i31) }⟩] rfl rfl (by decide) rfl ⟨rfl, rfl, rfl, rfl, rfl, rfl, rfl, rfl, rfl, rfl, rfl, rfl, rfl, trivial⟩ trivial ?_
                  clear hK_ K_ F_ X_ Y_
                  refine ta_show (m := (memOf w0 Z0 [] [(oBox g1 24 (cA16u64 a0)), (oBox g2 24 (cA16u64 a1)), (oBox g3 26 (cA8u8 a2)), (oBox g5 24 (cA16u64 r8)), (oBox g6 24 (cA16u64 r10)), (oMapI g11 .i64 .i64 j12xm11)] [])) (S := (tab [(3, (ptr g1 0)), (4, (ptr g2 0)), (5, (ptr g3 0)), (7, (Value.bool j64b7)), (8, (ptr g5 0)), (9, (ptr g6 0)), (10, (Value.int .i64 l58i10)), (11, (Value.map (some g11))), (13, (Value.int .i64 l58i31)), (31, (Value.int .i64 l58i31)), (50, (Value.bool r73)), (52, (Value.bool false)), (55, (Value.bool r84))])) ?_
                  refine ta_step 13 _ [8, 9, 10, 11, 12, 14, 15] [56, 57, 58, 59, 60, 62, 63] [8, 9, 10, 11, 12] [] [⟨8, 56, Unit, fun _ => { val := (Value.bool r84) }⟩, ⟨9, 57, Unit, fun _ => { val := (Value.bool (r73 != r84)) }⟩, ⟨10, 58, Unit, fun _ => { val := (Value.bool false) }⟩, ⟨11, 59, Unit, fun _ => { val := (ag (cA16u64 r10)) }⟩, ⟨12, 60, Unit, fun _ => { val := (Value.int .i64 l58i31) }⟩] [⟨14, 62, Unit, fun _ => { val := (ag (cA16u64 a0)) }⟩, ⟨15, 63, Unit, fun _ => { val := (Value.int .i64 l58i31) }⟩] rfl rfl rfl (by kernel_rfl) rfl rfl rfl ⟨⟨_, rfl, [], rfl, by
    intro X_ Y_ F_ K_ hK_
    refine al_show (m := Mem.plus (memOf w0 Z0 [] [(oBox g1 24 (cA16u64 a0)), (oBox g2 24 (cA16u64 a1)), (oBox g3 26 (cA8u8 a2)), (oBox g5 24 (cA16u64 r8)), (oBox g6 24 (cA16u64 r10)), (oMapI g11 .i64 .i64 j12xm11)] []) X_ Y_) (S := over (tab [(3, (ptr g1 0)), (4, (ptr g2 0)), (5, (ptr g3 0)), (7, (Value.bool j64b7)), (8, (ptr g5 0)), (9, (ptr g6 0)), (10, (Value.int .i64 l58i10)), (11, (Value.map (some g11))), (13, (Value.int .i64 l58i31)), (31, (Value.int .i64 l58i31)), (50, (Value.bool r73)), (52, (Value.bool false)), (55, (Value.bool r84))]) F_) ?_
    refine al_val (ov_pick_f rfl rfl rfl) ?_
    refine al_nil ?_
    exact fr_fin hK_ ()⟩, ⟨_, rfl, [0], rfl, by
    intro _
    intro X_ Y_ F_ K_ hK_
    refine al_show (m := Mem.plus (memOf w0 Z0 [] [(oBox g1 24 (cA16u64 a0)), (oBox g2 24 (cA16u64 a1)), (oBox g3 26 (cA8u8 a2)), (oBox g5 24 (cA16u64 r8)), (oBox g6 24 (cA16u64 r10)), (oMapI g11 .i64 .i64 j12xm11)] []) X_ Y_) (S := over (put (tab [(3, (ptr g1 0)), (4, (ptr g2 0)), (5, (ptr g3 0)), (7, (Value.bool j64b7)), (8, (ptr g5 0)), (9, (ptr g6 0)), (10, (Value.int .i64 l58i10)), (11, (Value.map (some g11))), (13, (Value.int .i64 l58i31)), (31, (Value.int .i64 l58i31)), (50, (Value.bool r73)), (52, (Value.bool false)), (55, (Value.bool r84))]) 56 (Value.bool r84)) F_) ?_
    refine al_val (ov_boolNe Try.underlying4 rfl rfl rfl) ?_
    refine al_nil ?_
    exact fr_fin hK_ ()⟩, ⟨_, rfl, [1], rfl, by
    intro _
    intro X_ Y_ F_ K_ hK_
    refine al_show (m := Mem.plus (memOf w0 Z0 [] [(oBox g1 24 (cA16u64 a0)), (oBox g2 24 (cA16u64 a1)), (oBox g3 26 (cA8u8 a2)), (oBox g5 24 (cA16u64 r8)), (oBox g6 24 (cA16u64 r10)), (oMapI g11 .i64 .i64 j12xm11)] []) X_ Y_) (S := over (put (tab [(3, (ptr g1 0)), (4, (ptr g2 0)), (5, (ptr g3 0)), (7, (Value.bool j64b7)), (8, (ptr g5 0)), (9, (ptr g6 0)), (10, (Value.int .i64 l58i10)), (11, (Value.map (some g11))), (13, (Value.int .i64 l58i31)), (31, (Value.int .i64 l58i31)), (50, (Value.bool r73)), (52, (Value.bool false)), (55, (Value.bool r84))]) 57 (Value.bool (r73 != r84))) F_) ?_
    refine al_val (ov_cast (by first | rw [hb85] | rfl) (ov_move rfl rfl)) ?_
    refine al_nil ?_
    exact fr_fin hK_ ()⟩, ⟨_, rfl, [2], rfl, by
    intro _
    intro X_ Y_ F_ K_ hK_
    refine al_show (m := Mem.plus (memOf w0 Z0 [] [(oBox g1 24 (cA16u64 a0)), (oBox g2 24 (cA16u64 a1)), (oBox g3 26 (cA8u8 a2)), (oBox g5 24 (cA16u64 r8)), (oBox g6 24 (cA16u64 r10)), (oMapI g11 .i64 .i64 j12xm11)] []) X_ Y_) (S := over (put (tab [(3, (ptr g1 0)), (4, (ptr g2 0)), (5, (ptr g3 0)), (7, (Value.bool j64b7)), (8, (ptr g5 0)), (9, (ptr g6 0)), (10, (Value.int .i64 l58i10)), (11, (Value.map (some g11))), (13, (Value.int .i64 l58i31)), (31, (Value.int .i64 l58i31)), (50, (Value.bool r73)), (52, (Value.bool false)), (55, (Value.bool r84))]) 58 (Value.bool false)) F_) ?_
    refine al_val (ov_load (i := 4) (v := (ag (cA16u64 r10))) rfl rfl Try.underlying24 sz24 rfl rfl rfl rfl) ?_
    refine al_nil ?_
    exact fr_fin hK_ ()⟩, ⟨_, rfl, [2], rfl, by
    intro _
    intro X_ Y_ F_ K_ hK_
    refine al_show (m := Mem.plus (memOf w0 Z0 [] [(oBox g1 24 (cA16u64 a0)), (oBox g2 24 (cA16u64 a1)), (oBox g3 26 (cA8u8 a2)), (oBox g5 24 (cA16u64 r8)), (oBox g6 24 (cA16u64 r10)), (oMapI g11 .i64 .i64 j12xm11)] []) X_ Y_) (S := over (put (tab [(3, (ptr g1 0)), (4, (ptr g2 0)), (5, (ptr g3 0)), (7, (Value.bool j64b7)), (8, (ptr g5 0)), (9, (ptr g6 0)), (10, (Value.int .i64 l58i10)), (11, (Value.map (some g11))), (13, (Value.int .i64 l58i31)), (31, (Value.int .i64 l58i31)), (50, (Value.bool r73)), (52, (Value.bool false)), (55, (Value.bool r84))]) 58 (Value.bool false)) F_) ?_
    refine al_val (ov_move rfl rfl) ?_
    refine al_nil ?_
    exact fr_fin hK_ ()⟩, ⟨_, rfl, [2], rfl, by
    intro _
    intro X_ Y_ F_ K_ hK_
    refine al_show (m := Mem.plus (memOf w0 Z0 [] [(oBox g1 24 (cA16u64 a0)), (oBox g2 24 (cA16u64 a1)), (oBox g3 26 (cA8u8 a2)), (oBox g5 24 (cA16u64 r8)), (oBox g6 24 (cA16u64 r10)), (oMapI g11 .i64 .i64 j12xm11)] []) X_ Y_) (S := over (put (tab [(3, (ptr g1 0)), (4, (ptr g2 0)), (5, (ptr g3 0)), (7, (Value.bool j64b7)), (8, (ptr g5 0)), (9, (ptr g6 0)), (10, (Value.int .i64 l58i10)), (11, (Value.map (some g11))), (13, (Value.int .i64 l58i31)), (31, (Value.int .i64 l58i31)), (50, (Value.bool r73)), (52, (Value.bool false)), (55, (Value.bool r84))]) 58 (Value.bool false)) F_) ?_
    refine al_val (ov_load (i := 0) (v := (ag (cA16u64 a0))) rfl rfl Try.underlying24 sz24 rfl rfl rfl rfl) ?_
    refine al_nil ?_
    exact fr_fin hK_ ()⟩, ⟨_, rfl, [2], rfl, by
    intro _
    intro X_ Y_ F_ K_ hK_
    refine al_show (m := Mem.plus (memOf w0 Z0 [] [(oBox g1 24 (cA16u64 a0)), (oBox g2 24 (cA16u64 a1)), (oBox g3 26 (cA8u8 a2)), (oBox g5 24 (cA16u64 r8)), (oBox g6 24 (cA16u64 r10)), (oMapI g11 .i64 .i64 j12xm11)] []) X_ Y_) (S := over (put (tab [(3, (ptr g1 0)), (4, (ptr g2 0)), (5, (ptr g3 0)), (7, (Value.bool j64b7)), (8, (ptr g5 0)), (9, (ptr g6 0)), (10, (Value.int .i64 l58i10)), (11, (Value.map (some g11))), (13, (Value.int .i64 l58i31)), (31, (Value.int .i64 l58i31)), (50, (Value.bool r73)), (52, (Value.bool false)), (55, (Value.bool r84))]) 58 (Value.bool false)) F_) ?_
    refine al_val (ov_move rfl rfl) ?_
    refine al_nil ?_
    exact fr_fin hK_ ()⟩, trivial⟩ ?_
                  intro _
                  intro _
                  intro _
                  intro _
                  intro _
                  intro X_ Y_ F_ K_ hK_
                  refine al_show (m := Mem.plus (memOf w0 Z0 [] [(oBox g1 24 (cA16u64 a0)), (oBox g2 24 (cA16u64 a1)), (oBox g3 26 (cA8u8 a2)), (oBox g5 24 (cA16u64 r8)), (oBox g6 24 (cA16u64 r10)), (oMapI g11 .i64 .i64 j12xm11)] []) X_ Y_) (S := over (put (put (put (put (put (tab [(3, (ptr g1 0)), (4, (ptr g2 0)), (5, (ptr g3 0)), (7, (Value.bool j64b7)), (8, (ptr g5 0)), (9, (ptr g6 0)), (10, (Value.int .i64 l58i10)), (11, (Value.map (some g11))), (13, (Value.int .i64 l58i31)), (31, (Value.int .i64 l58i31)), (50, (Value.bool r73)), (52, (Value.bool false)), (55, (Value.bool r84))]) 56 (Value.bool r84)) 57 (Value.bool (r73 != r84))) 58 (Value.bool false)) 59 (ag (cA16u64 r10))) 60 (Value.int .i64 l58i31)) F_) ?_
                  obtain ⟨r87, hc86, h⟩ := opt_some h
                  refine al_callX (vs := [(ag (cA16u64 r10)), (Value.int .i64 l58i31)]) (f_lumref_Bit_ok fu r10 l58i31 hc86) [] [] [0, 1, 2, 3, 4, 5] pre_nil rfl (by simp) (by decide) rfl (.inl rfl) rfl Try.func10 rfl rfl rfl (fun _ => ?_)
                  refine al_nil ?_
                  refine aq_show (m := Mem.plus (memOf w0 Z0 [] [(oBox g1 24 (cA16u64 a0)), (oBox g2 24 (cA16u64 a1)), (oBox g3 26 (cA8u8 a2)), (oBox g5 24 (cA16u64 r8)), (oBox g6 24 (cA16u64 r10)), (oMapI g11 .i64 .i64 j12xm11)] []) X_ Y_) ?_
                  refine aq_next hK_ [0, 1, 2, 3, 4, 5] [] [(3, (ptr g1 0)), (4, (ptr g2 0)), (5, (ptr g3 0)), (7, (Value.bool j64b7)), (8, (ptr g5 0)), (9, (ptr g6 0)), (10, (Value.int .i64 l58i10)), (11, (Value.map (some g11))), (13, (Value.int .i64 l58i31)), (31, (Value.int .i64 l58i31)), (58, (Value.bool false)), (61, (Value.bool r87))] [62, 63] [] rfl rfl (by decide) rfl ⟨rfl, rfl, rfl, rfl, rfl, rfl, rfl, rfl, rfl, rfl, rfl, rfl, trivial⟩ ⟨rfl, rfl, trivial⟩ ?_
                  clear hK_ K_ F_ X_ Y_
                  refine ta_show (m := (memOf w0 Z0 [] [(oBox g1 24 (cA16u64 a0)), (oBox g2 24 (cA16u64 a1)), (oBox g3 26 (cA8u8 a2)), (oBox g5 24 (cA16u64 r8)), (oBox g6 24 (cA16u64 r10)), (oMapI g11 .i64 .i64 j12xm11)] [])) (S := (tab [(3, (ptr g1 0)), (4, (ptr g2 0)), (5, (ptr g3 0)), (7, (Value.bool j64b7)), (8, (ptr g5 0)), (9, (ptr g6 0)), (10, (Value.int .i64 l58i10)), (11, (Value.map (some g11))), (13, (Value.int .i64 l58i31)), (31, (Value.int .i64 l58i31)), (58, (Value.bool false)), (61, (Value.bool r87))])) ?_
                  refine ta_step 16 _ [14, 15] [62, 63] [14, 15] [17, 18, 19] [⟨14, 62, Unit, fun _ => { val := (ag (cA16u64 a0)) }⟩, ⟨15, 63, Unit, fun _ => { val := (Value.int .i64 l58i31) }⟩] [] rfl rfl rfl (by kernel_rfl) rfl rfl rfl ⟨⟨_, rfl, [], rfl, by
    intro X_ Y_ F_ K_ hK_
    refine al_show (m := Mem.plus (memOf w0 Z0 [] [(oBox g1 24 (cA16u64 a0)), (oBox g2 24 (cA16u64 a1)), (oBox g3 26 (cA8u8 a2)), (oBox g5 24 (cA16u64 r8)), (oBox g6 24 (cA16u64 r10)), (oMapI g11 .i64 .i64 j12xm11)] []) X_ Y_) (S := over (tab [(3, (ptr g1 0)), (4, (ptr g2 0)), (5, (ptr g3 0)), (7, (Value.bool j64b7)), (8, (ptr g5 0)), (9, (ptr g6 0)), (10, (Value.int .i64 l58i10)), (11, (Value.map (some g11))), (13, (Value.int .i64 l58i31)), (31, (Value.int .i64 l58i31)), (58, (Value.bool false)), (61, (Value.bool r87))]) F_) ?_
    refine al_val (ov_load (i := 0) (v := (ag (cA16u64 a0))) rfl rfl Try.underlying24 sz24 rfl rfl rfl rfl) ?_
    refine al_nil ?_
    exact fr_fin hK_ ()⟩, ⟨_, rfl, [], rfl, by
    intro X_ Y_ F_ K_ hK_
    refine al_show (m := Mem.plus (memOf w0 Z0 [] [(oBox g1 24 (cA16u64 a0)), (oBox g2 24 (cA16u64 a1)), (oBox g3 26 (cA8u8 a2)), (oBox g5 24 (cA16u64 r8)), (oBox g6 24 (cA16u64 r10)), (oMapI g11 .i64 .i64 j12xm11)] []) X_ Y_) (S := over (tab [(3, (ptr g1 0)), (4, (ptr g2 0)), (5, (ptr g3 0)), (7, (Value.bool j64b7)), (8, (ptr g5 0)), (9, (ptr g6 0)), (10, (Value.int .i64 l58i10)), (11, (Value.map (some g11))), (13, (Value.int .i64 l58i31)), (31, (Value.int .i64 l58i31)), (58, (Value.bool false)), (61, (Value.bool r87))]) F_) ?_
    refine al_val (ov_move rfl rfl) ?_
    refine al_nil ?_
    exact fr_fin hK_ ()⟩, trivial⟩ ?_
                  intro _
                  intro _
                  intro X_ Y_ F_ K_ hK_
                  refine al_show (m := Mem.plus (memOf w0 Z0 [] [(oBox g1 24 (cA16u64 a0)), (oBox g2 24 (cA16u64 a1)), (oBox g3 26 (cA8u8 a2)), (oBox g5 24 (cA16u64 r8)), (oBox g6 24 (cA16u64 r10)), (oMapI g11 .i64 .i64 j12xm11)] []) X_ Y_) (S := over (put (put (tab [(3, (ptr g1 0)), (4, (ptr g2 0)), (5, (ptr g3 0)), (7, (Value.bool j64b7)), (8, (ptr g5 0)), (9, (ptr g6 0)), (10, (Value.int .i64 l58i10)), (11, (Value.map (some g11))), (13, (Value.int .i64 l58i31)), (31, (Value.int .i64 l58i31)), (58, (Value.bool false)), (61, (Value.bool r87))]) 62 (ag (cA16u64 a0))) 63 (Value.int .i64 l58i31)) F_) ?_
                  obtain ⟨r89, hc88, h⟩ := opt_some h
                  refine al_callX (vs := [(ag (cA16u64 a0)), (Value.int .i64 l58i31)]) (f_lumref_Bit_ok fu a0 l58i31 hc88) [] [] [0, 1, 2, 3, 4, 5] pre_nil rfl (by simp) (by decide) rfl (.inl rfl) rfl Try.func10 rfl rfl rfl (fun _ => ?_)
                  refine al_nil ?_
                  rcases Bool.eq_false_or_eq_true r89 with hb90 | hb90
                  · replace h := bif_t hb90 h
                    refine aq_show (m := Mem.plus (memOf w0 Z0 [] [(oBox g1 24 (cA16u64 a0)), (oBox g2 24 (cA16u64 a1)), (oBox g3 26 (cA8u8 a2)), (oBox g5 24 (cA16u64 r8)), (oBox g6 24 (cA16u64 r10)), (oMapI g11 .i64 .i64 j12xm11)] []) X_ Y_) ?_
                    refine aq_next hK_ [0, 1, 2, 3, 4, 5] [] [(3, (ptr g1 0)), (4, (ptr g2 0)), (5, (ptr g3 0)), (7, (Value.bool j64b7)), (8, (ptr g5 0)), (9, (ptr g6 0)), (10, (Value.int .i64 l58i10)), (11, (Value.map (some g11))), (13, (Value.int .i64 l58i31)), (31, (Value.int .i64 l58i31)), (58, (Value.bool false)), (61, (Value.bool r87)), (64, (Value.bool r89))] [] [⟨17, 65, Unit, fun _ => { val := (Value.bool true) }⟩, ⟨18, 66, Unit, fun _ => { val := undef }⟩, ⟨19, 67, Unit, fun _ => { val := undef }⟩] rfl rfl (by decide) rfl ⟨rfl, rfl, rfl, rfl, rfl, rfl, rfl, rfl, rfl, rfl, rfl, rfl, rfl, trivial⟩ trivial ?_
                    clear hK_ K_ F_ X_ Y_
                    refine ta_show (m := (memOf w0 Z0 [] [(oBox g1 24 (cA16u64 a0)), (oBox g2 24 (cA16u64 a1)), (oBox g3 26 (cA8u8 a2)), (oBox g5 24 (cA16u64 r8)), (oBox g6 24 (cA16u64 r10)), (oMapI g11 .i64 .i64 j12xm11)] [])) (S := (tab [(3, (ptr g1 0)), (4, (ptr g2 0)), (5, (ptr g3 0)), (7, (Value.bool j64b7)), (8, (ptr g5 0)), (9, (ptr g6 0)), (10, (Value.int .i64 l58i10)), (11, (Value.map (some g11))), (13, (Value.int .i64 l58i31)), (31, (Value.int .i64 l58i31)), (58, (Value.bool false)), (61, (Value.bool r87)), (64, (Value.bool r89))])) ?_
                    refine ta_step 20 _ [17, 18, 19] [65, 66, 67] [17, 18, 19] [21, 22, 23] [⟨17, 65, Unit, fun _ => { val := (Value.bool true) }⟩, ⟨18, 66, Unit, fun _ => { val := undef }⟩, ⟨19, 67, Unit, fun _ => { val := undef }⟩] [] rfl rfl rfl (by kernel_rfl) rfl rfl rfl ⟨⟨_, rfl, [], rfl, by
    intro X_ Y_ F_ K_ hK_
    refine al_show (m := Mem.plus (memOf w0 Z0 [] [(oBox g1 24 (cA16u64 a0)), (oBox g2 24 (cA16u64 a1)), (oBox g3 26 (cA8u8 a2)), (oBox g5 24 (cA16u64 r8)), (oBox g6 24 (cA16u64 r10)), (oMapI g11 .i64 .i64 j12xm11)] []) X_ Y_) (S := over (tab [(3, (ptr g1 0)), (4, (ptr g2 0)), (5, (ptr g3 0)), (7, (Value.bool j64b7)), (8, (ptr g5 0)), (9, (ptr g6 0)), (10, (Value.int .i64 l58i10)), (11, (Value.map (some g11))), (13, (Value.int .i64 l58i31)), (31, (Value.int .i64 l58i31)), (58, (Value.bool false)), (61, (Value.bool r87)), (64, (Value.bool r89))]) F_) ?_
    refine al_val (ov_cast (by first | rw [hb90] | rfl) (ov_move rfl rfl)) ?_
    refine al_nil ?_
    exact fr_fin hK_ ()⟩, ⟨_, rfl, [0], rfl, by
    intro _
    intro X_ Y_ F_ K_ hK_
    refine al_show (m := Mem.plus (memOf w0 Z0 [] [(oBox g1 24 (cA16u64 a0)), (oBox g2 24 (cA16u64 a1)), (oBox g3 26 (cA8u8 a2)), (oBox g5 24 (cA16u64 r8)), (oBox g6 24 (cA16u64 r10)), (oMapI g11 .i64 .i64 j12xm11)] []) X_ Y_) (S := over (put (tab [(3, (ptr g1 0)), (4, (ptr g2 0)), (5, (ptr g3 0)), (7, (Value.bool j64b7)), (8, (ptr g5 0)), (9, (ptr g6 0)), (10, (Value.int .i64 l58i10)), (11, (Value.map (some g11))), (13, (Value.int .i64 l58i31)), (31, (Value.int .i64 l58i31)), (58, (Value.bool false)), (61, (Value.bool r87)), (64, (Value.bool r89))]) 65 (Value.bool true)) F_) ?_
    refine al_skip ?_
    refine al_nil ?_
    exact fr_fin hK_ ()⟩, ⟨_, rfl, [0], rfl, by
    intro _
    intro X_ Y_ F_ K_ hK_
    refine al_show (m := Mem.plus (memOf w0 Z0 [] [(oBox g1 24 (cA16u64 a0)), (oBox g2 24 (cA16u64 a1)), (oBox g3 26 (cA8u8 a2)), (oBox g5 24 (cA16u64 r8)), (oBox g6 24 (cA16u64 r10)), (oMapI g11 .i64 .i64 j12xm11)] []) X_ Y_) (S := over (put (tab [(3, (ptr g1 0)), (4, (ptr g2 0)), (5, (ptr g3 0)), (7, (Value.bool j64b7)), (8, (ptr g5 0)), (9, (ptr g6 0)), (10, (Value.int .i64 l58i10)), (11, (Value.map (some g11))), (13, (Value.int .i64 l58i31)), (31, (Value.int .i64 l58i31)), (58, (Value.bool false)), (61, (Value.bool r87)), (64, (Value.bool r89))]) 65 (Value.bool true)) F_) ?_
    refine al_skip ?_
    refine al_nil ?_
    exact fr_fin hK_ ()⟩, trivial⟩ ?_
                    intro _
                    intro _
                    intro _
                    intro X_ Y_ F_ K_ hK_
                    refine al_show (m := Mem.plus (memOf w0 Z0 [] [(oBox g1 24 (cA16u64 a0)), (oBox g2 24 (cA16u64 a1)), (oBox g3 26 (cA8u8 a2)), (oBox g5 24 (cA16u64 r8)), (oBox g6 24 (cA16u64 r10)), (oMapI g11 .i64 .i64 j12xm11)] []) X_ Y_) (S := over (put (put (put (tab [(3, (ptr g1 0)), (4, (ptr g2 0)), (5, (ptr g3 0)), (7, (Value.bool j64b7)), (8, (ptr g5 0)), (9, (ptr g6 0)), (10, (Value.int .i64 l58i10)), (11, (Value.map (some g11))), (13, (Value.int .i64 l58i31)), (31, (Value.int .i64 l58i31)), (58, (Value.bool false)), (61, (Value.bool r87)), (64, (Value.bool r89))]) 65 (Value.bool true)) 66 undef) 67 undef) F_) ?_
                    refine al_skip ?_
                    refine al_nil ?_
                    refine aq_show (m := Mem.plus (memOf w0 Z0 [] [(oBox g1 24 (cA16u64 a0)), (oBox g2 24 (cA16u64 a1)), (oBox g3 26 (cA8u8 a2)), (oBox g5 24 (cA16u64 r8)), (oBox g6 24 (cA16u64 r10)), (oMapI g11 .i64 .i64 j12xm11)] []) X_ Y_) ?_
                    refine aq_next hK_ [0, 1, 2, 3, 4, 5] [] [(3, (ptr g1 0)), (4, (ptr g2 0)), (5, (ptr g3 0)), (7, (Value.bool j64b7)), (8, (ptr g5 0)), (9, (ptr g6 0)), (10, (Value.int .i64 l58i10)), (11, (Value.map (some g11))), (13, (Value.int .i64 l58i31)), (31, (Value.int .i64 l58i31)), (58, (Value.bool false)), (61, (Value.bool r87)), (65, (Value.bool true)), (68, undef)] [] [⟨21, 69, Unit, fun _ => { val := (Value.bool true) }⟩, ⟨22, 70, Unit, fun _ => { val := (Value.bool (r87 != true)) }⟩, ⟨23, 71, Unit, fun _ => { val := (Value.bool (r87 != true)) }⟩] rfl rfl (by decide) rfl ⟨rfl, rfl, rfl, rfl, rfl, rfl, rfl, rfl, rfl, rfl, rfl, rfl, rfl, rfl, trivial⟩ trivial ?_
                    clear hK_ K_ F_ X_ Y_
                    refine ta_show (m := (memOf w0 Z0 [] [(oBox g1 24 (cA16u64 a0)), (oBox g2 24 (cA16u64 a1)), (oBox g3 26 (cA8u8 a2)), (oBox g5 24 (cA16u64 r8)), (oBox g6 24 (cA16u64 r10)), (oMapI g11 .i64 .i64 j12xm11)] [])) (S := (tab [(3, (ptr g1 0)), (4, (ptr g2 0)), (5, (ptr g3 0)), (7, (Value.bool j64b7)), (8, (ptr g5 0)), (9, (ptr g6 0)), (10, (Value.int .i64 l58i10)), (11, (Value.map (some g11))), (13, (Value.int .i64 l58i31)), (31, (Value.int .i64 l58i31)), (58, (Value.bool false)), (61, (Value.bool r87)), (65, (Value.bool true)), (68, undef)])) ?_
                    refine ta_end [21, 22, 23] [69, 70, 71] rfl rfl (by kernel_rfl) rfl ⟨⟨_, rfl, [], rfl, by
    intro X_ Y_ F_ K_ hK_
    refine al_show (m := Mem.plus (memOf w0 Z0 [] [(oBox g1 24 (cA16u64 a0)), (oBox g2 24 (cA16u64 a1)), (oBox g3 26 (cA8u8 a2)), (oBox g5 24 (cA16u64 r8)), (oBox g6 24 (cA16u64 r10)), (oMapI g11 .i64 .i64 j12xm11)] []) X_ Y_) (S := over (tab [(3, (ptr g1 0)), (4, (ptr g2 0)), (5, (ptr g3 0)), (7, (Value.bool j64b7)), (8, (ptr g5 0)), (9, (ptr g6 0)), (10, (Value.int .i64 l58i10)), (11, (Value.map (some g11))), (13, (Value.int .i64 l58i31)), (31, (Value.int .i64 l58i31)), (58, (Value.bool false)), (61, (Value.bool r87)), (65, (Value.bool true)), (68, undef)]) F_) ?_
    refine al_val (ov_pick_t rfl rfl rfl) ?_
    refine al_nil ?_
    exact fr_fin hK_ ()⟩, ⟨_, rfl, [0], rfl, by
    intro _
    intro X_ Y_ F_ K_ hK_
    refine al_show (m := Mem.plus (memOf w0 Z0 [] [(oBox g1 24 (cA16u64 a0)), (oBox g2 24 (cA16u64 a1)), (oBox g3 26 (cA8u8 a2)), (oBox g5 24 (cA16u64 r8)), (oBox g6 24 (cA16u64 r10)), (oMapI g11 .i64 .i64 j12xm11)] []) X_ Y_) (S := over (put (tab [(3, (ptr g1 0)), (4, (ptr g2 0)), (5, (ptr g3 0)), (7, (Value.bool j64b7)), (8, (ptr g5 0)), (9, (ptr g6 0)), (10, (Value.int .i64 l58i10)), (11, (Value.map (some g11))), (13, (Value.int .i64 l58i31)), (31, (Value.int .i64 l58i31)), (58, (Value.bool false)), (61, (Value.bool r87)), (65, (Value.bool true)), (68, undef)]) 69 (Value.bool true)) F_) ?_
    refine al_val (ov_boolNe Try.underlying4 rfl rfl rfl) ?_
    refine al_nil ?_
    exact fr_fin hK_ ()⟩, ⟨_, rfl, [1], rfl, by
    intro _
    intro X_ Y_ F_ K_ hK_
    refine al_show (m := Mem.plus (memOf w0 Z0 [] [(oBox g1 24 (cA16u64 a0)), (oBox g2 24 (cA16u64 a1)), (oBox g3 26 (cA8u8 a2)), (oBox g5 24 (cA16u64 r8)), (oBox g6 24 (cA16u64 r10)), (oMapI g11 .i64 .i64 j12xm11)] []) X_ Y_) (S := over (put (tab [(3, (ptr g1 0)), (4, (ptr g2 0)), (5, (ptr g3 0)), (7, (Value.bool j64b7)), (8, (ptr g5 0)), (9, (ptr g6 0)), (10, (Value.int .i64 l58i10)), (11, (Value.map (some g11))), (13, (Value.int .i64 l58i31)), (31, (Value.int .i64 l58i31)), (58, (Value.bool false)), (61, (Value.bool r87)), (65, (Value.bool true)), (68, undef)]) 70 (Value.bool (r87 != true))) F_) ?_
    refine al_val (ov_pick_f rfl rfl rfl) ?_
    refine al_nil ?_
    exact fr_fin hK_ ()⟩, trivial⟩ ?_
                    intro _
                    intro _
                    intro _
                    refine aq_show (m := (memOf w0 Z0 [] [(oBox g1 24 (cA16u64 a0)), (oBox g2 24 (cA16u64 a1)), (oBox g3 26 (cA8u8 a2)), (oBox g5 24 (cA16u64 r8)), (oBox g6 24 (cA16u64 r10)), (oMapI g11 .i64 .i64 j12xm11)] [])) (S := (put (put (put (tab [(3, (ptr g1 0)), (4, (ptr g2 0)), (5, (ptr g3 0)), (7, (Value.bool j64b7)), (8, (ptr g5 0)), (9, (ptr g6 0)), (10, (Value.int .i64 l58i10)), (11, (Value.map (some g11))), (13, (Value.int .i64 l58i31)), (31, (Value.int .i64 l58i31)), (58, (Value.bool false)), (61, (Value.bool r87)), (65, (Value.bool true)), (68, undef)]) 69 (Value.bool true)) 70 (Value.bool (r87 != true))) 71 (Value.bool (r87 != true)))) ?_
                    exact aq_join (r87 != true) h (fun w a hm hs => norm hm hs [0, 1, 2, 3, 4, 5] [] [(3, (ptr g1 0)), (4, (ptr g2 0)), (5, (ptr g3 0)), (7, (Value.bool j64b7)), (8, (ptr g5 0)), (9, (ptr g6 0)), (10, (Value.int .i64 l58i10)), (11, (Value.map (some g11))), (13, (Value.int .i64 l58i31)), (31, (Value.int .i64 l58i31)), (71, (Value.bool (r87 != true)))] (by decide) ⟨rfl, rfl, rfl, rfl, rfl, rfl, rfl, rfl, rfl, rfl, rfl, trivial⟩)
                  · replace h := bif_f hb90 h
                    refine aq_show (m := Mem.plus (memOf w0 Z0 [] [(oBox g1 24 (cA16u64 a0)), (oBox g2 24 (cA16u64 a1)), (oBox g3 26 (cA8u8 a2)), (oBox g5 24 (cA16u64 r8)), (oBox g6 24 (cA16u64 r10)), (oMapI g11 .i64 .i64 j12xm11)] []) X_ Y_) ?_
                    refine aq_next hK_ [0, 1, 2, 3, 4, 5] [] [(3, (ptr g1 0)), (4, (ptr g2 0)), (5, (ptr g3 0)), (7, (Value.bool j64b7)), (8, (ptr g5 0)), (9, (ptr g6 0)), (10, (Value.int .i64 l58i10)), (11, (Value.map (some g11))), (13, (Value.int .i64 l58i31)), (31, (Value.int .i64 l58i31)), (58, (Value.bool false)), (61, (Value.bool r87)), (64, (Value.bool r89))] [] [⟨17, 65, Unit, fun _ => { val := (Value.bool false) }⟩, ⟨18, 66, Unit, fun _ => { val := (ag (cA16u64 a1)) }⟩, ⟨19, 67, Unit, fun _ => { val := (Value.int .i64 l58i31) }⟩] rfl rfl (by decide) rfl ⟨rfl, rfl, rfl, rfl, rfl, rfl, rfl, rfl, rfl, rfl, rfl, rfl, rfl, trivial⟩ trivial ?_
                    clear hK_ K_ F_ X_ Y_
                    refine ta_show (m := (memOf w0 Z0 [] [(oBox g1 24 (cA16u64 a0)), (oBox g2 24 (cA16u64 a1)), (oBox g3 26 (cA8u8 a2)), (oBox g5 24 (cA16u64 r8)), (oBox g6 24 (cA16u64 r10)), (oMapI g11 .i64 .i64 j12xm11)] [])) (S := (tab [(3, (ptr g1 0)), (4, (ptr g2 0)), (5, (ptr g3 0)), (7, (Value.bool j64b7)), (8, (ptr g5 0)), (9, (ptr g6 0)), (10, (Value.int .i64 l58i10)), (11, (Value.map (some g11))), (13, (Value.int .i64 l58i31)), (31, (Value.int .i64 l58i31)), (58, (Value.bool false)), (61, (Value.bool r87)), (64, (Value.bool r89))])) ?_
                    refine ta_step 20 _ [17, 18, 19] [65, 66, 67] [17, 18, 19] [21, 22, 23] [⟨17, 65, Unit, fun _ => { val := (Value.bool false) }⟩, ⟨18, 66, Unit, fun _ => { val := (ag (cA16u64 a1)) }⟩, ⟨19, 67, Unit, fun _ => { val := (Value.int .i64 l58i31) }⟩] [] rfl rfl rfl (by kernel_rfl) rfl rfl rfl ⟨⟨_, rfl, [], rfl, by
    intro X_ Y_ F_ K_ hK_
    refine al_show (m := Mem.plus (memOf w0 Z0 [] [(oBox g1 24 (cA16u64 a0)), (oBox g2 24 (cA16u64 a1)), (oBox g3 26 (cA8u8 a2)), (oBox g5 24 (cA16u64 r8)), (oBox g6 24 (cA16u64 r10)), (oMapI g11 .i64 .i64 j12xm11)] []) X_ Y_) (S := over (tab [(3, (ptr g1 0)), (4, (ptr g2 0)), (5, (ptr g3 0)), (7, (Value.bool j64b7)), (8, (ptr g5 0)), (9, (ptr g6 0)), (10, (Value.int .i64 l58i10)), (11, (Value.map (some g11))), (13, (Value.int .i64 l58i31)), (31, (Value.int .i64 l58i31)), (58, (Value.bool false)), (61, (Value.bool r87)), (64, (Value.bool r89))]) F_) ?_
    refine al_val (ov_cast (by first | rw [hb90] | rfl) (ov_move rfl rfl)) ?_
    refine al_nil ?_
    exact fr_fin hK_ ()⟩, ⟨_, rfl, [0], rfl, by
    intro _
    intro X_ Y_ F_ K_ hK_
    refine al_show (m := Mem.plus (memOf w0 Z0 [] [(oBox g1 24 (cA16u64 a0)), (oBox g2 24 (cA16u64 a1)), (oBox g3 26 (cA8u8 a2)), (oBox g5 24 (cA16u64 r8)), (oBox g6 24 (cA16u64 r10)), (oMapI g11 .i64 .i64 j12xm11)] []) X_ Y_) (S := over (put (tab [(3, (ptr g1 0)), (4, (ptr g2 0)), (5, (ptr g3 0)), (7, (Value.bool j64b7)), (8, (ptr g5 0)), (9, (ptr g6 0)), (10, (Value.int .i64 l58i10)), (11, (Value.map (some g11))), (13, (Value.int .i64 l58i31)), (31, (Value.int .i64 l58i31)), (58, (Value.bool false)), (61, (Value.bool r87)), (64, (Value.bool r89))]) 65 (Value.bool false)) F_) ?_
    refine al_val (ov_load (i := 1) (v := (ag (cA16u64 a1))) rfl rfl Try.underlying24 sz24 rfl rfl rfl rfl) ?_
    refine al_nil ?_
    exact fr_fin hK_ ()⟩, ⟨_, rfl, [0], rfl, by
    intro _
    intro X_ Y_ F_ K_ hK_
    refine al_show (m := Mem.plus (memOf w0 Z0 [] [(oBox g1 24 (cA16u64 a0)), (oBox g2 24 (cA16u64 a1)), (oBox g3 26 (cA8u8 a2)), (oBox g5 24 (cA16u64 r8)), (oBox g6 24 (cA16u64 r10)), (oMapI g11 .i64 .i64 j12xm11)] []) X_ Y_) (S := over (put (tab [(3, (ptr g1 0)), (4, (ptr g2 0)), (5, (ptr g3 0)), (7, (Value.bool j64b7)), (8, (ptr g5 0)), (9, (ptr g6 0)), (10, (Value.int .i64 l58i10)), (11, (Value.map (some g11))), (13, (Value.int .i64 l58i31)), (31, (Value.int .i64 l58i31)), (58, (Value.bool false)), (61, (Value.bool r87)), (64, (Value.bool r89))]) 65 (Value.bool false)) F_) ?_
    refine al_val (ov_move rfl rfl) ?_
    refine al_nil ?_
    exact fr_fin hK_ ()⟩, trivial⟩ ?_
                    intro _
                    intro _
                    intro _
                    intro X_ Y_ F_ K_ hK_
                    refine al_show (m := Mem.plus (memOf w0 Z0 [] [(oBox g1 24 (cA16u64 a0)), (oBox g2 24 (cA16u64 a1)), (oBox g3 26 (cA8u8 a2)), (oBox g5 24 (cA16u64 r8)), (oBox g6 24 (cA16u64 r10)), (oMapI g11 .i64 .i64 j12xm11)] []) X_ Y_) (S := over (put (put (put (tab [(3, (ptr g1 0)), (4, (ptr g2 0)), (5, (ptr g3 0)), (7, (Value.bool j64b7)), (8, (ptr g5 0)), (9, (ptr g6 0)), (10, (Value.int .i64 l58i10)), (11, (Value.map (some g11))), (13, (Value.int .i64 l58i31)), (31, (Value.int .i64 l58i31)), (58, (Value.bool false)), (61, (Value.bool r87)), (64, (Value.bool r89))]) 65 (Value.bool false)) 66 (ag (cA16u64 a1))) 67 (Value.int .i64 l58i31)) F_) ?_
                    obtain ⟨r92, hc91, h⟩ := opt_some h
                    refine al_callX (vs := [(ag (cA16u64 a1)), (Value.int .i64 l58i31)]) (f_lumref_Bit_ok fu a1 l58i31 hc91) [] [] [0, 1, 2, 3, 4, 5] pre_nil rfl (by simp) (by decide) rfl (.inl rfl) rfl Try.func10 rfl rfl rfl (fun _ => ?_)
                    refine al_nil ?_
                    refine aq_show (m := Mem.plus (memOf w0 Z0 [] [(oBox g1 24 (cA16u64 a0)), (oBox g2 24 (cA16u64 a1)), (oBox g3 26 (cA8u8 a2)), (oBox g5 24 (cA16u64 r8)), (oBox g6 24 (cA16u64 r10)), (oMapI g11 .i64 .i64 j12xm11)] []) X_ Y_) ?_
                    refine aq_next hK_ [0, 1, 2, 3, 4, 5] [] [(3, (ptr g1 0)), (4, (ptr g2 0)), (5, (ptr g3 0)), (7, (Value.bool j64b7)), (8, (ptr g5 0)), (9, (ptr g6 0)), (10, (Value.int .i64 l58i10)), (11, (Value.map (some g11))), (13, (Value.int .i64 l58i31)), (31, (Value.int .i64 l58i31)), (58, (Value.bool false)), (61, (Value.bool r87)), (65, (Value.bool false)), (68, (Value.bool r92))] [] [⟨21, 69, Unit, fun _ => { val := (Value.bool r92) }⟩, ⟨22, 70, Unit, fun _ => { val := (Value.bool (r87 != r92)) }⟩, ⟨23, 71, Unit, fun _ => { val := (Value.bool (r87 != r92)) }⟩] rfl rfl (by decide) rfl ⟨rfl, rfl, rfl, rfl, rfl, rfl, rfl, rfl, rfl, rfl, rfl, rfl, rfl, rfl, trivial⟩ trivial ?_
                    clear hK_ K_ F_ X_ Y_
                    refine ta_show (m := (memOf w0 Z0 [] [(oBox g1 24 (cA16u64 a0)), (oBox g2 24 (cA16u64 a1)), (oBox g3 26 (cA8u8 a2)), (oBox g5 24 (cA16u64 r8)), (oBox g6 24 (cA16u64 r10)), (oMapI g11 .i64 .i64 j12xm11)] [])) (S := (tab [(3, (ptr g1 0)), (4, (ptr g2 0)), (5, (ptr g3 0)), (7, (Value.bool j64b7)), (8, (ptr g5 0)), (9, (ptr g6 0)), (10, (Value.int .i64 l58i10)), (11, (Value.map (some g11))), (13, (Value.int .i64 l58i31)), (31, (Value.int .i64 l58i31)), (58, (Value.bool false)), (61, (Value.bool r87)), (65, (Value.bool false)), (68, (Value.bool r92))])) ?_
                    refine ta_end [21, 22, 23] [69, 70, 71] rfl rfl (by kernel_rfl) rfl ⟨⟨_, rfl, [], rfl, by
    intro X_ Y_ F_ K_ hK_
    refine al_show (m := Mem.plus (memOf w0 Z0 [] [(oBox g1 24 (cA16u64 a0)), (oBox g2 24 (cA16u64 a1)), (oBox g3 26 (cA8u8 a2)), (oBox g5 24 (cA16u64 r8)), (oBox g6 24 (cA16u64 r10)), (oMapI g11 .i64 .i64 j12xm11)] []) X_ Y_) (S := over (tab [(3, (ptr g1 0)), (4, (ptr g2 0)), (5, (ptr g3 0)), (7, (Value.bool j64b7)), (8, (ptr g5 0)), (9, (ptr g6 0)), (10, (Value.int .i64 l58i10)), (11, (Value.map (some g11))), (13, (Value.int .i64 l58i31)), (31, (Value.int .i64 l58i31)), (58, (Value.bool false)), (61, (Value.bool r87)), (65, (Value.bool false)), (68, (Value.bool r92))]) F_) ?_
    refine al_val (ov_pick_f rfl rfl rfl) ?_
    refine al_nil ?_
    exact fr_fin hK_ ()⟩, ⟨_, rfl, [0], rfl, by
    intro _
    intro X_ Y_ F_ K_ hK_
    refine al_show (m := Mem.plus (memOf w0 Z0 [] [(oBox g1 24 (cA16u64 a0)), (oBox g2 24 (cA16u64 a1)), (oBox g3 26 (cA8u8 a2)), (oBox g5 24 (cA16u64 r8)), (oBox g6 24 (cA16u64 r10)), (oMapI g11 .i64 .i64 j12xm11)] []) X_ Y_) (S := over (put (tab [(3, (ptr g1 0)), (4, (ptr g2 0)), (5, (ptr g3 0)), (7, (Value.bool j64b7)), (8, (ptr g5 0)), (9, (ptr g6 0)), (10, (Value.int .i64 l58i10)), (11, (Value.map (some g11))), (13, (Value.int .i64 l58i31)), (31, (Value.int .i64 l58i31)), (58, (Value.bool false)), (61, (Value.bool r87)), (65, (Value.bool false)), (68, (Value.bool r92))]) 69 (Value.bool r92)) F_) ?_
    refine al_val (ov_boolNe Try.underlying4 rfl rfl rfl) ?_
    refine al_nil ?_
    exact fr_fin hK_ ()⟩, ⟨_, rfl, [1], rfl, by
    intro _
    intro X_ Y_ F_ K_ hK_
    refine al_show (m := Mem.plus (memOf w0 Z0 [] [(oBox g1 24 (cA16u64 a0)), (oBox g2 24 (cA16u64 a1)), (oBox g3 26 (cA8u8 a2)), (oBox g5 24 (cA16u64 r8)), (oBox g6 24 (cA16u64 r10)), (oMapI g11 .i64 .i64 j12xm11)] []) X_ Y_) (S := over (put (tab [(3, (ptr g1 0)), (4, (ptr g2 0)), (5, (ptr g3 0)), (7, (Value.bool j64b7)), (8, (ptr g5 0)), (9, (ptr g6 0)), (10, (Value.int .i64 l58i10)), (11, (Value.map (some g11))), (13, (Value.int .i64 l58i31)), (31, (Value.int .i64 l58i31)), (58, (Value.bool false)), (61, (Value.bool r87)), (65, (Value.bool false)), (68, (Value.bool r92))]) 70 (Value.bool (r87 != r92))) F_) ?_
    refine al_val (ov_pick_f rfl rfl rfl) ?_
    refine al_nil ?_
    exact fr_fin hK_ ()⟩, trivial⟩ ?_
                    intro _
                    intro _
                    intro _
                    refine aq_show (m := (memOf w0 Z0 [] [(oBox g1 24 (cA16u64 a0)), (oBox g2 24 (cA16u64 a1)), (oBox g3 26 (cA8u8 a2)), (oBox g5 24 (cA16u64 r8)), (oBox g6 24 (cA16u64 r10)), (oMapI g11 .i64 .i64 j12xm11)] [])) (S := (put (put (put (tab [(3, (ptr g1 0)), (4, (ptr g2 0)), (5, (ptr g3 0)), (7, (Value.bool j64b7)), (8, (ptr g5 0)), (9, (ptr g6 0)), (10, (Value.int .i64 l58i10)), (11, (Value.map (some g11))), (13, (Value.int .i64 l58i31)), (31, (Value.int .i64 l58i31)), (58, (Value.bool false)), (61, (Value.bool r87)), (65, (Value.bool false)), (68, (Value.bool r92))]) 69 (Value.bool r92)) 70 (Value.bool (r87 != r92))) 71 (Value.bool (r87 != r92)))) ?_
                    exact aq_join (r87 != r92) h (fun w a hm hs => norm hm hs [0, 1, 2, 3, 4, 5] [] [(3, (ptr g1 0)), (4, (ptr g2 0)), (5, (ptr g3 0)), (7, (Value.bool j64b7)), (8, (ptr g5 0)), (9, (ptr g6 0)), (10, (Value.int .i64 l58i10)), (11, (Value.map (some g11))), (13, (Value.int .i64 l58i31)), (31, (Value.int .i64 l58i31)), (71, (Value.bool (r87 != r92)))] (by decide) ⟨rfl, rfl, rfl, rfl, rfl, rfl, rfl, rfl, rfl, rfl, rfl, trivial⟩)
          · clear hkk65
            refine aw_region ?_
            refine al_val (ov_move rfl rfl) ?_
            refine al_val (ov_move rfl rfl) ?_
            refine al_caseB 39 rfl (fun hb93 => ?_) (fun hb93 => ?_)
            · replace h := bif_t hb93 h
              refine al_val (ov_move rfl rfl) ?_
              refine al_val (ov_not rfl rfl) ?_
              refine al_val (ov_move rfl rfl) ?_
              refine al_caseB 42 rfl (fun hb94 => ?_) (fun hb94 => ?_)
              · replace h := bif_t hb94 h
                refine al_skip ?_
                refine al_skip ?_
                refine al_skip ?_
                refine al_val (ov_pick_t rfl rfl rfl) ?_
                refine al_val (ov_pick_t rfl rfl rfl) ?_
                refine al_val (ov_assign rfl rfl) ?_
                refine al_nil ?_
                exact aq_join true h (fun w a hm hs => norm hm hs [0, 1, 2, 3, 4, 5] [] [(3, (ptr g1 0)), (4, (ptr g2 0)), (5, (ptr g3 0)), (7, (Value.bool true)), (8, (ptr g5 0)), (9, (ptr g6 0)), (10, (Value.int .i64 l58i10)), (11, (Value.map (some g11))), (13, (Value.int .i64 l58i31)), (14, (Value.bool ((mget j12xm11 l58i31) == (1 : Int)))), (31, (Value.int .i64 l58i31))] (by decide) ⟨rfl, rfl, rfl, rfl, rfl, rfl, rfl, rfl, rfl, rfl, rfl, trivial⟩)
              · replace h := bif_f hb94 h
                refine al_val (ov_load (i := 0) (v := (ag (cA16u64 a0))) rfl rfl Try.underlying24 sz24 rfl rfl rfl rfl) ?_
                refine al_val (ov_move rfl rfl) ?_
                obtain ⟨r96, hc95, h⟩ := opt_some h
                refine al_call (vs := [(ag (cA16u64 a0)), (Value.int .i64 l58i31)]) (f_lumref_Bit_ok fu a0 l58i31 hc95) [] [] [0, 1, 2, 3, 4, 5] pre_nil rfl (by simp) (by decide) (.inl rfl) rfl Try.func10 rfl rfl rfl (fun _ => ?_)
                refine al_val (ov_pick_f rfl rfl rfl) ?_
                refine al_val (ov_pick_t rfl rfl rfl) ?_
                refine al_val (ov_assign rfl rfl) ?_
                refine al_nil ?_
                exact aq_join r96 h (fun w a hm hs => norm hm hs [0, 1, 2, 3, 4, 5] [] [(3, (ptr g1 0)), (4, (ptr g2 0)), (5, (ptr g3 0)), (7, (Value.bool r96)), (8, (ptr g5 0)), (9, (ptr g6 0)), (10, (Value.int .i64 l58i10)), (11, (Value.map (some g11))), (13, (Value.int .i64 l58i31)), (14, (Value.bool ((mget j12xm11 l58i31) == (1 : Int)))), (31, (Value.int .i64 l58i31))] (by decide) ⟨rfl, rfl, rfl, rfl, rfl, rfl, rfl, rfl, rfl, rfl, rfl, trivial⟩)
            · replace h := bif_f hb93 h
              refine al_skip ?_
              refine al_skip ?_
              refine al_skip ?_
              refine al_skip ?_
              refine al_skip ?_
              refine al_skip ?_
              refine al_skip ?_
              refine al_val (ov_pick_f rfl rfl rfl) ?_
              refine al_val (ov_assign rfl rfl) ?_
              refine al_nil ?_
              exact aq_join false h (fun w a hm hs => norm hm hs [0, 1, 2, 3, 4, 5] [] [(3, (ptr g1 0)), (4, (ptr g2 0)), (5, (ptr g3 0)), (7, (Value.bool false)), (8, (ptr g5 0)), (9, (ptr g6 0)), (10, (Value.int .i64 l58i10)), (11, (Value.map (some g11))), (13, (Value.int .i64 l58i31)), (14, (Value.bool ((mget j12xm11 l58i31) == (1 : Int)))), (31, (Value.int .i64 l58i31))] (by decide) ⟨rfl, rfl, rfl, rfl, rfl, rfl, rfl, rfl, rfl, rfl, rfl, trivial⟩)
      · replace h := bif_f hb61 h
        refine aw_exit ?_
        refine aq_then_exit ?_
        refine aq_then_exit ?_
        refine aq_block_exit ?_
        exact aq_join (l58b7, l58i10) h (fun w a hm hs => norm hm hs [0, 2] [] [(3, (ptr g1 0)), (5, (ptr g3 0)), (7, (Value.bool l58b7)), (10, (Value.int .i64 l58i10))] (by decide) ⟨rfl, rfl, rfl, rfl, trivial⟩)
  · clear hkk13
    refine aw_seq ?_
    refine aw_region ?_
    refine al_val (ov_move rfl rfl) ?_
    refine al_nil ?_
    refine aq_then ?_
    refine aw_block ?_
    refine aw_state (aw_loop (ι := (List (Int × Int)) × Int) (fun i => (memOf w0 Z0 [] [(oBox g1 24 (cA16u64 a0)), (oBox g2 24 (cA16u64 a1)), (oBox g3 26 (cA8u8 a2)), (oBox g5 24 (cA16u64 r8)), (oBox g6 24 (cA16u64 r10)), (oMapI g11 .i64 .i64 i.1)] [])) (fun i => (tab [(3, (ptr g1 0)), (4, (ptr g2 0)), (5, (ptr g3 0)), (7, (Value.bool true)), (8, (ptr g5 0)), (9, (ptr g6 0)), (10, (Value.int .i64 (0 : Int))), (11, (Value.map (some g11))), (23, (Value.int .i64 i.2))])) (fun q i => f_lumlaw_BloomSays_L99 a2 kk13 fu q i.1 i.2 = some r) ?_ fu (([] : List (Int × Int)), (0 : Int)) h) (fun w a hm hs => norm hm hs [6, 5, 4, 2, 1, 0] [] [(3, (ptr g1 0)), (4, (ptr g2 0)), (5, (ptr g3 0)), (7, (Value.bool true)), (8, (ptr g5 0)), (9, (ptr g6 0)), (10, (Value.int .i64 (0 : Int))), (11, (Value.map (some g11))), (23, (Value.int .i64 (0 : Int)))] (by decide) ⟨rfl, rfl, rfl, rfl, rfl, rfl, rfl, rfl, rfl, trivial⟩)
    clear h
    rintro k98 ⟨l97xm11, l97i23⟩ h
    have h : f_lumlaw_BloomSays_L99 a2 kk13 fu k98 l97xm11 l97i23 = some r := h
    obtain _ | k98 := k98
    · rw [f_lumlaw_BloomSays_L99] at h; cases h
    rw [f_lumlaw_BloomSays_L99] at h
    refine aw_show (m := (memOf w0 Z0 [] [(oBox g1 24 (cA16u64 a0)), (oBox g2 24 (cA16u64 a1)), (oBox g3 26 (cA8u8 a2)), (oBox g5 24 (cA16u64 r8)), (oBox g6 24 (cA16u64 r10)), (oMapI g11 .i64 .i64 l97xm11)] [])) (S := (tab [(3, (ptr g1 0)), (4, (ptr g2 0)), (5, (ptr g3 0)), (7, (Value.bool true)), (8, (ptr g5 0)), (9, (ptr g6 0)), (10, (Value.int .i64 (0 : Int))), (11, (Value.map (some g11))), (23, (Value.int .i64 l97i23))])) ?_
    refine aw_seq ?_
    refine aw_region ?_
    refine al_val (ov_int rfl rfl rfl rfl) ?_
    refine al_nil ?_
    refine aq_then ?_
    refine aw_seq ?_
    refine aw_cond rfl (fun hb100 => ?_) (fun hb100 => ?_)
    · replace h := bif_t hb100 h
      refine aw_skip ?_
      refine aq_then ?_
      refine aw_seq ?_
      refine aw_block ?_
      refine aw_seq ?_
      refine aw_region ?_
      refine al_val (ov_move rfl rfl) ?_
      refine al_val (ov_assign rfl rfl) ?_
      refine al_nil ?_
      refine aq_then ?_
      refine aw_region ?_
      refine al_val (ov_move rfl rfl) ?_
      refine al_val (ov_load (i := 2) (v := (ag (cA8u8 a2))) rfl rfl Try.underlying26 sz26 rfl rfl rfl rfl) ?_
      refine al_val (ov_move rfl rfl) ?_
      obtain ⟨r102, hc101, h⟩ := opt_some h
      refine al_call (vs := [(ag (cA8u8 a2)), (Value.int .i64 l97i23)]) (f_lumref_Mark_ok fu a2 l97i23 hc101) [] [] [0, 1, 2, 3, 4, 5] pre_nil rfl (by simp) (by decide) (.inl rfl) rfl Try.func9 rfl rfl rfl (fun _ => ?_)
      refine al_mapSetI 5 rfl rfl rfl rfl Try.underlying29 Try.underlying3 rfl ?_
      refine al_nil ?_
      refine aq_block ?_
      refine aq_then ?_
      refine aw_region ?_
      refine al_val (ov_int rfl rfl rfl rfl) ?_
      refine al_val (ov_move rfl rfl) ?_
      refine al_nil ?_
      exact aq_again k98 ((mset l97xm11 r102 (1 : Int)), (IntKind.i64.wrap (l97i23 + (1 : Int)))) (Nat.lt_succ_self _) h (fun w a hm hs => norm hm hs [0, 1, 2, 3, 4, 5] [] [(3, (ptr g1 0)), (4, (ptr g2 0)), (5, (ptr g3 0)), (7, (Value.bool true)), (8, (ptr g5 0)), (9, (ptr g6 0)), (10, (Value.int .i64 (0 : Int))), (11, (Value.map (some g11))), (23, (Value.int .i64 (IntKind.i64.wrap (l97i23 + (1 : Int)))))] (by decide) ⟨rfl, rfl, rfl, rfl, rfl, rfl, rfl, rfl, rfl, trivial⟩)
    · replace h := bif_f hb100 h
      refine aw_exit ?_
      refine aq_then_exit ?_
      refine aq_then_exit ?_
      refine aq_block_exit ?_
      exact aq_join l97xm11 h (fun w a hm hs => norm hm hs [0, 1, 2, 3, 4, 5] [] [(3, (ptr g1 0)), (4, (ptr g2 0)), (5, (ptr g3 0)), (7, (Value.bool true)), (8, (ptr g5 0)), (9, (ptr g6 0)), (10, (Value.int .i64 (0 : Int))), (11, (Value.map (some g11)))] (by decide) ⟨rfl, rfl, rfl, rfl, rfl, rfl, rfl, rfl, trivial⟩)
end Go.Proofs.Ytjbgahmcobcojaa
